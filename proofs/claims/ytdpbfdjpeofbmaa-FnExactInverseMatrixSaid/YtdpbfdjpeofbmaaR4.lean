/-
  THE LAW FnExactInverseMatrix, HELD FOR EVERY INPUT: whatever the arguments are (any numbers, any slices, nil or not, with or without room behind), the call of the law returns true, and each argument reads behind the call as it read before. No condition is added.
  The walk of the law is the theorem lawInv_ok of YtdpbfdjpeofbmaaC5; here its words are put into the form of the given statement.
-/
import Derived.Test.YtdpbfdjpeofbmaaRows
import Derived.Test.YtdpbfdjpeofbmaaL11
import Derived.Test.YtdpbfdjpeofbmaaC5
namespace Go.Proofs.Ytdpbfdjpeofbmaa.fnExactInverseMatrix
open Go.ChangeShapes Go.WideShapes Go.ChangeAt Go.RowKit Go.Proofs.Ytdpbfdjpeofbmaa.L
set_option linter.unusedVariables false
set_option maxRecDepth 100000 in
theorem lifted (os : Os) (started : os.Started) (H : Type) (enc : TypeId × Value → H) :
    ReturnsInHanded {} Try.checked os 6 .any (Rows.fnExactInverseMatrixSpec.pre6 enc Try.prog Try.f6 Rows.fnExactInverseMatrixRow.domain false) (Rows.fnExactInverseMatrixSpec.post enc Try.prog Try.f6 false true false false) := by
  refine returnsInHanded_of_change_sized (C := Try.checked) ownK started (by kernel_rfl) Try.func6
    (ChangeSpec.witness6 (enc := enc) (C := Try.checked) false ⟨#[], #[.slice none 0 0], []⟩ 8 (by kernel_rfl) (by kernel_rfl) (by kernel_rfl) (by kernel_rfl)) ?_
  intro W base args ds gs before hval0 hW hcnd hsz0 _
  have hval : ∀ (j : Nat) t v, Try.f6.params[j]? = some t → args[j]? = some v → Value.okWide Try.prog W .any base t v := hval0
  have hW' := hW
  obtain ⟨p, q, hA0, hV, rfl, hfz, hnd⟩ := hW
  have hA : DataW.TrodAll enc Try.prog W 0 (fun _ => true) true Try.f6.params.toList args.toList ds p := hA0
  rw [Try.params6] at hA hval
  obtain ⟨v0, vs0, d0, ds0, p0, q0, hargs, rfl, rfl, h0, r0⟩ := trodAll_cons hA
  obtain ⟨rfl, rfl, rfl⟩ := trodAll_nil r0
  obtain rfl : args = #[v0] := by cases args; simp_all
  obtain ⟨rfl, rfl⟩ := trodVars_none hV
  have k0 := h0
  have lt0 : ∀ x ∈ p0, x.block < W.heap.size := by obtain ⟨m, hm⟩ := k0; exact DataW.trod_lt m _ _ _ hm
  obtain ⟨xss0, rm0, hl0, hw0⟩ := open_rows (hval 0 32 v0 rfl rfl) h0
  clear hA0 hval0 hsz0
  refine Calls.mono (lawInv_ok v0 xss0 W rm0 hl0 hw0) fun e W' ⟨r, he, hr, hk⟩ => ?_
  subst he hr
  have bel := hk.below
  exact ⟨_, rfl, _, _, _, [], _, [], hW', trodAll_mk1 (shut_bool Try.underlying4 _), (trodAll_cons_mk (Below.trod laidK (by kernel_rfl) (of_decide_eq_true (by kernel_rfl)) k0 bel lt0) trodAll_mk0), rfl, bel.frame _, fun h => by cases h⟩
theorem named : Try.pinned.checked.prog.funcNamed Rows.fnExactInverseMatrixRow.func = some 6 := by kernel_rfl
theorem closed : joinedFacts Try.pinned.checked.prog 6 Try.f6 Rows.fnExactInverseMatrixSpec Rows.fnExactInverseMatrixRow = true := by kernel_rfl
theorem inst : Try.f6.isInstance Try.pinned.checked.prog Rows.fnExactInverseMatrixRow.origin Rows.fnExactInverseMatrixRow.targs := of_decide_eq_true (by kernel_rfl)
theorem wrap : Try.f6.isWrapper Try.pinned.checked.prog Rows.fnExactInverseMatrixRow.wrapper Rows.fnExactInverseMatrixRow.mainSum := by unfold Func.isWrapper; rw [if_neg (by decide +kernel)]; exact ⟨rfl, rfl⟩
theorem over : Rows.fnExactInverseMatrixRow.holds Try.pinned (OpenSpec.ofChange Rows.fnExactInverseMatrixSpec) :=
  OpenClaim.holds_of_wide 6 Try.f6 rfl rfl rfl rfl rfl rfl rfl ⟨rfl, rfl, rfl, rfl, rfl⟩ rfl rfl rfl rfl rfl named Try.func6 closed inst wrap
    (fun os started H enc _ => lifted os started H enc)
theorem proved : Rows.FnExactInverseMatrixSaid := over
end Go.Proofs.Ytdpbfdjpeofbmaa.fnExactInverseMatrix
namespace Go.Proofs.Ytdpbfdjpeofbmaa
/-- The statement, under a short name. -/
theorem fnExactInverseMatrix_holds : Rows.FnExactInverseMatrixSaid := fnExactInverseMatrix.proved
end Go.Proofs.Ytdpbfdjpeofbmaa
#print axioms Go.Proofs.Ytdpbfdjpeofbmaa.fnExactInverseMatrix_holds
