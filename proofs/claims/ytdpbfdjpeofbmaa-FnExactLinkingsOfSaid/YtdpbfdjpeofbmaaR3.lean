/-
  THE LAW FnExactLinkingsOf, HELD FOR EVERY INPUT: whatever the arguments are (any numbers, any slices, nil or not, with or without room behind), the call of the law returns true, and each argument reads behind the call as it read before. No condition is added.
  The walk of the law is the theorem lawLinkings_ok of YtdpbfdjpeofbmaaD4; here its words are put into the form of the given statement.
-/
import Derived.Test.YtdpbfdjpeofbmaaRows
import Derived.Test.YtdpbfdjpeofbmaaL11
import Derived.Test.YtdpbfdjpeofbmaaD4
namespace Go.Proofs.Ytdpbfdjpeofbmaa.fnExactLinkingsOf
open Go.ChangeShapes Go.WideShapes Go.ChangeAt Go.RowKit Go.Proofs.Ytdpbfdjpeofbmaa.L
set_option linter.unusedVariables false
set_option maxRecDepth 100000 in
theorem lifted (os : Os) (started : os.Started) (H : Type) (enc : TypeId × Value → H) :
    ReturnsInHanded {} Try.checked os 5 .any (Rows.fnExactLinkingsOfSpec.pre6 enc Try.prog Try.f5 Rows.fnExactLinkingsOfRow.domain false) (Rows.fnExactLinkingsOfSpec.post enc Try.prog Try.f5 false true false false) := by
  refine returnsInHanded_of_change_sized (C := Try.checked) ownK started (by kernel_rfl) Try.func5
    (ChangeSpec.witness6 (enc := enc) (C := Try.checked) false ⟨#[], #[.agg #[.int .i64 0, .slice none 0 0]], []⟩ 8 (by kernel_rfl) (by kernel_rfl) (by kernel_rfl) (by kernel_rfl)) ?_
  intro W base args ds gs before hval0 hW hcnd hsz0 _
  have hval : ∀ (j : Nat) t v, Try.f5.params[j]? = some t → args[j]? = some v → Value.okWide Try.prog W .any base t v := hval0
  have hW' := hW
  obtain ⟨p, q, hA0, hV, rfl, hfz, hnd⟩ := hW
  have hA : DataW.TrodAll enc Try.prog W 0 (fun _ => true) true Try.f5.params.toList args.toList ds p := hA0
  rw [Try.params5] at hA hval
  obtain ⟨v0, vs0, d0, ds0, p0, q0, hargs, rfl, rfl, h0, r0⟩ := trodAll_cons hA
  obtain ⟨rfl, rfl, rfl⟩ := trodAll_nil r0
  obtain rfl : args = #[v0] := by cases args; simp_all
  obtain ⟨rfl, rfl⟩ := trodVars_none hV
  have k0 := h0
  have lt0 : ∀ x ∈ p0, x.block < W.heap.size := by obtain ⟨m, hm⟩ := k0; exact DataW.trod_lt m _ _ _ hm
  obtain ⟨n0, u0, xs0, rfl, ri0, hl0, hw0, hn0, hm0⟩ := open_braid (hval 0 24 v0 rfl rfl) h0
  clear hA0 hval0 hsz0
  refine Calls.mono (lawLinkings_ok n0 u0 xs0 W ri0 hl0 hw0 hn0 hm0) fun e W' ⟨r, he, hr, hk⟩ => ?_
  subst he hr
  have bel := hk.below
  exact ⟨_, rfl, _, _, _, [], _, [], hW', trodAll_mk1 (shut_bool Try.underlying4 _), (trodAll_cons_mk (Below.trod laidK (by kernel_rfl) (of_decide_eq_true (by kernel_rfl)) k0 bel lt0) trodAll_mk0), rfl, bel.frame _, fun h => by cases h⟩
theorem named : Try.pinned.checked.prog.funcNamed Rows.fnExactLinkingsOfRow.func = some 5 := by kernel_rfl
theorem closed : joinedFacts Try.pinned.checked.prog 5 Try.f5 Rows.fnExactLinkingsOfSpec Rows.fnExactLinkingsOfRow = true := by kernel_rfl
theorem inst : Try.f5.isInstance Try.pinned.checked.prog Rows.fnExactLinkingsOfRow.origin Rows.fnExactLinkingsOfRow.targs := of_decide_eq_true (by kernel_rfl)
theorem wrap : Try.f5.isWrapper Try.pinned.checked.prog Rows.fnExactLinkingsOfRow.wrapper Rows.fnExactLinkingsOfRow.mainSum := by unfold Func.isWrapper; rw [if_neg (by decide +kernel)]; exact ⟨rfl, rfl⟩
theorem over : Rows.fnExactLinkingsOfRow.holds Try.pinned (OpenSpec.ofChange Rows.fnExactLinkingsOfSpec) :=
  OpenClaim.holds_of_wide 5 Try.f5 rfl rfl rfl rfl rfl rfl rfl ⟨rfl, rfl, rfl, rfl, rfl⟩ rfl rfl rfl rfl rfl named Try.func5 closed inst wrap
    (fun os started H enc _ => lifted os started H enc)
theorem proved : Rows.FnExactLinkingsOfSaid := over
end Go.Proofs.Ytdpbfdjpeofbmaa.fnExactLinkingsOf
namespace Go.Proofs.Ytdpbfdjpeofbmaa
/-- The statement, under a short name. -/
theorem fnExactLinkingsOf_holds : Rows.FnExactLinkingsOfSaid := fnExactLinkingsOf.proved
end Go.Proofs.Ytdpbfdjpeofbmaa
#print axioms Go.Proofs.Ytdpbfdjpeofbmaa.fnExactLinkingsOf_holds
