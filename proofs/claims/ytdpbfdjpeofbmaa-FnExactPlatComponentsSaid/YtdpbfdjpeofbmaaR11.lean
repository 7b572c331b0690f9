/-
  THE LAW FnExactPlatComponents, HELD FOR EVERY INPUT: whatever the arguments are (any numbers, any slices, nil or not, with or without room behind), the call of the law returns true, and each argument reads behind the call as it read before. No condition is added.
  The walk of the law is the theorem lawPlat_ok of YtdpbfdjpeofbmaaF4; here its words are put into the form of the given statement.
-/
import Derived.Test.YtdpbfdjpeofbmaaRows
import Derived.Test.YtdpbfdjpeofbmaaL11
import Derived.Test.YtdpbfdjpeofbmaaF4
namespace Go.Proofs.Ytdpbfdjpeofbmaa.fnExactPlatComponents
open Go.ChangeShapes Go.WideShapes Go.ChangeAt Go.RowKit Go.Proofs.Ytdpbfdjpeofbmaa.L
set_option linter.unusedVariables false
set_option maxRecDepth 100000 in
theorem lifted (os : Os) (started : os.Started) (H : Type) (enc : TypeId × Value → H) :
    ReturnsInHanded {} Try.checked os 13 .any (Rows.fnExactPlatComponentsSpec.pre6 enc Try.prog Try.f13 Rows.fnExactPlatComponentsRow.domain false) (Rows.fnExactPlatComponentsSpec.post enc Try.prog Try.f13 false true false false) := by
  refine returnsInHanded_of_change_sized (C := Try.checked) ownK started (by kernel_rfl) Try.func13
    (ChangeSpec.witness6 (enc := enc) (C := Try.checked) false ⟨#[], #[.agg #[.int .i64 0, .slice none 0 0]], []⟩ 8 (by kernel_rfl) (by kernel_rfl) (by kernel_rfl) (by kernel_rfl)) ?_
  intro W base args ds gs before hval0 hW hcnd hsz0 _
  have hval : ∀ (j : Nat) t v, Try.f13.params[j]? = some t → args[j]? = some v → Value.okWide Try.prog W .any base t v := hval0
  have hW' := hW
  obtain ⟨p, q, hA0, hV, rfl, hfz, hnd⟩ := hW
  have hA : DataW.TrodAll enc Try.prog W 0 (fun _ => true) true Try.f13.params.toList args.toList ds p := hA0
  rw [Try.params13] at hA hval
  obtain ⟨v0, vs0, d0, ds0, p0, q0, hargs, rfl, rfl, h0, r0⟩ := trodAll_cons hA
  obtain ⟨rfl, rfl, rfl⟩ := trodAll_nil r0
  obtain rfl : args = #[v0] := by cases args; simp_all
  obtain ⟨rfl, rfl⟩ := trodVars_none hV
  have k0 := h0
  have lt0 : ∀ x ∈ p0, x.block < W.heap.size := by obtain ⟨m, hm⟩ := k0; exact DataW.trod_lt m _ _ _ hm
  obtain ⟨n0, u0, xs0, rfl, ri0, hl0, hw0, hn0, hm0⟩ := open_braid (hval 0 24 v0 rfl rfl) h0
  clear hA0 hval0 hsz0
  refine Calls.mono (lawPlat_ok n0 u0 xs0 W ri0 hl0 hw0 hn0 hm0) fun e W' ⟨r, he, hr, hk⟩ => ?_
  subst he hr
  have bel := hk.below
  exact ⟨_, rfl, _, _, _, [], _, [], hW', trodAll_mk1 (shut_bool Try.underlying4 _), (trodAll_cons_mk (Below.trod laidK (by kernel_rfl) (of_decide_eq_true (by kernel_rfl)) k0 bel lt0) trodAll_mk0), rfl, bel.frame _, fun h => by cases h⟩
theorem named : Try.pinned.checked.prog.funcNamed Rows.fnExactPlatComponentsRow.func = some 13 := by kernel_rfl
theorem closed : joinedFacts Try.pinned.checked.prog 13 Try.f13 Rows.fnExactPlatComponentsSpec Rows.fnExactPlatComponentsRow = true := by kernel_rfl
theorem inst : Try.f13.isInstance Try.pinned.checked.prog Rows.fnExactPlatComponentsRow.origin Rows.fnExactPlatComponentsRow.targs := of_decide_eq_true (by kernel_rfl)
theorem wrap : Try.f13.isWrapper Try.pinned.checked.prog Rows.fnExactPlatComponentsRow.wrapper Rows.fnExactPlatComponentsRow.mainSum := by unfold Func.isWrapper; rw [if_neg (by decide +kernel)]; exact ⟨rfl, rfl⟩
theorem over : Rows.fnExactPlatComponentsRow.holds Try.pinned (OpenSpec.ofChange Rows.fnExactPlatComponentsSpec) :=
  OpenClaim.holds_of_wide 13 Try.f13 rfl rfl rfl rfl rfl rfl rfl ⟨rfl, rfl, rfl, rfl, rfl⟩ rfl rfl rfl rfl rfl named Try.func13 closed inst wrap
    (fun os started H enc _ => lifted os started H enc)
theorem proved : Rows.FnExactPlatComponentsSaid := over
end Go.Proofs.Ytdpbfdjpeofbmaa.fnExactPlatComponents
namespace Go.Proofs.Ytdpbfdjpeofbmaa
/-- The statement, under a short name. -/
theorem fnExactPlatComponents_holds : Rows.FnExactPlatComponentsSaid := fnExactPlatComponents.proved
end Go.Proofs.Ytdpbfdjpeofbmaa
#print axioms Go.Proofs.Ytdpbfdjpeofbmaa.fnExactPlatComponents_holds
