/-
  THE LAW FnExactKrammerTrace, HELD FOR EVERY INPUT: whatever the arguments are (any numbers, any slices, nil or not, with or without room behind), the call of the law returns true, and each argument reads behind the call as it read before. No condition is added.
  The walk of the law is the theorem lawTrace_ok of YtdpbfdjpeofbmaaE15; here its words are put into the form of the given statement.
-/
import Derived.Test.YtdpbfdjpeofbmaaRows
import Derived.Test.YtdpbfdjpeofbmaaL11
import Derived.Test.YtdpbfdjpeofbmaaE15
namespace Go.Proofs.Ytdpbfdjpeofbmaa.fnExactKrammerTrace
open Go.ChangeShapes Go.WideShapes Go.ChangeAt Go.RowKit Go.Proofs.Ytdpbfdjpeofbmaa.L
set_option linter.unusedVariables false
set_option maxRecDepth 100000 in
theorem lifted (os : Os) (started : os.Started) (H : Type) (enc : TypeId × Value → H) :
    ReturnsInHanded {} Try.checked os 9 .any (Rows.fnExactKrammerTraceSpec.pre6 enc Try.prog Try.f9 Rows.fnExactKrammerTraceRow.domain false) (Rows.fnExactKrammerTraceSpec.post enc Try.prog Try.f9 false true false false) := by
  refine returnsInHanded_of_change_sized (C := Try.checked) ownK started (by kernel_rfl) Try.func9
    (ChangeSpec.witness6 (enc := enc) (C := Try.checked) false ⟨#[], #[.agg #[.int .i64 0, .slice none 0 0], .int .i64 0, .int .i64 0], []⟩ 8 (by kernel_rfl) (by kernel_rfl) (by kernel_rfl) (by kernel_rfl)) ?_
  intro W base args ds gs before hval0 hW hcnd hsz0 _
  have hval : ∀ (j : Nat) t v, Try.f9.params[j]? = some t → args[j]? = some v → Value.okWide Try.prog W .any base t v := hval0
  have hW' := hW
  obtain ⟨p, q, hA0, hV, rfl, hfz, hnd⟩ := hW
  have hA : DataW.TrodAll enc Try.prog W 0 (fun _ => true) true Try.f9.params.toList args.toList ds p := hA0
  rw [Try.params9] at hA hval
  obtain ⟨v0, vs0, d0, ds0, p0, q0, hargs, rfl, rfl, h0, r0⟩ := trodAll_cons hA
  obtain ⟨v1, vs1, d1, ds1, p1, q1, rfl, rfl, rfl, h1, r1⟩ := trodAll_cons r0
  obtain ⟨v2, vs2, d2, ds2, p2, q2, rfl, rfl, rfl, h2, r2⟩ := trodAll_cons r1
  obtain ⟨rfl, rfl, rfl⟩ := trodAll_nil r2
  obtain rfl : args = #[v0, v1, v2] := by cases args; simp_all
  obtain ⟨rfl, rfl⟩ := trodVars_none hV
  have k0 := h0
  have lt0 : ∀ x ∈ p0, x.block < W.heap.size := by obtain ⟨m, hm⟩ := k0; exact DataW.trod_lt m _ _ _ hm
  obtain ⟨n0, u0, xs0, rfl, ri0, hl0, hw0, hn0, hm0⟩ := open_braid (hval 0 24 v0 rfl rfl) h0
  have k1 := h1
  have lt1 : ∀ x ∈ p1, x.block < W.heap.size := by obtain ⟨m, hm⟩ := k1; exact DataW.trod_lt m _ _ _ hm
  obtain ⟨a1, rfl, rfl, rfl, wf1⟩ := open_int Try.underlying2 (hval 1 2 v1 rfl rfl) h1
  have k2 := h2
  have lt2 : ∀ x ∈ p2, x.block < W.heap.size := by obtain ⟨m, hm⟩ := k2; exact DataW.trod_lt m _ _ _ hm
  obtain ⟨a2, rfl, rfl, rfl, wf2⟩ := open_int Try.underlying2 (hval 2 2 v2 rfl rfl) h2
  clear hA0 hval0 hsz0
  refine Calls.mono (lawTrace_ok n0 u0 xs0 a1 a2 W ri0 hl0 hw0 hn0 hm0 (wf64 wf1) (wf64 wf2)) fun e W' ⟨r, he, hr, hk⟩ => ?_
  subst he hr
  have bel := hk.below
  exact ⟨_, rfl, _, _, _, [], _, [], hW', trodAll_mk1 (shut_bool Try.underlying4 _), (trodAll_cons_mk (Below.trod laidK (by kernel_rfl) (of_decide_eq_true (by kernel_rfl)) k0 bel lt0) (trodAll_cons_mk (shut_int Try.underlying2 wf1) (trodAll_cons_mk (shut_int Try.underlying2 wf2) trodAll_mk0))), rfl, bel.frame _, fun h => by cases h⟩
theorem named : Try.pinned.checked.prog.funcNamed Rows.fnExactKrammerTraceRow.func = some 9 := by kernel_rfl
theorem closed : joinedFacts Try.pinned.checked.prog 9 Try.f9 Rows.fnExactKrammerTraceSpec Rows.fnExactKrammerTraceRow = true := by kernel_rfl
theorem inst : Try.f9.isInstance Try.pinned.checked.prog Rows.fnExactKrammerTraceRow.origin Rows.fnExactKrammerTraceRow.targs := of_decide_eq_true (by kernel_rfl)
theorem wrap : Try.f9.isWrapper Try.pinned.checked.prog Rows.fnExactKrammerTraceRow.wrapper Rows.fnExactKrammerTraceRow.mainSum := by unfold Func.isWrapper; rw [if_neg (by decide +kernel)]; exact ⟨rfl, rfl⟩
theorem over : Rows.fnExactKrammerTraceRow.holds Try.pinned (OpenSpec.ofChange Rows.fnExactKrammerTraceSpec) :=
  OpenClaim.holds_of_wide 9 Try.f9 rfl rfl rfl rfl rfl rfl rfl ⟨rfl, rfl, rfl, rfl, rfl⟩ rfl rfl rfl rfl rfl named Try.func9 closed inst wrap
    (fun os started H enc _ => lifted os started H enc)
theorem proved : Rows.FnExactKrammerTraceSaid := over
end Go.Proofs.Ytdpbfdjpeofbmaa.fnExactKrammerTrace
namespace Go.Proofs.Ytdpbfdjpeofbmaa
/-- The statement, under a short name. -/
theorem fnExactKrammerTrace_holds : Rows.FnExactKrammerTraceSaid := fnExactKrammerTrace.proved
end Go.Proofs.Ytdpbfdjpeofbmaa
#print axioms Go.Proofs.Ytdpbfdjpeofbmaa.fnExactKrammerTrace_holds
