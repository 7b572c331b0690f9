/- The law of the colourings counted. -/
import Derived.Test.YtdpbfdjpeofbmaaA5
namespace Go.Proofs.Ytdpbfdjpeofbmaa.L
set_option linter.unusedVariables false
set_option maxRecDepth 100000

set_option maxHeartbeats 8000000 in
theorem lawCount_ok (n : Int) (v : Value) (xs : List Int) (p : Int) (w : World) (hv : RI w v xs) (hl : xs.length ≤ 9223372036854775807) (hw : ∀ x ∈ xs, -9223372036854775808 ≤ x ∧ x ≤ 9223372036854775807) (hn : -9223372036854775808 ≤ n) (hn2 : n ≤ 9223372036854775807) (hp : -9223372036854775808 ≤ p ∧ p ≤ 9223372036854775807) :
    CallsR Try.prog 3 #[.agg #[.int .i64 n, v], .int .i64 p] w fun r w' => r = .bool true ∧ Kp no w w' := by
  obtain ⟨A, c, rfl, hc⟩ := hv.open
  have hs := St.start w
  refine fn_calls Try.func3 rfl rfl rfl ?_
  refine W_seq ?_
  refine W_reg ?_
  refine T_go rfl rfl (st_boxS hs rfl fun w1 b1 hk1 hb1 hs => ?_)
  refine T_pu rfl rfl (pu_assign rfl) ?_
  refine T_nil ?_
  refine W_seq ?_
  refine W_reg ?_
  refine T_pu rfl rfl (pu_assign rfl) ?_
  refine T_nil ?_
  refine W_seq ?_
  refine W_reg ?_
  refine T_pi rfl rfl (pi_loadAgg Try.underlying24 rfl ty24 rfl (fun w' h => by obtain rfl := h; exact (by first | exact (hs.bk 0 rfl).cells)) (by first | rfl | (simp; done))) ?_
  refine T_pu rfl rfl (pu_move rfl) ?_
  refine T_go rfl rfl (st_call fn16 rfl ((szBraid_ok n _ xs 1048576 w1 (hv.keep hs.kp) hl (by omega)).mono ?_))
  rintro v w2 ⟨rfl, hk2⟩
  have hs := hs.next hk2
  refine T_pu rfl rfl (pu_assign rfl) ?_
  refine T_nil ?_
  refine W_seq ?_
  refine W_seq ?_
  refine W_reg ?_
  refine T_pu rfl rfl (pu_move rfl) ?_
  refine T_pu rfl rfl (pu_lss rfl rfl) ?_
  refine T_nil ?_
  refine W_if rfl (fun hc3 => ?_) (fun hc3 => ?_)
  · refine W_seq ?_
    refine W_reg ?_
    refine T_pu rfl rfl (pu_assign rfl) ?_
    refine T_nil ?_
    refine W_ret ?_
    exact Res_1 rfl rfl ⟨rfl, hs.kp⟩
  · refine W_skip ?_
    refine W_seq ?_
    have hl' : xs.length ≤ 1048576 := by split at hc3 <;> omega
    refine W_reg ?_
    refine T_pi rfl rfl (pi_loadAgg Try.underlying24 rfl ty24 rfl (fun w' h => by obtain rfl := h; exact (by first | exact (hs.bk 0 rfl).cells)) (by first | rfl | (simp; done))) ?_
    refine T_go rfl rfl (st_call fn18 rfl ((toBraid_ok n _ xs w2 (hv.keep hs.kp) hl').mono ?_))
    rintro v w3 ⟨u, rfl, hn⟩
    have hs := hs.newI hn
    refine T_pu rfl rfl (pu_move rfl) ?_
    refine T_go rfl rfl (st_call fn17 rfl ((specCount_ok n _ xs p w3 (hs.oi 0 rfl).ri hl' hw).mono ?_))
    rintro v w4 ⟨rfl, hk4⟩
    have hs := hs.next hk4
    refine T_pu rfl rfl (pu_move rfl) ?_
    refine T_pu rfl rfl (pu_extract rfl rfl) ?_
    refine T_pu rfl rfl (pu_extract rfl rfl) ?_
    refine T_pu rfl rfl (pu_assign rfl) ?_
    refine T_pu rfl rfl (pu_assign rfl) ?_
    refine T_nil ?_
    refine W_seq ?_
    refine W_reg ?_
    refine T_pi rfl rfl (pi_loadAgg Try.underlying24 rfl ty24 rfl (fun w' h => by obtain rfl := h; exact (by first | exact (hs.bk 1 rfl).cells)) (by first | rfl | (simp; done))) ?_
    refine T_go rfl rfl (st_call fn18 rfl ((toBraid_ok n _ xs w4 (hv.keep hs.kp) hl').mono ?_))
    rintro v w5 ⟨u2, rfl, hn⟩
    obtain ⟨A2, c2, rfl, _⟩ := hn.1.ri.open
    have hs := hs.newI hn
    refine T_go rfl rfl (st_allocS hs ty28 fun w6 b6 hk6 hb6 hs => ?_)
    refine T_goN rfl (st_storeBs hs 0 rfl ty28 rfl rfl rfl (by simp [Value.cells, Value.oneCell']) (by first | exact Nat.le_of_ble_eq_true rfl | omega | (simp; done) | (simp; omega)) fun w7 hk7 hs => ?_)
    refine T_nil ?_
    refine W_seq ?_
    refine W_reg ?_
    refine T_pi rfl rfl (pi_loadAgg Try.underlying28 rfl ty28 rfl (fun w' h => by obtain rfl := h; exact (by first | exact (hs.bk 0 rfl).cells)) (by first | rfl | (simp; done))) ?_
    refine T_pu rfl rfl (pu_move rfl) ?_
    refine T_go rfl rfl (st_call fn19 rfl ((implCount_ok n _ xs p w7 (hs.oi 1 rfl).ri hl' hw).mono ?_))
    rintro v w8 ⟨rfl, hk8⟩
    have hs := hs.next hk8
    refine T_pu rfl rfl (pu_move rfl) ?_
    refine T_pu rfl rfl (pu_extract rfl rfl) ?_
    refine T_pu rfl rfl (pu_extract rfl rfl) ?_
    refine T_pu rfl rfl (pu_assign rfl) ?_
    refine T_pu rfl rfl (pu_assign rfl) ?_
    refine T_nil ?_
    refine W_seq ?_
    refine W_seq ?_
    refine W_reg ?_
    refine T_pu rfl rfl (pu_move rfl) ?_
    refine T_pu rfl rfl (pu_move rfl) ?_
    refine T_pu rfl rfl (pu_neq rfl rfl) ?_
    refine T_if rfl rfl (pu_move rfl) (fun hg8_3 => ?_) (fun hg8_3 => ?_)
    · refine T_no rfl rfl ?_
      refine T_no rfl rfl ?_
      refine T_no rfl rfl ?_
      refine T_pu rfl rfl (pu_pick_t rfl rfl) ?_
      refine T_nil ?_
      refine W_true rfl ?_
      refine W_seq ?_
      refine W_reg ?_
      refine T_pu rfl rfl (pu_assign rfl) ?_
      refine T_nil ?_
      refine W_ret ?_
      exfalso; simp_all
    · refine T_pu rfl rfl (pu_move rfl) ?_
      refine T_pu rfl rfl (pu_move rfl) ?_
      refine T_pu rfl rfl (pu_neq rfl rfl) ?_
      refine T_pu rfl rfl (pu_pick_f rfl rfl) ?_
      refine T_nil ?_
      refine W_if rfl (fun hc8 => ?_) (fun hc8 => ?_)
      · refine W_seq ?_
        refine W_reg ?_
        refine T_pu rfl rfl (pu_assign rfl) ?_
        refine T_nil ?_
        refine W_ret ?_
        exfalso; simp_all
      · refine W_skip ?_
        refine W_seq ?_
        refine W_seq ?_
        refine W_draw mixed 1000 IK (fun w9 hk9 => ?_)
        have hs := hs.next hk9
        refine D_pu 0 (by kernel_rfl) rfl (by kernel_rfl) (by kernel_rfl) rfl rfl (by kernel_rfl) (pi_loadAgg Try.underlying28 rfl ty28 rfl (fun w' h => by obtain ⟨_, h⟩ := h; exact h.cells (by first | exact (hs.bk 0 rfl).cells | exact (hs.bk 3 rfl).cells) id) (by first | rfl | (simp; done))) ?_
        refine D_pu 1 (by kernel_rfl) rfl (by kernel_rfl) (by kernel_rfl) rfl rfl (by kernel_rfl) (pi_loadAgg Try.underlying24 rfl ty24 rfl (fun w' h => by obtain ⟨_, h⟩ := h; exact h.cells (by first | exact (hs.bk 0 rfl).cells | exact (hs.bk 3 rfl).cells) id) (by first | rfl | (simp; done))) ?_
        refine D_go 2 (by kernel_rfl) (by first | rfl | (intro _; rfl) | (intro h; exact absurd (show true = false from h) (by decide)) | exact Kp.refl _ _ | assumption) rfl rfl rfl (st_call fn18 rfl ((toBraid_ok n _ xs _ (hv.keep hs.kp) hl').mono ?_))
        rintro v w10 ⟨u3, rfl, hn⟩
        have hkA : Kp no w9 w10 := hn.2.1
        have hs := hs.newI hn
        refine D_go 3 (by kernel_rfl) (by first | rfl | (intro _; rfl) | (intro h; exact absurd (show true = false from h) (by decide)) | exact Kp.refl _ _ | assumption) rfl rfl rfl (st_call fn20 rfl ((eqBraid_ok n n _ _ xs xs w10 (hs.oi 2 rfl).ri (hs.oi 0 rfl).ri hl hl).mono ?_))
        rintro v w11 ⟨rfl, hk11⟩
        have hkB : Kp no w9 w11 := hkA.next hk11
        have hs := hs.next hk11
        refine D_pu 4 (by kernel_rfl) rfl (by kernel_rfl) (by kernel_rfl) rfl rfl (by kernel_rfl) (Pu.stable (pu_notp rfl)) ?_
        refine D_done (by kernel_rfl) (by first | rfl | (intro _; rfl) | (intro h; exact absurd (show true = false from h) (by decide)) | exact Kp.refl _ _ | assumption) ?_
        refine W_if rfl (fun hc10 => ?_) (fun hc10 => ?_)
        · refine W_seq ?_
          refine W_reg ?_
          refine T_pu rfl rfl (pu_assign rfl) ?_
          refine T_nil ?_
          refine W_ret ?_
          exfalso; simp_all
        · refine W_skip ?_
          refine W_seq ?_
          refine W_reg ?_
          refine T_pu rfl rfl (pu_assign rfl) ?_
          refine T_nil ?_
          refine W_ret ?_
          exact Res_1 rfl rfl ⟨rfl, hs.kp⟩
end Go.Proofs.Ytdpbfdjpeofbmaa.L
