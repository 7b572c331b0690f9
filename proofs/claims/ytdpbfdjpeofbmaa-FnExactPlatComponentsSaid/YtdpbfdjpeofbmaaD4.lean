/- The law of the linking numbers. -/
import Derived.Test.YtdpbfdjpeofbmaaD3
namespace Go.Proofs.Ytdpbfdjpeofbmaa.L
set_option linter.unusedVariables false
set_option maxRecDepth 100000

theorem linkR_ok (n : Int) (xs : List Int) : (linkR n xs).1.length ≤ 28 ∧ ∀ ys ∈ (linkR n xs).1, ys.length ≤ 28 := by
  unfold linkR
  split
  · exact ⟨by simp, fun ys h => by simp at h⟩
  · rename_i h
    have hBr := pureF_br (Decidable.not_not.1 h)
    have h1 := hBr.1
    have hsq := crsF_ok (n := n.toNat) (ls := xs) (by rw [Int.toNat_of_nonneg (by omega)]; exact hBr.2.2) xs.length (Nat.le_refl _)
    refine ⟨by simp [hlv, hsq.1]; omega, fun ys hy => ?_⟩
    simp only [hlv, List.mem_map] at hy
    obtain ⟨zs, hz, rfl⟩ := hy
    obtain ⟨i, hi, rfl⟩ := List.mem_iff_getElem.1 hz
    have := hsq.2.1 i (by omega) (by have := hsq.1; omega)
    unfold rr at this
    rw [Int.toNat_natCast, List.getD_eq_getElem?_getD, List.getElem?_eq_getElem hi] at this
    simp only [Option.getD_some] at this
    rw [List.length_map, this]
    omega
set_option maxHeartbeats 4000000 in
theorem markBraid_ok (n : Int) (v : Value) (xs : List Int) (k : Int) (w : World) (hO : OI w v xs) (hl : xs.length ≤ 1048576) (hk0 : 0 ≤ k ∧ k ≤ 4398046511104) :
    CallsR Try.prog 28 #[.agg #[.int .i64 n, v], .int .i64 k] w fun r w' => r = .int .i64 (k + xs.length) ∧ Kp (fun b => v.ownBlock = some b) w w' ∧ OI w' v (upTo k xs.length) := by
  refine fn_calls Try.func28 rfl rfl rfl ?_
  refine W_seq ?_
  refine W_reg ?_
  refine T_go rfl rfl (st_box rfl fun w1 b1 hk1 hb1 hB1 => ?_)
  refine T_pu rfl rfl (pu_assign rfl) ?_
  refine T_nil ?_
  refine W_seq ?_
  refine W_reg ?_
  refine T_pu rfl rfl (pu_fld (off := 1) Try.underlying28 rfl rfl ty22 rfl rfl) ?_
  refine T_pi rfl rfl (pi_load Try.underlying22 rfl rfl (fun w' h => by obtain rfl := h; exact (by first | exact hB1.cell rfl))) ?_
  refine T_pu rfl rfl (pu_move rfl) ?_
  refine T_go rfl rfl (st_call fn84 rfl ((markInt64S_ok _ xs k _ (hO.keep hk1 (fun _ _ h => h)) hl hk0).mono ?_))
  rintro v w2 ⟨rfl, hk2, hO2⟩
  refine T_pu rfl rfl (pu_assign rfl) ?_
  refine T_nil ?_
  refine W_seq ?_
  refine W_reg ?_
  refine T_pu rfl rfl (pu_move rfl) ?_
  refine T_pu rfl rfl (pu_assign rfl) ?_
  refine T_nil ?_
  refine W_ret ?_
  exact Res_1 rfl rfl ⟨rfl, hk1.of_no.trans hk2 (fun _ _ h => h), hO2⟩
set_option maxHeartbeats 8000000 in
theorem lawLinkings_ok (n : Int) (v : Value) (xs : List Int) (w : World) (hv : RI w v xs) (hl : xs.length ≤ 9223372036854775807) (hw : ∀ x ∈ xs, -9223372036854775808 ≤ x ∧ x ≤ 9223372036854775807) (hn : -9223372036854775808 ≤ n) (hn2 : n ≤ 9223372036854775807) :
    CallsR Try.prog 5 #[.agg #[.int .i64 n, v]] w fun r w' => r = .bool true ∧ Kp no w w' := by
  obtain ⟨A, c, rfl, hc⟩ := hv.open
  have hs := St.start w
  obtain ⟨hR1, hR2⟩ := linkR_ok n xs
  have hsI := fun (v : Value) (w : World) (hv : RI w v xs) => specLinkings_ok n v xs w hv hl hw
  have hiI := fun (v : Value) (w : World) (hv : RI w v xs) => implLinkings_ok n v xs w hv hl
  generalize hRe : (linkR n xs).1 = R at hR1 hR2 hsI hiI
  have hR1' : R.length ≤ 9223372036854775807 := by omega
  have hR2' : ∀ xs ∈ R, xs.length ≤ 9223372036854775807 := fun xs h => by have := hR2 xs h; omega
  have hR2'' : ∀ xs ∈ R, xs.length ≤ 1048576 := fun xs h => by have := hR2 xs h; omega
  refine fn_calls Try.func5 rfl rfl rfl ?_
  refine W_seq ?_
  refine W_reg ?_
  refine T_go rfl rfl (st_boxS hs rfl fun w1 b1 hk1 hb1 hs => ?_)
  refine T_pu rfl rfl (pu_assign rfl) ?_
  refine T_nil ?_
  refine W_seq ?_
  refine W_reg ?_
  refine T_pu rfl rfl (pu_assign rfl) ?_
  refine T_nil ?_
  refine W_seq ?_
  refine W_reg ?_
  refine T_pi rfl rfl (pi_loadAgg Try.underlying24 rfl ty24 rfl (fun w' h => by obtain rfl := h; exact (by first | exact (hs.bk 0 rfl).cells)) (by first | rfl | (simp; done) | (rw [nums_length]; assumption) | assumption)) ?_
  refine T_pu rfl rfl (pu_move rfl) ?_
  refine T_go rfl rfl (st_call fn16 rfl ((szBraid_ok n _ xs 1048576 _ (hv.keep hs.kp) hl (by omega)).mono ?_))
  rintro v w2 ⟨rfl, hk2⟩
  have hs := hs.next hk2
  refine T_pu rfl rfl (pu_assign rfl) ?_
  refine T_nil ?_
  refine W_seq ?_
  refine W_seq ?_
  refine W_reg ?_
  refine T_pu rfl rfl (pu_move rfl) ?_
  refine T_pu rfl rfl (pu_lss rfl rfl) ?_
  refine T_nil ?_
  refine W_if rfl (fun hc3 => ?_) (fun hc3 => ?_)
  · refine W_seq ?_
    refine W_reg ?_
    refine T_pu rfl rfl (pu_assign rfl) ?_
    refine T_nil ?_
    refine W_ret ?_
    exact Res_1 rfl rfl ⟨rfl, hs.kp⟩
  · refine W_skip ?_
    refine W_seq ?_
    have hl' : xs.length ≤ 1048576 := by split at hc3 <;> omega
    refine W_reg ?_
    refine T_pi rfl rfl (pi_loadAgg Try.underlying24 rfl ty24 rfl (fun w' h => by obtain rfl := h; exact (by first | exact (hs.bk 0 rfl).cells)) (by first | rfl | (simp; done) | (rw [nums_length]; assumption) | assumption)) ?_
    refine T_go rfl rfl (st_call fn18 rfl ((toBraid_ok n _ xs _ (hv.keep hs.kp) hl').mono ?_))
    rintro v w3 ⟨u, rfl, hnB⟩
    have hs := hs.newI hnB
    refine T_go rfl rfl (st_call fn26 rfl ((hsI _ _ (hs.oi 0 rfl).ri).mono ?_))
    rintro v w4 ⟨u4, rfl, hds4, hM4, hk4, hf4⟩
    have hs := (hs.newM hM4 hk4 hf4).drop 1
    refine T_pu rfl rfl (pu_move rfl) ?_
    refine T_pu rfl rfl (pu_extract rfl rfl) ?_
    refine T_pu rfl rfl (pu_extract rfl rfl) ?_
    refine T_pu rfl rfl (pu_assign rfl) ?_
    refine T_pu rfl rfl (pu_assign rfl) ?_
    refine T_nil ?_
    refine W_seq ?_
    refine W_reg ?_
    refine T_pi rfl rfl (pi_loadAgg Try.underlying24 rfl ty24 rfl (fun w' h => by obtain rfl := h; exact (by first | exact (hs.bk 1 rfl).cells)) (by first | rfl | (simp; done) | (rw [nums_length]; assumption) | assumption)) ?_
    refine T_go rfl rfl (st_call fn18 rfl ((toBraid_ok n _ xs _ (hv.keep hs.kp) hl').mono ?_))
    rintro v w5 ⟨u2, rfl, hnB2⟩
    obtain ⟨A2, c2, rfl, _⟩ := hnB2.1.ri.open
    have hs := hs.newI hnB2
    refine T_go rfl rfl (st_allocS hs ty28 fun w6 b6 hk6 hb6 hs => ?_)
    refine T_goN rfl (st_storeBs hs 0 rfl ty28 rfl rfl rfl (by simp [Value.cells, Value.oneCell']) (by first | exact Nat.le_of_ble_eq_true rfl | omega | (simp; done) | (simp; omega)) fun w7 hk7 hs => ?_)
    refine T_nil ?_
    refine W_seq ?_
    refine W_reg ?_
    refine T_pi rfl rfl (pi_loadAgg Try.underlying28 rfl ty28 rfl (fun w' h => by obtain rfl := h; exact (by first | exact (hs.bk 0 rfl).cells)) (by first | rfl | (simp; done) | (rw [nums_length]; assumption) | assumption)) ?_
    refine T_go rfl rfl (st_call fn27 rfl ((hiI _ _ (hs.oi 1 rfl).ri).mono ?_))
    rintro v w8 ⟨u8, rfl, hds8, hM8, hk8, hf8⟩
    have hs := hs.newM hM8 hk8 hf8
    refine T_pu rfl rfl (pu_move rfl) ?_
    refine T_pu rfl rfl (pu_extract rfl rfl) ?_
    refine T_pu rfl rfl (pu_extract rfl rfl) ?_
    refine T_pu rfl rfl (pu_assign rfl) ?_
    refine T_pu rfl rfl (pu_assign rfl) ?_
    refine T_nil ?_
    refine W_seq ?_
    refine W_seq ?_
    refine W_reg ?_
    refine T_pu rfl rfl (pu_move rfl) ?_
    refine T_pu rfl rfl (pu_move rfl) ?_
    refine T_go rfl rfl (st_call fn25 rfl ((eqInt64SS_ok _ _ R R _ (hs.mat 0 rfl).rm (hs.mat 3 rfl).rm hR1' hR1' hR2' hR2').mono ?_))
    rintro v w9 ⟨rfl, hk9⟩
    have hs := hs.next hk9
    refine T_pu rfl rfl (pu_notp rfl) ?_
    refine T_if rfl rfl (pu_move rfl) (fun hg8_4 => ?_) (fun hg8_4 => ?_)
    · refine T_no rfl rfl ?_
      refine T_no rfl rfl ?_
      refine T_no rfl rfl ?_
      refine T_pu rfl rfl (pu_pick_t rfl rfl) ?_
      refine T_nil ?_
      refine W_true rfl ?_
      refine W_seq ?_
      refine W_reg ?_
      refine T_pu rfl rfl (pu_assign rfl) ?_
      refine T_nil ?_
      refine W_ret ?_
      exfalso; simp_all
    · refine T_pu rfl rfl (pu_move rfl) ?_
      refine T_pu rfl rfl (pu_move rfl) ?_
      refine T_pu rfl rfl (pu_neq rfl rfl) ?_
      refine T_pu rfl rfl (pu_pick_f rfl rfl) ?_
      refine T_nil ?_
      refine W_if rfl (fun hc8 => ?_) (fun hc8 => ?_)
      · refine W_seq ?_
        refine W_reg ?_
        refine T_pu rfl rfl (pu_assign rfl) ?_
        refine T_nil ?_
        refine W_ret ?_
        exfalso; simp_all
      · refine W_skip ?_
        refine W_seq ?_
        refine W_seq ?_
        refine W_draw mixed 1000 IK (fun w10 hk10 => ?_)
        have hs := hs.next hk10
        refine D_pu 0 (by kernel_rfl) rfl (by kernel_rfl) (by kernel_rfl) rfl rfl (by kernel_rfl) (pi_loadAgg Try.underlying28 rfl ty28 rfl (fun w' h => by obtain ⟨_, h⟩ := h; exact h.cells (by first | exact (hs.bk 1 rfl).cells | exact (hs.bk 4 rfl).cells) id) (by first | rfl | (simp; done) | (rw [nums_length]; assumption) | assumption)) ?_
        refine D_pu 1 (by kernel_rfl) rfl (by kernel_rfl) (by kernel_rfl) rfl rfl (by kernel_rfl) (pi_loadAgg Try.underlying24 rfl ty24 rfl (fun w' h => by obtain ⟨_, h⟩ := h; exact h.cells (by first | exact (hs.bk 1 rfl).cells | exact (hs.bk 4 rfl).cells) id) (by first | rfl | (simp; done) | (rw [nums_length]; assumption) | assumption)) ?_
        refine D_go 2 (by kernel_rfl) (by first | rfl | (intro _; rfl) | (intro h; exact absurd (show true = false from h) (by decide)) | exact Kp.refl _ _ | assumption) rfl rfl rfl (st_call fn18 rfl ((toBraid_ok n _ xs _ (hv.keep hs.kp) hl').mono ?_))
        rintro v w11 ⟨u11, rfl, hnB3⟩
        have hkA : Kp no w10 w11 := hnB3.2.1
        have hs := hs.newI hnB3
        refine D_go 3 (by kernel_rfl) (by first | rfl | (intro _; rfl) | (intro h; exact absurd (show true = false from h) (by decide)) | exact Kp.refl _ _ | assumption) rfl rfl rfl (st_call fn20 rfl ((eqBraid_ok n n _ _ xs xs _ (hs.oi 3 rfl).ri (hs.oi 0 rfl).ri hl hl).mono ?_))
        rintro v w12 ⟨rfl, hk12⟩
        have hkB : Kp no w10 w12 := hkA.next hk12
        have hs := (hs.next hk12).tail
        refine D_pu 4 (by kernel_rfl) rfl (by kernel_rfl) (by kernel_rfl) rfl rfl (by kernel_rfl) (Pu.stable (pu_notp rfl)) ?_
        refine D_done (by kernel_rfl) (by first | rfl | (intro _; rfl) | (intro h; exact absurd (show true = false from h) (by decide)) | exact Kp.refl _ _ | assumption) ?_
        refine W_if rfl (fun hc10 => ?_) (fun hc10 => ?_)
        · refine W_seq ?_
          refine W_reg ?_
          refine T_pu rfl rfl (pu_assign rfl) ?_
          refine T_nil ?_
          refine W_ret ?_
          exfalso; simp_all
        · refine W_skip ?_
          refine W_seq ?_
          refine W_reg ?_
          refine T_pu rfl rfl (pu_assign rfl) ?_
          refine T_nil ?_
          refine W_seq ?_
          refine W_reg ?_
          refine T_pi rfl rfl (pi_loadAgg Try.underlying28 rfl ty28 rfl (fun w' h => by obtain rfl := h; exact (by first | exact (hs.bk 1 rfl).cells)) (by first | rfl | (simp; done) | (rw [nums_length]; assumption) | assumption)) ?_
          refine T_pu rfl rfl (pu_move rfl) ?_
          refine T_go rfl rfl (st_call fn28 rfl ((markBraid_ok n _ xs 1 _ (hs.oi 2 rfl) hl' (by omega)).mono ?_))
          rintro v w13 ⟨rfl, hk13, hO13⟩
          have hs := hs.upd 2 rfl hk13 (aOI _ _) hO13 (fun b h => .inl (by simpa [aOI, aOw] using h))
          refine T_pu rfl rfl (pu_assign rfl) ?_
          refine T_nil ?_
          refine W_seq ?_
          refine W_seq ?_
          refine W_reg ?_
          refine T_pu rfl rfl (pu_move rfl) ?_
          refine T_pu rfl rfl (pu_lss rfl rfl) ?_
          refine T_if rfl rfl (pu_move rfl) (fun hg14_2 => ?_) (fun hg14_2 => ?_)
          · refine T_no rfl rfl ?_
            refine T_no rfl rfl ?_
            refine T_no rfl rfl ?_
            refine T_no rfl rfl ?_
            refine T_pu rfl rfl (pu_pick_t rfl rfl) ?_
            refine T_pu rfl rfl (pu_move rfl) ?_
            refine T_no rfl rfl ?_
            refine T_no rfl rfl ?_
            refine T_no rfl rfl ?_
            refine T_pu rfl rfl (pu_pick_t rfl rfl) ?_
            refine T_nil ?_
            refine W_true rfl ?_
            refine W_seq ?_
            refine W_reg ?_
            refine T_pu rfl rfl (pu_assign rfl) ?_
            refine T_nil ?_
            refine W_ret ?_
            exfalso; first | omega | simp_all
          · refine T_pu rfl rfl (pu_move rfl) ?_
            refine T_pu rfl rfl (pu_move rfl) ?_
            refine T_go rfl rfl (st_call fn25 rfl ((eqInt64SS_ok _ _ R R _ (hs.mat 0 rfl).rm (hs.mat 3 rfl).rm hR1' hR1' hR2' hR2').mono ?_))
            rintro v w14 ⟨rfl, hk14⟩
            have hs := hs.next hk14
            refine T_pu rfl rfl (pu_notp rfl) ?_
            refine T_pu rfl rfl (pu_pick_f rfl rfl) ?_
            refine T_if rfl rfl (pu_move rfl) (fun hg14_8 => ?_) (fun hg14_8 => ?_)
            · refine T_no rfl rfl ?_
              refine T_no rfl rfl ?_
              refine T_no rfl rfl ?_
              refine T_pu rfl rfl (pu_pick_t rfl rfl) ?_
              refine T_nil ?_
              refine W_true rfl ?_
              refine W_seq ?_
              refine W_reg ?_
              refine T_pu rfl rfl (pu_assign rfl) ?_
              refine T_nil ?_
              refine W_ret ?_
              exfalso; first | omega | simp_all
            · refine T_pu rfl rfl (pu_move rfl) ?_
              refine T_pu rfl rfl (pu_move rfl) ?_
              refine T_pu rfl rfl (pu_neq rfl rfl) ?_
              refine T_pu rfl rfl (pu_pick_f rfl rfl) ?_
              refine T_nil ?_
              refine W_if rfl (fun hc14 => ?_) (fun hc14 => ?_)
              · refine W_seq ?_
                refine W_reg ?_
                refine T_pu rfl rfl (pu_assign rfl) ?_
                refine T_nil ?_
                refine W_ret ?_
                exfalso; first | omega | simp_all
              · refine W_skip ?_
                refine W_seq ?_
                refine W_reg ?_
                refine T_pu rfl rfl (pu_assign rfl) ?_
                refine T_nil ?_
                refine W_seq ?_
                refine W_reg ?_
                refine T_pu rfl rfl (pu_move rfl) ?_
                refine T_pu rfl rfl (pu_move rfl) ?_
                refine T_go rfl rfl (st_call fn29 rfl ((markInt64SS_ok _ _ R 1 _ (hs.mat 0 rfl) (by omega) hR2'' (by omega)).mono ?_))
                rintro v w15 ⟨rfl, hk15, hM15⟩
                have hs := hs.upd 0 rfl hk15 (aMat _ _ _) hM15 (fun b h => .inl h)
                have ht2 := totM_nonneg R
                refine T_pu rfl rfl (pu_assign rfl) ?_
                refine T_nil ?_
                refine W_seq ?_
                refine W_reg ?_
                refine T_pu rfl rfl (pu_assign rfl) ?_
                refine T_nil ?_
                refine W_seq ?_
                refine W_reg ?_
                refine T_pu rfl rfl (pu_move rfl) ?_
                refine T_pu rfl rfl (pu_move rfl) ?_
                refine T_go rfl rfl (st_call fn30 rfl ((heldInt64SS_ok _ R 1 _ (hs.mat 0 rfl).rm (by omega) hR2'' (by omega)).mono ?_))
                rintro v w16 ⟨rfl, rfl⟩
                refine T_pu rfl rfl (pu_assign rfl) ?_
                refine T_nil ?_
                refine W_seq ?_
                refine W_seq ?_
                refine W_reg ?_
                refine T_pu rfl rfl (pu_move rfl) ?_
                refine T_pu rfl rfl (pu_lss rfl rfl) ?_
                refine T_nil ?_
                refine W_if rfl (fun hc20 => ?_) (fun hc20 => ?_)
                · refine W_seq ?_
                  refine W_reg ?_
                  refine T_pu rfl rfl (pu_assign rfl) ?_
                  refine T_nil ?_
                  refine W_ret ?_
                  exfalso; omega
                · refine W_skip ?_
                  refine W_seq ?_
                  refine W_seq ?_
                  refine W_reg ?_
                  refine T_pu rfl rfl (pu_move rfl) ?_
                  refine T_pu rfl rfl (pu_move rfl) ?_
                  refine T_pu rfl rfl (pu_neq rfl rfl) ?_
                  refine T_nil ?_
                  refine W_if rfl (fun hc22 => ?_) (fun hc22 => ?_)
                  · refine W_seq ?_
                    refine W_reg ?_
                    refine T_pu rfl rfl (pu_assign rfl) ?_
                    refine T_nil ?_
                    refine W_ret ?_
                    exfalso; exact hc22 rfl
                  · refine W_skip ?_
                    refine W_seq ?_
                    refine W_reg ?_
                    refine T_pi rfl rfl (pi_loadAgg Try.underlying24 rfl ty24 rfl (fun w' h => by obtain rfl := h; exact (by first | exact (hs.bk 4 rfl).cells)) (by first | rfl | (simp; done) | (rw [nums_length]; assumption) | assumption)) ?_
                    refine T_go rfl rfl (st_call fn18 rfl ((toBraid_ok n _ xs _ (hv.keep hs.kp) hl').mono ?_))
                    rintro v w17 ⟨u17, rfl, hnB4⟩
                    have hs := hs.newI hnB4
                    refine T_go rfl rfl (st_call fn27 rfl ((hiI _ _ (hs.oi 0 rfl).ri).mono ?_))
                    rintro v w18 ⟨u18, rfl, hds18, hM18, hk18, hf18⟩
                    have hs := hs.newM hM18 hk18 hf18
                    refine T_pu rfl rfl (pu_move rfl) ?_
                    refine T_pu rfl rfl (pu_extract rfl rfl) ?_
                    refine T_pu rfl rfl (pu_extract rfl rfl) ?_
                    refine T_pu rfl rfl (pu_assign rfl) ?_
                    refine T_pu rfl rfl (pu_assign rfl) ?_
                    refine T_nil ?_
                    refine W_seq ?_
                    refine W_seq ?_
                    refine W_reg ?_
                    refine T_pu rfl rfl (pu_move rfl) ?_
                    refine T_pu rfl rfl (pu_move rfl) ?_
                    refine T_go rfl rfl (st_call fn25 rfl ((eqInt64SS_ok _ _ R R _ (hs.mat 0 rfl).rm (hs.mat 5 rfl).rm hR1' hR1' hR2' hR2').mono ?_))
                    rintro v w19 ⟨rfl, hk19⟩
                    have hs := hs.next hk19
                    refine T_pu rfl rfl (pu_notp rfl) ?_
                    refine T_if rfl rfl (pu_move rfl) (fun hg25_4 => ?_) (fun hg25_4 => ?_)
                    · refine T_no rfl rfl ?_
                      refine T_no rfl rfl ?_
                      refine T_no rfl rfl ?_
                      refine T_pu rfl rfl (pu_pick_t rfl rfl) ?_
                      refine T_nil ?_
                      refine W_true rfl ?_
                      refine W_seq ?_
                      refine W_reg ?_
                      refine T_pu rfl rfl (pu_assign rfl) ?_
                      refine T_nil ?_
                      refine W_ret ?_
                      exfalso; simp_all
                    · refine T_pu rfl rfl (pu_move rfl) ?_
                      refine T_pu rfl rfl (pu_move rfl) ?_
                      refine T_pu rfl rfl (pu_neq rfl rfl) ?_
                      refine T_pu rfl rfl (pu_pick_f rfl rfl) ?_
                      refine T_nil ?_
                      refine W_if rfl (fun hc25 => ?_) (fun hc25 => ?_)
                      · refine W_seq ?_
                        refine W_reg ?_
                        refine T_pu rfl rfl (pu_assign rfl) ?_
                        refine T_nil ?_
                        refine W_ret ?_
                        exfalso; simp_all
                      · refine W_skip ?_
                        refine W_seq ?_
                        refine W_reg ?_
                        refine T_pu rfl rfl (pu_assign rfl) ?_
                        refine T_nil ?_
                        refine W_seq ?_
                        refine W_reg ?_
                        refine T_pu rfl rfl (pu_move rfl) ?_
                        refine T_pu rfl rfl (pu_move rfl) ?_
                        refine T_go rfl rfl (st_call fn30 rfl ((heldInt64SS_ok _ R 1 _ (hs.mat 2 rfl).rm (by omega) hR2'' (by omega)).mono ?_))
                        rintro v w20 ⟨rfl, rfl⟩
                        refine T_pu rfl rfl (pu_assign rfl) ?_
                        refine T_nil ?_
                        refine W_seq ?_
                        refine W_seq ?_
                        refine W_reg ?_
                        refine T_pu rfl rfl (pu_move rfl) ?_
                        refine T_pu rfl rfl (pu_lss rfl rfl) ?_
                        refine T_nil ?_
                        refine W_if rfl (fun hc29 => ?_) (fun hc29 => ?_)
                        · refine W_seq ?_
                          refine W_reg ?_
                          refine T_pu rfl rfl (pu_assign rfl) ?_
                          refine T_nil ?_
                          refine W_ret ?_
                          exfalso; omega
                        · refine W_skip ?_
                          refine W_seq ?_
                          refine W_seq ?_
                          refine W_reg ?_
                          refine T_pu rfl rfl (pu_move rfl) ?_
                          refine T_pu rfl rfl (pu_move rfl) ?_
                          refine T_pu rfl rfl (pu_neq rfl rfl) ?_
                          refine T_nil ?_
                          refine W_if rfl (fun hc31 => ?_) (fun hc31 => ?_)
                          · refine W_seq ?_
                            refine W_reg ?_
                            refine T_pu rfl rfl (pu_assign rfl) ?_
                            refine T_nil ?_
                            refine W_ret ?_
                            exfalso; exact hc31 rfl
                          · refine W_skip ?_
                            refine W_seq ?_
                            refine W_reg ?_
                            refine T_pu rfl rfl (pu_assign rfl) ?_
                            refine T_nil ?_
                            refine W_ret ?_
                            exact Res_1 rfl rfl ⟨rfl, hs.kp⟩
end Go.Proofs.Ytdpbfdjpeofbmaa.L
