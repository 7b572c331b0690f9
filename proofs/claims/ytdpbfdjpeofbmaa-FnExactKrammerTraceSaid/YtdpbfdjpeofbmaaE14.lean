/- Krammer's matrices, the law KrammerMatrix. -/
import Derived.Test.YtdpbfdjpeofbmaaE13
namespace Go.Proofs.Ytdpbfdjpeofbmaa.L
set_option linter.unusedVariables false
set_option maxRecDepth 100000

def krR (n : Int) (xs : List Int) (q t : Int) : List (List Int) × Int := if ¬ Br n xs then ([], 1) else if n < 2 ∨ ¬ (1 ≤ q ∧ q ≤ 10006) ∨ ¬ (1 ≤ t ∧ t ≤ 10006) then ([], 2) else (prodF (nPr n.toNat) (krL n.toNat q t) xs xs.length, 0)
theorem krR_ok (n : Int) (xs : List Int) (q t : Int) : (krR n xs q t).1.length ≤ 28 ∧ ∀ ys ∈ (krR n xs q t).1, ys.length ≤ 28 := by
  unfold krR
  split
  · exact ⟨by simp, fun ys h => by simp at h⟩
  · split
    · exact ⟨by simp, fun ys h => by simp at h⟩
    · rename_i h h2
      have hBr := Decidable.not_not.1 h
      have h1 := hBr.1
      have hN := nPr_le (n := n.toNat) (by omega)
      have hN1 : 1 ≤ nPr n.toNat := by have := (pr_at (n := n.toNat) (i := 1) (j := 2) (by omega) (by omega) (by omega) (by omega)).2; omega
      have hF := prodF_fq (d := nPr n.toNat) (LM := krL n.toNat q t) (ls := xs) xs.length
      have hFm := hF.fm hN1 hN
      have hl := hF.1
      refine ⟨by show (prodF _ _ _ _).length ≤ 28; omega, fun ys hy => ?_⟩
      have := (hFm.2.2 ys hy).1
      omega
set_option maxHeartbeats 4000000 in
theorem krClosure_ok (n : Nat) (hn : 2 ≤ n ∧ n ≤ 8) (k q t : Int) (hk : 1 ≤ k) (hk2 : k ≤ n - 1) (hq : 1 ≤ q ∧ q ≤ 10006) (ht : 1 ≤ t ∧ t ≤ 10006) (bn bq bt : Nat) (w : World) (h1 : Bk w bn 2 [.int .i64 n]) (h2 : Bk w bq 2 [.int .i64 q]) (h3 : Bk w bt 2 [.int .i64 t]) :
    CallsR Try.prog 105 #[.int .i64 k, .pointer (some ⟨bn, 0, none⟩), .pointer (some ⟨bq, 0, none⟩), .pointer (some ⟨bt, 0, none⟩)] w fun r w' => NewM w w' r (krL n q t k) := by
  obtain ⟨k, rfl⟩ : ∃ j : Nat, k = j := ⟨k.toNat, by omega⟩
  have hc := fun w => krammerLetter_ok n hn k (by omega) q t hq ht w
  unfold krL
  rw [Int.toNat_natCast]
  refine fn_calls Try.func105 rfl rfl rfl ?_
  refine W_seq ?_
  refine W_reg ?_
  refine T_pu rfl rfl (pu_assign rfl) ?_
  refine T_nil ?_
  refine W_seq ?_
  refine W_reg ?_
  refine T_pi rfl rfl (pi_load Try.underlying2 rfl rfl (fun w' h => by obtain rfl := h; exact (by first | exact h1.cell rfl | exact h2.cell rfl | exact h3.cell rfl))) ?_
  refine T_pu rfl rfl (pu_move rfl) ?_
  refine T_pi rfl rfl (pi_load Try.underlying2 rfl rfl (fun w' h => by obtain rfl := h; exact (by first | exact h1.cell rfl | exact h2.cell rfl | exact h3.cell rfl))) ?_
  refine T_pi rfl rfl (pi_load Try.underlying2 rfl rfl (fun w' h => by obtain rfl := h; exact (by first | exact h1.cell rfl | exact h2.cell rfl | exact h3.cell rfl))) ?_
  refine T_go rfl rfl (st_call fn106 rfl ((hc _).mono ?_))
  rintro u1 w1 hn1
  refine T_pu rfl rfl (pu_assign rfl) ?_
  refine T_nil ?_
  refine W_ret ?_
  exact Res_1 rfl rfl hn1
set_option maxHeartbeats 4000000 in
theorem implKrammer_ok (n : Int) (v : Value) (xs : List Int) (q t : Int) (w : World) (hv : RI w v xs) (hl : xs.length ≤ 9223372036854775807) (hq : -9223372036854775808 ≤ q ∧ q ≤ 9223372036854775807) (ht : -9223372036854775808 ≤ t ∧ t ≤ 9223372036854775807) :
    CallsR Try.prog 52 #[.agg #[.int .i64 n, v], .int .i64 q, .int .i64 t] w fun r w' => ∃ u, r = .tuple #[u, .int .i64 (krR n xs q t).2] ∧ NewM w w' u (krR n xs q t).1 := by
  obtain ⟨A, c, rfl, hc⟩ := hv.open
  have hs := St.start w
  refine fn_calls Try.func52 rfl rfl rfl ?_
  refine W_seq ?_
  refine W_reg ?_
  refine T_go rfl rfl (st_boxS hs rfl fun w1 b1 hk1 hb1 hs => ?_)
  refine T_go rfl rfl (st_boxS hs rfl fun w2 b2 hk2 hb2 hs => ?_)
  refine T_go rfl rfl (st_boxS hs rfl fun w3 b3 hk3 hb3 hs => ?_)
  refine T_pu rfl rfl (pu_assign rfl) ?_
  refine T_pu rfl rfl (pu_assign rfl) ?_
  refine T_nil ?_
  refine W_seq ?_
  refine W_block ?_
  refine W_seq ?_
  refine W_reg ?_
  refine T_pi rfl rfl (pi_loadAgg Try.underlying28 rfl ty28 rfl (fun w' h => by obtain rfl := h; exact (by first | exact (hs.bk 2 rfl).cells)) (by first | rfl | (simp; done) | (rw [nums_length]; assumption) | assumption)) ?_
  refine T_go rfl rfl (st_call fn72 rfl ((IsBraid_ok n _ xs _ (hv.keep hs.kp) hl).mono ?_))
  rintro v w4 ⟨rfl, hk4⟩
  have hs := hs.next hk4
  refine T_pu rfl rfl (pu_notp rfl) ?_
  refine T_pu rfl rfl (pu_assign rfl) ?_
  refine T_nil ?_
  refine W_if rfl (fun hc1 => ?_) (fun hc1 => ?_)
  · refine W_seq ?_
    refine W_reg ?_
    refine T_pu rfl rfl (pu_assign rfl) ?_
    refine T_pu rfl rfl (pu_assign rfl) ?_
    refine T_nil ?_
    refine W_ret ?_
    have e : krR n xs q t = ([], 1) := by unfold krR; rw [if_pos hc1]
    rw [e]
    exact Res_2 rfl rfl rfl ⟨_, rfl, newM_none hs.kp⟩
  · refine W_seq ?_
    refine W_reg ?_
    refine T_pu rfl rfl (pu_fld (off := 0) Try.underlying28 rfl rfl ty2 rfl rfl) ?_
    refine T_pi rfl rfl (pi_load Try.underlying2 rfl rfl (fun w' h => by obtain rfl := h; exact (by first | exact (hs.bk 2 rfl).cell rfl | exact (hs.bk 1 rfl).cell rfl | exact (hs.bk 0 rfl).cell rfl))) ?_
    refine T_pu rfl rfl (pu_lss rfl rfl) ?_
    refine T_if rfl rfl (pu_move rfl) (fun hg3_3 => ?_) (fun hg3_3 => ?_)
    · refine T_no rfl rfl ?_
      refine T_no rfl rfl ?_
      refine T_no rfl rfl ?_
      refine T_pu rfl rfl (pu_pick_t rfl rfl) ?_
      refine T_pu rfl rfl (pu_move rfl) ?_
      refine T_no rfl rfl ?_
      refine T_no rfl rfl ?_
      refine T_no rfl rfl ?_
      refine T_pu rfl rfl (pu_pick_t rfl rfl) ?_
      refine T_pu rfl rfl (pu_assign rfl) ?_
      refine T_nil ?_
      refine W_true rfl ?_
      refine W_seq ?_
      refine W_reg ?_
      refine T_pu rfl rfl (pu_assign rfl) ?_
      refine T_pu rfl rfl (pu_assign rfl) ?_
      refine T_nil ?_
      refine W_ret ?_
      have e : krR n xs q t = ([], 2) := by unfold krR; rw [if_neg hc1, if_pos (by omega)]
      rw [e]
      exact Res_2 rfl rfl rfl ⟨_, rfl, newM_none hs.kp⟩
    · refine T_pi rfl rfl (pi_load Try.underlying2 rfl rfl (fun w' h => by obtain rfl := h; exact (by first | exact (hs.bk 2 rfl).cell rfl | exact (hs.bk 1 rfl).cell rfl | exact (hs.bk 0 rfl).cell rfl))) ?_
      refine T_go rfl rfl (st_call fn88 rfl ((isUnit_ok _ _).mono ?_))
      rintro v w' ⟨rfl, rfl⟩
      refine T_pu rfl rfl (pu_notp rfl) ?_
      refine T_pu rfl rfl (pu_pick_f rfl rfl) ?_
      refine T_if rfl rfl (pu_move rfl) (fun hg3_8 => ?_) (fun hg3_8 => ?_)
      · refine T_no rfl rfl ?_
        refine T_no rfl rfl ?_
        refine T_no rfl rfl ?_
        refine T_pu rfl rfl (pu_pick_t rfl rfl) ?_
        refine T_pu rfl rfl (pu_assign rfl) ?_
        refine T_nil ?_
        refine W_true rfl ?_
        refine W_seq ?_
        refine W_reg ?_
        refine T_pu rfl rfl (pu_assign rfl) ?_
        refine T_pu rfl rfl (pu_assign rfl) ?_
        refine T_nil ?_
        refine W_ret ?_
        have e : krR n xs q t = ([], 2) := by unfold krR; rw [if_neg hc1, if_pos (by omega)]
        rw [e]
        exact Res_2 rfl rfl rfl ⟨_, rfl, newM_none hs.kp⟩
      · refine T_pi rfl rfl (pi_load Try.underlying2 rfl rfl (fun w' h => by obtain rfl := h; exact (by first | exact (hs.bk 2 rfl).cell rfl | exact (hs.bk 1 rfl).cell rfl | exact (hs.bk 0 rfl).cell rfl))) ?_
        refine T_go rfl rfl (st_call fn88 rfl ((isUnit_ok _ _).mono ?_))
        rintro v w' ⟨rfl, rfl⟩
        refine T_pu rfl rfl (pu_notp rfl) ?_
        refine T_pu rfl rfl (pu_pick_f rfl rfl) ?_
        refine T_pu rfl rfl (pu_assign rfl) ?_
        refine T_nil ?_
        refine W_if rfl (fun hc3 => ?_) (fun hc3 => ?_)
        · refine W_seq ?_
          refine W_reg ?_
          refine T_pu rfl rfl (pu_assign rfl) ?_
          refine T_pu rfl rfl (pu_assign rfl) ?_
          refine T_nil ?_
          refine W_ret ?_
          have e : krR n xs q t = ([], 2) := by unfold krR; rw [if_neg hc1, if_pos (by omega)]
          rw [e]
          exact Res_2 rfl rfl rfl ⟨_, rfl, newM_none hs.kp⟩
        · refine W_skip ?_
          refine W_seq ?_
          have hBr : Br n xs := Decidable.not_not.1 hc1
          obtain ⟨m, rfl⟩ : ∃ m : Nat, n = m := ⟨n.toNat, by have := hBr.1; omega⟩
          have hm : 2 ≤ m ∧ m ≤ 8 := by have := hBr.1; omega
          have hq1 : 1 ≤ q ∧ q ≤ 10006 := by omega
          have ht1 : 1 ≤ t ∧ t ≤ 10006 := by omega
          have e : krR m xs q t = (prodF (nPr m) (krL m q t) xs xs.length, 0) := by unfold krR; rw [if_neg hc1, if_neg (by omega), Int.toNat_natCast]
          rw [e]
          have hN := nPr_le hm.2
          have hnn := nn_mul hm.2
          have hq2 : ((m : Int) * ((m : Int) - 1)).tdiv 2 = (nPr m : Int) := by rw [hnn, Int.mul_comm, Int.mul_tdiv_cancel _ (by omega)]
          have hN1 : 1 ≤ nPr m := by have := (pr_at hm.2 (i := 1) (j := 2) (by omega) (by omega) (by omega)).2; omega
          refine W_reg ?_
          refine T_pu rfl rfl (pu_fld (off := 0) Try.underlying28 rfl rfl ty2 rfl rfl) ?_
          refine T_pi rfl rfl (pi_load Try.underlying2 rfl rfl (fun w' h => by obtain rfl := h; exact (by first | exact (hs.bk 2 rfl).cell rfl))) ?_
          refine T_go rfl rfl (st_allocS hs ty2 fun w5 b5 hk5 hb5 hs => ?_)
          refine T_goN rfl (st_storeB hs 0 rfl ty2 rfl rfl rfl (by first | exact Nat.le_of_ble_eq_true rfl | omega | (simp; done) | (simp; omega)) fun w6 hk6 hs => ?_)
          simp only [List.set_cons_zero] at hs
          have hB1 := hs.bk 0 rfl
          have hB2 := hs.bk 2 rfl
          have hB3 := hs.bk 1 rfl
          refine T_nil ?_
          refine W_seq ?_
          refine W_reg ?_
          refine T_pi rfl rfl (pi_loadAgg Try.underlying28 rfl ty28 rfl (fun w' h => by obtain rfl := h; exact (by first | exact (hs.bk 3 rfl).cells | exact (hs.bk 0 rfl).cell rfl)) (by first | rfl | (simp; done) | (rw [nums_length]; assumption) | assumption)) ?_
          refine T_pi rfl rfl (pi_load Try.underlying2 rfl rfl (fun w' h => by obtain rfl := h; exact (by first | exact (hs.bk 3 rfl).cells | exact (hs.bk 0 rfl).cell rfl))) ?_
          refine T_pi rfl rfl (pi_load Try.underlying2 rfl rfl (fun w' h => by obtain rfl := h; exact (by first | exact (hs.bk 3 rfl).cells | exact (hs.bk 0 rfl).cell rfl))) ?_
          refine T_pu rfl rfl (pu_sub64 rfl rfl (by omega)) ?_
          refine T_pu rfl rfl (pu_mul64 rfl rfl (by omega)) ?_
          refine T_pu rfl rfl (pu_quo64 rfl rfl (by omega) (by omega)) ?_
          rw [hq2]
          refine T_pu rfl rfl (pu_makeFunc rfl rfl) ?_
          refine T_go rfl rfl (st_call fn89 rfl ((productIn_ok m (by omega) (nPr m) (by omega) _ xs _ (hv.keep hs.kp) hBr.2.1 hBr.2.2 (krL m q t) (fun k h0 h1 => krL_good hm hq1 ht1 h0 h1) _ [.pointer (some ⟨b5, 0, none⟩), .pointer (some ⟨b2, 0, none⟩), .pointer (some ⟨b3, 0, none⟩)] fn105 (fun k w' h0 h1 hk => krClosure_ok m hm k q t h0 h1 hq1 ht1 b5 b2 b3 w' (hB1.keep hk id) (hB2.keep hk id) (hB3.keep hk id))).mono ?_))
          rintro u7 w7 ⟨hds7, hM7, hk7, hf7⟩
          have hs := hs.newM hM7 hk7 hf7
          refine T_pu rfl rfl (pu_assign rfl) ?_
          refine T_pu rfl rfl (pu_assign rfl) ?_
          refine T_nil ?_
          refine W_ret ?_
          exact Res_2 rfl rfl rfl ⟨_, rfl, hs.isNewM 0 rfl⟩
theorem krNum (n : Int) (xs : List Int) (q t : Int) : numsR n 2 xs [q, t] = if ¬ Br n xs then 1 else if n < 2 ∨ ¬ (1 ≤ q ∧ q ≤ 10006) ∨ ¬ (1 ≤ t ∧ t ≤ 10006) then 2 else 0 := by
  unfold numsR
  by_cases hB : Br n xs
  · rw [if_neg (not_not_intro hB), if_neg (not_not_intro hB)]
    simp only [List.mem_cons, List.not_mem_nil, or_false, forall_eq_or_imp, forall_eq]
    by_cases h : (1 ≤ q ∧ q ≤ 10006) ∧ 1 ≤ t ∧ t ≤ 10006
    · rw [if_neg (not_not_intro h)]
      by_cases h2 : n < 2
      · rw [if_pos h2, if_pos (.inl h2)]
      · rw [if_neg h2, if_neg (by omega)]
    · rw [if_pos h, if_pos (by omega)]
  · rw [if_pos hB, if_pos hB]
set_option maxHeartbeats 4000000 in
theorem specKrammer_ok (n : Int) (v : Value) (xs : List Int) (q t : Int) (w : World) (hv : RI w v xs) (hl : xs.length ≤ 9223372036854775807) (hw : ∀ x ∈ xs, -9223372036854775808 ≤ x ∧ x ≤ 9223372036854775807) (hq : -9223372036854775808 ≤ q ∧ q ≤ 9223372036854775807) (ht : -9223372036854775808 ≤ t ∧ t ≤ 9223372036854775807) :
    CallsR Try.prog 51 #[.agg #[.int .i64 n, v], .int .i64 q, .int .i64 t] w fun r w' => ∃ u, r = .tuple #[u, .int .i64 (krR n xs q t).2] ∧ NewM w w' u (krR n xs q t).1 := by
  obtain ⟨A, c, rfl, hc⟩ := hv.open
  have hs := St.start w
  have hnum := krNum n xs q t
  refine fn_calls Try.func51 rfl rfl rfl ?_
  refine W_seq ?_
  refine W_reg ?_
  refine T_go rfl rfl (st_boxS hs rfl fun w1 b1 hk1 hb1 hs => ?_)
  refine T_pu rfl rfl (pu_assign rfl) ?_
  refine T_pu rfl rfl (pu_assign rfl) ?_
  refine T_nil ?_
  refine W_seq ?_
  refine W_seq ?_
  refine W_reg ?_
  refine T_pi rfl rfl (pi_loadAgg Try.underlying28 rfl ty28 rfl (fun w' h => by obtain rfl := h; exact (by first | exact (hs.bk 0 rfl).cells)) (by first | rfl | (simp; done) | (rw [nums_length]; assumption) | assumption)) ?_
  refine T_pu rfl rfl (pu_move rfl) ?_
  refine T_pu rfl rfl (pu_move rfl) ?_
  refine T_go rfl rfl (st_litI hs [q, t] rfl (fun _ => by kernel_rfl) rfl rfl fun w2 b2 hk2 hb2 hs => ?_)
  refine T_go rfl rfl (st_call fn86 rfl ((l09Numbers_ok n 2 _ _ xs [q, t] _ (hv.keep hs.kp) hl hw (hs.oi 0 rfl).ri (by simp)).mono ?_))
  rintro v w3 ⟨rfl, hk3⟩
  have hs := hs.next hk3
  rw [hnum]
  refine T_pu rfl rfl (pu_assign rfl) ?_
  refine T_nil ?_
  refine W_seq ?_
  refine W_reg ?_
  refine T_pu rfl rfl (pu_move rfl) ?_
  refine T_pu rfl rfl (pu_neq rfl rfl) ?_
  refine T_nil ?_
  refine W_if rfl (fun hc2 => ?_) (fun hc2 => ?_)
  · refine W_seq ?_
    refine W_reg ?_
    refine T_pu rfl rfl (pu_move rfl) ?_
    refine T_pu rfl rfl (pu_assign rfl) ?_
    refine T_pu rfl rfl (pu_assign rfl) ?_
    refine T_nil ?_
    refine W_ret ?_
    have e : krR n xs q t = ([], if ¬ Br n xs then 1 else if n < 2 ∨ ¬ (1 ≤ q ∧ q ≤ 10006) ∨ ¬ (1 ≤ t ∧ t ≤ 10006) then 2 else 0) := by
      unfold krR
      by_cases hB : Br n xs
      · rw [if_neg (not_not_intro hB), if_neg (not_not_intro hB)]
        by_cases ht1 : n < 2 ∨ ¬ (1 ≤ q ∧ q ≤ 10006) ∨ ¬ (1 ≤ t ∧ t ≤ 10006)
        · rw [if_pos ht1, if_pos ht1]
        · rw [if_neg (not_not_intro hB), if_neg ht1] at hc2; exact absurd rfl hc2
      · rw [if_pos hB, if_pos hB]
    rw [e]
    exact Res_2 rfl rfl rfl ⟨_, rfl, newM_none hs.kp⟩
  · refine W_skip ?_
    refine W_seq ?_
    have hBr : Br n xs := Decidable.byContradiction fun h => hc2 (by rw [if_pos h]; decide)
    have ht1 : ¬ (n < 2 ∨ ¬ (1 ≤ q ∧ q ≤ 10006) ∨ ¬ (1 ≤ t ∧ t ≤ 10006)) := fun h => hc2 (by rw [if_neg (not_not_intro hBr), if_pos h]; decide)
    obtain ⟨m, rfl⟩ : ∃ m : Nat, n = m := ⟨n.toNat, by have := hBr.1; omega⟩
    have hm : 2 ≤ m ∧ m ≤ 8 := by have := hBr.1; omega
    have e : krR m xs q t = (prodF (nPr m) (krL m q t) xs xs.length, 0) := by unfold krR; rw [if_neg (not_not_intro hBr), if_neg ht1, Int.toNat_natCast]
    rw [e]
    refine W_reg ?_
    refine T_pu rfl rfl (pu_fld (off := 0) Try.underlying28 rfl rfl ty2 rfl rfl) ?_
    refine T_pi rfl rfl (pi_load Try.underlying2 rfl rfl (fun w' h => by obtain rfl := h; exact (by first | exact (hs.bk 1 rfl).cell rfl))) ?_
    refine T_pu rfl rfl (pu_fld (off := 1) Try.underlying28 rfl rfl ty22 rfl rfl) ?_
    refine T_pi rfl rfl (pi_load Try.underlying22 rfl rfl (fun w' h => by obtain rfl := h; exact (by first | exact (hs.bk 1 rfl).cell rfl))) ?_
    refine T_pu rfl rfl (pu_move rfl) ?_
    refine T_pu rfl rfl (pu_move rfl) ?_
    refine T_go rfl rfl (st_call fn104 rfl ((l09Krammer_ok m hm q t (by omega) (by omega) _ xs _ (hv.keep hs.kp) hBr.2.1 hBr.2.2).mono ?_))
    rintro u4 w4 ⟨hds4, hM4, hk4, hf4⟩
    have hs := hs.newM hM4 hk4 hf4
    refine T_pu rfl rfl (pu_assign rfl) ?_
    refine T_pu rfl rfl (pu_assign rfl) ?_
    refine T_nil ?_
    refine W_ret ?_
    exact Res_2 rfl rfl rfl ⟨_, rfl, hs.isNewM 0 rfl⟩
set_option maxHeartbeats 8000000 in
theorem lawKrammer_ok (n : Int) (v : Value) (xs : List Int) (q : Int) (t : Int) (w : World) (hv : RI w v xs) (hl : xs.length ≤ 9223372036854775807) (hw : ∀ x ∈ xs, -9223372036854775808 ≤ x ∧ x ≤ 9223372036854775807) (hn : -9223372036854775808 ≤ n) (hn2 : n ≤ 9223372036854775807) (hq : -9223372036854775808 ≤ q ∧ q ≤ 9223372036854775807) (ht : -9223372036854775808 ≤ t ∧ t ≤ 9223372036854775807) :
    CallsR Try.prog 10 #[.agg #[.int .i64 n, v], .int .i64 q, .int .i64 t] w fun r w' => r = .bool true ∧ Kp no w w' := by
  obtain ⟨A, c, rfl, hc⟩ := hv.open
  have hs := St.start w
  obtain ⟨hR1, hR2⟩ := krR_ok n xs q t
  have hsI := fun (v : Value) (w : World) (hv : RI w v xs) => specKrammer_ok n v xs q t w hv hl hw hq ht
  have hiI := fun (v : Value) (w : World) (hv : RI w v xs) => implKrammer_ok n v xs q t w hv hl hq ht
  generalize hRe : (krR n xs q t).1 = R at hR1 hR2 hsI hiI
  have hR1' : R.length ≤ 9223372036854775807 := by omega
  have hR2' : ∀ xs ∈ R, xs.length ≤ 9223372036854775807 := fun xs h => by have := hR2 xs h; omega
  have hR2'' : ∀ xs ∈ R, xs.length ≤ 1048576 := fun xs h => by have := hR2 xs h; omega
  refine fn_calls Try.func10 rfl rfl rfl ?_
  refine W_seq ?_
  refine W_reg ?_
  refine T_go rfl rfl (st_boxS hs rfl fun w1 b1 hk1 hb1 hs => ?_)
  refine T_pu rfl rfl (pu_assign rfl) ?_
  refine T_nil ?_
  refine W_seq ?_
  refine W_reg ?_
  refine T_pu rfl rfl (pu_assign rfl) ?_
  refine T_nil ?_
  refine W_seq ?_
  refine W_reg ?_
  refine T_pi rfl rfl (pi_loadAgg Try.underlying24 rfl ty24 rfl (fun w' h => by obtain rfl := h; exact (by first | exact (hs.bk 0 rfl).cells)) (by first | rfl | (simp; done) | (rw [nums_length]; assumption) | assumption)) ?_
  refine T_pu rfl rfl (pu_move rfl) ?_
  refine T_go rfl rfl (st_call fn16 rfl ((szBraid_ok n _ xs 1048576 _ (hv.keep hs.kp) hl (by omega)).mono ?_))
  rintro v w2 ⟨rfl, hk2⟩
  have hs := hs.next hk2
  refine T_pu rfl rfl (pu_assign rfl) ?_
  refine T_nil ?_
  refine W_seq ?_
  refine W_seq ?_
  refine W_reg ?_
  refine T_pu rfl rfl (pu_move rfl) ?_
  refine T_pu rfl rfl (pu_lss rfl rfl) ?_
  refine T_nil ?_
  refine W_if rfl (fun hc3 => ?_) (fun hc3 => ?_)
  · refine W_seq ?_
    refine W_reg ?_
    refine T_pu rfl rfl (pu_assign rfl) ?_
    refine T_nil ?_
    refine W_ret ?_
    exact Res_1 rfl rfl ⟨rfl, hs.kp⟩
  · refine W_skip ?_
    refine W_seq ?_
    have hl' : xs.length ≤ 1048576 := by split at hc3 <;> omega
    refine W_reg ?_
    refine T_pi rfl rfl (pi_loadAgg Try.underlying24 rfl ty24 rfl (fun w' h => by obtain rfl := h; exact (by first | exact (hs.bk 0 rfl).cells)) (by first | rfl | (simp; done) | (rw [nums_length]; assumption) | assumption)) ?_
    refine T_go rfl rfl (st_call fn18 rfl ((toBraid_ok n _ xs _ (hv.keep hs.kp) hl').mono ?_))
    rintro v w3 ⟨u, rfl, hnB⟩
    have hs := hs.newI hnB
    refine T_pu rfl rfl (pu_move rfl) ?_
    refine T_pu rfl rfl (pu_move rfl) ?_
    refine T_go rfl rfl (st_call fn51 rfl ((hsI _ _ (hs.oi 0 rfl).ri).mono ?_))
    rintro v w4 ⟨u4, rfl, hds4, hM4, hk4, hf4⟩
    have hs := (hs.newM hM4 hk4 hf4).drop 1
    refine T_pu rfl rfl (pu_move rfl) ?_
    refine T_pu rfl rfl (pu_extract rfl rfl) ?_
    refine T_pu rfl rfl (pu_extract rfl rfl) ?_
    refine T_pu rfl rfl (pu_assign rfl) ?_
    refine T_pu rfl rfl (pu_assign rfl) ?_
    refine T_nil ?_
    refine W_seq ?_
    refine W_reg ?_
    refine T_pi rfl rfl (pi_loadAgg Try.underlying24 rfl ty24 rfl (fun w' h => by obtain rfl := h; exact (by first | exact (hs.bk 1 rfl).cells)) (by first | rfl | (simp; done) | (rw [nums_length]; assumption) | assumption)) ?_
    refine T_go rfl rfl (st_call fn18 rfl ((toBraid_ok n _ xs _ (hv.keep hs.kp) hl').mono ?_))
    rintro v w5 ⟨u2, rfl, hnB2⟩
    obtain ⟨A2, c2, rfl, _⟩ := hnB2.1.ri.open
    have hs := hs.newI hnB2
    refine T_go rfl rfl (st_allocS hs ty28 fun w6 b6 hk6 hb6 hs => ?_)
    refine T_goN rfl (st_storeBs hs 0 rfl ty28 rfl rfl rfl (by simp [Value.cells, Value.oneCell']) (by first | exact Nat.le_of_ble_eq_true rfl | omega | (simp; done) | (simp; omega)) fun w7 hk7 hs => ?_)
    refine T_nil ?_
    refine W_seq ?_
    refine W_reg ?_
    refine T_pi rfl rfl (pi_loadAgg Try.underlying28 rfl ty28 rfl (fun w' h => by obtain rfl := h; exact (by first | exact (hs.bk 0 rfl).cells)) (by first | rfl | (simp; done) | (rw [nums_length]; assumption) | assumption)) ?_
    refine T_pu rfl rfl (pu_move rfl) ?_
    refine T_pu rfl rfl (pu_move rfl) ?_
    refine T_go rfl rfl (st_call fn52 rfl ((hiI _ _ (hs.oi 1 rfl).ri).mono ?_))
    rintro v w8 ⟨u8, rfl, hds8, hM8, hk8, hf8⟩
    have hs := hs.newM hM8 hk8 hf8
    refine T_pu rfl rfl (pu_move rfl) ?_
    refine T_pu rfl rfl (pu_extract rfl rfl) ?_
    refine T_pu rfl rfl (pu_extract rfl rfl) ?_
    refine T_pu rfl rfl (pu_assign rfl) ?_
    refine T_pu rfl rfl (pu_assign rfl) ?_
    refine T_nil ?_
    refine W_seq ?_
    refine W_seq ?_
    refine W_reg ?_
    refine T_pu rfl rfl (pu_move rfl) ?_
    refine T_pu rfl rfl (pu_move rfl) ?_
    refine T_go rfl rfl (st_call fn25 rfl ((eqInt64SS_ok _ _ R R _ (hs.mat 0 rfl).rm (hs.mat 3 rfl).rm hR1' hR1' hR2' hR2').mono ?_))
    rintro v w9 ⟨rfl, hk9⟩
    have hs := hs.next hk9
    refine T_pu rfl rfl (pu_notp rfl) ?_
    refine T_if rfl rfl (pu_move rfl) (fun hg8_4 => ?_) (fun hg8_4 => ?_)
    · refine T_no rfl rfl ?_
      refine T_no rfl rfl ?_
      refine T_no rfl rfl ?_
      refine T_pu rfl rfl (pu_pick_t rfl rfl) ?_
      refine T_nil ?_
      refine W_true rfl ?_
      refine W_seq ?_
      refine W_reg ?_
      refine T_pu rfl rfl (pu_assign rfl) ?_
      refine T_nil ?_
      refine W_ret ?_
      exfalso; simp_all
    · refine T_pu rfl rfl (pu_move rfl) ?_
      refine T_pu rfl rfl (pu_move rfl) ?_
      refine T_pu rfl rfl (pu_neq rfl rfl) ?_
      refine T_pu rfl rfl (pu_pick_f rfl rfl) ?_
      refine T_nil ?_
      refine W_if rfl (fun hc8 => ?_) (fun hc8 => ?_)
      · refine W_seq ?_
        refine W_reg ?_
        refine T_pu rfl rfl (pu_assign rfl) ?_
        refine T_nil ?_
        refine W_ret ?_
        exfalso; simp_all
      · refine W_skip ?_
        refine W_seq ?_
        refine W_seq ?_
        refine W_draw mixed 1000 IK (fun w10 hk10 => ?_)
        have hs := hs.next hk10
        refine D_pu 0 (by kernel_rfl) rfl (by kernel_rfl) (by kernel_rfl) rfl rfl (by kernel_rfl) (pi_loadAgg Try.underlying28 rfl ty28 rfl (fun w' h => by obtain ⟨_, h⟩ := h; exact h.cells (by first | exact (hs.bk 1 rfl).cells | exact (hs.bk 4 rfl).cells) id) (by first | rfl | (simp; done) | (rw [nums_length]; assumption) | assumption)) ?_
        refine D_pu 1 (by kernel_rfl) rfl (by kernel_rfl) (by kernel_rfl) rfl rfl (by kernel_rfl) (pi_loadAgg Try.underlying24 rfl ty24 rfl (fun w' h => by obtain ⟨_, h⟩ := h; exact h.cells (by first | exact (hs.bk 1 rfl).cells | exact (hs.bk 4 rfl).cells) id) (by first | rfl | (simp; done) | (rw [nums_length]; assumption) | assumption)) ?_
        refine D_go 2 (by kernel_rfl) (by first | rfl | (intro _; rfl) | (intro h; exact absurd (show true = false from h) (by decide)) | exact Kp.refl _ _ | assumption) rfl rfl rfl (st_call fn18 rfl ((toBraid_ok n _ xs _ (hv.keep hs.kp) hl').mono ?_))
        rintro v w11 ⟨u11, rfl, hnB3⟩
        have hkA : Kp no w10 w11 := hnB3.2.1
        have hs := hs.newI hnB3
        refine D_go 3 (by kernel_rfl) (by first | rfl | (intro _; rfl) | (intro h; exact absurd (show true = false from h) (by decide)) | exact Kp.refl _ _ | assumption) rfl rfl rfl (st_call fn20 rfl ((eqBraid_ok n n _ _ xs xs _ (hs.oi 3 rfl).ri (hs.oi 0 rfl).ri hl hl).mono ?_))
        rintro v w12 ⟨rfl, hk12⟩
        have hkB : Kp no w10 w12 := hkA.next hk12
        have hs := (hs.next hk12).tail
        refine D_pu 4 (by kernel_rfl) rfl (by kernel_rfl) (by kernel_rfl) rfl rfl (by kernel_rfl) (Pu.stable (pu_notp rfl)) ?_
        refine D_done (by kernel_rfl) (by first | rfl | (intro _; rfl) | (intro h; exact absurd (show true = false from h) (by decide)) | exact Kp.refl _ _ | assumption) ?_
        refine W_if rfl (fun hc10 => ?_) (fun hc10 => ?_)
        · refine W_seq ?_
          refine W_reg ?_
          refine T_pu rfl rfl (pu_assign rfl) ?_
          refine T_nil ?_
          refine W_ret ?_
          exfalso; simp_all
        · refine W_skip ?_
          refine W_seq ?_
          refine W_reg ?_
          refine T_pu rfl rfl (pu_assign rfl) ?_
          refine T_nil ?_
          refine W_seq ?_
          refine W_reg ?_
          refine T_pi rfl rfl (pi_loadAgg Try.underlying28 rfl ty28 rfl (fun w' h => by obtain rfl := h; exact (by first | exact (hs.bk 1 rfl).cells)) (by first | rfl | (simp; done) | (rw [nums_length]; assumption) | assumption)) ?_
          refine T_pu rfl rfl (pu_move rfl) ?_
          refine T_go rfl rfl (st_call fn28 rfl ((markBraid_ok n _ xs 1 _ (hs.oi 2 rfl) hl' (by omega)).mono ?_))
          rintro v w13 ⟨rfl, hk13, hO13⟩
          have hs := hs.upd 2 rfl hk13 (aOI _ _) hO13 (fun b h => .inl (by simpa [aOI, aOw] using h))
          refine T_pu rfl rfl (pu_assign rfl) ?_
          refine T_nil ?_
          refine W_seq ?_
          refine W_seq ?_
          refine W_reg ?_
          refine T_pu rfl rfl (pu_move rfl) ?_
          refine T_pu rfl rfl (pu_lss rfl rfl) ?_
          refine T_if rfl rfl (pu_move rfl) (fun hg14_2 => ?_) (fun hg14_2 => ?_)
          · refine T_no rfl rfl ?_
            refine T_no rfl rfl ?_
            refine T_no rfl rfl ?_
            refine T_no rfl rfl ?_
            refine T_pu rfl rfl (pu_pick_t rfl rfl) ?_
            refine T_pu rfl rfl (pu_move rfl) ?_
            refine T_no rfl rfl ?_
            refine T_no rfl rfl ?_
            refine T_no rfl rfl ?_
            refine T_pu rfl rfl (pu_pick_t rfl rfl) ?_
            refine T_nil ?_
            refine W_true rfl ?_
            refine W_seq ?_
            refine W_reg ?_
            refine T_pu rfl rfl (pu_assign rfl) ?_
            refine T_nil ?_
            refine W_ret ?_
            exfalso; first | omega | simp_all
          · refine T_pu rfl rfl (pu_move rfl) ?_
            refine T_pu rfl rfl (pu_move rfl) ?_
            refine T_go rfl rfl (st_call fn25 rfl ((eqInt64SS_ok _ _ R R _ (hs.mat 0 rfl).rm (hs.mat 3 rfl).rm hR1' hR1' hR2' hR2').mono ?_))
            rintro v w14 ⟨rfl, hk14⟩
            have hs := hs.next hk14
            refine T_pu rfl rfl (pu_notp rfl) ?_
            refine T_pu rfl rfl (pu_pick_f rfl rfl) ?_
            refine T_if rfl rfl (pu_move rfl) (fun hg14_8 => ?_) (fun hg14_8 => ?_)
            · refine T_no rfl rfl ?_
              refine T_no rfl rfl ?_
              refine T_no rfl rfl ?_
              refine T_pu rfl rfl (pu_pick_t rfl rfl) ?_
              refine T_nil ?_
              refine W_true rfl ?_
              refine W_seq ?_
              refine W_reg ?_
              refine T_pu rfl rfl (pu_assign rfl) ?_
              refine T_nil ?_
              refine W_ret ?_
              exfalso; first | omega | simp_all
            · refine T_pu rfl rfl (pu_move rfl) ?_
              refine T_pu rfl rfl (pu_move rfl) ?_
              refine T_pu rfl rfl (pu_neq rfl rfl) ?_
              refine T_pu rfl rfl (pu_pick_f rfl rfl) ?_
              refine T_nil ?_
              refine W_if rfl (fun hc14 => ?_) (fun hc14 => ?_)
              · refine W_seq ?_
                refine W_reg ?_
                refine T_pu rfl rfl (pu_assign rfl) ?_
                refine T_nil ?_
                refine W_ret ?_
                exfalso; first | omega | simp_all
              · refine W_skip ?_
                refine W_seq ?_
                refine W_reg ?_
                refine T_pu rfl rfl (pu_assign rfl) ?_
                refine T_nil ?_
                refine W_seq ?_
                refine W_reg ?_
                refine T_pu rfl rfl (pu_move rfl) ?_
                refine T_pu rfl rfl (pu_move rfl) ?_
                refine T_go rfl rfl (st_call fn29 rfl ((markInt64SS_ok _ _ R 1 _ (hs.mat 0 rfl) (by omega) hR2'' (by omega)).mono ?_))
                rintro v w15 ⟨rfl, hk15, hM15⟩
                have hs := hs.upd 0 rfl hk15 (aMat _ _ _) hM15 (fun b h => .inl h)
                have ht2 := totM_nonneg R
                refine T_pu rfl rfl (pu_assign rfl) ?_
                refine T_nil ?_
                refine W_seq ?_
                refine W_reg ?_
                refine T_pu rfl rfl (pu_assign rfl) ?_
                refine T_nil ?_
                refine W_seq ?_
                refine W_reg ?_
                refine T_pu rfl rfl (pu_move rfl) ?_
                refine T_pu rfl rfl (pu_move rfl) ?_
                refine T_go rfl rfl (st_call fn30 rfl ((heldInt64SS_ok _ R 1 _ (hs.mat 0 rfl).rm (by omega) hR2'' (by omega)).mono ?_))
                rintro v w16 ⟨rfl, rfl⟩
                refine T_pu rfl rfl (pu_assign rfl) ?_
                refine T_nil ?_
                refine W_seq ?_
                refine W_seq ?_
                refine W_reg ?_
                refine T_pu rfl rfl (pu_move rfl) ?_
                refine T_pu rfl rfl (pu_lss rfl rfl) ?_
                refine T_nil ?_
                refine W_if rfl (fun hc20 => ?_) (fun hc20 => ?_)
                · refine W_seq ?_
                  refine W_reg ?_
                  refine T_pu rfl rfl (pu_assign rfl) ?_
                  refine T_nil ?_
                  refine W_ret ?_
                  exfalso; omega
                · refine W_skip ?_
                  refine W_seq ?_
                  refine W_seq ?_
                  refine W_reg ?_
                  refine T_pu rfl rfl (pu_move rfl) ?_
                  refine T_pu rfl rfl (pu_move rfl) ?_
                  refine T_pu rfl rfl (pu_neq rfl rfl) ?_
                  refine T_nil ?_
                  refine W_if rfl (fun hc22 => ?_) (fun hc22 => ?_)
                  · refine W_seq ?_
                    refine W_reg ?_
                    refine T_pu rfl rfl (pu_assign rfl) ?_
                    refine T_nil ?_
                    refine W_ret ?_
                    exfalso; exact hc22 rfl
                  · refine W_skip ?_
                    refine W_seq ?_
                    refine W_reg ?_
                    refine T_pi rfl rfl (pi_loadAgg Try.underlying24 rfl ty24 rfl (fun w' h => by obtain rfl := h; exact (by first | exact (hs.bk 4 rfl).cells)) (by first | rfl | (simp; done) | (rw [nums_length]; assumption) | assumption)) ?_
                    refine T_go rfl rfl (st_call fn18 rfl ((toBraid_ok n _ xs _ (hv.keep hs.kp) hl').mono ?_))
                    rintro v w17 ⟨u17, rfl, hnB4⟩
                    have hs := hs.newI hnB4
                    refine T_pu rfl rfl (pu_move rfl) ?_
                    refine T_pu rfl rfl (pu_move rfl) ?_
                    refine T_go rfl rfl (st_call fn52 rfl ((hiI _ _ (hs.oi 0 rfl).ri).mono ?_))
                    rintro v w18 ⟨u18, rfl, hds18, hM18, hk18, hf18⟩
                    have hs := hs.newM hM18 hk18 hf18
                    refine T_pu rfl rfl (pu_move rfl) ?_
                    refine T_pu rfl rfl (pu_extract rfl rfl) ?_
                    refine T_pu rfl rfl (pu_extract rfl rfl) ?_
                    refine T_pu rfl rfl (pu_assign rfl) ?_
                    refine T_pu rfl rfl (pu_assign rfl) ?_
                    refine T_nil ?_
                    refine W_seq ?_
                    refine W_seq ?_
                    refine W_reg ?_
                    refine T_pu rfl rfl (pu_move rfl) ?_
                    refine T_pu rfl rfl (pu_move rfl) ?_
                    refine T_go rfl rfl (st_call fn25 rfl ((eqInt64SS_ok _ _ R R _ (hs.mat 0 rfl).rm (hs.mat 5 rfl).rm hR1' hR1' hR2' hR2').mono ?_))
                    rintro v w19 ⟨rfl, hk19⟩
                    have hs := hs.next hk19
                    refine T_pu rfl rfl (pu_notp rfl) ?_
                    refine T_if rfl rfl (pu_move rfl) (fun hg25_4 => ?_) (fun hg25_4 => ?_)
                    · refine T_no rfl rfl ?_
                      refine T_no rfl rfl ?_
                      refine T_no rfl rfl ?_
                      refine T_pu rfl rfl (pu_pick_t rfl rfl) ?_
                      refine T_nil ?_
                      refine W_true rfl ?_
                      refine W_seq ?_
                      refine W_reg ?_
                      refine T_pu rfl rfl (pu_assign rfl) ?_
                      refine T_nil ?_
                      refine W_ret ?_
                      exfalso; simp_all
                    · refine T_pu rfl rfl (pu_move rfl) ?_
                      refine T_pu rfl rfl (pu_move rfl) ?_
                      refine T_pu rfl rfl (pu_neq rfl rfl) ?_
                      refine T_pu rfl rfl (pu_pick_f rfl rfl) ?_
                      refine T_nil ?_
                      refine W_if rfl (fun hc25 => ?_) (fun hc25 => ?_)
                      · refine W_seq ?_
                        refine W_reg ?_
                        refine T_pu rfl rfl (pu_assign rfl) ?_
                        refine T_nil ?_
                        refine W_ret ?_
                        exfalso; simp_all
                      · refine W_skip ?_
                        refine W_seq ?_
                        refine W_reg ?_
                        refine T_pu rfl rfl (pu_assign rfl) ?_
                        refine T_nil ?_
                        refine W_seq ?_
                        refine W_reg ?_
                        refine T_pu rfl rfl (pu_move rfl) ?_
                        refine T_pu rfl rfl (pu_move rfl) ?_
                        refine T_go rfl rfl (st_call fn30 rfl ((heldInt64SS_ok _ R 1 _ (hs.mat 2 rfl).rm (by omega) hR2'' (by omega)).mono ?_))
                        rintro v w20 ⟨rfl, rfl⟩
                        refine T_pu rfl rfl (pu_assign rfl) ?_
                        refine T_nil ?_
                        refine W_seq ?_
                        refine W_seq ?_
                        refine W_reg ?_
                        refine T_pu rfl rfl (pu_move rfl) ?_
                        refine T_pu rfl rfl (pu_lss rfl rfl) ?_
                        refine T_nil ?_
                        refine W_if rfl (fun hc29 => ?_) (fun hc29 => ?_)
                        · refine W_seq ?_
                          refine W_reg ?_
                          refine T_pu rfl rfl (pu_assign rfl) ?_
                          refine T_nil ?_
                          refine W_ret ?_
                          exfalso; omega
                        · refine W_skip ?_
                          refine W_seq ?_
                          refine W_seq ?_
                          refine W_reg ?_
                          refine T_pu rfl rfl (pu_move rfl) ?_
                          refine T_pu rfl rfl (pu_move rfl) ?_
                          refine T_pu rfl rfl (pu_neq rfl rfl) ?_
                          refine T_nil ?_
                          refine W_if rfl (fun hc31 => ?_) (fun hc31 => ?_)
                          · refine W_seq ?_
                            refine W_reg ?_
                            refine T_pu rfl rfl (pu_assign rfl) ?_
                            refine T_nil ?_
                            refine W_ret ?_
                            exfalso; exact hc31 rfl
                          · refine W_skip ?_
                            refine W_seq ?_
                            refine W_reg ?_
                            refine T_pu rfl rfl (pu_assign rfl) ?_
                            refine T_nil ?_
                            refine W_ret ?_
                            exact Res_1 rfl rfl ⟨rfl, hs.kp⟩
end Go.Proofs.Ytdpbfdjpeofbmaa.L
