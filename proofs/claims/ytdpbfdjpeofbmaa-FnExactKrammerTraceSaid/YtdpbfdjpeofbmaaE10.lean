/- Krammer's rows and letters, the reference. -/
import Derived.Test.YtdpbfdjpeofbmaaE9
import Derived.Test.YtdpbfdjpeofbmaaE4
namespace Go.Proofs.Ytdpbfdjpeofbmaa.L
set_option linter.unusedVariables false
set_option maxRecDepth 100000

theorem nn_all : (List.range 9).all (fun n : Nat => decide ((n : Int) * ((n : Int) - 1) = 2 * (nPr n : Int))) = true := by decide +kernel
theorem nn_mul {n : Nat} (hn : n ≤ 8) : (n : Int) * ((n : Int) - 1) = 2 * (nPr n : Int) := by
  have h := nn_all
  simp only [List.all_eq_true, List.mem_range, decide_eq_true_eq] at h
  exact h n (by omega)
theorem ps_le {n i : Nat} (hn : n ≤ 8) (hi : i ≤ 8) : psN n i ≤ 28 := by
  have h := ps_all
  simp only [List.all_eq_true, List.mem_range, Bool.and_eq_true, decide_eq_true_eq] at h
  exact (h n (by omega)).2 i (by omega)
set_option maxHeartbeats 4000000 in
theorem l09Power_ok (q : Int) (hq : 1 ≤ q ∧ q ≤ 10006) (k : Nat) (hk : k ≤ 1000) (w : World) : CallsR Try.prog 190 #[.int .i64 q, .int .i64 k] w fun r w' => r = .int .i64 (pwr q k) ∧ w = w' := by
  refine fn_calls Try.func190 rfl rfl rfl ?_
  refine W_seq ?_
  refine W_reg ?_
  refine T_pu rfl rfl (pu_assign rfl) ?_
  refine T_nil ?_
  refine W_seq ?_
  refine W_reg ?_
  refine T_pu rfl rfl (pu_assign rfl) ?_
  refine T_nil ?_
  refine W_seq ?_
  refine W_block ?_
  refine W_loop (σ := Nat) (fun m => [(0, .int .i64 q), (1, .int .i64 (k - m)), (5, .int .i64 (pwr q m))]) (fun m w' => w = w' ∧ m ≤ k) (fun m => k - m) 0 ?_ ?_ ?_
  · exact .cons rfl (.cons (by show some _ = some _; simp) (.cons rfl (.nil _)))
  · exact ⟨rfl, Nat.zero_le _⟩
  rintro m w2 ⟨rfl, hmk⟩
  have hr := pwr_range (q := q) m
  have hm := emul_range hr (b := q) (by omega)
  have hs : pwr q (m + 1) = pwr q m * q % 10007 := rfl
  refine W_seq ?_
  refine W_seq ?_
  refine W_reg ?_
  refine T_pu rfl rfl (pu_move rfl) ?_
  refine T_pu rfl rfl (pu_gtr rfl rfl) ?_
  refine T_nil ?_
  refine W_if rfl (fun hc2 => ?_) (fun hc2 => ?_)
  · refine W_skip ?_
    refine W_seq ?_
    refine W_block ?_
    refine W_reg ?_
    refine T_pu rfl rfl (pu_move rfl) ?_
    refine T_pu rfl rfl (pu_move rfl) ?_
    refine T_pu rfl rfl (pu_mul64 rfl rfl (by omega)) ?_
    refine T_pu rfl rfl (pu_rem rfl rfl (by omega)) ?_
    refine T_pu rfl rfl (pu_assign rfl) ?_
    refine T_nil ?_
    refine W_reg ?_
    refine T_pu rfl rfl (pu_move rfl) ?_
    refine T_pu rfl rfl (pu_sub64 rfl rfl (by omega)) ?_
    refine T_pu rfl rfl (pu_assign rfl) ?_
    refine T_nil ?_
    exact ⟨m + 1, .cons rfl (.cons (by show some (Value.int .i64 _) = some (Value.int .i64 _); congr 2; omega) (.cons (by rw [hs, ← tmod_nn hm.1]; rfl) (.nil _))), ⟨rfl, by omega⟩, by omega⟩
  · refine W_exit rfl ?_
    refine W_seq ?_
    refine W_reg ?_
    refine T_pu rfl rfl (pu_move rfl) ?_
    refine T_pu rfl rfl (pu_assign rfl) ?_
    refine T_nil ?_
    refine W_ret ?_
    obtain rfl : m = k := by omega
    exact Res_1 rfl rfl ⟨rfl, rfl⟩
set_option maxHeartbeats 4000000 in
theorem powerIn_ok (q : Int) (hq : 1 ≤ q ∧ q ≤ 10006) (k : Nat) (hk : k ≤ 1000) (w : World) : CallsR Try.prog 152 #[.int .i64 q, .int .i64 k] w fun r w' => r = .int .i64 (pwr q k) ∧ w = w' := by
  refine fn_calls Try.func152 rfl rfl rfl ?_
  refine W_seq ?_
  refine W_reg ?_
  refine T_pu rfl rfl (pu_assign rfl) ?_
  refine T_nil ?_
  refine W_seq ?_
  refine W_reg ?_
  refine T_pu rfl rfl (pu_assign rfl) ?_
  refine T_nil ?_
  refine W_seq ?_
  refine W_seq ?_
  refine W_reg ?_
  refine T_pu rfl rfl (pu_move rfl) ?_
  refine T_pu rfl rfl (pu_move rfl) ?_
  refine T_nil ?_
  refine W_block ?_
  refine W_loop (σ := Nat) (fun m => [(0, .int .i64 q), (6, .int .i64 k), (7, .int .i64 m), (5, .int .i64 (pwr q m))]) (fun m w' => w = w' ∧ m ≤ k) (fun m => k - m) 0 ?_ ?_ ?_
  · exact .cons rfl (.cons rfl (.cons rfl (.cons rfl (.nil _))))
  · exact ⟨rfl, Nat.zero_le _⟩
  rintro m w2 ⟨rfl, hmk⟩
  have hr := pwr_range (q := q) m
  have hm := emul_range hr (b := q) (by omega)
  have hs : pwr q (m + 1) = pwr q m * q % 10007 := rfl
  refine W_seq ?_
  refine W_reg ?_
  refine T_pu rfl rfl (pu_lss rfl rfl) ?_
  refine T_nil ?_
  refine W_seq ?_
  refine W_if rfl (fun hc3 => ?_) (fun hc3 => ?_)
  · refine W_skip ?_
    refine W_seq ?_
    refine W_block ?_
    refine W_reg ?_
    refine T_pu rfl rfl (pu_move rfl) ?_
    refine T_pu rfl rfl (pu_move rfl) ?_
    refine T_pu rfl rfl (pu_mul64 rfl rfl (by omega)) ?_
    refine T_pu rfl rfl (pu_rem rfl rfl (by omega)) ?_
    refine T_pu rfl rfl (pu_assign rfl) ?_
    refine T_nil ?_
    refine W_reg ?_
    refine T_pu rfl rfl (pu_add64 rfl rfl (by omega)) ?_
    refine T_pu rfl rfl (pu_move rfl) ?_
    refine T_nil ?_
    exact ⟨m + 1, .cons rfl (.cons rfl (.cons rfl (.cons (by rw [hs, ← tmod_nn hm.1]; rfl) (.nil _)))), ⟨rfl, by omega⟩, by omega⟩
  · refine W_exit rfl ?_
    refine W_seq ?_
    refine W_reg ?_
    refine T_pu rfl rfl (pu_move rfl) ?_
    refine T_pu rfl rfl (pu_assign rfl) ?_
    refine T_nil ?_
    refine W_ret ?_
    obtain rfl : m = k := by omega
    exact Res_1 rfl rfl ⟨rfl, rfl⟩
set_option maxHeartbeats 4000000 in
theorem l09Pair_ok (n i j : Nat) (hn : n ≤ 8) (h1 : 1 ≤ i) (h2 : i < j) (h3 : j ≤ n) (w : World) : CallsR Try.prog 189 #[.int .i64 n, .int .i64 i, .int .i64 j] w fun r w' => r = .int .i64 (pN n i j) ∧ w = w' := by
  refine fn_calls Try.func189 rfl rfl rfl ?_
  refine W_seq ?_
  refine W_reg ?_
  refine T_pu rfl rfl (pu_assign rfl) ?_
  refine T_nil ?_
  refine W_seq ?_
  refine W_reg ?_
  refine T_pu rfl rfl (pu_assign rfl) ?_
  refine T_nil ?_
  refine W_seq ?_
  refine W_seq ?_
  refine W_reg ?_
  refine T_pu rfl rfl (pu_assign rfl) ?_
  refine T_nil ?_
  refine W_block ?_
  refine W_loop (σ := Nat) (fun a => [(0, .int .i64 n), (1, .int .i64 i), (2, .int .i64 j), (7, .int .i64 (psN n a)), (8, .int .i64 (a + 1 : Nat))]) (fun a w' => w = w' ∧ a + 1 ≤ i) (fun a => i - a) 0 ?_ ?_ ?_
  · exact .cons rfl (.cons rfl (.cons rfl (.cons rfl (.cons rfl (.nil _)))))
  · exact ⟨rfl, by omega⟩
  rintro a w2 ⟨rfl, hai⟩
  have hp := ps_le hn (i := a) (by omega)
  have hs : psN n (a + 1) = psN n a + (n - (a + 1)) := rfl
  refine W_seq ?_
  refine W_seq ?_
  refine W_reg ?_
  refine T_pu rfl rfl (pu_move rfl) ?_
  refine T_pu rfl rfl (pu_move rfl) ?_
  refine T_pu rfl rfl (pu_lss rfl rfl) ?_
  refine T_nil ?_
  refine W_if rfl (fun hc3 => ?_) (fun hc3 => ?_)
  · refine W_skip ?_
    refine W_seq ?_
    refine W_block ?_
    refine W_reg ?_
    refine T_pu rfl rfl (pu_move rfl) ?_
    refine T_pu rfl rfl (pu_move rfl) ?_
    refine T_pu rfl rfl (pu_add64 rfl rfl (by omega)) ?_
    refine T_pu rfl rfl (pu_move rfl) ?_
    refine T_pu rfl rfl (pu_sub64 rfl rfl (by omega)) ?_
    refine T_pu rfl rfl (pu_assign rfl) ?_
    refine T_nil ?_
    refine W_reg ?_
    refine T_pu rfl rfl (pu_move rfl) ?_
    refine T_pu rfl rfl (pu_add64 rfl rfl (by omega)) ?_
    refine T_pu rfl rfl (pu_assign rfl) ?_
    refine T_nil ?_
    exact ⟨a + 1, .cons rfl (.cons rfl (.cons rfl (.cons (by show some (Value.int .i64 _) = some (Value.int .i64 _); congr 2; omega) (.cons (by show some (Value.int .i64 _) = some (Value.int .i64 _); congr 2) (.nil _))))), ⟨rfl, by omega⟩, by omega⟩
  · refine W_exit rfl ?_
    refine W_seq ?_
    refine W_reg ?_
    refine T_pu rfl rfl (pu_move rfl) ?_
    refine T_pu rfl rfl (pu_move rfl) ?_
    refine T_pu rfl rfl (pu_add64 rfl rfl (by omega)) ?_
    refine T_pu rfl rfl (pu_move rfl) ?_
    refine T_pu rfl rfl (pu_sub64 rfl rfl (by omega)) ?_
    refine T_pu rfl rfl (pu_sub64 rfl rfl (by omega)) ?_
    refine T_pu rfl rfl (pu_assign rfl) ?_
    refine T_nil ?_
    refine W_ret ?_
    obtain rfl : i = a + 1 := by omega
    refine Res_1 rfl rfl ⟨?_, rfl⟩
    congr 1
    unfold pN
    simp only [Nat.add_sub_cancel]
    omega
theorem frow_one {m y : Nat} {c : Int} (h : y < m) : (frow m fun _ => 0).set y c = frow m (onec y c) := frow_set h c
theorem frow_two {m y1 y2 : Nat} {c1 c2 : Int} (h : y2 < m) : (frow m (onec y1 c1)).set y2 c2 = frow m (twoc y1 c1 y2 c2) := frow_set h c2
set_option maxHeartbeats 16000000 in
theorem l09Row_ok (n k i j : Nat) (hn : n ≤ 8) (hk : 1 ≤ k ∧ k + 1 ≤ n) (h1 : 1 ≤ i) (h2 : i < j) (h3 : j ≤ n) (q t : Int) (hq : 1 ≤ q ∧ q ≤ 10006) (ht : 1 ≤ t ∧ t ≤ 10006) (w : World) :
    CallsR Try.prog 168 #[.int .i64 n, .int .i64 k, .int .i64 i, .int .i64 j, .int .i64 q, .int .i64 t] w fun r w' => NewI w w' r (frow (nPr n) (KR n k q t i j)) := by
  have hs := St.start w
  have hnn := nn_mul hn
  have hN := nPr_le hn
  have own := (pr_at hn hk.1 (by omega) hk.2).2
  have lt : ∀ {i j : Nat}, 1 ≤ i → i < j → j ≤ n → pN n i j < nPr n := fun h1 h2 h3 => (pr_at hn h1 h2 h3).2
  have htq := emul_range (a := t) (b := q) (by omega) (by omega)
  have htq1 := tmod_nn (p := 10007) htq.1
  have htqr := em_range (t * q)
  refine fn_calls Try.func168 rfl rfl rfl ?_
  refine W_seq ?_
  refine W_reg ?_
  refine T_pu rfl rfl (pu_assign rfl) ?_
  refine T_nil ?_
  refine W_cut (σ := Nat) (fun b => [(0, .int .i64 n), (1, .int .i64 k), (2, .int .i64 i), (3, .int .i64 j), (4, .int .i64 q), (5, .int .i64 t), (13, .slice (some ⟨b, 0, none⟩) (nPr n) (nPr n)), (14, .int .i64 (pN n k (k + 1)))]) (fun b w' => St no w [aOI (.slice (some ⟨b, 0, none⟩) (nPr n) (nPr n)) (frow (nPr n) fun _ => 0)] w') ?_ ?_
  · refine W_draw mixed 1000 IK (fun wd hkd => ?_)
    have hs := hs.next hkd
    have hq2 : ((n : Int) * ((n : Int) - 1)).tdiv 2 = (nPr n : Int) := by rw [hnn, Int.mul_comm, Int.mul_tdiv_cancel _ (by omega)]
    refine D_pu 0 (by kernel_rfl) rfl (by kernel_rfl) (by kernel_rfl) rfl rfl (by kernel_rfl) (Pu.stable (pu_move rfl)) ?_
    refine D_pu 1 (by kernel_rfl) rfl (by kernel_rfl) (by kernel_rfl) rfl rfl (by kernel_rfl) (Pu.stable (pu_move rfl)) ?_
    refine D_pu 2 (by kernel_rfl) rfl (by kernel_rfl) (by kernel_rfl) rfl rfl (by kernel_rfl) (Pu.stable (pu_sub64 rfl rfl (by omega))) ?_
    refine D_pu 3 (by kernel_rfl) rfl (by kernel_rfl) (by kernel_rfl) rfl rfl (by kernel_rfl) (Pu.stable (pu_mul64 rfl rfl (by omega))) ?_
    refine D_pu 4 (by kernel_rfl) rfl (by kernel_rfl) (by kernel_rfl) rfl rfl (by kernel_rfl) (Pu.stable (pu_quo64 rfl rfl (by omega) (by omega))) ?_
    rw [hq2]
    refine D_pu 6 (by kernel_rfl) rfl (by kernel_rfl) (by kernel_rfl) rfl rfl (by kernel_rfl) (Pu.stable (pu_move rfl)) ?_
    refine D_pu 7 (by kernel_rfl) rfl (by kernel_rfl) (by kernel_rfl) rfl rfl (by kernel_rfl) (Pu.stable (pu_move rfl)) ?_
    refine D_pu 8 (by kernel_rfl) rfl (by kernel_rfl) (by kernel_rfl) rfl rfl (by kernel_rfl) (Pu.stable (pu_move rfl)) ?_
    refine D_pu 9 (by kernel_rfl) rfl (by kernel_rfl) (by kernel_rfl) rfl rfl (by kernel_rfl) (Pu.stable (pu_add64 rfl rfl (by omega))) ?_
    refine D_two 5 10 (by kernel_rfl) (by first | rfl | (intro _; rfl) | (intro h; exact absurd (show true = false from h) (by decide)) | exact Kp.refl _ _ | assumption) ?_ ?_
    · refine DNext_go rfl rfl rfl (st_makeI hs Try.underlying22 ty2 rfl rfl (by omega) fun w2 b2 hk2 hb2 hs => ?_)
      have hkA : Kp no wd w2 := hk2
      rw [frow_zero] at hs
      refine D_go 10 (by kernel_rfl) (by first | rfl | (intro _; rfl) | (intro h; exact absurd (show true = false from h) (by decide)) | exact Kp.refl _ _ | assumption) rfl rfl rfl (st_call fn189 rfl ((l09Pair_ok n k (k + 1) hn hk.1 (by omega) hk.2 _).mono ?_))
      rintro v w' ⟨rfl, rfl⟩
      refine D_pu 11 (by kernel_rfl) rfl (by kernel_rfl) (by kernel_rfl) rfl rfl (by kernel_rfl) (Pu.stable (pu_assign rfl)) ?_
      refine D_pu 12 (by kernel_rfl) rfl (by kernel_rfl) (by kernel_rfl) rfl rfl (by kernel_rfl) (Pu.stable (pu_assign rfl)) ?_
      refine D_done (by kernel_rfl) (by first | rfl | (intro _; rfl) | (intro h; exact absurd (show true = false from h) (by decide)) | exact Kp.refl _ _ | assumption) ?_
      exact ⟨b2, .cons rfl (.cons rfl (.cons rfl (.cons rfl (.cons rfl (.cons rfl (.cons rfl (.cons rfl (.nil _)))))))), hs⟩
    · refine DNext_go rfl rfl rfl (st_call fn189 rfl ((l09Pair_ok n k (k + 1) hn hk.1 (by omega) hk.2 _).mono ?_))
      rintro v w' ⟨rfl, rfl⟩
      refine D_go 5 (by kernel_rfl) (by first | rfl | (intro _; rfl) | (intro h; exact absurd (show true = false from h) (by decide)) | exact Kp.refl _ _ | assumption) rfl rfl rfl (st_makeI hs Try.underlying22 ty2 rfl rfl (by omega) fun w2 b2 hk2 hb2 hs => ?_)
      have hkA : Kp no wd w2 := hk2
      rw [frow_zero] at hs
      refine D_pu 11 (by kernel_rfl) rfl (by kernel_rfl) (by kernel_rfl) rfl rfl (by kernel_rfl) (Pu.stable (pu_assign rfl)) ?_
      refine D_pu 12 (by kernel_rfl) rfl (by kernel_rfl) (by kernel_rfl) rfl rfl (by kernel_rfl) (Pu.stable (pu_assign rfl)) ?_
      refine D_done (by kernel_rfl) (by first | rfl | (intro _; rfl) | (intro h; exact absurd (show true = false from h) (by decide)) | exact Kp.refl _ _ | assumption) ?_
      exact ⟨b2, .cons rfl (.cons rfl (.cons rfl (.cons rfl (.cons rfl (.cons rfl (.cons rfl (.cons rfl (.nil _)))))))), hs⟩
  · rintro b2 w3 hs3
    repeat clear hs
    have hs := hs3
    clear hs3
    refine W_seq ?_
    refine W_block ?_
    refine W_seq ?_
    refine W_reg ?_
    refine T_pu rfl rfl (pu_move rfl) ?_
    refine T_pu rfl rfl (pu_move rfl) ?_
    refine T_pu rfl rfl (pu_eql rfl rfl) ?_
    refine T_if rfl rfl (pu_move rfl) (fun hg5_3 => ?_) (fun hg5_3 => ?_)
    · refine T_pu rfl rfl (pu_move rfl) ?_
      refine T_pu rfl rfl (pu_move rfl) ?_
      refine T_pu rfl rfl (pu_add64 rfl rfl (by omega)) ?_
      refine T_pu rfl rfl (pu_eql rfl rfl) ?_
      refine T_pu rfl rfl (pu_pick_t rfl rfl) ?_
      refine T_pu rfl rfl (pu_assign rfl) ?_
      refine T_nil ?_
      refine W_if rfl (fun hc5 => ?_) (fun hc5 => ?_)
      · refine W_reg ?_
        refine T_pu rfl rfl (pu_move rfl) ?_
        refine T_pu rfl rfl (pu_move rfl) ?_
        refine T_pu rfl rfl (pu_move rfl) ?_
        refine T_pu rfl rfl (pu_move rfl) ?_
        refine T_pu rfl rfl (pu_mul64 rfl rfl (by omega)) ?_
        refine T_pu rfl rfl (pu_rem rfl rfl (by omega)) ?_
        rw [htq1]
        have hm2 := emul_range htqr (b := q) (by omega)
        refine T_pu rfl rfl (pu_move rfl) ?_
        refine T_pu rfl rfl (pu_mul64 rfl rfl (by omega)) ?_
        refine T_go rfl rfl (st_call fn141 rfl ((l09Mod_ok _ _).mono ?_))
        rintro v w' ⟨rfl, rfl⟩
        refine T_pu rfl rfl ((by first | exact pu_ix1 Try.underlying22 ty2 rfl rfl (by omega) (by omega) | exact pu_index Try.underlying22 ty2 rfl rfl (by omega) (by omega))) ?_
        refine T_goN rfl (st_storeI hs 0 rfl ty2 rfl rfl (by omega) (by rw [frow_length]; omega) fun w4 hk4 hs => ?_)
        rw [Int.toNat_natCast, frow_one own] at hs
        simp only [List.set_cons_zero] at hs
        have hK : KR n k q t i j = onec (pN n k (k + 1)) (t * q % 10007 * q % 10007) := by unfold KR; rw [if_pos (by omega)]
        refine T_nil ?_
        refine W_seq ?_
        refine W_reg ?_
        refine T_pu rfl rfl (pu_move rfl) ?_
        refine T_pu rfl rfl (pu_assign rfl) ?_
        refine T_nil ?_
        refine W_ret ?_
        first
          | exact Res_1 rfl rfl (by rw [hK]; exact hs.isNewI 0 rfl)
          | exact Res_1 rfl rfl (by rw [show KR n k q t i j = onec (pN n i j) 1 by unfold KR; rw [if_neg (by omega), if_neg (by omega), if_neg (by omega), if_neg (by omega), if_neg (by omega), if_neg (by omega)]]; exact hs.isNewI 0 rfl)
      · refine W_seq ?_
        refine W_reg ?_
        refine T_pu rfl rfl (pu_move rfl) ?_
        refine T_pu rfl rfl (pu_move rfl) ?_
        refine T_pu rfl rfl (pu_eql rfl rfl) ?_
        refine T_pu rfl rfl (pu_assign rfl) ?_
        refine T_nil ?_
        refine W_if rfl (fun hc7 => ?_) (fun hc7 => ?_)
        · refine W_seq ?_
          refine W_reg ?_
          refine T_pu rfl rfl (pu_move rfl) ?_
          refine T_pu rfl rfl (pu_move rfl) ?_
          refine T_pu rfl rfl (pu_move rfl) ?_
          refine T_pu rfl rfl (pu_move rfl) ?_
          refine T_go rfl rfl (st_call fn189 rfl ((l09Pair_ok n i k hn h1 (by omega) (by omega) _).mono ?_))
          rintro v w' ⟨rfl, rfl⟩
          have l1 := lt (i := i) (j := k) h1 (by omega) (by omega)
          refine T_pu rfl rfl (pu_move rfl) ?_
          refine T_pu rfl rfl (pu_sub64 rfl rfl (by omega)) ?_
          refine T_go rfl rfl (st_call fn141 rfl ((l09Mod_ok _ _).mono ?_))
          rintro v w' ⟨rfl, rfl⟩
          refine T_pu rfl rfl ((by first | exact pu_ix1 Try.underlying22 ty2 rfl rfl (by omega) (by omega) | exact pu_index Try.underlying22 ty2 rfl rfl (by omega) (by omega))) ?_
          refine T_goN rfl (st_storeI hs 0 rfl ty2 rfl rfl (by omega) (by rw [frow_length]; omega) fun w4 hk4 hs => ?_)
          rw [Int.toNat_natCast, frow_one l1] at hs
          simp only [List.set_cons_zero] at hs
          refine T_nil ?_
          refine W_reg ?_
          refine T_pu rfl rfl (pu_move rfl) ?_
          refine T_pu rfl rfl (pu_move rfl) ?_
          refine T_pu rfl rfl (pu_move rfl) ?_
          refine T_pu rfl rfl (pu_move rfl) ?_
          refine T_pu rfl rfl (pu_add64 rfl rfl (by omega)) ?_
          refine T_go rfl rfl (st_call fn189 rfl ((l09Pair_ok n i (k + 1) hn h1 (by omega) (by omega) _).mono ?_))
          rintro v w' ⟨rfl, rfl⟩
          have l2 := lt (i := i) (j := k + 1) h1 (by omega) (by omega)
          refine T_pu rfl rfl (pu_move rfl) ?_
          refine T_pu rfl rfl ((by first | exact pu_ix1 Try.underlying22 ty2 rfl rfl (by omega) (by omega) | exact pu_index Try.underlying22 ty2 rfl rfl (by omega) (by omega))) ?_
          refine T_goN rfl (st_storeI hs 0 rfl ty2 rfl rfl (by omega) (by rw [frow_length]; omega) fun w5 hk5 hs => ?_)
          rw [Int.toNat_natCast, frow_two l2] at hs
          simp only [List.set_cons_zero] at hs
          have hK : KR n k q t i j = twoc (pN n i k) ((1 - q) % 10007) (pN n i (k + 1)) q := by unfold KR; rw [if_neg (by omega), if_pos (by omega)]
          refine T_nil ?_
          refine W_seq ?_
          refine W_reg ?_
          refine T_pu rfl rfl (pu_move rfl) ?_
          refine T_pu rfl rfl (pu_assign rfl) ?_
          refine T_nil ?_
          refine W_ret ?_
          first
            | exact Res_1 rfl rfl (by rw [hK]; exact hs.isNewI 0 rfl)
            | exact Res_1 rfl rfl (by rw [show KR n k q t i j = onec (pN n i j) 1 by unfold KR; rw [if_neg (by omega), if_neg (by omega), if_neg (by omega), if_neg (by omega), if_neg (by omega), if_neg (by omega)]]; exact hs.isNewI 0 rfl)
        · refine W_seq ?_
          refine W_reg ?_
          refine T_pu rfl rfl (pu_move rfl) ?_
          refine T_pu rfl rfl (pu_move rfl) ?_
          refine T_pu rfl rfl (pu_add64 rfl rfl (by omega)) ?_
          refine T_pu rfl rfl (pu_eql rfl rfl) ?_
          refine T_pu rfl rfl (pu_assign rfl) ?_
          refine T_nil ?_
          refine W_if rfl (fun hc10 => ?_) (fun hc10 => ?_)
          · refine W_seq ?_
            refine W_reg ?_
            refine T_pu rfl rfl (pu_move rfl) ?_
            refine T_pu rfl rfl (pu_move rfl) ?_
            refine T_pu rfl rfl (pu_move rfl) ?_
            refine T_pu rfl rfl (pu_move rfl) ?_
            refine T_go rfl rfl (st_call fn189 rfl ((l09Pair_ok n i k hn h1 (by omega) (by omega) _).mono ?_))
            rintro v w' ⟨rfl, rfl⟩
            have l1 := lt (i := i) (j := k) h1 (by omega) (by omega)
            refine T_pu rfl rfl ((by first | exact pu_ix1 Try.underlying22 ty2 rfl rfl (by omega) (by omega) | exact pu_index Try.underlying22 ty2 rfl rfl (by omega) (by omega))) ?_
            refine T_goN rfl (st_storeI hs 0 rfl ty2 rfl rfl (by omega) (by rw [frow_length]; omega) fun w4 hk4 hs => ?_)
            rw [Int.toNat_natCast, frow_one l1] at hs
            simp only [List.set_cons_zero] at hs
            refine T_nil ?_
            refine W_reg ?_
            refine T_pu rfl rfl (pu_move rfl) ?_
            refine T_pu rfl rfl (pu_move rfl) ?_
            refine T_pu rfl rfl (pu_move rfl) ?_
            refine T_pu rfl rfl (pu_move rfl) ?_
            refine T_pu rfl rfl (pu_move rfl) ?_
            refine T_pu rfl rfl (pu_move rfl) ?_
            refine T_pu rfl rfl (pu_sub64 rfl rfl (by omega)) ?_
            refine T_pu rfl rfl (pu_add64 rfl rfl (by omega)) ?_
            rw [show (k : Int) - (i : Int) + 1 = ((k - i + 1 : Nat) : Int) by omega]
            refine T_go rfl rfl (st_call fn190 rfl ((l09Power_ok q hq (k - i + 1) (by omega) _).mono ?_))
            rintro v w' ⟨rfl, rfl⟩
            have hp := pwr_range (q := q) (k - i + 1)
            have hm1 := emul_range (a := t) (by omega) hp
            refine T_pu rfl rfl (pu_mul64 rfl rfl (by omega)) ?_
            refine T_pu rfl rfl (pu_rem rfl rfl (by omega)) ?_
            rw [tmod_nn hm1.1]
            have hm2 := emul_range (em_range (t * pwr q (k - i + 1))) (b := q - 1) (by omega)
            refine T_pu rfl rfl (pu_move rfl) ?_
            refine T_pu rfl rfl (pu_sub64 rfl rfl (by omega)) ?_
            refine T_pu rfl rfl (pu_mul64 rfl rfl (by omega)) ?_
            refine T_go rfl rfl (st_call fn141 rfl ((l09Mod_ok _ _).mono ?_))
            rintro v w' ⟨rfl, rfl⟩
            refine T_pu rfl rfl ((by first | exact pu_ix1 Try.underlying22 ty2 rfl rfl (by omega) (by omega) | exact pu_index Try.underlying22 ty2 rfl rfl (by omega) (by omega))) ?_
            refine T_goN rfl (st_storeI hs 0 rfl ty2 rfl rfl (by omega) (by rw [frow_length]; omega) fun w5 hk5 hs => ?_)
            rw [Int.toNat_natCast, frow_two own] at hs
            simp only [List.set_cons_zero] at hs
            have hK : KR n k q t i j = twoc (pN n i k) 1 (pN n k (k + 1)) (t * pwr q (k - i + 1) % 10007 * (q - 1) % 10007) := by unfold KR; rw [if_neg (by omega), if_neg (by omega), if_pos (by omega)]
            refine T_nil ?_
            refine W_seq ?_
            refine W_reg ?_
            refine T_pu rfl rfl (pu_move rfl) ?_
            refine T_pu rfl rfl (pu_assign rfl) ?_
            refine T_nil ?_
            refine W_ret ?_
            first
              | exact Res_1 rfl rfl (by rw [hK]; exact hs.isNewI 0 rfl)
              | exact Res_1 rfl rfl (by rw [show KR n k q t i j = onec (pN n i j) 1 by unfold KR; rw [if_neg (by omega), if_neg (by omega), if_neg (by omega), if_neg (by omega), if_neg (by omega), if_neg (by omega)]]; exact hs.isNewI 0 rfl)
          · refine W_seq ?_
            refine W_reg ?_
            refine T_pu rfl rfl (pu_move rfl) ?_
            refine T_pu rfl rfl (pu_move rfl) ?_
            refine T_pu rfl rfl (pu_eql rfl rfl) ?_
            refine T_pu rfl rfl (pu_assign rfl) ?_
            refine T_nil ?_
            refine W_if rfl (fun hc13 => ?_) (fun hc13 => ?_)
            · refine W_seq ?_
              refine W_reg ?_
              refine T_pu rfl rfl (pu_move rfl) ?_
              refine T_pu rfl rfl (pu_move rfl) ?_
              refine T_pu rfl rfl (pu_move rfl) ?_
              refine T_pu rfl rfl (pu_move rfl) ?_
              refine T_pu rfl rfl (pu_mul64 rfl rfl (by omega)) ?_
              refine T_pu rfl rfl (pu_rem rfl rfl (by omega)) ?_
              rw [htq1]
              have hm2 := emul_range htqr (b := q - 1) (by omega)
              refine T_pu rfl rfl (pu_move rfl) ?_
              refine T_pu rfl rfl (pu_sub64 rfl rfl (by omega)) ?_
              refine T_pu rfl rfl (pu_mul64 rfl rfl (by omega)) ?_
              refine T_go rfl rfl (st_call fn141 rfl ((l09Mod_ok _ _).mono ?_))
              rintro v w' ⟨rfl, rfl⟩
              refine T_pu rfl rfl ((by first | exact pu_ix1 Try.underlying22 ty2 rfl rfl (by omega) (by omega) | exact pu_index Try.underlying22 ty2 rfl rfl (by omega) (by omega))) ?_
              refine T_goN rfl (st_storeI hs 0 rfl ty2 rfl rfl (by omega) (by rw [frow_length]; omega) fun w4 hk4 hs => ?_)
              rw [Int.toNat_natCast, frow_one own] at hs
              simp only [List.set_cons_zero] at hs
              refine T_nil ?_
              refine W_reg ?_
              refine T_pu rfl rfl (pu_move rfl) ?_
              refine T_pu rfl rfl (pu_move rfl) ?_
              refine T_pu rfl rfl (pu_move rfl) ?_
              refine T_pu rfl rfl (pu_add64 rfl rfl (by omega)) ?_
              refine T_pu rfl rfl (pu_move rfl) ?_
              refine T_go rfl rfl (st_call fn189 rfl ((l09Pair_ok n (k + 1) j hn (by omega) (by omega) h3 _).mono ?_))
              rintro v w' ⟨rfl, rfl⟩
              have l2 := lt (i := k + 1) (j := j) (by omega) (by omega) h3
              refine T_pu rfl rfl (pu_move rfl) ?_
              refine T_pu rfl rfl ((by first | exact pu_ix1 Try.underlying22 ty2 rfl rfl (by omega) (by omega) | exact pu_index Try.underlying22 ty2 rfl rfl (by omega) (by omega))) ?_
              refine T_goN rfl (st_storeI hs 0 rfl ty2 rfl rfl (by omega) (by rw [frow_length]; omega) fun w5 hk5 hs => ?_)
              rw [Int.toNat_natCast, frow_two l2] at hs
              simp only [List.set_cons_zero] at hs
              have hK : KR n k q t i j = twoc (pN n k (k + 1)) (t * q % 10007 * (q - 1) % 10007) (pN n (k + 1) j) q := by unfold KR; rw [if_neg (by omega), if_neg (by omega), if_neg (by omega), if_pos (by omega)]
              refine T_nil ?_
              refine W_seq ?_
              refine W_reg ?_
              refine T_pu rfl rfl (pu_move rfl) ?_
              refine T_pu rfl rfl (pu_assign rfl) ?_
              refine T_nil ?_
              refine W_ret ?_
              first
                | exact Res_1 rfl rfl (by rw [hK]; exact hs.isNewI 0 rfl)
                | exact Res_1 rfl rfl (by rw [show KR n k q t i j = onec (pN n i j) 1 by unfold KR; rw [if_neg (by omega), if_neg (by omega), if_neg (by omega), if_neg (by omega), if_neg (by omega), if_neg (by omega)]]; exact hs.isNewI 0 rfl)
            · refine W_seq ?_
              refine W_reg ?_
              refine T_pu rfl rfl (pu_move rfl) ?_
              refine T_pu rfl rfl (pu_move rfl) ?_
              refine T_pu rfl rfl (pu_add64 rfl rfl (by omega)) ?_
              refine T_pu rfl rfl (pu_eql rfl rfl) ?_
              refine T_pu rfl rfl (pu_assign rfl) ?_
              refine T_nil ?_
              refine W_if rfl (fun hc16 => ?_) (fun hc16 => ?_)
              · refine W_seq ?_
                refine W_reg ?_
                refine T_pu rfl rfl (pu_move rfl) ?_
                refine T_pu rfl rfl (pu_move rfl) ?_
                refine T_pu rfl rfl (pu_move rfl) ?_
                refine T_pu rfl rfl (pu_move rfl) ?_
                refine T_go rfl rfl (st_call fn189 rfl ((l09Pair_ok n k j hn hk.1 (by omega) h3 _).mono ?_))
                rintro v w' ⟨rfl, rfl⟩
                have l1 := lt (i := k) (j := j) hk.1 (by omega) h3
                refine T_pu rfl rfl ((by first | exact pu_ix1 Try.underlying22 ty2 rfl rfl (by omega) (by omega) | exact pu_index Try.underlying22 ty2 rfl rfl (by omega) (by omega))) ?_
                refine T_goN rfl (st_storeI hs 0 rfl ty2 rfl rfl (by omega) (by rw [frow_length]; omega) fun w4 hk4 hs => ?_)
                rw [Int.toNat_natCast, frow_one l1] at hs
                simp only [List.set_cons_zero] at hs
                refine T_nil ?_
                refine W_reg ?_
                refine T_pu rfl rfl (pu_move rfl) ?_
                refine T_pu rfl rfl (pu_move rfl) ?_
                refine T_pu rfl rfl (pu_move rfl) ?_
                refine T_pu rfl rfl (pu_add64 rfl rfl (by omega)) ?_
                refine T_pu rfl rfl (pu_move rfl) ?_
                refine T_go rfl rfl (st_call fn189 rfl ((l09Pair_ok n (k + 1) j hn (by omega) (by omega) h3 _).mono ?_))
                rintro v w' ⟨rfl, rfl⟩
                have l2 := lt (i := k + 1) (j := j) (by omega) (by omega) h3
                refine T_pu rfl rfl (pu_move rfl) ?_
                refine T_pu rfl rfl (pu_sub64 rfl rfl (by omega)) ?_
                refine T_go rfl rfl (st_call fn141 rfl ((l09Mod_ok _ _).mono ?_))
                rintro v w' ⟨rfl, rfl⟩
                refine T_pu rfl rfl ((by first | exact pu_ix1 Try.underlying22 ty2 rfl rfl (by omega) (by omega) | exact pu_index Try.underlying22 ty2 rfl rfl (by omega) (by omega))) ?_
                refine T_goN rfl (st_storeI hs 0 rfl ty2 rfl rfl (by omega) (by rw [frow_length]; omega) fun w5 hk5 hs => ?_)
                rw [Int.toNat_natCast, frow_two l2] at hs
                simp only [List.set_cons_zero] at hs
                have hK : KR n k q t i j = twoc (pN n k j) 1 (pN n (k + 1) j) ((1 - q) % 10007) := by unfold KR; rw [if_neg (by omega), if_neg (by omega), if_neg (by omega), if_neg (by omega), if_pos (by omega)]
                refine T_nil ?_
                refine W_seq ?_
                refine W_reg ?_
                refine T_pu rfl rfl (pu_move rfl) ?_
                refine T_pu rfl rfl (pu_assign rfl) ?_
                refine T_nil ?_
                refine W_ret ?_
                first
                  | exact Res_1 rfl rfl (by rw [hK]; exact hs.isNewI 0 rfl)
                  | exact Res_1 rfl rfl (by rw [show KR n k q t i j = onec (pN n i j) 1 by unfold KR; rw [if_neg (by omega), if_neg (by omega), if_neg (by omega), if_neg (by omega), if_neg (by omega), if_neg (by omega)]]; exact hs.isNewI 0 rfl)
              · refine W_seq ?_
                refine W_reg ?_
                refine T_pu rfl rfl (pu_move rfl) ?_
                refine T_pu rfl rfl (pu_move rfl) ?_
                refine T_pu rfl rfl (pu_move rfl) ?_
                refine T_pu rfl rfl (pu_move rfl) ?_
                refine T_go rfl rfl (st_call fn189 rfl ((l09Pair_ok n i j hn h1 h2 h3 _).mono ?_))
                rintro v w' ⟨rfl, rfl⟩
                have l1 := lt (i := i) (j := j) h1 h2 h3
                refine T_pu rfl rfl ((by first | exact pu_ix1 Try.underlying22 ty2 rfl rfl (by omega) (by omega) | exact pu_index Try.underlying22 ty2 rfl rfl (by omega) (by omega))) ?_
                refine T_goN rfl (st_storeI hs 0 rfl ty2 rfl rfl (by omega) (by rw [frow_length]; omega) fun w4 hk4 hs => ?_)
                rw [Int.toNat_natCast, frow_one l1] at hs
                simp only [List.set_cons_zero] at hs
                refine T_nil ?_
                refine W_seq ?_
                refine W_reg ?_
                refine T_pu rfl rfl (pu_move rfl) ?_
                refine T_pu rfl rfl (pu_move rfl) ?_
                refine T_pu rfl rfl (pu_lss rfl rfl) ?_
                refine T_if rfl rfl (pu_move rfl) (fun hg3_3 => ?_) (fun hg3_3 => ?_)
                · refine T_pu rfl rfl (pu_move rfl) ?_
                  refine T_pu rfl rfl (pu_move rfl) ?_
                  refine T_pu rfl rfl (pu_add64 rfl rfl (by omega)) ?_
                  refine T_pu rfl rfl (pu_gtr rfl rfl) ?_
                  refine T_pu rfl rfl (pu_pick_t rfl rfl) ?_
                  refine T_nil ?_
                  refine W_if rfl (fun hc3 => ?_) (fun hc3 => ?_)
                  · refine W_reg ?_
                    refine T_pu rfl rfl (pu_move rfl) ?_
                    refine T_pu rfl rfl (pu_move rfl) ?_
                    refine T_pu rfl rfl (pu_move rfl) ?_
                    refine T_pu rfl rfl (pu_move rfl) ?_
                    refine T_pu rfl rfl (pu_move rfl) ?_
                    refine T_pu rfl rfl (pu_move rfl) ?_
                    refine T_pu rfl rfl (pu_sub64 rfl rfl (by omega)) ?_
                    rw [show (k : Int) - (i : Int) = ((k - i : Nat) : Int) by omega]
                    refine T_go rfl rfl (st_call fn190 rfl ((l09Power_ok q hq (k - i) (by omega) _).mono ?_))
                    rintro v w' ⟨rfl, rfl⟩
                    have hp := pwr_range (q := q) (k - i)
                    have hm1 := emul_range (a := t) (by omega) hp
                    refine T_pu rfl rfl (pu_mul64 rfl rfl (by omega)) ?_
                    refine T_pu rfl rfl (pu_rem rfl rfl (by omega)) ?_
                    rw [tmod_nn hm1.1]
                    have hm3 := emul_range (a := q - 1) (b := q - 1) (by omega) (by omega)
                    refine T_pu rfl rfl (pu_move rfl) ?_
                    refine T_pu rfl rfl (pu_sub64 rfl rfl (by omega)) ?_
                    refine T_pu rfl rfl (pu_move rfl) ?_
                    refine T_pu rfl rfl (pu_sub64 rfl rfl (by omega)) ?_
                    refine T_pu rfl rfl (pu_mul64 rfl rfl (by omega)) ?_
                    refine T_pu rfl rfl (pu_rem rfl rfl (by omega)) ?_
                    rw [tmod_nn hm3.1]
                    have hm2 := emul_range (em_range (t * pwr q (k - i))) (em_range ((q - 1) * (q - 1)))
                    refine T_pu rfl rfl (pu_mul64 rfl rfl (by omega)) ?_
                    refine T_go rfl rfl (st_call fn141 rfl ((l09Mod_ok _ _).mono ?_))
                    rintro v w' ⟨rfl, rfl⟩
                    refine T_pu rfl rfl ((by first | exact pu_ix1 Try.underlying22 ty2 rfl rfl (by omega) (by omega) | exact pu_index Try.underlying22 ty2 rfl rfl (by omega) (by omega))) ?_
                    refine T_goN rfl (st_storeI hs 0 rfl ty2 rfl rfl (by omega) (by rw [frow_length]; omega) fun w5 hk5 hs => ?_)
                    rw [Int.toNat_natCast, frow_two own] at hs
                    simp only [List.set_cons_zero] at hs
                    have hK : KR n k q t i j = twoc (pN n i j) 1 (pN n k (k + 1)) (t * pwr q (k - i) % 10007 * ((q - 1) * (q - 1) % 10007) % 10007) := by unfold KR; rw [if_neg (by omega), if_neg (by omega), if_neg (by omega), if_neg (by omega), if_neg (by omega), if_pos (by omega)]
                    refine T_nil ?_
                    refine W_seq ?_
                    refine W_reg ?_
                    refine T_pu rfl rfl (pu_move rfl) ?_
                    refine T_pu rfl rfl (pu_assign rfl) ?_
                    refine T_nil ?_
                    refine W_ret ?_
                    first
                      | exact Res_1 rfl rfl (by rw [hK]; exact hs.isNewI 0 rfl)
                      | exact Res_1 rfl rfl (by rw [show KR n k q t i j = onec (pN n i j) 1 by unfold KR; rw [if_neg (by omega), if_neg (by omega), if_neg (by omega), if_neg (by omega), if_neg (by omega), if_neg (by omega)]]; exact hs.isNewI 0 rfl)
                  · refine W_skip ?_
                    refine W_seq ?_
                    refine W_reg ?_
                    refine T_pu rfl rfl (pu_move rfl) ?_
                    refine T_pu rfl rfl (pu_assign rfl) ?_
                    refine T_nil ?_
                    refine W_ret ?_
                    first
                      | exact Res_1 rfl rfl (by rw [hK]; exact hs.isNewI 0 rfl)
                      | exact Res_1 rfl rfl (by rw [show KR n k q t i j = onec (pN n i j) 1 by unfold KR; rw [if_neg (by omega), if_neg (by omega), if_neg (by omega), if_neg (by omega), if_neg (by omega), if_neg (by omega)]]; exact hs.isNewI 0 rfl)
                · refine T_no rfl rfl ?_
                  refine T_no rfl rfl ?_
                  refine T_no rfl rfl ?_
                  refine T_no rfl rfl ?_
                  refine T_pu rfl rfl (pu_pick_f rfl rfl) ?_
                  refine T_nil ?_
                  refine W_false rfl ?_
                  refine W_skip ?_
                  refine W_seq ?_
                  refine W_reg ?_
                  refine T_pu rfl rfl (pu_move rfl) ?_
                  refine T_pu rfl rfl (pu_assign rfl) ?_
                  refine T_nil ?_
                  refine W_ret ?_
                  first
                    | exact Res_1 rfl rfl (by rw [hK]; exact hs.isNewI 0 rfl)
                    | exact Res_1 rfl rfl (by rw [show KR n k q t i j = onec (pN n i j) 1 by unfold KR; rw [if_neg (by omega), if_neg (by omega), if_neg (by omega), if_neg (by omega), if_neg (by omega), if_neg (by omega)]]; exact hs.isNewI 0 rfl)
    · refine T_no rfl rfl ?_
      refine T_no rfl rfl ?_
      refine T_no rfl rfl ?_
      refine T_no rfl rfl ?_
      refine T_pu rfl rfl (pu_pick_f rfl rfl) ?_
      refine T_pu rfl rfl (pu_assign rfl) ?_
      refine T_nil ?_
      refine W_false rfl ?_
      refine W_seq ?_
      refine W_reg ?_
      refine T_pu rfl rfl (pu_move rfl) ?_
      refine T_pu rfl rfl (pu_move rfl) ?_
      refine T_pu rfl rfl (pu_eql rfl rfl) ?_
      refine T_pu rfl rfl (pu_assign rfl) ?_
      refine T_nil ?_
      refine W_if rfl (fun hc7 => ?_) (fun hc7 => ?_)
      · refine W_seq ?_
        refine W_reg ?_
        refine T_pu rfl rfl (pu_move rfl) ?_
        refine T_pu rfl rfl (pu_move rfl) ?_
        refine T_pu rfl rfl (pu_move rfl) ?_
        refine T_pu rfl rfl (pu_move rfl) ?_
        refine T_go rfl rfl (st_call fn189 rfl ((l09Pair_ok n i k hn h1 (by omega) (by omega) _).mono ?_))
        rintro v w' ⟨rfl, rfl⟩
        have l1 := lt (i := i) (j := k) h1 (by omega) (by omega)
        refine T_pu rfl rfl (pu_move rfl) ?_
        refine T_pu rfl rfl (pu_sub64 rfl rfl (by omega)) ?_
        refine T_go rfl rfl (st_call fn141 rfl ((l09Mod_ok _ _).mono ?_))
        rintro v w' ⟨rfl, rfl⟩
        refine T_pu rfl rfl ((by first | exact pu_ix1 Try.underlying22 ty2 rfl rfl (by omega) (by omega) | exact pu_index Try.underlying22 ty2 rfl rfl (by omega) (by omega))) ?_
        refine T_goN rfl (st_storeI hs 0 rfl ty2 rfl rfl (by omega) (by rw [frow_length]; omega) fun w4 hk4 hs => ?_)
        rw [Int.toNat_natCast, frow_one l1] at hs
        simp only [List.set_cons_zero] at hs
        refine T_nil ?_
        refine W_reg ?_
        refine T_pu rfl rfl (pu_move rfl) ?_
        refine T_pu rfl rfl (pu_move rfl) ?_
        refine T_pu rfl rfl (pu_move rfl) ?_
        refine T_pu rfl rfl (pu_move rfl) ?_
        refine T_pu rfl rfl (pu_add64 rfl rfl (by omega)) ?_
        refine T_go rfl rfl (st_call fn189 rfl ((l09Pair_ok n i (k + 1) hn h1 (by omega) (by omega) _).mono ?_))
        rintro v w' ⟨rfl, rfl⟩
        have l2 := lt (i := i) (j := k + 1) h1 (by omega) (by omega)
        refine T_pu rfl rfl (pu_move rfl) ?_
        refine T_pu rfl rfl ((by first | exact pu_ix1 Try.underlying22 ty2 rfl rfl (by omega) (by omega) | exact pu_index Try.underlying22 ty2 rfl rfl (by omega) (by omega))) ?_
        refine T_goN rfl (st_storeI hs 0 rfl ty2 rfl rfl (by omega) (by rw [frow_length]; omega) fun w5 hk5 hs => ?_)
        rw [Int.toNat_natCast, frow_two l2] at hs
        simp only [List.set_cons_zero] at hs
        have hK : KR n k q t i j = twoc (pN n i k) ((1 - q) % 10007) (pN n i (k + 1)) q := by unfold KR; rw [if_neg (by omega), if_pos (by omega)]
        refine T_nil ?_
        refine W_seq ?_
        refine W_reg ?_
        refine T_pu rfl rfl (pu_move rfl) ?_
        refine T_pu rfl rfl (pu_assign rfl) ?_
        refine T_nil ?_
        refine W_ret ?_
        first
          | exact Res_1 rfl rfl (by rw [hK]; exact hs.isNewI 0 rfl)
          | exact Res_1 rfl rfl (by rw [show KR n k q t i j = onec (pN n i j) 1 by unfold KR; rw [if_neg (by omega), if_neg (by omega), if_neg (by omega), if_neg (by omega), if_neg (by omega), if_neg (by omega)]]; exact hs.isNewI 0 rfl)
      · refine W_seq ?_
        refine W_reg ?_
        refine T_pu rfl rfl (pu_move rfl) ?_
        refine T_pu rfl rfl (pu_move rfl) ?_
        refine T_pu rfl rfl (pu_add64 rfl rfl (by omega)) ?_
        refine T_pu rfl rfl (pu_eql rfl rfl) ?_
        refine T_pu rfl rfl (pu_assign rfl) ?_
        refine T_nil ?_
        refine W_if rfl (fun hc10 => ?_) (fun hc10 => ?_)
        · refine W_seq ?_
          refine W_reg ?_
          refine T_pu rfl rfl (pu_move rfl) ?_
          refine T_pu rfl rfl (pu_move rfl) ?_
          refine T_pu rfl rfl (pu_move rfl) ?_
          refine T_pu rfl rfl (pu_move rfl) ?_
          refine T_go rfl rfl (st_call fn189 rfl ((l09Pair_ok n i k hn h1 (by omega) (by omega) _).mono ?_))
          rintro v w' ⟨rfl, rfl⟩
          have l1 := lt (i := i) (j := k) h1 (by omega) (by omega)
          refine T_pu rfl rfl ((by first | exact pu_ix1 Try.underlying22 ty2 rfl rfl (by omega) (by omega) | exact pu_index Try.underlying22 ty2 rfl rfl (by omega) (by omega))) ?_
          refine T_goN rfl (st_storeI hs 0 rfl ty2 rfl rfl (by omega) (by rw [frow_length]; omega) fun w4 hk4 hs => ?_)
          rw [Int.toNat_natCast, frow_one l1] at hs
          simp only [List.set_cons_zero] at hs
          refine T_nil ?_
          refine W_reg ?_
          refine T_pu rfl rfl (pu_move rfl) ?_
          refine T_pu rfl rfl (pu_move rfl) ?_
          refine T_pu rfl rfl (pu_move rfl) ?_
          refine T_pu rfl rfl (pu_move rfl) ?_
          refine T_pu rfl rfl (pu_move rfl) ?_
          refine T_pu rfl rfl (pu_move rfl) ?_
          refine T_pu rfl rfl (pu_sub64 rfl rfl (by omega)) ?_
          refine T_pu rfl rfl (pu_add64 rfl rfl (by omega)) ?_
          rw [show (k : Int) - (i : Int) + 1 = ((k - i + 1 : Nat) : Int) by omega]
          refine T_go rfl rfl (st_call fn190 rfl ((l09Power_ok q hq (k - i + 1) (by omega) _).mono ?_))
          rintro v w' ⟨rfl, rfl⟩
          have hp := pwr_range (q := q) (k - i + 1)
          have hm1 := emul_range (a := t) (by omega) hp
          refine T_pu rfl rfl (pu_mul64 rfl rfl (by omega)) ?_
          refine T_pu rfl rfl (pu_rem rfl rfl (by omega)) ?_
          rw [tmod_nn hm1.1]
          have hm2 := emul_range (em_range (t * pwr q (k - i + 1))) (b := q - 1) (by omega)
          refine T_pu rfl rfl (pu_move rfl) ?_
          refine T_pu rfl rfl (pu_sub64 rfl rfl (by omega)) ?_
          refine T_pu rfl rfl (pu_mul64 rfl rfl (by omega)) ?_
          refine T_go rfl rfl (st_call fn141 rfl ((l09Mod_ok _ _).mono ?_))
          rintro v w' ⟨rfl, rfl⟩
          refine T_pu rfl rfl ((by first | exact pu_ix1 Try.underlying22 ty2 rfl rfl (by omega) (by omega) | exact pu_index Try.underlying22 ty2 rfl rfl (by omega) (by omega))) ?_
          refine T_goN rfl (st_storeI hs 0 rfl ty2 rfl rfl (by omega) (by rw [frow_length]; omega) fun w5 hk5 hs => ?_)
          rw [Int.toNat_natCast, frow_two own] at hs
          simp only [List.set_cons_zero] at hs
          have hK : KR n k q t i j = twoc (pN n i k) 1 (pN n k (k + 1)) (t * pwr q (k - i + 1) % 10007 * (q - 1) % 10007) := by unfold KR; rw [if_neg (by omega), if_neg (by omega), if_pos (by omega)]
          refine T_nil ?_
          refine W_seq ?_
          refine W_reg ?_
          refine T_pu rfl rfl (pu_move rfl) ?_
          refine T_pu rfl rfl (pu_assign rfl) ?_
          refine T_nil ?_
          refine W_ret ?_
          first
            | exact Res_1 rfl rfl (by rw [hK]; exact hs.isNewI 0 rfl)
            | exact Res_1 rfl rfl (by rw [show KR n k q t i j = onec (pN n i j) 1 by unfold KR; rw [if_neg (by omega), if_neg (by omega), if_neg (by omega), if_neg (by omega), if_neg (by omega), if_neg (by omega)]]; exact hs.isNewI 0 rfl)
        · refine W_seq ?_
          refine W_reg ?_
          refine T_pu rfl rfl (pu_move rfl) ?_
          refine T_pu rfl rfl (pu_move rfl) ?_
          refine T_pu rfl rfl (pu_eql rfl rfl) ?_
          refine T_pu rfl rfl (pu_assign rfl) ?_
          refine T_nil ?_
          refine W_if rfl (fun hc13 => ?_) (fun hc13 => ?_)
          · refine W_seq ?_
            refine W_reg ?_
            refine T_pu rfl rfl (pu_move rfl) ?_
            refine T_pu rfl rfl (pu_move rfl) ?_
            refine T_pu rfl rfl (pu_move rfl) ?_
            refine T_pu rfl rfl (pu_move rfl) ?_
            refine T_pu rfl rfl (pu_mul64 rfl rfl (by omega)) ?_
            refine T_pu rfl rfl (pu_rem rfl rfl (by omega)) ?_
            rw [htq1]
            have hm2 := emul_range htqr (b := q - 1) (by omega)
            refine T_pu rfl rfl (pu_move rfl) ?_
            refine T_pu rfl rfl (pu_sub64 rfl rfl (by omega)) ?_
            refine T_pu rfl rfl (pu_mul64 rfl rfl (by omega)) ?_
            refine T_go rfl rfl (st_call fn141 rfl ((l09Mod_ok _ _).mono ?_))
            rintro v w' ⟨rfl, rfl⟩
            refine T_pu rfl rfl ((by first | exact pu_ix1 Try.underlying22 ty2 rfl rfl (by omega) (by omega) | exact pu_index Try.underlying22 ty2 rfl rfl (by omega) (by omega))) ?_
            refine T_goN rfl (st_storeI hs 0 rfl ty2 rfl rfl (by omega) (by rw [frow_length]; omega) fun w4 hk4 hs => ?_)
            rw [Int.toNat_natCast, frow_one own] at hs
            simp only [List.set_cons_zero] at hs
            refine T_nil ?_
            refine W_reg ?_
            refine T_pu rfl rfl (pu_move rfl) ?_
            refine T_pu rfl rfl (pu_move rfl) ?_
            refine T_pu rfl rfl (pu_move rfl) ?_
            refine T_pu rfl rfl (pu_add64 rfl rfl (by omega)) ?_
            refine T_pu rfl rfl (pu_move rfl) ?_
            refine T_go rfl rfl (st_call fn189 rfl ((l09Pair_ok n (k + 1) j hn (by omega) (by omega) h3 _).mono ?_))
            rintro v w' ⟨rfl, rfl⟩
            have l2 := lt (i := k + 1) (j := j) (by omega) (by omega) h3
            refine T_pu rfl rfl (pu_move rfl) ?_
            refine T_pu rfl rfl ((by first | exact pu_ix1 Try.underlying22 ty2 rfl rfl (by omega) (by omega) | exact pu_index Try.underlying22 ty2 rfl rfl (by omega) (by omega))) ?_
            refine T_goN rfl (st_storeI hs 0 rfl ty2 rfl rfl (by omega) (by rw [frow_length]; omega) fun w5 hk5 hs => ?_)
            rw [Int.toNat_natCast, frow_two l2] at hs
            simp only [List.set_cons_zero] at hs
            have hK : KR n k q t i j = twoc (pN n k (k + 1)) (t * q % 10007 * (q - 1) % 10007) (pN n (k + 1) j) q := by unfold KR; rw [if_neg (by omega), if_neg (by omega), if_neg (by omega), if_pos (by omega)]
            refine T_nil ?_
            refine W_seq ?_
            refine W_reg ?_
            refine T_pu rfl rfl (pu_move rfl) ?_
            refine T_pu rfl rfl (pu_assign rfl) ?_
            refine T_nil ?_
            refine W_ret ?_
            first
              | exact Res_1 rfl rfl (by rw [hK]; exact hs.isNewI 0 rfl)
              | exact Res_1 rfl rfl (by rw [show KR n k q t i j = onec (pN n i j) 1 by unfold KR; rw [if_neg (by omega), if_neg (by omega), if_neg (by omega), if_neg (by omega), if_neg (by omega), if_neg (by omega)]]; exact hs.isNewI 0 rfl)
          · refine W_seq ?_
            refine W_reg ?_
            refine T_pu rfl rfl (pu_move rfl) ?_
            refine T_pu rfl rfl (pu_move rfl) ?_
            refine T_pu rfl rfl (pu_add64 rfl rfl (by omega)) ?_
            refine T_pu rfl rfl (pu_eql rfl rfl) ?_
            refine T_pu rfl rfl (pu_assign rfl) ?_
            refine T_nil ?_
            refine W_if rfl (fun hc16 => ?_) (fun hc16 => ?_)
            · refine W_seq ?_
              refine W_reg ?_
              refine T_pu rfl rfl (pu_move rfl) ?_
              refine T_pu rfl rfl (pu_move rfl) ?_
              refine T_pu rfl rfl (pu_move rfl) ?_
              refine T_pu rfl rfl (pu_move rfl) ?_
              refine T_go rfl rfl (st_call fn189 rfl ((l09Pair_ok n k j hn hk.1 (by omega) h3 _).mono ?_))
              rintro v w' ⟨rfl, rfl⟩
              have l1 := lt (i := k) (j := j) hk.1 (by omega) h3
              refine T_pu rfl rfl ((by first | exact pu_ix1 Try.underlying22 ty2 rfl rfl (by omega) (by omega) | exact pu_index Try.underlying22 ty2 rfl rfl (by omega) (by omega))) ?_
              refine T_goN rfl (st_storeI hs 0 rfl ty2 rfl rfl (by omega) (by rw [frow_length]; omega) fun w4 hk4 hs => ?_)
              rw [Int.toNat_natCast, frow_one l1] at hs
              simp only [List.set_cons_zero] at hs
              refine T_nil ?_
              refine W_reg ?_
              refine T_pu rfl rfl (pu_move rfl) ?_
              refine T_pu rfl rfl (pu_move rfl) ?_
              refine T_pu rfl rfl (pu_move rfl) ?_
              refine T_pu rfl rfl (pu_add64 rfl rfl (by omega)) ?_
              refine T_pu rfl rfl (pu_move rfl) ?_
              refine T_go rfl rfl (st_call fn189 rfl ((l09Pair_ok n (k + 1) j hn (by omega) (by omega) h3 _).mono ?_))
              rintro v w' ⟨rfl, rfl⟩
              have l2 := lt (i := k + 1) (j := j) (by omega) (by omega) h3
              refine T_pu rfl rfl (pu_move rfl) ?_
              refine T_pu rfl rfl (pu_sub64 rfl rfl (by omega)) ?_
              refine T_go rfl rfl (st_call fn141 rfl ((l09Mod_ok _ _).mono ?_))
              rintro v w' ⟨rfl, rfl⟩
              refine T_pu rfl rfl ((by first | exact pu_ix1 Try.underlying22 ty2 rfl rfl (by omega) (by omega) | exact pu_index Try.underlying22 ty2 rfl rfl (by omega) (by omega))) ?_
              refine T_goN rfl (st_storeI hs 0 rfl ty2 rfl rfl (by omega) (by rw [frow_length]; omega) fun w5 hk5 hs => ?_)
              rw [Int.toNat_natCast, frow_two l2] at hs
              simp only [List.set_cons_zero] at hs
              have hK : KR n k q t i j = twoc (pN n k j) 1 (pN n (k + 1) j) ((1 - q) % 10007) := by unfold KR; rw [if_neg (by omega), if_neg (by omega), if_neg (by omega), if_neg (by omega), if_pos (by omega)]
              refine T_nil ?_
              refine W_seq ?_
              refine W_reg ?_
              refine T_pu rfl rfl (pu_move rfl) ?_
              refine T_pu rfl rfl (pu_assign rfl) ?_
              refine T_nil ?_
              refine W_ret ?_
              first
                | exact Res_1 rfl rfl (by rw [hK]; exact hs.isNewI 0 rfl)
                | exact Res_1 rfl rfl (by rw [show KR n k q t i j = onec (pN n i j) 1 by unfold KR; rw [if_neg (by omega), if_neg (by omega), if_neg (by omega), if_neg (by omega), if_neg (by omega), if_neg (by omega)]]; exact hs.isNewI 0 rfl)
            · refine W_seq ?_
              refine W_reg ?_
              refine T_pu rfl rfl (pu_move rfl) ?_
              refine T_pu rfl rfl (pu_move rfl) ?_
              refine T_pu rfl rfl (pu_move rfl) ?_
              refine T_pu rfl rfl (pu_move rfl) ?_
              refine T_go rfl rfl (st_call fn189 rfl ((l09Pair_ok n i j hn h1 h2 h3 _).mono ?_))
              rintro v w' ⟨rfl, rfl⟩
              have l1 := lt (i := i) (j := j) h1 h2 h3
              refine T_pu rfl rfl ((by first | exact pu_ix1 Try.underlying22 ty2 rfl rfl (by omega) (by omega) | exact pu_index Try.underlying22 ty2 rfl rfl (by omega) (by omega))) ?_
              refine T_goN rfl (st_storeI hs 0 rfl ty2 rfl rfl (by omega) (by rw [frow_length]; omega) fun w4 hk4 hs => ?_)
              rw [Int.toNat_natCast, frow_one l1] at hs
              simp only [List.set_cons_zero] at hs
              refine T_nil ?_
              refine W_seq ?_
              refine W_reg ?_
              refine T_pu rfl rfl (pu_move rfl) ?_
              refine T_pu rfl rfl (pu_move rfl) ?_
              refine T_pu rfl rfl (pu_lss rfl rfl) ?_
              refine T_if rfl rfl (pu_move rfl) (fun hg3_3 => ?_) (fun hg3_3 => ?_)
              · refine T_pu rfl rfl (pu_move rfl) ?_
                refine T_pu rfl rfl (pu_move rfl) ?_
                refine T_pu rfl rfl (pu_add64 rfl rfl (by omega)) ?_
                refine T_pu rfl rfl (pu_gtr rfl rfl) ?_
                refine T_pu rfl rfl (pu_pick_t rfl rfl) ?_
                refine T_nil ?_
                refine W_if rfl (fun hc3 => ?_) (fun hc3 => ?_)
                · refine W_reg ?_
                  refine T_pu rfl rfl (pu_move rfl) ?_
                  refine T_pu rfl rfl (pu_move rfl) ?_
                  refine T_pu rfl rfl (pu_move rfl) ?_
                  refine T_pu rfl rfl (pu_move rfl) ?_
                  refine T_pu rfl rfl (pu_move rfl) ?_
                  refine T_pu rfl rfl (pu_move rfl) ?_
                  refine T_pu rfl rfl (pu_sub64 rfl rfl (by omega)) ?_
                  rw [show (k : Int) - (i : Int) = ((k - i : Nat) : Int) by omega]
                  refine T_go rfl rfl (st_call fn190 rfl ((l09Power_ok q hq (k - i) (by omega) _).mono ?_))
                  rintro v w' ⟨rfl, rfl⟩
                  have hp := pwr_range (q := q) (k - i)
                  have hm1 := emul_range (a := t) (by omega) hp
                  refine T_pu rfl rfl (pu_mul64 rfl rfl (by omega)) ?_
                  refine T_pu rfl rfl (pu_rem rfl rfl (by omega)) ?_
                  rw [tmod_nn hm1.1]
                  have hm3 := emul_range (a := q - 1) (b := q - 1) (by omega) (by omega)
                  refine T_pu rfl rfl (pu_move rfl) ?_
                  refine T_pu rfl rfl (pu_sub64 rfl rfl (by omega)) ?_
                  refine T_pu rfl rfl (pu_move rfl) ?_
                  refine T_pu rfl rfl (pu_sub64 rfl rfl (by omega)) ?_
                  refine T_pu rfl rfl (pu_mul64 rfl rfl (by omega)) ?_
                  refine T_pu rfl rfl (pu_rem rfl rfl (by omega)) ?_
                  rw [tmod_nn hm3.1]
                  have hm2 := emul_range (em_range (t * pwr q (k - i))) (em_range ((q - 1) * (q - 1)))
                  refine T_pu rfl rfl (pu_mul64 rfl rfl (by omega)) ?_
                  refine T_go rfl rfl (st_call fn141 rfl ((l09Mod_ok _ _).mono ?_))
                  rintro v w' ⟨rfl, rfl⟩
                  refine T_pu rfl rfl ((by first | exact pu_ix1 Try.underlying22 ty2 rfl rfl (by omega) (by omega) | exact pu_index Try.underlying22 ty2 rfl rfl (by omega) (by omega))) ?_
                  refine T_goN rfl (st_storeI hs 0 rfl ty2 rfl rfl (by omega) (by rw [frow_length]; omega) fun w5 hk5 hs => ?_)
                  rw [Int.toNat_natCast, frow_two own] at hs
                  simp only [List.set_cons_zero] at hs
                  have hK : KR n k q t i j = twoc (pN n i j) 1 (pN n k (k + 1)) (t * pwr q (k - i) % 10007 * ((q - 1) * (q - 1) % 10007) % 10007) := by unfold KR; rw [if_neg (by omega), if_neg (by omega), if_neg (by omega), if_neg (by omega), if_neg (by omega), if_pos (by omega)]
                  refine T_nil ?_
                  refine W_seq ?_
                  refine W_reg ?_
                  refine T_pu rfl rfl (pu_move rfl) ?_
                  refine T_pu rfl rfl (pu_assign rfl) ?_
                  refine T_nil ?_
                  refine W_ret ?_
                  first
                    | exact Res_1 rfl rfl (by rw [hK]; exact hs.isNewI 0 rfl)
                    | exact Res_1 rfl rfl (by rw [show KR n k q t i j = onec (pN n i j) 1 by unfold KR; rw [if_neg (by omega), if_neg (by omega), if_neg (by omega), if_neg (by omega), if_neg (by omega), if_neg (by omega)]]; exact hs.isNewI 0 rfl)
                · refine W_skip ?_
                  refine W_seq ?_
                  refine W_reg ?_
                  refine T_pu rfl rfl (pu_move rfl) ?_
                  refine T_pu rfl rfl (pu_assign rfl) ?_
                  refine T_nil ?_
                  refine W_ret ?_
                  first
                    | exact Res_1 rfl rfl (by rw [hK]; exact hs.isNewI 0 rfl)
                    | exact Res_1 rfl rfl (by rw [show KR n k q t i j = onec (pN n i j) 1 by unfold KR; rw [if_neg (by omega), if_neg (by omega), if_neg (by omega), if_neg (by omega), if_neg (by omega), if_neg (by omega)]]; exact hs.isNewI 0 rfl)
              · refine T_no rfl rfl ?_
                refine T_no rfl rfl ?_
                refine T_no rfl rfl ?_
                refine T_no rfl rfl ?_
                refine T_pu rfl rfl (pu_pick_f rfl rfl) ?_
                refine T_nil ?_
                refine W_false rfl ?_
                refine W_skip ?_
                refine W_seq ?_
                refine W_reg ?_
                refine T_pu rfl rfl (pu_move rfl) ?_
                refine T_pu rfl rfl (pu_assign rfl) ?_
                refine T_nil ?_
                refine W_ret ?_
                first
                  | exact Res_1 rfl rfl (by rw [hK]; exact hs.isNewI 0 rfl)
                  | exact Res_1 rfl rfl (by rw [show KR n k q t i j = onec (pN n i j) 1 by unfold KR; rw [if_neg (by omega), if_neg (by omega), if_neg (by omega), if_neg (by omega), if_neg (by omega), if_neg (by omega)]]; exact hs.isNewI 0 rfl)
end Go.Proofs.Ytdpbfdjpeofbmaa.L
