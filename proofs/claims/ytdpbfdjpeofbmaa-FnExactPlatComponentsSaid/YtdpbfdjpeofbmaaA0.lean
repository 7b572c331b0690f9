/- Small functions of words. -/
import Derived.Test.YtdpbfdjpeofbmaaL7
import Derived.Test.YtdpbfdjpeofbmaaTy
namespace Go.Proofs.Ytdpbfdjpeofbmaa.L
set_option linter.unusedVariables false
set_option maxRecDepth 100000

theorem within_ok (n lo hi : Int) (w : World) : CallsR Try.prog 98 #[.int .i64 n, .int .i64 lo, .int .i64 hi] w fun v w' => v = .bool (decide (lo ≤ n ∧ n ≤ hi)) ∧ w = w' := by
  refine fn_calls Try.func98 rfl rfl rfl ?_
  refine W_seq ?_
  refine W_reg ?_
  refine T_pu rfl rfl (pu_assign rfl) ?_
  refine T_nil ?_
  refine W_seq ?_
  refine W_reg ?_
  refine T_pu rfl rfl (pu_move rfl) ?_
  refine T_pu rfl rfl (pu_move rfl) ?_
  refine T_pu rfl rfl (pu_geq rfl rfl) ?_
  refine T_if rfl rfl (pu_move rfl) (fun hg1_3 => ?_) (fun hg1_3 => ?_)
  · refine T_pu rfl rfl (pu_move rfl) ?_
    refine T_pu rfl rfl (pu_move rfl) ?_
    refine T_pu rfl rfl (pu_leq rfl rfl) ?_
    refine T_pu rfl rfl (pu_pick_t rfl rfl) ?_
    refine T_pu rfl rfl (pu_assign rfl) ?_
    refine T_nil ?_
    refine W_ret ?_
    exact Res_1 rfl rfl ⟨by congr 1; simp; omega, rfl⟩
  · refine T_no rfl rfl ?_
    refine T_no rfl rfl ?_
    refine T_no rfl rfl ?_
    refine T_pu rfl rfl (pu_pick_f rfl rfl) ?_
    refine T_pu rfl rfl (pu_assign rfl) ?_
    refine T_nil ?_
    refine W_ret ?_
    exact Res_1 rfl rfl ⟨by congr 1; simp; omega, rfl⟩
theorem l01In_ok (n lo hi : Int) (w : World) : CallsR Try.prog 135 #[.int .i64 n, .int .i64 lo, .int .i64 hi] w fun v w' => v = .bool (decide (lo ≤ n ∧ n ≤ hi)) ∧ w = w' := by
  refine fn_calls Try.func135 rfl rfl rfl ?_
  refine W_seq ?_
  refine W_reg ?_
  refine T_pu rfl rfl (pu_assign rfl) ?_
  refine T_nil ?_
  refine W_seq ?_
  refine W_reg ?_
  refine T_pu rfl rfl (pu_move rfl) ?_
  refine T_pu rfl rfl (pu_move rfl) ?_
  refine T_pu rfl rfl (pu_geq rfl rfl) ?_
  refine T_if rfl rfl (pu_move rfl) (fun hg1_3 => ?_) (fun hg1_3 => ?_)
  · refine T_pu rfl rfl (pu_move rfl) ?_
    refine T_pu rfl rfl (pu_move rfl) ?_
    refine T_pu rfl rfl (pu_leq rfl rfl) ?_
    refine T_pu rfl rfl (pu_pick_t rfl rfl) ?_
    refine T_pu rfl rfl (pu_assign rfl) ?_
    refine T_nil ?_
    refine W_ret ?_
    exact Res_1 rfl rfl ⟨by congr 1; simp; omega, rfl⟩
  · refine T_no rfl rfl ?_
    refine T_no rfl rfl ?_
    refine T_no rfl rfl ?_
    refine T_pu rfl rfl (pu_pick_f rfl rfl) ?_
    refine T_pu rfl rfl (pu_assign rfl) ?_
    refine T_nil ?_
    refine W_ret ?_
    exact Res_1 rfl rfl ⟨by congr 1; simp; omega, rfl⟩
theorem isCount_ok (n : Int) (w : World) : CallsR Try.prog 137 #[.int .i64 n] w fun v w' => v = .bool (decide (1 ≤ n ∧ n ≤ 8)) ∧ w = w' := by
  refine fn_calls Try.func137 rfl rfl rfl ?_
  refine W_seq ?_
  refine W_reg ?_
  refine T_pu rfl rfl (pu_assign rfl) ?_
  refine T_nil ?_
  refine W_seq ?_
  refine W_reg ?_
  refine T_pu rfl rfl (pu_move rfl) ?_
  refine T_go rfl rfl (st_call fn98 rfl ((within_ok _ _ _ _).mono ?_))
  rintro v w' ⟨rfl, rfl⟩
  refine T_pu rfl rfl (pu_assign rfl) ?_
  refine T_nil ?_
  refine W_ret ?_
  exact Res_1 rfl rfl ⟨rfl, rfl⟩
theorem size_ok (x : Int) (hx : -9223372036854775807 ≤ x ∧ x ≤ 9223372036854775807) (w : World) : CallsR Try.prog 140 #[.int .i64 x] w fun v w' => v = .int .i64 (max x (-x)) ∧ w = w' := by
  refine fn_calls Try.func140 rfl rfl rfl ?_
  refine W_seq ?_
  refine W_reg ?_
  refine T_pu rfl rfl (pu_assign rfl) ?_
  refine T_nil ?_
  refine W_seq ?_
  refine W_reg ?_
  refine T_pu rfl rfl (pu_move rfl) ?_
  refine T_pu rfl rfl (pu_move rfl) ?_
  refine T_pu rfl rfl (pu_neg64 rfl (by omega)) ?_
  refine T_pu rfl rfl (pu_max rfl rfl) ?_
  refine T_pu rfl rfl (pu_assign rfl) ?_
  refine T_nil ?_
  refine W_ret ?_
  exact Res_1 rfl rfl ⟨rfl, rfl⟩
theorem isLetter_ok (x n : Int) (hn : 1 ≤ n ∧ n ≤ 8) (w : World) : CallsR Try.prog 138 #[.int .i64 x, .int .i64 n] w fun v w' => v = .bool (decide (x ≠ 0 ∧ 1 - n ≤ x ∧ x ≤ n - 1)) ∧ w = w' := by
  refine fn_calls Try.func138 rfl rfl rfl ?_
  refine W_seq ?_
  refine W_reg ?_
  refine T_pu rfl rfl (pu_assign rfl) ?_
  refine T_nil ?_
  refine W_seq ?_
  refine W_reg ?_
  refine T_pu rfl rfl (pu_move rfl) ?_
  refine T_pu rfl rfl (pu_neq rfl rfl) ?_
  refine T_if rfl rfl (pu_move rfl) (fun hg1_2 => ?_) (fun hg1_2 => ?_)
  · refine T_pu rfl rfl (pu_move rfl) ?_
    refine T_pu rfl rfl (pu_move rfl) ?_
    refine T_pu rfl rfl (pu_sub64 rfl rfl (by omega)) ?_
    refine T_pu rfl rfl (pu_move rfl) ?_
    refine T_pu rfl rfl (pu_sub64 rfl rfl (by omega)) ?_
    refine T_go rfl rfl (st_call fn98 rfl ((within_ok _ _ _ _).mono ?_))
    rintro v w' ⟨rfl, rfl⟩
    refine T_pu rfl rfl (pu_pick_t rfl rfl) ?_
    refine T_pu rfl rfl (pu_assign rfl) ?_
    refine T_nil ?_
    refine W_ret ?_
    exact Res_1 rfl rfl ⟨by congr 1; simp; omega, rfl⟩
  · refine T_no rfl rfl ?_
    refine T_no rfl rfl ?_
    refine T_no rfl rfl ?_
    refine T_no rfl rfl ?_
    refine T_no rfl rfl ?_
    refine T_no rfl rfl ?_
    refine T_pu rfl rfl (pu_pick_f rfl rfl) ?_
    refine T_pu rfl rfl (pu_assign rfl) ?_
    refine T_nil ?_
    refine W_ret ?_
    exact Res_1 rfl rfl ⟨by congr 1; simp; omega, rfl⟩

/-! ### Braids -/
def Lt (n x : Int) : Prop := x ≠ 0 ∧ 1 - n ≤ x ∧ x ≤ n - 1
instance (n x : Int) : Decidable (Lt n x) := inferInstanceAs (Decidable (_ ∧ _))
def Br (n : Int) (xs : List Int) : Prop := (1 ≤ n ∧ n ≤ 8) ∧ xs.length ≤ 200 ∧ ∀ x ∈ xs, Lt n x
instance (n : Int) (xs : List Int) : Decidable (Br n xs) := inferInstanceAs (Decidable (_ ∧ _))
theorem rd_mem {xs : List Int} {i : Nat} (h : i < xs.length) : rd xs i ∈ xs := by
  unfold rd
  rw [Int.toNat_natCast, List.getD_eq_getElem?_getD, List.getElem?_eq_getElem h]
  exact List.getElem_mem h
theorem take_all {p : Int → Prop} {xs : List Int} {k : Nat} (h : ∀ i : Nat, i < k → p (rd xs i)) (hk : k = xs.length) : ∀ x ∈ xs, p x := by
  intro x hx
  obtain ⟨i, hi, rfl⟩ := List.mem_iff_getElem.1 hx
  have := h i (by omega)
  unfold rd at this
  rwa [Int.toNat_natCast, List.getD_eq_getElem?_getD, List.getElem?_eq_getElem hi] at this
theorem IsBraid_ok (n : Int) (v : Value) (xs : List Int) (w : World) (hv : RI w v xs) (hl : xs.length ≤ 9223372036854775807) : CallsR Try.prog 72 #[.agg #[.int .i64 n, v]] w fun r w' => r = .bool (decide (Br n xs)) ∧ Kp no w w' := by
  obtain ⟨A, c, rfl, hc⟩ := hv.open
  refine fn_calls Try.func72 rfl rfl rfl ?_
  refine W_seq ?_
  refine W_reg ?_
  refine T_go rfl rfl (st_box rfl fun w1 b1 hk1 hb1 hB1 => ?_)
  have hv := hv.keep hk1
  refine T_pu rfl rfl (pu_assign rfl) ?_
  refine T_nil ?_
  refine W_seq ?_
  refine W_seq ?_
  refine W_reg ?_
  refine T_pu rfl rfl (pu_fld (off := 0) Try.underlying28 rfl rfl ty2 rfl rfl) ?_
  refine T_pi rfl rfl (pi_load Try.underlying2 rfl rfl (fun w' h => by obtain rfl := h; exact (by first | exact hB1.cell rfl))) ?_
  refine T_go rfl rfl (st_call fn137 rfl ((isCount_ok _ _).mono ?_))
  rintro v w' ⟨rfl, rfl⟩
  refine T_pu rfl rfl (pu_notp rfl) ?_
  refine T_if rfl rfl (pu_move rfl) (fun hg1_4 => ?_) (fun hg1_4 => ?_)
  · refine T_no rfl rfl ?_
    refine T_no rfl rfl ?_
    refine T_no rfl rfl ?_
    refine T_no rfl rfl ?_
    refine T_pu rfl rfl (pu_pick_t rfl rfl) ?_
    refine T_nil ?_
    refine W_true rfl ?_
    refine W_seq ?_
    refine W_reg ?_
    refine T_pu rfl rfl (pu_assign rfl) ?_
    refine T_nil ?_
    refine W_ret ?_
    refine Res_1 rfl rfl ⟨?_, hk1⟩
    congr 1
    exact (decide_eq_false (fun hBr => by first | exact hg1_4 hBr.1 | (have := hBr.2.1; omega))).symm
  · refine T_pu rfl rfl (pu_fld (off := 1) Try.underlying28 rfl rfl ty22 rfl rfl) ?_
    refine T_pi rfl rfl (pi_load Try.underlying22 rfl rfl (fun w' h => by obtain rfl := h; exact (by first | exact hB1.cell rfl))) ?_
    refine T_pu rfl rfl (pu_len Try.underlying22 rfl) ?_
    refine T_pu rfl rfl (pu_gtr rfl rfl) ?_
    refine T_pu rfl rfl (pu_pick_f rfl rfl) ?_
    refine T_nil ?_
    refine W_if rfl (fun hc1 => ?_) (fun hc1 => ?_)
    · refine W_seq ?_
      refine W_reg ?_
      refine T_pu rfl rfl (pu_assign rfl) ?_
      refine T_nil ?_
      refine W_ret ?_
      refine Res_1 rfl rfl ⟨?_, hk1⟩
      congr 1
      exact (decide_eq_false (fun hBr => by first | exact hg1_4 hBr.1 | (have := hBr.2.1; omega))).symm
    · refine W_skip ?_
      refine W_seq ?_
      refine W_seq ?_
      have hn : 1 ≤ n ∧ n ≤ 8 := by simpa using hg1_4
      have hlen : xs.length ≤ 200 := by omega
      refine W_reg ?_
      refine T_pu rfl rfl (pu_fld (off := 1) Try.underlying28 rfl rfl ty22 rfl rfl) ?_
      refine T_pi rfl rfl (pi_load Try.underlying22 rfl rfl (fun w' h => by obtain rfl := h; exact (by first | exact hB1.cell rfl))) ?_
      refine T_pu rfl rfl (pu_len Try.underlying22 rfl) ?_
      refine T_pu rfl rfl (pu_move rfl) ?_
      refine T_nil ?_
      refine W_block ?_
      refine W_loop (σ := Nat) (fun k => [(1, .pointer (some ⟨b1, 0, none⟩)), (16, .slice A xs.length c), (17, .int .i64 xs.length), (18, .int .i64 k)]) (fun k w' => Kp no w1 w' ∧ k ≤ xs.length ∧ ∀ i : Nat, i < k → Lt n (rd xs i)) (fun k => xs.length - k) 0 ?_ ?_ ?_
      · exact .cons rfl (.cons rfl (.cons rfl (.cons rfl (.nil _))))
      · exact ⟨Kp.refl _ _, Nat.zero_le _, fun i h => by omega⟩
      rintro k w2 ⟨hk2, hkl, hall⟩
      have hB2 := hB1.keep hk2 id
      have hv2 := hv.keep hk2
      refine W_seq ?_
      refine W_reg ?_
      refine T_pu rfl rfl (pu_lss rfl rfl) ?_
      refine T_nil ?_
      refine W_seq ?_
      refine W_if rfl (fun hc4 => ?_) (fun hc4 => ?_)
      · refine W_skip ?_
        refine W_seq ?_
        refine W_block ?_
        refine W_seq ?_
        obtain ⟨a, rfl⟩ := hv2.addr (i := k) (by omega) (by omega)
        refine W_reg ?_
        refine T_pu rfl rfl ((by first | exact pu_ix1 Try.underlying22 ty2 rfl rfl (by omega) (by omega) | exact pu_index Try.underlying22 ty2 rfl rfl (by omega) (by omega))) ?_
        refine T_pi rfl rfl (pi_load Try.underlying2 rfl rfl (fun w' h => by obtain rfl := h; exact (by first | exact hv2.at (by omega) (by omega) | exact hB2.cell rfl))) ?_
        refine T_pu rfl rfl (pu_assign rfl) ?_
        refine T_nil ?_
        refine W_seq ?_
        refine W_reg ?_
        refine T_pu rfl rfl (pu_move rfl) ?_
        refine T_pu rfl rfl (pu_fld (off := 0) Try.underlying28 rfl rfl ty2 rfl rfl) ?_
        refine T_pi rfl rfl (pi_load Try.underlying2 rfl rfl (fun w' h => by obtain rfl := h; exact (by first | exact hv2.at (by omega) (by omega) | exact hB2.cell rfl))) ?_
        refine T_go rfl rfl (st_call fn138 rfl ((isLetter_ok _ _ hn _).mono ?_))
        rintro v w' ⟨rfl, rfl⟩
        refine T_pu rfl rfl (pu_notp rfl) ?_
        refine T_nil ?_
        refine W_if rfl (fun hc6 => ?_) (fun hc6 => ?_)
        · refine W_seq ?_
          refine W_reg ?_
          refine T_pu rfl rfl (pu_assign rfl) ?_
          refine T_nil ?_
          refine W_ret ?_
          refine Res_1 rfl rfl ⟨?_, hk1.next hk2⟩
          congr 1
          simp only [false_eq_decide_iff]
          intro hBr
          exact hc6 (hBr.2.2 _ (rd_mem (by omega)))
        · refine W_skip ?_
          refine W_reg ?_
          refine T_pu rfl rfl (pu_add64 rfl rfl (by omega)) ?_
          refine T_pu rfl rfl (pu_move rfl) ?_
          refine T_nil ?_
          exact ⟨k + 1, .cons rfl (.cons rfl (.cons rfl (.cons rfl (.nil _)))), ⟨hk2, by omega, fun i hi => by
            by_cases e : i = k
            · subst e; exact Decidable.not_not.1 hc6
            · exact hall i (by omega)⟩, by omega⟩
      · refine W_exit rfl ?_
        refine W_seq ?_
        refine W_reg ?_
        refine T_pu rfl rfl (pu_assign rfl) ?_
        refine T_nil ?_
        refine W_ret ?_
        refine Res_1 rfl rfl ⟨?_, hk1.next hk2⟩
        congr 1
        exact (decide_eq_true ⟨hn, hlen, take_all hall (by omega)⟩).symm
end Go.Proofs.Ytdpbfdjpeofbmaa.L
