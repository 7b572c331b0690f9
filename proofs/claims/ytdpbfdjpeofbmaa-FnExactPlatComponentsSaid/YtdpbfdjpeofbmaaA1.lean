/- Words of braids again (the reference's), copies, primes, inverses modulo a prime, colours. -/
import Derived.Test.YtdpbfdjpeofbmaaB0
namespace Go.Proofs.Ytdpbfdjpeofbmaa.L
set_option linter.unusedVariables false
set_option maxRecDepth 100000

theorem neg_wrap {x : Int} (h : -9223372036854775808 ≤ x ∧ x ≤ 9223372036854775807) : IntKind.i64.wrap (-x) = -x ∨ (x = -9223372036854775808 ∧ IntKind.i64.wrap (-x) = -9223372036854775808) := by
  by_cases e : x = -9223372036854775808
  · subst e; exact .inr ⟨rfl, by decide⟩
  · exact .inl (w64_in (by omega))
theorem tm {p : Int} (h : 0 ≤ p) (k : Nat) : p.tmod k = ((p.toNat % k : Nat) : Int) := by
  obtain ⟨q, rfl⟩ : ∃ q : Nat, p = q := ⟨p.toNat, by omega⟩
  rw [Int.tmod_eq_emod_of_nonneg h, Int.toNat_natCast, Int.natCast_emod]
theorem l01Is_ok (n : Int) (v : Value) (xs : List Int) (w : World) (hv : RI w v xs) (hl : xs.length ≤ 9223372036854775807) (hw : ∀ x ∈ xs, -9223372036854775808 ≤ x ∧ x ≤ 9223372036854775807) : CallsR Try.prog 67 #[.agg #[.int .i64 n, v]] w fun r w' => r = .bool (decide (Br n xs)) ∧ Kp no w w' := by
  obtain ⟨A, c, rfl, hc⟩ := hv.open
  refine fn_calls Try.func67 rfl rfl rfl ?_
  refine W_seq ?_
  refine W_reg ?_
  refine T_go rfl rfl (st_box rfl fun w1 b1 hk1 hb1 hB1 => ?_)
  have hv := hv.keep hk1
  refine T_pu rfl rfl (pu_assign rfl) ?_
  refine T_nil ?_
  refine W_seq ?_
  refine W_seq ?_
  refine W_reg ?_
  refine T_pu rfl rfl (pu_fld (off := 0) Try.underlying28 rfl rfl ty2 rfl rfl) ?_
  refine T_pi rfl rfl (pi_load Try.underlying2 rfl rfl (fun w' h => by obtain rfl := h; exact (by first | exact hB1.cell rfl))) ?_
  refine T_go rfl rfl (st_call fn135 rfl ((l01In_ok _ _ _ _).mono ?_))
  rintro v w' ⟨rfl, rfl⟩
  refine T_pu rfl rfl (pu_notp rfl) ?_
  refine T_if rfl rfl (pu_move rfl) (fun hg1_4 => ?_) (fun hg1_4 => ?_)
  · refine T_no rfl rfl ?_
    refine T_no rfl rfl ?_
    refine T_no rfl rfl ?_
    refine T_no rfl rfl ?_
    refine T_pu rfl rfl (pu_pick_t rfl rfl) ?_
    refine T_nil ?_
    refine W_true rfl ?_
    refine W_seq ?_
    refine W_reg ?_
    refine T_pu rfl rfl (pu_assign rfl) ?_
    refine T_nil ?_
    refine W_ret ?_
    refine Res_1 rfl rfl ⟨?_, hk1⟩
    congr 1
    exact (decide_eq_false (fun hBr => by first | exact hg1_4 hBr.1 | (have := hBr.2.1; omega))).symm
  · refine T_pu rfl rfl (pu_fld (off := 1) Try.underlying28 rfl rfl ty22 rfl rfl) ?_
    refine T_pi rfl rfl (pi_load Try.underlying22 rfl rfl (fun w' h => by obtain rfl := h; exact (by first | exact hB1.cell rfl))) ?_
    refine T_pu rfl rfl (pu_len Try.underlying22 rfl) ?_
    refine T_pu rfl rfl (pu_gtr rfl rfl) ?_
    refine T_pu rfl rfl (pu_pick_f rfl rfl) ?_
    refine T_nil ?_
    refine W_if rfl (fun hc1 => ?_) (fun hc1 => ?_)
    · refine W_seq ?_
      refine W_reg ?_
      refine T_pu rfl rfl (pu_assign rfl) ?_
      refine T_nil ?_
      refine W_ret ?_
      refine Res_1 rfl rfl ⟨?_, hk1⟩
      congr 1
      exact (decide_eq_false (fun hBr => by first | exact hg1_4 hBr.1 | (have := hBr.2.1; omega))).symm
    · refine W_skip ?_
      refine W_seq ?_
      refine W_seq ?_
      have hn : 1 ≤ n ∧ n ≤ 8 := by simpa using hg1_4
      have hlen : xs.length ≤ 200 := by omega
      refine W_reg ?_
      refine T_pu rfl rfl (pu_assign rfl) ?_
      refine T_nil ?_
      refine W_block ?_
      refine W_loop (σ := Nat) (fun k => [(1, .pointer (some ⟨b1, 0, none⟩)), (3, .int .i64 k)]) (fun k w' => Kp no w1 w' ∧ k ≤ xs.length ∧ ∀ i : Nat, i < k → Lt n (rd xs i)) (fun k => xs.length - k) 0 ?_ ?_ ?_
      · exact .cons rfl (.cons rfl (.nil _))
      · exact ⟨Kp.refl _ _, Nat.zero_le _, fun i h => by omega⟩
      rintro k w2 ⟨hk2, hkl, hall⟩
      have hB2 := hB1.keep hk2 id
      have hv2 := hv.keep hk2
      refine W_seq ?_
      refine W_seq ?_
      refine W_reg ?_
      refine T_pu rfl rfl (pu_move rfl) ?_
      refine T_pu rfl rfl (pu_fld (off := 1) Try.underlying28 rfl rfl ty22 rfl rfl) ?_
      refine T_pi rfl rfl (pi_load Try.underlying22 rfl rfl (fun w' h => by obtain rfl := h; exact (by first | exact hB2.cell rfl))) ?_
      refine T_pu rfl rfl (pu_len Try.underlying22 rfl) ?_
      refine T_pu rfl rfl (pu_lss rfl rfl) ?_
      refine T_nil ?_
      refine W_if rfl (fun hc4 => ?_) (fun hc4 => ?_)
      · refine W_skip ?_
        refine W_seq ?_
        refine W_block ?_
        refine W_seq ?_
        obtain ⟨a, rfl⟩ := hv2.addr (i := k) (by omega) (by omega)
        have hxw := hw _ (rd_mem (i := k) (by omega))
        refine W_reg ?_
        refine T_pu rfl rfl (pu_fld (off := 1) Try.underlying28 rfl rfl ty22 rfl rfl) ?_
        refine T_pi rfl rfl (pi_load Try.underlying22 rfl rfl (fun w' h => by obtain rfl := h; exact (by first | exact hv2.at (by omega) (by omega) | exact hB2.cell rfl))) ?_
        refine T_pu rfl rfl (pu_move rfl) ?_
        refine T_pu rfl rfl ((by first | exact pu_ix1 Try.underlying22 ty2 rfl rfl (by omega) (by omega) | exact pu_index Try.underlying22 ty2 rfl rfl (by omega) (by omega))) ?_
        refine T_pi rfl rfl (pi_load Try.underlying2 rfl rfl (fun w' h => by obtain rfl := h; exact (by first | exact hv2.at (by omega) (by omega) | exact hB2.cell rfl))) ?_
        refine T_pu rfl rfl (pu_assign rfl) ?_
        refine T_nil ?_
        refine W_seq ?_
        refine W_reg ?_
        refine T_pu rfl rfl (pu_move rfl) ?_
        refine T_pu rfl rfl (pu_fld (off := 0) Try.underlying28 rfl rfl ty2 rfl rfl) ?_
        refine T_pi rfl rfl (pi_load Try.underlying2 rfl rfl (fun w' h => by obtain rfl := h; exact (by first | exact hv2.at (by omega) (by omega) | exact hB2.cell rfl))) ?_
        refine T_pu rfl rfl (pu_sub64 rfl rfl (by omega)) ?_
        refine T_go rfl rfl (st_call fn135 rfl ((l01In_ok _ _ _ _).mono ?_))
        rintro v w' ⟨rfl, rfl⟩
        refine T_pu rfl rfl (pu_notp rfl) ?_
        refine T_if rfl rfl (pu_move rfl) (fun hg7_6 => ?_) (fun hg7_6 => ?_)
        · refine T_pu rfl rfl (pu_move rfl) ?_
          refine T_pu rfl rfl (pu_neg rfl) ?_
          have hneg := neg_wrap hxw
          refine T_pu rfl rfl (pu_fld (off := 0) Try.underlying28 rfl rfl ty2 rfl rfl) ?_
          refine T_pi rfl rfl (pi_load Try.underlying2 rfl rfl (fun w' h => by obtain rfl := h; exact (by first | exact hv2.at (by omega) (by omega) | exact hB2.cell rfl))) ?_
          refine T_pu rfl rfl (pu_sub64 rfl rfl (by omega)) ?_
          refine T_go rfl rfl (st_call fn135 rfl ((l01In_ok _ _ _ _).mono ?_))
          rintro v w' ⟨rfl, rfl⟩
          refine T_pu rfl rfl (pu_notp rfl) ?_
          refine T_pu rfl rfl (pu_pick_t rfl rfl) ?_
          refine T_nil ?_
          refine W_if rfl (fun hc7 => ?_) (fun hc7 => ?_)
          · refine W_seq ?_
            refine W_reg ?_
            refine T_pu rfl rfl (pu_assign rfl) ?_
            refine T_nil ?_
            refine W_ret ?_
            refine Res_1 rfl rfl ⟨?_, hk1.next hk2⟩
            congr 1
            simp only [false_eq_decide_iff]
            intro hBr
            have := hBr.2.2 _ (rd_mem (i := k) (by omega))
            unfold Lt at this
            omega
          · refine W_skip ?_
            refine W_reg ?_
            refine T_pu rfl rfl (pu_move rfl) ?_
            refine T_pu rfl rfl (pu_add64 rfl rfl (by omega)) ?_
            refine T_pu rfl rfl (pu_assign rfl) ?_
            refine T_nil ?_
            exact ⟨k + 1, .cons rfl (.cons rfl (.nil _)), ⟨hk2, by omega, fun i hi => by
              by_cases e : i = k
              · subst e; unfold Lt; omega
              · exact hall i (by omega)⟩, by omega⟩
        · refine T_no rfl rfl ?_
          refine T_no rfl rfl ?_
          refine T_no rfl rfl ?_
          refine T_no rfl rfl ?_
          refine T_no rfl rfl ?_
          refine T_no rfl rfl ?_
          refine T_no rfl rfl ?_
          refine T_pu rfl rfl (pu_pick_f rfl rfl) ?_
          refine T_nil ?_
          refine W_false rfl ?_
          refine W_skip ?_
          refine W_reg ?_
          refine T_pu rfl rfl (pu_move rfl) ?_
          refine T_pu rfl rfl (pu_add64 rfl rfl (by omega)) ?_
          refine T_pu rfl rfl (pu_assign rfl) ?_
          refine T_nil ?_
          exact ⟨k + 1, .cons rfl (.cons rfl (.nil _)), ⟨hk2, by omega, fun i hi => by
            by_cases e : i = k
            · subst e; unfold Lt; omega
            · exact hall i (by omega)⟩, by omega⟩
      · refine W_exit rfl ?_
        refine W_seq ?_
        refine W_reg ?_
        refine T_pu rfl rfl (pu_assign rfl) ?_
        refine T_nil ?_
        refine W_ret ?_
        refine Res_1 rfl rfl ⟨?_, hk1.next hk2⟩
        congr 1
        exact (decide_eq_true ⟨hn, hlen, take_all hall (by omega)⟩).symm
theorem copyOf_ok (v : Value) (xs : List Int) (w : World) (hv : RI w v xs) (hl : xs.length ≤ 17592186044415) : CallsR Try.prog 139 #[v] w fun r w' => NewI w w' r xs := by
  have hs := St.start w
  refine fn_calls Try.func139 rfl rfl rfl ?_
  refine W_seq ?_
  refine W_reg ?_
  refine T_pu rfl rfl (pu_assign rfl) ?_
  refine T_nil ?_
  refine W_seq ?_
  refine W_reg ?_
  refine T_go rfl rfl (st_litI hs [] rfl (fun _ => by kernel_rfl) rfl rfl fun w1 b1 hk1 hb1 hs => ?_)
  refine T_pu rfl rfl (pu_move rfl) ?_
  refine T_go rfl rfl (st_appendI hs 0 rfl Try.underlying22 ty2 rfl rfl (hv.keep hk1) (by simpa using hl) fun v' w2 hs hk2 hf2 => ?_)
  refine T_pu rfl rfl (pu_assign rfl) ?_
  refine T_nil ?_
  refine W_ret ?_
  exact Res_1 rfl rfl (hs.isNewI 0 rfl)
theorem l01Own_ok (v : Value) (xs : List Int) (w : World) (hv : RI w v xs) (hl : xs.length ≤ 17592186044415) : CallsR Try.prog 136 #[v] w fun r w' => NewI w w' r xs := by
  have hs := St.start w
  refine fn_calls Try.func136 rfl rfl rfl ?_
  refine W_seq ?_
  refine W_reg ?_
  refine T_pu rfl rfl (pu_assign rfl) ?_
  refine T_nil ?_
  refine W_seq ?_
  refine W_reg ?_
  refine T_go rfl rfl (st_litI hs [] rfl (fun _ => by kernel_rfl) rfl rfl fun w1 b1 hk1 hb1 hs => ?_)
  refine T_pu rfl rfl (pu_move rfl) ?_
  refine T_go rfl rfl (st_appendI hs 0 rfl Try.underlying22 ty2 rfl rfl (hv.keep hk1) (by simpa using hl) fun v' w2 hs hk2 hf2 => ?_)
  refine T_pu rfl rfl (pu_assign rfl) ?_
  refine T_nil ?_
  refine W_ret ?_
  exact Res_1 rfl rfl (hs.isNewI 0 rfl)

/-! ### Primes -/
def primes : List Nat := [3, 5, 7, 11, 13, 17, 19, 23, 29, 31, 37, 41, 43, 47, 53, 59, 61, 67, 71, 73, 79, 83, 89, 97]
def Pr (p : Int) : Prop := 0 ≤ p ∧ p.toNat ∈ primes
instance (p : Int) : Decidable (Pr p) := inferInstanceAs (Decidable (_ ∧ _))
theorem pr_range {p : Int} (h : Pr p) : 3 ≤ p ∧ p ≤ 97 := by
  obtain ⟨h0, h⟩ := h
  have : ∀ q ∈ primes, 3 ≤ q ∧ q ≤ 97 := by decide
  have := this _ h
  omega
theorem pr_all : ∀ q : Nat, q ≤ 97 → 3 ≤ q → (∀ j, j < q → 2 ≤ j → q % j ≠ 0) → q ∈ primes := by decide +kernel
theorem pr_some_b : ((List.range 98).all fun q => (List.range 11).all fun d => !(decide (3 ≤ q) && decide (d * d > q) && (List.range d).all fun j => decide (j < 2) || decide (q % j ≠ 0)) || decide (q ∈ primes)) = true := by decide +kernel
theorem pr_some (q : Nat) (hq : q < 98) (d : Nat) (hd : d < 11) (h3 : 3 ≤ q) (hdd : d * d > q) (h : ∀ j, j < d → 2 ≤ j → q % j ≠ 0) : q ∈ primes := by
  have := pr_some_b
  rw [List.all_eq_true] at this
  have := this q (by simpa using hq)
  rw [List.all_eq_true] at this
  have := this d (by simpa using hd)
  have h2 : ((List.range d).all fun j => decide (j < 2) || decide (q % j ≠ 0)) = true := by
    rw [List.all_eq_true]
    intro j hj
    have hj := List.mem_range.1 hj
    by_cases e : j < 2
    · simp [e]
    · have := h j hj (by omega)
      simp [this]
  rw [h2] at this
  simpa [h3, hdd] using this
theorem pr_no : ∀ q ∈ primes, ∀ j, j < q → 2 ≤ j → q % j ≠ 0 := by decide +kernel
theorem l08Prime_ok (p : Int) (w : World) : CallsR Try.prog 68 #[.int .i64 p] w fun r w' => r = .bool (decide (Pr p)) ∧ w = w' := by
  refine fn_calls Try.func68 rfl rfl rfl ?_
  refine W_seq ?_
  refine W_reg ?_
  refine T_pu rfl rfl (pu_assign rfl) ?_
  refine T_nil ?_
  refine W_seq ?_
  refine W_seq ?_
  refine W_reg ?_
  refine T_pu rfl rfl (pu_move rfl) ?_
  refine T_go rfl rfl (st_call fn135 rfl ((l01In_ok _ _ _ _).mono ?_))
  rintro v w' ⟨rfl, rfl⟩
  refine T_pu rfl rfl (pu_notp rfl) ?_
  refine T_nil ?_
  refine W_if rfl (fun hc1 => ?_) (fun hc1 => ?_)
  · refine W_seq ?_
    refine W_reg ?_
    refine T_pu rfl rfl (pu_assign rfl) ?_
    refine T_nil ?_
    refine W_ret ?_
    refine Res_1 rfl rfl ⟨?_, rfl⟩
    congr 1
    exact (decide_eq_false (fun h => hc1 (pr_range h))).symm
  · refine W_skip ?_
    refine W_seq ?_
    refine W_seq ?_
    have hp : 3 ≤ p ∧ p ≤ 97 := by simpa using hc1
    refine W_reg ?_
    refine T_pu rfl rfl (pu_assign rfl) ?_
    refine T_nil ?_
    refine W_block ?_
    refine W_loop (σ := Nat) (fun k => [(0, .int .i64 p), (3, .int .i64 k)]) (fun k w' => w = w' ∧ 2 ≤ k ∧ (k : Int) ≤ p ∧ ∀ j, j < k → 2 ≤ j → p.toNat % j ≠ 0) (fun k => p.toNat - k) 2 ?_ ?_ ?_
    · exact .cons rfl (.cons rfl (.nil _))
    · exact ⟨rfl, Nat.le_refl _, by omega, fun j h1 h2 => by omega⟩
    rintro k w2 ⟨rfl, hk2, hkp, hall⟩
    refine W_seq ?_
    refine W_seq ?_
    refine W_reg ?_
    refine T_pu rfl rfl (pu_move rfl) ?_
    refine T_pu rfl rfl (pu_move rfl) ?_
    refine T_pu rfl rfl (pu_lss rfl rfl) ?_
    refine T_nil ?_
    refine W_if rfl (fun hc4 => ?_) (fun hc4 => ?_)
    · refine W_skip ?_
      refine W_seq ?_
      refine W_block ?_
      refine W_seq ?_
      have htm := tm (p := p) (by omega) k
      refine W_reg ?_
      refine T_pu rfl rfl (pu_move rfl) ?_
      refine T_pu rfl rfl (pu_move rfl) ?_
      refine T_pu rfl rfl (pu_rem rfl rfl (by omega)) ?_
      refine T_pu rfl rfl (pu_eql rfl rfl) ?_
      refine T_nil ?_
      refine W_if rfl (fun hc6 => ?_) (fun hc6 => ?_)
      · refine W_seq ?_
        refine W_reg ?_
        refine T_pu rfl rfl (pu_assign rfl) ?_
        refine T_nil ?_
        refine W_ret ?_
        refine Res_1 rfl rfl ⟨?_, rfl⟩
        congr 1
        exact (decide_eq_false (fun h => pr_no _ h.2 k (by omega) hk2 (by omega))).symm
      · refine W_skip ?_
        refine W_reg ?_
        refine T_pu rfl rfl (pu_move rfl) ?_
        refine T_pu rfl rfl (pu_add64 rfl rfl (by omega)) ?_
        refine T_pu rfl rfl (pu_assign rfl) ?_
        refine T_nil ?_
        exact ⟨k + 1, .cons rfl (.cons rfl (.nil _)), ⟨rfl, by omega, by omega, fun j h1 h2 => by
          by_cases e : j = k
          · subst e; omega
          · exact hall j (by omega) h2⟩, by omega⟩
    · refine W_exit rfl ?_
      refine W_seq ?_
      refine W_reg ?_
      refine T_pu rfl rfl (pu_assign rfl) ?_
      refine T_nil ?_
      refine W_ret ?_
      refine Res_1 rfl rfl ⟨?_, rfl⟩
      congr 1
      exact (decide_eq_true ⟨by omega, pr_all _ (by omega) (by omega) (fun j h1 h2 => hall j (by omega) h2)⟩).symm
theorem isPrime_ok (p : Int) (w : World) : CallsR Try.prog 73 #[.int .i64 p] w fun r w' => r = .bool (decide (Pr p)) ∧ w = w' := by
  refine fn_calls Try.func73 rfl rfl rfl ?_
  refine W_seq ?_
  refine W_reg ?_
  refine T_pu rfl rfl (pu_assign rfl) ?_
  refine T_nil ?_
  refine W_seq ?_
  refine W_seq ?_
  refine W_reg ?_
  refine T_pu rfl rfl (pu_move rfl) ?_
  refine T_go rfl rfl (st_call fn98 rfl ((within_ok _ _ _ _).mono ?_))
  rintro v w' ⟨rfl, rfl⟩
  refine T_pu rfl rfl (pu_notp rfl) ?_
  refine T_nil ?_
  refine W_if rfl (fun hc1 => ?_) (fun hc1 => ?_)
  · refine W_seq ?_
    refine W_reg ?_
    refine T_pu rfl rfl (pu_assign rfl) ?_
    refine T_nil ?_
    refine W_ret ?_
    refine Res_1 rfl rfl ⟨?_, rfl⟩
    congr 1
    exact (decide_eq_false (fun h => hc1 (pr_range h))).symm
  · refine W_skip ?_
    refine W_seq ?_
    refine W_seq ?_
    have hp : 3 ≤ p ∧ p ≤ 97 := by simpa using hc1
    refine W_reg ?_
    refine T_pu rfl rfl (pu_assign rfl) ?_
    refine T_nil ?_
    refine W_block ?_
    refine W_loop (σ := Nat) (fun k => [(0, .int .i64 p), (3, .int .i64 k)]) (fun k w' => w = w' ∧ 2 ≤ k ∧ k ≤ 10 ∧ ∀ j, j < k → 2 ≤ j → p.toNat % j ≠ 0) (fun k => 10 - k) 2 ?_ ?_ ?_
    · exact .cons rfl (.cons rfl (.nil _))
    · exact ⟨rfl, Nat.le_refl _, by omega, fun j h1 h2 => by omega⟩
    rintro k w2 ⟨rfl, hk2, hk10, hall⟩
    have hkk : ((k * k : Nat) : Int) = (k : Int) * k := Int.natCast_mul k k
    have hkb : k * k ≤ 100 := Nat.mul_le_mul hk10 hk10
    refine W_seq ?_
    refine W_seq ?_
    refine W_reg ?_
    refine T_pu rfl rfl (pu_move rfl) ?_
    refine T_pu rfl rfl (pu_move rfl) ?_
    refine T_pu rfl rfl (pu_mul64 rfl rfl (by omega)) ?_
    refine T_pu rfl rfl (pu_move rfl) ?_
    refine T_pu rfl rfl (pu_leq rfl rfl) ?_
    refine T_nil ?_
    refine W_if rfl (fun hc4 => ?_) (fun hc4 => ?_)
    · refine W_skip ?_
      refine W_seq ?_
      refine W_block ?_
      refine W_seq ?_
      have hk9 : k ≤ 9 := by
        by_cases e : k = 10
        · subst e; omega
        · omega
      have htm := tm (p := p) (by omega) k
      have hkl : k < p.toNat := by
        have : 2 * k ≤ k * k := Nat.mul_le_mul_right _ hk2
        omega
      refine W_reg ?_
      refine T_pu rfl rfl (pu_move rfl) ?_
      refine T_pu rfl rfl (pu_move rfl) ?_
      refine T_pu rfl rfl (pu_rem rfl rfl (by omega)) ?_
      refine T_pu rfl rfl (pu_eql rfl rfl) ?_
      refine T_nil ?_
      refine W_if rfl (fun hc6 => ?_) (fun hc6 => ?_)
      · refine W_seq ?_
        refine W_reg ?_
        refine T_pu rfl rfl (pu_assign rfl) ?_
        refine T_nil ?_
        refine W_ret ?_
        refine Res_1 rfl rfl ⟨?_, rfl⟩
        congr 1
        exact (decide_eq_false (fun h => pr_no _ h.2 k hkl hk2 (by omega))).symm
      · refine W_skip ?_
        refine W_reg ?_
        refine T_pu rfl rfl (pu_move rfl) ?_
        refine T_pu rfl rfl (pu_add64 rfl rfl (by omega)) ?_
        refine T_pu rfl rfl (pu_assign rfl) ?_
        refine T_nil ?_
        exact ⟨k + 1, .cons rfl (.cons rfl (.nil _)), ⟨rfl, by omega, by omega, fun j h1 h2 => by
          by_cases e : j = k
          · subst e; omega
          · exact hall j (by omega) h2⟩, by omega⟩
    · refine W_exit rfl ?_
      refine W_seq ?_
      refine W_reg ?_
      refine T_pu rfl rfl (pu_assign rfl) ?_
      refine T_nil ?_
      refine W_ret ?_
      refine Res_1 rfl rfl ⟨?_, rfl⟩
      congr 1
      exact (decide_eq_true ⟨by omega, pr_some _ (by omega) k (by omega) (by omega) (by omega) (fun j h1 h2 => hall j (by omega) h2)⟩).symm
end Go.Proofs.Ytdpbfdjpeofbmaa.L
