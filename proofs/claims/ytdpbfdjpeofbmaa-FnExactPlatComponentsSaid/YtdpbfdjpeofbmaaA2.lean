/- Inverses modulo a prime; colours. -/
import Derived.Test.YtdpbfdjpeofbmaaA1
namespace Go.Proofs.Ytdpbfdjpeofbmaa.L
set_option linter.unusedVariables false
set_option maxRecDepth 100000

/-! ### Powers by squares -/
/-- What the loop makes of out, x and k. -/
def pw (p : Int) : Nat → Nat → Int → Int → Int
  | 0, _, _, out => out
  | f + 1, k, x, out => if k = 0 then out else pw p f (k / 2) (x * x % p) (if k % 2 = 1 then out * x % p else out)
def invM (x p : Int) : Int := pw p 64 (p.toNat - 2) x 1
theorem pw_zero (p : Int) (f : Nat) (x out : Int) : pw p f 0 x out = out := by cases f <;> simp [pw]
theorem pw_more (p : Int) : ∀ (f k : Nat) (x out : Int), k < 2 ^ f → pw p (f + 1) k x out = pw p f k x out
  | 0, k, x, out, h => by
    have : k = 0 := by simpa using h
    simp [pw, this]
  | f + 1, k, x, out, h => by
    by_cases e : k = 0
    · subst e; rw [pw_zero, pw_zero]
    · have h' : k / 2 < 2 ^ f := by rw [Nat.pow_succ] at h; omega
      have h1 : ∀ g, pw p (g + 1) k x out = pw p g (k / 2) (x * x % p) (if k % 2 = 1 then out * x % p else out) := fun g => by rw [pw]; simp [e]
      rw [h1, h1]
      exact pw_more p f _ _ _ h'
theorem pw_step (p : Int) (f k : Nat) (x out : Int) (hk : k ≠ 0) (h : k < 2 ^ f) : pw p f k x out = pw p f (k / 2) (x * x % p) (if k % 2 = 1 then out * x % p else out) := by
  cases f with
  | zero => simp at h; omega
  | succ f =>
    have h' : k / 2 < 2 ^ f := by rw [Nat.pow_succ] at h; omega
    rw [pw_more p f _ _ _ h', pw.eq_def]
    simp [hk]
theorem mul_range {a b m : Int} (ha : 0 ≤ a ∧ a < m) (hb : 0 ≤ b ∧ b < m) (hm : m ≤ 10007) : 0 ≤ a * b ∧ a * b ≤ 100140049 := by
  have h1 := Int.mul_nonneg ha.1 hb.1
  have h2 : a * b ≤ 10007 * 10007 := Int.mul_le_mul (by omega) (by omega) hb.1 (by omega)
  omega
theorem tmod_nn {a p : Int} (ha : 0 ≤ a) : a.tmod p = a % p := Int.tmod_eq_emod_of_nonneg ha
theorem inverseModulo_ok (x p : Int) (hp : 3 ≤ p ∧ p ≤ 10007) (hx : 0 ≤ x ∧ x < p) (w : World) : CallsR Try.prog 102 #[.int .i64 x, .int .i64 p] w fun r w' => r = .int .i64 (invM x p) ∧ w = w' := by
  refine fn_calls Try.func102 rfl rfl rfl ?_
  refine W_seq ?_
  refine W_reg ?_
  refine T_pu rfl rfl (pu_assign rfl) ?_
  refine T_nil ?_
  refine W_seq ?_
  refine W_reg ?_
  refine T_pu rfl rfl (pu_assign rfl) ?_
  refine T_nil ?_
  refine W_seq ?_
  refine W_seq ?_
  refine W_reg ?_
  refine T_pu rfl rfl (pu_move rfl) ?_
  refine T_pu rfl rfl (pu_sub64 rfl rfl (by omega)) ?_
  refine T_pu rfl rfl (pu_assign rfl) ?_
  refine T_nil ?_
  refine W_block ?_
  refine W_loop (σ := Int × Int × Nat) (fun s => [(0, .int .i64 s.1), (1, .int .i64 p), (5, .int .i64 s.2.1), (6, .int .i64 s.2.2)]) (fun s w' => w = w' ∧ (0 ≤ s.1 ∧ s.1 < p) ∧ (0 ≤ s.2.1 ∧ s.2.1 < p) ∧ s.2.2 ≤ 10005 ∧ pw p 64 s.2.2 s.1 s.2.1 = invM x p) (fun s => s.2.2) (x, 1, p.toNat - 2) ?_ ?_ ?_
  · exact .cons rfl (.cons rfl (.cons rfl (.cons (by show some (Value.int .i64 (p - 2)) = some (Value.int .i64 ((p.toNat - 2 : Nat) : Int)); congr 2; omega) (.nil _))))
  · exact ⟨rfl, hx, ⟨by show (0 : Int) ≤ 1; omega, by show (1 : Int) < p; omega⟩, by show p.toNat - 2 ≤ 10005; omega, rfl⟩
  rintro ⟨x, out, k⟩ w2 ⟨rfl, hx, ho, hk, hinv⟩
  dsimp only at hx ho hk hinv ⊢
  refine W_seq ?_
  refine W_seq ?_
  refine W_reg ?_
  refine T_pu rfl rfl (pu_move rfl) ?_
  refine T_pu rfl rfl (pu_gtr rfl rfl) ?_
  refine T_nil ?_
  refine W_if rfl (fun hc3 => ?_) (fun hc3 => ?_)
  · refine W_skip ?_
    refine W_seq ?_
    refine W_block ?_
    refine W_seq ?_
    refine W_seq ?_
    have hxx := mul_range hx hx hp.2
    have hox := mul_range ho hx hp.2
    have hkpos : k ≠ 0 := by omega
    have hst := pw_step p 64 k x out hkpos (by omega)
    have hkm : (k : Int).tmod 2 = ((k % 2 : Nat) : Int) := tm (by omega) 2
    refine W_reg ?_
    refine T_pu rfl rfl (pu_move rfl) ?_
    refine T_pu rfl rfl (pu_rem rfl rfl (by omega)) ?_
    refine T_pu rfl rfl (pu_eql rfl rfl) ?_
    refine T_nil ?_
    refine W_if rfl (fun hc5 => ?_) (fun hc5 => ?_)
    · refine W_reg ?_
      refine T_pu rfl rfl (pu_move rfl) ?_
      refine T_pu rfl rfl (pu_move rfl) ?_
      refine T_pu rfl rfl (pu_mul64 rfl rfl (by omega)) ?_
      refine T_pu rfl rfl (pu_move rfl) ?_
      refine T_pu rfl rfl (pu_rem rfl rfl (by omega)) ?_
      refine T_pu rfl rfl (pu_assign rfl) ?_
      refine T_nil ?_
      have hm1 := Int.emod_nonneg (x * x) (show p ≠ 0 by omega)
      have hm2 := Int.emod_lt_of_pos (x * x) (show 0 < p by omega)
      have hm3 := Int.emod_nonneg (out * x) (show p ≠ 0 by omega)
      have hm4 := Int.emod_lt_of_pos (out * x) (show 0 < p by omega)
      refine W_reg ?_
      refine T_pu rfl rfl (pu_move rfl) ?_
      refine T_pu rfl rfl (pu_move rfl) ?_
      refine T_pu rfl rfl (pu_mul64 rfl rfl (by omega)) ?_
      refine T_pu rfl rfl (pu_move rfl) ?_
      refine T_pu rfl rfl (pu_rem rfl rfl (by omega)) ?_
      refine T_pu rfl rfl (pu_assign rfl) ?_
      refine T_nil ?_
      have hkd : (k : Int).tdiv 2 = ((k / 2 : Nat) : Int) := by rw [Int.tdiv_eq_ediv_of_nonneg (by omega)]; rfl
      refine W_reg ?_
      refine T_pu rfl rfl (pu_move rfl) ?_
      refine T_pu rfl rfl (pu_quo64 rfl rfl (by omega) (by omega)) ?_
      refine T_pu rfl rfl (pu_assign rfl) ?_
      refine T_nil ?_
      first
        | exact ⟨(x * x % p, out * x % p, k / 2), .cons (by show some (Value.int .i64 ((x * x).tmod p)) = _; rw [tmod_nn hxx.1]) (.cons rfl (.cons (by show some (Value.int .i64 ((out * x).tmod p)) = _; rw [tmod_nn hox.1]) (.cons (by show some (Value.int .i64 ((k : Int).tdiv 2)) = _; rw [hkd]) (.nil _)))), ⟨rfl, ⟨hm1, hm2⟩, ⟨hm3, hm4⟩, by show k / 2 ≤ 10005; omega, by rw [← hinv, hst, if_pos (by omega)]⟩, by show k / 2 < k; omega⟩
        | exact ⟨(x * x % p, out, k / 2), .cons (by show some (Value.int .i64 ((x * x).tmod p)) = _; rw [tmod_nn hxx.1]) (.cons rfl (.cons rfl (.cons (by show some (Value.int .i64 ((k : Int).tdiv 2)) = _; rw [hkd]) (.nil _)))), ⟨rfl, ⟨hm1, hm2⟩, ho, by show k / 2 ≤ 10005; omega, by rw [← hinv, hst, if_neg (by omega)]⟩, by show k / 2 < k; omega⟩
    · refine W_skip ?_
      have hm1 := Int.emod_nonneg (x * x) (show p ≠ 0 by omega)
      have hm2 := Int.emod_lt_of_pos (x * x) (show 0 < p by omega)
      have hm3 := Int.emod_nonneg (out * x) (show p ≠ 0 by omega)
      have hm4 := Int.emod_lt_of_pos (out * x) (show 0 < p by omega)
      refine W_reg ?_
      refine T_pu rfl rfl (pu_move rfl) ?_
      refine T_pu rfl rfl (pu_move rfl) ?_
      refine T_pu rfl rfl (pu_mul64 rfl rfl (by omega)) ?_
      refine T_pu rfl rfl (pu_move rfl) ?_
      refine T_pu rfl rfl (pu_rem rfl rfl (by omega)) ?_
      refine T_pu rfl rfl (pu_assign rfl) ?_
      refine T_nil ?_
      have hkd : (k : Int).tdiv 2 = ((k / 2 : Nat) : Int) := by rw [Int.tdiv_eq_ediv_of_nonneg (by omega)]; rfl
      refine W_reg ?_
      refine T_pu rfl rfl (pu_move rfl) ?_
      refine T_pu rfl rfl (pu_quo64 rfl rfl (by omega) (by omega)) ?_
      refine T_pu rfl rfl (pu_assign rfl) ?_
      refine T_nil ?_
      first
        | exact ⟨(x * x % p, out * x % p, k / 2), .cons (by show some (Value.int .i64 ((x * x).tmod p)) = _; rw [tmod_nn hxx.1]) (.cons rfl (.cons (by show some (Value.int .i64 ((out * x).tmod p)) = _; rw [tmod_nn hox.1]) (.cons (by show some (Value.int .i64 ((k : Int).tdiv 2)) = _; rw [hkd]) (.nil _)))), ⟨rfl, ⟨hm1, hm2⟩, ⟨hm3, hm4⟩, by show k / 2 ≤ 10005; omega, by rw [← hinv, hst, if_pos (by omega)]⟩, by show k / 2 < k; omega⟩
        | exact ⟨(x * x % p, out, k / 2), .cons (by show some (Value.int .i64 ((x * x).tmod p)) = _; rw [tmod_nn hxx.1]) (.cons rfl (.cons rfl (.cons (by show some (Value.int .i64 ((k : Int).tdiv 2)) = _; rw [hkd]) (.nil _)))), ⟨rfl, ⟨hm1, hm2⟩, ho, by show k / 2 ≤ 10005; omega, by rw [← hinv, hst, if_neg (by omega)]⟩, by show k / 2 < k; omega⟩
  · refine W_exit rfl ?_
    refine W_seq ?_
    refine W_reg ?_
    refine T_pu rfl rfl (pu_move rfl) ?_
    refine T_pu rfl rfl (pu_assign rfl) ?_
    refine T_nil ?_
    refine W_ret ?_
    obtain rfl : k = 0 := by omega
    refine Res_1 rfl rfl ⟨?_, rfl⟩
    congr 1

theorem l09Inverse_ok (x : Int) (hx : 0 ≤ x ∧ x < 10007) (w : World) : CallsR Try.prog 142 #[.int .i64 x] w fun r w' => r = .int .i64 (invM x 10007) ∧ w = w' := by
  refine fn_calls Try.func142 rfl rfl rfl ?_
  refine W_seq ?_
  refine W_reg ?_
  refine T_pu rfl rfl (pu_assign rfl) ?_
  refine T_nil ?_
  refine W_seq ?_
  refine W_reg ?_
  refine T_pu rfl rfl (pu_move rfl) ?_
  refine T_pu rfl rfl (pu_assign rfl) ?_
  refine T_pu rfl rfl (pu_assign rfl) ?_
  refine T_nil ?_
  refine W_seq ?_
  refine W_seq ?_
  refine W_reg ?_
  refine T_pu rfl rfl (pu_assign rfl) ?_
  refine T_nil ?_
  refine W_block ?_
  refine W_loop (σ := Int × Int × Nat) (fun s => [(3, .int .i64 s.2.1), (4, .int .i64 s.1), (5, .int .i64 s.2.2)]) (fun s w' => w = w' ∧ (0 ≤ s.1 ∧ s.1 < 10007) ∧ (0 ≤ s.2.1 ∧ s.2.1 < 10007) ∧ s.2.2 ≤ 10005 ∧ pw 10007 64 s.2.2 s.1 s.2.1 = invM x 10007) (fun s => s.2.2) (x, 1, 10005) ?_ ?_ ?_
  · exact .cons rfl (.cons rfl (.cons rfl (.nil _)))
  · exact ⟨rfl, hx, ⟨by show (0 : Int) ≤ 1; omega, by show (1 : Int) < 10007; omega⟩, Nat.le_refl _, rfl⟩
  rintro ⟨x, out, k⟩ w2 ⟨rfl, hx, ho, hk, hinv⟩
  dsimp only at hx ho hk hinv ⊢
  refine W_seq ?_
  refine W_seq ?_
  refine W_reg ?_
  refine T_pu rfl rfl (pu_move rfl) ?_
  refine T_pu rfl rfl (pu_gtr rfl rfl) ?_
  refine T_nil ?_
  refine W_if rfl (fun hc3 => ?_) (fun hc3 => ?_)
  · refine W_skip ?_
    refine W_seq ?_
    refine W_block ?_
    refine W_seq ?_
    refine W_seq ?_
    have hxx := mul_range hx hx (by omega)
    have hox := mul_range ho hx (by omega)
    have hkpos : k ≠ 0 := by omega
    have hst := pw_step 10007 64 k x out hkpos (by omega)
    have hkm : (k : Int).tmod 2 = ((k % 2 : Nat) : Int) := tm (by omega) 2
    refine W_reg ?_
    refine T_pu rfl rfl (pu_move rfl) ?_
    refine T_pu rfl rfl (pu_rem rfl rfl (by omega)) ?_
    refine T_pu rfl rfl (pu_eql rfl rfl) ?_
    refine T_nil ?_
    refine W_if rfl (fun hc5 => ?_) (fun hc5 => ?_)
    · refine W_reg ?_
      refine T_pu rfl rfl (pu_move rfl) ?_
      refine T_pu rfl rfl (pu_move rfl) ?_
      refine T_pu rfl rfl (pu_mul64 rfl rfl (by omega)) ?_
      refine T_pu rfl rfl (pu_rem rfl rfl (by omega)) ?_
      refine T_pu rfl rfl (pu_assign rfl) ?_
      refine T_nil ?_
      have hm1 := Int.emod_nonneg (x * x) (show (10007 : Int) ≠ 0 by omega)
      have hm2 := Int.emod_lt_of_pos (x * x) (show (0 : Int) < 10007 by omega)
      have hm3 := Int.emod_nonneg (out * x) (show (10007 : Int) ≠ 0 by omega)
      have hm4 := Int.emod_lt_of_pos (out * x) (show (0 : Int) < 10007 by omega)
      refine W_reg ?_
      refine T_pu rfl rfl (pu_move rfl) ?_
      refine T_pu rfl rfl (pu_move rfl) ?_
      refine T_pu rfl rfl (pu_mul64 rfl rfl (by omega)) ?_
      refine T_pu rfl rfl (pu_rem rfl rfl (by omega)) ?_
      refine T_pu rfl rfl (pu_assign rfl) ?_
      refine T_nil ?_
      have hkd : (k : Int).tdiv 2 = ((k / 2 : Nat) : Int) := by rw [Int.tdiv_eq_ediv_of_nonneg (by omega)]; rfl
      refine W_reg ?_
      refine T_pu rfl rfl (pu_move rfl) ?_
      refine T_pu rfl rfl (pu_quo64 rfl rfl (by omega) (by omega)) ?_
      refine T_pu rfl rfl (pu_assign rfl) ?_
      refine T_nil ?_
      first
        | exact ⟨(x * x % 10007, out * x % 10007, k / 2), .cons (by show some (Value.int .i64 ((out * x).tmod 10007)) = _; rw [tmod_nn hox.1]) (.cons (by show some (Value.int .i64 ((x * x).tmod 10007)) = _; rw [tmod_nn hxx.1]) (.cons (by show some (Value.int .i64 ((k : Int).tdiv 2)) = _; rw [hkd]) (.nil _))), ⟨rfl, ⟨hm1, hm2⟩, ⟨hm3, hm4⟩, by show k / 2 ≤ 10005; omega, by rw [← hinv, hst, if_pos (by omega)]⟩, by show k / 2 < k; omega⟩
        | exact ⟨(x * x % 10007, out, k / 2), .cons rfl (.cons (by show some (Value.int .i64 ((x * x).tmod 10007)) = _; rw [tmod_nn hxx.1]) (.cons (by show some (Value.int .i64 ((k : Int).tdiv 2)) = _; rw [hkd]) (.nil _))), ⟨rfl, ⟨hm1, hm2⟩, ho, by show k / 2 ≤ 10005; omega, by rw [← hinv, hst, if_neg (by omega)]⟩, by show k / 2 < k; omega⟩
    · refine W_skip ?_
      have hm1 := Int.emod_nonneg (x * x) (show (10007 : Int) ≠ 0 by omega)
      have hm2 := Int.emod_lt_of_pos (x * x) (show (0 : Int) < 10007 by omega)
      have hm3 := Int.emod_nonneg (out * x) (show (10007 : Int) ≠ 0 by omega)
      have hm4 := Int.emod_lt_of_pos (out * x) (show (0 : Int) < 10007 by omega)
      refine W_reg ?_
      refine T_pu rfl rfl (pu_move rfl) ?_
      refine T_pu rfl rfl (pu_move rfl) ?_
      refine T_pu rfl rfl (pu_mul64 rfl rfl (by omega)) ?_
      refine T_pu rfl rfl (pu_rem rfl rfl (by omega)) ?_
      refine T_pu rfl rfl (pu_assign rfl) ?_
      refine T_nil ?_
      have hkd : (k : Int).tdiv 2 = ((k / 2 : Nat) : Int) := by rw [Int.tdiv_eq_ediv_of_nonneg (by omega)]; rfl
      refine W_reg ?_
      refine T_pu rfl rfl (pu_move rfl) ?_
      refine T_pu rfl rfl (pu_quo64 rfl rfl (by omega) (by omega)) ?_
      refine T_pu rfl rfl (pu_assign rfl) ?_
      refine T_nil ?_
      first
        | exact ⟨(x * x % 10007, out * x % 10007, k / 2), .cons (by show some (Value.int .i64 ((out * x).tmod 10007)) = _; rw [tmod_nn hox.1]) (.cons (by show some (Value.int .i64 ((x * x).tmod 10007)) = _; rw [tmod_nn hxx.1]) (.cons (by show some (Value.int .i64 ((k : Int).tdiv 2)) = _; rw [hkd]) (.nil _))), ⟨rfl, ⟨hm1, hm2⟩, ⟨hm3, hm4⟩, by show k / 2 ≤ 10005; omega, by rw [← hinv, hst, if_pos (by omega)]⟩, by show k / 2 < k; omega⟩
        | exact ⟨(x * x % 10007, out, k / 2), .cons rfl (.cons (by show some (Value.int .i64 ((x * x).tmod 10007)) = _; rw [tmod_nn hxx.1]) (.cons (by show some (Value.int .i64 ((k : Int).tdiv 2)) = _; rw [hkd]) (.nil _))), ⟨rfl, ⟨hm1, hm2⟩, ho, by show k / 2 ≤ 10005; omega, by rw [← hinv, hst, if_neg (by omega)]⟩, by show k / 2 < k; omega⟩
  · refine W_exit rfl ?_
    refine W_seq ?_
    refine W_reg ?_
    refine T_pu rfl rfl (pu_move rfl) ?_
    refine T_pu rfl rfl (pu_assign rfl) ?_
    refine T_nil ?_
    refine W_ret ?_
    obtain rfl : k = 0 := by omega
    refine Res_1 rfl rfl ⟨?_, rfl⟩
    congr 1

/-! ### Colours -/
def colStep (p : Int) (c : List Int) (lt : Int) : List Int :=
  let i := max lt (-lt)
  let x := rd c (i - 1)
  let y := rd c i
  if lt > 0 then (c.set (i - 1).toNat ((2 * x - y + p) % p)).set i.toNat x else (c.set (i - 1).toNat y).set i.toNat ((2 * y - x + p) % p)
def colF (p : Int) (ls c : List Int) : List Int := ls.foldl (colStep p) c
def InP (p : Int) (c : List Int) : Prop := ∀ x ∈ c, 0 ≤ x ∧ x < p
theorem InP.rd {p : Int} {c : List Int} (h : InP p c) {i : Int} (h0 : 0 ≤ i) (h1 : i < c.length) : 0 ≤ rd c i ∧ rd c i < p := by
  obtain ⟨j, rfl⟩ : ∃ j : Nat, i = j := ⟨i.toNat, by omega⟩
  exact h _ (rd_mem (by omega))
theorem InP.set {p : Int} {c : List Int} (h : InP p c) {i : Nat} {x : Int} (hx : 0 ≤ x ∧ x < p) : InP p (c.set i x) := by
  intro y hy
  rcases List.mem_or_eq_of_mem_set hy with h' | rfl
  · exact h y h'
  · exact hx
theorem colStep_length (p : Int) (c : List Int) (lt : Int) : (colStep p c lt).length = c.length := by unfold colStep; simp only []; split <;> simp
theorem colStep_in {p : Int} (hp : 0 < p) {c : List Int} (h : InP p c) {lt : Int} (hl : Lt c.length lt) : InP p (colStep p c lt) := by
  unfold Lt at hl
  have h1 := h.rd (i := max lt (-lt) - 1) (by omega) (by omega)
  have h2 := h.rd (i := max lt (-lt)) (by omega) (by omega)
  unfold colStep
  simp only []
  split
  · exact (h.set ⟨Int.emod_nonneg _ (by omega), Int.emod_lt_of_pos _ hp⟩).set h1
  · exact (h.set h2).set ⟨Int.emod_nonneg _ (by omega), Int.emod_lt_of_pos _ hp⟩
theorem take_rd {xs : List Int} {k : Nat} (h : k < xs.length) : xs.take (k + 1) = xs.take k ++ [rd xs k] := by
  rw [List.take_succ_eq_append_getElem h]
  congr 2
  unfold rd
  rw [Int.toNat_natCast, List.getD_eq_getElem?_getD, List.getElem?_eq_getElem h]
  rfl
theorem colF_take {p : Int} {ls c : List Int} {k : Nat} (h : k < ls.length) : colF p (ls.take (k + 1)) c = colStep p (colF p (ls.take k) c) (rd ls k) := by
  unfold colF; rw [take_rd h, List.foldl_append]; rfl
theorem colF_all {p : Int} (hp : 0 < p) {n : Nat} : ∀ (ls : List Int) (c : List Int), c.length = n → (∀ l ∈ ls, Lt n l) → InP p c → (colF p ls c).length = n ∧ InP p (colF p ls c)
  | [], c, hn, _, h => ⟨hn, h⟩
  | l :: ls, c, hn, hl, h => colF_all hp ls (colStep p c l) (by rw [colStep_length, hn]) (fun x hx => hl x (by simp [hx])) (colStep_in hp h (by rw [hn]; exact hl l (by simp)))
theorem colour_ok (v u : Value) (ls c : List Int) (p : Int) (hp : 3 ≤ p ∧ p ≤ 97) (w : World) (hv : RI w v ls) (hu : RI w u c) (hll : ls.length ≤ 1000) (hcl : 1 ≤ c.length ∧ c.length ≤ 8) (hls : ∀ l ∈ ls, Lt c.length l) (hc : InP p c) :
    CallsR Try.prog 74 #[v, .int .i64 p, u] w fun r w' => NewI w w' r (colF p ls c) := by
  obtain ⟨A, ca, rfl, hca⟩ := hv.open
  have hs := St.start w
  refine fn_calls Try.func74 rfl rfl rfl ?_
  refine W_seq ?_
  refine W_reg ?_
  refine T_pu rfl rfl (pu_assign rfl) ?_
  refine T_nil ?_
  refine W_seq ?_
  refine W_reg ?_
  refine T_pu rfl rfl (pu_move rfl) ?_
  refine T_go rfl rfl (st_call fn139 rfl ((copyOf_ok _ c w hu (by omega)).mono ?_))
  rintro r w1 hn
  have hs := hs.newI hn
  have hO := hn.1
  rcases hO.open with ⟨_, rfl⟩ | ⟨b, cap, rfl, hcap⟩
  · simp at hcl
  refine T_pu rfl rfl (pu_assign rfl) ?_
  refine T_nil ?_
  refine W_seq ?_
  refine W_seq ?_
  refine W_reg ?_
  refine T_pu rfl rfl (pu_move rfl) ?_
  refine T_pu rfl rfl (pu_len Try.underlying22 rfl) ?_
  refine T_pu rfl rfl (pu_move rfl) ?_
  refine T_nil ?_
  refine W_block ?_
  refine W_loop (σ := Nat) (fun k => [(1, .int .i64 p), (7, .slice (some ⟨b, 0, none⟩) c.length cap), (15, .slice A ls.length ca), (16, .int .i64 ls.length), (17, .int .i64 k)]) (fun k w' => k ≤ ls.length ∧ St no w [aOI (.slice (some ⟨b, 0, none⟩) c.length cap) (colF p (ls.take k) c)] w') (fun k => ls.length - k) 0 ?_ ?_ ?_
  · exact .cons rfl (.cons rfl (.cons rfl (.cons rfl (.cons rfl (.nil _)))))
  · exact ⟨Nat.zero_le _, hs⟩
  rintro k w2 ⟨hkl, hs⟩
  have hv2 := hv.keep hs.kp
  obtain ⟨hcn, hin⟩ := colF_all (p := p) (by omega) (ls.take k) c rfl (fun x hx => hls x (List.mem_of_mem_take hx)) hc
  have hO2 := (hs.oi 0 rfl).ri
  refine W_seq ?_
  refine W_reg ?_
  refine T_pu rfl rfl (pu_lss rfl rfl) ?_
  refine T_nil ?_
  refine W_seq ?_
  refine W_if rfl (fun hc3 => ?_) (fun hc3 => ?_)
  · refine W_skip ?_
    refine W_seq ?_
    refine W_block ?_
    refine W_seq ?_
    obtain ⟨a, rfl⟩ := hv2.addr (i := k) (by omega) (by omega)
    have hlt := hls _ (rd_mem (i := k) (by omega))
    have hstep := colF_take (p := p) (c := c) (show k < ls.length by omega)
    unfold Lt at hlt
    refine W_reg ?_
    refine T_pu rfl rfl ((by first | exact pu_ix1 Try.underlying22 ty2 rfl rfl (by omega) (by omega) | exact pu_index Try.underlying22 ty2 rfl rfl (by omega) (by omega))) ?_
    refine T_pi rfl rfl (pi_load Try.underlying2 rfl rfl (fun w' h => by obtain rfl := h; exact (by first | exact hv2.at (by omega) (by omega)))) ?_
    refine T_pu rfl rfl (pu_assign rfl) ?_
    refine T_nil ?_
    refine W_seq ?_
    refine W_reg ?_
    refine T_pu rfl rfl (pu_move rfl) ?_
    refine T_go rfl rfl (st_call fn140 rfl ((size_ok _ (by omega) _).mono ?_))
    rintro v w' ⟨rfl, rfl⟩
    refine T_pu rfl rfl (pu_assign rfl) ?_
    refine T_nil ?_
    refine W_seq ?_
    refine W_draw mixed 1000 I0 (fun w3 hk3 => ?_)
    have hs := hs.next hk3
    have hO3 := hO2.keep hk3
    have r1 := hin.rd (i := max (rd ls k) (-rd ls k) - 1) (by omega) (by omega)
    have r2 := hin.rd (i := max (rd ls k) (-rd ls k)) (by omega) (by omega)
    refine D_pu 0 (by kernel_rfl) rfl (by kernel_rfl) (by kernel_rfl) rfl rfl (by kernel_rfl) (Pu.stable (pu_move rfl)) ?_
    refine D_pu 1 (by kernel_rfl) rfl (by kernel_rfl) (by kernel_rfl) rfl rfl (by kernel_rfl) (Pu.stable (pu_move rfl)) ?_
    refine D_pu 2 (by kernel_rfl) rfl (by kernel_rfl) (by kernel_rfl) rfl rfl (by kernel_rfl) (Pu.stable (pu_sub64 rfl rfl (by omega))) ?_
    refine D_pu 3 (by kernel_rfl) rfl (by kernel_rfl) (by kernel_rfl) rfl rfl (by kernel_rfl) (Pu.stable ((by first | exact pu_ix1 Try.underlying22 ty2 rfl rfl (by omega) (by omega) | exact pu_index Try.underlying22 ty2 rfl rfl (by omega) (by omega)))) ?_
    refine D_pu 4 (by kernel_rfl) rfl (by kernel_rfl) (by kernel_rfl) rfl rfl (by kernel_rfl) (pi_load Try.underlying2 rfl rfl (fun w' h => by obtain ⟨_, rfl⟩ := h; exact (by first | exact hO3.at0 (by omega) (by omega)))) ?_
    refine D_pu 5 (by kernel_rfl) rfl (by kernel_rfl) (by kernel_rfl) rfl rfl (by kernel_rfl) (Pu.stable (pu_move rfl)) ?_
    refine D_pu 6 (by kernel_rfl) rfl (by kernel_rfl) (by kernel_rfl) rfl rfl (by kernel_rfl) (Pu.stable (pu_move rfl)) ?_
    refine D_pu 7 (by kernel_rfl) rfl (by kernel_rfl) (by kernel_rfl) rfl rfl (by kernel_rfl) (Pu.stable ((by first | exact pu_ix1 Try.underlying22 ty2 rfl rfl (by omega) (by omega) | exact pu_index Try.underlying22 ty2 rfl rfl (by omega) (by omega)))) ?_
    refine D_pu 8 (by kernel_rfl) rfl (by kernel_rfl) (by kernel_rfl) rfl rfl (by kernel_rfl) (pi_load Try.underlying2 rfl rfl (fun w' h => by obtain ⟨_, rfl⟩ := h; exact (by first | exact hO3.at0 (by omega) (by omega)))) ?_
    refine D_pu 9 (by kernel_rfl) rfl (by kernel_rfl) (by kernel_rfl) rfl rfl (by kernel_rfl) (Pu.stable (pu_assign rfl)) ?_
    refine D_pu 10 (by kernel_rfl) rfl (by kernel_rfl) (by kernel_rfl) rfl rfl (by kernel_rfl) (Pu.stable (pu_assign rfl)) ?_
    refine D_done (by kernel_rfl) (by first | rfl | (intro _; rfl) | (intro h; exact absurd (show true = false from h) (by decide)) | exact Kp.refl _ _ | assumption) ?_
    refine W_seq ?_
    refine W_reg ?_
    refine T_pu rfl rfl (pu_move rfl) ?_
    refine T_pu rfl rfl (pu_gtr rfl rfl) ?_
    refine T_nil ?_
    refine W_if rfl (fun hc7 => ?_) (fun hc7 => ?_)
    · refine W_reg ?_
      refine T_pu rfl rfl (pu_move rfl) ?_
      refine T_pu rfl rfl (pu_move rfl) ?_
      refine T_pu rfl rfl (pu_sub64 rfl rfl (by omega)) ?_
      refine T_pu rfl rfl (pu_move rfl) ?_
      refine T_pu rfl rfl (pu_move rfl) ?_
      refine T_pu rfl rfl (pu_move rfl) ?_
      refine T_pu rfl rfl (pu_mul64 rfl rfl (by omega)) ?_
      refine T_pu rfl rfl (pu_move rfl) ?_
      refine T_pu rfl rfl (pu_sub64 rfl rfl (by omega)) ?_
      refine T_pu rfl rfl (pu_move rfl) ?_
      refine T_pu rfl rfl (pu_add64 rfl rfl (by omega)) ?_
      refine T_pu rfl rfl (pu_move rfl) ?_
      refine T_pu rfl rfl (pu_rem rfl rfl (by omega)) ?_
      refine T_pu rfl rfl (pu_move rfl) ?_
      refine T_pu rfl rfl ((by first | exact pu_ix1 Try.underlying22 ty2 rfl rfl (by omega) (by omega) | exact pu_index Try.underlying22 ty2 rfl rfl (by omega) (by omega))) ?_
      refine T_goN rfl (st_storeI hs 0 rfl ty2 rfl rfl (by omega) (by first | omega | (simp; omega)) fun w4 hk4 hs => ?_)
      refine T_pu rfl rfl ((by first | exact pu_ix1 Try.underlying22 ty2 rfl rfl (by omega) (by omega) | exact pu_index Try.underlying22 ty2 rfl rfl (by omega) (by omega))) ?_
      refine T_goN rfl (st_storeI hs 0 rfl ty2 rfl rfl (by omega) (by first | omega | (simp; omega)) fun w5 hk5 hs => ?_)
      refine T_nil ?_
      refine W_reg ?_
      refine T_pu rfl rfl (pu_add64 rfl rfl (by omega)) ?_
      refine T_pu rfl rfl (pu_move rfl) ?_
      refine T_nil ?_
      refine ⟨k + 1, .cons rfl (.cons rfl (.cons rfl (.cons rfl (.cons rfl (.nil _))))), ⟨by omega, ?_⟩, by omega⟩
      rw [hstep]
      unfold colStep
      simp only []
      first
        | (rw [if_pos (by assumption)]; rw [tmod_nn (by omega)] at hs; exact hs)
        | (rw [if_neg (by assumption)]; rw [tmod_nn (by omega)] at hs; exact hs)
    · refine W_draw mixed 15 IS (fun w4 hk4 => ?_)
      have hs := hs.next hk4
      refine D_pu 0 (by kernel_rfl) rfl (by kernel_rfl) (by kernel_rfl) rfl rfl (by kernel_rfl) (Pu.stable (pu_move rfl)) ?_
      refine D_pu 1 (by kernel_rfl) rfl (by kernel_rfl) (by kernel_rfl) rfl rfl (by kernel_rfl) (Pu.stable (pu_move rfl)) ?_
      refine D_pu 2 (by kernel_rfl) rfl (by kernel_rfl) (by kernel_rfl) rfl rfl (by kernel_rfl) (Pu.stable (pu_sub64 rfl rfl (by omega))) ?_
      refine D_pu 3 (by kernel_rfl) rfl (by kernel_rfl) (by kernel_rfl) rfl rfl (by kernel_rfl) (Pu.stable (pu_move rfl)) ?_
      refine D_pu 4 (by kernel_rfl) rfl (by kernel_rfl) (by kernel_rfl) rfl rfl (by kernel_rfl) (Pu.stable (pu_move rfl)) ?_
      refine D_pu 5 (by kernel_rfl) rfl (by kernel_rfl) (by kernel_rfl) rfl rfl (by kernel_rfl) (Pu.stable (pu_move rfl)) ?_
      refine D_pu 6 (by kernel_rfl) rfl (by kernel_rfl) (by kernel_rfl) rfl rfl (by kernel_rfl) (Pu.stable (pu_move rfl)) ?_
      refine D_pu 7 (by kernel_rfl) rfl (by kernel_rfl) (by kernel_rfl) rfl rfl (by kernel_rfl) (Pu.stable (pu_mul64 rfl rfl (by omega))) ?_
      refine D_pu 8 (by kernel_rfl) rfl (by kernel_rfl) (by kernel_rfl) rfl rfl (by kernel_rfl) (Pu.stable (pu_move rfl)) ?_
      refine D_pu 9 (by kernel_rfl) rfl (by kernel_rfl) (by kernel_rfl) rfl rfl (by kernel_rfl) (Pu.stable (pu_sub64 rfl rfl (by omega))) ?_
      refine D_pu 10 (by kernel_rfl) rfl (by kernel_rfl) (by kernel_rfl) rfl rfl (by kernel_rfl) (Pu.stable (pu_move rfl)) ?_
      refine D_pu 11 (by kernel_rfl) rfl (by kernel_rfl) (by kernel_rfl) rfl rfl (by kernel_rfl) (Pu.stable (pu_add64 rfl rfl (by omega))) ?_
      refine D_pu 12 (by kernel_rfl) rfl (by kernel_rfl) (by kernel_rfl) rfl rfl (by kernel_rfl) (Pu.stable (pu_move rfl)) ?_
      refine D_pu 13 (by kernel_rfl) rfl (by kernel_rfl) (by kernel_rfl) rfl rfl (by kernel_rfl) (Pu.stable (pu_rem rfl rfl (by omega))) ?_
      refine D_pu 14 (by kernel_rfl) rfl (by kernel_rfl) (by kernel_rfl) rfl rfl (by kernel_rfl) (Pu.stable ((by first | exact pu_ix1 Try.underlying22 ty2 rfl rfl (by omega) (by omega) | exact pu_index Try.underlying22 ty2 rfl rfl (by omega) (by omega)))) ?_
      refine D_goN 15 (by kernel_rfl) (by first | rfl | (intro _; rfl) | (intro h; exact absurd (show true = false from h) (by decide)) | exact Kp.refl _ _ | assumption) rfl rfl (st_storeI hs 0 rfl ty2 rfl rfl (by omega) (by first | omega | (simp; omega)) fun w5 hk5 hs => ?_)
      refine D_pu 16 (by kernel_rfl) rfl (by kernel_rfl) (by kernel_rfl) rfl rfl (by kernel_rfl) (Pu.stable ((by first | exact pu_ix1 Try.underlying22 ty2 rfl rfl (by omega) (by omega) | exact pu_index Try.underlying22 ty2 rfl rfl (by omega) (by omega)))) ?_
      refine D_goN 17 (by kernel_rfl) (by first | rfl | (intro _; rfl) | (intro h; exact absurd (show true = false from h) (by decide)) | exact Kp.refl _ _ | assumption) rfl rfl (st_storeI hs 0 rfl ty2 rfl rfl (by omega) (by first | omega | (simp; omega)) fun w6 hk6 hs => ?_)
      refine D_done (by kernel_rfl) (by first | rfl | (intro _; rfl) | (intro h; exact absurd (show true = false from h) (by decide)) | exact Kp.refl _ _ | assumption) ?_
      refine W_reg ?_
      refine T_pu rfl rfl (pu_add64 rfl rfl (by omega)) ?_
      refine T_pu rfl rfl (pu_move rfl) ?_
      refine T_nil ?_
      refine ⟨k + 1, .cons rfl (.cons rfl (.cons rfl (.cons rfl (.cons rfl (.nil _))))), ⟨by omega, ?_⟩, by omega⟩
      rw [hstep]
      unfold colStep
      simp only []
      first
        | (rw [if_pos (by assumption)]; rw [tmod_nn (by omega)] at hs; exact hs)
        | (rw [if_neg (by assumption)]; rw [tmod_nn (by omega)] at hs; exact hs)
  · refine W_exit rfl ?_
    refine W_seq ?_
    refine W_reg ?_
    refine T_pu rfl rfl (pu_move rfl) ?_
    refine T_pu rfl rfl (pu_assign rfl) ?_
    refine T_nil ?_
    refine W_ret ?_
    obtain rfl : k = ls.length := by omega
    rw [List.take_length] at hs
    exact Res_1 rfl rfl (hs.isNewI 0 rfl)
theorem l08Step_ok (v u : Value) (ls c : List Int) (p : Int) (hp : 3 ≤ p ∧ p ≤ 97) (w : World) (hv : RI w v ls) (hu : RI w u c) (hll : ls.length ≤ 1000) (hcl : 1 ≤ c.length ∧ c.length ≤ 8) (hls : ∀ l ∈ ls, Lt c.length l) (hc : InP p c) :
    CallsR Try.prog 69 #[v, .int .i64 p, u] w fun r w' => NewI w w' r (colF p ls c) := by
  obtain ⟨A, ca, rfl, hca⟩ := hv.open
  have hs := St.start w
  refine fn_calls Try.func69 rfl rfl rfl ?_
  refine W_seq ?_
  refine W_reg ?_
  refine T_pu rfl rfl (pu_assign rfl) ?_
  refine T_nil ?_
  refine W_seq ?_
  refine W_reg ?_
  refine T_pu rfl rfl (pu_move rfl) ?_
  refine T_go rfl rfl (st_call fn136 rfl ((l01Own_ok _ c w hu (by omega)).mono ?_))
  rintro r w1 hn
  have hs := hs.newI hn
  have hO := hn.1
  rcases hO.open with ⟨_, rfl⟩ | ⟨b, cap, rfl, hcap⟩
  · simp at hcl
  refine T_pu rfl rfl (pu_assign rfl) ?_
  refine T_nil ?_
  refine W_seq ?_
  refine W_seq ?_
  refine W_reg ?_
  refine T_pu rfl rfl (pu_assign rfl) ?_
  refine T_nil ?_
  refine W_block ?_
  refine W_loop (σ := Nat) (fun k => [(0, .slice A ls.length ca), (1, .int .i64 p), (7, .slice (some ⟨b, 0, none⟩) c.length cap), (8, .int .i64 k)]) (fun k w' => k ≤ ls.length ∧ St no w [aOI (.slice (some ⟨b, 0, none⟩) c.length cap) (colF p (ls.take k) c)] w') (fun k => ls.length - k) 0 ?_ ?_ ?_
  · exact .cons rfl (.cons rfl (.cons rfl (.cons rfl (.nil _))))
  · exact ⟨Nat.zero_le _, hs⟩
  rintro k w2 ⟨hkl, hs⟩
  have hv2 := hv.keep hs.kp
  obtain ⟨hcn, hin⟩ := colF_all (p := p) (by omega) (ls.take k) c rfl (fun x hx => hls x (List.mem_of_mem_take hx)) hc
  refine W_seq ?_
  refine W_seq ?_
  refine W_reg ?_
  refine T_pu rfl rfl (pu_move rfl) ?_
  refine T_pu rfl rfl (pu_move rfl) ?_
  refine T_pu rfl rfl (pu_len Try.underlying22 rfl) ?_
  refine T_pu rfl rfl (pu_lss rfl rfl) ?_
  refine T_nil ?_
  refine W_if rfl (fun hc3 => ?_) (fun hc3 => ?_)
  · refine W_skip ?_
    refine W_seq ?_
    refine W_block ?_
    refine W_seq ?_
    refine W_draw mixed 1000 I0 (fun w3 hk3 => ?_)
    have hs := hs.next hk3
    have hv3 := hv2.keep hk3
    obtain ⟨a, rfl⟩ := hv3.addr (i := k) (by omega) (by omega)
    have hlt := hls _ (rd_mem (i := k) (by omega))
    have hstep := colF_take (p := p) (c := c) (show k < ls.length by omega)
    unfold Lt at hlt
    refine D_pu 0 (by kernel_rfl) rfl (by kernel_rfl) (by kernel_rfl) rfl rfl (by kernel_rfl) (Pu.stable (pu_move rfl)) ?_
    refine D_pu 1 (by kernel_rfl) rfl (by kernel_rfl) (by kernel_rfl) rfl rfl (by kernel_rfl) (Pu.stable (pu_move rfl)) ?_
    refine D_pu 2 (by kernel_rfl) rfl (by kernel_rfl) (by kernel_rfl) rfl rfl (by kernel_rfl) (Pu.stable ((by first | exact pu_ix1 Try.underlying22 ty2 rfl rfl (by omega) (by omega) | exact pu_index Try.underlying22 ty2 rfl rfl (by omega) (by omega)))) ?_
    refine D_pu 3 (by kernel_rfl) rfl (by kernel_rfl) (by kernel_rfl) rfl rfl (by kernel_rfl) (pi_load Try.underlying2 rfl rfl (fun w' h => by obtain ⟨_, rfl⟩ := h; exact (by first | exact hv3.at (by omega) (by omega)))) ?_
    refine D_pu 4 (by kernel_rfl) rfl (by kernel_rfl) (by kernel_rfl) rfl rfl (by kernel_rfl) (Pu.stable (pu_move rfl)) ?_
    refine D_pu 5 (by kernel_rfl) rfl (by kernel_rfl) (by kernel_rfl) rfl rfl (by kernel_rfl) (Pu.stable (pu_move rfl)) ?_
    refine D_pu 6 (by kernel_rfl) rfl (by kernel_rfl) (by kernel_rfl) rfl rfl (by kernel_rfl) (Pu.stable ((by first | exact pu_ix1 Try.underlying22 ty2 rfl rfl (by omega) (by omega) | exact pu_index Try.underlying22 ty2 rfl rfl (by omega) (by omega)))) ?_
    refine D_pu 7 (by kernel_rfl) rfl (by kernel_rfl) (by kernel_rfl) rfl rfl (by kernel_rfl) (pi_load Try.underlying2 rfl rfl (fun w' h => by obtain ⟨_, rfl⟩ := h; exact (by first | exact hv3.at (by omega) (by omega)))) ?_
    refine D_pu 8 (by kernel_rfl) rfl (by kernel_rfl) (by kernel_rfl) rfl rfl (by kernel_rfl) (Pu.stable (pu_neg64 rfl (by omega))) ?_
    refine D_pu 9 (by kernel_rfl) rfl (by kernel_rfl) (by kernel_rfl) rfl rfl (by kernel_rfl) (Pu.stable (pu_max rfl rfl)) ?_
    refine D_pu 10 (by kernel_rfl) rfl (by kernel_rfl) (by kernel_rfl) rfl rfl (by kernel_rfl) (Pu.stable (pu_assign rfl)) ?_
    refine D_done (by kernel_rfl) (by first | rfl | (intro _; rfl) | (intro h; exact absurd (show true = false from h) (by decide)) | exact Kp.refl _ _ | assumption) ?_
    refine W_seq ?_
    refine W_draw mixed 1000 I0 (fun w4 hk4 => ?_)
    have hs := hs.next hk4
    have hv4 := hv3.keep hk4
    have hO3 := (hs.oi 0 rfl).ri
    have r1 := hin.rd (i := max (rd ls k) (-rd ls k) - 1) (by omega) (by omega)
    have r2 := hin.rd (i := max (rd ls k) (-rd ls k)) (by omega) (by omega)
    refine D_pu 0 (by kernel_rfl) rfl (by kernel_rfl) (by kernel_rfl) rfl rfl (by kernel_rfl) (Pu.stable (pu_move rfl)) ?_
    refine D_pu 1 (by kernel_rfl) rfl (by kernel_rfl) (by kernel_rfl) rfl rfl (by kernel_rfl) (Pu.stable (pu_move rfl)) ?_
    refine D_pu 2 (by kernel_rfl) rfl (by kernel_rfl) (by kernel_rfl) rfl rfl (by kernel_rfl) (Pu.stable (pu_sub64 rfl rfl (by omega))) ?_
    refine D_pu 3 (by kernel_rfl) rfl (by kernel_rfl) (by kernel_rfl) rfl rfl (by kernel_rfl) (Pu.stable ((by first | exact pu_ix1 Try.underlying22 ty2 rfl rfl (by omega) (by omega) | exact pu_index Try.underlying22 ty2 rfl rfl (by omega) (by omega)))) ?_
    refine D_pu 4 (by kernel_rfl) rfl (by kernel_rfl) (by kernel_rfl) rfl rfl (by kernel_rfl) (pi_load Try.underlying2 rfl rfl (fun w' h => by obtain ⟨_, rfl⟩ := h; exact (by first | exact hO3.at0 (by omega) (by omega) | exact hv4.at (by omega) (by omega)))) ?_
    refine D_pu 5 (by kernel_rfl) rfl (by kernel_rfl) (by kernel_rfl) rfl rfl (by kernel_rfl) (Pu.stable (pu_move rfl)) ?_
    refine D_pu 6 (by kernel_rfl) rfl (by kernel_rfl) (by kernel_rfl) rfl rfl (by kernel_rfl) (Pu.stable (pu_move rfl)) ?_
    refine D_pu 7 (by kernel_rfl) rfl (by kernel_rfl) (by kernel_rfl) rfl rfl (by kernel_rfl) (Pu.stable ((by first | exact pu_ix1 Try.underlying22 ty2 rfl rfl (by omega) (by omega) | exact pu_index Try.underlying22 ty2 rfl rfl (by omega) (by omega)))) ?_
    refine D_pu 8 (by kernel_rfl) rfl (by kernel_rfl) (by kernel_rfl) rfl rfl (by kernel_rfl) (pi_load Try.underlying2 rfl rfl (fun w' h => by obtain ⟨_, rfl⟩ := h; exact (by first | exact hO3.at0 (by omega) (by omega) | exact hv4.at (by omega) (by omega)))) ?_
    refine D_pu 9 (by kernel_rfl) rfl (by kernel_rfl) (by kernel_rfl) rfl rfl (by kernel_rfl) (Pu.stable (pu_assign rfl)) ?_
    refine D_pu 10 (by kernel_rfl) rfl (by kernel_rfl) (by kernel_rfl) rfl rfl (by kernel_rfl) (Pu.stable (pu_assign rfl)) ?_
    refine D_done (by kernel_rfl) (by first | rfl | (intro _; rfl) | (intro h; exact absurd (show true = false from h) (by decide)) | exact Kp.refl _ _ | assumption) ?_
    refine W_seq ?_
    refine W_reg ?_
    refine T_pu rfl rfl (pu_move rfl) ?_
    refine T_pu rfl rfl (pu_move rfl) ?_
    refine T_pu rfl rfl ((by first | exact pu_ix1 Try.underlying22 ty2 rfl rfl (by omega) (by omega) | exact pu_index Try.underlying22 ty2 rfl rfl (by omega) (by omega))) ?_
    refine T_pi rfl rfl (pi_load Try.underlying2 rfl rfl (fun w' h => by obtain rfl := h; exact (by first | exact hO3.at0 (by omega) (by omega) | exact hv4.at (by omega) (by omega)))) ?_
    refine T_pu rfl rfl (pu_gtr rfl rfl) ?_
    refine T_nil ?_
    refine W_if rfl (fun hc7 => ?_) (fun hc7 => ?_)
    · refine W_seq ?_
      refine W_reg ?_
      refine T_pu rfl rfl (pu_move rfl) ?_
      refine T_pu rfl rfl (pu_move rfl) ?_
      refine T_pu rfl rfl (pu_sub64 rfl rfl (by omega)) ?_
      refine T_pu rfl rfl (pu_move rfl) ?_
      refine T_pu rfl rfl (pu_mul64 rfl rfl (by omega)) ?_
      refine T_pu rfl rfl (pu_move rfl) ?_
      refine T_pu rfl rfl (pu_sub64 rfl rfl (by omega)) ?_
      refine T_pu rfl rfl (pu_move rfl) ?_
      refine T_pu rfl rfl (pu_add64 rfl rfl (by omega)) ?_
      refine T_pu rfl rfl (pu_move rfl) ?_
      refine T_pu rfl rfl (pu_rem rfl rfl (by omega)) ?_
      refine T_pu rfl rfl ((by first | exact pu_ix1 Try.underlying22 ty2 rfl rfl (by omega) (by omega) | exact pu_index Try.underlying22 ty2 rfl rfl (by omega) (by omega))) ?_
      refine T_goN rfl (st_storeI hs 0 rfl ty2 rfl rfl (by omega) (by first | omega | (simp; omega)) fun w4 hk4 hs => ?_)
      refine T_nil ?_
      refine W_reg ?_
      refine T_pu rfl rfl (pu_move rfl) ?_
      refine T_pu rfl rfl (pu_move rfl) ?_
      refine T_pu rfl rfl (pu_move rfl) ?_
      refine T_pu rfl rfl ((by first | exact pu_ix1 Try.underlying22 ty2 rfl rfl (by omega) (by omega) | exact pu_index Try.underlying22 ty2 rfl rfl (by omega) (by omega))) ?_
      refine T_goN rfl (st_storeI hs 0 rfl ty2 rfl rfl (by omega) (by first | omega | (simp; omega)) fun w5 hk5 hs => ?_)
      refine T_nil ?_
      refine W_reg ?_
      refine T_pu rfl rfl (pu_move rfl) ?_
      refine T_pu rfl rfl (pu_add64 rfl rfl (by omega)) ?_
      refine T_pu rfl rfl (pu_assign rfl) ?_
      refine T_nil ?_
      refine ⟨k + 1, .cons rfl (.cons rfl (.cons rfl (.cons rfl (.nil _)))), ⟨by omega, ?_⟩, by omega⟩
      rw [hstep]
      unfold colStep
      simp only []
      first
        | (rw [if_pos (by assumption)]; rw [tmod_nn (by omega)] at hs; exact hs)
        | (rw [if_neg (by assumption)]; rw [tmod_nn (by omega)] at hs; exact hs)
    · refine W_seq ?_
      refine W_reg ?_
      refine T_pu rfl rfl (pu_move rfl) ?_
      refine T_pu rfl rfl (pu_move rfl) ?_
      refine T_pu rfl rfl (pu_sub64 rfl rfl (by omega)) ?_
      refine T_pu rfl rfl (pu_move rfl) ?_
      refine T_pu rfl rfl ((by first | exact pu_ix1 Try.underlying22 ty2 rfl rfl (by omega) (by omega) | exact pu_index Try.underlying22 ty2 rfl rfl (by omega) (by omega))) ?_
      refine T_goN rfl (st_storeI hs 0 rfl ty2 rfl rfl (by omega) (by first | omega | (simp; omega)) fun w5 hk5 hs => ?_)
      refine T_nil ?_
      refine W_reg ?_
      refine T_pu rfl rfl (pu_move rfl) ?_
      refine T_pu rfl rfl (pu_move rfl) ?_
      refine T_pu rfl rfl (pu_move rfl) ?_
      refine T_pu rfl rfl (pu_mul64 rfl rfl (by omega)) ?_
      refine T_pu rfl rfl (pu_move rfl) ?_
      refine T_pu rfl rfl (pu_sub64 rfl rfl (by omega)) ?_
      refine T_pu rfl rfl (pu_move rfl) ?_
      refine T_pu rfl rfl (pu_add64 rfl rfl (by omega)) ?_
      refine T_pu rfl rfl (pu_move rfl) ?_
      refine T_pu rfl rfl (pu_rem rfl rfl (by omega)) ?_
      refine T_pu rfl rfl ((by first | exact pu_ix1 Try.underlying22 ty2 rfl rfl (by omega) (by omega) | exact pu_index Try.underlying22 ty2 rfl rfl (by omega) (by omega))) ?_
      refine T_goN rfl (st_storeI hs 0 rfl ty2 rfl rfl (by omega) (by first | omega | (simp; omega)) fun w6 hk6 hs => ?_)
      refine T_nil ?_
      refine W_reg ?_
      refine T_pu rfl rfl (pu_move rfl) ?_
      refine T_pu rfl rfl (pu_add64 rfl rfl (by omega)) ?_
      refine T_pu rfl rfl (pu_assign rfl) ?_
      refine T_nil ?_
      refine ⟨k + 1, .cons rfl (.cons rfl (.cons rfl (.cons rfl (.nil _)))), ⟨by omega, ?_⟩, by omega⟩
      rw [hstep]
      unfold colStep
      simp only []
      first
        | (rw [if_pos (by assumption)]; rw [tmod_nn (by omega)] at hs; exact hs)
        | (rw [if_neg (by assumption)]; rw [tmod_nn (by omega)] at hs; exact hs)
  · refine W_exit rfl ?_
    refine W_seq ?_
    refine W_reg ?_
    refine T_pu rfl rfl (pu_move rfl) ?_
    refine T_pu rfl rfl (pu_assign rfl) ?_
    refine T_nil ?_
    refine W_ret ?_
    obtain rfl : k = ls.length := by omega
    rw [List.take_length] at hs
    exact Res_1 rfl rfl (hs.isNewI 0 rfl)
end Go.Proofs.Ytdpbfdjpeofbmaa.L
