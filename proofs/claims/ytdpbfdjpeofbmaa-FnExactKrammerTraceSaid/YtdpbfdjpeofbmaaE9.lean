/- Krammer's matrices of letters, over plain lists: pairs, rows, and that they have inverses. -/
import Derived.Test.YtdpbfdjpeofbmaaE7
namespace Go.Proofs.Ytdpbfdjpeofbmaa.L
set_option linter.unusedVariables false
set_option maxRecDepth 100000

def psN (n : Nat) : Nat → Nat
  | 0 => 0
  | a + 1 => psN n a + (n - (a + 1))
def pN (n i j : Nat) : Nat := psN n (i - 1) + (j - i - 1)
def prs (n : Nat) : List (Nat × Nat) := (List.range n).flatMap fun a => (List.range (n - 1 - a)).map fun c => (a + 1, a + 2 + c)
def pr (n p : Nat) : Nat × Nat := (prs n).getD p (0, 0)
def nPr (n : Nat) : Nat := n * (n - 1) / 2
theorem prs_all : (List.range 9).all (fun n => (List.range 9).all fun i => (List.range 10).all fun j => !(decide (1 ≤ i) && decide (i < j) && decide (j ≤ n)) || (decide (pr n (pN n i j) = (i, j)) && decide (pN n i j < nPr n))) = true := by decide +kernel
theorem prs_all2 : (List.range 9).all (fun n => (List.range (nPr n)).all fun p => decide (1 ≤ (pr n p).1) && decide ((pr n p).1 < (pr n p).2) && decide ((pr n p).2 ≤ n) && decide (pN n (pr n p).1 (pr n p).2 = p)) = true := by decide +kernel
theorem ps_all : (List.range 9).all (fun n => decide (psN n n = nPr n) && decide (psN n (n - 1) = nPr n) && (List.range 9).all fun i => decide (psN n i ≤ 28)) = true := by decide +kernel
section
variable {n i j : Nat}
theorem pr_at (hn : n ≤ 8) (h1 : 1 ≤ i) (h2 : i < j) (h3 : j ≤ n) : pr n (pN n i j) = (i, j) ∧ pN n i j < nPr n := by
  have h := prs_all
  simp only [List.all_eq_true, List.mem_range] at h
  have := h n (by omega) i (by omega) j (by omega)
  simp only [h1, h2, h3, decide_true, Bool.and_true, Bool.not_true, Bool.false_or, Bool.and_eq_true, decide_eq_true_eq] at this
  exact this
theorem pr_of {p : Nat} (hn : n ≤ 8) (h : p < nPr n) : 1 ≤ (pr n p).1 ∧ (pr n p).1 < (pr n p).2 ∧ (pr n p).2 ≤ n ∧ pN n (pr n p).1 (pr n p).2 = p := by
  have h' := prs_all2
  simp only [List.all_eq_true, List.mem_range] at h'
  have := h' n (by omega) p h
  simp only [Bool.and_eq_true, decide_eq_true_eq] at this
  exact ⟨this.1.1.1, this.1.1.2, this.1.2, this.2⟩
theorem ps_n (hn : n ≤ 8) : psN n n = nPr n ∧ psN n (n - 1) = nPr n := by
  have h := ps_all
  simp only [List.all_eq_true, List.mem_range, Bool.and_eq_true, decide_eq_true_eq] at h
  exact (h n (by omega)).1
theorem nPr_le (hn : n ≤ 8) : nPr n ≤ 28 := by
  have h := ps_all
  simp only [List.all_eq_true, List.mem_range, Bool.and_eq_true, decide_eq_true_eq] at h
  have h1 := h n (by omega)
  rw [← h1.1.1]
  exact h1.2 n (by omega)
theorem pN_inj {i' j' : Nat} (hn : n ≤ 8) (h1 : 1 ≤ i) (h2 : i < j) (h3 : j ≤ n) (h1' : 1 ≤ i') (h2' : i' < j') (h3' : j' ≤ n) (h : pN n i j = pN n i' j') : i = i' ∧ j = j' := by
  have e1 := (pr_at hn h1 h2 h3).1
  have e2 := (pr_at hn h1' h2' h3').1
  rw [h, e2] at e1
  simp only [Prod.mk.injEq] at e1
  exact ⟨e1.1.symm, e1.2.symm⟩
end
def pwr (q : Int) : Nat → Int
  | 0 => 1
  | m + 1 => pwr q m * q % 10007
theorem pwr_range {q : Int} : ∀ m, 0 ≤ pwr q m ∧ pwr q m < 10007
  | 0 => by simp [pwr]
  | m + 1 => ⟨Int.emod_nonneg _ (by omega), Int.emod_lt_of_pos _ (by omega)⟩
def onec (y : Nat) (c : Int) (b : Nat) : Int := if b = y then c else 0
def twoc (y1 : Nat) (c1 : Int) (y2 : Nat) (c2 : Int) (b : Nat) : Int := if b = y2 then c2 else if b = y1 then c1 else 0
def KR (n k : Nat) (q t : Int) (i j : Nat) : Nat → Int :=
  if i = k ∧ j = k + 1 then onec (pN n k (k + 1)) (t * q % 10007 * q % 10007)
  else if j = k then twoc (pN n i k) ((1 - q) % 10007) (pN n i (k + 1)) q
  else if j = k + 1 then twoc (pN n i k) 1 (pN n k (k + 1)) (t * pwr q (k - i + 1) % 10007 * (q - 1) % 10007)
  else if i = k then twoc (pN n k (k + 1)) (t * q % 10007 * (q - 1) % 10007) (pN n (k + 1) j) q
  else if i = k + 1 then twoc (pN n k j) 1 (pN n (k + 1) j) ((1 - q) % 10007)
  else if i < k ∧ k + 1 < j then twoc (pN n i j) 1 (pN n k (k + 1)) (t * pwr q (k - i) % 10007 * ((q - 1) * (q - 1) % 10007) % 10007)
  else onec (pN n i j) 1
def krM (n : Nat) (q t : Int) (k : Nat) : List (List Int) := fmat (nPr n) fun a b => KR n k q t (pr n a).1 (pr n a).2 b
theorem em_range (x : Int) : 0 ≤ x % 10007 ∧ x % 10007 < 10007 := ⟨Int.emod_nonneg _ (by omega), Int.emod_lt_of_pos _ (by omega)⟩
theorem onec_range {y : Nat} {c : Int} (h : 0 ≤ c ∧ c < 10007) (b : Nat) : 0 ≤ onec y c b ∧ onec y c b < 10007 := by unfold onec; split <;> omega
theorem twoc_range {y1 y2 : Nat} {c1 c2 : Int} (h : 0 ≤ c1 ∧ c1 < 10007) (h2 : 0 ≤ c2 ∧ c2 < 10007) (b : Nat) : 0 ≤ twoc y1 c1 y2 c2 b ∧ twoc y1 c1 y2 c2 b < 10007 := by unfold twoc; split <;> (try split) <;> omega
theorem KR_range {n k i j : Nat} {q t : Int} (hq : 1 ≤ q ∧ q ≤ 10006) (b : Nat) : 0 ≤ KR n k q t i j b ∧ KR n k q t i j b < 10007 := by
  unfold KR
  split
  · exact onec_range (em_range _) b
  · split
    · exact twoc_range (em_range _) (by omega) b
    · split
      · exact twoc_range (by omega) (em_range _) b
      · split
        · exact twoc_range (em_range _) (by omega) b
        · split
          · exact twoc_range (by omega) (em_range _) b
          · split
            · exact twoc_range (by omega) (em_range _) b
            · exact onec_range (by omega) b
theorem sum_onec {y : Nat} {c : Int} {v : Nat → Int} {d : Nat} (hy : y < d) : sumN (fun b => onec y c b * v b) d = c * v y := by
  rw [sumN_one (a := y) hy fun j _ hne => by unfold onec; rw [if_neg hne, Int.zero_mul]]
  unfold onec
  rw [if_pos rfl]
theorem sum_twoc {y1 y2 : Nat} {c1 c2 : Int} {v : Nat → Int} {d : Nat} (hne : y1 ≠ y2) (h1 : y1 < d) (h2 : y2 < d) : sumN (fun b => twoc y1 c1 y2 c2 b * v b) d = c1 * v y1 + c2 * v y2 := by
  rw [sumN_two hne h1 h2 fun j _ a b => by unfold twoc; rw [if_neg b, if_neg a, Int.zero_mul]]
  unfold twoc
  rw [if_neg hne, if_pos rfl, if_pos rfl]
theorem dv_of_mod {x : Int} (h : Dv (x % 10007)) : Dv x := by
  obtain ⟨a, ha⟩ := h
  have := Int.emod_add_mul_ediv x 10007
  exact ⟨a + x / 10007, by omega⟩
theorem dv_modmul {a v : Int} (h : Dv (a % 10007 * v)) : Dv (a * v) := by
  obtain ⟨q, hq⟩ := h
  have := Int.emod_add_mul_ediv a 10007
  refine ⟨q + (a / 10007) * v, ?_⟩
  rw [Int.mul_add, ← hq, ← Int.mul_assoc, ← Int.add_mul]
  congr 1
  omega
theorem krM_good {n : Nat} (hn : 2 ≤ n ∧ n ≤ 8) {q t : Int} (hq : 1 ≤ q ∧ q ≤ 10006) (ht : 1 ≤ t ∧ t ≤ 10006) {k : Nat} (hk : 1 ≤ k ∧ k + 1 ≤ n) : Good (nPr n) (krM n q t k) := by
  refine ⟨Fq.fmat fun a b _ _ => KR_range hq b, fun v hv => ?_⟩
  have hn8 : n ≤ 8 := hn.2
  have lt : ∀ {i j : Nat}, 1 ≤ i → i < j → j ≤ n → pN n i j < nPr n := fun h1 h2 h3 => (pr_at hn8 h1 h2 h3).2
  have row : ∀ {i j : Nat}, 1 ≤ i → i < j → j ≤ n → Dv (sumN (fun b => KR n k q t i j b * v b) (nPr n)) := fun {i j} h1 h2 h3 => by
    have := hv (pN n i j) (lt h1 h2 h3)
    rwa [sumN_congr (g := fun b => KR n k q t i j b * v b) fun b hb => by unfold krM; rw [rd2_fmat (lt h1 h2 h3) hb, (pr_at hn8 h1 h2 h3).1]] at this
  have ne : ∀ {i j i' j' : Nat}, 1 ≤ i → i < j → j ≤ n → 1 ≤ i' → i' < j' → j' ≤ n → (i ≠ i' ∨ j ≠ j') → pN n i j ≠ pN n i' j' := fun h1 h2 h3 h4 h5 h6 h h' => by
    have := pN_inj hn8 h1 h2 h3 h4 h5 h6 h'
    omega
  -- the letter's own pair
  have own : Dv (v (pN n k (k + 1))) := by
    have := row (i := k) (j := k + 1) hk.1 (by omega) hk.2
    rw [show KR n k q t k (k + 1) = onec (pN n k (k + 1)) (t * q % 10007 * q % 10007) by unfold KR; rw [if_pos ⟨rfl, rfl⟩], sum_onec (lt hk.1 (by omega) hk.2)] at this
    have h1 := dv_modmul this
    rw [Int.mul_comm (t * q % 10007), Int.mul_assoc] at h1
    have h2 := dv_modmul (dv_unit (by omega) (by omega) h1)
    rw [Int.mul_assoc] at h2
    exact dv_unit (by omega) (by omega) (dv_unit (by omega) (by omega) h2)
  have cancel : ∀ {a b : Int}, Dv (a + b) → Dv b → Dv a := fun {a b} h h' => by have := Int.dvd_sub h h'; rwa [Int.add_sub_cancel] at this
  have cancel' : ∀ {a b : Int}, Dv (a + b) → Dv a → Dv b := fun {a b} h h' => by rw [Int.add_comm] at h; exact cancel h h'
  have left : ∀ i, 1 ≤ i → i < k → Dv (v (pN n i k)) := fun i h1 h2 => by
    have := row (i := i) (j := k + 1) h1 (by omega) hk.2
    rw [show KR n k q t i (k + 1) = twoc (pN n i k) 1 (pN n k (k + 1)) (t * pwr q (k - i + 1) % 10007 * (q - 1) % 10007) by unfold KR; rw [if_neg (by omega), if_neg (by omega), if_pos rfl],
      sum_twoc (ne h1 h2 (by omega) hk.1 (by omega) hk.2 (by omega)) (lt h1 h2 (by omega)) (lt hk.1 (by omega) hk.2), Int.one_mul] at this
    exact cancel this (own.mul' _)
  have left' : ∀ i, 1 ≤ i → i < k → Dv (v (pN n i (k + 1))) := fun i h1 h2 => by
    have := row (i := i) (j := k) h1 h2 (by omega)
    rw [show KR n k q t i k = twoc (pN n i k) ((1 - q) % 10007) (pN n i (k + 1)) q by unfold KR; rw [if_neg (by omega), if_pos rfl],
      sum_twoc (ne h1 h2 (by omega) h1 (by omega) hk.2 (by omega)) (lt h1 h2 (by omega)) (lt h1 (by omega) hk.2)] at this
    exact dv_unit (by omega) (by omega) (cancel' this ((left i h1 h2).mul' _))
  have right : ∀ j, k + 1 < j → j ≤ n → Dv (v (pN n (k + 1) j)) := fun j h1 h2 => by
    have := row (i := k) (j := j) hk.1 (by omega) h2
    rw [show KR n k q t k j = twoc (pN n k (k + 1)) (t * q % 10007 * (q - 1) % 10007) (pN n (k + 1) j) q by unfold KR; rw [if_neg (by omega), if_neg (by omega), if_neg (by omega), if_pos rfl],
      sum_twoc (ne hk.1 (by omega) hk.2 (by omega) h1 h2 (by omega)) (lt hk.1 (by omega) hk.2) (lt (by omega) h1 h2)] at this
    exact dv_unit (by omega) (by omega) (cancel' this (own.mul' _))
  have right' : ∀ j, k + 1 < j → j ≤ n → Dv (v (pN n k j)) := fun j h1 h2 => by
    have := row (i := k + 1) (j := j) (by omega) h1 h2
    rw [show KR n k q t (k + 1) j = twoc (pN n k j) 1 (pN n (k + 1) j) ((1 - q) % 10007) by unfold KR; rw [if_neg (by omega), if_neg (by omega), if_neg (by omega), if_neg (by omega), if_pos rfl],
      sum_twoc (ne hk.1 (by omega) h2 (by omega) h1 h2 (by omega)) (lt hk.1 (by omega) h2) (lt (by omega) h1 h2), Int.one_mul] at this
    exact cancel this ((right j h1 h2).mul' _)
  intro p hp
  obtain ⟨h1, h2, h3, h4⟩ := pr_of hn8 hp
  rw [← h4]
  generalize (pr n p).1 = i at h1 h2 h3 ⊢
  generalize (pr n p).2 = j at h2 h3 ⊢
  by_cases e1 : i = k
  · subst e1
    by_cases e2 : j = i + 1
    · subst e2; exact own
    · exact right' j (by omega) h3
  · by_cases e2 : i = k + 1
    · subst e2; exact right j (by omega) h3
    · by_cases e3 : j = k
      · subst e3; exact left i h1 (by omega)
      · by_cases e4 : j = k + 1
        · subst e4; exact left' i h1 (by omega)
        · have := row (i := i) (j := j) h1 h2 h3
          by_cases e5 : i < k ∧ k + 1 < j
          · rw [show KR n k q t i j = twoc (pN n i j) 1 (pN n k (k + 1)) (t * pwr q (k - i) % 10007 * ((q - 1) * (q - 1) % 10007) % 10007) by unfold KR; rw [if_neg (by omega), if_neg e3, if_neg e4, if_neg e1, if_neg e2, if_pos e5],
              sum_twoc (ne h1 h2 h3 hk.1 (by omega) hk.2 (by omega)) (lt h1 h2 h3) (lt hk.1 (by omega) hk.2), Int.one_mul] at this
            exact cancel this (own.mul' _)
          · rw [show KR n k q t i j = onec (pN n i j) 1 by unfold KR; rw [if_neg (by omega), if_neg e3, if_neg e4, if_neg e1, if_neg e2, if_neg e5], sum_onec (lt h1 h2 h3), Int.one_mul] at this
            exact this
end Go.Proofs.Ytdpbfdjpeofbmaa.L
