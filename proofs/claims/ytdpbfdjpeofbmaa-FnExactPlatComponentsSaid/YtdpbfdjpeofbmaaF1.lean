/- Curves of plats, over plain numbers: the walks and the groups are as many. -/
import Derived.Test.YtdpbfdjpeofbmaaF0
import Derived.Test.YtdpbfdjpeofbmaaD6
namespace Go.Proofs.Ytdpbfdjpeofbmaa.L
set_option linter.unusedVariables false

/-! ### Places are a permutation -/
theorem swp_perm {a : List Int} {k : Int} (h1 : 1 ≤ k) (h2 : k ≤ a.length - 1) : (swp a k).Perm a := by
  have hk : k.toNat < a.length := by omega
  have hk1 : (k - 1).toNat < a.length := by omega
  have e1 : rd a k = a[k.toNat] := by unfold rd; simp [List.getD_eq_getElem?_getD, hk]
  have e2 : rd a (k - 1) = a[(k - 1).toNat] := by unfold rd; rw [List.getD_eq_getElem?_getD, List.getElem?_eq_getElem hk1]; rfl
  unfold swp
  rw [e1, e2]
  exact List.set_set_perm hk1 hk
theorem strF_perm {n : Nat} {ls : List Int} (hl : ∀ l ∈ ls, Lt n l) : (strF n ls).Perm (iota n) := by
  have key : ∀ (ls : List Int) (a : List Int), (∀ l ∈ ls, Lt n l) → a.length = n → (ls.foldl (fun a l => swp a (max l (-l))) a).Perm a := by
    intro ls
    induction ls with
    | nil => intro a _ _; exact .refl _
    | cons l ls ih =>
      intro a hl h
      have := hl l (by simp)
      unfold Lt at this
      exact (ih _ (fun x hx => hl x (by simp [hx])) (by rw [swp_length]; exact h)).trans (swp_perm (by omega) (by omega))
  exact key ls _ hl (iota_length n)
theorem rd_inj {a : List Int} (h : a.Nodup) {i j : Int} (h0 : 0 ≤ i) (h1 : i < a.length) (h2 : 0 ≤ j) (h3 : j < a.length) (e : rd a i = rd a j) : i = j := by
  have e1 : rd a i = a[i.toNat]'(by omega) := by unfold rd; simp [List.getD_eq_getElem?_getD, show i.toNat < a.length by omega]
  have e2 : rd a j = a[j.toNat]'(by omega) := by unfold rd; simp [List.getD_eq_getElem?_getD, show j.toNat < a.length by omega]
  rw [e1, e2] at e
  have := (List.getElem_inj h).1 e
  omega
/-- A permutation of 0 to n - 1, and where each number lies. -/
structure Pm (n : Nat) (a e : List Int) : Prop where
  al : a.length = n
  ain : InN n a
  el : e.length = n
  ein : InN n e
  ea : ∀ i : Int, 0 ≤ i → i < n → rd e (rd a i) = i
  ae : ∀ x : Int, 0 ≤ x → x < n → rd a (rd e x) = x
theorem pm_ends {n : Nat} (hn : 0 < n) {ls : List Int} (hl : ∀ l ∈ ls, Lt n l) : Pm n (strF n ls) (endsF n ls) := by
  have hp := strF_perm hl
  have hnd : (strF n ls).Nodup := hp.nodup_iff.2 (iota_nodup n)
  obtain ⟨h1, h2⟩ := strF_ok hl
  have h3 := endsTo_ok (strF n ls) n hn n (Nat.le_refl _)
  unfold endsF
  generalize strF n ls = a at hp hnd h1 h2 h3 ⊢
  have key : ∀ k, k ≤ n → ∀ i : Nat, i < k → rd (endsTo a n k) (rd a i) = i := by
    intro k
    induction k with
    | zero => intro _ i h; omega
    | succ k ih =>
      intro hk i hi
      have hl := (endsTo_ok a n hn k (by omega)).1
      have hr := h2.rd (i := k) (by omega) (by omega)
      have hri := h2.rd (i := i) (by omega) (by omega)
      rw [endsTo_succ, rd_set]
      by_cases e : i = k
      · subst e; rw [if_pos ⟨rfl, by omega⟩]
      · rw [if_neg fun h => e (by have := rd_inj hnd (i := i) (j := k) (by omega) (by omega) (by omega) (by omega) (by omega); omega)]
        exact ih (by omega) i (by omega)
  have hea : ∀ i : Int, 0 ≤ i → i < n → rd (endsTo a n n) (rd a i) = i := fun i h0 h1 => by
    have := key n (Nat.le_refl _) i.toNat (by omega)
    rwa [Int.toNat_of_nonneg h0] at this
  refine ⟨h1, h2, h3.1, h3.2, hea, fun x h0 h4 => ?_⟩
  have hm : x ∈ a := hp.mem_iff.2 (mem_iota.2 ⟨h0, h4⟩)
  obtain ⟨i, hi, rfl⟩ := List.mem_iff_getElem.1 hm
  have e1 : rd a i = a[i] := by unfold rd; simp [List.getD_eq_getElem?_getD, hi]
  rw [← e1, hea i (by omega) (by omega)]
/-! ### Plats -/
def pO (y : Int) : Int := if y % 2 = 0 then y + 1 else y - 1
def pP (n : Nat) (a e : List Int) (y : Int) : Int := if y < n then n + rd e y else rd a (y - n)
theorem plat_inv {n : Nat} {a e : List Int} (h : Pm n a e) (h2 : n % 2 = 0) : Inv2 (2 * n) (pP n a e) pO := by
  have hal := h.al
  have hel := h.el
  have hp : ∀ y : Int, 0 ≤ y → y < (2 * n : Nat) → 0 ≤ pP n a e y ∧ pP n a e y < (2 * n : Nat) := fun y h0 h1 => by
    unfold pP
    split
    · have := h.ein.rd (i := y) h0 (by omega); omega
    · have := h.ain.rd (i := y - n) (by omega) (by omega); omega
  refine ⟨hp, fun y h0 h1 => ?_, fun y h0 h1 => ?_, fun y h0 h1 => ?_, fun y h0 h1 => ?_, fun y h0 h1 => ?_⟩
  · unfold pO; split <;> omega
  · unfold pP
    by_cases hy : y < n
    · have := h.ein.rd (i := y) h0 (by omega)
      rw [if_pos hy, if_neg (by omega), show (n : Int) + rd e y - n = rd e y by omega, h.ae y h0 hy]
    · have := h.ain.rd (i := y - n) (by omega) (by omega)
      rw [if_neg hy, if_pos (by omega), h.ea _ (by omega) (by omega)]
      omega
  · unfold pO
    by_cases hy : y % 2 = 0
    · rw [if_pos hy, if_neg (by omega)]; omega
    · rw [if_neg hy, if_pos (by omega)]; omega
  · unfold pP
    split
    · have := h.ein.rd (i := y) h0 (by omega); omega
    · have := h.ain.rd (i := y - n) (by omega) (by omega); omega
  · unfold pO; split <;> omega
def plF (n : Nat) (a : List Int) : Nat → List Int
  | 0 => iota n
  | m + 1 => mrg (mrg (plF n a m) (2 * m : Nat) (2 * m + 1 : Nat)) (rd a (2 * m : Nat)) (rd a (2 * m + 1 : Nat))
def PP (a : List Int) (m : Nat) (x y : Int) : Prop := ∃ i : Nat, i < m ∧ ((x = (2 * i : Nat) ∧ y = (2 * i + 1 : Nat)) ∨ (x = rd a (2 * i : Nat) ∧ y = rd a (2 * i + 1 : Nat)))
theorem Grp.congr {n : Nat} {P Q : Int → Int → Prop} {g : List Int} (h : Grp n P g) (hq : ∀ x y, P x y ↔ Q x y) : Grp n Q g :=
  ⟨h.len, fun x y hxy => h.goes x y ((hq x y).2 hxy), fun S hS => h.fine S fun x y hxy => hS x y ((hq x y).1 hxy)⟩
theorem plF_grp {n : Nat} {a : List Int} (hal : a.length = n) (hain : InN n a) : ∀ m, 2 * m ≤ n → Grp n (PP a m) (plF n a m)
  | 0, _ => (Grp.start n).congr fun x y => ⟨fun h => h.elim, fun ⟨i, h, _⟩ => by omega⟩
  | m + 1, hm => by
    have ih := plF_grp hal hain m (by omega)
    have hr : ∀ (j x y : _), j ≤ m → PP a j x y → (0 ≤ x ∧ x < n) ∧ 0 ≤ y ∧ y < n := fun j x y hj ⟨i, hi, h⟩ => by
      have h3 := hain.rd (i := (2 * i : Nat)) (by omega) (by omega)
      have h4 := hain.rd (i := (2 * i + 1 : Nat)) (by omega) (by omega)
      rcases h with ⟨rfl, rfl⟩ | ⟨rfl, rfl⟩ <;> omega
    have g1 := ih.merge (fun x y => hr m x y (Nat.le_refl _)) (x := (2 * m : Nat)) (y := (2 * m + 1 : Nat)) (by omega) (by omega)
    have g2 := g1.merge (fun x y hxy => by
      rcases hxy with hxy | ⟨rfl, rfl⟩
      · exact hr m x y (Nat.le_refl _) hxy
      · omega) (x := rd a (2 * m : Nat)) (y := rd a (2 * m + 1 : Nat)) (hain.rd (by omega) (by omega)) (hain.rd (by omega) (by omega))
    refine g2.congr fun x y => ⟨fun h => ?_, fun ⟨i, hi, h⟩ => ?_⟩
    · rcases h with (⟨i, hi, h⟩ | h) | h
      · exact ⟨i, by omega, h⟩
      · exact ⟨m, by omega, .inl h⟩
      · exact ⟨m, by omega, .inr h⟩
    · by_cases e : i = m
      · subst e
        rcases h with h | h
        · exact .inl (.inr h)
        · exact .inr h
      · exact .inl (.inl ⟨i, by omega, h⟩)
/-- The group of a point. -/
def lam (n : Nat) (a g : List Int) (z : Int) : Int := if z < n then rd g z else rd g (rd a (z - n))
def sol (n : Nat) (a : List Int) (z : Int) : Int := if z < n then z else rd a (z - n)
section
variable {n : Nat} {a e g : List Int}
theorem lam_p (h : Pm n a e) {z : Int} (h0 : 0 ≤ z) (h1 : z < (2 * n : Nat)) : lam n a g (pP n a e z) = lam n a g z := by
  have hal := h.al
  have hel := h.el
  unfold lam pP
  by_cases hz : z < n
  · have := h.ein.rd (i := z) h0 (by omega)
    rw [if_pos hz, if_neg (by omega), if_pos hz, show (n : Int) + rd e z - n = rd e z by omega, h.ae z h0 hz]
  · have := h.ain.rd (i := z - n) (by omega) (by omega)
    rw [if_neg hz, if_pos (by omega), if_neg hz]
theorem lam_o (h : Pm n a e) (h2 : n % 2 = 0) (hg : Grp n (PP a (n / 2)) g) {z : Int} (h0 : 0 ≤ z) (h1 : z < (2 * n : Nat)) : lam n a g (pO z) = lam n a g z := by
  have key : ∀ y : Int, 0 ≤ y → y < n → y % 2 = 0 → rd g y = rd g (y + 1) ∧ rd g (rd a y) = rd g (rd a (y + 1)) := fun y h3 h4 h5 => by
    have e1 : y = (2 * (y.toNat / 2) : Nat) := by omega
    have e2 : y + 1 = (2 * (y.toNat / 2) + 1 : Nat) := by omega
    rw [e2, e1]
    rw [show (2 * (((2 * (y.toNat / 2) : Nat) : Int).toNat / 2) : Nat) = 2 * (y.toNat / 2) by omega]
    exact ⟨hg.goes _ _ ⟨y.toNat / 2, by omega, .inl ⟨rfl, rfl⟩⟩, hg.goes _ _ ⟨y.toNat / 2, by omega, .inr ⟨rfl, rfl⟩⟩⟩
  unfold lam pO
  by_cases hp : z % 2 = 0
  · rw [if_pos hp]
    by_cases hz : z < n
    · rw [if_pos (by omega), if_pos hz, (key z h0 hz hp).1]
    · rw [if_neg (by omega), if_neg hz, show z + 1 - n = (z - n) + 1 by omega, (key (z - n) (by omega) (by omega) (by omega)).2]
  · rw [if_neg hp]
    by_cases hz : z < n
    · rw [if_pos (by omega), if_pos hz, (key (z - 1) (by omega) (by omega) (by omega)).1, show z - 1 + 1 = z by omega]
    · rw [if_neg (by omega), if_neg hz, show z - 1 - n = (z - n) - 1 by omega, (key (z - n - 1) (by omega) (by omega) (by omega)).2, show z - n - 1 + 1 = z - n by omega]
/-- A closed set of points holds whole groups. -/
theorem clo_class (h : Pm n a e) (h2 : n % 2 = 0) (hg : Grp n (PP a (n / 2)) g) {M : Int → Prop} (hM : Clo (2 * n) (pP n a e) pO M) {z x : Int} (hz : 0 ≤ z ∧ z < (2 * n : Nat)) (hx : 0 ≤ x ∧ x < (2 * n : Nat)) (hl : lam n a g z = lam n a g x) (hm : M x) : M z := by
  have hal := h.al
  have hel := h.el
  have I := plat_inv h h2
  have back : ∀ y : Int, 0 ≤ y → y < (2 * n : Nat) → M (pP n a e y) → M y := fun y h0 h1 hy => by
    have := (hM _ (I.pr y h0 h1).1 (I.pr y h0 h1).2 hy).1
    rwa [I.pp y h0 h1] at this
  have backo : ∀ y : Int, 0 ≤ y → y < (2 * n : Nat) → M (pO y) → M y := fun y h0 h1 hy => by
    have := (hM _ (I.orr y h0 h1).1 (I.orr y h0 h1).2 hy).2
    rwa [I.oo y h0 h1] at this
  have hs : ∀ y : Int, 0 ≤ y → y < (2 * n : Nat) → (0 ≤ sol n a y ∧ sol n a y < n) ∧ lam n a g y = rd g (sol n a y) ∧ (M (sol n a y) ↔ M y) := fun y h0 h1 => by
    unfold sol lam
    by_cases hy : y < n
    · rw [if_pos hy, if_pos hy]
      exact ⟨⟨h0, hy⟩, rfl, Iff.rfl⟩
    · rw [if_neg hy, if_neg hy]
      have hr := h.ain.rd (i := y - n) (by omega) (by omega)
      refine ⟨hr, rfl, ?_⟩
      have e1 : pP n a e y = rd a (y - n) := by unfold pP; rw [if_neg hy]
      rw [← e1]
      exact ⟨back y h0 h1, fun hy' => (hM y h0 h1 hy').1⟩
  have top : ∀ i : Int, 0 ≤ i → i < n → (M (rd a i) ↔ M (n + i)) := fun i h0 h1 => by
    have hr := h.ain.rd (i := i) h0 (by omega)
    have e1 : pP n a e (n + i) = rd a i := by unfold pP; rw [if_neg (by omega), show (n : Int) + i - n = i by omega]
    rw [← e1]
    exact ⟨back _ (by omega) (by omega), fun hy' => (hM _ (by omega) (by omega) hy').1⟩
  have cap : ∀ y : Int, 0 ≤ y → y < (2 * n : Nat) → y % 2 = 0 → (M y ↔ M (y + 1)) := fun y h0 h1 h3 => by
    have e1 : pO y = y + 1 := by unfold pO; rw [if_pos h3]
    rw [← e1]
    exact ⟨fun hy => (hM y h0 h1 hy).2, backo y h0 h1⟩
  have hS : ∀ u v, PP a (n / 2) u v → (M u ↔ M v) := fun u v ⟨i, hi, huv⟩ => by
    rcases huv with ⟨rfl, rfl⟩ | ⟨rfl, rfl⟩
    · have := cap (2 * i : Nat) (by omega) (by omega) (by omega)
      rwa [show ((2 * i : Nat) : Int) + 1 = (2 * i + 1 : Nat) by omega] at this
    · rw [top _ (by omega) (by omega), top _ (by omega) (by omega)]
      have := cap (n + (2 * i : Nat)) (by omega) (by omega) (by omega)
      rwa [show (n : Int) + (2 * i : Nat) + 1 = n + (2 * i + 1 : Nat) by omega] at this
  obtain ⟨z1, z2, z3⟩ := hs z hz.1 hz.2
  obtain ⟨x1, x2, x3⟩ := hs x hx.1 hx.2
  rw [z2, x2] at hl
  have := hg.fine M hS _ _ z1.1 z1.2 x1.1 x1.2 hl
  exact z3.1 (this.2 (x3.2 hm))
end
/-- The groups of the first k points. -/
def lamL (n : Nat) (a g : List Int) (k : Nat) : List Int := (List.range k).map fun z : Nat => lam n a g z
theorem lamL_succ (n : Nat) (a g : List Int) (k : Nat) : lamL n a g (k + 1) = lamL n a g k ++ [lam n a g k] := by simp [lamL, List.range_succ]
theorem lamL_n {n : Nat} {a g : List Int} (hg : g.length = n) : lamL n a g n = g := by
  refine rd_ext (by simp [lamL, hg]) fun i hi => ?_
  simp only [lamL, List.length_map, List.length_range] at hi
  have e : rd (lamL n a g n) i = lam n a g i := by
    unfold lamL rd
    simp [List.getD_eq_getElem?_getD, hi]
  rw [e]
  unfold lam
  rw [if_pos (by omega)]
theorem lamL_top {n : Nat} {a g : List Int} (hg : g.length = n) (hal : a.length = n) (hain : InN n a) : ∀ k, dcnt (lamL n a g (n + k)) = dcnt g ∨ n < k
  | 0 => .inl (by rw [Nat.add_zero, lamL_n hg])
  | k + 1 => by
    by_cases hk : n < k + 1
    · exact .inr hk
    · left
      rcases lamL_top hg hal hain k with ih | ih
      · have hr := hain.rd (i := k) (by omega) (by omega)
        have hm : lam n a g ((n + k : Nat) : Int) ∈ lamL n a g (n + k) := by
          unfold lamL
          rw [List.mem_map]
          refine ⟨(rd a k).toNat, List.mem_range.2 (by omega), ?_⟩
          unfold lam
          rw [if_pos (by omega), if_neg (by omega), show ((n + k : Nat) : Int) - n = k by omega, Int.toNat_of_nonneg hr.1]
        rw [← Nat.add_assoc, lamL_succ, dcnt_snoc, ih, if_pos hm]
        rfl
      · omega
theorem dcnt_lamL {n : Nat} {a g : List Int} (hg : g.length = n) (hal : a.length = n) (hain : InN n a) : dcnt (lamL n a g (2 * n)) = dcnt g := by
  rcases lamL_top hg hal hain n with h | h
  · rw [← h]; congr 2; omega
  · omega
end Go.Proofs.Ytdpbfdjpeofbmaa.L
