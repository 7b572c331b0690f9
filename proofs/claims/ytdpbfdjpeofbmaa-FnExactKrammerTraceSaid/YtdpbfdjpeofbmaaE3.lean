/- Gauss and Jordan find an inverse of each matrix that sends no other vector to 0. -/
import Derived.Test.YtdpbfdjpeofbmaaE1
import Derived.Test.YtdpbfdjpeofbmaaE2
namespace Go.Proofs.Ytdpbfdjpeofbmaa.L
set_option linter.unusedVariables false
set_option maxRecDepth 100000

def sumN (f : Nat → Int) : Nat → Int
  | 0 => 0
  | d + 1 => sumN f d + f d
theorem sumN_congr {f g : Nat → Int} : ∀ {d : Nat}, (∀ j, j < d → f j = g j) → sumN f d = sumN g d
  | 0, _ => rfl
  | d + 1, h => by rw [sumN, sumN, sumN_congr fun j hj => h j (by omega), h d (by omega)]
theorem sumN_add (f g : Nat → Int) : ∀ d, sumN (fun j => f j + g j) d = sumN f d + sumN g d
  | 0 => rfl
  | d + 1 => by rw [sumN, sumN, sumN, sumN_add f g d]; omega
theorem sumN_mul (a : Int) (f : Nat → Int) : ∀ d, sumN (fun j => a * f j) d = a * sumN f d
  | 0 => by simp [sumN]
  | d + 1 => by rw [sumN, sumN, sumN_mul a f d, Int.mul_add]
theorem sumN_zero {f : Nat → Int} : ∀ {d : Nat}, (∀ j, j < d → f j = 0) → sumN f d = 0
  | 0, _ => rfl
  | d + 1, h => by rw [sumN, sumN_zero fun j hj => h j (by omega), h d (by omega)]; rfl
theorem sumN_one {f : Nat → Int} {a : Nat} : ∀ {d : Nat}, a < d → (∀ j, j < d → j ≠ a → f j = 0) → sumN f d = f a
  | 0, h, _ => by omega
  | d + 1, h, hz => by
    rw [sumN]
    by_cases e : a = d
    · subst e
      rw [sumN_zero fun j hj => hz j (by omega) (by omega)]
      omega
    · rw [sumN_one (d := d) (by omega) fun j hj hne => hz j (by omega) hne, hz d (by omega) (fun e' => e e'.symm)]
      omega
theorem sumN_two {f : Nat → Int} {a b : Nat} (hab : a ≠ b) : ∀ {d : Nat}, a < d → b < d → (∀ j, j < d → j ≠ a → j ≠ b → f j = 0) → sumN f d = f a + f b
  | 0, h, _, _ => by omega
  | d + 1, h, h', hz => by
    rw [sumN]
    by_cases e : a = d
    · subst e
      rw [sumN_one (d := a) (a := b) (by omega) fun j hj hne => hz j (by omega) (by omega) hne]
      omega
    · by_cases e2 : b = d
      · subst e2
        rw [sumN_one (d := b) (a := a) (by omega) fun j hj hne => hz j (by omega) hne (by omega)]
      · rw [sumN_two hab (d := d) (by omega) (by omega) fun j hj h1 h2 => hz j (by omega) h1 h2, hz d (by omega) (fun e' => e e'.symm) (fun e' => e2 e'.symm)]
        omega
/-- Divisible by the prime. -/
abbrev Dv (x : Int) : Prop := (10007 : Int) ∣ x
theorem Dv.add' {a b : Int} (h : Dv a) (k : Dv b) : Dv (a + b) := Int.dvd_add h k
theorem Dv.mul' {a : Int} (h : Dv a) (b : Int) : Dv (b * a) := by obtain ⟨q, rfl⟩ := h; exact ⟨b * q, by rw [← Int.mul_assoc, Int.mul_comm b, Int.mul_assoc]⟩
theorem dv_sum {f g v : Nat → Int} : ∀ {d : Nat}, (∀ j, j < d → Dv (f j - g j)) → Dv (sumN (fun j => f j * v j) d) → Dv (sumN (fun j => g j * v j) d) := by
  intro d h
  have key : ∀ d, (∀ j, j < d → Dv (f j - g j)) → Dv (sumN (fun j => f j * v j) d - sumN (fun j => g j * v j) d) := by
    intro d
    induction d with
    | zero => intro _; exact ⟨0, by simp [sumN]⟩
    | succ d ih =>
      intro h
      have h1 := ih fun j hj => h j (by omega)
      have h2 := (h d (by omega)).mul' (v d)
      simp only [sumN]
      have e : sumN (fun j => f j * v j) d + f d * v d - (sumN (fun j => g j * v j) d + g d * v d) = (sumN (fun j => f j * v j) d - sumN (fun j => g j * v j) d) + v d * (f d - g d) := by
        rw [Int.mul_sub, Int.mul_comm (v d), Int.mul_comm (v d)]; omega
      rw [e]
      exact h1.add' h2
  intro hs
  have := key d h
  have e : sumN (fun j => g j * v j) d = sumN (fun j => f j * v j) d - (sumN (fun j => f j * v j) d - sumN (fun j => g j * v j) d) := by omega
  rw [e]
  exact Int.dvd_sub hs this
theorem dv_mod (x : Int) : Dv (x % 10007 - x) := by
  have := Int.emod_add_mul_ediv x 10007
  exact ⟨-(x / 10007), by omega⟩
/-- A vector that the rows send to 0. -/
def Ker (n : Nat) (Z : List (List Int)) (v : Nat → Int) : Prop := ∀ i : Nat, i < n → Dv (sumN (fun j => rd2 Z i j * v j) n)
theorem rd2_set {Z : List (List Int)} {r : Nat} {xs : List Int} {i : Nat} {j : Int} : rd2 (Z.set r xs) i j = if i = r ∧ r < Z.length then rd xs j else rd2 Z i j := by
  unfold rd2
  rw [rr_set, Int.toNat_natCast]
  split <;> rfl
theorem axpy_rd' {p f : Int} {row pr : List Int} {j : Nat} (h1 : j < row.length) (h2 : j < pr.length) : rd (axpy p f row pr) j = (rd row j + (p - f) * rd pr j) % p := by
  unfold rd axpy
  simp [List.getD_eq_getElem?_getD, h1, h2, List.getElem?_zipWith]
section
variable {n m : Nat} {Z : List (List Int)} {c : Nat} {v : Nat → Int}
theorem ker_gjRow (hZ : Rc 10007 n m Z) (hm : n ≤ m) {r : Nat} (hr : r < n) (hc : c < n) (h : Ker n (gjRow 10007 c Z r) v) : Ker n Z v := by
  unfold gjRow at h
  split at h
  · exact h
  · rename_i hrc
    have hrc' : r ≠ c := fun e => hrc (.inl e)
    have hl := hZ.len
    have hrr := hZ.rr (i := r) (by omega) (by omega)
    have hrc2 := hZ.rr (i := c) (by omega) (by omega)
    have other : ∀ i, i < n → i ≠ r → Dv (sumN (fun j => rd2 Z i j * v j) n) := fun i hi hne => by
      have := h i hi
      rwa [sumN_congr (g := fun j => rd2 Z i j * v j) fun j hj => by rw [rd2_set, if_neg (fun e => hne e.1)]] at this
    intro i hi
    by_cases e : i = r
    · subst e
      have h1 := h i hi
      rw [sumN_congr (g := fun j => ((rd2 Z i j + (10007 - rd2 Z i c) * rd2 Z c j) % 10007) * v j) fun j hj => by
        rw [rd2_set, if_pos ⟨rfl, by omega⟩, axpy_rd' (by omega) (by omega)]; rfl] at h1
      have h2 := dv_sum (g := fun j => rd2 Z i j + (10007 - rd2 Z i c) * rd2 Z c j) (fun j _ => dv_mod _) h1
      have h3 := (other c hc (fun e => hrc' e.symm)).mul' (10007 - rd2 Z i c)
      rw [sumN_congr (g := fun j => rd2 Z i j * v j + (10007 - rd2 Z i c) * (rd2 Z c j * v j)) fun j _ => by rw [Int.add_mul, Int.mul_assoc], sumN_add, sumN_mul] at h2
      have := Int.dvd_sub h2 h3
      rwa [Int.add_sub_cancel] at this
    · exact other i hi e
theorem ker_gjRows (hZ : Rc 10007 n m Z) (hm : n ≤ m) (hc : c < n) : ∀ k, k ≤ n → Ker n (gjRows 10007 c Z k) v → Ker n Z v
  | 0, _, h => h
  | k + 1, hk, h => by
    rw [gjRows_succ] at h
    exact ker_gjRows hZ hm hc k (by omega) (ker_gjRow (hZ.gjRows (by omega) hc k (by omega)) hm (by omega) hc h)
theorem ker_scl (hZ : Rc 10007 n m Z) (hm : n ≤ m) (hc : c < n) {iv a : Int} (hiv : (a * iv) % 10007 = 1) (h : Ker n (Z.set c (scl 10007 iv (rr Z c))) v) : Ker n Z v := by
  intro i hi
  have hl := hZ.len
  have hrc := hZ.rr (i := c) (by omega) (by omega)
  have h1 := h i hi
  by_cases e : i = c
  · subst e
    rw [sumN_congr (g := fun j => ((rd2 Z i j * iv) % 10007) * v j) fun j hj => by rw [rd2_set, if_pos ⟨rfl, by omega⟩, scl_rd (by omega)]; rfl] at h1
    have h2 := dv_sum (g := fun j => rd2 Z i j * iv) (fun j _ => dv_mod _) h1
    rw [sumN_congr (g := fun j => iv * (rd2 Z i j * v j)) fun j _ => by rw [Int.mul_comm (rd2 Z _ _) iv, Int.mul_assoc], sumN_mul] at h2
    generalize sumN (fun j => rd2 Z i j * v j) n = S at h2
    have h3 := h2.mul' a
    rw [← Int.mul_assoc] at h3
    have e2 : a * iv = 10007 * ((a * iv) / 10007) + 1 := by have := Int.emod_add_mul_ediv (a * iv) 10007; omega
    rw [e2, Int.add_mul, Int.one_mul, Int.mul_assoc] at h3
    have := Int.dvd_sub h3 (Int.dvd_mul_right 10007 ((a * iv) / 10007 * S))
    rwa [Int.add_comm, Int.add_sub_cancel] at this
  · rwa [sumN_congr (g := fun j => rd2 Z i j * v j) fun j hj => by rw [rd2_set, if_neg (fun h => e h.1)]] at h1
theorem rr_swap (hl : Z.length = n) {r a : Nat} (hr : r < n) (ha : a < n) {i : Nat} (hi : i < n) : rr (swapL Z r a []) i = rr Z (sw r a i : Nat) := by
  unfold rr
  rw [List.getD_eq_getElem?_getD, List.getD_eq_getElem?_getD, Int.toNat_natCast, Int.toNat_natCast, swapL_get _ _ _ _ (by omega) (by omega) i (by omega)]
theorem sw_lt {r a i : Nat} (hr : r < n) (ha : a < n) (hi : i < n) : sw r a i < n := by unfold sw; split <;> (try split) <;> omega
theorem sw_sw (r a i : Nat) : sw r a (sw r a i) = i := by unfold sw; split <;> split <;> (try split) <;> omega
theorem ker_swap (hl : Z.length = n) {r a : Nat} (hr : r < n) (ha : a < n) (h : Ker n (swapL Z r a []) v) : Ker n Z v := by
  intro i hi
  have := h (sw r a i) (sw_lt hr ha hi)
  rwa [sumN_congr (g := fun j => rd2 Z i j * v j) fun j _ => by unfold rd2; rw [rr_swap hl hr ha (sw_lt hr ha hi), sw_sw]] at this
end
/-- The first c columns are those of the unit matrix. -/
def ColU (n : Nat) (Z : List (List Int)) (c : Nat) : Prop := ∀ i j : Nat, i < n → j < c → rd2 Z i j = if i = j then 1 else 0
section
variable {n m : Nat} {Z : List (List Int)} {c : Nat}
/-- What becomes of the column c, and of those before it. -/
theorem col_gjRows (hZ : Rc 10007 n m Z) (hm : n ≤ m) (hc : c < n) (h1 : ColU n Z c) (hp : rd2 Z c c = 1) : ∀ k, k ≤ n → ColU n (gjRows 10007 c Z k) c ∧ (∀ i : Nat, i < k → i ≠ c → rd2 (gjRows 10007 c Z k) i c = 0) ∧ (∀ j : Int, rd2 (gjRows 10007 c Z k) c j = rd2 Z c j)
  | 0, _ => ⟨h1, fun i h => by omega, fun _ => rfl⟩
  | k + 1, hk => by
    obtain ⟨i1, i2, i3⟩ := col_gjRows hZ hm hc h1 hp k (by omega)
    have hY := hZ.gjRows (by omega) hc k (by omega)
    rw [gjRows_succ]
    generalize gjRows 10007 c Z k = Y at i1 i2 i3 hY
    unfold gjRow
    split
    · rename_i hrc
      refine ⟨i1, fun i hi hic => ?_, i3⟩
      by_cases e : i = k
      · subst e
        rcases hrc with h | h
        · exact absurd h hic
        · exact h
      · exact i2 i (by omega) hic
    · rename_i hrc
      have hkc : k ≠ c := fun e => hrc (.inl e)
      have hl := hY.len
      have hrk := hY.rr (i := k) (by omega) (by omega)
      have hrcc := hY.rr (i := c) (by omega) (by omega)
      refine ⟨fun i j hi hj => ?_, fun i hi hic => ?_, fun j => ?_⟩
      · rw [rd2_set]
        by_cases e : i = k ∧ k < Y.length
        · rw [if_pos e, axpy_rd' (by omega) (by omega)]
          have hcz : rd (rr Y c) j = 0 := by
            have := i1 c j hc hj
            rw [if_neg (by omega)] at this
            exact this
          rw [hcz, Int.mul_zero, Int.add_zero]
          have hkj := i1 k j (by omega) hj
          have : rd (rr Y k) j = if k = j then 1 else 0 := hkj
          rw [this, e.1]
          split <;> rfl
        · rw [if_neg e]; exact i1 i j hi hj
      · rw [rd2_set]
        by_cases e : i = k
        · subst e
          rw [if_pos ⟨rfl, by omega⟩, axpy_rd' (by omega) (by omega)]
          have e1 : rd (rr Y c) c = 1 := (i3 c).trans hp
          rw [e1]
          show (rd2 Y i c + (10007 - rd2 Y i c) * 1) % 10007 = 0
          rw [Int.mul_one, show rd2 Y i c + (10007 - rd2 Y i c) = 10007 by omega]
          rfl
        · rw [if_neg (fun h => e h.1)]; exact i2 i (by omega) hic
      · rw [rd2_set, if_neg (fun h => hkc h.1.symm)]; exact i3 j
end
theorem findRow_zero {Z : List (List Int)} {c : Nat} (h : findRow Z c c = Z.length) : ∀ i : Nat, c ≤ i → i < Z.length → rd2 Z i c = 0 := by
  have key : ∀ (d a : Nat), Z.length - a = d → findRow Z c a = Z.length → ∀ i : Nat, a ≤ i → i < Z.length → rd2 Z i c = 0 := by
    intro d
    induction d with
    | zero => intro a hd _ i h1 h2; omega
    | succ d ih =>
      intro a hd hf i h1 h2
      by_cases hz : rd2 Z a c = 0
      · rw [findRow_skip (by omega) hz] at hf
        by_cases e : i = a
        · subst e; exact hz
        · exact ih (a + 1) (by omega) hf i (by omega) h2
      · rw [findRow_hit (by omega) hz] at hf
        omega
  exact fun i => key _ c rfl h i
theorem gj_inj {n m : Nat} {A : List (List Int)} (hA : Rc 10007 n m A) (hm : n ≤ m) (hinj : ∀ v, Ker n A v → ∀ j, j < n → Dv (v j)) :
    ∀ c, c ≤ n → ∃ s, gjTo 10007 A c = some s ∧ ColU n s.1 c ∧ ∀ v, Ker n s.1 v → Ker n A v
  | 0, _ => ⟨(A, 1), rfl, fun i j _ h => by omega, fun v h => h⟩
  | c + 1, hc => by
    obtain ⟨⟨X, d⟩, h1, h2, h3⟩ := gj_inj hA hm hinj c (by omega)
    obtain ⟨hX, _⟩ := gjTo_ok (by omega) hA c (by omega) X d h1
    rw [gjTo_succ, h1]
    simp only [Option.bind_some]
    dsimp only at h2 h3
    have hl := hX.len
    have hf := findRow_le X c _ c rfl (by omega)
    have hne : findRow X c c ≠ X.length := fun hend => by
      have hz := findRow_zero hend
      have hk : Ker n X (fun j => if j = c then 1 else if j < c then -rd2 X j c else 0) := fun i hi => by
        by_cases hic : i < c
        · rw [sumN_two (a := i) (b := c) (by omega) hi (by omega) fun j hj hj1 hj2 => by
            by_cases hjc : j < c
            · rw [h2 i j hi hjc, if_neg (fun e => hj1 e.symm), Int.zero_mul]
            · simp only [if_neg hj2, if_neg hjc, Int.mul_zero]]
          rw [h2 i i hi hic, if_pos rfl]
          dsimp only
          rw [if_neg (show ¬ i = c by omega), if_pos hic, if_pos rfl]
          exact ⟨0, by omega⟩
        · rw [sumN_zero fun j hj => by
            by_cases hjc : j < c
            · rw [h2 i j hi hjc, if_neg (by omega), Int.zero_mul]
            · by_cases hj2 : j = c
              · subst hj2; rw [hz i (by omega) (by omega), Int.zero_mul]
              · simp only [if_neg hj2, if_neg hjc, Int.mul_zero]]
          exact ⟨0, rfl⟩
      have := hinj _ (h3 _ hk) c (by omega)
      simp only [if_true] at this
      obtain ⟨q, hq⟩ := this
      omega
    unfold gjStep
    dsimp only
    rw [if_neg hne]
    have ha : findRow X c c < n := by omega
    have hpv := hf.2.2 (by omega)
    have hS : Rc 10007 n m (swapL X c (findRow X c c) []) := hX.swap (by omega) ha
    have hcol : ColU n (swapL X c (findRow X c c) []) c := fun i j hi hj => by
      have e : rd2 (swapL X c (findRow X c c) []) i j = rd2 X (sw c (findRow X c c) i : Nat) j := by unfold rd2; rw [rr_swap hl (by omega) ha hi]
      rw [e, h2 _ j (sw_lt (by omega) ha hi) hj]
      unfold sw
      split
      · rw [if_neg (by omega), if_neg (by omega)]
      · split
        · rw [if_neg (by omega), if_neg (by omega)]
        · rfl
    have hpiv : rd2 (swapL X c (findRow X c c) []) c c = rd2 X (findRow X c c) c := by
      unfold rd2
      rw [rr_swap hl (by omega) ha (by omega)]
      unfold sw
      rw [if_pos rfl]
    have hker : ∀ v, Ker n (swapL X c (findRow X c c) []) v → Ker n X v := fun v => ker_swap hl (by omega) ha
    have hrg := hX.rd2 (i := (findRow X c c : Nat)) (j := c) (by omega) (by omega) (by omega) (by omega)
    rw [← hpiv] at hrg hpv
    generalize swapL X c (findRow X c c) [] = S at hS hcol hker hrg hpv
    have hinv := invQ_mul (x := rd2 S c c) (by omega) hrg.2
    have hSl := hS.len
    refine ⟨_, rfl, ?_, fun v hv => ?_⟩
    · rw [hl]
      unfold gjIn
      have hC := hS.scl (c := c) (iv := invM (rd2 S c c) 10007) (by omega) (by omega)
      have hrl := (hS.rr (i := c) (by omega) (by omega)).1
      have hp1 : rd2 (S.set c (scl 10007 (invM (rd2 S c c) 10007) (rr S c))) c c = 1 := by
        rw [rd2_set, if_pos ⟨rfl, by omega⟩, scl_rd (by omega)]
        exact hinv
      have hcU : ColU n (S.set c (scl 10007 (invM (rd2 S c c) 10007) (rr S c))) c := fun i j hi hj => by
        rw [rd2_set]
        by_cases e : i = c ∧ c < S.length
        · rw [if_pos e, scl_rd (by omega)]
          have : rd (rr S c) j = 0 := by have := hcol c j (by omega) hj; rw [if_neg (by omega)] at this; exact this
          rw [this, Int.zero_mul, if_neg (by omega)]
          rfl
        · rw [if_neg e]; exact hcol i j hi hj
      obtain ⟨g1, g2, g3⟩ := col_gjRows hC hm (by omega) hcU hp1 n (Nat.le_refl _)
      intro i j hi hj
      by_cases e : j = c
      · subst e
        by_cases hij : i = j
        · subst hij
          rw [if_pos rfl]
          exact (g3 i).trans hp1
        · rw [if_neg hij]
          exact g2 i hi hij
      · exact g1 i j hi (by omega)
    · rw [hl] at hv
      unfold gjIn at hv
      have hC := hS.scl (c := c) (iv := invM (rd2 S c c) 10007) (by omega) (by omega)
      exact h3 v (hker v (ker_scl hS hm (by omega) hinv (ker_gjRows hC hm (by omega) n (Nat.le_refl _) hv)))
end Go.Proofs.Ytdpbfdjpeofbmaa.L
