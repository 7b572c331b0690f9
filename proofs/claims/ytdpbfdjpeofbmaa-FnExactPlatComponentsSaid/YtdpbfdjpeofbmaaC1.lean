/- Gauss and Jordan, over plain lists; zero and unit matrices. -/
import Derived.Test.YtdpbfdjpeofbmaaC0
namespace Go.Proofs.Ytdpbfdjpeofbmaa.L
set_option linter.unusedVariables false
set_option maxRecDepth 100000

/-! ### n rows of m numbers below p -/
structure Rc (p : Int) (n m : Nat) (xss : List (List Int)) : Prop where
  len : xss.length = n
  row : ∀ xs ∈ xss, xs.length = m ∧ InP p xs
section
variable {p : Int} {n m : Nat} {xss : List (List Int)}
theorem Rc.rr (h : Rc p n m xss) {i : Int} (h0 : 0 ≤ i) (h1 : i < n) : (rr xss i).length = m ∧ InP p (rr xss i) := h.row _ (rr_mem h0 (by rw [h.len]; exact h1))
theorem Rc.rd2 (h : Rc p n m xss) {i j : Int} (h0 : 0 ≤ i) (h1 : i < n) (h2 : 0 ≤ j) (h3 : j < m) : 0 ≤ rd2 xss i j ∧ rd2 xss i j < p :=
  (h.rr h0 h1).2.rd h2 (by rw [(h.rr h0 h1).1]; exact h3)
theorem Rc.set (h : Rc p n m xss) {k : Nat} {xs : List Int} (hx : xs.length = m ∧ InP p xs) : Rc p n m (xss.set k xs) :=
  ⟨by rw [List.length_set]; exact h.len, fun ys hy => by
    rcases List.mem_or_eq_of_mem_set hy with hy | rfl
    · exact h.row _ hy
    · exact hx⟩
theorem Rc.swap (h : Rc p n m xss) {r a : Nat} (hr : r < n) (ha : a < n) : Rc p n m (swapL xss r a []) := by
  unfold swapL
  exact (h.set (h.row _ (getD_mem (by rw [h.len]; exact ha)))).set (h.row _ (getD_mem (by rw [h.len]; exact hr)))
end
theorem swapL_self {α : Type} {xs : List α} {c : Nat} {d : α} (h : c < xs.length) : swapL xs c c d = xs := by
  unfold swapL
  refine List.ext_getElem? fun i => ?_
  rw [List.getElem?_set, List.getElem?_set, List.length_set]
  by_cases e : c = i
  · subst e; simp [h]
  · simp [e]

/-! ### One column -/
def scl (p iv : Int) (row : List Int) : List Int := row.map fun x => x * iv % p
def gjRow (p : Int) (c : Nat) (Z : List (List Int)) (r : Nat) : List (List Int) := if r = c ∨ rd2 Z r c = 0 then Z else Z.set r (axpy p (rd2 Z r c) (rr Z r) (rr Z c))
def gjRows (p : Int) (c : Nat) (Z : List (List Int)) (k : Nat) : List (List Int) := (List.range k).foldl (gjRow p c) Z
def gjIn (p : Int) (c : Nat) (Z : List (List Int)) (n : Nat) : List (List Int) := gjRows p c (Z.set c (scl p (invM (rd2 Z c c) p) (rr Z c))) n
def gjStep (p : Int) (s : List (List Int) × Int) (c : Nat) : Option (List (List Int) × Int) :=
  let a := findRow s.1 c c
  if a = s.1.length then none
  else
    let Z := swapL s.1 c a []
    some (gjIn p c Z s.1.length, (if a = c then s.2 else (-s.2) % p) * rd2 Z c c % p)
def gjTo (p : Int) (Z : List (List Int)) (c : Nat) : Option (List (List Int) × Int) := (List.range c).foldl (fun o k => o.bind fun s => gjStep p s k) (some (Z, 1))
theorem gjRows_succ {p : Int} {c : Nat} {Z : List (List Int)} {k : Nat} : gjRows p c Z (k + 1) = gjRow p c (gjRows p c Z k) k := by
  unfold gjRows; rw [List.range_succ, List.foldl_append]; rfl
theorem gjTo_succ {p : Int} {Z : List (List Int)} {c : Nat} : gjTo p Z (c + 1) = (gjTo p Z c).bind fun s => gjStep p s c := by
  unfold gjTo; rw [List.range_succ, List.foldl_append]; rfl
theorem gjTo_none {p : Int} {Z : List (List Int)} {c d : Nat} (h : c ≤ d) (hn : gjTo p Z c = none) : gjTo p Z d = none := by
  induction d with
  | zero => obtain rfl : c = 0 := by omega
            exact hn
  | succ d ih =>
    by_cases e : c = d + 1
    · subst e; exact hn
    · rw [gjTo_succ, ih (by omega)]; rfl
theorem scl_length (p iv : Int) (row : List Int) : (scl p iv row).length = row.length := by simp [scl]
theorem scl_rd {p iv : Int} {row : List Int} {i : Nat} (h : i < row.length) : rd (scl p iv row) i = rd row i * iv % p := by
  unfold scl rd
  simp [List.getD_eq_getElem?_getD, h]
theorem scl_ok {p iv : Int} (hp : 0 < p) {row : List Int} : InP p (scl p iv row) := by
  intro x hx
  simp only [scl, List.mem_map] at hx
  obtain ⟨y, _, rfl⟩ := hx
  exact ⟨Int.emod_nonneg _ (by omega), Int.emod_lt_of_pos _ hp⟩
section
variable {p : Int} {n m : Nat} {Z : List (List Int)} {c : Nat}
theorem Rc.gjRow (hp : 0 < p) (h : Rc p n m Z) {r : Nat} (hr : r < n) (hc : c < n) : Rc p n m (gjRow p c Z r) := by
  unfold L.gjRow
  split
  · exact h
  · exact h.set (axpy_ok hp (h.rr (by omega) (by omega)).1 (h.rr (by omega) (by omega)).1)
theorem Rc.gjRows (hp : 0 < p) (h : Rc p n m Z) (hc : c < n) : ∀ k, k ≤ n → Rc p n m (gjRows p c Z k)
  | 0, _ => h
  | k + 1, hk => by rw [gjRows_succ]; exact (Rc.gjRows hp h hc k (by omega)).gjRow hp (by omega) hc
theorem Rc.scl (hp : 0 < p) (h : Rc p n m Z) {iv : Int} (hc : c < n) : Rc p n m (Z.set c (scl p iv (L.rr Z c))) := h.set ⟨by rw [scl_length]; exact (h.rr (by omega) (by omega)).1, scl_ok hp⟩
theorem Rc.gjIn (hp : 0 < p) (h : Rc p n m Z) (hc : c < n) : Rc p n m (gjIn p c Z n) := (h.scl hp hc).gjRows hp hc n (Nat.le_refl _)
end
theorem gjTo_ok {p : Int} {n m : Nat} (hp : 1 < p) {Z : List (List Int)} (h : Rc p n m Z) : ∀ c, c ≤ n → ∀ Y det, gjTo p Z c = some (Y, det) → Rc p n m Y ∧ 0 ≤ det ∧ det < p
  | 0, _, Y, det, e => by
    cases e
    exact ⟨h, by omega, by omega⟩
  | c + 1, hc, Y, det, e => by
    rw [gjTo_succ] at e
    cases hq : gjTo p Z c with
    | none => rw [hq] at e; cases e
    | some s =>
      obtain ⟨X, d⟩ := s
      rw [hq] at e
      simp only [Option.bind_some] at e
      obtain ⟨h1, h2, h3⟩ := gjTo_ok hp h c (by omega) X d hq
      unfold gjStep at e
      dsimp only at e
      have hf := findRow_le X c _ c rfl (by rw [h1.len]; omega)
      have hl := h1.len
      split at e
      · cases e
      · cases e
        have h4 : Rc p n m (swapL X c (findRow X c c) []) := h1.swap (by omega) (by omega)
        rw [hl]
        exact ⟨h4.gjIn (by omega) (by omega), Int.emod_nonneg _ (by omega), Int.emod_lt_of_pos _ (by omega)⟩

/-! ### A part of each row -/
section
variable {f : List Int → List Int} (hf : f [] = [])
include hf
theorem rr_map (Z : List (List Int)) (i : Int) : rr (Z.map f) i = f (rr Z i) := by
  unfold rr
  rw [List.getD_eq_getElem?_getD, List.getD_eq_getElem?_getD, List.getElem?_map]
  cases Z[i.toNat]? with
  | none => simp [hf]
  | some x => simp
theorem swapL_map (Z : List (List Int)) (r a : Nat) : swapL (Z.map f) r a [] = (swapL Z r a []).map f := by
  have e : ∀ i : Nat, (Z.map f).getD i [] = f (Z.getD i []) := fun i => by
    have := rr_map hf Z i
    unfold rr at this
    simpa using this
  unfold swapL
  rw [e, e, List.map_set, List.map_set]
end
theorem take_nil' (d : Nat) : ([] : List Int).take d = [] := by simp
theorem drop_nil' (d : Nat) : ([] : List Int).drop d = [] := by simp
theorem rd_take {xs : List Int} {d : Nat} {i : Int} (h0 : 0 ≤ i) (h1 : i < d) : rd (xs.take d) i = rd xs i := by
  unfold rd
  rw [List.getD_eq_getElem?_getD, List.getD_eq_getElem?_getD, List.getElem?_take, if_pos (by omega)]
theorem rd_drop {xs : List Int} {d i : Nat} : rd (xs.drop d) i = rd xs ((d + i : Nat) : Int) := by
  unfold rd
  rw [List.getD_eq_getElem?_getD, List.getD_eq_getElem?_getD, List.getElem?_drop, Int.toNat_natCast, Int.toNat_natCast]
theorem rd2_take {Z : List (List Int)} {d : Nat} {i j : Int} (h0 : 0 ≤ j) (h1 : j < d) : rd2 (Z.map (List.take d)) i j = rd2 Z i j := by
  unfold rd2
  rw [rr_map (take_nil' d)]
  exact rd_take h0 h1
theorem fr_take {Z : List (List Int)} {d : Nat} {c : Int} (h0 : 0 ≤ c) (h1 : c < d) : ∀ f a : Nat, fr (Z.map (List.take d)) c f a = fr Z c f a
  | 0, a => rfl
  | f + 1, a => by
    unfold fr
    rw [rd2_take h0 h1, fr_take h0 h1 f (a + 1)]
theorem findRow_take {Z : List (List Int)} {d : Nat} {c : Int} (h0 : 0 ≤ c) (h1 : c < d) (a : Nat) : findRow (Z.map (List.take d)) c a = findRow Z c a := by
  unfold findRow
  rw [fr_take h0 h1, List.length_map]
theorem scl_take (p iv : Int) (row : List Int) (d : Nat) : (scl p iv row).take d = scl p iv (row.take d) := by simp [scl, List.map_take]
theorem scl_drop (p iv : Int) (row : List Int) (d : Nat) : (scl p iv row).drop d = scl p iv (row.drop d) := by simp [scl, List.map_drop]
theorem axpy_take (p f : Int) (row pr : List Int) (d : Nat) : (axpy p f row pr).take d = axpy p f (row.take d) (pr.take d) := by simp [axpy, List.take_zipWith]
theorem axpy_drop (p f : Int) (row pr : List Int) (d : Nat) : (axpy p f row pr).drop d = axpy p f (row.drop d) (pr.drop d) := by simp [axpy, List.drop_zipWith]

/-! ### The matrix with the unit matrix behind it -/
def unitAt (n x : Nat) (k : Int) : List Int := (List.replicate n 0).set x k
def idM (n : Nat) : List (List Int) := (List.range n).map fun i => unitAt n i 1
def augM (xss : List (List Int)) : List (List Int) := (List.range xss.length).map fun i : Nat => rr xss (i : Int) ++ unitAt xss.length i 1
/-- What comes out: the determinant, the inverse. -/
def detF (xss : List (List Int)) : Int := match gjTo 10007 (augM xss) xss.length with | none => 0 | some s => s.2
def invF (xss : List (List Int)) : List (List Int) := match gjTo 10007 (augM xss) xss.length with | none => [] | some s => s.1.map (List.drop xss.length)
theorem unitAt_ok {n x : Nat} {p k : Int} (hk : 0 ≤ k ∧ k < p) : (unitAt n x k).length = n ∧ InP p (unitAt n x k) := by
  refine ⟨by simp [unitAt], ?_⟩
  refine InP.set (fun y hy => ?_) hk
  have := List.eq_of_mem_replicate hy
  omega
theorem Fm.fr {xss : List (List Int)} (h : Fm xss) {i : Nat} (hi : i < xss.length) : (rr xss i).length = xss.length ∧ InP 10007 (rr xss i) := by
  obtain ⟨h1, h2⟩ := h.2.2 _ (rr_mem' hi)
  exact ⟨h1, fun x hx => by have := h2 x hx; omega⟩
theorem augM_ok {xss : List (List Int)} (h : Fm xss) : Rc 10007 xss.length (2 * xss.length) (augM xss) := by
  refine ⟨by simp [augM], fun xs hx => ?_⟩
  simp only [augM, List.mem_map, List.mem_range] at hx
  obtain ⟨i, hi, rfl⟩ := hx
  obtain ⟨h1, h2⟩ := h.fr hi
  obtain ⟨h3, h4⟩ := unitAt_ok (n := xss.length) (x := i) (p := 10007) (k := 1) (by omega)
  refine ⟨by rw [List.length_append, h1, h3]; omega, fun x hx => ?_⟩
  rcases List.mem_append.1 hx with hx | hx
  · exact h2 x hx
  · exact h4 x hx
theorem list_rr (xss : List (List Int)) : (List.range xss.length).map (fun i : Nat => rr xss i) = xss := by
  refine rr_ext (by simp) fun i hi => ?_
  simp only [List.length_map, List.length_range] at hi
  show List.getD _ _ _ = _
  rw [List.getD_eq_getElem?_getD]
  simp [hi]
theorem augM_left {xss : List (List Int)} (h : Fm xss) : (augM xss).map (List.take xss.length) = xss := by
  unfold augM
  rw [List.map_map]
  refine Eq.trans (List.map_congr_left fun i hi => ?_) (list_rr xss)
  have := (h.fr (i := i) (by simpa using hi)).1
  show List.take _ (_ ++ _) = _
  rw [List.take_append_of_le_length (by omega), List.take_of_length_le (by omega)]
theorem augM_right {xss : List (List Int)} (h : Fm xss) : (augM xss).map (List.drop xss.length) = idM xss.length := by
  unfold augM idM
  rw [List.map_map]
  refine List.map_congr_left fun i hi => ?_
  have := (h.fr (i := i) (by simpa using hi)).1
  show List.drop _ (_ ++ _) = _
  rw [← this, List.drop_left']
  rfl
theorem detF_ok {xss : List (List Int)} (h : Fm xss) : 0 ≤ detF xss ∧ detF xss < 10007 := by
  unfold detF
  cases hg : gjTo 10007 (augM xss) xss.length with
  | none => simp
  | some s => exact (gjTo_ok (by omega) (augM_ok h) _ (Nat.le_refl _) s.1 s.2 hg).2
theorem invF_ok {xss : List (List Int)} (h : Fm xss) : (invF xss).length ≤ xss.length ∧ ∀ xs ∈ invF xss, xs.length = xss.length ∧ InP 10007 xs := by
  unfold invF
  cases hg : gjTo 10007 (augM xss) xss.length with
  | none => exact ⟨by simp, fun xs hx => by simp at hx⟩
  | some s =>
    have h1 := (gjTo_ok (by omega) (augM_ok h) _ (Nat.le_refl _) s.1 s.2 hg).1
    refine ⟨by simp [h1.len], fun xs hx => ?_⟩
    simp only [List.mem_map] at hx
    obtain ⟨ys, hy, rfl⟩ := hx
    obtain ⟨h2, h3⟩ := h1.row ys hy
    exact ⟨by rw [List.length_drop]; omega, fun x hx => h3 x (List.mem_of_mem_drop hx)⟩
end Go.Proofs.Ytdpbfdjpeofbmaa.L
