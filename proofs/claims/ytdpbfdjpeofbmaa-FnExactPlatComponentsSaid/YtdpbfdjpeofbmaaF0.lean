/- Curves of plats, over plain numbers: walks along two involutions, groups that are merged, and that both are as many. -/
import Derived.Test.YtdpbfdjpeofbmaaD5
namespace Go.Proofs.Ytdpbfdjpeofbmaa.L
set_option linter.unusedVariables false

/-! ### How many different numbers a list has -/
def dcnt : List Int → Nat
  | [] => 0
  | x :: l => dcnt l + if x ∈ l then 0 else 1
theorem dcnt_perm {a b : List Int} (h : a.Perm b) : dcnt a = dcnt b := by
  induction h with
  | nil => rfl
  | @cons x l1 l2 h ih =>
    simp only [dcnt, ih]
    congr 1
    by_cases hx : x ∈ l1
    · rw [if_pos hx, if_pos (h.mem_iff.1 hx)]
    · rw [if_neg hx, if_neg (fun e => hx (h.mem_iff.2 e))]
  | swap x y l =>
    simp only [dcnt, List.mem_cons]
    by_cases e : x = y
    · subst e
      simp
    · by_cases h1 : x ∈ l <;> by_cases h2 : y ∈ l <;> simp [h1, h2, e, Ne.symm e, fun h => e (Eq.symm h)]
  | trans _ _ h1 h2 => exact h1.trans h2
theorem dcnt_snoc (l : List Int) (x : Int) : dcnt (l ++ [x]) = dcnt l + if x ∈ l then 0 else 1 := by
  rw [dcnt_perm (List.perm_append_comm (l₁ := l) (l₂ := [x]))]
  rfl
/-! ### Groups -/
def mrg (g : List Int) (x y : Int) : List Int := g.map fun k => if k = max (rd g x) (rd g y) then min (rd g x) (rd g y) else k
theorem mrg_length (g : List Int) (x y : Int) : (mrg g x y).length = g.length := by simp [mrg]
theorem mrg_rd {g : List Int} {x y u : Int} (h0 : 0 ≤ u) (h : u < g.length) : rd (mrg g x y) u = if rd g u = max (rd g x) (rd g y) then min (rd g x) (rd g y) else rd g u := by
  obtain ⟨i, rfl⟩ : ∃ i : Nat, u = i := ⟨u.toNat, by omega⟩
  exact map_rd (by omega)
/-- Of the groups: they go by the pairs P, and no finer ones do. -/
structure Grp (n : Nat) (P : Int → Int → Prop) (g : List Int) : Prop where
  len : g.length = n
  goes : ∀ x y, P x y → rd g x = rd g y
  fine : ∀ S : Int → Prop, (∀ x y, P x y → (S x ↔ S y)) → ∀ u v : Int, 0 ≤ u → u < n → 0 ≤ v → v < n → rd g u = rd g v → (S u ↔ S v)
theorem Grp.start (n : Nat) : Grp n (fun _ _ => False) (iota n) := by
  refine ⟨iota_length n, fun _ _ h => h.elim, fun S _ u v h0 h1 h2 h3 h => ?_⟩
  obtain ⟨i, rfl⟩ : ∃ i : Nat, u = i := ⟨u.toNat, by omega⟩
  obtain ⟨j, rfl⟩ : ∃ i : Nat, v = i := ⟨v.toNat, by omega⟩
  rw [iota_rd (by omega), iota_rd (by omega)] at h
  rw [h]
theorem Grp.merge {n : Nat} {P : Int → Int → Prop} {g : List Int} (h : Grp n P g) {x y : Int} (hP : ∀ a b, P a b → (0 ≤ a ∧ a < n) ∧ 0 ≤ b ∧ b < n) (hx : 0 ≤ x ∧ x < n) (hy : 0 ≤ y ∧ y < n) : Grp n (fun a b => P a b ∨ (a = x ∧ b = y)) (mrg g x y) := by
  have hl := h.len
  refine ⟨by rw [mrg_length, hl], fun a b hab => ?_, fun S hS u v h0 h1 h2 h3 he => ?_⟩
  · rcases hab with hab | ⟨rfl, rfl⟩
    · have := hP a b hab
      rw [mrg_rd this.1.1 (by omega), mrg_rd this.2.1 (by omega), h.goes a b hab]
    · rw [mrg_rd hx.1 (by omega), mrg_rd hy.1 (by omega)]
      split <;> split <;> omega
  · have f := h.fine S (fun a b hab => hS a b (.inl hab))
    have hxy := hS x y (.inr ⟨rfl, rfl⟩)
    rw [mrg_rd h0 (by omega), mrg_rd h2 (by omega)] at he
    by_cases e : rd g u = rd g v
    · exact f u v h0 h1 h2 h3 e
    · have key : ∀ a b : Int, 0 ≤ a → a < n → 0 ≤ b → b < n → (rd g a = rd g x ∨ rd g a = rd g y) → (rd g b = rd g x ∨ rd g b = rd g y) → (S a ↔ S b) := fun a b ha0 ha1 hb0 hb1 ha hb => by
        have e1 : S a ↔ S x := by
          rcases ha with ha | ha
          · exact f a x ha0 ha1 hx.1 hx.2 ha
          · exact (f a y ha0 ha1 hy.1 hy.2 ha).trans hxy.symm
        have e2 : S b ↔ S x := by
          rcases hb with hb | hb
          · exact f b x hb0 hb1 hx.1 hx.2 hb
          · exact (f b y hb0 hb1 hy.1 hy.2 hb).trans hxy.symm
        exact e1.trans e2.symm
      refine key u v h0 h1 h2 h3 ?_ ?_
      · split at he <;> split at he <;> omega
      · split at he <;> split at he <;> omega
/-! ### Walks along two involutions -/
/-- Two ways to pair the points 0 to m - 1. -/
structure Inv2 (m : Nat) (p o : Int → Int) : Prop where
  pr : ∀ y : Int, 0 ≤ y → y < m → 0 ≤ p y ∧ p y < m
  orr : ∀ y : Int, 0 ≤ y → y < m → 0 ≤ o y ∧ o y < m
  pp : ∀ y : Int, 0 ≤ y → y < m → p (p y) = y
  oo : ∀ y : Int, 0 ≤ y → y < m → o (o y) = y
  pn : ∀ y : Int, 0 ≤ y → y < m → p y ≠ y
  on : ∀ y : Int, 0 ≤ y → y < m → o y ≠ y
/-- Of points that were met: closed. -/
def Clo (m : Nat) (p o : Int → Int) (M : Int → Prop) : Prop := ∀ y : Int, 0 ≤ y → y < m → M y → M (p y) ∧ M (o y)
/-- On the way from x, at y, which was not met. -/
structure Way (m : Nat) (p o : Int → Int) (x y : Int) (M : Int → Prop) : Prop where
  rg : 0 ≤ y ∧ y < m
  un : ¬ M y
  pcl : ∀ z : Int, 0 ≤ z → z < m → M z → M (p z)
  bd : ∀ z : Int, 0 ≤ z → z < m → M z → M (o z) ∨ z = x ∨ z = o y
  pre : (Clo m p o M ∧ y = x) ∨ (M (o y) ∧ o y ≠ x ∧ M x)
def add2' (M : Int → Prop) (a b : Int) : Int → Prop := fun z => M z ∨ z = a ∨ z = b
theorem Way.step {m : Nat} {p o : Int → Int} (I : Inv2 m p o) {x y : Int} (hx : 0 ≤ x ∧ x < m) {M : Int → Prop} (h : Way m p o x y M) :
    (¬ add2' M y (p y) (o (p y)) → Way m p o x (o (p y)) (add2' M y (p y))) ∧ (add2' M y (p y) (o (p y)) → Clo m p o (add2' M y (p y))) := by
  obtain ⟨hy, hun, hpcl, hbd, hpre⟩ := h
  have hpy := I.pr y hy.1 hy.2
  have hopy := I.orr (p y) hpy.1 hpy.2
  have hpun : ¬ M (p y) := fun e => hun (by have := hpcl _ hpy.1 hpy.2 e; rwa [I.pp y hy.1 hy.2] at this)
  have hpcl' : ∀ z : Int, 0 ≤ z → z < m → add2' M y (p y) z → add2' M y (p y) (p z) := fun z h0 h1 hz => by
    rcases hz with hz | rfl | rfl
    · exact .inl (hpcl z h0 h1 hz)
    · exact .inr (.inr rfl)
    · exact .inr (.inl (I.pp y hy.1 hy.2))
  have hMx : add2' M y (p y) x := by
    rcases hpre with ⟨_, e⟩ | ⟨_, _, hm⟩
    · exact .inr (.inl e.symm)
    · exact .inl hm
  have hpx : p y ≠ x := fun e => by
    rcases hpre with ⟨_, e2⟩ | ⟨_, _, hm⟩
    · exact I.pn y hy.1 hy.2 (by rw [e, e2])
    · exact hpun (by rw [e]; exact hm)
  refine ⟨fun hn => ⟨hopy, hn, hpcl', fun z h0 h1 hz => ?_, .inr ⟨?_, ?_, hMx⟩⟩, fun hm z h0 h1 hz => ⟨hpcl' z h0 h1 hz, ?_⟩⟩
  · rw [I.oo (p y) hpy.1 hpy.2]
    rcases hz with hz | rfl | rfl
    · rcases hbd z h0 h1 hz with h | h | h
      · exact .inl (.inl h)
      · exact .inr (.inl h)
      · exact .inl (.inr (.inl (by rw [h, I.oo y hy.1 hy.2])))
    · rcases hpre with ⟨_, e⟩ | ⟨h, _, _⟩
      · exact .inr (.inl e)
      · exact .inl (.inl h)
    · exact .inr (.inr rfl)
  · rw [I.oo (p y) hpy.1 hpy.2]; exact .inr (.inr rfl)
  · rw [I.oo (p y) hpy.1 hpy.2]; exact hpx
  · -- the walk has come to its end: then the next point is the first one
    have hend : o (p y) = x := by
      rcases hm with hm | hm | hm
      · rcases hpre with ⟨hc, e⟩ | ⟨hw, hwx, hmx⟩
        · exfalso
          have := (hc _ hopy.1 hopy.2 hm).2
          rw [I.oo (p y) hpy.1 hpy.2] at this
          exact hpun this
        · rcases hbd _ hopy.1 hopy.2 hm with h | h | h
          · exfalso
            rw [I.oo (p y) hpy.1 hpy.2] at h
            exact hpun h
          · exact h
          · exfalso
            have := congrArg o h
            rw [I.oo (p y) hpy.1 hpy.2, I.oo y hy.1 hy.2] at this
            exact I.pn y hy.1 hy.2 this
      · rcases hpre with ⟨_, e⟩ | ⟨hw, _, _⟩
        · rw [hm, e]
        · exfalso
          have := congrArg o hm
          rw [I.oo (p y) hpy.1 hpy.2] at this
          exact hpun (by rw [this]; exact hw)
      · exact absurd hm (I.on (p y) hpy.1 hpy.2)
    have hox : o x = p y := by rw [← hend, I.oo (p y) hpy.1 hpy.2]
    rcases hz with hz | rfl | rfl
    · rcases hbd z h0 h1 hz with h | h | h
      · exact .inl h
      · exact .inr (.inr (by rw [h, hox]))
      · exact .inr (.inl (by rw [h, I.oo y hy.1 hy.2]))
    · rcases hpre with ⟨_, e⟩ | ⟨h, _, _⟩
      · exact .inr (.inr (by rw [e, hox, e]))
      · exact .inl h
    · rw [hend]; exact hMx
end Go.Proofs.Ytdpbfdjpeofbmaa.L
