/- The light logic, part 0: environments as lists, the judgements W (code), T (a region in the order of its text), D (a region that draws its order). -/
import Derived.WalkKit
import Derived.Orders
namespace Go.Proofs.Ytdpbfdjpeofbmaa.L

/-! ### Environments -/
abbrev Env := List (Nat × Value)
def look : Env → Nat → Option Value
  | [], _ => none
  | (k, v) :: r, t => match Nat.beq k t with
    | true => some v
    | false => look r t
def ev (l : Env) : Operand → Option Value
  | .tmp t => look l t
  | .const v => some v
  | .global g => some (.pointer (some ⟨g, 0, none⟩))
  | .func f => some (.func (.func f) #[] #[])
def evs (l : Env) : List Operand → Option (List Value)
  | [] => some []
  | x :: r => match ev l x, evs l r with
    | some v, some vs => some (v :: vs)
    | _, _ => none
def putE (l : Env) : Option Tmp → Value → Env
  | some d, v => (d, v) :: l
  | none, _ => l
def dok (n : Nat) : Option Tmp → Bool
  | some d => Nat.blt d n
  | none => true
structure Ag (n : Nat) (a : Act) (l : Env) : Prop where
  dfs : a.defers = []
  size : a.tmps.size = n
  at_ : ∀ t v, look l t = some v → a.tmps[t]? = some v

theorem Ag.ev {n : Nat} {a : Act} {l : Env} (h : Ag n a l) {x : Operand} {v : Value} (hx : ev l x = some v) : a.eval x = v := by
  cases x with
  | tmp t =>
    have := h.at_ t v hx
    simp only [Act.eval, Array.getD_eq_getD_getElem?, this, Option.getD_some]
  | const u => simpa [L.ev, Act.eval] using hx
  | global g => simpa [L.ev, Act.eval] using hx
  | func f => simpa [L.ev, Act.eval] using hx
theorem Ag.evs {n : Nat} {a : Act} {l : Env} (h : Ag n a l) : ∀ {xs : List Operand} {vs : List Value}, evs l xs = some vs → xs.map a.eval = vs
  | [], vs, hx => by simp [L.evs] at hx; subst hx; rfl
  | x :: r, vs, hx => by
    simp only [L.evs] at hx
    cases h1 : L.ev l x with
    | none => rw [h1] at hx; simp at hx
    | some v =>
      cases h2 : L.evs l r with
      | none => rw [h1, h2] at hx; simp at hx
      | some us =>
        rw [h1, h2] at hx
        simp only [Option.some.injEq] at hx
        subst hx
        simp only [List.map_cons, h.ev h1, h.evs h2]
theorem Ag.put {n : Nat} {a : Act} {l : Env} (h : Ag n a l) {d : Option Tmp} (hd : dok n d = true) (v : Value) : Ag n (a.put d v) (putE l d v) := by
  cases d with
  | none => exact h
  | some d =>
    have hlt : d < n := by simpa [dok, Nat.blt_eq] using hd
    refine ⟨h.dfs, by simp [Act.put, h.size], fun t u hu => ?_⟩
    simp only [putE, look] at hu
    split at hu
    · rename_i hb
      have : d = t := Nat.eq_of_beq_eq_true hb
      subst this
      simp only [Option.some.injEq] at hu
      subst hu
      simp [Act.put, h.size, hlt]
    · rename_i hb
      have hne : d ≠ t := fun e => by subst e; rw [Nat.beq_refl] at hb; cases hb
      simp only [Act.put, Array.getElem?_setIfInBounds_ne hne]
      exact h.at_ t u hu
/-- The first list's slots are among the second's. -/
def Sub (l' l : Env) : Prop := ∀ t v, look l' t = some v → look l t = some v
theorem Sub.refl (l : Env) : Sub l l := fun _ _ h => h
theorem Sub.nil (l : Env) : Sub [] l := fun _ _ h => by simp [look] at h
theorem Sub.cons {l' l : Env} {t : Nat} {v : Value} (h : look l t = some v) (r : Sub l' l) : Sub ((t, v) :: l') l := by
  intro u x hx
  simp only [look] at hx
  split at hx
  · rename_i hb
    have : t = u := Nat.eq_of_beq_eq_true hb
    subst this
    simp only [Option.some.injEq] at hx
    subst hx
    exact h
  · exact r u x hx
theorem Ag.sub {n : Nat} {a : Act} {l l' : Env} (h : Ag n a l) (hs : Sub l' l) : Ag n a l' := ⟨h.dfs, h.size, fun t v ht => h.at_ t v (hs t v ht)⟩

/-! ### Code -/
abbrev KK := Env → World → Prop
def lookQ : List (Nat × KK) → Nat → Option KK
  | [], _ => none
  | (k, v) :: r, t => match Nat.beq k t with
    | true => some v
    | false => lookQ r t
/-- What an exit leads to. -/
def Post (n : Nat) (K : KK) (Qs : List (Nat × KK)) (R : KK) : Exit → Act → World → Prop
  | .normal, a, w => ∃ l, Ag n a l ∧ K l w
  | .exit id, a, w => ∃ K' l, lookQ Qs id = some K' ∧ Ag n a l ∧ K' l w
  | .ret, a, w => ∃ l, Ag n a l ∧ R l w
  | _, _, _ => False
structure W (P : Program) (n : Nat) (c : Code) (K : KK) (Qs : List (Nat × KK)) (R : KK) (l : Env) (w : World) : Prop where
  out : ∀ a, Ag n a l → c.wp P (Post n K Qs R) a w

section
variable {P : Program} {n : Nat} {K : KK} {Qs : List (Nat × KK)} {R : KK} {l : Env} {w : World}
theorem W.sub {c : Code} {l' : Env} (hs : Sub l' l) (h : W P n c K Qs R l' w) : W P n c K Qs R l w := ⟨fun a ha => h.out a (ha.sub hs)⟩
theorem W_skip (h : K l w) : W P n .skip K Qs R l w := ⟨fun _ ha => wp_skip ⟨l, ha, h⟩⟩
theorem W_ret (h : R l w) : W P n .ret K Qs R l w := ⟨fun _ ha => wp_ret ⟨l, ha, h⟩⟩
theorem W_exit {id : Nat} {K' : KK} (hq : lookQ Qs id = some K') (h : K' l w) : W P n (.exit id) K Qs R l w := ⟨fun _ ha => wp_exit ⟨K', l, hq, ha, h⟩⟩
theorem W_seq {x y : Code} (h : W P n x (fun l w => W P n y K Qs R l w) Qs R l w) : W P n (.seq x y) K Qs R l w :=
  ⟨fun a ha => wp_seq (Go.wp_mono (h.out a ha) fun e a w q => by
    cases e with
    | normal => obtain ⟨l, ha, h⟩ := q; exact h.out a ha
    | exit id => exact q
    | ret => exact q
    | goto l => exact q
    | panic c => exact q
    | outgrown => exact q)⟩
theorem W_block {id : Nat} {c : Code} (h : W P n c K ((id, K) :: Qs) R l w) : W P n (.block id c) K Qs R l w :=
  ⟨fun a ha => wp_block (Go.wp_mono (h.out a ha) fun e a w q => by
    cases e with
    | normal => exact q
    | exit i =>
      obtain ⟨K', l, hq, ha, hk⟩ := q
      simp only [lookQ] at hq
      simp only [Exit.inBlock]
      split at hq
      · rename_i hb
        have : id = i := Nat.eq_of_beq_eq_true hb
        subst this
        simp only [Option.some.injEq] at hq
        subst hq
        simp only [if_true]
        exact ⟨l, ha, hk⟩
      · rename_i hb
        have hne : i ≠ id := fun e => by subst e; rw [Nat.beq_refl] at hb; cases hb
        simp only [if_neg hne]
        exact ⟨K', l, hq, ha, hk⟩
    | ret => exact q
    | goto l => exact q
    | panic c => exact q
    | outgrown => exact q)⟩
theorem W_cond {c : Operand} {x y : Code} {b : Bool} (hc : ev l c = some (.bool b)) (h1 : b = true → W P n x K Qs R l w) (h2 : b = false → W P n y K Qs R l w) :
    W P n (.cond c x y) K Qs R l w :=
  ⟨fun a ha => wp_cond_split (ha.ev hc) (fun e => (h1 e).out a ha) (fun e => (h2 e).out a ha)⟩
theorem W_if {c : Operand} {x y : Code} {p : Prop} [Decidable p] (hc : ev l c = some (.bool (decide p))) (h1 : p → W P n x K Qs R l w) (h2 : ¬ p → W P n y K Qs R l w) :
    W P n (.cond c x y) K Qs R l w :=
  W_cond hc (fun e => h1 (of_decide_eq_true e)) (fun e => h2 (of_decide_eq_false e))
theorem W_true {c : Operand} {x y : Code} (hc : ev l c = some (.bool true)) (h : W P n x K Qs R l w) : W P n (.cond c x y) K Qs R l w := W_cond hc (fun _ => h) (fun e => by cases e)
theorem W_false {c : Operand} {x y : Code} (hc : ev l c = some (.bool false)) (h : W P n y K Qs R l w) : W P n (.cond c x y) K Qs R l w := W_cond hc (fun e => by cases e) (fun _ => h)
/-- A cut: what holds between two parts. -/
theorem W_cut {x y : Code} {σ : Type} (E : σ → Env) (inv : σ → World → Prop) (h1 : W P n x (fun l' w' => ∃ s, Sub (E s) l' ∧ inv s w') Qs R l w) (h2 : ∀ s w', inv s w' → W P n y K Qs R (E s) w') : W P n (.seq x y) K Qs R l w :=
  W_seq ⟨fun a ha => Go.wp_mono (h1.out a ha) fun e a w q => by
    cases e with
    | normal => obtain ⟨l, ha, s, hs, hi⟩ := q; exact ⟨l, ha, (h2 s w hi).sub hs⟩
    | exit id => exact q
    | ret => exact q
    | goto l => exact q
    | panic c => exact q
    | outgrown => exact q⟩
/-- A loop: what holds at the head of each round, by a state 's' of a type of one's own. -/
theorem W_loop {c : Code} {σ : Type} (E : σ → Env) (inv : σ → World → Prop) (μ : σ → Nat) (s0 : σ) (hs : Sub (E s0) l) (h0 : inv s0 w)
    (round : ∀ s w, inv s w → W P n c (fun l' w' => ∃ s', Sub (E s') l' ∧ inv s' w' ∧ μ s' < μ s) Qs R (E s) w) : W P n (.loop c) K Qs R l w := by
  refine ⟨fun a ha b k cs => ?_⟩
  have key : ∀ m s w, μ s = m → inv s w → ∀ a, Ag n a (E s) →
      ∃ e a' w', Post n K Qs R e a' w' ∧ Arrives P (lone (b.at a (.code c :: .inLoop c :: k)) cs w) b k cs e a' w' := by
    intro m
    induction m using Nat.strongRecOn with
    | _ m ih =>
      intro s w hm hi a ha
      obtain ⟨e, a₁, w₁, hq, harr⟩ := (round s w hi).out a ha b (.inLoop c :: k) cs
      cases e with
      | normal =>
        obtain ⟨l₁, ha₁, s', hsub, hi', hlt⟩ := hq
        obtain ⟨e₂, a₂, w₂, hq₂, harr₂⟩ := ih (μ s') (hm ▸ hlt) s' w₁ rfl hi' a₁ (ha₁.sub hsub)
        exact ⟨e₂, a₂, w₂, hq₂, .of_steps (Steps.trans harr (.one step_inLoop)) harr₂⟩
      | exit id => exact ⟨.exit id, a₁, w₁, hq, .pass (x := .inLoop c) rfl (fun _ _ => .inl (by simp)) harr⟩
      | ret => exact ⟨.ret, a₁, w₁, hq, .pass (x := .inLoop c) rfl (fun _ _ => .inl (by simp)) harr⟩
      | goto l => exact hq.elim
      | panic ch => exact hq.elim
      | outgrown => exact hq.elim
  obtain ⟨e, a', w', hq, harr⟩ := key _ s0 w rfl h0 a (ha.sub hs)
  exact ⟨e, a', w', hq, .of_steps (.one step_loop) harr⟩
end
end Go.Proofs.Ytdpbfdjpeofbmaa.L
