/- The light logic, part 6: what a call owns, side by side. -/
import Derived.Test.YtdpbfdjpeofbmaaL5
namespace Go.Proofs.Ytdpbfdjpeofbmaa.L
set_option linter.unusedVariables false
/-- A thing in memory: its blocks, what is told of it, and that this speaks of its blocks alone. -/
structure Asr where
  foot : Nat → Prop
  holds : World → Prop
  loc : ∀ w w', (∀ b, foot b → w'.heap[b]? = w.heap[b]?) → holds w → holds w'
/-- What is owned, apart from each other, in blocks of F0 or in new ones; all else is as it was. -/
structure St (F0 : Nat → Prop) (w0 : World) (As : List Asr) (w : World) : Prop where
  kp : Kp F0 w0 w
  each : ∀ A ∈ As, A.holds w ∧ ∀ b, A.foot b → (F0 b ∨ w0.heap.size ≤ b) ∧ b < w.heap.size
  disj : As.Pairwise fun A B => ∀ b, A.foot b → ¬ B.foot b
section
variable {F0 : Nat → Prop} {w0 w w' : World} {As : List Asr} {A A' : Asr}
theorem St.start (w : World) : St no w [] w := ⟨Kp.refl _ _, by simp, .nil⟩
/-- A function that may write into things that came in. -/
theorem St.startF (w : World) (As : List Asr) (h : ∀ A ∈ As, A.holds w ∧ ∀ b, A.foot b → F0 b ∧ b < w.heap.size) (hd : As.Pairwise fun A B => ∀ b, A.foot b → ¬ B.foot b) : St F0 w As w :=
  ⟨Kp.refl _ _, fun A hA => ⟨(h A hA).1, fun b hb => ⟨.inl ((h A hA).2 b hb).1, ((h A hA).2 b hb).2⟩⟩, hd⟩
theorem St.get (h : St F0 w0 As w) (i : Nat) (hi : As[i]? = some A) : A.holds w := (h.each A (List.mem_of_getElem? hi)).1
theorem St.lt (h : St F0 w0 As w) (i : Nat) (hi : As[i]? = some A) {b : Nat} (hb : A.foot b) : b < w.heap.size := ((h.each A (List.mem_of_getElem? hi)).2 b hb).2
theorem St.size (h : St F0 w0 As w) : w0.heap.size ≤ w.heap.size := h.kp.size
/-- Nothing that is owned turns. -/
theorem St.next (h : St F0 w0 As w) (k : Kp no w w') : St F0 w0 As w' :=
  ⟨h.kp.next k, fun A hA => ⟨A.loc w w' (fun b hb => k.block b ((h.each A hA).2 b hb).2 id) (h.each A hA).1, fun b hb => ⟨((h.each A hA).2 b hb).1, Nat.lt_of_lt_of_le ((h.each A hA).2 b hb).2 k.size⟩⟩, h.disj⟩
/-- A new thing. -/
theorem St.new (h : St F0 w0 As w) (k : Kp no w w') (A : Asr) (hA : A.holds w') (hf : ∀ b, A.foot b → Fresh w w' b) : St F0 w0 (A :: As) w' := by
  have h' := h.next k
  refine ⟨h'.kp, ?_, List.pairwise_cons.2 ⟨fun B hB b hb hb' => ?_, h.disj⟩⟩
  · intro B hB
    rcases List.mem_cons.1 hB with rfl | hB
    · exact ⟨hA, fun b hb => ⟨.inr (Nat.le_trans h.size (hf b hb).1), (hf b hb).2⟩⟩
    · exact h'.each B hB
  · have h1 := (hf b hb).1
    have h2 := ((h.each B hB).2 b hb').2
    omega
/-- The thing at place i turns. -/
theorem St.upd (h : St F0 w0 As w) (i : Nat) (hi : As[i]? = some A) (k : Kp A.foot w w') (A' : Asr) (hA : A'.holds w') (hf : ∀ b, A'.foot b → A.foot b ∨ Fresh w w' b) : St F0 w0 (As.set i A') w' := by
  have hlt : i < As.length := (List.getElem?_eq_some_iff.1 hi).1
  have hAi : As[i] = A := (List.getElem?_eq_some_iff.1 hi).2
  have hold := h.each A (List.mem_of_getElem? hi)
  have hdis : ∀ (j : Nat) B, As[j]? = some B → j ≠ i → ∀ b, A.foot b → ¬ B.foot b := by
    intro j B hj hne b hb hb'
    have hjl : j < As.length := (List.getElem?_eq_some_iff.1 hj).1
    have hBj : As[j] = B := (List.getElem?_eq_some_iff.1 hj).2
    rcases Nat.lt_or_gt_of_ne hne with hlt' | hgt
    · have := List.pairwise_iff_getElem.1 h.disj j i hjl hlt hlt'
      rw [hBj, hAi] at this
      exact this b hb' hb
    · have := List.pairwise_iff_getElem.1 h.disj i j hlt hjl hgt
      rw [hBj, hAi] at this
      exact this b hb hb'
  have hsame : ∀ (j : Nat) B, As[j]? = some B → j ≠ i → B.holds w' ∧ ∀ b, B.foot b → (F0 b ∨ w0.heap.size ≤ b) ∧ b < w'.heap.size := by
    intro j B hj hne
    have hB := h.each B (List.mem_of_getElem? hj)
    exact ⟨B.loc w w' (fun b hb => k.block b (hB.2 b hb).2 (fun e => hdis j B hj hne b e hb)) hB.1, fun b hb => ⟨(hB.2 b hb).1, Nat.lt_of_lt_of_le (hB.2 b hb).2 k.size⟩⟩
  have hnew : ∀ b, A'.foot b → (F0 b ∨ w0.heap.size ≤ b) ∧ b < w'.heap.size := fun b hb => by
    rcases hf b hb with hb | hb
    · exact ⟨(hold.2 b hb).1, Nat.lt_of_lt_of_le (hold.2 b hb).2 k.size⟩
    · exact ⟨.inr (Nat.le_trans h.size hb.1), hb.2⟩
  refine ⟨?_, ?_, ?_⟩
  · refine h.kp.trans k fun b hb hfb => ?_
    rcases (hold.2 b hfb).1 with h' | h'
    · exact h'
    · omega
  · intro B hB
    obtain ⟨j, hj⟩ := List.getElem?_of_mem hB
    by_cases hji : j = i
    · subst hji
      rw [List.getElem?_set_self hlt] at hj
      cases hj
      exact ⟨hA, hnew⟩
    · rw [List.getElem?_set_ne (Ne.symm hji)] at hj
      exact hsame j B hj hji
  · rw [List.pairwise_iff_getElem]
    intro j m hj hm hjm b hb hb'
    simp only [List.length_set] at hj hm
    rw [List.getElem_set] at hb hb'
    have key : ∀ (q : Nat) (hq : q < As.length), q ≠ i → A'.foot b → As[q].foot b → False := fun q hq hne h1 h2 => by
      rcases hf b h1 with h3 | h3
      · exact hdis q _ (List.getElem?_eq_getElem hq) hne b h3 h2
      · have := ((h.each As[q] (List.getElem_mem hq)).2 b h2).2
        have := h3.1
        omega
    by_cases hji : i = j
    · subst hji
      rw [if_pos rfl] at hb
      rw [if_neg (by omega)] at hb'
      exact key m hm (by omega) hb hb'
    · rw [if_neg hji] at hb
      by_cases hmi : i = m
      · subst hmi
        rw [if_pos rfl] at hb'
        exact key j hj (by omega) hb' hb
      · rw [if_neg hmi] at hb'
        exact List.pairwise_iff_getElem.1 h.disj j m hj hm hjm b hb hb'
/-- The thing at place i is not needed any more. -/
theorem St.drop (h : St F0 w0 As w) (i : Nat) : St F0 w0 (As.eraseIdx i) w :=
  ⟨h.kp, fun A hA => h.each A (List.mem_of_mem_eraseIdx hA), h.disj.sublist (List.eraseIdx_sublist ..)⟩
theorem St.tail (h : St F0 w0 (A :: As) w) : St F0 w0 As w := ⟨h.kp, fun B hB => h.each B (List.mem_cons_of_mem _ hB), (List.pairwise_cons.1 h.disj).2⟩
/-- Another reading of the thing at place i. -/
theorem St.see (h : St F0 w0 As w) (i : Nat) (hi : As[i]? = some A) (A' : Asr) (hA : A.holds w → A'.holds w) (hf : ∀ b, A'.foot b → A.foot b) : St F0 w0 (As.set i A') w :=
  h.upd i hi (Kp.refl _ _) A' (hA (h.get i hi)) (fun b hb => .inl (hf b hb))
/-- Two places do not share a block. -/
theorem St.apart (h : St F0 w0 As w) (i j : Nat) {B : Asr} (hi : As[i]? = some A) (hj : As[j]? = some B) (hne : i ≠ j) : ∀ b, A.foot b → ¬ B.foot b := by
  intro b hb hb'
  have hil : i < As.length := (List.getElem?_eq_some_iff.1 hi).1
  have hjl : j < As.length := (List.getElem?_eq_some_iff.1 hj).1
  have hAi : As[i] = A := (List.getElem?_eq_some_iff.1 hi).2
  have hBj : As[j] = B := (List.getElem?_eq_some_iff.1 hj).2
  rcases Nat.lt_or_gt_of_ne hne with hlt | hgt
  · have := List.pairwise_iff_getElem.1 h.disj i j hil hjl hlt
    rw [hAi, hBj] at this
    exact this b hb hb'
  · have := List.pairwise_iff_getElem.1 h.disj j i hjl hil hgt
    rw [hAi, hBj] at this
    exact this b hb' hb
end

/-! ### The things -/
def aBk (b : Nat) (e : TypeId) (cs : List Value) : Asr := ⟨fun k => k = b, fun w => Bk w b e cs, fun w w' h hb => (h b rfl).trans hb⟩
def aOw (e : TypeId) (sz : Nat) (v : Value) (n : Nat) (vs : List Value) : Asr := ⟨fun k => v.ownBlock = some k, fun w => Ow w e sz v n vs, fun w w' h hb => by
  refine ⟨hb.1, ?_⟩
  rcases hb.2 with hn | ⟨g, cap, cur, rfl, h1, hgg, rest⟩
  · exact .inl hn
  · refine .inr ⟨g, cap, cur, rfl, h1, ?_, rest⟩
    rw [h g rfl]
    exact hgg⟩
section
variable {F0 : Nat → Prop} {w0 w : World} {As : List Asr} {P : Program} {l : Env} {d : Option Tmp} {ty : TypeId} {ps : String} {af : Array Edge} {g : Option (Nat × Bool)} {x y : Operand} {v u : Value} {t : TypeId} {J : Value → World → Prop}
theorem St.bk (hs : St F0 w0 As w) (i : Nat) {b : Nat} {e : TypeId} {cs : List Value} (hi : As[i]? = some (aBk b e cs)) : Bk w b e cs := hs.get i hi
theorem St.ow (hs : St F0 w0 As w) (i : Nat) {e : TypeId} {sz n : Nat} {vs : List Value} (hi : As[i]? = some (aOw e sz v n vs)) : Ow w e sz v n vs := hs.get i hi
theorem st_boxS (hs : St F0 w0 As w) (hx : ev l x = some v) (hJ : ∀ w' b, Kp no w w' → w.heap.size ≤ b → St F0 w0 (aBk b t v.cells.toList :: As) w' → J (.pointer (some ⟨b, 0, none⟩)) w') : St1 P l ⟨d, .box t x, ty, ps, af, g⟩ w J :=
  st_box hx fun w' b hk hb hB => hJ w' b hk hb (hs.new hk (aBk b t _) hB fun k e => by cases e; exact ⟨hb, hB.lt⟩)
theorem st_allocS {s by' : Nat} {z : Value} (hs : St F0 w0 As w) (hz : Ty P t s by' z) (hJ : ∀ w' b, Kp no w w' → w.heap.size ≤ b → St F0 w0 (aBk b t z.cells.toList :: As) w' → J (.pointer (some ⟨b, 0, none⟩)) w') : St1 P l ⟨d, .alloc t, ty, ps, af, g⟩ w J :=
  st_alloc hz fun w' b hk hb hB => hJ w' b hk hb (hs.new hk (aBk b t _) hB fun k e => by cases e; exact ⟨hb, hB.lt⟩)
/-- One cell of an owned block. -/
theorem st_storeB {b o : Nat} {e : TypeId} {cs : List Value} {by' : Nat} {z : Value} (hs : St F0 w0 As w) (j : Nat) (hj : As[j]? = some (aBk b e cs)) (hz : Ty P t 1 by' z) (hx : ev l x = some (.pointer (some ⟨b, o, none⟩))) (hy : ev l y = some v) (h1 : v.oneCell' = true)
    (hfit : o < cs.length) (hJ : ∀ w', Kp (fun k => k = b) w w' → St F0 w0 (As.set j (aBk b e (cs.set o v))) w' → J undef w') : St1 P l ⟨none, .store t x y, ty, ps, af, g⟩ w J :=
  st_store1 hz hx hy (hs.bk j hj) h1 hfit fun w' hk hB => hJ w' hk (hs.upd j hj hk (aBk b e _) hB fun k e => .inl e)
/-- Several cells of an owned block. -/
theorem st_storeBs {b o s : Nat} {e : TypeId} {cs : List Value} {by' : Nat} {z : Value} (hs : St F0 w0 As w) (j : Nat) (hj : As[j]? = some (aBk b e cs)) (hz : Ty P t s by' z) (hx : ev l x = some (.pointer (some ⟨b, o, none⟩))) (hy : ev l y = some v) (hl : v.cells.size = s) (h1 : ∀ u ∈ v.cells.toList, u.oneCell' = true)
    (hfit : o + s ≤ cs.length) (hJ : ∀ w', Kp (fun k => k = b) w w' → St F0 w0 (As.set j (aBk b e (cs.take o ++ v.cells.toList ++ cs.drop (o + s)))) w' → J undef w') : St1 P l ⟨none, .store t x y, ty, ps, af, g⟩ w J :=
  st_store hz hx hy (hs.bk j hj) hl hfit h1 fun w' hk hB => hJ w' hk (hs.upd j hj hk (aBk b e _) hB fun k e => .inl e)
end
end Go.Proofs.Ytdpbfdjpeofbmaa.L
