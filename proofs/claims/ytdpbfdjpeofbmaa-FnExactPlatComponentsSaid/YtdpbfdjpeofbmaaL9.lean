/- The light logic, part 9: rows of rows of numbers. -/
import Derived.Test.YtdpbfdjpeofbmaaL7
namespace Go.Proofs.Ytdpbfdjpeofbmaa.L
set_option linter.unusedVariables false
def rr (xss : List (List Int)) (i : Int) : List Int := xss.getD i.toNat []
def rd2 (xss : List (List Int)) (i j : Int) : Int := rd (rr xss i) j
def set2 (xss : List (List Int)) (i j : Int) (x : Int) : List (List Int) := xss.set i.toNat ((rr xss i).set j.toNat x)
theorem rr_get {xss : List (List Int)} {i : Int} (h0 : 0 ≤ i) (h1 : i < xss.length) : xss[i.toNat]? = some (rr xss i) := by
  have : i.toNat < xss.length := by omega
  simp [rr, List.getD_eq_getElem?_getD, this]
theorem rr_mem {xss : List (List Int)} {i : Int} (h0 : 0 ≤ i) (h1 : i < xss.length) : rr xss i ∈ xss := List.mem_of_getElem? (rr_get h0 h1)
/-- A slice reads as these rows. -/
def RM (w : World) (v : Value) (xss : List (List Int)) : Prop :=
  ∃ hds, Rs w 1 v xss.length hds ∧ ∀ (i : Nat) xs, xss[i]? = some xs → ∃ h, hds[i]? = some h ∧ RI w h xs
theorem RM.keep {w w' : World} {v : Value} {xss : List (List Int)} (h : RM w v xss) (k : Kp no w w') : RM w' v xss := by
  obtain ⟨hds, h1, h2⟩ := h
  exact ⟨hds, h1.keep k, fun i xs hi => by obtain ⟨q, hq, hr⟩ := h2 i xs hi; exact ⟨q, hq, hr.keep k⟩⟩
theorem RM.open {w : World} {v : Value} {xss : List (List Int)} (h : RM w v xss) : ∃ A c, v = .slice A xss.length c ∧ xss.length ≤ c := by
  obtain ⟨hds, ⟨A, c, e, hc, _⟩, _⟩ := h
  exact ⟨A, c, e, hc⟩
theorem RM.len {w : World} {A : Option Addr} {n c : Nat} {xss : List (List Int)} (h : RM w (.slice A n c) xss) : n = xss.length := by
  obtain ⟨hds, ⟨A, c, e, hc, _⟩, _⟩ := h
  cases e; rfl
/-- A row of it: where its head lies, and the row. -/
theorem RM.row {w : World} {A : Option Addr} {n c : Nat} {xss : List (List Int)} (h : RM w (.slice A n c) xss) {i : Int} (h0 : 0 ≤ i) (h1 : i < xss.length) :
    ∃ a B cc, A = some a ∧ w.cell? (a.add (i.toNat * 1)) = some (.slice B (rr xss i).length cc) ∧ RI w (.slice B (rr xss i).length cc) (rr xss i) := by
  obtain ⟨hds, ⟨A', c', e, hc, hl, hr⟩, h2⟩ := h
  obtain ⟨q, hq, hri⟩ := h2 _ _ (rr_get h0 h1)
  obtain ⟨a, ha, hcell⟩ := hr _ _ hq
  cases e
  obtain ⟨B, cc, rfl, _⟩ := hri.open
  exact ⟨a, B, cc, ha, by simpa using hcell, hri⟩

/-- Rows of one's own: the heads 'hds', the rows 'xss'. -/
structure MatH (w : World) (v : Value) (hds : List Value) (xss : List (List Int)) : Prop where
  head : Ow w 22 1 v hds.length hds
  len : hds.length = xss.length
  row : ∀ (i : Nat) h xs, hds[i]? = some h → xss[i]? = some xs → OI w h xs
  apart : ∀ (i j : Nat) h h', hds[i]? = some h → hds[j]? = some h' → i ≠ j → ∀ b, h.ownBlock = some b → h'.ownBlock ≠ some b
theorem Ow.block {w : World} {e : TypeId} {sz n : Nat} {v : Value} {vs : List Value} (h : Ow w e sz v n vs) {b : Nat} (hb : v.ownBlock = some b) : ∃ cur, w.heap[b]? = some (.cells cur e (0, 0)) := by
  rcases h.2 with ⟨rfl, _⟩ | ⟨g, cap, cur, rfl, _, hg, _⟩
  · simp [Value.ownBlock] at hb
  · simp [Value.ownBlock] at hb
    subst hb
    exact ⟨cur, hg⟩
theorem MatH.headApart {w : World} {v : Value} {hds : List Value} {xss : List (List Int)} (h : MatH w v hds xss) {i : Nat} {q : Value} (hi : hds[i]? = some q) {b : Nat} (hb : q.ownBlock = some b) : v.ownBlock ≠ some b := by
  intro hv
  have hlt : i < xss.length := by rw [← h.len]; exact (List.getElem?_eq_some_iff.1 hi).1
  obtain ⟨c1, e1⟩ := Ow.block (h.row i q _ hi (List.getElem?_eq_getElem hlt)) hb
  obtain ⟨c2, e2⟩ := Ow.block h.head hv
  rw [e1] at e2
  simp at e2
def MatF (v : Value) (hds : List Value) (b : Nat) : Prop := v.ownBlock = some b ∨ ∃ h ∈ hds, h.ownBlock = some b
theorem OI.keep {F : Nat → Prop} {w w' : World} {v : Value} {xs : List Int} (h : OI w v xs) (hk : Kp F w w') (hf : ∀ b, v.ownBlock = some b → ¬ F b) : OI w' v xs := Ow.keep h hk hf
theorem Ow.local {w w' : World} {e : TypeId} {sz n : Nat} {v : Value} {vs : List Value} (h : Ow w e sz v n vs) (hb : ∀ b, v.ownBlock = some b → w'.heap[b]? = w.heap[b]?) : Ow w' e sz v n vs := by
  refine ⟨h.1, ?_⟩
  rcases h.2 with hn | ⟨g, cap, cur, rfl, h1, hgg, rest⟩
  · exact .inl hn
  · refine .inr ⟨g, cap, cur, rfl, h1, ?_, rest⟩
    rw [hb g rfl]
    exact hgg
def aMat (v : Value) (hds : List Value) (xss : List (List Int)) : Asr := ⟨MatF v hds, fun w => MatH w v hds xss, fun w w' hb h =>
  ⟨h.head.local fun b e => hb b (.inl e), h.len, fun i q xs hi hx => (h.row i q xs hi hx).local fun b e => hb b (.inr ⟨q, List.mem_of_getElem? hi, e⟩), h.apart⟩⟩
theorem MatH.rm {w : World} {v : Value} {hds : List Value} {xss : List (List Int)} (h : MatH w v hds xss) : RM w v xss := by
  refine ⟨hds, by have := Ow.rs h.head; rwa [h.len] at this, fun i xs hi => ?_⟩
  have hlt : i < hds.length := by rw [h.len]; exact (List.getElem?_eq_some_iff.1 hi).1
  exact ⟨hds[i], List.getElem?_eq_getElem hlt, (h.row i _ xs (List.getElem?_eq_getElem hlt) hi).ri⟩
theorem MatH.open {w : World} {v : Value} {hds : List Value} {xss : List (List Int)} (h : MatH w v hds xss) : (v = .slice none 0 0 ∧ xss = []) ∨ ∃ g c, v = .slice (some ⟨g, 0, none⟩) xss.length c ∧ xss.length ≤ c := by
  rcases Ow.slice h.head with ⟨rfl, h0⟩ | ⟨g, c, rfl, hc⟩
  · exact .inl ⟨rfl, List.eq_nil_of_length_eq_zero (by rw [← h.len]; exact h0)⟩
  · exact .inr ⟨g, c, by rw [h.len], by rw [← h.len]; exact hc⟩
theorem MatH.lenv {w : World} {A : Option Addr} {n c : Nat} {hds : List Value} {xss : List (List Int)} (h : MatH w (.slice A n c) hds xss) : n = xss.length := h.rm.len
/-- A row that is not empty. -/
theorem MatH.at {w : World} {g n c : Nat} {hds : List Value} {xss : List (List Int)} (h : MatH w (.slice (some ⟨g, 0, none⟩) n c) hds xss) {i : Int} (h0 : 0 ≤ i) (h1 : i < xss.length) {m : Nat} (hm : (rr xss i).length = m) (hp : 0 < m) :
    ∃ b cc, hds[i.toNat]? = some (.slice (some ⟨b, 0, none⟩) m cc) ∧ w.cell? ⟨g, i.toNat, none⟩ = some (.slice (some ⟨b, 0, none⟩) m cc) ∧ OI w (.slice (some ⟨b, 0, none⟩) m cc) (rr xss i) := by
  have hlt : i.toNat < hds.length := by rw [h.len]; omega
  have hq := List.getElem?_eq_getElem hlt
  have hO := h.row _ _ _ hq (rr_get h0 h1)
  subst hm
  rcases hO.open with ⟨_, e⟩ | ⟨b, cc, e, hc⟩
  · rw [e] at hp; simp at hp
  · rw [e] at hq hO
    refine ⟨b, cc, hq, ?_, hO⟩
    have hr := Ow.rs h.head
    obtain ⟨A', c', e', _, _, hcell⟩ := hr
    obtain ⟨a, ha, hc'⟩ := hcell _ _ hq
    cases e'
    cases ha
    rwa [add_zero'] at hc'

section
variable {F0 : Nat → Prop} {w0 w : World} {As : List Asr} {P : Program} {l : Env} {d : Option Tmp} {ty : TypeId} {ps : String} {af : Array Edge} {g : Option (Nat × Bool)} {x y : Operand} {v u : Value} {t : TypeId} {J : Value → World → Prop}
theorem St.mat (hs : St F0 w0 As w) (i : Nat) {hds : List Value} {xss : List (List Int)} (hi : As[i]? = some (aMat v hds xss)) : MatH w v hds xss := hs.get i hi
theorem MatH.stored {w w' : World} {v : Value} {hds : List Value} {xss : List (List Int)} (h : MatH w v hds xss) {i : Nat} {q : Value} {b : Nat} (hi : hds[i]? = some q) (hb : q.ownBlock = some b) (hk : Kp (fun k => k = b) w w') {xs : List Int} (hO : OI w' q xs) : MatH w' v hds (xss.set i xs) := by
  refine ⟨Ow.keep h.head hk (fun k e e' => ?_), by simpa using h.len, fun j q' xs' hj hx => ?_, h.apart⟩
  · subst e'; exact h.headApart hi hb e
  · by_cases hij : i = j
    · subst hij
      have hlt : i < xss.length := by rw [← h.len]; exact (List.getElem?_eq_some_iff.1 hi).1
      rw [List.getElem?_set_self hlt] at hx
      cases hx
      rw [hi] at hj
      cases hj
      exact hO
    · rw [List.getElem?_set_ne hij] at hx
      exact (h.row j q' xs' hj hx).keep hk fun k e e' => by subst e'; exact h.apart j i q' q hj hi (Ne.symm hij) k e hb
/-- A number stored into a row of a matrix. -/
theorem st_storeM {gg n c b m cc : Nat} {hds : List Value} {xss : List (List Int)} {q z0 : Int} {by' : Nat} {z : Value} (hs : St F0 w0 As w) (j : Nat) (hj : As[j]? = some (aMat (.slice (some ⟨gg, 0, none⟩) n c) hds xss)) (i : Int) (h0 : 0 ≤ i) (h1 : i < xss.length)
    (hh : hds[i.toNat]? = some (.slice (some ⟨b, 0, none⟩) m cc)) (hz : Ty P t 1 by' z) (hx : ev l x = some (.pointer (some ⟨b, q.toNat, none⟩))) (hy : ev l y = some (.int .i64 z0)) (hq0 : 0 ≤ q) (hq1 : q < m)
    (hJ : ∀ w', Kp (fun k => k = b) w w' → St F0 w0 (As.set j (aMat (.slice (some ⟨gg, 0, none⟩) n c) hds (set2 xss i q z0))) w' → J undef w') : St1 P l ⟨none, .store t x y, ty, ps, af, g⟩ w J := by
  have hM := hs.mat j hj
  have hO : OI w (.slice (some ⟨b, 0, none⟩) m cc) (rr xss i) := hM.row _ _ _ hh (rr_get h0 h1)
  obtain rfl := hO.len
  refine st_storeO hz hx hy hO rfl (by rw [nums_length]; omega) fun w' hk hO' => hJ w' hk ?_
  rw [nums_set] at hO'
  refine hs.upd j hj (hk.mono fun k _ e => by subst e; exact .inr ⟨_, List.mem_of_getElem? hh, rfl⟩) (aMat _ _ _) ?_ (fun k e => .inl e)
  refine hM.stored hh rfl hk ?_
  show Ow _ _ _ _ _ _
  rw [List.length_set]
  exact hO'

/-- Things brought to the front, taken together. -/
theorem St.front {A : Asr} (hs : St F0 w0 As w) (i : Nat) (hi : As[i]? = some A) : St F0 w0 (A :: As.eraseIdx i) w := by
  have hlt : i < As.length := (List.getElem?_eq_some_iff.1 hi).1
  have hA := (List.getElem?_eq_some_iff.1 hi).2
  refine ⟨hs.kp, fun B hB => ?_, List.pairwise_cons.2 ⟨fun B hB b hb hb' => ?_, (hs.drop i).disj⟩⟩
  · rcases List.mem_cons.1 hB with rfl | hB
    · exact hs.each _ (List.mem_of_getElem? hi)
    · exact hs.each _ (List.mem_of_mem_eraseIdx hB)
  · obtain ⟨j, hj⟩ := List.getElem?_of_mem hB
    rw [List.getElem?_eraseIdx] at hj
    split at hj
    · exact hs.apart i j hi hj (by omega) b hb hb'
    · exact hs.apart i (j + 1) hi hj (by omega) b hb hb'
def aAnd (A B : Asr) : Asr := ⟨fun b => A.foot b ∨ B.foot b, fun w => A.holds w ∧ B.holds w, fun w w' h hh => ⟨A.loc w w' (fun b hb => h b (.inl hb)) hh.1, B.loc w w' (fun b hb => h b (.inr hb)) hh.2⟩⟩
theorem St.pair {A B : Asr} (hs : St F0 w0 (A :: B :: As) w) : St F0 w0 (aAnd A B :: As) w := by
  have hd := List.pairwise_cons.1 hs.disj
  have hd2 := List.pairwise_cons.1 hd.2
  refine ⟨hs.kp, fun C hC => ?_, List.pairwise_cons.2 ⟨fun C hC b hb hb' => ?_, hd2.2⟩⟩
  · rcases List.mem_cons.1 hC with rfl | hC
    · have h1 := hs.each A (by simp)
      have h2 := hs.each B (by simp)
      exact ⟨⟨h1.1, h2.1⟩, fun b hb => hb.elim (h1.2 b) (h2.2 b)⟩
    · exact hs.each C (by simp [hC])
  · rcases hb with hb | hb
    · exact hd.1 C (by simp [hC]) b hb hb'
    · exact hd2.1 C hC b hb hb'
/-- The two first things become one. -/
theorem St.merge {A B C : Asr} {w' : World} (hs : St F0 w0 (A :: B :: As) w) (hk : Kp (fun b => A.foot b ∨ B.foot b) w w') (hC : C.holds w') (hf : ∀ b, C.foot b → A.foot b ∨ B.foot b ∨ Fresh w w' b) : St F0 w0 (C :: As) w' :=
  hs.pair.upd 0 rfl hk C hC fun b hb => by
    rcases hf b hb with h | h | h
    · exact .inl (.inl h)
    · exact .inl (.inr h)
    · exact .inr h
/-- A new row, behind the others. -/
theorem MatH.snoc {w w' : World} {v v' : Value} {hds : List Value} {xss : List (List Int)} {q : Value} {xs : List Int} (h : MatH w v hds xss) (hO : OI w q xs) (hd : ∀ b, q.ownBlock = some b → ¬ MatF v hds b)
    (hk : Kp (fun k => v.ownBlock = some k) w w') (hh : Ow w' 22 1 v' (hds.length + 1) (hds ++ [q])) : MatH w' v' (hds ++ [q]) (xss ++ [xs]) := by
  refine ⟨by simpa using hh, by simp [h.len], fun i q' xs' hi hx => ?_, fun i j q1 q2 hi hj hne b hb hb' => ?_⟩
  · by_cases hlt : i < hds.length
    · rw [List.getElem?_append_left hlt] at hi
      rw [List.getElem?_append_left (by rw [← h.len]; exact hlt)] at hx
      exact (h.row i q' xs' hi hx).keep hk fun b e e' => h.headApart hi e e'
    · rw [List.getElem?_append_right (by omega)] at hi
      rw [List.getElem?_append_right (by rw [← h.len]; omega)] at hx
      have e : i - hds.length = 0 := by
        have := (List.getElem?_eq_some_iff.1 hi).1
        simp at this
        omega
      rw [e] at hi
      rw [← h.len, e] at hx
      cases hi
      cases hx
      exact hO.keep hk fun b e e' => hd b e (.inl e')
  · have key : ∀ (i j : Nat) (q1 q2 : Value), (hds ++ [q])[i]? = some q1 → (hds ++ [q])[j]? = some q2 → i < hds.length → i ≠ j → q1.ownBlock = some b → q2.ownBlock = some b → False := by
      intro i j q1 q2 hi hj hlt hne hb hb'
      rw [List.getElem?_append_left hlt] at hi
      by_cases hlt' : j < hds.length
      · rw [List.getElem?_append_left hlt'] at hj
        exact h.apart i j q1 q2 hi hj hne b hb hb'
      · rw [List.getElem?_append_right (by omega)] at hj
        have e : j - hds.length = 0 := by
          have := (List.getElem?_eq_some_iff.1 hj).1
          simp at this
          omega
        rw [e] at hj
        cases hj
        exact hd b hb' (.inr ⟨q1, List.mem_of_getElem? hi, hb⟩)
    by_cases hlt : i < hds.length
    · exact key i j q1 q2 hi hj hlt hne hb hb'
    · refine key j i q2 q1 hj hi ?_ (Ne.symm hne) hb' hb
      have h1 := (List.getElem?_eq_some_iff.1 hi).1
      have h2 := (List.getElem?_eq_some_iff.1 hj).1
      simp at h1 h2
      omega
/-- The append of a row to a matrix: 'rows = append(rows, row)'. -/
theorem st_appendM {hds : List Value} {xss : List (List Int)} {q : Value} {xs : List Int} {by' : Nat} {bt ct : Nat} (hs : St F0 w0 (aMat v hds xss :: aOI q xs :: As) w) (ht : P.underlying t = some (.slice 22)) (hty : Ty P 22 1 24 (.slice none 0 0)) (hx : ev l x = some v) (hy : ev l y = some (.slice (some ⟨bt, 0, none⟩) 1 ct))
    (hu : Ow w 22 1 (.slice (some ⟨bt, 0, none⟩) 1 ct) 1 [q]) (h1 : q.oneCell' = true) (hb : xss.length ≤ 1000000)
    (hJ : ∀ v' w', St F0 w0 (aMat v' (hds ++ [q]) (xss ++ [xs]) :: As) w' → Kp (fun k => v.ownBlock = some k) w w' → (∀ b, v'.ownBlock = some b → v.ownBlock = some b ∨ Fresh w w' b) → J v' w') :
    St1 P l ⟨d, .call { callee := .builtin .append, args := #[x, y], argTypes := #[t, t] }, ty, ps, af, g⟩ w J := by
  have hM := hs.mat 0 rfl
  refine st_append ht hty rfl rfl hx hy hM.head (Ow.rs hu) (by simpa using h1) (by have := hM.len; omega) (by have := hM.len; simp only [maxLen]; omega) fun v' w' hO hk hf => hJ v' w' ?_ hk hf
  refine hs.merge (hk.mono fun k _ e => .inl (.inl e)) (C := aMat _ _ _) ?_ ?_
  · exact hM.snoc (hs.oi 1 rfl) (fun b hb hf => hs.apart 0 1 rfl rfl (by decide) b hf hb) hk hO
  · intro b hb
    rcases hb with hb | ⟨q', hq', hb⟩
    · rcases hf b hb with h | h
      · exact .inl (.inl h)
      · exact .inr (.inr h)
    · rcases List.mem_append.1 hq' with h | h
      · exact .inl (.inr ⟨q', h, hb⟩)
      · simp at h; subst h; exact .inr (.inl hb)
/-- A result in new memory. -/
def NewM (w w' : World) (v : Value) (xss : List (List Int)) : Prop := ∃ hds, MatH w' v hds xss ∧ Kp no w w' ∧ ∀ b, MatF v hds b → Fresh w w' b
theorem St.newM {v : Value} {xss : List (List Int)} {hds : List Value} {w' : World} (hs : St F0 w0 As w) (h1 : MatH w' v hds xss) (h2 : Kp no w w') (h3 : ∀ b, MatF v hds b → Fresh w w' b) : St F0 w0 (aMat v hds xss :: As) w' := hs.new h2 (aMat v hds xss) h1 h3
theorem St.isNewM {v : Value} {xss : List (List Int)} {hds : List Value} (hs : St no w0 As w) (i : Nat) (hi : As[i]? = some (aMat v hds xss)) : NewM w0 w v xss :=
  ⟨hds, hs.get i hi, hs.kp, fun b hb => ⟨((hs.each _ (List.mem_of_getElem? hi)).2 b hb).1.resolve_left id, ((hs.each _ (List.mem_of_getElem? hi)).2 b hb).2⟩⟩
end
section
variable {F0 : Nat → Prop} {w0 w : World} {As : List Asr} {P : Program} {l : Env} {d : Option Tmp} {ty : TypeId} {ps : String} {af : Array Edge} {g : Option (Nat × Bool)} {x y : Operand} {v u : Value} {t : TypeId} {J : Value → World → Prop}
/-- The heads in another order. -/
theorem MatH.perm {w w' : World} {gg n c : Nat} {hds hds' : List Value} {xss xss' : List (List Int)} (h : MatH w (.slice (some ⟨gg, 0, none⟩) n c) hds xss) (σ : Nat → Nat) (hσ : ∀ i j, i < hds.length → j < hds.length → σ i = σ j → i = j) (h1 : ∀ i, i < hds.length → hds'[i]? = hds[σ i]?)
    (h2 : ∀ i, i < hds.length → xss'[i]? = xss[σ i]?) (hl : hds'.length = hds.length) (hl2 : xss'.length = xss.length) (hk : Kp (fun k => k = gg) w w') (hO : Ow w' 22 1 (.slice (some ⟨gg, 0, none⟩) n c) hds'.length hds') : MatH w' (.slice (some ⟨gg, 0, none⟩) n c) hds' xss' := by
  have lt : ∀ (i : Nat) q, hds'[i]? = some q → i < hds.length := fun i q hi => by rw [← hl]; exact (List.getElem?_eq_some_iff.1 hi).1
  refine ⟨hO, by rw [hl, hl2, h.len], fun i q xs hi hx => ?_, fun i j q q' hi hj hne b hb => ?_⟩
  · have hil := lt i q hi
    rw [h1 i hil] at hi
    rw [h2 i hil] at hx
    exact (h.row _ q xs hi hx).keep hk fun b e e' => by subst e'; exact h.headApart hi e rfl
  · have hil := lt i q hi
    have hjl := lt j q' hj
    rw [h1 i hil] at hi
    rw [h1 j hjl] at hj
    exact h.apart _ _ q q' hi hj (fun e => hne (hσ i j hil hjl e)) b hb
def swapL {α : Type} (xs : List α) (r a : Nat) (d : α) : List α := (xs.set r (xs.getD a d)).set a (xs.getD r d)
def sw (r a i : Nat) : Nat := if i = r then a else if i = a then r else i
theorem sw_inj (r a i j : Nat) (h : sw r a i = sw r a j) : i = j := by unfold sw at h; split at h <;> split at h <;> (try split at h) <;> (try split at h) <;> omega
theorem swapL_get {α : Type} (xs : List α) (r a : Nat) (d : α) (hr : r < xs.length) (ha : a < xs.length) (i : Nat) (hi : i < xs.length) : (swapL xs r a d)[i]? = xs[sw r a i]? := by
  unfold swapL sw
  have e1 : xs.getD a d = xs[a] := by simp [List.getD_eq_getElem?_getD, ha]
  have e2 : xs.getD r d = xs[r] := by simp [List.getD_eq_getElem?_getD, hr]
  rw [e1, e2, List.getElem?_set, List.getElem?_set, List.length_set]
  by_cases h1 : i = r
  · subst h1
    rw [if_pos rfl]
    by_cases h2 : a = i
    · subst h2; simp [hr]
    · rw [if_neg h2, if_pos rfl, if_pos hr]; simp [ha]
  · rw [if_neg h1]
    by_cases h2 : a = i
    · subst h2; simp [ha, hr]
    · rw [if_neg h2, if_neg (Ne.symm h1), if_neg (Ne.symm h2)]
theorem swapL_length {α : Type} (xs : List α) (r a : Nat) (d : α) : (swapL xs r a d).length = xs.length := by simp [swapL]
/-- Two heads exchanged. -/
theorem St.swapM {gg n c : Nat} {hds : List Value} {xss : List (List Int)} {r a : Nat} {w' : World} (hs : St F0 w0 As w) (j : Nat) (hj : As[j]? = some (aMat (.slice (some ⟨gg, 0, none⟩) n c) hds xss)) (hr : r < xss.length) (ha : a < xss.length) (hk : Kp (fun k => k = gg) w w')
    (hO : Ow w' 22 1 (.slice (some ⟨gg, 0, none⟩) n c) hds.length (swapL hds r a undef)) : St F0 w0 (As.set j (aMat (.slice (some ⟨gg, 0, none⟩) n c) (swapL hds r a undef) (swapL xss r a []))) w' := by
  have hM := hs.mat j hj
  refine hs.upd j hj (hk.mono fun k _ e => by subst e; exact .inl rfl) (aMat _ _ _) ?_ ?_
  · refine hM.perm (sw r a) (fun i j _ _ => sw_inj r a i j) (fun i hi => swapL_get _ _ _ _ (by rw [hM.len]; exact hr) (by rw [hM.len]; exact ha) i hi) (fun i hi => swapL_get _ _ _ _ hr ha i (by rw [← hM.len]; exact hi)) (swapL_length _ _ _ _) (swapL_length _ _ _ _) hk (by rw [swapL_length]; exact hO)
  · rintro b (e | ⟨q, hq, e⟩)
    · exact .inl (.inl e)
    · refine .inl (.inr ⟨q, ?_, e⟩)
      obtain ⟨i, hi⟩ := List.getElem?_of_mem hq
      have hil : i < hds.length := by have := (List.getElem?_eq_some_iff.1 hi).1; rwa [swapL_length] at this
      rw [swapL_get _ _ _ _ (by rw [hM.len]; exact hr) (by rw [hM.len]; exact ha) i hil] at hi
      exact List.mem_of_getElem? hi
/-- A new row in the place of another one: 'rows[i] = row'. -/
theorem st_putM {gg n c : Nat} {hds : List Value} {xss : List (List Int)} {q : Value} {xs : List Int} {i : Int} {by' : Nat} {z : Value} (hs : St F0 w0 (aMat (.slice (some ⟨gg, 0, none⟩) n c) hds xss :: aOI q xs :: As) w) (hz : Ty P t 1 by' z) (hx : ev l x = some (.pointer (some ⟨gg, i.toNat, none⟩))) (hy : ev l y = some q) (h1 : q.oneCell' = true)
    (h0 : 0 ≤ i) (hlt : i < xss.length)
    (hJ : ∀ w', Kp (fun k => k = gg) w w' → St F0 w0 (aMat (.slice (some ⟨gg, 0, none⟩) n c) (hds.set i.toNat q) (xss.set i.toNat xs) :: As) w' → J undef w') : St1 P l ⟨none, .store t x y, ty, ps, af, g⟩ w J := by
  have hM := hs.mat 0 rfl
  have hlen := hM.len
  have hn := hM.lenv
  have hh := hM.head
  rw [hlen, ← hn] at hh
  refine st_storeO hz hx hy hh h1 (by rw [hlen]; omega) fun w' hk hO => hJ w' hk ?_
  have hnot : ∀ b, q.ownBlock = some b → ¬ MatF (.slice (some ⟨gg, 0, none⟩) n c) hds b := fun b hb hf => hs.apart 0 1 rfl rfl (by decide) b hf hb
  have hit : i.toNat < hds.length := by omega
  refine hs.merge (hk.mono fun k _ e => by subst e; exact .inl (.inl rfl)) (C := aMat _ _ _) ⟨?_, by simpa using hlen, fun j q' xs' hj hx' => ?_, fun j k q1 q2 hj hk' hne b hb => ?_⟩ ?_
  · rw [List.length_set, hlen, ← hn]; exact hO
  · by_cases e : i.toNat = j
    · subst e
      rw [List.getElem?_set_self hit] at hj
      rw [List.getElem?_set_self (by omega)] at hx'
      cases hj
      cases hx'
      exact (hs.oi 1 rfl).keep hk fun b e e' => by subst e'; exact hnot b e (.inl rfl)
    · rw [List.getElem?_set_ne e] at hj hx'
      exact (hM.row j q' xs' hj hx').keep hk fun b e e' => by subst e'; exact hM.headApart hj e rfl
  · intro hb'
    by_cases e : i.toNat = j
    · subst e
      rw [List.getElem?_set_self hit] at hj
      cases hj
      rw [List.getElem?_set_ne hne] at hk'
      exact hnot b hb (.inr ⟨q2, List.mem_of_getElem? hk', hb'⟩)
    · rw [List.getElem?_set_ne e] at hj
      by_cases e2 : i.toNat = k
      · subst e2
        rw [List.getElem?_set_self hit] at hk'
        cases hk'
        exact hnot b hb' (.inr ⟨q1, List.mem_of_getElem? hj, hb⟩)
      · rw [List.getElem?_set_ne e2] at hk'
        exact hM.apart j k q1 q2 hj hk' hne b hb hb'
  · rintro b (e | ⟨q', hq', e⟩)
    · exact .inl (.inl e)
    · rcases List.mem_or_eq_of_mem_set hq' with h | rfl
      · exact .inl (.inr ⟨q', h, e⟩)
      · exact .inr (.inl e)
end
theorem MatH.nil (w : World) {b c : Nat} (h : Ow w 22 1 (.slice (some ⟨b, 0, none⟩) 0 c) 0 []) : MatH w (.slice (some ⟨b, 0, none⟩) 0 c) [] [] :=
  ⟨h, rfl, fun i h xs hi _ => by simp at hi, fun i j h h' hi _ _ => by simp at hi⟩
end Go.Proofs.Ytdpbfdjpeofbmaa.L
