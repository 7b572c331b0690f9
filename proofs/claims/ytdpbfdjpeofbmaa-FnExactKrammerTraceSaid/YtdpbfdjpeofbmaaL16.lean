/- The light logic, part 16: keys that are arrays of numbers; a map ranged over. -/
import Derived.Test.YtdpbfdjpeofbmaaL15
namespace Go.Proofs.Ytdpbfdjpeofbmaa.L
set_option linter.unusedVariables false
open Go.ChangeMaps (setBlock)
section
variable {P : Program} {kt e : TypeId} {n : Nat} {k k' : IntKind}
theorem checkKey_nums (ht : P.underlying kt = some (.array n e)) (he : P.underlying e = some (.int k')) (hsz : ∀ w, (sizeOf e).run P w = .ok 1 w) (d : Nat) (b : Bool) (xs : List Int) (hx : xs.length = n) (w : World) :
    (Instr.checkKey b (d + 2) kt (.agg (nums k xs).toArray)).run P w = .ok () w := by
  rw [Instr.checkKey]
  simp only [Sem.run_bind, run_underlying ht, Result.andThen_ok, hsz, Std.Legacy.Range.forIn_eq_forIn_range', Std.Legacy.Range.size, Nat.sub_zero, Nat.add_sub_cancel, Nat.div_one]
  have hl : ∀ i ∈ List.range' 0 n 1, i < n := fun i hi => by simpa using (List.mem_range'_1.1 hi).2
  generalize List.range' 0 n 1 = l at hl ⊢
  induction l with
  | nil => simp
  | cons i l ih =>
    have hi : i < n := hl i (by simp)
    have px : (part e (nums k xs).toArray (i * 1)).run P w = .ok (.int k (xs.getD i 0)) w := by
      simp [part, isAgg, run_underlying he, List.getD, List.getElem?_eq_getElem (show i < xs.length by omega), nums]
    have pc : (Instr.checkKey b (d + 1) e (.int k (xs.getD i 0))).run P w = .ok () w := checkKey_int he d
    simp only [List.forIn_cons, Sem.run_bind, hsz, px, pc, Result.andThen_ok, Sem.run_pure]
    exact ih fun j hj => hl j (by simp [hj])
theorem sameBits_nums (d : Nat) (xs : List Int) : Instr.sameBits (d + 1) (.agg (nums k xs).toArray) (.agg (nums k xs).toArray) = true := by
  simp only [Instr.sameBits, beq_self_eq_true, Bool.true_and, List.toList_toArray]
  rw [List.all_eq_true]
  intro p hp
  obtain ⟨i, hi, rfl⟩ := List.mem_iff_getElem.1 hp
  simp only [List.length_zip, Nat.min_self, nums_length] at hi
  simp only [List.getElem_zip, nums, List.getElem_map]
  exact sameBits_int d _ _
theorem KL_nums (ht : P.underlying kt = some (.array n e)) (he : P.underlying e = some (.int k')) {by' : Nat} {z : Value} (hz : Ty P e 1 by' z) : KL P kt (fun xs : List Int => .agg (nums k xs).toArray) (fun xs => xs.length = n) where
  chk a w b ha := by
    obtain ⟨i, hi, hs1, _⟩ := hz.out
    exact checkKey_nums ht he (fun w => by simp [sizeOf, typeInfo, hi, hs1]) 9998 b a ha w
  find a w ms es ha hG he' := by
    obtain ⟨i, hi, hs1, _⟩ := hz.out
    have hsz : ∀ w, (sizeOf e).run P w = .ok 1 w := fun w => by simp [sizeOf, typeInfo, hi, hs1]
    have key : ∀ (ms : List (List Int × Value)) (es : List MapEntry) (j : Nat), (∀ m ∈ ms, m.1.length = n) → es.map (fun e => (e.key, e.val)) = ms.map (fun m => ((Value.agg (nums k m.1).toArray : Value), m.2)) → (Instr.findAsking kt (.agg (nums k a).toArray) es j).run P w = .ok (midx ms a j) w := by
      intro ms
      induction ms with
      | nil => intro es j _ h; have : es = [] := by simpa using h
               subst this; simp [Instr.findAsking, midx]
      | cons m ms ih =>
        intro es j hG h
        cases es with
        | nil => simp at h
        | cons x es =>
          simp only [List.map_cons, List.cons.injEq, Prod.mk.injEq] at h
          obtain ⟨⟨h1, h2⟩, h3⟩ := h
          have hq := run_equalIn_nums (P := P) w 9998 kt e n k k' ht he hsz a m.1 ha (hG m (by simp))
          simp only [Instr.findAsking, Sem.run_bind, Op.equal, Op.maxDepth, h1, hq, Result.andThen_ok, midx]
          by_cases hb : a = m.1
          · rw [if_pos hb]
            simp [hb, h2]
          · rw [if_neg hb]
            simp only [hb, decide_false, Bool.false_eq_true, if_false]
            exact ih es (j + 1) (fun m' hm' => hG m' (by simp [hm'])) h3
    have hnow : ∀ (es : List MapEntry), Instr.findNow (.array n e) (.agg (nums k a).toArray) es 0 = none ∨ es = [] := by
      intro es
      cases es with
      | nil => exact .inr rfl
      | cons x es => exact .inl (by simp [Instr.findNow, Instr.sameNow])
    simp only [Instr.findKey, Sem.run_bind, run_underlying ht, Result.andThen_ok]
    rcases hnow es with h | h
    · rw [h]
      exact key ms es 0 hG he'
    · subst h
      have : ms = [] := by
        cases ms with
        | nil => rfl
        | cons m ms => simp at he'
      subst this
      simp [Instr.findNow, midx]
  same a _ := sameBits_nums 9999 a
end
/-! ### A map ranged over -/
section
variable {α : Type} {kv : α → Value}
/-- Block b holds a map with these entries, block r an iterator over it that has handed out those at the places vis, the last one at the head. -/
def ItH (kv : α → Value) (b r : Nat) (ms : List (α × Value)) (vis : List Nat) (w : World) : Prop :=
  ∃ es clock seen, w.heap[b]? = some (.map es clock) ∧ es.toList.map (fun e => (e.key, e.val)) = ms.map (fun m => (kv m.1, m.2)) ∧ (es.toList.map (·.born)).Pairwise (· < ·) ∧ (∀ e ∈ es.toList, e.born < clock) ∧
    w.heap[r]? = some (.mapIter (some b) clock seen clock) ∧ (∀ i ∈ vis, i < ms.length) ∧ seen.toList = vis.reverse.map (fun i => (es.toList.map (·.born)).getD i 0)
def aIt (kv : α → Value) (b r : Nat) (ms : List (α × Value)) (vis : List Nat) : Asr := ⟨fun k => k = b ∨ k = r, ItH kv b r ms vis, fun w w' h ⟨es, c, s, h1, h2, h3, h4, h5, h6⟩ => ⟨es, c, s, (h b (.inl rfl)).trans h1, h2, h3, h4, (h r (.inr rfl)).trans h5, h6⟩⟩
theorem ItH.map {b r : Nat} {ms : List (α × Value)} {vis : List Nat} {w : World} (h : ItH kv b r ms vis w) : MapH kv b ms w := by
  obtain ⟨es, c, s, h1, h2, h3, h4, _⟩ := h
  exact ⟨es, c, h1, h2, h3, h4⟩
theorem born_inj {bs : List Nat} (h : bs.Pairwise (· < ·)) {i j : Nat} (hi : i < bs.length) (hj : j < bs.length) (e : bs.getD i 0 = bs.getD j 0) : i = j := by
  rw [List.getD_eq_getElem?_getD, List.getD_eq_getElem?_getD, List.getElem?_eq_getElem hi, List.getElem?_eq_getElem hj] at e
  simp only [Option.getD_some] at e
  rcases Nat.lt_trichotomy i j with h1 | h1 | h1
  · have := List.pairwise_iff_getElem.1 h i j hi hj h1; omega
  · exact h1
  · have := List.pairwise_iff_getElem.1 h j i hj hi h1; omega
variable {F0 : Nat → Prop} {w0 w : World} {As : List Asr} {P : Program} {l : Env} {d : Option Tmp} {ty : TypeId} {ps : String} {af : Array Edge} {g : Option (Nat × Bool)} {x y c : Operand} {v u : Value} {t k e : TypeId} {J : Value → World → Prop} {I : World → Prop}
theorem St.it (hs : St F0 w0 As w) (i : Nat) {b r : Nat} {ms : List (α × Value)} {vis : List Nat} (hi : As[i]? = some (aIt kv b r ms vis)) : ItH kv b r ms vis w := hs.get i hi
theorem st_range {b : Nat} {ms : List (α × Value)} (hs : St F0 w0 As w) (j : Nat) (hj : As[j]? = some (aMap kv b ms)) (ht : P.underlying t = some (.map k e)) (hx : ev l x = some (.map (some b)))
    (hJ : ∀ w' r, Kp no w w' → St F0 w0 (As.set j (aIt kv b r ms [])) w' → J (.pointer (some ⟨r, 0, none⟩)) w') : St1 P l ⟨d, .range t x, ty, ps, af, g⟩ w J := by
  intro ρ h
  have hm := hs.mp j hj
  have hlt := hm.lt
  obtain ⟨es, clock, h1, h2, h3, h4⟩ := hm
  have hr := run_range_map (P := P) w t k e b es clock ht h1
  simp only [execOp, h _ _ hx, Sem.run_bind, hr, Result.andThen_ok, Sem.run_pure, SR]
  have hk : Kp no w (w.alloc (.mapIter (some b) clock #[] clock)) := Kp.push w _
  refine hJ _ _ hk (hs.upd j hj (hk.mono fun _ _ h => h.elim) (aIt kv b _ ms []) ⟨es, clock, #[], ?_, h2, h3, h4, heap_alloc_new w _, by simp, by simp⟩ ?_)
  · rw [heap_alloc_old w _ hlt]; exact h1
  · rintro q (rfl | rfl)
    · exact .inl rfl
    · refine .inr ⟨Nat.le_refl _, ?_⟩
      show w.heap.size < (w.heap.push _).size
      simp
/-- What 'next' comes to: nothing is left, or one that is left comes out. -/
def NextP (kv : α → Value) (F0 : Nat → Prop) (w0 : World) (As : List Asr) (j b r : Nat) (ms : List (α × Value)) (vis : List Nat) (w : World) (v : Value) (w' : World) : Prop :=
  ∃ arr bb, v = .tuple arr ∧ arr[0]? = some (.bool bb) ∧ (bb = false → w' = w ∧ ∀ i, i < ms.length → i ∈ vis) ∧
    (bb = true → ∃ i, i < ms.length ∧ i ∉ vis ∧ Kp (fun k => k = r) w w' ∧ St F0 w0 (As.set j (aIt kv b r ms (i :: vis))) w')
theorem st_next {b r : Nat} {ms : List (α × Value)} {vis : List Nat} (hs : St F0 w0 As w) (j : Nat) (hj : As[j]? = some (aIt kv b r ms vis)) (hx : ev l x = some (.pointer (some ⟨r, 0, none⟩)))
    (hJ : ∀ v w', NextP kv F0 w0 As j b r ms vis w v w' → J v w') : St1 P l ⟨d, .next x false, ty, ps, af, g⟩ w J := by
  intro ρ h
  have hit := hs.it j hj
  obtain ⟨es, clock, seen, h1, h2, h3, h4, h5, h6, h7⟩ := hit
  have hbr : b ≠ r := fun e => by rw [e, h5] at h1; cases h1
  have hlen : es.toList.length = ms.length := by have := congrArg List.length h2; simpa using this
  have hblen : (es.toList.map (·.born)).length = ms.length := by rw [List.length_map, hlen]
  have hsee : ∀ (i : Nat) (x : MapEntry), es.toList[i]? = some x → (seen.contains x.born = true ↔ i ∈ vis) := fun i x hix => by
    have hil : i < ms.length := by rw [← hlen]; exact (List.getElem?_eq_some_iff.1 hix).1
    have hb : (es.toList.map (·.born)).getD i 0 = x.born := by rw [List.getD_eq_getElem?_getD, List.getElem?_map, hix]; rfl
    rw [Array.contains_iff_mem, ← Array.mem_toList_iff, h7, List.mem_map]
    constructor
    · rintro ⟨i', hi', he⟩
      rw [← hb] at he
      rw [List.mem_reverse] at hi'
      have := born_inj h3 (by rw [hblen]; exact h6 i' hi') (by rw [hblen]; exact hil) he
      rw [← this]; exact hi'
    · intro hi
      exact ⟨i, List.mem_reverse.2 hi, hb⟩
  rcases run_next_at (P := P) w ty r b clock clock seen es clock h5 h1 h4 (Nat.le_refl _) with ⟨hz, hr⟩ | ⟨x', hx', w1, hw1, hr⟩
  · simp only [execOp, h _ _ hx, Sem.run_bind, hr, Result.andThen_ok, Sem.run_pure, SR]
    refine hJ _ _ ⟨_, false, rfl, rfl, fun _ => ⟨rfl, fun i hi => ?_⟩, fun h => by cases h⟩
    have hx := List.getElem?_eq_getElem (l := es.toList) (i := i) (by omega)
    refine (hsee i _ hx).1 ?_
    by_cases hc : seen.contains (es.toList[i]).born = true
    · exact hc
    · have hm : es.toList[i] ∈ (leftOf es seen).toList := by
        unfold leftOf
        simp only [Array.toList_filter, List.mem_filter]
        exact ⟨List.getElem_mem _, by simpa using hc⟩
      have : (leftOf es seen).toList.length = 0 := by simpa using hz
      rw [List.eq_nil_of_length_eq_zero this] at hm
      cases hm
  · simp only [execOp, h _ _ hx, Sem.run_bind, hr, Result.andThen_ok, Sem.run_pure, SR]
    have hmem : x' ∈ es.toList ∧ ¬ seen.contains x'.born = true := by
      unfold leftOf at hx'
      simp only [Array.toList_filter, List.mem_filter] at hx'
      exact ⟨hx'.1, by simpa using hx'.2⟩
    obtain ⟨i, hi⟩ := List.getElem?_of_mem hmem.1
    have hil : i < ms.length := by rw [← hlen]; exact (List.getElem?_eq_some_iff.1 hi).1
    have hni : i ∉ vis := fun hv => hmem.2 ((hsee i x' hi).2 hv)
    have hb : (es.toList.map (·.born)).getD i 0 = x'.born := by rw [List.getD_eq_getElem?_getD, List.getElem?_map, hi]; rfl
    have hk1 : Kp no w w1 := by
      rcases hw1 with rfl | rfl
      · exact Kp.refl _ _
      · exact Kp.drew w
    have hsz : r < w1.heap.size := Nat.lt_of_lt_of_le (Array.getElem?_eq_some_iff.1 h5).1 hk1.size
    have hbl : b < w.heap.size := (Array.getElem?_eq_some_iff.1 h1).1
    have hk : Kp (fun k => k = r) w (setBlock w1 r (.mapIter (some b) clock (seen.push x'.born) clock)) := hk1.of_no.trans Kp.setBlock (fun _ _ h => h)
    refine hJ _ _ ⟨_, true, rfl, rfl, fun h => (by cases h), fun _ => ⟨i, hil, hni, hk, ?_⟩⟩
    refine hs.upd j hj (hk.mono fun q _ e => .inr e) (aIt kv b r ms (i :: vis)) ⟨es, clock, seen.push x'.born, ?_, h2, h3, h4, setBlock_at hsz, ?_, ?_⟩ (fun q hq => .inl hq)
    · rw [hk.block b hbl hbr]; exact h1
    · intro q hq
      rcases List.mem_cons.1 hq with rfl | hq
      · exact hil
      · exact h6 q hq
    · simp only [Array.toList_push, h7, List.reverse_cons, List.map_append, List.map_cons, List.map_nil, hb]
theorem pi_entry {b r i : Nat} {ms : List (α × Value)} {vis : List Nat} {a : α} {q : Value} (hx : ev l x = some (.pointer (some ⟨r, 0, none⟩))) (hi : ms[i]? = some (a, q)) (hm : ∀ w, I w → ItH kv b r ms (i :: vis) w) :
    PuI P I l ⟨d, .entry x, ty, ps, af, g⟩ (.tuple #[kv a, q]) := by
  intro ρ h w hw
  obtain ⟨es, clock, seen, h1, h2, h3, h4, h5, h6, h7⟩ := hm w hw
  have hei := congrArg (·[i]?) h2
  simp only [List.getElem?_map, hi, Option.map_some] at hei
  cases hx' : es.toList[i]? with
  | none => rw [hx'] at hei; simp at hei
  | some x' =>
    rw [hx'] at hei
    simp only [Option.map_some, Option.some.injEq, Prod.mk.injEq] at hei
    have hb : (es.toList.map (·.born)).getD i 0 = x'.born := by rw [List.getD_eq_getElem?_getD, List.getElem?_map, hx']; rfl
    have hseen : seen = (vis.reverse.map (fun i => (es.toList.map (·.born)).getD i 0)).toArray.push x'.born := by
      apply Array.toList_inj.1
      rw [h7]
      simp only [List.reverse_cons, List.map_append, List.map_cons, List.map_nil, hb, Array.toList_push]
    rw [hseen] at h5
    have hr := run_entry_at (P := P) w r b clock _ es clock x' h5 h1 (List.mem_of_getElem? hx') (h3.imp fun h => Nat.ne_of_lt h)
    simp only [execOp, h _ _ hx, Sem.run_bind, hr, Result.andThen_ok, Sem.run_pure, hei.1, hei.2]
theorem pu_lenMap {b : Nat} {ms : List (α × Value)} (ht : P.underlying t = some (.map k e)) (hx : ev l x = some (.map (some b))) (hm : ∀ w, I w → MapH kv b ms w) :
    PuI P I l ⟨d, .call { callee := .builtin .len, args := #[x], argTypes := #[t] }, ty, ps, af, g⟩ (.int .i64 ms.length) := by
  intro ρ h w hw
  obtain ⟨es, clock, h1, h2, _⟩ := hm w hw
  have hlen : es.size = ms.length := by have := congrArg List.length h2; simpa using this
  simp [execOp, resolve, invoke, builtin, h _ _ hx, Builtin.len_, run_underlying ht, MapKept.run_getObj_map h1, goInt, hlen]
end
end Go.Proofs.Ytdpbfdjpeofbmaa.L
