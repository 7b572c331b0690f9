/- The light logic, part 15: maps. -/
import Derived.Test.YtdpbfdjpeofbmaaL14
import Derived.Maps.RangeRun
import Derived.Carry
namespace Go.Proofs.Ytdpbfdjpeofbmaa.L
set_option linter.unusedVariables false
open Go.ChangeMaps (setBlock)
section
variable {α : Type} [DecidableEq α]
def mget : List (α × Value) → α → Option Value
  | [], _ => none
  | (b, v) :: r, a => if a = b then some v else mget r a
def mput : List (α × Value) → α → Value → List (α × Value)
  | [], a, v => [(a, v)]
  | (b, u) :: r, a, v => if a = b then (a, v) :: r else (b, u) :: mput r a v
def midx : List (α × Value) → α → Nat → Option (Nat × Value)
  | [], _, _ => none
  | (b, v) :: r, a, i => if a = b then some (i, v) else midx r a (i + 1)
theorem midx_none {a : α} : ∀ {ms : List (α × Value)} {i : Nat}, midx ms a i = none → mget ms a = none ∧ ∀ v, mput ms a v = ms ++ [(a, v)]
  | [], _, _ => ⟨rfl, fun _ => rfl⟩
  | (b, u) :: r, i, h => by
    simp only [midx] at h
    split at h
    · cases h
    · rename_i hne
      obtain ⟨h1, h2⟩ := midx_none h
      exact ⟨by simp only [mget]; rw [if_neg hne]; exact h1, fun v => by simp only [mput]; rw [if_neg hne, h2]; rfl⟩
theorem midx_some {a : α} {j : Nat} {u : Value} : ∀ {ms : List (α × Value)} {i : Nat}, midx ms a i = some (j, u) → i ≤ j ∧ mget ms a = some u ∧ (∀ v, mput ms a v = ms.set (j - i) (a, v)) ∧ ms[j - i]? = some (a, u)
  | [], _, h => by cases h
  | (b, u') :: r, i, h => by
    simp only [midx] at h
    split at h
    · rename_i e
      subst e
      simp only [Option.some.injEq, Prod.mk.injEq] at h
      obtain ⟨rfl, rfl⟩ := h
      exact ⟨Nat.le_refl _, by simp [mget], fun v => by simp [mput], by simp⟩
    · rename_i hne
      obtain ⟨h1, h2, h3, h4⟩ := midx_some h
      have e : j - i = (j - (i + 1)) + 1 := by omega
      exact ⟨by omega, by simp only [mget]; rw [if_neg hne]; exact h2, fun v => by simp only [mput]; rw [if_neg hne, h3, e]; rfl, by rw [e]; simpa using h4⟩
theorem mget_mput {a b : α} {v : Value} : ∀ {ms : List (α × Value)}, mget (mput ms a v) b = if b = a then some v else mget ms b
  | [] => by simp only [mput, mget]
  | (c, u) :: r => by
    simp only [mput]
    by_cases h : a = c
    · subst h
      rw [if_pos rfl]
      simp only [mget]
      split <;> rfl
    · rw [if_neg h]
      simp only [mget]
      rw [mget_mput]
      by_cases hb : b = c
      · subst hb
        rw [if_pos rfl, if_pos rfl, if_neg (fun e => h e.symm)]
      · rw [if_neg hb, if_neg hb]
theorem mput_mem {a : α} {v : Value} {m : α × Value} : ∀ {ms : List (α × Value)}, m ∈ mput ms a v → m = (a, v) ∨ m ∈ ms
  | [], h => by simp only [mput, List.mem_singleton] at h; exact .inl h
  | (c, u) :: r, h => by
    simp only [mput] at h
    split at h
    · rcases List.mem_cons.1 h with h | h
      · exact .inl h
      · exact .inr (by simp [h])
    · rcases List.mem_cons.1 h with h | h
      · exact .inr (by simp [h])
      · rcases mput_mem h with h | h
        · exact .inl h
        · exact .inr (by simp [h])
/-- Keys of a type: those that are good are told apart as they should be. -/
structure KL (P : Program) (kt : TypeId) (kv : α → Value) (G : α → Prop) : Prop where
  chk : ∀ a w e, G a → (Instr.checkKey e 10000 kt (kv a)).run P w = .ok () w
  find : ∀ (a : α) (w : World) (ms : List (α × Value)) (es : List MapEntry), G a → (∀ m ∈ ms, G m.1) → es.map (fun e => (e.key, e.val)) = ms.map (fun m => (kv m.1, m.2)) → (Instr.findKey kt (kv a) es).run P w = .ok (midx ms a 0) w
  same : ∀ a, G a → Instr.sameBits 10000 (kv a) (kv a) = true
end
section
variable {α : Type}
/-- Block r holds a map with these entries, in this order. -/
def MapH (kv : α → Value) (r : Nat) (ms : List (α × Value)) (w : World) : Prop :=
  ∃ es clock, w.heap[r]? = some (.map es clock) ∧ es.toList.map (fun e => (e.key, e.val)) = ms.map (fun m => (kv m.1, m.2)) ∧ (es.toList.map (·.born)).Pairwise (· < ·) ∧ ∀ e ∈ es.toList, e.born < clock
def aMap (kv : α → Value) (r : Nat) (ms : List (α × Value)) : Asr := ⟨fun k => k = r, MapH kv r ms, fun w w' h ⟨es, c, h1, h2⟩ => ⟨es, c, (h r rfl).trans h1, h2⟩⟩
theorem MapH.lt {kv : α → Value} {r : Nat} {ms : List (α × Value)} {w : World} (h : MapH kv r ms w) : r < w.heap.size := by
  obtain ⟨_, _, h, _⟩ := h
  exact (Array.getElem?_eq_some_iff.1 h).1
theorem Kp.setBlock {w : World} {b : Nat} {o : Obj} : Kp (fun k => k = b) w (setBlock w b o) :=
  ⟨rfl, rfl, rfl, by simp [ChangeMaps.setBlock], fun k hk hn => by simp only [ChangeMaps.setBlock]; rw [Array.getElem?_setIfInBounds_ne (fun e => hn e.symm)]⟩
theorem setBlock_at {w : World} {b : Nat} {o : Obj} (h : b < w.heap.size) : (ChangeMaps.setBlock w b o).heap[b]? = some o := by
  simp [ChangeMaps.setBlock, h]
end
section
variable {α : Type} {kv : α → Value}
variable {F0 : Nat → Prop} {w0 w : World} {As : List Asr} {P : Program} {l : Env} {d : Option Tmp} {ty : TypeId} {ps : String} {af : Array Edge} {g : Option (Nat × Bool)} {t k e : TypeId} {J : Value → World → Prop}
theorem St.mp (hs : St F0 w0 As w) (i : Nat) {r : Nat} {ms : List (α × Value)} (hi : As[i]? = some (aMap kv r ms)) : MapH kv r ms w := hs.get i hi
theorem st_makeMapS (kv : α → Value) (hs : St F0 w0 As w) (ht : P.underlying t = some (.map k e)) (hJ : ∀ w' b, Kp no w w' → w.heap.size ≤ b → St F0 w0 (aMap kv b [] :: As) w' → J (.map (some b)) w') : St1 P l ⟨d, .makeMap t none, ty, ps, af, g⟩ w J := by
  intro ρ h
  have hr : (Instr.makeMap t none).run P w = .ok (.map (some w.heap.size)) { w with heap := w.heap.push (.map #[] 0) } := by
    simp [Instr.makeMap, run_underlying ht, newObj]
    rfl
  simp only [execOp, Option.map_none, Sem.run_bind, hr, Result.andThen_ok, Sem.run_pure, SR]
  refine hJ _ _ (Kp.push _ _) (Nat.le_refl _) (hs.new (Kp.push _ _) (aMap kv _ _) ⟨#[], 0, by simp, rfl, by simp, by simp⟩ fun k e => ?_)
  cases e
  exact ⟨Nat.le_refl _, by simp⟩
theorem map_modify {es : List MapEntry} {ms : List (α × Value)} (he : es.map (fun e => (e.key, e.val)) = ms.map (fun m => (kv m.1, m.2))) {j : Nat} {a : α} {v : Value} : (es.modify j fun e => { e with key := kv a, val := v }).map (fun e => (e.key, e.val)) = (ms.set j (a, v)).map (fun m => (kv m.1, m.2)) := by
  refine List.ext_getElem? fun i => ?_
  have hi := congrArg (·[i]?) he
  simp only [List.getElem?_map] at hi
  rw [List.getElem?_map, List.getElem?_map, List.getElem?_modify, List.getElem?_set]
  by_cases hij : j = i
  · subst hij
    rw [if_pos rfl]
    cases h1 : es[j]? with
    | none =>
      rw [h1] at hi
      cases h2 : ms[j]? with
      | none =>
        have := List.getElem?_eq_none_iff.1 h2
        rw [if_neg (by omega)]
        simp
      | some q => rw [h2] at hi; simp at hi
    | some q =>
      rw [h1] at hi
      cases h2 : ms[j]? with
      | none => rw [h2] at hi; simp at hi
      | some q' =>
        have := (List.getElem?_eq_some_iff.1 h2).1
        rw [if_pos this]
        simp
  · rw [if_neg hij]
    have e1 : ((if j = i then fun e : MapEntry => { e with key := kv a, val := v } else id) <$> es[i]?) = es[i]? := by rw [if_neg hij]; cases es[i]? <;> rfl
    first
      | (rw [e1]; exact hi)
      | (simp only [if_neg hij]; cases h : es[i]? <;> (rw [h] at hi; simpa using hi))
end
section
variable {α : Type} [DecidableEq α] {kv : α → Value} {G : α → Prop}
variable {F0 : Nat → Prop} {w0 w : World} {As : List Asr} {P : Program} {l : Env} {d : Option Tmp} {ty : TypeId} {ps : String} {af : Array Edge} {g : Option (Nat × Bool)} {x y c : Operand} {v u : Value} {t k e : TypeId} {J : Value → World → Prop} {I : World → Prop}
theorem run_lookup {r : Nat} {ms : List (α × Value)} {a : α} {by' s : Nat} {z : Value} (K : KL P k kv G) (ht : P.underlying t = some (.map k e)) (hz : Ty P e s by' z) (hm : MapH kv r ms w) (hG : ∀ m ∈ ms, G m.1) (ha : G a) :
    (Instr.lookup t (.map (some r)) (kv a) false).run P w = .ok ((mget ms a).getD z) w := by
  obtain ⟨es, clock, h1, h2, _⟩ := hm
  obtain ⟨i, hi, _, _, h0⟩ := hz.out
  have hf := K.find a w ms es.toList ha hG h2
  have hzv : (zeroValue e).run P w = .ok z w := by simp [zeroValue, typeInfo, hi, h0]
  cases hx : midx ms a 0 with
  | none =>
    rw [hx] at hf
    simp [Instr.lookup, run_underlying ht, MapKept.run_getObj_map h1, K.chk a w _ ha, hf, hzv, (midx_none hx).1, Result.andThen]
  | some p =>
    obtain ⟨j, q⟩ := p
    rw [hx] at hf
    simp [Instr.lookup, run_underlying ht, MapKept.run_getObj_map h1, K.chk a w _ ha, hf, (midx_some hx).2.1, Result.andThen]
theorem pi_lookup {r : Nat} {ms : List (α × Value)} {a : α} {by' s : Nat} {z : Value} (K : KL P k kv G) (ht : P.underlying t = some (.map k e)) (hz : Ty P e s by' z) (hx : ev l x = some (.map (some r))) (hy : ev l y = some (kv a)) (hG : ∀ m ∈ ms, G m.1) (ha : G a) (hm : ∀ w, I w → MapH kv r ms w) :
    PuI P I l ⟨d, .lookup t x y false, ty, ps, af, g⟩ ((mget ms a).getD z) := by
  intro ρ h w hw
  simp only [execOp, h _ _ hx, h _ _ hy, Sem.run_bind, run_lookup K ht hz (hm w hw) hG ha, Result.andThen_ok, Sem.run_pure]
theorem run_mapUpdate {r : Nat} {ms : List (α × Value)} {a : α} (K : KL P k kv G) (ht : P.underlying t = some (.map k e)) (hm : MapH kv r ms w) (hG : ∀ m ∈ ms, G m.1) (ha : G a) (v : Value) :
    ∃ o, (Instr.mapUpdate t (.map (some r)) (kv a) v).run P w = .ok () (setBlock w r o) ∧ MapH kv r (mput ms a v) (setBlock w r o) := by
  have hlt := hm.lt
  obtain ⟨es, clock, h1, h2, h3, h4⟩ := hm
  have hf := K.find a w ms es.toList ha hG h2
  cases hx : midx ms a 0 with
  | none =>
    rw [hx] at hf
    refine ⟨.map (es.push { key := kv a, val := v, born := clock }) (clock + 1), by simp [Instr.mapUpdate, run_underlying ht, MapKept.run_getObj_map h1, K.chk a w _ ha, hf, MapKept.run_setObj_map _ h1, Result.andThen, setBlock], ?_⟩
    rw [(midx_none hx).2 v]
    refine ⟨_, _, setBlock_at hlt, by simp [h2], ?_, ?_⟩
    · simp only [Array.toList_push, List.map_append, List.map_cons, List.map_nil]
      refine List.pairwise_append.2 ⟨h3, by simp, fun p hp q hq => ?_⟩
      simp only [List.mem_singleton] at hq
      subst hq
      obtain ⟨z, hz, rfl⟩ := List.mem_map.1 hp
      exact h4 z hz
    · intro q hq
      simp only [Array.toList_push, List.mem_append, List.mem_singleton] at hq
      rcases hq with hq | rfl
      · have := h4 q hq; omega
      · exact Nat.lt_succ_self _
  | some p =>
    obtain ⟨j, q⟩ := p
    rw [hx] at hf
    obtain ⟨_, g1, g2, g3⟩ := midx_some hx
    simp only [Nat.sub_zero] at g2 g3
    have hkey : ((es[j]?).map (·.key)).getD (kv a) = kv a := by
      have hi := congrArg (·[j]?) h2
      simp only [List.getElem?_map, g3, Option.map_some, Array.getElem?_toList] at hi
      cases hj : es[j]? with
      | none => rw [hj] at hi; simp at hi
      | some e' =>
        rw [hj] at hi
        simp only [Option.map_some, Option.some.injEq, Prod.mk.injEq] at hi
        simp [hi.1]
    have hks : (Instr.keyThatStays (kv a) (kv a)).run P w = .ok (kv a) w := by simp [Instr.keyThatStays, K.same a ha]
    refine ⟨.map (es.modify j fun e => { e with key := kv a, val := v }) clock, by simp only [Instr.mapUpdate, run_underlying ht, MapKept.run_getObj_map h1, K.chk a w _ ha, hf, Sem.run_bind, Result.andThen_ok, hkey, hks, MapKept.run_setObj_map _ h1, setBlock], ?_⟩
    rw [g2 v]
    have hborn : (es.modify j fun e => { e with key := kv a, val := v }).toList.map (·.born) = es.toList.map (·.born) := by
      rw [Array.toList_modify]
      refine List.ext_getElem? fun i => ?_
      rw [List.getElem?_map, List.getElem?_map, List.getElem?_modify]
      split
      · cases es.toList[i]? <;> simp
      · simp
    refine ⟨_, _, setBlock_at hlt, ?_, ?_, ?_⟩
    · rw [Array.toList_modify]
      exact map_modify h2
    · rw [hborn]; exact h3
    · intro q hq
      have : q.born ∈ (es.modify j fun e => { e with key := kv a, val := v }).toList.map (·.born) := List.mem_map.2 ⟨q, hq, rfl⟩
      rw [hborn] at this
      obtain ⟨q', hq', e⟩ := List.mem_map.1 this
      rw [← e]
      exact h4 q' hq'
theorem st_mapUpdate {r : Nat} {ms : List (α × Value)} {a : α} (hs : St F0 w0 As w) (j : Nat) (hj : As[j]? = some (aMap kv r ms)) (K : KL P k kv G) (ht : P.underlying t = some (.map k e)) (hx : ev l x = some (.map (some r))) (hy : ev l y = some (kv a)) (hc : ev l c = some v) (hG : ∀ m ∈ ms, G m.1) (ha : G a)
    (hJ : ∀ w', Kp (fun k => k = r) w w' → St F0 w0 (As.set j (aMap kv r (mput ms a v))) w' → J undef w') : St1 P l ⟨none, .mapUpdate t x y c, ty, ps, af, g⟩ w J := by
  intro ρ h
  obtain ⟨o, hr, hm⟩ := run_mapUpdate K ht (hs.mp j hj) hG ha v
  simp only [execOp, h _ _ hx, h _ _ hy, h _ _ hc, Sem.run_bind, hr, Result.andThen_ok, Sem.run_pure, SR]
  exact hJ _ Kp.setBlock (hs.upd j hj Kp.setBlock (aMap kv r _) hm fun k e => .inl e)
end
/-! ### Keys -/
theorem sameBits_int (n : Nat) (k : IntKind) (a : Int) : Instr.sameBits n (.int k a) (.int k a) = true := by cases n <;> simp [Instr.sameBits]
theorem checkKey_int {P : Program} {kt : TypeId} {k k2 : IntKind} (ht : P.underlying kt = some (.int k)) (n : Nat) {e : Bool} {a : Int} {w : World} : (Instr.checkKey e (n + 1) kt (.int k2 a)).run P w = .ok () w := by simp [Instr.checkKey, run_underlying ht]
theorem KL_int {P : Program} {kt : TypeId} (ht : P.underlying kt = some (.int .i64)) : KL P kt (fun a : Int => .int .i64 a) (fun _ => True) where
  chk a w e _ := checkKey_int ht 9999
  find a w ms es _ _ he := by
    have key : ∀ (ms : List (Int × Value)) (es : List MapEntry) (i : Nat), es.map (fun e => (e.key, e.val)) = ms.map (fun m => ((Value.int .i64 m.1 : Value), m.2)) → Instr.findNow (.int .i64) (.int .i64 a) es i = some (midx ms a i) := by
      intro ms
      induction ms with
      | nil => intro es i h; have : es = [] := by simpa using h
               subst this; rfl
      | cons m ms ih =>
        intro es i h
        cases es with
        | nil => simp at h
        | cons e es =>
          simp only [List.map_cons, List.cons.injEq, Prod.mk.injEq] at h
          obtain ⟨⟨h1, h2⟩, h3⟩ := h
          simp only [Instr.findNow, h1, Instr.sameNow, if_true, midx, h2]
          by_cases hb : a = m.1
          · subst hb
            have : (m.1 == m.1) = true := by simp
            rw [this]
            simp
          · have hf : (a == m.1) = false := by simpa using hb
            rw [hf]
            simp only [if_neg hb]
            exact ih es (i + 1) h3
    simp only [Instr.findKey, Sem.run_bind, run_underlying ht, Result.andThen_ok, key ms es 0 he, Sem.run_pure]
  same a _ := sameBits_int 10000 _ _
end Go.Proofs.Ytdpbfdjpeofbmaa.L
