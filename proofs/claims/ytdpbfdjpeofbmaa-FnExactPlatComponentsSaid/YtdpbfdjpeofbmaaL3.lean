/- The light logic, part 3: memory. -/
import Derived.Test.YtdpbfdjpeofbmaaL2
import Derived.Laws.OwnMore
import Derived.Laws.MakeOwn
namespace Go.Proofs.Ytdpbfdjpeofbmaa.L
set_option linter.unusedVariables false
open Go.RowKit

/-! ### What is kept -/
/-- Of what was there, only blocks of F may have turned. -/
structure Kp (F : Nat → Prop) (w w' : World) : Prop where
  os : w'.os = w.os
  tape : w'.tape = w.tape
  output : w'.output = w.output
  size : w.heap.size ≤ w'.heap.size
  block : ∀ k, k < w.heap.size → ¬ F k → w'.heap[k]? = w.heap[k]?
abbrev no : Nat → Prop := fun _ => False
theorem Kp.refl (F : Nat → Prop) (w : World) : Kp F w w := ⟨rfl, rfl, rfl, Nat.le_refl _, fun _ _ _ => rfl⟩
theorem Kp.mono {F F' : Nat → Prop} {w w' : World} (h : Kp F w w') (hf : ∀ k, k < w.heap.size → F k → F' k) : Kp F' w w' := ⟨h.os, h.tape, h.output, h.size, fun k hk hn => h.block k hk (fun e => hn (hf k hk e))⟩
theorem Kp.of_no {F : Nat → Prop} {w w' : World} (h : Kp no w w') : Kp F w w' := h.mono (fun _ _ h => h.elim)
theorem Kp.trans {F G : Nat → Prop} {a b c : World} (h : Kp F a b) (k : Kp G b c) (hg : ∀ i, i < a.heap.size → G i → F i) : Kp F a c :=
  ⟨k.os.trans h.os, k.tape.trans h.tape, k.output.trans h.output, Nat.le_trans h.size k.size,
    fun i hi hn => (k.block i (Nat.lt_of_lt_of_le hi h.size) (fun e => hn (hg i hi e))).trans (h.block i hi hn)⟩
theorem Kp.next {F : Nat → Prop} {a b c : World} (h : Kp F a b) (k : Kp no b c) : Kp F a c := h.trans k (fun _ _ h => h.elim)
theorem Kp.below {w w' : World} (h : Kp no w w') : Below w.heap.size w w' := ⟨h.os, h.tape, h.output, h.size, fun k hk => h.block k hk id⟩
theorem Kp.of_below {w w' : World} (h : Below w.heap.size w w') : Kp no w w' := ⟨h.os, h.tape, h.output, h.size, fun k hk _ => h.block k hk⟩
theorem Kp.grown {w w' : World} {row : Option Nat} (h : w.grownBy w' row) : Kp (fun k => some k = row) w w' := ⟨h.os, h.tape, h.output, h.size, fun k hk hn => h.block k hk hn⟩
theorem Kp.cell {F : Nat → Prop} {w w' : World} (h : Kp F w w') {a : Addr} {v : Value} (hc : w.cell? a = some v) (hf : ¬ F a.block) : w'.cell? a = some v :=
  (World.cell?_of_block (h.block a.block (World.block_lt_of_cell? w a hc) hf)).trans hc
theorem Kp.drew (w : World) : Kp no w { w with drawn := w.drawn + 1 } := ⟨rfl, rfl, rfl, Nat.le_refl _, fun _ _ _ => rfl⟩

/-! ### Blocks -/
/-- Block b holds just these cells. -/
def Bk (w : World) (b : Nat) (e : TypeId) (cs : List Value) : Prop := w.heap[b]? = some (.cells cs.toArray e (0, 0))
theorem Bk.lt {w : World} {b : Nat} {e : TypeId} {cs : List Value} (h : Bk w b e cs) : b < w.heap.size := (Array.getElem?_eq_some_iff.1 h).1
theorem Bk.keep {F : Nat → Prop} {w w' : World} {b : Nat} {e : TypeId} {cs : List Value} (h : Bk w b e cs) (hk : Kp F w w') (hf : ¬ F b) : Bk w' b e cs := (hk.block b h.lt hf).trans h
theorem Bk.cell {w : World} {b : Nat} {e : TypeId} {cs : List Value} (h : Bk w b e cs) {i : Nat} {v : Value} (hi : cs[i]? = some v) : w.cell? ⟨b, i, none⟩ = some v := by
  rw [cell_of_row w b i _ e _ h]; simpa using hi
theorem Kp.cells {F : Nat → Prop} {w w' : World} (h : Kp F w w') {a : Addr} {cs : List Value} (hc : ∀ j v, cs[j]? = some v → w.cell? (a.add j) = some v) (hf : ¬ F a.block) : ∀ j v, cs[j]? = some v → w'.cell? (a.add j) = some v := fun j v hj =>
  h.cell (hc j v hj) (by rw [show (a.add j).block = a.block from by unfold Addr.add; split <;> rfl]; exact hf)
theorem add_zero' (b i : Nat) : (⟨b, 0, none⟩ : Addr).add i = ⟨b, i, none⟩ := by unfold Addr.add; split <;> simp_all
theorem add_lit' (b o i : Nat) : (⟨b, o, none⟩ : Addr).add i = ⟨b, o + i, none⟩ := by unfold Addr.add; split <;> simp_all
theorem Bk.cells {w : World} {b : Nat} {e : TypeId} {cs : List Value} (h : Bk w b e cs) : ∀ j v, cs[j]? = some v → w.cell? ((⟨b, 0, none⟩ : Addr).add j) = some v := fun j v hj => by rw [add_zero']; exact h.cell hj
/-- A slice (or nil) with n elements of sz cells each reads as these cells. -/
def Rs (w : World) (sz : Nat) (v : Value) (n : Nat) (vs : List Value) : Prop :=
  ∃ A c, v = .slice A n c ∧ n ≤ c ∧ vs.length = n * sz ∧ ∀ j u, vs[j]? = some u → ∃ a, A = some a ∧ w.cell? (a.add j) = some u
theorem add_block' (a : Addr) (i : Nat) : (a.add i).block = a.block := by unfold Addr.add; split <;> rfl
theorem Rs.keep {w w' : World} {sz : Nat} {v : Value} {n : Nat} {vs : List Value} (h : Rs w sz v n vs) (hk : Kp no w w') : Rs w' sz v n vs := by
  obtain ⟨A, c, e, hc, hl, hr⟩ := h
  refine ⟨A, c, e, hc, hl, fun j u hj => ?_⟩
  obtain ⟨a, ha, hcell⟩ := hr j u hj
  exact ⟨a, ha, hk.cell hcell id⟩
/-- A slice of one's own. -/
def Ow (w : World) (e : TypeId) (sz : Nat) (v : Value) (n : Nat) (vs : List Value) : Prop := w.ownsRow 0 e sz v n vs
theorem Ow.nil (w : World) (e : TypeId) (sz : Nat) : Ow w e sz (.slice none 0 0) 0 [] := ⟨by simp, .inl ⟨rfl, rfl⟩⟩
theorem Ow.rs {w : World} {e : TypeId} {sz : Nat} {v : Value} {n : Nat} {vs : List Value} (h : Ow w e sz v n vs) : Rs w sz v n vs := by
  obtain ⟨hl, h2⟩ := h
  rcases h2 with ⟨rfl, rfl⟩ | ⟨g, cap, cur, rfl, hb, hg, hc, hm, hs, ht⟩
  · refine ⟨none, 0, rfl, Nat.le_refl _, hl, fun j u hj => ?_⟩
    simp at hl
    subst hl
    simp at hj
  · refine ⟨some ⟨g, 0, none⟩, cap, rfl, hc, hl, fun j u hj => ⟨_, rfl, ?_⟩⟩
    rw [add_zero', cell_of_row w g j _ e _ hg]
    subst ht
    rw [List.getElem?_take] at hj
    split at hj
    · simpa using hj
    · cases hj
theorem Ow.lt {w : World} {e : TypeId} {sz : Nat} {v : Value} {n : Nat} {vs : List Value} (h : Ow w e sz v n vs) {b : Nat} (hb : v.ownBlock = some b) : b < w.heap.size := (World.ownsRow.lt h b hb).2
theorem Ow.keep {F : Nat → Prop} {w w' : World} {e : TypeId} {sz : Nat} {v : Value} {n : Nat} {vs : List Value} (h : Ow w e sz v n vs) (hk : Kp F w w') (hf : ∀ b, v.ownBlock = some b → ¬ F b) : Ow w' e sz v n vs := by
  refine ⟨h.1, ?_⟩
  rcases h.2 with hn | ⟨g, cap, cur, rfl, hb, hgg, rest⟩
  · exact .inl hn
  · refine .inr ⟨g, cap, cur, rfl, hb, ?_, rest⟩
    rw [hk.block g (Array.getElem?_eq_some_iff.1 hgg).1 (hf g rfl)]
    exact hgg
theorem Ow.length {w : World} {e : TypeId} {sz : Nat} {v : Value} {n : Nat} {vs : List Value} (h : Ow w e sz v n vs) : vs.length = n * sz := h.1
theorem Ow.slice {w : World} {e : TypeId} {sz : Nat} {v : Value} {n : Nat} {vs : List Value} (h : Ow w e sz v n vs) : (v = .slice none 0 0 ∧ n = 0) ∨ ∃ g c, v = .slice (some ⟨g, 0, none⟩) n c ∧ n ≤ c := by
  rcases h.2 with hn | ⟨g, cap, cur, rfl, hb, hgg, hc, rest⟩
  · exact .inl hn
  · exact .inr ⟨g, cap, rfl, hc⟩

/-! ### Running -/
section
variable {P : Program} {l : Env} {d : Option Tmp} {ty : TypeId} {ps : String} {af : Array Edge} {g : Option (Nat × Bool)} {x y c : Operand} {v u : Value} {t : TypeId} {w : World} {J : Value → World → Prop} {I : World → Prop}
def flat : TypeDesc → Bool
  | .struct _ | .array _ _ => false
  | _ => true
theorem pi_load {A : Addr} {dsc : TypeDesc} (ht : P.underlying t = some dsc) (hf : flat dsc = true) (hx : ev l x = some (.pointer (some A))) (hc : ∀ w, I w → w.cell? A = some v) : PuI P I l ⟨d, .load t x, ty, ps, af, g⟩ v := by
  intro ρ h w hw
  have hc' := hc w hw
  cases dsc <;> first
    | (simp [flat] at hf; done)
    | simp [execOp, h _ _ hx, Instr.loadAt, Instr.sureAddr, loadVar, isAgg, run_underlying ht, hc']
theorem pi_loadAgg {A : Addr} {dsc : TypeDesc} {s by' : Nat} {z : Value} {cs : List Value} (ht : P.underlying t = some dsc) (hf : flat dsc = false) (hz : Ty P t s by' z) (hx : ev l x = some (.pointer (some A)))
    (hc : ∀ w, I w → ∀ j v, cs[j]? = some v → w.cell? (A.add j) = some v) (hl : cs.length = s) : PuI P I l ⟨d, .load t x, ty, ps, af, g⟩ (.agg cs.toArray) := by
  intro ρ h w hw
  obtain ⟨i, hi, rfl, _⟩ := hz.out
  have hr := run_loadCells_list (P := P) w A cs (hc w hw)
  rw [hl] at hr
  cases dsc <;> first
    | (simp [flat] at hf; done)
    | simp [execOp, h _ _ hx, Instr.loadAt, Instr.sureAddr, loadVar, isAgg, run_underlying ht, sizeOf, typeInfo, hi, hr]
theorem pi_st (h : PuI P I l ⟨d, .load t x, ty, ps, af, g⟩ v) (hI : I w) (hj : J v w) : St1 P l ⟨d, .load t x, ty, ps, af, g⟩ w J := fun ρ hρ => by rw [h ρ hρ w hI]; exact hj
theorem oneCell_cells {v : Value} (h : v.oneCell' = true) : v.cells = #[v] := by cases v <;> simp_all [Value.oneCell', Value.cells]

/-- What is told of a world in which block b has other cells. -/
theorem Kp.setRow {w : World} {b : Nat} {cs : Array Value} : Kp (fun k => k = b) w (w.setRow b cs) :=
  ⟨rfl, rfl, rfl, by simp, fun k hk hn => setRow_other w b k cs hn⟩
theorem run_storeVar {P : Program} {w : World} {t : TypeId} {s by' : Nat} {z : Value} (hz : Ty P t s by' z) {b o : Nat} {e : TypeId} {cur : Array Value} {v : Value} (hb : w.heap[b]? = some (.cells cur e (0, 0))) (hl : v.cells.size = s) (hfit : o + s ≤ cur.size)
    (h1 : ∀ u ∈ v.cells.toList, u.oneCell' = true) :
    (storeVar t ⟨b, o, none⟩ v).run P w = .ok () (w.setRow b (cur.toList.take o ++ v.cells.toList ++ cur.toList.drop (o + s)).toArray) := by
  obtain ⟨i, hi, rfl, _⟩ := hz.out
  have hst := run_storeCells_at P b o e v.cells.toList 0 cur w hb (by simpa [hl] using hfit) h1
  simp only [Nat.add_zero, Array.length_toList, hl] at hst
  simp [storeVar, sizeOf, typeInfo, hi, hl, hst]
/-- A store into a block of known cells. -/
theorem st_store {s by' : Nat} {z : Value} {b o : Nat} {e : TypeId} {cs : List Value} (hz : Ty P t s by' z) (hx : ev l x = some (.pointer (some ⟨b, o, none⟩))) (hy : ev l y = some v) (hb : Bk w b e cs) (hl : v.cells.size = s) (hfit : o + s ≤ cs.length)
    (h1 : ∀ u ∈ v.cells.toList, u.oneCell' = true) (hj : ∀ w', Kp (fun k => k = b) w w' → Bk w' b e (cs.take o ++ v.cells.toList ++ cs.drop (o + s)) → J undef w') : St1 P l ⟨none, .store t x y, ty, ps, af, g⟩ w J := by
  intro ρ h
  have hr := run_storeVar (w := w) hz hb hl (by simpa using hfit) h1
  simp only [execOp, h _ _ hx, h _ _ hy, Instr.storeAt, Instr.sureAddr, Sem.run_bind, Sem.run_pure, Result.andThen_ok, hr, SR]
  exact hj _ Kp.setRow (setRow_heap w b _ _ e _ hb)
/-- A store of one cell into a block of known cells. -/
theorem st_store1 {by' : Nat} {z : Value} {b o : Nat} {e : TypeId} {cs : List Value} (hz : Ty P t 1 by' z) (hx : ev l x = some (.pointer (some ⟨b, o, none⟩))) (hy : ev l y = some v) (hb : Bk w b e cs) (h1 : v.oneCell' = true) (hfit : o < cs.length)
    (hj : ∀ w', Kp (fun k => k = b) w w' → Bk w' b e (cs.set o v) → J undef w') : St1 P l ⟨none, .store t x y, ty, ps, af, g⟩ w J := by
  refine st_store hz hx hy hb (by simp [oneCell_cells h1]) (by omega) (by simp [oneCell_cells h1, h1]) fun w' hk hb' => hj w' hk ?_
  rw [oneCell_cells h1] at hb'
  rw [List.set_eq_take_append_cons_drop, if_pos hfit]
  simpa using hb'
/-- A store of one cell into a slice of one's own. -/
theorem st_storeO {by' : Nat} {z : Value} {b o : Nat} {e : TypeId} {n c sz : Nat} {vs : List Value} (hz : Ty P t 1 by' z) (hx : ev l x = some (.pointer (some ⟨b, o, none⟩))) (hy : ev l y = some v) (hO : Ow w e sz (.slice (some ⟨b, 0, none⟩) n c) n vs) (h1 : v.oneCell' = true)
    (hfit : o < vs.length) (hj : ∀ w', Kp (fun k => k = b) w w' → Ow w' e sz (.slice (some ⟨b, 0, none⟩) n c) n (vs.set o v) → J undef w') : St1 P l ⟨none, .store t x y, ty, ps, af, g⟩ w J := by
  intro ρ h
  rcases hO.2 with ⟨e0, _⟩ | ⟨g', cap, cur, e1, _, hb, hc, hm, hs, ht⟩
  · cases e0
  obtain ⟨rfl, rfl⟩ : b = g' ∧ c = cap := by simpa using e1
  have hlen := hO.1
  have hle : n * sz ≤ cur.size := by rw [hs]; exact Nat.mul_le_mul_right _ hc
  have hfit' : o + 1 ≤ cur.size := by omega
  have hr := run_storeVar (w := w) (v := v) hz hb (by simp [oneCell_cells h1]) hfit' (by simp [oneCell_cells h1, h1])
  simp only [execOp, h _ _ hx, h _ _ hy, Instr.storeAt, Instr.sureAddr, Sem.run_bind, Sem.run_pure, Result.andThen_ok, hr, SR]
  refine hj _ Kp.setRow ⟨by simpa using hlen, .inr ⟨b, c, _, rfl, Nat.zero_le _, setRow_heap w b _ _ e _ hb, hc, hm, ?_, ?_⟩⟩
  · simp [oneCell_cells h1]; omega
  · have e2 : cur.toList.take o ++ (v.cells).toList ++ cur.toList.drop (o + 1) = cur.toList.set o v := by
      rw [List.set_eq_take_append_cons_drop, if_pos (by simp; omega), oneCell_cells h1]; simp
    rw [e2]
    simp only [List.take_set, ht]
/-- A store of an element of several cells into a slice of one's own. -/
theorem st_storeOs {by' : Nat} {z : Value} {b o : Nat} {e : TypeId} {n c sz s : Nat} {vs : List Value} (hz : Ty P t s by' z) (hx : ev l x = some (.pointer (some ⟨b, o, none⟩))) (hy : ev l y = some v) (hO : Ow w e sz (.slice (some ⟨b, 0, none⟩) n c) n vs)
    (hl : v.cells.size = s) (h1 : ∀ u ∈ v.cells.toList, u.oneCell' = true)
    (hfit : o + s ≤ vs.length) (hj : ∀ w', Kp (fun k => k = b) w w' → Ow w' e sz (.slice (some ⟨b, 0, none⟩) n c) n (vs.take o ++ v.cells.toList ++ vs.drop (o + s)) → J undef w') : St1 P l ⟨none, .store t x y, ty, ps, af, g⟩ w J := by
  intro ρ h
  rcases hO.2 with ⟨e0, _⟩ | ⟨g', cap, cur, e1, _, hb, hc, hm, hs, ht⟩
  · cases e0
  obtain ⟨rfl, rfl⟩ : b = g' ∧ c = cap := by simpa using e1
  have hlen := hO.1
  have hle : n * sz ≤ cur.size := by rw [hs]; exact Nat.mul_le_mul_right _ hc
  have hfit' : o + s ≤ cur.size := by omega
  have hr := run_storeVar (w := w) hz hb hl hfit' h1
  simp only [execOp, h _ _ hx, h _ _ hy, Instr.storeAt, Instr.sureAddr, Sem.run_bind, Sem.run_pure, Result.andThen_ok, hr, SR]
  refine hj _ Kp.setRow ⟨?_, .inr ⟨b, c, _, rfl, Nat.zero_le _, setRow_heap w b _ _ e _ hb, hc, hm, ?_, ?_⟩⟩
  · simp [hl]; omega
  · simp [hl]; omega
  · have hlv : v.cells.toList.length = s := by simpa using hl
    rw [← ht]
    rw [List.append_assoc, List.append_assoc, List.take_append, List.take_append, List.take_take, List.drop_take]
    simp only [List.length_take, Array.length_toList, hlv]
    rw [show n * sz - min o cur.size = n * sz - o from by omega, show n * sz - o - s = n * sz - (o + s) from by omega,
      List.take_of_length_le (l := v.cells.toList) (by omega), List.take_take]
    simp only [show min (n * sz) o = o from by omega, show min o (n * sz) = o from by omega]

/-- A result that lies in memory. -/
theorem rv_cell {l : Env} {t : Nat} {ty : TypeId} {b : Nat} {e : TypeId} {cs : List Value} {dsc : TypeDesc} {s by' : Nat} {z : Value} (ht : P.underlying ty = some dsc) (hf : flat dsc = false) (hz : Ty P ty s by' z) (h : look l t = some (.pointer (some ⟨b, 0, none⟩)))
    (hb : Bk w b e cs) (hl : cs.length = s) : RV P l w (.cell t ty) (.agg cs.toArray) := by
  refine .cell h ?_
  obtain ⟨i, hi, rfl, _⟩ := hz.out
  have hr := run_loadCells_list (P := P) w ⟨b, 0, none⟩ cs hb.cells
  rw [hl] at hr
  cases dsc <;> first
    | (simp [flat] at hf; done)
    | simp [loadVar, isAgg, run_underlying ht, sizeOf, typeInfo, hi, hr]
theorem rv_cell1 {l : Env} {t : Nat} {ty : TypeId} {b : Nat} {e : TypeId} {v : Value} {dsc : TypeDesc} (ht : P.underlying ty = some dsc) (hf : flat dsc = true) (h : look l t = some (.pointer (some ⟨b, 0, none⟩)))
    (hb : Bk w b e [v]) : RV P l w (.cell t ty) v := by
  refine .cell h ?_
  have hc := hb.cell (i := 0) rfl
  cases dsc <;> first
    | (simp [flat] at hf; done)
    | simp [loadVar, isAgg, run_underlying ht, hc]
/-- A new variable. -/
theorem Bk.new (w : World) (o : Array Value) (e : TypeId) : Bk { w with heap := w.heap.push (.cells o e) } w.heap.size e o.toList := by
  unfold Bk; simp
theorem Kp.push (w : World) (o : Obj) : Kp no w { w with heap := w.heap.push o } := ⟨rfl, rfl, rfl, by simp, fun k hk _ => by simp [Array.getElem?_push, Nat.ne_of_lt hk]⟩
theorem st_alloc {s by' : Nat} {z : Value} (hz : Ty P t s by' z) (hj : ∀ w' b, Kp no w w' → w.heap.size ≤ b → Bk w' b t z.cells.toList → J (.pointer (some ⟨b, 0, none⟩)) w') : St1 P l ⟨d, .alloc t, ty, ps, af, g⟩ w J := by
  intro ρ h
  obtain ⟨i, hi, _, _, h0⟩ := hz.out
  simp [execOp, Instr.alloc, zeroValue, typeInfo, hi, h0, newVar, newRow, SR]
  exact hj _ _ (Kp.push _ _) (Nat.le_refl _) (Bk.new _ _ _)
theorem st_box (hx : ev l x = some v) (hj : ∀ w' b, Kp no w w' → w.heap.size ≤ b → Bk w' b t v.cells.toList → J (.pointer (some ⟨b, 0, none⟩)) w') : St1 P l ⟨d, .box t x, ty, ps, af, g⟩ w J := by
  intro ρ h
  simp [execOp, Instr.box, h _ _ hx, newVar, newRow, SR]
  exact hj _ _ (Kp.push _ _) (Nat.le_refl _) (Bk.new _ _ _)
end
end Go.Proofs.Ytdpbfdjpeofbmaa.L
