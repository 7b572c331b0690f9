/- The light logic, part 4: what makes memory, appends, cuts, calls. -/
import Derived.Test.YtdpbfdjpeofbmaaL3
namespace Go.Proofs.Ytdpbfdjpeofbmaa.L
set_option linter.unusedVariables false
open Go.RowKit
section
variable {P : Program} {l : Env} {d : Option Tmp} {ty : TypeId} {ps : String} {af : Array Edge} {g : Option (Nat × Bool)} {x y c : Operand} {v u : Value} {t : TypeId} {w : World} {J : Value → World → Prop} {I : World → Prop}

/-- A block that is the value's own, or was not there before. -/
def Fresh (w w' : World) (b : Nat) : Prop := w.heap.size ≤ b ∧ b < w'.heap.size
theorem run_append_ow (w : World) (t ty e : TypeId) (z : Value) (size bytes : Nat) (ht : P.underlying t = some (.slice e)) (hty : Ty P e size bytes z)
    (hzs : z.cells.size = size) (hsz : 0 < size) (v : Value) (n : Nat) (xs : List Value) (hown : Ow w e size v n xs)
    (x : Value) (m : Nat) (news : List Value) (hx : Rs w size x m news) (h1 : ∀ u ∈ news, u.oneCell' = true)
    (hbytes : (n + m) * bytes ≤ 140737488355328) (h63 : n + m ≤ maxLen) :
    ∃ v' w', (Builtin.append_ #[t, t] ty #[v, x]).run P w = .ok v' w' ∧ Ow w' e size v' (n + m) (xs ++ news) ∧ Kp (fun k => v.ownBlock = some k) w w' ∧
      (∀ b, v'.ownBlock = some b → v.ownBlock = some b ∨ Fresh w w' b) := by
  obtain ⟨i, hi, hsize, hby, hz⟩ := hty.out
  obtain ⟨A, c, rfl, hmc, hl, hr⟩ := hx
  have hsmall : n + m ≤ 9223372036854775807 := by simp only [maxLen] at h63; omega
  by_cases hm : m = 0
  · subst hm
    have hn : news = [] := List.eq_nil_of_length_eq_zero (by simpa using hl)
    subst hn
    refine ⟨v, w, ?_, by simpa using hown, Kp.refl _ _, fun b hb => .inl hb⟩
    subst hsize
    rcases hown.2 with ⟨rfl, rfl⟩ | ⟨g, cap, cur, rfl, _, hg, hnc, hcm, hcs, htk⟩
    · cases A <;> simp [Builtin.append_, run_underlying ht, sizeOf, typeInfo, hi, Builtin.lenOf, Builtin.firstCells, loadCells, loadCellsFrom]
    · cases A <;> simp [Builtin.append_, run_underlying ht, sizeOf, typeInfo, hi, Builtin.lenOf, Builtin.firstCells, loadCells, loadCellsFrom, hnc, storeCells]
  · have hlpos : 0 < news.length := by rw [hl]; exact Nat.mul_pos (by omega) hsz
    obtain ⟨a, rfl, _⟩ := hr 0 news[0] (by simp)
    have hnews : ∀ j u, news[j]? = some u → w.cell? (a.add j) = some u := fun j u hj => by
      obtain ⟨a', e1, h'⟩ := hr j u hj
      cases e1
      exact h'
    obtain ⟨v', w', hrun, ho, hg, hnil⟩ := run_append_own (P := P) w 0 t ty e i z size bytes ht hi hz hsize hby hzs hsz v n xs hown a m c news hl hnews h1 h63 hbytes (Nat.zero_le _)
    refine ⟨v', w', hrun, ho, ⟨hg.os, hg.tape, hg.output, hg.size, fun k hk hn => hg.block k hk (fun e => hn e.symm)⟩, fun b hb => ?_⟩
    -- which block it is: again by the two ways
    subst hsize
    subst hby
    rcases hown.2 with ⟨rfl, rfl⟩ | ⟨g, cap, cur, rfl, hbg, hgg, hnc, hcm, hcs, htake⟩
    · have hx : xs = [] := List.eq_nil_of_length_eq_zero (by simpa using hown.1)
      subst hx
      have hr2 := run_append_nil (P := P) w t ty e i z ht hi hz a m c news hl hnews (by omega) (by omega) (by have hb := hbytes; simp only [Nat.zero_add] at hb; omega)
      rw [hr2] at hrun
      simp only [Result.ok.injEq] at hrun
      obtain ⟨e1, e2⟩ := hrun
      subst e1
      simp only [Value.ownBlock, Option.some.injEq] at hb
      subst hb
      exact .inr ⟨Nat.le_refl _, (World.ownsRow.lt ho _ rfl).2⟩
    · by_cases hroom : n + m ≤ cap
      · obtain ⟨w2, hr2, _⟩ := run_append_fits (P := P) w 0 t ty e i i.size ht hi rfl g n cap xs hown a m c news hl hnews h1 hroom
        rw [hr2] at hrun
        simp only [Result.ok.injEq] at hrun
        obtain ⟨e1, e2⟩ := hrun
        subst e1
        exact .inl hb
      · have holds : ∀ j u, xs[j]? = some u → w.cell? ((⟨g, 0, none⟩ : Addr).add j) = some u := World.ownsRow.cells hown (g := g) rfl
        have hr2 := run_append_grow (P := P) w t ty e i z ht hi hz ⟨g, 0, none⟩ n cap xs hown.1 holds a m c news hl hnews (by omega) (by omega) (growslice_fits (by omega) hbytes)
        rw [hr2] at hrun
        simp only [Result.ok.injEq] at hrun
        obtain ⟨e1, e2⟩ := hrun
        subst e1
        simp only [Value.ownBlock, Option.some.injEq] at hb
        subst hb
        exact .inr ⟨Nat.le_refl _, (World.ownsRow.lt ho _ rfl).2⟩

theorem st_append {e : TypeId} {z : Value} {size bytes n m : Nat} {xs news : List Value} (ht : P.underlying t = some (.slice e)) (hty : Ty P e size bytes z) (hzs : z.cells.size = size) (hsz : Nat.blt 0 size = true)
    (hx : ev l x = some v) (hy : ev l y = some u) (hown : Ow w e size v n xs) (hu : Rs w size u m news) (h1 : ∀ u ∈ news, u.oneCell' = true) (hbytes : (n + m) * bytes ≤ 140737488355328) (h63 : n + m ≤ maxLen)
    (hj : ∀ v' w', Ow w' e size v' (n + m) (xs ++ news) → Kp (fun k => v.ownBlock = some k) w w' → (∀ b, v'.ownBlock = some b → v.ownBlock = some b ∨ Fresh w w' b) → J v' w') :
    St1 P l ⟨d, .call { callee := .builtin .append, args := #[x, y], argTypes := #[t, t] }, ty, ps, af, g⟩ w J := by
  intro ρ h
  obtain ⟨v', w', hr, h2, h3, h4⟩ := run_append_ow (P := P) w t ty e z size bytes ht hty hzs (by simpa [Nat.blt_eq] using hsz) v n xs hown u m news hu h1 hbytes h63
  simp only [execOp, resolve, invoke, builtin, Sem.run_bind, Sem.run_pure, Result.andThen_ok, List.map_toArray, List.map_cons, List.map_nil, h _ _ hx, h _ _ hy, hr, SR]
  exact hj v' w' h2 h3 h4

theorem st_makeSlice {e : TypeId} {z : Value} {size bytes n : Nat} {kl kc : IntKind} (ht : P.underlying t = some (.slice e)) (hty : Ty P e size bytes z) (hx : ev l x = some (.int kl n)) (hy : ev l y = some (.int kc n)) (hbytes : bytes * n ≤ 281474976710656) (h63 : n ≤ maxLen)
    (hj : ∀ b w', w.heap.size ≤ b → Kp no w w' → Ow w' e size (.slice (some ⟨b, 0, none⟩) n n) n (madeCells z.cells (n * size)).toList → J (.slice (some ⟨b, 0, none⟩) n n) w') :
    St1 P l ⟨d, .makeSlice t x y, ty, ps, af, g⟩ w J := by
  intro ρ h
  obtain ⟨i, hi, hs, hb, hz⟩ := hty.out
  subst hb
  obtain ⟨w', hr, ho, hg⟩ := run_make_full (P := P) w 0 t e i z size ht hi hz hs kl kc n hbytes h63 (Nat.zero_le _)
  simp only [execOp, h _ _ hx, h _ _ hy, Sem.run_bind, Sem.run_pure, Result.andThen_ok, hr, SR]
  exact hj _ _ (Nat.le_refl _) ⟨hg.os, hg.tape, hg.output, hg.size, fun k hk _ => hg.block k hk (by simp)⟩ ho

/-- The operands of a list of parts. -/
def evp (l : Env) : List (Nat × Operand) → Option (List (Nat × Value))
  | [] => some []
  | (i, x) :: r => match ev l x, evp l r with
    | some v, some vs => some ((i, v) :: vs)
    | _, _ => none
theorem evp_map {ρ : Operand → Value} (h : ∀ x u, ev l x = some u → ρ x = u) : ∀ {ps : List (Nat × Operand)} {vs : List (Nat × Value)}, evp l ps = some vs → ps.map (fun (i, x) => (i, ρ x)) = vs
  | [], vs, hx => by simp [evp] at hx; subst hx; rfl
  | (i, x) :: r, vs, hx => by
    simp only [evp] at hx
    cases h1 : ev l x with
    | none => rw [h1] at hx; simp at hx
    | some v =>
      cases h2 : evp l r with
      | none => rw [h1, h2] at hx; simp at hx
      | some us =>
        rw [h1, h2] at hx
        simp only [Option.some.injEq] at hx
        subst hx
        simp only [List.map_cons, h _ _ h1, evp_map h h2]
theorem evs_map {ρ : Operand → Value} (h : ∀ x u, ev l x = some u → ρ x = u) : ∀ {xs : List Operand} {vs : List Value}, evs l xs = some vs → xs.map ρ = vs
  | [], vs, hx => by simp [evs] at hx; subst hx; rfl
  | x :: r, vs, hx => by
    simp only [evs] at hx
    cases h1 : ev l x with
    | none => rw [h1] at hx; simp at hx
    | some v =>
      cases h2 : evs l r with
      | none => rw [h1, h2] at hx; simp at hx
      | some us =>
        rw [h1, h2] at hx
        simp only [Option.some.injEq] at hx
        subst hx
        simp only [List.map_cons, h _ _ h1, evs_map h h2]
theorem pu_build {parts : List (Nat × Operand)} {vs : List (Nat × Value)} (hp : evp l parts = some vs) (hr : ∀ w, (Instr.build t vs.toArray).run P w = .ok v w) : Pu P l ⟨d, .build t parts.toArray, ty, ps, af, g⟩ v := by
  intro ρ h w
  have hm := evp_map h hp
  have : (parts.toArray.map fun (i, x) => (i, ρ x)) = vs.toArray := by rw [← hm]; simp
  simp only [execOp, this, Sem.run_bind, hr, Result.andThen_ok, Sem.run_pure]
theorem st_buildSlice {e : TypeId} {n size : Nat} {cs : List Value} {parts : List (Nat × Operand)} {vs : List (Nat × Value)} (hp : evp l parts = some vs)
    (hr : ∀ w, (Instr.buildSlice t n vs.toArray).run P w = .ok (.slice (some ⟨w.heap.size, 0, none⟩) n n) { w with heap := w.heap.push (.cells cs.toArray e) }) (hl : cs.length = n * size) (hn : n ≤ maxLen)
    (hj : ∀ b w', w.heap.size ≤ b → Kp no w w' → Ow w' e size (.slice (some ⟨b, 0, none⟩) n n) n cs → J (.slice (some ⟨b, 0, none⟩) n n) w') :
    St1 P l ⟨d, .buildSlice t n parts.toArray, ty, ps, af, g⟩ w J := by
  intro ρ h
  have hm := evp_map h hp
  have : (parts.toArray.map fun (i, x) => (i, ρ x)) = vs.toArray := by rw [← hm]; simp
  simp only [execOp, this, Sem.run_bind, hr, Result.andThen_ok, Sem.run_pure, SR]
  have ho := World.ownsRow_lit (base := 0) (e := e) (size := size) w cs.toArray n (Nat.zero_le _) hn (by simpa using hl)
  exact hj _ _ (Nat.le_refl _) (Kp.push _ _) ho
/-- xs[lo:hi] of a slice. -/
theorem pu_cut {A : Option Addr} {n c e : Nat} {size bytes : Nat} {z : Value} {kl kh : IntKind} {lo hi : Nat} {c' : Operand} (ht : P.underlying t = some (.slice e)) (hty : Ty P e size bytes z) (hx : ev l x = some (.slice A n c)) (hlo : ev l y = some (.int kl lo)) (hhi : ev l c' = some (.int kh hi))
    (h1 : lo ≤ hi) (h2 : hi ≤ c) :
    Pu P l ⟨d, .slice t x (some y) (some c') none, ty, ps, af, g⟩ (.slice (if c = lo then A else A.map (·.add (lo * size))) (hi - lo) (c - lo)) := by
  intro ρ h w
  obtain ⟨i, hi', rfl, _⟩ := hty.out
  simp [execOp, h _ _ hx, h _ _ hlo, h _ _ hhi, Instr.sliceAt, Instr.slice, run_underlying ht, Instr.sliceBounds, Instr.sliceBound, asIntOf, sizeOf, typeInfo, hi', h1, h2]
theorem pu_cut_hi {A : Option Addr} {n c e : Nat} {size bytes : Nat} {z : Value} {kh : IntKind} {hi : Nat} (ht : P.underlying t = some (.slice e)) (hty : Ty P e size bytes z) (hx : ev l x = some (.slice A n c)) (hhi : ev l y = some (.int kh hi))
    (h2 : hi ≤ c) :
    Pu P l ⟨d, .slice t x none (some y) none, ty, ps, af, g⟩ (.slice (if c = 0 then A else A.map (·.add (0 * size))) hi c) := by
  intro ρ h w
  obtain ⟨i, hi', rfl, _⟩ := hty.out
  simp [execOp, h _ _ hx, h _ _ hhi, Instr.sliceAt, Instr.slice, run_underlying ht, Instr.sliceBounds, Instr.sliceBound, asIntOf, sizeOf, typeInfo, hi', h2]
theorem pu_cut_lo {A : Option Addr} {n c e : Nat} {size bytes : Nat} {z : Value} {kl : IntKind} {lo : Nat} (ht : P.underlying t = some (.slice e)) (hty : Ty P e size bytes z) (hx : ev l x = some (.slice A n c)) (hlo : ev l y = some (.int kl lo))
    (h1 : lo ≤ n) :
    Pu P l ⟨d, .slice t x (some y) none none, ty, ps, af, g⟩ (.slice (if c = lo then A else A.map (·.add (lo * size))) (n - lo) (c - lo)) := by
  intro ρ h w
  obtain ⟨i, hi', rfl, _⟩ := hty.out
  simp [execOp, h _ _ hx, h _ _ hlo, Instr.sliceAt, Instr.slice, run_underlying ht, Instr.sliceBounds, Instr.sliceBound, asIntOf, sizeOf, typeInfo, hi', h1]

/-- A call of a named function that has a body and is none of the model's own. -/
structure Fn (P : Program) (f : FuncId) : Prop where
  out : ∃ fn, P.funcs[f]? = some fn ∧ fn.name ≠ "runtime.NumGoroutine" ∧ fn.body.isNone = false
theorem st_call {f : FuncId} {xs : List Operand} {vs : List Value} {ts : Array TypeId} (hf : Fn P f) (hx : evs l xs = some vs) (hc : CallsR P f vs.toArray w J) :
    St1 P l ⟨d, .call { callee := .value (.func f), args := xs.toArray, argTypes := ts }, ty, ps, af, g⟩ w J := by
  intro ρ h
  obtain ⟨fn, h1, h2, h3⟩ := hf.out
  have hm := evs_map h hx
  have hr : ρ (.func f) = .func (.func f) #[] #[] := h _ _ rfl
  have h2' : (fn.name == "runtime.NumGoroutine") = false := by simpa using h2
  simp only [execOp, resolve, hr, Deferred.ofValue, Sem.run_bind, Sem.run_pure, Result.andThen_ok, invoke, callFunc, run_program, h1, h2', h3, Array.empty_append, Array.append_empty, List.map_toArray, hm, SR]
  simpa [SR] using hc
/-- A call of a function value that is known. -/
theorem st_callv {f : FuncId} {fi cap : List Value} {xs : List Operand} {vs : List Value} {ts : Array TypeId} (hf : Fn P f) (hv : ev l x = some (.func (.func f) fi.toArray cap.toArray)) (hx : evs l xs = some vs) (hc : CallsR P f (fi ++ vs ++ cap).toArray w J) :
    St1 P l ⟨d, .call { callee := .value x, args := xs.toArray, argTypes := ts }, ty, ps, af, g⟩ w J := by
  intro ρ h
  obtain ⟨fn, h1, h2, h3⟩ := hf.out
  have hm := evs_map h hx
  have hr := h _ _ hv
  have h2' : (fn.name == "runtime.NumGoroutine") = false := by simpa using h2
  simp only [execOp, resolve, hr, Deferred.ofValue, Sem.run_bind, Sem.run_pure, Result.andThen_ok, invoke, callFunc, run_program, h1, h2', h3, List.map_toArray, hm, SR, List.append_toArray]
  simpa [SR] using hc
end
end Go.Proofs.Ytdpbfdjpeofbmaa.L
