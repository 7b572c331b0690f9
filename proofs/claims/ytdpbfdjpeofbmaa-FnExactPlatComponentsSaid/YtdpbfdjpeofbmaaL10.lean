/- The light logic, part 10: new rows of zeros, new matrices. -/
import Derived.Test.YtdpbfdjpeofbmaaL9
namespace Go.Proofs.Ytdpbfdjpeofbmaa.L
set_option linter.unusedVariables false
theorem madeInt' (n : Nat) : (madeCells (Value.int .i64 0).cells (n * 1)).toList = nums .i64 (List.replicate n 0) := by
  rw [Nat.mul_one]
  show (madeCells #[Value.int .i64 0] n).toList = _
  rw [toList_madeCells_one]
  simp [nums]
section
variable {F0 : Nat → Prop} {w0 w : World} {As : List Asr} {P : Program} {l : Env} {d : Option Tmp} {ty : TypeId} {ps : String} {af : Array Edge} {g : Option (Nat × Bool)} {x y : Operand} {v u : Value} {t : TypeId} {J : Value → World → Prop}
theorem st_makeI {n : Nat} {kl kc : IntKind} (hs : St F0 w0 As w) (ht : P.underlying t = some (.slice 2)) (hty : Ty P 2 1 8 (.int .i64 0)) (hx : ev l x = some (.int kl n)) (hy : ev l y = some (.int kc n)) (hn : n ≤ 1048576)
    (hJ : ∀ w' b, Kp no w w' → w.heap.size ≤ b → St F0 w0 (aOI (.slice (some ⟨b, 0, none⟩) n n) (List.replicate n 0) :: As) w' → J (.slice (some ⟨b, 0, none⟩) n n) w') : St1 P l ⟨d, .makeSlice t x y, ty, ps, af, g⟩ w J := by
  refine st_makeSlice ht hty hx hy (by omega) (by simp only [maxLen]; omega) fun b w' hb hk hO => hJ w' b hk hb ?_
  rw [madeInt'] at hO
  exact hs.new hk (aOI _ _) (by show Ow _ _ _ _ _ _; rw [List.length_replicate]; exact hO) (fun k e => by cases e; exact ⟨hb, Ow.lt hO rfl⟩)
/-- '[][]int64{}'. -/
theorem st_litM (hs : St F0 w0 As w)
    (hr : ∀ w, (Instr.buildSlice t 0 #[]).run P w = .ok (.slice (some ⟨w.heap.size, 0, none⟩) 0 0) { w with heap := w.heap.push (.cells #[] 22) })
    (hJ : ∀ w' b, Kp no w w' → w.heap.size ≤ b → St F0 w0 (aMat (.slice (some ⟨b, 0, none⟩) 0 0) [] [] :: As) w' → J (.slice (some ⟨b, 0, none⟩) 0 0) w') : St1 P l ⟨d, .buildSlice t 0 #[], ty, ps, af, g⟩ w J := by
  refine st_buildSlice (vs := []) (parts := []) (cs := []) (e := 22) rfl hr (size := 1) rfl (by simp only [maxLen]; omega) fun b w' hb hk hO => hJ w' b hk hb ?_
  refine hs.new hk (aMat _ _ _) (MatH.nil _ hO) (fun k e => ?_)
  rcases e with e | ⟨q, hq, _⟩
  · cases e; exact ⟨hb, Ow.lt hO rfl⟩
  · simp at hq
/-- '[][]int64{row}', to be appended. -/
theorem st_litR {o : Operand} {q : Value} (hs : St F0 w0 As w) (hp : ev l o = some q)
    (hr : ∀ w, (Instr.buildSlice t 1 #[(0, q)]).run P w = .ok (.slice (some ⟨w.heap.size, 0, none⟩) 1 1) { w with heap := w.heap.push (.cells #[q] 22) })
    (hJ : ∀ w' b, Kp no w w' → w.heap.size ≤ b → St F0 w0 As w' → Ow w' 22 1 (.slice (some ⟨b, 0, none⟩) 1 1) 1 [q] → J (.slice (some ⟨b, 0, none⟩) 1 1) w') : St1 P l ⟨d, .buildSlice t 1 #[(0, o)], ty, ps, af, g⟩ w J := by
  refine st_buildSlice (parts := [(0, o)]) (vs := [(0, q)]) (cs := [q]) (e := 22) (by simp [evp, hp]) hr (size := 1) rfl (by simp only [maxLen]; omega) fun b w' hb hk hO => hJ w' b hk hb (hs.next hk) hO
/-- 'make([][]int64, n)': rows of nil. -/
theorem MatH.nils {b n c : Nat} (h : Ow w 22 1 (.slice (some ⟨b, 0, none⟩) n c) n (List.replicate n (.slice none 0 0))) : MatH w (.slice (some ⟨b, 0, none⟩) n c) (List.replicate n (.slice none 0 0)) (List.replicate n []) := by
  refine ⟨by rw [List.length_replicate]; exact h, by simp, fun i q xs hi hx => ?_, fun i j q q' hi _ _ k hk => ?_⟩
  · have e1 := List.eq_of_mem_replicate (List.mem_of_getElem? hi)
    have e2 := List.eq_of_mem_replicate (List.mem_of_getElem? hx)
    subst e1 e2
    exact ⟨rfl, .inl ⟨rfl, rfl⟩⟩
  · have e1 := List.eq_of_mem_replicate (List.mem_of_getElem? hi)
    subst e1
    simp [Value.ownBlock] at hk
theorem st_makeM {n : Nat} {kl kc : IntKind} (hs : St F0 w0 As w) (ht : P.underlying t = some (.slice 22)) (hty : Ty P 22 1 24 (.slice none 0 0)) (hx : ev l x = some (.int kl n)) (hy : ev l y = some (.int kc n)) (hn : n ≤ 1048576)
    (hJ : ∀ w' b, Kp no w w' → w.heap.size ≤ b → St F0 w0 (aMat (.slice (some ⟨b, 0, none⟩) n n) (List.replicate n (.slice none 0 0)) (List.replicate n []) :: As) w' → J (.slice (some ⟨b, 0, none⟩) n n) w') : St1 P l ⟨d, .makeSlice t x y, ty, ps, af, g⟩ w J := by
  refine st_makeSlice ht hty hx hy (by omega) (by simp only [maxLen]; omega) fun b w' hb hk hO => hJ w' b hk hb ?_
  have e : (madeCells (Value.slice none 0 0).cells (n * 1)).toList = List.replicate n (.slice none 0 0) := by
    rw [Nat.mul_one]
    show (madeCells #[Value.slice none 0 0] n).toList = _
    rw [toList_madeCells_one]
  rw [e] at hO
  refine hs.new hk (aMat _ _ _) (MatH.nils hO) (fun k e => ?_)
  rcases e with e | ⟨q, hq, e⟩
  · cases e; exact ⟨hb, Ow.lt hO rfl⟩
  · have := List.eq_of_mem_replicate hq
    subst this
    simp [Value.ownBlock] at e
end
end Go.Proofs.Ytdpbfdjpeofbmaa.L
