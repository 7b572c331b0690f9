/- The light logic, part 14: rows of single cells of any kind, owned. -/
import Derived.Test.YtdpbfdjpeofbmaaL13
namespace Go.Proofs.Ytdpbfdjpeofbmaa.L
set_option linter.unusedVariables false
theorem Ow.at1 {w : World} {b n c i : Nat} {e : TypeId} {vs : List Value} {u : Value} (h : Ow w e 1 (.slice (some ⟨b, 0, none⟩) n c) n vs) (hi : vs[i]? = some u) : w.cell? ⟨b, i, none⟩ = some u := by
  obtain ⟨A', c', e', _, _, hr⟩ := Ow.rs h
  obtain ⟨a, ha, hc⟩ := hr i u hi
  cases e'
  cases ha
  rwa [add_zero'] at hc
section
variable {F0 : Nat → Prop} {w0 w : World} {As : List Asr} {P : Program} {l : Env} {d : Option Tmp} {ty : TypeId} {ps : String} {af : Array Edge} {g : Option (Nat × Bool)} {x y : Operand} {v u : Value} {t : TypeId} {J : Value → World → Prop}
theorem St.owv (hs : St F0 w0 As w) (i : Nat) {e : TypeId} {sz n : Nat} {vs : List Value} (hi : As[i]? = some (aOw e sz v n vs)) : Ow w e sz v n vs := hs.get i hi
/-- A cell stored into an owned row of cells. -/
theorem st_storeOw {b n c o : Nat} {e : TypeId} {vs : List Value} {by' : Nat} {z : Value} (hs : St F0 w0 As w) (j : Nat) (hj : As[j]? = some (aOw e 1 (.slice (some ⟨b, 0, none⟩) n c) n vs)) (hz : Ty P t 1 by' z) (hx : ev l x = some (.pointer (some ⟨b, o, none⟩))) (hy : ev l y = some v) (h1 : v.oneCell' = true)
    (i : Nat) (ho : o = i) (hfit : i < vs.length)
    (hJ : ∀ w', Kp (fun k => k = b) w w' → St F0 w0 (As.set j (aOw e 1 (.slice (some ⟨b, 0, none⟩) n c) n (vs.set i v))) w' → J undef w') : St1 P l ⟨none, .store t x y, ty, ps, af, g⟩ w J := by
  subst ho
  refine st_storeO hz hx hy (hs.owv j hj) h1 hfit fun w' hk hO' => hJ w' hk ?_
  exact hs.upd j hj (hk.mono fun k _ e => by subst e; rfl) (aOw _ _ _ _ _) hO' (fun k e => .inl e)
/-- A new row of equal cells. -/
theorem st_makeOw {n : Nat} {kl kc : IntKind} {e : TypeId} {z : Value} {bytes : Nat} (hs : St F0 w0 As w) (ht : P.underlying t = some (.slice e)) (hty : Ty P e 1 bytes z) (hzc : z.cells = #[z]) (hx : ev l x = some (.int kl n)) (hy : ev l y = some (.int kc n)) (hb : bytes ≤ 1024) (hn : n ≤ 1048576)
    (hJ : ∀ w' b, Kp no w w' → w.heap.size ≤ b → St F0 w0 (aOw e 1 (.slice (some ⟨b, 0, none⟩) n n) n (List.replicate n z) :: As) w' → J (.slice (some ⟨b, 0, none⟩) n n) w') : St1 P l ⟨d, .makeSlice t x y, ty, ps, af, g⟩ w J := by
  refine st_makeSlice ht hty hx hy (by have := Nat.mul_le_mul hb hn; omega) (by simp only [maxLen]; omega) fun b w' hb hk hO => hJ w' b hk hb ?_
  have e1 : (madeCells z.cells (n * 1)).toList = List.replicate n z := by
    rw [Nat.mul_one, hzc, toList_madeCells_one]
  rw [e1] at hO
  exact hs.new hk (aOw _ _ _ _ _) hO (fun k e => by cases e; exact ⟨hb, Ow.lt hO rfl⟩)
end
end Go.Proofs.Ytdpbfdjpeofbmaa.L
