/- The light logic, part 12: arrays of numbers. -/
import Derived.Test.YtdpbfdjpeofbmaaL11
namespace Go.Proofs.Ytdpbfdjpeofbmaa.L
set_option linter.unusedVariables false
section
variable {F0 : Nat → Prop} {w0 w : World} {As : List Asr} {P : Program} {l : Env} {d : Option Tmp} {ty : TypeId} {ps : String} {af : Array Edge} {g : Option (Nat × Bool)} {x y : Operand} {v u : Value} {t : TypeId} {J : Value → World → Prop}
theorem nums_get' (k : IntKind) (xs : List Int) (i : Int) (o : Nat) (ho : o = i.toNat) (h0 : 0 ≤ i) (h1 : i < xs.length) : (nums k xs)[o]? = some (.int k (rd xs i)) := by subst ho; exact nums_get k xs i h0 h1
theorem Bk.at1 {b : Nat} {e : TypeId} {k : IntKind} {xs : List Int} (h : Bk w b e (nums k xs)) {i : Int} (h0 : 0 ≤ i) (h1 : i < xs.length) : w.cell? ⟨b, 0 + i.toNat * 1, none⟩ = some (.int k (rd xs i)) :=
  h.cell (nums_get' k xs i _ (by omega) h0 h1)
theorem Bk.at1x {b : Nat} {e : TypeId} {k : IntKind} {xs : List Int} (h : Bk w b e (nums k xs)) {i : Int} (h0 : 0 ≤ i) (h1 : i < xs.length) : ∃ x, Go.RowKit.Hid (x = rd xs i) ∧ w.cell? ⟨b, 0 + i.toNat * 1, none⟩ = some (.int k x) := ⟨_, rfl, h.at1 h0 h1⟩
theorem Bk.at2x {b : Nat} {e : TypeId} {k : IntKind} {xs : List Int} (h : Bk w b e (nums k xs)) {i j : Int} {m : Nat} (h0 : 0 ≤ i) (h2 : 0 ≤ j) (h1 : i * m + j < xs.length) : ∃ x, Go.RowKit.Hid (x = rd xs (i * m + j)) ∧ w.cell? ⟨b, 0 + i.toNat * m + j.toNat * 1, none⟩ = some (.int k x) := by
  have hm : 0 ≤ i * (m : Int) := Int.mul_nonneg h0 (by omega)
  refine ⟨_, rfl, h.cell (nums_get' k xs _ _ ?_ (by omega) h1)⟩
  have : (i * m + j).toNat = i.toNat * m + j.toNat := by
    rw [Int.toNat_add hm h2, Int.toNat_mul h0 (by omega), Int.toNat_natCast]
  omega
/-- A number stored into an array of one's own. -/
theorem st_storeN {b o : Nat} {e : TypeId} {k : IntKind} {xs : List Int} {q : Int} {by' : Nat} {z : Value} (hs : St F0 w0 As w) (j : Nat) (hj : As[j]? = some (aBk b e (nums k xs))) (hz : Ty P t 1 by' z) (hx : ev l x = some (.pointer (some ⟨b, o, none⟩))) (hy : ev l y = some (.int k q)) (i : Nat) (ho : o = i) (h1 : i < xs.length)
    (hJ : ∀ w', Kp (fun k => k = b) w w' → St F0 w0 (As.set j (aBk b e (nums k (xs.set i q)))) w' → J undef w') : St1 P l ⟨none, .store t x y, ty, ps, af, g⟩ w J := by
  subst ho
  refine st_storeB hs j hj hz hx hy rfl (by rw [nums_length]; exact h1) fun w' hk hs' => hJ w' hk ?_
  rwa [nums_set] at hs'
/-- A call that turns what it may turn, and owns none of this. -/
theorem St.nextF {w' : World} (h : St F0 w0 As w) (k : Kp F0 w w') (hd : ∀ A ∈ As, ∀ b, A.foot b → ¬ F0 b) : St F0 w0 As w' :=
  ⟨h.kp.trans k fun b hb hf => hf, fun A hA => ⟨A.loc w w' (fun b hb => k.block b ((h.each A hA).2 b hb).2 (hd A hA b hb)) (h.each A hA).1, fun b hb => ⟨((h.each A hA).2 b hb).1, Nat.lt_of_lt_of_le ((h.each A hA).2 b hb).2 k.size⟩⟩, h.disj⟩
end
end Go.Proofs.Ytdpbfdjpeofbmaa.L
