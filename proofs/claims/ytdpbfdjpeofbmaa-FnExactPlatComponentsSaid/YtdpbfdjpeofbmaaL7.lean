/- The light logic, part 7: rows of numbers. -/
import Derived.Test.YtdpbfdjpeofbmaaL6
namespace Go.Proofs.Ytdpbfdjpeofbmaa.L
set_option linter.unusedVariables false
def nums (k : IntKind) (xs : List Int) : List Value := xs.map fun x => .int k x
def rd (xs : List Int) (i : Int) : Int := xs.getD i.toNat 0
theorem nums_length (k : IntKind) (xs : List Int) : (nums k xs).length = xs.length := by simp [nums]
theorem nums_append (k : IntKind) (xs ys : List Int) : nums k (xs ++ ys) = nums k xs ++ nums k ys := by simp [nums]
theorem nums_set (k : IntKind) (xs : List Int) (i : Nat) (x : Int) : (nums k xs).set i (.int k x) = nums k (xs.set i x) := by simp [nums, List.map_set]
theorem nums_get (k : IntKind) (xs : List Int) (i : Int) (h0 : 0 ≤ i) (h1 : i < xs.length) : (nums k xs)[i.toNat]? = some (.int k (rd xs i)) := by
  have : i.toNat < xs.length := by omega
  simp [nums, rd, List.getD_eq_getElem?_getD, this]
theorem nums_one (k : IntKind) (xs : List Int) : ∀ u ∈ nums k xs, u.oneCell' = true := by
  intro u hu
  simp only [nums, List.mem_map] at hu
  obtain ⟨x, _, rfl⟩ := hu
  rfl
/-- A slice reads as these numbers. -/
def RI (w : World) (v : Value) (xs : List Int) : Prop := Rs w 1 v xs.length (nums .i64 xs)
theorem RI.keep {w w' : World} {v : Value} {xs : List Int} (h : RI w v xs) (k : Kp no w w') : RI w' v xs := Rs.keep h k
theorem RI.open {w : World} {v : Value} {xs : List Int} (h : RI w v xs) : ∃ A c, v = .slice A xs.length c ∧ xs.length ≤ c := by
  obtain ⟨A, c, e, hc, _⟩ := h
  exact ⟨A, c, e, hc⟩
theorem RI.addr {w : World} {A : Option Addr} {n c : Nat} {xs : List Int} (h : RI w (.slice A n c) xs) {i : Int} (h0 : 0 ≤ i) (h1 : i < xs.length) : ∃ a, A = some a := by
  obtain ⟨A', c', e, hc, hl, hr⟩ := h
  obtain ⟨a, ha, _⟩ := hr i.toNat _ (nums_get .i64 xs i h0 h1)
  cases e
  exact ⟨a, ha⟩
theorem RI.at {w : World} {a : Addr} {n c : Nat} {xs : List Int} (h : RI w (.slice (some a) n c) xs) {i : Int} (h0 : 0 ≤ i) (h1 : i < xs.length) : w.cell? (a.add (i.toNat * 1)) = some (.int .i64 (rd xs i)) := by
  obtain ⟨A', c', e, hc, hl, hr⟩ := h
  obtain ⟨a', ha, hcell⟩ := hr i.toNat _ (nums_get .i64 xs i h0 h1)
  cases e
  cases ha
  simpa using hcell
/-- A slice of one's own with these numbers. -/
def OI (w : World) (v : Value) (xs : List Int) : Prop := Ow w 2 1 v xs.length (nums .i64 xs)
def aOI (v : Value) (xs : List Int) : Asr := aOw 2 1 v xs.length (nums .i64 xs)
theorem OI.ri {w : World} {v : Value} {xs : List Int} (h : OI w v xs) : RI w v xs := Ow.rs h
theorem RI.at0 {w : World} {b : Nat} {n c : Nat} {xs : List Int} (h : RI w (.slice (some ⟨b, 0, none⟩) n c) xs) {i : Int} (h0 : 0 ≤ i) (h1 : i < xs.length) : w.cell? ⟨b, i.toNat, none⟩ = some (.int .i64 (rd xs i)) := by
  have := h.at h0 h1
  rwa [Nat.mul_one, add_zero'] at this
theorem OI.lt {w : World} {v : Value} {xs : List Int} (h : OI w v xs) {b : Nat} (hb : v.ownBlock = some b) : b < w.heap.size := Ow.lt h hb
theorem OI.open {w : World} {v : Value} {xs : List Int} (h : OI w v xs) : (v = .slice none 0 0 ∧ xs = []) ∨ ∃ b c, v = .slice (some ⟨b, 0, none⟩) xs.length c ∧ xs.length ≤ c := by
  rcases Ow.slice h with ⟨rfl, h0⟩ | ⟨g, c, rfl, hc⟩
  · exact .inl ⟨rfl, List.eq_nil_of_length_eq_zero h0⟩
  · exact .inr ⟨g, c, rfl, hc⟩
theorem OI.len {w : World} {A : Option Addr} {n c : Nat} {xs : List Int} (h : OI w (.slice A n c) xs) : n = xs.length := by
  rcases h.2 with ⟨e, h0⟩ | ⟨g, cap, cur, e, _⟩
  · cases e; rw [h0]
  · cases e; rfl
theorem RI.len {w : World} {A : Option Addr} {n c : Nat} {xs : List Int} (h : RI w (.slice A n c) xs) : n = xs.length := by
  obtain ⟨A', c', e, _⟩ := h
  cases e; rfl
section
variable {F0 : Nat → Prop} {w0 w : World} {As : List Asr} {P : Program} {l : Env} {d : Option Tmp} {ty : TypeId} {ps : String} {af : Array Edge} {g : Option (Nat × Bool)} {x y : Operand} {v u : Value} {t : TypeId} {J : Value → World → Prop}
/-- A number stored into an owned row of numbers. -/
theorem st_storeI {b n c : Nat} {ys : List Int} {i q : Int} {by' : Nat} {z : Value} (hs : St F0 w0 As w) (j : Nat) (hj : As[j]? = some (aOI (.slice (some ⟨b, 0, none⟩) n c) ys)) (hz : Ty P t 1 by' z) (hx : ev l x = some (.pointer (some ⟨b, i.toNat, none⟩))) (hy : ev l y = some (.int .i64 q))
    (h0 : 0 ≤ i) (h1 : i < ys.length)
    (hJ : ∀ w', Kp (fun k => k = b) w w' → St F0 w0 (As.set j (aOI (.slice (some ⟨b, 0, none⟩) n c) (ys.set i.toNat q))) w' → J undef w') : St1 P l ⟨none, .store t x y, ty, ps, af, g⟩ w J := by
  have hO : OI w (.slice (some ⟨b, 0, none⟩) n c) ys := hs.get j hj
  obtain rfl := hO.len
  refine st_storeO hz hx hy hO rfl (by rw [nums_length]; omega) fun w' hk hO' => hJ w' hk ?_
  rw [nums_set] at hO'
  refine hs.upd j hj (hk.mono fun k _ e => by subst e; rfl) (aOI _ _) ?_ (fun k e => .inl e)
  show Ow _ _ _ _ _ _
  rw [List.length_set]
  exact hO'
/-- A new row of given numbers. -/
theorem st_litI {n : Nat} {parts : List (Nat × Operand)} {vs : List (Nat × Value)} (hs : St F0 w0 As w) (xs : List Int) (hp : evp l parts = some vs)
    (hr : ∀ w, (Instr.buildSlice t n vs.toArray).run P w = .ok (.slice (some ⟨w.heap.size, 0, none⟩) n n) { w with heap := w.heap.push (.cells (nums .i64 xs).toArray 2) }) (hn : xs.length = n) (hm : Nat.ble n 1000000 = true)
    (hJ : ∀ w' b, Kp no w w' → w.heap.size ≤ b → St F0 w0 (aOI (.slice (some ⟨b, 0, none⟩) n n) xs :: As) w' → J (.slice (some ⟨b, 0, none⟩) n n) w') : St1 P l ⟨d, .buildSlice t n parts.toArray, ty, ps, af, g⟩ w J := by
  subst hn
  refine st_buildSlice hp hr (size := 1) (by rw [nums_length, Nat.mul_one]) (by have := Nat.le_of_ble_eq_true hm; simp only [maxLen]; omega) fun b w' hb hk hO => hJ w' b hk hb ?_
  exact hs.new hk (aOI _ _) hO (fun k e => by cases e; exact ⟨hb, Ow.lt hO rfl⟩)
/-- An append to an owned row of numbers. -/
theorem st_appendI {ys zs : List Int} (hs : St F0 w0 As w) (j : Nat) (hj : As[j]? = some (aOI v ys)) (ht : P.underlying t = some (.slice 2)) (hty : Ty P 2 1 8 (.int .i64 0)) (hx : ev l x = some v) (hy : ev l y = some u) (hu : RI w u zs)
    (hb : ys.length + zs.length ≤ 17592186044415)
    (hJ : ∀ v' w', St F0 w0 (As.set j (aOI v' (ys ++ zs))) w' → Kp (fun k => v.ownBlock = some k) w w' → (∀ b, v'.ownBlock = some b → v.ownBlock = some b ∨ Fresh w w' b) → J v' w') :
    St1 P l ⟨d, .call { callee := .builtin .append, args := #[x, y], argTypes := #[t, t] }, ty, ps, af, g⟩ w J := by
  refine st_append ht hty rfl rfl hx hy (hs.get j hj) hu (nums_one _ _) (by omega) (by simp only [maxLen]; omega) fun v' w' hO hk hf => hJ v' w' ?_ hk hf
  refine hs.upd j hj hk (aOI _ _) ?_ hf
  show Ow _ _ _ _ _ _
  rw [List.length_append, nums_append]
  exact hO
end
/-- A result in new memory. -/
def NewI (w w' : World) (v : Value) (xs : List Int) : Prop := OI w' v xs ∧ Kp no w w' ∧ ∀ b, v.ownBlock = some b → Fresh w w' b
theorem St.newI {F0 : Nat → Prop} {w0 w w' : World} {As : List Asr} {v : Value} {xs : List Int} (hs : St F0 w0 As w) (hn : NewI w w' v xs) : St F0 w0 (aOI v xs :: As) w' := hs.new hn.2.1 (aOI v xs) hn.1 hn.2.2
theorem St.isNewI {w0 w : World} {As : List Asr} {v : Value} {xs : List Int} (hs : St no w0 As w) (i : Nat) (hi : As[i]? = some (aOI v xs)) : NewI w0 w v xs :=
  ⟨hs.get i hi, hs.kp, fun b hb => ⟨((hs.each _ (List.mem_of_getElem? hi)).2 b hb).1.resolve_left id, ((hs.each _ (List.mem_of_getElem? hi)).2 b hb).2⟩⟩
theorem St.oi {F0 : Nat → Prop} {w0 w : World} {As : List Asr} {v : Value} {xs : List Int} (hs : St F0 w0 As w) (i : Nat) (hi : As[i]? = some (aOI v xs)) : OI w v xs := hs.get i hi
end Go.Proofs.Ytdpbfdjpeofbmaa.L
