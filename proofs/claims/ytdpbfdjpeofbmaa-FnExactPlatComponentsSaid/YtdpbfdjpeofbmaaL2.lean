/- The light logic, part 2: numbers, bools, strings, addresses. -/
import Derived.Test.YtdpbfdjpeofbmaaL1
namespace Go.Proofs.Ytdpbfdjpeofbmaa.L
set_option linter.unusedVariables false

/-- What is known of a type: its size in cells, in bytes, its zero value. -/
structure Ty (P : Program) (e : TypeId) (size bytes : Nat) (z : Value) : Prop where
  out : ∃ i, P.info? e = some i ∧ i.size = size ∧ i.bytes = bytes ∧ i.zero = some z
theorem Ty.mk' {P : Program} {e : TypeId} {size bytes : Nat} {z : Value} (h : (P.info? e).map (fun i => (i.zero, i.size, i.bytes)) = some (some z, size, bytes)) : Ty P e size bytes z := by
  cases hi : P.info? e with
  | none => rw [hi] at h; simp at h
  | some i =>
    rw [hi] at h
    simp only [Option.map_some, Option.some.injEq, Prod.mk.injEq] at h
    exact ⟨i, hi, h.2.1, h.2.2, h.1⟩
def w64 (n : Int) : Int := IntKind.i64.wrap n
theorem w64_in {n : Int} (h : -9223372036854775808 ≤ n ∧ n ≤ 9223372036854775807) : w64 n = n := by
  unfold w64 IntKind.wrap
  simp [IntKind.signed, IntKind.bits]
  omega
theorem w64_range (n : Int) : -9223372036854775808 ≤ w64 n ∧ w64 n ≤ 9223372036854775807 := by
  unfold w64 IntKind.wrap
  simp [IntKind.signed, IntKind.bits]
  omega
theorem wrap_u64 (n : Int) : IntKind.u64.wrap n = n % 18446744073709551616 := by
  unfold IntKind.wrap; simp [IntKind.signed, IntKind.bits]
theorem wrap_u8 (n : Int) : IntKind.u8.wrap n = n % 256 := by
  unfold IntKind.wrap; simp [IntKind.signed, IntKind.bits]

section
variable {P : Program} {l : Env} {d : Option Tmp} {ty : TypeId} {ps : String} {af : Array Edge} {g : Option (Nat × Bool)} {x y c : Operand} {v u : Value} {k : IntKind} {a b : Int} {t t' : TypeId}

theorem pu_add (hx : ev l x = some (.int k a)) (hy : ev l y = some (.int k b)) : Pu P l ⟨d, .binOp .add t x y t', ty, ps, af, g⟩ (.int k (k.wrap (a + b))) := by
  intro ρ h w; simp [execOp, h _ _ hx, h _ _ hy, eqGuard, binOp, Op.intArith]
theorem pu_sub (hx : ev l x = some (.int k a)) (hy : ev l y = some (.int k b)) : Pu P l ⟨d, .binOp .sub t x y t', ty, ps, af, g⟩ (.int k (k.wrap (a - b))) := by
  intro ρ h w; simp [execOp, h _ _ hx, h _ _ hy, eqGuard, binOp, Op.intArith]
theorem pu_mul (hx : ev l x = some (.int k a)) (hy : ev l y = some (.int k b)) : Pu P l ⟨d, .binOp .mul t x y t', ty, ps, af, g⟩ (.int k (k.wrap (a * b))) := by
  intro ρ h w; simp [execOp, h _ _ hx, h _ _ hy, eqGuard, binOp, Op.intArith]
theorem pu_quo (hx : ev l x = some (.int k a)) (hy : ev l y = some (.int k b)) (h0 : b ≠ 0) : Pu P l ⟨d, .binOp .quo t x y t', ty, ps, af, g⟩ (.int k (k.wrap (a.tdiv b))) := by
  intro ρ h w; simp [execOp, h _ _ hx, h _ _ hy, eqGuard, binOp, Op.intDiv, h0]
theorem pu_rem (hx : ev l x = some (.int k a)) (hy : ev l y = some (.int k b)) (h0 : b ≠ 0) : Pu P l ⟨d, .binOp .rem t x y t', ty, ps, af, g⟩ (.int k (a.tmod b)) := by
  intro ρ h w; simp [execOp, h _ _ hx, h _ _ hy, eqGuard, binOp, Op.intDiv, h0]
/-- The same within the range of 64 bits. -/
theorem pu_add64 (hx : ev l x = some (.int .i64 a)) (hy : ev l y = some (.int .i64 b)) (hr : -9223372036854775808 ≤ a + b ∧ a + b ≤ 9223372036854775807) : Pu P l ⟨d, .binOp .add t x y t', ty, ps, af, g⟩ (.int .i64 (a + b)) := by
  have := pu_add (P := P) (d := d) (ty := ty) (ps := ps) (af := af) (g := g) (t := t) (t' := t') hx hy
  rwa [show IntKind.i64.wrap (a + b) = a + b from w64_in hr] at this
theorem pu_sub64 (hx : ev l x = some (.int .i64 a)) (hy : ev l y = some (.int .i64 b)) (hr : -9223372036854775808 ≤ a - b ∧ a - b ≤ 9223372036854775807) : Pu P l ⟨d, .binOp .sub t x y t', ty, ps, af, g⟩ (.int .i64 (a - b)) := by
  have := pu_sub (P := P) (d := d) (ty := ty) (ps := ps) (af := af) (g := g) (t := t) (t' := t') hx hy
  rwa [show IntKind.i64.wrap (a - b) = a - b from w64_in hr] at this
theorem pu_mul64 (hx : ev l x = some (.int .i64 a)) (hy : ev l y = some (.int .i64 b)) (hr : -9223372036854775808 ≤ a * b ∧ a * b ≤ 9223372036854775807) : Pu P l ⟨d, .binOp .mul t x y t', ty, ps, af, g⟩ (.int .i64 (a * b)) := by
  have := pu_mul (P := P) (d := d) (ty := ty) (ps := ps) (af := af) (g := g) (t := t) (t' := t') hx hy
  rwa [show IntKind.i64.wrap (a * b) = a * b from w64_in hr] at this
theorem pu_quo64 (hx : ev l x = some (.int .i64 a)) (hy : ev l y = some (.int .i64 b)) (h0 : b ≠ 0) (hr : -9223372036854775808 ≤ a.tdiv b ∧ a.tdiv b ≤ 9223372036854775807) : Pu P l ⟨d, .binOp .quo t x y t', ty, ps, af, g⟩ (.int .i64 (a.tdiv b)) := by
  have := pu_quo (P := P) (d := d) (ty := ty) (ps := ps) (af := af) (g := g) (t := t) (t' := t') hx hy h0
  rwa [show IntKind.i64.wrap (a.tdiv b) = a.tdiv b from w64_in hr] at this
theorem pu_neg64 (hx : ev l x = some (.int .i64 a)) (hr : -9223372036854775808 ≤ -a ∧ -a ≤ 9223372036854775807) : Pu P l ⟨d, .unOp .neg t x, ty, ps, af, g⟩ (.int .i64 (-a)) := by
  intro ρ h w
  have : IntKind.i64.wrap (0 - a) = -a := by rw [Int.zero_sub]; exact w64_in hr
  simp only [Int.zero_sub] at this
  simp [execOp, h _ _ hx, Op.unary, Op.intArith, this]
theorem pu_neg (hx : ev l x = some (.int k a)) : Pu P l ⟨d, .unOp .neg t x, ty, ps, af, g⟩ (.int k (k.wrap (-a))) := by
  intro ρ h w
  simp [execOp, h _ _ hx, Op.unary, Op.intArith]
theorem pu_not {q : Bool} (hx : ev l x = some (.bool q)) : Pu P l ⟨d, .unOp .not t x, ty, ps, af, g⟩ (.bool (!q)) := by
  intro ρ h w
  simp [execOp, h _ _ hx, Op.unary]
theorem pu_notp {p : Prop} [Decidable p] (hx : ev l x = some (.bool (decide p))) : Pu P l ⟨d, .unOp .not t x, ty, ps, af, g⟩ (.bool (decide (¬ p))) := by
  have := pu_not (P := P) (d := d) (ty := ty) (ps := ps) (af := af) (g := g) (t := t) hx
  rwa [show (!decide p) = decide (¬ p) from by simp] at this
theorem pu_lss (hx : ev l x = some (.int k a)) (hy : ev l y = some (.int k b)) : Pu P l ⟨d, .binOp .lss t x y t', ty, ps, af, g⟩ (.bool (decide (a < b))) := by
  intro ρ h w; simp [execOp, h _ _ hx, h _ _ hy, eqGuard, binOp, Op.intCmp]
theorem pu_leq (hx : ev l x = some (.int k a)) (hy : ev l y = some (.int k b)) : Pu P l ⟨d, .binOp .leq t x y t', ty, ps, af, g⟩ (.bool (decide (a ≤ b))) := by
  intro ρ h w; simp [execOp, h _ _ hx, h _ _ hy, eqGuard, binOp, Op.intCmp]
theorem pu_gtr (hx : ev l x = some (.int k a)) (hy : ev l y = some (.int k b)) : Pu P l ⟨d, .binOp .gtr t x y t', ty, ps, af, g⟩ (.bool (decide (a > b))) := by
  intro ρ h w; simp [execOp, h _ _ hx, h _ _ hy, eqGuard, binOp, Op.intCmp]
theorem pu_geq (hx : ev l x = some (.int k a)) (hy : ev l y = some (.int k b)) : Pu P l ⟨d, .binOp .geq t x y t', ty, ps, af, g⟩ (.bool (decide (a ≥ b))) := by
  intro ρ h w; simp [execOp, h _ _ hx, h _ _ hy, eqGuard, binOp, Op.intCmp]
theorem pu_eql (hx : ev l x = some (.int k a)) (hy : ev l y = some (.int k b)) : Pu P l ⟨d, .binOp .eql t x y t', ty, ps, af, g⟩ (.bool (decide (a = b))) := by
  intro ρ h w
  have : (a == b) = decide (a = b) := rfl
  simp [execOp, h _ _ hx, h _ _ hy, eqGuard, binOp, Op.intCmp, this]
theorem pu_neq (hx : ev l x = some (.int k a)) (hy : ev l y = some (.int k b)) : Pu P l ⟨d, .binOp .neq t x y t', ty, ps, af, g⟩ (.bool (decide (a ≠ b))) := by
  intro ρ h w
  have : (a != b) = decide (a ≠ b) := by by_cases e : a = b <;> simp [e]
  simp [execOp, h _ _ hx, h _ _ hy, eqGuard, binOp, Op.intCmp, this]
/-- int to int. -/
theorem pu_conv {k' : IntKind} {s : TypeDesc} (hs : P.underlying t = some s) (hd : P.underlying t' = some (.int k')) (hx : ev l x = some (.int k a)) : Pu P l ⟨d, .convert t t' x, ty, ps, af, g⟩ (.int k' (k'.wrap a)) := by
  intro ρ h w
  cases s <;> simp [execOp, h _ _ hx, convert, run_underlying hs, run_underlying hd, Conv.intToInt]
theorem pu_len {A : Option Addr} {n c : Nat} {e : TypeId} (ht : P.underlying t = some (.slice e)) (hx : ev l x = some (.slice A n c)) :
    Pu P l ⟨d, .call { callee := .builtin .len, args := #[x], argTypes := #[t] }, ty, ps, af, g⟩ (.int .i64 n) := by
  intro ρ h w
  simp [execOp, resolve, invoke, builtin, h _ _ hx, Builtin.len_, run_underlying ht, goInt]
theorem pu_max (hx : ev l x = some (.int k a)) (hy : ev l y = some (.int k b)) {ts : Array TypeId} : Pu P l ⟨d, .call { callee := .builtin .max, args := #[x, y], argTypes := ts }, ty, ps, af, g⟩ (.int k (max a b)) := by
  intro ρ h w
  have : (if b > a then b else a) = max a b := by rw [Int.max_def]; split <;> split <;> omega
  simp [execOp, resolve, invoke, builtin, h _ _ hx, h _ _ hy, Builtin.max_, Builtin.max2, this]
theorem pu_min (hx : ev l x = some (.int k a)) (hy : ev l y = some (.int k b)) {ts : Array TypeId} : Pu P l ⟨d, .call { callee := .builtin .min, args := #[x, y], argTypes := ts }, ty, ps, af, g⟩ (.int k (min a b)) := by
  intro ρ h w
  have : (if b < a then b else a) = min a b := by rw [Int.min_def]; split <;> split <;> omega
  simp [execOp, resolve, invoke, builtin, h _ _ hx, h _ _ hy, Builtin.min_, Builtin.min2, this]
/-- An element's address. -/
theorem pu_index {A : Addr} {n c : Nat} {e : TypeId} {s by' : Nat} {z : Value} (ht : P.underlying t = some (.slice e)) (hz : Ty P e s by' z) (hx : ev l x = some (.slice (some A) n c)) (hy : ev l y = some (.int k a)) (h0 : 0 ≤ a) (h1 : a < n) :
    Pu P l ⟨d, .indexAddr t x y, ty, ps, af, g⟩ (.pointer (some (A.add (a.toNat * s)))) := by
  intro ρ h w
  obtain ⟨i, hi, rfl, _⟩ := hz.out
  simp [execOp, h _ _ hx, h _ _ hy, Instr.indexAt, asIntOf, run_underlying ht, sizeOf, typeInfo, hi, h0, h1]
/-- An element's address in an array variable. -/
theorem pu_indexA {A : Addr} {n : Nat} {e : TypeId} {s by' : Nat} {z : Value} (ht : P.underlying t = some (.array n e)) (hz : Ty P e s by' z) (hx : ev l x = some (.pointer (some A))) (hy : ev l y = some (.int k a)) (h0 : 0 ≤ a) (h1 : a < n) :
    Pu P l ⟨d, .indexAddr t x y, ty, ps, af, g⟩ (.pointer (some (A.add (a.toNat * s)))) := by
  intro ρ h w
  obtain ⟨i, hi, rfl, _⟩ := hz.out
  simp [execOp, h _ _ hx, h _ _ hy, Instr.indexAt, Instr.sureAddr, asIntOf, run_underlying ht, sizeOf, typeInfo, hi, h0, h1]
/-- An element's address in a slice that begins its block. -/
theorem pu_ix1 {A n c : Nat} {e : TypeId} {by' : Nat} {z : Value} (ht : P.underlying t = some (.slice e)) (hz : Ty P e 1 by' z) (hx : ev l x = some (.slice (some ⟨A, 0, none⟩) n c)) (hy : ev l y = some (.int k a)) (h0 : 0 ≤ a) (h1 : a < n) :
    Pu P l ⟨d, .indexAddr t x y, ty, ps, af, g⟩ (.pointer (some ⟨A, a.toNat, none⟩)) := by
  have := pu_index (P := P) (d := d) (ty := ty) (ps := ps) (af := af) (g := g) ht hz hx hy h0 h1
  rwa [show (⟨A, 0, none⟩ : Addr).add (a.toNat * 1) = ⟨A, a.toNat, none⟩ from by unfold Addr.add; split <;> simp_all] at this
theorem pu_ixs {A n c : Nat} {e : TypeId} {s by' : Nat} {z : Value} (ht : P.underlying t = some (.slice e)) (hz : Ty P e s by' z) (hx : ev l x = some (.slice (some ⟨A, 0, none⟩) n c)) (hy : ev l y = some (.int k a)) (h0 : 0 ≤ a) (h1 : a < n) :
    Pu P l ⟨d, .indexAddr t x y, ty, ps, af, g⟩ (.pointer (some ⟨A, a.toNat * s, none⟩)) := by
  have := pu_index (P := P) (d := d) (ty := ty) (ps := ps) (af := af) (g := g) ht hz hx hy h0 h1
  rwa [show (⟨A, 0, none⟩ : Addr).add (a.toNat * s) = ⟨A, a.toNat * s, none⟩ from by unfold Addr.add; split <;> simp_all] at this
/-- An element's address in an array variable at a place. -/
theorem pu_ixA {b o : Nat} {n : Nat} {e : TypeId} {s by' : Nat} {z : Value} (ht : P.underlying t = some (.array n e)) (hz : Ty P e s by' z) (hx : ev l x = some (.pointer (some ⟨b, o, none⟩))) (hy : ev l y = some (.int k a)) (h0 : 0 ≤ a) (h1 : a < n) :
    Pu P l ⟨d, .indexAddr t x y, ty, ps, af, g⟩ (.pointer (some ⟨b, o + a.toNat * s, none⟩)) := by
  have := pu_indexA (P := P) (d := d) (ty := ty) (ps := ps) (af := af) (g := g) ht hz hx hy h0 h1
  rwa [show (⟨b, o, none⟩ : Addr).add (a.toNat * s) = ⟨b, o + a.toNat * s, none⟩ from by unfold Addr.add; split <;> simp_all] at this
/-- A field's address, at a place. -/
theorem pu_fld {b o off : Nat} {fs : Array Field} {f : Field} {i s by' : Nat} {z : Value} (ht : P.underlying t = some (.struct fs)) (hf : fs[i]? = some f) (ho : f.offset = off) (hz : Ty P f.type s by' z) (hs : Nat.ble 1 s = true) (hx : ev l x = some (.pointer (some ⟨b, o, none⟩))) :
    Pu P l ⟨d, .fieldAddr t x i, ty, ps, af, g⟩ (.pointer (some ⟨b, o + off, none⟩)) := by
  intro ρ h w
  subst ho
  obtain ⟨j, hj, rfl, _⟩ := hz.out
  have hne : j.size ≠ 0 := by have := Nat.le_of_ble_eq_true hs; omega
  have : (⟨b, o, none⟩ : Addr).add f.offset = ⟨b, o + f.offset, none⟩ := by unfold Addr.add; split <;> simp_all
  simp [execOp, h _ _ hx, Instr.fieldAt, Instr.sureAddr, run_underlying ht, hf, fieldPlace, sizeOf, typeInfo, hj, hne, this]
/-- A field's address. -/
theorem pu_fieldAddr {A : Addr} {fs : Array Field} {f : Field} {i s by' : Nat} {z : Value} (ht : P.underlying t = some (.struct fs)) (hf : fs[i]? = some f) (hz : Ty P f.type s by' z) (hs : Nat.ble 1 s = true) (hx : ev l x = some (.pointer (some A))) :
    Pu P l ⟨d, .fieldAddr t x i, ty, ps, af, g⟩ (.pointer (some (A.add f.offset))) := by
  intro ρ h w
  obtain ⟨j, hj, rfl, _⟩ := hz.out
  have hne : j.size ≠ 0 := by have := Nat.le_of_ble_eq_true hs; omega
  simp [execOp, h _ _ hx, Instr.fieldAt, Instr.sureAddr, run_underlying ht, hf, fieldPlace, sizeOf, typeInfo, hj, hne]
theorem pu_nilCheck {A : Addr} (hx : ev l x = some (.pointer (some A))) : Pu P l ⟨d, .nilCheck x, ty, ps, af, g⟩ (.pointer (some A)) := by
  intro ρ h w
  simp [execOp, h _ _ hx]
end
end Go.Proofs.Ytdpbfdjpeofbmaa.L
