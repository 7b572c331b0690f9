/- The light logic, part 11: the arguments that come in, opened. -/
import Derived.Test.YtdpbfdjpeofbmaaA0
import Derived.Test.YtdpbfdjpeofbmaaL10
import Derived.WalkKit
import Derived.ProofKit
import Derived.OpenShut
import Derived.ChangeOld
import Derived.Below
import Derived.Carry
import Derived.SizedLaws
import Derived.Lib.SmallJoins
import Derived.Deep.Matrix
namespace Go.Proofs.Ytdpbfdjpeofbmaa.L
open Go.ChangeShapes Go.WideShapes Go.ChangeAt Go.RowKit Go.Joins
set_option linter.unusedVariables false
set_option maxRecDepth 100000
def InW (xs : List Int) : Prop := ∀ x ∈ xs, -9223372036854775808 ≤ x ∧ x ≤ 9223372036854775807
theorem wf64 {x : Int} (h : (Lit.int .i64 x).wf = true) : -9223372036854775808 ≤ x ∧ x ≤ 9223372036854775807 := by
  simpa [Lit.wf, IntKind.min, IntKind.max, IntKind.signed, IntKind.bits] using h
theorem ri_of {W : World} {a : Addr} {len cap : Nat} {zs : List Int} (hl : len ≤ cap) (hz : zs.length = cap) (hc : ∀ i, i < zs.length → W.cell? (a.add i) = some (.int .i64 (zs.getD i 0))) : RI W (.slice (some a) len cap) (zs.take len) := by
  have hlen : (zs.take len).length = len := by simp; omega
  unfold RI
  rw [hlen]
  refine ⟨some a, cap, rfl, hl, by rw [nums_length, hlen, Nat.mul_one], fun j u hj => ⟨a, rfl, ?_⟩⟩
  have hjl : j < len := by have := (List.getElem?_eq_some_iff.1 hj).1; rwa [nums_length, hlen] at this
  rw [hc j (by omega)]
  have hjz : j < zs.length := by omega
  rw [← hj]
  simp [nums, List.getD_eq_getElem?_getD, hjz, hjl]
theorem ri_nil (W : World) : RI W (.slice none 0 0) [] := ⟨none, 0, rfl, Nat.le_refl _, rfl, fun j u h => by simp [nums] at h⟩
section
variable {H : Type} {enc : TypeId × Value → H} {W : World}
theorem open_ints' {n : Nat} {v : Value} {y : DataW H × List MemPlace} (h : DataW.trod enc Try.prog W 0 (fun _ => true) true n 22 [v] = some y) :
    ∃ xs, RI W v xs ∧ xs.length ≤ 9223372036854775807 ∧ InW xs := by
  rcases open_ints Try.underlying22 Try.underlying2 (by kernel_rfl) h with ⟨hcs, _⟩ | ⟨x, l, c, zs, hcs, _, hl, hm, hz, _, hcell, hwz⟩
  · obtain rfl : v = .slice none 0 0 := by simpa using hcs
    exact ⟨[], ri_nil W, by simp, fun x hx => by simp at hx⟩
  · obtain rfl : v = .slice (some x) l c := by simpa using hcs
    simp only [if_true] at hz
    simp only [maxLen] at hm
    exact ⟨zs.take l, ri_of hl hz hcell, by simp; omega, fun y hy => wf64 (hwz y (List.mem_of_mem_take hy))⟩
theorem open_braid {base : Nat} {v : Value} {d : DataW H} {p : List MemPlace} (hv : Value.okWide Try.prog W .any base 24 v) (h : DataW.Trod enc Try.prog W 0 (fun _ => true) true 24 v d p) :
    ∃ n u xs, v = .agg #[.int .i64 n, u] ∧ RI W u xs ∧ xs.length ≤ 9223372036854775807 ∧ InW xs ∧ -9223372036854775808 ≤ n ∧ n ≤ 9223372036854775807 := by
  obtain ⟨c0, c1, y0, y1, m, rfl, rfl, rfl, hy0, hy1⟩ := open_agg2 Try.underlying24 (by kernel_rfl) (by kernel_rfl) hv h
  obtain ⟨n, e0, _, hw⟩ := DataW.trod_int Try.underlying2 hy0
  obtain ⟨xs, hx⟩ := open_ints' hy1
  simp at e0
  subst e0
  exact ⟨n, c1, xs, rfl, hx.1, hx.2.1, hx.2.2, wf64 hw⟩
/-- Rows that come in: how long they are, and that all numbers are in range. -/
theorem open_rows {base : Nat} {v : Value} {d : DataW H} {p : List MemPlace} (hv : Value.okWide Try.prog W .any base 32 v) (h : DataW.Trod enc Try.prog W 0 (fun _ => true) true 32 v d p) :
    ∃ xss, RM W v xss ∧ xss.length ≤ 9223372036854775807 ∧ ∀ xs ∈ xss, xs.length ≤ 9223372036854775807 ∧ InW xs := by
  obtain ⟨a0, l0, c0, rfl⟩ := okWide_slice Try.underlying32 hv
  obtain ⟨fuel, hf⟩ := h
  rcases Deep.open_int_rows Try.underlying32 Try.underlying22 Try.underlying2 (by kernel_rfl) (by kernel_rfl) hf with ⟨hcs, _⟩ | ⟨a, len, cap, A, L, C, Z, hcs, _, hl, hm, _, hr⟩
  · simp [Value.cells] at hcs
    obtain ⟨rfl, rfl, rfl⟩ := hcs
    exact ⟨[], ⟨[], ⟨none, 0, rfl, Nat.le_refl _, rfl, fun j u h => by simp at h⟩, fun i xs h => by simp at h⟩, by simp, fun xs hx => by simp at hx⟩
  · simp [Value.cells] at hcs
    obtain ⟨rfl, rfl, rfl⟩ := hcs
    simp only [maxLen] at hm
    have row : ∀ r, r < c0 → RI W (.slice (A r) (L r) (C r)) ((Z r).take (L r)) := by
      intro r hrc
      obtain ⟨h1, h2, h3, h4, h5, h6, h7⟩ := hr r hrc
      cases hA : A r with
      | none =>
        have e := h6 hA
        have e2 : L r = 0 := by omega
        rw [e, e2]
        exact ri_nil W
      | some a' => exact ri_of h2 h4 fun i hi => (h7 a' hA).2 i (by omega)
    refine ⟨(List.range l0).map fun r => (Z r).take (L r), ⟨(List.range l0).map fun r => .slice (A r) (L r) (C r), ?_, fun i xs hi => ?_⟩, by simp; omega, fun xs hx => ?_⟩
    · refine ⟨some a, c0, by simp, by simpa using hl, by simp, fun j u hj => ⟨a, rfl, ?_⟩⟩
      have hjl : j < l0 := by have := (List.getElem?_eq_some_iff.1 hj).1; simpa using this
      rw [(hr j (by omega)).1, ← hj]
      simp [hjl]
    · have hil : i < l0 := by have := (List.getElem?_eq_some_iff.1 hi).1; simpa using this
      refine ⟨.slice (A i) (L i) (C i), by simp [hil], ?_⟩
      have : xs = (Z i).take (L i) := by simpa [hil] using hi.symm
      rw [this]
      exact row i (by omega)
    · simp only [List.mem_map, List.mem_range] at hx
      obtain ⟨r, hrl, rfl⟩ := hx
      obtain ⟨h1, h2, h3, h4, h5, h6, h7⟩ := hr r (by omega)
      simp only [maxLen] at h3
      exact ⟨by simp; omega, fun y hy => wf64 (h5 y (List.mem_of_mem_take hy))⟩
end
theorem ownK : ownKnob Try.prog.godebug = none := by kernel_rfl
theorem laidK : laidOutB Try.prog = true := by kernel_rfl
end Go.Proofs.Ytdpbfdjpeofbmaa.L
