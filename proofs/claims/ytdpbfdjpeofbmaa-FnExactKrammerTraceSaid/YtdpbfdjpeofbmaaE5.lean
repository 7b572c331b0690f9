/- Products of the matrices of letters, with a map of those that are known. -/
import Derived.Test.YtdpbfdjpeofbmaaE4
import Derived.Test.YtdpbfdjpeofbmaaL15
namespace Go.Proofs.Ytdpbfdjpeofbmaa.L
set_option linter.unusedVariables false
set_option maxRecDepth 100000

/-- A matrix over the field that has an inverse. -/
structure Good (d : Nat) (M : List (List Int)) : Prop where
  fq : Fq d M
  inj : ∀ v, Ker d M v → ∀ j, j < d → Dv (v j)
theorem Fq.fm {d : Nat} {M : List (List Int)} (h : Fq d M) (h1 : 1 ≤ d) (h2 : d ≤ 28) : Fm M := by
  refine ⟨by have := h.1; omega, by have := h.1; omega, fun xs hx => ?_⟩
  obtain ⟨i, hi, rfl⟩ := List.mem_iff_getElem.1 hx
  have hr := h.2 i (by omega) (by have := h.1; omega)
  have e : rr M i = M[i] := by unfold rr; simp [List.getD_eq_getElem?_getD, hi]
  rw [e] at hr
  refine ⟨by rw [hr.1, h.1], fun x hx => ?_⟩
  obtain ⟨j, hj, rfl⟩ := List.mem_iff_getElem.1 hx
  have := hr.2 j (by omega) (by omega)
  have e2 : rd2 M i j = M[i][j] := by unfold rd2; rw [e]; unfold rd; simp [List.getD_eq_getElem?_getD, hj]
  rw [e2] at this
  omega
theorem augM_rd2 {xss : List (List Int)} (h : Fm xss) {i j : Nat} (hi : i < xss.length) (hj : j < xss.length) : rd2 (augM xss) i j = rd2 xss i j := by
  have e : rr (augM xss) i = rr xss i ++ unitAt xss.length i 1 := by
    unfold augM
    show List.getD _ _ _ = _
    rw [List.getD_eq_getElem?_getD, Int.toNat_natCast, List.getElem?_map, List.getElem?_range hi]
    rfl
  have := (h.fr hi).1
  unfold rd2
  rw [e]
  unfold rd
  rw [List.getD_eq_getElem?_getD, List.getD_eq_getElem?_getD, Int.toNat_natCast, List.getElem?_append_left (by omega)]
theorem Good.inv {d : Nat} {M : List (List Int)} (h : Good d M) (h1 : 1 ≤ d) (h2 : d ≤ 28) : Fq d (invF M) := by
  have hF := h.fq.fm h1 h2
  have hl := h.fq.1
  have hA := augM_ok hF
  rw [hl] at hA
  obtain ⟨s, hs, _, _⟩ := gj_inj hA (by omega) (fun v hv => h.inj v fun i hi => by
    have := hv i hi
    rwa [sumN_congr (g := fun j => rd2 M i j * v j) fun j hj => by rw [augM_rd2 hF (by omega) (by omega)]] at this) d (Nat.le_refl _)
  have hi : invF M = s.1.map (List.drop d) := by unfold invF; rw [hl, hs]
  have hR := (gjTo_ok (by omega) hA d (Nat.le_refl _) s.1 s.2 hs).1
  obtain ⟨_, hok⟩ := invF_ok hF
  have hlen : (invF M).length = d := by rw [hi, List.length_map, hR.len]
  refine ⟨hlen, fun i h3 h4 => ?_⟩
  obtain ⟨g1, g2⟩ := hok _ (rr_mem (i := i) h3 (by omega))
  rw [hl] at g1
  exact ⟨g1, fun j h5 h6 => by have := g2.rd h5 (by omega); exact this⟩
def ltr (LM : Int → List (List Int)) (l : Int) : List (List Int) := if l < 0 then invF (LM (max l (-l))) else LM (max l (-l))
def prodF (d : Nat) (LM : Int → List (List Int)) (ls : List Int) (k : Nat) : List (List Int) := (ls.take k).foldl (fun M l => mulM M (ltr LM l)) (idM d)
theorem prodF_succ {d : Nat} {LM : Int → List (List Int)} {ls : List Int} {k : Nat} (h : k < ls.length) : prodF d LM ls (k + 1) = mulM (prodF d LM ls k) (ltr LM (rd ls k)) := foldl_take _ _ _ _ h
theorem idM_fq (d : Nat) : Fq d (idM d) := by
  have e : idM d = unM d 1 := rfl
  refine ⟨by rw [e, unM_length], fun i h0 h1 => ?_⟩
  obtain ⟨a, rfl⟩ : ∃ a : Nat, i = a := ⟨i.toNat, by omega⟩
  have hr := unM_rr (n := d) (i := a) (k := 1) (by omega)
  obtain ⟨h3, h4⟩ := unitAt_ok (n := d) (x := a) (p := 10007) (k := 1) (by omega)
  unfold rd2
  rw [e, hr]
  exact ⟨h3, fun j h5 h6 => h4.rd h5 (by omega)⟩
theorem prodF_fq {d : Nat} {LM : Int → List (List Int)} {ls : List Int} (k : Nat) : Fq d (prodF d LM ls k) := by
  have key : ∀ (xs : List Int) (M : List (List Int)), Fq d M → Fq d (xs.foldl (fun M l => mulM M (ltr LM l)) M) := by
    intro xs
    induction xs with
    | nil => intro M h; exact h
    | cons x xs ih => intro M h; exact ih _ (Fq.mul h.1)
  exact key _ _ (idM_fq d)
theorem ltr_fq {n : Int} {d : Nat} {LM : Int → List (List Int)} (hG : ∀ k : Int, 1 ≤ k → k ≤ n - 1 → Good d (LM k)) (h1 : 1 ≤ d) (h2 : d ≤ 28) {l : Int} (hl : Lt n l) : Fq d (ltr LM l) := by
  have hm := pq_max hl
  have hg := hG _ hm.1 hm.2
  unfold ltr
  split
  · exact hg.inv h1 h2
  · exact hg.fq
/-! ### What is read stays as maps turn -/
theorem cell_not_map {w : World} {a : Addr} {u : Value} {r : Nat} {α : Type} [DecidableEq α] {kv : α → Value} {ms : List (α × Value)} (h : w.cell? a = some u) (hm : MapH kv r ms w) : ¬ a.block = r := by
  intro e
  obtain ⟨es, c, hh, _⟩ := hm
  unfold World.cell? at h
  rw [e, hh] at h
  simp at h
theorem Rs.keepF {F : Nat → Prop} {w w' : World} {sz : Nat} {v : Value} {n : Nat} {vs : List Value} (h : Rs w sz v n vs) (hk : Kp F w w') (hf : ∀ a u, w.cell? a = some u → ¬ F a.block) : Rs w' sz v n vs := by
  obtain ⟨A, c, e, hc, hl, hr⟩ := h
  refine ⟨A, c, e, hc, hl, fun j u hj => ?_⟩
  obtain ⟨a, ha, hcell⟩ := hr j u hj
  exact ⟨a, ha, hk.cell hcell (hf _ _ hcell)⟩
theorem RM.keepF {F : Nat → Prop} {w w' : World} {v : Value} {xss : List (List Int)} (h : RM w v xss) (hk : Kp F w w') (hf : ∀ a u, w.cell? a = some u → ¬ F a.block) : RM w' v xss := by
  obtain ⟨hds, h1, h2⟩ := h
  exact ⟨hds, h1.keepF hk hf, fun i xs hi => by obtain ⟨q, hq, hr⟩ := h2 i xs hi; exact ⟨q, hq, Rs.keepF hr hk hf⟩⟩
/-- The matrices that are known. -/
def Kn (n : Int) (LM : Int → List (List Int)) (ms : List (Int × Value)) (w : World) : Prop := ∀ m ∈ ms, Lt n m.1 ∧ (∃ a c e, m.2 = .slice (some a) c e) ∧ RM w m.2 (ltr LM m.1)
theorem Kn.keep {n : Int} {LM : Int → List (List Int)} {ms : List (Int × Value)} {w w' : World} (h : Kn n LM ms w) (hk : Kp no w w') : Kn n LM ms w' := fun m hm => ⟨(h m hm).1, (h m hm).2.1, (h m hm).2.2.keep hk⟩
theorem mget_mem {α : Type} [DecidableEq α] {ms : List (α × Value)} {a : α} {v : Value} (h : mget ms a = some v) : (a, v) ∈ ms := by
  induction ms with
  | nil => cases h
  | cons m ms ih =>
    obtain ⟨b, u⟩ := m
    simp only [mget] at h
    split at h
    · rename_i e
      subst e
      cases h
      simp
    · simp [ih h]
/-- A slice held against nil. -/
theorem pu_eqlSN {P : Program} {l : Env} {d : Option Tmp} {ty : TypeId} {ps : String} {af : Array Edge} {g : Option (Nat × Bool)} {x : Operand} {t t' e : TypeId} {A : Option Addr} {n c : Nat} (ht : P.underlying t = some (.slice e)) (hx : ev l x = some (.slice A n c)) :
    Pu P l ⟨d, .binOp .eql t x (.const (.slice none 0 0)) t', ty, ps, af, g⟩ (.bool (decide (A = none))) := by
  intro ρ h w
  have h2 : ρ (.const (.slice none 0 0)) = .slice none 0 0 := h _ _ rfl
  have key : ∀ d, (Op.equalIn (d + 1) t (.slice A n c) (.slice none 0 0)).run P w = .ok (decide (A = none)) w := fun d => by
    cases A <;> simp [Op.equalIn, run_underlying ht]
  have key2 := key 9999
  simp only [execOp, h _ _ hx, h2, eqGuard, Sem.run_bind, Sem.run_pure, Result.andThen_ok, binOp, Op.equal, Op.maxDepth]
  simp [key2]
end Go.Proofs.Ytdpbfdjpeofbmaa.L
