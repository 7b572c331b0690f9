/- Components of a closure: the same walk along the ends, numbered or listed; sums over pairs. -/
import Derived.Test.YtdpbfdjpeofbmaaD5
namespace Go.Proofs.Ytdpbfdjpeofbmaa.L
set_option linter.unusedVariables false

/-- From y on along the ends e, as long as places are not numbered: they get the number c. -/
def trav (e : List Int) (c : Int) : Nat → List Int → Int → List Int × List Int
  | 0, wh, _ => (wh, [])
  | f + 1, wh, y => if rd wh y < 0 then ((trav e c f (wh.set y.toNat c) (rd e y)).1, y :: (trav e c f (wh.set y.toNat c) (rd e y)).2) else (wh, [])
def neg (wh : List Int) : Nat := wh.countP fun x => decide (x < 0)
def travF (e : List Int) (c : Int) (wh : List Int) (y : Int) : List Int × List Int := trav e c (neg wh) wh y
theorem neg_set {wh : List Int} {y c : Int} (h0 : 0 ≤ y) (h1 : y < wh.length) (hy : rd wh y < 0) (hc : 0 ≤ c) : neg wh = neg (wh.set y.toNat c) + 1 := by
  have hlt : y.toNat < wh.length := by omega
  have hr : wh[y.toNat] = rd wh y := by simp [rd, List.getD_eq_getElem?_getD, hlt]
  have hp : 0 < wh.countP fun x => decide (x < 0) := List.countP_pos_iff.2 ⟨wh[y.toNat], List.getElem_mem hlt, by rw [hr]; simpa using hy⟩
  unfold neg
  rw [List.countP_set hlt, hr, if_pos (by simpa using hy), if_neg (by simp; omega)]
  omega
theorem travF_step {e wh : List Int} {c y : Int} (h0 : 0 ≤ y) (h1 : y < wh.length) (hc : 0 ≤ c) (hy : rd wh y < 0) : travF e c wh y = ((travF e c (wh.set y.toNat c) (rd e y)).1, y :: (travF e c (wh.set y.toNat c) (rd e y)).2) := by
  unfold travF
  rw [neg_set h0 h1 hy hc]
  show trav e c (_ + 1) wh y = _
  rw [trav, if_pos hy]
theorem travF_stop {e wh : List Int} {c y : Int} (hy : ¬ rd wh y < 0) : travF e c wh y = (wh, []) := by
  unfold travF
  cases neg wh with
  | zero => rfl
  | succ f => rw [trav, if_neg hy]
structure CS where
  wh : List Int
  cnt : Nat
  ls : List (List Int)
def compS (e : List Int) : Nat → CS
  | 0 => ⟨List.replicate 8 (-1), 0, []⟩
  | k + 1 => if rd (compS e k).wh k < 0 then ⟨(travF e (compS e k).cnt (compS e k).wh k).1, (compS e k).cnt + 1, (compS e k).ls ++ [(travF e (compS e k).cnt (compS e k).wh k).2]⟩ else compS e k
def cls (wh : List Int) (n : Nat) (i : Int) : List Int := (iota n).filter fun x => decide (rd wh x = i)
theorem mem_iota {n : Nat} {x : Int} : x ∈ iota n ↔ 0 ≤ x ∧ x < n := by
  simp only [iota, List.mem_map, List.mem_range]
  refine ⟨fun ⟨i, hi, e⟩ => by omega, fun h => ⟨x.toNat, by omega, by omega⟩⟩
theorem iota_nodup (n : Nat) : (iota n).Nodup := by
  unfold iota
  exact List.Pairwise.map _ (fun a b h e => h (by omega)) List.nodup_range
theorem cls_nodup (wh : List Int) (n : Nat) (i : Int) : (cls wh n i).Nodup := (iota_nodup n).filter _
theorem mem_cls {wh : List Int} {n : Nat} {i x : Int} : x ∈ cls wh n i ↔ (0 ≤ x ∧ x < n) ∧ rd wh x = i := by
  unfold cls
  rw [List.mem_filter, mem_iota]
  simp
theorem cls_set_same {wh : List Int} {n : Nat} {c y : Int} (h0 : 0 ≤ y) (h1 : y < n) (h2 : n ≤ wh.length) (hy : rd wh y ≠ c) : (cls (wh.set y.toNat c) n c).Perm (y :: cls wh n c) := by
  refine (List.perm_ext_iff_of_nodup (cls_nodup _ _ _) (List.nodup_cons.2 ⟨fun h => hy (mem_cls.1 h).2, cls_nodup _ _ _⟩)).2 fun x => ?_
  rw [List.mem_cons, mem_cls, mem_cls, rd_set]
  by_cases hx : x = y
  · subst hx
    simp only [true_or, iff_true]
    refine ⟨⟨h0, h1⟩, ?_⟩
    rw [if_pos ⟨trivial, by omega⟩]
  · simp only [hx, false_or]
    refine ⟨fun ⟨h, h'⟩ => ⟨h, ?_⟩, fun ⟨h, h'⟩ => ⟨h, ?_⟩⟩
    · rwa [if_neg (by omega)] at h'
    · rwa [if_neg (by omega)]
theorem cls_set_other {wh : List Int} {n : Nat} {c y i : Int} (h0 : 0 ≤ y) (hy : rd wh y ≠ i) (hc : c ≠ i) : cls (wh.set y.toNat c) n i = cls wh n i := by
  unfold cls
  refine List.filter_congr fun x hx => ?_
  have := mem_iota.1 hx
  rw [rd_set]
  by_cases h : x = y
  · subst h
    split
    · simp [hy, hc]
    · rfl
  · rw [if_neg (by omega)]
theorem trav_ok {e : List Int} {n : Nat} (he : e.length = n ∧ InN n e) {c : Int} (hc : 0 ≤ c) : ∀ (f : Nat) (wh : List Int) (y : Int), 0 ≤ y → y < n → n ≤ wh.length → (∀ x : Int, 0 ≤ x → x < n → -1 ≤ rd wh x ∧ rd wh x ≤ c) →
    (trav e c f wh y).1.length = wh.length ∧ (∀ x : Int, 0 ≤ x → x < n → -1 ≤ rd (trav e c f wh y).1 x ∧ rd (trav e c f wh y).1 x ≤ c) ∧ (∀ x : Int, 0 ≤ x → x < n → 0 ≤ rd wh x → rd (trav e c f wh y).1 x = rd wh x) ∧
      (cls (trav e c f wh y).1 n c).Perm ((trav e c f wh y).2 ++ cls wh n c) ∧ (∀ i, 0 ≤ i → i ≠ c → cls (trav e c f wh y).1 n i = cls wh n i) ∧ ∀ x ∈ (trav e c f wh y).2, 0 ≤ x ∧ x < n
  | 0, wh, y, h0, h1, hl, hw => ⟨rfl, hw, fun _ _ _ _ => rfl, .refl _, fun _ _ _ => rfl, fun x hx => by simp [trav] at hx⟩
  | f + 1, wh, y, h0, h1, hl, hw => by
    rw [trav]
    split
    · rename_i hy
      have hr := he.2.rd (i := y) h0 (by have := he.1; omega)
      have ih := trav_ok he hc f (wh.set y.toNat c) (rd e y) hr.1 hr.2 (by rw [List.length_set]; exact hl) (fun x hx0 hx1 => by
        rw [rd_set]
        have := hw x hx0 hx1
        split <;> omega)
      obtain ⟨i1, i2, i3, i4, i5, i6⟩ := ih
      refine ⟨by rw [i1, List.length_set], i2, fun x hx0 hx1 hx => ?_, ?_, fun i hi0 hic => ?_, fun x hx => ?_⟩
      · have hne : x ≠ y := fun e => by subst e; omega
        have e1 : rd (wh.set y.toNat c) x = rd wh x := by rw [rd_set, if_neg (by omega)]
        rw [i3 x hx0 hx1 (by rw [e1]; exact hx), e1]
      · refine i4.trans ?_
        have := (cls_set_same (n := n) (c := c) h0 h1 hl (by omega)).append_left (trav e c f (wh.set y.toNat c) (rd e y)).2
        refine this.trans ?_
        exact List.perm_middle
      · rw [i5 i hi0 hic]
        exact cls_set_other h0 (by omega) (fun e => hic e.symm)
      · rcases List.mem_cons.1 hx with rfl | hx
        · exact ⟨h0, h1⟩
        · exact i6 x hx
    · exact ⟨rfl, hw, fun _ _ _ _ => rfl, .refl _, fun _ _ _ => rfl, fun x hx => by simp at hx⟩
/-- What holds of the numbers and lists when the strands before k have been seen. -/
structure CSok (n k : Nat) (s : CS) : Prop where
  len : s.wh.length = 8
  lsl : s.ls.length = s.cnt
  rng : ∀ x : Int, 0 ≤ x → x < n → -1 ≤ rd s.wh x ∧ rd s.wh x < s.cnt
  got : ∀ x : Int, 0 ≤ x → x < k → 0 ≤ rd s.wh x
  cl : ∀ i : Nat, i < s.cnt → (rr s.ls i).Perm (cls s.wh n i)
theorem rr_append_left {a b : List (List Int)} {i : Nat} (h : i < a.length) : rr (a ++ b) i = rr a i := by
  unfold rr
  simp only [Int.toNat_natCast, List.getD_eq_getElem?_getD]
  rw [List.getElem?_append_left h]
theorem rr_append_end {a : List (List Int)} {x : List Int} : rr (a ++ [x]) a.length = x := by
  unfold rr
  simp [List.getD_eq_getElem?_getD]
theorem trav_get {e wh : List Int} {c y : Int} (h0 : 0 ≤ y) (h1 : y < wh.length) (hc : 0 ≤ c) (hy : rd wh y < 0) {n : Nat} (he : e.length = n ∧ InN n e) (hyn : y < n) (hn : n ≤ wh.length) (hw : ∀ x : Int, 0 ≤ x → x < n → -1 ≤ rd wh x ∧ rd wh x ≤ c) : rd (travF e c wh y).1 y = c := by
  rw [travF_step h0 h1 hc hy]
  have hr := he.2.rd (i := y) h0 (by have := he.1; omega)
  have e1 : rd (wh.set y.toNat c) y = c := by rw [rd_set, if_pos ⟨rfl, by omega⟩]
  have := (trav_ok he hc (neg (wh.set y.toNat c)) (wh.set y.toNat c) (rd e y) hr.1 hr.2 (by rw [List.length_set]; exact hn) (fun x hx0 hx1 => by
        rw [rd_set]
        have := hw x hx0 hx1
        split <;> omega)).2.2.1 y h0 hyn (by rw [e1]; exact hc)
  show rd (travF e c (wh.set y.toNat c) (rd e y)).1 y = c
  unfold travF
  rw [this, e1]
theorem compS_ok {e : List Int} {n : Nat} (hn : n ≤ 8) (he : e.length = n ∧ InN n e) : ∀ k, k ≤ n → CSok n k (compS e k) ∧ (compS e k).cnt ≤ k
  | 0, _ => by
    refine ⟨⟨rfl, rfl, fun x hx0 hx1 => ?_, fun x h0 h1 => by omega, fun i h => by simp [compS] at h⟩, Nat.le_refl _⟩
    have : rd (List.replicate 8 (-1)) x = -1 := by
      unfold rd
      rw [List.getD_eq_getElem?_getD, List.getElem?_replicate, if_pos (by omega)]
      rfl
    show -1 ≤ rd (List.replicate 8 (-1)) x ∧ rd (List.replicate 8 (-1)) x < ((0 : Nat) : Int)
    rw [this]
    omega
  | k + 1, hk => by
    obtain ⟨ih, ihc⟩ := compS_ok hn he k (by omega)
    rw [compS]
    split
    · rename_i hneg
      have hw : ∀ x : Int, 0 ≤ x → x < n → -1 ≤ rd (compS e k).wh x ∧ rd (compS e k).wh x ≤ ((compS e k).cnt : Int) := fun x h0 h1 => by have := ih.rng x h0 h1; omega
      have ht := trav_ok he (c := ((compS e k).cnt : Int)) (by omega) (neg (compS e k).wh) (compS e k).wh k (by omega) (by omega) (by have := ih.len; omega) hw
      have hg := trav_get (e := e) (wh := (compS e k).wh) (c := ((compS e k).cnt : Int)) (y := k) (by omega) (by have := ih.len; omega) (by omega) hneg he (by omega) (by have := ih.len; omega) hw
      change _ ∧ _ at ht
      rw [show trav e ((compS e k).cnt : Int) (neg (compS e k).wh) (compS e k).wh (k : Int) = travF e (compS e k).cnt (compS e k).wh k from rfl] at ht
      generalize travF e ((compS e k).cnt : Int) (compS e k).wh (k : Int) = t at ht hg
      obtain ⟨t1, t2, t3, t4, t5, t6⟩ := ht
      refine ⟨⟨by rw [t1]; exact ih.len, by simp [ih.lsl], fun x h0 h1 => ?_, fun x h0 h1 => ?_, fun i hi => ?_⟩, by show (compS e k).cnt + 1 ≤ k + 1; omega⟩
      · have := t2 x h0 h1
        show -1 ≤ rd t.1 x ∧ rd t.1 x < (((compS e k).cnt + 1 : Nat) : Int)
        omega
      · show 0 ≤ rd t.1 x
        by_cases hx : x = k
        · subst hx; rw [hg]; omega
        · have hgx := ih.got x h0 (by omega)
          rw [t3 x h0 (by omega) hgx]
          exact hgx
      · have hi : i < (compS e k).cnt + 1 := hi
        by_cases hic : i = (compS e k).cnt
        · subst hic
          show (rr ((compS e k).ls ++ [t.2]) _).Perm (cls t.1 n _)
          rw [← ih.lsl, rr_append_end, ih.lsl]
          have hnil : cls (compS e k).wh n (compS e k).cnt = [] := by
            refine List.eq_nil_iff_forall_not_mem.2 fun x hx => ?_
            have h := mem_cls.1 hx
            have := ih.rng x h.1.1 h.1.2
            omega
          rw [hnil, List.append_nil] at t4
          exact t4.symm
        · show (rr ((compS e k).ls ++ [t.2]) _).Perm (cls t.1 n _)
          rw [rr_append_left (by have := ih.lsl; omega), t5 i (by omega) (by omega)]
          exact ih.cl i (by omega)
    · rename_i hpos
      refine ⟨⟨ih.len, ih.lsl, ih.rng, fun x h0 h1 => ?_, ih.cl⟩, by omega⟩
      by_cases hx : x = k
      · subst hx; omega
      · exact ih.got x h0 (by omega)
end Go.Proofs.Ytdpbfdjpeofbmaa.L
