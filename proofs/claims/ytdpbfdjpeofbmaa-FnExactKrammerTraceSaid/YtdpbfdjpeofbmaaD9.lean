/- Linking numbers of components: the program's sums over lists. -/
import Derived.Test.YtdpbfdjpeofbmaaD8
namespace Go.Proofs.Ytdpbfdjpeofbmaa.L
set_option linter.unusedVariables false
set_option maxRecDepth 100000

def sumL (f : Int → Int) : List Int → Int
  | [] => 0
  | x :: l => f x + sumL f l
theorem sumL_append (f : Int → Int) (a b : List Int) : sumL f (a ++ b) = sumL f a + sumL f b := by
  induction a with
  | nil => simp [sumL]
  | cons x a ih => simp only [List.cons_append, sumL, ih]; omega
theorem sumL_perm {f : Int → Int} {a b : List Int} (h : a.Perm b) : sumL f a = sumL f b := by
  induction h with
  | nil => rfl
  | cons x _ ih => simp only [sumL, ih]
  | swap x y l => simp only [sumL]; omega
  | trans _ _ h1 h2 => exact h1.trans h2
theorem sumL_congr {f g : Int → Int} {a : List Int} (h : ∀ x ∈ a, f x = g x) : sumL f a = sumL g a := by
  induction a with
  | nil => rfl
  | cons x a ih => simp only [sumL]; rw [h x (by simp), ih fun y hy => h y (by simp [hy])]
theorem sumL_bd {f : Int → Int} {B : Int} {a : List Int} (h : ∀ x ∈ a, -B ≤ f x ∧ f x ≤ B) : -(a.length * B) ≤ sumL f a ∧ sumL f a ≤ a.length * B := by
  induction a with
  | nil => simp [sumL]
  | cons x a ih =>
    have h1 := h x (by simp)
    have h2 := ih fun y hy => h y (by simp [hy])
    simp only [sumL, List.length_cons, Int.natCast_add, Int.add_mul]
    omega
theorem sumL_take {f : Int → Int} {a : List Int} {k : Nat} (h : k < a.length) : sumL f (a.take (k + 1)) = sumL f (a.take k) + f (rd a k) := by
  rw [take_rd h, sumL_append]
  simp [sumL]
def fmat (m : Nat) (f : Nat → Nat → Int) : List (List Int) := (List.range m).map fun i => (List.range m).map fun j => f i j
def updF (f : Nat → Nat → Int) (i k : Nat) (v : Int) : Nat → Nat → Int := fun a b => if a = i ∧ b = k then v else f a b
theorem fmat_length (m : Nat) (f : Nat → Nat → Int) : (fmat m f).length = m := by simp [fmat]
theorem fmat_rr {m : Nat} {f : Nat → Nat → Int} {i : Nat} (h : i < m) : rr (fmat m f) i = (List.range m).map fun j => f i j := by
  unfold rr fmat
  simp [List.getD_eq_getElem?_getD, h]
theorem fmat_rrl {m : Nat} {f : Nat → Nat → Int} {i : Int} (h0 : 0 ≤ i) (h : i < m) : (rr (fmat m f) i).length = m := by
  obtain ⟨j, rfl⟩ : ∃ j : Nat, i = j := ⟨i.toNat, by omega⟩
  rw [fmat_rr (by omega)]
  simp
theorem fmat_rd {m : Nat} {f : Nat → Nat → Int} {i k : Nat} (h : i < m) (h2 : k < m) : rd (rr (fmat m f) i) k = f i k := by
  rw [fmat_rr h]
  unfold rd
  simp [List.getD_eq_getElem?_getD, h2]
theorem fmat_congr {m : Nat} {f g : Nat → Nat → Int} (h : ∀ a b, a < m → b < m → f a b = g a b) : fmat m f = fmat m g := by
  unfold fmat
  refine List.map_congr_left fun a ha => List.map_congr_left fun b hb => h a b (by simpa using ha) (by simpa using hb)
theorem fmat_set {m : Nat} {f : Nat → Nat → Int} {i k : Nat} (h : i < m) (h2 : k < m) (v : Int) : set2 (fmat m f) i k v = fmat m (updF f i k v) := by
  unfold set2
  rw [fmat_rr h, Int.toNat_natCast, Int.toNat_natCast]
  refine List.ext_getElem? fun a => ?_
  rw [List.getElem?_set, fmat_length]
  by_cases ha : i = a
  · subst ha
    rw [if_pos rfl, if_pos h]
    unfold fmat
    rw [List.getElem?_map, List.getElem?_range h, Option.map_some]
    congr 1
    refine List.ext_getElem? fun b => ?_
    rw [List.getElem?_set]
    by_cases hb : k = b
    · subst hb
      simp [h2, updF]
    · rw [if_neg hb]
      by_cases hbm : b < m
      · simp only [List.getElem?_map, List.getElem?_range hbm, Option.map_some, updF]
        rw [if_neg (fun e => hb e.2.symm)]
      · rw [List.getElem?_eq_none (by simp; omega), List.getElem?_eq_none (by simp; omega)]
  · rw [if_neg ha]
    by_cases ham : a < m
    · unfold fmat
      simp only [List.getElem?_map, List.getElem?_range ham, Option.map_some]
      congr 1
      refine List.map_congr_left fun b _ => ?_
      simp only [updF]
      rw [if_neg (fun e => ha e.1.symm)]
    · rw [List.getElem?_eq_none (by rw [fmat_length]; omega), List.getElem?_eq_none (by rw [fmat_length]; omega)]
theorem fmat_zero (m : Nat) : List.replicate m (List.replicate m 0) = fmat m fun _ _ => 0 := by
  unfold fmat
  simp [List.map_const']
theorem updF_upd (f : Nat → Nat → Int) (i k : Nat) (v u : Int) : updF (updF f i k v) i k u = updF f i k u := by
  funext a b
  simp only [updF]
  split <;> rfl
/-- What the sums over two classes come to, halved. -/
def clR (T : List (List Int)) (W : List Int) (n : Nat) (i k : Nat) : Int := sumL (fun x => sumL (fun y => rd2 T x y) (cls W n k)) (cls W n i)
def clM (T : List (List Int)) (W : List Int) (n cnt : Nat) : List (List Int) := fmat cnt fun i k => half (clR T W n i k)
def clinkR (n : Int) (xs : List Int) : List (List Int) × Int := if ¬ Br n xs then ([], 1) else (clM (crsF n.toNat xs xs.length) (compS (endsF n.toNat xs) n.toNat).wh n.toNat (compS (endsF n.toNat xs) n.toNat).cnt, 0)
def doneF (R : Nat → Nat → Int) (i k : Nat) : Nat → Nat → Int := fun a b => if a < i ∨ (a = i ∧ b < k) then half (R a b) else 0
theorem doneF_next {R : Nat → Nat → Int} {i k : Nat} {m : Nat} : fmat m (updF (doneF R i k) i k (half (R i k))) = fmat m (doneF R i (k + 1)) := by
  refine fmat_congr fun a b _ _ => ?_
  simp only [updF, doneF]
  by_cases h : a = i ∧ b = k
  · rw [if_pos h, if_pos (by omega), h.1, h.2]
  · rw [if_neg h]
    by_cases h2 : a < i ∨ (a = i ∧ b < k)
    · rw [if_pos h2, if_pos (by omega)]
    · rw [if_neg h2, if_neg (by omega)]
theorem doneF_row {R : Nat → Nat → Int} {i : Nat} {m : Nat} : fmat m (doneF R i m) = fmat m (doneF R (i + 1) 0) := by
  refine fmat_congr fun a b _ hb => ?_
  simp only [doneF]
  by_cases h2 : a < i ∨ (a = i ∧ b < m)
  · rw [if_pos h2, if_pos (by omega)]
  · rw [if_neg h2, if_neg (by omega)]
theorem doneF_self {R : Nat → Nat → Int} {i k : Nat} {m : Nat} : fmat m (doneF R i k) = fmat m (updF (doneF R i k) i k 0) := by
  refine fmat_congr fun a b _ _ => ?_
  simp only [updF, doneF]
  by_cases h : a = i ∧ b = k
  · rw [if_pos h, if_neg (by omega)]
  · rw [if_neg h]
theorem doneF_all {R : Nat → Nat → Int} {m : Nat} : fmat m (doneF R m 0) = fmat m fun i k => half (R i k) := by
  refine fmat_congr fun a b ha _ => ?_
  simp only [doneF]
  rw [if_pos (by omega)]
theorem inner_bd {n : Nat} {B : Int} {T : List (List Int)} (h : Sq n B T) (hB : B ≤ 400) (x : Int) (l : List Int) : -(l.length * 400) ≤ sumL (fun y => rd2 T x y) l ∧ sumL (fun y => rd2 T x y) l ≤ l.length * 400 :=
  sumL_bd fun y _ => by
    have := h.2.2 x y
    show -400 ≤ rd2 T x y ∧ rd2 T x y ≤ 400
    omega
theorem outer_bd {n : Nat} {B : Int} {T : List (List Int)} (h : Sq n B T) (hB : B ≤ 400) {l2 : List Int} (h2 : l2.length ≤ 8) (l : List Int) : -(l.length * 3200) ≤ sumL (fun x => sumL (fun y => rd2 T x y) l2) l ∧ sumL (fun x => sumL (fun y => rd2 T x y) l2) l ≤ l.length * 3200 :=
  sumL_bd fun x _ => by
    have := inner_bd h hB x l2
    show -3200 ≤ sumL (fun y => rd2 T x y) l2 ∧ sumL (fun y => rd2 T x y) l2 ≤ 3200
    omega
theorem add_bd {S1 S2 z : Int} (h1 : -25600 ≤ S1 ∧ S1 ≤ 25600) (h2 : -3200 ≤ S2 ∧ S2 ≤ 3200) (h3 : -400 ≤ z ∧ z ≤ 400) : -9223372036854775808 ≤ S1 + S2 + z ∧ S1 + S2 + z ≤ 9223372036854775807 := by omega
theorem inner_bd8 {n : Nat} {B : Int} {T : List (List Int)} (h : Sq n B T) (hB : B ≤ 400) (x : Int) {l : List Int} (hl : l.length ≤ 8) (k : Nat) : -3200 ≤ sumL (fun y => rd2 T x y) (l.take k) ∧ sumL (fun y => rd2 T x y) (l.take k) ≤ 3200 := by
  have := inner_bd h hB x (l.take k)
  have h2 : (l.take k).length ≤ 8 := by rw [List.length_take]; omega
  omega
theorem outer_bd8 {n : Nat} {B : Int} {T : List (List Int)} (h : Sq n B T) (hB : B ≤ 400) {l2 : List Int} (h2 : l2.length ≤ 8) {l : List Int} (hl : l.length ≤ 8) (k : Nat) : -25600 ≤ sumL (fun x => sumL (fun y => rd2 T x y) l2) (l.take k) ∧ sumL (fun x => sumL (fun y => rd2 T x y) l2) (l.take k) ≤ 25600 := by
  have := outer_bd h hB h2 (l.take k)
  have h2 : (l.take k).length ≤ 8 := by rw [List.length_take]; omega
  omega
/-- What the lists are. -/
structure Lsts (W : List Int) (m cnt : Nat) (Ls : List (List Int)) : Prop where
  len : Ls.length = cnt
  p : ∀ i : Nat, i < cnt → (rr Ls i).Perm (cls W m i)
theorem Lsts.short {W : List Int} {m cnt : Nat} {Ls : List (List Int)} (h : Lsts W m cnt Ls) {i : Nat} (hi : i < cnt) : (rr Ls i).length ≤ m := by
  rw [(h.p i hi).length_eq]; exact cls_length W m i
theorem Lsts.mem {W : List Int} {m cnt : Nat} {Ls : List (List Int)} (h : Lsts W m cnt Ls) {i p : Nat} (hi : i < cnt) (hp : p < (rr Ls i).length) : 0 ≤ rd (rr Ls i) p ∧ rd (rr Ls i) p < m :=
  (mem_cls.1 ((h.p i hi).mem_iff.1 (rd_mem hp))).1
theorem Lsts.sum {W : List Int} {m cnt : Nat} {Ls : List (List Int)} (h : Lsts W m cnt Ls) (T : List (List Int)) {i k : Nat} (hi : i < cnt) (hk : k < cnt) : sumL (fun x => sumL (fun y => rd2 T x y) (rr Ls k)) (rr Ls i) = clR T W m i k := by
  unfold clR
  rw [sumL_perm (h.p i hi)]
  exact sumL_congr fun x _ => sumL_perm (h.p k hk)
set_option maxHeartbeats 16000000 in
theorem implComponentLinkings_ok (n : Int) (v : Value) (xs : List Int) (w : World) (hv : RI w v xs) (hl : xs.length ≤ 9223372036854775807) :
    CallsR Try.prog 65 #[.agg #[.int .i64 n, v]] w fun r w' => ∃ u, r = .tuple #[u, .int .i64 (clinkR n xs).2] ∧ NewM w w' u (clinkR n xs).1 := by
  obtain ⟨A, c, rfl, hc⟩ := hv.open
  have hs := St.start w
  refine fn_calls Try.func65 rfl rfl rfl ?_
  refine W_seq ?_
  refine W_reg ?_
  refine T_go rfl rfl (st_boxS hs rfl fun w1 b1 hk1 hb1 hs => ?_)
  refine T_pu rfl rfl (pu_assign rfl) ?_
  refine T_pu rfl rfl (pu_assign rfl) ?_
  refine T_nil ?_
  refine W_seq ?_
  refine W_reg ?_
  refine T_pi rfl rfl (pi_loadAgg Try.underlying28 rfl ty28 rfl (fun w' h => by obtain rfl := h; exact (by first | exact (hs.bk 0 rfl).cells)) (by first | rfl | (simp; done) | (rw [nums_length]; assumption) | assumption)) ?_
  refine T_go rfl rfl (st_call fn83 rfl ((implCrossings_ok n _ xs _ (hv.keep hs.kp) hl).mono ?_))
  rintro v w2 ⟨u2, rfl, hds2, hM2, hk2, hf2⟩
  have hs := hs.newM hM2 hk2 hf2
  refine T_pu rfl rfl (pu_move rfl) ?_
  refine T_pu rfl rfl (pu_extract rfl rfl) ?_
  refine T_pu rfl rfl (pu_extract rfl rfl) ?_
  refine T_pu rfl rfl (pu_assign rfl) ?_
  refine T_pu rfl rfl (pu_assign rfl) ?_
  refine T_nil ?_
  refine W_seq ?_
  refine W_seq ?_
  refine W_reg ?_
  refine T_pu rfl rfl (pu_move rfl) ?_
  refine T_pu rfl rfl (pu_neq rfl rfl) ?_
  refine T_nil ?_
  refine W_if rfl (fun hc2 => ?_) (fun hc2 => ?_)
  · refine W_seq ?_
    refine W_reg ?_
    refine T_pu rfl rfl (pu_move rfl) ?_
    refine T_pu rfl rfl (pu_assign rfl) ?_
    refine T_pu rfl rfl (pu_assign rfl) ?_
    refine T_nil ?_
    refine W_ret ?_
    have hnb : ¬ Br n xs := fun h => hc2 (by unfold CrossR; rw [if_neg (not_not_intro h)])
    have e : clinkR n xs = ([], 1) := by unfold clinkR; rw [if_pos hnb]
    have e2 : CrossR n xs = ([], 1) := by unfold CrossR; rw [if_pos hnb]
    rw [e, e2]
    exact Res_2 rfl rfl rfl ⟨_, rfl, newM_none hs.kp⟩
  · refine W_skip ?_
    refine W_seq ?_
    have hBr : Br n xs := Decidable.byContradiction fun h => hc2 (by unfold CrossR; rw [if_pos h]; decide)
    obtain ⟨m, rfl⟩ : ∃ m : Nat, n = m := ⟨n.toNat, by have := hBr.1; omega⟩
    have hm : 1 ≤ m ∧ m ≤ 8 := by have := hBr.1; omega
    have hl200 := hBr.2.1
    have e : clinkR m xs = (clM (crsF m xs xs.length) (compS (endsF m xs) m).wh m (compS (endsF m xs) m).cnt, 0) := by unfold clinkR; rw [if_neg (not_not_intro hBr), Int.toNat_natCast]
    have e2 : CrossR m xs = (crsF m xs xs.length, 0) := by unfold CrossR; rw [if_neg (not_not_intro hBr), Int.toNat_natCast]
    rw [e2] at hs
    have hco := fun w hv => componentsOf_ok m hm (.slice A xs.length c) xs w hv hl200 hBr.2.2
    rw [e]
    have hsq := crsF_ok hBr.2.2 xs.length (Nat.le_refl _)
    obtain ⟨hC, hCk⟩ := compS_ok hm.2 (endsF_ok hm.1 xs) m (Nat.le_refl _)
    clear e e2 hc2 hM2
    generalize crsF m xs xs.length = T at hsq hs ⊢
    generalize compS (endsF m xs) m = C at hco hC hCk ⊢
    obtain ⟨g2, c2, rfl, hc2⟩ := (hs.mat 0 rfl).slice (n := m) hsq.1 hm.1
    refine W_reg ?_
    refine T_pi rfl rfl (pi_loadAgg Try.underlying28 rfl ty28 rfl (fun w' h => by obtain rfl := h; exact (by first | exact (hs.bk 1 rfl).cells)) (by first | rfl | (simp; done) | (rw [nums_length]; assumption) | assumption)) ?_
    refine T_go rfl rfl (st_call fn133 rfl ((hco _ (hv.keep hs.kp)).mono ?_))
    rintro u3 w3 ⟨Ls, hPL, hds3, hM3, hk3, hf3⟩
    have hs := (hs.newM hM3 hk3 hf3).drop 2
    have hLs : Lsts C.wh m C.cnt Ls := ⟨by rw [hPL.1, hC.lsl], fun i hi => (hPL.2 i (by rw [hC.lsl]; exact hi)).trans (hC.cl i hi)⟩
    unfold clM
    generalize C.cnt = cnt at hLs hCk ⊢
    generalize C.wh = W at hLs ⊢
    clear hPL hM3 hC hco
    obtain ⟨A3, c3, rfl, hLe⟩ := (hs.mat 0 rfl).rm.open
    refine T_pu rfl rfl (pu_assign rfl) ?_
    refine T_nil ?_
    refine W_seq ?_
    refine W_reg ?_
    refine T_pu rfl rfl (pu_move rfl) ?_
    refine T_pu rfl rfl (pu_len Try.underlying32 rfl) ?_
    refine T_go rfl rfl (st_call fn134 rfl ((zeroRows_ok Ls.length (by have := hLs.len; omega) _).mono ?_))
    rintro u4 w4 ⟨hds4, hM4, hk4, hf4⟩
    have hs := hs.newM hM4 hk4 hf4
    have hLl := hLs.len
    rw [hLl] at hs hLe ⊢
    rw [fmat_zero, show fmat cnt (fun _ _ => 0) = fmat cnt (doneF (clR T W m) 0 0) from fmat_congr fun a b _ _ => by unfold doneF; rw [if_neg (by omega)]] at hs
    obtain ⟨A4, c4, rfl, hAe⟩ := hM4.rm.open
    rw [List.length_replicate, hLl] at hs hAe ⊢
    dsimp only [List.eraseIdx] at hs
    have hs := hs.drop 3
    dsimp only [List.eraseIdx] at hs
    have hB4 : 2 * (xs.length : Int) ≤ 400 := by omega
    have hsum := fun (i k : Nat) hi hk => hLs.sum T (i := i) (k := k) hi hk
    have hsh := fun (i : Nat) hi => hLs.short (i := i) hi
    have hmm := fun (i p : Nat) hi hp => hLs.mem (i := i) (p := p) hi hp
    generalize clR T W m = R at hsum hs ⊢
    clear hM4 hk4 hf4 hf3 hk3 hf2 hk2 hLs
    refine T_pu rfl rfl (pu_assign rfl) ?_
    refine T_nil ?_
    refine W_seq ?_
    refine W_seq ?_
    refine W_reg ?_
    refine T_pu rfl rfl (pu_move rfl) ?_
    refine T_pu rfl rfl (pu_len Try.underlying32 rfl) ?_
    refine T_pu rfl rfl (pu_move rfl) ?_
    refine T_nil ?_
    refine W_block ?_
    refine W_loop (σ := Nat) (fun i => [(4, .slice (some ⟨g2, 0, none⟩) m c2), (6, .slice A3 cnt c3), (7, .slice A4 cnt c4), (29, .slice A3 cnt c3), (30, .int .i64 cnt), (31, .int .i64 i)]) (fun i w' => i ≤ cnt ∧ St no w [aMat (.slice A4 cnt c4) hds4 (fmat cnt (doneF R i 0)), aMat (.slice A3 cnt c3) hds3 Ls, aMat (.slice (some ⟨g2, 0, none⟩) m c2) hds2 T] w') (fun i => cnt - i) 0 ?_ ?_ ?_
    · exact .cons rfl (.cons rfl (.cons rfl (.cons rfl (.cons rfl (.cons rfl (.nil _))))))
    · exact ⟨Nat.zero_le _, hs⟩
    repeat clear hs
    rintro i w5 ⟨hic, hs⟩
    refine W_seq ?_
    refine W_reg ?_
    refine T_pu rfl rfl (pu_lss rfl rfl) ?_
    refine T_nil ?_
    refine W_seq ?_
    refine W_if rfl (fun hc7 => ?_) (fun hc7 => ?_)
    · refine W_skip ?_
      refine W_seq ?_
      refine W_block ?_
      refine W_seq ?_
      obtain ⟨g3, q1, rfl, hq1, hcl1, hO1⟩ := (hs.mat 1 rfl).headAt (i := i) (by omega)
      obtain ⟨B1, d1, rfl, _⟩ := hO1.ri.open
      clear hO1
      refine W_reg ?_
      refine T_pu rfl rfl (pu_move rfl) ?_
      refine T_pu rfl rfl ((by first | exact pu_ix1 Try.underlying32 ty22 rfl rfl (by omega) (by omega) | exact pu_index Try.underlying32 ty22 rfl rfl (by omega) (by omega))) ?_
      refine T_pi rfl rfl (pi_load Try.underlying22 rfl rfl (fun w' h => by obtain rfl := h; exact (by first | exact hcl1))) ?_
      refine T_pu rfl rfl (pu_assign rfl) ?_
      refine T_pu rfl rfl (pu_assign rfl) ?_
      refine T_nil ?_
      refine W_seq ?_
      refine W_reg ?_
      refine T_pu rfl rfl (pu_move rfl) ?_
      refine T_pu rfl rfl (pu_len Try.underlying32 rfl) ?_
      refine T_pu rfl rfl (pu_move rfl) ?_
      refine T_nil ?_
      refine W_block ?_
      refine W_loop (σ := Nat) (fun k => [(4, .slice (some ⟨g2, 0, none⟩) m c2), (6, .slice (some ⟨g3, 0, none⟩) cnt c3), (7, .slice A4 cnt c4), (29, .slice (some ⟨g3, 0, none⟩) cnt c3), (30, .int .i64 cnt), (31, .int .i64 i), (8, .int .i64 i), (9, .slice B1 (rr Ls i).length d1), (36, .slice (some ⟨g3, 0, none⟩) cnt c3), (37, .int .i64 cnt), (38, .int .i64 k)]) (fun k w' => k ≤ cnt ∧ St no w [aMat (.slice A4 cnt c4) hds4 (fmat cnt (doneF R i k)), aMat (.slice (some ⟨g3, 0, none⟩) cnt c3) hds3 Ls, aMat (.slice (some ⟨g2, 0, none⟩) m c2) hds2 T] w') (fun k => cnt - k) 0 ?_ ?_ ?_
      · exact .cons rfl (.cons rfl (.cons rfl (.cons rfl (.cons rfl (.cons rfl (.cons rfl (.cons rfl (.cons rfl (.cons rfl (.cons rfl (.nil _)))))))))))
      · exact ⟨Nat.zero_le _, hs⟩
      repeat clear hs
      rintro k w6 ⟨hkc, hs⟩
      clear hcl1
      refine W_seq ?_
      refine W_reg ?_
      refine T_pu rfl rfl (pu_lss rfl rfl) ?_
      refine T_nil ?_
      refine W_seq ?_
      refine W_if rfl (fun hc10 => ?_) (fun hc10 => ?_)
      · refine W_skip ?_
        refine W_seq ?_
        refine W_block ?_
        refine W_seq ?_
        obtain ⟨g3', q2, hge, hq2, hcl2, hO2⟩ := (hs.mat 1 rfl).headAt (i := k) (by omega)
        cases hge
        obtain ⟨B2, d2, rfl, _⟩ := hO2.ri.open
        clear hO2
        have hsi := hsh i (by omega)
        have hsk := hsh k (by omega)
        have hSik := hsum i k (by omega) (by omega)
        refine W_reg ?_
        refine T_pu rfl rfl (pu_move rfl) ?_
        refine T_pu rfl rfl ((by first | exact pu_ix1 Try.underlying32 ty22 rfl rfl (by omega) (by omega) | exact pu_index Try.underlying32 ty22 rfl rfl (by omega) (by omega))) ?_
        refine T_pi rfl rfl (pi_load Try.underlying22 rfl rfl (fun w' h => by obtain rfl := h; exact (by first | exact hcl2))) ?_
        refine T_pu rfl rfl (pu_assign rfl) ?_
        refine T_pu rfl rfl (pu_assign rfl) ?_
        refine T_nil ?_
        refine W_seq ?_
        refine W_seq ?_
        refine W_reg ?_
        refine T_pu rfl rfl (pu_move rfl) ?_
        refine T_pu rfl rfl (pu_len Try.underlying22 rfl) ?_
        refine T_pu rfl rfl (pu_move rfl) ?_
        refine T_nil ?_
        refine W_block ?_
        refine W_loop (σ := Nat) (fun p => [(4, .slice (some ⟨g2, 0, none⟩) m c2), (6, .slice (some ⟨g3, 0, none⟩) cnt c3), (7, .slice A4 cnt c4), (29, .slice (some ⟨g3, 0, none⟩) cnt c3), (30, .int .i64 cnt), (31, .int .i64 i), (8, .int .i64 i), (9, .slice B1 (rr Ls i).length d1), (36, .slice (some ⟨g3, 0, none⟩) cnt c3), (37, .int .i64 cnt), (38, .int .i64 k), (10, .int .i64 k), (11, .slice B2 (rr Ls k).length d2), (43, .slice B1 (rr Ls i).length d1), (44, .int .i64 (rr Ls i).length), (45, .int .i64 p)]) (fun p w' => p ≤ (rr Ls i).length ∧ St no w [aMat (.slice A4 cnt c4) hds4 (fmat cnt (updF (doneF R i k) i k (sumL (fun x => sumL (fun y => rd2 T x y) (rr Ls k)) ((rr Ls i).take p)))), aMat (.slice (some ⟨g3, 0, none⟩) cnt c3) hds3 Ls, aMat (.slice (some ⟨g2, 0, none⟩) m c2) hds2 T] w') (fun p => (rr Ls i).length - p) 0 ?_ ?_ ?_
        · exact .cons rfl (.cons rfl (.cons rfl (.cons rfl (.cons rfl (.cons rfl (.cons rfl (.cons rfl (.cons rfl (.cons rfl (.cons rfl (.cons rfl (.cons rfl (.cons rfl (.cons rfl (.cons rfl (.nil _))))))))))))))))
        · exact ⟨Nat.zero_le _, by rw [doneF_self] at hs; exact hs⟩
        repeat clear hs
        rintro p w7 ⟨hpl, hs⟩
        clear hcl2
        refine W_seq ?_
        refine W_reg ?_
        refine T_pu rfl rfl (pu_lss rfl rfl) ?_
        refine T_nil ?_
        refine W_seq ?_
        refine W_if rfl (fun hc13 => ?_) (fun hc13 => ?_)
        · refine W_skip ?_
          refine W_seq ?_
          refine W_block ?_
          refine W_seq ?_
          have hO1 := (hs.mat 1 rfl).row i _ (rr Ls i) hq1 (by have := rr_get (xss := Ls) (i := (i : Int)) (by omega) (by omega); rwa [Int.toNat_natCast] at this)
          obtain ⟨a1, rfl⟩ := hO1.ri.addr (i := p) (by omega) (by omega)
          have hcp := hO1.ri.at (i := p) (by omega) (by omega)
          clear hO1
          have hxr := hmm i p (by omega) (by omega)
          have htk1 := sumL_take (f := fun x => sumL (fun y => rd2 T x y) (rr Ls k)) (a := rr Ls i) (k := p) (by omega)
          have hb1 := outer_bd8 hsq hB4 (l2 := rr Ls k) (by omega) (l := rr Ls i) (by omega) p
          generalize rd (rr Ls i) p = x at hcp hxr htk1
          refine W_reg ?_
          refine T_pu rfl rfl ((by first | exact pu_ix1 Try.underlying22 ty2 rfl rfl (by omega) (by omega) | exact pu_index Try.underlying22 ty2 rfl rfl (by omega) (by omega))) ?_
          refine T_pi rfl rfl (pi_load Try.underlying2 rfl rfl (fun w' h => by obtain rfl := h; exact (by first | exact hcp))) ?_
          refine T_pu rfl rfl (pu_assign rfl) ?_
          refine T_nil ?_
          refine W_seq ?_
          refine W_reg ?_
          refine T_pu rfl rfl (pu_move rfl) ?_
          refine T_pu rfl rfl (pu_len Try.underlying22 rfl) ?_
          refine T_pu rfl rfl (pu_move rfl) ?_
          refine T_nil ?_
          refine W_block ?_
          refine W_loop (σ := Nat) (fun q => [(4, .slice (some ⟨g2, 0, none⟩) m c2), (6, .slice (some ⟨g3, 0, none⟩) cnt c3), (7, .slice A4 cnt c4), (29, .slice (some ⟨g3, 0, none⟩) cnt c3), (30, .int .i64 cnt), (31, .int .i64 i), (8, .int .i64 i), (9, .slice (some a1) (rr Ls i).length d1), (36, .slice (some ⟨g3, 0, none⟩) cnt c3), (37, .int .i64 cnt), (38, .int .i64 k), (10, .int .i64 k), (11, .slice B2 (rr Ls k).length d2), (43, .slice (some a1) (rr Ls i).length d1), (44, .int .i64 (rr Ls i).length), (45, .int .i64 p), (13, .int .i64 x), (49, .slice B2 (rr Ls k).length d2), (50, .int .i64 (rr Ls k).length), (51, .int .i64 q)]) (fun q w' => q ≤ (rr Ls k).length ∧ St no w [aMat (.slice A4 cnt c4) hds4 (fmat cnt (updF (doneF R i k) i k (sumL (fun x => sumL (fun y => rd2 T x y) (rr Ls k)) ((rr Ls i).take p) + sumL (fun y => rd2 T x y) ((rr Ls k).take q)))), aMat (.slice (some ⟨g3, 0, none⟩) cnt c3) hds3 Ls, aMat (.slice (some ⟨g2, 0, none⟩) m c2) hds2 T] w') (fun q => (rr Ls k).length - q) 0 ?_ ?_ ?_
          · exact .cons rfl (.cons rfl (.cons rfl (.cons rfl (.cons rfl (.cons rfl (.cons rfl (.cons rfl (.cons rfl (.cons rfl (.cons rfl (.cons rfl (.cons rfl (.cons rfl (.cons rfl (.cons rfl (.cons rfl (.cons rfl (.cons rfl (.cons rfl (.nil _))))))))))))))))))))
          · exact ⟨Nat.zero_le _, by rw [List.take_zero]; show St no w [aMat _ _ (fmat cnt (updF (doneF R i k) i k (_ + 0))), _, _] _; rw [Int.add_zero]; exact hs⟩
          repeat clear hs
          rintro q w8 ⟨hql, hs⟩
          clear hcp
          refine W_seq ?_
          refine W_reg ?_
          refine T_pu rfl rfl (pu_lss rfl rfl) ?_
          refine T_nil ?_
          refine W_seq ?_
          refine W_if rfl (fun hc16 => ?_) (fun hc16 => ?_)
          · refine W_skip ?_
            refine W_seq ?_
            refine W_block ?_
            refine W_seq ?_
            have hO2 := (hs.mat 1 rfl).row k _ (rr Ls k) hq2 (by have := rr_get (xss := Ls) (i := (k : Int)) (by omega) (by omega); rwa [Int.toNat_natCast] at this)
            obtain ⟨a2, rfl⟩ := hO2.ri.addr (i := q) (by omega) (by omega)
            have hcq := hO2.ri.at (i := q) (by omega) (by omega)
            clear hO2
            have hyr := hmm k q (by omega) (by omega)
            have htk2 := sumL_take (f := fun y => rd2 T x y) (a := rr Ls k) (k := q) (by omega)
            have hb2 := inner_bd8 hsq hB4 x (l := rr Ls k) (by omega) q
            generalize rd (rr Ls k) q = y at hcq hyr htk2
            have hb3 := hsq.2.2 x y
            refine W_reg ?_
            refine T_pu rfl rfl ((by first | exact pu_ix1 Try.underlying22 ty2 rfl rfl (by omega) (by omega) | exact pu_index Try.underlying22 ty2 rfl rfl (by omega) (by omega))) ?_
            refine T_pi rfl rfl (pi_load Try.underlying2 rfl rfl (fun w' h => by obtain rfl := h; exact (by first | exact hcq))) ?_
            refine T_pu rfl rfl (pu_assign rfl) ?_
            refine T_nil ?_
            refine W_draw mixed 16 IS (fun w9 hk9 => ?_)
            have hs := hs.next hk9
            clear hcq
            obtain ⟨A5, e5, rfl, _⟩ : ∃ A5 : Nat, ∃ e5 : Unit, A4 = some ⟨A5, 0, none⟩ ∧ True := by
              obtain ⟨g4, _, h, _⟩ := (hs.mat 0 rfl).headAt (i := i) (by rw [fmat_length]; omega)
              exact ⟨g4, (), h, trivial⟩
            obtain ⟨b5, cc5, hh5, hcl5, hO5⟩ := (hs.mat 0 rfl).at (i := i) (m := cnt) (by omega) (by rw [fmat_length]; omega) (fmat_rrl (by omega) (by omega)) (by omega)
            have hc5 := hO5.ri.at0 (i := k) (by omega) (by rw [fmat_rrl (by omega) (by omega)]; omega)
            rw [fmat_rd (by omega) (by omega)] at hc5
            simp only [updF, and_self, if_true] at hc5
            obtain ⟨b6, cc6, hh6, hcl6, hO6⟩ := (hs.mat 2 rfl).at (i := x) (m := m) hxr.1 (by have := hsq.1; omega) (hsq.2.1 x hxr.1 hxr.2) (by omega)
            have hc6 := hO6.ri.at0 (i := y) hyr.1 (by rw [hsq.2.1 x hxr.1 hxr.2]; exact hyr.2)
            refine D_pu 0 (by kernel_rfl) rfl (by kernel_rfl) (by kernel_rfl) rfl rfl (by kernel_rfl) (Pu.stable (pu_move rfl)) ?_
            refine D_pu 1 (by kernel_rfl) rfl (by kernel_rfl) (by kernel_rfl) rfl rfl (by kernel_rfl) (Pu.stable (pu_move rfl)) ?_
            refine D_pu 2 (by kernel_rfl) rfl (by kernel_rfl) (by kernel_rfl) rfl rfl (by kernel_rfl) (Pu.stable ((by first | exact pu_ix1 Try.underlying32 ty22 rfl rfl (by omega) (by omega) | exact pu_index Try.underlying32 ty22 rfl rfl (by omega) (by omega)))) ?_
            refine D_rd 3 (by kernel_rfl) rfl (by kernel_rfl) (by kernel_rfl) rfl rfl (by kernel_rfl) (by kernel_rfl) (by kernel_rfl) (pi_load Try.underlying22 rfl rfl (fun w' h => by obtain rfl := h rfl; exact (by first | exact hcl5 | exact hc5 | exact hcl6 | exact hc6))) ?_
            refine D_pu 4 (by kernel_rfl) rfl (by kernel_rfl) (by kernel_rfl) rfl rfl (by kernel_rfl) (Pu.stable (pu_move rfl)) ?_
            refine D_pu 5 (by kernel_rfl) rfl (by kernel_rfl) (by kernel_rfl) rfl rfl (by kernel_rfl) (Pu.stable ((by first | exact pu_ix1 Try.underlying22 ty2 rfl rfl (by omega) (by omega) | exact pu_index Try.underlying22 ty2 rfl rfl (by omega) (by omega)))) ?_
            refine D_rd 6 (by kernel_rfl) rfl (by kernel_rfl) (by kernel_rfl) rfl rfl (by kernel_rfl) (by kernel_rfl) (by kernel_rfl) (pi_load Try.underlying2 rfl rfl (fun w' h => by obtain rfl := h rfl; exact (by first | exact hcl5 | exact hc5 | exact hcl6 | exact hc6))) ?_
            refine D_pu 7 (by kernel_rfl) rfl (by kernel_rfl) (by kernel_rfl) rfl rfl (by kernel_rfl) (Pu.stable (pu_move rfl)) ?_
            refine D_pu 8 (by kernel_rfl) rfl (by kernel_rfl) (by kernel_rfl) rfl rfl (by kernel_rfl) (Pu.stable (pu_move rfl)) ?_
            refine D_pu 9 (by kernel_rfl) rfl (by kernel_rfl) (by kernel_rfl) rfl rfl (by kernel_rfl) (Pu.stable ((by first | exact pu_ix1 Try.underlying32 ty22 rfl rfl (by omega) (by omega) | exact pu_index Try.underlying32 ty22 rfl rfl (by omega) (by omega)))) ?_
            refine D_rd 10 (by kernel_rfl) rfl (by kernel_rfl) (by kernel_rfl) rfl rfl (by kernel_rfl) (by kernel_rfl) (by kernel_rfl) (pi_load Try.underlying22 rfl rfl (fun w' h => by obtain rfl := h rfl; exact (by first | exact hcl5 | exact hc5 | exact hcl6 | exact hc6))) ?_
            refine D_pu 11 (by kernel_rfl) rfl (by kernel_rfl) (by kernel_rfl) rfl rfl (by kernel_rfl) (Pu.stable (pu_move rfl)) ?_
            refine D_pu 12 (by kernel_rfl) rfl (by kernel_rfl) (by kernel_rfl) rfl rfl (by kernel_rfl) (Pu.stable ((by first | exact pu_ix1 Try.underlying22 ty2 rfl rfl (by omega) (by omega) | exact pu_index Try.underlying22 ty2 rfl rfl (by omega) (by omega)))) ?_
            refine D_rd 13 (by kernel_rfl) rfl (by kernel_rfl) (by kernel_rfl) rfl rfl (by kernel_rfl) (by kernel_rfl) (by kernel_rfl) (pi_load Try.underlying2 rfl rfl (fun w' h => by obtain rfl := h rfl; exact (by first | exact hcl5 | exact hc5 | exact hcl6 | exact hc6))) ?_
            refine D_pu 14 (by kernel_rfl) rfl (by kernel_rfl) (by kernel_rfl) rfl rfl (by kernel_rfl) (Pu.stable (pu_add64 rfl rfl (add_bd hb1 hb2 (by unfold rd2 at hb3; omega)))) ?_
            refine D_pu 15 (by kernel_rfl) rfl (by kernel_rfl) (by kernel_rfl) rfl rfl (by kernel_rfl) (Pu.stable ((by first | exact pu_ix1 Try.underlying22 ty2 rfl rfl (by omega) (by omega) | exact pu_index Try.underlying22 ty2 rfl rfl (by omega) (by omega)))) ?_
            refine D_goN 16 (by kernel_rfl) (by first | rfl | (intro _; rfl) | (intro h; exact absurd (show true = false from h) (by decide)) | exact Kp.refl _ _ | assumption) rfl rfl (st_storeM hs 0 rfl i (by omega) (by rw [fmat_length]; omega) hh5 ty2 rfl rfl (by omega) (by omega) fun w10 hk10 hs => ?_)
            rw [fmat_set (by omega) (by omega), updF_upd, Int.add_assoc] at hs
            rw [show sumL (fun y => rd2 T x y) ((rr Ls k).take q) + rd (rr T x) y = sumL (fun y => rd2 T x y) ((rr Ls k).take (q + 1)) from htk2.symm] at hs
            simp only [List.set_cons_zero] at hs
            refine D_done (by kernel_rfl) (by first | rfl | (intro _; rfl) | (intro h; exact absurd (show true = false from h) (by decide)) | exact Kp.refl _ _ | assumption) ?_
            refine W_reg ?_
            refine T_pu rfl rfl (pu_add64 rfl rfl (by omega)) ?_
            refine T_pu rfl rfl (pu_move rfl) ?_
            refine T_nil ?_
            exact ⟨q + 1, .cons rfl (.cons rfl (.cons rfl (.cons rfl (.cons rfl (.cons rfl (.cons rfl (.cons rfl (.cons rfl (.cons rfl (.cons rfl (.cons rfl (.cons rfl (.cons rfl (.cons rfl (.cons rfl (.cons rfl (.cons rfl (.cons rfl (.cons rfl (.nil _)))))))))))))))))))), ⟨by omega, hs⟩, by omega⟩
          · refine W_exit rfl ?_
            obtain rfl : q = (rr Ls k).length := by omega
            rw [List.take_length, ← show sumL (fun x => sumL (fun y => rd2 T x y) (rr Ls k)) ((rr Ls i).take (p + 1)) = _ from htk1] at hs
            refine W_reg ?_
            refine T_pu rfl rfl (pu_add64 rfl rfl (by omega)) ?_
            refine T_pu rfl rfl (pu_move rfl) ?_
            refine T_nil ?_
            exact ⟨p + 1, .cons rfl (.cons rfl (.cons rfl (.cons rfl (.cons rfl (.cons rfl (.cons rfl (.cons rfl (.cons rfl (.cons rfl (.cons rfl (.cons rfl (.cons rfl (.cons rfl (.cons rfl (.cons rfl (.nil _)))))))))))))))), ⟨by omega, hs⟩, by omega⟩
        · refine W_exit rfl ?_
          obtain rfl : p = (rr Ls i).length := by omega
          have hb1 := outer_bd8 hsq hB4 (l2 := rr Ls k) (by omega) (l := rr Ls i) (by omega) (rr Ls i).length
          rw [List.take_length, hSik] at hs hb1
          have hbh := half_bd hb1
          obtain ⟨A5, e5, rfl, _⟩ : ∃ A5 : Nat, ∃ e5 : Unit, A4 = some ⟨A5, 0, none⟩ ∧ True := by
            obtain ⟨g4, _, h, _⟩ := (hs.mat 0 rfl).headAt (i := i) (by rw [fmat_length]; omega)
            exact ⟨g4, (), h, trivial⟩
          obtain ⟨b5, cc5, hh5, hcl5, hO5⟩ := (hs.mat 0 rfl).at (i := i) (m := cnt) (by omega) (by rw [fmat_length]; omega) (fmat_rrl (by omega) (by omega)) (by omega)
          have hc5 := hO5.ri.at0 (i := k) (by omega) (by rw [fmat_rrl (by omega) (by omega)]; omega)
          rw [fmat_rd (by omega) (by omega)] at hc5
          simp only [updF, and_self, if_true] at hc5
          refine W_reg ?_
          refine T_pu rfl rfl (pu_move rfl) ?_
          refine T_pu rfl rfl (pu_move rfl) ?_
          refine T_pu rfl rfl ((by first | exact pu_ix1 Try.underlying32 ty22 rfl rfl (by omega) (by omega) | exact pu_index Try.underlying32 ty22 rfl rfl (by omega) (by omega))) ?_
          refine T_pi rfl rfl (pi_load Try.underlying22 rfl rfl (fun w' h => by obtain rfl := h; exact (by first | exact hcl5 | exact hc5))) ?_
          refine T_pu rfl rfl (pu_move rfl) ?_
          refine T_pu rfl rfl ((by first | exact pu_ix1 Try.underlying22 ty2 rfl rfl (by omega) (by omega) | exact pu_index Try.underlying22 ty2 rfl rfl (by omega) (by omega))) ?_
          refine T_pi rfl rfl (pi_load Try.underlying2 rfl rfl (fun w' h => by obtain rfl := h; exact (by first | exact hcl5 | exact hc5))) ?_
          refine T_pu rfl rfl (pu_quo64 rfl rfl (by omega) (by omega)) ?_
          refine T_pu rfl rfl ((by first | exact pu_ix1 Try.underlying22 ty2 rfl rfl (by omega) (by omega) | exact pu_index Try.underlying22 ty2 rfl rfl (by omega) (by omega))) ?_
          refine T_goN rfl (st_storeM hs 0 rfl i (by omega) (by rw [fmat_length]; omega) hh5 ty2 rfl rfl (by omega) (by omega) fun w11 hk11 hs => ?_)
          rw [fmat_set (by omega) (by omega), updF_upd, show (R i k).tdiv 2 = half (R i k) from rfl, doneF_next] at hs
          simp only [List.set_cons_zero] at hs
          refine T_nil ?_
          refine W_reg ?_
          refine T_pu rfl rfl (pu_add64 rfl rfl (by omega)) ?_
          refine T_pu rfl rfl (pu_move rfl) ?_
          refine T_nil ?_
          exact ⟨k + 1, .cons rfl (.cons rfl (.cons rfl (.cons rfl (.cons rfl (.cons rfl (.cons rfl (.cons rfl (.cons rfl (.cons rfl (.cons rfl (.nil _))))))))))), ⟨by omega, hs⟩, by omega⟩
      · refine W_exit rfl ?_
        obtain rfl : k = cnt := by omega
        rw [doneF_row] at hs
        refine W_reg ?_
        refine T_pu rfl rfl (pu_add64 rfl rfl (by omega)) ?_
        refine T_pu rfl rfl (pu_move rfl) ?_
        refine T_nil ?_
        exact ⟨i + 1, .cons rfl (.cons rfl (.cons rfl (.cons rfl (.cons rfl (.cons rfl (.nil _)))))), ⟨by omega, hs⟩, by omega⟩
    · refine W_exit rfl ?_
      refine W_seq ?_
      refine W_reg ?_
      refine T_pu rfl rfl (pu_move rfl) ?_
      refine T_pu rfl rfl (pu_assign rfl) ?_
      refine T_pu rfl rfl (pu_assign rfl) ?_
      refine T_nil ?_
      refine W_ret ?_
      obtain rfl : i = cnt := by omega
      rw [doneF_all] at hs
      exact Res_2 rfl rfl rfl ⟨_, rfl, hs.isNewM 0 rfl⟩
end Go.Proofs.Ytdpbfdjpeofbmaa.L
