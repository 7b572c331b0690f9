/- Linking numbers of components: the reference's table, and the law. -/
import Derived.Test.YtdpbfdjpeofbmaaD9
import Derived.Test.YtdpbfdjpeofbmaaD4
namespace Go.Proofs.Ytdpbfdjpeofbmaa.L
set_option linter.unusedVariables false
set_option maxRecDepth 100000

def frow (m : Nat) (f : Nat → Int) : List Int := (List.range m).map f
theorem frow_length (m : Nat) (f : Nat → Int) : (frow m f).length = m := by simp [frow]
theorem frow_rd {m : Nat} {f : Nat → Int} {k : Int} (h0 : 0 ≤ k) (h : k < m) : rd (frow m f) k = f k.toNat := by
  have : k.toNat < m := by omega
  unfold rd frow
  simp [List.getD_eq_getElem?_getD, this]
theorem frow_congr {m : Nat} {f g : Nat → Int} (h : ∀ a, a < m → f a = g a) : frow m f = frow m g := by
  unfold frow
  exact List.map_congr_left fun a ha => h a (by simpa using ha)
theorem frow_set {m : Nat} {f : Nat → Int} {k : Nat} (h : k < m) (v : Int) : (frow m f).set k v = frow m fun j => if j = k then v else f j := by
  unfold frow
  refine List.ext_getElem? fun b => ?_
  rw [List.getElem?_set]
  by_cases hb : k = b
  · subst hb
    simp [h]
  · rw [if_neg hb]
    by_cases hbm : b < m
    · simp only [List.getElem?_map, List.getElem?_range hbm, Option.map_some]
      rw [if_neg (fun e => hb e.symm)]
    · rw [List.getElem?_eq_none (by simp; omega), List.getElem?_eq_none (by simp; omega)]
theorem frow_zero (m : Nat) : List.replicate m 0 = frow m fun _ => 0 := by
  unfold frow
  simp [List.map_const']
def fl (W : List Int) (k : Int) (x : Nat) : List Int := (iota x).filter fun z => decide (rd W z = k)
theorem fl_succ (W : List Int) (k : Int) (x : Nat) : fl W k (x + 1) = fl W k x ++ if rd W x = k then [(x : Int)] else [] := by
  unfold fl
  rw [iota_succ, List.filter_append]
  congr 1
  by_cases h : rd W x = k <;> simp [h]
theorem fl_length (W : List Int) (k : Int) (x : Nat) : (fl W k x).length ≤ x := by
  have := List.length_filter_le (fun z => decide (rd W z = k)) (iota x)
  rwa [iota_length] at this
def qS (T : List (List Int)) (W : List Int) (x y : Nat) (j : Nat) : Int := sumL (fun y => rd2 T x y) (fl W j y)
def pS (T : List (List Int)) (W : List Int) (n : Nat) (k : Int) (x : Nat) (j : Nat) : Int := sumL (fun x => sumL (fun y => rd2 T x y) (fl W j n)) (fl W k x)
theorem qS_succ (T : List (List Int)) (W : List Int) (x y j : Nat) : qS T W x (y + 1) j = qS T W x y j + if rd W y = j then rd2 T x y else 0 := by
  unfold qS
  rw [fl_succ, sumL_append]
  congr 1
  split <;> simp [sumL]
theorem pS_succ (T : List (List Int)) (W : List Int) (n : Nat) (k : Int) (x j : Nat) : pS T W n k (x + 1) j = pS T W n k x j + if rd W x = k then qS T W x n j else 0 := by
  unfold pS
  rw [fl_succ, sumL_append]
  congr 1
  split <;> simp [sumL, qS]
theorem pS_all (T : List (List Int)) (W : List Int) (n k j : Nat) : pS T W n k n j = clR T W n k j := rfl
theorem qS_bd {n : Nat} {B : Int} {T : List (List Int)} (h : Sq n B T) (hB : B ≤ 400) (W : List Int) (x : Nat) {y : Nat} (hy : y ≤ 8) (j : Nat) : -3200 ≤ qS T W x y j ∧ qS T W x y j ≤ 3200 := by
  have h1 := inner_bd h hB x (fl W j y)
  have h2 := fl_length W j y
  unfold qS
  omega
theorem pS_bd {n : Nat} {B : Int} {T : List (List Int)} (h : Sq n B T) (hB : B ≤ 400) (hn : n ≤ 8) (W : List Int) (k : Int) {x : Nat} (hx : x ≤ 8) (j : Nat) : -25600 ≤ pS T W n k x j ∧ pS T W n k x j ≤ 25600 := by
  have h1 := outer_bd h hB (l2 := fl W j n) (by have := fl_length W j n; omega) (fl W k x)
  have h2 := fl_length W k x
  unfold pS
  omega
theorem fmat_frow {m : Nat} {f : Nat → Nat → Int} {i : Nat} (h : i < m) : rr (fmat m f) i = frow m (f i) := fmat_rr h
set_option maxHeartbeats 16000000 in
theorem specComponentLinkings_ok (n : Int) (v : Value) (xs : List Int) (w : World) (hv : RI w v xs) (hl : xs.length ≤ 9223372036854775807) (hw : ∀ x ∈ xs, -9223372036854775808 ≤ x ∧ x ≤ 9223372036854775807) :
    CallsR Try.prog 64 #[.agg #[.int .i64 n, v]] w fun r w' => ∃ u, r = .tuple #[u, .int .i64 (clinkR n xs).2] ∧ NewM w w' u (clinkR n xs).1 := by
  obtain ⟨A, c, rfl, hc⟩ := hv.open
  have hs := St.start w
  refine fn_calls Try.func64 rfl rfl rfl ?_
  refine W_seq ?_
  refine W_reg ?_
  refine T_go rfl rfl (st_boxS hs rfl fun w1 b1 hk1 hb1 hs => ?_)
  refine T_pu rfl rfl (pu_assign rfl) ?_
  refine T_pu rfl rfl (pu_assign rfl) ?_
  refine T_nil ?_
  refine W_seq ?_
  refine W_seq ?_
  refine W_reg ?_
  refine T_pi rfl rfl (pi_loadAgg Try.underlying28 rfl ty28 rfl (fun w' h => by obtain rfl := h; exact (by first | exact (hs.bk 0 rfl).cells)) (by first | rfl | (simp; done) | (rw [nums_length]; assumption) | assumption)) ?_
  refine T_go rfl rfl (st_call fn67 rfl ((l01Is_ok n _ xs _ (hv.keep hs.kp) hl hw).mono ?_))
  rintro v w2 ⟨rfl, hk2⟩
  have hs := hs.next hk2
  refine T_pu rfl rfl (pu_notp rfl) ?_
  refine T_nil ?_
  refine W_if rfl (fun hc1 => ?_) (fun hc1 => ?_)
  · refine W_seq ?_
    refine W_reg ?_
    refine T_pu rfl rfl (pu_assign rfl) ?_
    refine T_pu rfl rfl (pu_assign rfl) ?_
    refine T_nil ?_
    refine W_ret ?_
    have e : clinkR n xs = ([], 1) := by unfold clinkR; rw [if_pos hc1]
    rw [e]
    exact Res_2 rfl rfl rfl ⟨_, rfl, newM_none hs.kp⟩
  · refine W_skip ?_
    refine W_seq ?_
    have hBr : Br n xs := Decidable.not_not.1 hc1
    obtain ⟨m, rfl⟩ : ∃ m : Nat, n = m := ⟨n.toNat, by have := hBr.1; omega⟩
    have hm : 1 ≤ m ∧ m ≤ 8 := by have := hBr.1; omega
    have hl200 := hBr.2.1
    have e : clinkR m xs = (clM (crsF m xs xs.length) (compS (endsF m xs) m).wh m (compS (endsF m xs) m).cnt, 0) := by unfold clinkR; rw [if_neg (not_not_intro hBr), Int.toNat_natCast]
    have hco := fun w hv => l11Components_ok m hm (.slice A xs.length c) xs w hv hl200 hBr.2.2
    have hcr := fun w hv => l01Crossings_ok m hm (.slice A xs.length c) xs w hv hl200 hBr.2.2
    rw [e]
    have hsq := crsF_ok hBr.2.2 xs.length (Nat.le_refl _)
    obtain ⟨hC, hCk⟩ := compS_ok hm.2 (endsF_ok hm.1 xs) m (Nat.le_refl _)
    clear e
    have hB4 : 2 * (xs.length : Int) ≤ 400 := by omega
    generalize crsF m xs xs.length = T at hsq hcr ⊢
    have hWl := hC.len
    have hrng := hC.rng
    have hgot := hC.got
    generalize (compS (endsF m xs) m).wh = W at hco hWl hrng hgot ⊢
    generalize (compS (endsF m xs) m).cnt = cnt at hco hCk hrng ⊢
    clear hC
    have hfl := flat8_length T
    refine W_reg ?_
    refine T_pu rfl rfl (pu_fld (off := 0) Try.underlying28 rfl rfl ty2 rfl rfl) ?_
    refine T_pi rfl rfl (pi_load Try.underlying2 rfl rfl (fun w' h => by obtain rfl := h; exact (by first | exact (hs.bk 0 rfl).cell rfl))) ?_
    refine T_pu rfl rfl (pu_fld (off := 1) Try.underlying28 rfl rfl ty22 rfl rfl) ?_
    refine T_pi rfl rfl (pi_load Try.underlying22 rfl rfl (fun w' h => by obtain rfl := h; exact (by first | exact (hs.bk 0 rfl).cell rfl))) ?_
    refine T_go rfl rfl (st_call fn132 rfl ((hco _ (hv.keep hs.kp)).mono ?_))
    rintro v w3 ⟨rfl, hk3⟩
    have hs := hs.next hk3
    refine T_pu rfl rfl (pu_move rfl) ?_
    refine T_pu rfl rfl (pu_extract rfl rfl) ?_
    refine T_pu rfl rfl (pu_extract rfl rfl) ?_
    refine T_go rfl rfl (st_allocS hs ty73 fun w4 b4 hk4 hb4 hs => ?_)
    refine T_goN rfl (st_storeW hs 0 rfl ty73 rfl rfl (by first | rfl | (simp; done) | assumption) (by first | rfl | (simp; done) | assumption) fun w5 hk5 hs => ?_)
    refine T_pu rfl rfl (pu_assign rfl) ?_
    refine T_nil ?_
    refine W_seq ?_
    refine W_reg ?_
    refine T_pu rfl rfl (pu_fld (off := 0) Try.underlying28 rfl rfl ty2 rfl rfl) ?_
    refine T_pi rfl rfl (pi_load Try.underlying2 rfl rfl (fun w' h => by obtain rfl := h; exact (by first | exact (hs.bk 1 rfl).cell rfl))) ?_
    refine T_pu rfl rfl (pu_fld (off := 1) Try.underlying28 rfl rfl ty22 rfl rfl) ?_
    refine T_pi rfl rfl (pi_load Try.underlying22 rfl rfl (fun w' h => by obtain rfl := h; exact (by first | exact (hs.bk 1 rfl).cell rfl))) ?_
    refine T_go rfl rfl (st_call fn81 rfl ((hcr _ (hv.keep hs.kp)).mono ?_))
    rintro v w6 ⟨rfl, hk6⟩
    have hs := hs.next hk6
    refine T_go rfl rfl (st_litM hs (fun _ => by kernel_rfl) fun w7 b7 hk7 hb7 hs => ?_)
    refine T_go rfl rfl (st_allocS hs ty74 fun w8 b8 hk8 hb8 hs => ?_)
    refine T_goN rfl (st_storeW hs 0 rfl ty74 rfl rfl (by first | rfl | (simp; done) | assumption) (by first | rfl | (simp; done) | assumption) fun w9 hk9 hs => ?_)
    have hs := hs.front 1 rfl
    unfold clM
    have hMl := fmat_length cnt fun i k => half (clR T W m i k)
    generalize hM : fmat cnt (fun i k => half (clR T W m i k)) = M at hMl ⊢
    refine T_pu rfl rfl (pu_assign rfl) ?_
    refine T_nil ?_
    refine W_seq ?_
    refine W_seq ?_
    refine W_reg ?_
    refine T_pu rfl rfl (pu_assign rfl) ?_
    refine T_nil ?_
    refine W_block ?_
    refine W_loop (σ := Nat × Value) (fun s => [(1, .pointer (some ⟨b1, 0, none⟩)), (4, .pointer (some ⟨b4, 0, none⟩)), (5, .int .i64 cnt), (6, .pointer (some ⟨b8, 0, none⟩)), (7, s.2), (8, .int .i64 s.1)]) (fun s w' => s.1 ≤ cnt ∧ ∃ hds, St no w [aMat s.2 hds (M.take s.1), aBk b8 74 (nums .i64 (flat8 T)), aBk b4 73 (nums .i64 W), aBk b1 28 [.int .i64 m, .slice A xs.length c]] w') (fun s => cnt - s.1) (0, .slice (some ⟨b7, 0, none⟩) 0 0) ?_ ?_ ?_
    · exact .cons rfl (.cons rfl (.cons rfl (.cons rfl (.cons rfl (.cons rfl (.nil _))))))
    · exact ⟨Nat.zero_le _, [], hs⟩
    repeat clear hs
    rintro ⟨k, u⟩ w10 ⟨hkc, hds, hs⟩
    dsimp only at hkc hs ⊢
    refine W_seq ?_
    refine W_seq ?_
    refine W_reg ?_
    refine T_pu rfl rfl (pu_move rfl) ?_
    refine T_pu rfl rfl (pu_move rfl) ?_
    refine T_pu rfl rfl (pu_lss rfl rfl) ?_
    refine T_nil ?_
    refine W_if rfl (fun hc6 => ?_) (fun hc6 => ?_)
    · refine W_skip ?_
      refine W_seq ?_
      refine W_block ?_
      refine W_seq ?_
      refine W_reg ?_
      refine T_pu rfl rfl (pu_move rfl) ?_
      refine T_go rfl rfl (st_makeI hs Try.underlying22 ty2 rfl rfl (by omega) fun w11 b11 hk11 hb11 hs => ?_)
      rw [frow_zero] at hs
      refine T_pu rfl rfl (pu_assign rfl) ?_
      refine T_nil ?_
      refine W_seq ?_
      refine W_seq ?_
      refine W_reg ?_
      refine T_pu rfl rfl (pu_assign rfl) ?_
      refine T_nil ?_
      refine W_block ?_
      refine W_loop (σ := Nat) (fun x => [(1, .pointer (some ⟨b1, 0, none⟩)), (4, .pointer (some ⟨b4, 0, none⟩)), (5, .int .i64 cnt), (6, .pointer (some ⟨b8, 0, none⟩)), (7, u), (8, .int .i64 k), (9, .slice (some ⟨b11, 0, none⟩) cnt cnt), (10, .int .i64 x)]) (fun x w' => x ≤ m ∧ St no w [aOI (.slice (some ⟨b11, 0, none⟩) cnt cnt) (frow cnt (pS T W m k x)), aMat u hds (M.take k), aBk b8 74 (nums .i64 (flat8 T)), aBk b4 73 (nums .i64 W), aBk b1 28 [.int .i64 m, .slice A xs.length c]] w') (fun x => m - x) 0 ?_ ?_ ?_
      · exact .cons rfl (.cons rfl (.cons rfl (.cons rfl (.cons rfl (.cons rfl (.cons rfl (.cons rfl (.nil _))))))))
      · exact ⟨Nat.zero_le _, hs⟩
      repeat clear hs
      rintro x w12 ⟨hxm, hs⟩
      refine W_seq ?_
      refine W_seq ?_
      refine W_reg ?_
      refine T_pu rfl rfl (pu_move rfl) ?_
      refine T_pu rfl rfl (pu_fld (off := 0) Try.underlying28 rfl rfl ty2 rfl rfl) ?_
      refine T_pi rfl rfl (pi_load Try.underlying2 rfl rfl (fun w' h => by obtain rfl := h; exact (by first | exact (hs.bk 4 rfl).cell rfl))) ?_
      refine T_pu rfl rfl (pu_lss rfl rfl) ?_
      refine T_nil ?_
      refine W_if rfl (fun hc10 => ?_) (fun hc10 => ?_)
      · refine W_skip ?_
        refine W_seq ?_
        refine W_block ?_
        refine W_seq ?_
        refine W_reg ?_
        refine T_pu rfl rfl (pu_assign rfl) ?_
        refine T_nil ?_
        refine W_block ?_
        refine W_loop (σ := Nat) (fun y => [(1, .pointer (some ⟨b1, 0, none⟩)), (4, .pointer (some ⟨b4, 0, none⟩)), (5, .int .i64 cnt), (6, .pointer (some ⟨b8, 0, none⟩)), (7, u), (8, .int .i64 k), (9, .slice (some ⟨b11, 0, none⟩) cnt cnt), (10, .int .i64 x), (11, .int .i64 y)]) (fun y w' => y ≤ m ∧ (y = 0 ∨ rd W x = k) ∧ St no w [aOI (.slice (some ⟨b11, 0, none⟩) cnt cnt) (frow cnt fun j => pS T W m k x j + qS T W x y j), aMat u hds (M.take k), aBk b8 74 (nums .i64 (flat8 T)), aBk b4 73 (nums .i64 W), aBk b1 28 [.int .i64 m, .slice A xs.length c]] w') (fun y => m - y) 0 ?_ ?_ ?_
        · exact .cons rfl (.cons rfl (.cons rfl (.cons rfl (.cons rfl (.cons rfl (.cons rfl (.cons rfl (.cons rfl (.nil _)))))))))
        · exact ⟨Nat.zero_le _, .inl rfl, by rw [show frow cnt (pS T W m k x) = frow cnt fun j => pS T W m k x j + qS T W x 0 j from frow_congr fun j _ => by show _ = _ + (0 : Int); rw [Int.add_zero]] at hs; exact hs⟩
        repeat clear hs
        rintro y w13 ⟨hym, hyk, hs⟩
        refine W_seq ?_
        refine W_seq ?_
        refine W_reg ?_
        refine T_pu rfl rfl (pu_move rfl) ?_
        refine T_pu rfl rfl (pu_fld (off := 0) Try.underlying28 rfl rfl ty2 rfl rfl) ?_
        refine T_pi rfl rfl (pi_load Try.underlying2 rfl rfl (fun w' h => by obtain rfl := h; exact (by first | exact (hs.bk 4 rfl).cell rfl | exact (hs.bk 3 rfl).at1 (by omega) (by omega)))) ?_
        refine T_pu rfl rfl (pu_lss rfl rfl) ?_
        refine T_if rfl rfl (pu_move rfl) (fun hg13_4 => ?_) (fun hg13_4 => ?_)
        · refine T_pu rfl rfl (pu_move rfl) ?_
          refine T_pu rfl rfl (pu_ixA Try.underlying73 ty2 rfl rfl (by omega) (by omega)) ?_
          refine T_pi rfl rfl (pi_load Try.underlying2 rfl rfl (fun w' h => by obtain rfl := h; exact (by first | exact (hs.bk 4 rfl).cell rfl | exact (hs.bk 3 rfl).at1 (by omega) (by omega)))) ?_
          refine T_pu rfl rfl (pu_move rfl) ?_
          refine T_pu rfl rfl (pu_eql rfl rfl) ?_
          refine T_pu rfl rfl (pu_pick_t rfl rfl) ?_
          refine T_nil ?_
          refine W_if rfl (fun hc13 => ?_) (fun hc13 => ?_)
          · refine W_skip ?_
            refine W_seq ?_
            refine W_block ?_
            refine W_draw mixed 17 IS (fun w14 hk14 => ?_)
            have hs := hs.next hk14
            have hg1 := hgot y (by omega) (by omega)
            have hg2 := hrng y (by omega) (by omega)
            have hcw := (hs.bk 3 rfl).at1 (i := y) (by omega) (by omega)
            have hqs := fun j => qS_succ T W x y j
            obtain ⟨t, ht⟩ : ∃ t : Nat, rd W y = t := ⟨(rd W y).toNat, by omega⟩
            rw [ht] at hcw hg1 hg2
            have hct := (hs.oi 0 rfl).ri.at0 (i := t) (by omega) (by rw [frow_length]; omega)
            rw [frow_rd (by omega) (by omega), Int.toNat_natCast] at hct
            obtain ⟨z, hz, hcz⟩ := (hs.bk 2 rfl).at2x (i := x) (j := y) (m := 8) (by omega) (by omega) (by omega)
            have hz := hz.out
            rw [flat8_rd (by omega) (by omega)] at hz
            subst hz
            have hb1 := pS_bd hsq hB4 hm.2 W k (x := x) (by omega) t
            have hb2 := qS_bd hsq hB4 W x (y := y) (by omega) t
            have hb3 := hsq.2.2 x y
            refine D_pu 0 (by kernel_rfl) rfl (by kernel_rfl) (by kernel_rfl) rfl rfl (by kernel_rfl) (Pu.stable (pu_move rfl)) ?_
            refine D_pu 1 (by kernel_rfl) rfl (by kernel_rfl) (by kernel_rfl) rfl rfl (by kernel_rfl) (Pu.stable (pu_move rfl)) ?_
            refine D_pu 2 (by kernel_rfl) rfl (by kernel_rfl) (by kernel_rfl) rfl rfl (by kernel_rfl) (Pu.stable (pu_ixA Try.underlying73 ty2 rfl rfl (by omega) (by omega))) ?_
            refine D_rd 3 (by kernel_rfl) rfl (by kernel_rfl) (by kernel_rfl) rfl rfl (by kernel_rfl) (by kernel_rfl) (by kernel_rfl) (pi_load Try.underlying2 rfl rfl (fun w' h => by obtain rfl := h rfl; exact (by first | exact hcw | exact hct | exact hcz))) ?_
            refine D_pu 4 (by kernel_rfl) rfl (by kernel_rfl) (by kernel_rfl) rfl rfl (by kernel_rfl) (Pu.stable (pu_move rfl)) ?_
            refine D_pu 5 (by kernel_rfl) rfl (by kernel_rfl) (by kernel_rfl) rfl rfl (by kernel_rfl) (Pu.stable (pu_move rfl)) ?_
            refine D_pu 6 (by kernel_rfl) rfl (by kernel_rfl) (by kernel_rfl) rfl rfl (by kernel_rfl) (Pu.stable (pu_ixA Try.underlying73 ty2 rfl rfl (by omega) (by omega))) ?_
            refine D_rd 7 (by kernel_rfl) rfl (by kernel_rfl) (by kernel_rfl) rfl rfl (by kernel_rfl) (by kernel_rfl) (by kernel_rfl) (pi_load Try.underlying2 rfl rfl (fun w' h => by obtain rfl := h rfl; exact (by first | exact hcw | exact hct | exact hcz))) ?_
            refine D_pu 8 (by kernel_rfl) rfl (by kernel_rfl) (by kernel_rfl) rfl rfl (by kernel_rfl) (Pu.stable ((by first | exact pu_ix1 Try.underlying22 ty2 rfl rfl (by omega) (by omega) | exact pu_index Try.underlying22 ty2 rfl rfl (by omega) (by omega)))) ?_
            refine D_rd 9 (by kernel_rfl) rfl (by kernel_rfl) (by kernel_rfl) rfl rfl (by kernel_rfl) (by kernel_rfl) (by kernel_rfl) (pi_load Try.underlying2 rfl rfl (fun w' h => by obtain rfl := h rfl; exact (by first | exact hcw | exact hct | exact hcz))) ?_
            refine D_pu 10 (by kernel_rfl) rfl (by kernel_rfl) (by kernel_rfl) rfl rfl (by kernel_rfl) (Pu.stable (pu_move rfl)) ?_
            refine D_pu 11 (by kernel_rfl) rfl (by kernel_rfl) (by kernel_rfl) rfl rfl (by kernel_rfl) (Pu.stable (pu_move rfl)) ?_
            refine D_pu 12 (by kernel_rfl) rfl (by kernel_rfl) (by kernel_rfl) rfl rfl (by kernel_rfl) (Pu.stable (pu_ixA Try.underlying74 ty73 rfl rfl (by omega) (by omega))) ?_
            refine D_pu 13 (by kernel_rfl) rfl (by kernel_rfl) (by kernel_rfl) rfl rfl (by kernel_rfl) (Pu.stable (pu_ixA Try.underlying73 ty2 rfl rfl (by omega) (by omega))) ?_
            refine D_rd 14 (by kernel_rfl) rfl (by kernel_rfl) (by kernel_rfl) rfl rfl (by kernel_rfl) (by kernel_rfl) (by kernel_rfl) (pi_load Try.underlying2 rfl rfl (fun w' h => by obtain rfl := h rfl; exact (by first | exact hcw | exact hct | exact hcz))) ?_
            refine D_pu 15 (by kernel_rfl) rfl (by kernel_rfl) (by kernel_rfl) rfl rfl (by kernel_rfl) (Pu.stable (pu_add64 rfl rfl (add_bd hb1 hb2 (by omega)))) ?_
            refine D_pu 16 (by kernel_rfl) rfl (by kernel_rfl) (by kernel_rfl) rfl rfl (by kernel_rfl) (Pu.stable ((by first | exact pu_ix1 Try.underlying22 ty2 rfl rfl (by omega) (by omega) | exact pu_index Try.underlying22 ty2 rfl rfl (by omega) (by omega)))) ?_
            refine D_goN 17 (by kernel_rfl) (by first | rfl | (intro _; rfl) | (intro h; exact absurd (show true = false from h) (by decide)) | exact Kp.refl _ _ | assumption) rfl rfl (st_storeI hs 0 rfl ty2 rfl rfl (by omega) (by rw [frow_length]; omega) fun w15 hk15 hs => ?_)
            rw [Int.toNat_natCast, frow_set (by omega), show frow cnt (fun j => if j = t then pS T W m k x t + qS T W x y t + rd2 T x y else pS T W m k x j + qS T W x y j) = frow cnt (fun j => pS T W m k x j + qS T W x (y + 1) j) from frow_congr fun j _ => by
              rw [hqs, ht]
              by_cases hj : j = t
              · rw [if_pos hj, if_pos (by rw [hj]), hj]; omega
              · rw [if_neg hj, if_neg (by omega)]; omega] at hs
            simp only [List.set_cons_zero] at hs
            refine D_done (by kernel_rfl) (by first | rfl | (intro _; rfl) | (intro h; exact absurd (show true = false from h) (by decide)) | exact Kp.refl _ _ | assumption) ?_
            refine W_reg ?_
            refine T_pu rfl rfl (pu_move rfl) ?_
            refine T_pu rfl rfl (pu_add64 rfl rfl (by omega)) ?_
            refine T_pu rfl rfl (pu_assign rfl) ?_
            refine T_nil ?_
            exact ⟨y + 1, .cons rfl (.cons rfl (.cons rfl (.cons rfl (.cons rfl (.cons rfl (.cons rfl (.cons rfl (.cons rfl (.nil _))))))))), ⟨by omega, .inr (by omega), hs⟩, by omega⟩
          · refine W_exit rfl ?_
            have hs : St no w [aOI (.slice (some ⟨b11, 0, none⟩) cnt cnt) (frow cnt (pS T W m k (x + 1))), aMat u hds (M.take k), aBk b8 74 (nums .i64 (flat8 T)), aBk b4 73 (nums .i64 W), aBk b1 28 [.int .i64 m, .slice A xs.length c]] w13 := by
              rw [show frow cnt (pS T W m k (x + 1)) = frow cnt (fun j => pS T W m k x j + qS T W x y j) from frow_congr fun j _ => by
                rw [pS_succ]
                congr 1
                by_cases hW : rd W x = k
                · rw [if_pos hW]
                  have : y = m := by first | omega | (exfalso; omega)
                  rw [this]
                · rw [if_neg hW]
                  have : y = 0 := by omega
                  rw [this]
                  rfl]
              exact hs
            refine W_reg ?_
            refine T_pu rfl rfl (pu_move rfl) ?_
            refine T_pu rfl rfl (pu_add64 rfl rfl (by omega)) ?_
            refine T_pu rfl rfl (pu_assign rfl) ?_
            refine T_nil ?_
            exact ⟨x + 1, .cons rfl (.cons rfl (.cons rfl (.cons rfl (.cons rfl (.cons rfl (.cons rfl (.cons rfl (.nil _)))))))), ⟨by omega, hs⟩, by omega⟩
        · refine T_no rfl rfl ?_
          refine T_no rfl rfl ?_
          refine T_no rfl rfl ?_
          refine T_no rfl rfl ?_
          refine T_no rfl rfl ?_
          refine T_pu rfl rfl (pu_pick_f rfl rfl) ?_
          refine T_nil ?_
          refine W_false rfl ?_
          refine W_exit rfl ?_
          have hs : St no w [aOI (.slice (some ⟨b11, 0, none⟩) cnt cnt) (frow cnt (pS T W m k (x + 1))), aMat u hds (M.take k), aBk b8 74 (nums .i64 (flat8 T)), aBk b4 73 (nums .i64 W), aBk b1 28 [.int .i64 m, .slice A xs.length c]] w13 := by
            rw [show frow cnt (pS T W m k (x + 1)) = frow cnt (fun j => pS T W m k x j + qS T W x y j) from frow_congr fun j _ => by
              rw [pS_succ]
              congr 1
              by_cases hW : rd W x = k
              · rw [if_pos hW]
                have : y = m := by first | omega | (exfalso; omega)
                rw [this]
              · rw [if_neg hW]
                have : y = 0 := by omega
                rw [this]
                rfl]
            exact hs
          refine W_reg ?_
          refine T_pu rfl rfl (pu_move rfl) ?_
          refine T_pu rfl rfl (pu_add64 rfl rfl (by omega)) ?_
          refine T_pu rfl rfl (pu_assign rfl) ?_
          refine T_nil ?_
          exact ⟨x + 1, .cons rfl (.cons rfl (.cons rfl (.cons rfl (.cons rfl (.cons rfl (.cons rfl (.cons rfl (.nil _)))))))), ⟨by omega, hs⟩, by omega⟩
      · refine W_exit rfl ?_
        refine W_seq ?_
        refine W_seq ?_
        obtain rfl : x = m := by omega
        refine W_reg ?_
        refine T_pu rfl rfl (pu_assign rfl) ?_
        refine T_nil ?_
        refine W_block ?_
        refine W_loop (σ := Nat) (fun j => [(1, .pointer (some ⟨b1, 0, none⟩)), (4, .pointer (some ⟨b4, 0, none⟩)), (5, .int .i64 cnt), (6, .pointer (some ⟨b8, 0, none⟩)), (7, u), (8, .int .i64 k), (9, .slice (some ⟨b11, 0, none⟩) cnt cnt), (12, .int .i64 j)]) (fun j w' => j ≤ cnt ∧ St no w [aOI (.slice (some ⟨b11, 0, none⟩) cnt cnt) (frow cnt fun i => if i < j then half (pS T W x k x i) else pS T W x k x i), aMat u hds (M.take k), aBk b8 74 (nums .i64 (flat8 T)), aBk b4 73 (nums .i64 W), aBk b1 28 [.int .i64 x, .slice A xs.length c]] w') (fun j => cnt - j) 0 ?_ ?_ ?_
        · exact .cons rfl (.cons rfl (.cons rfl (.cons rfl (.cons rfl (.cons rfl (.cons rfl (.cons rfl (.nil _))))))))
        · exact ⟨Nat.zero_le _, by rw [show frow cnt (pS T W x k x) = frow cnt fun i => if i < 0 then half (pS T W x k x i) else pS T W x k x i from frow_congr fun j _ => by rw [if_neg (by omega)]] at hs; exact hs⟩
        repeat clear hs
        rintro j w16 ⟨hjc, hs⟩
        refine W_seq ?_
        refine W_seq ?_
        refine W_reg ?_
        refine T_pu rfl rfl (pu_move rfl) ?_
        refine T_pu rfl rfl (pu_move rfl) ?_
        refine T_pu rfl rfl (pu_lss rfl rfl) ?_
        refine T_nil ?_
        refine W_if rfl (fun hc17 => ?_) (fun hc17 => ?_)
        · refine W_skip ?_
          refine W_seq ?_
          refine W_block ?_
          have hcj := (hs.oi 0 rfl).ri.at0 (i := j) (by omega) (by rw [frow_length]; omega)
          rw [frow_rd (by omega) (by omega), Int.toNat_natCast, if_neg (by omega)] at hcj
          have hbh := half_bd (pS_bd hsq hB4 hm.2 W k (x := x) (by omega) j)
          refine W_reg ?_
          refine T_pu rfl rfl (pu_move rfl) ?_
          refine T_pu rfl rfl (pu_move rfl) ?_
          refine T_pu rfl rfl (pu_move rfl) ?_
          refine T_pu rfl rfl (pu_move rfl) ?_
          refine T_pu rfl rfl ((by first | exact pu_ix1 Try.underlying22 ty2 rfl rfl (by omega) (by omega) | exact pu_index Try.underlying22 ty2 rfl rfl (by omega) (by omega))) ?_
          refine T_pi rfl rfl (pi_load Try.underlying2 rfl rfl (fun w' h => by obtain rfl := h; exact (by first | exact hcj))) ?_
          refine T_pu rfl rfl (pu_quo64 rfl rfl (by omega) (by omega)) ?_
          refine T_pu rfl rfl ((by first | exact pu_ix1 Try.underlying22 ty2 rfl rfl (by omega) (by omega) | exact pu_index Try.underlying22 ty2 rfl rfl (by omega) (by omega))) ?_
          refine T_goN rfl (st_storeI hs 0 rfl ty2 rfl rfl (by omega) (by rw [frow_length]; omega) fun w17 hk17 hs => ?_)
          rw [Int.toNat_natCast, frow_set (by omega), show (frow cnt fun i => if i = j then (pS T W x k x j).tdiv 2 else if i < j then half (pS T W x k x i) else pS T W x k x i) = frow cnt (fun i => if i < j + 1 then half (pS T W x k x i) else pS T W x k x i) from frow_congr fun i _ => by
            by_cases hi : i = j
            · rw [if_pos hi, if_pos (by omega), hi]; rfl
            · rw [if_neg hi]
              by_cases hi2 : i < j
              · rw [if_pos hi2, if_pos (by omega)]
              · rw [if_neg hi2, if_neg (by omega)]] at hs
          simp only [List.set_cons_zero] at hs
          refine T_nil ?_
          refine W_reg ?_
          refine T_pu rfl rfl (pu_move rfl) ?_
          refine T_pu rfl rfl (pu_add64 rfl rfl (by omega)) ?_
          refine T_pu rfl rfl (pu_assign rfl) ?_
          refine T_nil ?_
          exact ⟨j + 1, .cons rfl (.cons rfl (.cons rfl (.cons rfl (.cons rfl (.cons rfl (.cons rfl (.cons rfl (.nil _)))))))), ⟨by omega, hs⟩, by omega⟩
        · refine W_exit rfl ?_
          obtain rfl : j = cnt := by omega
          have hrow : (frow j fun i => if i < j then half (pS T W x k x i) else pS T W x k x i) = rr M k := by
            rw [← hM, fmat_frow (by omega)]
            exact frow_congr fun i hi => by rw [if_pos hi]; rfl
          rw [hrow] at hs
          have hs := hs.front 1 rfl
          refine W_reg ?_
          refine T_pu rfl rfl (pu_move rfl) ?_
          refine T_pu rfl rfl (pu_move rfl) ?_
          refine T_go rfl rfl (st_litR hs rfl (fun _ => by kernel_rfl) fun w18 b18 hk18 hb18 hs hU => ?_)
          refine T_go rfl rfl (st_appendM (by' := 0) hs Try.underlying32 ty22 rfl rfl hU rfl (by rw [List.length_take]; omega) fun u' w19 hs hk19 hf19 => ?_)
          rw [← take_rr (by omega)] at hs
          refine T_pu rfl rfl (pu_assign rfl) ?_
          refine T_nil ?_
          refine W_reg ?_
          refine T_pu rfl rfl (pu_move rfl) ?_
          refine T_pu rfl rfl (pu_add64 rfl rfl (by omega)) ?_
          refine T_pu rfl rfl (pu_assign rfl) ?_
          refine T_nil ?_
          exact ⟨(k + 1, u'), .cons rfl (.cons rfl (.cons rfl (.cons rfl (.cons rfl (.cons rfl (.nil _)))))), ⟨by show k + 1 ≤ _; omega, _, hs⟩, by show _ - (k + 1) < _ - k; omega⟩
    · refine W_exit rfl ?_
      refine W_seq ?_
      refine W_reg ?_
      refine T_pu rfl rfl (pu_move rfl) ?_
      refine T_pu rfl rfl (pu_assign rfl) ?_
      refine T_pu rfl rfl (pu_assign rfl) ?_
      refine T_nil ?_
      refine W_ret ?_
      obtain rfl : k = cnt := by omega
      rw [List.take_of_length_le (by omega)] at hs
      exact Res_2 rfl rfl rfl ⟨_, rfl, hs.isNewM 0 rfl⟩
theorem clinkR_ok (n : Int) (xs : List Int) : (clinkR n xs).1.length ≤ 28 ∧ ∀ ys ∈ (clinkR n xs).1, ys.length ≤ 28 := by
  unfold clinkR
  split
  · exact ⟨by simp, fun ys h => by simp at h⟩
  · rename_i h
    have hBr := Decidable.not_not.1 h
    have h1 := hBr.1
    obtain ⟨m, rfl⟩ : ∃ m : Nat, n = m := ⟨n.toNat, by omega⟩
    rw [Int.toNat_natCast]
    obtain ⟨_, hCk⟩ := compS_ok (by omega) (endsF_ok (n := m) (by omega) xs) m (Nat.le_refl _)
    unfold clM
    refine ⟨by rw [fmat_length]; omega, fun ys hy => ?_⟩
    simp only [fmat, List.mem_map, List.mem_range] at hy
    obtain ⟨i, _, rfl⟩ := hy
    simp
    omega
set_option maxHeartbeats 8000000 in
theorem lawComponentLinkings_ok (n : Int) (v : Value) (xs : List Int) (w : World) (hv : RI w v xs) (hl : xs.length ≤ 9223372036854775807) (hw : ∀ x ∈ xs, -9223372036854775808 ≤ x ∧ x ≤ 9223372036854775807) (hn : -9223372036854775808 ≤ n) (hn2 : n ≤ 9223372036854775807) :
    CallsR Try.prog 15 #[.agg #[.int .i64 n, v]] w fun r w' => r = .bool true ∧ Kp no w w' := by
  obtain ⟨A, c, rfl, hc⟩ := hv.open
  have hs := St.start w
  obtain ⟨hR1, hR2⟩ := clinkR_ok n xs
  have hsI := fun (v : Value) (w : World) (hv : RI w v xs) => specComponentLinkings_ok n v xs w hv hl hw
  have hiI := fun (v : Value) (w : World) (hv : RI w v xs) => implComponentLinkings_ok n v xs w hv hl
  generalize hRe : (clinkR n xs).1 = R at hR1 hR2 hsI hiI
  have hR1' : R.length ≤ 9223372036854775807 := by omega
  have hR2' : ∀ xs ∈ R, xs.length ≤ 9223372036854775807 := fun xs h => by have := hR2 xs h; omega
  have hR2'' : ∀ xs ∈ R, xs.length ≤ 1048576 := fun xs h => by have := hR2 xs h; omega
  refine fn_calls Try.func15 rfl rfl rfl ?_
  refine W_seq ?_
  refine W_reg ?_
  refine T_go rfl rfl (st_boxS hs rfl fun w1 b1 hk1 hb1 hs => ?_)
  refine T_pu rfl rfl (pu_assign rfl) ?_
  refine T_nil ?_
  refine W_seq ?_
  refine W_reg ?_
  refine T_pu rfl rfl (pu_assign rfl) ?_
  refine T_nil ?_
  refine W_seq ?_
  refine W_reg ?_
  refine T_pi rfl rfl (pi_loadAgg Try.underlying24 rfl ty24 rfl (fun w' h => by obtain rfl := h; exact (by first | exact (hs.bk 0 rfl).cells)) (by first | rfl | (simp; done) | (rw [nums_length]; assumption) | assumption)) ?_
  refine T_pu rfl rfl (pu_move rfl) ?_
  refine T_go rfl rfl (st_call fn16 rfl ((szBraid_ok n _ xs 1048576 _ (hv.keep hs.kp) hl (by omega)).mono ?_))
  rintro v w2 ⟨rfl, hk2⟩
  have hs := hs.next hk2
  refine T_pu rfl rfl (pu_assign rfl) ?_
  refine T_nil ?_
  refine W_seq ?_
  refine W_seq ?_
  refine W_reg ?_
  refine T_pu rfl rfl (pu_move rfl) ?_
  refine T_pu rfl rfl (pu_lss rfl rfl) ?_
  refine T_nil ?_
  refine W_if rfl (fun hc3 => ?_) (fun hc3 => ?_)
  · refine W_seq ?_
    refine W_reg ?_
    refine T_pu rfl rfl (pu_assign rfl) ?_
    refine T_nil ?_
    refine W_ret ?_
    exact Res_1 rfl rfl ⟨rfl, hs.kp⟩
  · refine W_skip ?_
    refine W_seq ?_
    have hl' : xs.length ≤ 1048576 := by split at hc3 <;> omega
    refine W_reg ?_
    refine T_pi rfl rfl (pi_loadAgg Try.underlying24 rfl ty24 rfl (fun w' h => by obtain rfl := h; exact (by first | exact (hs.bk 0 rfl).cells)) (by first | rfl | (simp; done) | (rw [nums_length]; assumption) | assumption)) ?_
    refine T_go rfl rfl (st_call fn18 rfl ((toBraid_ok n _ xs _ (hv.keep hs.kp) hl').mono ?_))
    rintro v w3 ⟨u, rfl, hnB⟩
    have hs := hs.newI hnB
    refine T_go rfl rfl (st_call fn64 rfl ((hsI _ _ (hs.oi 0 rfl).ri).mono ?_))
    rintro v w4 ⟨u4, rfl, hds4, hM4, hk4, hf4⟩
    have hs := (hs.newM hM4 hk4 hf4).drop 1
    refine T_pu rfl rfl (pu_move rfl) ?_
    refine T_pu rfl rfl (pu_extract rfl rfl) ?_
    refine T_pu rfl rfl (pu_extract rfl rfl) ?_
    refine T_pu rfl rfl (pu_assign rfl) ?_
    refine T_pu rfl rfl (pu_assign rfl) ?_
    refine T_nil ?_
    refine W_seq ?_
    refine W_reg ?_
    refine T_pi rfl rfl (pi_loadAgg Try.underlying24 rfl ty24 rfl (fun w' h => by obtain rfl := h; exact (by first | exact (hs.bk 1 rfl).cells)) (by first | rfl | (simp; done) | (rw [nums_length]; assumption) | assumption)) ?_
    refine T_go rfl rfl (st_call fn18 rfl ((toBraid_ok n _ xs _ (hv.keep hs.kp) hl').mono ?_))
    rintro v w5 ⟨u2, rfl, hnB2⟩
    obtain ⟨A2, c2, rfl, _⟩ := hnB2.1.ri.open
    have hs := hs.newI hnB2
    refine T_go rfl rfl (st_allocS hs ty28 fun w6 b6 hk6 hb6 hs => ?_)
    refine T_goN rfl (st_storeBs hs 0 rfl ty28 rfl rfl rfl (by simp [Value.cells, Value.oneCell']) (by first | exact Nat.le_of_ble_eq_true rfl | omega | (simp; done) | (simp; omega)) fun w7 hk7 hs => ?_)
    refine T_nil ?_
    refine W_seq ?_
    refine W_reg ?_
    refine T_pi rfl rfl (pi_loadAgg Try.underlying28 rfl ty28 rfl (fun w' h => by obtain rfl := h; exact (by first | exact (hs.bk 0 rfl).cells)) (by first | rfl | (simp; done) | (rw [nums_length]; assumption) | assumption)) ?_
    refine T_go rfl rfl (st_call fn65 rfl ((hiI _ _ (hs.oi 1 rfl).ri).mono ?_))
    rintro v w8 ⟨u8, rfl, hds8, hM8, hk8, hf8⟩
    have hs := hs.newM hM8 hk8 hf8
    refine T_pu rfl rfl (pu_move rfl) ?_
    refine T_pu rfl rfl (pu_extract rfl rfl) ?_
    refine T_pu rfl rfl (pu_extract rfl rfl) ?_
    refine T_pu rfl rfl (pu_assign rfl) ?_
    refine T_pu rfl rfl (pu_assign rfl) ?_
    refine T_nil ?_
    refine W_seq ?_
    refine W_seq ?_
    refine W_reg ?_
    refine T_pu rfl rfl (pu_move rfl) ?_
    refine T_pu rfl rfl (pu_move rfl) ?_
    refine T_go rfl rfl (st_call fn25 rfl ((eqInt64SS_ok _ _ R R _ (hs.mat 0 rfl).rm (hs.mat 3 rfl).rm hR1' hR1' hR2' hR2').mono ?_))
    rintro v w9 ⟨rfl, hk9⟩
    have hs := hs.next hk9
    refine T_pu rfl rfl (pu_notp rfl) ?_
    refine T_if rfl rfl (pu_move rfl) (fun hg8_4 => ?_) (fun hg8_4 => ?_)
    · refine T_no rfl rfl ?_
      refine T_no rfl rfl ?_
      refine T_no rfl rfl ?_
      refine T_pu rfl rfl (pu_pick_t rfl rfl) ?_
      refine T_nil ?_
      refine W_true rfl ?_
      refine W_seq ?_
      refine W_reg ?_
      refine T_pu rfl rfl (pu_assign rfl) ?_
      refine T_nil ?_
      refine W_ret ?_
      exfalso; simp_all
    · refine T_pu rfl rfl (pu_move rfl) ?_
      refine T_pu rfl rfl (pu_move rfl) ?_
      refine T_pu rfl rfl (pu_neq rfl rfl) ?_
      refine T_pu rfl rfl (pu_pick_f rfl rfl) ?_
      refine T_nil ?_
      refine W_if rfl (fun hc8 => ?_) (fun hc8 => ?_)
      · refine W_seq ?_
        refine W_reg ?_
        refine T_pu rfl rfl (pu_assign rfl) ?_
        refine T_nil ?_
        refine W_ret ?_
        exfalso; simp_all
      · refine W_skip ?_
        refine W_seq ?_
        refine W_seq ?_
        refine W_draw mixed 1000 IK (fun w10 hk10 => ?_)
        have hs := hs.next hk10
        refine D_pu 0 (by kernel_rfl) rfl (by kernel_rfl) (by kernel_rfl) rfl rfl (by kernel_rfl) (pi_loadAgg Try.underlying28 rfl ty28 rfl (fun w' h => by obtain ⟨_, h⟩ := h; exact h.cells (by first | exact (hs.bk 1 rfl).cells | exact (hs.bk 4 rfl).cells) id) (by first | rfl | (simp; done) | (rw [nums_length]; assumption) | assumption)) ?_
        refine D_pu 1 (by kernel_rfl) rfl (by kernel_rfl) (by kernel_rfl) rfl rfl (by kernel_rfl) (pi_loadAgg Try.underlying24 rfl ty24 rfl (fun w' h => by obtain ⟨_, h⟩ := h; exact h.cells (by first | exact (hs.bk 1 rfl).cells | exact (hs.bk 4 rfl).cells) id) (by first | rfl | (simp; done) | (rw [nums_length]; assumption) | assumption)) ?_
        refine D_go 2 (by kernel_rfl) (by first | rfl | (intro _; rfl) | (intro h; exact absurd (show true = false from h) (by decide)) | exact Kp.refl _ _ | assumption) rfl rfl rfl (st_call fn18 rfl ((toBraid_ok n _ xs _ (hv.keep hs.kp) hl').mono ?_))
        rintro v w11 ⟨u11, rfl, hnB3⟩
        have hkA : Kp no w10 w11 := hnB3.2.1
        have hs := hs.newI hnB3
        refine D_go 3 (by kernel_rfl) (by first | rfl | (intro _; rfl) | (intro h; exact absurd (show true = false from h) (by decide)) | exact Kp.refl _ _ | assumption) rfl rfl rfl (st_call fn20 rfl ((eqBraid_ok n n _ _ xs xs _ (hs.oi 3 rfl).ri (hs.oi 0 rfl).ri hl hl).mono ?_))
        rintro v w12 ⟨rfl, hk12⟩
        have hkB : Kp no w10 w12 := hkA.next hk12
        have hs := (hs.next hk12).tail
        refine D_pu 4 (by kernel_rfl) rfl (by kernel_rfl) (by kernel_rfl) rfl rfl (by kernel_rfl) (Pu.stable (pu_notp rfl)) ?_
        refine D_done (by kernel_rfl) (by first | rfl | (intro _; rfl) | (intro h; exact absurd (show true = false from h) (by decide)) | exact Kp.refl _ _ | assumption) ?_
        refine W_if rfl (fun hc10 => ?_) (fun hc10 => ?_)
        · refine W_seq ?_
          refine W_reg ?_
          refine T_pu rfl rfl (pu_assign rfl) ?_
          refine T_nil ?_
          refine W_ret ?_
          exfalso; simp_all
        · refine W_skip ?_
          refine W_seq ?_
          refine W_reg ?_
          refine T_pu rfl rfl (pu_assign rfl) ?_
          refine T_nil ?_
          refine W_seq ?_
          refine W_reg ?_
          refine T_pi rfl rfl (pi_loadAgg Try.underlying28 rfl ty28 rfl (fun w' h => by obtain rfl := h; exact (by first | exact (hs.bk 1 rfl).cells)) (by first | rfl | (simp; done) | (rw [nums_length]; assumption) | assumption)) ?_
          refine T_pu rfl rfl (pu_move rfl) ?_
          refine T_go rfl rfl (st_call fn28 rfl ((markBraid_ok n _ xs 1 _ (hs.oi 2 rfl) hl' (by omega)).mono ?_))
          rintro v w13 ⟨rfl, hk13, hO13⟩
          have hs := hs.upd 2 rfl hk13 (aOI _ _) hO13 (fun b h => .inl (by simpa [aOI, aOw] using h))
          refine T_pu rfl rfl (pu_assign rfl) ?_
          refine T_nil ?_
          refine W_seq ?_
          refine W_seq ?_
          refine W_reg ?_
          refine T_pu rfl rfl (pu_move rfl) ?_
          refine T_pu rfl rfl (pu_lss rfl rfl) ?_
          refine T_if rfl rfl (pu_move rfl) (fun hg14_2 => ?_) (fun hg14_2 => ?_)
          · refine T_no rfl rfl ?_
            refine T_no rfl rfl ?_
            refine T_no rfl rfl ?_
            refine T_no rfl rfl ?_
            refine T_pu rfl rfl (pu_pick_t rfl rfl) ?_
            refine T_pu rfl rfl (pu_move rfl) ?_
            refine T_no rfl rfl ?_
            refine T_no rfl rfl ?_
            refine T_no rfl rfl ?_
            refine T_pu rfl rfl (pu_pick_t rfl rfl) ?_
            refine T_nil ?_
            refine W_true rfl ?_
            refine W_seq ?_
            refine W_reg ?_
            refine T_pu rfl rfl (pu_assign rfl) ?_
            refine T_nil ?_
            refine W_ret ?_
            exfalso; first | omega | simp_all
          · refine T_pu rfl rfl (pu_move rfl) ?_
            refine T_pu rfl rfl (pu_move rfl) ?_
            refine T_go rfl rfl (st_call fn25 rfl ((eqInt64SS_ok _ _ R R _ (hs.mat 0 rfl).rm (hs.mat 3 rfl).rm hR1' hR1' hR2' hR2').mono ?_))
            rintro v w14 ⟨rfl, hk14⟩
            have hs := hs.next hk14
            refine T_pu rfl rfl (pu_notp rfl) ?_
            refine T_pu rfl rfl (pu_pick_f rfl rfl) ?_
            refine T_if rfl rfl (pu_move rfl) (fun hg14_8 => ?_) (fun hg14_8 => ?_)
            · refine T_no rfl rfl ?_
              refine T_no rfl rfl ?_
              refine T_no rfl rfl ?_
              refine T_pu rfl rfl (pu_pick_t rfl rfl) ?_
              refine T_nil ?_
              refine W_true rfl ?_
              refine W_seq ?_
              refine W_reg ?_
              refine T_pu rfl rfl (pu_assign rfl) ?_
              refine T_nil ?_
              refine W_ret ?_
              exfalso; first | omega | simp_all
            · refine T_pu rfl rfl (pu_move rfl) ?_
              refine T_pu rfl rfl (pu_move rfl) ?_
              refine T_pu rfl rfl (pu_neq rfl rfl) ?_
              refine T_pu rfl rfl (pu_pick_f rfl rfl) ?_
              refine T_nil ?_
              refine W_if rfl (fun hc14 => ?_) (fun hc14 => ?_)
              · refine W_seq ?_
                refine W_reg ?_
                refine T_pu rfl rfl (pu_assign rfl) ?_
                refine T_nil ?_
                refine W_ret ?_
                exfalso; first | omega | simp_all
              · refine W_skip ?_
                refine W_seq ?_
                refine W_reg ?_
                refine T_pu rfl rfl (pu_assign rfl) ?_
                refine T_nil ?_
                refine W_seq ?_
                refine W_reg ?_
                refine T_pu rfl rfl (pu_move rfl) ?_
                refine T_pu rfl rfl (pu_move rfl) ?_
                refine T_go rfl rfl (st_call fn29 rfl ((markInt64SS_ok _ _ R 1 _ (hs.mat 0 rfl) (by omega) hR2'' (by omega)).mono ?_))
                rintro v w15 ⟨rfl, hk15, hM15⟩
                have hs := hs.upd 0 rfl hk15 (aMat _ _ _) hM15 (fun b h => .inl h)
                have ht2 := totM_nonneg R
                refine T_pu rfl rfl (pu_assign rfl) ?_
                refine T_nil ?_
                refine W_seq ?_
                refine W_reg ?_
                refine T_pu rfl rfl (pu_assign rfl) ?_
                refine T_nil ?_
                refine W_seq ?_
                refine W_reg ?_
                refine T_pu rfl rfl (pu_move rfl) ?_
                refine T_pu rfl rfl (pu_move rfl) ?_
                refine T_go rfl rfl (st_call fn30 rfl ((heldInt64SS_ok _ R 1 _ (hs.mat 0 rfl).rm (by omega) hR2'' (by omega)).mono ?_))
                rintro v w16 ⟨rfl, rfl⟩
                refine T_pu rfl rfl (pu_assign rfl) ?_
                refine T_nil ?_
                refine W_seq ?_
                refine W_seq ?_
                refine W_reg ?_
                refine T_pu rfl rfl (pu_move rfl) ?_
                refine T_pu rfl rfl (pu_lss rfl rfl) ?_
                refine T_nil ?_
                refine W_if rfl (fun hc20 => ?_) (fun hc20 => ?_)
                · refine W_seq ?_
                  refine W_reg ?_
                  refine T_pu rfl rfl (pu_assign rfl) ?_
                  refine T_nil ?_
                  refine W_ret ?_
                  exfalso; omega
                · refine W_skip ?_
                  refine W_seq ?_
                  refine W_seq ?_
                  refine W_reg ?_
                  refine T_pu rfl rfl (pu_move rfl) ?_
                  refine T_pu rfl rfl (pu_move rfl) ?_
                  refine T_pu rfl rfl (pu_neq rfl rfl) ?_
                  refine T_nil ?_
                  refine W_if rfl (fun hc22 => ?_) (fun hc22 => ?_)
                  · refine W_seq ?_
                    refine W_reg ?_
                    refine T_pu rfl rfl (pu_assign rfl) ?_
                    refine T_nil ?_
                    refine W_ret ?_
                    exfalso; exact hc22 rfl
                  · refine W_skip ?_
                    refine W_seq ?_
                    refine W_reg ?_
                    refine T_pi rfl rfl (pi_loadAgg Try.underlying24 rfl ty24 rfl (fun w' h => by obtain rfl := h; exact (by first | exact (hs.bk 4 rfl).cells)) (by first | rfl | (simp; done) | (rw [nums_length]; assumption) | assumption)) ?_
                    refine T_go rfl rfl (st_call fn18 rfl ((toBraid_ok n _ xs _ (hv.keep hs.kp) hl').mono ?_))
                    rintro v w17 ⟨u17, rfl, hnB4⟩
                    have hs := hs.newI hnB4
                    refine T_go rfl rfl (st_call fn65 rfl ((hiI _ _ (hs.oi 0 rfl).ri).mono ?_))
                    rintro v w18 ⟨u18, rfl, hds18, hM18, hk18, hf18⟩
                    have hs := hs.newM hM18 hk18 hf18
                    refine T_pu rfl rfl (pu_move rfl) ?_
                    refine T_pu rfl rfl (pu_extract rfl rfl) ?_
                    refine T_pu rfl rfl (pu_extract rfl rfl) ?_
                    refine T_pu rfl rfl (pu_assign rfl) ?_
                    refine T_pu rfl rfl (pu_assign rfl) ?_
                    refine T_nil ?_
                    refine W_seq ?_
                    refine W_seq ?_
                    refine W_reg ?_
                    refine T_pu rfl rfl (pu_move rfl) ?_
                    refine T_pu rfl rfl (pu_move rfl) ?_
                    refine T_go rfl rfl (st_call fn25 rfl ((eqInt64SS_ok _ _ R R _ (hs.mat 0 rfl).rm (hs.mat 5 rfl).rm hR1' hR1' hR2' hR2').mono ?_))
                    rintro v w19 ⟨rfl, hk19⟩
                    have hs := hs.next hk19
                    refine T_pu rfl rfl (pu_notp rfl) ?_
                    refine T_if rfl rfl (pu_move rfl) (fun hg25_4 => ?_) (fun hg25_4 => ?_)
                    · refine T_no rfl rfl ?_
                      refine T_no rfl rfl ?_
                      refine T_no rfl rfl ?_
                      refine T_pu rfl rfl (pu_pick_t rfl rfl) ?_
                      refine T_nil ?_
                      refine W_true rfl ?_
                      refine W_seq ?_
                      refine W_reg ?_
                      refine T_pu rfl rfl (pu_assign rfl) ?_
                      refine T_nil ?_
                      refine W_ret ?_
                      exfalso; simp_all
                    · refine T_pu rfl rfl (pu_move rfl) ?_
                      refine T_pu rfl rfl (pu_move rfl) ?_
                      refine T_pu rfl rfl (pu_neq rfl rfl) ?_
                      refine T_pu rfl rfl (pu_pick_f rfl rfl) ?_
                      refine T_nil ?_
                      refine W_if rfl (fun hc25 => ?_) (fun hc25 => ?_)
                      · refine W_seq ?_
                        refine W_reg ?_
                        refine T_pu rfl rfl (pu_assign rfl) ?_
                        refine T_nil ?_
                        refine W_ret ?_
                        exfalso; simp_all
                      · refine W_skip ?_
                        refine W_seq ?_
                        refine W_reg ?_
                        refine T_pu rfl rfl (pu_assign rfl) ?_
                        refine T_nil ?_
                        refine W_seq ?_
                        refine W_reg ?_
                        refine T_pu rfl rfl (pu_move rfl) ?_
                        refine T_pu rfl rfl (pu_move rfl) ?_
                        refine T_go rfl rfl (st_call fn30 rfl ((heldInt64SS_ok _ R 1 _ (hs.mat 2 rfl).rm (by omega) hR2'' (by omega)).mono ?_))
                        rintro v w20 ⟨rfl, rfl⟩
                        refine T_pu rfl rfl (pu_assign rfl) ?_
                        refine T_nil ?_
                        refine W_seq ?_
                        refine W_seq ?_
                        refine W_reg ?_
                        refine T_pu rfl rfl (pu_move rfl) ?_
                        refine T_pu rfl rfl (pu_lss rfl rfl) ?_
                        refine T_nil ?_
                        refine W_if rfl (fun hc29 => ?_) (fun hc29 => ?_)
                        · refine W_seq ?_
                          refine W_reg ?_
                          refine T_pu rfl rfl (pu_assign rfl) ?_
                          refine T_nil ?_
                          refine W_ret ?_
                          exfalso; omega
                        · refine W_skip ?_
                          refine W_seq ?_
                          refine W_seq ?_
                          refine W_reg ?_
                          refine T_pu rfl rfl (pu_move rfl) ?_
                          refine T_pu rfl rfl (pu_move rfl) ?_
                          refine T_pu rfl rfl (pu_neq rfl rfl) ?_
                          refine T_nil ?_
                          refine W_if rfl (fun hc31 => ?_) (fun hc31 => ?_)
                          · refine W_seq ?_
                            refine W_reg ?_
                            refine T_pu rfl rfl (pu_assign rfl) ?_
                            refine T_nil ?_
                            refine W_ret ?_
                            exfalso; exact hc31 rfl
                          · refine W_skip ?_
                            refine W_seq ?_
                            refine W_reg ?_
                            refine T_pu rfl rfl (pu_assign rfl) ?_
                            refine T_nil ?_
                            refine W_ret ?_
                            exact Res_1 rfl rfl ⟨rfl, hs.kp⟩
end Go.Proofs.Ytdpbfdjpeofbmaa.L
