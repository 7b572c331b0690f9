/- Krammer's letters, the program. -/
import Derived.Test.YtdpbfdjpeofbmaaE12
namespace Go.Proofs.Ytdpbfdjpeofbmaa.L
set_option linter.unusedVariables false
set_option maxRecDepth 100000

def visF (n k : Nat) (q t : Int) (vis : List Nat) : Nat → Nat → Int := fun a b => if a ∈ vis then KR n k q t (pr n a).1 (pr n a).2 b else 0
theorem visF_range {n k : Nat} {q t : Int} (hq : 1 ≤ q ∧ q ≤ 10006) (vis : List Nat) (a b : Nat) : 0 ≤ visF n k q t vis a b ∧ visF n k q t vis a b < 10007 := by
  unfold visF
  split
  · exact KR_range hq b
  · omega
theorem upd_range {f : Nat → Nat → Int} {x y : Nat} {v : Int} (hf : ∀ b, 0 ≤ f x b ∧ f x b < 10007) (b : Nat) : 0 ≤ updF f x y (v % 10007) x b ∧ updF f x y (v % 10007) x b < 10007 := by
  unfold updF
  split
  · exact em_range v
  · exact hf b
theorem visF_one {N n k p y : Nat} {q t v : Int} {vis : List Nat} (hp : p ∉ vis) (hK : KR n k q t (pr n p).1 (pr n p).2 = onec y (v % 10007)) : fmat N (updF (visF n k q t vis) p y ((visF n k q t vis p y + v) % 10007)) = fmat N (visF n k q t (p :: vis)) := by
  have h0 : visF n k q t vis p y = 0 := by unfold visF; rw [if_neg hp]
  refine fmat_congr fun a b _ _ => ?_
  rw [h0, Int.zero_add]
  simp only [updF, visF, List.mem_cons]
  by_cases ha : a = p
  · subst ha
    by_cases hb : b = y
    · rw [if_pos ⟨rfl, hb⟩, if_pos (Or.inl rfl), hK]
      unfold onec
      rw [if_pos hb]
    · rw [if_neg (fun h => hb h.2), if_neg hp, if_pos (Or.inl rfl), hK]
      unfold onec
      rw [if_neg hb]
  · rw [if_neg (fun h => ha h.1)]
    simp only [ha, false_or]
theorem visF_two {N n k p y1 y2 : Nat} {q t v1 v2 : Int} {vis : List Nat} (hp : p ∉ vis) (hne : y1 ≠ y2) (hK : KR n k q t (pr n p).1 (pr n p).2 = twoc y1 (v1 % 10007) y2 (v2 % 10007)) :
    fmat N (updF (updF (visF n k q t vis) p y1 ((visF n k q t vis p y1 + v1) % 10007)) p y2 ((updF (visF n k q t vis) p y1 ((visF n k q t vis p y1 + v1) % 10007) p y2 + v2) % 10007)) = fmat N (visF n k q t (p :: vis)) := by
  have h0 : visF n k q t vis p y1 = 0 := by unfold visF; rw [if_neg hp]
  have h2 : visF n k q t vis p y2 = 0 := by unfold visF; rw [if_neg hp]
  have h1 : updF (visF n k q t vis) p y1 ((visF n k q t vis p y1 + v1) % 10007) p y2 = 0 := by unfold updF; rw [if_neg (fun h => hne h.2.symm), h2]
  refine fmat_congr fun a b _ _ => ?_
  rw [h1, h0, Int.zero_add, Int.zero_add]
  simp only [updF, visF, List.mem_cons]
  by_cases ha : a = p
  · subst ha
    by_cases hb : b = y2
    · rw [if_pos ⟨rfl, hb⟩, if_pos (Or.inl rfl), hK]
      unfold twoc
      rw [if_pos hb]
    · rw [if_neg (fun h => hb h.2)]
      by_cases hb1 : b = y1
      · rw [if_pos ⟨rfl, hb1⟩, if_pos (Or.inl rfl), hK]
        unfold twoc
        rw [if_neg hb, if_pos hb1]
      · rw [if_neg (fun h => hb1 h.2), if_neg hp, if_pos (Or.inl rfl), hK]
        unfold twoc
        rw [if_neg hb, if_neg hb1]
  · rw [if_neg (fun h => ha h.1), if_neg (fun h => ha h.1)]
    simp only [ha, false_or]
theorem visF_all {n k : Nat} {q t : Int} {vis : List Nat} (h : ∀ i, i < nPr n → i ∈ vis) : fmat (nPr n) (visF n k q t vis) = krM n q t k := by
  unfold krM
  exact fmat_congr fun a b ha _ => by unfold visF; rw [if_pos (h a ha)]
def unvis (N : Nat) (vis : List Nat) : Nat := ((List.range N).filter fun x => decide (x ∉ vis)).length
theorem unvis_cons {N i : Nat} {vis : List Nat} (hi : i < N) (hv : i ∉ vis) : unvis N (i :: vis) < unvis N vis := by
  have hp : ((List.range N).filter fun x => decide (x ∉ vis)).Perm (i :: (List.range N).filter fun x => decide (x ∉ i :: vis)) := by
    refine (List.perm_ext_iff_of_nodup (List.nodup_range.filter _) (List.nodup_cons.2 ⟨by simp, List.nodup_range.filter _⟩)).2 fun x => ?_
    simp only [List.mem_filter, List.mem_range, decide_eq_true_eq, List.mem_cons, not_or]
    by_cases h : x = i
    · subst h; simp [hi, hv]
    · simp [h]
  have := hp.length_eq
  unfold unvis
  rw [this]
  simp
theorem m1 {a b : Int} : (a % 10007 * b) % 10007 = (a * b) % 10007 := by rw [Int.mul_emod, Int.emod_emod_of_dvd _ (Int.dvd_refl _), ← Int.mul_emod]
theorem m2 {a b : Int} : (a * (b % 10007)) % 10007 = (a * b) % 10007 := by rw [Int.mul_comm, m1, Int.mul_comm]
theorem pwr_two {q : Int} : pwr q 2 = q * q % 10007 := by
  show (1 * q % 10007) * q % 10007 = _
  rw [m1, Int.one_mul]
set_option maxHeartbeats 32000000 in
theorem krammerLetter_ok (n : Nat) (hn : 2 ≤ n ∧ n ≤ 8) (k : Nat) (hk : 1 ≤ k ∧ k + 1 ≤ n) (q t : Int) (hq : 1 ≤ q ∧ q ≤ 10006) (ht : 1 ≤ t ∧ t ≤ 10006) (w : World) :
    CallsR Try.prog 106 #[.int .i64 n, .int .i64 k, .int .i64 q, .int .i64 t] w fun r w' => NewM w w' r (krM n q t k) := by
  have hs := St.start w
  have hN := nPr_le hn.2
  have hN1 : 1 ≤ nPr n := by have := (pr_at hn.2 (i := 1) (j := 2) (by omega) (by omega) (by omega)).2; omega
  have hqm : q % 10007 = q := Int.emod_eq_of_lt (by omega) (by omega)
  have hq1m : (q - 1) % 10007 = q - 1 := Int.emod_eq_of_lt (by omega) (by omega)
  have htq := emul_range (a := t) (b := q) (by omega) (by omega)
  have htqr := em_range (t * q)
  have hll := emul_range (a := q - 1) (b := q - 1) (by omega) (by omega)
  have hllr := em_range ((q - 1) * (q - 1))
  refine fn_calls Try.func106 rfl rfl rfl ?_
  refine W_seq ?_
  refine W_reg ?_
  refine T_pu rfl rfl (pu_assign rfl) ?_
  refine T_nil ?_
  refine W_seq ?_
  refine W_reg ?_
  refine T_pu rfl rfl (pu_move rfl) ?_
  refine T_go rfl rfl (st_call fn150 rfl ((pairsOf_ok n hn _).mono ?_))
  rintro v w1 ⟨bm, rfl, hmap, hk1, hfr1⟩
  have hs : St no w [aMap kvN bm (ents n (nPr n))] w1 := hs.new hk1 (aMap kvN bm _) hmap (fun q h => by cases h; exact hfr1)
  refine T_go rfl rfl (st_allocS hs ty134 fun w2 b9 hk2 hb9 hs => ?_)
  refine T_goN rfl (st_storeB hs 0 rfl ty134 rfl rfl rfl (by first | exact Nat.le_of_ble_eq_true rfl | omega | (simp; done) | (simp; omega)) fun w3 hk3 hs => ?_)
  simp only [List.set_cons_zero] at hs
  refine T_nil ?_
  refine W_seq ?_
  refine W_reg ?_
  refine T_pi rfl rfl (pi_load Try.underlying134 rfl rfl (fun w' h => by obtain rfl := h; exact (by first | exact (hs.bk 0 rfl).cell rfl))) ?_
  refine T_pi rfl rfl (pu_lenMap (kv := kvN) Try.underlying134 rfl (fun w' h => by obtain rfl := h; exact hs.mp 1 rfl)) ?_
  rw [ents_length]
  refine T_go rfl rfl (st_call fn134 rfl ((zeroRows_ok (nPr n) (by omega) _).mono ?_))
  rintro u w4 ⟨hds, hM4, hk4, hf4⟩
  have hs := hs.newM hM4 hk4 hf4
  rw [fmat_zero, show fmat (nPr n) (fun _ _ => 0) = fmat (nPr n) (visF n k q t []) from fmat_congr fun a b _ _ => rfl] at hs
  obtain ⟨gg, cg, hu, _⟩ := hM4.slice (n := nPr n) (by simp) hN1
  have hu1 : u.oneCell' = true := by rw [hu]; rfl
  have hu2 : u.cells.size = 1 := by rw [hu]; rfl
  clear hM4
  refine T_go rfl rfl (st_allocS hs ty32 fun w5 b10 hk5 hb10 hs => ?_)
  refine T_goN rfl (st_storeB hs 0 rfl ty32 rfl rfl hu1 (by first | exact Nat.le_of_ble_eq_true rfl | omega | (simp; done) | (simp; omega)) fun w6 hk6 hs => ?_)
  simp only [List.set_cons_zero] at hs
  refine T_nil ?_
  refine W_seq ?_
  refine W_reg ?_
  refine T_pu rfl rfl (pu_move rfl) ?_
  refine T_pu rfl rfl (pu_sub64 rfl rfl (by omega)) ?_
  refine T_go rfl rfl (st_call fn92 rfl ((inField_ok _ _).mono ?_))
  rintro v w' ⟨rfl, rfl⟩
  rw [hq1m]
  refine T_pu rfl rfl (pu_assign rfl) ?_
  refine T_nil ?_
  refine W_seq ?_
  refine W_seq ?_
  refine W_reg ?_
  refine T_pi rfl rfl (pi_load Try.underlying134 rfl rfl (fun w' h => by obtain rfl := h; exact (by first | exact (hs.bk 2 rfl).cell rfl))) ?_
  refine T_go rfl rfl (st_range hs 3 rfl Try.underlying134 rfl fun w7 r hk7 hs => ?_)
  simp only [List.set_cons_zero, List.set_cons_succ] at hs
  refine T_nil ?_
  refine W_block ?_
  refine W_loop (σ := List Nat) (fun _ => [(0, .int .i64 n), (1, .int .i64 k), (2, .int .i64 q), (3, .int .i64 t), (9, .pointer (some ⟨b9, 0, none⟩)), (10, .pointer (some ⟨b10, 0, none⟩)), (11, .int .i64 (q - 1)), (26, .pointer (some ⟨r, 0, none⟩))]) (fun vis w' => St no w [aMat u hds (fmat (nPr n) (visF n k q t vis)), aBk b10 32 [u], aIt kvN bm r (ents n (nPr n)) vis, aBk b9 134 [.map (some bm)]] w') (fun vis => unvis (nPr n) vis) [] ?_ ?_ ?_
  · exact .cons rfl (.cons rfl (.cons rfl (.cons rfl (.cons rfl (.cons rfl (.cons rfl (.cons rfl (.nil _))))))))
  · exact (((hs.front 2 rfl).front 3 rfl).front 2 rfl).front 3 rfl
  repeat clear hs
  rintro vis w8 hs
  refine W_seq ?_
  refine W_reg ?_
  refine T_go rfl rfl (st_next hs 2 rfl rfl fun v w' hN => ?_)
  obtain ⟨arr, bb, rfl, harr, hn0, hn1⟩ := hN
  refine T_pu rfl rfl (pu_extract rfl harr) ?_
  refine T_nil ?_
  refine W_seq ?_
  refine W_cond rfl (fun hc5 => ?_) (fun hc5 => ?_)
  · obtain ⟨p, hp, hpv, hkn, hs⟩ := hn1 hc5
    rw [ents_length] at hp
    have hget := ents_get (n := n) hp
    obtain ⟨h1, h2, h3, h4⟩ := pr_of hn.2 hp
    have hvr := visF_range (n := n) (k := k) (t := t) hq vis p
    have hv1 := fun y v => visF_one (N := nPr n) (n := n) (k := k) (y := y) (q := q) (t := t) (v := v) hpv
    have hv2 := fun y1 y2 v1 v2 => visF_two (N := nPr n) (n := n) (k := k) (y1 := y1) (y2 := y2) (q := q) (t := t) (v1 := v1) (v2 := v2) hpv
    have huv := unvis_cons hp hpv
    simp only [List.set_cons_zero, List.set_cons_succ] at hs
    generalize visF n k q t vis = f at hs hvr hv1 hv2
    generalize (pr n p).1 = i at hget h1 h2 h4 hv1 hv2
    generalize (pr n p).2 = j at hget h2 h3 h4 hv1 hv2
    refine W_skip ?_
    refine W_block ?_
    refine W_seq ?_
    refine W_reg ?_
    refine T_pi rfl rfl (pi_entry (kv := kvN) rfl hget (fun w' h => by obtain rfl := h; exact hs.it 2 rfl)) ?_
    refine T_pu rfl rfl (pu_extract rfl rfl) ?_
    refine T_pu rfl rfl (pu_extract rfl rfl) ?_
    refine T_go rfl rfl (st_allocS hs ty136 fun w9 b12 hk9 hb12 hs => ?_)
    refine T_go rfl rfl (st_allocS hs ty3 fun w10 b13 hk10 hb13 hs => ?_)
    refine T_goN rfl (st_storeW hs 1 rfl ty136 rfl rfl (by first | rfl | (simp; done) | assumption) (by first | rfl | (simp; done) | assumption) fun w11 hk11 hs => ?_)
    refine T_goN rfl (st_storeB hs 0 rfl ty3 rfl rfl rfl (by first | exact Nat.le_of_ble_eq_true rfl | omega | (simp; done) | (simp; omega)) fun w12 hk12 hs => ?_)
    simp only [List.set_cons_zero, List.set_cons_succ] at hs
    refine T_nil ?_
    refine W_seq ?_
    refine W_draw mixed 1000 I0 (fun w13 hk13 => ?_)
    have hs := hs.next hk13
    refine D_pu 0 (by kernel_rfl) rfl (by kernel_rfl) (by kernel_rfl) rfl rfl (by kernel_rfl) (Pu.stable (pu_ixA Try.underlying136 ty2 rfl rfl (by omega) (by omega))) ?_
    refine D_pu 1 (by kernel_rfl) rfl (by kernel_rfl) (by kernel_rfl) rfl rfl (by kernel_rfl) (pi_load Try.underlying2 rfl rfl (fun w' h => by obtain ⟨_, rfl⟩ := h; exact (by first | exact (hs.bk 1 rfl).cell rfl))) ?_
    refine D_pu 2 (by kernel_rfl) rfl (by kernel_rfl) (by kernel_rfl) rfl rfl (by kernel_rfl) (Pu.stable (pu_ixA Try.underlying136 ty2 rfl rfl (by omega) (by omega))) ?_
    refine D_pu 3 (by kernel_rfl) rfl (by kernel_rfl) (by kernel_rfl) rfl rfl (by kernel_rfl) (pi_load Try.underlying2 rfl rfl (fun w' h => by obtain ⟨_, rfl⟩ := h; exact (by first | exact (hs.bk 1 rfl).cell rfl))) ?_
    refine D_pu 4 (by kernel_rfl) rfl (by kernel_rfl) (by kernel_rfl) rfl rfl (by kernel_rfl) (Pu.stable (pu_assign rfl)) ?_
    refine D_pu 5 (by kernel_rfl) rfl (by kernel_rfl) (by kernel_rfl) rfl rfl (by kernel_rfl) (Pu.stable (pu_assign rfl)) ?_
    refine D_done (by kernel_rfl) (by first | rfl | (intro _; rfl) | (intro h; exact absurd (show true = false from h) (by decide)) | exact Kp.refl _ _ | assumption) ?_
    refine W_seq ?_
    refine W_reg ?_
    refine T_pu rfl rfl (pu_makeFunc rfl rfl) ?_
    refine T_pu rfl rfl (pu_assign rfl) ?_
    refine T_nil ?_
    refine W_block ?_
    refine W_seq ?_
    refine W_reg ?_
    refine T_pu rfl rfl (pu_move rfl) ?_
    refine T_pu rfl rfl (pu_move rfl) ?_
    refine T_pu rfl rfl (pu_eql rfl rfl) ?_
    refine T_if rfl rfl (pu_move rfl) (fun hg10_3 => ?_) (fun hg10_3 => ?_)
    · refine T_pu rfl rfl (pu_move rfl) ?_
      refine T_pu rfl rfl (pu_move rfl) ?_
      refine T_pu rfl rfl (pu_add64 rfl rfl (by omega)) ?_
      refine T_pu rfl rfl (pu_eql rfl rfl) ?_
      refine T_pu rfl rfl (pu_pick_t rfl rfl) ?_
      refine T_pu rfl rfl (pu_assign rfl) ?_
      refine T_nil ?_
      refine W_if rfl (fun hc10 => ?_) (fun hc10 => ?_)
      · refine W_reg ?_
        refine T_pu rfl rfl (pu_move rfl) ?_
        refine T_pu rfl rfl (pu_move rfl) ?_
        refine T_pu rfl rfl (pu_move rfl) ?_
        refine T_pu rfl rfl (pu_add64 rfl rfl (by omega)) ?_
        refine T_pu rfl rfl (pu_move rfl) ?_
        refine T_pu rfl rfl (pu_move rfl) ?_
        refine T_go rfl rfl (st_call fn152 rfl ((powerIn_ok q hq 2 (by omega) _).mono ?_))
        rintro v w' ⟨rfl, rfl⟩
        have hpw := pwr_range (q := q) 2
        have hm1 := emul_range (a := t) (by omega) hpw
        have hfr := hvr
        refine T_pu rfl rfl (pu_mul64 rfl rfl (by omega)) ?_
        refine T_go rfl rfl (st_callv (fi := []) fn151 rfl rfl ((put_ok n hn _ p hp hfr (k) ((k : Int) + 1) (t * pwr q 2) (by omega) (by omega) (by omega) (by omega) b9 b10 b13 bm r _ u hds _ _ w _ hs).mono ?_))
        rintro _ _ hs
        rw [Int.toNat_natCast, show ((k : Int) + 1).toNat = k + 1 by omega, hv1 _ _ (by unfold KR; rw [if_pos (by omega), pwr_two, m2, ← Int.mul_assoc, m1])] at hs
        refine T_nil ?_
        exact ⟨p :: vis, .cons rfl (.cons rfl (.cons rfl (.cons rfl (.cons rfl (.cons rfl (.cons rfl (.cons rfl (.nil _)))))))), (hs.drop 0).drop 0, huv⟩
      · refine W_seq ?_
        refine W_reg ?_
        refine T_pu rfl rfl (pu_move rfl) ?_
        refine T_pu rfl rfl (pu_move rfl) ?_
        refine T_pu rfl rfl (pu_eql rfl rfl) ?_
        refine T_pu rfl rfl (pu_assign rfl) ?_
        refine T_nil ?_
        refine W_if rfl (fun hc12 => ?_) (fun hc12 => ?_)
        · refine W_seq ?_
          have hfr := hvr
          refine W_reg ?_
          refine T_pu rfl rfl (pu_move rfl) ?_
          refine T_pu rfl rfl (pu_move rfl) ?_
          refine T_pu rfl rfl (pu_move rfl) ?_
          refine T_pu rfl rfl (pu_move rfl) ?_
          refine T_pu rfl rfl (pu_sub64 rfl rfl (by omega)) ?_
          refine T_go rfl rfl (st_callv (fi := []) fn151 rfl rfl ((put_ok n hn _ p hp hfr (i) (k) (1 - q) (by omega) (by omega) (by omega) (by omega) b9 b10 b13 bm r _ u hds _ _ w _ hs).mono ?_))
          rintro _ _ hs
          rw [Int.toNat_natCast, Int.toNat_natCast] at hs
          have hfr := upd_range (y := pN n i k) (v := f p (pN n i k) + (1 - q)) hvr
          refine T_nil ?_
          refine W_reg ?_
          refine T_pu rfl rfl (pu_move rfl) ?_
          refine T_pu rfl rfl (pu_move rfl) ?_
          refine T_pu rfl rfl (pu_move rfl) ?_
          refine T_pu rfl rfl (pu_add64 rfl rfl (by omega)) ?_
          refine T_pu rfl rfl (pu_move rfl) ?_
          refine T_go rfl rfl (st_callv (fi := []) fn151 rfl rfl ((put_ok n hn _ p hp hfr (i) ((k : Int) + 1) (q) (by omega) (by omega) (by omega) (by omega) b9 b10 b13 bm r _ u hds _ _ w _ hs).mono ?_))
          rintro _ _ hs
          rw [Int.toNat_natCast, show ((k : Int) + 1).toNat = k + 1 by omega, hv2 _ _ _ _ (fun h => by have := pN_inj hn.2 (i := i) (j := k) (i' := i) (j' := k + 1) (by omega) (by omega) (by omega) (by omega) (by omega) (by omega) h; omega) (by unfold KR; rw [if_neg (by omega), if_pos (by omega), hqm])] at hs
          refine T_nil ?_
          exact ⟨p :: vis, .cons rfl (.cons rfl (.cons rfl (.cons rfl (.cons rfl (.cons rfl (.cons rfl (.cons rfl (.nil _)))))))), (hs.drop 0).drop 0, huv⟩
        · refine W_seq ?_
          refine W_reg ?_
          refine T_pu rfl rfl (pu_move rfl) ?_
          refine T_pu rfl rfl (pu_move rfl) ?_
          refine T_pu rfl rfl (pu_add64 rfl rfl (by omega)) ?_
          refine T_pu rfl rfl (pu_eql rfl rfl) ?_
          refine T_if rfl rfl (pu_move rfl) (fun hg15_4 => ?_) (fun hg15_4 => ?_)
          · refine T_pu rfl rfl (pu_move rfl) ?_
            refine T_pu rfl rfl (pu_move rfl) ?_
            refine T_pu rfl rfl (pu_lss rfl rfl) ?_
            refine T_pu rfl rfl (pu_pick_t rfl rfl) ?_
            refine T_pu rfl rfl (pu_assign rfl) ?_
            refine T_nil ?_
            refine W_if rfl (fun hc15 => ?_) (fun hc15 => ?_)
            · refine W_seq ?_
              have hfr := hvr
              refine W_reg ?_
              refine T_pu rfl rfl (pu_move rfl) ?_
              refine T_pu rfl rfl (pu_move rfl) ?_
              refine T_pu rfl rfl (pu_move rfl) ?_
              refine T_go rfl rfl (st_callv (fi := []) fn151 rfl rfl ((put_ok n hn _ p hp hfr (i) (k) (1) (by omega) (by omega) (by omega) (by omega) b9 b10 b13 bm r _ u hds _ _ w _ hs).mono ?_))
              rintro _ _ hs
              rw [Int.toNat_natCast, Int.toNat_natCast] at hs
              have hfr := upd_range (y := pN n i k) (v := f p (pN n i k) + 1) hvr
              refine T_nil ?_
              refine W_reg ?_
              refine T_pu rfl rfl (pu_move rfl) ?_
              refine T_pu rfl rfl (pu_move rfl) ?_
              refine T_pu rfl rfl (pu_move rfl) ?_
              refine T_pu rfl rfl (pu_add64 rfl rfl (by omega)) ?_
              refine T_pu rfl rfl (pu_move rfl) ?_
              refine T_pu rfl rfl (pu_move rfl) ?_
              refine T_pu rfl rfl (pu_move rfl) ?_
              refine T_pu rfl rfl (pu_move rfl) ?_
              refine T_pu rfl rfl (pu_sub64 rfl rfl (by omega)) ?_
              refine T_pu rfl rfl (pu_add64 rfl rfl (by omega)) ?_
              rw [show (k : Int) - (i : Int) + 1 = ((k - i + 1 : Nat) : Int) by omega]
              refine T_go rfl rfl (st_call fn152 rfl ((powerIn_ok q hq (k - i + 1) (by omega) _).mono ?_))
              rintro v w' ⟨rfl, rfl⟩
              have hpw := pwr_range (q := q) (k - i + 1)
              have hm1 := emul_range (a := t) (by omega) hpw
              refine T_pu rfl rfl (pu_mul64 rfl rfl (by omega)) ?_
              refine T_pu rfl rfl (pu_rem rfl rfl (by omega)) ?_
              rw [tmod_nn hm1.1]
              have hm2 := emul_range (em_range (t * pwr q (k - i + 1))) (b := q - 1) (by omega)
              refine T_pu rfl rfl (pu_move rfl) ?_
              refine T_pu rfl rfl (pu_mul64 rfl rfl (by omega)) ?_
              refine T_go rfl rfl (st_callv (fi := []) fn151 rfl rfl ((put_ok n hn _ p hp hfr (k) ((k : Int) + 1) (t * pwr q (k - i + 1) % 10007 * (q - 1)) (by omega) (by omega) (by omega) (by omega) b9 b10 b13 bm r _ u hds _ _ w _ hs).mono ?_))
              rintro _ _ hs
              rw [Int.toNat_natCast, show ((k : Int) + 1).toNat = k + 1 by omega, hv2 _ _ _ _ (fun h => by have := pN_inj hn.2 (i := i) (j := k) (i' := k) (j' := k + 1) (by omega) (by omega) (by omega) (by omega) (by omega) (by omega) h; omega) (by unfold KR; rw [if_neg (by omega), if_neg (by omega), if_pos (by omega)]; rfl)] at hs
              refine T_nil ?_
              exact ⟨p :: vis, .cons rfl (.cons rfl (.cons rfl (.cons rfl (.cons rfl (.cons rfl (.cons rfl (.cons rfl (.nil _)))))))), (hs.drop 0).drop 0, huv⟩
            · refine W_seq ?_
              refine W_reg ?_
              refine T_pu rfl rfl (pu_move rfl) ?_
              refine T_pu rfl rfl (pu_move rfl) ?_
              refine T_pu rfl rfl (pu_eql rfl rfl) ?_
              refine T_pu rfl rfl (pu_assign rfl) ?_
              refine T_nil ?_
              refine W_if rfl (fun hc18 => ?_) (fun hc18 => ?_)
              · refine W_seq ?_
                refine W_reg ?_
                refine T_pu rfl rfl (pu_move rfl) ?_
                refine T_pu rfl rfl (pu_move rfl) ?_
                refine T_pu rfl rfl (pu_move rfl) ?_
                refine T_pu rfl rfl (pu_add64 rfl rfl (by omega)) ?_
                refine T_pu rfl rfl (pu_move rfl) ?_
                refine T_pu rfl rfl (pu_move rfl) ?_
                refine T_pu rfl rfl (pu_mul64 rfl rfl (by omega)) ?_
                refine T_pu rfl rfl (pu_rem rfl rfl (by omega)) ?_
                rw [tmod_nn htq.1]
                have hm2 := emul_range htqr (b := q - 1) (by omega)
                have hfr := hvr
                refine T_pu rfl rfl (pu_move rfl) ?_
                refine T_pu rfl rfl (pu_mul64 rfl rfl (by omega)) ?_
                refine T_go rfl rfl (st_callv (fi := []) fn151 rfl rfl ((put_ok n hn _ p hp hfr (k) ((k : Int) + 1) (t * q % 10007 * (q - 1)) (by omega) (by omega) (by omega) (by omega) b9 b10 b13 bm r _ u hds _ _ w _ hs).mono ?_))
                rintro _ _ hs
                rw [Int.toNat_natCast, show ((k : Int) + 1).toNat = k + 1 by omega] at hs
                have hfr := upd_range (y := pN n k (k + 1)) (v := f p (pN n k (k + 1)) + (t * q % 10007 * (q - 1))) hvr
                refine T_nil ?_
                refine W_reg ?_
                refine T_pu rfl rfl (pu_move rfl) ?_
                refine T_pu rfl rfl (pu_move rfl) ?_
                refine T_pu rfl rfl (pu_add64 rfl rfl (by omega)) ?_
                refine T_pu rfl rfl (pu_move rfl) ?_
                refine T_pu rfl rfl (pu_move rfl) ?_
                refine T_go rfl rfl (st_callv (fi := []) fn151 rfl rfl ((put_ok n hn _ p hp hfr ((k : Int) + 1) (j) (q) (by omega) (by omega) (by omega) (by omega) b9 b10 b13 bm r _ u hds _ _ w _ hs).mono ?_))
                rintro _ _ hs
                rw [Int.toNat_natCast, show ((k : Int) + 1).toNat = k + 1 by omega, hv2 _ _ _ _ (fun h => by have := pN_inj hn.2 (i := k) (j := k + 1) (i' := k + 1) (j' := j) (by omega) (by omega) (by omega) (by omega) (by omega) (by omega) h; omega) (by unfold KR; rw [if_neg (by omega), if_neg (by omega), if_neg (by omega), if_pos (by omega), hqm])] at hs
                refine T_nil ?_
                exact ⟨p :: vis, .cons rfl (.cons rfl (.cons rfl (.cons rfl (.cons rfl (.cons rfl (.cons rfl (.cons rfl (.nil _)))))))), (hs.drop 0).drop 0, huv⟩
              · refine W_seq ?_
                refine W_reg ?_
                refine T_pu rfl rfl (pu_move rfl) ?_
                refine T_pu rfl rfl (pu_move rfl) ?_
                refine T_pu rfl rfl (pu_add64 rfl rfl (by omega)) ?_
                refine T_pu rfl rfl (pu_eql rfl rfl) ?_
                refine T_pu rfl rfl (pu_assign rfl) ?_
                refine T_nil ?_
                refine W_if rfl (fun hc21 => ?_) (fun hc21 => ?_)
                · refine W_seq ?_
                  have hfr := hvr
                  refine W_reg ?_
                  refine T_pu rfl rfl (pu_move rfl) ?_
                  refine T_pu rfl rfl (pu_move rfl) ?_
                  refine T_pu rfl rfl (pu_move rfl) ?_
                  refine T_go rfl rfl (st_callv (fi := []) fn151 rfl rfl ((put_ok n hn _ p hp hfr (k) (j) (1) (by omega) (by omega) (by omega) (by omega) b9 b10 b13 bm r _ u hds _ _ w _ hs).mono ?_))
                  rintro _ _ hs
                  rw [Int.toNat_natCast, Int.toNat_natCast] at hs
                  have hfr := upd_range (y := pN n k j) (v := f p (pN n k j) + 1) hvr
                  refine T_nil ?_
                  refine W_reg ?_
                  refine T_pu rfl rfl (pu_move rfl) ?_
                  refine T_pu rfl rfl (pu_move rfl) ?_
                  refine T_pu rfl rfl (pu_add64 rfl rfl (by omega)) ?_
                  refine T_pu rfl rfl (pu_move rfl) ?_
                  refine T_pu rfl rfl (pu_move rfl) ?_
                  refine T_pu rfl rfl (pu_sub64 rfl rfl (by omega)) ?_
                  refine T_go rfl rfl (st_callv (fi := []) fn151 rfl rfl ((put_ok n hn _ p hp hfr ((k : Int) + 1) (j) (1 - q) (by omega) (by omega) (by omega) (by omega) b9 b10 b13 bm r _ u hds _ _ w _ hs).mono ?_))
                  rintro _ _ hs
                  rw [Int.toNat_natCast, show ((k : Int) + 1).toNat = k + 1 by omega, hv2 _ _ _ _ (fun h => by have := pN_inj hn.2 (i := k) (j := j) (i' := k + 1) (j' := j) (by omega) (by omega) (by omega) (by omega) (by omega) (by omega) h; omega) (by unfold KR; rw [if_neg (by omega), if_neg (by omega), if_neg (by omega), if_neg (by omega), if_pos (by omega)]; rfl)] at hs
                  refine T_nil ?_
                  exact ⟨p :: vis, .cons rfl (.cons rfl (.cons rfl (.cons rfl (.cons rfl (.cons rfl (.cons rfl (.cons rfl (.nil _)))))))), (hs.drop 0).drop 0, huv⟩
                · refine W_seq ?_
                  refine W_reg ?_
                  refine T_pu rfl rfl (pu_move rfl) ?_
                  refine T_pu rfl rfl (pu_move rfl) ?_
                  refine T_pu rfl rfl (pu_lss rfl rfl) ?_
                  refine T_if rfl rfl (pu_move rfl) (fun hg24_3 => ?_) (fun hg24_3 => ?_)
                  · refine T_pu rfl rfl (pu_move rfl) ?_
                    refine T_pu rfl rfl (pu_move rfl) ?_
                    refine T_pu rfl rfl (pu_add64 rfl rfl (by omega)) ?_
                    refine T_pu rfl rfl (pu_gtr rfl rfl) ?_
                    refine T_pu rfl rfl (pu_pick_t rfl rfl) ?_
                    refine T_pu rfl rfl (pu_assign rfl) ?_
                    refine T_nil ?_
                    refine W_if rfl (fun hc24 => ?_) (fun hc24 => ?_)
                    · refine W_seq ?_
                      have hfr := hvr
                      refine W_reg ?_
                      refine T_pu rfl rfl (pu_move rfl) ?_
                      refine T_pu rfl rfl (pu_move rfl) ?_
                      refine T_pu rfl rfl (pu_move rfl) ?_
                      refine T_go rfl rfl (st_callv (fi := []) fn151 rfl rfl ((put_ok n hn _ p hp hfr (i) (j) (1) (by omega) (by omega) (by omega) (by omega) b9 b10 b13 bm r _ u hds _ _ w _ hs).mono ?_))
                      rintro _ _ hs
                      rw [Int.toNat_natCast, Int.toNat_natCast] at hs
                      have hfr := upd_range (y := pN n i j) (v := f p (pN n i j) + 1) hvr
                      refine T_nil ?_
                      refine W_reg ?_
                      refine T_pu rfl rfl (pu_move rfl) ?_
                      refine T_pu rfl rfl (pu_move rfl) ?_
                      refine T_pu rfl rfl (pu_move rfl) ?_
                      refine T_pu rfl rfl (pu_add64 rfl rfl (by omega)) ?_
                      refine T_pu rfl rfl (pu_move rfl) ?_
                      refine T_pu rfl rfl (pu_move rfl) ?_
                      refine T_pu rfl rfl (pu_move rfl) ?_
                      refine T_pu rfl rfl (pu_move rfl) ?_
                      refine T_pu rfl rfl (pu_sub64 rfl rfl (by omega)) ?_
                      rw [show (k : Int) - (i : Int) = ((k - i : Nat) : Int) by omega]
                      refine T_go rfl rfl (st_call fn152 rfl ((powerIn_ok q hq (k - i) (by omega) _).mono ?_))
                      rintro v w' ⟨rfl, rfl⟩
                      have hpw := pwr_range (q := q) (k - i)
                      have hm1 := emul_range (a := t) (by omega) hpw
                      refine T_pu rfl rfl (pu_mul64 rfl rfl (by omega)) ?_
                      refine T_pu rfl rfl (pu_rem rfl rfl (by omega)) ?_
                      rw [tmod_nn hm1.1]
                      refine T_pu rfl rfl (pu_move rfl) ?_
                      refine T_pu rfl rfl (pu_move rfl) ?_
                      refine T_pu rfl rfl (pu_mul64 rfl rfl (by omega)) ?_
                      refine T_pu rfl rfl (pu_rem rfl rfl (by omega)) ?_
                      rw [tmod_nn hll.1]
                      have hm2 := emul_range (em_range (t * pwr q (k - i))) hllr
                      refine T_pu rfl rfl (pu_mul64 rfl rfl (by omega)) ?_
                      refine T_go rfl rfl (st_callv (fi := []) fn151 rfl rfl ((put_ok n hn _ p hp hfr (k) ((k : Int) + 1) (t * pwr q (k - i) % 10007 * ((q - 1) * (q - 1) % 10007)) (by omega) (by omega) (by omega) (by omega) b9 b10 b13 bm r _ u hds _ _ w _ hs).mono ?_))
                      rintro _ _ hs
                      rw [Int.toNat_natCast, show ((k : Int) + 1).toNat = k + 1 by omega, hv2 _ _ _ _ (fun h => by have := pN_inj hn.2 (i := i) (j := j) (i' := k) (j' := k + 1) (by omega) (by omega) (by omega) (by omega) (by omega) (by omega) h; omega) (by unfold KR; rw [if_neg (by omega), if_neg (by omega), if_neg (by omega), if_neg (by omega), if_neg (by omega), if_pos (by omega)]; rfl)] at hs
                      refine T_nil ?_
                      exact ⟨p :: vis, .cons rfl (.cons rfl (.cons rfl (.cons rfl (.cons rfl (.cons rfl (.cons rfl (.cons rfl (.nil _)))))))), (hs.drop 0).drop 0, huv⟩
                    · have hfr := hvr
                      refine W_reg ?_
                      refine T_pu rfl rfl (pu_move rfl) ?_
                      refine T_pu rfl rfl (pu_move rfl) ?_
                      refine T_pu rfl rfl (pu_move rfl) ?_
                      refine T_go rfl rfl (st_callv (fi := []) fn151 rfl rfl ((put_ok n hn _ p hp hfr (i) (j) (1) (by omega) (by omega) (by omega) (by omega) b9 b10 b13 bm r _ u hds _ _ w _ hs).mono ?_))
                      rintro _ _ hs
                      rw [Int.toNat_natCast, Int.toNat_natCast, hv1 _ _ (by unfold KR; rw [if_neg (by omega), if_neg (by omega), if_neg (by omega), if_neg (by omega), if_neg (by omega), if_neg (by omega)]; rfl)] at hs
                      refine T_nil ?_
                      exact ⟨p :: vis, .cons rfl (.cons rfl (.cons rfl (.cons rfl (.cons rfl (.cons rfl (.cons rfl (.cons rfl (.nil _)))))))), (hs.drop 0).drop 0, huv⟩
                  · refine T_no rfl rfl ?_
                    refine T_no rfl rfl ?_
                    refine T_no rfl rfl ?_
                    refine T_no rfl rfl ?_
                    refine T_pu rfl rfl (pu_pick_f rfl rfl) ?_
                    refine T_pu rfl rfl (pu_assign rfl) ?_
                    refine T_nil ?_
                    refine W_false rfl ?_
                    have hfr := hvr
                    refine W_reg ?_
                    refine T_pu rfl rfl (pu_move rfl) ?_
                    refine T_pu rfl rfl (pu_move rfl) ?_
                    refine T_pu rfl rfl (pu_move rfl) ?_
                    refine T_go rfl rfl (st_callv (fi := []) fn151 rfl rfl ((put_ok n hn _ p hp hfr (i) (j) (1) (by omega) (by omega) (by omega) (by omega) b9 b10 b13 bm r _ u hds _ _ w _ hs).mono ?_))
                    rintro _ _ hs
                    rw [Int.toNat_natCast, Int.toNat_natCast, hv1 _ _ (by unfold KR; rw [if_neg (by omega), if_neg (by omega), if_neg (by omega), if_neg (by omega), if_neg (by omega), if_neg (by omega)]; rfl)] at hs
                    refine T_nil ?_
                    exact ⟨p :: vis, .cons rfl (.cons rfl (.cons rfl (.cons rfl (.cons rfl (.cons rfl (.cons rfl (.cons rfl (.nil _)))))))), (hs.drop 0).drop 0, huv⟩
          · refine T_no rfl rfl ?_
            refine T_no rfl rfl ?_
            refine T_no rfl rfl ?_
            refine T_pu rfl rfl (pu_pick_f rfl rfl) ?_
            refine T_pu rfl rfl (pu_assign rfl) ?_
            refine T_nil ?_
            refine W_false rfl ?_
            refine W_seq ?_
            refine W_reg ?_
            refine T_pu rfl rfl (pu_move rfl) ?_
            refine T_pu rfl rfl (pu_move rfl) ?_
            refine T_pu rfl rfl (pu_eql rfl rfl) ?_
            refine T_pu rfl rfl (pu_assign rfl) ?_
            refine T_nil ?_
            refine W_if rfl (fun hc18 => ?_) (fun hc18 => ?_)
            · refine W_seq ?_
              refine W_reg ?_
              refine T_pu rfl rfl (pu_move rfl) ?_
              refine T_pu rfl rfl (pu_move rfl) ?_
              refine T_pu rfl rfl (pu_move rfl) ?_
              refine T_pu rfl rfl (pu_add64 rfl rfl (by omega)) ?_
              refine T_pu rfl rfl (pu_move rfl) ?_
              refine T_pu rfl rfl (pu_move rfl) ?_
              refine T_pu rfl rfl (pu_mul64 rfl rfl (by omega)) ?_
              refine T_pu rfl rfl (pu_rem rfl rfl (by omega)) ?_
              rw [tmod_nn htq.1]
              have hm2 := emul_range htqr (b := q - 1) (by omega)
              have hfr := hvr
              refine T_pu rfl rfl (pu_move rfl) ?_
              refine T_pu rfl rfl (pu_mul64 rfl rfl (by omega)) ?_
              refine T_go rfl rfl (st_callv (fi := []) fn151 rfl rfl ((put_ok n hn _ p hp hfr (k) ((k : Int) + 1) (t * q % 10007 * (q - 1)) (by omega) (by omega) (by omega) (by omega) b9 b10 b13 bm r _ u hds _ _ w _ hs).mono ?_))
              rintro _ _ hs
              rw [Int.toNat_natCast, show ((k : Int) + 1).toNat = k + 1 by omega] at hs
              have hfr := upd_range (y := pN n k (k + 1)) (v := f p (pN n k (k + 1)) + (t * q % 10007 * (q - 1))) hvr
              refine T_nil ?_
              refine W_reg ?_
              refine T_pu rfl rfl (pu_move rfl) ?_
              refine T_pu rfl rfl (pu_move rfl) ?_
              refine T_pu rfl rfl (pu_add64 rfl rfl (by omega)) ?_
              refine T_pu rfl rfl (pu_move rfl) ?_
              refine T_pu rfl rfl (pu_move rfl) ?_
              refine T_go rfl rfl (st_callv (fi := []) fn151 rfl rfl ((put_ok n hn _ p hp hfr ((k : Int) + 1) (j) (q) (by omega) (by omega) (by omega) (by omega) b9 b10 b13 bm r _ u hds _ _ w _ hs).mono ?_))
              rintro _ _ hs
              rw [Int.toNat_natCast, show ((k : Int) + 1).toNat = k + 1 by omega, hv2 _ _ _ _ (fun h => by have := pN_inj hn.2 (i := k) (j := k + 1) (i' := k + 1) (j' := j) (by omega) (by omega) (by omega) (by omega) (by omega) (by omega) h; omega) (by unfold KR; rw [if_neg (by omega), if_neg (by omega), if_neg (by omega), if_pos (by omega), hqm])] at hs
              refine T_nil ?_
              exact ⟨p :: vis, .cons rfl (.cons rfl (.cons rfl (.cons rfl (.cons rfl (.cons rfl (.cons rfl (.cons rfl (.nil _)))))))), (hs.drop 0).drop 0, huv⟩
            · refine W_seq ?_
              refine W_reg ?_
              refine T_pu rfl rfl (pu_move rfl) ?_
              refine T_pu rfl rfl (pu_move rfl) ?_
              refine T_pu rfl rfl (pu_add64 rfl rfl (by omega)) ?_
              refine T_pu rfl rfl (pu_eql rfl rfl) ?_
              refine T_pu rfl rfl (pu_assign rfl) ?_
              refine T_nil ?_
              refine W_if rfl (fun hc21 => ?_) (fun hc21 => ?_)
              · refine W_seq ?_
                have hfr := hvr
                refine W_reg ?_
                refine T_pu rfl rfl (pu_move rfl) ?_
                refine T_pu rfl rfl (pu_move rfl) ?_
                refine T_pu rfl rfl (pu_move rfl) ?_
                refine T_go rfl rfl (st_callv (fi := []) fn151 rfl rfl ((put_ok n hn _ p hp hfr (k) (j) (1) (by omega) (by omega) (by omega) (by omega) b9 b10 b13 bm r _ u hds _ _ w _ hs).mono ?_))
                rintro _ _ hs
                rw [Int.toNat_natCast, Int.toNat_natCast] at hs
                have hfr := upd_range (y := pN n k j) (v := f p (pN n k j) + 1) hvr
                refine T_nil ?_
                refine W_reg ?_
                refine T_pu rfl rfl (pu_move rfl) ?_
                refine T_pu rfl rfl (pu_move rfl) ?_
                refine T_pu rfl rfl (pu_add64 rfl rfl (by omega)) ?_
                refine T_pu rfl rfl (pu_move rfl) ?_
                refine T_pu rfl rfl (pu_move rfl) ?_
                refine T_pu rfl rfl (pu_sub64 rfl rfl (by omega)) ?_
                refine T_go rfl rfl (st_callv (fi := []) fn151 rfl rfl ((put_ok n hn _ p hp hfr ((k : Int) + 1) (j) (1 - q) (by omega) (by omega) (by omega) (by omega) b9 b10 b13 bm r _ u hds _ _ w _ hs).mono ?_))
                rintro _ _ hs
                rw [Int.toNat_natCast, show ((k : Int) + 1).toNat = k + 1 by omega, hv2 _ _ _ _ (fun h => by have := pN_inj hn.2 (i := k) (j := j) (i' := k + 1) (j' := j) (by omega) (by omega) (by omega) (by omega) (by omega) (by omega) h; omega) (by unfold KR; rw [if_neg (by omega), if_neg (by omega), if_neg (by omega), if_neg (by omega), if_pos (by omega)]; rfl)] at hs
                refine T_nil ?_
                exact ⟨p :: vis, .cons rfl (.cons rfl (.cons rfl (.cons rfl (.cons rfl (.cons rfl (.cons rfl (.cons rfl (.nil _)))))))), (hs.drop 0).drop 0, huv⟩
              · refine W_seq ?_
                refine W_reg ?_
                refine T_pu rfl rfl (pu_move rfl) ?_
                refine T_pu rfl rfl (pu_move rfl) ?_
                refine T_pu rfl rfl (pu_lss rfl rfl) ?_
                refine T_if rfl rfl (pu_move rfl) (fun hg24_3 => ?_) (fun hg24_3 => ?_)
                · refine T_pu rfl rfl (pu_move rfl) ?_
                  refine T_pu rfl rfl (pu_move rfl) ?_
                  refine T_pu rfl rfl (pu_add64 rfl rfl (by omega)) ?_
                  refine T_pu rfl rfl (pu_gtr rfl rfl) ?_
                  refine T_pu rfl rfl (pu_pick_t rfl rfl) ?_
                  refine T_pu rfl rfl (pu_assign rfl) ?_
                  refine T_nil ?_
                  refine W_if rfl (fun hc24 => ?_) (fun hc24 => ?_)
                  · refine W_seq ?_
                    have hfr := hvr
                    refine W_reg ?_
                    refine T_pu rfl rfl (pu_move rfl) ?_
                    refine T_pu rfl rfl (pu_move rfl) ?_
                    refine T_pu rfl rfl (pu_move rfl) ?_
                    refine T_go rfl rfl (st_callv (fi := []) fn151 rfl rfl ((put_ok n hn _ p hp hfr (i) (j) (1) (by omega) (by omega) (by omega) (by omega) b9 b10 b13 bm r _ u hds _ _ w _ hs).mono ?_))
                    rintro _ _ hs
                    rw [Int.toNat_natCast, Int.toNat_natCast] at hs
                    have hfr := upd_range (y := pN n i j) (v := f p (pN n i j) + 1) hvr
                    refine T_nil ?_
                    refine W_reg ?_
                    refine T_pu rfl rfl (pu_move rfl) ?_
                    refine T_pu rfl rfl (pu_move rfl) ?_
                    refine T_pu rfl rfl (pu_move rfl) ?_
                    refine T_pu rfl rfl (pu_add64 rfl rfl (by omega)) ?_
                    refine T_pu rfl rfl (pu_move rfl) ?_
                    refine T_pu rfl rfl (pu_move rfl) ?_
                    refine T_pu rfl rfl (pu_move rfl) ?_
                    refine T_pu rfl rfl (pu_move rfl) ?_
                    refine T_pu rfl rfl (pu_sub64 rfl rfl (by omega)) ?_
                    rw [show (k : Int) - (i : Int) = ((k - i : Nat) : Int) by omega]
                    refine T_go rfl rfl (st_call fn152 rfl ((powerIn_ok q hq (k - i) (by omega) _).mono ?_))
                    rintro v w' ⟨rfl, rfl⟩
                    have hpw := pwr_range (q := q) (k - i)
                    have hm1 := emul_range (a := t) (by omega) hpw
                    refine T_pu rfl rfl (pu_mul64 rfl rfl (by omega)) ?_
                    refine T_pu rfl rfl (pu_rem rfl rfl (by omega)) ?_
                    rw [tmod_nn hm1.1]
                    refine T_pu rfl rfl (pu_move rfl) ?_
                    refine T_pu rfl rfl (pu_move rfl) ?_
                    refine T_pu rfl rfl (pu_mul64 rfl rfl (by omega)) ?_
                    refine T_pu rfl rfl (pu_rem rfl rfl (by omega)) ?_
                    rw [tmod_nn hll.1]
                    have hm2 := emul_range (em_range (t * pwr q (k - i))) hllr
                    refine T_pu rfl rfl (pu_mul64 rfl rfl (by omega)) ?_
                    refine T_go rfl rfl (st_callv (fi := []) fn151 rfl rfl ((put_ok n hn _ p hp hfr (k) ((k : Int) + 1) (t * pwr q (k - i) % 10007 * ((q - 1) * (q - 1) % 10007)) (by omega) (by omega) (by omega) (by omega) b9 b10 b13 bm r _ u hds _ _ w _ hs).mono ?_))
                    rintro _ _ hs
                    rw [Int.toNat_natCast, show ((k : Int) + 1).toNat = k + 1 by omega, hv2 _ _ _ _ (fun h => by have := pN_inj hn.2 (i := i) (j := j) (i' := k) (j' := k + 1) (by omega) (by omega) (by omega) (by omega) (by omega) (by omega) h; omega) (by unfold KR; rw [if_neg (by omega), if_neg (by omega), if_neg (by omega), if_neg (by omega), if_neg (by omega), if_pos (by omega)]; rfl)] at hs
                    refine T_nil ?_
                    exact ⟨p :: vis, .cons rfl (.cons rfl (.cons rfl (.cons rfl (.cons rfl (.cons rfl (.cons rfl (.cons rfl (.nil _)))))))), (hs.drop 0).drop 0, huv⟩
                  · have hfr := hvr
                    refine W_reg ?_
                    refine T_pu rfl rfl (pu_move rfl) ?_
                    refine T_pu rfl rfl (pu_move rfl) ?_
                    refine T_pu rfl rfl (pu_move rfl) ?_
                    refine T_go rfl rfl (st_callv (fi := []) fn151 rfl rfl ((put_ok n hn _ p hp hfr (i) (j) (1) (by omega) (by omega) (by omega) (by omega) b9 b10 b13 bm r _ u hds _ _ w _ hs).mono ?_))
                    rintro _ _ hs
                    rw [Int.toNat_natCast, Int.toNat_natCast, hv1 _ _ (by unfold KR; rw [if_neg (by omega), if_neg (by omega), if_neg (by omega), if_neg (by omega), if_neg (by omega), if_neg (by omega)]; rfl)] at hs
                    refine T_nil ?_
                    exact ⟨p :: vis, .cons rfl (.cons rfl (.cons rfl (.cons rfl (.cons rfl (.cons rfl (.cons rfl (.cons rfl (.nil _)))))))), (hs.drop 0).drop 0, huv⟩
                · refine T_no rfl rfl ?_
                  refine T_no rfl rfl ?_
                  refine T_no rfl rfl ?_
                  refine T_no rfl rfl ?_
                  refine T_pu rfl rfl (pu_pick_f rfl rfl) ?_
                  refine T_pu rfl rfl (pu_assign rfl) ?_
                  refine T_nil ?_
                  refine W_false rfl ?_
                  have hfr := hvr
                  refine W_reg ?_
                  refine T_pu rfl rfl (pu_move rfl) ?_
                  refine T_pu rfl rfl (pu_move rfl) ?_
                  refine T_pu rfl rfl (pu_move rfl) ?_
                  refine T_go rfl rfl (st_callv (fi := []) fn151 rfl rfl ((put_ok n hn _ p hp hfr (i) (j) (1) (by omega) (by omega) (by omega) (by omega) b9 b10 b13 bm r _ u hds _ _ w _ hs).mono ?_))
                  rintro _ _ hs
                  rw [Int.toNat_natCast, Int.toNat_natCast, hv1 _ _ (by unfold KR; rw [if_neg (by omega), if_neg (by omega), if_neg (by omega), if_neg (by omega), if_neg (by omega), if_neg (by omega)]; rfl)] at hs
                  refine T_nil ?_
                  exact ⟨p :: vis, .cons rfl (.cons rfl (.cons rfl (.cons rfl (.cons rfl (.cons rfl (.cons rfl (.cons rfl (.nil _)))))))), (hs.drop 0).drop 0, huv⟩
    · refine T_no rfl rfl ?_
      refine T_no rfl rfl ?_
      refine T_no rfl rfl ?_
      refine T_no rfl rfl ?_
      refine T_pu rfl rfl (pu_pick_f rfl rfl) ?_
      refine T_pu rfl rfl (pu_assign rfl) ?_
      refine T_nil ?_
      refine W_false rfl ?_
      refine W_seq ?_
      refine W_reg ?_
      refine T_pu rfl rfl (pu_move rfl) ?_
      refine T_pu rfl rfl (pu_move rfl) ?_
      refine T_pu rfl rfl (pu_eql rfl rfl) ?_
      refine T_pu rfl rfl (pu_assign rfl) ?_
      refine T_nil ?_
      refine W_if rfl (fun hc12 => ?_) (fun hc12 => ?_)
      · refine W_seq ?_
        have hfr := hvr
        refine W_reg ?_
        refine T_pu rfl rfl (pu_move rfl) ?_
        refine T_pu rfl rfl (pu_move rfl) ?_
        refine T_pu rfl rfl (pu_move rfl) ?_
        refine T_pu rfl rfl (pu_move rfl) ?_
        refine T_pu rfl rfl (pu_sub64 rfl rfl (by omega)) ?_
        refine T_go rfl rfl (st_callv (fi := []) fn151 rfl rfl ((put_ok n hn _ p hp hfr (i) (k) (1 - q) (by omega) (by omega) (by omega) (by omega) b9 b10 b13 bm r _ u hds _ _ w _ hs).mono ?_))
        rintro _ _ hs
        rw [Int.toNat_natCast, Int.toNat_natCast] at hs
        have hfr := upd_range (y := pN n i k) (v := f p (pN n i k) + (1 - q)) hvr
        refine T_nil ?_
        refine W_reg ?_
        refine T_pu rfl rfl (pu_move rfl) ?_
        refine T_pu rfl rfl (pu_move rfl) ?_
        refine T_pu rfl rfl (pu_move rfl) ?_
        refine T_pu rfl rfl (pu_add64 rfl rfl (by omega)) ?_
        refine T_pu rfl rfl (pu_move rfl) ?_
        refine T_go rfl rfl (st_callv (fi := []) fn151 rfl rfl ((put_ok n hn _ p hp hfr (i) ((k : Int) + 1) (q) (by omega) (by omega) (by omega) (by omega) b9 b10 b13 bm r _ u hds _ _ w _ hs).mono ?_))
        rintro _ _ hs
        rw [Int.toNat_natCast, show ((k : Int) + 1).toNat = k + 1 by omega, hv2 _ _ _ _ (fun h => by have := pN_inj hn.2 (i := i) (j := k) (i' := i) (j' := k + 1) (by omega) (by omega) (by omega) (by omega) (by omega) (by omega) h; omega) (by unfold KR; rw [if_neg (by omega), if_pos (by omega), hqm])] at hs
        refine T_nil ?_
        exact ⟨p :: vis, .cons rfl (.cons rfl (.cons rfl (.cons rfl (.cons rfl (.cons rfl (.cons rfl (.cons rfl (.nil _)))))))), (hs.drop 0).drop 0, huv⟩
      · refine W_seq ?_
        refine W_reg ?_
        refine T_pu rfl rfl (pu_move rfl) ?_
        refine T_pu rfl rfl (pu_move rfl) ?_
        refine T_pu rfl rfl (pu_add64 rfl rfl (by omega)) ?_
        refine T_pu rfl rfl (pu_eql rfl rfl) ?_
        refine T_if rfl rfl (pu_move rfl) (fun hg15_4 => ?_) (fun hg15_4 => ?_)
        · refine T_pu rfl rfl (pu_move rfl) ?_
          refine T_pu rfl rfl (pu_move rfl) ?_
          refine T_pu rfl rfl (pu_lss rfl rfl) ?_
          refine T_pu rfl rfl (pu_pick_t rfl rfl) ?_
          refine T_pu rfl rfl (pu_assign rfl) ?_
          refine T_nil ?_
          refine W_if rfl (fun hc15 => ?_) (fun hc15 => ?_)
          · refine W_seq ?_
            have hfr := hvr
            refine W_reg ?_
            refine T_pu rfl rfl (pu_move rfl) ?_
            refine T_pu rfl rfl (pu_move rfl) ?_
            refine T_pu rfl rfl (pu_move rfl) ?_
            refine T_go rfl rfl (st_callv (fi := []) fn151 rfl rfl ((put_ok n hn _ p hp hfr (i) (k) (1) (by omega) (by omega) (by omega) (by omega) b9 b10 b13 bm r _ u hds _ _ w _ hs).mono ?_))
            rintro _ _ hs
            rw [Int.toNat_natCast, Int.toNat_natCast] at hs
            have hfr := upd_range (y := pN n i k) (v := f p (pN n i k) + 1) hvr
            refine T_nil ?_
            refine W_reg ?_
            refine T_pu rfl rfl (pu_move rfl) ?_
            refine T_pu rfl rfl (pu_move rfl) ?_
            refine T_pu rfl rfl (pu_move rfl) ?_
            refine T_pu rfl rfl (pu_add64 rfl rfl (by omega)) ?_
            refine T_pu rfl rfl (pu_move rfl) ?_
            refine T_pu rfl rfl (pu_move rfl) ?_
            refine T_pu rfl rfl (pu_move rfl) ?_
            refine T_pu rfl rfl (pu_move rfl) ?_
            refine T_pu rfl rfl (pu_sub64 rfl rfl (by omega)) ?_
            refine T_pu rfl rfl (pu_add64 rfl rfl (by omega)) ?_
            rw [show (k : Int) - (i : Int) + 1 = ((k - i + 1 : Nat) : Int) by omega]
            refine T_go rfl rfl (st_call fn152 rfl ((powerIn_ok q hq (k - i + 1) (by omega) _).mono ?_))
            rintro v w' ⟨rfl, rfl⟩
            have hpw := pwr_range (q := q) (k - i + 1)
            have hm1 := emul_range (a := t) (by omega) hpw
            refine T_pu rfl rfl (pu_mul64 rfl rfl (by omega)) ?_
            refine T_pu rfl rfl (pu_rem rfl rfl (by omega)) ?_
            rw [tmod_nn hm1.1]
            have hm2 := emul_range (em_range (t * pwr q (k - i + 1))) (b := q - 1) (by omega)
            refine T_pu rfl rfl (pu_move rfl) ?_
            refine T_pu rfl rfl (pu_mul64 rfl rfl (by omega)) ?_
            refine T_go rfl rfl (st_callv (fi := []) fn151 rfl rfl ((put_ok n hn _ p hp hfr (k) ((k : Int) + 1) (t * pwr q (k - i + 1) % 10007 * (q - 1)) (by omega) (by omega) (by omega) (by omega) b9 b10 b13 bm r _ u hds _ _ w _ hs).mono ?_))
            rintro _ _ hs
            rw [Int.toNat_natCast, show ((k : Int) + 1).toNat = k + 1 by omega, hv2 _ _ _ _ (fun h => by have := pN_inj hn.2 (i := i) (j := k) (i' := k) (j' := k + 1) (by omega) (by omega) (by omega) (by omega) (by omega) (by omega) h; omega) (by unfold KR; rw [if_neg (by omega), if_neg (by omega), if_pos (by omega)]; rfl)] at hs
            refine T_nil ?_
            exact ⟨p :: vis, .cons rfl (.cons rfl (.cons rfl (.cons rfl (.cons rfl (.cons rfl (.cons rfl (.cons rfl (.nil _)))))))), (hs.drop 0).drop 0, huv⟩
          · refine W_seq ?_
            refine W_reg ?_
            refine T_pu rfl rfl (pu_move rfl) ?_
            refine T_pu rfl rfl (pu_move rfl) ?_
            refine T_pu rfl rfl (pu_eql rfl rfl) ?_
            refine T_pu rfl rfl (pu_assign rfl) ?_
            refine T_nil ?_
            refine W_if rfl (fun hc18 => ?_) (fun hc18 => ?_)
            · refine W_seq ?_
              refine W_reg ?_
              refine T_pu rfl rfl (pu_move rfl) ?_
              refine T_pu rfl rfl (pu_move rfl) ?_
              refine T_pu rfl rfl (pu_move rfl) ?_
              refine T_pu rfl rfl (pu_add64 rfl rfl (by omega)) ?_
              refine T_pu rfl rfl (pu_move rfl) ?_
              refine T_pu rfl rfl (pu_move rfl) ?_
              refine T_pu rfl rfl (pu_mul64 rfl rfl (by omega)) ?_
              refine T_pu rfl rfl (pu_rem rfl rfl (by omega)) ?_
              rw [tmod_nn htq.1]
              have hm2 := emul_range htqr (b := q - 1) (by omega)
              have hfr := hvr
              refine T_pu rfl rfl (pu_move rfl) ?_
              refine T_pu rfl rfl (pu_mul64 rfl rfl (by omega)) ?_
              refine T_go rfl rfl (st_callv (fi := []) fn151 rfl rfl ((put_ok n hn _ p hp hfr (k) ((k : Int) + 1) (t * q % 10007 * (q - 1)) (by omega) (by omega) (by omega) (by omega) b9 b10 b13 bm r _ u hds _ _ w _ hs).mono ?_))
              rintro _ _ hs
              rw [Int.toNat_natCast, show ((k : Int) + 1).toNat = k + 1 by omega] at hs
              have hfr := upd_range (y := pN n k (k + 1)) (v := f p (pN n k (k + 1)) + (t * q % 10007 * (q - 1))) hvr
              refine T_nil ?_
              refine W_reg ?_
              refine T_pu rfl rfl (pu_move rfl) ?_
              refine T_pu rfl rfl (pu_move rfl) ?_
              refine T_pu rfl rfl (pu_add64 rfl rfl (by omega)) ?_
              refine T_pu rfl rfl (pu_move rfl) ?_
              refine T_pu rfl rfl (pu_move rfl) ?_
              refine T_go rfl rfl (st_callv (fi := []) fn151 rfl rfl ((put_ok n hn _ p hp hfr ((k : Int) + 1) (j) (q) (by omega) (by omega) (by omega) (by omega) b9 b10 b13 bm r _ u hds _ _ w _ hs).mono ?_))
              rintro _ _ hs
              rw [Int.toNat_natCast, show ((k : Int) + 1).toNat = k + 1 by omega, hv2 _ _ _ _ (fun h => by have := pN_inj hn.2 (i := k) (j := k + 1) (i' := k + 1) (j' := j) (by omega) (by omega) (by omega) (by omega) (by omega) (by omega) h; omega) (by unfold KR; rw [if_neg (by omega), if_neg (by omega), if_neg (by omega), if_pos (by omega), hqm])] at hs
              refine T_nil ?_
              exact ⟨p :: vis, .cons rfl (.cons rfl (.cons rfl (.cons rfl (.cons rfl (.cons rfl (.cons rfl (.cons rfl (.nil _)))))))), (hs.drop 0).drop 0, huv⟩
            · refine W_seq ?_
              refine W_reg ?_
              refine T_pu rfl rfl (pu_move rfl) ?_
              refine T_pu rfl rfl (pu_move rfl) ?_
              refine T_pu rfl rfl (pu_add64 rfl rfl (by omega)) ?_
              refine T_pu rfl rfl (pu_eql rfl rfl) ?_
              refine T_pu rfl rfl (pu_assign rfl) ?_
              refine T_nil ?_
              refine W_if rfl (fun hc21 => ?_) (fun hc21 => ?_)
              · refine W_seq ?_
                have hfr := hvr
                refine W_reg ?_
                refine T_pu rfl rfl (pu_move rfl) ?_
                refine T_pu rfl rfl (pu_move rfl) ?_
                refine T_pu rfl rfl (pu_move rfl) ?_
                refine T_go rfl rfl (st_callv (fi := []) fn151 rfl rfl ((put_ok n hn _ p hp hfr (k) (j) (1) (by omega) (by omega) (by omega) (by omega) b9 b10 b13 bm r _ u hds _ _ w _ hs).mono ?_))
                rintro _ _ hs
                rw [Int.toNat_natCast, Int.toNat_natCast] at hs
                have hfr := upd_range (y := pN n k j) (v := f p (pN n k j) + 1) hvr
                refine T_nil ?_
                refine W_reg ?_
                refine T_pu rfl rfl (pu_move rfl) ?_
                refine T_pu rfl rfl (pu_move rfl) ?_
                refine T_pu rfl rfl (pu_add64 rfl rfl (by omega)) ?_
                refine T_pu rfl rfl (pu_move rfl) ?_
                refine T_pu rfl rfl (pu_move rfl) ?_
                refine T_pu rfl rfl (pu_sub64 rfl rfl (by omega)) ?_
                refine T_go rfl rfl (st_callv (fi := []) fn151 rfl rfl ((put_ok n hn _ p hp hfr ((k : Int) + 1) (j) (1 - q) (by omega) (by omega) (by omega) (by omega) b9 b10 b13 bm r _ u hds _ _ w _ hs).mono ?_))
                rintro _ _ hs
                rw [Int.toNat_natCast, show ((k : Int) + 1).toNat = k + 1 by omega, hv2 _ _ _ _ (fun h => by have := pN_inj hn.2 (i := k) (j := j) (i' := k + 1) (j' := j) (by omega) (by omega) (by omega) (by omega) (by omega) (by omega) h; omega) (by unfold KR; rw [if_neg (by omega), if_neg (by omega), if_neg (by omega), if_neg (by omega), if_pos (by omega)]; rfl)] at hs
                refine T_nil ?_
                exact ⟨p :: vis, .cons rfl (.cons rfl (.cons rfl (.cons rfl (.cons rfl (.cons rfl (.cons rfl (.cons rfl (.nil _)))))))), (hs.drop 0).drop 0, huv⟩
              · refine W_seq ?_
                refine W_reg ?_
                refine T_pu rfl rfl (pu_move rfl) ?_
                refine T_pu rfl rfl (pu_move rfl) ?_
                refine T_pu rfl rfl (pu_lss rfl rfl) ?_
                refine T_if rfl rfl (pu_move rfl) (fun hg24_3 => ?_) (fun hg24_3 => ?_)
                · refine T_pu rfl rfl (pu_move rfl) ?_
                  refine T_pu rfl rfl (pu_move rfl) ?_
                  refine T_pu rfl rfl (pu_add64 rfl rfl (by omega)) ?_
                  refine T_pu rfl rfl (pu_gtr rfl rfl) ?_
                  refine T_pu rfl rfl (pu_pick_t rfl rfl) ?_
                  refine T_pu rfl rfl (pu_assign rfl) ?_
                  refine T_nil ?_
                  refine W_if rfl (fun hc24 => ?_) (fun hc24 => ?_)
                  · refine W_seq ?_
                    have hfr := hvr
                    refine W_reg ?_
                    refine T_pu rfl rfl (pu_move rfl) ?_
                    refine T_pu rfl rfl (pu_move rfl) ?_
                    refine T_pu rfl rfl (pu_move rfl) ?_
                    refine T_go rfl rfl (st_callv (fi := []) fn151 rfl rfl ((put_ok n hn _ p hp hfr (i) (j) (1) (by omega) (by omega) (by omega) (by omega) b9 b10 b13 bm r _ u hds _ _ w _ hs).mono ?_))
                    rintro _ _ hs
                    rw [Int.toNat_natCast, Int.toNat_natCast] at hs
                    have hfr := upd_range (y := pN n i j) (v := f p (pN n i j) + 1) hvr
                    refine T_nil ?_
                    refine W_reg ?_
                    refine T_pu rfl rfl (pu_move rfl) ?_
                    refine T_pu rfl rfl (pu_move rfl) ?_
                    refine T_pu rfl rfl (pu_move rfl) ?_
                    refine T_pu rfl rfl (pu_add64 rfl rfl (by omega)) ?_
                    refine T_pu rfl rfl (pu_move rfl) ?_
                    refine T_pu rfl rfl (pu_move rfl) ?_
                    refine T_pu rfl rfl (pu_move rfl) ?_
                    refine T_pu rfl rfl (pu_move rfl) ?_
                    refine T_pu rfl rfl (pu_sub64 rfl rfl (by omega)) ?_
                    rw [show (k : Int) - (i : Int) = ((k - i : Nat) : Int) by omega]
                    refine T_go rfl rfl (st_call fn152 rfl ((powerIn_ok q hq (k - i) (by omega) _).mono ?_))
                    rintro v w' ⟨rfl, rfl⟩
                    have hpw := pwr_range (q := q) (k - i)
                    have hm1 := emul_range (a := t) (by omega) hpw
                    refine T_pu rfl rfl (pu_mul64 rfl rfl (by omega)) ?_
                    refine T_pu rfl rfl (pu_rem rfl rfl (by omega)) ?_
                    rw [tmod_nn hm1.1]
                    refine T_pu rfl rfl (pu_move rfl) ?_
                    refine T_pu rfl rfl (pu_move rfl) ?_
                    refine T_pu rfl rfl (pu_mul64 rfl rfl (by omega)) ?_
                    refine T_pu rfl rfl (pu_rem rfl rfl (by omega)) ?_
                    rw [tmod_nn hll.1]
                    have hm2 := emul_range (em_range (t * pwr q (k - i))) hllr
                    refine T_pu rfl rfl (pu_mul64 rfl rfl (by omega)) ?_
                    refine T_go rfl rfl (st_callv (fi := []) fn151 rfl rfl ((put_ok n hn _ p hp hfr (k) ((k : Int) + 1) (t * pwr q (k - i) % 10007 * ((q - 1) * (q - 1) % 10007)) (by omega) (by omega) (by omega) (by omega) b9 b10 b13 bm r _ u hds _ _ w _ hs).mono ?_))
                    rintro _ _ hs
                    rw [Int.toNat_natCast, show ((k : Int) + 1).toNat = k + 1 by omega, hv2 _ _ _ _ (fun h => by have := pN_inj hn.2 (i := i) (j := j) (i' := k) (j' := k + 1) (by omega) (by omega) (by omega) (by omega) (by omega) (by omega) h; omega) (by unfold KR; rw [if_neg (by omega), if_neg (by omega), if_neg (by omega), if_neg (by omega), if_neg (by omega), if_pos (by omega)]; rfl)] at hs
                    refine T_nil ?_
                    exact ⟨p :: vis, .cons rfl (.cons rfl (.cons rfl (.cons rfl (.cons rfl (.cons rfl (.cons rfl (.cons rfl (.nil _)))))))), (hs.drop 0).drop 0, huv⟩
                  · have hfr := hvr
                    refine W_reg ?_
                    refine T_pu rfl rfl (pu_move rfl) ?_
                    refine T_pu rfl rfl (pu_move rfl) ?_
                    refine T_pu rfl rfl (pu_move rfl) ?_
                    refine T_go rfl rfl (st_callv (fi := []) fn151 rfl rfl ((put_ok n hn _ p hp hfr (i) (j) (1) (by omega) (by omega) (by omega) (by omega) b9 b10 b13 bm r _ u hds _ _ w _ hs).mono ?_))
                    rintro _ _ hs
                    rw [Int.toNat_natCast, Int.toNat_natCast, hv1 _ _ (by unfold KR; rw [if_neg (by omega), if_neg (by omega), if_neg (by omega), if_neg (by omega), if_neg (by omega), if_neg (by omega)]; rfl)] at hs
                    refine T_nil ?_
                    exact ⟨p :: vis, .cons rfl (.cons rfl (.cons rfl (.cons rfl (.cons rfl (.cons rfl (.cons rfl (.cons rfl (.nil _)))))))), (hs.drop 0).drop 0, huv⟩
                · refine T_no rfl rfl ?_
                  refine T_no rfl rfl ?_
                  refine T_no rfl rfl ?_
                  refine T_no rfl rfl ?_
                  refine T_pu rfl rfl (pu_pick_f rfl rfl) ?_
                  refine T_pu rfl rfl (pu_assign rfl) ?_
                  refine T_nil ?_
                  refine W_false rfl ?_
                  have hfr := hvr
                  refine W_reg ?_
                  refine T_pu rfl rfl (pu_move rfl) ?_
                  refine T_pu rfl rfl (pu_move rfl) ?_
                  refine T_pu rfl rfl (pu_move rfl) ?_
                  refine T_go rfl rfl (st_callv (fi := []) fn151 rfl rfl ((put_ok n hn _ p hp hfr (i) (j) (1) (by omega) (by omega) (by omega) (by omega) b9 b10 b13 bm r _ u hds _ _ w _ hs).mono ?_))
                  rintro _ _ hs
                  rw [Int.toNat_natCast, Int.toNat_natCast, hv1 _ _ (by unfold KR; rw [if_neg (by omega), if_neg (by omega), if_neg (by omega), if_neg (by omega), if_neg (by omega), if_neg (by omega)]; rfl)] at hs
                  refine T_nil ?_
                  exact ⟨p :: vis, .cons rfl (.cons rfl (.cons rfl (.cons rfl (.cons rfl (.cons rfl (.cons rfl (.cons rfl (.nil _)))))))), (hs.drop 0).drop 0, huv⟩
        · refine T_no rfl rfl ?_
          refine T_no rfl rfl ?_
          refine T_no rfl rfl ?_
          refine T_pu rfl rfl (pu_pick_f rfl rfl) ?_
          refine T_pu rfl rfl (pu_assign rfl) ?_
          refine T_nil ?_
          refine W_false rfl ?_
          refine W_seq ?_
          refine W_reg ?_
          refine T_pu rfl rfl (pu_move rfl) ?_
          refine T_pu rfl rfl (pu_move rfl) ?_
          refine T_pu rfl rfl (pu_eql rfl rfl) ?_
          refine T_pu rfl rfl (pu_assign rfl) ?_
          refine T_nil ?_
          refine W_if rfl (fun hc18 => ?_) (fun hc18 => ?_)
          · refine W_seq ?_
            refine W_reg ?_
            refine T_pu rfl rfl (pu_move rfl) ?_
            refine T_pu rfl rfl (pu_move rfl) ?_
            refine T_pu rfl rfl (pu_move rfl) ?_
            refine T_pu rfl rfl (pu_add64 rfl rfl (by omega)) ?_
            refine T_pu rfl rfl (pu_move rfl) ?_
            refine T_pu rfl rfl (pu_move rfl) ?_
            refine T_pu rfl rfl (pu_mul64 rfl rfl (by omega)) ?_
            refine T_pu rfl rfl (pu_rem rfl rfl (by omega)) ?_
            rw [tmod_nn htq.1]
            have hm2 := emul_range htqr (b := q - 1) (by omega)
            have hfr := hvr
            refine T_pu rfl rfl (pu_move rfl) ?_
            refine T_pu rfl rfl (pu_mul64 rfl rfl (by omega)) ?_
            refine T_go rfl rfl (st_callv (fi := []) fn151 rfl rfl ((put_ok n hn _ p hp hfr (k) ((k : Int) + 1) (t * q % 10007 * (q - 1)) (by omega) (by omega) (by omega) (by omega) b9 b10 b13 bm r _ u hds _ _ w _ hs).mono ?_))
            rintro _ _ hs
            rw [Int.toNat_natCast, show ((k : Int) + 1).toNat = k + 1 by omega] at hs
            have hfr := upd_range (y := pN n k (k + 1)) (v := f p (pN n k (k + 1)) + (t * q % 10007 * (q - 1))) hvr
            refine T_nil ?_
            refine W_reg ?_
            refine T_pu rfl rfl (pu_move rfl) ?_
            refine T_pu rfl rfl (pu_move rfl) ?_
            refine T_pu rfl rfl (pu_add64 rfl rfl (by omega)) ?_
            refine T_pu rfl rfl (pu_move rfl) ?_
            refine T_pu rfl rfl (pu_move rfl) ?_
            refine T_go rfl rfl (st_callv (fi := []) fn151 rfl rfl ((put_ok n hn _ p hp hfr ((k : Int) + 1) (j) (q) (by omega) (by omega) (by omega) (by omega) b9 b10 b13 bm r _ u hds _ _ w _ hs).mono ?_))
            rintro _ _ hs
            rw [Int.toNat_natCast, show ((k : Int) + 1).toNat = k + 1 by omega, hv2 _ _ _ _ (fun h => by have := pN_inj hn.2 (i := k) (j := k + 1) (i' := k + 1) (j' := j) (by omega) (by omega) (by omega) (by omega) (by omega) (by omega) h; omega) (by unfold KR; rw [if_neg (by omega), if_neg (by omega), if_neg (by omega), if_pos (by omega), hqm])] at hs
            refine T_nil ?_
            exact ⟨p :: vis, .cons rfl (.cons rfl (.cons rfl (.cons rfl (.cons rfl (.cons rfl (.cons rfl (.cons rfl (.nil _)))))))), (hs.drop 0).drop 0, huv⟩
          · refine W_seq ?_
            refine W_reg ?_
            refine T_pu rfl rfl (pu_move rfl) ?_
            refine T_pu rfl rfl (pu_move rfl) ?_
            refine T_pu rfl rfl (pu_add64 rfl rfl (by omega)) ?_
            refine T_pu rfl rfl (pu_eql rfl rfl) ?_
            refine T_pu rfl rfl (pu_assign rfl) ?_
            refine T_nil ?_
            refine W_if rfl (fun hc21 => ?_) (fun hc21 => ?_)
            · refine W_seq ?_
              have hfr := hvr
              refine W_reg ?_
              refine T_pu rfl rfl (pu_move rfl) ?_
              refine T_pu rfl rfl (pu_move rfl) ?_
              refine T_pu rfl rfl (pu_move rfl) ?_
              refine T_go rfl rfl (st_callv (fi := []) fn151 rfl rfl ((put_ok n hn _ p hp hfr (k) (j) (1) (by omega) (by omega) (by omega) (by omega) b9 b10 b13 bm r _ u hds _ _ w _ hs).mono ?_))
              rintro _ _ hs
              rw [Int.toNat_natCast, Int.toNat_natCast] at hs
              have hfr := upd_range (y := pN n k j) (v := f p (pN n k j) + 1) hvr
              refine T_nil ?_
              refine W_reg ?_
              refine T_pu rfl rfl (pu_move rfl) ?_
              refine T_pu rfl rfl (pu_move rfl) ?_
              refine T_pu rfl rfl (pu_add64 rfl rfl (by omega)) ?_
              refine T_pu rfl rfl (pu_move rfl) ?_
              refine T_pu rfl rfl (pu_move rfl) ?_
              refine T_pu rfl rfl (pu_sub64 rfl rfl (by omega)) ?_
              refine T_go rfl rfl (st_callv (fi := []) fn151 rfl rfl ((put_ok n hn _ p hp hfr ((k : Int) + 1) (j) (1 - q) (by omega) (by omega) (by omega) (by omega) b9 b10 b13 bm r _ u hds _ _ w _ hs).mono ?_))
              rintro _ _ hs
              rw [Int.toNat_natCast, show ((k : Int) + 1).toNat = k + 1 by omega, hv2 _ _ _ _ (fun h => by have := pN_inj hn.2 (i := k) (j := j) (i' := k + 1) (j' := j) (by omega) (by omega) (by omega) (by omega) (by omega) (by omega) h; omega) (by unfold KR; rw [if_neg (by omega), if_neg (by omega), if_neg (by omega), if_neg (by omega), if_pos (by omega)]; rfl)] at hs
              refine T_nil ?_
              exact ⟨p :: vis, .cons rfl (.cons rfl (.cons rfl (.cons rfl (.cons rfl (.cons rfl (.cons rfl (.cons rfl (.nil _)))))))), (hs.drop 0).drop 0, huv⟩
            · refine W_seq ?_
              refine W_reg ?_
              refine T_pu rfl rfl (pu_move rfl) ?_
              refine T_pu rfl rfl (pu_move rfl) ?_
              refine T_pu rfl rfl (pu_lss rfl rfl) ?_
              refine T_if rfl rfl (pu_move rfl) (fun hg24_3 => ?_) (fun hg24_3 => ?_)
              · refine T_pu rfl rfl (pu_move rfl) ?_
                refine T_pu rfl rfl (pu_move rfl) ?_
                refine T_pu rfl rfl (pu_add64 rfl rfl (by omega)) ?_
                refine T_pu rfl rfl (pu_gtr rfl rfl) ?_
                refine T_pu rfl rfl (pu_pick_t rfl rfl) ?_
                refine T_pu rfl rfl (pu_assign rfl) ?_
                refine T_nil ?_
                refine W_if rfl (fun hc24 => ?_) (fun hc24 => ?_)
                · refine W_seq ?_
                  have hfr := hvr
                  refine W_reg ?_
                  refine T_pu rfl rfl (pu_move rfl) ?_
                  refine T_pu rfl rfl (pu_move rfl) ?_
                  refine T_pu rfl rfl (pu_move rfl) ?_
                  refine T_go rfl rfl (st_callv (fi := []) fn151 rfl rfl ((put_ok n hn _ p hp hfr (i) (j) (1) (by omega) (by omega) (by omega) (by omega) b9 b10 b13 bm r _ u hds _ _ w _ hs).mono ?_))
                  rintro _ _ hs
                  rw [Int.toNat_natCast, Int.toNat_natCast] at hs
                  have hfr := upd_range (y := pN n i j) (v := f p (pN n i j) + 1) hvr
                  refine T_nil ?_
                  refine W_reg ?_
                  refine T_pu rfl rfl (pu_move rfl) ?_
                  refine T_pu rfl rfl (pu_move rfl) ?_
                  refine T_pu rfl rfl (pu_move rfl) ?_
                  refine T_pu rfl rfl (pu_add64 rfl rfl (by omega)) ?_
                  refine T_pu rfl rfl (pu_move rfl) ?_
                  refine T_pu rfl rfl (pu_move rfl) ?_
                  refine T_pu rfl rfl (pu_move rfl) ?_
                  refine T_pu rfl rfl (pu_move rfl) ?_
                  refine T_pu rfl rfl (pu_sub64 rfl rfl (by omega)) ?_
                  rw [show (k : Int) - (i : Int) = ((k - i : Nat) : Int) by omega]
                  refine T_go rfl rfl (st_call fn152 rfl ((powerIn_ok q hq (k - i) (by omega) _).mono ?_))
                  rintro v w' ⟨rfl, rfl⟩
                  have hpw := pwr_range (q := q) (k - i)
                  have hm1 := emul_range (a := t) (by omega) hpw
                  refine T_pu rfl rfl (pu_mul64 rfl rfl (by omega)) ?_
                  refine T_pu rfl rfl (pu_rem rfl rfl (by omega)) ?_
                  rw [tmod_nn hm1.1]
                  refine T_pu rfl rfl (pu_move rfl) ?_
                  refine T_pu rfl rfl (pu_move rfl) ?_
                  refine T_pu rfl rfl (pu_mul64 rfl rfl (by omega)) ?_
                  refine T_pu rfl rfl (pu_rem rfl rfl (by omega)) ?_
                  rw [tmod_nn hll.1]
                  have hm2 := emul_range (em_range (t * pwr q (k - i))) hllr
                  refine T_pu rfl rfl (pu_mul64 rfl rfl (by omega)) ?_
                  refine T_go rfl rfl (st_callv (fi := []) fn151 rfl rfl ((put_ok n hn _ p hp hfr (k) ((k : Int) + 1) (t * pwr q (k - i) % 10007 * ((q - 1) * (q - 1) % 10007)) (by omega) (by omega) (by omega) (by omega) b9 b10 b13 bm r _ u hds _ _ w _ hs).mono ?_))
                  rintro _ _ hs
                  rw [Int.toNat_natCast, show ((k : Int) + 1).toNat = k + 1 by omega, hv2 _ _ _ _ (fun h => by have := pN_inj hn.2 (i := i) (j := j) (i' := k) (j' := k + 1) (by omega) (by omega) (by omega) (by omega) (by omega) (by omega) h; omega) (by unfold KR; rw [if_neg (by omega), if_neg (by omega), if_neg (by omega), if_neg (by omega), if_neg (by omega), if_pos (by omega)]; rfl)] at hs
                  refine T_nil ?_
                  exact ⟨p :: vis, .cons rfl (.cons rfl (.cons rfl (.cons rfl (.cons rfl (.cons rfl (.cons rfl (.cons rfl (.nil _)))))))), (hs.drop 0).drop 0, huv⟩
                · have hfr := hvr
                  refine W_reg ?_
                  refine T_pu rfl rfl (pu_move rfl) ?_
                  refine T_pu rfl rfl (pu_move rfl) ?_
                  refine T_pu rfl rfl (pu_move rfl) ?_
                  refine T_go rfl rfl (st_callv (fi := []) fn151 rfl rfl ((put_ok n hn _ p hp hfr (i) (j) (1) (by omega) (by omega) (by omega) (by omega) b9 b10 b13 bm r _ u hds _ _ w _ hs).mono ?_))
                  rintro _ _ hs
                  rw [Int.toNat_natCast, Int.toNat_natCast, hv1 _ _ (by unfold KR; rw [if_neg (by omega), if_neg (by omega), if_neg (by omega), if_neg (by omega), if_neg (by omega), if_neg (by omega)]; rfl)] at hs
                  refine T_nil ?_
                  exact ⟨p :: vis, .cons rfl (.cons rfl (.cons rfl (.cons rfl (.cons rfl (.cons rfl (.cons rfl (.cons rfl (.nil _)))))))), (hs.drop 0).drop 0, huv⟩
              · refine T_no rfl rfl ?_
                refine T_no rfl rfl ?_
                refine T_no rfl rfl ?_
                refine T_no rfl rfl ?_
                refine T_pu rfl rfl (pu_pick_f rfl rfl) ?_
                refine T_pu rfl rfl (pu_assign rfl) ?_
                refine T_nil ?_
                refine W_false rfl ?_
                have hfr := hvr
                refine W_reg ?_
                refine T_pu rfl rfl (pu_move rfl) ?_
                refine T_pu rfl rfl (pu_move rfl) ?_
                refine T_pu rfl rfl (pu_move rfl) ?_
                refine T_go rfl rfl (st_callv (fi := []) fn151 rfl rfl ((put_ok n hn _ p hp hfr (i) (j) (1) (by omega) (by omega) (by omega) (by omega) b9 b10 b13 bm r _ u hds _ _ w _ hs).mono ?_))
                rintro _ _ hs
                rw [Int.toNat_natCast, Int.toNat_natCast, hv1 _ _ (by unfold KR; rw [if_neg (by omega), if_neg (by omega), if_neg (by omega), if_neg (by omega), if_neg (by omega), if_neg (by omega)]; rfl)] at hs
                refine T_nil ?_
                exact ⟨p :: vis, .cons rfl (.cons rfl (.cons rfl (.cons rfl (.cons rfl (.cons rfl (.cons rfl (.cons rfl (.nil _)))))))), (hs.drop 0).drop 0, huv⟩
  · obtain ⟨rfl, hall⟩ := hn0 hc5
    rw [ents_length] at hall
    rw [visF_all hall] at hs
    refine W_exit rfl ?_
    refine W_seq ?_
    refine W_reg ?_
    refine T_pi rfl rfl (pi_load Try.underlying32 rfl rfl (fun w' h => by obtain rfl := h; exact (by first | exact (hs.bk 1 rfl).cell rfl))) ?_
    refine T_pu rfl rfl (pu_assign rfl) ?_
    refine T_nil ?_
    refine W_ret ?_
    exact Res_1 rfl rfl (hs.isNewM 0 rfl)
end Go.Proofs.Ytdpbfdjpeofbmaa.L
