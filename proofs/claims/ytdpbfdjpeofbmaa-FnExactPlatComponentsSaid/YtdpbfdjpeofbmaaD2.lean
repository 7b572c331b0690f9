/- Crossings counted, pair by pair; linking numbers. -/
import Derived.Test.YtdpbfdjpeofbmaaD1
namespace Go.Proofs.Ytdpbfdjpeofbmaa.L
set_option linter.unusedVariables false
set_option maxRecDepth 100000

theorem rd_set {xs : List Int} {i : Nat} {x : Int} {j : Int} : rd (xs.set i x) j = if j.toNat = i ∧ i < xs.length then x else rd xs j := by
  unfold rd
  simp only [List.getD_eq_getElem?_getD, List.getElem?_set]
  by_cases h : i = j.toNat
  · subst h
    by_cases h2 : j.toNat < xs.length
    · simp [h2]
    · simp [h2]
  · rw [if_neg h, if_neg (fun e => h e.1.symm)]
theorem rr_set {xss : List (List Int)} {i : Nat} {xs : List Int} {j : Int} : rr (xss.set i xs) j = if j.toNat = i ∧ i < xss.length then xs else rr xss j := by
  unfold rr
  simp only [List.getD_eq_getElem?_getD, List.getElem?_set]
  by_cases h : i = j.toNat
  · subst h
    by_cases h2 : j.toNat < xss.length
    · simp [h2]
    · simp [h2]
  · rw [if_neg h, if_neg (fun e => h e.1.symm)]
/-- n rows of n numbers, from -B to B. -/
def Sq (n : Nat) (B : Int) (T : List (List Int)) : Prop := T.length = n ∧ (∀ i : Int, 0 ≤ i → i < n → (rr T i).length = n) ∧ ∀ i j : Int, -B ≤ rd2 T i j ∧ rd2 T i j ≤ B
theorem rd2_set2 {T : List (List Int)} {x y v i j : Int} : rd2 (set2 T x y v) i j = if (i.toNat = x.toNat ∧ x.toNat < T.length) ∧ (j.toNat = y.toNat ∧ y.toNat < (rr T x).length) then v else rd2 T i j := by
  unfold rd2 set2
  rw [rr_set]
  by_cases h : i.toNat = x.toNat ∧ x.toNat < T.length
  · rw [if_pos h, rd_set]
    have e : rr T i = rr T x := by unfold rr; rw [h.1]
    rw [e]
    by_cases h2 : j.toNat = y.toNat ∧ y.toNat < (rr T x).length
    · rw [if_pos h2, if_pos ⟨h, h2⟩]
    · rw [if_neg h2, if_neg (fun e => h2 e.2)]
  · rw [if_neg h, if_neg (fun e => h e.1)]
theorem Sq.set2 {n : Nat} {B B' : Int} {T : List (List Int)} (h : Sq n B T) {x y v : Int} (hB : B ≤ B') (hv : -B' ≤ v ∧ v ≤ B') (h0 : 0 ≤ x) (h1 : x < n) : Sq n B' (set2 T x y v) := by
  refine ⟨by simp [L.set2, h.1], fun i hi0 hi1 => ?_, fun i j => ?_⟩
  · unfold L.set2
    rw [rr_set]
    split
    · rw [List.length_set]; exact h.2.1 x h0 h1
    · exact h.2.1 i hi0 hi1
  · rw [rd2_set2]
    have := h.2.2 i j
    split
    · exact hv
    · omega
def add2 (T : List (List Int)) (x y s : Int) : List (List Int) := set2 T x y (rd2 T x y + s)
def sgn (l : Int) : Int := if 0 < l then 1 else -1
theorem sgn_cases (l : Int) : sgn l = 1 ∨ sgn l = -1 := by unfold sgn; split <;> simp
theorem Sq.add2 {n : Nat} {B : Int} {T : List (List Int)} (h : Sq n B T) {x y l : Int} (h0 : 0 ≤ x) (h1 : x < n) : Sq n (B + 1) (add2 T x y (sgn l)) :=
  h.set2 (by omega) (by have := h.2.2 x y; have := sgn_cases l; omega) h0 h1
def cross2 (T : List (List Int)) (x y l : Int) : List (List Int) := add2 (add2 T x y (sgn l)) y x (sgn l)
def crsF (n : Nat) (ls : List Int) : Nat → List (List Int)
  | 0 => List.replicate n (List.replicate n 0)
  | k + 1 => cross2 (crsF n ls k) (rd (strF n (ls.take k)) (max (rd ls k) (-rd ls k) - 1)) (rd (strF n (ls.take k)) (max (rd ls k) (-rd ls k))) (rd ls k)
theorem crsF_ok {n : Nat} {ls : List Int} (hl : ∀ l ∈ ls, Lt n l) : ∀ k, k ≤ ls.length → Sq n (2 * k) (crsF n ls k)
  | 0, _ => by
    refine ⟨by simp [crsF], fun i h0 h1 => ?_, fun i j => ?_⟩
    · have : i.toNat < n := by omega
      simp [crsF, rr, List.getD_eq_getElem?_getD, this]
    · have : rd2 (crsF n ls 0) i j = 0 := by
        unfold rd2 crsF rr rd
        simp only [List.getD_eq_getElem?_getD, List.getElem?_replicate]
        split
        · simp only [Option.getD_some, List.getElem?_replicate]; split <;> rfl
        · simp
      rw [this]; omega
  | k + 1, h => by
    have ih := crsF_ok hl k (by omega)
    have hs := strF_okT hl k
    have hm := pq_max (hl _ (rd_mem (i := k) (by omega)))
    have hx := hs.2.rd (i := max (rd ls k) (-rd ls k) - 1) (by omega) (by omega)
    have hy := hs.2.rd (i := max (rd ls k) (-rd ls k)) (by omega) (by omega)
    have := (ih.add2 (l := rd ls k) (y := rd (strF n (ls.take k)) (max (rd ls k) (-rd ls k))) hx.1 hx.2).add2 (l := rd ls k) (y := rd (strF n (ls.take k)) (max (rd ls k) (-rd ls k) - 1)) hy.1 hy.2
    rw [show 2 * ((k + 1 : Nat) : Int) = 2 * (k : Int) + 1 + 1 by omega]
    exact this
theorem sign_ok' (x : Int) (w : World) : CallsR Try.prog 146 #[.int .i64 x] w fun v w' => v = .int .i64 (sgn x) ∧ w = w' := sign_ok x w
set_option maxHeartbeats 4000000 in
theorem crossClosure_ok (n : Nat) (T : List (List Int)) (B : Int) (hT : Sq n B T) (hB : B ≤ 1000) (x y l : Int) (hx : 0 ≤ x ∧ x < n) (hy : 0 ≤ y ∧ y < n) (bo : Nat) (v : Value) (hds : List Value) (w : World) (hM : MatH w v hds T) (hb : Bk w bo 32 [v]) (hd : ¬ MatF v hds bo) :
    CallsR Try.prog 145 #[.int .i64 x, .int .i64 y, .int .i64 l, .pointer (some ⟨bo, 0, none⟩)] w fun _ w' => Kp (MatF v hds) w w' ∧ MatH w' v hds (cross2 T x y l) := by
  have hs := hM.start
  generalize hF : MatF v hds = F at *
  obtain ⟨g, c, rfl, hc⟩ : ∃ g c, v = .slice (some ⟨g, 0, none⟩) n c ∧ n ≤ c := by
    rcases hM.open with ⟨_, e⟩ | ⟨g, c, e, h⟩
    · rw [← hT.1, e] at hx; simp at hx; omega
    · rw [hT.1] at e h; exact ⟨g, c, e, h⟩
  have hsg := sgn_cases l
  have hb1 := hT.2.2 x y
  clear hM
  refine fn_calls Try.func145 rfl rfl rfl ?_
  refine W_seq ?_
  refine W_draw mixed 11 IS (fun w1 hk1 => ?_)
  have hs := hs.next hk1
  have hb := hb.keep hk1 id
  obtain ⟨r, cr, hh, hcl, hO⟩ := (hs.mat 0 rfl).at (i := x) hx.1 (by have := hT.1; omega) (hT.2.1 x hx.1 hx.2) (by omega)
  have hcx := hO.ri.at0 (i := y) hy.1 (by have := hT.2.1 x hx.1 hx.2; omega)
  refine D_rd 0 (by kernel_rfl) rfl (by kernel_rfl) (by kernel_rfl) rfl rfl (by kernel_rfl) (by kernel_rfl) (by kernel_rfl) (pi_load Try.underlying32 rfl rfl (fun w' h => by obtain rfl := h rfl; exact (by first | exact hb.cell rfl | exact hcl | exact hcx))) ?_
  refine D_pu 1 (by kernel_rfl) rfl (by kernel_rfl) (by kernel_rfl) rfl rfl (by kernel_rfl) (Pu.stable (pu_move rfl)) ?_
  refine D_pu 2 (by kernel_rfl) rfl (by kernel_rfl) (by kernel_rfl) rfl rfl (by kernel_rfl) (Pu.stable ((by first | exact pu_ix1 Try.underlying32 ty22 rfl rfl (by omega) (by omega) | exact pu_index Try.underlying32 ty22 rfl rfl (by omega) (by omega)))) ?_
  refine D_rd 3 (by kernel_rfl) rfl (by kernel_rfl) (by kernel_rfl) rfl rfl (by kernel_rfl) (by kernel_rfl) (by kernel_rfl) (pi_load Try.underlying22 rfl rfl (fun w' h => by obtain rfl := h rfl; exact (by first | exact hb.cell rfl | exact hcl | exact hcx))) ?_
  refine D_pu 4 (by kernel_rfl) rfl (by kernel_rfl) (by kernel_rfl) rfl rfl (by kernel_rfl) (Pu.stable (pu_move rfl)) ?_
  refine D_pu 5 (by kernel_rfl) rfl (by kernel_rfl) (by kernel_rfl) rfl rfl (by kernel_rfl) (Pu.stable ((by first | exact pu_ix1 Try.underlying22 ty2 rfl rfl (by omega) (by omega) | exact pu_index Try.underlying22 ty2 rfl rfl (by omega) (by omega)))) ?_
  refine D_rd 6 (by kernel_rfl) rfl (by kernel_rfl) (by kernel_rfl) rfl rfl (by kernel_rfl) (by kernel_rfl) (by kernel_rfl) (pi_load Try.underlying2 rfl rfl (fun w' h => by obtain rfl := h rfl; exact (by first | exact hb.cell rfl | exact hcl | exact hcx))) ?_
  refine D_pu 7 (by kernel_rfl) rfl (by kernel_rfl) (by kernel_rfl) rfl rfl (by kernel_rfl) (Pu.stable (pu_move rfl)) ?_
  refine D_go 8 (by kernel_rfl) (by first | rfl | (intro _; rfl) | (intro h; exact absurd (show true = false from h) (by decide)) | exact Kp.refl _ _ | assumption) rfl rfl rfl (st_call fn146 rfl ((sign_ok' l _).mono ?_))
  rintro v w' ⟨rfl, rfl⟩
  refine D_pu 9 (by kernel_rfl) rfl (by kernel_rfl) (by kernel_rfl) rfl rfl (by kernel_rfl) (Pu.stable (pu_add64 rfl rfl (by unfold rd2 at hb1; omega))) ?_
  refine D_pu 10 (by kernel_rfl) rfl (by kernel_rfl) (by kernel_rfl) rfl rfl (by kernel_rfl) (Pu.stable ((by first | exact pu_ix1 Try.underlying22 ty2 rfl rfl (by omega) (by omega) | exact pu_index Try.underlying22 ty2 rfl rfl (by omega) (by omega)))) ?_
  refine D_goN 11 (by kernel_rfl) (by first | rfl | (intro _; rfl) | (intro h; exact absurd (show true = false from h) (by decide)) | exact Kp.refl _ _ | assumption) rfl rfl (st_storeM hs 0 rfl x hx.1 (by have := hT.1; omega) hh ty2 rfl rfl hy.1 hy.2 fun w2 hk2 hs => ?_)
  simp only [List.set_cons_zero] at hs
  have hb := hb.keep hk2 (fun e => hd (by rw [← hF, e]; exact .inr ⟨_, List.mem_of_getElem? hh, rfl⟩))
  have hT2 : Sq n (B + 1) (add2 T x y (sgn l)) := hT.add2 hx.1 hx.2
  have hs : St F w [aMat (.slice (some ⟨g, 0, none⟩) n c) hds (add2 T x y (sgn l))] w2 := hs
  have hb2 := hT2.2.2 y x
  refine D_done (by kernel_rfl) (by first | rfl | (intro _; rfl) | (intro h; exact absurd (show true = false from h) (by decide)) | exact Kp.refl _ _ | assumption) ?_
  refine W_draw mixed 11 IS (fun w3 hk3 => ?_)
  have hs := hs.next hk3
  have hb := hb.keep hk3 id
  obtain ⟨r, cr, hh, hcl, hO⟩ := (hs.mat 0 rfl).at (i := y) hy.1 (by have := hT2.1; omega) (hT2.2.1 y hy.1 hy.2) (by omega)
  have hcx := hO.ri.at0 (i := x) hx.1 (by have := hT2.2.1 y hy.1 hy.2; omega)
  refine D_rd 0 (by kernel_rfl) rfl (by kernel_rfl) (by kernel_rfl) rfl rfl (by kernel_rfl) (by kernel_rfl) (by kernel_rfl) (pi_load Try.underlying32 rfl rfl (fun w' h => by obtain rfl := h rfl; exact (by first | exact hb.cell rfl | exact hcl | exact hcx))) ?_
  refine D_pu 1 (by kernel_rfl) rfl (by kernel_rfl) (by kernel_rfl) rfl rfl (by kernel_rfl) (Pu.stable (pu_move rfl)) ?_
  refine D_pu 2 (by kernel_rfl) rfl (by kernel_rfl) (by kernel_rfl) rfl rfl (by kernel_rfl) (Pu.stable ((by first | exact pu_ix1 Try.underlying32 ty22 rfl rfl (by omega) (by omega) | exact pu_index Try.underlying32 ty22 rfl rfl (by omega) (by omega)))) ?_
  refine D_rd 3 (by kernel_rfl) rfl (by kernel_rfl) (by kernel_rfl) rfl rfl (by kernel_rfl) (by kernel_rfl) (by kernel_rfl) (pi_load Try.underlying22 rfl rfl (fun w' h => by obtain rfl := h rfl; exact (by first | exact hb.cell rfl | exact hcl | exact hcx))) ?_
  refine D_pu 4 (by kernel_rfl) rfl (by kernel_rfl) (by kernel_rfl) rfl rfl (by kernel_rfl) (Pu.stable (pu_move rfl)) ?_
  refine D_pu 5 (by kernel_rfl) rfl (by kernel_rfl) (by kernel_rfl) rfl rfl (by kernel_rfl) (Pu.stable ((by first | exact pu_ix1 Try.underlying22 ty2 rfl rfl (by omega) (by omega) | exact pu_index Try.underlying22 ty2 rfl rfl (by omega) (by omega)))) ?_
  refine D_rd 6 (by kernel_rfl) rfl (by kernel_rfl) (by kernel_rfl) rfl rfl (by kernel_rfl) (by kernel_rfl) (by kernel_rfl) (pi_load Try.underlying2 rfl rfl (fun w' h => by obtain rfl := h rfl; exact (by first | exact hb.cell rfl | exact hcl | exact hcx))) ?_
  refine D_pu 7 (by kernel_rfl) rfl (by kernel_rfl) (by kernel_rfl) rfl rfl (by kernel_rfl) (Pu.stable (pu_move rfl)) ?_
  refine D_go 8 (by kernel_rfl) (by first | rfl | (intro _; rfl) | (intro h; exact absurd (show true = false from h) (by decide)) | exact Kp.refl _ _ | assumption) rfl rfl rfl (st_call fn146 rfl ((sign_ok' l _).mono ?_))
  rintro v w' ⟨rfl, rfl⟩
  refine D_pu 9 (by kernel_rfl) rfl (by kernel_rfl) (by kernel_rfl) rfl rfl (by kernel_rfl) (Pu.stable (pu_add64 rfl rfl (by unfold rd2 at hb2; omega))) ?_
  refine D_pu 10 (by kernel_rfl) rfl (by kernel_rfl) (by kernel_rfl) rfl rfl (by kernel_rfl) (Pu.stable ((by first | exact pu_ix1 Try.underlying22 ty2 rfl rfl (by omega) (by omega) | exact pu_index Try.underlying22 ty2 rfl rfl (by omega) (by omega)))) ?_
  refine D_goN 11 (by kernel_rfl) (by first | rfl | (intro _; rfl) | (intro h; exact absurd (show true = false from h) (by decide)) | exact Kp.refl _ _ | assumption) rfl rfl (st_storeM hs 0 rfl y hy.1 (by have := hT2.1; omega) hh ty2 rfl rfl hx.1 hx.2 fun w4 hk4 hs => ?_)
  simp only [List.set_cons_zero] at hs
  refine D_done (by kernel_rfl) (by first | rfl | (intro _; rfl) | (intro h; exact absurd (show true = false from h) (by decide)) | exact Kp.refl _ _ | assumption) ?_
  exact Res_0 rfl ⟨hs.kp, hs.mat 0 rfl⟩

def CrossR (n : Int) (xs : List Int) : List (List Int) × Int := if ¬ Br n xs then ([], 1) else (crsF n.toNat xs xs.length, 0)
/-- What is owned of a call that began in w0 lies behind what was there then. -/
theorem St.newer {w0 w : World} {As : List Asr} (hs : St no w0 As w) (i : Nat) {A : Asr} (hi : As[i]? = some A) {w' : World} (hk : Kp A.foot w w') : Kp no w0 w' :=
  hs.kp.trans hk fun b hb hf => by
    have := ((hs.each A (List.mem_of_getElem? hi)).2 b hf).1
    rcases this with h | h
    · exact h
    · omega
set_option maxHeartbeats 4000000 in
theorem implCrossings_ok (n : Int) (v : Value) (xs : List Int) (w : World) (hv : RI w v xs) (hl : xs.length ≤ 9223372036854775807) :
    CallsR Try.prog 83 #[.agg #[.int .i64 n, v]] w fun r w' => ∃ u, r = .tuple #[u, .int .i64 (CrossR n xs).2] ∧ NewM w w' u (CrossR n xs).1 := by
  obtain ⟨A, c, rfl, hc⟩ := hv.open
  have hs := St.start w
  refine fn_calls Try.func83 rfl rfl rfl ?_
  refine W_seq ?_
  refine W_reg ?_
  refine T_go rfl rfl (st_boxS hs rfl fun w1 b1 hk1 hb1 hs => ?_)
  refine T_pu rfl rfl (pu_assign rfl) ?_
  refine T_pu rfl rfl (pu_assign rfl) ?_
  refine T_nil ?_
  refine W_seq ?_
  refine W_seq ?_
  refine W_reg ?_
  refine T_pi rfl rfl (pi_loadAgg Try.underlying28 rfl ty28 rfl (fun w' h => by obtain rfl := h; exact (by first | exact (hs.bk 0 rfl).cells)) (by first | rfl | (simp; done) | (rw [nums_length]; assumption) | assumption)) ?_
  refine T_go rfl rfl (st_call fn72 rfl ((IsBraid_ok n _ xs _ (hv.keep hs.kp) hl).mono ?_))
  rintro v w2 ⟨rfl, hk2⟩
  have hs := hs.next hk2
  refine T_pu rfl rfl (pu_notp rfl) ?_
  refine T_nil ?_
  refine W_if rfl (fun hc1 => ?_) (fun hc1 => ?_)
  · refine W_seq ?_
    refine W_reg ?_
    refine T_pu rfl rfl (pu_assign rfl) ?_
    refine T_pu rfl rfl (pu_assign rfl) ?_
    refine T_nil ?_
    refine W_ret ?_
    have e : CrossR n xs = ([], 1) := by unfold CrossR; rw [if_pos hc1]
    rw [e]
    exact Res_2 rfl rfl rfl ⟨_, rfl, newM_none hs.kp⟩
  · refine W_skip ?_
    refine W_seq ?_
    have hBr : Br n xs := Decidable.not_not.1 hc1
    obtain ⟨m, rfl⟩ : ∃ m : Nat, n = m := ⟨n.toNat, by have := hBr.1; omega⟩
    have hm : 1 ≤ m ∧ m ≤ 8 := by have := hBr.1; omega
    have e : CrossR m xs = (crsF m xs xs.length, 0) := by unfold CrossR; rw [if_neg hc1, Int.toNat_natCast]
    rw [e]
    refine W_reg ?_
    refine T_pu rfl rfl (pu_fld (off := 0) Try.underlying28 rfl rfl ty2 rfl rfl) ?_
    refine T_pi rfl rfl (pi_load Try.underlying2 rfl rfl (fun w' h => by obtain rfl := h; exact (by first | exact (hs.bk 0 rfl).cell rfl))) ?_
    refine T_go rfl rfl (st_call fn134 rfl ((zeroRows_ok m (by omega) _).mono ?_))
    rintro v w3 ⟨hds, hM3, hk3, hf3⟩
    obtain ⟨g, cg, rfl, hcg⟩ := hM3.slice (n := m) (by simp) hm.1
    have hs := hs.newM hM3 hk3 hf3
    refine T_go rfl rfl (st_allocS hs ty32 fun w4 b4 hk4 hb4 hs => ?_)
    refine T_goN rfl (st_storeB hs 0 rfl ty32 rfl rfl rfl (by first | exact Nat.le_of_ble_eq_true rfl | omega | (simp; done) | (simp; omega)) fun w5 hk5 hs => ?_)
    simp only [List.set_cons_zero] at hs
    have hB := hs.bk 0 rfl
    have hnm : ¬ MatF (.slice (some ⟨g, 0, none⟩) m cg) hds b4 := fun h => hs.apart 0 1 rfl rfl (by decide) b4 rfl h
    refine T_nil ?_
    refine W_seq ?_
    refine W_reg ?_
    refine T_pi rfl rfl (pi_loadAgg Try.underlying28 rfl ty28 rfl (fun w' h => by obtain rfl := h; exact (by first | exact (hs.bk 2 rfl).cells)) (by first | rfl | (simp; done) | (rw [nums_length]; assumption) | assumption)) ?_
    refine T_pu rfl rfl (pu_makeFunc rfl rfl) ?_
    refine T_go rfl rfl (st_call fn119 rfl ((follow_ok m hm _ xs _ (MatF (.slice (some ⟨g, 0, none⟩) m cg) hds) (fun k w' => MatH w' (.slice (some ⟨g, 0, none⟩) m cg) hds (crsF m xs k)) (fun k w w' h hm => (aMat (.slice (some ⟨g, 0, none⟩) m cg) hds (crsF m xs k)).loc w w' h hm) (fun b h => hs.lt 1 rfl h) (hs.mat 1 rfl) (fun w' hk => hv.keep (hs.newer 1 rfl hk)) hl hBr.2.2 _ [.pointer (some ⟨b4, 0, none⟩)] fn145 (fun k w' hkl hk hMk => crossClosure_ok m _ _ (crsF_ok hBr.2.2 k (by omega)) (by have := hBr.2.1; omega) _ _ _ ((strF_okT hBr.2.2 k).2.rd (by have := pq_max (hBr.2.2 _ (rd_mem (i := k) (by omega))); omega) (by have := pq_max (hBr.2.2 _ (rd_mem (i := k) (by omega))); have := (strF_okT hBr.2.2 k).1; omega)) ((strF_okT hBr.2.2 k).2.rd (by have := pq_max (hBr.2.2 _ (rd_mem (i := k) (by omega))); omega) (by have := pq_max (hBr.2.2 _ (rd_mem (i := k) (by omega))); have := (strF_okT hBr.2.2 k).1; omega)) b4 _ _ w' hMk (hB.keep hk hnm) hnm)).mono ?_))
    rintro v w6 ⟨hO6, hk6, hM6, hf6⟩
    have hs := hs.upd 1 rfl hk6 (aMat _ _ _) hM6 (fun b h => .inl h)
    refine T_nil ?_
    refine W_seq ?_
    refine W_reg ?_
    refine T_pi rfl rfl (pi_load Try.underlying32 rfl rfl (fun w' h => by obtain rfl := h; exact (by first | exact (hs.bk 0 rfl).cell rfl))) ?_
    refine T_pu rfl rfl (pu_assign rfl) ?_
    refine T_pu rfl rfl (pu_assign rfl) ?_
    refine T_nil ?_
    refine W_ret ?_
    exact Res_2 rfl rfl rfl ⟨_, rfl, hs.isNewM 1 rfl⟩
def mixM (a b : List (List Int)) (x : Nat) : List (List Int) := a.take x ++ b.drop x
theorem mixM_length {a b : List (List Int)} (h : a.length = b.length) {x : Nat} (hx : x ≤ b.length) : (mixM a b x).length = b.length := by unfold mixM; simp; omega
theorem mixM_rr {a b : List (List Int)} (h : a.length = b.length) {x : Nat} (hx : x < b.length) : rr (mixM a b x) x = rr b x := by
  unfold mixM rr
  rw [Int.toNat_natCast, List.getD_eq_getElem?_getD, List.getD_eq_getElem?_getD, List.getElem?_append_right (by simp; omega), List.getElem?_drop]
  congr 2
  simp; omega
theorem mixM_set {a b : List (List Int)} (h : a.length = b.length) {x : Nat} (hx : x < b.length) : (mixM a b x).set x (rr a x) = mixM a b (x + 1) := by
  unfold mixM
  have hl : (a.take x).length = x := by simp; omega
  have hm := rr_get (xss := a) (i := (x : Int)) (by omega) (by omega)
  rw [Int.toNat_natCast] at hm
  rw [List.set_append_right _ _ (by omega), hl, Nat.sub_self, List.take_add_one, hm, List.drop_eq_getElem_cons hx, List.set_cons_zero]
  show _ ++ _ = (_ ++ [_]) ++ _
  rw [List.append_assoc]
  rfl
theorem mixM_zero (a b : List (List Int)) : mixM a b 0 = b := by simp [mixM]
theorem mixM_all {a b : List (List Int)} (h : a.length = b.length) : mixM a b b.length = a := by simp [mixM, ← h]
def half (x : Int) : Int := x.tdiv 2
theorem half_bd {x B : Int} (h : -B ≤ x ∧ x ≤ B) : -B ≤ x.tdiv 2 ∧ x.tdiv 2 ≤ B := by
  rcases Int.le_total 0 x with h0 | h0
  · rw [Int.tdiv_eq_ediv_of_nonneg h0]; omega
  · obtain ⟨y, rfl⟩ : ∃ y, x = -y := ⟨-x, by omega⟩
    rw [Int.neg_tdiv, Int.tdiv_eq_ediv_of_nonneg (by omega)]
    omega
def hlv (T : List (List Int)) : List (List Int) := T.map (List.map half)
theorem hlv_rr {T : List (List Int)} {i : Nat} (h : i < T.length) : rr (hlv T) i = (rr T i).map half := by
  unfold rr hlv
  simp [List.getD_eq_getElem?_getD, h]
theorem map_rd {f : Int → Int} {xs : List Int} {i : Nat} (h : i < xs.length) : rd (xs.map f) i = f (rd xs i) := by
  unfold rd
  simp [List.getD_eq_getElem?_getD, h]
def linkR (n : Int) (xs : List Int) : List (List Int) × Int := if pureF n xs ≠ 0 then ([], pureF n xs) else (hlv (crsF n.toNat xs xs.length), 0)
theorem pureF_br {n : Int} {xs : List Int} (h : pureF n xs = 0) : Br n xs := by
  unfold pureF at h
  by_cases hb : Br n xs
  · exact hb
  · rw [if_pos hb] at h; cases h
set_option maxHeartbeats 4000000 in
theorem implLinkings_ok (n : Int) (v : Value) (xs : List Int) (w : World) (hv : RI w v xs) (hl : xs.length ≤ 9223372036854775807) :
    CallsR Try.prog 27 #[.agg #[.int .i64 n, v]] w fun r w' => ∃ u, r = .tuple #[u, .int .i64 (linkR n xs).2] ∧ NewM w w' u (linkR n xs).1 := by
  obtain ⟨A, c, rfl, hc⟩ := hv.open
  have hs := St.start w
  refine fn_calls Try.func27 rfl rfl rfl ?_
  refine W_seq ?_
  refine W_reg ?_
  refine T_go rfl rfl (st_boxS hs rfl fun w1 b1 hk1 hb1 hs => ?_)
  refine T_pu rfl rfl (pu_assign rfl) ?_
  refine T_pu rfl rfl (pu_assign rfl) ?_
  refine T_nil ?_
  refine W_seq ?_
  refine W_seq ?_
  refine W_reg ?_
  refine T_pi rfl rfl (pi_loadAgg Try.underlying28 rfl ty28 rfl (fun w' h => by obtain rfl := h; exact (by first | exact (hs.bk 0 rfl).cells)) (by first | rfl | (simp; done) | (rw [nums_length]; assumption) | assumption)) ?_
  refine T_go rfl rfl (st_call fn82 rfl ((pureCode_ok n _ xs _ (hv.keep hs.kp) hl).mono ?_))
  rintro v w2 ⟨rfl, hk2⟩
  have hs := hs.next hk2
  refine T_pu rfl rfl (pu_assign rfl) ?_
  refine T_nil ?_
  refine W_seq ?_
  refine W_reg ?_
  refine T_pu rfl rfl (pu_move rfl) ?_
  refine T_pu rfl rfl (pu_neq rfl rfl) ?_
  refine T_nil ?_
  refine W_if rfl (fun hc2 => ?_) (fun hc2 => ?_)
  · refine W_seq ?_
    refine W_reg ?_
    refine T_pu rfl rfl (pu_move rfl) ?_
    refine T_pu rfl rfl (pu_assign rfl) ?_
    refine T_pu rfl rfl (pu_assign rfl) ?_
    refine T_nil ?_
    refine W_ret ?_
    have e : linkR n xs = ([], pureF n xs) := by unfold linkR; rw [if_pos hc2]
    rw [e]
    exact Res_2 rfl rfl rfl ⟨_, rfl, newM_none hs.kp⟩
  · refine W_skip ?_
    refine W_seq ?_
    have hBr := pureF_br (Decidable.not_not.1 hc2)
    obtain ⟨m, rfl⟩ : ∃ m : Nat, n = m := ⟨n.toNat, by have := hBr.1; omega⟩
    have hm : 1 ≤ m ∧ m ≤ 8 := by have := hBr.1; omega
    have e : linkR m xs = (hlv (crsF m xs xs.length), 0) := by unfold linkR; rw [if_neg hc2, Int.toNat_natCast]
    have e2 : CrossR m xs = (crsF m xs xs.length, 0) := by unfold CrossR; rw [if_neg (not_not_intro hBr), Int.toNat_natCast]
    have hic := fun w hv => implCrossings_ok m (.slice A xs.length c) xs w hv hl
    rw [e2] at hic
    rw [e]
    have hsq := crsF_ok hBr.2.2 xs.length (Nat.le_refl _)
    generalize crsF m xs xs.length = T at hsq hic
    have hl200 := hBr.2.1
    refine W_reg ?_
    refine T_pi rfl rfl (pi_loadAgg Try.underlying28 rfl ty28 rfl (fun w' h => by obtain rfl := h; exact (by first | exact (hs.bk 0 rfl).cells)) (by first | rfl | (simp; done) | (rw [nums_length]; assumption) | assumption)) ?_
    refine T_go rfl rfl (st_call fn83 rfl ((hic _ (hv.keep hs.kp)).mono ?_))
    rintro v w3 ⟨u, rfl, hds, hM3, hk3, hf3⟩
    obtain ⟨g, cg, rfl, hcg⟩ := hM3.slice (n := m) hsq.1 hm.1
    have hs := (hs.newM hM3 hk3 hf3).drop 1
    have hlh : (hlv T).length = T.length := by simp [hlv]
    refine T_pu rfl rfl (pu_move rfl) ?_
    refine T_pu rfl rfl (pu_extract rfl rfl) ?_
    refine T_pu rfl rfl (pu_extract rfl rfl) ?_
    refine T_pu rfl rfl (pu_assign rfl) ?_
    refine T_pu rfl rfl (pu_assign rfl) ?_
    refine T_nil ?_
    refine W_seq ?_
    refine W_seq ?_
    refine W_reg ?_
    refine T_pu rfl rfl (pu_move rfl) ?_
    refine T_pu rfl rfl (pu_len Try.underlying32 rfl) ?_
    refine T_pu rfl rfl (pu_move rfl) ?_
    refine T_nil ?_
    refine W_block ?_
    refine W_loop (σ := Nat) (fun i => [(5, .slice (some ⟨g, 0, none⟩) m cg), (6, .int .i64 0), (20, .slice (some ⟨g, 0, none⟩) m cg), (21, .int .i64 m), (22, .int .i64 i)]) (fun i w' => i ≤ m ∧ St no w [aMat (.slice (some ⟨g, 0, none⟩) m cg) hds (mixM (hlv T) T i)] w') (fun i => m - i) 0 ?_ ?_ ?_
    · exact .cons rfl (.cons rfl (.cons rfl (.cons rfl (.cons rfl (.nil _)))))
    · exact ⟨Nat.zero_le _, by rw [mixM_zero]; exact hs⟩
    repeat clear hs
    rintro i w4 ⟨hil, hs⟩
    have hml := mixM_length hlh (x := i) (by have := hsq.1; omega)
    refine W_seq ?_
    refine W_reg ?_
    refine T_pu rfl rfl (pu_lss rfl rfl) ?_
    refine T_nil ?_
    refine W_seq ?_
    refine W_if rfl (fun hc6 => ?_) (fun hc6 => ?_)
    · refine W_skip ?_
      refine W_seq ?_
      refine W_block ?_
      refine W_seq ?_
      have hri := mixM_rr hlh (x := i) (by have := hsq.1; omega)
      have hrl := hsq.2.1 i (by omega) (by omega)
      obtain ⟨b, cc, hh, hcl, hO⟩ := (hs.mat 0 rfl).at (i := i) (m := m) (by omega) (by have := hsq.1; omega) (by rw [hri]; exact hrl) (by omega)
      have hrh : ((rr T i).map half).length = (rr T i).length := by simp
      have hst := mixM_set hlh (x := i) (by have := hsq.1; omega)
      rw [hlv_rr (by have := hsq.1; omega)] at hst
      refine W_reg ?_
      refine T_pu rfl rfl ((by first | exact pu_ix1 Try.underlying32 ty22 rfl rfl (by omega) (by omega) | exact pu_index Try.underlying32 ty22 rfl rfl (by omega) (by omega))) ?_
      refine T_pi rfl rfl (pi_load Try.underlying22 rfl rfl (fun w' h => by obtain rfl := h; exact (by first | exact hcl))) ?_
      refine T_pu rfl rfl (pu_assign rfl) ?_
      refine T_nil ?_
      refine W_seq ?_
      refine W_reg ?_
      refine T_pu rfl rfl (pu_move rfl) ?_
      refine T_pu rfl rfl (pu_len Try.underlying22 rfl) ?_
      refine T_pu rfl rfl (pu_move rfl) ?_
      refine T_nil ?_
      refine W_block ?_
      refine W_loop (σ := Nat) (fun y => [(5, .slice (some ⟨g, 0, none⟩) m cg), (6, .int .i64 0), (20, .slice (some ⟨g, 0, none⟩) m cg), (21, .int .i64 m), (22, .int .i64 i), (8, .slice (some ⟨b, 0, none⟩) m cc), (27, .int .i64 m), (28, .int .i64 y)]) (fun y w' => y ≤ m ∧ St no w [aMat (.slice (some ⟨g, 0, none⟩) m cg) hds ((mixM (hlv T) T i).set i (mixL ((rr T i).map half) (rr T i) y))] w') (fun y => m - y) 0 ?_ ?_ ?_
      · exact .cons rfl (.cons rfl (.cons rfl (.cons rfl (.cons rfl (.cons rfl (.cons rfl (.cons rfl (.nil _))))))))
      · exact ⟨Nat.zero_le _, by rw [mixL_zero, ← hri, set_self_rr (by have := hsq.1; omega)]; exact hs⟩
      repeat clear hs
      rintro y w5 ⟨hyl, hs⟩
      refine W_seq ?_
      refine W_reg ?_
      refine T_pu rfl rfl (pu_lss rfl rfl) ?_
      refine T_nil ?_
      refine W_seq ?_
      refine W_if rfl (fun hc9 => ?_) (fun hc9 => ?_)
      · refine W_skip ?_
        refine W_seq ?_
        refine W_block ?_
        refine W_seq ?_
        refine W_reg ?_
        refine T_pu rfl rfl (pu_move rfl) ?_
        refine T_pu rfl rfl (pu_assign rfl) ?_
        refine T_nil ?_
        have hrs := rr_set_self (xss := mixM (hlv T) T i) (k := i) (xs := mixL ((rr T i).map half) (rr T i) y) (by have := hsq.1; omega)
        have hmll := mixL_length hrh (x := y) (by omega)
        have hO5 := (hs.mat 0 rfl).row _ _ _ (by rw [← hh, Int.toNat_natCast]) (by rw [List.getElem?_set_self (by have := hsq.1; omega)])
        have hcy := hO5.ri.at0 (i := y) (by omega) (by omega)
        rw [mixL_rd hrh (by omega)] at hcy
        have hbd := hsq.2.2 i y
        unfold rd2 at hbd
        have hbh := half_bd hbd
        refine W_reg ?_
        refine T_pu rfl rfl (pu_move rfl) ?_
        refine T_pu rfl rfl (pu_move rfl) ?_
        refine T_pu rfl rfl ((by first | exact pu_ix1 Try.underlying22 ty2 rfl rfl (by omega) (by omega) | exact pu_index Try.underlying22 ty2 rfl rfl (by omega) (by omega))) ?_
        refine T_pi rfl rfl (pi_load Try.underlying2 rfl rfl (fun w' h => by obtain rfl := h; exact (by first | exact hcy))) ?_
        refine T_pu rfl rfl (pu_quo64 rfl rfl (by omega) (by omega)) ?_
        refine T_pu rfl rfl ((by first | exact pu_ix1 Try.underlying22 ty2 rfl rfl (by omega) (by omega) | exact pu_index Try.underlying22 ty2 rfl rfl (by omega) (by omega))) ?_
        refine T_goN rfl (st_storeM hs 0 rfl i (by omega) (by have := hsq.1; rw [List.length_set]; omega) hh ty2 rfl rfl (by omega) (by omega) fun w6 hk6 hs => ?_)
        rw [set2_set (by have := hsq.1; omega), Int.toNat_natCast, show (rd (rr T i) y).tdiv 2 = rd ((rr T i).map half) y from (map_rd (f := half) (xs := rr T i) (i := y) (by omega)).symm, mixL_set hrh (by omega)] at hs
        simp only [List.set_cons_zero] at hs
        refine T_nil ?_
        refine W_reg ?_
        refine T_pu rfl rfl (pu_add64 rfl rfl (by omega)) ?_
        refine T_pu rfl rfl (pu_move rfl) ?_
        refine T_nil ?_
        exact ⟨y + 1, .cons rfl (.cons rfl (.cons rfl (.cons rfl (.cons rfl (.cons rfl (.cons rfl (.cons rfl (.nil _)))))))), ⟨by omega, hs⟩, by omega⟩
      · refine W_exit rfl ?_
        obtain rfl : y = m := by omega
        rw [show mixL ((rr T i).map half) (rr T i) y = (rr T i).map half by rw [← hrl]; exact mixL_all hrh, hst] at hs
        refine W_reg ?_
        refine T_pu rfl rfl (pu_add64 rfl rfl (by omega)) ?_
        refine T_pu rfl rfl (pu_move rfl) ?_
        refine T_nil ?_
        exact ⟨i + 1, .cons rfl (.cons rfl (.cons rfl (.cons rfl (.cons rfl (.nil _))))), ⟨by omega, hs⟩, by omega⟩
    · refine W_exit rfl ?_
      refine W_seq ?_
      refine W_reg ?_
      refine T_pu rfl rfl (pu_move rfl) ?_
      refine T_pu rfl rfl (pu_move rfl) ?_
      refine T_pu rfl rfl (pu_assign rfl) ?_
      refine T_pu rfl rfl (pu_assign rfl) ?_
      refine T_nil ?_
      refine W_ret ?_
      obtain rfl : i = m := by omega
      rw [show mixM (hlv T) T i = hlv T by rw [← hsq.1]; exact mixM_all hlh] at hs
      exact Res_2 rfl rfl rfl ⟨_, rfl, hs.isNewM 0 rfl⟩
end Go.Proofs.Ytdpbfdjpeofbmaa.L
