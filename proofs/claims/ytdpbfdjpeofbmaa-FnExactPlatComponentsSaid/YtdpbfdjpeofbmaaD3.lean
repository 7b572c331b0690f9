/- The reference's table of crossings; its linking numbers; the law of the linking numbers. -/
import Derived.Test.YtdpbfdjpeofbmaaD2
namespace Go.Proofs.Ytdpbfdjpeofbmaa.L
set_option linter.unusedVariables false
set_option maxRecDepth 100000

def flat8 (T : List (List Int)) : List Int := (List.range 64).map fun i : Nat => rd2 T ((i / 8 : Nat) : Int) ((i % 8 : Nat) : Int)
theorem flat8_length (T : List (List Int)) : (flat8 T).length = 64 := by simp [flat8]
theorem rd2_toNat (T : List (List Int)) (x y : Int) : rd2 T x.toNat y.toNat = rd2 T x y := by unfold rd2 rd rr; rw [Int.toNat_natCast, Int.toNat_natCast]
theorem flat8_rd {T : List (List Int)} {x y : Int} (hx : 0 ≤ x ∧ x < 8) (hy : 0 ≤ y ∧ y < 8) : rd (flat8 T) (x * (8 : Nat) + y) = rd2 T x y := by
  have h1 : (x * (8 : Nat) + y).toNat = x.toNat * 8 + y.toNat := by omega
  have h2 : x.toNat * 8 + y.toNat < 64 := by omega
  unfold rd flat8
  rw [h1, List.getD_eq_getElem?_getD, List.getElem?_map, List.getElem?_range h2]
  simp only [Option.map_some, Option.getD_some]
  rw [show (x.toNat * 8 + y.toNat) / 8 = x.toNat by omega, show (x.toNat * 8 + y.toNat) % 8 = y.toNat by omega, rd2_toNat]
theorem flat8_set {n : Nat} {B : Int} {T : List (List Int)} (hT : Sq n B T) (hn : n ≤ 8) {x y v : Int} (hx : 0 ≤ x ∧ x < n) (hy : 0 ≤ y ∧ y < n) : (flat8 T).set (x.toNat * 8 + y.toNat) v = flat8 (set2 T x y v) := by
  refine List.ext_getElem? fun i => ?_
  rw [List.getElem?_set, flat8_length]
  have hr := hT.2.1 x hx.1 hx.2
  have hl := hT.1
  by_cases hi : i < 64
  · have e : (flat8 (set2 T x y v))[i]? = some (rd2 (set2 T x y v) ((i / 8 : Nat) : Int) ((i % 8 : Nat) : Int)) := by unfold flat8; rw [List.getElem?_map, List.getElem?_range hi]; rfl
    have e2 : (flat8 T)[i]? = some (rd2 T ((i / 8 : Nat) : Int) ((i % 8 : Nat) : Int)) := by unfold flat8; rw [List.getElem?_map, List.getElem?_range hi]; rfl
    rw [e, e2, rd2_set2]
    by_cases h : x.toNat * 8 + y.toNat = i
    · rw [if_pos h, if_pos (by omega), if_pos ⟨⟨by omega, by omega⟩, by omega, by omega⟩]
    · rw [if_neg h, if_neg (fun h' => h (by omega))]
  · rw [List.getElem?_eq_none (by rw [flat8_length]; omega), List.getElem?_eq_none (by rw [flat8_length]; omega)]
    split <;> (try rfl)
    split <;> (try rfl)
    omega
theorem flat8_zero (n : Nat) : flat8 (List.replicate n (List.replicate n 0)) = List.replicate 64 0 := by
  have h : ∀ i j : Int, rd2 (List.replicate n (List.replicate n 0)) i j = 0 := fun i j => by
    unfold rd2 rr rd
    simp only [List.getD_eq_getElem?_getD, List.getElem?_replicate]
    split
    · simp only [Option.getD_some, List.getElem?_replicate]; split <;> rfl
    · simp
  unfold flat8
  simp only [h]
  rfl
set_option maxHeartbeats 8000000 in
theorem l01Crossings_ok (n : Nat) (hn : 1 ≤ n ∧ n ≤ 8) (v : Value) (xs : List Int) (w : World) (hv : RI w v xs) (hl : xs.length ≤ 200) (hL : ∀ l ∈ xs, Lt n l) :
    CallsR Try.prog 81 #[.int .i64 n, v] w fun r w' => r = .agg (nums .i64 (flat8 (crsF n xs xs.length))).toArray ∧ Kp no w w' := by
  obtain ⟨A, c, rfl, hc⟩ := hv.open
  have hs := St.start w
  refine fn_calls Try.func81 rfl rfl rfl ?_
  refine W_seq ?_
  refine W_reg ?_
  refine T_go rfl rfl (st_allocS hs ty74 fun w1 b1 hk1 hb1 hs => ?_)
  refine T_nil ?_
  refine W_seq ?_
  refine W_reg ?_
  refine T_pu rfl rfl (pu_build (v := .agg (nums .i64 (List.replicate 64 0)).toArray) (vs := []) (parts := []) rfl (fun _ => by kernel_rfl)) ?_
  refine T_pu rfl rfl (pu_move rfl) ?_
  refine T_go rfl rfl (st_call fn143 rfl ((l01Strands_ok n hn _ [] _ (ri_nil _) (by simp) (fun l h => by simp at h)).mono ?_))
  rintro v w2 ⟨rfl, hk2⟩
  have hs := hs.next hk2
  refine T_go rfl rfl (st_allocS hs ty74 fun w3 b3 hk3 hb3 hs => ?_)
  refine T_go rfl rfl (st_allocS hs ty107 fun w4 b4 hk4 hb4 hs => ?_)
  refine T_goN rfl (st_storeW hs 1 rfl ty74 rfl rfl (by first | rfl | (simp; done) | assumption) (by first | rfl | (simp; done) | assumption) fun w5 hk5 hs => ?_)
  refine T_goN rfl (st_storeW hs 0 rfl ty107 rfl rfl (pad_length (by rw [(strF_ok (ls := []) (n := n) (fun l h => by simp at h)).1]; omega)) (by first | rfl | (simp; done) | assumption) fun w6 hk6 hs => ?_)
  refine T_nil ?_
  refine W_seq ?_
  refine W_seq ?_
  refine W_reg ?_
  refine T_pu rfl rfl (pu_assign rfl) ?_
  refine T_nil ?_
  refine W_block ?_
  refine W_loop (σ := Nat) (fun k => [(1, .slice A xs.length c), (4, .pointer (some ⟨b1, 0, none⟩)), (5, .pointer (some ⟨b3, 0, none⟩)), (6, .pointer (some ⟨b4, 0, none⟩)), (7, .int .i64 k)]) (fun k w' => k ≤ xs.length ∧ ∃ cs, cs.length = 64 ∧ St no w [aBk b4 107 (nums .u8 (pad 8 (strF n (xs.take k)))), aBk b3 74 (nums .i64 (flat8 (crsF n xs k))), aBk b1 74 cs] w') (fun k => xs.length - k) 0 ?_ ?_ ?_
  · exact .cons rfl (.cons rfl (.cons rfl (.cons rfl (.cons rfl (.nil _)))))
  · rw [show crsF n xs 0 = List.replicate n (List.replicate n 0) from rfl, flat8_zero]
    exact ⟨Nat.zero_le _, _, by rfl, hs⟩
  repeat clear hs
  rintro k w7 ⟨hkl, cs, hcs, hs⟩
  have hso := strF_okT hL k
  have hpl := pad_length (m := 8) (xs := strF n (xs.take k)) (by omega)
  have hsq := crsF_ok hL k hkl
  have hfl := flat8_length (crsF n xs k)
  refine W_seq ?_
  refine W_seq ?_
  refine W_reg ?_
  refine T_pu rfl rfl (pu_move rfl) ?_
  refine T_pu rfl rfl (pu_move rfl) ?_
  refine T_pu rfl rfl (pu_len Try.underlying22 rfl) ?_
  refine T_pu rfl rfl (pu_lss rfl rfl) ?_
  refine T_nil ?_
  refine W_if rfl (fun hc3 => ?_) (fun hc3 => ?_)
  · refine W_skip ?_
    refine W_seq ?_
    refine W_block ?_
    refine W_seq ?_
    have hv2 := hv.keep hs.kp
    obtain ⟨a, rfl⟩ := hv2.addr (i := k) (by omega) (by omega)
    have hlt := hL _ (rd_mem (i := k) (by omega))
    have hpq := pq_max hlt
    unfold Lt at hlt
    have hcell := hv2.at (i := k) (by omega) (by omega)
    have hstk := strF_take (n := n) (ls := xs) (k := k) (by omega)
    have hck : crsF n xs (k + 1) = cross2 (crsF n xs k) (rd (strF n (xs.take k)) (max (rd xs k) (-rd xs k) - 1)) (rd (strF n (xs.take k)) (max (rd xs k) (-rd xs k))) (rd xs k) := rfl
    refine W_reg ?_
    refine T_pu rfl rfl (pu_move rfl) ?_
    refine T_pu rfl rfl (pu_move rfl) ?_
    refine T_pu rfl rfl ((by first | exact pu_ix1 Try.underlying22 ty2 rfl rfl (by omega) (by omega) | exact pu_index Try.underlying22 ty2 rfl rfl (by omega) (by omega))) ?_
    refine T_pi rfl rfl (pi_load Try.underlying2 rfl rfl (fun w' h => by obtain rfl := h; exact (by first | exact hcell))) ?_
    refine T_pu rfl rfl (pu_assign rfl) ?_
    refine T_pu rfl rfl (pu_assign rfl) ?_
    refine T_nil ?_
    refine W_cut (σ := Unit) (fun _ => [(1, .slice (some a) xs.length c), (4, .pointer (some ⟨b1, 0, none⟩)), (5, .pointer (some ⟨b3, 0, none⟩)), (6, .pointer (some ⟨b4, 0, none⟩)), (7, .int .i64 k), (8, .int .i64 (max (rd xs k) (-rd xs k))), (9, .int .i64 (sgn (rd xs k)))]) (fun _ w' => w7 = w') ?_ ?_
    · refine W_seq ?_
      refine W_reg ?_
      refine T_pu rfl rfl (pu_move rfl) ?_
      refine T_pu rfl rfl (pu_lss rfl rfl) ?_
      refine T_nil ?_
      refine W_if rfl (fun hc6 => ?_) (fun hc6 => ?_)
      · refine W_seq ?_
        refine W_reg ?_
        refine T_pu rfl rfl (pu_move rfl) ?_
        refine T_pu rfl rfl (pu_neg64 rfl (by omega)) ?_
        refine T_pu rfl rfl (pu_assign rfl) ?_
        refine T_nil ?_
        refine W_reg ?_
        refine T_pu rfl rfl (pu_assign rfl) ?_
        refine T_nil ?_
        exact ⟨(), .cons rfl (.cons rfl (.cons rfl (.cons rfl (.cons rfl (.cons (by show some (Value.int .i64 _) = some (Value.int .i64 _); congr 2; omega) (.cons (by show some (Value.int .i64 _) = some (Value.int .i64 (sgn (rd xs k))); congr 2; unfold sgn; split <;> omega) (.nil _))))))), rfl⟩
      · refine W_skip ?_
        exact ⟨(), .cons rfl (.cons rfl (.cons rfl (.cons rfl (.cons rfl (.cons (by show some (Value.int .i64 _) = some (Value.int .i64 _); congr 2; omega) (.cons (by show some (Value.int .i64 _) = some (Value.int .i64 (sgn (rd xs k))); congr 2; unfold sgn; split <;> omega) (.nil _))))))), rfl⟩
    · rintro _ _ rfl
      obtain ⟨m, hm⟩ : ∃ m, m = max (rd xs k) (-rd xs k) := ⟨_, rfl⟩
      rw [← hm] at hpq hstk hck ⊢
      clear hm
      have hsg := sgn_cases (rd xs k)
      have hrx := hso.2.rd (i := m - 1) (by omega) (by omega)
      have hry := hso.2.rd (i := m) (by omega) (by omega)
      refine W_seq ?_
      refine W_draw mixed 1000 I0 (fun w8 hk8 => ?_)
      have hs := hs.next hk8
      have hc1 := (hs.bk 0 rfl).at1 (i := m - 1) (by omega) (by omega)
      have hc2 := (hs.bk 0 rfl).at1 (i := m) (by omega) (by omega)
      rw [pad_rd] at hc1 hc2
      refine D_pu 0 (by kernel_rfl) rfl (by kernel_rfl) (by kernel_rfl) rfl rfl (by kernel_rfl) (Pu.stable (pu_move rfl)) ?_
      refine D_pu 1 (by kernel_rfl) rfl (by kernel_rfl) (by kernel_rfl) rfl rfl (by kernel_rfl) (Pu.stable (pu_sub64 rfl rfl (by omega))) ?_
      refine D_pu 2 (by kernel_rfl) rfl (by kernel_rfl) (by kernel_rfl) rfl rfl (by kernel_rfl) (Pu.stable (pu_ixA Try.underlying107 ty5 rfl rfl (by omega) (by omega))) ?_
      refine D_pu 3 (by kernel_rfl) rfl (by kernel_rfl) (by kernel_rfl) rfl rfl (by kernel_rfl) (pi_load Try.underlying5 rfl rfl (fun w' h => by obtain ⟨_, rfl⟩ := h; exact (by first | exact hc1 | exact hc2))) ?_
      refine D_pu 4 (by kernel_rfl) rfl (by kernel_rfl) (by kernel_rfl) rfl rfl (by kernel_rfl) (Pu.stable (pu_move rfl)) ?_
      refine D_pu 5 (by kernel_rfl) rfl (by kernel_rfl) (by kernel_rfl) rfl rfl (by kernel_rfl) (Pu.stable (pu_ixA Try.underlying107 ty5 rfl rfl (by omega) (by omega))) ?_
      refine D_pu 6 (by kernel_rfl) rfl (by kernel_rfl) (by kernel_rfl) rfl rfl (by kernel_rfl) (pi_load Try.underlying5 rfl rfl (fun w' h => by obtain ⟨_, rfl⟩ := h; exact (by first | exact hc1 | exact hc2))) ?_
      refine D_pu 7 (by kernel_rfl) rfl (by kernel_rfl) (by kernel_rfl) rfl rfl (by kernel_rfl) (Pu.stable (pu_assign rfl)) ?_
      refine D_pu 8 (by kernel_rfl) rfl (by kernel_rfl) (by kernel_rfl) rfl rfl (by kernel_rfl) (Pu.stable (pu_assign rfl)) ?_
      refine D_done (by kernel_rfl) (by first | rfl | (intro _; rfl) | (intro h; exact absurd (show true = false from h) (by decide)) | exact Kp.refl _ _ | assumption) ?_
      obtain ⟨x, hx⟩ : ∃ x, x = rd (strF n (xs.take k)) (m - 1) := ⟨_, rfl⟩
      obtain ⟨y, hy⟩ : ∃ y, y = rd (strF n (xs.take k)) m := ⟨_, rfl⟩
      unfold swp at hstk
      rw [← hx, ← hy] at hstk hck
      rw [← hx] at hrx ⊢
      rw [← hy] at hry ⊢
      have hb1 := hsq.2.2 x y
      have hT2 : Sq n (2 * k + 1) (add2 (crsF n xs k) x y (sgn (rd xs k))) := hsq.add2 hrx.1 hrx.2
      have hb2 := hT2.2.2 y x
      refine W_seq ?_
      refine W_draw mixed 11 IS (fun w9 hk9 => ?_)
      have hs := hs.next hk9
      obtain ⟨z, hz, hcz⟩ := (hs.bk 1 rfl).at2x (i := x) (j := y) (m := 8) (by omega) (by omega) (by omega)
      have hz := hz.out
      rw [flat8_rd (by omega) (by omega)] at hz
      subst hz
      refine D_pu 0 (by kernel_rfl) rfl (by kernel_rfl) (by kernel_rfl) rfl rfl (by kernel_rfl) (Pu.stable (pu_move rfl)) ?_
      refine D_pu 1 (by kernel_rfl) rfl (by kernel_rfl) (by kernel_rfl) rfl rfl (by kernel_rfl) (Pu.stable (pu_move rfl)) ?_
      refine D_pu 2 (by kernel_rfl) rfl (by kernel_rfl) (by kernel_rfl) rfl rfl (by kernel_rfl) (Pu.stable (pu_move rfl)) ?_
      refine D_pu 3 (by kernel_rfl) rfl (by kernel_rfl) (by kernel_rfl) rfl rfl (by kernel_rfl) (Pu.stable (pu_move rfl)) ?_
      refine D_pu 4 (by kernel_rfl) rfl (by kernel_rfl) (by kernel_rfl) rfl rfl (by kernel_rfl) (Pu.stable (pu_ixA Try.underlying74 ty73 rfl rfl (by omega) (by omega))) ?_
      refine D_pu 5 (by kernel_rfl) rfl (by kernel_rfl) (by kernel_rfl) rfl rfl (by kernel_rfl) (Pu.stable (pu_ixA Try.underlying73 ty2 rfl rfl (by omega) (by omega))) ?_
      refine D_rd 6 (by kernel_rfl) rfl (by kernel_rfl) (by kernel_rfl) rfl rfl (by kernel_rfl) (by kernel_rfl) (by kernel_rfl) (pi_load Try.underlying2 rfl rfl (fun w' h => by obtain rfl := h rfl; exact (by first | exact hcz))) ?_
      refine D_pu 7 (by kernel_rfl) rfl (by kernel_rfl) (by kernel_rfl) rfl rfl (by kernel_rfl) (Pu.stable (pu_move rfl)) ?_
      refine D_pu 8 (by kernel_rfl) rfl (by kernel_rfl) (by kernel_rfl) rfl rfl (by kernel_rfl) (Pu.stable (pu_add64 rfl rfl (by omega))) ?_
      refine D_pu 9 (by kernel_rfl) rfl (by kernel_rfl) (by kernel_rfl) rfl rfl (by kernel_rfl) (Pu.stable (pu_ixA Try.underlying74 ty73 rfl rfl (by omega) (by omega))) ?_
      refine D_pu 10 (by kernel_rfl) rfl (by kernel_rfl) (by kernel_rfl) rfl rfl (by kernel_rfl) (Pu.stable (pu_ixA Try.underlying73 ty2 rfl rfl (by omega) (by omega))) ?_
      refine D_goN 11 (by kernel_rfl) (by first | rfl | (intro _; rfl) | (intro h; exact absurd (show true = false from h) (by decide)) | exact Kp.refl _ _ | assumption) rfl rfl (st_storeN hs 1 rfl ty2 rfl rfl (x.toNat * 8 + y.toNat) (by omega) (by omega) fun w10 hk10 hs => ?_)
      rw [flat8_set hsq hn.2 (by omega) (by omega)] at hs
      simp only [List.set_cons_zero, List.set_cons_succ] at hs
      have hs : St no w [aBk b4 107 (nums .u8 (pad 8 (strF n (xs.take k)))), aBk b3 74 (nums .i64 (flat8 (add2 (crsF n xs k) x y (sgn (rd xs k))))), aBk b1 74 cs] w10 := hs
      have hfl2 := flat8_length (add2 (crsF n xs k) x y (sgn (rd xs k)))
      refine D_done (by kernel_rfl) (by first | rfl | (intro _; rfl) | (intro h; exact absurd (show true = false from h) (by decide)) | exact Kp.refl _ _ | assumption) ?_
      refine W_seq ?_
      refine W_draw mixed 11 IS (fun w11 hk11 => ?_)
      have hs := hs.next hk11
      obtain ⟨z, hz, hcz⟩ := (hs.bk 1 rfl).at2x (i := y) (j := x) (m := 8) (by omega) (by omega) (by omega)
      have hz := hz.out
      rw [flat8_rd (by omega) (by omega)] at hz
      subst hz
      refine D_pu 0 (by kernel_rfl) rfl (by kernel_rfl) (by kernel_rfl) rfl rfl (by kernel_rfl) (Pu.stable (pu_move rfl)) ?_
      refine D_pu 1 (by kernel_rfl) rfl (by kernel_rfl) (by kernel_rfl) rfl rfl (by kernel_rfl) (Pu.stable (pu_move rfl)) ?_
      refine D_pu 2 (by kernel_rfl) rfl (by kernel_rfl) (by kernel_rfl) rfl rfl (by kernel_rfl) (Pu.stable (pu_move rfl)) ?_
      refine D_pu 3 (by kernel_rfl) rfl (by kernel_rfl) (by kernel_rfl) rfl rfl (by kernel_rfl) (Pu.stable (pu_move rfl)) ?_
      refine D_pu 4 (by kernel_rfl) rfl (by kernel_rfl) (by kernel_rfl) rfl rfl (by kernel_rfl) (Pu.stable (pu_ixA Try.underlying74 ty73 rfl rfl (by omega) (by omega))) ?_
      refine D_pu 5 (by kernel_rfl) rfl (by kernel_rfl) (by kernel_rfl) rfl rfl (by kernel_rfl) (Pu.stable (pu_ixA Try.underlying73 ty2 rfl rfl (by omega) (by omega))) ?_
      refine D_rd 6 (by kernel_rfl) rfl (by kernel_rfl) (by kernel_rfl) rfl rfl (by kernel_rfl) (by kernel_rfl) (by kernel_rfl) (pi_load Try.underlying2 rfl rfl (fun w' h => by obtain rfl := h rfl; exact (by first | exact hcz))) ?_
      refine D_pu 7 (by kernel_rfl) rfl (by kernel_rfl) (by kernel_rfl) rfl rfl (by kernel_rfl) (Pu.stable (pu_move rfl)) ?_
      refine D_pu 8 (by kernel_rfl) rfl (by kernel_rfl) (by kernel_rfl) rfl rfl (by kernel_rfl) (Pu.stable (pu_add64 rfl rfl (by omega))) ?_
      refine D_pu 9 (by kernel_rfl) rfl (by kernel_rfl) (by kernel_rfl) rfl rfl (by kernel_rfl) (Pu.stable (pu_ixA Try.underlying74 ty73 rfl rfl (by omega) (by omega))) ?_
      refine D_pu 10 (by kernel_rfl) rfl (by kernel_rfl) (by kernel_rfl) rfl rfl (by kernel_rfl) (Pu.stable (pu_ixA Try.underlying73 ty2 rfl rfl (by omega) (by omega))) ?_
      refine D_goN 11 (by kernel_rfl) (by first | rfl | (intro _; rfl) | (intro h; exact absurd (show true = false from h) (by decide)) | exact Kp.refl _ _ | assumption) rfl rfl (st_storeN hs 1 rfl ty2 rfl rfl (y.toNat * 8 + x.toNat) (by omega) (by omega) fun w12 hk12 hs => ?_)
      rw [flat8_set hT2 hn.2 (by omega) (by omega)] at hs
      simp only [List.set_cons_zero, List.set_cons_succ] at hs
      refine D_done (by kernel_rfl) (by first | rfl | (intro _; rfl) | (intro h; exact absurd (show true = false from h) (by decide)) | exact Kp.refl _ _ | assumption) ?_
      refine W_seq ?_
      refine W_reg ?_
      refine T_pu rfl rfl (pu_move rfl) ?_
      refine T_pu rfl rfl (pu_sub64 rfl rfl (by omega)) ?_
      refine T_pu rfl rfl (pu_move rfl) ?_
      refine T_pu rfl rfl (pu_ixA Try.underlying107 ty5 rfl rfl (by omega) (by omega)) ?_
      refine T_goN rfl (st_storeN hs 0 rfl ty5 rfl rfl (m - 1).toNat (by omega) (by first | omega | (simp; omega)) fun w13 hk13 hs => ?_)
      simp only [List.set_cons_zero] at hs
      refine T_nil ?_
      refine W_reg ?_
      refine T_pu rfl rfl (pu_move rfl) ?_
      refine T_pu rfl rfl (pu_move rfl) ?_
      refine T_pu rfl rfl (pu_ixA Try.underlying107 ty5 rfl rfl (by omega) (by omega)) ?_
      refine T_goN rfl (st_storeN hs 0 rfl ty5 rfl rfl m.toNat (by omega) (by first | omega | (simp; omega)) fun w14 hk14 hs => ?_)
      simp only [List.set_cons_zero] at hs
      rw [pad_set (by omega), pad_set (by rw [List.length_set]; omega), ← hstk] at hs
      have hs : St no w [aBk b4 107 (nums .u8 (pad 8 (strF n (xs.take (k + 1))))), aBk b3 74 (nums .i64 (flat8 (crsF n xs (k + 1)))), aBk b1 74 cs] w14 := by rw [hck]; exact hs
      refine T_nil ?_
      refine W_reg ?_
      refine T_pu rfl rfl (pu_move rfl) ?_
      refine T_pu rfl rfl (pu_add64 rfl rfl (by omega)) ?_
      refine T_pu rfl rfl (pu_assign rfl) ?_
      refine T_nil ?_
      exact ⟨k + 1, .cons rfl (.cons rfl (.cons rfl (.cons rfl (.cons rfl (.nil _))))), ⟨by omega, cs, hcs, hs⟩, by omega⟩
  · refine W_exit rfl ?_
    refine W_seq ?_
    refine W_reg ?_
    refine T_pi rfl rfl (pi_loadAgg Try.underlying74 rfl ty74 rfl (fun w' h => by obtain rfl := h; exact (by first | exact (hs.bk 1 rfl).cells)) (by first | rfl | (simp; done) | (rw [nums_length]; assumption) | assumption)) ?_
    refine T_goN rfl (st_storeW hs 2 rfl ty74 rfl rfl (by first | rfl | (simp; done) | assumption) (by first | rfl | (simp; done) | assumption) fun w10 hk10 hs => ?_)
    refine T_nil ?_
    refine W_ret ?_
    obtain rfl : k = xs.length := by omega
    refine Res_r1 rfl (rv_cell Try.underlying74 rfl ty74 rfl (hs.bk 2 rfl) (by rw [nums_length, hfl])) ⟨rfl, hs.kp⟩

theorem take_rr {T : List (List Int)} {x : Nat} (h : x < T.length) : T.take (x + 1) = T.take x ++ [rr T x] := by
  have hm := rr_get (xss := T) (i := (x : Int)) (by omega) (by omega)
  rw [Int.toNat_natCast] at hm
  rw [List.take_add_one, hm]
  rfl
set_option maxHeartbeats 8000000 in
theorem specLinkings_ok (n : Int) (v : Value) (xs : List Int) (w : World) (hv : RI w v xs) (hl : xs.length ≤ 9223372036854775807) (hw : ∀ x ∈ xs, -9223372036854775808 ≤ x ∧ x ≤ 9223372036854775807) :
    CallsR Try.prog 26 #[.agg #[.int .i64 n, v]] w fun r w' => ∃ u, r = .tuple #[u, .int .i64 (linkR n xs).2] ∧ NewM w w' u (linkR n xs).1 := by
  obtain ⟨A, c, rfl, hc⟩ := hv.open
  have hs := St.start w
  refine fn_calls Try.func26 rfl rfl rfl ?_
  refine W_seq ?_
  refine W_reg ?_
  refine T_go rfl rfl (st_boxS hs rfl fun w1 b1 hk1 hb1 hs => ?_)
  refine T_pu rfl rfl (pu_assign rfl) ?_
  refine T_pu rfl rfl (pu_assign rfl) ?_
  refine T_nil ?_
  refine W_seq ?_
  refine W_seq ?_
  refine W_reg ?_
  refine T_pi rfl rfl (pi_loadAgg Try.underlying28 rfl ty28 rfl (fun w' h => by obtain rfl := h; exact (by first | exact (hs.bk 0 rfl).cells)) (by first | rfl | (simp; done) | (rw [nums_length]; assumption) | assumption)) ?_
  refine T_go rfl rfl (st_call fn80 rfl ((l10Pure_ok n _ xs _ (hv.keep hs.kp) hl hw).mono ?_))
  rintro v w2 ⟨rfl, hk2⟩
  have hs := hs.next hk2
  refine T_pu rfl rfl (pu_assign rfl) ?_
  refine T_nil ?_
  refine W_seq ?_
  refine W_reg ?_
  refine T_pu rfl rfl (pu_move rfl) ?_
  refine T_pu rfl rfl (pu_neq rfl rfl) ?_
  refine T_nil ?_
  refine W_if rfl (fun hc2 => ?_) (fun hc2 => ?_)
  · refine W_seq ?_
    refine W_reg ?_
    refine T_pu rfl rfl (pu_move rfl) ?_
    refine T_pu rfl rfl (pu_assign rfl) ?_
    refine T_pu rfl rfl (pu_assign rfl) ?_
    refine T_nil ?_
    refine W_ret ?_
    have e : linkR n xs = ([], pureF n xs) := by unfold linkR; rw [if_pos hc2]
    rw [e]
    exact Res_2 rfl rfl rfl ⟨_, rfl, newM_none hs.kp⟩
  · refine W_skip ?_
    refine W_seq ?_
    have hBr := pureF_br (Decidable.not_not.1 hc2)
    obtain ⟨m, rfl⟩ : ∃ m : Nat, n = m := ⟨n.toNat, by have := hBr.1; omega⟩
    have hm : 1 ≤ m ∧ m ≤ 8 := by have := hBr.1; omega
    have e : linkR m xs = (hlv (crsF m xs xs.length), 0) := by unfold linkR; rw [if_neg hc2, Int.toNat_natCast]
    have hl200 := hBr.2.1
    have hic := fun w hv => l01Crossings_ok m hm (.slice A xs.length c) xs w hv hl200 hBr.2.2
    rw [e]
    have hsq := crsF_ok hBr.2.2 xs.length (Nat.le_refl _)
    generalize crsF m xs xs.length = T at hsq hic
    have hlh : (hlv T).length = T.length := by simp [hlv]
    have hfl := flat8_length T
    have hTl := hsq.1
    refine W_reg ?_
    refine T_pu rfl rfl (pu_fld (off := 0) Try.underlying28 rfl rfl ty2 rfl rfl) ?_
    refine T_pi rfl rfl (pi_load Try.underlying2 rfl rfl (fun w' h => by obtain rfl := h; exact (by first | exact (hs.bk 0 rfl).cell rfl))) ?_
    refine T_pu rfl rfl (pu_fld (off := 1) Try.underlying28 rfl rfl ty22 rfl rfl) ?_
    refine T_pi rfl rfl (pi_load Try.underlying22 rfl rfl (fun w' h => by obtain rfl := h; exact (by first | exact (hs.bk 0 rfl).cell rfl))) ?_
    refine T_go rfl rfl (st_call fn81 rfl ((hic _ (hv.keep hs.kp)).mono ?_))
    rintro v w3 ⟨rfl, hk3⟩
    have hs := hs.next hk3
    refine T_go rfl rfl (st_litM hs (fun _ => by kernel_rfl) fun w4 b4 hk4 hb4 hs => ?_)
    refine T_go rfl rfl (st_allocS hs ty74 fun w5 b5 hk5 hb5 hs => ?_)
    refine T_goN rfl (st_storeW hs 0 rfl ty74 rfl rfl (by first | rfl | (simp; done) | assumption) (by first | rfl | (simp; done) | assumption) fun w6 hk6 hs => ?_)
    have hs := hs.front 1 rfl
    refine T_pu rfl rfl (pu_assign rfl) ?_
    refine T_nil ?_
    refine W_seq ?_
    refine W_seq ?_
    refine W_reg ?_
    refine T_pu rfl rfl (pu_assign rfl) ?_
    refine T_nil ?_
    refine W_block ?_
    refine W_loop (σ := Nat × Value) (fun s => [(1, .pointer (some ⟨b1, 0, none⟩)), (5, .pointer (some ⟨b5, 0, none⟩)), (6, s.2), (7, .int .i64 s.1)]) (fun s w' => s.1 ≤ m ∧ ∃ hds, St no w [aMat s.2 hds ((hlv T).take s.1), aBk b5 74 (nums .i64 (flat8 T)), aBk b1 28 [.int .i64 m, .slice A xs.length c]] w') (fun s => m - s.1) (0, .slice (some ⟨b4, 0, none⟩) 0 0) ?_ ?_ ?_
    · exact .cons rfl (.cons rfl (.cons rfl (.cons rfl (.nil _))))
    · exact ⟨Nat.zero_le _, [], hs⟩
    repeat clear hs
    rintro ⟨x, u⟩ w7 ⟨hxm, hds, hs⟩
    dsimp only at hxm hs ⊢
    refine W_seq ?_
    refine W_seq ?_
    refine W_reg ?_
    refine T_pu rfl rfl (pu_move rfl) ?_
    refine T_pu rfl rfl (pu_fld (off := 0) Try.underlying28 rfl rfl ty2 rfl rfl) ?_
    refine T_pi rfl rfl (pi_load Try.underlying2 rfl rfl (fun w' h => by obtain rfl := h; exact (by first | exact (hs.bk 2 rfl).cell rfl))) ?_
    refine T_pu rfl rfl (pu_lss rfl rfl) ?_
    refine T_nil ?_
    refine W_if rfl (fun hc6 => ?_) (fun hc6 => ?_)
    · refine W_skip ?_
      refine W_seq ?_
      refine W_block ?_
      refine W_seq ?_
      refine W_reg ?_
      refine T_go rfl rfl (st_litI hs [] rfl (fun _ => by kernel_rfl) rfl rfl fun w8 b8 hk8 hb8 hs => ?_)
      have hrl := hsq.2.1 x (by omega) (by omega)
      refine T_pu rfl rfl (pu_assign rfl) ?_
      refine T_nil ?_
      refine W_seq ?_
      refine W_seq ?_
      refine W_reg ?_
      refine T_pu rfl rfl (pu_assign rfl) ?_
      refine T_nil ?_
      refine W_block ?_
      refine W_loop (σ := Nat × Value) (fun s => [(1, .pointer (some ⟨b1, 0, none⟩)), (5, .pointer (some ⟨b5, 0, none⟩)), (6, u), (7, .int .i64 x), (8, s.2), (9, .int .i64 s.1)]) (fun s w' => s.1 ≤ m ∧ St no w [aOI s.2 (((rr T x).map half).take s.1), aMat u hds ((hlv T).take x), aBk b5 74 (nums .i64 (flat8 T)), aBk b1 28 [.int .i64 m, .slice A xs.length c]] w') (fun s => m - s.1) (0, .slice (some ⟨b8, 0, none⟩) 0 0) ?_ ?_ ?_
      · exact .cons rfl (.cons rfl (.cons rfl (.cons rfl (.cons rfl (.cons rfl (.nil _))))))
      · exact ⟨Nat.zero_le _, hs⟩
      repeat clear hs
      rintro ⟨y, q⟩ w9 ⟨hym, hs⟩
      dsimp only at hym hs ⊢
      refine W_seq ?_
      refine W_seq ?_
      refine W_reg ?_
      refine T_pu rfl rfl (pu_move rfl) ?_
      refine T_pu rfl rfl (pu_fld (off := 0) Try.underlying28 rfl rfl ty2 rfl rfl) ?_
      refine T_pi rfl rfl (pi_load Try.underlying2 rfl rfl (fun w' h => by obtain rfl := h; exact (by first | exact (hs.bk 3 rfl).cell rfl))) ?_
      refine T_pu rfl rfl (pu_lss rfl rfl) ?_
      refine T_nil ?_
      refine W_if rfl (fun hc10 => ?_) (fun hc10 => ?_)
      · refine W_skip ?_
        refine W_seq ?_
        refine W_block ?_
        obtain ⟨z, hz, hcz⟩ := (hs.bk 2 rfl).at2x (i := x) (j := y) (m := 8) (by omega) (by omega) (by omega)
        have hz := hz.out
        rw [flat8_rd (by omega) (by omega)] at hz
        subst hz
        have hbd := hsq.2.2 x y
        have hbh := half_bd hbd
        refine W_reg ?_
        refine T_pu rfl rfl (pu_move rfl) ?_
        refine T_pu rfl rfl (pu_move rfl) ?_
        refine T_pu rfl rfl (pu_move rfl) ?_
        refine T_pu rfl rfl (pu_ixA Try.underlying74 ty73 rfl rfl (by omega) (by omega)) ?_
        refine T_pu rfl rfl (pu_ixA Try.underlying73 ty2 rfl rfl (by omega) (by omega)) ?_
        refine T_pi rfl rfl (pi_load Try.underlying2 rfl rfl (fun w' h => by obtain rfl := h; exact (by first | exact hcz))) ?_
        refine T_pu rfl rfl (pu_quo64 rfl rfl (by omega) (by omega)) ?_
        refine T_go rfl rfl (st_litI hs [(rd2 T x y).tdiv 2] rfl (fun _ => by kernel_rfl) rfl rfl fun w10 b10 hk10 hb10 hs => ?_)
        refine T_go rfl rfl (st_appendI hs 1 rfl Try.underlying22 ty2 rfl rfl ((hs.oi 0 rfl).ri) (by simp; omega) fun q' w11 hs hk11 hf11 => ?_)
        have hs := hs.tail
        rw [show [(rd2 T x y).tdiv 2] = [rd ((rr T x).map half) y] by rw [map_rd (by omega)]; rfl, ← take_rd (by rw [List.length_map]; omega)] at hs
        refine T_pu rfl rfl (pu_assign rfl) ?_
        refine T_nil ?_
        refine W_reg ?_
        refine T_pu rfl rfl (pu_move rfl) ?_
        refine T_pu rfl rfl (pu_add64 rfl rfl (by omega)) ?_
        refine T_pu rfl rfl (pu_assign rfl) ?_
        refine T_nil ?_
        exact ⟨(y + 1, q'), .cons rfl (.cons rfl (.cons rfl (.cons rfl (.cons rfl (.cons rfl (.nil _)))))), ⟨by show y + 1 ≤ m; omega, hs⟩, by show m - (y + 1) < m - y; omega⟩
      · refine W_exit rfl ?_
        obtain rfl : y = m := by omega
        rw [List.take_of_length_le (by rw [List.length_map]; omega), ← hlv_rr (by omega)] at hs
        obtain ⟨B, cB, rfl, _⟩ := (hs.oi 0 rfl).ri.open
        have hs := hs.front 1 rfl
        refine W_reg ?_
        refine T_pu rfl rfl (pu_move rfl) ?_
        refine T_pu rfl rfl (pu_move rfl) ?_
        refine T_go rfl rfl (st_litR hs rfl (fun _ => by kernel_rfl) fun w12 b12 hk12 hb12 hs hU => ?_)
        refine T_go rfl rfl (st_appendM (by' := 0) hs Try.underlying32 ty22 rfl rfl hU rfl (by rw [List.length_take]; omega) fun u' w13 hs hk13 hf13 => ?_)
        rw [← take_rr (by omega)] at hs
        refine T_pu rfl rfl (pu_assign rfl) ?_
        refine T_nil ?_
        refine W_reg ?_
        refine T_pu rfl rfl (pu_move rfl) ?_
        refine T_pu rfl rfl (pu_add64 rfl rfl (by omega)) ?_
        refine T_pu rfl rfl (pu_assign rfl) ?_
        refine T_nil ?_
        exact ⟨(x + 1, u'), .cons rfl (.cons rfl (.cons rfl (.cons rfl (.nil _)))), ⟨by show x + 1 ≤ _; omega, _, hs⟩, by show _ - (x + 1) < _ - x; omega⟩
    · refine W_exit rfl ?_
      refine W_seq ?_
      refine W_reg ?_
      refine T_pu rfl rfl (pu_move rfl) ?_
      refine T_pu rfl rfl (pu_assign rfl) ?_
      refine T_pu rfl rfl (pu_assign rfl) ?_
      refine T_nil ?_
      refine W_ret ?_
      obtain rfl : x = m := by omega
      rw [List.take_of_length_le (by omega)] at hs
      exact Res_2 rfl rfl rfl ⟨_, rfl, hs.isNewM 0 rfl⟩
end Go.Proofs.Ytdpbfdjpeofbmaa.L
