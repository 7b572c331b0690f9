/- Burau's matrices over the field; the law BurauModulo. -/
import Derived.Test.YtdpbfdjpeofbmaaE6
namespace Go.Proofs.Ytdpbfdjpeofbmaa.L
set_option linter.unusedVariables false
set_option maxRecDepth 100000

def burM (n : Nat) (t k : Int) : List (List Int) := set2 (set2 (set2 (set2 (idM n) (k - 1) (k - 1) ((1 - t) % 10007)) (k - 1) k t) k (k - 1) 1) k k 0
theorem idM_fmat (n : Nat) : idM n = fmat n fun i j => if i = j then 1 else 0 := by
  unfold idM fmat
  refine List.map_congr_left fun i hi => ?_
  have hi : i < n := by simpa using hi
  unfold unitAt
  refine List.ext_getElem? fun j => ?_
  rw [List.getElem?_set, List.length_replicate]
  by_cases hj : j < n
  · by_cases h : i = j
    · subst h; simp [hi]
    · rw [if_neg h]; simp [hj, h]
  · rw [List.getElem?_eq_none (l := List.replicate n (0 : Int)) (by simp; omega), List.getElem?_eq_none (by simp; omega)]
    rw [if_neg (by omega)]
def burF (t : Int) (k : Nat) : Nat → Nat → Int := updF (updF (updF (updF (fun i j => if i = j then 1 else 0) (k - 1) (k - 1) ((1 - t) % 10007)) (k - 1) k t) k (k - 1) 1) k k 0
theorem burM_fmat {n k : Nat} (h0 : 1 ≤ k) (h1 : k < n) (t : Int) : burM n t k = fmat n (burF t k) := by
  unfold burM burF
  rw [idM_fmat, show (k : Int) - 1 = ((k - 1 : Nat) : Int) by omega]
  rw [fmat_set (by omega) (by omega), fmat_set (by omega) (by omega), fmat_set (by omega) (by omega), fmat_set (by omega) (by omega)]
theorem burF_row {t : Int} {k i j : Nat} (h0 : 1 ≤ k) : burF t k i j = if i = k then (if j = k - 1 then 1 else 0) else if i = k - 1 then (if j = k then t else if j = k - 1 then (1 - t) % 10007 else 0) else if i = j then 1 else 0 := by
  simp only [burF, updF]
  by_cases a : i = k
  · subst a
    rw [if_pos rfl]
    by_cases b : j = i - 1
    · subst b
      rw [if_neg (by omega), if_pos ⟨rfl, rfl⟩, if_pos rfl]
    · rw [if_neg b]
      by_cases c : j = i
      · rw [if_pos ⟨rfl, c⟩]
      · rw [if_neg (fun h => c h.2), if_neg (fun h => b h.2), if_neg (by omega), if_neg (by omega), if_neg (by omega)]
  · rw [if_neg a, if_neg (fun h => a h.1), if_neg (fun h => a h.1)]
    by_cases b : i = k - 1
    · rw [if_pos b]
      by_cases c : j = k
      · rw [if_pos ⟨b, c⟩, if_pos c]
      · rw [if_neg (fun h => c h.2), if_neg c]
        by_cases e : j = k - 1
        · rw [if_pos ⟨b, e⟩, if_pos e]
        · rw [if_neg (fun h => e h.2), if_neg e, if_neg (by omega)]
    · rw [if_neg b, if_neg (fun h => b h.1), if_neg (fun h => b h.1)]
theorem rd2_fmat {m : Nat} {f : Nat → Nat → Int} {i j : Nat} (h : i < m) (h2 : j < m) : rd2 (fmat m f) i j = f i j := fmat_rd h h2
theorem dv_unit {t x : Int} (h0 : 0 < t) (h1 : t < 10007) (h : Dv (t * x)) : Dv x := by
  have hi := invQ_mul h0 h1
  have h3 := h.mul' (invM t 10007)
  rw [← Int.mul_assoc, Int.mul_comm (invM t 10007)] at h3
  have e2 : t * invM t 10007 = 10007 * ((t * invM t 10007) / 10007) + 1 := by have := Int.emod_add_mul_ediv (t * invM t 10007) 10007; omega
  rw [e2, Int.add_mul, Int.one_mul, Int.mul_assoc] at h3
  have := Int.dvd_sub h3 (Int.dvd_mul_right 10007 ((t * invM t 10007) / 10007 * x))
  rwa [Int.add_comm, Int.add_sub_cancel] at this
theorem burM_good {n : Nat} {k t : Int} (h0 : 1 ≤ k) (h1 : k ≤ n - 1) (ht : 1 ≤ t ∧ t ≤ 10006) : Good n (burM n t k) := by
  obtain ⟨k, rfl⟩ : ∃ q : Nat, k = q := ⟨k.toNat, by omega⟩
  rw [burM_fmat (by omega) (by omega)]
  refine ⟨Fq.fmat fun i j hi hj => ?_, fun v hv => ?_⟩
  · rw [burF_row (by omega)]
    have h3 := Int.emod_nonneg (1 - t) (show (10007 : Int) ≠ 0 by omega)
    have h4 := Int.emod_lt_of_pos (1 - t) (show (0 : Int) < 10007 by omega)
    repeat' split
    all_goals omega
  · have hother : ∀ j : Nat, j < n → j ≠ k → j ≠ k - 1 → Dv (v j) := fun j hj h5 h6 => by
      have := hv j hj
      rw [sumN_one (a := j) hj fun i hi hne => by rw [rd2_fmat hj hi, burF_row (by omega), if_neg h5, if_neg h6, if_neg (fun e => hne e.symm), Int.zero_mul]] at this
      rwa [rd2_fmat hj hj, burF_row (by omega), if_neg h5, if_neg h6, if_pos rfl, Int.one_mul] at this
    have hk1 : Dv (v (k - 1)) := by
      have := hv k (by omega)
      rw [sumN_one (a := k - 1) (by omega) fun i hi hne => by rw [rd2_fmat (by omega) hi, burF_row (by omega), if_pos rfl, if_neg hne, Int.zero_mul]] at this
      rwa [rd2_fmat (by omega) (by omega), burF_row (by omega), if_pos rfl, if_pos rfl, Int.one_mul] at this
    have hk : Dv (v k) := by
      have := hv (k - 1) (by omega)
      rw [sumN_two (a := k - 1) (b := k) (by omega) (by omega) (by omega) fun i hi h5 h6 => by rw [rd2_fmat (by omega) hi, burF_row (by omega), if_neg (by omega), if_pos rfl, if_neg h6, if_neg h5, Int.zero_mul]] at this
      rw [rd2_fmat (by omega) (by omega), rd2_fmat (by omega) (by omega), burF_row (by omega), burF_row (by omega), if_neg (by omega), if_pos rfl, if_neg (by omega), if_pos rfl, if_neg (by omega), if_pos rfl, if_pos rfl] at this
      have h7 := Int.dvd_sub this (hk1.mul' ((1 - t) % 10007))
      rw [Int.add_comm, Int.add_sub_cancel] at h7
      exact dv_unit (by omega) (by omega) h7
    intro j hj
    by_cases h5 : j = k
    · rw [h5]; exact hk
    · by_cases h6 : j = k - 1
      · rw [h6]; exact hk1
      · exact hother j hj h5 h6
theorem set2_length {T : List (List Int)} {x y v : Int} : (set2 T x y v).length = T.length := by simp [set2]
theorem set2_rrl {T : List (List Int)} {n : Nat} {x y v : Int} (hl : T.length = n) (h : ∀ i : Int, 0 ≤ i → i < n → (rr T i).length = n) (hx : 0 ≤ x ∧ x < n) : (set2 T x y v).length = n ∧ ∀ i : Int, 0 ≤ i → i < n → (rr (set2 T x y v) i).length = n := by
  refine ⟨by rw [set2_length, hl], fun i h0 h1 => ?_⟩
  unfold set2
  rw [rr_set]
  split
  · rw [List.length_set]; exact h x hx.1 hx.2
  · exact h i h0 h1
theorem rows_apart {w : World} {v : Value} {hds : List Value} {xss : List (List Int)} (h : MatH w v hds xss) {i j : Nat} {b1 n1 c1 b2 n2 c2 : Nat} (h1 : hds[i]? = some (.slice (some ⟨b1, 0, none⟩) n1 c1)) (h2 : hds[j]? = some (.slice (some ⟨b2, 0, none⟩) n2 c2)) (hij : i ≠ j) : b1 ≠ b2 := fun e => by
  subst e
  exact h.apart i j _ _ h1 h2 hij b1 rfl rfl
set_option maxHeartbeats 16000000 in
theorem burClosure_ok (n : Nat) (hn : 1 ≤ n ∧ n ≤ 8) (k t : Int) (hk : 1 ≤ k) (hk2 : k ≤ n - 1) (ht : 1 ≤ t ∧ t ≤ 10006) (bb bt : Nat) (u : Value) (w : World) (hb : Bk w bb 28 [.int .i64 n, u]) (hbt : Bk w bt 2 [.int .i64 t]) :
    CallsR Try.prog 90 #[.int .i64 k, .pointer (some ⟨bb, 0, none⟩), .pointer (some ⟨bt, 0, none⟩)] w fun r w' => NewM w w' r (burM n t k) := by
  have hs := St.start w
  refine fn_calls Try.func90 rfl rfl rfl ?_
  refine W_seq ?_
  refine W_reg ?_
  refine T_pu rfl rfl (pu_assign rfl) ?_
  refine T_nil ?_
  refine W_seq ?_
  refine W_reg ?_
  refine T_pu rfl rfl (pu_fld (off := 0) Try.underlying28 rfl rfl ty2 rfl rfl) ?_
  refine T_pi rfl rfl (pi_load Try.underlying2 rfl rfl (fun w' h => by obtain rfl := h; exact (by first | exact hb.cell rfl))) ?_
  refine T_go rfl rfl (st_call fn91 rfl ((unitIn_ok n hn.1 (by omega) _).mono ?_))
  rintro u1 w1 ⟨hds, hM, hk1, hf1⟩
  obtain ⟨g, cg, rfl, hcg⟩ := hM.slice (n := n) (idM_fq n).1 hn.1
  have hs := hs.newM hM hk1 hf1
  have hq1 := idM_fq n
  have hlen := hq1.1
  have hrow := fun i h0 h1 => (hq1.2 i h0 h1).1
  obtain ⟨r1, c1, hh1, hcl1, hO1⟩ := hM.at (i := k - 1) (m := n) (by omega) (by omega) (hrow _ (by omega) (by omega)) (by omega)
  obtain ⟨r2, c2, hh2, hcl2, hO2⟩ := hM.at (i := k) (m := n) (by omega) (by omega) (hrow _ (by omega) (by omega)) (by omega)
  have hg1 : ¬ (g = r1 ∨ g = r2) := fun h => by
    rcases h with h | h
    · exact hM.headApart hh1 (b := r1) rfl (by rw [h]; rfl)
    · exact hM.headApart hh2 (b := r2) rfl (by rw [h]; rfl)
  have hf11 := (hf1 r1 (.inr ⟨_, List.mem_of_getElem? hh1, rfl⟩)).1
  have hf12 := (hf1 r2 (.inr ⟨_, List.mem_of_getElem? hh2, rfl⟩)).1
  have hlt2 := hbt.lt
  have hnt : ¬ (bt = r1 ∨ bt = r2) := by omega
  have hr12 := rows_apart hM hh1 hh2 (by omega)
  clear hM hO1 hO2
  generalize hI : idM n = I at hs hlen hrow
  refine T_pu rfl rfl (pu_assign rfl) ?_
  refine T_nil ?_
  refine W_seq ?_
  refine W_draw mixed 1000 (IF (fun q => q = r1 ∨ q = r2)) (fun w2 hk3 => ?_)
  have hs := hs.next hk3
  have hbt := (hbt.keep hk1 id).keep hk3 id
  have hcl1 := hk3.cell hcl1 id
  have hcl2 := hk3.cell hcl2 id
  refine D_pu 0 (by kernel_rfl) rfl (by kernel_rfl) (by kernel_rfl) rfl rfl (by kernel_rfl) (Pu.stable (pu_move rfl)) ?_
  refine D_pu 1 (by kernel_rfl) rfl (by kernel_rfl) (by kernel_rfl) rfl rfl (by kernel_rfl) (Pu.stable (pu_move rfl)) ?_
  refine D_pu 2 (by kernel_rfl) rfl (by kernel_rfl) (by kernel_rfl) rfl rfl (by kernel_rfl) (Pu.stable (pu_sub64 rfl rfl (by omega))) ?_
  refine D_pu 3 (by kernel_rfl) rfl (by kernel_rfl) (by kernel_rfl) rfl rfl (by kernel_rfl) (Pu.stable ((by first | exact pu_ix1 Try.underlying32 ty22 rfl rfl (by omega) (by omega) | exact pu_index Try.underlying32 ty22 rfl rfl (by omega) (by omega)))) ?_
  refine D_pu 4 (by kernel_rfl) rfl (by kernel_rfl) (by kernel_rfl) rfl rfl (by kernel_rfl) (pi_load Try.underlying22 rfl rfl (fun w' h => by obtain ⟨_, h⟩ := h; first | exact h.cell (hcl1) hg1 | exact h.cell (hcl2) hg1 | exact h.cell (hbt.cell rfl) hnt)) ?_
  refine D_pu 5 (by kernel_rfl) rfl (by kernel_rfl) (by kernel_rfl) rfl rfl (by kernel_rfl) (Pu.stable (pu_move rfl)) ?_
  refine D_pu 6 (by kernel_rfl) rfl (by kernel_rfl) (by kernel_rfl) rfl rfl (by kernel_rfl) (Pu.stable (pu_sub64 rfl rfl (by omega))) ?_
  refine D_pu 7 (by kernel_rfl) rfl (by kernel_rfl) (by kernel_rfl) rfl rfl (by kernel_rfl) (Pu.stable (pu_move rfl)) ?_
  refine D_pu 8 (by kernel_rfl) rfl (by kernel_rfl) (by kernel_rfl) rfl rfl (by kernel_rfl) (Pu.stable (pu_move rfl)) ?_
  refine D_pu 9 (by kernel_rfl) rfl (by kernel_rfl) (by kernel_rfl) rfl rfl (by kernel_rfl) (Pu.stable (pu_sub64 rfl rfl (by omega))) ?_
  refine D_pu 10 (by kernel_rfl) rfl (by kernel_rfl) (by kernel_rfl) rfl rfl (by kernel_rfl) (Pu.stable ((by first | exact pu_ix1 Try.underlying32 ty22 rfl rfl (by omega) (by omega) | exact pu_index Try.underlying32 ty22 rfl rfl (by omega) (by omega)))) ?_
  refine D_pu 11 (by kernel_rfl) rfl (by kernel_rfl) (by kernel_rfl) rfl rfl (by kernel_rfl) (pi_load Try.underlying22 rfl rfl (fun w' h => by obtain ⟨_, h⟩ := h; first | exact h.cell (hcl1) hg1 | exact h.cell (hcl2) hg1 | exact h.cell (hbt.cell rfl) hnt)) ?_
  refine D_pu 12 (by kernel_rfl) rfl (by kernel_rfl) (by kernel_rfl) rfl rfl (by kernel_rfl) (Pu.stable (pu_move rfl)) ?_
  refine D_pu 13 (by kernel_rfl) rfl (by kernel_rfl) (by kernel_rfl) rfl rfl (by kernel_rfl) (Pu.stable (pu_move rfl)) ?_
  refine D_pu 14 (by kernel_rfl) rfl (by kernel_rfl) (by kernel_rfl) rfl rfl (by kernel_rfl) (Pu.stable (pu_move rfl)) ?_
  refine D_pu 15 (by kernel_rfl) rfl (by kernel_rfl) (by kernel_rfl) rfl rfl (by kernel_rfl) (Pu.stable ((by first | exact pu_ix1 Try.underlying32 ty22 rfl rfl (by omega) (by omega) | exact pu_index Try.underlying32 ty22 rfl rfl (by omega) (by omega)))) ?_
  refine D_pu 16 (by kernel_rfl) rfl (by kernel_rfl) (by kernel_rfl) rfl rfl (by kernel_rfl) (pi_load Try.underlying22 rfl rfl (fun w' h => by obtain ⟨_, h⟩ := h; first | exact h.cell (hcl1) hg1 | exact h.cell (hcl2) hg1 | exact h.cell (hbt.cell rfl) hnt)) ?_
  refine D_pu 17 (by kernel_rfl) rfl (by kernel_rfl) (by kernel_rfl) rfl rfl (by kernel_rfl) (Pu.stable (pu_move rfl)) ?_
  refine D_pu 18 (by kernel_rfl) rfl (by kernel_rfl) (by kernel_rfl) rfl rfl (by kernel_rfl) (Pu.stable (pu_sub64 rfl rfl (by omega))) ?_
  refine D_pu 19 (by kernel_rfl) rfl (by kernel_rfl) (by kernel_rfl) rfl rfl (by kernel_rfl) (Pu.stable (pu_move rfl)) ?_
  refine D_pu 20 (by kernel_rfl) rfl (by kernel_rfl) (by kernel_rfl) rfl rfl (by kernel_rfl) (Pu.stable (pu_move rfl)) ?_
  refine D_pu 21 (by kernel_rfl) rfl (by kernel_rfl) (by kernel_rfl) rfl rfl (by kernel_rfl) (Pu.stable ((by first | exact pu_ix1 Try.underlying32 ty22 rfl rfl (by omega) (by omega) | exact pu_index Try.underlying32 ty22 rfl rfl (by omega) (by omega)))) ?_
  refine D_pu 22 (by kernel_rfl) rfl (by kernel_rfl) (by kernel_rfl) rfl rfl (by kernel_rfl) (pi_load Try.underlying22 rfl rfl (fun w' h => by obtain ⟨_, h⟩ := h; first | exact h.cell (hcl1) hg1 | exact h.cell (hcl2) hg1 | exact h.cell (hbt.cell rfl) hnt)) ?_
  refine D_pu 23 (by kernel_rfl) rfl (by kernel_rfl) (by kernel_rfl) rfl rfl (by kernel_rfl) (Pu.stable (pu_move rfl)) ?_
  refine D_pu 24 (by kernel_rfl) rfl (by kernel_rfl) (by kernel_rfl) rfl rfl (by kernel_rfl) (pi_load Try.underlying2 rfl rfl (fun w' h => by obtain ⟨_, h⟩ := h; first | exact h.cell (hcl1) hg1 | exact h.cell (hcl2) hg1 | exact h.cell (hbt.cell rfl) hnt)) ?_
  refine D_pu 25 (by kernel_rfl) rfl (by kernel_rfl) (by kernel_rfl) rfl rfl (by kernel_rfl) (Pu.stable (pu_sub64 rfl rfl (by omega))) ?_
  refine D_pu 27 (by kernel_rfl) rfl (by kernel_rfl) (by kernel_rfl) rfl rfl (by kernel_rfl) (pi_load Try.underlying2 rfl rfl (fun w' h => by obtain ⟨_, h⟩ := h; first | exact h.cell (hcl1) hg1 | exact h.cell (hcl2) hg1 | exact h.cell (hbt.cell rfl) hnt)) ?_
  refine D_go 26 (by kernel_rfl) (by first | rfl | (intro _; rfl) | (intro h; exact absurd (show true = false from h) (by decide)) | exact Kp.refl _ _ | assumption) rfl rfl rfl (st_call fn92 rfl ((inField_ok _ _).mono ?_))
  rintro v w' ⟨rfl, rfl⟩
  refine D_pu 28 (by kernel_rfl) rfl (by kernel_rfl) (by kernel_rfl) rfl rfl (by kernel_rfl) (Pu.stable ((by first | exact pu_ix1 Try.underlying22 ty2 rfl rfl (by omega) (by omega) | exact pu_index Try.underlying22 ty2 rfl rfl (by omega) (by omega)))) ?_
  refine D_goN 29 (by kernel_rfl) (by first | rfl | (intro _; rfl) | (intro h; exact absurd (show true = false from h) (by decide)) | exact Kp.refl _ _ | assumption) rfl rfl (st_storeM hs 0 rfl (k - 1) (by omega) (by omega) hh1 ty2 rfl rfl (by omega) (by omega) fun w4 hk4 hs => ?_)
  simp only [List.set_cons_zero] at hs
  have hkA : Kp (fun q => q = r1 ∨ q = r2) w2 w4 := hk4.mono fun _ _ e => .inl e
  obtain ⟨hlen, hrow⟩ := set2_rrl (x := k - 1) (y := k - 1) (v := (1 - t) % 10007) hlen hrow (by omega)
  refine D_pu 30 (by kernel_rfl) rfl (by kernel_rfl) (by kernel_rfl) rfl rfl (by kernel_rfl) (Pu.stable ((by first | exact pu_ix1 Try.underlying22 ty2 rfl rfl (by omega) (by omega) | exact pu_index Try.underlying22 ty2 rfl rfl (by omega) (by omega)))) ?_
  refine D_goN 31 (by kernel_rfl) (by first | rfl | (intro _; rfl) | (intro h; exact absurd (show true = false from h) (by decide)) | exact Kp.refl _ _ | assumption) rfl rfl (st_storeM hs 0 rfl (k - 1) (by omega) (by omega) hh1 ty2 rfl rfl (by omega) (by omega) fun w5 hk5 hs => ?_)
  simp only [List.set_cons_zero] at hs
  have hkA : Kp (fun q => q = r1 ∨ q = r2) w2 w5 := hkA.trans (hk5.mono fun _ _ e => .inl e) (fun _ _ h => h)
  obtain ⟨hlen, hrow⟩ := set2_rrl (x := k - 1) (y := k) (v := t) hlen hrow (by omega)
  refine D_pu 32 (by kernel_rfl) rfl (by kernel_rfl) (by kernel_rfl) rfl rfl (by kernel_rfl) (Pu.stable ((by first | exact pu_ix1 Try.underlying22 ty2 rfl rfl (by omega) (by omega) | exact pu_index Try.underlying22 ty2 rfl rfl (by omega) (by omega)))) ?_
  refine D_goN 33 (by kernel_rfl) (by first | rfl | (intro _; rfl) | (intro h; exact absurd (show true = false from h) (by decide)) | exact Kp.refl _ _ | assumption) rfl rfl (st_storeM hs 0 rfl k (by omega) (by omega) hh2 ty2 rfl rfl (by omega) (by omega) fun w6 hk6 hs => ?_)
  simp only [List.set_cons_zero] at hs
  have hkA : Kp (fun q => q = r1 ∨ q = r2) w2 w6 := hkA.trans (hk6.mono fun _ _ e => .inr e) (fun _ _ h => h)
  obtain ⟨hlen, hrow⟩ := set2_rrl (x := k) (y := k - 1) (v := 1) hlen hrow (by omega)
  refine D_pu 34 (by kernel_rfl) rfl (by kernel_rfl) (by kernel_rfl) rfl rfl (by kernel_rfl) (Pu.stable ((by first | exact pu_ix1 Try.underlying22 ty2 rfl rfl (by omega) (by omega) | exact pu_index Try.underlying22 ty2 rfl rfl (by omega) (by omega)))) ?_
  refine D_goN 35 (by kernel_rfl) (by first | rfl | (intro _; rfl) | (intro h; exact absurd (show true = false from h) (by decide)) | exact Kp.refl _ _ | assumption) rfl rfl (st_storeM hs 0 rfl k (by omega) (by omega) hh2 ty2 rfl rfl (by omega) (by omega) fun w7 hk7 hs => ?_)
  simp only [List.set_cons_zero] at hs
  have hkA : Kp (fun q => q = r1 ∨ q = r2) w2 w7 := hkA.trans (hk7.mono fun _ _ e => .inr e) (fun _ _ h => h)
  refine D_done (by kernel_rfl) (by first | rfl | (intro _; rfl) | (intro h; exact absurd (show true = false from h) (by decide)) | exact Kp.refl _ _ | assumption) ?_
  refine W_seq ?_
  refine W_reg ?_
  refine T_pu rfl rfl (pu_move rfl) ?_
  refine T_pu rfl rfl (pu_assign rfl) ?_
  refine T_nil ?_
  refine W_ret ?_
  have hs : St no w [aMat (.slice (some ⟨g, 0, none⟩) n cg) hds (burM n t k)] w7 := by unfold burM; rw [hI]; exact hs
  exact Res_1 rfl rfl (hs.isNewM 0 rfl)

def burR (n : Int) (xs : List Int) (t : Int) : List (List Int) × Int := if ¬ Br n xs then ([], 1) else if ¬ (1 ≤ t ∧ t ≤ 10006) then ([], 2) else (prodF n.toNat (burM n.toNat t) xs xs.length, 0)
theorem burR_ok (n : Int) (xs : List Int) (t : Int) : (burR n xs t).1.length ≤ 28 ∧ ∀ ys ∈ (burR n xs t).1, ys.length ≤ 28 := by
  unfold burR
  split
  · exact ⟨by simp, fun ys h => by simp at h⟩
  · split
    · exact ⟨by simp, fun ys h => by simp at h⟩
    · rename_i h _
      have hBr := Decidable.not_not.1 h
      have h1 := hBr.1
      have hF := prodF_fq (d := n.toNat) (LM := burM n.toNat t) (ls := xs) xs.length
      have hFm := hF.fm (by omega) (by omega)
      have hl := hF.1
      refine ⟨by show (prodF _ _ _ _).length ≤ 28; omega, fun ys hy => ?_⟩
      have := (hFm.2.2 ys hy).1
      omega
set_option maxHeartbeats 4000000 in
theorem implBurau_ok (n : Int) (v : Value) (xs : List Int) (t : Int) (w : World) (hv : RI w v xs) (hl : xs.length ≤ 9223372036854775807) (ht : -9223372036854775808 ≤ t ∧ t ≤ 9223372036854775807) :
    CallsR Try.prog 34 #[.agg #[.int .i64 n, v], .int .i64 t] w fun r w' => ∃ u, r = .tuple #[u, .int .i64 (burR n xs t).2] ∧ NewM w w' u (burR n xs t).1 := by
  obtain ⟨A, c, rfl, hc⟩ := hv.open
  have hs := St.start w
  refine fn_calls Try.func34 rfl rfl rfl ?_
  refine W_seq ?_
  refine W_reg ?_
  refine T_go rfl rfl (st_boxS hs rfl fun w1 b1 hk1 hb1 hs => ?_)
  refine T_go rfl rfl (st_boxS hs rfl fun w2 b2 hk2 hb2 hs => ?_)
  refine T_pu rfl rfl (pu_assign rfl) ?_
  refine T_pu rfl rfl (pu_assign rfl) ?_
  refine T_nil ?_
  refine W_seq ?_
  refine W_block ?_
  refine W_seq ?_
  refine W_reg ?_
  refine T_pi rfl rfl (pi_loadAgg Try.underlying28 rfl ty28 rfl (fun w' h => by obtain rfl := h; exact (by first | exact (hs.bk 1 rfl).cells)) (by first | rfl | (simp; done) | (rw [nums_length]; assumption) | assumption)) ?_
  refine T_go rfl rfl (st_call fn72 rfl ((IsBraid_ok n _ xs _ (hv.keep hs.kp) hl).mono ?_))
  rintro v w3 ⟨rfl, hk3⟩
  have hs := hs.next hk3
  refine T_pu rfl rfl (pu_notp rfl) ?_
  refine T_pu rfl rfl (pu_assign rfl) ?_
  refine T_nil ?_
  refine W_if rfl (fun hc1 => ?_) (fun hc1 => ?_)
  · refine W_seq ?_
    refine W_reg ?_
    refine T_pu rfl rfl (pu_assign rfl) ?_
    refine T_pu rfl rfl (pu_assign rfl) ?_
    refine T_nil ?_
    refine W_ret ?_
    have e : burR n xs t = ([], 1) := by unfold burR; rw [if_pos hc1]
    rw [e]
    exact Res_2 rfl rfl rfl ⟨_, rfl, newM_none hs.kp⟩
  · refine W_seq ?_
    refine W_reg ?_
    refine T_pi rfl rfl (pi_load Try.underlying2 rfl rfl (fun w' h => by obtain rfl := h; exact (by first | exact (hs.bk 0 rfl).cell rfl))) ?_
    refine T_go rfl rfl (st_call fn88 rfl ((isUnit_ok _ _).mono ?_))
    rintro v w' ⟨rfl, rfl⟩
    refine T_pu rfl rfl (pu_notp rfl) ?_
    refine T_pu rfl rfl (pu_assign rfl) ?_
    refine T_nil ?_
    refine W_if rfl (fun hc3 => ?_) (fun hc3 => ?_)
    · refine W_seq ?_
      refine W_reg ?_
      refine T_pu rfl rfl (pu_assign rfl) ?_
      refine T_pu rfl rfl (pu_assign rfl) ?_
      refine T_nil ?_
      refine W_ret ?_
      have e : burR n xs t = ([], 2) := by unfold burR; rw [if_neg hc1, if_pos hc3]
      rw [e]
      exact Res_2 rfl rfl rfl ⟨_, rfl, newM_none hs.kp⟩
    · refine W_skip ?_
      refine W_seq ?_
      have hBr : Br n xs := Decidable.not_not.1 hc1
      have ht1 := Decidable.not_not.1 hc3
      obtain ⟨m, rfl⟩ : ∃ m : Nat, n = m := ⟨n.toNat, by have := hBr.1; omega⟩
      have hm : 1 ≤ m ∧ m ≤ 8 := by have := hBr.1; omega
      have e : burR m xs t = (prodF m (burM m t) xs xs.length, 0) := by unfold burR; rw [if_neg hc1, if_neg hc3, Int.toNat_natCast]
      rw [e]
      have hB1 := hs.bk 1 rfl
      have hB2 := hs.bk 0 rfl
      refine W_reg ?_
      refine T_pi rfl rfl (pi_loadAgg Try.underlying28 rfl ty28 rfl (fun w' h => by obtain rfl := h; exact (by first | exact (hs.bk 1 rfl).cells | exact (hs.bk 1 rfl).cell rfl)) (by first | rfl | (simp; done) | (rw [nums_length]; assumption) | assumption)) ?_
      refine T_pu rfl rfl (pu_fld (off := 0) Try.underlying28 rfl rfl ty2 rfl rfl) ?_
      refine T_pi rfl rfl (pi_load Try.underlying2 rfl rfl (fun w' h => by obtain rfl := h; exact (by first | exact (hs.bk 1 rfl).cells | exact (hs.bk 1 rfl).cell rfl))) ?_
      refine T_pu rfl rfl (pu_makeFunc rfl rfl) ?_
      refine T_go rfl rfl (st_call fn89 rfl ((productIn_ok m hm m (by omega) _ xs _ (hv.keep hs.kp) hBr.2.1 hBr.2.2 (burM m t) (fun k h0 h1 => burM_good h0 h1 ht1) _ [.pointer (some ⟨b1, 0, none⟩), .pointer (some ⟨b2, 0, none⟩)] fn90 (fun k w' h0 h1 hk => burClosure_ok m hm k t h0 h1 ht1 b1 b2 _ w' (hB1.keep hk id) (hB2.keep hk id))).mono ?_))
      rintro u4 w4 ⟨hds4, hM4, hk4, hf4⟩
      have hs := hs.newM hM4 hk4 hf4
      refine T_pu rfl rfl (pu_assign rfl) ?_
      refine T_pu rfl rfl (pu_assign rfl) ?_
      refine T_nil ?_
      refine W_ret ?_
      exact Res_2 rfl rfl rfl ⟨_, rfl, hs.isNewM 0 rfl⟩
end Go.Proofs.Ytdpbfdjpeofbmaa.L
