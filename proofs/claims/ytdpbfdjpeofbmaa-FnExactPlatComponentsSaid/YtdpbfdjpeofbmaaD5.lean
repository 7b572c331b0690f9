/- slices.Sort, at twelve numbers at most. -/
import Derived.Test.YtdpbfdjpeofbmaaD3
namespace Go.Proofs.Ytdpbfdjpeofbmaa.L
set_option linter.unusedVariables false
set_option maxRecDepth 100000

def Srt (xs : List Int) : Prop := ∀ p q : Nat, p < q → q < xs.length → rd xs p ≤ rd xs q
/-- Sorted up to i, but for the number at place j. -/
def SrtB (xs : List Int) (i j : Nat) : Prop := ∀ p q : Nat, p < q → q ≤ i → q ≠ j → rd xs p ≤ rd xs q
def exch (xs : List Int) (j : Nat) : List Int := (xs.set j (rd xs ((j : Int) - 1))).set (j - 1) (rd xs j)
theorem exch_length (xs : List Int) (j : Nat) : (exch xs j).length = xs.length := by simp [exch]
theorem exch_perm {xs : List Int} {j : Nat} (h0 : 0 < j) (h : j < xs.length) : (exch xs j).Perm xs := by
  have e1 : rd xs ((j : Int) - 1) = xs[j - 1] := by
    unfold rd
    rw [show ((j : Int) - 1).toNat = j - 1 by omega, List.getD_eq_getElem?_getD, List.getElem?_eq_getElem (by omega)]
    rfl
  have e2 : rd xs j = xs[j] := by
    unfold rd
    rw [Int.toNat_natCast, List.getD_eq_getElem?_getD, List.getElem?_eq_getElem h]
    rfl
  unfold exch
  rw [e1, e2]
  exact List.set_set_perm (i := j) (j := j - 1) h (by omega)
theorem exch_rd {xs : List Int} {j : Nat} (h0 : 0 < j) (h : j < xs.length) (p : Nat) : rd (exch xs j) p = if p = j then rd xs ((j - 1 : Nat) : Int) else if p = j - 1 then rd xs j else rd xs p := by
  unfold exch
  rw [rd_set, rd_set, List.length_set]
  simp only [Int.toNat_natCast]
  by_cases h1 : p = j
  · subst h1
    rw [if_neg (by omega), if_pos ⟨rfl, h⟩, if_pos rfl]
    congr 1
    omega
  · rw [if_neg h1]
    by_cases h2 : p = j - 1
    · rw [if_pos ⟨h2, by omega⟩, if_pos h2]
    · rw [if_neg (by omega), if_neg (by omega), if_neg h2]
theorem exch_srt {xs : List Int} {i j : Nat} (hs : SrtB xs i j) (h0 : 0 < j) (hji : j ≤ i) (h : i < xs.length) (hlt : rd xs j < rd xs ((j : Int) - 1)) : SrtB (exch xs j) i (j - 1) := by
  intro p q hpq hqi hq
  have hlt : rd xs j < rd xs ((j - 1 : Nat) : Int) := by rw [show (((j - 1 : Nat) : Int)) = (j : Int) - 1 by omega]; exact hlt
  rw [exch_rd h0 (by omega), exch_rd h0 (by omega)]
  by_cases hqj : q = j
  · subst hqj
    rw [if_neg (by omega), if_pos rfl]
    by_cases hp : p = q - 1
    · rw [if_pos hp]; omega
    · rw [if_neg hp]; exact hs p (q - 1) (by omega) (by omega) (by omega)
  · rw [if_neg hqj, if_neg hq]
    by_cases hp : p = j
    · rw [if_pos hp]; exact hs (j - 1) q (by omega) hqi hqj
    · rw [if_neg hp]
      by_cases hp2 : p = j - 1
      · rw [if_pos hp2]; exact hs j q (by omega) hqi hqj
      · rw [if_neg hp2]; exact hs p q hpq hqi hqj
theorem srtB_all {xs : List Int} {i j : Nat} (hs : SrtB xs i j) (h : j = 0 ∨ (0 < j ∧ rd xs ((j : Int) - 1) ≤ rd xs j)) : ∀ p q : Nat, p < q → q ≤ i → rd xs p ≤ rd xs q := by
  intro p q hpq hqi
  by_cases hqj : q = j
  · subst hqj
    rcases h with h | ⟨h0, h⟩
    · omega
    · have h : rd xs ((q - 1 : Nat) : Int) ≤ rd xs q := by rw [show (((q - 1 : Nat) : Int)) = (q : Int) - 1 by omega]; exact h
      by_cases hp : p = q - 1
      · rw [hp]; exact h
      · exact Int.le_trans (hs p (q - 1) (by omega) (by omega) (by omega)) h
  · exact hs p q hpq hqi hqj
theorem isNaN_ok (x : Int) (w : World) : CallsR Try.prog 198 #[.int .i64 x] w fun v w' => v = .bool (decide (x ≠ x)) ∧ w = w' := by
  refine fn_calls Try.func198 rfl rfl rfl ?_
  refine W_seq ?_
  refine W_reg ?_
  refine T_pu rfl rfl (pu_assign rfl) ?_
  refine T_nil ?_
  refine W_seq ?_
  refine W_reg ?_
  refine T_pu rfl rfl (pu_move rfl) ?_
  refine T_pu rfl rfl (pu_move rfl) ?_
  refine T_pu rfl rfl (pu_neq rfl rfl) ?_
  refine T_pu rfl rfl (pu_assign rfl) ?_
  refine T_nil ?_
  refine W_ret ?_
  exact Res_1 rfl rfl ⟨rfl, rfl⟩
theorem cmpLess_ok (x y : Int) (w : World) : CallsR Try.prog 182 #[.int .i64 x, .int .i64 y] w fun v w' => v = .bool (decide (x < y)) ∧ w = w' := by
  refine fn_calls Try.func182 rfl rfl rfl ?_
  refine W_seq ?_
  refine W_reg ?_
  refine T_pu rfl rfl (pu_assign rfl) ?_
  refine T_nil ?_
  refine W_seq ?_
  refine W_reg ?_
  refine T_pu rfl rfl (pu_move rfl) ?_
  refine T_go rfl rfl (st_call fn198 rfl ((isNaN_ok _ _).mono ?_))
  rintro v w' ⟨rfl, rfl⟩
  refine T_if rfl rfl (pu_move rfl) (fun hg1_2 => ?_) (fun hg1_2 => ?_)
  · refine T_pu rfl rfl (pu_move rfl) ?_
    refine T_go rfl rfl (st_call fn198 rfl ((isNaN_ok _ _).mono ?_))
    rintro v w' ⟨rfl, rfl⟩
    refine T_pu rfl rfl (pu_notp rfl) ?_
    refine T_pu rfl rfl (pu_pick_t rfl rfl) ?_
    refine T_if rfl rfl (pu_move rfl) (fun hg1_7 => ?_) (fun hg1_7 => ?_)
    · refine T_no rfl rfl ?_
      refine T_no rfl rfl ?_
      refine T_no rfl rfl ?_
      refine T_pu rfl rfl (pu_pick_t rfl rfl) ?_
      refine T_pu rfl rfl (pu_assign rfl) ?_
      refine T_nil ?_
      refine W_ret ?_
      first | exact absurd rfl hg1_2 | exact Res_1 rfl rfl ⟨rfl, rfl⟩
    · refine T_pu rfl rfl (pu_move rfl) ?_
      refine T_pu rfl rfl (pu_move rfl) ?_
      refine T_pu rfl rfl (pu_lss rfl rfl) ?_
      refine T_pu rfl rfl (pu_pick_f rfl rfl) ?_
      refine T_pu rfl rfl (pu_assign rfl) ?_
      refine T_nil ?_
      refine W_ret ?_
      first | exact absurd rfl hg1_2 | exact Res_1 rfl rfl ⟨rfl, rfl⟩
  · refine T_no rfl rfl ?_
    refine T_no rfl rfl ?_
    refine T_no rfl rfl ?_
    refine T_pu rfl rfl (pu_pick_f rfl rfl) ?_
    refine T_pu rfl rfl (pu_move rfl) ?_
    refine T_pu rfl rfl (pu_move rfl) ?_
    refine T_pu rfl rfl (pu_move rfl) ?_
    refine T_pu rfl rfl (pu_lss rfl rfl) ?_
    refine T_pu rfl rfl (pu_pick_f rfl rfl) ?_
    refine T_pu rfl rfl (pu_assign rfl) ?_
    refine T_nil ?_
    refine W_ret ?_
    first | exact absurd rfl hg1_2 | exact Res_1 rfl rfl ⟨rfl, rfl⟩
set_option maxHeartbeats 4000000 in
theorem insertionSort_ok (v : Value) (xs : List Int) (w : World) (hO : OI w v xs) (hl : xs.length ≤ 1000) :
    CallsR Try.prog 176 #[v, .int .i64 0, .int .i64 xs.length] w fun _ w' => ∃ ys, Kp (fun b => v.ownBlock = some b) w w' ∧ OI w' v ys ∧ ys.Perm xs ∧ Srt ys := by
  have hs : St (fun b => v.ownBlock = some b) w [aOI v xs] w := St.startF w _ (fun A hA => by simp only [List.mem_singleton] at hA; subst hA; exact ⟨hO, fun b hb => ⟨hb, OI.lt hO hb⟩⟩) (by simp)
  generalize hF : (fun b => v.ownBlock = some b) = F at *
  obtain ⟨A, c, rfl, hc⟩ := hO.ri.open
  generalize hnl : xs.length = n at *
  refine fn_calls Try.func176 rfl rfl rfl ?_
  refine W_seq ?_
  refine W_reg ?_
  refine T_pu rfl rfl (pu_move rfl) ?_
  refine T_pu rfl rfl (pu_add64 rfl rfl (by omega)) ?_
  refine T_pu rfl rfl (pu_assign rfl) ?_
  refine T_nil ?_
  refine W_block ?_
  refine W_loop (σ := Nat × List Int) (fun s => [(0, .slice A n c), (1, .int .i64 0), (2, .int .i64 n), (6, .int .i64 s.1)]) (fun s w' => 1 ≤ s.1 ∧ s.2.Perm xs ∧ St F w [aOI (.slice A n c) s.2] w' ∧ ∀ p q : Nat, p < q → q < s.1 → q < n → rd s.2 p ≤ rd s.2 q) (fun s => n + 1 - s.1) (1, xs) ?_ ?_ ?_
  · exact .cons rfl (.cons rfl (.cons rfl (.cons rfl (.nil _))))
  · exact ⟨Nat.le_refl _, .refl _, hs, fun p q _ _ _ => by omega⟩
  repeat clear hs
  rintro ⟨i, ys⟩ w2 ⟨hi1, hpm, hs, hsr⟩
  dsimp only at hi1 hpm hs hsr ⊢
  refine W_seq ?_
  refine W_seq ?_
  refine W_reg ?_
  refine T_pu rfl rfl (pu_move rfl) ?_
  refine T_pu rfl rfl (pu_move rfl) ?_
  refine T_pu rfl rfl (pu_lss rfl rfl) ?_
  refine T_nil ?_
  refine W_if rfl (fun hc1 => ?_) (fun hc1 => ?_)
  · refine W_skip ?_
    refine W_seq ?_
    refine W_block ?_
    refine W_seq ?_
    have hyl := hpm.length_eq
    obtain ⟨b, rfl⟩ : ∃ b, A = some ⟨b, 0, none⟩ := by
      rcases (hs.oi 0 rfl).open with ⟨_, e⟩ | ⟨b, c', e, _⟩
      · rw [e] at hyl; simp at hyl; omega
      · exact ⟨b, (Value.slice.inj e).1⟩
    refine W_reg ?_
    refine T_pu rfl rfl (pu_move rfl) ?_
    refine T_pu rfl rfl (pu_assign rfl) ?_
    refine T_nil ?_
    refine W_block ?_
    refine W_loop (σ := Nat × List Int) (fun s => [(0, .slice (some ⟨b, 0, none⟩) n c), (1, .int .i64 0), (2, .int .i64 n), (6, .int .i64 i), (7, .int .i64 s.1)]) (fun s w' => s.1 ≤ i ∧ s.2.Perm xs ∧ St F w [aOI (.slice (some ⟨b, 0, none⟩) n c) s.2] w' ∧ SrtB s.2 i s.1) (fun s => s.1) (i, ys) ?_ ?_ ?_
    · exact .cons rfl (.cons rfl (.cons rfl (.cons rfl (.cons rfl (.nil _)))))
    · exact ⟨Nat.le_refl _, hpm, hs, fun p q hpq hqi hq => hsr p q hpq (by omega) (by omega)⟩
    clear hs hsr hpm hyl
    rintro ⟨j, zs⟩ w3 ⟨hji, hpm, hs, hsr⟩
    dsimp only at hji hpm hs hsr ⊢
    have hyl := hpm.length_eq
    refine W_seq ?_
    refine W_seq ?_
    refine W_draw mixed 1000 I0 (fun w4 hk4 => ?_)
    have hs := hs.next hk4
    have hx1 : 0 < j → _ := fun h0 => (hs.oi 0 rfl).ri.at0 (i := j) (by omega) (by omega)
    have hx2 : 0 < j → _ := fun h0 => (hs.oi 0 rfl).ri.at0 (i := (j : Int) - 1) (by omega) (by omega)
    refine D_pu 0 (by kernel_rfl) rfl (by kernel_rfl) (by kernel_rfl) rfl rfl (by kernel_rfl) (Pu.stable (pu_move rfl)) ?_
    refine D_pu 1 (by kernel_rfl) rfl (by kernel_rfl) (by kernel_rfl) rfl rfl (by kernel_rfl) (Pu.stable (pu_move rfl)) ?_
    refine D_pu 2 (by kernel_rfl) rfl (by kernel_rfl) (by kernel_rfl) rfl rfl (by kernel_rfl) (Pu.stable (pu_gtr rfl rfl)) ?_
    refine D_if 3 (by kernel_rfl) rfl (by kernel_rfl) (by kernel_rfl) rfl rfl (by kernel_rfl) (Pu.stable (pu_move rfl)) (fun hg4_3 => ?_) (fun hg4_3 => ?_)
    · refine D_pu 4 (by kernel_rfl) rfl (by kernel_rfl) (by kernel_rfl) rfl rfl (by kernel_rfl) (Pu.stable (pu_move rfl)) ?_
      refine D_pu 5 (by kernel_rfl) rfl (by kernel_rfl) (by kernel_rfl) rfl rfl (by kernel_rfl) (Pu.stable (pu_move rfl)) ?_
      refine D_pu 6 (by kernel_rfl) rfl (by kernel_rfl) (by kernel_rfl) rfl rfl (by kernel_rfl) (Pu.stable ((by first | exact pu_ix1 Try.underlying22 ty2 rfl rfl (by omega) (by omega) | exact pu_index Try.underlying22 ty2 rfl rfl (by omega) (by omega)))) ?_
      refine D_pu 7 (by kernel_rfl) rfl (by kernel_rfl) (by kernel_rfl) rfl rfl (by kernel_rfl) (pi_load Try.underlying2 rfl rfl (fun w' h => by obtain ⟨_, rfl⟩ := h; exact (by first | exact hx1 (by omega) | exact hx2 (by omega)))) ?_
      refine D_pu 8 (by kernel_rfl) rfl (by kernel_rfl) (by kernel_rfl) rfl rfl (by kernel_rfl) (Pu.stable (pu_move rfl)) ?_
      refine D_pu 9 (by kernel_rfl) rfl (by kernel_rfl) (by kernel_rfl) rfl rfl (by kernel_rfl) (Pu.stable (pu_move rfl)) ?_
      refine D_pu 10 (by kernel_rfl) rfl (by kernel_rfl) (by kernel_rfl) rfl rfl (by kernel_rfl) (Pu.stable (pu_sub64 rfl rfl (by omega))) ?_
      refine D_pu 11 (by kernel_rfl) rfl (by kernel_rfl) (by kernel_rfl) rfl rfl (by kernel_rfl) (Pu.stable ((by first | exact pu_ix1 Try.underlying22 ty2 rfl rfl (by omega) (by omega) | exact pu_index Try.underlying22 ty2 rfl rfl (by omega) (by omega)))) ?_
      refine D_pu 12 (by kernel_rfl) rfl (by kernel_rfl) (by kernel_rfl) rfl rfl (by kernel_rfl) (pi_load Try.underlying2 rfl rfl (fun w' h => by obtain ⟨_, rfl⟩ := h; exact (by first | exact hx1 (by omega) | exact hx2 (by omega)))) ?_
      refine D_go 13 (by kernel_rfl) (by first | rfl | (intro _; rfl) | (intro h; exact absurd (show true = false from h) (by decide)) | exact Kp.refl _ _ | assumption) rfl rfl rfl (st_call fn182 rfl ((cmpLess_ok _ _ _).mono ?_))
      rintro v w' ⟨rfl, rfl⟩
      refine D_pu 14 (by kernel_rfl) rfl (by kernel_rfl) (by kernel_rfl) rfl rfl (by kernel_rfl) (Pu.stable (pu_pick_t rfl rfl)) ?_
      refine D_done (by kernel_rfl) (by first | rfl | (intro _; rfl) | (intro h; exact absurd (show true = false from h) (by decide)) | exact Kp.refl _ _ | assumption) ?_
      refine W_if rfl (fun hc4 => ?_) (fun hc4 => ?_)
      · refine W_skip ?_
        refine W_seq ?_
        refine W_block ?_
        refine W_draw mixed 15 IS (fun w5 hk5 => ?_)
        have hs := hs.next hk5
        have hy1 := (hs.oi 0 rfl).ri.at0 (i := j) (by omega) (by omega)
        have hy2 := (hs.oi 0 rfl).ri.at0 (i := (j : Int) - 1) (by omega) (by omega)
        refine D_pu 0 (by kernel_rfl) rfl (by kernel_rfl) (by kernel_rfl) rfl rfl (by kernel_rfl) (Pu.stable (pu_move rfl)) ?_
        refine D_pu 1 (by kernel_rfl) rfl (by kernel_rfl) (by kernel_rfl) rfl rfl (by kernel_rfl) (Pu.stable (pu_move rfl)) ?_
        refine D_pu 2 (by kernel_rfl) rfl (by kernel_rfl) (by kernel_rfl) rfl rfl (by kernel_rfl) (Pu.stable (pu_move rfl)) ?_
        refine D_pu 3 (by kernel_rfl) rfl (by kernel_rfl) (by kernel_rfl) rfl rfl (by kernel_rfl) (Pu.stable (pu_move rfl)) ?_
        refine D_pu 4 (by kernel_rfl) rfl (by kernel_rfl) (by kernel_rfl) rfl rfl (by kernel_rfl) (Pu.stable (pu_sub64 rfl rfl (by omega))) ?_
        refine D_pu 5 (by kernel_rfl) rfl (by kernel_rfl) (by kernel_rfl) rfl rfl (by kernel_rfl) (Pu.stable (pu_move rfl)) ?_
        refine D_pu 6 (by kernel_rfl) rfl (by kernel_rfl) (by kernel_rfl) rfl rfl (by kernel_rfl) (Pu.stable (pu_move rfl)) ?_
        refine D_pu 7 (by kernel_rfl) rfl (by kernel_rfl) (by kernel_rfl) rfl rfl (by kernel_rfl) (Pu.stable (pu_sub64 rfl rfl (by omega))) ?_
        refine D_pu 8 (by kernel_rfl) rfl (by kernel_rfl) (by kernel_rfl) rfl rfl (by kernel_rfl) (Pu.stable ((by first | exact pu_ix1 Try.underlying22 ty2 rfl rfl (by omega) (by omega) | exact pu_index Try.underlying22 ty2 rfl rfl (by omega) (by omega)))) ?_
        refine D_rd 9 (by kernel_rfl) rfl (by kernel_rfl) (by kernel_rfl) rfl rfl (by kernel_rfl) (by kernel_rfl) (by kernel_rfl) (pi_load Try.underlying2 rfl rfl (fun w' h => by obtain rfl := h rfl; exact (by first | exact hy1 | exact hy2))) ?_
        refine D_pu 10 (by kernel_rfl) rfl (by kernel_rfl) (by kernel_rfl) rfl rfl (by kernel_rfl) (Pu.stable (pu_move rfl)) ?_
        refine D_pu 11 (by kernel_rfl) rfl (by kernel_rfl) (by kernel_rfl) rfl rfl (by kernel_rfl) (Pu.stable (pu_move rfl)) ?_
        refine D_pu 12 (by kernel_rfl) rfl (by kernel_rfl) (by kernel_rfl) rfl rfl (by kernel_rfl) (Pu.stable ((by first | exact pu_ix1 Try.underlying22 ty2 rfl rfl (by omega) (by omega) | exact pu_index Try.underlying22 ty2 rfl rfl (by omega) (by omega)))) ?_
        refine D_rd 13 (by kernel_rfl) rfl (by kernel_rfl) (by kernel_rfl) rfl rfl (by kernel_rfl) (by kernel_rfl) (by kernel_rfl) (pi_load Try.underlying2 rfl rfl (fun w' h => by obtain rfl := h rfl; exact (by first | exact hy1 | exact hy2))) ?_
        refine D_pu 14 (by kernel_rfl) rfl (by kernel_rfl) (by kernel_rfl) rfl rfl (by kernel_rfl) (Pu.stable ((by first | exact pu_ix1 Try.underlying22 ty2 rfl rfl (by omega) (by omega) | exact pu_index Try.underlying22 ty2 rfl rfl (by omega) (by omega)))) ?_
        refine D_goN 15 (by kernel_rfl) (by first | rfl | (intro _; rfl) | (intro h; exact absurd (show true = false from h) (by decide)) | exact Kp.refl _ _ | assumption) rfl rfl (st_storeI hs 0 rfl ty2 rfl rfl (by omega) (by first | omega | (simp; omega)) fun w6 hk6 hs => ?_)
        simp only [List.set_cons_zero] at hs
        refine D_pu 16 (by kernel_rfl) rfl (by kernel_rfl) (by kernel_rfl) rfl rfl (by kernel_rfl) (Pu.stable ((by first | exact pu_ix1 Try.underlying22 ty2 rfl rfl (by omega) (by omega) | exact pu_index Try.underlying22 ty2 rfl rfl (by omega) (by omega)))) ?_
        refine D_goN 17 (by kernel_rfl) (by first | rfl | (intro _; rfl) | (intro h; exact absurd (show true = false from h) (by decide)) | exact Kp.refl _ _ | assumption) rfl rfl (st_storeI hs 0 rfl ty2 rfl rfl (by omega) (by first | omega | (simp; omega)) fun w7 hk7 hs => ?_)
        simp only [List.set_cons_zero, Int.toNat_natCast] at hs
        rw [show ((j : Int) - 1).toNat = j - 1 by omega] at hs
        refine D_done (by kernel_rfl) (by first | rfl | (intro _; rfl) | (intro h; exact absurd (show true = false from h) (by decide)) | exact Kp.refl _ _ | assumption) ?_
        refine W_reg ?_
        refine T_pu rfl rfl (pu_move rfl) ?_
        refine T_pu rfl rfl (pu_sub64 rfl rfl (by omega)) ?_
        refine T_pu rfl rfl (pu_assign rfl) ?_
        refine T_nil ?_
        exact ⟨(j - 1, exch zs j), .cons rfl (.cons rfl (.cons rfl (.cons rfl (.cons (by show some (Value.int .i64 _) = some (Value.int .i64 _); congr 2; omega) (.nil _))))), ⟨by show j - 1 ≤ i; omega, (exch_perm (by omega) (by omega)).trans hpm, hs, exch_srt hsr (by omega) (by omega) (by omega) (by omega)⟩, by show j - 1 < j; omega⟩
      · refine W_exit rfl ?_
        have hall := srtB_all hsr (by omega)
        refine W_reg ?_
        refine T_pu rfl rfl (pu_move rfl) ?_
        refine T_pu rfl rfl (pu_add64 rfl rfl (by omega)) ?_
        refine T_pu rfl rfl (pu_assign rfl) ?_
        refine T_nil ?_
        exact ⟨(i + 1, zs), .cons rfl (.cons rfl (.cons rfl (.cons rfl (.nil _)))), ⟨by show 1 ≤ i + 1; omega, hpm, by assumption, fun p q hpq hq _ => hall p q hpq (by have : q < i + 1 := hq; omega)⟩, by show n + 1 - (i + 1) < n + 1 - i; omega⟩
    · refine D_no 4 (by kernel_rfl) rfl (by kernel_rfl) (by kernel_rfl) rfl rfl (by kernel_rfl) ?_
      refine D_no 5 (by kernel_rfl) rfl (by kernel_rfl) (by kernel_rfl) rfl rfl (by kernel_rfl) ?_
      refine D_no 6 (by kernel_rfl) rfl (by kernel_rfl) (by kernel_rfl) rfl rfl (by kernel_rfl) ?_
      refine D_no 7 (by kernel_rfl) rfl (by kernel_rfl) (by kernel_rfl) rfl rfl (by kernel_rfl) ?_
      refine D_no 8 (by kernel_rfl) rfl (by kernel_rfl) (by kernel_rfl) rfl rfl (by kernel_rfl) ?_
      refine D_no 9 (by kernel_rfl) rfl (by kernel_rfl) (by kernel_rfl) rfl rfl (by kernel_rfl) ?_
      refine D_no 10 (by kernel_rfl) rfl (by kernel_rfl) (by kernel_rfl) rfl rfl (by kernel_rfl) ?_
      refine D_no 11 (by kernel_rfl) rfl (by kernel_rfl) (by kernel_rfl) rfl rfl (by kernel_rfl) ?_
      refine D_no 12 (by kernel_rfl) rfl (by kernel_rfl) (by kernel_rfl) rfl rfl (by kernel_rfl) ?_
      refine D_no 13 (by kernel_rfl) rfl (by kernel_rfl) (by kernel_rfl) rfl rfl (by kernel_rfl) ?_
      refine D_pu 14 (by kernel_rfl) rfl (by kernel_rfl) (by kernel_rfl) rfl rfl (by kernel_rfl) (Pu.stable (pu_pick_f rfl rfl)) ?_
      refine D_done (by kernel_rfl) (by first | rfl | (intro _; rfl) | (intro h; exact absurd (show true = false from h) (by decide)) | exact Kp.refl _ _ | assumption) ?_
      refine W_false rfl ?_
      refine W_exit rfl ?_
      have hall := srtB_all hsr (by omega)
      refine W_reg ?_
      refine T_pu rfl rfl (pu_move rfl) ?_
      refine T_pu rfl rfl (pu_add64 rfl rfl (by omega)) ?_
      refine T_pu rfl rfl (pu_assign rfl) ?_
      refine T_nil ?_
      exact ⟨(i + 1, zs), .cons rfl (.cons rfl (.cons rfl (.cons rfl (.nil _)))), ⟨by show 1 ≤ i + 1; omega, hpm, by assumption, fun p q hpq hq _ => hall p q hpq (by have : q < i + 1 := hq; omega)⟩, by show n + 1 - (i + 1) < n + 1 - i; omega⟩
  · refine W_exit rfl ?_
    have hyl := hpm.length_eq
    refine Res_0 rfl ⟨ys, hs.kp, ?_, hpm, fun p q hpq hq => hsr p q hpq (by omega) (by omega)⟩
    have h := hs.oi 0 rfl
    exact h
theorem pu_indexStr {P : Program} {l : Env} {d : Option Tmp} {ty : TypeId} {ps : String} {af : Array Edge} {g : Option (Nat × Bool)} {x y : Operand} {t : TypeId} {s : ByteArray} {k : IntKind} {a : Int} {m : Nat} (ht : P.underlying t = some .string) (hx : ev l x = some (.string s)) (hm : s.size = m) (hy : ev l y = some (.int k a)) (h0 : 0 ≤ a) (h1 : a < m) :
    Pu P l ⟨d, .index t x y, ty, ps, af, g⟩ (.int .u8 ((s[a.toNat]'(by omega)).toNat : Int)) := by
  intro ρ h w
  have hlt : a.toNat < s.size := by omega
  simp [execOp, h _ _ hx, h _ _ hy, Instr.index, asIntOf, run_underlying ht, h0, hlt]
theorem len64_ok (x : Int) (hx : 0 ≤ x ∧ x < 256) (w : World) : CallsR Try.prog 186 #[.int .u64 x] w fun v w' => (∃ r, v = .int .i64 r) ∧ w = w' := by
  refine fn_calls Try.func186 rfl rfl rfl ?_
  refine W_seq ?_
  refine W_reg ?_
  refine T_pu rfl rfl (pu_assign rfl) ?_
  refine T_nil ?_
  refine W_seq ?_
  refine W_seq ?_
  refine W_reg ?_
  refine T_pu rfl rfl (pu_move rfl) ?_
  refine T_pu rfl rfl (pu_geq rfl rfl) ?_
  refine T_nil ?_
  refine W_if rfl (fun hc1 => ?_) (fun hc1 => ?_)
  · exfalso; omega
  · refine W_skip ?_
    refine W_seq ?_
    refine W_seq ?_
    refine W_reg ?_
    refine T_pu rfl rfl (pu_move rfl) ?_
    refine T_pu rfl rfl (pu_geq rfl rfl) ?_
    refine T_nil ?_
    refine W_if rfl (fun hc4 => ?_) (fun hc4 => ?_)
    · exfalso; omega
    · refine W_skip ?_
      refine W_seq ?_
      refine W_seq ?_
      refine W_reg ?_
      refine T_pu rfl rfl (pu_move rfl) ?_
      refine T_pu rfl rfl (pu_geq rfl rfl) ?_
      refine T_nil ?_
      refine W_if rfl (fun hc7 => ?_) (fun hc7 => ?_)
      · exfalso; omega
      · refine W_skip ?_
        refine W_seq ?_
        have hwr := wrap_u8 x
        refine W_reg ?_
        refine T_pu rfl rfl (pu_move rfl) ?_
        refine T_pu rfl rfl (pu_move rfl) ?_
        refine T_pu rfl rfl (pu_conv Try.underlying121 Try.underlying5 rfl) ?_
        refine T_pu rfl rfl (pu_indexStr (m := 256) Try.underlying9 rfl (by kernel_rfl) rfl (by omega) (by omega)) ?_
        refine T_pu rfl rfl (pu_conv Try.underlying5 Try.underlying3 rfl) ?_
        refine T_pu rfl rfl (pu_add rfl rfl) ?_
        refine T_pu rfl rfl (pu_assign rfl) ?_
        refine T_nil ?_
        refine W_ret ?_
        exact Res_1 rfl rfl ⟨⟨_, rfl⟩, rfl⟩
theorem bitsLen_ok (x : Int) (hx : 0 ≤ x ∧ x < 256) (w : World) : CallsR Try.prog 164 #[.int .u64 x] w fun v w' => (∃ r, v = .int .i64 r) ∧ w = w' := by
  have e := wrap_u64 x
  refine fn_calls Try.func164 rfl rfl rfl ?_
  refine W_seq ?_
  refine W_reg ?_
  refine T_pu rfl rfl (pu_assign rfl) ?_
  refine T_nil ?_
  refine W_seq ?_
  refine W_false rfl ?_
  refine W_skip ?_
  refine W_seq ?_
  refine W_reg ?_
  refine T_pu rfl rfl (pu_move rfl) ?_
  refine T_go rfl rfl (st_call fn186 rfl ((len64_ok _ hx _).mono ?_))
  rintro v w' ⟨⟨r, rfl⟩, rfl⟩
  refine T_pu rfl rfl (pu_assign rfl) ?_
  refine T_nil ?_
  refine W_ret ?_
  exact Res_1 rfl rfl ⟨⟨_, rfl⟩, rfl⟩
set_option maxHeartbeats 4000000 in
theorem pdq_ok (v : Value) (xs : List Int) (r : Int) (w : World) (hO : OI w v xs) (hl : xs.length ≤ 12) :
    CallsR Try.prog 163 #[v, .int .i64 0, .int .i64 xs.length, .int .i64 r] w fun _ w' => ∃ ys, Kp (fun b => v.ownBlock = some b) w w' ∧ OI w' v ys ∧ ys.Perm xs ∧ Srt ys := by
  refine fn_calls Try.func163 rfl rfl rfl ?_
  refine W_seq ?_
  refine W_reg ?_
  refine T_pu rfl rfl (pu_assign rfl) ?_
  refine T_nil ?_
  refine W_seq ?_
  refine W_reg ?_
  refine T_pu rfl rfl (pu_assign rfl) ?_
  refine T_nil ?_
  refine W_block ?_
  refine W_loop (σ := Unit) (fun _ => [(0, v), (1, .int .i64 0), (2, .int .i64 xs.length)]) (fun _ w' => w = w') (fun _ => 0) () ?_ ?_ ?_
  · exact .cons rfl (.cons rfl (.cons rfl (.nil _)))
  · exact rfl
  rintro _ _ rfl
  refine W_block ?_
  refine W_seq ?_
  refine W_reg ?_
  refine T_pu rfl rfl (pu_move rfl) ?_
  refine T_pu rfl rfl (pu_move rfl) ?_
  refine T_pu rfl rfl (pu_sub64 rfl rfl (by omega)) ?_
  refine T_pu rfl rfl (pu_assign rfl) ?_
  refine T_nil ?_
  refine W_seq ?_
  refine W_seq ?_
  refine W_reg ?_
  refine T_pu rfl rfl (pu_move rfl) ?_
  refine T_pu rfl rfl (pu_leq rfl rfl) ?_
  refine T_nil ?_
  refine W_if rfl (fun hc3 => ?_) (fun hc3 => ?_)
  · refine W_seq ?_
    refine W_reg ?_
    refine T_pu rfl rfl (pu_move rfl) ?_
    refine T_pu rfl rfl (pu_move rfl) ?_
    refine T_pu rfl rfl (pu_move rfl) ?_
    refine T_go rfl rfl (st_call fn176 rfl ((insertionSort_ok v xs _ hO (by omega)).mono ?_))
    rintro q w1 h1
    refine T_nil ?_
    refine W_ret ?_
    exact Res_0 rfl h1
  · exfalso; omega
set_option maxHeartbeats 4000000 in
theorem sortInts_ok (v : Value) (xs : List Int) (w : World) (hO : OI w v xs) (hl : xs.length ≤ 12) :
    CallsR Try.prog 167 #[v] w fun _ w' => ∃ ys, Kp (fun b => v.ownBlock = some b) w w' ∧ OI w' v ys ∧ ys.Perm xs ∧ Srt ys := by
  obtain ⟨A, c, rfl, hc⟩ := hO.ri.open
  have e := wrap_u64 xs.length
  refine fn_calls Try.func167 rfl rfl rfl ?_
  refine W_seq ?_
  refine W_reg ?_
  refine T_pu rfl rfl (pu_move rfl) ?_
  refine T_pu rfl rfl (pu_len Try.underlying22 rfl) ?_
  refine T_pu rfl rfl (pu_assign rfl) ?_
  refine T_nil ?_
  refine W_reg ?_
  refine T_pu rfl rfl (pu_move rfl) ?_
  refine T_pu rfl rfl (pu_move rfl) ?_
  refine T_pu rfl rfl (pu_move rfl) ?_
  refine T_pu rfl rfl (pu_conv Try.underlying3 Try.underlying132 rfl) ?_
  refine T_go rfl rfl (st_call fn164 rfl ((bitsLen_ok _ (by omega) _).mono ?_))
  rintro v w' ⟨⟨r, rfl⟩, rfl⟩
  refine T_go rfl rfl (st_call fn163 rfl ((pdq_ok _ xs r _ hO hl).mono ?_))
  rintro q w1 h1
  refine T_nil ?_
  exact Res_0 rfl h1
set_option maxHeartbeats 4000000 in
theorem sortGroups_ok (v : Value) (xs : List Int) (w : World) (hO : OI w v xs) (hl : xs.length ≤ 12) :
    CallsR Try.prog 122 #[v] w fun _ w' => ∃ ys, Kp (fun b => v.ownBlock = some b) w w' ∧ OI w' v ys ∧ ys.Perm xs ∧ Srt ys := by
  obtain ⟨A, c, rfl, hc⟩ := hO.ri.open
  have e := wrap_u64 xs.length
  refine fn_calls Try.func122 rfl rfl rfl ?_
  refine W_seq ?_
  refine W_reg ?_
  refine T_pu rfl rfl (pu_move rfl) ?_
  refine T_pu rfl rfl (pu_len Try.underlying110 rfl) ?_
  refine T_pu rfl rfl (pu_assign rfl) ?_
  refine T_nil ?_
  refine W_reg ?_
  refine T_pu rfl rfl (pu_move rfl) ?_
  refine T_pu rfl rfl (pu_move rfl) ?_
  refine T_pu rfl rfl (pu_move rfl) ?_
  refine T_pu rfl rfl (pu_conv Try.underlying3 Try.underlying132 rfl) ?_
  refine T_go rfl rfl (st_call fn164 rfl ((bitsLen_ok _ (by omega) _).mono ?_))
  rintro v w' ⟨⟨r, rfl⟩, rfl⟩
  refine T_go rfl rfl (st_call fn163 rfl ((pdq_ok _ xs r _ hO hl).mono ?_))
  rintro q w1 h1
  refine T_nil ?_
  exact Res_0 rfl h1
end Go.Proofs.Ytdpbfdjpeofbmaa.L
