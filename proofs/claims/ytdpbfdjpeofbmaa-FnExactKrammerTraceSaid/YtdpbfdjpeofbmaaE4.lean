/- The reference's products and unit matrices; what numbers are units. -/
import Derived.Test.YtdpbfdjpeofbmaaE3
namespace Go.Proofs.Ytdpbfdjpeofbmaa.L
set_option linter.unusedVariables false
set_option maxRecDepth 100000

theorem isUnit_ok (x : Int) (w : World) : CallsR Try.prog 88 #[.int .i64 x] w fun v w' => v = .bool (decide (1 ≤ x ∧ x ≤ 10006)) ∧ w = w' := by
  refine fn_calls Try.func88 rfl rfl rfl ?_
  refine W_seq ?_
  refine W_reg ?_
  refine T_pu rfl rfl (pu_assign rfl) ?_
  refine T_nil ?_
  refine W_seq ?_
  refine W_reg ?_
  refine T_pu rfl rfl (pu_move rfl) ?_
  refine T_go rfl rfl (st_call fn98 rfl ((within_ok _ _ _ _).mono ?_))
  rintro v w' ⟨rfl, rfl⟩
  refine T_pu rfl rfl (pu_assign rfl) ?_
  refine T_nil ?_
  refine W_ret ?_
  exact Res_1 rfl rfl ⟨rfl, rfl⟩
def numsR (n least : Int) (xs ys : List Int) : Int := if ¬ Br n xs then 1 else if ¬ ∀ y ∈ ys, 1 ≤ y ∧ y ≤ 10006 then 2 else if n < least then 2 else 0
set_option maxHeartbeats 4000000 in
theorem l09Numbers_ok (n least : Int) (v u : Value) (xs ys : List Int) (w : World) (hv : RI w v xs) (hl : xs.length ≤ 9223372036854775807) (hw : ∀ x ∈ xs, -9223372036854775808 ≤ x ∧ x ≤ 9223372036854775807) (hu : RI w u ys) (hl2 : ys.length ≤ 1000) :
    CallsR Try.prog 86 #[.agg #[.int .i64 n, v], .int .i64 least, u] w fun r w' => r = .int .i64 (numsR n least xs ys) ∧ Kp no w w' := by
  obtain ⟨A, c, rfl, hc⟩ := hv.open
  obtain ⟨B, c2, rfl, hc2⟩ := hu.open
  have hs := St.start w
  refine fn_calls Try.func86 rfl rfl rfl ?_
  refine W_seq ?_
  refine W_reg ?_
  refine T_go rfl rfl (st_boxS hs rfl fun w1 b1 hk1 hb1 hs => ?_)
  refine T_pu rfl rfl (pu_assign rfl) ?_
  refine T_nil ?_
  refine W_seq ?_
  refine W_seq ?_
  refine W_reg ?_
  refine T_pi rfl rfl (pi_loadAgg Try.underlying28 rfl ty28 rfl (fun w' h => by obtain rfl := h; exact (by first | exact (hs.bk 0 rfl).cells)) (by first | rfl | (simp; done) | (rw [nums_length]; assumption) | assumption)) ?_
  refine T_go rfl rfl (st_call fn67 rfl ((l01Is_ok n _ xs _ (hv.keep hs.kp) hl hw).mono ?_))
  rintro v w2 ⟨rfl, hk2⟩
  have hs := hs.next hk2
  refine T_pu rfl rfl (pu_notp rfl) ?_
  refine T_nil ?_
  refine W_if rfl (fun hc1 => ?_) (fun hc1 => ?_)
  · refine W_seq ?_
    refine W_reg ?_
    refine T_pu rfl rfl (pu_assign rfl) ?_
    refine T_nil ?_
    refine W_ret ?_
    exact Res_1 rfl rfl ⟨by unfold numsR; rw [if_pos hc1], hs.kp⟩
  · refine W_skip ?_
    refine W_seq ?_
    refine W_seq ?_
    refine W_reg ?_
    refine T_pu rfl rfl (pu_assign rfl) ?_
    refine T_nil ?_
    refine W_block ?_
    refine W_loop (σ := Nat) (fun k => [(1, .int .i64 least), (2, .slice B ys.length c2), (3, .pointer (some ⟨b1, 0, none⟩)), (7, .int .i64 k)]) (fun k w' => k ≤ ys.length ∧ w2 = w' ∧ ∀ i : Nat, i < k → 1 ≤ rd ys i ∧ rd ys i ≤ 10006) (fun k => ys.length - k) 0 ?_ ?_ ?_
    · exact .cons rfl (.cons rfl (.cons rfl (.cons rfl (.nil _))))
    · exact ⟨Nat.zero_le _, rfl, fun i h => by omega⟩
    rintro k w3 ⟨hkl, rfl, hall⟩
    refine W_seq ?_
    refine W_seq ?_
    refine W_reg ?_
    refine T_pu rfl rfl (pu_move rfl) ?_
    refine T_pu rfl rfl (pu_move rfl) ?_
    refine T_pu rfl rfl (pu_len Try.underlying22 rfl) ?_
    refine T_pu rfl rfl (pu_lss rfl rfl) ?_
    refine T_nil ?_
    refine W_if rfl (fun hc4 => ?_) (fun hc4 => ?_)
    · refine W_skip ?_
      refine W_seq ?_
      refine W_block ?_
      refine W_seq ?_
      obtain ⟨a, rfl⟩ := hu.addr (i := k) (by omega) (by omega)
      have hcell := (hu.keep hs.kp).at (i := k) (by omega) (by omega)
      refine W_reg ?_
      refine T_pu rfl rfl (pu_move rfl) ?_
      refine T_pu rfl rfl (pu_move rfl) ?_
      refine T_pu rfl rfl ((by first | exact pu_ix1 Try.underlying22 ty2 rfl rfl (by omega) (by omega) | exact pu_index Try.underlying22 ty2 rfl rfl (by omega) (by omega))) ?_
      refine T_pi rfl rfl (pi_load Try.underlying2 rfl rfl (fun w' h => by obtain rfl := h; exact (by first | exact hcell))) ?_
      refine T_go rfl rfl (st_call fn135 rfl ((l01In_ok _ _ _ _).mono ?_))
      rintro v w' ⟨rfl, rfl⟩
      refine T_pu rfl rfl (pu_notp rfl) ?_
      refine T_nil ?_
      refine W_if rfl (fun hc6 => ?_) (fun hc6 => ?_)
      · refine W_seq ?_
        refine W_reg ?_
        refine T_pu rfl rfl (pu_assign rfl) ?_
        refine T_nil ?_
        refine W_ret ?_
        refine Res_1 rfl rfl ⟨?_, hs.kp⟩
        unfold numsR
        rw [if_neg hc1, if_pos fun h => hc6 (h _ (rd_mem (by omega)))]
      · refine W_skip ?_
        refine W_reg ?_
        refine T_pu rfl rfl (pu_move rfl) ?_
        refine T_pu rfl rfl (pu_add64 rfl rfl (by omega)) ?_
        refine T_pu rfl rfl (pu_assign rfl) ?_
        refine T_nil ?_
        exact ⟨k + 1, .cons rfl (.cons rfl (.cons rfl (.cons rfl (.nil _)))), ⟨by omega, rfl, fun i hi => by
          by_cases e' : i = k
          · subst e'; exact Decidable.not_not.1 hc6
          · exact hall i (by omega)⟩, by omega⟩
    · refine W_exit rfl ?_
      refine W_seq ?_
      refine W_seq ?_
      have hall2 : ∀ y ∈ ys, 1 ≤ y ∧ y ≤ 10006 := take_all hall (by omega)
      refine W_reg ?_
      refine T_pu rfl rfl (pu_fld (off := 0) Try.underlying28 rfl rfl ty2 rfl rfl) ?_
      refine T_pi rfl rfl (pi_load Try.underlying2 rfl rfl (fun w' h => by obtain rfl := h; exact (by first | exact (hs.bk 0 rfl).cell rfl))) ?_
      refine T_pu rfl rfl (pu_move rfl) ?_
      refine T_pu rfl rfl (pu_lss rfl rfl) ?_
      refine T_nil ?_
      refine W_if rfl (fun hc8 => ?_) (fun hc8 => ?_)
      · refine W_seq ?_
        refine W_reg ?_
        refine T_pu rfl rfl (pu_assign rfl) ?_
        refine T_nil ?_
        refine W_ret ?_
        exact Res_1 rfl rfl ⟨by unfold numsR; rw [if_neg hc1, if_neg (not_not_intro hall2), if_pos hc8], hs.kp⟩
      · refine W_skip ?_
        refine W_seq ?_
        refine W_reg ?_
        refine T_pu rfl rfl (pu_assign rfl) ?_
        refine T_nil ?_
        refine W_ret ?_
        exact Res_1 rfl rfl ⟨by unfold numsR; rw [if_neg hc1, if_neg (not_not_intro hall2), if_neg hc8], hs.kp⟩
def unM (n : Nat) (k : Int) : List (List Int) := (List.range n).map fun i => unitAt n i k
theorem unM_length (n : Nat) (k : Int) : (unM n k).length = n := by simp [unM]
theorem unM_rr {n i : Nat} {k : Int} (h : i < n) : rr (unM n k) i = unitAt n i k := by
  unfold rr unM
  simp [List.getD_eq_getElem?_getD, h]
set_option maxHeartbeats 4000000 in
theorem l09Unit_ok (n : Nat) (hn : n ≤ 1000) (k : Int) (w : World) : CallsR Try.prog 147 #[.int .i64 n, .int .i64 k] w fun r w' => NewM w w' r (unM n k) := by
  have hs := St.start w
  have hul := unM_length n k
  refine fn_calls Try.func147 rfl rfl rfl ?_
  refine W_seq ?_
  refine W_reg ?_
  refine T_pu rfl rfl (pu_assign rfl) ?_
  refine T_nil ?_
  refine W_seq ?_
  refine W_reg ?_
  refine T_go rfl rfl (st_litM hs (fun _ => by kernel_rfl) fun w1 b1 hk1 hb1 hs => ?_)
  refine T_pu rfl rfl (pu_assign rfl) ?_
  refine T_nil ?_
  refine W_seq ?_
  refine W_seq ?_
  refine W_reg ?_
  refine T_pu rfl rfl (pu_assign rfl) ?_
  refine T_nil ?_
  refine W_block ?_
  refine W_loop (σ := Nat × Value) (fun s => [(0, .int .i64 n), (1, .int .i64 k), (5, s.2), (6, .int .i64 s.1)]) (fun s w' => s.1 ≤ n ∧ ∃ hds, St no w [aMat s.2 hds ((unM n k).take s.1)] w') (fun s => n - s.1) (0, .slice (some ⟨b1, 0, none⟩) 0 0) ?_ ?_ ?_
  · exact .cons rfl (.cons rfl (.cons rfl (.cons rfl (.nil _))))
  · exact ⟨Nat.zero_le _, [], hs⟩
  repeat clear hs
  rintro ⟨i, u⟩ w2 ⟨hin, hds, hs⟩
  dsimp only at hin hs ⊢
  refine W_seq ?_
  refine W_seq ?_
  refine W_reg ?_
  refine T_pu rfl rfl (pu_move rfl) ?_
  refine T_pu rfl rfl (pu_move rfl) ?_
  refine T_pu rfl rfl (pu_lss rfl rfl) ?_
  refine T_nil ?_
  refine W_if rfl (fun hc3 => ?_) (fun hc3 => ?_)
  · refine W_skip ?_
    refine W_seq ?_
    refine W_block ?_
    refine W_seq ?_
    refine W_reg ?_
    refine T_pu rfl rfl (pu_move rfl) ?_
    refine T_go rfl rfl (st_makeI hs Try.underlying22 ty2 rfl rfl (by omega) fun w3 b3 hk3 hb3 hs => ?_)
    refine T_pu rfl rfl (pu_assign rfl) ?_
    refine T_nil ?_
    refine W_seq ?_
    refine W_reg ?_
    refine T_pu rfl rfl (pu_move rfl) ?_
    refine T_pu rfl rfl (pu_move rfl) ?_
    refine T_pu rfl rfl (pu_move rfl) ?_
    refine T_pu rfl rfl ((by first | exact pu_ix1 Try.underlying22 ty2 rfl rfl (by omega) (by omega) | exact pu_index Try.underlying22 ty2 rfl rfl (by omega) (by omega))) ?_
    refine T_goN rfl (st_storeI hs 0 rfl ty2 rfl rfl (by omega) (by first | omega | (simp; omega)) fun w4 hk4 hs => ?_)
    simp only [List.set_cons_zero, Int.toNat_natCast] at hs
    rw [show (List.replicate n 0).set i k = rr (unM n k) i from (unM_rr (by omega)).symm] at hs
    refine T_nil ?_
    refine W_reg ?_
    refine T_pu rfl rfl (pu_move rfl) ?_
    refine T_pu rfl rfl (pu_move rfl) ?_
    refine T_go rfl rfl (st_litR hs rfl (fun _ => by kernel_rfl) fun w5 b5 hk5 hb5 hs hU => ?_)
    have hs := hs.front 1 rfl
    refine T_go rfl rfl (st_appendM (by' := 0) hs Try.underlying32 ty22 rfl rfl hU rfl (by rw [List.length_take]; omega) fun u' w6 hs hk6 hf6 => ?_)
    rw [← take_rr (by omega)] at hs
    refine T_pu rfl rfl (pu_assign rfl) ?_
    refine T_nil ?_
    refine W_reg ?_
    refine T_pu rfl rfl (pu_move rfl) ?_
    refine T_pu rfl rfl (pu_add64 rfl rfl (by omega)) ?_
    refine T_pu rfl rfl (pu_assign rfl) ?_
    refine T_nil ?_
    exact ⟨(i + 1, u'), .cons rfl (.cons rfl (.cons rfl (.cons rfl (.nil _)))), ⟨by show i + 1 ≤ n; omega, _, hs⟩, by show n - (i + 1) < n - i; omega⟩
  · refine W_exit rfl ?_
    refine W_seq ?_
    refine W_reg ?_
    refine T_pu rfl rfl (pu_move rfl) ?_
    refine T_pu rfl rfl (pu_assign rfl) ?_
    refine T_nil ?_
    refine W_ret ?_
    obtain rfl : i = n := by omega
    rw [List.take_of_length_le (by omega)] at hs
    exact Res_1 rfl rfl (hs.isNewM 0 rfl)
def rowP (A B : List (List Int)) (x k j : Nat) : Nat → Int := fun b => if b < j then dot A B x b (k + 1) else dot A B x b k
set_option maxHeartbeats 16000000 in
theorem l09Times_ok (n : Nat) (hn : 1 ≤ n ∧ n ≤ 1000) (v u : Value) (A B : List (List Int)) (w : World) (hv : RM w v A) (hu : RM w u B) (hA : Fq n A) (hB : Fq n B) :
    CallsR Try.prog 97 #[v, u] w fun r w' => NewM w w' r (mulM A B) := by
  have hAl := hA.1
  have hBl := hB.1
  obtain ⟨P, c, rfl, hc⟩ := hv.open
  obtain ⟨P', c', rfl, hc'⟩ := hu.open
  rw [hAl] at hc hv ⊢
  rw [hBl] at hc' hu ⊢
  have hs := St.start w
  have hMl : (mulM A B).length = n := by unfold mulM; rw [fmat_length, hAl]
  have hMr : ∀ x : Nat, x < n → rr (mulM A B) x = frow n fun j => dot A B x j n := fun x hx => by unfold mulM; rw [hAl]; exact fmat_frow hx
  generalize mulM A B = M at hMl hMr ⊢
  refine fn_calls Try.func97 rfl rfl rfl ?_
  refine W_seq ?_
  refine W_reg ?_
  refine T_pu rfl rfl (pu_assign rfl) ?_
  refine T_nil ?_
  refine W_seq ?_
  refine W_reg ?_
  refine T_go rfl rfl (st_litM hs (fun _ => by kernel_rfl) fun w1 b1 hk1 hb1 hs => ?_)
  refine T_pu rfl rfl (pu_assign rfl) ?_
  refine T_nil ?_
  refine W_seq ?_
  refine W_seq ?_
  refine W_reg ?_
  refine T_pu rfl rfl (pu_assign rfl) ?_
  refine T_nil ?_
  refine W_block ?_
  refine W_loop (σ := Nat × Value) (fun s => [(0, .slice P n c), (1, .slice P' n c'), (5, s.2), (6, .int .i64 s.1)]) (fun s w' => s.1 ≤ n ∧ ∃ hds, St no w [aMat s.2 hds (M.take s.1)] w') (fun s => n - s.1) (0, .slice (some ⟨b1, 0, none⟩) 0 0) ?_ ?_ ?_
  · exact .cons rfl (.cons rfl (.cons rfl (.cons rfl (.nil _))))
  · exact ⟨Nat.zero_le _, [], hs⟩
  repeat clear hs
  rintro ⟨x, um⟩ w2 ⟨hxn, hds, hs⟩
  dsimp only at hxn hs ⊢
  refine W_seq ?_
  refine W_seq ?_
  refine W_reg ?_
  refine T_pu rfl rfl (pu_move rfl) ?_
  refine T_pu rfl rfl (pu_move rfl) ?_
  refine T_pu rfl rfl (pu_len Try.underlying32 rfl) ?_
  refine T_pu rfl rfl (pu_lss rfl rfl) ?_
  refine T_nil ?_
  refine W_if rfl (fun hc3 => ?_) (fun hc3 => ?_)
  · refine W_skip ?_
    refine W_seq ?_
    refine W_block ?_
    refine W_seq ?_
    refine W_reg ?_
    refine T_pu rfl rfl (pu_move rfl) ?_
    refine T_pu rfl rfl (pu_len Try.underlying32 rfl) ?_
    refine T_go rfl rfl (st_makeI hs Try.underlying22 ty2 rfl rfl (by omega) fun w3 b3 hk3 hb3 hs => ?_)
    rw [frow_zero, show frow n (fun _ => 0) = frow n (rowP A B x 0 0) from frow_congr fun b _ => by unfold rowP; rw [if_neg (by omega)]; rfl] at hs
    obtain ⟨a, R, cR, rfl, hcx, hRI⟩ := hv.row (i := x) (by omega) (by omega)
    have hxl := (hA.2 x (by omega) (by omega)).1
    rw [hxl] at hcx hRI
    have hxr := (hA.2 x (by omega) (by omega)).2
    refine T_pu rfl rfl (pu_assign rfl) ?_
    refine T_nil ?_
    refine W_seq ?_
    refine W_seq ?_
    refine W_reg ?_
    refine T_pu rfl rfl (pu_assign rfl) ?_
    refine T_nil ?_
    refine W_block ?_
    refine W_loop (σ := Nat) (fun k => [(0, .slice (some a) n c), (1, .slice P' n c'), (5, um), (6, .int .i64 x), (7, .slice (some ⟨b3, 0, none⟩) n n), (8, .int .i64 k)]) (fun k w' => k ≤ n ∧ St no w [aOI (.slice (some ⟨b3, 0, none⟩) n n) (frow n (rowP A B x k 0)), aMat um hds (M.take x)] w') (fun k => n - k) 0 ?_ ?_ ?_
    · exact .cons rfl (.cons rfl (.cons rfl (.cons rfl (.cons rfl (.cons rfl (.nil _))))))
    · exact ⟨Nat.zero_le _, hs⟩
    repeat clear hs
    rintro k w4 ⟨hkn, hs⟩
    refine W_seq ?_
    refine W_seq ?_
    refine W_reg ?_
    refine T_pu rfl rfl (pu_move rfl) ?_
    refine T_pu rfl rfl (pu_move rfl) ?_
    refine T_pu rfl rfl (pu_len Try.underlying32 rfl) ?_
    refine T_pu rfl rfl (pu_lss rfl rfl) ?_
    refine T_nil ?_
    refine W_if rfl (fun hc7 => ?_) (fun hc7 => ?_)
    · refine W_skip ?_
      refine W_seq ?_
      refine W_block ?_
      refine W_seq ?_
      obtain ⟨b, rfl⟩ := hRI.addr (i := k) (by omega) (by omega)
      have hck0 := hRI.at (i := k) (by omega) (by omega)
      have hak := hxr k (by omega) (by omega)
      have hsk := fun b => dot_skip (A := A) (B := B) (i := x) (j := b) (k := k)
      have hdk : ∀ y, dot A B x y (k + 1) = (dot A B x y k + rd2 A x k * rd2 B k y) % 10007 := fun y => rfl
      rw [show rd (rr A x) k = rd2 A x k from rfl] at hck0
      generalize rd2 A x k = ak at hck0 hak hsk hdk
      obtain ⟨a3, R3, cR3, rfl, hcb, hRB⟩ := hu.row (i := k) (by omega) (by omega)
      have hbl := (hB.2 k (by omega) (by omega)).1
      rw [hbl] at hcb hRB
      have hbr := (hB.2 k (by omega) (by omega)).2
      refine W_reg ?_
      refine T_pu rfl rfl (pu_assign rfl) ?_
      refine T_nil ?_
      refine W_block ?_
      refine W_loop (σ := Nat) (fun j => [(0, .slice (some a) n c), (1, .slice (some a3) n c'), (5, um), (6, .int .i64 x), (7, .slice (some ⟨b3, 0, none⟩) n n), (8, .int .i64 k), (9, .int .i64 j)]) (fun j w' => j ≤ n ∧ (j = 0 ∨ ak ≠ 0) ∧ St no w [aOI (.slice (some ⟨b3, 0, none⟩) n n) (frow n (rowP A B x k j)), aMat um hds (M.take x)] w') (fun j => n - j) 0 ?_ ?_ ?_
      · exact .cons rfl (.cons rfl (.cons rfl (.cons rfl (.cons rfl (.cons rfl (.cons rfl (.nil _)))))))
      · exact ⟨Nat.zero_le _, .inl rfl, hs⟩
      repeat clear hs
      rintro j w5 ⟨hjn, hj0, hs⟩
      refine W_seq ?_
      refine W_seq ?_
      refine W_reg ?_
      refine T_pu rfl rfl (pu_move rfl) ?_
      refine T_pu rfl rfl (pu_move rfl) ?_
      refine T_pu rfl rfl (pu_len Try.underlying32 rfl) ?_
      refine T_pu rfl rfl (pu_lss rfl rfl) ?_
      refine T_if rfl rfl (pu_move rfl) (fun hg10_4 => ?_) (fun hg10_4 => ?_)
      · refine T_pu rfl rfl (pu_move rfl) ?_
        refine T_pu rfl rfl (pu_move rfl) ?_
        refine T_pu rfl rfl ((by first | exact pu_ix1 Try.underlying32 ty22 rfl rfl (by omega) (by omega) | exact pu_index Try.underlying32 ty22 rfl rfl (by omega) (by omega))) ?_
        refine T_pi rfl rfl (pi_load Try.underlying22 rfl rfl (fun w' h => by obtain rfl := h; exact (by first | exact hs.kp.cell hcx id | exact hs.kp.cell hck0 id))) ?_
        refine T_pu rfl rfl (pu_move rfl) ?_
        refine T_pu rfl rfl ((by first | exact pu_ix1 Try.underlying22 ty2 rfl rfl (by omega) (by omega) | exact pu_index Try.underlying22 ty2 rfl rfl (by omega) (by omega))) ?_
        refine T_pi rfl rfl (pi_load Try.underlying2 rfl rfl (fun w' h => by obtain rfl := h; exact (by first | exact hs.kp.cell hcx id | exact hs.kp.cell hck0 id))) ?_
        refine T_pu rfl rfl (pu_neq rfl rfl) ?_
        refine T_pu rfl rfl (pu_pick_t rfl rfl) ?_
        refine T_nil ?_
        refine W_if rfl (fun hc10 => ?_) (fun hc10 => ?_)
        · refine W_skip ?_
          refine W_seq ?_
          refine W_block ?_
          refine W_draw mixed 24 IS (fun w6 hk6 => ?_)
          have hs := hs.next hk6
          obtain ⟨b4, rfl⟩ := hRB.addr (i := j) (by omega) (by omega)
          have hcy := (hRB.keep hs.kp).at (i := j) (by omega) (by omega)
          have hby := hbr j (by omega) (by omega)
          have hdy := hdk j
          rw [show rd (rr B k) j = rd2 B k j from rfl] at hcy
          generalize rd2 B k j = bk at hcy hby hdy
          have hdr := dot_range A B x j k
          have hmr := emul_range hak hby
          have hct := (hs.oi 0 rfl).ri.at0 (i := j) (by omega) (by rw [frow_length]; omega)
          rw [frow_rd (by omega) (by omega), Int.toNat_natCast, show rowP A B x k j j = dot A B x j k by unfold rowP; rw [if_neg (by omega)]] at hct
          generalize dot A B x j k = dk at hct hdy hdr
          refine D_pu 0 (by kernel_rfl) rfl (by kernel_rfl) (by kernel_rfl) rfl rfl (by kernel_rfl) (Pu.stable (pu_move rfl)) ?_
          refine D_pu 1 (by kernel_rfl) rfl (by kernel_rfl) (by kernel_rfl) rfl rfl (by kernel_rfl) (Pu.stable (pu_move rfl)) ?_
          refine D_pu 2 (by kernel_rfl) rfl (by kernel_rfl) (by kernel_rfl) rfl rfl (by kernel_rfl) (Pu.stable (pu_move rfl)) ?_
          refine D_pu 3 (by kernel_rfl) rfl (by kernel_rfl) (by kernel_rfl) rfl rfl (by kernel_rfl) (Pu.stable (pu_move rfl)) ?_
          refine D_pu 4 (by kernel_rfl) rfl (by kernel_rfl) (by kernel_rfl) rfl rfl (by kernel_rfl) (Pu.stable ((by first | exact pu_ix1 Try.underlying22 ty2 rfl rfl (by omega) (by omega) | exact pu_index Try.underlying22 ty2 rfl rfl (by omega) (by omega)))) ?_
          refine D_rd 5 (by kernel_rfl) rfl (by kernel_rfl) (by kernel_rfl) rfl rfl (by kernel_rfl) (by kernel_rfl) (by kernel_rfl) (pi_load Try.underlying2 rfl rfl (fun w' h => by obtain rfl := h rfl; exact (by first | exact hct | exact hs.kp.cell hcx id | exact hs.kp.cell hck0 id | exact hs.kp.cell hcb id | exact hcy))) ?_
          refine D_pu 6 (by kernel_rfl) rfl (by kernel_rfl) (by kernel_rfl) rfl rfl (by kernel_rfl) (Pu.stable (pu_move rfl)) ?_
          refine D_pu 7 (by kernel_rfl) rfl (by kernel_rfl) (by kernel_rfl) rfl rfl (by kernel_rfl) (Pu.stable (pu_move rfl)) ?_
          refine D_pu 8 (by kernel_rfl) rfl (by kernel_rfl) (by kernel_rfl) rfl rfl (by kernel_rfl) (Pu.stable ((by first | exact pu_ix1 Try.underlying32 ty22 rfl rfl (by omega) (by omega) | exact pu_index Try.underlying32 ty22 rfl rfl (by omega) (by omega)))) ?_
          refine D_rd 9 (by kernel_rfl) rfl (by kernel_rfl) (by kernel_rfl) rfl rfl (by kernel_rfl) (by kernel_rfl) (by kernel_rfl) (pi_load Try.underlying22 rfl rfl (fun w' h => by obtain rfl := h rfl; exact (by first | exact hct | exact hs.kp.cell hcx id | exact hs.kp.cell hck0 id | exact hs.kp.cell hcb id | exact hcy))) ?_
          refine D_pu 10 (by kernel_rfl) rfl (by kernel_rfl) (by kernel_rfl) rfl rfl (by kernel_rfl) (Pu.stable (pu_move rfl)) ?_
          refine D_pu 11 (by kernel_rfl) rfl (by kernel_rfl) (by kernel_rfl) rfl rfl (by kernel_rfl) (Pu.stable ((by first | exact pu_ix1 Try.underlying22 ty2 rfl rfl (by omega) (by omega) | exact pu_index Try.underlying22 ty2 rfl rfl (by omega) (by omega)))) ?_
          refine D_rd 12 (by kernel_rfl) rfl (by kernel_rfl) (by kernel_rfl) rfl rfl (by kernel_rfl) (by kernel_rfl) (by kernel_rfl) (pi_load Try.underlying2 rfl rfl (fun w' h => by obtain rfl := h rfl; exact (by first | exact hct | exact hs.kp.cell hcx id | exact hs.kp.cell hck0 id | exact hs.kp.cell hcb id | exact hcy))) ?_
          refine D_pu 13 (by kernel_rfl) rfl (by kernel_rfl) (by kernel_rfl) rfl rfl (by kernel_rfl) (Pu.stable (pu_move rfl)) ?_
          refine D_pu 14 (by kernel_rfl) rfl (by kernel_rfl) (by kernel_rfl) rfl rfl (by kernel_rfl) (Pu.stable (pu_move rfl)) ?_
          refine D_pu 15 (by kernel_rfl) rfl (by kernel_rfl) (by kernel_rfl) rfl rfl (by kernel_rfl) (Pu.stable ((by first | exact pu_ix1 Try.underlying32 ty22 rfl rfl (by omega) (by omega) | exact pu_index Try.underlying32 ty22 rfl rfl (by omega) (by omega)))) ?_
          refine D_rd 16 (by kernel_rfl) rfl (by kernel_rfl) (by kernel_rfl) rfl rfl (by kernel_rfl) (by kernel_rfl) (by kernel_rfl) (pi_load Try.underlying22 rfl rfl (fun w' h => by obtain rfl := h rfl; exact (by first | exact hct | exact hs.kp.cell hcx id | exact hs.kp.cell hck0 id | exact hs.kp.cell hcb id | exact hcy))) ?_
          refine D_pu 17 (by kernel_rfl) rfl (by kernel_rfl) (by kernel_rfl) rfl rfl (by kernel_rfl) (Pu.stable (pu_move rfl)) ?_
          refine D_pu 18 (by kernel_rfl) rfl (by kernel_rfl) (by kernel_rfl) rfl rfl (by kernel_rfl) (Pu.stable ((by first | exact pu_ix1 Try.underlying22 ty2 rfl rfl (by omega) (by omega) | exact pu_index Try.underlying22 ty2 rfl rfl (by omega) (by omega)))) ?_
          refine D_rd 19 (by kernel_rfl) rfl (by kernel_rfl) (by kernel_rfl) rfl rfl (by kernel_rfl) (by kernel_rfl) (by kernel_rfl) (pi_load Try.underlying2 rfl rfl (fun w' h => by obtain rfl := h rfl; exact (by first | exact hct | exact hs.kp.cell hcx id | exact hs.kp.cell hck0 id | exact hs.kp.cell hcb id | exact hcy))) ?_
          refine D_pu 20 (by kernel_rfl) rfl (by kernel_rfl) (by kernel_rfl) rfl rfl (by kernel_rfl) (Pu.stable (pu_mul64 rfl rfl (by omega))) ?_
          refine D_pu 21 (by kernel_rfl) rfl (by kernel_rfl) (by kernel_rfl) rfl rfl (by kernel_rfl) (Pu.stable (pu_add64 rfl rfl (by omega))) ?_
          refine D_pu 22 (by kernel_rfl) rfl (by kernel_rfl) (by kernel_rfl) rfl rfl (by kernel_rfl) (Pu.stable (pu_rem rfl rfl (by omega))) ?_
          refine D_pu 23 (by kernel_rfl) rfl (by kernel_rfl) (by kernel_rfl) rfl rfl (by kernel_rfl) (Pu.stable ((by first | exact pu_ix1 Try.underlying22 ty2 rfl rfl (by omega) (by omega) | exact pu_index Try.underlying22 ty2 rfl rfl (by omega) (by omega)))) ?_
          refine D_goN 24 (by kernel_rfl) (by first | rfl | (intro _; rfl) | (intro h; exact absurd (show true = false from h) (by decide)) | exact Kp.refl _ _ | assumption) rfl rfl (st_storeI hs 0 rfl ty2 rfl rfl (by omega) (by rw [frow_length]; omega) fun w7 hk7 hs => ?_)
          rw [Int.toNat_natCast, tmod_nn (by omega), ← hdy, frow_set (by omega), show (frow n fun i => if i = j then dot A B x j (k + 1) else rowP A B x k j i) = frow n (rowP A B x k (j + 1)) from frow_congr fun i _ => by
            unfold rowP
            by_cases hi : i = j
            · rw [if_pos hi, if_pos (by omega), hi]
            · rw [if_neg hi]
              by_cases hi2 : i < j
              · rw [if_pos hi2, if_pos (by omega)]
              · rw [if_neg hi2, if_neg (by omega)]] at hs
          simp only [List.set_cons_zero] at hs
          refine D_done (by kernel_rfl) (by first | rfl | (intro _; rfl) | (intro h; exact absurd (show true = false from h) (by decide)) | exact Kp.refl _ _ | assumption) ?_
          refine W_reg ?_
          refine T_pu rfl rfl (pu_move rfl) ?_
          refine T_pu rfl rfl (pu_add64 rfl rfl (by omega)) ?_
          refine T_pu rfl rfl (pu_assign rfl) ?_
          refine T_nil ?_
          exact ⟨j + 1, .cons rfl (.cons rfl (.cons rfl (.cons rfl (.cons rfl (.cons rfl (.cons rfl (.nil _))))))), ⟨by omega, .inr (by omega), hs⟩, by omega⟩
        · refine W_exit rfl ?_
          rw [show frow n (rowP A B x k j) = frow n (rowP A B x (k + 1) 0) from frow_congr fun b hb => by
            unfold rowP
            rw [if_neg (show ¬ b < 0 by omega)]
            by_cases h0 : ak = 0
            · rw [hsk b h0]; exact ite_self _
            · rw [if_pos (show b < j by omega)]] at hs
          refine W_reg ?_
          refine T_pu rfl rfl (pu_move rfl) ?_
          refine T_pu rfl rfl (pu_add64 rfl rfl (by omega)) ?_
          refine T_pu rfl rfl (pu_assign rfl) ?_
          refine T_nil ?_
          exact ⟨k + 1, .cons rfl (.cons rfl (.cons rfl (.cons rfl (.cons rfl (.cons rfl (.nil _)))))), ⟨by omega, hs⟩, by omega⟩
      · refine T_no rfl rfl ?_
        refine T_no rfl rfl ?_
        refine T_no rfl rfl ?_
        refine T_no rfl rfl ?_
        refine T_no rfl rfl ?_
        refine T_no rfl rfl ?_
        refine T_no rfl rfl ?_
        refine T_no rfl rfl ?_
        refine T_pu rfl rfl (pu_pick_f rfl rfl) ?_
        refine T_nil ?_
        refine W_false rfl ?_
        refine W_exit rfl ?_
        rw [show frow n (rowP A B x k j) = frow n (rowP A B x (k + 1) 0) from frow_congr fun b hb => by
          unfold rowP
          rw [if_neg (show ¬ b < 0 by omega)]
          by_cases h0 : ak = 0
          · rw [hsk b h0]; exact ite_self _
          · rw [if_pos (show b < j by omega)]] at hs
        refine W_reg ?_
        refine T_pu rfl rfl (pu_move rfl) ?_
        refine T_pu rfl rfl (pu_add64 rfl rfl (by omega)) ?_
        refine T_pu rfl rfl (pu_assign rfl) ?_
        refine T_nil ?_
        exact ⟨k + 1, .cons rfl (.cons rfl (.cons rfl (.cons rfl (.cons rfl (.cons rfl (.nil _)))))), ⟨by omega, hs⟩, by omega⟩
    · refine W_exit rfl ?_
      obtain rfl : k = n := by omega
      rw [show frow k (rowP A B x k 0) = rr M x by rw [hMr x (by omega)]; exact frow_congr fun b _ => by unfold rowP; rw [if_neg (by omega)]] at hs
      have hs := hs.front 1 rfl
      refine W_reg ?_
      refine T_pu rfl rfl (pu_move rfl) ?_
      refine T_pu rfl rfl (pu_move rfl) ?_
      refine T_go rfl rfl (st_litR hs rfl (fun _ => by kernel_rfl) fun w8 b8 hk8 hb8 hs hU => ?_)
      refine T_go rfl rfl (st_appendM (by' := 0) hs Try.underlying32 ty22 rfl rfl hU rfl (by rw [List.length_take]; omega) fun u' w9 hs hk9 hf9 => ?_)
      rw [← take_rr (by omega)] at hs
      refine T_pu rfl rfl (pu_assign rfl) ?_
      refine T_nil ?_
      refine W_reg ?_
      refine T_pu rfl rfl (pu_move rfl) ?_
      refine T_pu rfl rfl (pu_add64 rfl rfl (by omega)) ?_
      refine T_pu rfl rfl (pu_assign rfl) ?_
      refine T_nil ?_
      exact ⟨(x + 1, u'), .cons rfl (.cons rfl (.cons rfl (.cons rfl (.nil _)))), ⟨by show x + 1 ≤ _; omega, _, hs⟩, by show _ - (x + 1) < _ - x; omega⟩
  · refine W_exit rfl ?_
    refine W_seq ?_
    refine W_reg ?_
    refine T_pu rfl rfl (pu_move rfl) ?_
    refine T_pu rfl rfl (pu_assign rfl) ?_
    refine T_nil ?_
    refine W_ret ?_
    obtain rfl : x = n := by omega
    rw [List.take_of_length_le (by omega)] at hs
    exact Res_1 rfl rfl (hs.isNewM 0 rfl)
end Go.Proofs.Ytdpbfdjpeofbmaa.L
