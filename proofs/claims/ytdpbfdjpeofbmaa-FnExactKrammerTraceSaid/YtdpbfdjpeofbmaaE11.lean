/- Krammer's letters and matrices, the reference. -/
import Derived.Test.YtdpbfdjpeofbmaaE10
namespace Go.Proofs.Ytdpbfdjpeofbmaa.L
set_option linter.unusedVariables false
set_option maxRecDepth 100000

def krL (n : Nat) (q t : Int) (k : Int) : List (List Int) := krM n q t k.toNat
theorem krL_good {n : Nat} (hn : 2 ≤ n ∧ n ≤ 8) {q t : Int} (hq : 1 ≤ q ∧ q ≤ 10006) (ht : 1 ≤ t ∧ t ≤ 10006) {k : Int} (h0 : 1 ≤ k) (h1 : k ≤ n - 1) : Good (nPr n) (krL n q t k) := krM_good hn hq ht (by omega)
theorem krM_length (n : Nat) (q t : Int) (k : Nat) : (krM n q t k).length = nPr n := fmat_length _ _
theorem krM_rr {n : Nat} (hn : n ≤ 8) {q t : Int} {k i j : Nat} (h1 : 1 ≤ i) (h2 : i < j) (h3 : j ≤ n) : rr (krM n q t k) (pN n i j) = frow (nPr n) (KR n k q t i j) := by
  obtain ⟨e, h⟩ := pr_at hn h1 h2 h3
  unfold krM
  rw [fmat_frow h, e]
set_option maxHeartbeats 16000000 in
theorem l09Letter_ok (n : Nat) (hn : 2 ≤ n ∧ n ≤ 8) (l : Int) (hl : Lt n l) (q t : Int) (hq : 1 ≤ q ∧ q ≤ 10006) (ht : 1 ≤ t ∧ t ≤ 10006) (w : World) :
    CallsR Try.prog 149 #[.int .i64 n, .int .i64 l, .int .i64 q, .int .i64 t] w fun r w' => NewM w w' r (ltr (krL n q t) l) := by
  have hs := St.start w
  have hpq := pq_max hl
  have hlt := hl
  unfold Lt at hlt
  obtain ⟨k, hk⟩ : ∃ k : Nat, max l (-l) = k := ⟨(max l (-l)).toNat, by omega⟩
  have hgl := krL_good hn hq ht hpq.1 hpq.2
  have hlr : ltr (krL n q t) l = if l < 0 then invF (krM n q t k) else krM n q t k := by unfold ltr krL; rw [hk]; rfl
  rw [hk] at hpq hgl
  have hMl := krM_length n q t k
  have hMr := fun {i j : Nat} h1 h2 h3 => krM_rr (n := n) (q := q) (t := t) (k := k) (i := i) (j := j) hn.2 h1 h2 h3
  have hgl : Good (nPr n) (krM n q t k) := hgl
  have hN := nPr_le hn.2
  have hN1 : 1 ≤ nPr n := by have := (pr_at hn.2 (i := 1) (j := 2) (by omega) (by omega) (by omega)).2; omega
  rw [hlr]
  generalize krM n q t k = M at hMl hMr hgl ⊢
  refine fn_calls Try.func149 rfl rfl rfl ?_
  refine W_seq ?_
  refine W_reg ?_
  refine T_pu rfl rfl (pu_assign rfl) ?_
  refine T_nil ?_
  refine W_seq ?_
  refine W_reg ?_
  refine T_pu rfl rfl (pu_move rfl) ?_
  refine T_pu rfl rfl (pu_move rfl) ?_
  refine T_pu rfl rfl (pu_neg64 rfl (by omega)) ?_
  refine T_pu rfl rfl (pu_max rfl rfl) ?_
  rw [hk]
  refine T_go rfl rfl (st_litM hs (fun _ => by kernel_rfl) fun w1 b1 hk1 hb1 hs => ?_)
  refine T_pu rfl rfl (pu_assign rfl) ?_
  refine T_pu rfl rfl (pu_assign rfl) ?_
  refine T_nil ?_
  refine W_seq ?_
  refine W_seq ?_
  refine W_reg ?_
  refine T_pu rfl rfl (pu_assign rfl) ?_
  refine T_nil ?_
  refine W_block ?_
  refine W_loop (σ := Nat × Value) (fun s => [(0, .int .i64 n), (1, .int .i64 l), (2, .int .i64 q), (3, .int .i64 t), (9, .int .i64 k), (10, s.2), (11, .int .i64 (s.1 + 1 : Nat))]) (fun s w' => s.1 ≤ n ∧ ∃ hds, St no w [aMat s.2 hds (M.take (psN n s.1))] w') (fun s => n - s.1) (0, .slice (some ⟨b1, 0, none⟩) 0 0) ?_ ?_ ?_
  · exact .cons rfl (.cons rfl (.cons rfl (.cons rfl (.cons rfl (.cons rfl (.cons rfl (.nil _)))))))
  · exact ⟨Nat.zero_le _, [], hs⟩
  repeat clear hs
  rintro ⟨a, u⟩ w2 ⟨han, hds, hs⟩
  dsimp only at han hs ⊢
  have hps : psN n (a + 1) = psN n a + (n - (a + 1)) := rfl
  have hpl := ps_le hn.2 (i := a) (by omega)
  refine W_seq ?_
  refine W_seq ?_
  refine W_reg ?_
  refine T_pu rfl rfl (pu_move rfl) ?_
  refine T_pu rfl rfl (pu_move rfl) ?_
  refine T_pu rfl rfl (pu_leq rfl rfl) ?_
  refine T_nil ?_
  refine W_if rfl (fun hc3 => ?_) (fun hc3 => ?_)
  · refine W_skip ?_
    refine W_seq ?_
    refine W_block ?_
    refine W_seq ?_
    refine W_reg ?_
    refine T_pu rfl rfl (pu_move rfl) ?_
    refine T_pu rfl rfl (pu_add64 rfl rfl (by omega)) ?_
    refine T_pu rfl rfl (pu_assign rfl) ?_
    refine T_nil ?_
    refine W_block ?_
    refine W_loop (σ := Nat × Value) (fun s => [(0, .int .i64 n), (1, .int .i64 l), (2, .int .i64 q), (3, .int .i64 t), (9, .int .i64 k), (10, s.2), (11, .int .i64 (a + 1 : Nat)), (12, .int .i64 (a + 2 + s.1 : Nat))]) (fun s w' => s.1 ≤ n - (a + 1) ∧ ∃ hds, St no w [aMat s.2 hds (M.take (psN n a + s.1))] w') (fun s => n - s.1) (0, u) ?_ ?_ ?_
    · exact .cons rfl (.cons rfl (.cons rfl (.cons rfl (.cons rfl (.cons rfl (.cons rfl (.cons (by show some (Value.int .i64 _) = some (Value.int .i64 _); congr 2 <;> omega) (.nil _))))))))
    · exact ⟨Nat.zero_le _, hds, hs⟩
    repeat clear hs
    rintro ⟨c, u⟩ w3 ⟨hcn, hds, hs⟩
    dsimp only at hcn hs ⊢
    refine W_seq ?_
    refine W_seq ?_
    refine W_reg ?_
    refine T_pu rfl rfl (pu_move rfl) ?_
    refine T_pu rfl rfl (pu_move rfl) ?_
    refine T_pu rfl rfl (pu_leq rfl rfl) ?_
    refine T_nil ?_
    refine W_if rfl (fun hc6 => ?_) (fun hc6 => ?_)
    · refine W_skip ?_
      refine W_seq ?_
      refine W_block ?_
      refine W_reg ?_
      refine T_pu rfl rfl (pu_move rfl) ?_
      refine T_pu rfl rfl (pu_move rfl) ?_
      refine T_pu rfl rfl (pu_move rfl) ?_
      refine T_pu rfl rfl (pu_move rfl) ?_
      refine T_pu rfl rfl (pu_move rfl) ?_
      refine T_pu rfl rfl (pu_move rfl) ?_
      refine T_pu rfl rfl (pu_move rfl) ?_
      refine T_go rfl rfl (st_call fn168 rfl ((l09Row_ok n k (a + 1) (a + 2 + c) hn.2 (by omega) (by omega) (by omega) (by omega) q t hq ht _).mono ?_))
      rintro u4 w4 hn4
      have hpN : pN n (a + 1) (a + 2 + c) = psN n a + c := by unfold pN; rw [show a + 2 + c - (a + 1) - 1 = c by omega]; rfl
      have hplt := (pr_at hn.2 (i := a + 1) (j := a + 2 + c) (by omega) (by omega) (by omega)).2
      have hrow := hMr (i := a + 1) (j := a + 2 + c) (by omega) (by omega) (by omega)
      rw [hpN] at hrow hplt
      rw [← hrow] at hn4
      have hs := hs.newI hn4
      obtain ⟨B, cB, rfl, _⟩ := hn4.1.ri.open
      have hs := hs.front 1 rfl
      refine T_go rfl rfl (st_litR hs rfl (fun _ => by kernel_rfl) fun w5 b5 hk5 hb5 hs hU => ?_)
      refine T_go rfl rfl (st_appendM (by' := 0) hs Try.underlying32 ty22 rfl rfl hU rfl (by rw [List.length_take]; omega) fun u' w6 hs hk6 hf6 => ?_)
      rw [← take_rr (by omega)] at hs
      refine T_pu rfl rfl (pu_assign rfl) ?_
      refine T_nil ?_
      refine W_reg ?_
      refine T_pu rfl rfl (pu_move rfl) ?_
      refine T_pu rfl rfl (pu_add64 rfl rfl (by omega)) ?_
      refine T_pu rfl rfl (pu_assign rfl) ?_
      refine T_nil ?_
      exact ⟨(c + 1, u'), .cons rfl (.cons rfl (.cons rfl (.cons rfl (.cons rfl (.cons rfl (.cons rfl (.cons (by show some (Value.int .i64 _) = some (Value.int .i64 _); congr 2 <;> omega) (.nil _)))))))), ⟨by show c + 1 ≤ _; omega, _, hs⟩, by show n - (c + 1) < n - c; omega⟩
    · refine W_exit rfl ?_
      obtain rfl : c = n - (a + 1) := by omega
      rw [← hps] at hs
      refine W_reg ?_
      refine T_pu rfl rfl (pu_move rfl) ?_
      refine T_pu rfl rfl (pu_add64 rfl rfl (by omega)) ?_
      refine T_pu rfl rfl (pu_assign rfl) ?_
      refine T_nil ?_
      exact ⟨(a + 1, u), .cons rfl (.cons rfl (.cons rfl (.cons rfl (.cons rfl (.cons rfl (.cons (by show some (Value.int .i64 _) = some (Value.int .i64 _); congr 2 <;> omega) (.nil _))))))), ⟨by show a + 1 ≤ n; omega, _, hs⟩, by show n - (a + 1) < n - a; omega⟩
  · refine W_exit rfl ?_
    refine W_seq ?_
    refine W_seq ?_
    obtain rfl : a = n := by omega
    rw [(ps_n hn.2).1, List.take_of_length_le (by omega)] at hs
    refine W_reg ?_
    refine T_pu rfl rfl (pu_move rfl) ?_
    refine T_pu rfl rfl (pu_lss rfl rfl) ?_
    refine T_nil ?_
    refine W_if rfl (fun hc9 => ?_) (fun hc9 => ?_)
    · refine W_seq ?_
      refine W_reg ?_
      refine T_pu rfl rfl (pu_move rfl) ?_
      refine T_go rfl rfl (st_call fn78 rfl ((l09Solve_ok _ _ _ (hs.mat 0 rfl).rm (hgl.fq.fm hN1 hN)).mono ?_))
      rintro v w10 ⟨u10, rfl, hds10, hM10, hk10, hf10⟩
      have hs := (hs.newM hM10 hk10 hf10).drop 1
      refine T_pu rfl rfl (pu_move rfl) ?_
      refine T_pu rfl rfl (pu_extract rfl rfl) ?_
      refine T_pu rfl rfl (pu_extract rfl rfl) ?_
      refine T_pu rfl rfl (pu_assign rfl) ?_
      refine T_pu rfl rfl (pu_assign rfl) ?_
      refine T_nil ?_
      refine W_seq ?_
      refine W_reg ?_
      refine T_pu rfl rfl (pu_move rfl) ?_
      refine T_pu rfl rfl (pu_assign rfl) ?_
      refine T_nil ?_
      refine W_ret ?_
      exact Res_1 rfl rfl (by rw [if_pos (by omega)]; exact hs.isNewM 0 rfl)
    · refine W_skip ?_
      refine W_seq ?_
      refine W_reg ?_
      refine T_pu rfl rfl (pu_move rfl) ?_
      refine T_pu rfl rfl (pu_assign rfl) ?_
      refine T_nil ?_
      refine W_ret ?_
      exact Res_1 rfl rfl (by rw [if_neg (by omega)]; exact hs.isNewM 0 rfl)
set_option maxHeartbeats 16000000 in
theorem l09Krammer_ok (n : Nat) (hn : 2 ≤ n ∧ n ≤ 8) (q t : Int) (hq : 1 ≤ q ∧ q ≤ 10006) (ht : 1 ≤ t ∧ t ≤ 10006) (v : Value) (xs : List Int) (w : World) (hv : RI w v xs) (hl : xs.length ≤ 200) (hL : ∀ l ∈ xs, Lt n l) :
    CallsR Try.prog 104 #[.int .i64 n, v, .int .i64 q, .int .i64 t] w fun r w' => NewM w w' r (prodF (nPr n) (krL n q t) xs xs.length) := by
  obtain ⟨A, c, rfl, hc⟩ := hv.open
  have hs := St.start w
  have hN := nPr_le hn.2
  have hnn := nn_mul hn.2
  have hq2 : ((n : Int) * ((n : Int) - 1)).tdiv 2 = (nPr n : Int) := by rw [hnn, Int.mul_comm, Int.mul_tdiv_cancel _ (by omega)]
  have hN1 : 1 ≤ nPr n := by have := (pr_at hn.2 (i := 1) (j := 2) (by omega) (by omega) (by omega)).2; omega
  refine fn_calls Try.func104 rfl rfl rfl ?_
  refine W_seq ?_
  refine W_reg ?_
  refine T_pu rfl rfl (pu_assign rfl) ?_
  refine T_nil ?_
  refine W_seq ?_
  refine W_reg ?_
  refine T_pu rfl rfl (pu_move rfl) ?_
  refine T_pu rfl rfl (pu_move rfl) ?_
  refine T_pu rfl rfl (pu_sub64 rfl rfl (by omega)) ?_
  refine T_pu rfl rfl (pu_mul64 rfl rfl (by omega)) ?_
  refine T_pu rfl rfl (pu_quo64 rfl rfl (by omega) (by omega)) ?_
  rw [hq2]
  refine T_go rfl rfl (st_call fn147 rfl ((l09Unit_ok (nPr n) (by omega) 1 _).mono ?_))
  rintro u1 w1 ⟨hds1, hM1, hk1, hf1⟩
  have hs := hs.newM hM1 hk1 hf1
  refine T_pu rfl rfl (pu_assign rfl) ?_
  refine T_nil ?_
  refine W_seq ?_
  refine W_seq ?_
  refine W_reg ?_
  refine T_pu rfl rfl (pu_assign rfl) ?_
  refine T_nil ?_
  refine W_block ?_
  refine W_loop (σ := Nat × Value) (fun s => [(0, .int .i64 n), (1, .slice A xs.length c), (2, .int .i64 q), (3, .int .i64 t), (9, s.2), (10, .int .i64 s.1)]) (fun s w' => s.1 ≤ xs.length ∧ ∃ hds, St no w [aMat s.2 hds (prodF (nPr n) (krL n q t) xs s.1)] w') (fun s => xs.length - s.1) (0, u1) ?_ ?_ ?_
  · exact .cons rfl (.cons rfl (.cons rfl (.cons rfl (.cons rfl (.cons rfl (.nil _))))))
  · exact ⟨Nat.zero_le _, hds1, hs⟩
  repeat clear hs
  rintro ⟨k, uo⟩ w2 ⟨hkl, hds, hs⟩
  dsimp only at hkl hs ⊢
  refine W_seq ?_
  refine W_seq ?_
  refine W_reg ?_
  refine T_pu rfl rfl (pu_move rfl) ?_
  refine T_pu rfl rfl (pu_move rfl) ?_
  refine T_pu rfl rfl (pu_len Try.underlying22 rfl) ?_
  refine T_pu rfl rfl (pu_lss rfl rfl) ?_
  refine T_nil ?_
  refine W_if rfl (fun hc3 => ?_) (fun hc3 => ?_)
  · refine W_skip ?_
    refine W_seq ?_
    refine W_block ?_
    obtain ⟨a, rfl⟩ := hv.addr (i := k) (by omega) (by omega)
    have hcell := (hv.keep hs.kp).at (i := k) (by omega) (by omega)
    have hlt := hL _ (rd_mem (i := k) (by omega))
    have hps := prodF_succ (d := nPr n) (LM := krL n q t) (ls := xs) (k := k) (by omega)
    have hlq := ltr_fq (n := n) (fun k h0 h1 => krL_good hn hq ht h0 h1) hN1 hN hlt
    refine W_reg ?_
    refine T_pu rfl rfl (pu_move rfl) ?_
    refine T_pu rfl rfl (pu_move rfl) ?_
    refine T_pu rfl rfl (pu_move rfl) ?_
    refine T_pu rfl rfl (pu_move rfl) ?_
    refine T_pu rfl rfl ((by first | exact pu_ix1 Try.underlying22 ty2 rfl rfl (by omega) (by omega) | exact pu_index Try.underlying22 ty2 rfl rfl (by omega) (by omega))) ?_
    refine T_pi rfl rfl (pi_load Try.underlying2 rfl rfl (fun w' h => by obtain rfl := h; exact (by first | exact hcell))) ?_
    refine T_pu rfl rfl (pu_move rfl) ?_
    refine T_pu rfl rfl (pu_move rfl) ?_
    refine T_go rfl rfl (st_call fn149 rfl ((l09Letter_ok n hn _ hlt q t hq ht _).mono ?_))
    rintro u4 w4 ⟨hds4, hM4, hk4, hf4⟩
    have hs := hs.newM hM4 hk4 hf4
    refine T_go rfl rfl (st_call fn97 rfl ((l09Times_ok (nPr n) (by omega) _ _ _ _ _ (hs.mat 1 rfl).rm (hs.mat 0 rfl).rm (prodF_fq k) hlq).mono ?_))
    rintro u5 w5 ⟨hds5, hM5, hk5, hf5⟩
    rw [← hps] at hM5
    have hs := ((hs.newM hM5 hk5 hf5).drop 1).drop 1
    refine T_pu rfl rfl (pu_assign rfl) ?_
    refine T_nil ?_
    refine W_reg ?_
    refine T_pu rfl rfl (pu_move rfl) ?_
    refine T_pu rfl rfl (pu_add64 rfl rfl (by omega)) ?_
    refine T_pu rfl rfl (pu_assign rfl) ?_
    refine T_nil ?_
    exact ⟨(k + 1, u5), .cons rfl (.cons rfl (.cons rfl (.cons rfl (.cons rfl (.cons rfl (.nil _)))))), ⟨by show k + 1 ≤ _; omega, hds5, hs⟩, by show _ - (k + 1) < _ - k; omega⟩
  · refine W_exit rfl ?_
    refine W_seq ?_
    refine W_reg ?_
    refine T_pu rfl rfl (pu_move rfl) ?_
    refine T_pu rfl rfl (pu_assign rfl) ?_
    refine T_nil ?_
    refine W_ret ?_
    obtain rfl : k = xs.length := by omega
    exact Res_1 rfl rfl (hs.isNewM 0 rfl)
end Go.Proofs.Ytdpbfdjpeofbmaa.L
