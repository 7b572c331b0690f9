/- Burau's matrices over the field, the reference; the law BurauModulo. -/
import Derived.Test.YtdpbfdjpeofbmaaE7
namespace Go.Proofs.Ytdpbfdjpeofbmaa.L
set_option linter.unusedVariables false
set_option maxRecDepth 100000

set_option maxHeartbeats 16000000 in
theorem l09Burau_ok (n : Nat) (hn : 1 ≤ n ∧ n ≤ 8) (t : Int) (ht : 1 ≤ t ∧ t ≤ 10006) (v : Value) (xs : List Int) (w : World) (hv : RI w v xs) (hl : xs.length ≤ 200) (hL : ∀ l ∈ xs, Lt n l) :
    CallsR Try.prog 87 #[.int .i64 n, v, .int .i64 t] w fun r w' => NewM w w' r (prodF n (burM n t) xs xs.length) := by
  obtain ⟨A, c, rfl, hc⟩ := hv.open
  have hs := St.start w
  refine fn_calls Try.func87 rfl rfl rfl ?_
  refine W_seq ?_
  refine W_reg ?_
  refine T_pu rfl rfl (pu_assign rfl) ?_
  refine T_nil ?_
  refine W_seq ?_
  refine W_reg ?_
  refine T_pu rfl rfl (pu_move rfl) ?_
  refine T_go rfl rfl (st_call fn147 rfl ((l09Unit_ok n (by omega) 1 _).mono ?_))
  rintro u1 w1 ⟨hds1, hM1, hk1, hf1⟩
  have hs := hs.newM hM1 hk1 hf1
  refine T_pu rfl rfl (pu_assign rfl) ?_
  refine T_nil ?_
  refine W_seq ?_
  refine W_seq ?_
  refine W_reg ?_
  refine T_pu rfl rfl (pu_assign rfl) ?_
  refine T_nil ?_
  refine W_block ?_
  refine W_loop (σ := Nat × Value) (fun s => [(0, .int .i64 n), (1, .slice A xs.length c), (2, .int .i64 t), (7, s.2), (8, .int .i64 s.1)]) (fun s w' => s.1 ≤ xs.length ∧ ∃ hds, St no w [aMat s.2 hds (prodF n (burM n t) xs s.1)] w') (fun s => xs.length - s.1) (0, u1) ?_ ?_ ?_
  · exact .cons rfl (.cons rfl (.cons rfl (.cons rfl (.cons rfl (.nil _)))))
  · exact ⟨Nat.zero_le _, hds1, hs⟩
  repeat clear hs
  rintro ⟨k, uo⟩ w2 ⟨hkl, hds, hs⟩
  dsimp only at hkl hs ⊢
  refine W_seq ?_
  refine W_seq ?_
  refine W_reg ?_
  refine T_pu rfl rfl (pu_move rfl) ?_
  refine T_pu rfl rfl (pu_move rfl) ?_
  refine T_pu rfl rfl (pu_len Try.underlying22 rfl) ?_
  refine T_pu rfl rfl (pu_lss rfl rfl) ?_
  refine T_nil ?_
  refine W_if rfl (fun hc3 => ?_) (fun hc3 => ?_)
  · refine W_skip ?_
    refine W_seq ?_
    refine W_block ?_
    refine W_seq ?_
    refine W_draw mixed 1000 I0 (fun w3 hk3 => ?_)
    have hs := hs.next hk3
    obtain ⟨a, rfl⟩ := hv.addr (i := k) (by omega) (by omega)
    have hcell := (hv.keep hs.kp).at (i := k) (by omega) (by omega)
    have hlt := hL _ (rd_mem (i := k) (by omega))
    have hpq := pq_max hlt
    have hps := prodF_succ (d := n) (LM := burM n t) (ls := xs) (k := k) (by omega)
    have hgl := burM_good hpq.1 hpq.2 ht
    have hlq := ltr_fq (n := n) (fun k h0 h1 => burM_good (n := n) (k := k) h0 h1 ht) hn.1 (by omega) hlt
    have hlr : ltr (burM n t) (rd xs k) = if rd xs k < 0 then invF (burM n t (max (rd xs k) (-rd xs k))) else burM n t (max (rd xs k) (-rd xs k)) := rfl
    have hcell0 : w.cell? _ = _ := hv.at (i := k) (by omega) (by omega)
    generalize rd xs k = l at hcell hlt hpq hps hgl hlq hlr hcell0
    have hlt2 := hlt
    unfold Lt at hlt2
    refine D_pu 0 (by kernel_rfl) rfl (by kernel_rfl) (by kernel_rfl) rfl rfl (by kernel_rfl) (Pu.stable (pu_move rfl)) ?_
    refine D_pu 1 (by kernel_rfl) rfl (by kernel_rfl) (by kernel_rfl) rfl rfl (by kernel_rfl) (Pu.stable (pu_move rfl)) ?_
    refine D_pu 2 (by kernel_rfl) rfl (by kernel_rfl) (by kernel_rfl) rfl rfl (by kernel_rfl) (Pu.stable ((by first | exact pu_ix1 Try.underlying22 ty2 rfl rfl (by omega) (by omega) | exact pu_index Try.underlying22 ty2 rfl rfl (by omega) (by omega)))) ?_
    refine D_pu 3 (by kernel_rfl) rfl (by kernel_rfl) (by kernel_rfl) rfl rfl (by kernel_rfl) (pi_load Try.underlying2 rfl rfl (fun w' h => by obtain ⟨_, rfl⟩ := h; exact (by first | exact hcell))) ?_
    refine D_pu 4 (by kernel_rfl) rfl (by kernel_rfl) (by kernel_rfl) rfl rfl (by kernel_rfl) (Pu.stable (pu_move rfl)) ?_
    refine D_pu 5 (by kernel_rfl) rfl (by kernel_rfl) (by kernel_rfl) rfl rfl (by kernel_rfl) (Pu.stable (pu_move rfl)) ?_
    refine D_pu 6 (by kernel_rfl) rfl (by kernel_rfl) (by kernel_rfl) rfl rfl (by kernel_rfl) (Pu.stable ((by first | exact pu_ix1 Try.underlying22 ty2 rfl rfl (by omega) (by omega) | exact pu_index Try.underlying22 ty2 rfl rfl (by omega) (by omega)))) ?_
    refine D_pu 7 (by kernel_rfl) rfl (by kernel_rfl) (by kernel_rfl) rfl rfl (by kernel_rfl) (pi_load Try.underlying2 rfl rfl (fun w' h => by obtain ⟨_, rfl⟩ := h; exact (by first | exact hcell))) ?_
    refine D_pu 8 (by kernel_rfl) rfl (by kernel_rfl) (by kernel_rfl) rfl rfl (by kernel_rfl) (Pu.stable (pu_neg64 rfl (by omega))) ?_
    refine D_pu 9 (by kernel_rfl) rfl (by kernel_rfl) (by kernel_rfl) rfl rfl (by kernel_rfl) (Pu.stable (pu_max rfl rfl)) ?_
    refine D_pu 10 (by kernel_rfl) rfl (by kernel_rfl) (by kernel_rfl) rfl rfl (by kernel_rfl) (Pu.stable (pu_assign rfl)) ?_
    refine D_done (by kernel_rfl) (by first | rfl | (intro _; rfl) | (intro h; exact absurd (show true = false from h) (by decide)) | exact Kp.refl _ _ | assumption) ?_
    obtain ⟨m, hm⟩ : ∃ m, m = max l (-l) := ⟨_, rfl⟩
    rw [← hm] at hpq hgl hlr ⊢
    refine W_seq ?_
    refine W_reg ?_
    refine T_pu rfl rfl (pu_move rfl) ?_
    refine T_go rfl rfl (st_call fn147 rfl ((l09Unit_ok n (by omega) 1 _).mono ?_))
    rintro u4 w4 ⟨hds4, hM4, hk4, hf4⟩
    have hq1 := idM_fq n
    have hlen := hq1.1
    have hrow := fun i h0 h1 => (hq1.2 i h0 h1).1
    have hM4 : MatH w4 u4 hds4 (idM n) := hM4
    have hs : St no w (aMat u4 hds4 (idM n) :: _) w4 := hs.newM hM4 hk4 hf4
    obtain ⟨g, cg, rfl, hcg⟩ := hM4.slice (n := n) hlen hn.1
    obtain ⟨r1, c1, hh1, hcl1, hO1⟩ := hM4.at (i := m - 1) (m := n) (by omega) (by omega) (hrow _ (by omega) (by omega)) (by omega)
    obtain ⟨r2, c2, hh2, hcl2, hO2⟩ := hM4.at (i := m) (m := n) (by omega) (by omega) (hrow _ (by omega) (by omega)) (by omega)
    clear hM4 hO1 hO2
    generalize hI : idM n = I at hs hlen hrow
    refine T_pu rfl rfl (pu_assign rfl) ?_
    refine T_nil ?_
    refine W_seq ?_
    refine W_draw mixed 1000 I0 (fun w5 hk5 => ?_)
    have hs := hs.next hk5
    have hcl1 := hk5.cell hcl1 id
    have hcl2 := hk5.cell hcl2 id
    refine D_pu 0 (by kernel_rfl) rfl (by kernel_rfl) (by kernel_rfl) rfl rfl (by kernel_rfl) (Pu.stable (pu_move rfl)) ?_
    refine D_pu 1 (by kernel_rfl) rfl (by kernel_rfl) (by kernel_rfl) rfl rfl (by kernel_rfl) (Pu.stable (pu_move rfl)) ?_
    refine D_pu 2 (by kernel_rfl) rfl (by kernel_rfl) (by kernel_rfl) rfl rfl (by kernel_rfl) (Pu.stable (pu_sub64 rfl rfl (by omega))) ?_
    refine D_pu 3 (by kernel_rfl) rfl (by kernel_rfl) (by kernel_rfl) rfl rfl (by kernel_rfl) (Pu.stable ((by first | exact pu_ix1 Try.underlying32 ty22 rfl rfl (by omega) (by omega) | exact pu_index Try.underlying32 ty22 rfl rfl (by omega) (by omega)))) ?_
    refine D_pu 4 (by kernel_rfl) rfl (by kernel_rfl) (by kernel_rfl) rfl rfl (by kernel_rfl) (pi_load Try.underlying22 rfl rfl (fun w' h => by obtain ⟨_, rfl⟩ := h; exact (by first | exact hcl1 | exact hcl2))) ?_
    refine D_pu 5 (by kernel_rfl) rfl (by kernel_rfl) (by kernel_rfl) rfl rfl (by kernel_rfl) (Pu.stable (pu_move rfl)) ?_
    refine D_pu 6 (by kernel_rfl) rfl (by kernel_rfl) (by kernel_rfl) rfl rfl (by kernel_rfl) (Pu.stable (pu_move rfl)) ?_
    refine D_pu 7 (by kernel_rfl) rfl (by kernel_rfl) (by kernel_rfl) rfl rfl (by kernel_rfl) (Pu.stable ((by first | exact pu_ix1 Try.underlying32 ty22 rfl rfl (by omega) (by omega) | exact pu_index Try.underlying32 ty22 rfl rfl (by omega) (by omega)))) ?_
    refine D_pu 8 (by kernel_rfl) rfl (by kernel_rfl) (by kernel_rfl) rfl rfl (by kernel_rfl) (pi_load Try.underlying22 rfl rfl (fun w' h => by obtain ⟨_, rfl⟩ := h; exact (by first | exact hcl1 | exact hcl2))) ?_
    refine D_pu 9 (by kernel_rfl) rfl (by kernel_rfl) (by kernel_rfl) rfl rfl (by kernel_rfl) (Pu.stable (pu_assign rfl)) ?_
    refine D_pu 10 (by kernel_rfl) rfl (by kernel_rfl) (by kernel_rfl) rfl rfl (by kernel_rfl) (Pu.stable (pu_assign rfl)) ?_
    refine D_done (by kernel_rfl) (by first | rfl | (intro _; rfl) | (intro h; exact absurd (show true = false from h) (by decide)) | exact Kp.refl _ _ | assumption) ?_
    refine W_seq ?_
    refine W_reg ?_
    refine T_pu rfl rfl (pu_move rfl) ?_
    refine T_pu rfl rfl (pu_move rfl) ?_
    refine T_pu rfl rfl (pu_sub64 rfl rfl (by omega)) ?_
    refine T_pu rfl rfl (pu_move rfl) ?_
    refine T_pu rfl rfl (pu_sub64 rfl rfl (by omega)) ?_
    refine T_go rfl rfl (st_call fn141 rfl ((l09Mod_ok _ _).mono ?_))
    rintro v w' ⟨rfl, rfl⟩
    refine T_pu rfl rfl ((by first | exact pu_ix1 Try.underlying22 ty2 rfl rfl (by omega) (by omega) | exact pu_index Try.underlying22 ty2 rfl rfl (by omega) (by omega))) ?_
    refine T_goN rfl (st_storeM hs 0 rfl (m - 1) (by omega) (by omega) hh1 ty2 rfl rfl (by omega) (by omega) fun w6 hk6 hs => ?_)
    simp only [List.set_cons_zero] at hs
    obtain ⟨hlen, hrow⟩ := set2_rrl (x := m - 1) (y := m - 1) (v := (1 - t) % 10007) hlen hrow (by omega)
    refine T_nil ?_
    refine W_seq ?_
    refine W_reg ?_
    refine T_pu rfl rfl (pu_move rfl) ?_
    refine T_pu rfl rfl (pu_move rfl) ?_
    refine T_pu rfl rfl (pu_move rfl) ?_
    refine T_pu rfl rfl ((by first | exact pu_ix1 Try.underlying22 ty2 rfl rfl (by omega) (by omega) | exact pu_index Try.underlying22 ty2 rfl rfl (by omega) (by omega))) ?_
    refine T_goN rfl (st_storeM hs 0 rfl (m - 1) (by omega) (by omega) hh1 ty2 rfl rfl (by omega) (by omega) fun w7 hk7 hs => ?_)
    simp only [List.set_cons_zero] at hs
    obtain ⟨hlen, hrow⟩ := set2_rrl (x := m - 1) (y := m) (v := t) hlen hrow (by omega)
    refine T_nil ?_
    refine W_seq ?_
    refine W_reg ?_
    refine T_pu rfl rfl (pu_move rfl) ?_
    refine T_pu rfl rfl (pu_move rfl) ?_
    refine T_pu rfl rfl (pu_sub64 rfl rfl (by omega)) ?_
    refine T_pu rfl rfl ((by first | exact pu_ix1 Try.underlying22 ty2 rfl rfl (by omega) (by omega) | exact pu_index Try.underlying22 ty2 rfl rfl (by omega) (by omega))) ?_
    refine T_goN rfl (st_storeM hs 0 rfl m (by omega) (by omega) hh2 ty2 rfl rfl (by omega) (by omega) fun w8 hk8 hs => ?_)
    simp only [List.set_cons_zero] at hs
    obtain ⟨hlen, hrow⟩ := set2_rrl (x := m) (y := m - 1) (v := 1) hlen hrow (by omega)
    refine T_nil ?_
    refine W_seq ?_
    refine W_reg ?_
    refine T_pu rfl rfl (pu_move rfl) ?_
    refine T_pu rfl rfl (pu_move rfl) ?_
    refine T_pu rfl rfl ((by first | exact pu_ix1 Try.underlying22 ty2 rfl rfl (by omega) (by omega) | exact pu_index Try.underlying22 ty2 rfl rfl (by omega) (by omega))) ?_
    refine T_goN rfl (st_storeM hs 0 rfl m (by omega) (by omega) hh2 ty2 rfl rfl (by omega) (by omega) fun w9 hk9 hs => ?_)
    simp only [List.set_cons_zero] at hs
    have hs : St no w [aMat (.slice (some ⟨g, 0, none⟩) n cg) hds4 (burM n t m), aMat uo hds (prodF n (burM n t) xs k)] w9 := by
      rw [show burM n t m = set2 (set2 (set2 (set2 I (m - 1) (m - 1) ((1 - t) % 10007)) (m - 1) m t) m (m - 1) 1) m m 0 by rw [← hI]; rfl]
      exact hs
    refine T_nil ?_
    refine W_cut (σ := Value) (fun q => [(0, .int .i64 n), (1, .slice (some a) xs.length c), (2, .int .i64 t), (7, uo), (8, .int .i64 k), (10, q)]) (fun q w' => ∃ hq, St no w [aMat q hq (ltr (burM n t) l), aMat uo hds (prodF n (burM n t) xs k)] w') ?_ ?_
    · refine W_seq ?_
      refine W_reg ?_
      refine T_pu rfl rfl (pu_move rfl) ?_
      refine T_pu rfl rfl (pu_move rfl) ?_
      refine T_pu rfl rfl ((by first | exact pu_ix1 Try.underlying22 ty2 rfl rfl (by omega) (by omega) | exact pu_index Try.underlying22 ty2 rfl rfl (by omega) (by omega))) ?_
      refine T_pi rfl rfl (pi_load Try.underlying2 rfl rfl (fun w' h => by obtain rfl := h; exact (by first | exact hs.kp.cell hcell0 id))) ?_
      refine T_pu rfl rfl (pu_lss rfl rfl) ?_
      refine T_nil ?_
      refine W_if rfl (fun hc12 => ?_) (fun hc12 => ?_)
      · refine W_seq ?_
        refine W_reg ?_
        refine T_pu rfl rfl (pu_move rfl) ?_
        refine T_go rfl rfl (st_call fn78 rfl ((l09Solve_ok _ _ _ (hs.mat 0 rfl).rm (hgl.fq.fm hn.1 (by omega))).mono ?_))
        rintro v w10 ⟨u10, rfl, hds10, hM10, hk10, hf10⟩
        have hs := (hs.newM hM10 hk10 hf10).drop 1
        refine T_pu rfl rfl (pu_move rfl) ?_
        refine T_pu rfl rfl (pu_extract rfl rfl) ?_
        refine T_pu rfl rfl (pu_extract rfl rfl) ?_
        refine T_pu rfl rfl (pu_assign rfl) ?_
        refine T_pu rfl rfl (pu_assign rfl) ?_
        refine T_nil ?_
        refine W_reg ?_
        refine T_pu rfl rfl (pu_move rfl) ?_
        refine T_pu rfl rfl (pu_assign rfl) ?_
        refine T_nil ?_
        first
          | exact ⟨u10, .cons rfl (.cons rfl (.cons rfl (.cons rfl (.cons rfl (.cons rfl (.nil _)))))), hds10, by rw [hlr, if_pos (by omega)]; exact hs⟩
          | exact ⟨_, .cons rfl (.cons rfl (.cons rfl (.cons rfl (.cons rfl (.cons rfl (.nil _)))))), hds4, by rw [hlr, if_neg (by omega)]; exact hs⟩
      · refine W_skip ?_
        first
          | exact ⟨u10, .cons rfl (.cons rfl (.cons rfl (.cons rfl (.cons rfl (.cons rfl (.nil _)))))), hds10, by rw [hlr, if_pos (by omega)]; exact hs⟩
          | exact ⟨_, .cons rfl (.cons rfl (.cons rfl (.cons rfl (.cons rfl (.cons rfl (.nil _)))))), hds4, by rw [hlr, if_neg (by omega)]; exact hs⟩
    · rintro q w11 ⟨hq, hs2⟩
      repeat clear hs
      have hs := hs2
      clear hs2
      refine W_reg ?_
      refine T_pu rfl rfl (pu_move rfl) ?_
      refine T_pu rfl rfl (pu_move rfl) ?_
      refine T_go rfl rfl (st_call fn97 rfl ((l09Times_ok n (by omega) _ _ (prodF n (burM n t) xs k) (ltr (burM n t) l) _ (hs.mat 1 rfl).rm (hs.mat 0 rfl).rm (prodF_fq k) hlq).mono ?_))
      rintro u12 w12 ⟨hds12, hM12, hk12, hf12⟩
      rw [← hps] at hM12
      have hs := ((hs.newM hM12 hk12 hf12).drop 1).drop 1
      refine T_pu rfl rfl (pu_assign rfl) ?_
      refine T_nil ?_
      refine W_reg ?_
      refine T_pu rfl rfl (pu_move rfl) ?_
      refine T_pu rfl rfl (pu_add64 rfl rfl (by omega)) ?_
      refine T_pu rfl rfl (pu_assign rfl) ?_
      refine T_nil ?_
      exact ⟨(k + 1, u12), .cons rfl (.cons rfl (.cons rfl (.cons rfl (.cons rfl (.nil _))))), ⟨by show k + 1 ≤ _; omega, hds12, hs⟩, by show _ - (k + 1) < _ - k; omega⟩
  · refine W_exit rfl ?_
    refine W_seq ?_
    refine W_reg ?_
    refine T_pu rfl rfl (pu_move rfl) ?_
    refine T_pu rfl rfl (pu_assign rfl) ?_
    refine T_nil ?_
    refine W_ret ?_
    obtain rfl : k = xs.length := by omega
    exact Res_1 rfl rfl (hs.isNewM 0 rfl)
set_option maxHeartbeats 4000000 in
theorem specBurau_ok (n : Int) (v : Value) (xs : List Int) (t : Int) (w : World) (hv : RI w v xs) (hl : xs.length ≤ 9223372036854775807) (hw : ∀ x ∈ xs, -9223372036854775808 ≤ x ∧ x ≤ 9223372036854775807) (ht : -9223372036854775808 ≤ t ∧ t ≤ 9223372036854775807) :
    CallsR Try.prog 33 #[.agg #[.int .i64 n, v], .int .i64 t] w fun r w' => ∃ u, r = .tuple #[u, .int .i64 (burR n xs t).2] ∧ NewM w w' u (burR n xs t).1 := by
  obtain ⟨A, c, rfl, hc⟩ := hv.open
  have hs := St.start w
  have hnum : numsR n 1 xs [t] = if ¬ Br n xs then 1 else if ¬ (1 ≤ t ∧ t ≤ 10006) then 2 else 0 := by
    unfold numsR
    by_cases hB : Br n xs
    · rw [if_neg (not_not_intro hB), if_neg (not_not_intro hB)]
      have := hB.1
      simp only [List.mem_singleton, forall_eq]
      split
      · rfl
      · rw [if_neg (by omega)]
    · rw [if_pos hB, if_pos hB]
  refine fn_calls Try.func33 rfl rfl rfl ?_
  refine W_seq ?_
  refine W_reg ?_
  refine T_go rfl rfl (st_boxS hs rfl fun w1 b1 hk1 hb1 hs => ?_)
  refine T_pu rfl rfl (pu_assign rfl) ?_
  refine T_pu rfl rfl (pu_assign rfl) ?_
  refine T_nil ?_
  refine W_seq ?_
  refine W_seq ?_
  refine W_reg ?_
  refine T_pi rfl rfl (pi_loadAgg Try.underlying28 rfl ty28 rfl (fun w' h => by obtain rfl := h; exact (by first | exact (hs.bk 0 rfl).cells)) (by first | rfl | (simp; done) | (rw [nums_length]; assumption) | assumption)) ?_
  refine T_pu rfl rfl (pu_move rfl) ?_
  refine T_go rfl rfl (st_litI hs [t] rfl (fun _ => by kernel_rfl) rfl rfl fun w2 b2 hk2 hb2 hs => ?_)
  refine T_go rfl rfl (st_call fn86 rfl ((l09Numbers_ok n 1 _ _ xs [t] _ (hv.keep hs.kp) hl hw (hs.oi 0 rfl).ri (by simp)).mono ?_))
  rintro v w3 ⟨rfl, hk3⟩
  have hs := hs.next hk3
  rw [hnum]
  refine T_pu rfl rfl (pu_assign rfl) ?_
  refine T_nil ?_
  refine W_seq ?_
  refine W_reg ?_
  refine T_pu rfl rfl (pu_move rfl) ?_
  refine T_pu rfl rfl (pu_neq rfl rfl) ?_
  refine T_nil ?_
  refine W_if rfl (fun hc2 => ?_) (fun hc2 => ?_)
  · refine W_seq ?_
    refine W_reg ?_
    refine T_pu rfl rfl (pu_move rfl) ?_
    refine T_pu rfl rfl (pu_assign rfl) ?_
    refine T_pu rfl rfl (pu_assign rfl) ?_
    refine T_nil ?_
    refine W_ret ?_
    have e : burR n xs t = ([], if ¬ Br n xs then 1 else if ¬ (1 ≤ t ∧ t ≤ 10006) then 2 else 0) := by
      unfold burR
      by_cases hB : Br n xs
      · rw [if_neg (not_not_intro hB), if_neg (not_not_intro hB)]
        by_cases ht1 : 1 ≤ t ∧ t ≤ 10006
        · rw [if_neg (not_not_intro hB), if_neg (not_not_intro ht1)] at hc2; exact absurd rfl hc2
        · rw [if_pos ht1, if_pos ht1]
      · rw [if_pos hB, if_pos hB]
    rw [e]
    exact Res_2 rfl rfl rfl ⟨_, rfl, newM_none hs.kp⟩
  · refine W_skip ?_
    refine W_seq ?_
    have hBr : Br n xs := Decidable.byContradiction fun h => hc2 (by rw [if_pos h]; decide)
    have ht1 : 1 ≤ t ∧ t ≤ 10006 := Decidable.byContradiction fun h => hc2 (by rw [if_neg (not_not_intro hBr), if_pos h]; decide)
    obtain ⟨m, rfl⟩ : ∃ m : Nat, n = m := ⟨n.toNat, by have := hBr.1; omega⟩
    have hm : 1 ≤ m ∧ m ≤ 8 := by have := hBr.1; omega
    have e : burR m xs t = (prodF m (burM m t) xs xs.length, 0) := by unfold burR; rw [if_neg (not_not_intro hBr), if_neg (not_not_intro ht1), Int.toNat_natCast]
    rw [e]
    refine W_reg ?_
    refine T_pu rfl rfl (pu_fld (off := 0) Try.underlying28 rfl rfl ty2 rfl rfl) ?_
    refine T_pi rfl rfl (pi_load Try.underlying2 rfl rfl (fun w' h => by obtain rfl := h; exact (by first | exact (hs.bk 1 rfl).cell rfl))) ?_
    refine T_pu rfl rfl (pu_fld (off := 1) Try.underlying28 rfl rfl ty22 rfl rfl) ?_
    refine T_pi rfl rfl (pi_load Try.underlying22 rfl rfl (fun w' h => by obtain rfl := h; exact (by first | exact (hs.bk 1 rfl).cell rfl))) ?_
    refine T_pu rfl rfl (pu_move rfl) ?_
    refine T_go rfl rfl (st_call fn87 rfl ((l09Burau_ok m hm t ht1 _ xs _ (hv.keep hs.kp) hBr.2.1 hBr.2.2).mono ?_))
    rintro u4 w4 ⟨hds4, hM4, hk4, hf4⟩
    have hs := hs.newM hM4 hk4 hf4
    refine T_pu rfl rfl (pu_assign rfl) ?_
    refine T_pu rfl rfl (pu_assign rfl) ?_
    refine T_nil ?_
    refine W_ret ?_
    exact Res_2 rfl rfl rfl ⟨_, rfl, hs.isNewM 0 rfl⟩
set_option maxHeartbeats 8000000 in
theorem lawBurau_ok (n : Int) (v : Value) (xs : List Int) (t : Int) (w : World) (hv : RI w v xs) (hl : xs.length ≤ 9223372036854775807) (hw : ∀ x ∈ xs, -9223372036854775808 ≤ x ∧ x ≤ 9223372036854775807) (hn : -9223372036854775808 ≤ n) (hn2 : n ≤ 9223372036854775807) (ht : -9223372036854775808 ≤ t ∧ t ≤ 9223372036854775807) :
    CallsR Try.prog 7 #[.agg #[.int .i64 n, v], .int .i64 t] w fun r w' => r = .bool true ∧ Kp no w w' := by
  obtain ⟨A, c, rfl, hc⟩ := hv.open
  have hs := St.start w
  obtain ⟨hR1, hR2⟩ := burR_ok n xs t
  have hsI := fun (v : Value) (w : World) (hv : RI w v xs) => specBurau_ok n v xs t w hv hl hw ht
  have hiI := fun (v : Value) (w : World) (hv : RI w v xs) => implBurau_ok n v xs t w hv hl ht
  generalize hRe : (burR n xs t).1 = R at hR1 hR2 hsI hiI
  have hR1' : R.length ≤ 9223372036854775807 := by omega
  have hR2' : ∀ xs ∈ R, xs.length ≤ 9223372036854775807 := fun xs h => by have := hR2 xs h; omega
  have hR2'' : ∀ xs ∈ R, xs.length ≤ 1048576 := fun xs h => by have := hR2 xs h; omega
  refine fn_calls Try.func7 rfl rfl rfl ?_
  refine W_seq ?_
  refine W_reg ?_
  refine T_go rfl rfl (st_boxS hs rfl fun w1 b1 hk1 hb1 hs => ?_)
  refine T_pu rfl rfl (pu_assign rfl) ?_
  refine T_nil ?_
  refine W_seq ?_
  refine W_reg ?_
  refine T_pu rfl rfl (pu_assign rfl) ?_
  refine T_nil ?_
  refine W_seq ?_
  refine W_reg ?_
  refine T_pi rfl rfl (pi_loadAgg Try.underlying24 rfl ty24 rfl (fun w' h => by obtain rfl := h; exact (by first | exact (hs.bk 0 rfl).cells)) (by first | rfl | (simp; done) | (rw [nums_length]; assumption) | assumption)) ?_
  refine T_pu rfl rfl (pu_move rfl) ?_
  refine T_go rfl rfl (st_call fn16 rfl ((szBraid_ok n _ xs 1048576 _ (hv.keep hs.kp) hl (by omega)).mono ?_))
  rintro v w2 ⟨rfl, hk2⟩
  have hs := hs.next hk2
  refine T_pu rfl rfl (pu_assign rfl) ?_
  refine T_nil ?_
  refine W_seq ?_
  refine W_seq ?_
  refine W_reg ?_
  refine T_pu rfl rfl (pu_move rfl) ?_
  refine T_pu rfl rfl (pu_lss rfl rfl) ?_
  refine T_nil ?_
  refine W_if rfl (fun hc3 => ?_) (fun hc3 => ?_)
  · refine W_seq ?_
    refine W_reg ?_
    refine T_pu rfl rfl (pu_assign rfl) ?_
    refine T_nil ?_
    refine W_ret ?_
    exact Res_1 rfl rfl ⟨rfl, hs.kp⟩
  · refine W_skip ?_
    refine W_seq ?_
    have hl' : xs.length ≤ 1048576 := by split at hc3 <;> omega
    refine W_reg ?_
    refine T_pi rfl rfl (pi_loadAgg Try.underlying24 rfl ty24 rfl (fun w' h => by obtain rfl := h; exact (by first | exact (hs.bk 0 rfl).cells)) (by first | rfl | (simp; done) | (rw [nums_length]; assumption) | assumption)) ?_
    refine T_go rfl rfl (st_call fn18 rfl ((toBraid_ok n _ xs _ (hv.keep hs.kp) hl').mono ?_))
    rintro v w3 ⟨u, rfl, hnB⟩
    have hs := hs.newI hnB
    refine T_pu rfl rfl (pu_move rfl) ?_
    refine T_go rfl rfl (st_call fn33 rfl ((hsI _ _ (hs.oi 0 rfl).ri).mono ?_))
    rintro v w4 ⟨u4, rfl, hds4, hM4, hk4, hf4⟩
    have hs := (hs.newM hM4 hk4 hf4).drop 1
    refine T_pu rfl rfl (pu_move rfl) ?_
    refine T_pu rfl rfl (pu_extract rfl rfl) ?_
    refine T_pu rfl rfl (pu_extract rfl rfl) ?_
    refine T_pu rfl rfl (pu_assign rfl) ?_
    refine T_pu rfl rfl (pu_assign rfl) ?_
    refine T_nil ?_
    refine W_seq ?_
    refine W_reg ?_
    refine T_pi rfl rfl (pi_loadAgg Try.underlying24 rfl ty24 rfl (fun w' h => by obtain rfl := h; exact (by first | exact (hs.bk 1 rfl).cells)) (by first | rfl | (simp; done) | (rw [nums_length]; assumption) | assumption)) ?_
    refine T_go rfl rfl (st_call fn18 rfl ((toBraid_ok n _ xs _ (hv.keep hs.kp) hl').mono ?_))
    rintro v w5 ⟨u2, rfl, hnB2⟩
    obtain ⟨A2, c2, rfl, _⟩ := hnB2.1.ri.open
    have hs := hs.newI hnB2
    refine T_go rfl rfl (st_allocS hs ty28 fun w6 b6 hk6 hb6 hs => ?_)
    refine T_goN rfl (st_storeBs hs 0 rfl ty28 rfl rfl rfl (by simp [Value.cells, Value.oneCell']) (by first | exact Nat.le_of_ble_eq_true rfl | omega | (simp; done) | (simp; omega)) fun w7 hk7 hs => ?_)
    refine T_nil ?_
    refine W_seq ?_
    refine W_reg ?_
    refine T_pi rfl rfl (pi_loadAgg Try.underlying28 rfl ty28 rfl (fun w' h => by obtain rfl := h; exact (by first | exact (hs.bk 0 rfl).cells)) (by first | rfl | (simp; done) | (rw [nums_length]; assumption) | assumption)) ?_
    refine T_pu rfl rfl (pu_move rfl) ?_
    refine T_go rfl rfl (st_call fn34 rfl ((hiI _ _ (hs.oi 1 rfl).ri).mono ?_))
    rintro v w8 ⟨u8, rfl, hds8, hM8, hk8, hf8⟩
    have hs := hs.newM hM8 hk8 hf8
    refine T_pu rfl rfl (pu_move rfl) ?_
    refine T_pu rfl rfl (pu_extract rfl rfl) ?_
    refine T_pu rfl rfl (pu_extract rfl rfl) ?_
    refine T_pu rfl rfl (pu_assign rfl) ?_
    refine T_pu rfl rfl (pu_assign rfl) ?_
    refine T_nil ?_
    refine W_seq ?_
    refine W_seq ?_
    refine W_reg ?_
    refine T_pu rfl rfl (pu_move rfl) ?_
    refine T_pu rfl rfl (pu_move rfl) ?_
    refine T_go rfl rfl (st_call fn25 rfl ((eqInt64SS_ok _ _ R R _ (hs.mat 0 rfl).rm (hs.mat 3 rfl).rm hR1' hR1' hR2' hR2').mono ?_))
    rintro v w9 ⟨rfl, hk9⟩
    have hs := hs.next hk9
    refine T_pu rfl rfl (pu_notp rfl) ?_
    refine T_if rfl rfl (pu_move rfl) (fun hg8_4 => ?_) (fun hg8_4 => ?_)
    · refine T_no rfl rfl ?_
      refine T_no rfl rfl ?_
      refine T_no rfl rfl ?_
      refine T_pu rfl rfl (pu_pick_t rfl rfl) ?_
      refine T_nil ?_
      refine W_true rfl ?_
      refine W_seq ?_
      refine W_reg ?_
      refine T_pu rfl rfl (pu_assign rfl) ?_
      refine T_nil ?_
      refine W_ret ?_
      exfalso; simp_all
    · refine T_pu rfl rfl (pu_move rfl) ?_
      refine T_pu rfl rfl (pu_move rfl) ?_
      refine T_pu rfl rfl (pu_neq rfl rfl) ?_
      refine T_pu rfl rfl (pu_pick_f rfl rfl) ?_
      refine T_nil ?_
      refine W_if rfl (fun hc8 => ?_) (fun hc8 => ?_)
      · refine W_seq ?_
        refine W_reg ?_
        refine T_pu rfl rfl (pu_assign rfl) ?_
        refine T_nil ?_
        refine W_ret ?_
        exfalso; simp_all
      · refine W_skip ?_
        refine W_seq ?_
        refine W_seq ?_
        refine W_draw mixed 1000 IK (fun w10 hk10 => ?_)
        have hs := hs.next hk10
        refine D_pu 0 (by kernel_rfl) rfl (by kernel_rfl) (by kernel_rfl) rfl rfl (by kernel_rfl) (pi_loadAgg Try.underlying28 rfl ty28 rfl (fun w' h => by obtain ⟨_, h⟩ := h; exact h.cells (by first | exact (hs.bk 1 rfl).cells | exact (hs.bk 4 rfl).cells) id) (by first | rfl | (simp; done) | (rw [nums_length]; assumption) | assumption)) ?_
        refine D_pu 1 (by kernel_rfl) rfl (by kernel_rfl) (by kernel_rfl) rfl rfl (by kernel_rfl) (pi_loadAgg Try.underlying24 rfl ty24 rfl (fun w' h => by obtain ⟨_, h⟩ := h; exact h.cells (by first | exact (hs.bk 1 rfl).cells | exact (hs.bk 4 rfl).cells) id) (by first | rfl | (simp; done) | (rw [nums_length]; assumption) | assumption)) ?_
        refine D_go 2 (by kernel_rfl) (by first | rfl | (intro _; rfl) | (intro h; exact absurd (show true = false from h) (by decide)) | exact Kp.refl _ _ | assumption) rfl rfl rfl (st_call fn18 rfl ((toBraid_ok n _ xs _ (hv.keep hs.kp) hl').mono ?_))
        rintro v w11 ⟨u11, rfl, hnB3⟩
        have hkA : Kp no w10 w11 := hnB3.2.1
        have hs := hs.newI hnB3
        refine D_go 3 (by kernel_rfl) (by first | rfl | (intro _; rfl) | (intro h; exact absurd (show true = false from h) (by decide)) | exact Kp.refl _ _ | assumption) rfl rfl rfl (st_call fn20 rfl ((eqBraid_ok n n _ _ xs xs _ (hs.oi 3 rfl).ri (hs.oi 0 rfl).ri hl hl).mono ?_))
        rintro v w12 ⟨rfl, hk12⟩
        have hkB : Kp no w10 w12 := hkA.next hk12
        have hs := (hs.next hk12).tail
        refine D_pu 4 (by kernel_rfl) rfl (by kernel_rfl) (by kernel_rfl) rfl rfl (by kernel_rfl) (Pu.stable (pu_notp rfl)) ?_
        refine D_done (by kernel_rfl) (by first | rfl | (intro _; rfl) | (intro h; exact absurd (show true = false from h) (by decide)) | exact Kp.refl _ _ | assumption) ?_
        refine W_if rfl (fun hc10 => ?_) (fun hc10 => ?_)
        · refine W_seq ?_
          refine W_reg ?_
          refine T_pu rfl rfl (pu_assign rfl) ?_
          refine T_nil ?_
          refine W_ret ?_
          exfalso; simp_all
        · refine W_skip ?_
          refine W_seq ?_
          refine W_reg ?_
          refine T_pu rfl rfl (pu_assign rfl) ?_
          refine T_nil ?_
          refine W_seq ?_
          refine W_reg ?_
          refine T_pi rfl rfl (pi_loadAgg Try.underlying28 rfl ty28 rfl (fun w' h => by obtain rfl := h; exact (by first | exact (hs.bk 1 rfl).cells)) (by first | rfl | (simp; done) | (rw [nums_length]; assumption) | assumption)) ?_
          refine T_pu rfl rfl (pu_move rfl) ?_
          refine T_go rfl rfl (st_call fn28 rfl ((markBraid_ok n _ xs 1 _ (hs.oi 2 rfl) hl' (by omega)).mono ?_))
          rintro v w13 ⟨rfl, hk13, hO13⟩
          have hs := hs.upd 2 rfl hk13 (aOI _ _) hO13 (fun b h => .inl (by simpa [aOI, aOw] using h))
          refine T_pu rfl rfl (pu_assign rfl) ?_
          refine T_nil ?_
          refine W_seq ?_
          refine W_seq ?_
          refine W_reg ?_
          refine T_pu rfl rfl (pu_move rfl) ?_
          refine T_pu rfl rfl (pu_lss rfl rfl) ?_
          refine T_if rfl rfl (pu_move rfl) (fun hg14_2 => ?_) (fun hg14_2 => ?_)
          · refine T_no rfl rfl ?_
            refine T_no rfl rfl ?_
            refine T_no rfl rfl ?_
            refine T_no rfl rfl ?_
            refine T_pu rfl rfl (pu_pick_t rfl rfl) ?_
            refine T_pu rfl rfl (pu_move rfl) ?_
            refine T_no rfl rfl ?_
            refine T_no rfl rfl ?_
            refine T_no rfl rfl ?_
            refine T_pu rfl rfl (pu_pick_t rfl rfl) ?_
            refine T_nil ?_
            refine W_true rfl ?_
            refine W_seq ?_
            refine W_reg ?_
            refine T_pu rfl rfl (pu_assign rfl) ?_
            refine T_nil ?_
            refine W_ret ?_
            exfalso; first | omega | simp_all
          · refine T_pu rfl rfl (pu_move rfl) ?_
            refine T_pu rfl rfl (pu_move rfl) ?_
            refine T_go rfl rfl (st_call fn25 rfl ((eqInt64SS_ok _ _ R R _ (hs.mat 0 rfl).rm (hs.mat 3 rfl).rm hR1' hR1' hR2' hR2').mono ?_))
            rintro v w14 ⟨rfl, hk14⟩
            have hs := hs.next hk14
            refine T_pu rfl rfl (pu_notp rfl) ?_
            refine T_pu rfl rfl (pu_pick_f rfl rfl) ?_
            refine T_if rfl rfl (pu_move rfl) (fun hg14_8 => ?_) (fun hg14_8 => ?_)
            · refine T_no rfl rfl ?_
              refine T_no rfl rfl ?_
              refine T_no rfl rfl ?_
              refine T_pu rfl rfl (pu_pick_t rfl rfl) ?_
              refine T_nil ?_
              refine W_true rfl ?_
              refine W_seq ?_
              refine W_reg ?_
              refine T_pu rfl rfl (pu_assign rfl) ?_
              refine T_nil ?_
              refine W_ret ?_
              exfalso; first | omega | simp_all
            · refine T_pu rfl rfl (pu_move rfl) ?_
              refine T_pu rfl rfl (pu_move rfl) ?_
              refine T_pu rfl rfl (pu_neq rfl rfl) ?_
              refine T_pu rfl rfl (pu_pick_f rfl rfl) ?_
              refine T_nil ?_
              refine W_if rfl (fun hc14 => ?_) (fun hc14 => ?_)
              · refine W_seq ?_
                refine W_reg ?_
                refine T_pu rfl rfl (pu_assign rfl) ?_
                refine T_nil ?_
                refine W_ret ?_
                exfalso; first | omega | simp_all
              · refine W_skip ?_
                refine W_seq ?_
                refine W_reg ?_
                refine T_pu rfl rfl (pu_assign rfl) ?_
                refine T_nil ?_
                refine W_seq ?_
                refine W_reg ?_
                refine T_pu rfl rfl (pu_move rfl) ?_
                refine T_pu rfl rfl (pu_move rfl) ?_
                refine T_go rfl rfl (st_call fn29 rfl ((markInt64SS_ok _ _ R 1 _ (hs.mat 0 rfl) (by omega) hR2'' (by omega)).mono ?_))
                rintro v w15 ⟨rfl, hk15, hM15⟩
                have hs := hs.upd 0 rfl hk15 (aMat _ _ _) hM15 (fun b h => .inl h)
                have ht2 := totM_nonneg R
                refine T_pu rfl rfl (pu_assign rfl) ?_
                refine T_nil ?_
                refine W_seq ?_
                refine W_reg ?_
                refine T_pu rfl rfl (pu_assign rfl) ?_
                refine T_nil ?_
                refine W_seq ?_
                refine W_reg ?_
                refine T_pu rfl rfl (pu_move rfl) ?_
                refine T_pu rfl rfl (pu_move rfl) ?_
                refine T_go rfl rfl (st_call fn30 rfl ((heldInt64SS_ok _ R 1 _ (hs.mat 0 rfl).rm (by omega) hR2'' (by omega)).mono ?_))
                rintro v w16 ⟨rfl, rfl⟩
                refine T_pu rfl rfl (pu_assign rfl) ?_
                refine T_nil ?_
                refine W_seq ?_
                refine W_seq ?_
                refine W_reg ?_
                refine T_pu rfl rfl (pu_move rfl) ?_
                refine T_pu rfl rfl (pu_lss rfl rfl) ?_
                refine T_nil ?_
                refine W_if rfl (fun hc20 => ?_) (fun hc20 => ?_)
                · refine W_seq ?_
                  refine W_reg ?_
                  refine T_pu rfl rfl (pu_assign rfl) ?_
                  refine T_nil ?_
                  refine W_ret ?_
                  exfalso; omega
                · refine W_skip ?_
                  refine W_seq ?_
                  refine W_seq ?_
                  refine W_reg ?_
                  refine T_pu rfl rfl (pu_move rfl) ?_
                  refine T_pu rfl rfl (pu_move rfl) ?_
                  refine T_pu rfl rfl (pu_neq rfl rfl) ?_
                  refine T_nil ?_
                  refine W_if rfl (fun hc22 => ?_) (fun hc22 => ?_)
                  · refine W_seq ?_
                    refine W_reg ?_
                    refine T_pu rfl rfl (pu_assign rfl) ?_
                    refine T_nil ?_
                    refine W_ret ?_
                    exfalso; exact hc22 rfl
                  · refine W_skip ?_
                    refine W_seq ?_
                    refine W_reg ?_
                    refine T_pi rfl rfl (pi_loadAgg Try.underlying24 rfl ty24 rfl (fun w' h => by obtain rfl := h; exact (by first | exact (hs.bk 4 rfl).cells)) (by first | rfl | (simp; done) | (rw [nums_length]; assumption) | assumption)) ?_
                    refine T_go rfl rfl (st_call fn18 rfl ((toBraid_ok n _ xs _ (hv.keep hs.kp) hl').mono ?_))
                    rintro v w17 ⟨u17, rfl, hnB4⟩
                    have hs := hs.newI hnB4
                    refine T_pu rfl rfl (pu_move rfl) ?_
                    refine T_go rfl rfl (st_call fn34 rfl ((hiI _ _ (hs.oi 0 rfl).ri).mono ?_))
                    rintro v w18 ⟨u18, rfl, hds18, hM18, hk18, hf18⟩
                    have hs := hs.newM hM18 hk18 hf18
                    refine T_pu rfl rfl (pu_move rfl) ?_
                    refine T_pu rfl rfl (pu_extract rfl rfl) ?_
                    refine T_pu rfl rfl (pu_extract rfl rfl) ?_
                    refine T_pu rfl rfl (pu_assign rfl) ?_
                    refine T_pu rfl rfl (pu_assign rfl) ?_
                    refine T_nil ?_
                    refine W_seq ?_
                    refine W_seq ?_
                    refine W_reg ?_
                    refine T_pu rfl rfl (pu_move rfl) ?_
                    refine T_pu rfl rfl (pu_move rfl) ?_
                    refine T_go rfl rfl (st_call fn25 rfl ((eqInt64SS_ok _ _ R R _ (hs.mat 0 rfl).rm (hs.mat 5 rfl).rm hR1' hR1' hR2' hR2').mono ?_))
                    rintro v w19 ⟨rfl, hk19⟩
                    have hs := hs.next hk19
                    refine T_pu rfl rfl (pu_notp rfl) ?_
                    refine T_if rfl rfl (pu_move rfl) (fun hg25_4 => ?_) (fun hg25_4 => ?_)
                    · refine T_no rfl rfl ?_
                      refine T_no rfl rfl ?_
                      refine T_no rfl rfl ?_
                      refine T_pu rfl rfl (pu_pick_t rfl rfl) ?_
                      refine T_nil ?_
                      refine W_true rfl ?_
                      refine W_seq ?_
                      refine W_reg ?_
                      refine T_pu rfl rfl (pu_assign rfl) ?_
                      refine T_nil ?_
                      refine W_ret ?_
                      exfalso; simp_all
                    · refine T_pu rfl rfl (pu_move rfl) ?_
                      refine T_pu rfl rfl (pu_move rfl) ?_
                      refine T_pu rfl rfl (pu_neq rfl rfl) ?_
                      refine T_pu rfl rfl (pu_pick_f rfl rfl) ?_
                      refine T_nil ?_
                      refine W_if rfl (fun hc25 => ?_) (fun hc25 => ?_)
                      · refine W_seq ?_
                        refine W_reg ?_
                        refine T_pu rfl rfl (pu_assign rfl) ?_
                        refine T_nil ?_
                        refine W_ret ?_
                        exfalso; simp_all
                      · refine W_skip ?_
                        refine W_seq ?_
                        refine W_reg ?_
                        refine T_pu rfl rfl (pu_assign rfl) ?_
                        refine T_nil ?_
                        refine W_seq ?_
                        refine W_reg ?_
                        refine T_pu rfl rfl (pu_move rfl) ?_
                        refine T_pu rfl rfl (pu_move rfl) ?_
                        refine T_go rfl rfl (st_call fn30 rfl ((heldInt64SS_ok _ R 1 _ (hs.mat 2 rfl).rm (by omega) hR2'' (by omega)).mono ?_))
                        rintro v w20 ⟨rfl, rfl⟩
                        refine T_pu rfl rfl (pu_assign rfl) ?_
                        refine T_nil ?_
                        refine W_seq ?_
                        refine W_seq ?_
                        refine W_reg ?_
                        refine T_pu rfl rfl (pu_move rfl) ?_
                        refine T_pu rfl rfl (pu_lss rfl rfl) ?_
                        refine T_nil ?_
                        refine W_if rfl (fun hc29 => ?_) (fun hc29 => ?_)
                        · refine W_seq ?_
                          refine W_reg ?_
                          refine T_pu rfl rfl (pu_assign rfl) ?_
                          refine T_nil ?_
                          refine W_ret ?_
                          exfalso; omega
                        · refine W_skip ?_
                          refine W_seq ?_
                          refine W_seq ?_
                          refine W_reg ?_
                          refine T_pu rfl rfl (pu_move rfl) ?_
                          refine T_pu rfl rfl (pu_move rfl) ?_
                          refine T_pu rfl rfl (pu_neq rfl rfl) ?_
                          refine T_nil ?_
                          refine W_if rfl (fun hc31 => ?_) (fun hc31 => ?_)
                          · refine W_seq ?_
                            refine W_reg ?_
                            refine T_pu rfl rfl (pu_assign rfl) ?_
                            refine T_nil ?_
                            refine W_ret ?_
                            exfalso; exact hc31 rfl
                          · refine W_skip ?_
                            refine W_seq ?_
                            refine W_reg ?_
                            refine T_pu rfl rfl (pu_assign rfl) ?_
                            refine T_nil ?_
                            refine W_ret ?_
                            exact Res_1 rfl rfl ⟨rfl, hs.kp⟩
end Go.Proofs.Ytdpbfdjpeofbmaa.L
