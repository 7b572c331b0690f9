/- Ranks modulo a prime: the reference's. -/
import Derived.Test.YtdpbfdjpeofbmaaA3
namespace Go.Proofs.Ytdpbfdjpeofbmaa.L
set_option linter.unusedVariables false
set_option maxRecDepth 100000

theorem inv_all : (primes.all fun p => (List.range p).all fun a => decide (a = 0) || decide ((invM a p * a) % p = 1)) = true := by decide +kernel
theorem invM_mul {p a : Int} (hp : Pr p) (h0 : 0 < a) (h1 : a < p) : (invM a p * a) % p = 1 := by
  have h := inv_all
  rw [List.all_eq_true] at h
  have h := h _ hp.2
  rw [List.all_eq_true] at h
  have h := h a.toNat (by simp; omega)
  have e1 : ((a.toNat : Nat) : Int) = a := by omega
  have e2 : ((p.toNat : Nat) : Int) = p := by have := hp.1; omega
  have e3 : a.toNat ≠ 0 := by omega
  simp only [e3, decide_false, Bool.false_or, decide_eq_true_eq, e1, e2] at h
  exact h
theorem inv_unique {p a q : Int} (hp : Pr p) (h0 : 0 < a) (h1 : a < p) (hq : 0 ≤ q) (hq1 : q < p) (h : q * a % p = 1) : q = invM a p := by
  have hm := invM_mul hp h0 h1
  have hr := invM_range (p := p) (x := a) (by have := pr_range hp; omega)
  have e : q * (invM a p * a) % p = invM a p * (q * a) % p := by congr 1; rw [← Int.mul_assoc, Int.mul_comm q, Int.mul_assoc]
  rw [Int.mul_emod, hm, Int.mul_one, Int.emod_emod_of_dvd _ (Int.dvd_refl p)] at e
  rw [Int.mul_emod (invM a p), h, Int.mul_one, Int.emod_emod_of_dvd _ (Int.dvd_refl p)] at e
  rwa [Int.emod_eq_of_lt hq hq1, Int.emod_eq_of_lt hr.1 hr.2] at e
theorem invM_pos {p a : Int} (hp : Pr p) (h0 : 0 < a) (h1 : a < p) : 1 ≤ invM a p := by
  have hm := invM_mul hp h0 h1
  have hr := invM_range (p := p) (x := a) (by have := pr_range hp; omega)
  by_cases e : invM a p = 0
  · rw [e, Int.zero_mul] at hm; simp at hm
  · omega
theorem twice_mod {x p : Int} (hp : 0 < p) : (x.tmod p + p).tmod p = x % p := by
  have h1 := Int.tmod_lt_of_pos x hp
  have h2 : -p < x.tmod p := by have := Int.lt_tmod_of_pos x hp; omega
  rw [Int.tmod_eq_emod_of_nonneg (by omega), Int.add_emod_right]
  have := Int.tmod_add_mul_tdiv x p
  rw [← Int.add_mul_emod_self_left (x.tmod p) p (x.tdiv p), this]
theorem sub_mod {a f b p : Int} : (a - f * b) % p = (a + (p - f) * b) % p := by
  rw [show a + (p - f) * b = a - f * b + p * b from by rw [Int.sub_mul]; omega, Int.add_mul_emod_self_left]
theorem swapL_hds2 {hds : List Value} {r a : Nat} {q1 q2 : Value} (h1 : hds[a]? = some q1) (h2 : hds[r]? = some q2) : (hds.set a q2).set r q1 = swapL hds r a undef := by
  rw [← swapL_hds h1 h2]
  by_cases e : r = a
  · subst e
    rw [h1] at h2
    cases h2
    rfl
  · exact List.set_comm _ _ (Ne.symm e)
theorem take_rd_snoc {xs : List Int} {k : Nat} (h : k < xs.length) : xs.take k ++ [rd xs k] = xs.take (k + 1) := (take_rd h).symm

set_option maxHeartbeats 8000000 in
theorem l08Rank_ok (v : Value) (hds : List Value) (xss : List (List Int)) (p : Int) (n : Nat) (w : World) (hpr : Pr p) (hn : 1 ≤ n ∧ n ≤ 8) (hM : MatH w v hds xss) (hg : Gd p n xss) :
    CallsR Try.prog 70 #[v, .int .i64 p] w fun r w' => r = .int .i64 (rankF p xss) ∧ Kp (MatF v hds) w w' := by
  have hs := hM.start
  have hp := pr_range hpr
  obtain ⟨g, cg, rfl, hcg⟩ : ∃ g c, v = .slice (some ⟨g, 0, none⟩) n c ∧ n ≤ c := by
    rcases hM.open with ⟨_, e⟩ | ⟨g, c, e, h⟩
    · have := hg.len; rw [e] at this; simp at this; omega
    · rw [hg.len] at e h; exact ⟨g, c, e, h⟩
  generalize hF : MatF (.slice (some ⟨g, 0, none⟩) n cg) hds = F at hs
  refine fn_calls Try.func70 rfl rfl rfl ?_
  refine W_seq ?_
  refine W_reg ?_
  refine T_pu rfl rfl (pu_assign rfl) ?_
  refine T_nil ?_
  refine W_seq ?_
  refine W_reg ?_
  refine T_pu rfl rfl (pu_assign rfl) ?_
  refine T_nil ?_
  refine W_seq ?_
  refine W_seq ?_
  refine W_reg ?_
  refine T_pu rfl rfl (pu_assign rfl) ?_
  refine T_nil ?_
  refine W_block ?_
  refine W_loop (σ := Nat) (fun c => [(0, .slice (some ⟨g, 0, none⟩) n cg), (1, .int .i64 p), (5, .int .i64 (rankTo p xss c).2), (6, .int .i64 c)]) (fun c w' => c ≤ n ∧ ∃ hds', St F w [aMat (.slice (some ⟨g, 0, none⟩) n cg) hds' (rankTo p xss c).1] w') (fun c => n - c) 0 ?_ ?_ ?_
  · exact .cons rfl (.cons rfl (.cons rfl (.cons rfl (.nil _))))
  · exact ⟨Nat.zero_le _, hds, hs⟩
  rintro c w2 ⟨hcn, hds', hs⟩
  obtain ⟨hg2, hrk⟩ := hg.rankTo (by omega) c hcn
  have hsucc := rankTo_succ p xss c
  generalize hst : rankTo p xss c = st at *
  obtain ⟨ys, rk⟩ := st
  dsimp only at hs hg2 hrk ⊢
  have hM2 := hs.mat 0 rfl
  have hyl := hg2.len
  obtain ⟨b0, c0, hh0, hc0, hO0⟩ := hM2.at (i := 0) (by omega) (by omega) (hg2.rr (i := 0) (by omega) (by omega)).1 (by omega)
  refine W_seq ?_
  refine W_seq ?_
  refine W_reg ?_
  refine T_pu rfl rfl (pu_move rfl) ?_
  refine T_pu rfl rfl (pu_len Try.underlying32 rfl) ?_
  refine T_pu rfl rfl (pu_gtr rfl rfl) ?_
  refine T_if rfl rfl (pu_move rfl) (fun hg3_3 => ?_) (fun hg3_3 => ?_)
  · refine T_pu rfl rfl (pu_move rfl) ?_
    refine T_pu rfl rfl (pu_move rfl) ?_
    refine T_pu rfl rfl ((by first | exact pu_ix1 Try.underlying32 ty22 rfl rfl (by omega) (by omega) | exact pu_index Try.underlying32 ty22 rfl rfl (by omega) (by omega))) ?_
    refine T_pi rfl rfl (pi_load Try.underlying22 rfl rfl (fun w' h => by obtain rfl := h; exact (by first | exact hc0))) ?_
    refine T_pu rfl rfl (pu_len Try.underlying22 rfl) ?_
    refine T_pu rfl rfl (pu_lss rfl rfl) ?_
    refine T_pu rfl rfl (pu_pick_t rfl rfl) ?_
    refine T_nil ?_
    refine W_if rfl (fun hc3 => ?_) (fun hc3 => ?_)
    · refine W_skip ?_
      refine W_seq ?_
      refine W_block ?_
      refine W_seq ?_
      have hfl := findRow_le ys c _ rk rfl (by omega)
      refine W_reg ?_
      refine T_pu rfl rfl (pu_move rfl) ?_
      refine T_pu rfl rfl (pu_assign rfl) ?_
      refine T_nil ?_
      refine W_cut (σ := Unit) (fun _ => [(0, .slice (some ⟨g, 0, none⟩) n cg), (1, .int .i64 p), (5, .int .i64 rk), (6, .int .i64 c), (7, .int .i64 (findRow ys c rk))]) (fun _ w' => w2 = w') ?_ ?_
      · refine W_block ?_
        refine W_loop (σ := Nat) (fun a => [(0, .slice (some ⟨g, 0, none⟩) n cg), (1, .int .i64 p), (5, .int .i64 rk), (6, .int .i64 c), (7, .int .i64 a)]) (fun a w' => w2 = w' ∧ a ≤ n ∧ findRow ys c a = findRow ys c rk) (fun a => n - a) rk ?_ ?_ ?_
        · exact .cons rfl (.cons rfl (.cons rfl (.cons rfl (.cons rfl (.nil _)))))
        · exact ⟨rfl, by omega, rfl⟩
        rintro a w3 ⟨rfl, han, hfa⟩
        refine W_seq ?_
        refine W_seq ?_
        refine W_reg ?_
        refine T_pu rfl rfl (pu_move rfl) ?_
        refine T_pu rfl rfl (pu_move rfl) ?_
        refine T_pu rfl rfl (pu_len Try.underlying32 rfl) ?_
        refine T_pu rfl rfl (pu_lss rfl rfl) ?_
        refine T_if rfl rfl (pu_move rfl) (fun hg6_4 => ?_) (fun hg6_4 => ?_)
        · have ha1 : a < n := by omega
          obtain ⟨b1, c1, hh1, hc1, hO1⟩ := hM2.at (i := a) (by omega) (by omega) (hg2.rr (by omega) (by omega)).1 (by omega)
          have hr1 := (hg2.rr (i := a) (by omega) (by omega)).1
          refine T_pu rfl rfl (pu_move rfl) ?_
          refine T_pu rfl rfl (pu_move rfl) ?_
          refine T_pu rfl rfl ((by first | exact pu_ix1 Try.underlying32 ty22 rfl rfl (by omega) (by omega) | exact pu_index Try.underlying32 ty22 rfl rfl (by omega) (by omega))) ?_
          refine T_pi rfl rfl (pi_load Try.underlying22 rfl rfl (fun w' h => by obtain rfl := h; exact (by first | exact hc1 | exact hO1.ri.at0 (by omega) (by omega)))) ?_
          refine T_pu rfl rfl (pu_move rfl) ?_
          refine T_pu rfl rfl ((by first | exact pu_ix1 Try.underlying22 ty2 rfl rfl (by omega) (by omega) | exact pu_index Try.underlying22 ty2 rfl rfl (by omega) (by omega))) ?_
          refine T_pi rfl rfl (pi_load Try.underlying2 rfl rfl (fun w' h => by obtain rfl := h; exact (by first | exact hc1 | exact hO1.ri.at0 (by omega) (by omega)))) ?_
          refine T_pu rfl rfl (pu_eql rfl rfl) ?_
          refine T_pu rfl rfl (pu_pick_t rfl rfl) ?_
          refine T_nil ?_
          refine W_if rfl (fun hc6 => ?_) (fun hc6 => ?_)
          · refine W_skip ?_
            refine W_block ?_
            refine W_reg ?_
            refine T_pu rfl rfl (pu_move rfl) ?_
            refine T_pu rfl rfl (pu_add64 rfl rfl (by omega)) ?_
            refine T_pu rfl rfl (pu_assign rfl) ?_
            refine T_nil ?_
            exact ⟨a + 1, .cons rfl (.cons rfl (.cons rfl (.cons rfl (.cons rfl (.nil _))))), ⟨rfl, by omega, by rw [← hfa]; exact (findRow_skip (by omega) hc6).symm⟩, by omega⟩
          · refine W_exit rfl ?_
            refine ⟨(), .cons rfl (.cons rfl (.cons rfl (.cons rfl (.cons ?_ (.nil _))))), rfl⟩
            rw [← hfa]
            first
              | (rw [findRow_hit (by omega) hc6]; rfl)
              | (rw [findRow_end (by omega)]; rfl)
        · refine T_no rfl rfl ?_
          refine T_no rfl rfl ?_
          refine T_no rfl rfl ?_
          refine T_no rfl rfl ?_
          refine T_no rfl rfl ?_
          refine T_no rfl rfl ?_
          refine T_no rfl rfl ?_
          refine T_no rfl rfl ?_
          refine T_pu rfl rfl (pu_pick_f rfl rfl) ?_
          refine T_nil ?_
          refine W_false rfl ?_
          refine W_exit rfl ?_
          refine ⟨(), .cons rfl (.cons rfl (.cons rfl (.cons rfl (.cons ?_ (.nil _))))), rfl⟩
          rw [← hfa]
          first
            | (rw [findRow_hit (by omega) hc6]; rfl)
            | (rw [findRow_end (by omega)]; rfl)
      · rintro ⟨⟩ w3 rfl
        unfold rankStep at hsucc
        dsimp only at hsucc
        generalize hfr : findRow ys c rk = a at *
        refine W_seq ?_
        refine W_seq ?_
        refine W_reg ?_
        refine T_pu rfl rfl (pu_move rfl) ?_
        refine T_pu rfl rfl (pu_move rfl) ?_
        refine T_pu rfl rfl (pu_len Try.underlying32 rfl) ?_
        refine T_pu rfl rfl (pu_eql rfl rfl) ?_
        refine T_nil ?_
        refine W_if rfl (fun hc8 => ?_) (fun hc8 => ?_)
        · refine W_exit rfl ?_
          refine W_reg ?_
          refine T_pu rfl rfl (pu_move rfl) ?_
          refine T_pu rfl rfl (pu_add64 rfl rfl (by omega)) ?_
          refine T_pu rfl rfl (pu_assign rfl) ?_
          refine T_nil ?_
          first
            | (have ha2 : a = ys.length := by omega
               rw [if_pos ha2] at hsucc
               exact ⟨c + 1, by rw [hsucc]; exact .cons rfl (.cons rfl (.cons rfl (.cons rfl (.nil _)))), ⟨by omega, _, by rw [hsucc]; exact hs⟩, by omega⟩)
            | (have ha2 : ¬ a = ys.length := by omega
               have hkn' : k = n := by omega
               rw [if_neg ha2, hyl] at hsucc
               rw [← het, hkn'] at hs
               exact ⟨c + 1, by rw [hsucc]; exact .cons rfl (.cons rfl (.cons rfl (.cons rfl (.nil _)))), ⟨by omega, _, by rw [hsucc]; exact hs⟩, by omega⟩)
        · refine W_skip ?_
          refine W_seq ?_
          have ha1 : a < n := by omega
          obtain ⟨b1, c1, hh1, hc1, hO1⟩ := hM2.at (i := a) (by omega) (by omega) (hg2.rr (by omega) (by omega)).1 (by omega)
          obtain ⟨b2, c2, hh2, hc2, hO2⟩ := hM2.at (i := rk) (by omega) (by omega) (hg2.rr (by omega) (by omega)).1 (by omega)
          have hH : Ow w2 22 1 (.slice (some ⟨g, 0, none⟩) n cg) n hds' := by have := hM2.head; rwa [hM2.len, hyl] at this
          have hdl : hds'.length = n := by rw [hM2.len, hyl]
          refine W_reg ?_
          refine T_pu rfl rfl (pu_move rfl) ?_
          refine T_pu rfl rfl (pu_move rfl) ?_
          refine T_pu rfl rfl ((by first | exact pu_ix1 Try.underlying32 ty22 rfl rfl (by omega) (by omega) | exact pu_index Try.underlying32 ty22 rfl rfl (by omega) (by omega))) ?_
          refine T_pi rfl rfl (pi_load Try.underlying22 rfl rfl (fun w' h => by obtain rfl := h; exact (by first | exact hc1 | exact hc2))) ?_
          refine T_pu rfl rfl (pu_assign rfl) ?_
          refine T_nil ?_
          refine W_seq ?_
          refine W_reg ?_
          refine T_pu rfl rfl (pu_move rfl) ?_
          refine T_pu rfl rfl (pu_move rfl) ?_
          refine T_pu rfl rfl (pu_move rfl) ?_
          refine T_pu rfl rfl (pu_move rfl) ?_
          refine T_pu rfl rfl ((by first | exact pu_ix1 Try.underlying32 ty22 rfl rfl (by omega) (by omega) | exact pu_index Try.underlying32 ty22 rfl rfl (by omega) (by omega))) ?_
          refine T_pi rfl rfl (pi_load Try.underlying22 rfl rfl (fun w' h => by obtain rfl := h; exact (by first | exact hc1 | exact hc2))) ?_
          refine T_pu rfl rfl ((by first | exact pu_ix1 Try.underlying32 ty22 rfl rfl (by omega) (by omega) | exact pu_index Try.underlying32 ty22 rfl rfl (by omega) (by omega))) ?_
          refine T_goN rfl (st_storeO ty22 rfl rfl hH rfl (by omega) fun w5 hk5 hH5 => ?_)
          refine T_nil ?_
          refine W_seq ?_
          refine W_reg ?_
          refine T_pu rfl rfl (pu_move rfl) ?_
          refine T_pu rfl rfl (pu_move rfl) ?_
          refine T_pu rfl rfl (pu_move rfl) ?_
          refine T_pu rfl rfl ((by first | exact pu_ix1 Try.underlying32 ty22 rfl rfl (by omega) (by omega) | exact pu_index Try.underlying32 ty22 rfl rfl (by omega) (by omega))) ?_
          refine T_goN rfl (st_storeO ty22 rfl rfl hH5 rfl (by simp; omega) fun w6 hk6 hH6 => ?_)
          have hs := hs.swapM 0 rfl (r := rk) (a := a) (by omega) (by omega) (hk5.trans hk6 (fun _ _ h => h)) (by
            rw [hdl]
            rw [← swapL_hds2 (q1 := .slice (some ⟨b1, 0, none⟩) n c1) (q2 := .slice (some ⟨b2, 0, none⟩) n c2) (by simpa using hh1) (by simpa using hh2)]
            simpa using hH6)
          refine T_nil ?_
          refine W_seq ?_
          have hg3 := hg2.swap (r := rk) (a := a) (by omega) ha1
          have hdr : (swapL hds' rk a undef)[rk]? = some (.slice (some ⟨b1, 0, none⟩) n c1) := by rw [swapL_get _ _ _ _ (by omega) (by omega) rk (by omega)]; unfold sw; rw [if_pos rfl]; simpa using hh1
          have hpv0 : rd2 (swapL ys rk a []) rk c ≠ 0 := by
            have : rr (swapL ys rk a []) rk = rr ys a := by
              unfold rr
              rw [Int.toNat_natCast, List.getD_eq_getElem?_getD, swapL_get _ _ _ _ (by omega) (by omega) rk (by omega)]
              unfold sw
              rw [if_pos rfl, Int.toNat_natCast, List.getD_eq_getElem?_getD]
            unfold rd2
            rw [this]
            exact hfl.2.2 (by omega)
          generalize hzs : swapL ys rk a [] = zs at *
          generalize hhz : swapL hds' rk a undef = hz at *
          simp only [List.set_cons_zero] at hs
          have hM6 := hs.mat 0 rfl
          have hzl := hg3.len
          have hr3 := (hg3.rr (i := rk) (by omega) (by omega)).1
          have hpv := hg3.rd2 (i := rk) (j := c) (by omega) (by omega) (by omega) (by omega)
          have hivr := invM_range (p := p) (x := rd2 zs rk c) (by omega)
          have hO3 : OI w6 (.slice (some ⟨b1, 0, none⟩) n c1) (rr zs rk) := hM6.row rk _ _ hdr (by have := rr_get (xss := zs) (i := (rk : Int)) (by omega) (by omega); simpa using this)
          refine W_reg ?_
          refine T_pu rfl rfl (pu_assign rfl) ?_
          refine T_nil ?_
          refine W_seq ?_
          refine W_block ?_
          refine W_loop (σ := Nat) (fun q => [(0, .slice (some ⟨g, 0, none⟩) n cg), (1, .int .i64 p), (5, .int .i64 rk), (6, .int .i64 c), (8, .slice (some ⟨b1, 0, none⟩) n c1), (9, .int .i64 q)]) (fun q w' => w6 = w' ∧ 1 ≤ q ∧ (q : Int) ≤ invM (rd2 zs rk c) p) (fun q => (invM (rd2 zs rk c) p).toNat - q) 1 ?_ ?_ ?_
          · exact .cons rfl (.cons rfl (.cons rfl (.cons rfl (.cons rfl (.cons rfl (.nil _))))))
          · exact ⟨rfl, Nat.le_refl _, by have := invM_pos hpr (by omega) hpv.2; omega⟩
          rintro q w7 ⟨rfl, hq1, hq2⟩
          have hqm := mul97 (a := q) (b := rd2 zs rk c) (by omega) (by omega)
          refine W_seq ?_
          refine W_seq ?_
          refine W_reg ?_
          refine T_pu rfl rfl (pu_move rfl) ?_
          refine T_pu rfl rfl (pu_move rfl) ?_
          refine T_pu rfl rfl (pu_move rfl) ?_
          refine T_pu rfl rfl ((by first | exact pu_ix1 Try.underlying22 ty2 rfl rfl (by omega) (by omega) | exact pu_index Try.underlying22 ty2 rfl rfl (by omega) (by omega))) ?_
          refine T_pi rfl rfl (pi_load Try.underlying2 rfl rfl (fun w' h => by obtain rfl := h; exact (by first | exact hO3.ri.at0 (by omega) (by omega)))) ?_
          refine T_pu rfl rfl (pu_mul64 rfl rfl (by show _ ≤ (q : Int) * rd2 zs rk c ∧ (q : Int) * rd2 zs rk c ≤ _; omega)) ?_
          refine T_pu rfl rfl (pu_move rfl) ?_
          refine T_pu rfl rfl (pu_rem rfl rfl (by omega)) ?_
          refine T_pu rfl rfl (pu_neq rfl rfl) ?_
          refine T_nil ?_
          refine W_if rfl (fun hc13 => ?_) (fun hc13 => ?_)
          · refine W_skip ?_
            refine W_block ?_
            have hne : (q : Int) ≠ invM (rd2 zs rk c) p := by
              intro e
              apply hc13
              show ((q : Int) * rd2 zs rk c).tmod p = 1
              rw [tmod_nn hqm.1, e]
              exact invM_mul hpr (by omega) hpv.2
            refine W_reg ?_
            refine T_pu rfl rfl (pu_move rfl) ?_
            refine T_pu rfl rfl (pu_add64 rfl rfl (by omega)) ?_
            refine T_pu rfl rfl (pu_assign rfl) ?_
            refine T_nil ?_
            exact ⟨q + 1, .cons rfl (.cons rfl (.cons rfl (.cons rfl (.cons rfl (.cons rfl (.nil _)))))), ⟨rfl, by omega, by omega⟩, by omega⟩
          · refine W_exit rfl ?_
            refine W_seq ?_
            refine W_seq ?_
            have hqe : (q : Int) = invM (rd2 zs rk c) p := inv_unique hpr (by omega) hpv.2 (by omega) (by omega) (by rw [← tmod_nn hqm.1]; exact Decidable.not_not.1 hc13)
            refine W_reg ?_
            refine T_pu rfl rfl (pu_move rfl) ?_
            refine T_pu rfl rfl (pu_add64 rfl rfl (by omega)) ?_
            refine T_pu rfl rfl (pu_assign rfl) ?_
            refine T_nil ?_
            refine W_block ?_
            refine W_loop (σ := Nat) (fun k => [(0, .slice (some ⟨g, 0, none⟩) n cg), (1, .int .i64 p), (5, .int .i64 rk), (6, .int .i64 c), (8, .slice (some ⟨b1, 0, none⟩) n c1), (9, .int .i64 (invM (rd2 zs rk c) p)), (10, .int .i64 k)]) (fun k w' => rk + 1 ≤ k ∧ k ≤ n ∧ ∃ hds', hds'[rk]? = some (.slice (some ⟨b1, 0, none⟩) n c1) ∧ St F w [aMat (.slice (some ⟨g, 0, none⟩) n cg) hds' (elimTo p c rk (invM (rd2 zs rk c) p) zs k)] w') (fun k => n - k) (rk + 1) ?_ ?_ ?_
            · exact .cons rfl (.cons rfl (.cons rfl (.cons rfl (.cons rfl (.cons (by rw [← hqe]; rfl) (.cons rfl (.nil _)))))))
            · exact ⟨Nat.le_refl _, by omega, hz, hdr, by rw [elimTo_start _ (Nat.le_refl _)]; exact hs⟩
            clear hc0 hO0 hh0 hc1 hO1 hc2 hO2
            rintro k w7 ⟨hk1, hkn, hds7, hdr7, hs⟩
            have hg7 := hg3.elimTo (c := c) (iv := invM (rd2 zs rk c) p) (by omega) (show rk < n by omega) k hkn
            have hesucc := elimTo_succ (p := p) (c := c) (iv := invM (rd2 zs rk c) p) (xss := zs) (show rk < k by omega)
            generalize het : elimTo p c rk (invM (rd2 zs rk c) p) zs k = es at *
            have hM7 := hs.mat 0 rfl
            have hel := hg7.len
            refine W_seq ?_
            refine W_seq ?_
            refine W_reg ?_
            refine T_pu rfl rfl (pu_move rfl) ?_
            refine T_pu rfl rfl (pu_move rfl) ?_
            refine T_pu rfl rfl (pu_len Try.underlying32 rfl) ?_
            refine T_pu rfl rfl (pu_lss rfl rfl) ?_
            refine T_nil ?_
            refine W_if rfl (fun hc16 => ?_) (fun hc16 => ?_)
            · refine W_skip ?_
              refine W_seq ?_
              refine W_block ?_
              refine W_seq ?_
              obtain ⟨b4, c4, hh4, hc4', hO4⟩ := hM7.at (i := k) (by omega) (by omega) (hg7.rr (by omega) (by omega)).1 (by omega)
              have hr4 := (hg7.rr (i := k) (by omega) (by omega)).1
              have hev := hg7.rd2 (i := k) (j := c) (by omega) (by omega) (by omega) (by omega)
              have hml := mul97 (a := rd2 es k c) (b := invM (rd2 zs rk c) p) (by omega) (by omega)
              refine W_reg ?_
              refine T_pu rfl rfl (pu_move rfl) ?_
              refine T_pu rfl rfl (pu_move rfl) ?_
              refine T_pu rfl rfl ((by first | exact pu_ix1 Try.underlying32 ty22 rfl rfl (by omega) (by omega) | exact pu_index Try.underlying32 ty22 rfl rfl (by omega) (by omega))) ?_
              refine T_pi rfl rfl (pi_load Try.underlying22 rfl rfl (fun w' h => by obtain rfl := h; exact (by first | exact hc4' | exact hO4.ri.at0 (by omega) (by omega)))) ?_
              refine T_pu rfl rfl (pu_move rfl) ?_
              refine T_pu rfl rfl ((by first | exact pu_ix1 Try.underlying22 ty2 rfl rfl (by omega) (by omega) | exact pu_index Try.underlying22 ty2 rfl rfl (by omega) (by omega))) ?_
              refine T_pi rfl rfl (pi_load Try.underlying2 rfl rfl (fun w' h => by obtain rfl := h; exact (by first | exact hc4' | exact hO4.ri.at0 (by omega) (by omega)))) ?_
              refine T_pu rfl rfl (pu_move rfl) ?_
              refine T_pu rfl rfl (pu_mul64 rfl rfl (by show _ ≤ rd2 es k c * _ ∧ rd2 es k c * _ ≤ _; omega)) ?_
              refine T_pu rfl rfl (pu_move rfl) ?_
              refine T_pu rfl rfl (pu_rem rfl rfl (by omega)) ?_
              have hfv : (rd2 es k c * invM (rd2 zs rk c) p).tmod p = rd2 es k c * invM (rd2 zs rk c) p % p := tmod_nn hml.1
              refine T_go rfl rfl (st_litI hs [] rfl (fun _ => by kernel_rfl) rfl rfl fun w8 b8 hk8 hb8 hs => ?_)
              refine T_pu rfl rfl (pu_assign rfl) ?_
              refine T_pu rfl rfl (pu_assign rfl) ?_
              refine T_nil ?_
              refine W_seq ?_
              refine W_seq ?_
              refine W_reg ?_
              refine T_pu rfl rfl (pu_assign rfl) ?_
              refine T_nil ?_
              refine W_block ?_
              have hfr1 := Int.emod_nonneg (rd2 es k c * invM (rd2 zs rk c) p) (show p ≠ 0 by omega)
              have hfr2 := Int.emod_lt_of_pos (rd2 es k c * invM (rd2 zs rk c) p) (show 0 < p by omega)
              generalize hf : rd2 es k c * invM (rd2 zs rk c) p % p = f at *
              have hrk7 := hg7.rr (i := rk) (by omega) (by omega)
              have hk7' := hg7.rr (i := k) (by omega) (by omega)
              have hax := axpy_ok (p := p) (f := f) (by omega) hk7'.1 hrk7.1
              refine W_loop (σ := Nat × Value) (fun s => [(0, .slice (some ⟨g, 0, none⟩) n cg), (1, .int .i64 p), (5, .int .i64 rk), (6, .int .i64 c), (8, .slice (some ⟨b1, 0, none⟩) n c1), (9, .int .i64 (invM (rd2 zs rk c) p)), (10, .int .i64 k), (11, .int .i64 f), (12, s.2), (13, .int .i64 s.1)]) (fun s w' => s.1 ≤ n ∧ St F w [aOI s.2 ((axpy p f (rr es k) (rr es rk)).take s.1), aMat (.slice (some ⟨g, 0, none⟩) n cg) hds7 es] w') (fun s => n - s.1) (0, .slice (some ⟨b8, 0, none⟩) 0 0) ?_ ?_ ?_
              · exact .cons rfl (.cons rfl (.cons rfl (.cons rfl (.cons rfl (.cons rfl (.cons rfl (.cons (by rw [← hfv]; rfl) (.cons rfl (.cons rfl (.nil _))))))))))
              · exact ⟨Nat.zero_le _, hs⟩
              rintro ⟨x, vn⟩ w9 ⟨hxn, hs⟩
              dsimp only at hxn hs ⊢
              refine W_seq ?_
              refine W_seq ?_
              refine W_reg ?_
              refine T_pu rfl rfl (pu_move rfl) ?_
              refine T_pu rfl rfl (pu_move rfl) ?_
              refine T_pu rfl rfl (pu_len Try.underlying22 rfl) ?_
              refine T_pu rfl rfl (pu_lss rfl rfl) ?_
              refine T_nil ?_
              refine W_if rfl (fun hc20 => ?_) (fun hc20 => ?_)
              · refine W_skip ?_
                refine W_seq ?_
                refine W_block ?_
                refine W_draw mixed 1000 (IF (fun q => vn.ownBlock = some q)) (fun w9 hk9 => ?_)
                have hs := hs.next hk9
                have hM9 := hs.mat 1 rfl
                obtain ⟨b5, c5, hh5, hc5', hO5⟩ := hM9.at (i := k) (by omega) (by omega) hk7'.1 (by omega)
                have hO6 : OI w9 (.slice (some ⟨b1, 0, none⟩) n c1) (rr es rk) := hM9.row rk _ _ hdr7 (by have := rr_get (xss := es) (i := (rk : Int)) (by omega) (by omega); simpa using this)
                have hn0 : ¬ vn.ownBlock = some g := fun e => hs.apart 0 1 rfl rfl (by decide) g e (.inl rfl)
                have hn5 : ¬ vn.ownBlock = some b5 := fun e => hs.apart 0 1 rfl rfl (by decide) b5 e (.inr ⟨_, List.mem_of_getElem? hh5, rfl⟩)
                have hn1 : ¬ vn.ownBlock = some b1 := fun e => hs.apart 0 1 rfl rfl (by decide) b1 e (.inr ⟨_, List.mem_of_getElem? hdr7, rfl⟩)
                have hxr := hk7'.2.rd (i := x) (by omega) (by omega)
                have hyr := hrk7.2.rd (i := x) (by omega) (by omega)
                have hml := mul97 (a := f) (b := rd (rr es rk) x) (by omega) (by omega)
                have htr1 := Int.tmod_lt_of_pos (rd (rr es k) x - f * rd (rr es rk) x) (show 0 < p by omega)
                have htr2 := Int.lt_tmod_of_pos (rd (rr es k) x - f * rd (rr es rk) x) (show 0 < p by omega)
                refine D_pu 0 (by kernel_rfl) rfl (by kernel_rfl) (by kernel_rfl) rfl rfl (by kernel_rfl) (Pu.stable (pu_move rfl)) ?_
                refine D_pu 1 (by kernel_rfl) rfl (by kernel_rfl) (by kernel_rfl) rfl rfl (by kernel_rfl) (Pu.stable (pu_move rfl)) ?_
                refine D_pu 2 (by kernel_rfl) rfl (by kernel_rfl) (by kernel_rfl) rfl rfl (by kernel_rfl) (Pu.stable (pu_move rfl)) ?_
                refine D_pu 3 (by kernel_rfl) rfl (by kernel_rfl) (by kernel_rfl) rfl rfl (by kernel_rfl) (Pu.stable ((by first | exact pu_ix1 Try.underlying32 ty22 rfl rfl (by omega) (by omega) | exact pu_index Try.underlying32 ty22 rfl rfl (by omega) (by omega)))) ?_
                refine D_pu 4 (by kernel_rfl) rfl (by kernel_rfl) (by kernel_rfl) rfl rfl (by kernel_rfl) (pi_load Try.underlying22 rfl rfl (fun w' h => by obtain ⟨_, h⟩ := h; first | exact h.cell (hc5') hn0 | exact h.cell (hO5.ri.at0 (by omega) (by omega)) hn5 | exact h.cell (hO6.ri.at0 (by omega) (by omega)) hn1)) ?_
                refine D_pu 5 (by kernel_rfl) rfl (by kernel_rfl) (by kernel_rfl) rfl rfl (by kernel_rfl) (Pu.stable (pu_move rfl)) ?_
                refine D_pu 6 (by kernel_rfl) rfl (by kernel_rfl) (by kernel_rfl) rfl rfl (by kernel_rfl) (Pu.stable ((by first | exact pu_ix1 Try.underlying22 ty2 rfl rfl (by omega) (by omega) | exact pu_index Try.underlying22 ty2 rfl rfl (by omega) (by omega)))) ?_
                refine D_pu 7 (by kernel_rfl) rfl (by kernel_rfl) (by kernel_rfl) rfl rfl (by kernel_rfl) (pi_load Try.underlying2 rfl rfl (fun w' h => by obtain ⟨_, h⟩ := h; first | exact h.cell (hc5') hn0 | exact h.cell (hO5.ri.at0 (by omega) (by omega)) hn5 | exact h.cell (hO6.ri.at0 (by omega) (by omega)) hn1)) ?_
                refine D_pu 8 (by kernel_rfl) rfl (by kernel_rfl) (by kernel_rfl) rfl rfl (by kernel_rfl) (Pu.stable (pu_move rfl)) ?_
                refine D_pu 9 (by kernel_rfl) rfl (by kernel_rfl) (by kernel_rfl) rfl rfl (by kernel_rfl) (Pu.stable (pu_move rfl)) ?_
                refine D_pu 10 (by kernel_rfl) rfl (by kernel_rfl) (by kernel_rfl) rfl rfl (by kernel_rfl) (Pu.stable (pu_move rfl)) ?_
                refine D_pu 11 (by kernel_rfl) rfl (by kernel_rfl) (by kernel_rfl) rfl rfl (by kernel_rfl) (Pu.stable ((by first | exact pu_ix1 Try.underlying22 ty2 rfl rfl (by omega) (by omega) | exact pu_index Try.underlying22 ty2 rfl rfl (by omega) (by omega)))) ?_
                refine D_pu 12 (by kernel_rfl) rfl (by kernel_rfl) (by kernel_rfl) rfl rfl (by kernel_rfl) (pi_load Try.underlying2 rfl rfl (fun w' h => by obtain ⟨_, h⟩ := h; first | exact h.cell (hc5') hn0 | exact h.cell (hO5.ri.at0 (by omega) (by omega)) hn5 | exact h.cell (hO6.ri.at0 (by omega) (by omega)) hn1)) ?_
                refine D_pu 13 (by kernel_rfl) rfl (by kernel_rfl) (by kernel_rfl) rfl rfl (by kernel_rfl) (Pu.stable (pu_mul64 rfl rfl (by omega))) ?_
                refine D_pu 14 (by kernel_rfl) rfl (by kernel_rfl) (by kernel_rfl) rfl rfl (by kernel_rfl) (Pu.stable (pu_sub64 rfl rfl (by omega))) ?_
                refine D_pu 15 (by kernel_rfl) rfl (by kernel_rfl) (by kernel_rfl) rfl rfl (by kernel_rfl) (Pu.stable (pu_move rfl)) ?_
                refine D_pu 16 (by kernel_rfl) rfl (by kernel_rfl) (by kernel_rfl) rfl rfl (by kernel_rfl) (Pu.stable (pu_rem rfl rfl (by omega))) ?_
                refine D_pu 17 (by kernel_rfl) rfl (by kernel_rfl) (by kernel_rfl) rfl rfl (by kernel_rfl) (Pu.stable (pu_move rfl)) ?_
                refine D_pu 18 (by kernel_rfl) rfl (by kernel_rfl) (by kernel_rfl) rfl rfl (by kernel_rfl) (Pu.stable (pu_add64 rfl rfl (by omega))) ?_
                refine D_pu 19 (by kernel_rfl) rfl (by kernel_rfl) (by kernel_rfl) rfl rfl (by kernel_rfl) (Pu.stable (pu_move rfl)) ?_
                refine D_pu 20 (by kernel_rfl) rfl (by kernel_rfl) (by kernel_rfl) rfl rfl (by kernel_rfl) (Pu.stable (pu_rem rfl rfl (by omega))) ?_
                refine D_go 21 (by kernel_rfl) (by first | rfl | (intro _; rfl) | (intro h; exact absurd (show true = false from h) (by decide)) | exact Kp.refl _ _ | assumption) rfl rfl rfl (st_litI hs [((rd (rr es k) x - f * rd (rr es rk) x).tmod p + p).tmod p] rfl (fun _ => by kernel_rfl) rfl rfl fun w10 b10 hk10 hb10 hs => ?_)
                have hO10 := hs.oi 0 rfl
                have hIF : Kp (fun q => vn.ownBlock = some q) w9 w10 := hk10.of_no
                refine D_go 22 (by kernel_rfl) (by first | rfl | (intro _; rfl) | (intro h; exact absurd (show true = false from h) (by decide)) | exact Kp.refl _ _ | assumption) rfl rfl rfl (st_appendI hs 1 rfl Try.underlying22 ty2 rfl rfl hO10.ri (by simp; omega) fun vn' w11 hs hk11 hf11 => ?_)
                have hIF2 : Kp (fun q => vn.ownBlock = some q) w9 w11 := hIF.trans hk11 (fun _ _ h => h)
                have hs := hs.tail
                refine D_pu 23 (by kernel_rfl) rfl (by kernel_rfl) (by kernel_rfl) rfl rfl (by kernel_rfl) (Pu.stable (pu_assign rfl)) ?_
                refine D_done (by kernel_rfl) (by first | rfl | (intro _; rfl) | (intro h; exact absurd (show true = false from h) (by decide)) | exact Kp.refl _ _ | assumption) ?_
                refine W_reg ?_
                refine T_pu rfl rfl (pu_move rfl) ?_
                refine T_pu rfl rfl (pu_add64 rfl rfl (by omega)) ?_
                refine T_pu rfl rfl (pu_assign rfl) ?_
                refine T_nil ?_
                refine ⟨(x + 1, vn'), .cons rfl (.cons rfl (.cons rfl (.cons rfl (.cons rfl (.cons rfl (.cons rfl (.cons rfl (.cons rfl (.cons rfl (.nil _)))))))))), ⟨by show x + 1 ≤ n; omega, ?_⟩, by show n - (x + 1) < n - x; omega⟩
                rw [twice_mod (by omega), sub_mod, ← axpy_rd (n := n) hk7'.1 hrk7.1 (by omega), take_rd_snoc (by omega)] at hs
                exact hs
              · refine W_exit rfl ?_
                obtain rfl : x = n := by omega
                rw [List.take_of_length_le (by omega)] at hs
                have hs := hs.front 1 rfl
                obtain ⟨A12, c12, rfl, hc12⟩ := (hs.oi 1 rfl).ri.open
                refine W_reg ?_
                refine T_pu rfl rfl (pu_move rfl) ?_
                refine T_pu rfl rfl (pu_move rfl) ?_
                refine T_pu rfl rfl (pu_move rfl) ?_
                refine T_pu rfl rfl ((by first | exact pu_ix1 Try.underlying32 ty22 rfl rfl (by omega) (by omega) | exact pu_index Try.underlying32 ty22 rfl rfl (by omega) (by omega))) ?_
                refine T_goN rfl (st_putM hs ty22 rfl rfl rfl (by omega) (by omega) fun w12 hk12 hs => ?_)
                have hs : St F w [aMat (.slice (some ⟨g, 0, none⟩) x cg) (hds7.set (k : Int).toNat (.slice A12 (axpy p f (rr es k) (rr es rk)).length c12)) (elimTo p c rk (invM (rd2 zs rk c) p) zs (k + 1))] w12 := by rw [hesucc]; unfold elimR; rw [hf]; exact hs
                refine T_nil ?_
                refine W_reg ?_
                refine T_pu rfl rfl (pu_move rfl) ?_
                refine T_pu rfl rfl (pu_add64 rfl rfl (by omega)) ?_
                refine T_pu rfl rfl (pu_assign rfl) ?_
                refine T_nil ?_
                exact ⟨k + 1, .cons rfl (.cons rfl (.cons rfl (.cons rfl (.cons rfl (.cons rfl (.cons rfl (.nil _))))))), ⟨by omega, by omega, _, by rw [Int.toNat_natCast, List.getElem?_set_ne (by omega)]; exact hdr7, hs⟩, by omega⟩
            · refine W_exit rfl ?_
              refine W_reg ?_
              refine T_pu rfl rfl (pu_move rfl) ?_
              refine T_pu rfl rfl (pu_add64 rfl rfl (by omega)) ?_
              refine T_pu rfl rfl (pu_assign rfl) ?_
              refine T_nil ?_
              refine W_reg ?_
              refine T_pu rfl rfl (pu_move rfl) ?_
              refine T_pu rfl rfl (pu_add64 rfl rfl (by omega)) ?_
              refine T_pu rfl rfl (pu_assign rfl) ?_
              refine T_nil ?_
              first
                | (have ha2 : a = ys.length := by omega
                   rw [if_pos ha2] at hsucc
                   exact ⟨c + 1, by rw [hsucc]; exact .cons rfl (.cons rfl (.cons rfl (.cons rfl (.nil _)))), ⟨by omega, _, by rw [hsucc]; exact hs⟩, by omega⟩)
                | (have ha2 : ¬ a = ys.length := by omega
                   have hkn' : k = n := by omega
                   rw [if_neg ha2, hyl] at hsucc
                   rw [← het, hkn'] at hs
                   exact ⟨c + 1, by rw [hsucc]; exact .cons rfl (.cons rfl (.cons rfl (.cons rfl (.nil _)))), ⟨by omega, _, by rw [hsucc]; exact hs⟩, by omega⟩)
    · refine W_exit rfl ?_
      refine W_seq ?_
      refine W_reg ?_
      refine T_pu rfl rfl (pu_move rfl) ?_
      refine T_pu rfl rfl (pu_assign rfl) ?_
      refine T_nil ?_
      refine W_ret ?_
      first
        | (exfalso; omega)
        | (have : c = n := by omega
           refine Res_1 rfl rfl ⟨?_, hs.kp⟩
           unfold rankF
           rw [hg.len, ← this, hst])
  · refine T_no rfl rfl ?_
    refine T_no rfl rfl ?_
    refine T_no rfl rfl ?_
    refine T_no rfl rfl ?_
    refine T_no rfl rfl ?_
    refine T_no rfl rfl ?_
    refine T_pu rfl rfl (pu_pick_f rfl rfl) ?_
    refine T_nil ?_
    refine W_false rfl ?_
    refine W_exit rfl ?_
    refine W_seq ?_
    refine W_reg ?_
    refine T_pu rfl rfl (pu_move rfl) ?_
    refine T_pu rfl rfl (pu_assign rfl) ?_
    refine T_nil ?_
    refine W_ret ?_
    first
      | (exfalso; omega)
      | (have : c = n := by omega
         refine Res_1 rfl rfl ⟨?_, hs.kp⟩
         unfold rankF
         rw [hg.len, ← this, hst])
end Go.Proofs.Ytdpbfdjpeofbmaa.L
