/- Gauss and Jordan: the reference's. -/
import Derived.Test.YtdpbfdjpeofbmaaC2
namespace Go.Proofs.Ytdpbfdjpeofbmaa.L
set_option linter.unusedVariables false
set_option maxRecDepth 100000

theorem RI.cutLo {w : World} {b n c lo : Nat} {xs : List Int} (h : RI w (.slice (some ⟨b, 0, none⟩) n c) xs) (hlo : lo ≤ n) : RI w (.slice (if c = lo then some ⟨b, 0, none⟩ else (some (⟨b, 0, none⟩ : Addr)).map (·.add (lo * 1))) (n - lo) (c - lo)) (xs.drop lo) := by
  have hn := h.len
  obtain ⟨A', c', e, hc, hl, hr⟩ := h
  cases e
  have hlen : (xs.drop lo).length = xs.length - lo := by simp
  unfold RI
  rw [hlen]
  refine ⟨_, _, rfl, by omega, by rw [nums_length, hlen, Nat.mul_one], fun j u hj => ?_⟩
  have hjl : j < xs.length - lo := by have := (List.getElem?_eq_some_iff.1 hj).1; rwa [nums_length, hlen] at this
  have hj' : (nums .i64 xs)[lo + j]? = some u := by
    rw [← hj]
    unfold nums
    rw [List.getElem?_map, List.getElem?_map, List.getElem?_drop]
  obtain ⟨a, ha, hcell⟩ := hr _ _ hj'
  cases ha
  rw [if_neg (by omega)]
  refine ⟨_, rfl, ?_⟩
  show w.cell? (((⟨b, 0, none⟩ : Addr).add (lo * 1)).add j) = some u
  rw [add_zero', Nat.mul_one, add_lit']
  rwa [add_zero'] at hcell
theorem augM_take {xss : List (List Int)} {k : Nat} (h : k < xss.length) : (augM xss).take (k + 1) = (augM xss).take k ++ [rr xss k ++ unitAt xss.length k 1] := by
  rw [List.take_add_one]
  congr 1
  simp [augM, h]
theorem map_take {Z : List (List Int)} {f : List Int → List Int} (hf : f [] = []) {k : Nat} (h : k < Z.length) : (Z.map f).take (k + 1) = (Z.map f).take k ++ [f (rr Z k)] := by
  rw [List.take_add_one]
  congr 1
  have := rr_get (xss := Z) (i := (k : Int)) (by omega) (by omega)
  rw [Int.toNat_natCast] at this
  simp [this]

set_option maxHeartbeats 16000000 in
theorem l09Solve_ok (v : Value) (xss : List (List Int)) (w : World) (hv : RM w v xss) (hF : Fm xss) :
    CallsR Try.prog 78 #[v] w fun r w' => ∃ u, r = .tuple #[.int .i64 (detF xss), u] ∧ NewM w w' u (invF xss) := by
  obtain ⟨A, c, rfl, hc⟩ := hv.open
  have hs := St.start w
  have hd1 := hF.1
  have hd2 := hF.2.1
  have hZ0 := augM_ok hF
  have hfr : ∀ i : Nat, i < xss.length → (rr xss i).length = xss.length ∧ InP 10007 (rr xss i) := fun i hi => hF.fr hi
  have hdn := @det_none xss
  have hds := @det_some xss
  have hak : ∀ k : Nat, k < xss.length → (augM xss).take (k + 1) = (augM xss).take k ++ [rr xss k ++ unitAt xss.length k 1] := fun k hk => augM_take hk
  have hrow : ∀ (w' : World) (k : Nat), k < xss.length → RM w' (.slice A xss.length c) xss → ∃ a B cc, A = some a ∧ w'.cell? (a.add ((k : Int).toNat * 1)) = some (.slice B (rr xss k).length cc) ∧ RI w' (.slice B (rr xss k).length cc) (rr xss k) := fun w' k hk h => h.row (by omega) (by omega)
  generalize hd : xss.length = d at *
  have hzl := hZ0.len
  have hzt : ∀ k, k ≤ d → ((augM xss).take k).length = k := fun k hk => by rw [List.length_take]; omega
  refine fn_calls Try.func78 rfl rfl rfl ?_
  refine W_seq ?_
  refine W_reg ?_
  refine T_pu rfl rfl (pu_assign rfl) ?_
  refine T_pu rfl rfl (pu_assign rfl) ?_
  refine T_nil ?_
  refine W_seq ?_
  refine W_reg ?_
  refine T_pu rfl rfl (pu_move rfl) ?_
  refine T_pu rfl rfl (pu_len Try.underlying32 rfl) ?_
  refine T_pu rfl rfl (pu_assign rfl) ?_
  refine T_nil ?_
  refine W_seq ?_
  refine W_reg ?_
  refine T_go rfl rfl (st_litM hs (fun _ => by kernel_rfl) fun w1 b1 hk1 hb1 hs => ?_)
  refine T_pu rfl rfl (pu_assign rfl) ?_
  refine T_pu rfl rfl (pu_assign rfl) ?_
  refine T_nil ?_
  refine W_seq ?_
  refine W_seq ?_
  refine W_reg ?_
  refine T_pu rfl rfl (pu_assign rfl) ?_
  refine T_nil ?_
  refine W_block ?_
  refine W_loop (σ := Nat × Value) (fun s => [(0, .slice A d c), (4, .int .i64 d), (5, s.2), (6, .int .i64 1), (7, .int .i64 s.1)]) (fun s w' => s.1 ≤ d ∧ ∃ hA, St no w [aMat s.2 hA ((augM xss).take s.1)] w') (fun s => d - s.1) (0, .slice (some ⟨b1, 0, none⟩) 0 0) ?_ ?_ ?_
  · exact .cons rfl (.cons rfl (.cons rfl (.cons rfl (.cons rfl (.nil _)))))
  · exact ⟨Nat.zero_le _, [], hs⟩
  clear hs
  rintro ⟨k, u⟩ w2 ⟨hkd, hA, hs⟩
  dsimp only at hkd hs ⊢
  refine W_seq ?_
  refine W_seq ?_
  refine W_reg ?_
  refine T_pu rfl rfl (pu_move rfl) ?_
  refine T_pu rfl rfl (pu_move rfl) ?_
  refine T_pu rfl rfl (pu_lss rfl rfl) ?_
  refine T_nil ?_
  refine W_if rfl (fun hc4 => ?_) (fun hc4 => ?_)
  · refine W_skip ?_
    refine W_seq ?_
    refine W_block ?_
    refine W_seq ?_
    refine W_reg ?_
    refine T_pu rfl rfl (pu_move rfl) ?_
    refine T_go rfl rfl (st_makeI hs Try.underlying22 ty2 rfl rfl (by omega) fun w3 b3 hk3 hb3 hs => ?_)
    refine T_pu rfl rfl (pu_assign rfl) ?_
    refine T_nil ?_
    refine W_seq ?_
    refine W_reg ?_
    refine T_pu rfl rfl (pu_move rfl) ?_
    refine T_pu rfl rfl (pu_move rfl) ?_
    refine T_pu rfl rfl ((by first | exact pu_ix1 Try.underlying22 ty2 rfl rfl (by omega) (by omega) | exact pu_index Try.underlying22 ty2 rfl rfl (by omega) (by omega))) ?_
    refine T_goN rfl (st_storeI hs 0 rfl ty2 rfl rfl (by omega) (by simp; omega) fun w4 hk4 hs => ?_)
    have hs : St no w [aOI (.slice (some ⟨b3, 0, none⟩) d d) (unitAt d k 1), aMat u hA ((augM xss).take k)] w4 := hs
    refine T_nil ?_
    obtain ⟨a, B, cc, rfl, hcell, hri⟩ := hrow w4 k (by omega) (hv.keep hs.kp)
    have hrl := (hfr k (by omega)).1
    refine W_reg ?_
    refine T_pu rfl rfl (pu_move rfl) ?_
    refine T_pu rfl rfl (pu_move rfl) ?_
    refine T_pu rfl rfl (pu_move rfl) ?_
    refine T_pu rfl rfl ((by first | exact pu_ix1 Try.underlying32 ty22 rfl rfl (by omega) (by omega) | exact pu_index Try.underlying32 ty22 rfl rfl (by omega) (by omega))) ?_
    refine T_pi rfl rfl (pi_load Try.underlying22 rfl rfl (fun w' h => by obtain rfl := h; exact (by first | exact hcell))) ?_
    refine T_go rfl rfl (st_call fn136 rfl ((l01Own_ok _ (rr xss k) _ hri (by omega)).mono ?_))
    rintro q w5 hn
    have hs := hs.newI hn
    refine T_pu rfl rfl (pu_move rfl) ?_
    refine T_go rfl rfl (st_appendI hs 0 rfl Try.underlying22 ty2 rfl rfl (hs.oi 1 rfl).ri (by simp [unitAt]; omega) fun q' w6 hs hk6 hf6 => ?_)
    obtain ⟨A6, c6, rfl, _⟩ := (hs.oi 0 rfl).ri.open
    have hs := hs.drop 1
    simp only [List.set_cons_zero, List.eraseIdx] at hs
    refine T_go rfl rfl (st_litR hs rfl (fun _ => by kernel_rfl) fun w7 b7 hk7 hb7 hs hU => ?_)
    have hs := hs.front 1 rfl
    simp only [List.eraseIdx] at hs
    refine T_go rfl rfl (st_appendM (by' := 0) hs Try.underlying32 ty22 rfl rfl hU rfl (by rw [hzt k (by omega)]; omega) fun u' w8 hs hk8 hf8 => ?_)
    refine T_pu rfl rfl (pu_assign rfl) ?_
    refine T_nil ?_
    refine W_reg ?_
    refine T_pu rfl rfl (pu_move rfl) ?_
    refine T_pu rfl rfl (pu_add64 rfl rfl (by omega)) ?_
    refine T_pu rfl rfl (pu_assign rfl) ?_
    refine T_nil ?_
    rw [← hak k (by omega)] at hs
    exact ⟨(k + 1, u'), .cons rfl (.cons rfl (.cons rfl (.cons rfl (.cons rfl (.nil _))))), ⟨by show k + 1 ≤ d; omega, _, hs⟩, by show d - (k + 1) < d - k; omega⟩
  · refine W_exit rfl ?_
    refine W_seq ?_
    refine W_seq ?_
    have hs : St no w [aMat u hA (augM xss)] w2 := by
      rw [show k = d from by omega, List.take_of_length_le (by omega)] at hs
      exact hs
    obtain ⟨gR, cR, rfl, _⟩ := (hs.mat 0 rfl).slice (n := d) hzl hd1
    refine W_reg ?_
    refine T_pu rfl rfl (pu_assign rfl) ?_
    refine T_nil ?_
    refine W_block ?_
    refine W_loop (σ := Nat × List (List Int) × Int) (fun s => [(4, .int .i64 d), (5, (.slice (some ⟨gR, 0, none⟩) d cR)), (6, .int .i64 s.2.2), (9, .int .i64 s.1)]) (fun s w' => s.1 ≤ d ∧ gjTo 10007 (augM xss) s.1 = some s.2 ∧ ∃ hR, St no w [aMat (.slice (some ⟨gR, 0, none⟩) d cR) hR s.2.1] w') (fun s => d - s.1) (0, augM xss, 1) ?_ ?_ ?_
    · exact .cons rfl (.cons rfl (.cons rfl (.cons rfl (.nil _))))
    · exact ⟨Nat.zero_le _, rfl, hA, hs⟩
    clear hs hv hrow hfr hak hzt hzl
    rintro ⟨c1, Z, det⟩ w4 ⟨hcd, hgj, hR, hs⟩
    dsimp only at hcd hgj hs ⊢
    obtain ⟨hZ, hdet⟩ := gjTo_ok (by omega) hZ0 c1 (by omega) Z det hgj
    have hsucc := gjTo_succ (p := 10007) (Z := augM xss) (c := c1)
    rw [hgj, Option.bind_some] at hsucc
    unfold gjStep at hsucc
    dsimp only at hsucc
    have hZl := hZ.len
    refine W_seq ?_
    refine W_seq ?_
    refine W_reg ?_
    refine T_pu rfl rfl (pu_move rfl) ?_
    refine T_pu rfl rfl (pu_move rfl) ?_
    refine T_pu rfl rfl (pu_lss rfl rfl) ?_
    refine T_nil ?_
    refine W_if rfl (fun hc10 => ?_) (fun hc10 => ?_)
    · refine W_skip ?_
      refine W_seq ?_
      refine W_block ?_
      refine W_seq ?_
      have hfl := findRow_le Z c1 _ c1 rfl (by omega)
      refine W_reg ?_
      refine T_pu rfl rfl (pu_move rfl) ?_
      refine T_pu rfl rfl (pu_assign rfl) ?_
      refine T_nil ?_
      refine W_cut (σ := Unit) (fun _ => [(4, .int .i64 d), (5, (.slice (some ⟨gR, 0, none⟩) d cR)), (6, .int .i64 det), (9, .int .i64 c1), (10, .int .i64 (findRow Z c1 c1))]) (fun _ w' => w4 = w') ?_ ?_
      · refine W_block ?_
        refine W_loop (σ := Nat) (fun a => [(4, .int .i64 d), (5, (.slice (some ⟨gR, 0, none⟩) d cR)), (6, .int .i64 det), (9, .int .i64 c1), (10, .int .i64 a)]) (fun a w' => w4 = w' ∧ a ≤ d ∧ findRow Z c1 a = findRow Z c1 c1) (fun a => d - a) c1 ?_ ?_ ?_
        · exact .cons rfl (.cons rfl (.cons rfl (.cons rfl (.cons rfl (.nil _)))))
        · exact ⟨rfl, by omega, rfl⟩
        rintro a w5 ⟨rfl, had, hfa⟩
        have hMA := hs.mat 0 rfl
        refine W_seq ?_
        refine W_seq ?_
        refine W_reg ?_
        refine T_pu rfl rfl (pu_move rfl) ?_
        refine T_pu rfl rfl (pu_move rfl) ?_
        refine T_pu rfl rfl (pu_lss rfl rfl) ?_
        refine T_if rfl rfl (pu_move rfl) (fun hg13_3 => ?_) (fun hg13_3 => ?_)
        · have ha1 : a < d := by omega
          obtain ⟨b1, cc1, hh1, hcA1, hO1⟩ := hMA.at (i := a) (by omega) (by omega) (hZ.rr (by omega) (by omega)).1 (by omega)
          have hr1 := (hZ.rr (i := a) (by omega) (by omega)).1
          refine T_pu rfl rfl (pu_move rfl) ?_
          refine T_pu rfl rfl (pu_move rfl) ?_
          refine T_pu rfl rfl ((by first | exact pu_ix1 Try.underlying32 ty22 rfl rfl (by omega) (by omega) | exact pu_index Try.underlying32 ty22 rfl rfl (by omega) (by omega))) ?_
          refine T_pi rfl rfl (pi_load Try.underlying22 rfl rfl (fun w' h => by obtain rfl := h; exact (by first | exact hcA1 | exact hO1.ri.at0 (by omega) (by omega)))) ?_
          refine T_pu rfl rfl (pu_move rfl) ?_
          refine T_pu rfl rfl ((by first | exact pu_ix1 Try.underlying22 ty2 rfl rfl (by omega) (by omega) | exact pu_index Try.underlying22 ty2 rfl rfl (by omega) (by omega))) ?_
          refine T_pi rfl rfl (pi_load Try.underlying2 rfl rfl (fun w' h => by obtain rfl := h; exact (by first | exact hcA1 | exact hO1.ri.at0 (by omega) (by omega)))) ?_
          refine T_pu rfl rfl (pu_eql rfl rfl) ?_
          refine T_pu rfl rfl (pu_pick_t rfl rfl) ?_
          refine T_nil ?_
          refine W_if rfl (fun hc13 => ?_) (fun hc13 => ?_)
          · refine W_skip ?_
            refine W_block ?_
            refine W_reg ?_
            refine T_pu rfl rfl (pu_move rfl) ?_
            refine T_pu rfl rfl (pu_add64 rfl rfl (by omega)) ?_
            refine T_pu rfl rfl (pu_assign rfl) ?_
            refine T_nil ?_
            exact ⟨a + 1, .cons rfl (.cons rfl (.cons rfl (.cons rfl (.cons rfl (.nil _))))), ⟨rfl, by omega, by rw [← hfa]; exact (findRow_skip (by omega) hc13).symm⟩, by omega⟩
          · refine W_exit rfl ?_
            refine ⟨(), .cons rfl (.cons rfl (.cons rfl (.cons rfl (.cons ?_ (.nil _))))), rfl⟩
            rw [← hfa]
            first
              | (rw [findRow_hit (by omega) hc13]; rfl)
              | (rw [findRow_end (by omega)]; rfl)
        · refine T_no rfl rfl ?_
          refine T_no rfl rfl ?_
          refine T_no rfl rfl ?_
          refine T_no rfl rfl ?_
          refine T_no rfl rfl ?_
          refine T_no rfl rfl ?_
          refine T_no rfl rfl ?_
          refine T_no rfl rfl ?_
          refine T_pu rfl rfl (pu_pick_f rfl rfl) ?_
          refine T_nil ?_
          refine W_false rfl ?_
          refine W_exit rfl ?_
          refine ⟨(), .cons rfl (.cons rfl (.cons rfl (.cons rfl (.cons ?_ (.nil _))))), rfl⟩
          rw [← hfa]
          first
            | (rw [findRow_hit (by omega) hc13]; rfl)
            | (rw [findRow_end (by omega)]; rfl)
      · rintro ⟨⟩ w5 rfl
        generalize hfe : findRow Z c1 c1 = a at *
        refine W_seq ?_
        refine W_seq ?_
        refine W_reg ?_
        refine T_pu rfl rfl (pu_move rfl) ?_
        refine T_pu rfl rfl (pu_move rfl) ?_
        refine T_pu rfl rfl (pu_eql rfl rfl) ?_
        refine T_nil ?_
        refine W_if rfl (fun hc15 => ?_) (fun hc15 => ?_)
        · refine W_seq ?_
          refine W_reg ?_
          refine T_pu rfl rfl (pu_assign rfl) ?_
          refine T_pu rfl rfl (pu_assign rfl) ?_
          refine T_nil ?_
          refine W_ret ?_
          have e := gjTo_none (d := d) (by omega) (show gjTo 10007 (augM xss) (c1 + 1) = none from by rw [hsucc, if_pos (by omega)])
          obtain ⟨e1, e2⟩ := hdn e
          refine Res_2 rfl rfl rfl ⟨_, by rw [e1], ?_⟩
          rw [e2]
          exact newM_none hs.kp
        · refine W_skip ?_
          refine W_seq ?_
          refine W_seq ?_
          rw [if_neg (show ¬ a = Z.length by omega)] at hsucc
          obtain ⟨hca, had⟩ : c1 ≤ a ∧ a < d := by omega
          clear hfl hZ0 hdn hds hgj hc15 hfe
          refine W_reg ?_
          refine T_pu rfl rfl (pu_move rfl) ?_
          refine T_pu rfl rfl (pu_move rfl) ?_
          refine T_pu rfl rfl (pu_neq rfl rfl) ?_
          refine T_nil ?_
          refine W_if rfl (fun hc17 => ?_) (fun hc17 => ?_)
          · refine W_seq ?_
            have hMA := hs.mat 0 rfl
            obtain ⟨b1, cc1, hh1, hcA1, hO1⟩ := hMA.at (i := a) (by omega) (by omega) (hZ.rr (by omega) (by omega)).1 (by omega)
            obtain ⟨b2, cc2, hh2, hcA2, hO2⟩ := hMA.at (i := c1) (by omega) (by omega) (hZ.rr (by omega) (by omega)).1 (by omega)
            have hH : Ow w4 22 1 (.slice (some ⟨gR, 0, none⟩) d cR) d hR := by have := hMA.head; rwa [hMA.len, hZl] at this
            have hdl : hR.length = d := by rw [hMA.len, hZl]
            refine W_reg ?_
            refine T_pu rfl rfl (pu_move rfl) ?_
            refine T_pu rfl rfl (pu_move rfl) ?_
            refine T_pu rfl rfl ((by first | exact pu_ix1 Try.underlying32 ty22 rfl rfl (by omega) (by omega) | exact pu_index Try.underlying32 ty22 rfl rfl (by omega) (by omega))) ?_
            refine T_pi rfl rfl (pi_load Try.underlying22 rfl rfl (fun w' h => by obtain rfl := h; exact (by first | exact hcA1 | exact hcA2))) ?_
            refine T_pu rfl rfl (pu_assign rfl) ?_
            refine T_nil ?_
            refine W_seq ?_
            refine W_reg ?_
            refine T_pu rfl rfl (pu_move rfl) ?_
            refine T_pu rfl rfl (pu_move rfl) ?_
            refine T_pu rfl rfl (pu_move rfl) ?_
            refine T_pu rfl rfl (pu_move rfl) ?_
            refine T_pu rfl rfl ((by first | exact pu_ix1 Try.underlying32 ty22 rfl rfl (by omega) (by omega) | exact pu_index Try.underlying32 ty22 rfl rfl (by omega) (by omega))) ?_
            refine T_pi rfl rfl (pi_load Try.underlying22 rfl rfl (fun w' h => by obtain rfl := h; exact (by first | exact hcA1 | exact hcA2))) ?_
            refine T_pu rfl rfl ((by first | exact pu_ix1 Try.underlying32 ty22 rfl rfl (by omega) (by omega) | exact pu_index Try.underlying32 ty22 rfl rfl (by omega) (by omega))) ?_
            refine T_goN rfl (st_storeO ty22 rfl rfl hH rfl (by omega) fun w7 hk7 hH7 => ?_)
            refine T_nil ?_
            refine W_seq ?_
            refine W_reg ?_
            refine T_pu rfl rfl (pu_move rfl) ?_
            refine T_pu rfl rfl (pu_move rfl) ?_
            refine T_pu rfl rfl (pu_move rfl) ?_
            refine T_pu rfl rfl ((by first | exact pu_ix1 Try.underlying32 ty22 rfl rfl (by omega) (by omega) | exact pu_index Try.underlying32 ty22 rfl rfl (by omega) (by omega))) ?_
            refine T_goN rfl (st_storeO ty22 rfl rfl hH7 rfl (by simp; omega) fun w8 hk8 hH8 => ?_)
            have hs := hs.swapM 0 rfl (r := c1) (a := a) (by omega) (by omega) (hk7.trans hk8 (fun _ _ h => h)) (by
              rw [hdl]
              rw [← swapL_hds2 (q1 := .slice (some ⟨b1, 0, none⟩) (2 * d) cc1) (q2 := .slice (some ⟨b2, 0, none⟩) (2 * d) cc2) (by simpa using hh1) (by simpa using hh2)]
              simpa using hH8)
            simp only [List.set_cons_zero] at hs
            refine T_nil ?_
            refine W_reg ?_
            refine T_pu rfl rfl (pu_move rfl) ?_
            refine T_pu rfl rfl (pu_neg64 rfl (by omega)) ?_
            refine T_go rfl rfl (st_call fn141 rfl ((l09Mod_ok _ _).mono ?_))
            rintro v w' ⟨rfl, rfl⟩
            refine T_pu rfl rfl (pu_assign rfl) ?_
            refine T_nil ?_
            rw [if_neg (show ¬ a = c1 by omega)] at hsucc
            have hdtr : 0 ≤ (-det) % 10007 ∧ (-det) % 10007 < 10007 := ⟨Int.emod_nonneg _ (by omega), Int.emod_lt_of_pos _ (by omega)⟩
            generalize hdt : (-det) % 10007 = dt at *
            clear hdt hMA hh1 hcA1 hO1 hh2 hcA2 hO2 hH7 hH8 hH hdl
            refine W_seq ?_
            have hZ1 := hZ.swap (r := c1) (a := a) (by omega) (by omega)
            generalize hZ1e : swapL Z c1 a [] = Z1 at *
            rw [hZl] at hsucc
            have hZ1l := hZ1.len
            have hMA1 := hs.mat 0 rfl
            obtain ⟨b3, cc3, hh3, hcA3, hO3⟩ := hMA1.at (i := c1) (by omega) (by omega) (hZ1.rr (by omega) (by omega)).1 (by omega)
            have hr3 := (hZ1.rr (i := c1) (by omega) (by omega)).1
            obtain ⟨pv, hpve, hcpv⟩ := hO3.ri.at0x (i := c1) (by omega) (by omega)
            have hpv : 0 ≤ pv ∧ pv < 10007 := by rw [hpve.out]; exact hZ1.rd2 (i := c1) (j := c1) (by omega) (by omega) (by omega) (by omega)
            have hpz : Go.RowKit.Hid (rd2 Z1 c1 c1 = pv) := by show _ = _; rw [hpve.out]; rfl
            rw [hpz.out] at hsucc
            clear hO3 hZ hdet hZl hc17
            have hml := mul_range hdtr hpv (by omega)
            refine W_reg ?_
            refine T_pu rfl rfl (pu_move rfl) ?_
            refine T_pu rfl rfl (pu_move rfl) ?_
            refine T_pu rfl rfl (pu_move rfl) ?_
            refine T_pu rfl rfl ((by first | exact pu_ix1 Try.underlying32 ty22 rfl rfl (by omega) (by omega) | exact pu_index Try.underlying32 ty22 rfl rfl (by omega) (by omega))) ?_
            refine T_pi rfl rfl (pi_load Try.underlying22 rfl rfl (fun w' h => by obtain rfl := h; exact (by first | exact hcA3 | exact hcpv))) ?_
            refine T_pu rfl rfl (pu_move rfl) ?_
            refine T_pu rfl rfl ((by first | exact pu_ix1 Try.underlying22 ty2 rfl rfl (by omega) (by omega) | exact pu_index Try.underlying22 ty2 rfl rfl (by omega) (by omega))) ?_
            refine T_pi rfl rfl (pi_load Try.underlying2 rfl rfl (fun w' h => by obtain rfl := h; exact (by first | exact hcA3 | exact hcpv))) ?_
            refine T_pu rfl rfl (pu_mul64 rfl rfl (by omega)) ?_
            refine T_pu rfl rfl (pu_rem rfl rfl (by omega)) ?_
            refine T_pu rfl rfl (pu_assign rfl) ?_
            refine T_nil ?_
            refine W_seq ?_
            refine W_reg ?_
            refine T_pu rfl rfl (pu_move rfl) ?_
            refine T_pu rfl rfl (pu_move rfl) ?_
            refine T_pu rfl rfl ((by first | exact pu_ix1 Try.underlying32 ty22 rfl rfl (by omega) (by omega) | exact pu_index Try.underlying32 ty22 rfl rfl (by omega) (by omega))) ?_
            refine T_pi rfl rfl (pi_load Try.underlying22 rfl rfl (fun w' h => by obtain rfl := h; exact (by first | exact hcA3 | exact hcpv))) ?_
            refine T_pu rfl rfl (pu_move rfl) ?_
            refine T_pu rfl rfl ((by first | exact pu_ix1 Try.underlying22 ty2 rfl rfl (by omega) (by omega) | exact pu_index Try.underlying22 ty2 rfl rfl (by omega) (by omega))) ?_
            refine T_pi rfl rfl (pi_load Try.underlying2 rfl rfl (fun w' h => by obtain rfl := h; exact (by first | exact hcA3 | exact hcpv))) ?_
            refine T_go rfl rfl (st_call fn142 rfl ((l09Inverse_ok _ hpv _).mono ?_))
            rintro v w' ⟨rfl, rfl⟩
            refine T_go rfl rfl (st_litI hs [] rfl (fun _ => by kernel_rfl) rfl rfl fun w9 b9 hk9 hb9 hs => ?_)
            refine T_pu rfl rfl (pu_assign rfl) ?_
            refine T_pu rfl rfl (pu_assign rfl) ?_
            refine T_nil ?_
            refine W_seq ?_
            refine W_seq ?_
            refine W_reg ?_
            refine T_pu rfl rfl (pu_assign rfl) ?_
            refine T_nil ?_
            refine W_block ?_
            have hivr := invM_range (p := 10007) (x := pv) (by omega)
            obtain ⟨iv, hive, hivv⟩ : ∃ iv, Go.RowKit.Hid (invM pv 10007 = iv) ∧ 0 ≤ iv ∧ iv < 10007 := ⟨_, rfl, hivr⟩
            clear hivr
            obtain ⟨D, hDe⟩ : ∃ D, Go.RowKit.Hid (dt * pv % 10007 = D) := ⟨_, rfl⟩
            rw [hDe.out] at hsucc
            have hmt : Go.RowKit.Hid ((dt * pv).tmod 10007 = D) := (tmod_nn (p := 10007) hml.1).trans hDe.out
            clear hml
            have hsl : Go.RowKit.Hid ((scl 10007 iv (rr Z1 c1)).length = 2 * d) := by show _ = _; rw [scl_length]; exact hr3
            refine W_loop (σ := Nat × Value) (fun s => [(4, .int .i64 d), (5, (.slice (some ⟨gR, 0, none⟩) d cR)), (6, .int .i64 D), (9, .int .i64 c1), (12, .int .i64 iv), (13, s.2), (14, .int .i64 s.1)]) (fun s w' => s.1 ≤ 2 * d ∧ ∃ hR1, St no w [aOI s.2 ((scl 10007 iv (rr Z1 c1)).take s.1), aMat (.slice (some ⟨gR, 0, none⟩) d cR) hR1 Z1] w') (fun s => 2 * d - s.1) (0, .slice (some ⟨b9, 0, none⟩) 0 0) ?_ ?_ ?_
            · exact .cons rfl (.cons rfl (.cons (by rw [← hmt.out]; rfl) (.cons rfl (.cons (by rw [← hive.out]; rfl) (.cons rfl (.cons rfl (.nil _)))))))
            · exact ⟨Nat.zero_le _, _, hs⟩
            clear hcA3 hcpv hh3 hMA1 hs hmt hDe
            rintro ⟨j, u⟩ w10 ⟨hjd, hR1, hs⟩
            dsimp only at hjd hs ⊢
            refine W_seq ?_
            refine W_seq ?_
            refine W_reg ?_
            refine T_pu rfl rfl (pu_move rfl) ?_
            refine T_pu rfl rfl (pu_move rfl) ?_
            refine T_pu rfl rfl (pu_mul64 rfl rfl (by omega)) ?_
            refine T_pu rfl rfl (pu_lss rfl rfl) ?_
            refine T_nil ?_
            refine W_if rfl (fun hc25 => ?_) (fun hc25 => ?_)
            · refine W_skip ?_
              refine W_seq ?_
              refine W_block ?_
              have hM := hs.mat 1 rfl
              obtain ⟨b5, cc5, hh5, hcA5, hO5⟩ := hM.at (i := c1) (by omega) (by omega) hr3 (by omega)
              obtain ⟨x, hx, hcx⟩ := hO5.ri.at0x (i := j) (by omega) (by omega)
              have hxr : 0 ≤ x ∧ x < 10007 := by rw [hx.out]; exact (hZ1.rr (i := c1) (by omega) (by omega)).2.rd (by omega) (by omega)
              have hml2 := mul_range hxr hivv (by omega)
              clear hM hO5
              refine W_reg ?_
              refine T_pu rfl rfl (pu_move rfl) ?_
              refine T_pu rfl rfl (pu_move rfl) ?_
              refine T_pu rfl rfl (pu_move rfl) ?_
              refine T_pu rfl rfl ((by first | exact pu_ix1 Try.underlying32 ty22 rfl rfl (by omega) (by omega) | exact pu_index Try.underlying32 ty22 rfl rfl (by omega) (by omega))) ?_
              refine T_pi rfl rfl (pi_load Try.underlying22 rfl rfl (fun w' h => by obtain rfl := h; exact (by first | exact hcA5 | exact hcx))) ?_
              refine T_pu rfl rfl (pu_move rfl) ?_
              refine T_pu rfl rfl ((by first | exact pu_ix1 Try.underlying22 ty2 rfl rfl (by omega) (by omega) | exact pu_index Try.underlying22 ty2 rfl rfl (by omega) (by omega))) ?_
              refine T_pi rfl rfl (pi_load Try.underlying2 rfl rfl (fun w' h => by obtain rfl := h; exact (by first | exact hcA5 | exact hcx))) ?_
              refine T_pu rfl rfl (pu_move rfl) ?_
              refine T_pu rfl rfl (pu_mul64 rfl rfl (by omega)) ?_
              refine T_pu rfl rfl (pu_rem rfl rfl (by omega)) ?_
              refine T_go rfl rfl (st_litI hs [(x * iv).tmod 10007] rfl (fun _ => by kernel_rfl) rfl rfl fun w11 b11 hk11 hb11 hs => ?_)
              refine T_go rfl rfl (st_appendI hs 1 rfl Try.underlying22 ty2 rfl rfl (hs.oi 0 rfl).ri (by simp; omega) fun u' w12 hs hk12 hf12 => ?_)
              have hs := hs.tail
              refine T_pu rfl rfl (pu_assign rfl) ?_
              refine T_nil ?_
              refine W_reg ?_
              refine T_pu rfl rfl (pu_move rfl) ?_
              refine T_pu rfl rfl (pu_add64 rfl rfl (by omega)) ?_
              refine T_pu rfl rfl (pu_assign rfl) ?_
              refine T_nil ?_
              rw [tmod_nn (by omega), hx.out, ← scl_rd (by omega), take_rd_snoc (by rw [hsl.out]; omega)] at hs
              exact ⟨(j + 1, u'), .cons rfl (.cons rfl (.cons rfl (.cons rfl (.cons rfl (.cons rfl (.cons rfl (.nil _))))))), ⟨by show j + 1 ≤ 2 * d; omega, _, hs⟩, by show 2 * d - (j + 1) < 2 * d - j; omega⟩
            · refine W_exit rfl ?_
              refine W_seq ?_
              rw [show j = 2 * d from by omega, List.take_of_length_le (by rw [hsl.out]; omega)] at hs
              obtain ⟨b13, c13, rfl, _⟩ : ∃ b cc, u = .slice (some ⟨b, 0, none⟩) (2 * d) cc ∧ 2 * d ≤ cc := by
                rcases (hs.oi 0 rfl).open with ⟨_, e⟩ | ⟨b, cc, e, h⟩
                · have := hsl.out; rw [e] at this; simp at this; omega
                · rw [hsl.out] at e h; exact ⟨b, cc, e, h⟩
              have hs := hs.front 1 rfl
              simp only [List.eraseIdx] at hs
              have hR1l : hR1.length = d := by rw [(hs.mat 0 rfl).len]; exact hZ1l
              refine W_reg ?_
              refine T_pu rfl rfl (pu_move rfl) ?_
              refine T_pu rfl rfl (pu_move rfl) ?_
              refine T_pu rfl rfl (pu_move rfl) ?_
              refine T_pu rfl rfl ((by first | exact pu_ix1 Try.underlying32 ty22 rfl rfl (by omega) (by omega) | exact pu_index Try.underlying32 ty22 rfl rfl (by omega) (by omega))) ?_
              refine T_goN rfl (st_putM hs ty22 rfl rfl rfl (by first | omega | (simp; omega)) (by first | omega | (simp; omega)) fun w13 hk13 hs => ?_)
              rw [Int.toNat_natCast] at hs
              refine T_nil ?_
              refine W_seq ?_
              refine W_reg ?_
              refine T_pu rfl rfl (pu_assign rfl) ?_
              refine T_nil ?_
              refine W_block ?_
              have hZ2 := hZ1.scl (iv := iv) (c := c1) (by omega) (by omega)
              have hgin : gjIn 10007 c1 Z1 d = gjRows 10007 c1 (Z1.set c1 (scl 10007 iv (rr Z1 c1))) d := by unfold gjIn; rw [hpz.out, hive.out]
              rw [hgin] at hsucc
              generalize hZ2e : Z1.set c1 (scl 10007 iv (rr Z1 c1)) = Z2 at *
              clear hZ2e hgin hsl hive hivv hpz hpve hpv hr3 hZ1 hZ1l hdtr hjd hc25
              refine W_loop (σ := Nat) (fun k => [(4, .int .i64 d), (5, (.slice (some ⟨gR, 0, none⟩) d cR)), (6, .int .i64 D), (9, .int .i64 c1), (13, (.slice (some ⟨b13, 0, none⟩) (2 * d) c13)), (15, .int .i64 k)]) (fun k w' => k ≤ d ∧ ∃ hR2, hR2[c1]? = some (.slice (some ⟨b13, 0, none⟩) (2 * d) c13) ∧ St no w [aMat (.slice (some ⟨gR, 0, none⟩) d cR) hR2 (gjRows 10007 c1 Z2 k)] w') (fun k => d - k) 0 ?_ ?_ ?_
              · exact .cons rfl (.cons rfl (.cons rfl (.cons rfl (.cons rfl (.cons rfl (.nil _))))))
              · exact ⟨Nat.zero_le _, _, List.getElem?_set_self (by omega), hs⟩
              clear hs hR1l
              rintro k w14 ⟨hkd2, hR2, hdr, hs⟩
              have hgs := gjRows_succ (p := 10007) (c := c1) (Z := Z2) (k := k)
              have hY := hZ2.gjRows (c := c1) (by omega) (by omega) k hkd2
              generalize hYe : gjRows 10007 c1 Z2 k = Y at *
              have hYl := hY.len
              refine W_seq ?_
              refine W_seq ?_
              refine W_reg ?_
              refine T_pu rfl rfl (pu_move rfl) ?_
              refine T_pu rfl rfl (pu_move rfl) ?_
              refine T_pu rfl rfl (pu_lss rfl rfl) ?_
              refine T_nil ?_
              refine W_if rfl (fun hc30 => ?_) (fun hc30 => ?_)
              · refine W_skip ?_
                refine W_seq ?_
                refine W_block ?_
                refine W_seq ?_
                have hMA2 := hs.mat 0 rfl
                have hR2l : hR2.length = d := by rw [hMA2.len]; exact hYl
                have hr6 := (hY.rr (i := k) (by omega) (by omega)).1
                have hr8 := (hY.rr (i := c1) (by omega) (by omega)).1
                obtain ⟨b6, cc6, hh6, hcA6, hO6⟩ := hMA2.at (i := k) (by omega) (by omega) hr6 (by omega)
                obtain ⟨f, hfe, hcf⟩ := hO6.ri.at0x (i := c1) (by omega) (by omega)
                have hfr1 : 0 ≤ f ∧ f < 10007 := by rw [hfe.out]; exact hY.rd2 (i := k) (j := c1) (by omega) (by omega) (by omega) (by omega)
                have hfz : Go.RowKit.Hid (rd2 Y k c1 = f) := by show _ = _; rw [hfe.out]; rfl
                clear hO6
                refine W_reg ?_
                refine T_pu rfl rfl (pu_move rfl) ?_
                refine T_pu rfl rfl (pu_move rfl) ?_
                refine T_pu rfl rfl ((by first | exact pu_ix1 Try.underlying32 ty22 rfl rfl (by omega) (by omega) | exact pu_index Try.underlying32 ty22 rfl rfl (by omega) (by omega))) ?_
                refine T_pi rfl rfl (pi_load Try.underlying22 rfl rfl (fun w' h => by obtain rfl := h; exact (by first | exact hcA6 | exact hcf))) ?_
                refine T_pu rfl rfl (pu_move rfl) ?_
                refine T_pu rfl rfl ((by first | exact pu_ix1 Try.underlying22 ty2 rfl rfl (by omega) (by omega) | exact pu_index Try.underlying22 ty2 rfl rfl (by omega) (by omega))) ?_
                refine T_pi rfl rfl (pi_load Try.underlying2 rfl rfl (fun w' h => by obtain rfl := h; exact (by first | exact hcA6 | exact hcf))) ?_
                refine T_pu rfl rfl (pu_assign rfl) ?_
                refine T_nil ?_
                refine W_seq ?_
                refine W_seq ?_
                refine W_reg ?_
                refine T_pu rfl rfl (pu_move rfl) ?_
                refine T_pu rfl rfl (pu_move rfl) ?_
                refine T_pu rfl rfl (pu_eql rfl rfl) ?_
                refine T_if rfl rfl (pu_move rfl) (fun hg33_3 => ?_) (fun hg33_3 => ?_)
                · refine T_no rfl rfl ?_
                  refine T_no rfl rfl ?_
                  refine T_pu rfl rfl (pu_pick_t rfl rfl) ?_
                  refine T_nil ?_
                  refine W_true rfl ?_
                  refine W_exit rfl ?_
                  refine W_reg ?_
                  refine T_pu rfl rfl (pu_move rfl) ?_
                  refine T_pu rfl rfl (pu_add64 rfl rfl (by omega)) ?_
                  refine T_pu rfl rfl (pu_assign rfl) ?_
                  refine T_nil ?_
                  first
                    | (have hkc : (k : Int) = c1 := hg33_3
                       have e : gjRow 10007 c1 Y k = Y := by unfold gjRow; rw [if_pos (.inl (Int.ofNat.inj hkc))]
                       refine ⟨k + 1, .cons rfl (.cons rfl (.cons rfl (.cons rfl (.cons rfl (.cons rfl (.nil _)))))), ⟨by omega, hR2, hdr, ?_⟩, by omega⟩
                       rw [hgs, e]
                       exact hs)
                    | (have hf0 : f = 0 := hc33
                       have e : gjRow 10007 c1 Y k = Y := by unfold gjRow; rw [if_pos (.inr (by rw [hfz.out]; exact hf0))]
                       refine ⟨k + 1, .cons rfl (.cons rfl (.cons rfl (.cons rfl (.cons rfl (.cons rfl (.nil _)))))), ⟨by omega, hR2, hdr, ?_⟩, by omega⟩
                       rw [hgs, e]
                       exact hs)
                    | (have e : gjRow 10007 c1 Y k = Y.set k (axpy 10007 f (rr Y k) (rr Y c1)) := by unfold gjRow; rw [hfz.out, if_neg (fun h => h.elim (fun h => hg33_3 (by rw [h])) hc33)]
                       refine ⟨k + 1, .cons rfl (.cons rfl (.cons rfl (.cons rfl (.cons rfl (.cons rfl (.nil _)))))), ⟨by omega, _, ?_, by rw [hgs, e]; exact hs⟩, by omega⟩
                       rw [List.getElem?_set_ne (fun h => hg33_3 (by rw [h]))]
                       exact hdr)
                · refine T_pu rfl rfl (pu_move rfl) ?_
                  refine T_pu rfl rfl (pu_eql rfl rfl) ?_
                  refine T_pu rfl rfl (pu_pick_f rfl rfl) ?_
                  refine T_nil ?_
                  refine W_if rfl (fun hc33 => ?_) (fun hc33 => ?_)
                  · refine W_exit rfl ?_
                    refine W_reg ?_
                    refine T_pu rfl rfl (pu_move rfl) ?_
                    refine T_pu rfl rfl (pu_add64 rfl rfl (by omega)) ?_
                    refine T_pu rfl rfl (pu_assign rfl) ?_
                    refine T_nil ?_
                    first
                      | (have hkc : (k : Int) = c1 := hg33_3
                         have e : gjRow 10007 c1 Y k = Y := by unfold gjRow; rw [if_pos (.inl (Int.ofNat.inj hkc))]
                         refine ⟨k + 1, .cons rfl (.cons rfl (.cons rfl (.cons rfl (.cons rfl (.cons rfl (.nil _)))))), ⟨by omega, hR2, hdr, ?_⟩, by omega⟩
                         rw [hgs, e]
                         exact hs)
                      | (have hf0 : f = 0 := hc33
                         have e : gjRow 10007 c1 Y k = Y := by unfold gjRow; rw [if_pos (.inr (by rw [hfz.out]; exact hf0))]
                         refine ⟨k + 1, .cons rfl (.cons rfl (.cons rfl (.cons rfl (.cons rfl (.cons rfl (.nil _)))))), ⟨by omega, hR2, hdr, ?_⟩, by omega⟩
                         rw [hgs, e]
                         exact hs)
                      | (have e : gjRow 10007 c1 Y k = Y.set k (axpy 10007 f (rr Y k) (rr Y c1)) := by unfold gjRow; rw [hfz.out, if_neg (fun h => h.elim (fun h => hg33_3 (by rw [h])) hc33)]
                         refine ⟨k + 1, .cons rfl (.cons rfl (.cons rfl (.cons rfl (.cons rfl (.cons rfl (.nil _)))))), ⟨by omega, _, ?_, by rw [hgs, e]; exact hs⟩, by omega⟩
                         rw [List.getElem?_set_ne (fun h => hg33_3 (by rw [h]))]
                         exact hdr)
                  · refine W_skip ?_
                    refine W_seq ?_
                    refine W_reg ?_
                    refine T_go rfl rfl (st_litI hs [] rfl (fun _ => by kernel_rfl) rfl rfl fun w15 b15 hk15 hb15 hs => ?_)
                    refine T_pu rfl rfl (pu_assign rfl) ?_
                    refine T_nil ?_
                    refine W_seq ?_
                    refine W_seq ?_
                    refine W_reg ?_
                    refine T_pu rfl rfl (pu_assign rfl) ?_
                    refine T_nil ?_
                    refine W_block ?_
                    clear hcA6 hcf hh6 hMA2
                    have hal : Go.RowKit.Hid ((axpy 10007 f (rr Y k) (rr Y c1)).length = 2 * d) := (axpy_ok (by omega) hr6 hr8).1
                    refine W_loop (σ := Nat × Value) (fun s => [(4, .int .i64 d), (5, (.slice (some ⟨gR, 0, none⟩) d cR)), (6, .int .i64 D), (9, .int .i64 c1), (13, (.slice (some ⟨b13, 0, none⟩) (2 * d) c13)), (15, .int .i64 k), (16, .int .i64 f), (17, s.2), (18, .int .i64 s.1)]) (fun s w' => s.1 ≤ 2 * d ∧ St no w [aOI s.2 ((axpy 10007 f (rr Y k) (rr Y c1)).take s.1), aMat (.slice (some ⟨gR, 0, none⟩) d cR) hR2 Y] w') (fun s => 2 * d - s.1) (0, .slice (some ⟨b15, 0, none⟩) 0 0) ?_ ?_ ?_
                    · exact .cons rfl (.cons rfl (.cons rfl (.cons rfl (.cons rfl (.cons rfl (.cons rfl (.cons rfl (.cons rfl (.nil _)))))))))
                    · exact ⟨Nat.zero_le _, hs⟩
                    clear hs
                    rintro ⟨j, vn⟩ w16 ⟨hjd, hs⟩
                    dsimp only at hjd hs ⊢
                    refine W_seq ?_
                    refine W_seq ?_
                    refine W_reg ?_
                    refine T_pu rfl rfl (pu_move rfl) ?_
                    refine T_pu rfl rfl (pu_move rfl) ?_
                    refine T_pu rfl rfl (pu_mul64 rfl rfl (by omega)) ?_
                    refine T_pu rfl rfl (pu_lss rfl rfl) ?_
                    refine T_nil ?_
                    refine W_if rfl (fun hc36 => ?_) (fun hc36 => ?_)
                    · refine W_skip ?_
                      refine W_seq ?_
                      refine W_block ?_
                      refine W_draw mixed 1000 (IF (fun q => vn.ownBlock = some q)) (fun w17 hk17 => ?_)
                      have hs := hs.next hk17
                      have hM := hs.mat 1 rfl
                      obtain ⟨b5, cc5, hh5, hcA5, hO5⟩ := hM.at (i := k) (by omega) (by omega) hr6 (by omega)
                      have hO7 : OI w17 (.slice (some ⟨b13, 0, none⟩) (2 * d) c13) (rr Y c1) := hM.row c1 _ _ hdr (by have := rr_get (xss := Y) (i := (c1 : Int)) (by omega) (by omega); simpa using this)
                      have hn0 : ¬ vn.ownBlock = some gR := fun e => hs.apart 0 1 rfl rfl (by decide) gR e (.inl rfl)
                      have hn5 : ¬ vn.ownBlock = some b5 := fun e => hs.apart 0 1 rfl rfl (by decide) b5 e (.inr ⟨_, List.mem_of_getElem? hh5, rfl⟩)
                      have hn1 : ¬ vn.ownBlock = some b13 := fun e => hs.apart 0 1 rfl rfl (by decide) b13 e (.inr ⟨_, List.mem_of_getElem? hdr, rfl⟩)
                      obtain ⟨x, hx, hcx⟩ := hO5.ri.at0x (i := j) (by omega) (by omega)
                      obtain ⟨y, hy, hcy⟩ := hO7.ri.at0x (i := j) (by omega) (by omega)
                      have hxr : 0 ≤ x ∧ x < 10007 := by rw [hx.out]; exact (hY.rr (i := k) (by omega) (by omega)).2.rd (by omega) (by omega)
                      have hyr : 0 ≤ y ∧ y < 10007 := by rw [hy.out]; exact (hY.rr (i := c1) (by omega) (by omega)).2.rd (by omega) (by omega)
                      have hml2 := mul_range hfr1 hyr (by omega)
                      clear hM hO5 hO7
                      refine D_pu 0 (by kernel_rfl) rfl (by kernel_rfl) (by kernel_rfl) rfl rfl (by kernel_rfl) (Pu.stable (pu_move rfl)) ?_
                      refine D_pu 1 (by kernel_rfl) rfl (by kernel_rfl) (by kernel_rfl) rfl rfl (by kernel_rfl) (Pu.stable (pu_move rfl)) ?_
                      refine D_pu 2 (by kernel_rfl) rfl (by kernel_rfl) (by kernel_rfl) rfl rfl (by kernel_rfl) (Pu.stable (pu_move rfl)) ?_
                      refine D_pu 3 (by kernel_rfl) rfl (by kernel_rfl) (by kernel_rfl) rfl rfl (by kernel_rfl) (Pu.stable ((by first | exact pu_ix1 Try.underlying32 ty22 rfl rfl (by omega) (by omega) | exact pu_index Try.underlying32 ty22 rfl rfl (by omega) (by omega)))) ?_
                      refine D_pu 4 (by kernel_rfl) rfl (by kernel_rfl) (by kernel_rfl) rfl rfl (by kernel_rfl) (pi_load Try.underlying22 rfl rfl (fun w' h => by obtain ⟨_, h⟩ := h; first | exact h.cell (hcA5) hn0 | exact h.cell (hcx) hn5 | exact h.cell (hcy) hn1)) ?_
                      refine D_pu 5 (by kernel_rfl) rfl (by kernel_rfl) (by kernel_rfl) rfl rfl (by kernel_rfl) (Pu.stable (pu_move rfl)) ?_
                      refine D_pu 6 (by kernel_rfl) rfl (by kernel_rfl) (by kernel_rfl) rfl rfl (by kernel_rfl) (Pu.stable ((by first | exact pu_ix1 Try.underlying22 ty2 rfl rfl (by omega) (by omega) | exact pu_index Try.underlying22 ty2 rfl rfl (by omega) (by omega)))) ?_
                      refine D_pu 7 (by kernel_rfl) rfl (by kernel_rfl) (by kernel_rfl) rfl rfl (by kernel_rfl) (pi_load Try.underlying2 rfl rfl (fun w' h => by obtain ⟨_, h⟩ := h; first | exact h.cell (hcA5) hn0 | exact h.cell (hcx) hn5 | exact h.cell (hcy) hn1)) ?_
                      refine D_pu 8 (by kernel_rfl) rfl (by kernel_rfl) (by kernel_rfl) rfl rfl (by kernel_rfl) (Pu.stable (pu_move rfl)) ?_
                      refine D_pu 9 (by kernel_rfl) rfl (by kernel_rfl) (by kernel_rfl) rfl rfl (by kernel_rfl) (Pu.stable (pu_move rfl)) ?_
                      refine D_pu 10 (by kernel_rfl) rfl (by kernel_rfl) (by kernel_rfl) rfl rfl (by kernel_rfl) (Pu.stable (pu_move rfl)) ?_
                      refine D_pu 11 (by kernel_rfl) rfl (by kernel_rfl) (by kernel_rfl) rfl rfl (by kernel_rfl) (Pu.stable ((by first | exact pu_ix1 Try.underlying22 ty2 rfl rfl (by omega) (by omega) | exact pu_index Try.underlying22 ty2 rfl rfl (by omega) (by omega)))) ?_
                      refine D_pu 12 (by kernel_rfl) rfl (by kernel_rfl) (by kernel_rfl) rfl rfl (by kernel_rfl) (pi_load Try.underlying2 rfl rfl (fun w' h => by obtain ⟨_, h⟩ := h; first | exact h.cell (hcA5) hn0 | exact h.cell (hcx) hn5 | exact h.cell (hcy) hn1)) ?_
                      refine D_pu 13 (by kernel_rfl) rfl (by kernel_rfl) (by kernel_rfl) rfl rfl (by kernel_rfl) (Pu.stable (pu_mul64 rfl rfl (by omega))) ?_
                      refine D_pu 14 (by kernel_rfl) rfl (by kernel_rfl) (by kernel_rfl) rfl rfl (by kernel_rfl) (Pu.stable (pu_sub64 rfl rfl (by omega))) ?_
                      refine D_go 15 (by kernel_rfl) (by first | rfl | (intro _; rfl) | (intro h; exact absurd (show true = false from h) (by decide)) | exact Kp.refl _ _ | assumption) rfl rfl rfl (st_call fn141 rfl ((l09Mod_ok _ _).mono ?_))
                      rintro v w' ⟨rfl, rfl⟩
                      refine D_go 16 (by kernel_rfl) (by first | rfl | (intro _; rfl) | (intro h; exact absurd (show true = false from h) (by decide)) | exact Kp.refl _ _ | assumption) rfl rfl rfl (st_litI hs [(x - f * y) % 10007] rfl (fun _ => by kernel_rfl) rfl rfl fun w18 b18 hk18 hb18 hs => ?_)
                      have hIF : Kp (fun q => vn.ownBlock = some q) w17 w18 := hk18.of_no
                      refine D_go 17 (by kernel_rfl) (by first | rfl | (intro _; rfl) | (intro h; exact absurd (show true = false from h) (by decide)) | exact Kp.refl _ _ | assumption) rfl rfl rfl (st_appendI hs 1 rfl Try.underlying22 ty2 rfl rfl (hs.oi 0 rfl).ri (by simp; omega) fun vn' w19 hs hk19 hf19 => ?_)
                      have hIF2 : Kp (fun q => vn.ownBlock = some q) w17 w19 := hIF.trans hk19 (fun _ _ h => h)
                      have hs := hs.tail
                      refine D_pu 18 (by kernel_rfl) rfl (by kernel_rfl) (by kernel_rfl) rfl rfl (by kernel_rfl) (Pu.stable (pu_assign rfl)) ?_
                      refine D_done (by kernel_rfl) (by first | rfl | (intro _; rfl) | (intro h; exact absurd (show true = false from h) (by decide)) | exact Kp.refl _ _ | assumption) ?_
                      refine W_reg ?_
                      refine T_pu rfl rfl (pu_move rfl) ?_
                      refine T_pu rfl rfl (pu_add64 rfl rfl (by omega)) ?_
                      refine T_pu rfl rfl (pu_assign rfl) ?_
                      refine T_nil ?_
                      rw [sub_mod, hx.out, hy.out, ← axpy_rd (n := 2 * d) hr6 hr8 (by omega), take_rd_snoc (by rw [hal.out]; omega)] at hs
                      exact ⟨(j + 1, vn'), .cons rfl (.cons rfl (.cons rfl (.cons rfl (.cons rfl (.cons rfl (.cons rfl (.cons rfl (.cons rfl (.nil _))))))))), ⟨by show j + 1 ≤ 2 * d; omega, hs⟩, by show 2 * d - (j + 1) < 2 * d - j; omega⟩
                    · refine W_exit rfl ?_
                      rw [show j = 2 * d from by omega, List.take_of_length_le (by rw [hal.out]; omega)] at hs
                      have hs := hs.front 1 rfl
                      simp only [List.eraseIdx] at hs
                      obtain ⟨A17, c17, rfl, _⟩ := (hs.oi 1 rfl).ri.open
                      refine W_reg ?_
                      refine T_pu rfl rfl (pu_move rfl) ?_
                      refine T_pu rfl rfl (pu_move rfl) ?_
                      refine T_pu rfl rfl (pu_move rfl) ?_
                      refine T_pu rfl rfl ((by first | exact pu_ix1 Try.underlying32 ty22 rfl rfl (by omega) (by omega) | exact pu_index Try.underlying32 ty22 rfl rfl (by omega) (by omega))) ?_
                      refine T_goN rfl (st_putM hs ty22 rfl rfl rfl (by first | omega | (simp; omega)) (by first | omega | (simp; omega)) fun w20 hk20 hs => ?_)
                      rw [Int.toNat_natCast] at hs
                      refine T_nil ?_
                      refine W_reg ?_
                      refine T_pu rfl rfl (pu_move rfl) ?_
                      refine T_pu rfl rfl (pu_add64 rfl rfl (by omega)) ?_
                      refine T_pu rfl rfl (pu_assign rfl) ?_
                      refine T_nil ?_
                      first
                        | (have hkc : (k : Int) = c1 := hg33_3
                           have e : gjRow 10007 c1 Y k = Y := by unfold gjRow; rw [if_pos (.inl (Int.ofNat.inj hkc))]
                           refine ⟨k + 1, .cons rfl (.cons rfl (.cons rfl (.cons rfl (.cons rfl (.cons rfl (.nil _)))))), ⟨by omega, hR2, hdr, ?_⟩, by omega⟩
                           rw [hgs, e]
                           exact hs)
                        | (have hf0 : f = 0 := hc33
                           have e : gjRow 10007 c1 Y k = Y := by unfold gjRow; rw [if_pos (.inr (by rw [hfz.out]; exact hf0))]
                           refine ⟨k + 1, .cons rfl (.cons rfl (.cons rfl (.cons rfl (.cons rfl (.cons rfl (.nil _)))))), ⟨by omega, hR2, hdr, ?_⟩, by omega⟩
                           rw [hgs, e]
                           exact hs)
                        | (have e : gjRow 10007 c1 Y k = Y.set k (axpy 10007 f (rr Y k) (rr Y c1)) := by unfold gjRow; rw [hfz.out, if_neg (fun h => h.elim (fun h => hg33_3 (by rw [h])) hc33)]
                           refine ⟨k + 1, .cons rfl (.cons rfl (.cons rfl (.cons rfl (.cons rfl (.cons rfl (.nil _)))))), ⟨by omega, _, ?_, by rw [hgs, e]; exact hs⟩, by omega⟩
                           rw [List.getElem?_set_ne (fun h => hg33_3 (by rw [h]))]
                           exact hdr)
              · refine W_exit rfl ?_
                refine W_reg ?_
                refine T_pu rfl rfl (pu_move rfl) ?_
                refine T_pu rfl rfl (pu_add64 rfl rfl (by omega)) ?_
                refine T_pu rfl rfl (pu_assign rfl) ?_
                refine T_nil ?_
                have hYd : gjRows 10007 c1 Z2 d = Y := by rw [← hYe]; congr 1; omega
                refine ⟨(c1 + 1, gjRows 10007 c1 Z2 d, D), .cons rfl (.cons rfl (.cons rfl (.cons rfl (.nil _)))), ⟨by show c1 + 1 ≤ d; omega, hsucc, hR2, ?_⟩, by show d - (c1 + 1) < d - c1; omega⟩
                rw [hYd]
                exact hs
          · rw [if_pos (show a = c1 by omega)] at hsucc
            obtain ⟨dt, rfl⟩ : ∃ dt, dt = det := ⟨_, rfl⟩
            have hdtr := hdet
            rw [show Z = swapL Z c1 a [] from by rw [show a = c1 from by omega]; exact (swapL_self (by omega)).symm] at hs
            refine W_skip ?_
            refine W_seq ?_
            have hZ1 := hZ.swap (r := c1) (a := a) (by omega) (by omega)
            generalize hZ1e : swapL Z c1 a [] = Z1 at *
            rw [hZl] at hsucc
            have hZ1l := hZ1.len
            have hMA1 := hs.mat 0 rfl
            obtain ⟨b3, cc3, hh3, hcA3, hO3⟩ := hMA1.at (i := c1) (by omega) (by omega) (hZ1.rr (by omega) (by omega)).1 (by omega)
            have hr3 := (hZ1.rr (i := c1) (by omega) (by omega)).1
            obtain ⟨pv, hpve, hcpv⟩ := hO3.ri.at0x (i := c1) (by omega) (by omega)
            have hpv : 0 ≤ pv ∧ pv < 10007 := by rw [hpve.out]; exact hZ1.rd2 (i := c1) (j := c1) (by omega) (by omega) (by omega) (by omega)
            have hpz : Go.RowKit.Hid (rd2 Z1 c1 c1 = pv) := by show _ = _; rw [hpve.out]; rfl
            rw [hpz.out] at hsucc
            clear hO3 hZ hdet hZl hc17
            have hml := mul_range hdtr hpv (by omega)
            refine W_reg ?_
            refine T_pu rfl rfl (pu_move rfl) ?_
            refine T_pu rfl rfl (pu_move rfl) ?_
            refine T_pu rfl rfl (pu_move rfl) ?_
            refine T_pu rfl rfl ((by first | exact pu_ix1 Try.underlying32 ty22 rfl rfl (by omega) (by omega) | exact pu_index Try.underlying32 ty22 rfl rfl (by omega) (by omega))) ?_
            refine T_pi rfl rfl (pi_load Try.underlying22 rfl rfl (fun w' h => by obtain rfl := h; exact (by first | exact hcA3 | exact hcpv))) ?_
            refine T_pu rfl rfl (pu_move rfl) ?_
            refine T_pu rfl rfl ((by first | exact pu_ix1 Try.underlying22 ty2 rfl rfl (by omega) (by omega) | exact pu_index Try.underlying22 ty2 rfl rfl (by omega) (by omega))) ?_
            refine T_pi rfl rfl (pi_load Try.underlying2 rfl rfl (fun w' h => by obtain rfl := h; exact (by first | exact hcA3 | exact hcpv))) ?_
            refine T_pu rfl rfl (pu_mul64 rfl rfl (by omega)) ?_
            refine T_pu rfl rfl (pu_rem rfl rfl (by omega)) ?_
            refine T_pu rfl rfl (pu_assign rfl) ?_
            refine T_nil ?_
            refine W_seq ?_
            refine W_reg ?_
            refine T_pu rfl rfl (pu_move rfl) ?_
            refine T_pu rfl rfl (pu_move rfl) ?_
            refine T_pu rfl rfl ((by first | exact pu_ix1 Try.underlying32 ty22 rfl rfl (by omega) (by omega) | exact pu_index Try.underlying32 ty22 rfl rfl (by omega) (by omega))) ?_
            refine T_pi rfl rfl (pi_load Try.underlying22 rfl rfl (fun w' h => by obtain rfl := h; exact (by first | exact hcA3 | exact hcpv))) ?_
            refine T_pu rfl rfl (pu_move rfl) ?_
            refine T_pu rfl rfl ((by first | exact pu_ix1 Try.underlying22 ty2 rfl rfl (by omega) (by omega) | exact pu_index Try.underlying22 ty2 rfl rfl (by omega) (by omega))) ?_
            refine T_pi rfl rfl (pi_load Try.underlying2 rfl rfl (fun w' h => by obtain rfl := h; exact (by first | exact hcA3 | exact hcpv))) ?_
            refine T_go rfl rfl (st_call fn142 rfl ((l09Inverse_ok _ hpv _).mono ?_))
            rintro v w' ⟨rfl, rfl⟩
            refine T_go rfl rfl (st_litI hs [] rfl (fun _ => by kernel_rfl) rfl rfl fun w9 b9 hk9 hb9 hs => ?_)
            refine T_pu rfl rfl (pu_assign rfl) ?_
            refine T_pu rfl rfl (pu_assign rfl) ?_
            refine T_nil ?_
            refine W_seq ?_
            refine W_seq ?_
            refine W_reg ?_
            refine T_pu rfl rfl (pu_assign rfl) ?_
            refine T_nil ?_
            refine W_block ?_
            have hivr := invM_range (p := 10007) (x := pv) (by omega)
            obtain ⟨iv, hive, hivv⟩ : ∃ iv, Go.RowKit.Hid (invM pv 10007 = iv) ∧ 0 ≤ iv ∧ iv < 10007 := ⟨_, rfl, hivr⟩
            clear hivr
            obtain ⟨D, hDe⟩ : ∃ D, Go.RowKit.Hid (dt * pv % 10007 = D) := ⟨_, rfl⟩
            rw [hDe.out] at hsucc
            have hmt : Go.RowKit.Hid ((dt * pv).tmod 10007 = D) := (tmod_nn (p := 10007) hml.1).trans hDe.out
            clear hml
            have hsl : Go.RowKit.Hid ((scl 10007 iv (rr Z1 c1)).length = 2 * d) := by show _ = _; rw [scl_length]; exact hr3
            refine W_loop (σ := Nat × Value) (fun s => [(4, .int .i64 d), (5, (.slice (some ⟨gR, 0, none⟩) d cR)), (6, .int .i64 D), (9, .int .i64 c1), (12, .int .i64 iv), (13, s.2), (14, .int .i64 s.1)]) (fun s w' => s.1 ≤ 2 * d ∧ ∃ hR1, St no w [aOI s.2 ((scl 10007 iv (rr Z1 c1)).take s.1), aMat (.slice (some ⟨gR, 0, none⟩) d cR) hR1 Z1] w') (fun s => 2 * d - s.1) (0, .slice (some ⟨b9, 0, none⟩) 0 0) ?_ ?_ ?_
            · exact .cons rfl (.cons rfl (.cons (by rw [← hmt.out]; rfl) (.cons rfl (.cons (by rw [← hive.out]; rfl) (.cons rfl (.cons rfl (.nil _)))))))
            · exact ⟨Nat.zero_le _, _, hs⟩
            clear hcA3 hcpv hh3 hMA1 hs hmt hDe
            rintro ⟨j, u⟩ w10 ⟨hjd, hR1, hs⟩
            dsimp only at hjd hs ⊢
            refine W_seq ?_
            refine W_seq ?_
            refine W_reg ?_
            refine T_pu rfl rfl (pu_move rfl) ?_
            refine T_pu rfl rfl (pu_move rfl) ?_
            refine T_pu rfl rfl (pu_mul64 rfl rfl (by omega)) ?_
            refine T_pu rfl rfl (pu_lss rfl rfl) ?_
            refine T_nil ?_
            refine W_if rfl (fun hc25 => ?_) (fun hc25 => ?_)
            · refine W_skip ?_
              refine W_seq ?_
              refine W_block ?_
              have hM := hs.mat 1 rfl
              obtain ⟨b5, cc5, hh5, hcA5, hO5⟩ := hM.at (i := c1) (by omega) (by omega) hr3 (by omega)
              obtain ⟨x, hx, hcx⟩ := hO5.ri.at0x (i := j) (by omega) (by omega)
              have hxr : 0 ≤ x ∧ x < 10007 := by rw [hx.out]; exact (hZ1.rr (i := c1) (by omega) (by omega)).2.rd (by omega) (by omega)
              have hml2 := mul_range hxr hivv (by omega)
              clear hM hO5
              refine W_reg ?_
              refine T_pu rfl rfl (pu_move rfl) ?_
              refine T_pu rfl rfl (pu_move rfl) ?_
              refine T_pu rfl rfl (pu_move rfl) ?_
              refine T_pu rfl rfl ((by first | exact pu_ix1 Try.underlying32 ty22 rfl rfl (by omega) (by omega) | exact pu_index Try.underlying32 ty22 rfl rfl (by omega) (by omega))) ?_
              refine T_pi rfl rfl (pi_load Try.underlying22 rfl rfl (fun w' h => by obtain rfl := h; exact (by first | exact hcA5 | exact hcx))) ?_
              refine T_pu rfl rfl (pu_move rfl) ?_
              refine T_pu rfl rfl ((by first | exact pu_ix1 Try.underlying22 ty2 rfl rfl (by omega) (by omega) | exact pu_index Try.underlying22 ty2 rfl rfl (by omega) (by omega))) ?_
              refine T_pi rfl rfl (pi_load Try.underlying2 rfl rfl (fun w' h => by obtain rfl := h; exact (by first | exact hcA5 | exact hcx))) ?_
              refine T_pu rfl rfl (pu_move rfl) ?_
              refine T_pu rfl rfl (pu_mul64 rfl rfl (by omega)) ?_
              refine T_pu rfl rfl (pu_rem rfl rfl (by omega)) ?_
              refine T_go rfl rfl (st_litI hs [(x * iv).tmod 10007] rfl (fun _ => by kernel_rfl) rfl rfl fun w11 b11 hk11 hb11 hs => ?_)
              refine T_go rfl rfl (st_appendI hs 1 rfl Try.underlying22 ty2 rfl rfl (hs.oi 0 rfl).ri (by simp; omega) fun u' w12 hs hk12 hf12 => ?_)
              have hs := hs.tail
              refine T_pu rfl rfl (pu_assign rfl) ?_
              refine T_nil ?_
              refine W_reg ?_
              refine T_pu rfl rfl (pu_move rfl) ?_
              refine T_pu rfl rfl (pu_add64 rfl rfl (by omega)) ?_
              refine T_pu rfl rfl (pu_assign rfl) ?_
              refine T_nil ?_
              rw [tmod_nn (by omega), hx.out, ← scl_rd (by omega), take_rd_snoc (by rw [hsl.out]; omega)] at hs
              exact ⟨(j + 1, u'), .cons rfl (.cons rfl (.cons rfl (.cons rfl (.cons rfl (.cons rfl (.cons rfl (.nil _))))))), ⟨by show j + 1 ≤ 2 * d; omega, _, hs⟩, by show 2 * d - (j + 1) < 2 * d - j; omega⟩
            · refine W_exit rfl ?_
              refine W_seq ?_
              rw [show j = 2 * d from by omega, List.take_of_length_le (by rw [hsl.out]; omega)] at hs
              obtain ⟨b13, c13, rfl, _⟩ : ∃ b cc, u = .slice (some ⟨b, 0, none⟩) (2 * d) cc ∧ 2 * d ≤ cc := by
                rcases (hs.oi 0 rfl).open with ⟨_, e⟩ | ⟨b, cc, e, h⟩
                · have := hsl.out; rw [e] at this; simp at this; omega
                · rw [hsl.out] at e h; exact ⟨b, cc, e, h⟩
              have hs := hs.front 1 rfl
              simp only [List.eraseIdx] at hs
              have hR1l : hR1.length = d := by rw [(hs.mat 0 rfl).len]; exact hZ1l
              refine W_reg ?_
              refine T_pu rfl rfl (pu_move rfl) ?_
              refine T_pu rfl rfl (pu_move rfl) ?_
              refine T_pu rfl rfl (pu_move rfl) ?_
              refine T_pu rfl rfl ((by first | exact pu_ix1 Try.underlying32 ty22 rfl rfl (by omega) (by omega) | exact pu_index Try.underlying32 ty22 rfl rfl (by omega) (by omega))) ?_
              refine T_goN rfl (st_putM hs ty22 rfl rfl rfl (by first | omega | (simp; omega)) (by first | omega | (simp; omega)) fun w13 hk13 hs => ?_)
              rw [Int.toNat_natCast] at hs
              refine T_nil ?_
              refine W_seq ?_
              refine W_reg ?_
              refine T_pu rfl rfl (pu_assign rfl) ?_
              refine T_nil ?_
              refine W_block ?_
              have hZ2 := hZ1.scl (iv := iv) (c := c1) (by omega) (by omega)
              have hgin : gjIn 10007 c1 Z1 d = gjRows 10007 c1 (Z1.set c1 (scl 10007 iv (rr Z1 c1))) d := by unfold gjIn; rw [hpz.out, hive.out]
              rw [hgin] at hsucc
              generalize hZ2e : Z1.set c1 (scl 10007 iv (rr Z1 c1)) = Z2 at *
              clear hZ2e hgin hsl hive hivv hpz hpve hpv hr3 hZ1 hZ1l hdtr hjd hc25
              refine W_loop (σ := Nat) (fun k => [(4, .int .i64 d), (5, (.slice (some ⟨gR, 0, none⟩) d cR)), (6, .int .i64 D), (9, .int .i64 c1), (13, (.slice (some ⟨b13, 0, none⟩) (2 * d) c13)), (15, .int .i64 k)]) (fun k w' => k ≤ d ∧ ∃ hR2, hR2[c1]? = some (.slice (some ⟨b13, 0, none⟩) (2 * d) c13) ∧ St no w [aMat (.slice (some ⟨gR, 0, none⟩) d cR) hR2 (gjRows 10007 c1 Z2 k)] w') (fun k => d - k) 0 ?_ ?_ ?_
              · exact .cons rfl (.cons rfl (.cons rfl (.cons rfl (.cons rfl (.cons rfl (.nil _))))))
              · exact ⟨Nat.zero_le _, _, List.getElem?_set_self (by omega), hs⟩
              clear hs hR1l
              rintro k w14 ⟨hkd2, hR2, hdr, hs⟩
              have hgs := gjRows_succ (p := 10007) (c := c1) (Z := Z2) (k := k)
              have hY := hZ2.gjRows (c := c1) (by omega) (by omega) k hkd2
              generalize hYe : gjRows 10007 c1 Z2 k = Y at *
              have hYl := hY.len
              refine W_seq ?_
              refine W_seq ?_
              refine W_reg ?_
              refine T_pu rfl rfl (pu_move rfl) ?_
              refine T_pu rfl rfl (pu_move rfl) ?_
              refine T_pu rfl rfl (pu_lss rfl rfl) ?_
              refine T_nil ?_
              refine W_if rfl (fun hc30 => ?_) (fun hc30 => ?_)
              · refine W_skip ?_
                refine W_seq ?_
                refine W_block ?_
                refine W_seq ?_
                have hMA2 := hs.mat 0 rfl
                have hR2l : hR2.length = d := by rw [hMA2.len]; exact hYl
                have hr6 := (hY.rr (i := k) (by omega) (by omega)).1
                have hr8 := (hY.rr (i := c1) (by omega) (by omega)).1
                obtain ⟨b6, cc6, hh6, hcA6, hO6⟩ := hMA2.at (i := k) (by omega) (by omega) hr6 (by omega)
                obtain ⟨f, hfe, hcf⟩ := hO6.ri.at0x (i := c1) (by omega) (by omega)
                have hfr1 : 0 ≤ f ∧ f < 10007 := by rw [hfe.out]; exact hY.rd2 (i := k) (j := c1) (by omega) (by omega) (by omega) (by omega)
                have hfz : Go.RowKit.Hid (rd2 Y k c1 = f) := by show _ = _; rw [hfe.out]; rfl
                clear hO6
                refine W_reg ?_
                refine T_pu rfl rfl (pu_move rfl) ?_
                refine T_pu rfl rfl (pu_move rfl) ?_
                refine T_pu rfl rfl ((by first | exact pu_ix1 Try.underlying32 ty22 rfl rfl (by omega) (by omega) | exact pu_index Try.underlying32 ty22 rfl rfl (by omega) (by omega))) ?_
                refine T_pi rfl rfl (pi_load Try.underlying22 rfl rfl (fun w' h => by obtain rfl := h; exact (by first | exact hcA6 | exact hcf))) ?_
                refine T_pu rfl rfl (pu_move rfl) ?_
                refine T_pu rfl rfl ((by first | exact pu_ix1 Try.underlying22 ty2 rfl rfl (by omega) (by omega) | exact pu_index Try.underlying22 ty2 rfl rfl (by omega) (by omega))) ?_
                refine T_pi rfl rfl (pi_load Try.underlying2 rfl rfl (fun w' h => by obtain rfl := h; exact (by first | exact hcA6 | exact hcf))) ?_
                refine T_pu rfl rfl (pu_assign rfl) ?_
                refine T_nil ?_
                refine W_seq ?_
                refine W_seq ?_
                refine W_reg ?_
                refine T_pu rfl rfl (pu_move rfl) ?_
                refine T_pu rfl rfl (pu_move rfl) ?_
                refine T_pu rfl rfl (pu_eql rfl rfl) ?_
                refine T_if rfl rfl (pu_move rfl) (fun hg33_3 => ?_) (fun hg33_3 => ?_)
                · refine T_no rfl rfl ?_
                  refine T_no rfl rfl ?_
                  refine T_pu rfl rfl (pu_pick_t rfl rfl) ?_
                  refine T_nil ?_
                  refine W_true rfl ?_
                  refine W_exit rfl ?_
                  refine W_reg ?_
                  refine T_pu rfl rfl (pu_move rfl) ?_
                  refine T_pu rfl rfl (pu_add64 rfl rfl (by omega)) ?_
                  refine T_pu rfl rfl (pu_assign rfl) ?_
                  refine T_nil ?_
                  first
                    | (have hkc : (k : Int) = c1 := hg33_3
                       have e : gjRow 10007 c1 Y k = Y := by unfold gjRow; rw [if_pos (.inl (Int.ofNat.inj hkc))]
                       refine ⟨k + 1, .cons rfl (.cons rfl (.cons rfl (.cons rfl (.cons rfl (.cons rfl (.nil _)))))), ⟨by omega, hR2, hdr, ?_⟩, by omega⟩
                       rw [hgs, e]
                       exact hs)
                    | (have hf0 : f = 0 := hc33
                       have e : gjRow 10007 c1 Y k = Y := by unfold gjRow; rw [if_pos (.inr (by rw [hfz.out]; exact hf0))]
                       refine ⟨k + 1, .cons rfl (.cons rfl (.cons rfl (.cons rfl (.cons rfl (.cons rfl (.nil _)))))), ⟨by omega, hR2, hdr, ?_⟩, by omega⟩
                       rw [hgs, e]
                       exact hs)
                    | (have e : gjRow 10007 c1 Y k = Y.set k (axpy 10007 f (rr Y k) (rr Y c1)) := by unfold gjRow; rw [hfz.out, if_neg (fun h => h.elim (fun h => hg33_3 (by rw [h])) hc33)]
                       refine ⟨k + 1, .cons rfl (.cons rfl (.cons rfl (.cons rfl (.cons rfl (.cons rfl (.nil _)))))), ⟨by omega, _, ?_, by rw [hgs, e]; exact hs⟩, by omega⟩
                       rw [List.getElem?_set_ne (fun h => hg33_3 (by rw [h]))]
                       exact hdr)
                · refine T_pu rfl rfl (pu_move rfl) ?_
                  refine T_pu rfl rfl (pu_eql rfl rfl) ?_
                  refine T_pu rfl rfl (pu_pick_f rfl rfl) ?_
                  refine T_nil ?_
                  refine W_if rfl (fun hc33 => ?_) (fun hc33 => ?_)
                  · refine W_exit rfl ?_
                    refine W_reg ?_
                    refine T_pu rfl rfl (pu_move rfl) ?_
                    refine T_pu rfl rfl (pu_add64 rfl rfl (by omega)) ?_
                    refine T_pu rfl rfl (pu_assign rfl) ?_
                    refine T_nil ?_
                    first
                      | (have hkc : (k : Int) = c1 := hg33_3
                         have e : gjRow 10007 c1 Y k = Y := by unfold gjRow; rw [if_pos (.inl (Int.ofNat.inj hkc))]
                         refine ⟨k + 1, .cons rfl (.cons rfl (.cons rfl (.cons rfl (.cons rfl (.cons rfl (.nil _)))))), ⟨by omega, hR2, hdr, ?_⟩, by omega⟩
                         rw [hgs, e]
                         exact hs)
                      | (have hf0 : f = 0 := hc33
                         have e : gjRow 10007 c1 Y k = Y := by unfold gjRow; rw [if_pos (.inr (by rw [hfz.out]; exact hf0))]
                         refine ⟨k + 1, .cons rfl (.cons rfl (.cons rfl (.cons rfl (.cons rfl (.cons rfl (.nil _)))))), ⟨by omega, hR2, hdr, ?_⟩, by omega⟩
                         rw [hgs, e]
                         exact hs)
                      | (have e : gjRow 10007 c1 Y k = Y.set k (axpy 10007 f (rr Y k) (rr Y c1)) := by unfold gjRow; rw [hfz.out, if_neg (fun h => h.elim (fun h => hg33_3 (by rw [h])) hc33)]
                         refine ⟨k + 1, .cons rfl (.cons rfl (.cons rfl (.cons rfl (.cons rfl (.cons rfl (.nil _)))))), ⟨by omega, _, ?_, by rw [hgs, e]; exact hs⟩, by omega⟩
                         rw [List.getElem?_set_ne (fun h => hg33_3 (by rw [h]))]
                         exact hdr)
                  · refine W_skip ?_
                    refine W_seq ?_
                    refine W_reg ?_
                    refine T_go rfl rfl (st_litI hs [] rfl (fun _ => by kernel_rfl) rfl rfl fun w15 b15 hk15 hb15 hs => ?_)
                    refine T_pu rfl rfl (pu_assign rfl) ?_
                    refine T_nil ?_
                    refine W_seq ?_
                    refine W_seq ?_
                    refine W_reg ?_
                    refine T_pu rfl rfl (pu_assign rfl) ?_
                    refine T_nil ?_
                    refine W_block ?_
                    clear hcA6 hcf hh6 hMA2
                    have hal : Go.RowKit.Hid ((axpy 10007 f (rr Y k) (rr Y c1)).length = 2 * d) := (axpy_ok (by omega) hr6 hr8).1
                    refine W_loop (σ := Nat × Value) (fun s => [(4, .int .i64 d), (5, (.slice (some ⟨gR, 0, none⟩) d cR)), (6, .int .i64 D), (9, .int .i64 c1), (13, (.slice (some ⟨b13, 0, none⟩) (2 * d) c13)), (15, .int .i64 k), (16, .int .i64 f), (17, s.2), (18, .int .i64 s.1)]) (fun s w' => s.1 ≤ 2 * d ∧ St no w [aOI s.2 ((axpy 10007 f (rr Y k) (rr Y c1)).take s.1), aMat (.slice (some ⟨gR, 0, none⟩) d cR) hR2 Y] w') (fun s => 2 * d - s.1) (0, .slice (some ⟨b15, 0, none⟩) 0 0) ?_ ?_ ?_
                    · exact .cons rfl (.cons rfl (.cons rfl (.cons rfl (.cons rfl (.cons rfl (.cons rfl (.cons rfl (.cons rfl (.nil _)))))))))
                    · exact ⟨Nat.zero_le _, hs⟩
                    clear hs
                    rintro ⟨j, vn⟩ w16 ⟨hjd, hs⟩
                    dsimp only at hjd hs ⊢
                    refine W_seq ?_
                    refine W_seq ?_
                    refine W_reg ?_
                    refine T_pu rfl rfl (pu_move rfl) ?_
                    refine T_pu rfl rfl (pu_move rfl) ?_
                    refine T_pu rfl rfl (pu_mul64 rfl rfl (by omega)) ?_
                    refine T_pu rfl rfl (pu_lss rfl rfl) ?_
                    refine T_nil ?_
                    refine W_if rfl (fun hc36 => ?_) (fun hc36 => ?_)
                    · refine W_skip ?_
                      refine W_seq ?_
                      refine W_block ?_
                      refine W_draw mixed 1000 (IF (fun q => vn.ownBlock = some q)) (fun w17 hk17 => ?_)
                      have hs := hs.next hk17
                      have hM := hs.mat 1 rfl
                      obtain ⟨b5, cc5, hh5, hcA5, hO5⟩ := hM.at (i := k) (by omega) (by omega) hr6 (by omega)
                      have hO7 : OI w17 (.slice (some ⟨b13, 0, none⟩) (2 * d) c13) (rr Y c1) := hM.row c1 _ _ hdr (by have := rr_get (xss := Y) (i := (c1 : Int)) (by omega) (by omega); simpa using this)
                      have hn0 : ¬ vn.ownBlock = some gR := fun e => hs.apart 0 1 rfl rfl (by decide) gR e (.inl rfl)
                      have hn5 : ¬ vn.ownBlock = some b5 := fun e => hs.apart 0 1 rfl rfl (by decide) b5 e (.inr ⟨_, List.mem_of_getElem? hh5, rfl⟩)
                      have hn1 : ¬ vn.ownBlock = some b13 := fun e => hs.apart 0 1 rfl rfl (by decide) b13 e (.inr ⟨_, List.mem_of_getElem? hdr, rfl⟩)
                      obtain ⟨x, hx, hcx⟩ := hO5.ri.at0x (i := j) (by omega) (by omega)
                      obtain ⟨y, hy, hcy⟩ := hO7.ri.at0x (i := j) (by omega) (by omega)
                      have hxr : 0 ≤ x ∧ x < 10007 := by rw [hx.out]; exact (hY.rr (i := k) (by omega) (by omega)).2.rd (by omega) (by omega)
                      have hyr : 0 ≤ y ∧ y < 10007 := by rw [hy.out]; exact (hY.rr (i := c1) (by omega) (by omega)).2.rd (by omega) (by omega)
                      have hml2 := mul_range hfr1 hyr (by omega)
                      clear hM hO5 hO7
                      refine D_pu 0 (by kernel_rfl) rfl (by kernel_rfl) (by kernel_rfl) rfl rfl (by kernel_rfl) (Pu.stable (pu_move rfl)) ?_
                      refine D_pu 1 (by kernel_rfl) rfl (by kernel_rfl) (by kernel_rfl) rfl rfl (by kernel_rfl) (Pu.stable (pu_move rfl)) ?_
                      refine D_pu 2 (by kernel_rfl) rfl (by kernel_rfl) (by kernel_rfl) rfl rfl (by kernel_rfl) (Pu.stable (pu_move rfl)) ?_
                      refine D_pu 3 (by kernel_rfl) rfl (by kernel_rfl) (by kernel_rfl) rfl rfl (by kernel_rfl) (Pu.stable ((by first | exact pu_ix1 Try.underlying32 ty22 rfl rfl (by omega) (by omega) | exact pu_index Try.underlying32 ty22 rfl rfl (by omega) (by omega)))) ?_
                      refine D_pu 4 (by kernel_rfl) rfl (by kernel_rfl) (by kernel_rfl) rfl rfl (by kernel_rfl) (pi_load Try.underlying22 rfl rfl (fun w' h => by obtain ⟨_, h⟩ := h; first | exact h.cell (hcA5) hn0 | exact h.cell (hcx) hn5 | exact h.cell (hcy) hn1)) ?_
                      refine D_pu 5 (by kernel_rfl) rfl (by kernel_rfl) (by kernel_rfl) rfl rfl (by kernel_rfl) (Pu.stable (pu_move rfl)) ?_
                      refine D_pu 6 (by kernel_rfl) rfl (by kernel_rfl) (by kernel_rfl) rfl rfl (by kernel_rfl) (Pu.stable ((by first | exact pu_ix1 Try.underlying22 ty2 rfl rfl (by omega) (by omega) | exact pu_index Try.underlying22 ty2 rfl rfl (by omega) (by omega)))) ?_
                      refine D_pu 7 (by kernel_rfl) rfl (by kernel_rfl) (by kernel_rfl) rfl rfl (by kernel_rfl) (pi_load Try.underlying2 rfl rfl (fun w' h => by obtain ⟨_, h⟩ := h; first | exact h.cell (hcA5) hn0 | exact h.cell (hcx) hn5 | exact h.cell (hcy) hn1)) ?_
                      refine D_pu 8 (by kernel_rfl) rfl (by kernel_rfl) (by kernel_rfl) rfl rfl (by kernel_rfl) (Pu.stable (pu_move rfl)) ?_
                      refine D_pu 9 (by kernel_rfl) rfl (by kernel_rfl) (by kernel_rfl) rfl rfl (by kernel_rfl) (Pu.stable (pu_move rfl)) ?_
                      refine D_pu 10 (by kernel_rfl) rfl (by kernel_rfl) (by kernel_rfl) rfl rfl (by kernel_rfl) (Pu.stable (pu_move rfl)) ?_
                      refine D_pu 11 (by kernel_rfl) rfl (by kernel_rfl) (by kernel_rfl) rfl rfl (by kernel_rfl) (Pu.stable ((by first | exact pu_ix1 Try.underlying22 ty2 rfl rfl (by omega) (by omega) | exact pu_index Try.underlying22 ty2 rfl rfl (by omega) (by omega)))) ?_
                      refine D_pu 12 (by kernel_rfl) rfl (by kernel_rfl) (by kernel_rfl) rfl rfl (by kernel_rfl) (pi_load Try.underlying2 rfl rfl (fun w' h => by obtain ⟨_, h⟩ := h; first | exact h.cell (hcA5) hn0 | exact h.cell (hcx) hn5 | exact h.cell (hcy) hn1)) ?_
                      refine D_pu 13 (by kernel_rfl) rfl (by kernel_rfl) (by kernel_rfl) rfl rfl (by kernel_rfl) (Pu.stable (pu_mul64 rfl rfl (by omega))) ?_
                      refine D_pu 14 (by kernel_rfl) rfl (by kernel_rfl) (by kernel_rfl) rfl rfl (by kernel_rfl) (Pu.stable (pu_sub64 rfl rfl (by omega))) ?_
                      refine D_go 15 (by kernel_rfl) (by first | rfl | (intro _; rfl) | (intro h; exact absurd (show true = false from h) (by decide)) | exact Kp.refl _ _ | assumption) rfl rfl rfl (st_call fn141 rfl ((l09Mod_ok _ _).mono ?_))
                      rintro v w' ⟨rfl, rfl⟩
                      refine D_go 16 (by kernel_rfl) (by first | rfl | (intro _; rfl) | (intro h; exact absurd (show true = false from h) (by decide)) | exact Kp.refl _ _ | assumption) rfl rfl rfl (st_litI hs [(x - f * y) % 10007] rfl (fun _ => by kernel_rfl) rfl rfl fun w18 b18 hk18 hb18 hs => ?_)
                      have hIF : Kp (fun q => vn.ownBlock = some q) w17 w18 := hk18.of_no
                      refine D_go 17 (by kernel_rfl) (by first | rfl | (intro _; rfl) | (intro h; exact absurd (show true = false from h) (by decide)) | exact Kp.refl _ _ | assumption) rfl rfl rfl (st_appendI hs 1 rfl Try.underlying22 ty2 rfl rfl (hs.oi 0 rfl).ri (by simp; omega) fun vn' w19 hs hk19 hf19 => ?_)
                      have hIF2 : Kp (fun q => vn.ownBlock = some q) w17 w19 := hIF.trans hk19 (fun _ _ h => h)
                      have hs := hs.tail
                      refine D_pu 18 (by kernel_rfl) rfl (by kernel_rfl) (by kernel_rfl) rfl rfl (by kernel_rfl) (Pu.stable (pu_assign rfl)) ?_
                      refine D_done (by kernel_rfl) (by first | rfl | (intro _; rfl) | (intro h; exact absurd (show true = false from h) (by decide)) | exact Kp.refl _ _ | assumption) ?_
                      refine W_reg ?_
                      refine T_pu rfl rfl (pu_move rfl) ?_
                      refine T_pu rfl rfl (pu_add64 rfl rfl (by omega)) ?_
                      refine T_pu rfl rfl (pu_assign rfl) ?_
                      refine T_nil ?_
                      rw [sub_mod, hx.out, hy.out, ← axpy_rd (n := 2 * d) hr6 hr8 (by omega), take_rd_snoc (by rw [hal.out]; omega)] at hs
                      exact ⟨(j + 1, vn'), .cons rfl (.cons rfl (.cons rfl (.cons rfl (.cons rfl (.cons rfl (.cons rfl (.cons rfl (.cons rfl (.nil _))))))))), ⟨by show j + 1 ≤ 2 * d; omega, hs⟩, by show 2 * d - (j + 1) < 2 * d - j; omega⟩
                    · refine W_exit rfl ?_
                      rw [show j = 2 * d from by omega, List.take_of_length_le (by rw [hal.out]; omega)] at hs
                      have hs := hs.front 1 rfl
                      simp only [List.eraseIdx] at hs
                      obtain ⟨A17, c17, rfl, _⟩ := (hs.oi 1 rfl).ri.open
                      refine W_reg ?_
                      refine T_pu rfl rfl (pu_move rfl) ?_
                      refine T_pu rfl rfl (pu_move rfl) ?_
                      refine T_pu rfl rfl (pu_move rfl) ?_
                      refine T_pu rfl rfl ((by first | exact pu_ix1 Try.underlying32 ty22 rfl rfl (by omega) (by omega) | exact pu_index Try.underlying32 ty22 rfl rfl (by omega) (by omega))) ?_
                      refine T_goN rfl (st_putM hs ty22 rfl rfl rfl (by first | omega | (simp; omega)) (by first | omega | (simp; omega)) fun w20 hk20 hs => ?_)
                      rw [Int.toNat_natCast] at hs
                      refine T_nil ?_
                      refine W_reg ?_
                      refine T_pu rfl rfl (pu_move rfl) ?_
                      refine T_pu rfl rfl (pu_add64 rfl rfl (by omega)) ?_
                      refine T_pu rfl rfl (pu_assign rfl) ?_
                      refine T_nil ?_
                      first
                        | (have hkc : (k : Int) = c1 := hg33_3
                           have e : gjRow 10007 c1 Y k = Y := by unfold gjRow; rw [if_pos (.inl (Int.ofNat.inj hkc))]
                           refine ⟨k + 1, .cons rfl (.cons rfl (.cons rfl (.cons rfl (.cons rfl (.cons rfl (.nil _)))))), ⟨by omega, hR2, hdr, ?_⟩, by omega⟩
                           rw [hgs, e]
                           exact hs)
                        | (have hf0 : f = 0 := hc33
                           have e : gjRow 10007 c1 Y k = Y := by unfold gjRow; rw [if_pos (.inr (by rw [hfz.out]; exact hf0))]
                           refine ⟨k + 1, .cons rfl (.cons rfl (.cons rfl (.cons rfl (.cons rfl (.cons rfl (.nil _)))))), ⟨by omega, hR2, hdr, ?_⟩, by omega⟩
                           rw [hgs, e]
                           exact hs)
                        | (have e : gjRow 10007 c1 Y k = Y.set k (axpy 10007 f (rr Y k) (rr Y c1)) := by unfold gjRow; rw [hfz.out, if_neg (fun h => h.elim (fun h => hg33_3 (by rw [h])) hc33)]
                           refine ⟨k + 1, .cons rfl (.cons rfl (.cons rfl (.cons rfl (.cons rfl (.cons rfl (.nil _)))))), ⟨by omega, _, ?_, by rw [hgs, e]; exact hs⟩, by omega⟩
                           rw [List.getElem?_set_ne (fun h => hg33_3 (by rw [h]))]
                           exact hdr)
              · refine W_exit rfl ?_
                refine W_reg ?_
                refine T_pu rfl rfl (pu_move rfl) ?_
                refine T_pu rfl rfl (pu_add64 rfl rfl (by omega)) ?_
                refine T_pu rfl rfl (pu_assign rfl) ?_
                refine T_nil ?_
                have hYd : gjRows 10007 c1 Z2 d = Y := by rw [← hYe]; congr 1; omega
                refine ⟨(c1 + 1, gjRows 10007 c1 Z2 d, D), .cons rfl (.cons rfl (.cons rfl (.cons rfl (.nil _)))), ⟨by show c1 + 1 ≤ d; omega, hsucc, hR2, ?_⟩, by show d - (c1 + 1) < d - c1; omega⟩
                rw [hYd]
                exact hs
    · refine W_exit rfl ?_
      refine W_seq ?_
      obtain ⟨e1, e2⟩ := hds (by rw [← show c1 = d from by omega]; exact hgj)
      clear hsucc hgj hds hdn hdet
      refine W_reg ?_
      refine T_go rfl rfl (st_litM hs (fun _ => by kernel_rfl) fun w21 b21 hk21 hb21 hs => ?_)
      refine T_pu rfl rfl (pu_assign rfl) ?_
      refine T_nil ?_
      refine W_seq ?_
      refine W_seq ?_
      refine W_reg ?_
      refine T_pu rfl rfl (pu_assign rfl) ?_
      refine T_nil ?_
      refine W_block ?_
      refine W_loop (σ := Nat × Value) (fun s => [(4, .int .i64 d), (5, (.slice (some ⟨gR, 0, none⟩) d cR)), (6, .int .i64 det), (19, s.2), (20, .int .i64 s.1)]) (fun s w' => s.1 ≤ d ∧ ∃ hB, St no w [aMat s.2 hB ((Z.map (List.drop d)).take s.1), aMat (.slice (some ⟨gR, 0, none⟩) d cR) hR Z] w') (fun s => d - s.1) (0, .slice (some ⟨b21, 0, none⟩) 0 0) ?_ ?_ ?_
      · exact .cons rfl (.cons rfl (.cons rfl (.cons rfl (.cons rfl (.nil _)))))
      · exact ⟨Nat.zero_le _, [], hs⟩
      clear hs
      rintro ⟨k, u⟩ w22 ⟨hkd, hB, hs⟩
      dsimp only at hkd hs ⊢
      refine W_seq ?_
      refine W_seq ?_
      refine W_reg ?_
      refine T_pu rfl rfl (pu_move rfl) ?_
      refine T_pu rfl rfl (pu_move rfl) ?_
      refine T_pu rfl rfl (pu_lss rfl rfl) ?_
      refine T_nil ?_
      refine W_if rfl (fun hc42 => ?_) (fun hc42 => ?_)
      · refine W_skip ?_
        refine W_seq ?_
        refine W_block ?_
        have hM := hs.mat 1 rfl
        have hr6 := (hZ.rr (i := k) (by omega) (by omega)).1
        obtain ⟨b5, cc5, hh5, hcA5, hO5⟩ := hM.at (i := k) (by omega) (by omega) hr6 (by omega)
        refine W_reg ?_
        refine T_pu rfl rfl (pu_move rfl) ?_
        refine T_pu rfl rfl (pu_move rfl) ?_
        refine T_pu rfl rfl (pu_move rfl) ?_
        refine T_pu rfl rfl ((by first | exact pu_ix1 Try.underlying32 ty22 rfl rfl (by omega) (by omega) | exact pu_index Try.underlying32 ty22 rfl rfl (by omega) (by omega))) ?_
        refine T_pi rfl rfl (pi_load Try.underlying22 rfl rfl (fun w' h => by obtain rfl := h; exact (by first | exact hcA5))) ?_
        refine T_pu rfl rfl (pu_move rfl) ?_
        refine T_pu rfl rfl (pu_cut_lo Try.underlying22 ty2 rfl rfl (by omega)) ?_
        refine T_go rfl rfl (st_call fn136 rfl ((l01Own_ok _ ((rr Z k).drop d) _ (hO5.ri.cutLo (by omega)) (by simp; omega)).mono ?_))
        rintro q w23 hn
        have hs := hs.newI hn
        obtain ⟨A4, c4, rfl, _⟩ := hn.1.ri.open
        refine T_go rfl rfl (st_litR hs rfl (fun _ => by kernel_rfl) fun w24 b24 hk24 hb24 hs hU => ?_)
        have hs := hs.front 1 rfl
        simp only [List.eraseIdx] at hs
        refine T_go rfl rfl (st_appendM (by' := 0) hs Try.underlying32 ty22 rfl rfl hU rfl (by simp; omega) fun u' w25 hs hk25 hf25 => ?_)
        refine T_pu rfl rfl (pu_assign rfl) ?_
        refine T_nil ?_
        refine W_reg ?_
        refine T_pu rfl rfl (pu_move rfl) ?_
        refine T_pu rfl rfl (pu_add64 rfl rfl (by omega)) ?_
        refine T_pu rfl rfl (pu_assign rfl) ?_
        refine T_nil ?_
        rw [← map_take (drop_nil' d) (by omega)] at hs
        exact ⟨(k + 1, u'), .cons rfl (.cons rfl (.cons rfl (.cons rfl (.cons rfl (.nil _))))), ⟨by show k + 1 ≤ d; omega, _, hs⟩, by show d - (k + 1) < d - k; omega⟩
      · refine W_exit rfl ?_
        refine W_seq ?_
        refine W_reg ?_
        refine T_pu rfl rfl (pu_move rfl) ?_
        refine T_pu rfl rfl (pu_move rfl) ?_
        refine T_pu rfl rfl (pu_assign rfl) ?_
        refine T_pu rfl rfl (pu_assign rfl) ?_
        refine T_nil ?_
        refine W_ret ?_
        rw [show k = d from by omega, List.take_of_length_le (by rw [List.length_map]; omega)] at hs
        refine Res_2 rfl rfl rfl ⟨_, by rw [e1], ?_⟩
        rw [e2]
        exact hs.isNewM 0 rfl
end Go.Proofs.Ytdpbfdjpeofbmaa.L
