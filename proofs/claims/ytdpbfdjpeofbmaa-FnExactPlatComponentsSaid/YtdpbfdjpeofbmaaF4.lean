/- PlatComponents, the reference, and the law. -/
import Derived.Test.YtdpbfdjpeofbmaaF3
namespace Go.Proofs.Ytdpbfdjpeofbmaa.L
set_option linter.unusedVariables false
set_option maxRecDepth 100000

set_option maxHeartbeats 16000000 in
theorem specPlat_ok (n : Int) (v : Value) (xs : List Int) (w : World) (hv : RI w v xs) (hl : xs.length ≤ 9223372036854775807) (hw : ∀ x ∈ xs, -9223372036854775808 ≤ x ∧ x ≤ 9223372036854775807) :
    CallsR Try.prog 60 #[.agg #[.int .i64 n, v]] w fun r w' => r = .tuple #[.int .i64 (platR n xs).1, .int .i64 (platR n xs).2] ∧ Kp no w w' := by
  obtain ⟨A, c, rfl, hc⟩ := hv.open
  have hs := St.start w
  refine fn_calls Try.func60 rfl rfl rfl ?_
  refine W_seq ?_
  refine W_reg ?_
  refine T_go rfl rfl (st_boxS hs rfl fun w1 b1 hk1 hb1 hs => ?_)
  refine T_pu rfl rfl (pu_assign rfl) ?_
  refine T_pu rfl rfl (pu_assign rfl) ?_
  refine T_nil ?_
  refine W_seq ?_
  refine W_block ?_
  refine W_seq ?_
  refine W_reg ?_
  refine T_pi rfl rfl (pi_loadAgg Try.underlying28 rfl ty28 rfl (fun w' h => by obtain rfl := h; exact (by first | exact (hs.bk 0 rfl).cells)) (by first | rfl | (simp; done) | (rw [nums_length]; assumption) | assumption)) ?_
  refine T_go rfl rfl (st_call fn67 rfl ((l01Is_ok n _ xs _ (hv.keep hs.kp) hl hw).mono ?_))
  rintro v w2 ⟨rfl, hk2⟩
  have hs := hs.next hk2
  refine T_pu rfl rfl (pu_notp rfl) ?_
  refine T_pu rfl rfl (pu_assign rfl) ?_
  refine T_nil ?_
  refine W_if rfl (fun hc1 => ?_) (fun hc1 => ?_)
  · refine W_seq ?_
    refine W_reg ?_
    refine T_pu rfl rfl (pu_assign rfl) ?_
    refine T_pu rfl rfl (pu_assign rfl) ?_
    refine T_nil ?_
    refine W_ret ?_
    exact Res_2 rfl rfl rfl ⟨by unfold platR; rw [if_pos hc1], hs.kp⟩
  · refine W_seq ?_
    have hBr : Br n xs := Decidable.not_not.1 hc1
    have h1 := hBr.1
    have htm : n.tmod 2 = n % 2 := Int.tmod_eq_emod_of_nonneg (by omega)
    refine W_reg ?_
    refine T_pu rfl rfl (pu_fld (off := 0) Try.underlying28 rfl rfl ty2 rfl rfl) ?_
    refine T_pi rfl rfl (pi_load Try.underlying2 rfl rfl (fun w' h => by obtain rfl := h; exact (by first | exact (hs.bk 0 rfl).cell rfl))) ?_
    refine T_pu rfl rfl (pu_rem rfl rfl (by omega)) ?_
    rw [htm]
    refine T_pu rfl rfl (pu_neq rfl rfl) ?_
    refine T_pu rfl rfl (pu_assign rfl) ?_
    refine T_nil ?_
    refine W_if rfl (fun hc3 => ?_) (fun hc3 => ?_)
    · refine W_seq ?_
      refine W_reg ?_
      refine T_pu rfl rfl (pu_assign rfl) ?_
      refine T_pu rfl rfl (pu_assign rfl) ?_
      refine T_nil ?_
      refine W_ret ?_
      exact Res_2 rfl rfl rfl ⟨by unfold platR; rw [if_neg hc1, if_pos (by omega)], hs.kp⟩
    · refine W_skip ?_
      refine W_seq ?_
      obtain ⟨m, rfl⟩ : ∃ m : Nat, n = m := ⟨n.toNat, by omega⟩
      have e : platR m xs = ((dcnt (plF m (strF m xs) (m / 2)) : Int), 0) := by unfold platR; rw [if_neg hc1, if_neg (by omega), Int.toNat_natCast]
      rw [e]
      have h2 : m % 2 = 0 := by omega
      have hm : 1 ≤ m ∧ m ≤ 8 := by omega
      have hpm := pm_ends hm.1 hBr.2.2
      have hpc := fun w hv => l01Perm_ok m hm (.slice A xs.length c) xs w hv hl hBr.2.2
      have hgr := plF_grp (n := m) (a := strF m xs) hpm.al hpm.ain (m / 2) (by omega)
      generalize endsF m xs = en at hpm hpc
      generalize strF m xs = a at hpm hgr ⊢
      generalize plF m a (m / 2) = g at hgr ⊢
      have hel := hpm.el
      have hpe := pad_length (m := 8) (xs := en) (by omega)
      refine W_reg ?_
      refine T_pu rfl rfl (pu_fld (off := 0) Try.underlying28 rfl rfl ty2 rfl rfl) ?_
      refine T_pi rfl rfl (pi_load Try.underlying2 rfl rfl (fun w' h => by obtain rfl := h; exact (by first | exact (hs.bk 0 rfl).cell rfl))) ?_
      refine T_pu rfl rfl (pu_fld (off := 1) Try.underlying28 rfl rfl ty22 rfl rfl) ?_
      refine T_pi rfl rfl (pi_load Try.underlying22 rfl rfl (fun w' h => by obtain rfl := h; exact (by first | exact (hs.bk 0 rfl).cell rfl))) ?_
      refine T_go rfl rfl (st_call fn117 rfl ((hpc _ (hv.keep hs.kp)).mono ?_))
      rintro v w3 ⟨rfl, hk3⟩
      have hs := hs.next hk3
      refine T_pu rfl rfl (pu_build (v := .agg (nums .u8 (List.replicate 16 0)).toArray) (vs := []) (parts := []) rfl (fun _ => by kernel_rfl)) ?_
      refine T_go rfl rfl (st_allocS hs ty107 fun w4 b4 hk4 hb4 hs => ?_)
      refine T_go rfl rfl (st_allocS hs ty96 fun w5 b5 hk5 hb5 hs => ?_)
      refine T_goN rfl (st_storeW hs 1 rfl ty107 rfl rfl (by first | rfl | (simp; done) | assumption) (by first | rfl | (simp; done) | assumption) fun w6 hk6 hs => ?_)
      refine T_goN rfl (st_storeW hs 0 rfl ty96 rfl rfl (by first | rfl | (simp; done) | assumption) (by first | rfl | (simp; done) | assumption) fun w7 hk7 hs => ?_)
      refine T_nil ?_
      refine W_seq ?_
      refine W_seq ?_
      refine W_reg ?_
      refine T_pu rfl rfl (pu_assign rfl) ?_
      refine T_nil ?_
      refine W_block ?_
      refine W_loop (σ := Nat × List Int) (fun s => [(1, .pointer (some ⟨b1, 0, none⟩)), (4, .pointer (some ⟨b4, 0, none⟩)), (5, .pointer (some ⟨b5, 0, none⟩)), (6, .int .i64 s.1)]) (fun s w' => s.1 ≤ m ∧ s.2.length = 16 ∧ (∀ z : Nat, z < s.1 → rd s.2 z = m + rd en z ∧ rd s.2 (m + rd en z) = z) ∧ St no w [aBk b5 96 (nums .u8 s.2), aBk b4 107 (nums .u8 (pad 8 en)), aBk b1 28 [.int .i64 m, .slice A xs.length c]] w') (fun s => m - s.1) (0, List.replicate 16 0) ?_ ?_ ?_
      · exact .cons rfl (.cons rfl (.cons rfl (.cons rfl (.nil _))))
      · exact ⟨Nat.zero_le _, by simp, fun z h => absurd h (Nat.not_lt_zero _), hs⟩
      repeat clear hs
      rintro ⟨x, pl⟩ w8 ⟨hx, hpl, hall, hs⟩
      dsimp only at hx hpl hall hs ⊢
      refine W_seq ?_
      refine W_seq ?_
      refine W_reg ?_
      refine T_pu rfl rfl (pu_move rfl) ?_
      refine T_pu rfl rfl (pu_fld (off := 0) Try.underlying28 rfl rfl ty2 rfl rfl) ?_
      refine T_pi rfl rfl (pi_load Try.underlying2 rfl rfl (fun w' h => by obtain rfl := h; exact (by first | exact (hs.bk 2 rfl).cell rfl))) ?_
      refine T_pu rfl rfl (pu_lss rfl rfl) ?_
      refine T_nil ?_
      refine W_if rfl (fun hc7 => ?_) (fun hc7 => ?_)
      · refine W_skip ?_
        refine W_seq ?_
        refine W_block ?_
        refine W_seq ?_
        refine W_draw mixed 9 IS (fun w9 hk9 => ?_)
        have hs := hs.next hk9
        have hce := (hs.bk 1 rfl).at1 (i := x) (by omega) (by omega)
        rw [pad_rd] at hce
        have hre := hpm.ein.rd (i := x) (by omega) (by omega)
        refine D_pu 0 (by kernel_rfl) rfl (by kernel_rfl) (by kernel_rfl) rfl rfl (by kernel_rfl) (Pu.stable (pu_move rfl)) ?_
        refine D_pu 1 (by kernel_rfl) rfl (by kernel_rfl) (by kernel_rfl) rfl rfl (by kernel_rfl) (Pu.stable (pu_fld (off := 0) Try.underlying28 rfl rfl ty2 rfl rfl)) ?_
        refine D_rd 2 (by kernel_rfl) rfl (by kernel_rfl) (by kernel_rfl) rfl rfl (by kernel_rfl) (by kernel_rfl) (by kernel_rfl) (pi_load Try.underlying2 rfl rfl (fun w' h => by obtain rfl := h rfl; exact (by first | exact (hs.bk 2 rfl).cell rfl | exact hce))) ?_
        refine D_pu 3 (by kernel_rfl) rfl (by kernel_rfl) (by kernel_rfl) rfl rfl (by kernel_rfl) (Pu.stable (pu_conv Try.underlying2 Try.underlying5 rfl)) ?_
        rw [u8_small (x := (m : Int)) (by omega)]
        refine D_pu 4 (by kernel_rfl) rfl (by kernel_rfl) (by kernel_rfl) rfl rfl (by kernel_rfl) (Pu.stable (pu_move rfl)) ?_
        refine D_pu 5 (by kernel_rfl) rfl (by kernel_rfl) (by kernel_rfl) rfl rfl (by kernel_rfl) (Pu.stable (pu_ixA Try.underlying107 ty5 rfl rfl (by omega) (by omega))) ?_
        refine D_rd 6 (by kernel_rfl) rfl (by kernel_rfl) (by kernel_rfl) rfl rfl (by kernel_rfl) (by kernel_rfl) (by kernel_rfl) (pi_load Try.underlying5 rfl rfl (fun w' h => by obtain rfl := h rfl; exact (by first | exact (hs.bk 2 rfl).cell rfl | exact hce))) ?_
        refine D_pu 7 (by kernel_rfl) rfl (by kernel_rfl) (by kernel_rfl) rfl rfl (by kernel_rfl) (Pu.stable (pu_add rfl rfl)) ?_
        rw [u8_small (x := (m : Int) + rd en x) (by omega)]
        refine D_pu 8 (by kernel_rfl) rfl (by kernel_rfl) (by kernel_rfl) rfl rfl (by kernel_rfl) (Pu.stable (pu_ixA Try.underlying96 ty5 rfl rfl (by omega) (by omega))) ?_
        refine D_goN 9 (by kernel_rfl) (by first | rfl | (intro _; rfl) | (intro h; exact absurd (show true = false from h) (by decide)) | exact Kp.refl _ _ | assumption) rfl rfl (st_storeN hs 0 rfl ty5 rfl rfl x (by omega) (by omega) fun w10 hk10 hs => ?_)
        simp only [List.set_cons_zero] at hs
        have hcp := (hs.bk 0 rfl).at1 (i := x) (by omega) (by rw [List.length_set]; omega)
        rw [rd_set, if_pos ⟨by omega, by omega⟩] at hcp
        refine D_done (by kernel_rfl) (by first | rfl | (intro _; rfl) | (intro h; exact absurd (show true = false from h) (by decide)) | exact Kp.refl _ _ | assumption) ?_
        refine W_reg ?_
        refine T_pu rfl rfl (pu_move rfl) ?_
        refine T_pu rfl rfl (pu_ixA Try.underlying96 ty5 rfl rfl (by omega) (by omega)) ?_
        refine T_pi rfl rfl (pi_load Try.underlying5 rfl rfl (fun w' h => by obtain rfl := h; exact (by first | exact hcp))) ?_
        refine T_pu rfl rfl (pu_move rfl) ?_
        refine T_pu rfl rfl (pu_conv Try.underlying2 Try.underlying5 rfl) ?_
        rw [u8_small (x := (x : Int)) (by omega)]
        refine T_pu rfl rfl (pu_ixA Try.underlying96 ty5 rfl rfl (by omega) (by omega)) ?_
        refine T_goN rfl (st_storeN hs 0 rfl ty5 rfl rfl ((m : Int) + rd en x).toNat (by omega) (by rw [List.length_set]; omega) fun w11 hk11 hs => ?_)
        simp only [List.set_cons_zero] at hs
        refine T_nil ?_
        refine W_reg ?_
        refine T_pu rfl rfl (pu_move rfl) ?_
        refine T_pu rfl rfl (pu_add64 rfl rfl (by omega)) ?_
        refine T_pu rfl rfl (pu_assign rfl) ?_
        refine T_nil ?_
        exact ⟨(x + 1, (pl.set x (m + rd en x)).set ((m : Int) + rd en x).toNat x), .cons rfl (.cons rfl (.cons rfl (.cons rfl (.nil _)))), ⟨by show x + 1 ≤ m; omega, by show ((pl.set _ _).set _ _).length = 16; rw [List.length_set, List.length_set, hpl], fun z hz => by
          have hz : z < x + 1 := hz
          have hrz := hpm.ein.rd (i := z) (by omega) (by omega)
          have hinj : z ≠ x → rd en z ≠ rd en x := fun hne he => by
            have h3 := hpm.ae z (by omega) (by omega)
            rw [he, hpm.ae x (by omega) (by omega)] at h3
            omega
          show rd ((pl.set _ _).set _ _) z = _ ∧ rd ((pl.set _ _).set _ _) _ = _
          rw [rd_set, rd_set, rd_set, rd_set, List.length_set]
          by_cases e1 : z = x
          · subst e1
            rw [if_neg (by omega), if_pos ⟨by omega, by omega⟩, if_pos ⟨rfl, by omega⟩]
            exact ⟨rfl, rfl⟩
          · have := hinj e1
            rw [if_neg (by omega), if_neg (by omega), if_neg (by omega), if_neg (by omega)]
            exact hall z (by omega), hs⟩, by show m - (x + 1) < m - x; omega⟩
      · refine W_exit rfl ?_
        refine W_seq ?_
        obtain rfl : x = m := by omega
        have hpp : ∀ z : Int, 0 ≤ z → z < (2 * x : Nat) → rd pl z = pP x a en z := fun z h0 h3 => by
          unfold pP
          by_cases hz : z < x
          · rw [if_pos hz]
            have := (hall z.toNat (by omega)).1
            rwa [Int.toNat_of_nonneg h0] at this
          · rw [if_neg hz]
            have hra := hpm.ain.rd (i := z - x) (by omega) (by have := hpm.al; omega)
            have := (hall (rd a (z - x)).toNat (by omega)).2
            rw [Int.toNat_of_nonneg hra.1, hpm.ea (z - x) (by omega) (by omega), show (x : Int) + (z - x) = z by omega] at this
            exact this
        refine W_reg ?_
        refine T_pu rfl rfl (pu_fld (off := 0) Try.underlying28 rfl rfl ty2 rfl rfl) ?_
        refine T_pi rfl rfl (pi_load Try.underlying2 rfl rfl (fun w' h => by obtain rfl := h; exact (by first | exact (hs.bk 2 rfl).cell rfl))) ?_
        refine T_go rfl rfl (st_call fn109 rfl ((l11Outside_ok x hm _).mono ?_))
        rintro v w12 ⟨⟨ol, hol, hop, rfl⟩, hk12⟩
        have hs := hs.next hk12
        refine T_pu rfl rfl (pu_build (v := .agg (bV (List.replicate 16 false)).toArray) (vs := []) (parts := []) rfl (fun _ => by kernel_rfl)) ?_
        refine T_go rfl rfl (st_allocS hs ty96 fun w13 b13 hk13 hb13 hs => ?_)
        refine T_go rfl rfl (st_allocS hs ty109 fun w14 b14 hk14 hb14 hs => ?_)
        refine T_goN rfl (st_storeW hs 1 rfl ty96 rfl rfl (by first | rfl | (simp; done) | assumption) (by first | rfl | (simp; done) | assumption) fun w15 hk15 hs => ?_)
        refine T_goN rfl (st_storeBs hs 0 rfl ty109 rfl rfl rfl (fun u hu => by obtain ⟨b, _, rfl⟩ := List.mem_map.1 hu; rfl) (by first | exact Nat.le_of_ble_eq_true rfl | omega | (simp; done) | (simp; omega)) fun w16 hk16 hs => ?_)
        have hI := plat_inv hpm h2
        clear hc3 htm hc1
        refine T_pu rfl rfl (pu_assign rfl) ?_
        refine T_nil ?_
        refine W_seq ?_
        refine W_seq ?_
        refine W_reg ?_
        refine T_pu rfl rfl (pu_assign rfl) ?_
        refine T_nil ?_
        refine W_block ?_
        refine W_loop (σ := Nat × Nat × List Bool) (fun s => [(1, .pointer (some ⟨b1, 0, none⟩)), (5, .pointer (some ⟨b5, 0, none⟩)), (7, .pointer (some ⟨b13, 0, none⟩)), (8, .pointer (some ⟨b14, 0, none⟩)), (9, .int .i64 s.2.1), (10, .int .i64 s.1)]) (fun s w' => s.1 ≤ 2 * x ∧ s.2.1 ≤ s.1 ∧ Seen x a en g s.1 s.2.1 s.2.2 ∧ St no w [aBk b14 109 (bV s.2.2), aBk b13 96 (nums .u8 ol), aBk b5 96 (nums .u8 pl), aBk b4 107 (nums .u8 (pad 8 en)), aBk b1 28 [.int .i64 x, .slice A xs.length c]] w') (fun s => 2 * x - s.1) (0, 0, List.replicate 16 false) ?_ ?_ ?_
        · exact .cons rfl (.cons rfl (.cons rfl (.cons rfl (.cons rfl (.cons rfl (.nil _))))))
        · exact ⟨Nat.zero_le _, Nat.le_refl _, Seen.start _ _ _ _, hs⟩
        repeat clear hs
        rintro ⟨k, cnt, bs⟩ w17 ⟨hk, hck, hS, hs⟩
        dsimp only at hk hck hS hs ⊢
        have hbl := hS.len
        refine W_seq ?_
        refine W_seq ?_
        refine W_reg ?_
        refine T_pu rfl rfl (pu_move rfl) ?_
        refine T_pu rfl rfl (pu_fld (off := 0) Try.underlying28 rfl rfl ty2 rfl rfl) ?_
        refine T_pi rfl rfl (pi_load Try.underlying2 rfl rfl (fun w' h => by obtain rfl := h; exact (by first | exact (hs.bk 4 rfl).cell rfl))) ?_
        refine T_pu rfl rfl (pu_mul64 rfl rfl (by omega)) ?_
        refine T_pu rfl rfl (pu_lss rfl rfl) ?_
        refine T_nil ?_
        refine W_if rfl (fun hc13 => ?_) (fun hc13 => ?_)
        · refine W_skip ?_
          refine W_seq ?_
          refine W_block ?_
          refine W_seq ?_
          refine W_seq ?_
          refine W_reg ?_
          refine T_pu rfl rfl (pu_move rfl) ?_
          refine T_pu rfl rfl (pu_ixA Try.underlying109 ty4 rfl rfl (by omega) (by omega)) ?_
          refine T_pi rfl rfl (pi_load Try.underlying4 rfl rfl (fun w' h => by obtain rfl := h; exact (by first | exact (hs.bk 0 rfl).cell (bV_get (y := k) (by omega) (by omega))))) ?_
          refine T_nil ?_
          refine W_cond rfl (fun hc15 => ?_) (fun hc15 => ?_)
          · have hS2 := hS.skip (by omega) hc15
            refine W_exit rfl ?_
            first
              | have hS2 := hS.done hpm h2 hgr (by omega) hc15 hR (by simpa using hc18)
              | skip
            refine W_reg ?_
            refine T_pu rfl rfl (pu_move rfl) ?_
            refine T_pu rfl rfl (pu_add64 rfl rfl (by omega)) ?_
            refine T_pu rfl rfl (pu_assign rfl) ?_
            refine T_nil ?_
            first
              | exact ⟨(k + 1, cnt, bs), .cons rfl (.cons rfl (.cons rfl (.cons rfl (.cons rfl (.cons rfl (.nil _)))))), ⟨by show k + 1 ≤ _; omega, by show cnt ≤ k + 1; omega, hS2, hs⟩, by show 2 * x - (k + 1) < 2 * x - k; omega⟩
              | exact ⟨(k + 1, cnt + 1, bs2), .cons rfl (.cons rfl (.cons rfl (.cons rfl (.cons rfl (.cons rfl (.nil _)))))), ⟨by show k + 1 ≤ _; omega, by show cnt + 1 ≤ k + 1; omega, hS2, hs⟩, by show 2 * x - (k + 1) < 2 * x - k; omega⟩
          · have hR := hS.begin_ (by omega) hc15
            refine W_skip ?_
            refine W_seq ?_
            refine W_reg ?_
            refine T_pu rfl rfl (pu_move rfl) ?_
            refine T_pu rfl rfl (pu_add64 rfl rfl (by omega)) ?_
            refine T_pu rfl rfl (pu_assign rfl) ?_
            refine T_nil ?_
            refine W_seq ?_
            refine W_reg ?_
            refine T_pu rfl rfl (pu_move rfl) ?_
            refine T_pu rfl rfl (pu_assign rfl) ?_
            refine T_nil ?_
            refine W_block ?_
            refine W_loop (σ := Int × List Bool) (fun s => [(1, .pointer (some ⟨b1, 0, none⟩)), (5, .pointer (some ⟨b5, 0, none⟩)), (7, .pointer (some ⟨b13, 0, none⟩)), (8, .pointer (some ⟨b14, 0, none⟩)), (9, .int .i64 (cnt + 1 : Nat)), (10, .int .i64 k), (11, .int .i64 s.1)]) (fun s w' => Run x a en g k (Mt (2 * x) bs) s.1 s.2 ∧ St no w [aBk b14 109 (bV s.2), aBk b13 96 (nums .u8 ol), aBk b5 96 (nums .u8 pl), aBk b4 107 (nums .u8 (pad 8 en)), aBk b1 28 [.int .i64 x, .slice A xs.length c]] w') (fun s => unm s.2) ((k : Int), bs) ?_ ?_ ?_
            · exact .cons rfl (.cons rfl (.cons rfl (.cons rfl (.cons rfl (.cons rfl (.cons rfl (.nil _)))))))
            · exact ⟨hR, hs⟩
            clear hR
            repeat clear hs
            rintro ⟨y, bs2⟩ w18 ⟨hR, hs⟩
            dsimp only at hR hs ⊢
            have hbl2 := hR.len
            have hyr := hR.rg
            refine W_seq ?_
            refine W_seq ?_
            refine W_reg ?_
            refine T_pu rfl rfl (pu_move rfl) ?_
            refine T_pu rfl rfl (pu_ixA Try.underlying109 ty4 rfl rfl (by omega) (by omega)) ?_
            refine T_pi rfl rfl (pi_load Try.underlying4 rfl rfl (fun w' h => by obtain rfl := h; exact (by first | exact (hs.bk 0 rfl).cell (bV_get (y := y) (by omega) (by omega))))) ?_
            refine T_pu rfl rfl (pu_not rfl) ?_
            refine T_nil ?_
            refine W_cond rfl (fun hc18 => ?_) (fun hc18 => ?_)
            · have hrf : rb bs2 y = false := by simpa using hc18
              obtain ⟨hR2, hun⟩ := hR.step (by omega) hpm h2 hgr (by omega) hrf
              have hpy := hI.pr y hyr.1 hyr.2
              have hopy := hI.orr _ hpy.1 hpy.2
              have hpl2 := hpp y hyr.1 hyr.2
              refine W_skip ?_
              refine W_seq ?_
              refine W_block ?_
              refine W_seq ?_
              refine W_reg ?_
              refine T_pu rfl rfl (pu_move rfl) ?_
              refine T_pu rfl rfl (pu_ixA Try.underlying109 ty4 rfl rfl (by omega) (by omega)) ?_
              refine T_goN rfl (st_storeB hs 0 rfl ty4 rfl rfl rfl (by rw [bV_length]; omega) fun w19 hk19 hs => ?_)
              simp only [List.set_cons_zero, Nat.zero_add, Nat.mul_one, bV_set] at hs
              have hcp := (hs.bk 2 rfl).at1 (i := y) (by omega) (by omega)
              rw [hpl2] at hcp
              refine T_nil ?_
              refine W_reg ?_
              refine T_pu rfl rfl (pu_move rfl) ?_
              refine T_pu rfl rfl (pu_ixA Try.underlying96 ty5 rfl rfl (by omega) (by omega)) ?_
              refine T_pi rfl rfl (pi_load Try.underlying5 rfl rfl (fun w' h => by obtain rfl := h; exact (by first | exact hcp))) ?_
              refine T_pu rfl rfl (pu_ixA Try.underlying109 ty4 rfl rfl (by omega) (by omega)) ?_
              refine T_goN rfl (st_storeB hs 0 rfl ty4 rfl rfl rfl (by rw [bV_length, List.length_set]; omega) fun w20 hk20 hs => ?_)
              simp only [List.set_cons_zero, Nat.zero_add, Nat.mul_one, bV_set] at hs
              have hcp := (hs.bk 2 rfl).at1 (i := y) (by omega) (by omega)
              rw [hpl2] at hcp
              have hco := (hs.bk 1 rfl).at1 (i := pP x a en y) (by omega) (by omega)
              have hop2 := hop (pP x a en y).toNat (by omega)
              rw [Int.toNat_of_nonneg hpy.1] at hop2
              rw [hop2] at hco
              refine T_nil ?_
              refine W_reg ?_
              refine T_pu rfl rfl (pu_move rfl) ?_
              refine T_pu rfl rfl (pu_ixA Try.underlying96 ty5 rfl rfl (by omega) (by omega)) ?_
              refine T_pi rfl rfl (pi_load Try.underlying5 rfl rfl (fun w' h => by obtain rfl := h; exact (by first | exact hcp | exact hco))) ?_
              refine T_pu rfl rfl (pu_ixA Try.underlying96 ty5 rfl rfl (by omega) (by omega)) ?_
              refine T_pi rfl rfl (pi_load Try.underlying5 rfl rfl (fun w' h => by obtain rfl := h; exact (by first | exact hcp | exact hco))) ?_
              refine T_pu rfl rfl (pu_conv Try.underlying5 Try.underlying2 rfl) ?_
              refine T_pu rfl rfl (pu_assign rfl) ?_
              refine T_nil ?_
              exact ⟨(pO (pP x a en y), (bs2.set y.toNat true).set (pP x a en y).toNat true), .cons rfl (.cons rfl (.cons rfl (.cons rfl (.cons rfl (.cons rfl (.cons (by show some (Value.int .i64 _) = some (Value.int .i64 _); rw [i64_small (by omega)]) (.nil _))))))), ⟨hR2, hs⟩, hun⟩
            · refine W_exit rfl ?_
              first
                | have hS2 := hS.done hpm h2 hgr (by omega) hc15 hR (by simpa using hc18)
                | skip
              refine W_reg ?_
              refine T_pu rfl rfl (pu_move rfl) ?_
              refine T_pu rfl rfl (pu_add64 rfl rfl (by omega)) ?_
              refine T_pu rfl rfl (pu_assign rfl) ?_
              refine T_nil ?_
              first
                | exact ⟨(k + 1, cnt, bs), .cons rfl (.cons rfl (.cons rfl (.cons rfl (.cons rfl (.cons rfl (.nil _)))))), ⟨by show k + 1 ≤ _; omega, by show cnt ≤ k + 1; omega, hS2, hs⟩, by show 2 * x - (k + 1) < 2 * x - k; omega⟩
                | exact ⟨(k + 1, cnt + 1, bs2), .cons rfl (.cons rfl (.cons rfl (.cons rfl (.cons rfl (.cons rfl (.nil _)))))), ⟨by show k + 1 ≤ _; omega, by show cnt + 1 ≤ k + 1; omega, hS2, hs⟩, by show 2 * x - (k + 1) < 2 * x - k; omega⟩
        · refine W_exit rfl ?_
          refine W_seq ?_
          refine W_reg ?_
          refine T_pu rfl rfl (pu_move rfl) ?_
          refine T_pu rfl rfl (pu_assign rfl) ?_
          refine T_pu rfl rfl (pu_assign rfl) ?_
          refine T_nil ?_
          refine W_ret ?_
          obtain rfl : k = 2 * x := by omega
          refine Res_2 rfl rfl rfl ⟨?_, hs.kp⟩
          rw [hS.cnt_, dcnt_lamL hgr.len hpm.al hpm.ain]
set_option maxHeartbeats 8000000 in
theorem lawPlat_ok (n : Int) (v : Value) (xs : List Int) (w : World) (hv : RI w v xs) (hl : xs.length ≤ 9223372036854775807) (hw : ∀ x ∈ xs, -9223372036854775808 ≤ x ∧ x ≤ 9223372036854775807) (hn : -9223372036854775808 ≤ n) (hn2 : n ≤ 9223372036854775807) :
    CallsR Try.prog 13 #[.agg #[.int .i64 n, v]] w fun r w' => r = .bool true ∧ Kp no w w' := by
  obtain ⟨A, c, rfl, hc⟩ := hv.open
  have hs := St.start w
  refine fn_calls Try.func13 rfl rfl rfl ?_
  refine W_seq ?_
  refine W_reg ?_
  refine T_go rfl rfl (st_boxS hs rfl fun w1 b1 hk1 hb1 hs => ?_)
  refine T_pu rfl rfl (pu_assign rfl) ?_
  refine T_nil ?_
  refine W_seq ?_
  refine W_reg ?_
  refine T_pu rfl rfl (pu_assign rfl) ?_
  refine T_nil ?_
  refine W_seq ?_
  refine W_reg ?_
  refine T_pi rfl rfl (pi_loadAgg Try.underlying24 rfl ty24 rfl (fun w' h => by obtain rfl := h; exact (by first | exact (hs.bk 0 rfl).cells)) (by first | rfl | (simp; done) | (rw [nums_length]; assumption) | assumption)) ?_
  refine T_pu rfl rfl (pu_move rfl) ?_
  refine T_go rfl rfl (st_call fn16 rfl ((szBraid_ok n _ xs 1048576 w1 (hv.keep hs.kp) hl (by omega)).mono ?_))
  rintro v w2 ⟨rfl, hk2⟩
  have hs := hs.next hk2
  refine T_pu rfl rfl (pu_assign rfl) ?_
  refine T_nil ?_
  refine W_seq ?_
  refine W_seq ?_
  refine W_reg ?_
  refine T_pu rfl rfl (pu_move rfl) ?_
  refine T_pu rfl rfl (pu_lss rfl rfl) ?_
  refine T_nil ?_
  refine W_if rfl (fun hc3 => ?_) (fun hc3 => ?_)
  · refine W_seq ?_
    refine W_reg ?_
    refine T_pu rfl rfl (pu_assign rfl) ?_
    refine T_nil ?_
    refine W_ret ?_
    exact Res_1 rfl rfl ⟨rfl, hs.kp⟩
  · refine W_skip ?_
    refine W_seq ?_
    have hl' : xs.length ≤ 1048576 := by split at hc3 <;> omega
    refine W_reg ?_
    refine T_pi rfl rfl (pi_loadAgg Try.underlying24 rfl ty24 rfl (fun w' h => by obtain rfl := h; exact (by first | exact (hs.bk 0 rfl).cells)) (by first | rfl | (simp; done) | (rw [nums_length]; assumption) | assumption)) ?_
    refine T_go rfl rfl (st_call fn18 rfl ((toBraid_ok n _ xs w2 (hv.keep hs.kp) hl').mono ?_))
    rintro v w3 ⟨u, rfl, hn⟩
    have hs := hs.newI hn
    refine T_go rfl rfl (st_call fn60 rfl ((specPlat_ok n _ xs w3 (hs.oi 0 rfl).ri hl hw).mono ?_))
    rintro v w4 ⟨rfl, hk4⟩
    have hs := hs.next hk4
    refine T_pu rfl rfl (pu_move rfl) ?_
    refine T_pu rfl rfl (pu_extract rfl rfl) ?_
    refine T_pu rfl rfl (pu_extract rfl rfl) ?_
    refine T_pu rfl rfl (pu_assign rfl) ?_
    refine T_pu rfl rfl (pu_assign rfl) ?_
    refine T_nil ?_
    refine W_seq ?_
    refine W_reg ?_
    refine T_pi rfl rfl (pi_loadAgg Try.underlying24 rfl ty24 rfl (fun w' h => by obtain rfl := h; exact (by first | exact (hs.bk 1 rfl).cells)) (by first | rfl | (simp; done) | (rw [nums_length]; assumption) | assumption)) ?_
    refine T_go rfl rfl (st_call fn18 rfl ((toBraid_ok n _ xs w4 (hv.keep hs.kp) hl').mono ?_))
    rintro v w5 ⟨u2, rfl, hn⟩
    obtain ⟨A2, c2, rfl, _⟩ := hn.1.ri.open
    have hs := hs.newI hn
    refine T_go rfl rfl (st_allocS hs ty28 fun w6 b6 hk6 hb6 hs => ?_)
    refine T_goN rfl (st_storeBs hs 0 rfl ty28 rfl rfl rfl (by simp [Value.cells, Value.oneCell']) (by first | exact Nat.le_of_ble_eq_true rfl | omega | (simp; done) | (simp; omega)) fun w7 hk7 hs => ?_)
    refine T_nil ?_
    refine W_seq ?_
    refine W_reg ?_
    refine T_pi rfl rfl (pi_loadAgg Try.underlying28 rfl ty28 rfl (fun w' h => by obtain rfl := h; exact (by first | exact (hs.bk 0 rfl).cells)) (by first | rfl | (simp; done) | (rw [nums_length]; assumption) | assumption)) ?_
    refine T_go rfl rfl (st_call fn61 rfl ((implPlat_ok n _ xs w7 (hs.oi 1 rfl).ri hl).mono ?_))
    rintro v w8 ⟨rfl, hk8⟩
    have hs := hs.next hk8
    refine T_pu rfl rfl (pu_move rfl) ?_
    refine T_pu rfl rfl (pu_extract rfl rfl) ?_
    refine T_pu rfl rfl (pu_extract rfl rfl) ?_
    refine T_pu rfl rfl (pu_assign rfl) ?_
    refine T_pu rfl rfl (pu_assign rfl) ?_
    refine T_nil ?_
    refine W_seq ?_
    refine W_seq ?_
    refine W_reg ?_
    refine T_pu rfl rfl (pu_move rfl) ?_
    refine T_pu rfl rfl (pu_move rfl) ?_
    refine T_pu rfl rfl (pu_neq rfl rfl) ?_
    refine T_if rfl rfl (pu_move rfl) (fun hg8_3 => ?_) (fun hg8_3 => ?_)
    · refine T_no rfl rfl ?_
      refine T_no rfl rfl ?_
      refine T_no rfl rfl ?_
      refine T_pu rfl rfl (pu_pick_t rfl rfl) ?_
      refine T_nil ?_
      refine W_true rfl ?_
      refine W_seq ?_
      refine W_reg ?_
      refine T_pu rfl rfl (pu_assign rfl) ?_
      refine T_nil ?_
      refine W_ret ?_
      exfalso; simp_all
    · refine T_pu rfl rfl (pu_move rfl) ?_
      refine T_pu rfl rfl (pu_move rfl) ?_
      refine T_pu rfl rfl (pu_neq rfl rfl) ?_
      refine T_pu rfl rfl (pu_pick_f rfl rfl) ?_
      refine T_nil ?_
      refine W_if rfl (fun hc8 => ?_) (fun hc8 => ?_)
      · refine W_seq ?_
        refine W_reg ?_
        refine T_pu rfl rfl (pu_assign rfl) ?_
        refine T_nil ?_
        refine W_ret ?_
        exfalso; simp_all
      · refine W_skip ?_
        refine W_seq ?_
        refine W_seq ?_
        refine W_draw mixed 1000 IK (fun w9 hk9 => ?_)
        have hs := hs.next hk9
        refine D_pu 0 (by kernel_rfl) rfl (by kernel_rfl) (by kernel_rfl) rfl rfl (by kernel_rfl) (pi_loadAgg Try.underlying28 rfl ty28 rfl (fun w' h => by obtain ⟨_, h⟩ := h; exact h.cells (by first | exact (hs.bk 0 rfl).cells | exact (hs.bk 3 rfl).cells) id) (by first | rfl | (simp; done) | (rw [nums_length]; assumption) | assumption)) ?_
        refine D_pu 1 (by kernel_rfl) rfl (by kernel_rfl) (by kernel_rfl) rfl rfl (by kernel_rfl) (pi_loadAgg Try.underlying24 rfl ty24 rfl (fun w' h => by obtain ⟨_, h⟩ := h; exact h.cells (by first | exact (hs.bk 0 rfl).cells | exact (hs.bk 3 rfl).cells) id) (by first | rfl | (simp; done) | (rw [nums_length]; assumption) | assumption)) ?_
        refine D_go 2 (by kernel_rfl) (by first | rfl | (intro _; rfl) | (intro h; exact absurd (show true = false from h) (by decide)) | exact Kp.refl _ _ | assumption) rfl rfl rfl (st_call fn18 rfl ((toBraid_ok n _ xs _ (hv.keep hs.kp) hl').mono ?_))
        rintro v w10 ⟨u3, rfl, hn⟩
        have hkA : Kp no w9 w10 := hn.2.1
        have hs := hs.newI hn
        refine D_go 3 (by kernel_rfl) (by first | rfl | (intro _; rfl) | (intro h; exact absurd (show true = false from h) (by decide)) | exact Kp.refl _ _ | assumption) rfl rfl rfl (st_call fn20 rfl ((eqBraid_ok n n _ _ xs xs w10 (hs.oi 2 rfl).ri (hs.oi 0 rfl).ri hl hl).mono ?_))
        rintro v w11 ⟨rfl, hk11⟩
        have hkB : Kp no w9 w11 := hkA.next hk11
        have hs := hs.next hk11
        refine D_pu 4 (by kernel_rfl) rfl (by kernel_rfl) (by kernel_rfl) rfl rfl (by kernel_rfl) (Pu.stable (pu_notp rfl)) ?_
        refine D_done (by kernel_rfl) (by first | rfl | (intro _; rfl) | (intro h; exact absurd (show true = false from h) (by decide)) | exact Kp.refl _ _ | assumption) ?_
        refine W_if rfl (fun hc10 => ?_) (fun hc10 => ?_)
        · refine W_seq ?_
          refine W_reg ?_
          refine T_pu rfl rfl (pu_assign rfl) ?_
          refine T_nil ?_
          refine W_ret ?_
          exfalso; simp_all
        · refine W_skip ?_
          refine W_seq ?_
          refine W_reg ?_
          refine T_pu rfl rfl (pu_assign rfl) ?_
          refine T_nil ?_
          refine W_ret ?_
          exact Res_1 rfl rfl ⟨rfl, hs.kp⟩
end Go.Proofs.Ytdpbfdjpeofbmaa.L
