/- The components of a closure: the reference's numbers, the program's lists. -/
import Derived.Test.YtdpbfdjpeofbmaaD6
import Derived.Test.YtdpbfdjpeofbmaaL14
namespace Go.Proofs.Ytdpbfdjpeofbmaa.L
set_option linter.unusedVariables false
set_option maxRecDepth 100000

theorem endsF_ok {n : Nat} (hn : 1 ≤ n) (xs : List Int) : (endsF n xs).length = n ∧ InN n (endsF n xs) := endsTo_ok _ n hn n (Nat.le_refl _)
set_option maxHeartbeats 8000000 in
theorem l11Components_ok (n : Nat) (hn : 1 ≤ n ∧ n ≤ 8) (v : Value) (xs : List Int) (w : World) (hv : RI w v xs) (hl : xs.length ≤ 200) (hL : ∀ l ∈ xs, Lt n l) :
    CallsR Try.prog 132 #[.int .i64 n, v] w fun r w' => r = .tuple #[.agg (nums .i64 (compS (endsF n xs) n).wh).toArray, .int .i64 (compS (endsF n xs) n).cnt] ∧ Kp no w w' := by
  obtain ⟨A, c, rfl, hc⟩ := hv.open
  have hs := St.start w
  have he := endsF_ok hn.1 xs
  refine fn_calls Try.func132 rfl rfl rfl ?_
  refine W_seq ?_
  refine W_reg ?_
  refine T_go rfl rfl (st_allocS hs ty73 fun w1 b1 hk1 hb1 hs => ?_)
  refine T_pu rfl rfl (pu_assign rfl) ?_
  refine T_nil ?_
  refine W_seq ?_
  refine W_reg ?_
  refine T_pu rfl rfl (pu_move rfl) ?_
  refine T_pu rfl rfl (pu_move rfl) ?_
  refine T_go rfl rfl (st_call fn117 rfl ((l01Perm_ok n hn _ xs _ (hv.keep hs.kp) (by omega) hL).mono ?_))
  rintro v w2 ⟨rfl, hk2⟩
  have hs := hs.next hk2
  generalize endsF n xs = e at he ⊢
  have hpe := pad_length (m := 8) (xs := e) (by omega)
  refine T_pu rfl rfl (pu_build (v := .agg (nums .i64 (List.replicate 8 0)).toArray) (vs := []) (parts := []) rfl (fun _ => by kernel_rfl)) ?_
  refine T_go rfl rfl (st_allocS hs ty107 fun w3 b3 hk3 hb3 hs => ?_)
  refine T_go rfl rfl (st_allocS hs ty73 fun w4 b4 hk4 hb4 hs => ?_)
  refine T_goN rfl (st_storeW hs 1 rfl ty107 rfl rfl (by first | rfl | (simp; done) | assumption) (by first | rfl | (simp; done) | assumption) fun w5 hk5 hs => ?_)
  refine T_goN rfl (st_storeW hs 0 rfl ty73 rfl rfl (by first | rfl | (simp; done) | assumption) (by first | rfl | (simp; done) | assumption) fun w6 hk6 hs => ?_)
  refine T_pu rfl rfl (pu_assign rfl) ?_
  refine T_nil ?_
  refine W_seq ?_
  refine W_seq ?_
  refine W_reg ?_
  refine T_pu rfl rfl (pu_assign rfl) ?_
  refine T_nil ?_
  refine W_block ?_
  refine W_loop (σ := Nat) (fun k => [(0, .int .i64 n), (4, .pointer (some ⟨b1, 0, none⟩)), (6, .pointer (some ⟨b3, 0, none⟩)), (7, .pointer (some ⟨b4, 0, none⟩)), (8, .int .i64 0), (9, .int .i64 k)]) (fun k w' => k ≤ 8 ∧ ∃ cs, cs.length = 8 ∧ St no w [aBk b4 73 (nums .i64 (mixL (List.replicate 8 (-1)) (List.replicate 8 0) k)), aBk b3 107 (nums .u8 (pad 8 e)), aBk b1 73 cs] w') (fun k => 8 - k) 0 ?_ ?_ ?_
  · exact .cons rfl (.cons rfl (.cons rfl (.cons rfl (.cons rfl (.cons rfl (.nil _))))))
  · exact ⟨Nat.zero_le _, _, by rfl, hs⟩
  repeat clear hs
  rintro k w7 ⟨hk8, cs, hcs, hs⟩
  have hml : (mixL (List.replicate 8 (-1)) (List.replicate 8 0) k).length = 8 := mixL_length (by simp) (by simpa using hk8)
  refine W_seq ?_
  refine W_seq ?_
  refine W_reg ?_
  refine T_pu rfl rfl (pu_move rfl) ?_
  refine T_pu rfl rfl (pu_lss rfl rfl) ?_
  refine T_nil ?_
  refine W_if rfl (fun hc3 => ?_) (fun hc3 => ?_)
  · refine W_skip ?_
    refine W_seq ?_
    refine W_block ?_
    refine W_reg ?_
    refine T_pu rfl rfl (pu_move rfl) ?_
    refine T_pu rfl rfl (pu_ixA Try.underlying73 ty2 rfl rfl (by omega) (by omega)) ?_
    refine T_goN rfl (st_storeN hs 0 rfl ty2 rfl rfl k (by omega) (by omega) fun w8 hk8' hs => ?_)
    have hr1 : rd (List.replicate 8 (-1)) (k : Int) = -1 := by unfold rd; rw [Int.toNat_natCast, List.getD_eq_getElem?_getD, List.getElem?_replicate, if_pos (by omega)]; rfl
    have hst := mixL_set (a := List.replicate 8 (-1)) (b := List.replicate 8 0) (x := k) (by simp) (by simp; omega)
    rw [hr1] at hst
    rw [hst] at hs
    simp only [List.set_cons_zero] at hs
    refine T_nil ?_
    refine W_reg ?_
    refine T_pu rfl rfl (pu_move rfl) ?_
    refine T_pu rfl rfl (pu_add64 rfl rfl (by omega)) ?_
    refine T_pu rfl rfl (pu_assign rfl) ?_
    refine T_nil ?_
    exact ⟨k + 1, .cons rfl (.cons rfl (.cons rfl (.cons rfl (.cons rfl (.cons rfl (.nil _)))))), ⟨by omega, cs, hcs, hs⟩, by omega⟩
  · obtain rfl : k = 8 := by omega
    refine W_exit rfl ?_
    refine W_seq ?_
    refine W_seq ?_
    refine W_reg ?_
    refine T_pu rfl rfl (pu_assign rfl) ?_
    refine T_nil ?_
    refine W_block ?_
    refine W_loop (σ := Nat) (fun k => [(0, .int .i64 n), (4, .pointer (some ⟨b1, 0, none⟩)), (6, .pointer (some ⟨b3, 0, none⟩)), (7, .pointer (some ⟨b4, 0, none⟩)), (8, .int .i64 (compS e k).cnt), (10, .int .i64 k)]) (fun k w' => k ≤ n ∧ St no w [aBk b4 73 (nums .i64 (compS e k).wh), aBk b3 107 (nums .u8 (pad 8 e)), aBk b1 73 cs] w') (fun k => n - k) 0 ?_ ?_ ?_
    · exact .cons rfl (.cons rfl (.cons rfl (.cons rfl (.cons rfl (.cons rfl (.nil _))))))
    · exact ⟨Nat.zero_le _, hs⟩
    repeat clear hs
    rintro k w9 ⟨hkn, hs⟩
    obtain ⟨hC, hCk⟩ := compS_ok hn.2 he k hkn
    have hwl := hC.len
    have hsucc : compS e (k + 1) = if rd (compS e k).wh k < 0 then ⟨(travF e (compS e k).cnt (compS e k).wh k).1, (compS e k).cnt + 1, (compS e k).ls ++ [(travF e (compS e k).cnt (compS e k).wh k).2]⟩ else compS e k := rfl
    refine W_seq ?_
    refine W_seq ?_
    refine W_reg ?_
    refine T_pu rfl rfl (pu_move rfl) ?_
    refine T_pu rfl rfl (pu_move rfl) ?_
    refine T_pu rfl rfl (pu_lss rfl rfl) ?_
    refine T_nil ?_
    refine W_if rfl (fun hc7 => ?_) (fun hc7 => ?_)
    · refine W_skip ?_
      refine W_seq ?_
      refine W_block ?_
      refine W_seq ?_
      refine W_seq ?_
      refine W_reg ?_
      refine T_pu rfl rfl (pu_move rfl) ?_
      refine T_pu rfl rfl (pu_ixA Try.underlying73 ty2 rfl rfl (by omega) (by omega)) ?_
      refine T_pi rfl rfl (pi_load Try.underlying2 rfl rfl (fun w' h => by obtain rfl := h; exact (by first | exact (hs.bk 0 rfl).at1 (by omega) (by omega)))) ?_
      refine T_pu rfl rfl (pu_geq rfl rfl) ?_
      refine T_nil ?_
      refine W_if rfl (fun hc9 => ?_) (fun hc9 => ?_)
      · rw [if_neg (by omega)] at hsucc
        refine W_exit rfl ?_
        refine W_reg ?_
        refine T_pu rfl rfl (pu_move rfl) ?_
        refine T_pu rfl rfl (pu_add64 rfl rfl (by omega)) ?_
        refine T_pu rfl rfl (pu_assign rfl) ?_
        refine T_nil ?_
        first
          | exact ⟨k + 1, .cons rfl (.cons rfl (.cons rfl (.cons rfl (.cons (by rw [hsucc]; rfl) (.cons rfl (.nil _)))))), ⟨by omega, by rw [hsucc]; exact hs⟩, by omega⟩
          | exact ⟨k + 1, .cons rfl (.cons rfl (.cons rfl (.cons rfl (.cons (by rw [hsucc]; show some (Value.int .i64 _) = some (Value.int .i64 _); congr 2) (.cons rfl (.nil _)))))), ⟨by omega, by rw [hsucc]; exact hs⟩, by omega⟩
      · rw [if_pos (by omega)] at hsucc
        refine W_skip ?_
        refine W_seq ?_
        refine W_seq ?_
        refine W_reg ?_
        refine T_pu rfl rfl (pu_move rfl) ?_
        refine T_pu rfl rfl (pu_assign rfl) ?_
        refine T_nil ?_
        refine W_block ?_
        refine W_loop (σ := List Int × Int) (fun s => [(0, .int .i64 n), (4, .pointer (some ⟨b1, 0, none⟩)), (6, .pointer (some ⟨b3, 0, none⟩)), (7, .pointer (some ⟨b4, 0, none⟩)), (8, .int .i64 (compS e k).cnt), (10, .int .i64 k), (11, .int .i64 s.2)]) (fun s w' => s.1.length = 8 ∧ (0 ≤ s.2 ∧ s.2 < n) ∧ (travF e (compS e k).cnt s.1 s.2).1 = (travF e (compS e k).cnt (compS e k).wh k).1 ∧ St no w [aBk b4 73 (nums .i64 s.1), aBk b3 107 (nums .u8 (pad 8 e)), aBk b1 73 cs] w') (fun s => neg s.1) ((compS e k).wh, (k : Int)) ?_ ?_ ?_
        · exact .cons rfl (.cons rfl (.cons rfl (.cons rfl (.cons rfl (.cons rfl (.cons rfl (.nil _)))))))
        · exact ⟨hwl, ⟨by show (0 : Int) ≤ k; omega, by show (k : Int) < n; omega⟩, rfl, hs⟩
        repeat clear hs
        rintro ⟨wh, y⟩ w10 ⟨hwl2, hy, htr, hs⟩
        dsimp only at hwl2 hy htr hs ⊢
        refine W_seq ?_
        refine W_seq ?_
        refine W_reg ?_
        refine T_pu rfl rfl (pu_move rfl) ?_
        refine T_pu rfl rfl (pu_ixA Try.underlying73 ty2 rfl rfl (by omega) (by omega)) ?_
        refine T_pi rfl rfl (pi_load Try.underlying2 rfl rfl (fun w' h => by obtain rfl := h; exact (by first | exact (hs.bk 0 rfl).at1 (by omega) (by omega)))) ?_
        refine T_pu rfl rfl (pu_lss rfl rfl) ?_
        refine T_nil ?_
        refine W_if rfl (fun hc11 => ?_) (fun hc11 => ?_)
        · refine W_skip ?_
          refine W_seq ?_
          refine W_block ?_
          refine W_reg ?_
          refine T_pu rfl rfl (pu_move rfl) ?_
          refine T_pu rfl rfl (pu_move rfl) ?_
          refine T_pu rfl rfl (pu_ixA Try.underlying73 ty2 rfl rfl (by omega) (by omega)) ?_
          refine T_goN rfl (st_storeN hs 0 rfl ty2 rfl rfl y.toNat (by omega) (by omega) fun w11 hk11 hs => ?_)
          simp only [List.set_cons_zero] at hs
          rw [travF_step hy.1 (by omega) (by omega) (by omega)] at htr
          have hng := neg_set (wh := wh) (y := y) (c := ((compS e k).cnt : Int)) hy.1 (by omega) (by omega) (by omega)
          have hre := he.2.rd (i := y) hy.1 (by omega)
          refine T_nil ?_
          have hcy := (hs.bk 1 rfl).at1 (i := y) (by omega) (by omega)
          rw [pad_rd] at hcy
          refine W_reg ?_
          refine T_pu rfl rfl (pu_move rfl) ?_
          refine T_pu rfl rfl (pu_ixA Try.underlying107 ty5 rfl rfl (by omega) (by omega)) ?_
          refine T_pi rfl rfl (pi_load Try.underlying5 rfl rfl (fun w' h => by obtain rfl := h; exact (by first | exact hcy))) ?_
          refine T_pu rfl rfl (pu_conv Try.underlying5 Try.underlying2 rfl) ?_
          refine T_pu rfl rfl (pu_assign rfl) ?_
          refine T_nil ?_
          exact ⟨(wh.set y.toNat (compS e k).cnt, rd e y), .cons rfl (.cons rfl (.cons rfl (.cons rfl (.cons rfl (.cons rfl (.cons (by show some (Value.int .i64 _) = some (Value.int .i64 _); rw [i64_small (by omega)]) (.nil _))))))), ⟨by simpa using hwl2, hre, htr, hs⟩, by show neg (wh.set y.toNat _) < neg wh; omega⟩
        · refine W_exit rfl ?_
          rw [travF_stop (by omega)] at htr
          change wh = _ at htr
          rw [← htr] at hsucc
          refine W_reg ?_
          refine T_pu rfl rfl (pu_move rfl) ?_
          refine T_pu rfl rfl (pu_add64 rfl rfl (by omega)) ?_
          refine T_pu rfl rfl (pu_assign rfl) ?_
          refine T_nil ?_
          refine W_reg ?_
          refine T_pu rfl rfl (pu_move rfl) ?_
          refine T_pu rfl rfl (pu_add64 rfl rfl (by omega)) ?_
          refine T_pu rfl rfl (pu_assign rfl) ?_
          refine T_nil ?_
          first
            | exact ⟨k + 1, .cons rfl (.cons rfl (.cons rfl (.cons rfl (.cons (by rw [hsucc]; rfl) (.cons rfl (.nil _)))))), ⟨by omega, by rw [hsucc]; exact hs⟩, by omega⟩
            | exact ⟨k + 1, .cons rfl (.cons rfl (.cons rfl (.cons rfl (.cons (by rw [hsucc]; show some (Value.int .i64 _) = some (Value.int .i64 _); congr 2) (.cons rfl (.nil _)))))), ⟨by omega, by rw [hsucc]; exact hs⟩, by omega⟩
    · refine W_exit rfl ?_
      refine W_seq ?_
      have hwl3 := hwl
      refine W_reg ?_
      refine T_pi rfl rfl (pi_loadAgg Try.underlying73 rfl ty73 rfl (fun w' h => by obtain rfl := h; exact (by first | exact (hs.bk 0 rfl).cells)) (by first | rfl | (simp; done) | (rw [nums_length]; assumption) | assumption)) ?_
      refine T_pu rfl rfl (pu_move rfl) ?_
      refine T_goN rfl (st_storeW hs 2 rfl ty73 rfl rfl (by first | rfl | (simp; done) | assumption) (by first | rfl | (simp; done) | assumption) fun w12 hk12 hs => ?_)
      refine T_pu rfl rfl (pu_assign rfl) ?_
      refine T_nil ?_
      refine W_ret ?_
      obtain rfl : k = n := by omega
      exact Res_r2 rfl (rv_cell Try.underlying73 rfl ty73 rfl (hs.bk 2 rfl) (by rw [nums_length, hwl])) (.tmp rfl) ⟨rfl, hs.kp⟩
end Go.Proofs.Ytdpbfdjpeofbmaa.L
