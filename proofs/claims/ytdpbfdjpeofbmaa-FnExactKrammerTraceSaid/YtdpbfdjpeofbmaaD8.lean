/- The components of a closure, listed by the program. -/
import Derived.Test.YtdpbfdjpeofbmaaD7
namespace Go.Proofs.Ytdpbfdjpeofbmaa.L
set_option linter.unusedVariables false
set_option maxRecDepth 100000

def seenV (wh : List Int) (n : Nat) : List Value := (List.range n).map fun i : Nat => .bool (decide (0 ≤ rd wh i))
theorem seenV_length (wh : List Int) (n : Nat) : (seenV wh n).length = n := by simp [seenV]
theorem seenV_get {wh : List Int} {n : Nat} {i : Int} (h0 : 0 ≤ i) (h : i < n) : (seenV wh n)[i.toNat]? = some (.bool (decide (0 ≤ rd wh i))) := by
  unfold seenV
  rw [List.getElem?_map, List.getElem?_range (by omega)]
  simp only [Option.map_some]
  rw [show ((i.toNat : Nat) : Int) = i by omega]
theorem seenV_set {wh : List Int} {n : Nat} {y c : Int} (h0 : 0 ≤ y) (h1 : y < n) (h2 : n ≤ wh.length) (hc : 0 ≤ c) : (seenV wh n).set y.toNat (.bool true) = seenV (wh.set y.toNat c) n := by
  refine List.ext_getElem? fun i => ?_
  rw [List.getElem?_set, seenV_length]
  by_cases hi : i < n
  · have e := seenV_get (wh := wh) (n := n) (i := (i : Int)) (by omega) (by omega)
    have e2 := seenV_get (wh := wh.set y.toNat c) (n := n) (i := (i : Int)) (by omega) (by omega)
    rw [Int.toNat_natCast] at e e2
    rw [e, e2, rd_set]
    by_cases h : y.toNat = i
    · rw [if_pos h, if_pos (by omega), if_pos ⟨by omega, by omega⟩]
      simp [hc]
    · rw [if_neg h, if_neg (by omega)]
  · rw [List.getElem?_eq_none (by rw [seenV_length]; omega), List.getElem?_eq_none (by rw [seenV_length]; omega)]
    split
    · rw [if_neg (by omega)]
    · rfl
theorem seenV_none {n : Nat} (hn : n ≤ 8) : List.replicate n (Value.bool false) = seenV (List.replicate 8 (-1)) n := by
  refine List.ext_getElem? fun i => ?_
  by_cases hi : i < n
  · have e := seenV_get (wh := List.replicate 8 (-1)) (n := n) (i := (i : Int)) (by omega) (by omega)
    rw [Int.toNat_natCast] at e
    have hr : rd (List.replicate 8 (-1)) (i : Int) = -1 := by unfold rd; rw [Int.toNat_natCast, List.getD_eq_getElem?_getD, List.getElem?_replicate, if_pos (by omega)]; rfl
    rw [e, hr, List.getElem?_replicate, if_pos hi]
    rfl
  · rw [List.getElem?_eq_none (by simp; omega), List.getElem?_eq_none (by rw [seenV_length]; omega)]
theorem cls_length (wh : List Int) (n : Nat) (i : Int) : (cls wh n i).length ≤ n := by
  have := List.length_filter_le (fun x => decide (rd wh x = i)) (iota n)
  rwa [iota_length] at this
theorem compS_ls {e : List Int} {n k : Nat} (hn : n ≤ 8) (he : e.length = n ∧ InN n e) (hk : k < n) (hneg : rd (compS e k).wh k < 0) : (travF e (compS e k).cnt (compS e k).wh k).2.length ≤ n := by
  obtain ⟨h, _⟩ := compS_ok hn he (k + 1) (by omega)
  obtain ⟨h0, _⟩ := compS_ok hn he k (by omega)
  have hsucc : compS e (k + 1) = if rd (compS e k).wh k < 0 then ⟨(travF e (compS e k).cnt (compS e k).wh k).1, (compS e k).cnt + 1, (compS e k).ls ++ [(travF e (compS e k).cnt (compS e k).wh k).2]⟩ else compS e k := rfl
  rw [if_pos hneg] at hsucc
  have hc := h.cl (compS e k).cnt (by rw [hsucc]; show _ < _ + 1; omega)
  rw [hsucc] at hc
  have e1 : rr ((compS e k).ls ++ [(travF e (compS e k).cnt (compS e k).wh k).2]) ((compS e k).cnt : Int) = (travF e (compS e k).cnt (compS e k).wh k).2 := by
    have := rr_append_end (a := (compS e k).ls) (x := (travF e (compS e k).cnt (compS e k).wh k).2)
    rwa [h0.lsl] at this
  have e2 := hc.length_eq
  dsimp only at e2
  rw [e1] at e2
  rw [e2]
  exact cls_length _ _ _
/-- Rows that are the lists, each in some order. -/
def PermL (Ls ls : List (List Int)) : Prop := Ls.length = ls.length ∧ ∀ i : Nat, i < ls.length → (rr Ls i).Perm (rr ls i)
theorem PermL.snoc {Ls ls : List (List Int)} {a b : List Int} (h : PermL Ls ls) (hab : a.Perm b) : PermL (Ls ++ [a]) (ls ++ [b]) := by
  refine ⟨by simp [h.1], fun i hi => ?_⟩
  by_cases hlt : i < ls.length
  · rw [rr_append_left hlt, rr_append_left (by have := h.1; omega)]
    exact h.2 i hlt
  · obtain rfl : i = ls.length := by simp at hi; omega
    rw [rr_append_end, ← h.1, rr_append_end]
    exact hab
set_option maxHeartbeats 8000000 in
theorem componentsOf_ok (n : Nat) (hn : 1 ≤ n ∧ n ≤ 8) (u : Value) (xs : List Int) (w : World) (hv : RI w u xs) (hl : xs.length ≤ 200) (hL : ∀ l ∈ xs, Lt n l) :
    CallsR Try.prog 133 #[.agg #[.int .i64 n, u]] w fun r w' => ∃ Ls, PermL Ls (compS (endsF n xs) n).ls ∧ NewM w w' r Ls := by
  obtain ⟨A, c, rfl, hc⟩ := hv.open
  have hs := St.start w
  have he := endsF_ok hn.1 xs
  have hends := fun w hv => endsOf_ok n hn (.slice A xs.length c) xs w hv (by omega) hL
  generalize endsF n xs = e at he hends ⊢
  refine fn_calls Try.func133 rfl rfl rfl ?_
  refine W_seq ?_
  refine W_reg ?_
  refine T_go rfl rfl (st_boxS hs rfl fun w1 b1 hk1 hb1 hs => ?_)
  refine T_pu rfl rfl (pu_assign rfl) ?_
  refine T_nil ?_
  refine W_cut (σ := Value × Nat) (fun s => [(1, .pointer (some ⟨b1, 0, none⟩)), (3, s.1), (4, .slice (some ⟨s.2, 0, none⟩) n n)]) (fun s w' => St no w [aOw 4 1 (.slice (some ⟨s.2, 0, none⟩) n n) n (seenV (List.replicate 8 (-1)) n), aOI s.1 e, aBk b1 28 [.int .i64 n, .slice A xs.length c]] w') ?_ ?_
  · refine W_draw mixed 1000 IK (fun wd hkd => ?_)
    have hs := hs.next hkd
    have hsd := hs
    refine D_pu 0 (by kernel_rfl) rfl (by kernel_rfl) (by kernel_rfl) rfl rfl (by kernel_rfl) (pi_loadAgg Try.underlying28 rfl ty28 rfl (fun w' h => by obtain ⟨_, h⟩ := h; exact h.cells (by first | exact (hsd.bk 0 rfl).cells | exact (hsd.bk 0 rfl).cell rfl) id) (by first | rfl | (simp; done) | (rw [nums_length]; assumption) | assumption)) ?_
    refine D_pu 2 (by kernel_rfl) rfl (by kernel_rfl) (by kernel_rfl) rfl rfl (by kernel_rfl) (Pu.stable (pu_fld (off := 0) Try.underlying28 rfl rfl ty2 rfl rfl)) ?_
    refine D_pu 3 (by kernel_rfl) rfl (by kernel_rfl) (by kernel_rfl) rfl rfl (by kernel_rfl) (pi_load Try.underlying2 rfl rfl (fun w' h => by obtain ⟨_, h⟩ := h; exact h.cell (by first | exact (hsd.bk 0 rfl).cells | exact (hsd.bk 0 rfl).cell rfl) id)) ?_
    refine D_two 1 4 (by kernel_rfl) (by first | rfl | (intro _; rfl) | (intro h; exact absurd (show true = false from h) (by decide)) | exact Kp.refl _ _ | assumption) ?_ ?_
    · refine DNext_go rfl rfl rfl (st_call fn166 rfl ((hends _ (hv.keep hs.kp)).mono ?_))
      rintro v w2 hn2
      have hkA : Kp no wd w2 := by first | exact hn2.2.1 | exact hkA.next hn2.2.1
      have hs := hs.newI hn2
      refine D_pu 5 (by kernel_rfl) rfl (by kernel_rfl) (by kernel_rfl) rfl rfl (by kernel_rfl) (Pu.stable (pu_assign rfl)) ?_
      refine D_go 4 (by kernel_rfl) (by first | rfl | (intro _; rfl) | (intro h; exact absurd (show true = false from h) (by decide)) | exact Kp.refl _ _ | assumption) rfl rfl rfl (st_makeOw hs Try.underlying153 ty4 rfl rfl rfl (by omega) (by omega) fun w3 b3 hk3 hb3 hs => ?_)
      have hkA : Kp no wd w3 := by first | exact hk3 | exact hkA.next hk3
      rw [seenV_none hn.2] at hs
      refine D_pu 6 (by kernel_rfl) rfl (by kernel_rfl) (by kernel_rfl) rfl rfl (by kernel_rfl) (Pu.stable (pu_assign rfl)) ?_
      refine D_done (by kernel_rfl) (by first | rfl | (intro _; rfl) | (intro h; exact absurd (show true = false from h) (by decide)) | exact Kp.refl _ _ | assumption) ?_
      first
        | exact ⟨(v, b3), .cons rfl (.cons rfl (.cons rfl (.nil _))), hs⟩
        | exact ⟨(v, b3), .cons rfl (.cons rfl (.cons rfl (.nil _))), hs.front 1 rfl⟩
    · refine DNext_go rfl rfl rfl (st_makeOw hs Try.underlying153 ty4 rfl rfl rfl (by omega) (by omega) fun w3 b3 hk3 hb3 hs => ?_)
      have hkA : Kp no wd w3 := by first | exact hk3 | exact hkA.next hk3
      rw [seenV_none hn.2] at hs
      refine D_go 1 (by kernel_rfl) (by first | rfl | (intro _; rfl) | (intro h; exact absurd (show true = false from h) (by decide)) | exact Kp.refl _ _ | assumption) rfl rfl rfl (st_call fn166 rfl ((hends _ (hv.keep hs.kp)).mono ?_))
      rintro v w2 hn2
      have hkA : Kp no wd w2 := by first | exact hn2.2.1 | exact hkA.next hn2.2.1
      have hs := hs.newI hn2
      refine D_pu 5 (by kernel_rfl) rfl (by kernel_rfl) (by kernel_rfl) rfl rfl (by kernel_rfl) (Pu.stable (pu_assign rfl)) ?_
      refine D_pu 6 (by kernel_rfl) rfl (by kernel_rfl) (by kernel_rfl) rfl rfl (by kernel_rfl) (Pu.stable (pu_assign rfl)) ?_
      refine D_done (by kernel_rfl) (by first | rfl | (intro _; rfl) | (intro h; exact absurd (show true = false from h) (by decide)) | exact Kp.refl _ _ | assumption) ?_
      first
        | exact ⟨(v, b3), .cons rfl (.cons rfl (.cons rfl (.nil _))), hs⟩
        | exact ⟨(v, b3), .cons rfl (.cons rfl (.cons rfl (.nil _))), hs.front 1 rfl⟩
  · rintro ⟨ue, b3⟩ w4 hs4
    repeat clear hs
    have hs := hs4
    clear hs4
    dsimp only at hs ⊢
    refine W_seq ?_
    refine W_reg ?_
    refine T_go rfl rfl (st_litM hs (fun _ => by kernel_rfl) fun w5 b5 hk5 hb5 hs => ?_)
    refine T_pu rfl rfl (pu_assign rfl) ?_
    refine T_nil ?_
    refine W_seq ?_
    refine W_seq ?_
    refine W_reg ?_
    refine T_pu rfl rfl (pu_fld (off := 0) Try.underlying28 rfl rfl ty2 rfl rfl) ?_
    refine T_pi rfl rfl (pi_load Try.underlying2 rfl rfl (fun w' h => by obtain rfl := h; exact (by first | exact (hs.bk 3 rfl).cell rfl))) ?_
    refine T_pu rfl rfl (pu_move rfl) ?_
    refine T_nil ?_
    refine W_block ?_
    refine W_loop (σ := Nat × Value) (fun s => [(3, ue), (4, .slice (some ⟨b3, 0, none⟩) n n), (5, s.2), (16, .int .i64 n), (17, .int .i64 s.1)]) (fun s w' => s.1 ≤ n ∧ ∃ hds Ls, PermL Ls (compS e s.1).ls ∧ St no w [aMat s.2 hds Ls, aOw 4 1 (.slice (some ⟨b3, 0, none⟩) n n) n (seenV (compS e s.1).wh n), aOI ue e] w') (fun s => n - s.1) (0, .slice (some ⟨b5, 0, none⟩) 0 0) ?_ ?_ ?_
    · exact .cons rfl (.cons rfl (.cons rfl (.cons rfl (.cons rfl (.nil _)))))
    · exact ⟨Nat.zero_le _, [], [], ⟨rfl, fun i h => by simp [compS] at h⟩, hs.drop 3⟩
    repeat clear hs
    rintro ⟨k, um⟩ w6 ⟨hkn, hds, Ls, hPL, hs⟩
    dsimp only at hkn hPL hs ⊢
    obtain ⟨hC, hCk⟩ := compS_ok hn.2 he k hkn
    have hwl := hC.len
    have hlsl := hC.lsl
    have hPl := hPL.1
    have hsucc : compS e (k + 1) = if rd (compS e k).wh k < 0 then ⟨(travF e (compS e k).cnt (compS e k).wh k).1, (compS e k).cnt + 1, (compS e k).ls ++ [(travF e (compS e k).cnt (compS e k).wh k).2]⟩ else compS e k := rfl
    refine W_seq ?_
    refine W_reg ?_
    refine T_pu rfl rfl (pu_lss rfl rfl) ?_
    refine T_nil ?_
    refine W_seq ?_
    refine W_if rfl (fun hc4 => ?_) (fun hc4 => ?_)
    · refine W_skip ?_
      refine W_seq ?_
      refine W_block ?_
      refine W_seq ?_
      refine W_reg ?_
      refine T_pu rfl rfl (pu_move rfl) ?_
      refine T_pu rfl rfl (pu_assign rfl) ?_
      refine T_nil ?_
      refine W_seq ?_
      refine W_seq ?_
      refine W_reg ?_
      refine T_pu rfl rfl (pu_move rfl) ?_
      refine T_pu rfl rfl (pu_move rfl) ?_
      refine T_pu rfl rfl ((by first | exact pu_ix1 Try.underlying153 ty4 rfl rfl (by omega) (by omega) | exact pu_index Try.underlying153 ty4 rfl rfl (by omega) (by omega))) ?_
      refine T_pi rfl rfl (pi_load Try.underlying4 rfl rfl (fun w' h => by obtain rfl := h; exact (by first | exact (hs.owv 1 rfl).at1 (seenV_get (by omega) (by omega))))) ?_
      refine T_nil ?_
      refine W_if rfl (fun hc6 => ?_) (fun hc6 => ?_)
      · rw [if_neg (by omega)] at hsucc
        refine W_exit rfl ?_
        refine W_reg ?_
        refine T_pu rfl rfl (pu_add64 rfl rfl (by omega)) ?_
        refine T_pu rfl rfl (pu_move rfl) ?_
        refine T_nil ?_
        first
          | exact ⟨(k + 1, um), .cons rfl (.cons rfl (.cons rfl (.cons rfl (.cons rfl (.nil _))))), ⟨by show k + 1 ≤ n; omega, hds, Ls, by rw [hsucc]; exact hPL, by rw [hsucc]; exact hs⟩, by show n - (k + 1) < n - k; omega⟩
          | exact ⟨(k + 1, u''), .cons rfl (.cons rfl (.cons rfl (.cons rfl (.cons rfl (.nil _))))), ⟨by show k + 1 ≤ n; omega, _, _, by rw [hsucc]; exact hPL.snoc hpm, by rw [hsucc]; exact hs⟩, by show n - (k + 1) < n - k; omega⟩
      · rw [if_pos (by omega)] at hsucc
        have hT2 := compS_ls hn.2 he (k := k) (by omega) (by omega)
        refine W_skip ?_
        refine W_seq ?_
        refine W_reg ?_
        refine T_go rfl rfl (st_litI hs [] rfl (fun _ => by kernel_rfl) rfl rfl fun w7 b7 hk7 hb7 hs => ?_)
        refine T_pu rfl rfl (pu_assign rfl) ?_
        refine T_nil ?_
        refine W_seq ?_
        refine W_seq ?_
        refine W_reg ?_
        refine T_pu rfl rfl (pu_move rfl) ?_
        refine T_pu rfl rfl (pu_assign rfl) ?_
        refine T_nil ?_
        refine W_block ?_
        refine W_loop (σ := List Int × Int × Value × List Int) (fun s => [(3, ue), (4, .slice (some ⟨b3, 0, none⟩) n n), (5, um), (16, .int .i64 n), (17, .int .i64 k), (7, s.2.2.1), (8, .int .i64 s.2.1)]) (fun s w' => s.1.length = 8 ∧ (0 ≤ s.2.1 ∧ s.2.1 < n) ∧ (travF e (compS e k).cnt s.1 s.2.1).1 = (travF e (compS e k).cnt (compS e k).wh k).1 ∧ s.2.2.2 ++ (travF e (compS e k).cnt s.1 s.2.1).2 = (travF e (compS e k).cnt (compS e k).wh k).2 ∧ St no w [aOI s.2.2.1 s.2.2.2, aMat um hds Ls, aOw 4 1 (.slice (some ⟨b3, 0, none⟩) n n) n (seenV s.1 n), aOI ue e] w') (fun s => neg s.1) ((compS e k).wh, (k : Int), .slice (some ⟨b7, 0, none⟩) 0 0, []) ?_ ?_ ?_
        · exact .cons rfl (.cons rfl (.cons rfl (.cons rfl (.cons rfl (.cons rfl (.cons rfl (.nil _)))))))
        · exact ⟨hwl, ⟨by show (0 : Int) ≤ k; omega, by show (k : Int) < n; omega⟩, rfl, rfl, hs⟩
        repeat clear hs
        rintro ⟨wh, y, uz, zs⟩ w10 ⟨hwl2, hy, htr, htr2, hs⟩
        dsimp only at hwl2 hy htr htr2 hs ⊢
        refine W_seq ?_
        refine W_seq ?_
        refine W_reg ?_
        refine T_pu rfl rfl (pu_move rfl) ?_
        refine T_pu rfl rfl (pu_move rfl) ?_
        refine T_pu rfl rfl ((by first | exact pu_ix1 Try.underlying153 ty4 rfl rfl (by omega) (by omega) | exact pu_index Try.underlying153 ty4 rfl rfl (by omega) (by omega))) ?_
        refine T_pi rfl rfl (pi_load Try.underlying4 rfl rfl (fun w' h => by obtain rfl := h; exact (by first | exact (hs.owv 2 rfl).at1 (seenV_get hy.1 hy.2)))) ?_
        refine T_pu rfl rfl (pu_notp rfl) ?_
        refine T_nil ?_
        refine W_if rfl (fun hc9 => ?_) (fun hc9 => ?_)
        · refine W_skip ?_
          refine W_seq ?_
          refine W_block ?_
          refine W_seq ?_
          refine W_reg ?_
          refine T_pu rfl rfl (pu_move rfl) ?_
          refine T_pu rfl rfl (pu_move rfl) ?_
          refine T_pu rfl rfl ((by first | exact pu_ix1 Try.underlying153 ty4 rfl rfl (by omega) (by omega) | exact pu_index Try.underlying153 ty4 rfl rfl (by omega) (by omega))) ?_
          refine T_goN rfl (st_storeOw hs 2 rfl ty4 rfl rfl rfl y.toNat (by omega) (by rw [seenV_length]; omega) fun w11 hk11 hs => ?_)
          rw [seenV_set (c := ((compS e k).cnt : Int)) hy.1 hy.2 (by omega) (by omega)] at hs
          simp only [List.set_cons_zero, List.set_cons_succ] at hs
          rw [travF_step hy.1 (by omega) (by omega) (by omega)] at htr htr2
          have hng := neg_set (wh := wh) (y := y) (c := ((compS e k).cnt : Int)) hy.1 (by omega) (by omega) (by omega)
          have hre := he.2.rd (i := y) hy.1 (by omega)
          have hzl : zs.length + 1 ≤ n := by
            have := congrArg List.length htr2
            simp only [List.length_append, List.length_cons] at this
            omega
          rw [List.append_cons] at htr2
          refine T_nil ?_
          refine W_reg ?_
          refine T_pu rfl rfl (pu_move rfl) ?_
          refine T_pu rfl rfl (pu_move rfl) ?_
          refine T_go rfl rfl (st_litI hs [y] rfl (fun _ => by kernel_rfl) rfl rfl fun w12 b12 hk12 hb12 hs => ?_)
          refine T_go rfl rfl (st_appendI hs 1 rfl Try.underlying22 ty2 rfl rfl ((hs.oi 0 rfl).ri) (by show zs.length + 1 ≤ _; omega) fun u' w13 hs hk13 hf13 => ?_)
          have hs := hs.tail
          refine T_pu rfl rfl (pu_assign rfl) ?_
          refine T_nil ?_
          obtain ⟨a', hue⟩ : ∃ a' c', ue = .slice (some a') n c' := by
            obtain ⟨B, cB, rfl, _⟩ := (hs.oi 3 rfl).ri.open
            obtain ⟨a', rfl⟩ := (hs.oi 3 rfl).ri.addr (i := y) hy.1 (by omega)
            exact ⟨a', cB, by rw [he.1]⟩
          obtain ⟨c', rfl⟩ := hue
          have hcy := (hs.oi 3 rfl).ri.at (i := y) hy.1 (by omega)
          refine W_reg ?_
          refine T_pu rfl rfl (pu_move rfl) ?_
          refine T_pu rfl rfl (pu_move rfl) ?_
          refine T_pu rfl rfl ((by first | exact pu_ix1 Try.underlying22 ty2 rfl rfl (by omega) (by omega) | exact pu_index Try.underlying22 ty2 rfl rfl (by omega) (by omega))) ?_
          refine T_pi rfl rfl (pi_load Try.underlying2 rfl rfl (fun w' h => by obtain rfl := h; exact (by first | exact hcy))) ?_
          refine T_pu rfl rfl (pu_assign rfl) ?_
          refine T_nil ?_
          exact ⟨(wh.set y.toNat (compS e k).cnt, rd e y, u', zs ++ [y]), .cons rfl (.cons rfl (.cons rfl (.cons rfl (.cons rfl (.cons rfl (.cons rfl (.nil _))))))), ⟨by simpa using hwl2, hre, htr, htr2, hs⟩, by show neg (wh.set y.toNat _) < neg wh; omega⟩
        · refine W_exit rfl ?_
          refine W_seq ?_
          rw [travF_stop (by omega)] at htr htr2
          change wh = _ at htr
          change zs ++ [] = _ at htr2
          rw [List.append_nil] at htr2
          rw [← htr, ← htr2] at hsucc
          rw [← htr2] at hT2
          refine W_reg ?_
          refine T_pu rfl rfl (pu_move rfl) ?_
          refine T_go rfl rfl (st_call fn167 rfl ((sortInts_ok _ zs _ (hs.oi 0 rfl) (by omega)).mono ?_))
          rintro q w14 ⟨ys, hk14, hO14, hpm, _⟩
          have hs := hs.upd 0 rfl hk14 (aOI _ _) hO14 (fun b h => .inl h)
          simp only [List.set_cons_zero] at hs
          obtain ⟨B, cB, rfl, _⟩ := (hs.oi 0 rfl).ri.open
          have hs := hs.front 1 rfl
          refine T_nil ?_
          refine W_reg ?_
          refine T_pu rfl rfl (pu_move rfl) ?_
          refine T_pu rfl rfl (pu_move rfl) ?_
          refine T_go rfl rfl (st_litR hs rfl (fun _ => by kernel_rfl) fun w15 b15 hk15 hb15 hs hU => ?_)
          refine T_go rfl rfl (st_appendM (by' := 0) hs Try.underlying32 ty22 rfl rfl hU rfl (by omega) fun u'' w16 hs hk16 hf16 => ?_)
          refine T_pu rfl rfl (pu_assign rfl) ?_
          refine T_nil ?_
          refine W_reg ?_
          refine T_pu rfl rfl (pu_add64 rfl rfl (by omega)) ?_
          refine T_pu rfl rfl (pu_move rfl) ?_
          refine T_nil ?_
          first
            | exact ⟨(k + 1, um), .cons rfl (.cons rfl (.cons rfl (.cons rfl (.cons rfl (.nil _))))), ⟨by show k + 1 ≤ n; omega, hds, Ls, by rw [hsucc]; exact hPL, by rw [hsucc]; exact hs⟩, by show n - (k + 1) < n - k; omega⟩
            | exact ⟨(k + 1, u''), .cons rfl (.cons rfl (.cons rfl (.cons rfl (.cons rfl (.nil _))))), ⟨by show k + 1 ≤ n; omega, _, _, by rw [hsucc]; exact hPL.snoc hpm, by rw [hsucc]; exact hs⟩, by show n - (k + 1) < n - k; omega⟩
    · refine W_exit rfl ?_
      refine W_seq ?_
      refine W_reg ?_
      refine T_pu rfl rfl (pu_move rfl) ?_
      refine T_pu rfl rfl (pu_assign rfl) ?_
      refine T_nil ?_
      refine W_ret ?_
      obtain rfl : k = n := by omega
      exact Res_1 rfl rfl ⟨Ls, hPL, hs.isNewM 0 rfl⟩
end Go.Proofs.Ytdpbfdjpeofbmaa.L
