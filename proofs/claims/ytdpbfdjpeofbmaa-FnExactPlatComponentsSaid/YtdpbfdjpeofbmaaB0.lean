/- The laws' own functions: sizes, copies, comparisons of lists of numbers and of braids. -/
import Derived.Test.YtdpbfdjpeofbmaaA0
namespace Go.Proofs.Ytdpbfdjpeofbmaa.L
set_option linter.unusedVariables false
set_option maxRecDepth 100000

theorem szInt64S_ok (v : Value) (xs : List Int) (left : Int) (w : World) (hv : RI w v xs) (hl : xs.length ≤ 9223372036854775807) (h0 : 0 ≤ left ∧ left ≤ 1048576) :
    CallsR Try.prog 66 #[v, .int .i64 left] w fun r w' => r = .int .i64 (if left - xs.length < 0 then -1 else left - xs.length) ∧ w = w' := by
  obtain ⟨A, c, rfl, hc⟩ := hv.open
  refine fn_calls Try.func66 rfl rfl rfl ?_
  refine W_seq ?_
  refine W_reg ?_
  refine T_pu rfl rfl (pu_assign rfl) ?_
  refine T_nil ?_
  refine W_seq ?_
  refine W_reg ?_
  refine T_pu rfl rfl (pu_move rfl) ?_
  refine T_pu rfl rfl (pu_move rfl) ?_
  refine T_pu rfl rfl (pu_len Try.underlying22 rfl) ?_
  refine T_pu rfl rfl (pu_sub64 rfl rfl (by omega)) ?_
  refine T_pu rfl rfl (pu_assign rfl) ?_
  refine T_nil ?_
  refine W_seq ?_
  refine W_seq ?_
  refine W_reg ?_
  refine T_pu rfl rfl (pu_move rfl) ?_
  refine T_pu rfl rfl (pu_lss rfl rfl) ?_
  refine T_nil ?_
  refine W_if rfl (fun hc2 => ?_) (fun hc2 => ?_)
  · refine W_seq ?_
    refine W_reg ?_
    refine T_pu rfl rfl (pu_assign rfl) ?_
    refine T_nil ?_
    refine W_ret ?_
    exact Res_1 rfl rfl ⟨by rw [if_pos hc2], rfl⟩
  · refine W_skip ?_
    refine W_seq ?_
    refine W_reg ?_
    refine T_pu rfl rfl (pu_move rfl) ?_
    refine T_pu rfl rfl (pu_assign rfl) ?_
    refine T_nil ?_
    refine W_ret ?_
    exact Res_1 rfl rfl ⟨by rw [if_neg hc2], rfl⟩
theorem szBraid_ok (n : Int) (v : Value) (xs : List Int) (left : Int) (w : World) (hv : RI w v xs) (hl : xs.length ≤ 9223372036854775807) (h0 : 0 ≤ left ∧ left ≤ 1048576) :
    CallsR Try.prog 16 #[.agg #[.int .i64 n, v], .int .i64 left] w fun r w' => r = .int .i64 (if left - xs.length < 0 then -1 else left - xs.length) ∧ Kp no w w' := by
  obtain ⟨A, c, rfl, hc⟩ := hv.open
  refine fn_calls Try.func16 rfl rfl rfl ?_
  refine W_seq ?_
  refine W_reg ?_
  refine T_go rfl rfl (st_box rfl fun w1 b1 hk1 hb1 hB1 => ?_)
  have hv := hv.keep hk1
  refine T_pu rfl rfl (pu_assign rfl) ?_
  refine T_nil ?_
  refine W_seq ?_
  refine W_reg ?_
  refine T_pu rfl rfl (pu_fld (off := 1) Try.underlying24 rfl rfl ty22 rfl rfl) ?_
  refine T_pi rfl rfl (pi_load Try.underlying22 rfl rfl (fun w' h => by obtain rfl := h; exact (by first | exact hB1.cell rfl))) ?_
  refine T_pu rfl rfl (pu_move rfl) ?_
  refine T_go rfl rfl (st_call fn66 rfl ((szInt64S_ok _ xs left w1 hv hl h0).mono ?_))
  rintro v w' ⟨rfl, rfl⟩
  refine T_pu rfl rfl (pu_assign rfl) ?_
  refine T_nil ?_
  refine W_seq ?_
  refine W_seq ?_
  refine W_reg ?_
  refine T_pu rfl rfl (pu_move rfl) ?_
  refine T_pu rfl rfl (pu_lss rfl rfl) ?_
  refine T_nil ?_
  refine W_if rfl (fun hc2 => ?_) (fun hc2 => ?_)
  · refine W_seq ?_
    refine W_reg ?_
    refine T_pu rfl rfl (pu_assign rfl) ?_
    refine T_nil ?_
    refine W_ret ?_
    exact Res_1 rfl rfl ⟨by split at hc2 <;> simp_all, hk1⟩
  · refine W_skip ?_
    refine W_seq ?_
    refine W_reg ?_
    refine T_pu rfl rfl (pu_move rfl) ?_
    refine T_pu rfl rfl (pu_assign rfl) ?_
    refine T_nil ?_
    refine W_ret ?_
    exact Res_1 rfl rfl ⟨rfl, hk1⟩
theorem set_fill (xs : List Int) (k : Nat) (hk : k < xs.length) : (xs.take k ++ List.replicate (xs.length - k) 0).set k (rd xs k) = xs.take (k + 1) ++ List.replicate (xs.length - (k + 1)) 0 := by
  apply List.ext_getElem?
  intro i
  have hkk : (xs.take k).length = k := by simp; omega
  rw [List.getElem?_set]
  simp only [List.length_append, List.length_take, List.length_replicate]
  by_cases h : k = i
  · subst h
    rw [if_pos rfl, if_pos (by omega), List.getElem?_append_left (by simp; omega), List.getElem?_take, if_pos (by omega)]
    simp [rd, List.getD_eq_getElem?_getD, hk]
  · rw [if_neg h]
    by_cases h2 : i < k
    · rw [List.getElem?_append_left (by omega), List.getElem?_append_left (by simp; omega), List.getElem?_take, List.getElem?_take, if_pos h2, if_pos (by omega)]
    · rw [List.getElem?_append_right (by omega), List.getElem?_append_right (by simp; omega)]
      simp only [List.length_take, List.getElem?_replicate]
      by_cases h3 : i < xs.length
      · rw [if_pos (by omega), if_pos (by omega)]
      · rw [if_neg (by omega), if_neg (by omega)]
theorem madeInt (n : Nat) : (madeCells (Value.int .i64 0).cells (n * 1)).toList = nums .i64 (List.replicate n 0) := by
  rw [Nat.mul_one]
  show (madeCells #[Value.int .i64 0] n).toList = _
  rw [toList_madeCells_one]
  simp [nums]
theorem toInt64S_ok (v : Value) (xs : List Int) (w : World) (hv : RI w v xs) (hl : xs.length ≤ 1048576) :
    CallsR Try.prog 71 #[v] w fun r w' => NewI w w' r xs := by
  obtain ⟨A, c, rfl, hc⟩ := hv.open
  refine fn_calls Try.func71 rfl rfl rfl ?_
  refine W_seq ?_
  refine W_reg ?_
  refine T_pu rfl rfl (pu_assign rfl) ?_
  refine T_nil ?_
  refine W_seq ?_
  refine W_reg ?_
  refine T_pu rfl rfl (pu_move rfl) ?_
  refine T_pu rfl rfl (pu_len Try.underlying22 rfl) ?_
  refine T_go rfl rfl (st_makeSlice Try.underlying22 ty2 rfl rfl (by omega) (by simp only [maxLen]; omega) fun b w1 hb hk1 hO => ?_)
  rw [madeInt] at hO
  have hs : St no w [aOI (.slice (some ⟨b, 0, none⟩) xs.length xs.length) (xs.take 0 ++ List.replicate (xs.length - 0) 0)] w1 := (St.start w).new hk1 (aOI _ _) (by show Ow _ _ _ _ _ _; simpa using hO) (fun x hx => by cases hx; exact ⟨hb, Ow.lt hO rfl⟩)
  refine T_pu rfl rfl (pu_assign rfl) ?_
  refine T_nil ?_
  refine W_seq ?_
  refine W_seq ?_
  refine W_reg ?_
  refine T_pu rfl rfl (pu_assign rfl) ?_
  refine T_nil ?_
  refine W_block ?_
  refine W_loop (σ := Nat) (fun k => [(0, .slice A xs.length c), (3, .slice (some ⟨b, 0, none⟩) xs.length xs.length), (4, .int .i64 k)]) (fun k w' => k ≤ xs.length ∧ St no w [aOI (.slice (some ⟨b, 0, none⟩) xs.length xs.length) (xs.take k ++ List.replicate (xs.length - k) 0)] w') (fun k => xs.length - k) 0 ?_ ?_ ?_
  · exact .cons rfl (.cons rfl (.cons rfl (.nil _)))
  · exact ⟨Nat.zero_le _, hs⟩
  rintro k w2 ⟨hkl, hs2⟩
  have hv2 := hv.keep hs2.kp
  refine W_seq ?_
  refine W_seq ?_
  refine W_reg ?_
  refine T_pu rfl rfl (pu_move rfl) ?_
  refine T_pu rfl rfl (pu_move rfl) ?_
  refine T_pu rfl rfl (pu_len Try.underlying22 rfl) ?_
  refine T_pu rfl rfl (pu_lss rfl rfl) ?_
  refine T_nil ?_
  refine W_if rfl (fun hc3 => ?_) (fun hc3 => ?_)
  · refine W_skip ?_
    refine W_seq ?_
    refine W_block ?_
    obtain ⟨a, rfl⟩ := hv2.addr (i := k) (by omega) (by omega)
    have hO2 : OI w2 _ _ := hs2.get 0 rfl
    have hlen : (xs.take k ++ List.replicate (xs.length - k) 0).length = xs.length := by simp; omega
    refine W_reg ?_
    refine T_pu rfl rfl (pu_move rfl) ?_
    refine T_pu rfl rfl (pu_move rfl) ?_
    refine T_pu rfl rfl (pu_move rfl) ?_
    refine T_pu rfl rfl (pu_move rfl) ?_
    refine T_pu rfl rfl ((by first | exact pu_ix1 Try.underlying22 ty2 rfl rfl (by omega) (by omega) | exact pu_index Try.underlying22 ty2 rfl rfl (by omega) (by omega))) ?_
    refine T_pi rfl rfl (pi_load Try.underlying2 rfl rfl (fun w' h => by obtain rfl := h; exact (by first | exact hv2.at (by omega) (by omega)))) ?_
    refine T_pu rfl rfl ((by first | exact pu_ix1 Try.underlying22 ty2 rfl rfl (by omega) (by omega) | exact pu_index Try.underlying22 ty2 rfl rfl (by omega) (by omega))) ?_
    refine T_goN rfl (st_storeI hs2 0 rfl ty2 rfl rfl (by omega) (by first | omega | (simp; omega)) fun w3 hk3 hs3 => ?_)
    simp only [List.set_cons_zero, Int.toNat_natCast, set_fill xs k (by omega)] at hs3
    refine T_nil ?_
    refine W_reg ?_
    refine T_pu rfl rfl (pu_move rfl) ?_
    refine T_pu rfl rfl (pu_add64 rfl rfl (by omega)) ?_
    refine T_pu rfl rfl (pu_assign rfl) ?_
    refine T_nil ?_
    exact ⟨k + 1, .cons rfl (.cons rfl (.cons rfl (.nil _))), ⟨by omega, hs3⟩, by omega⟩
  · refine W_exit rfl ?_
    refine W_seq ?_
    refine W_reg ?_
    refine T_pu rfl rfl (pu_move rfl) ?_
    refine T_pu rfl rfl (pu_assign rfl) ?_
    refine T_nil ?_
    refine W_ret ?_
    obtain rfl : k = xs.length := by omega
    have hO2 : OI w2 _ _ := hs2.get 0 rfl
    refine Res_1 rfl rfl ⟨?_, hs2.kp, ?_⟩
    · simpa using hO2
    · intro x hx
      cases hx
      exact ⟨hb, OI.lt hO2 rfl⟩
theorem rd_ext {xs ys : List Int} (hl : xs.length = ys.length) (h : ∀ i : Nat, i < xs.length → rd xs i = rd ys i) : xs = ys := by
  apply List.ext_getElem hl
  intro i h1 h2
  have := h i h1
  unfold rd at this
  rwa [Int.toNat_natCast, List.getD_eq_getElem?_getD, List.getElem?_eq_getElem h1, List.getD_eq_getElem?_getD, List.getElem?_eq_getElem h2] at this
theorem toBraid_ok (n : Int) (v : Value) (xs : List Int) (w : World) (hv : RI w v xs) (hl : xs.length ≤ 1048576) :
    CallsR Try.prog 18 #[.agg #[.int .i64 n, v]] w fun r w' => ∃ u, r = .agg #[.int .i64 n, u] ∧ NewI w w' u xs := by
  obtain ⟨A, c, rfl, hc⟩ := hv.open
  have hs := St.start w
  refine fn_calls Try.func18 rfl rfl rfl ?_
  refine W_seq ?_
  refine W_reg ?_
  refine T_go rfl rfl (st_boxS hs rfl fun w1 b1 hk1 hb1 hs => ?_)
  refine T_go rfl rfl (st_allocS hs ty28 fun w2 b2 hk2 hb2 hs => ?_)
  refine T_nil ?_
  refine W_seq ?_
  refine W_reg ?_
  refine T_go rfl rfl (st_allocS hs ty28 fun w3 b3 hk3 hb3 hs => ?_)
  refine T_nil ?_
  refine W_seq ?_
  refine W_reg ?_
  refine T_pu rfl rfl (pu_fld (off := 0) Try.underlying24 rfl rfl ty2 rfl rfl) ?_
  refine T_pi rfl rfl (pi_load Try.underlying2 rfl rfl (fun w' h => by obtain rfl := h; exact (by first | exact (hs.bk 2 rfl).cell rfl))) ?_
  refine T_pu rfl rfl (pu_fld (off := 0) Try.underlying28 rfl rfl ty2 rfl rfl) ?_
  refine T_goN rfl (st_storeB hs 0 rfl ty2 rfl rfl rfl (by first | exact Nat.le_of_ble_eq_true rfl | omega | (simp; done) | (simp; omega)) fun w4 hk4 hs => ?_)
  refine T_nil ?_
  refine W_seq ?_
  refine W_reg ?_
  refine T_pu rfl rfl (pu_fld (off := 1) Try.underlying24 rfl rfl ty22 rfl rfl) ?_
  refine T_pi rfl rfl (pi_load Try.underlying22 rfl rfl (fun w' h => by obtain rfl := h; exact (by first | exact (hs.bk 2 rfl).cell rfl))) ?_
  refine T_go rfl rfl (st_call fn71 rfl ((toInt64S_ok _ xs w4 (hv.keep hs.kp) hl).mono ?_))
  rintro r w5 hn
  have hs := hs.newI hn
  obtain ⟨A', c', rfl, hc'⟩ := hn.1.ri.open
  refine T_pu rfl rfl (pu_fld (off := 1) Try.underlying28 rfl rfl ty22 rfl rfl) ?_
  refine T_goN rfl (st_storeB hs 1 rfl ty22 rfl rfl rfl (by first | exact Nat.le_of_ble_eq_true rfl | omega | (simp; done) | (simp; omega)) fun w6 hk6 hs => ?_)
  refine T_nil ?_
  refine W_seq ?_
  refine W_reg ?_
  refine T_pi rfl rfl (pi_loadAgg Try.underlying28 rfl ty28 rfl (fun w' h => by obtain rfl := h; exact (by first | exact (hs.bk 1 rfl).cells)) (by first | rfl | (simp; done))) ?_
  refine T_goN rfl (st_storeBs hs 2 rfl ty28 rfl rfl rfl (by simp [Value.cells, Value.oneCell']) (by first | exact Nat.le_of_ble_eq_true rfl | omega | (simp; done) | (simp; omega)) fun w7 hk7 hs => ?_)
  refine T_nil ?_
  refine W_ret ?_
  exact Res_r1 rfl (rv_cell Try.underlying28 rfl ty28 rfl (hs.bk 2 rfl) rfl) ⟨_, rfl, hs.isNewI 0 rfl⟩
theorem eqInt64S_ok (v u : Value) (xs ys : List Int) (w : World) (hv : RI w v xs) (hu : RI w u ys) (hl : xs.length ≤ 9223372036854775807) (hl' : ys.length ≤ 9223372036854775807) :
    CallsR Try.prog 76 #[v, u] w fun r w' => r = .bool (decide (xs = ys)) ∧ Kp no w w' := by
  obtain ⟨A, c, rfl, hc⟩ := hv.open
  obtain ⟨B, c', rfl, hc'⟩ := hu.open
  refine fn_calls Try.func76 rfl rfl rfl ?_
  refine W_seq ?_
  refine W_reg ?_
  refine T_pu rfl rfl (pu_assign rfl) ?_
  refine T_nil ?_
  refine W_seq ?_
  refine W_seq ?_
  refine W_reg ?_
  refine T_pu rfl rfl (pu_move rfl) ?_
  refine T_pu rfl rfl (pu_len Try.underlying22 rfl) ?_
  refine T_pu rfl rfl (pu_move rfl) ?_
  refine T_pu rfl rfl (pu_len Try.underlying22 rfl) ?_
  refine T_pu rfl rfl (pu_neq rfl rfl) ?_
  refine T_nil ?_
  refine W_if rfl (fun hc1 => ?_) (fun hc1 => ?_)
  · refine W_seq ?_
    refine W_reg ?_
    refine T_pu rfl rfl (pu_assign rfl) ?_
    refine T_nil ?_
    refine W_ret ?_
    refine Res_1 rfl rfl ⟨?_, Kp.refl _ _⟩
    congr 1
    exact (decide_eq_false (fun e => hc1 (by rw [e]))).symm
  · refine W_skip ?_
    refine W_seq ?_
    refine W_seq ?_
    have hll : xs.length = ys.length := by omega
    refine W_reg ?_
    refine T_pu rfl rfl (pu_assign rfl) ?_
    refine T_nil ?_
    refine W_block ?_
    refine W_loop (σ := Nat) (fun k => [(0, .slice A xs.length c), (1, .slice B ys.length c'), (5, .int .i64 k)]) (fun k w' => k ≤ xs.length ∧ Kp no w w' ∧ ∀ i : Nat, i < k → rd xs i = rd ys i) (fun k => xs.length - k) 0 ?_ ?_ ?_
    · exact .cons rfl (.cons rfl (.cons rfl (.nil _)))
    · exact ⟨Nat.zero_le _, Kp.refl _ _, fun i h => by omega⟩
    rintro k w2 ⟨hkl, hk2, hall⟩
    have hv2 := hv.keep hk2
    have hu2 := hu.keep hk2
    refine W_seq ?_
    refine W_seq ?_
    refine W_reg ?_
    refine T_pu rfl rfl (pu_move rfl) ?_
    refine T_pu rfl rfl (pu_move rfl) ?_
    refine T_pu rfl rfl (pu_len Try.underlying22 rfl) ?_
    refine T_pu rfl rfl (pu_lss rfl rfl) ?_
    refine T_nil ?_
    refine W_if rfl (fun hc4 => ?_) (fun hc4 => ?_)
    · refine W_skip ?_
      refine W_seq ?_
      refine W_block ?_
      refine W_seq ?_
      refine W_draw mixed 1000 I0 (fun w3 hk3 => ?_)
      have hv2 := hv2.keep hk3
      have hu2 := hu2.keep hk3
      obtain ⟨a, rfl⟩ := hv2.addr (i := k) (by omega) (by omega)
      obtain ⟨b, rfl⟩ := hu2.addr (i := k) (by omega) (by omega)
      refine D_pu 0 (by kernel_rfl) rfl (by kernel_rfl) (by kernel_rfl) rfl rfl (by kernel_rfl) (Pu.stable (pu_move rfl)) ?_
      refine D_pu 1 (by kernel_rfl) rfl (by kernel_rfl) (by kernel_rfl) rfl rfl (by kernel_rfl) (Pu.stable (pu_move rfl)) ?_
      refine D_pu 2 (by kernel_rfl) rfl (by kernel_rfl) (by kernel_rfl) rfl rfl (by kernel_rfl) (Pu.stable ((by first | exact pu_ix1 Try.underlying22 ty2 rfl rfl (by omega) (by omega) | exact pu_index Try.underlying22 ty2 rfl rfl (by omega) (by omega)))) ?_
      refine D_pu 3 (by kernel_rfl) rfl (by kernel_rfl) (by kernel_rfl) rfl rfl (by kernel_rfl) (pi_load Try.underlying2 rfl rfl (fun w' h => by obtain ⟨_, rfl⟩ := h; exact (by first | exact hv2.at (by omega) (by omega) | exact hu2.at (by omega) (by omega)))) ?_
      refine D_pu 4 (by kernel_rfl) rfl (by kernel_rfl) (by kernel_rfl) rfl rfl (by kernel_rfl) (Pu.stable (pu_move rfl)) ?_
      refine D_pu 5 (by kernel_rfl) rfl (by kernel_rfl) (by kernel_rfl) rfl rfl (by kernel_rfl) (Pu.stable (pu_move rfl)) ?_
      refine D_pu 6 (by kernel_rfl) rfl (by kernel_rfl) (by kernel_rfl) rfl rfl (by kernel_rfl) (Pu.stable ((by first | exact pu_ix1 Try.underlying22 ty2 rfl rfl (by omega) (by omega) | exact pu_index Try.underlying22 ty2 rfl rfl (by omega) (by omega)))) ?_
      refine D_pu 7 (by kernel_rfl) rfl (by kernel_rfl) (by kernel_rfl) rfl rfl (by kernel_rfl) (pi_load Try.underlying2 rfl rfl (fun w' h => by obtain ⟨_, rfl⟩ := h; exact (by first | exact hv2.at (by omega) (by omega) | exact hu2.at (by omega) (by omega)))) ?_
      refine D_pu 8 (by kernel_rfl) rfl (by kernel_rfl) (by kernel_rfl) rfl rfl (by kernel_rfl) (Pu.stable (pu_neq rfl rfl)) ?_
      refine D_done (by kernel_rfl) (by first | rfl | (intro _; rfl) | (intro h; exact absurd (show true = false from h) (by decide)) | exact Kp.refl _ _ | assumption) ?_
      refine W_if rfl (fun hc6 => ?_) (fun hc6 => ?_)
      · refine W_seq ?_
        refine W_reg ?_
        refine T_pu rfl rfl (pu_assign rfl) ?_
        refine T_nil ?_
        refine W_ret ?_
        refine Res_1 rfl rfl ⟨?_, hk2.next hk3⟩
        congr 1
        exact (decide_eq_false (fun e => hc6 (by rw [e]))).symm
      · refine W_skip ?_
        refine W_reg ?_
        refine T_pu rfl rfl (pu_move rfl) ?_
        refine T_pu rfl rfl (pu_add64 rfl rfl (by omega)) ?_
        refine T_pu rfl rfl (pu_assign rfl) ?_
        refine T_nil ?_
        exact ⟨k + 1, .cons rfl (.cons rfl (.cons rfl (.nil _))), ⟨by omega, hk2.next hk3, fun i hi => by
          by_cases e : i = k
          · subst e; exact Decidable.not_not.1 hc6
          · exact hall i (by omega)⟩, by omega⟩
    · refine W_exit rfl ?_
      refine W_seq ?_
      refine W_reg ?_
      refine T_pu rfl rfl (pu_assign rfl) ?_
      refine T_nil ?_
      refine W_ret ?_
      refine Res_1 rfl rfl ⟨?_, hk2⟩
      congr 1
      exact (decide_eq_true (rd_ext hll (fun i hi => hall i (by omega)))).symm
theorem eqBraid_ok (n m : Int) (v u : Value) (xs ys : List Int) (w : World) (hv : RI w v xs) (hu : RI w u ys) (hl : xs.length ≤ 9223372036854775807) (hl' : ys.length ≤ 9223372036854775807) :
    CallsR Try.prog 20 #[.agg #[.int .i64 n, v], .agg #[.int .i64 m, u]] w fun r w' => r = .bool (decide (n = m ∧ xs = ys)) ∧ Kp no w w' := by
  obtain ⟨A, c, rfl, hc⟩ := hv.open
  obtain ⟨B, c', rfl, hc'⟩ := hu.open
  have hs := St.start w
  refine fn_calls Try.func20 rfl rfl rfl ?_
  refine W_seq ?_
  refine W_reg ?_
  refine T_go rfl rfl (st_boxS hs rfl fun w1 b1 hk1 hb1 hs => ?_)
  refine T_go rfl rfl (st_boxS hs rfl fun w2 b2 hk2 hb2 hs => ?_)
  refine T_pu rfl rfl (pu_assign rfl) ?_
  refine T_nil ?_
  refine W_seq ?_
  refine W_seq ?_
  refine W_reg ?_
  refine T_pu rfl rfl (pu_fld (off := 0) Try.underlying28 rfl rfl ty2 rfl rfl) ?_
  refine T_pi rfl rfl (pi_load Try.underlying2 rfl rfl (fun w' h => by obtain rfl := h; exact (by first | exact (hs.bk 0 rfl).cell rfl | exact (hs.bk 1 rfl).cell rfl))) ?_
  refine T_pu rfl rfl (pu_fld (off := 0) Try.underlying28 rfl rfl ty2 rfl rfl) ?_
  refine T_pi rfl rfl (pi_load Try.underlying2 rfl rfl (fun w' h => by obtain rfl := h; exact (by first | exact (hs.bk 0 rfl).cell rfl | exact (hs.bk 1 rfl).cell rfl))) ?_
  refine T_pu rfl rfl (pu_neq rfl rfl) ?_
  refine T_nil ?_
  refine W_if rfl (fun hc1 => ?_) (fun hc1 => ?_)
  · refine W_seq ?_
    refine W_reg ?_
    refine T_pu rfl rfl (pu_assign rfl) ?_
    refine T_nil ?_
    refine W_ret ?_
    refine Res_1 rfl rfl ⟨?_, hs.kp⟩
    congr 1
    exact (decide_eq_false (fun e => hc1 e.1)).symm
  · refine W_skip ?_
    refine W_seq ?_
    refine W_seq ?_
    refine W_reg ?_
    refine T_pu rfl rfl (pu_fld (off := 1) Try.underlying28 rfl rfl ty22 rfl rfl) ?_
    refine T_pi rfl rfl (pi_load Try.underlying22 rfl rfl (fun w' h => by obtain rfl := h; exact (by first | exact (hs.bk 0 rfl).cell rfl | exact (hs.bk 1 rfl).cell rfl))) ?_
    refine T_pu rfl rfl (pu_fld (off := 1) Try.underlying28 rfl rfl ty22 rfl rfl) ?_
    refine T_pi rfl rfl (pi_load Try.underlying22 rfl rfl (fun w' h => by obtain rfl := h; exact (by first | exact (hs.bk 0 rfl).cell rfl | exact (hs.bk 1 rfl).cell rfl))) ?_
    refine T_go rfl rfl (st_call fn76 rfl ((eqInt64S_ok _ _ xs ys w2 (hv.keep hs.kp) (hu.keep hs.kp) hl hl').mono ?_))
    rintro v w3 ⟨rfl, hk3⟩
    refine T_pu rfl rfl (pu_notp rfl) ?_
    refine T_nil ?_
    refine W_if rfl (fun hc3 => ?_) (fun hc3 => ?_)
    · refine W_seq ?_
      refine W_reg ?_
      refine T_pu rfl rfl (pu_assign rfl) ?_
      refine T_nil ?_
      refine W_ret ?_
      refine Res_1 rfl rfl ⟨?_, hs.kp.next hk3⟩
      congr 1
      exact (decide_eq_false (fun e => hc3 e.2)).symm
    · refine W_skip ?_
      refine W_seq ?_
      refine W_reg ?_
      refine T_pu rfl rfl (pu_assign rfl) ?_
      refine T_nil ?_
      refine W_ret ?_
      refine Res_1 rfl rfl ⟨?_, hs.kp.next hk3⟩
      congr 1
      exact (decide_eq_true ⟨Decidable.not_not.1 hc1, Decidable.not_not.1 hc3⟩).symm
end Go.Proofs.Ytdpbfdjpeofbmaa.L
