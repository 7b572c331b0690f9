/- PlatComponents, the program: groups merged, sorted, made compact. -/
import Derived.Test.YtdpbfdjpeofbmaaF1
import Derived.Test.YtdpbfdjpeofbmaaD1
namespace Go.Proofs.Ytdpbfdjpeofbmaa.L
set_option linter.unusedVariables false
set_option maxRecDepth 100000

theorem set_self_rd {xs : List Int} {i : Nat} (h : i < xs.length) : xs.set i (rd xs i) = xs := by
  refine List.ext_getElem? fun j => ?_
  rw [List.getElem?_set]
  by_cases e : i = j
  · subst e; rw [if_pos rfl, if_pos h]; simp [rd, List.getD_eq_getElem?_getD, h]
  · rw [if_neg e]
theorem mixL_keep {a b : List Int} (h : a.length = b.length) {x : Nat} (hx : x < b.length) (he : rd a x = rd b x) : mixL a b (x + 1) = mixL a b x := by
  rw [← mixL_set h hx, he, ← mixL_rd h hx]
  exact set_self_rd (by rw [mixL_length h (by omega)]; exact hx)
set_option maxHeartbeats 8000000 in
theorem merge_ok (v : Value) (g : List Int) (x y : Int) (w : World) (hO : OI w v g) (hl : g.length ≤ 1000) (hx : 0 ≤ x ∧ x < g.length) (hy : 0 ≤ y ∧ y < g.length) :
    CallsR Try.prog 121 #[v, .int .i64 x, .int .i64 y] w fun _ w' => Kp (fun b => v.ownBlock = some b) w w' ∧ OI w' v (mrg g x y) := by
  have hs : St (fun b => v.ownBlock = some b) w [aOI v g] w := St.startF w _ (fun A hA => by simp only [List.mem_singleton] at hA; subst hA; exact ⟨hO, fun b hb => ⟨hb, OI.lt hO hb⟩⟩) (by simp)
  generalize hF : (fun b => v.ownBlock = some b) = F at *
  obtain ⟨A, c, rfl, hc⟩ : ∃ A c, v = .slice (some ⟨A, 0, none⟩) g.length c ∧ g.length ≤ c := by
    rcases hO.open with ⟨_, e⟩ | ⟨b, c, e, h⟩
    · rw [e] at hx; simp at hx; omega
    · exact ⟨b, c, e, h⟩
  have hml := mrg_length g x y
  have hmr := fun (u : Int) h0 h1 => mrg_rd (g := g) (x := x) (y := y) (u := u) h0 h1
  clear hO
  refine fn_calls Try.func121 rfl rfl rfl ?_
  refine W_seq ?_
  refine W_draw mixed 1000 I0 (fun w1 hk1 => ?_)
  have hs := hs.next hk1
  have hcx := (hs.oi 0 rfl).ri.at0 hx.1 hx.2
  have hcy := (hs.oi 0 rfl).ri.at0 hy.1 hy.2
  refine D_pu 0 (by kernel_rfl) rfl (by kernel_rfl) (by kernel_rfl) rfl rfl (by kernel_rfl) (Pu.stable (pu_move rfl)) ?_
  refine D_pu 1 (by kernel_rfl) rfl (by kernel_rfl) (by kernel_rfl) rfl rfl (by kernel_rfl) (Pu.stable (pu_move rfl)) ?_
  refine D_pu 2 (by kernel_rfl) rfl (by kernel_rfl) (by kernel_rfl) rfl rfl (by kernel_rfl) (Pu.stable ((by first | exact pu_ix1 Try.underlying110 ty2 rfl rfl (by omega) (by omega) | exact pu_index Try.underlying110 ty2 rfl rfl (by omega) (by omega)))) ?_
  refine D_pu 3 (by kernel_rfl) rfl (by kernel_rfl) (by kernel_rfl) rfl rfl (by kernel_rfl) (pi_load Try.underlying2 rfl rfl (fun w' h => by obtain ⟨_, rfl⟩ := h; exact (by first | exact hcx | exact hcy))) ?_
  refine D_pu 4 (by kernel_rfl) rfl (by kernel_rfl) (by kernel_rfl) rfl rfl (by kernel_rfl) (Pu.stable (pu_move rfl)) ?_
  refine D_pu 5 (by kernel_rfl) rfl (by kernel_rfl) (by kernel_rfl) rfl rfl (by kernel_rfl) (Pu.stable (pu_move rfl)) ?_
  refine D_pu 6 (by kernel_rfl) rfl (by kernel_rfl) (by kernel_rfl) rfl rfl (by kernel_rfl) (Pu.stable ((by first | exact pu_ix1 Try.underlying110 ty2 rfl rfl (by omega) (by omega) | exact pu_index Try.underlying110 ty2 rfl rfl (by omega) (by omega)))) ?_
  refine D_pu 7 (by kernel_rfl) rfl (by kernel_rfl) (by kernel_rfl) rfl rfl (by kernel_rfl) (pi_load Try.underlying2 rfl rfl (fun w' h => by obtain ⟨_, rfl⟩ := h; exact (by first | exact hcx | exact hcy))) ?_
  refine D_pu 8 (by kernel_rfl) rfl (by kernel_rfl) (by kernel_rfl) rfl rfl (by kernel_rfl) (Pu.stable (pu_min rfl rfl)) ?_
  refine D_pu 9 (by kernel_rfl) rfl (by kernel_rfl) (by kernel_rfl) rfl rfl (by kernel_rfl) (Pu.stable (pu_move rfl)) ?_
  refine D_pu 10 (by kernel_rfl) rfl (by kernel_rfl) (by kernel_rfl) rfl rfl (by kernel_rfl) (Pu.stable (pu_move rfl)) ?_
  refine D_pu 11 (by kernel_rfl) rfl (by kernel_rfl) (by kernel_rfl) rfl rfl (by kernel_rfl) (Pu.stable ((by first | exact pu_ix1 Try.underlying110 ty2 rfl rfl (by omega) (by omega) | exact pu_index Try.underlying110 ty2 rfl rfl (by omega) (by omega)))) ?_
  refine D_pu 12 (by kernel_rfl) rfl (by kernel_rfl) (by kernel_rfl) rfl rfl (by kernel_rfl) (pi_load Try.underlying2 rfl rfl (fun w' h => by obtain ⟨_, rfl⟩ := h; exact (by first | exact hcx | exact hcy))) ?_
  refine D_pu 13 (by kernel_rfl) rfl (by kernel_rfl) (by kernel_rfl) rfl rfl (by kernel_rfl) (Pu.stable (pu_move rfl)) ?_
  refine D_pu 14 (by kernel_rfl) rfl (by kernel_rfl) (by kernel_rfl) rfl rfl (by kernel_rfl) (Pu.stable (pu_move rfl)) ?_
  refine D_pu 15 (by kernel_rfl) rfl (by kernel_rfl) (by kernel_rfl) rfl rfl (by kernel_rfl) (Pu.stable ((by first | exact pu_ix1 Try.underlying110 ty2 rfl rfl (by omega) (by omega) | exact pu_index Try.underlying110 ty2 rfl rfl (by omega) (by omega)))) ?_
  refine D_pu 16 (by kernel_rfl) rfl (by kernel_rfl) (by kernel_rfl) rfl rfl (by kernel_rfl) (pi_load Try.underlying2 rfl rfl (fun w' h => by obtain ⟨_, rfl⟩ := h; exact (by first | exact hcx | exact hcy))) ?_
  refine D_pu 17 (by kernel_rfl) rfl (by kernel_rfl) (by kernel_rfl) rfl rfl (by kernel_rfl) (Pu.stable (pu_max rfl rfl)) ?_
  refine D_pu 18 (by kernel_rfl) rfl (by kernel_rfl) (by kernel_rfl) rfl rfl (by kernel_rfl) (Pu.stable (pu_assign rfl)) ?_
  refine D_pu 19 (by kernel_rfl) rfl (by kernel_rfl) (by kernel_rfl) rfl rfl (by kernel_rfl) (Pu.stable (pu_assign rfl)) ?_
  refine D_done (by kernel_rfl) (by first | rfl | (intro _; rfl) | (intro h; exact absurd (show true = false from h) (by decide)) | exact Kp.refl _ _ | assumption) ?_
  refine W_seq ?_
  refine W_reg ?_
  refine T_pu rfl rfl (pu_move rfl) ?_
  refine T_pu rfl rfl (pu_len Try.underlying110 rfl) ?_
  refine T_pu rfl rfl (pu_move rfl) ?_
  refine T_nil ?_
  refine W_block ?_
  refine W_loop (σ := Nat) (fun i => [(0, .slice (some ⟨A, 0, none⟩) g.length c), (6, .int .i64 (min (rd g x) (rd g y))), (7, .int .i64 (max (rd g x) (rd g y))), (28, .slice (some ⟨A, 0, none⟩) g.length c), (29, .int .i64 g.length), (30, .int .i64 i)]) (fun i w' => i ≤ g.length ∧ St F w [aOI (.slice (some ⟨A, 0, none⟩) g.length c) (mixL (mrg g x y) g i)] w') (fun i => g.length - i) 0 ?_ ?_ ?_
  · exact .cons rfl (.cons rfl (.cons rfl (.cons rfl (.cons rfl (.cons rfl (.nil _))))))
  · exact ⟨Nat.zero_le _, by rw [mixL_zero]; exact hs⟩
  repeat clear hs
  rintro i w2 ⟨hil, hs⟩
  refine W_seq ?_
  refine W_reg ?_
  refine T_pu rfl rfl (pu_lss rfl rfl) ?_
  refine T_nil ?_
  refine W_seq ?_
  refine W_if rfl (fun hc2 => ?_) (fun hc2 => ?_)
  · refine W_skip ?_
    refine W_seq ?_
    refine W_block ?_
    refine W_seq ?_
    have hmxl := mixL_length hml (x := i) hil
    have hci := (hs.oi 0 rfl).ri.at0 (i := i) (by omega) (by omega)
    rw [mixL_rd hml (by omega)] at hci
    have hmi := hmr i (by omega) (by omega)
    have hst := mixL_set hml (x := i) (by omega)
    have hkp := mixL_keep hml (x := i) (by omega)
    refine W_reg ?_
    refine T_pu rfl rfl (pu_move rfl) ?_
    refine T_pu rfl rfl ((by first | exact pu_ix1 Try.underlying110 ty2 rfl rfl (by omega) (by omega) | exact pu_index Try.underlying110 ty2 rfl rfl (by omega) (by omega))) ?_
    refine T_pi rfl rfl (pi_load Try.underlying2 rfl rfl (fun w' h => by obtain rfl := h; exact (by first | exact hci))) ?_
    refine T_pu rfl rfl (pu_assign rfl) ?_
    refine T_pu rfl rfl (pu_assign rfl) ?_
    refine T_nil ?_
    refine W_seq ?_
    refine W_reg ?_
    refine T_pu rfl rfl (pu_move rfl) ?_
    refine T_pu rfl rfl (pu_move rfl) ?_
    refine T_pu rfl rfl (pu_eql rfl rfl) ?_
    refine T_nil ?_
    refine W_if rfl (fun hc4 => ?_) (fun hc4 => ?_)
    · refine W_reg ?_
      refine T_pu rfl rfl (pu_move rfl) ?_
      refine T_pu rfl rfl (pu_move rfl) ?_
      refine T_pu rfl rfl (pu_move rfl) ?_
      refine T_pu rfl rfl ((by first | exact pu_ix1 Try.underlying110 ty2 rfl rfl (by omega) (by omega) | exact pu_index Try.underlying110 ty2 rfl rfl (by omega) (by omega))) ?_
      refine T_goN rfl (st_storeI hs 0 rfl ty2 rfl rfl (by omega) (by first | omega | (simp; omega)) fun w3 hk3 hs => ?_)
      rw [Int.toNat_natCast, ← show rd (mrg g x y) i = min (rd g x) (rd g y) by rw [hmi, if_pos (by assumption)], hst] at hs
      simp only [List.set_cons_zero] at hs
      refine T_nil ?_
      refine W_reg ?_
      refine T_pu rfl rfl (pu_add64 rfl rfl (by omega)) ?_
      refine T_pu rfl rfl (pu_move rfl) ?_
      refine T_nil ?_
      first
        | exact ⟨i + 1, .cons rfl (.cons rfl (.cons rfl (.cons rfl (.cons rfl (.cons rfl (.nil _)))))), ⟨by omega, hs⟩, by omega⟩
        | exact ⟨i + 1, .cons rfl (.cons rfl (.cons rfl (.cons rfl (.cons rfl (.cons rfl (.nil _)))))), ⟨by omega, by rw [hkp (by rw [hmi, if_neg (by assumption)])]; exact hs⟩, by omega⟩
    · refine W_skip ?_
      refine W_reg ?_
      refine T_pu rfl rfl (pu_add64 rfl rfl (by omega)) ?_
      refine T_pu rfl rfl (pu_move rfl) ?_
      refine T_nil ?_
      first
        | exact ⟨i + 1, .cons rfl (.cons rfl (.cons rfl (.cons rfl (.cons rfl (.cons rfl (.nil _)))))), ⟨by omega, hs⟩, by omega⟩
        | exact ⟨i + 1, .cons rfl (.cons rfl (.cons rfl (.cons rfl (.cons rfl (.cons rfl (.nil _)))))), ⟨by omega, by rw [hkp (by rw [hmi, if_neg (by assumption)])]; exact hs⟩, by omega⟩
  · refine W_exit rfl ?_
    obtain rfl : i = g.length := by omega
    rw [mixL_all hml] at hs
    refine Res_0 rfl ⟨hs.kp, ?_⟩
    have h := hs.oi 0 rfl
    unfold OI at h ⊢
    rw [hml] at h ⊢
    exact h
theorem fineGroups_ok (n : Nat) (hn : n ≤ 1000) (w : World) : CallsR Try.prog 118 #[.int .i64 n] w fun r w' => NewI w w' r (iota n) := by
  refine fn_calls Try.func118 rfl rfl rfl ?_
  refine W_seq ?_
  refine W_reg ?_
  refine T_pu rfl rfl (pu_assign rfl) ?_
  refine T_nil ?_
  refine W_seq ?_
  refine W_reg ?_
  refine T_pu rfl rfl (pu_move rfl) ?_
  refine T_go rfl rfl (st_call fn162 rfl ((strandsOf_ok n hn _).mono ?_))
  rintro v w1 hn1
  refine T_pu rfl rfl (pu_assign rfl) ?_
  refine T_nil ?_
  refine W_ret ?_
  exact Res_1 rfl rfl hn1
/-- clear(xs[o:]) of a row of one's own. -/
theorem st_clear {P : Program} {l : Env} {d : Option Tmp} {ty : TypeId} {ps : String} {af : Array Edge} {g : Option (Nat × Bool)} {x : Operand} {t e : TypeId} {b o m c' : Nat} {n c : Nat} {w : World} {vs : List Value} {J : Value → World → Prop} {by' : Nat} {z : Value}
    (ht : P.underlying t = some (.slice e)) (hz : Ty P e 1 by' z) (hz1 : z.cells = #[z]) (hzo : z.oneCell' = true) (hx : ev l x = some (.slice (some ⟨b, o, none⟩) m c')) (hO : Ow w e 1 (.slice (some ⟨b, 0, none⟩) n c) n vs) (hfit : o + m ≤ n)
    (hJ : ∀ w', Kp (fun k => k = b) w w' → J (.tuple #[]) w') : St1 P l ⟨d, .call { callee := .builtin .clear, args := #[x], argTypes := #[t] }, ty, ps, af, g⟩ w J := by
  intro ρ h
  obtain ⟨i, hi, _, _, h0⟩ := hz.out
  rcases hO.2 with ⟨e0, _⟩ | ⟨g', cap, cur, e1, _, hb, hc, hm, hs, htk⟩
  · cases e0
  obtain ⟨rfl, rfl⟩ : b = g' ∧ c = cap := by simpa using e1
  cases m with
  | zero =>
    simp [execOp, resolve, invoke, builtin, h _ _ hx, Builtin.clear_, run_underlying ht, SR]
    exact hJ _ (Kp.refl _ _)
  | succ m =>
    have hzc : (Builtin.zeroCells z.cells (m + 1)).toList.length = m + 1 := by simp [Builtin.zeroCells, hz1]
    have hst := run_storeCells_at P b o e (Builtin.zeroCells z.cells (m + 1)).toList 0 cur w hb (by rw [hzc]; omega) (by
      intro u hu
      simp only [Builtin.zeroCells, hz1] at hu
      simp at hu
      obtain ⟨j, hj, rfl⟩ := hu
      simp [Nat.mod_one, hzo])
    simp only [Nat.add_zero] at hst
    simp [execOp, resolve, invoke, builtin, h _ _ hx, Builtin.clear_, run_underlying ht, zeroValue, typeInfo, hi, h0, hst, SR]
    exact hJ _ Kp.setRow
theorem dcnt_take {xs : List Int} (hs : Srt xs) {m : Nat} (h0 : 1 ≤ m) (h : m < xs.length) : dcnt (xs.take (m + 1)) = dcnt (xs.take m) + if rd xs m = rd xs (m - 1 : Nat) then 0 else 1 := by
  rw [take_rd h, dcnt_snoc]
  congr 1
  by_cases e : rd xs m = rd xs (m - 1 : Nat)
  · rw [if_pos e, if_pos]
    rw [e]
    refine List.mem_iff_getElem?.2 ⟨m - 1, ?_⟩
    rw [List.getElem?_take, if_pos (by omega)]
    simp [rd, List.getD_eq_getElem?_getD, show m - 1 < xs.length by omega]
  · rw [if_neg e, if_neg]
    intro hm
    obtain ⟨i, hi⟩ := List.mem_iff_getElem?.1 hm
    rw [List.getElem?_take] at hi
    split at hi
    · rename_i hlt
      have hxi : rd xs i = rd xs m := by
        have : rd xs i = xs[i]'(by omega) := by unfold rd; simp [List.getD_eq_getElem?_getD, show i < xs.length by omega]
        rw [this]
        rw [List.getElem?_eq_getElem (by omega)] at hi
        exact Option.some.inj hi
      have h1 := hs (m - 1) m (by omega) h
      by_cases e2 : i = m - 1
      · subst e2; exact e hxi.symm
      · have h2 := hs i (m - 1) (by omega) (by omega)
        omega
    · cases hi
theorem dcnt_le (xs : List Int) : dcnt xs ≤ xs.length := by
  induction xs with
  | nil => simp [dcnt]
  | cons x xs ih => simp only [dcnt, List.length_cons]; split <;> omega
set_option maxHeartbeats 8000000 in
theorem compact_ok (v : Value) (xs : List Int) (w : World) (hO : OI w v xs) (hl : xs.length ≤ 1000) (hsr : Srt xs) :
    CallsR Try.prog 123 #[v] w fun r w' => (∃ A c, r = .slice A (dcnt xs) c) ∧ Kp (fun b => v.ownBlock = some b) w w' := by
  have hs : St (fun b => v.ownBlock = some b) w [aOI v xs] w := St.startF w _ (fun A hA => by simp only [List.mem_singleton] at hA; subst hA; exact ⟨hO, fun b hb => ⟨hb, OI.lt hO hb⟩⟩) (by simp)
  obtain ⟨A0, c, rfl, hc⟩ := hO.ri.open
  refine fn_calls Try.func123 rfl rfl rfl ?_
  refine W_seq ?_
  refine W_reg ?_
  refine T_pu rfl rfl (pu_assign rfl) ?_
  refine T_nil ?_
  refine W_seq ?_
  refine W_seq ?_
  refine W_reg ?_
  refine T_pu rfl rfl (pu_move rfl) ?_
  refine T_pu rfl rfl (pu_len Try.underlying110 rfl) ?_
  refine T_pu rfl rfl (pu_lss rfl rfl) ?_
  refine T_nil ?_
  refine W_if rfl (fun hc1 => ?_) (fun hc1 => ?_)
  · refine W_seq ?_
    refine W_reg ?_
    refine T_pu rfl rfl (pu_move rfl) ?_
    refine T_pu rfl rfl (pu_assign rfl) ?_
    refine T_nil ?_
    refine W_ret ?_
    have e : dcnt xs = xs.length := by
      match xs, hc1 with
      | [], _ => rfl
      | [x], _ => simp [dcnt]
      | x :: y :: l, h => simp at h; omega
    exact Res_1 rfl rfl ⟨⟨_, _, by rw [e]⟩, Kp.refl _ _⟩
  · refine W_skip ?_
    refine W_seq ?_
    refine W_seq ?_
    obtain ⟨A, rfl⟩ : ∃ A, A0 = some ⟨A, 0, none⟩ := by
      rcases hO.open with ⟨_, e⟩ | ⟨b, c, e, h⟩
      · rw [e] at hc1; simp at hc1
      · exact ⟨b, (Value.slice.inj e).1⟩
    generalize hF : (fun b => (Value.slice (some (⟨A, 0, none⟩ : Addr)) xs.length c).ownBlock = some b) = F at *
    have hd1 : dcnt (xs.take 1) = 1 := by
      match xs, hc1 with
      | x :: l, _ => simp [dcnt]
    refine W_reg ?_
    refine T_pu rfl rfl (pu_assign rfl) ?_
    refine T_nil ?_
    refine W_block ?_
    refine W_loop (σ := Nat) (fun k => [(0, .slice (some ⟨A, 0, none⟩) xs.length c), (3, .int .i64 k)]) (fun k w' => (1 ≤ k ∧ k ≤ xs.length) ∧ St F w [aOI (.slice (some ⟨A, 0, none⟩) xs.length c) xs] w' ∧ dcnt (xs.take k) = k) (fun k => xs.length - k) 1 ?_ ?_ ?_
    · exact .cons rfl (.cons rfl (.nil _))
    · exact ⟨by omega, hs, hd1⟩
    repeat clear hs
    rintro k w2 ⟨hk, hs, hdk⟩
    refine W_seq ?_
    refine W_seq ?_
    refine W_reg ?_
    refine T_pu rfl rfl (pu_move rfl) ?_
    refine T_pu rfl rfl (pu_move rfl) ?_
    refine T_pu rfl rfl (pu_len Try.underlying110 rfl) ?_
    refine T_pu rfl rfl (pu_lss rfl rfl) ?_
    refine T_nil ?_
    refine W_if rfl (fun hc4 => ?_) (fun hc4 => ?_)
    · refine W_skip ?_
      refine W_seq ?_
      refine W_block ?_
      refine W_seq ?_
      refine W_draw mixed 1000 I0 (fun w3 hk3 => ?_)
      have hs := hs.next hk3
      have hc1' := (hs.oi 0 rfl).ri.at0 (i := k) (by omega) (by omega)
      have hc2' := (hs.oi 0 rfl).ri.at0 (i := (k : Int) - 1) (by omega) (by omega)
      have hdt := dcnt_take hsr (m := k) hk.1 (by omega)
      rw [show ((k - 1 : Nat) : Int) = (k : Int) - 1 by omega] at hdt
      refine D_pu 0 (by kernel_rfl) rfl (by kernel_rfl) (by kernel_rfl) rfl rfl (by kernel_rfl) (Pu.stable (pu_move rfl)) ?_
      refine D_pu 1 (by kernel_rfl) rfl (by kernel_rfl) (by kernel_rfl) rfl rfl (by kernel_rfl) (Pu.stable (pu_move rfl)) ?_
      refine D_pu 2 (by kernel_rfl) rfl (by kernel_rfl) (by kernel_rfl) rfl rfl (by kernel_rfl) (Pu.stable ((by first | exact pu_ix1 Try.underlying110 ty2 rfl rfl (by omega) (by omega) | exact pu_index Try.underlying110 ty2 rfl rfl (by omega) (by omega)))) ?_
      refine D_pu 3 (by kernel_rfl) rfl (by kernel_rfl) (by kernel_rfl) rfl rfl (by kernel_rfl) (pi_load Try.underlying2 rfl rfl (fun w' h => by obtain ⟨_, rfl⟩ := h; exact (by first | exact hc1' | exact hc2'))) ?_
      refine D_pu 4 (by kernel_rfl) rfl (by kernel_rfl) (by kernel_rfl) rfl rfl (by kernel_rfl) (Pu.stable (pu_move rfl)) ?_
      refine D_pu 5 (by kernel_rfl) rfl (by kernel_rfl) (by kernel_rfl) rfl rfl (by kernel_rfl) (Pu.stable (pu_move rfl)) ?_
      refine D_pu 6 (by kernel_rfl) rfl (by kernel_rfl) (by kernel_rfl) rfl rfl (by kernel_rfl) (Pu.stable (pu_sub64 rfl rfl (by omega))) ?_
      refine D_pu 7 (by kernel_rfl) rfl (by kernel_rfl) (by kernel_rfl) rfl rfl (by kernel_rfl) (Pu.stable ((by first | exact pu_ix1 Try.underlying110 ty2 rfl rfl (by omega) (by omega) | exact pu_index Try.underlying110 ty2 rfl rfl (by omega) (by omega)))) ?_
      refine D_pu 8 (by kernel_rfl) rfl (by kernel_rfl) (by kernel_rfl) rfl rfl (by kernel_rfl) (pi_load Try.underlying2 rfl rfl (fun w' h => by obtain ⟨_, rfl⟩ := h; exact (by first | exact hc1' | exact hc2'))) ?_
      refine D_pu 9 (by kernel_rfl) rfl (by kernel_rfl) (by kernel_rfl) rfl rfl (by kernel_rfl) (Pu.stable (pu_eql rfl rfl)) ?_
      refine D_done (by kernel_rfl) (by first | rfl | (intro _; rfl) | (intro h; exact absurd (show true = false from h) (by decide)) | exact Kp.refl _ _ | assumption) ?_
      refine W_if rfl (fun hc6 => ?_) (fun hc6 => ?_)
      · refine W_seq ?_
        refine W_reg ?_
        refine T_pu rfl rfl (pu_move rfl) ?_
        refine T_pu rfl rfl (pu_move rfl) ?_
        refine T_pu rfl rfl (pu_cut_lo (lo := k) Try.underlying110 ty2 rfl rfl (by omega)) ?_
        rw [if_neg (show ¬ c = k by omega)]
        simp only [Option.map_some, add_zero', Nat.mul_one]
        refine T_pu rfl rfl (pu_assign rfl) ?_
        refine T_nil ?_
        refine W_seq ?_
        refine W_seq ?_
        refine W_reg ?_
        refine T_pu rfl rfl (pu_assign rfl) ?_
        refine T_nil ?_
        refine W_block ?_
        refine W_loop (σ := Nat × Nat × List Int) (fun s => [(0, .slice (some ⟨A, 0, none⟩) xs.length c), (3, .int .i64 s.2.1), (4, .slice (some ⟨A, k, none⟩) (xs.length - k) (c - k)), (5, .int .i64 s.1)]) (fun s w' => (1 ≤ s.1 ∧ s.1 ≤ xs.length - k) ∧ s.2.1 ≤ k + s.1 - 1 ∧ dcnt (xs.take (k + s.1)) = s.2.1 ∧ s.2.2.length = xs.length ∧ (∀ j : Nat, s.2.1 ≤ j → rd s.2.2 j = rd xs j) ∧ St F w [aOI (.slice (some ⟨A, 0, none⟩) xs.length c) s.2.2] w') (fun s => xs.length - k - s.1) (1, k, xs) ?_ ?_ ?_
        · exact .cons rfl (.cons rfl (.cons rfl (.cons rfl (.nil _))))
        · exact ⟨by show 1 ≤ 1 ∧ 1 ≤ xs.length - k; omega, by show k ≤ k + 1 - 1; omega, by rw [hdt, if_pos (by omega)]; exact hdk, rfl, fun j _ => rfl, hs⟩
        repeat clear hs
        rintro ⟨k2, kk, ys⟩ w4 ⟨hk2, hkk, hd2, hyl, hys, hs⟩
        dsimp only at hk2 hkk hd2 hyl hys hs ⊢
        refine W_seq ?_
        refine W_seq ?_
        refine W_reg ?_
        refine T_pu rfl rfl (pu_move rfl) ?_
        refine T_pu rfl rfl (pu_move rfl) ?_
        refine T_pu rfl rfl (pu_len Try.underlying110 rfl) ?_
        refine T_pu rfl rfl (pu_lss rfl rfl) ?_
        refine T_nil ?_
        refine W_if rfl (fun hc9 => ?_) (fun hc9 => ?_)
        · refine W_skip ?_
          refine W_seq ?_
          refine W_block ?_
          refine W_seq ?_
          refine W_draw mixed 1000 I0 (fun w5 hk5 => ?_)
          have hs := hs.next hk5
          have hx1 := (hs.oi 0 rfl).ri.at0 (i := (k + k2 : Nat)) (by omega) (by omega)
          have hx2 := (hs.oi 0 rfl).ri.at0 (i := (k + k2 - 1 : Nat)) (by omega) (by omega)
          rw [hys _ (by omega)] at hx1 hx2
          have hdt2 := dcnt_take hsr (m := k + k2) (by omega) (by omega)
          have hx1 : w5.cell? ((⟨A, k, none⟩ : Addr).add ((k2 : Int).toNat * 1)) = some (.int .i64 (rd xs (k + k2 : Nat))) := by rw [add_lit', Nat.mul_one, Int.toNat_natCast]; rw [Int.toNat_natCast] at hx1; exact hx1
          have hx2 : w5.cell? ((⟨A, k, none⟩ : Addr).add (((k2 : Int) - 1).toNat * 1)) = some (.int .i64 (rd xs (k + k2 - 1 : Nat))) := by rw [add_lit', Nat.mul_one, show k + ((k2 : Int) - 1).toNat = k + k2 - 1 by omega]; rw [Int.toNat_natCast] at hx2; exact hx2
          refine D_pu 0 (by kernel_rfl) rfl (by kernel_rfl) (by kernel_rfl) rfl rfl (by kernel_rfl) (Pu.stable (pu_move rfl)) ?_
          refine D_pu 1 (by kernel_rfl) rfl (by kernel_rfl) (by kernel_rfl) rfl rfl (by kernel_rfl) (Pu.stable (pu_move rfl)) ?_
          refine D_pu 2 (by kernel_rfl) rfl (by kernel_rfl) (by kernel_rfl) rfl rfl (by kernel_rfl) (Pu.stable ((by first | exact pu_ix1 Try.underlying110 ty2 rfl rfl (by omega) (by omega) | exact pu_index Try.underlying110 ty2 rfl rfl (by omega) (by omega)))) ?_
          refine D_pu 3 (by kernel_rfl) rfl (by kernel_rfl) (by kernel_rfl) rfl rfl (by kernel_rfl) (pi_load Try.underlying2 rfl rfl (fun w' h => by obtain ⟨_, rfl⟩ := h; exact (by first | exact hx1 | exact hx2))) ?_
          refine D_pu 4 (by kernel_rfl) rfl (by kernel_rfl) (by kernel_rfl) rfl rfl (by kernel_rfl) (Pu.stable (pu_move rfl)) ?_
          refine D_pu 5 (by kernel_rfl) rfl (by kernel_rfl) (by kernel_rfl) rfl rfl (by kernel_rfl) (Pu.stable (pu_move rfl)) ?_
          refine D_pu 6 (by kernel_rfl) rfl (by kernel_rfl) (by kernel_rfl) rfl rfl (by kernel_rfl) (Pu.stable (pu_sub64 rfl rfl (by omega))) ?_
          refine D_pu 7 (by kernel_rfl) rfl (by kernel_rfl) (by kernel_rfl) rfl rfl (by kernel_rfl) (Pu.stable ((by first | exact pu_ix1 Try.underlying110 ty2 rfl rfl (by omega) (by omega) | exact pu_index Try.underlying110 ty2 rfl rfl (by omega) (by omega)))) ?_
          refine D_pu 8 (by kernel_rfl) rfl (by kernel_rfl) (by kernel_rfl) rfl rfl (by kernel_rfl) (pi_load Try.underlying2 rfl rfl (fun w' h => by obtain ⟨_, rfl⟩ := h; exact (by first | exact hx1 | exact hx2))) ?_
          refine D_pu 9 (by kernel_rfl) rfl (by kernel_rfl) (by kernel_rfl) rfl rfl (by kernel_rfl) (Pu.stable (pu_neq rfl rfl)) ?_
          refine D_done (by kernel_rfl) (by first | rfl | (intro _; rfl) | (intro h; exact absurd (show true = false from h) (by decide)) | exact Kp.refl _ _ | assumption) ?_
          refine W_if rfl (fun hc11 => ?_) (fun hc11 => ?_)
          · refine W_seq ?_
            refine W_reg ?_
            refine T_pu rfl rfl (pu_move rfl) ?_
            refine T_pu rfl rfl (pu_move rfl) ?_
            refine T_pu rfl rfl (pu_move rfl) ?_
            refine T_pu rfl rfl (pu_move rfl) ?_
            refine T_pu rfl rfl ((by first | exact pu_ix1 Try.underlying110 ty2 rfl rfl (by omega) (by omega) | exact pu_index Try.underlying110 ty2 rfl rfl (by omega) (by omega))) ?_
            refine T_pi rfl rfl (pi_load Try.underlying2 rfl rfl (fun w' h => by obtain rfl := h; exact (by first | exact hx1))) ?_
            refine T_pu rfl rfl ((by first | exact pu_ix1 Try.underlying110 ty2 rfl rfl (by omega) (by omega) | exact pu_index Try.underlying110 ty2 rfl rfl (by omega) (by omega))) ?_
            refine T_goN rfl (st_storeI hs 0 rfl ty2 rfl rfl (by omega) (by first | omega | (simp; omega)) fun w6 hk6 hs => ?_)
            simp only [List.set_cons_zero, Int.toNat_natCast] at hs
            refine T_nil ?_
            refine W_reg ?_
            refine T_pu rfl rfl (pu_move rfl) ?_
            refine T_pu rfl rfl (pu_add64 rfl rfl (by omega)) ?_
            refine T_pu rfl rfl (pu_assign rfl) ?_
            refine T_nil ?_
            refine W_reg ?_
            refine T_pu rfl rfl (pu_move rfl) ?_
            refine T_pu rfl rfl (pu_add64 rfl rfl (by omega)) ?_
            refine T_pu rfl rfl (pu_assign rfl) ?_
            refine T_nil ?_
            first
              | exact ⟨(k2 + 1, kk + 1, ys.set kk (rd xs (k + k2 : Nat))), .cons rfl (.cons rfl (.cons rfl (.cons rfl (.nil _)))), ⟨by show 1 ≤ k2 + 1 ∧ k2 + 1 ≤ _; omega, by show kk + 1 ≤ k + (k2 + 1) - 1; omega, by show dcnt (xs.take (k + (k2 + 1))) = _; rw [← Nat.add_assoc, hdt2, if_neg (by assumption), hd2], by simpa using hyl, fun j hj => by
                  have hj : kk + 1 ≤ j := hj
                  show rd (ys.set kk _) j = _
                  rw [rd_set, if_neg (by omega), hys j (by omega)], hs⟩, by show _ - (k2 + 1) < _ - k2; omega⟩
              | exact ⟨(k2 + 1, kk, ys), .cons rfl (.cons rfl (.cons rfl (.cons rfl (.nil _)))), ⟨by show 1 ≤ k2 + 1 ∧ k2 + 1 ≤ _; omega, by show kk ≤ k + (k2 + 1) - 1; omega, (by show dcnt (xs.take (k + (k2 + 1))) = _; rw [← Nat.add_assoc, hdt2, if_pos (by omega), hd2]; first | done | rfl), hyl, hys, hs⟩, by show _ - (k2 + 1) < _ - k2; omega⟩
          · refine W_skip ?_
            refine W_reg ?_
            refine T_pu rfl rfl (pu_move rfl) ?_
            refine T_pu rfl rfl (pu_add64 rfl rfl (by omega)) ?_
            refine T_pu rfl rfl (pu_assign rfl) ?_
            refine T_nil ?_
            first
              | exact ⟨(k2 + 1, kk + 1, ys.set kk (rd xs (k + k2 : Nat))), .cons rfl (.cons rfl (.cons rfl (.cons rfl (.nil _)))), ⟨by show 1 ≤ k2 + 1 ∧ k2 + 1 ≤ _; omega, by show kk + 1 ≤ k + (k2 + 1) - 1; omega, by show dcnt (xs.take (k + (k2 + 1))) = _; rw [← Nat.add_assoc, hdt2, if_neg (by assumption), hd2], by simpa using hyl, fun j hj => by
                  have hj : kk + 1 ≤ j := hj
                  show rd (ys.set kk _) j = _
                  rw [rd_set, if_neg (by omega), hys j (by omega)], hs⟩, by show _ - (k2 + 1) < _ - k2; omega⟩
              | exact ⟨(k2 + 1, kk, ys), .cons rfl (.cons rfl (.cons rfl (.cons rfl (.nil _)))), ⟨by show 1 ≤ k2 + 1 ∧ k2 + 1 ≤ _; omega, by show kk ≤ k + (k2 + 1) - 1; omega, (by show dcnt (xs.take (k + (k2 + 1))) = _; rw [← Nat.add_assoc, hdt2, if_pos (by omega), hd2]; first | done | rfl), hyl, hys, hs⟩, by show _ - (k2 + 1) < _ - k2; omega⟩
        · refine W_exit rfl ?_
          refine W_seq ?_
          obtain rfl : k2 = xs.length - k := by omega
          rw [show k + (xs.length - k) = xs.length by omega, List.take_length] at hd2
          have hdl := dcnt_le xs
          refine W_reg ?_
          refine T_pu rfl rfl (pu_move rfl) ?_
          refine T_pu rfl rfl (pu_move rfl) ?_
          refine T_pu rfl rfl (pu_cut_lo (lo := kk) Try.underlying110 ty2 rfl rfl (by omega)) ?_
          rw [if_neg (show ¬ c = kk by omega)]
          simp only [Option.map_some, add_zero', Nat.mul_one]
          refine T_goN rfl (st_clear Try.underlying110 ty2 rfl rfl rfl (by have := hs.oi 0 rfl; unfold OI at this; rw [hyl] at this; exact this) (by omega) fun w7 hk7 => ?_)
          refine T_nil ?_
          refine W_seq ?_
          refine W_reg ?_
          refine T_pu rfl rfl (pu_move rfl) ?_
          refine T_pu rfl rfl (pu_move rfl) ?_
          refine T_pu rfl rfl (pu_cut_hi (hi := kk) Try.underlying110 ty2 rfl rfl (by omega)) ?_
          refine T_pu rfl rfl (pu_assign rfl) ?_
          refine T_nil ?_
          refine W_ret ?_
          exact Res_1 rfl rfl ⟨⟨_, _, by rw [hd2]⟩, hs.kp.trans hk7 fun q _ e => by rw [← hF]; show some A = some q; rw [e]⟩
      · refine W_skip ?_
        refine W_reg ?_
        refine T_pu rfl rfl (pu_move rfl) ?_
        refine T_pu rfl rfl (pu_add64 rfl rfl (by omega)) ?_
        refine T_pu rfl rfl (pu_assign rfl) ?_
        refine T_nil ?_
        exact ⟨k + 1, .cons rfl (.cons rfl (.nil _)), ⟨by omega, hs, by rw [hdt, if_neg (by assumption), hdk]⟩, by omega⟩
    · refine W_exit rfl ?_
      refine W_seq ?_
      refine W_reg ?_
      refine T_pu rfl rfl (pu_move rfl) ?_
      refine T_pu rfl rfl (pu_assign rfl) ?_
      refine T_nil ?_
      refine W_ret ?_
      obtain rfl : k = xs.length := by omega
      rw [List.take_length] at hdk
      exact Res_1 rfl rfl ⟨⟨_, _, by rw [hdk]⟩, hs.kp⟩
end Go.Proofs.Ytdpbfdjpeofbmaa.L
