/- 'follow' with any function that keeps what it keeps; ends, purity, crossings, linking numbers. -/
import Derived.Test.YtdpbfdjpeofbmaaD0
namespace Go.Proofs.Ytdpbfdjpeofbmaa.L
set_option linter.unusedVariables false
set_option maxRecDepth 100000

def aH (F : Nat → Prop) (H : Nat → World → Prop) (hloc : ∀ k w w', (∀ b, F b → w'.heap[b]? = w.heap[b]?) → H k w → H k w') (k : Nat) : Asr := ⟨F, H k, hloc k⟩
theorem pq_max {x n : Int} (h : Lt n x) : 1 ≤ max x (-x) ∧ max x (-x) ≤ n - 1 := by unfold Lt at h; omega
set_option maxHeartbeats 8000000 in
theorem follow_ok (n : Nat) (hn : 1 ≤ n ∧ n ≤ 8) (u : Value) (xs : List Int) (w : World) (F : Nat → Prop) (H : Nat → World → Prop) (hloc : ∀ k w w', (∀ b, F b → w'.heap[b]? = w.heap[b]?) → H k w → H k w')
    (hF : ∀ b, F b → b < w.heap.size) (h0 : H 0 w) (hro : ∀ w', Kp F w w' → RI w' u xs) (hl : xs.length ≤ 9223372036854775807) (hL : ∀ l ∈ xs, Lt n l) (f : FuncId) (cap : List Value) (hfn : Fn Try.prog f)
    (hstep : ∀ (k : Nat) w', k < xs.length → Kp F w w' → H k w' → CallsR Try.prog f (Value.int .i64 (rd (strF n (xs.take k)) (max (rd xs k) (-rd xs k) - 1)) :: Value.int .i64 (rd (strF n (xs.take k)) (max (rd xs k) (-rd xs k))) :: Value.int .i64 (rd xs k) :: cap).toArray w' fun _ w'' => Kp F w' w'' ∧ H (k + 1) w'') :
    CallsR Try.prog 119 #[.agg #[.int .i64 n, u], .func (.func f) #[] cap.toArray] w fun r w' => OI w' r (strF n xs) ∧ Kp F w w' ∧ H xs.length w' ∧ ∀ b, r.ownBlock = some b → Fresh w w' b := by
  obtain ⟨A, c, rfl, hc⟩ := (hro w (Kp.refl _ _)).open
  have hs : St F w [aH F H hloc 0] w := St.startF w _ (fun B hB => by simp only [List.mem_singleton] at hB; subst hB; exact ⟨h0, fun b hb => ⟨hb, hF b hb⟩⟩) (by simp)
  refine fn_calls Try.func119 rfl rfl rfl ?_
  refine W_seq ?_
  refine W_reg ?_
  refine T_go rfl rfl (st_boxS hs rfl fun w1 b1 hk1 hb1 hs => ?_)
  refine T_pu rfl rfl (pu_assign rfl) ?_
  refine T_nil ?_
  refine W_seq ?_
  refine W_reg ?_
  refine T_pu rfl rfl (pu_fld (off := 0) Try.underlying28 rfl rfl ty2 rfl rfl) ?_
  refine T_pi rfl rfl (pi_load Try.underlying2 rfl rfl (fun w' h => by obtain rfl := h; exact (by first | exact (hs.bk 0 rfl).cell rfl))) ?_
  refine T_go rfl rfl (st_call fn162 rfl ((strandsOf_ok n (by omega) _).mono ?_))
  rintro v w2 hn2
  have hs := hs.newI hn2
  have hw2 : w.heap.size ≤ w2.heap.size := hs.size
  obtain ⟨_, cI, rfl, hcI⟩ | ⟨b2, c2, rfl, hc2⟩ : (∃ q : Unit, ∃ cI : Nat, v = .slice none 0 0 ∧ n = 0) ∨ ∃ b2 c2, v = .slice (some ⟨b2, 0, none⟩) n c2 ∧ n ≤ c2 := by
    rcases hn2.1.open with ⟨_, e⟩ | ⟨b, c', e, h⟩
    · have := iota_length n; rw [e] at this; simp at this; omega
    · rw [iota_length] at e h; exact .inr ⟨b, c', e, h⟩
  · omega
  have hb2 : w.heap.size ≤ b2 := Nat.le_trans hk1.size (hn2.2.2 b2 rfl).1
  refine T_pu rfl rfl (pu_assign rfl) ?_
  refine T_nil ?_
  refine W_seq ?_
  refine W_seq ?_
  refine W_reg ?_
  refine T_pu rfl rfl (pu_fld (off := 1) Try.underlying28 rfl rfl ty22 rfl rfl) ?_
  refine T_pi rfl rfl (pi_load Try.underlying22 rfl rfl (fun w' h => by obtain rfl := h; exact (by first | exact (hs.bk 1 rfl).cell rfl))) ?_
  refine T_pu rfl rfl (pu_len Try.underlying22 rfl) ?_
  refine T_pu rfl rfl (pu_move rfl) ?_
  refine T_nil ?_
  refine W_block ?_
  refine W_loop (σ := Nat) (fun k => [(1, .func (.func f) #[] cap.toArray), (5, .slice (some ⟨b2, 0, none⟩) n c2), (13, .slice A xs.length c), (14, .int .i64 xs.length), (15, .int .i64 k)]) (fun k w' => k ≤ xs.length ∧ St F w [aOI (.slice (some ⟨b2, 0, none⟩) n c2) (strF n (xs.take k)), aH F H hloc k] w') (fun k => xs.length - k) 0 ?_ ?_ ?_
  · exact .cons rfl (.cons rfl (.cons rfl (.cons rfl (.cons rfl (.nil _)))))
  · exact ⟨Nat.zero_le _, by rw [List.take_zero]; exact hs.drop 1⟩
  repeat clear hs
  rintro k w3 ⟨hkl, hs⟩
  have hv := hro _ hs.kp
  have hso := strF_okT hL k
  refine W_seq ?_
  refine W_reg ?_
  refine T_pu rfl rfl (pu_lss rfl rfl) ?_
  refine T_nil ?_
  refine W_seq ?_
  refine W_if rfl (fun hc3 => ?_) (fun hc3 => ?_)
  · refine W_skip ?_
    refine W_seq ?_
    refine W_block ?_
    refine W_seq ?_
    obtain ⟨a, rfl⟩ := hv.addr (i := k) (by omega) (by omega)
    have hlt := hL _ (rd_mem (i := k) (by omega))
    have hpq := pq_max hlt
    unfold Lt at hlt
    have hcell := hv.at (i := k) (by omega) (by omega)
    refine W_reg ?_
    refine T_pu rfl rfl ((by first | exact pu_ix1 Try.underlying22 ty2 rfl rfl (by omega) (by omega) | exact pu_index Try.underlying22 ty2 rfl rfl (by omega) (by omega))) ?_
    refine T_pi rfl rfl (pi_load Try.underlying2 rfl rfl (fun w' h => by obtain rfl := h; exact (by first | exact hcell))) ?_
    refine T_pu rfl rfl (pu_assign rfl) ?_
    refine T_nil ?_
    refine W_seq ?_
    refine W_reg ?_
    refine T_pu rfl rfl (pu_move rfl) ?_
    refine T_go rfl rfl (st_call fn140 rfl ((size_ok _ (by omega) _).mono ?_))
    rintro v w' ⟨rfl, rfl⟩
    obtain ⟨m, hm⟩ : ∃ m, m = max (rd xs k) (-rd xs k) := ⟨_, rfl⟩
    have hst := hstep k
    have htk := strF_take (n := n) (ls := xs) (k := k) (by omega)
    rw [← hm] at hst hpq htk ⊢
    refine T_pu rfl rfl (pu_assign rfl) ?_
    refine T_nil ?_
    refine W_seq ?_
    refine W_draw mixed 11 IS (fun w4 hk4 => ?_)
    have hs := hs.next hk4
    have hc1 := (hs.oi 0 rfl).ri.at0 (i := m - 1) (by omega) (by omega)
    have hc2 := (hs.oi 0 rfl).ri.at0 (i := m) (by omega) (by omega)
    refine D_pu 0 (by kernel_rfl) rfl (by kernel_rfl) (by kernel_rfl) rfl rfl (by kernel_rfl) (Pu.stable (pu_move rfl)) ?_
    refine D_pu 1 (by kernel_rfl) rfl (by kernel_rfl) (by kernel_rfl) rfl rfl (by kernel_rfl) (Pu.stable (pu_move rfl)) ?_
    refine D_pu 2 (by kernel_rfl) rfl (by kernel_rfl) (by kernel_rfl) rfl rfl (by kernel_rfl) (Pu.stable (pu_move rfl)) ?_
    refine D_pu 3 (by kernel_rfl) rfl (by kernel_rfl) (by kernel_rfl) rfl rfl (by kernel_rfl) (Pu.stable (pu_sub64 rfl rfl (by omega))) ?_
    refine D_pu 4 (by kernel_rfl) rfl (by kernel_rfl) (by kernel_rfl) rfl rfl (by kernel_rfl) (Pu.stable ((by first | exact pu_ix1 Try.underlying22 ty2 rfl rfl (by omega) (by omega) | exact pu_index Try.underlying22 ty2 rfl rfl (by omega) (by omega)))) ?_
    refine D_rd 5 (by kernel_rfl) rfl (by kernel_rfl) (by kernel_rfl) rfl rfl (by kernel_rfl) (by kernel_rfl) (by kernel_rfl) (pi_load Try.underlying2 rfl rfl (fun w' h => by obtain rfl := h rfl; exact (by first | exact hc1 | exact hc2))) ?_
    refine D_pu 6 (by kernel_rfl) rfl (by kernel_rfl) (by kernel_rfl) rfl rfl (by kernel_rfl) (Pu.stable (pu_move rfl)) ?_
    refine D_pu 7 (by kernel_rfl) rfl (by kernel_rfl) (by kernel_rfl) rfl rfl (by kernel_rfl) (Pu.stable (pu_move rfl)) ?_
    refine D_pu 8 (by kernel_rfl) rfl (by kernel_rfl) (by kernel_rfl) rfl rfl (by kernel_rfl) (Pu.stable ((by first | exact pu_ix1 Try.underlying22 ty2 rfl rfl (by omega) (by omega) | exact pu_index Try.underlying22 ty2 rfl rfl (by omega) (by omega)))) ?_
    refine D_rd 9 (by kernel_rfl) rfl (by kernel_rfl) (by kernel_rfl) rfl rfl (by kernel_rfl) (by kernel_rfl) (by kernel_rfl) (pi_load Try.underlying2 rfl rfl (fun w' h => by obtain rfl := h rfl; exact (by first | exact hc1 | exact hc2))) ?_
    refine D_pu 10 (by kernel_rfl) rfl (by kernel_rfl) (by kernel_rfl) rfl rfl (by kernel_rfl) (Pu.stable (pu_move rfl)) ?_
    refine D_go 11 (by kernel_rfl) (by first | rfl | (intro _; rfl) | (intro h; exact absurd (show true = false from h) (by decide)) | exact Kp.refl _ _ | assumption) rfl rfl rfl (st_callv (fi := []) hfn rfl rfl ((hst w4 (by omega) hs.kp (hs.get 1 rfl)).mono ?_))
    rintro _ w5 ⟨hk5, h5⟩
    have hs := hs.upd 1 rfl hk5 (aH F H hloc (k + 1)) h5 (fun b h => .inl h)
    simp only [List.set_cons_succ, List.set_cons_zero] at hs
    refine D_done (by kernel_rfl) (by first | rfl | (intro _; rfl) | (intro h; exact absurd (show true = false from h) (by decide)) | exact Kp.refl _ _ | assumption) ?_
    refine W_draw mixed 15 IS (fun w6 hk6 => ?_)
    have hs := hs.next hk6
    have hc1 := (hs.oi 0 rfl).ri.at0 (i := m - 1) (by omega) (by omega)
    have hc2 := (hs.oi 0 rfl).ri.at0 (i := m) (by omega) (by omega)
    refine D_pu 0 (by kernel_rfl) rfl (by kernel_rfl) (by kernel_rfl) rfl rfl (by kernel_rfl) (Pu.stable (pu_move rfl)) ?_
    refine D_pu 1 (by kernel_rfl) rfl (by kernel_rfl) (by kernel_rfl) rfl rfl (by kernel_rfl) (Pu.stable (pu_move rfl)) ?_
    refine D_pu 2 (by kernel_rfl) rfl (by kernel_rfl) (by kernel_rfl) rfl rfl (by kernel_rfl) (Pu.stable (pu_sub64 rfl rfl (by omega))) ?_
    refine D_pu 3 (by kernel_rfl) rfl (by kernel_rfl) (by kernel_rfl) rfl rfl (by kernel_rfl) (Pu.stable (pu_move rfl)) ?_
    refine D_pu 4 (by kernel_rfl) rfl (by kernel_rfl) (by kernel_rfl) rfl rfl (by kernel_rfl) (Pu.stable (pu_move rfl)) ?_
    refine D_pu 5 (by kernel_rfl) rfl (by kernel_rfl) (by kernel_rfl) rfl rfl (by kernel_rfl) (Pu.stable (pu_move rfl)) ?_
    refine D_pu 6 (by kernel_rfl) rfl (by kernel_rfl) (by kernel_rfl) rfl rfl (by kernel_rfl) (Pu.stable (pu_move rfl)) ?_
    refine D_pu 7 (by kernel_rfl) rfl (by kernel_rfl) (by kernel_rfl) rfl rfl (by kernel_rfl) (Pu.stable ((by first | exact pu_ix1 Try.underlying22 ty2 rfl rfl (by omega) (by omega) | exact pu_index Try.underlying22 ty2 rfl rfl (by omega) (by omega)))) ?_
    refine D_rd 8 (by kernel_rfl) rfl (by kernel_rfl) (by kernel_rfl) rfl rfl (by kernel_rfl) (by kernel_rfl) (by kernel_rfl) (pi_load Try.underlying2 rfl rfl (fun w' h => by obtain rfl := h rfl; exact (by first | exact hc1 | exact hc2))) ?_
    refine D_pu 9 (by kernel_rfl) rfl (by kernel_rfl) (by kernel_rfl) rfl rfl (by kernel_rfl) (Pu.stable (pu_move rfl)) ?_
    refine D_pu 10 (by kernel_rfl) rfl (by kernel_rfl) (by kernel_rfl) rfl rfl (by kernel_rfl) (Pu.stable (pu_move rfl)) ?_
    refine D_pu 11 (by kernel_rfl) rfl (by kernel_rfl) (by kernel_rfl) rfl rfl (by kernel_rfl) (Pu.stable (pu_sub64 rfl rfl (by omega))) ?_
    refine D_pu 12 (by kernel_rfl) rfl (by kernel_rfl) (by kernel_rfl) rfl rfl (by kernel_rfl) (Pu.stable ((by first | exact pu_ix1 Try.underlying22 ty2 rfl rfl (by omega) (by omega) | exact pu_index Try.underlying22 ty2 rfl rfl (by omega) (by omega)))) ?_
    refine D_rd 13 (by kernel_rfl) rfl (by kernel_rfl) (by kernel_rfl) rfl rfl (by kernel_rfl) (by kernel_rfl) (by kernel_rfl) (pi_load Try.underlying2 rfl rfl (fun w' h => by obtain rfl := h rfl; exact (by first | exact hc1 | exact hc2))) ?_
    refine D_pu 14 (by kernel_rfl) rfl (by kernel_rfl) (by kernel_rfl) rfl rfl (by kernel_rfl) (Pu.stable ((by first | exact pu_ix1 Try.underlying22 ty2 rfl rfl (by omega) (by omega) | exact pu_index Try.underlying22 ty2 rfl rfl (by omega) (by omega)))) ?_
    refine D_goN 15 (by kernel_rfl) (by first | rfl | (intro _; rfl) | (intro h; exact absurd (show true = false from h) (by decide)) | exact Kp.refl _ _ | assumption) rfl rfl (st_storeI hs 0 rfl ty2 rfl rfl (by omega) (by first | omega | (simp; omega)) fun w7 hk7 hs => ?_)
    simp only [List.set_cons_zero] at hs
    refine D_pu 16 (by kernel_rfl) rfl (by kernel_rfl) (by kernel_rfl) rfl rfl (by kernel_rfl) (Pu.stable ((by first | exact pu_ix1 Try.underlying22 ty2 rfl rfl (by omega) (by omega) | exact pu_index Try.underlying22 ty2 rfl rfl (by omega) (by omega)))) ?_
    refine D_goN 17 (by kernel_rfl) (by first | rfl | (intro _; rfl) | (intro h; exact absurd (show true = false from h) (by decide)) | exact Kp.refl _ _ | assumption) rfl rfl (st_storeI hs 0 rfl ty2 rfl rfl (by omega) (by first | omega | (simp; omega)) fun w8 hk8 hs => ?_)
    simp only [List.set_cons_zero] at hs
    unfold swp at htk
    rw [← htk] at hs
    refine D_done (by kernel_rfl) (by first | rfl | (intro _; rfl) | (intro h; exact absurd (show true = false from h) (by decide)) | exact Kp.refl _ _ | assumption) ?_
    refine W_reg ?_
    refine T_pu rfl rfl (pu_add64 rfl rfl (by omega)) ?_
    refine T_pu rfl rfl (pu_move rfl) ?_
    refine T_nil ?_
    exact ⟨k + 1, .cons rfl (.cons rfl (.cons rfl (.cons rfl (.cons rfl (.nil _))))), ⟨by omega, hs⟩, by omega⟩
  · refine W_exit rfl ?_
    refine W_seq ?_
    refine W_reg ?_
    refine T_pu rfl rfl (pu_move rfl) ?_
    refine T_pu rfl rfl (pu_assign rfl) ?_
    refine T_nil ?_
    refine W_ret ?_
    obtain rfl : k = xs.length := by omega
    rw [List.take_length] at hs hso
    refine Res_1 rfl rfl ⟨?_, hs.kp, hs.get 1 rfl, fun b hb => ?_⟩
    · exact hs.oi 0 rfl
    · cases hb
      exact ⟨hb2, hs.lt 0 rfl rfl⟩

set_option maxHeartbeats 4000000 in
theorem noop_ok (x y l : Int) (w : World) : CallsR Try.prog 188 #[.int .i64 x, .int .i64 y, .int .i64 l] w fun _ w' => w = w' := by
  refine fn_calls Try.func188 rfl rfl rfl ?_
  refine W_skip ?_
  exact Res_0 rfl rfl
set_option maxHeartbeats 4000000 in
theorem endsOf_ok (n : Nat) (hn : 1 ≤ n ∧ n ≤ 8) (u : Value) (xs : List Int) (w : World) (hv : RI w u xs) (hl : xs.length ≤ 9223372036854775807) (hL : ∀ l ∈ xs, Lt n l) :
    CallsR Try.prog 166 #[.agg #[.int .i64 n, u]] w fun r w' => NewI w w' r (endsF n xs) := by
  obtain ⟨A, c, rfl, hc⟩ := hv.open
  have hs := St.start w
  obtain ⟨ha1, ha2⟩ := strF_ok hL
  refine fn_calls Try.func166 rfl rfl rfl ?_
  refine W_seq ?_
  refine W_reg ?_
  refine T_go rfl rfl (st_boxS hs rfl fun w1 b1 hk1 hb1 hs => ?_)
  refine T_pu rfl rfl (pu_assign rfl) ?_
  refine T_nil ?_
  refine W_seq ?_
  refine W_reg ?_
  refine T_pu rfl rfl (pu_fld (off := 0) Try.underlying28 rfl rfl ty2 rfl rfl) ?_
  refine T_pi rfl rfl (pi_load Try.underlying2 rfl rfl (fun w' h => by obtain rfl := h; exact (by first | exact (hs.bk 0 rfl).cell rfl))) ?_
  refine T_go rfl rfl (st_makeI hs Try.underlying22 ty2 rfl rfl (by omega) fun w2 b2 hk2 hb2 hs => ?_)
  refine T_pu rfl rfl (pu_assign rfl) ?_
  refine T_nil ?_
  refine W_seq ?_
  refine W_seq ?_
  refine W_reg ?_
  refine T_pi rfl rfl (pi_loadAgg Try.underlying28 rfl ty28 rfl (fun w' h => by obtain rfl := h; exact (by first | exact (hs.bk 1 rfl).cells)) (by first | rfl | (simp; done) | (rw [nums_length]; assumption) | assumption)) ?_
  refine T_go rfl rfl (st_call fn119 rfl ((follow_ok n hn _ xs _ no (fun _ _ => True) (fun _ _ _ _ _ => trivial) (fun b h => h.elim) trivial (fun w' hk => (hv.keep hs.kp).keep hk) hl hL _ [] fn188 (fun k w' _ _ _ => (noop_ok _ _ _ _).mono fun _ w'' e => ⟨by subst e; exact Kp.refl _ _, trivial⟩)).mono ?_))
  rintro v w3 ⟨hO3, hk3, _, hf3⟩
  have hs := hs.newI ⟨hO3, hk3, hf3⟩
  unfold endsF
  generalize ha : strF n xs = a at ha1 ha2 hs hO3
  obtain ⟨B, cB, rfl, hcB⟩ := hO3.ri.open
  rw [ha1] at hs hO3 hcB ⊢
  refine T_pu rfl rfl (pu_len Try.underlying22 rfl) ?_
  refine T_pu rfl rfl (pu_move rfl) ?_
  refine T_nil ?_
  refine W_block ?_
  refine W_loop (σ := Nat) (fun k => [(3, .slice (some ⟨b2, 0, none⟩) n n), (10, .slice B n cB), (11, .int .i64 n), (12, .int .i64 k)]) (fun k w' => k ≤ n ∧ St no w [aOI (.slice (some ⟨b2, 0, none⟩) n n) (endsTo a n k), aOI (.slice B n cB) a] w') (fun k => n - k) 0 ?_ ?_ ?_
  · exact .cons rfl (.cons rfl (.cons rfl (.cons rfl (.nil _))))
  · exact ⟨Nat.zero_le _, (hs.drop 2).front 1 rfl⟩
  repeat clear hs
  rintro k w4 ⟨hkn, hs⟩
  have hte := endsTo_ok a n hn.1 k hkn
  refine W_seq ?_
  refine W_reg ?_
  refine T_pu rfl rfl (pu_lss rfl rfl) ?_
  refine T_nil ?_
  refine W_seq ?_
  refine W_if rfl (fun hc3 => ?_) (fun hc3 => ?_)
  · refine W_skip ?_
    refine W_seq ?_
    refine W_block ?_
    refine W_seq ?_
    obtain ⟨a', rfl⟩ := (hs.oi 1 rfl).ri.addr (i := k) (by omega) (by omega)
    have hcell := (hs.oi 1 rfl).ri.at (i := k) (by omega) (by omega)
    have hrg := ha2.rd (i := k) (by omega) (by omega)
    refine W_reg ?_
    refine T_pu rfl rfl (pu_move rfl) ?_
    refine T_pu rfl rfl ((by first | exact pu_ix1 Try.underlying22 ty2 rfl rfl (by omega) (by omega) | exact pu_index Try.underlying22 ty2 rfl rfl (by omega) (by omega))) ?_
    refine T_pi rfl rfl (pi_load Try.underlying2 rfl rfl (fun w' h => by obtain rfl := h; exact (by first | exact hcell))) ?_
    refine T_pu rfl rfl (pu_assign rfl) ?_
    refine T_pu rfl rfl (pu_assign rfl) ?_
    refine T_nil ?_
    refine W_reg ?_
    refine T_pu rfl rfl (pu_move rfl) ?_
    refine T_pu rfl rfl (pu_move rfl) ?_
    refine T_pu rfl rfl (pu_move rfl) ?_
    refine T_pu rfl rfl ((by first | exact pu_ix1 Try.underlying22 ty2 rfl rfl (by omega) (by omega) | exact pu_index Try.underlying22 ty2 rfl rfl (by omega) (by omega))) ?_
    refine T_goN rfl (st_storeI hs 0 rfl ty2 rfl rfl (by omega) (by first | omega | (simp; omega)) fun w5 hk5 hs => ?_)
    rw [← endsTo_succ] at hs
    simp only [List.set_cons_zero] at hs
    refine T_nil ?_
    refine W_reg ?_
    refine T_pu rfl rfl (pu_add64 rfl rfl (by omega)) ?_
    refine T_pu rfl rfl (pu_move rfl) ?_
    refine T_nil ?_
    exact ⟨k + 1, .cons rfl (.cons rfl (.cons rfl (.cons rfl (.nil _)))), ⟨by omega, hs⟩, by omega⟩
  · refine W_exit rfl ?_
    refine W_seq ?_
    refine W_reg ?_
    refine T_pu rfl rfl (pu_move rfl) ?_
    refine T_pu rfl rfl (pu_assign rfl) ?_
    refine T_nil ?_
    refine W_ret ?_
    obtain rfl : k = n := by omega
    exact Res_1 rfl rfl (hs.isNewI 0 rfl)
set_option maxHeartbeats 4000000 in
theorem isPure_ok (n : Nat) (hn : 1 ≤ n ∧ n ≤ 8) (u : Value) (xs : List Int) (w : World) (hv : RI w u xs) (hl : xs.length ≤ 9223372036854775807) (hL : ∀ l ∈ xs, Lt n l) :
    CallsR Try.prog 144 #[.agg #[.int .i64 n, u]] w fun r w' => r = .bool (decide (endsF n xs = iota n)) ∧ Kp no w w' := by
  obtain ⟨A, c, rfl, hc⟩ := hv.open
  have hs := St.start w
  have hel := endsF_length n hn.1 xs
  refine fn_calls Try.func144 rfl rfl rfl ?_
  refine W_seq ?_
  refine W_reg ?_
  refine T_go rfl rfl (st_boxS hs rfl fun w1 b1 hk1 hb1 hs => ?_)
  refine T_pu rfl rfl (pu_assign rfl) ?_
  refine T_nil ?_
  refine W_seq ?_
  refine W_seq ?_
  refine W_reg ?_
  refine T_pi rfl rfl (pi_loadAgg Try.underlying28 rfl ty28 rfl (fun w' h => by obtain rfl := h; exact (by first | exact (hs.bk 0 rfl).cells)) (by first | rfl | (simp; done) | (rw [nums_length]; assumption) | assumption)) ?_
  refine T_go rfl rfl (st_call fn166 rfl ((endsOf_ok n hn _ xs _ (hv.keep hs.kp) hl hL).mono ?_))
  rintro v w2 hn2
  have hs := hs.newI hn2
  generalize he : endsF n xs = e at hel hs hn2
  obtain ⟨B, cB, rfl, hcB⟩ := hn2.1.ri.open
  rw [hel] at hs hn2 hcB ⊢
  refine T_pu rfl rfl (pu_len Try.underlying22 rfl) ?_
  refine T_pu rfl rfl (pu_move rfl) ?_
  refine T_nil ?_
  refine W_block ?_
  refine W_loop (σ := Nat) (fun k => [(6, .slice B n cB), (7, .int .i64 n), (8, .int .i64 k)]) (fun k w' => k ≤ n ∧ w2 = w' ∧ ∀ i : Nat, i < k → rd e i = i) (fun k => n - k) 0 ?_ ?_ ?_
  · exact .cons rfl (.cons rfl (.cons rfl (.nil _)))
  · exact ⟨Nat.zero_le _, rfl, fun i h => by omega⟩
  rintro k w4 ⟨hkn, rfl, hall⟩
  refine W_seq ?_
  refine W_reg ?_
  refine T_pu rfl rfl (pu_lss rfl rfl) ?_
  refine T_nil ?_
  refine W_seq ?_
  refine W_if rfl (fun hc2 => ?_) (fun hc2 => ?_)
  · refine W_skip ?_
    refine W_seq ?_
    refine W_block ?_
    refine W_seq ?_
    obtain ⟨a', rfl⟩ := (hs.oi 0 rfl).ri.addr (i := k) (by omega) (by omega)
    have hcell := (hs.oi 0 rfl).ri.at (i := k) (by omega) (by omega)
    refine W_reg ?_
    refine T_pu rfl rfl (pu_move rfl) ?_
    refine T_pu rfl rfl ((by first | exact pu_ix1 Try.underlying22 ty2 rfl rfl (by omega) (by omega) | exact pu_index Try.underlying22 ty2 rfl rfl (by omega) (by omega))) ?_
    refine T_pi rfl rfl (pi_load Try.underlying2 rfl rfl (fun w' h => by obtain rfl := h; exact (by first | exact hcell))) ?_
    refine T_pu rfl rfl (pu_assign rfl) ?_
    refine T_pu rfl rfl (pu_assign rfl) ?_
    refine T_nil ?_
    refine W_seq ?_
    refine W_reg ?_
    refine T_pu rfl rfl (pu_move rfl) ?_
    refine T_pu rfl rfl (pu_move rfl) ?_
    refine T_pu rfl rfl (pu_neq rfl rfl) ?_
    refine T_nil ?_
    refine W_if rfl (fun hc4 => ?_) (fun hc4 => ?_)
    · refine W_seq ?_
      refine W_reg ?_
      refine T_pu rfl rfl (pu_assign rfl) ?_
      refine T_nil ?_
      refine W_ret ?_
      refine Res_1 rfl rfl ⟨?_, hs.kp⟩
      congr 1
      exact (decide_eq_false (fun e' => hc4 (by rw [e', iota_rd (by omega)]))).symm
    · refine W_skip ?_
      refine W_reg ?_
      refine T_pu rfl rfl (pu_add64 rfl rfl (by omega)) ?_
      refine T_pu rfl rfl (pu_move rfl) ?_
      refine T_nil ?_
      exact ⟨k + 1, .cons rfl (.cons rfl (.cons rfl (.nil _))), ⟨by omega, rfl, fun i hi => by
        by_cases e' : i = k
        · subst e'; exact (Decidable.not_not.1 hc4).symm
        · exact hall i (by omega)⟩, by omega⟩
  · refine W_exit rfl ?_
    refine W_seq ?_
    refine W_reg ?_
    refine T_pu rfl rfl (pu_assign rfl) ?_
    refine T_nil ?_
    refine W_ret ?_
    refine Res_1 rfl rfl ⟨?_, hs.kp⟩
    congr 1
    exact (decide_eq_true (rd_ext (by rw [hel, iota_length]) (fun i hi => by rw [hall i (by omega), iota_rd (by omega)]))).symm
set_option maxHeartbeats 4000000 in
theorem pureCode_ok (n : Int) (v : Value) (xs : List Int) (w : World) (hv : RI w v xs) (hl : xs.length ≤ 9223372036854775807) :
    CallsR Try.prog 82 #[.agg #[.int .i64 n, v]] w fun r w' => r = .int .i64 (pureF n xs) ∧ Kp no w w' := by
  obtain ⟨A, c, rfl, hc⟩ := hv.open
  have hs := St.start w
  refine fn_calls Try.func82 rfl rfl rfl ?_
  refine W_seq ?_
  refine W_reg ?_
  refine T_go rfl rfl (st_boxS hs rfl fun w1 b1 hk1 hb1 hs => ?_)
  refine T_pu rfl rfl (pu_assign rfl) ?_
  refine T_nil ?_
  refine W_seq ?_
  refine W_block ?_
  refine W_seq ?_
  refine W_reg ?_
  refine T_pi rfl rfl (pi_loadAgg Try.underlying28 rfl ty28 rfl (fun w' h => by obtain rfl := h; exact (by first | exact (hs.bk 0 rfl).cells)) (by first | rfl | (simp; done) | (rw [nums_length]; assumption) | assumption)) ?_
  refine T_go rfl rfl (st_call fn72 rfl ((IsBraid_ok n _ xs _ (hv.keep hs.kp) hl).mono ?_))
  rintro v w2 ⟨rfl, hk2⟩
  have hs := hs.next hk2
  refine T_pu rfl rfl (pu_notp rfl) ?_
  refine T_pu rfl rfl (pu_assign rfl) ?_
  refine T_nil ?_
  refine W_if rfl (fun hc1 => ?_) (fun hc1 => ?_)
  · refine W_seq ?_
    refine W_reg ?_
    refine T_pu rfl rfl (pu_assign rfl) ?_
    refine T_nil ?_
    refine W_ret ?_
    exact Res_1 rfl rfl ⟨by unfold pureF; rw [if_pos hc1], hs.kp⟩
  · refine W_seq ?_
    have hBr : Br n xs := Decidable.not_not.1 hc1
    obtain ⟨m, rfl⟩ : ∃ m : Nat, n = m := ⟨n.toNat, by have := hBr.1; omega⟩
    have hm : 1 ≤ m ∧ m ≤ 8 := by have := hBr.1; omega
    refine W_reg ?_
    refine T_pi rfl rfl (pi_loadAgg Try.underlying28 rfl ty28 rfl (fun w' h => by obtain rfl := h; exact (by first | exact (hs.bk 0 rfl).cells)) (by first | rfl | (simp; done) | (rw [nums_length]; assumption) | assumption)) ?_
    refine T_go rfl rfl (st_call fn144 rfl ((isPure_ok m hm _ xs _ (hv.keep hs.kp) hl hBr.2.2).mono ?_))
    rintro v w3 ⟨rfl, hk3⟩
    have hs := hs.next hk3
    refine T_pu rfl rfl (pu_notp rfl) ?_
    refine T_pu rfl rfl (pu_assign rfl) ?_
    refine T_nil ?_
    refine W_if rfl (fun hc3 => ?_) (fun hc3 => ?_)
    · refine W_seq ?_
      refine W_reg ?_
      refine T_pu rfl rfl (pu_assign rfl) ?_
      refine T_nil ?_
      refine W_ret ?_
      exact Res_1 rfl rfl ⟨by unfold pureF; rw [if_neg hc1, Int.toNat_natCast, if_pos hc3], hs.kp⟩
    · refine W_skip ?_
      refine W_seq ?_
      refine W_reg ?_
      refine T_pu rfl rfl (pu_assign rfl) ?_
      refine T_nil ?_
      refine W_ret ?_
      exact Res_1 rfl rfl ⟨by unfold pureF; rw [if_neg hc1, Int.toNat_natCast, if_neg hc3], hs.kp⟩
end Go.Proofs.Ytdpbfdjpeofbmaa.L
