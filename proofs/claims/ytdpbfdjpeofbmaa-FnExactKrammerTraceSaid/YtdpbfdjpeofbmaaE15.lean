/- Traces of Krammer's matrices; the law KrammerTrace. -/
import Derived.Test.YtdpbfdjpeofbmaaE14
namespace Go.Proofs.Ytdpbfdjpeofbmaa.L
set_option linter.unusedVariables false
set_option maxRecDepth 100000

def trF (M : List (List Int)) : Int := sumN (fun x => rd2 M x x) M.length % 10007
theorem trS_range {d : Nat} {M : List (List Int)} (h : Fq d M) : ∀ k, k ≤ d → 0 ≤ sumN (fun x => rd2 M x x) k ∧ sumN (fun x => rd2 M x x) k ≤ k * 10006
  | 0, _ => by simp [sumN]
  | k + 1, hk => by
    have ih := trS_range h k (by omega)
    have := (h.2 k (by omega) (by omega)).2 k (by omega) (by omega)
    simp only [sumN]
    omega
set_option maxHeartbeats 4000000 in
theorem traceIn_ok (d : Nat) (hd : 1 ≤ d ∧ d ≤ 1000) (v : Value) (M : List (List Int)) (w : World) (hv : RM w v M) (hM : Fq d M) : CallsR Try.prog 100 #[v] w fun r w' => r = .int .i64 (trF M) ∧ w = w' := by
  obtain ⟨A, c, rfl, hc⟩ := hv.open
  have hl := hM.1
  unfold trF
  rw [hl] at hc hv ⊢
  refine fn_calls Try.func100 rfl rfl rfl ?_
  refine W_seq ?_
  refine W_reg ?_
  refine T_pu rfl rfl (pu_assign rfl) ?_
  refine T_nil ?_
  refine W_seq ?_
  refine W_reg ?_
  refine T_pu rfl rfl (pu_assign rfl) ?_
  refine T_nil ?_
  refine W_seq ?_
  refine W_seq ?_
  refine W_reg ?_
  refine T_pu rfl rfl (pu_move rfl) ?_
  refine T_pu rfl rfl (pu_len Try.underlying32 rfl) ?_
  refine T_pu rfl rfl (pu_move rfl) ?_
  refine T_nil ?_
  refine W_block ?_
  refine W_loop (σ := Nat) (fun k => [(3, .int .i64 (sumN (fun x => rd2 M x x) k)), (6, .slice A d c), (7, .int .i64 d), (8, .int .i64 k)]) (fun k w' => w = w' ∧ k ≤ d) (fun k => d - k) 0 ?_ ?_ ?_
  · exact .cons rfl (.cons rfl (.cons rfl (.cons rfl (.nil _))))
  · exact ⟨rfl, Nat.zero_le _⟩
  rintro k w2 ⟨rfl, hkd⟩
  refine W_seq ?_
  refine W_reg ?_
  refine T_pu rfl rfl (pu_lss rfl rfl) ?_
  refine T_nil ?_
  refine W_seq ?_
  refine W_if rfl (fun hc3 => ?_) (fun hc3 => ?_)
  · refine W_skip ?_
    refine W_seq ?_
    refine W_block ?_
    refine W_seq ?_
    obtain ⟨a, R, cR, rfl, hcx, hRI⟩ := hv.row (i := k) (by omega) (by omega)
    have hrl := (hM.2 k (by omega) (by omega)).1
    rw [hrl] at hcx hRI
    obtain ⟨b, rfl⟩ := hRI.addr (i := k) (by omega) (by omega)
    have hck := hRI.at (i := k) (by omega) (by omega)
    have hrg := (hM.2 k (by omega) (by omega)).2 k (by omega) (by omega)
    have hsr := trS_range hM k (by omega)
    have hsu : sumN (fun x => rd2 M x x) (k + 1) = sumN (fun x => rd2 M x x) k + rd2 M k k := rfl
    rw [show rd (rr M k) k = rd2 M k k from rfl] at hck
    generalize rd2 M k k = z at hck hrg hsu
    refine W_reg ?_
    refine T_pu rfl rfl (pu_move rfl) ?_
    refine T_pu rfl rfl ((by first | exact pu_ix1 Try.underlying32 ty22 rfl rfl (by omega) (by omega) | exact pu_index Try.underlying32 ty22 rfl rfl (by omega) (by omega))) ?_
    refine T_pi rfl rfl (pi_load Try.underlying22 rfl rfl (fun w' h => by obtain rfl := h; exact (by first | exact hcx))) ?_
    refine T_pu rfl rfl (pu_assign rfl) ?_
    refine T_pu rfl rfl (pu_assign rfl) ?_
    refine T_nil ?_
    refine W_reg ?_
    refine T_pu rfl rfl (pu_move rfl) ?_
    refine T_pu rfl rfl (pu_move rfl) ?_
    refine T_pu rfl rfl (pu_move rfl) ?_
    refine T_pu rfl rfl ((by first | exact pu_ix1 Try.underlying22 ty2 rfl rfl (by omega) (by omega) | exact pu_index Try.underlying22 ty2 rfl rfl (by omega) (by omega))) ?_
    refine T_pi rfl rfl (pi_load Try.underlying2 rfl rfl (fun w' h => by obtain rfl := h; exact (by first | exact hck))) ?_
    refine T_pu rfl rfl (pu_add64 rfl rfl (by omega)) ?_
    refine T_pu rfl rfl (pu_assign rfl) ?_
    refine T_nil ?_
    refine W_reg ?_
    refine T_pu rfl rfl (pu_add64 rfl rfl (by omega)) ?_
    refine T_pu rfl rfl (pu_move rfl) ?_
    refine T_nil ?_
    exact ⟨k + 1, .cons (by rw [hsu]; rfl) (.cons rfl (.cons rfl (.cons rfl (.nil _)))), ⟨rfl, by omega⟩, by omega⟩
  · refine W_exit rfl ?_
    refine W_seq ?_
    refine W_reg ?_
    refine T_pu rfl rfl (pu_move rfl) ?_
    refine T_pu rfl rfl (pu_rem rfl rfl (by omega)) ?_
    refine T_pu rfl rfl (pu_assign rfl) ?_
    refine T_nil ?_
    refine W_ret ?_
    obtain rfl : k = d := by omega
    have hsr := trS_range hM k (by omega)
    exact Res_1 rfl rfl ⟨by rw [tmod_nn hsr.1], rfl⟩
set_option maxHeartbeats 4000000 in
theorem l09Trace_ok (d : Nat) (hd : 1 ≤ d ∧ d ≤ 1000) (v : Value) (M : List (List Int)) (w : World) (hv : RM w v M) (hM : Fq d M) : CallsR Try.prog 101 #[v] w fun r w' => r = .int .i64 (trF M) ∧ w = w' := by
  obtain ⟨A, c, rfl, hc⟩ := hv.open
  have hl := hM.1
  unfold trF
  rw [hl] at hc hv ⊢
  refine fn_calls Try.func101 rfl rfl rfl ?_
  refine W_seq ?_
  refine W_reg ?_
  refine T_pu rfl rfl (pu_assign rfl) ?_
  refine T_nil ?_
  refine W_seq ?_
  refine W_reg ?_
  refine T_pu rfl rfl (pu_assign rfl) ?_
  refine T_nil ?_
  refine W_seq ?_
  refine W_seq ?_
  refine W_reg ?_
  refine T_pu rfl rfl (pu_assign rfl) ?_
  refine T_nil ?_
  refine W_block ?_
  refine W_loop (σ := Nat) (fun k => [(0, .slice A d c), (3, .int .i64 (sumN (fun x => rd2 M x x) k)), (4, .int .i64 k)]) (fun k w' => w = w' ∧ k ≤ d) (fun k => d - k) 0 ?_ ?_ ?_
  · exact .cons rfl (.cons rfl (.cons rfl (.nil _)))
  · exact ⟨rfl, Nat.zero_le _⟩
  rintro k w2 ⟨rfl, hkd⟩
  refine W_seq ?_
  refine W_seq ?_
  refine W_reg ?_
  refine T_pu rfl rfl (pu_move rfl) ?_
  refine T_pu rfl rfl (pu_move rfl) ?_
  refine T_pu rfl rfl (pu_len Try.underlying32 rfl) ?_
  refine T_pu rfl rfl (pu_lss rfl rfl) ?_
  refine T_nil ?_
  refine W_if rfl (fun hc3 => ?_) (fun hc3 => ?_)
  · refine W_skip ?_
    refine W_seq ?_
    refine W_block ?_
    obtain ⟨a, R, cR, rfl, hcx, hRI⟩ := hv.row (i := k) (by omega) (by omega)
    have hrl := (hM.2 k (by omega) (by omega)).1
    rw [hrl] at hcx hRI
    obtain ⟨b, rfl⟩ := hRI.addr (i := k) (by omega) (by omega)
    have hck := hRI.at (i := k) (by omega) (by omega)
    have hrg := (hM.2 k (by omega) (by omega)).2 k (by omega) (by omega)
    have hsr := trS_range hM k (by omega)
    have hsu : sumN (fun x => rd2 M x x) (k + 1) = sumN (fun x => rd2 M x x) k + rd2 M k k := rfl
    rw [show rd (rr M k) k = rd2 M k k from rfl] at hck
    generalize rd2 M k k = z at hck hrg hsu
    refine W_reg ?_
    refine T_pu rfl rfl (pu_move rfl) ?_
    refine T_pu rfl rfl (pu_move rfl) ?_
    refine T_pu rfl rfl (pu_move rfl) ?_
    refine T_pu rfl rfl ((by first | exact pu_ix1 Try.underlying32 ty22 rfl rfl (by omega) (by omega) | exact pu_index Try.underlying32 ty22 rfl rfl (by omega) (by omega))) ?_
    refine T_pi rfl rfl (pi_load Try.underlying22 rfl rfl (fun w' h => by obtain rfl := h; exact (by first | exact hcx | exact hck))) ?_
    refine T_pu rfl rfl (pu_move rfl) ?_
    refine T_pu rfl rfl ((by first | exact pu_ix1 Try.underlying22 ty2 rfl rfl (by omega) (by omega) | exact pu_index Try.underlying22 ty2 rfl rfl (by omega) (by omega))) ?_
    refine T_pi rfl rfl (pi_load Try.underlying2 rfl rfl (fun w' h => by obtain rfl := h; exact (by first | exact hcx | exact hck))) ?_
    refine T_pu rfl rfl (pu_add64 rfl rfl (by omega)) ?_
    refine T_pu rfl rfl (pu_assign rfl) ?_
    refine T_nil ?_
    refine W_reg ?_
    refine T_pu rfl rfl (pu_move rfl) ?_
    refine T_pu rfl rfl (pu_add64 rfl rfl (by omega)) ?_
    refine T_pu rfl rfl (pu_assign rfl) ?_
    refine T_nil ?_
    exact ⟨k + 1, .cons rfl (.cons (by rw [hsu]; rfl) (.cons rfl (.nil _))), ⟨rfl, by omega⟩, by omega⟩
  · refine W_exit rfl ?_
    refine W_seq ?_
    refine W_reg ?_
    refine T_pu rfl rfl (pu_move rfl) ?_
    refine T_pu rfl rfl (pu_rem rfl rfl (by omega)) ?_
    refine T_pu rfl rfl (pu_assign rfl) ?_
    refine T_nil ?_
    refine W_ret ?_
    obtain rfl : k = d := by omega
    have hsr := trS_range hM k (by omega)
    exact Res_1 rfl rfl ⟨by rw [tmod_nn hsr.1], rfl⟩
def ktR (n : Int) (xs : List Int) (q t : Int) : Int × Int := if (krR n xs q t).2 ≠ 0 then (0, (krR n xs q t).2) else (trF (krR n xs q t).1, 0)
theorem krR_zero {n : Int} {xs : List Int} {q t : Int} (h : (krR n xs q t).2 = 0) : ∃ d, (1 ≤ d ∧ d ≤ 1000) ∧ Fq d (krR n xs q t).1 := by
  unfold krR at h ⊢
  by_cases hB : Br n xs
  · rw [if_neg (not_not_intro hB)] at h ⊢
    by_cases h2 : n < 2 ∨ ¬ (1 ≤ q ∧ q ≤ 10006) ∨ ¬ (1 ≤ t ∧ t ≤ 10006)
    · rw [if_pos h2] at h; cases h
    · rw [if_neg h2]
      have h1 := hB.1
      have hN := nPr_le (n := n.toNat) (by omega)
      have hN1 : 1 ≤ nPr n.toNat := by have := (pr_at (n := n.toNat) (i := 1) (j := 2) (by omega) (by omega) (by omega) (by omega)).2; omega
      exact ⟨nPr n.toNat, by omega, prodF_fq _⟩
  · rw [if_pos hB] at h; cases h
set_option maxHeartbeats 4000000 in
theorem implTrace_ok (n : Int) (v : Value) (xs : List Int) (q t : Int) (w : World) (hv : RI w v xs) (hl : xs.length ≤ 9223372036854775807) (hq : -9223372036854775808 ≤ q ∧ q ≤ 9223372036854775807) (ht : -9223372036854775808 ≤ t ∧ t ≤ 9223372036854775807) :
    CallsR Try.prog 50 #[.agg #[.int .i64 n, v], .int .i64 q, .int .i64 t] w fun r w' => r = .tuple #[.int .i64 (ktR n xs q t).1, .int .i64 (ktR n xs q t).2] ∧ Kp no w w' := by
  obtain ⟨A, c, rfl, hc⟩ := hv.open
  have hs := St.start w
  refine fn_calls Try.func50 rfl rfl rfl ?_
  refine W_seq ?_
  refine W_reg ?_
  refine T_go rfl rfl (st_boxS hs rfl fun w1 b1 hk1 hb1 hs => ?_)
  refine T_pu rfl rfl (pu_assign rfl) ?_
  refine T_pu rfl rfl (pu_assign rfl) ?_
  refine T_nil ?_
  refine W_seq ?_
  refine W_reg ?_
  refine T_pi rfl rfl (pi_loadAgg Try.underlying28 rfl ty28 rfl (fun w' h => by obtain rfl := h; exact (by first | exact (hs.bk 0 rfl).cells)) (by first | rfl | (simp; done) | (rw [nums_length]; assumption) | assumption)) ?_
  refine T_pu rfl rfl (pu_move rfl) ?_
  refine T_pu rfl rfl (pu_move rfl) ?_
  refine T_go rfl rfl (st_call fn52 rfl ((implKrammer_ok n _ xs q t _ (hv.keep hs.kp) hl hq ht).mono ?_))
  rintro v w2 ⟨u2, rfl, hds2, hM2, hk2, hf2⟩
  have hs := hs.newM hM2 hk2 hf2
  refine T_pu rfl rfl (pu_move rfl) ?_
  refine T_pu rfl rfl (pu_extract rfl rfl) ?_
  refine T_pu rfl rfl (pu_extract rfl rfl) ?_
  refine T_pu rfl rfl (pu_assign rfl) ?_
  refine T_pu rfl rfl (pu_assign rfl) ?_
  refine T_nil ?_
  refine W_seq ?_
  refine W_seq ?_
  refine W_reg ?_
  refine T_pu rfl rfl (pu_move rfl) ?_
  refine T_pu rfl rfl (pu_neq rfl rfl) ?_
  refine T_nil ?_
  refine W_if rfl (fun hc2 => ?_) (fun hc2 => ?_)
  · refine W_seq ?_
    refine W_reg ?_
    refine T_pu rfl rfl (pu_move rfl) ?_
    refine T_pu rfl rfl (pu_assign rfl) ?_
    refine T_pu rfl rfl (pu_assign rfl) ?_
    refine T_nil ?_
    refine W_ret ?_
    exact Res_2 rfl rfl rfl ⟨(by unfold ktR; rw [if_pos hc2]; first | done | rfl), hs.kp⟩
  · refine W_skip ?_
    refine W_seq ?_
    have h0 := Decidable.not_not.1 hc2
    obtain ⟨d, hd, hF⟩ := krR_zero h0
    refine W_reg ?_
    refine T_pu rfl rfl (pu_move rfl) ?_
    refine T_go rfl rfl (st_call fn100 rfl ((traceIn_ok d hd _ _ _ (hs.mat 0 rfl).rm hF).mono ?_))
    rintro v w' ⟨rfl, rfl⟩
    refine T_pu rfl rfl (pu_assign rfl) ?_
    refine T_pu rfl rfl (pu_assign rfl) ?_
    refine T_nil ?_
    refine W_ret ?_
    exact Res_2 rfl rfl rfl ⟨(by unfold ktR; rw [if_neg hc2]; first | done | rfl), hs.kp⟩
set_option maxHeartbeats 4000000 in
theorem specTrace_ok (n : Int) (v : Value) (xs : List Int) (q t : Int) (w : World) (hv : RI w v xs) (hl : xs.length ≤ 9223372036854775807) (hw : ∀ x ∈ xs, -9223372036854775808 ≤ x ∧ x ≤ 9223372036854775807) :
    CallsR Try.prog 49 #[.agg #[.int .i64 n, v], .int .i64 q, .int .i64 t] w fun r w' => r = .tuple #[.int .i64 (ktR n xs q t).1, .int .i64 (ktR n xs q t).2] ∧ Kp no w w' := by
  obtain ⟨A, c, rfl, hc⟩ := hv.open
  have hs := St.start w
  have hnum := krNum n xs q t
  have hk2 : (krR n xs q t).2 = numsR n 2 xs [q, t] := by
    rw [hnum]
    unfold krR
    split
    · rfl
    · split <;> rfl
  refine fn_calls Try.func49 rfl rfl rfl ?_
  refine W_seq ?_
  refine W_reg ?_
  refine T_go rfl rfl (st_boxS hs rfl fun w1 b1 hk1 hb1 hs => ?_)
  refine T_pu rfl rfl (pu_assign rfl) ?_
  refine T_pu rfl rfl (pu_assign rfl) ?_
  refine T_nil ?_
  refine W_seq ?_
  refine W_seq ?_
  refine W_reg ?_
  refine T_pi rfl rfl (pi_loadAgg Try.underlying28 rfl ty28 rfl (fun w' h => by obtain rfl := h; exact (by first | exact (hs.bk 0 rfl).cells)) (by first | rfl | (simp; done) | (rw [nums_length]; assumption) | assumption)) ?_
  refine T_pu rfl rfl (pu_move rfl) ?_
  refine T_pu rfl rfl (pu_move rfl) ?_
  refine T_go rfl rfl (st_litI hs [q, t] rfl (fun _ => by kernel_rfl) rfl rfl fun w2 b2 hk2' hb2 hs => ?_)
  refine T_go rfl rfl (st_call fn86 rfl ((l09Numbers_ok n 2 _ _ xs [q, t] _ (hv.keep hs.kp) hl hw (hs.oi 0 rfl).ri (by simp)).mono ?_))
  rintro v w3 ⟨rfl, hk3⟩
  have hs := hs.next hk3
  rw [← hk2]
  refine T_pu rfl rfl (pu_assign rfl) ?_
  refine T_nil ?_
  refine W_seq ?_
  refine W_reg ?_
  refine T_pu rfl rfl (pu_move rfl) ?_
  refine T_pu rfl rfl (pu_neq rfl rfl) ?_
  refine T_nil ?_
  refine W_if rfl (fun hc2 => ?_) (fun hc2 => ?_)
  · refine W_seq ?_
    refine W_reg ?_
    refine T_pu rfl rfl (pu_move rfl) ?_
    refine T_pu rfl rfl (pu_assign rfl) ?_
    refine T_pu rfl rfl (pu_assign rfl) ?_
    refine T_nil ?_
    refine W_ret ?_
    exact Res_2 rfl rfl rfl ⟨(by unfold ktR; rw [if_pos hc2]; first | done | rfl), hs.kp⟩
  · refine W_skip ?_
    refine W_seq ?_
    have h0 := Decidable.not_not.1 hc2
    have hBr : Br n xs := Decidable.byContradiction fun h => hc2 (by rw [hk2, hnum, if_pos h]; decide)
    have ht1 : ¬ (n < 2 ∨ ¬ (1 ≤ q ∧ q ≤ 10006) ∨ ¬ (1 ≤ t ∧ t ≤ 10006)) := fun h => hc2 (by rw [hk2, hnum, if_neg (not_not_intro hBr), if_pos h]; decide)
    obtain ⟨m, rfl⟩ : ∃ m : Nat, n = m := ⟨n.toNat, by have := hBr.1; omega⟩
    have hm : 2 ≤ m ∧ m ≤ 8 := by have := hBr.1; omega
    have e : krR m xs q t = (prodF (nPr m) (krL m q t) xs xs.length, 0) := by unfold krR; rw [if_neg (not_not_intro hBr), if_neg ht1, Int.toNat_natCast]
    obtain ⟨d, hd, hF⟩ := krR_zero h0
    have e3 : ktR m xs q t = (trF (krR m xs q t).1, 0) := by unfold ktR; rw [if_neg hc2]
    rw [e3]
    rw [e] at hF ⊢
    refine W_reg ?_
    refine T_pu rfl rfl (pu_fld (off := 0) Try.underlying28 rfl rfl ty2 rfl rfl) ?_
    refine T_pi rfl rfl (pi_load Try.underlying2 rfl rfl (fun w' h => by obtain rfl := h; exact (by first | exact (hs.bk 1 rfl).cell rfl))) ?_
    refine T_pu rfl rfl (pu_fld (off := 1) Try.underlying28 rfl rfl ty22 rfl rfl) ?_
    refine T_pi rfl rfl (pi_load Try.underlying22 rfl rfl (fun w' h => by obtain rfl := h; exact (by first | exact (hs.bk 1 rfl).cell rfl))) ?_
    refine T_pu rfl rfl (pu_move rfl) ?_
    refine T_pu rfl rfl (pu_move rfl) ?_
    refine T_go rfl rfl (st_call fn104 rfl ((l09Krammer_ok m hm q t (by omega) (by omega) _ xs _ (hv.keep hs.kp) hBr.2.1 hBr.2.2).mono ?_))
    rintro u4 w4 ⟨hds4, hM4, hk4, hf4⟩
    have hs := hs.newM hM4 hk4 hf4
    refine T_go rfl rfl (st_call fn101 rfl ((l09Trace_ok d hd _ _ _ (hs.mat 0 rfl).rm hF).mono ?_))
    rintro v w' ⟨rfl, rfl⟩
    refine T_pu rfl rfl (pu_assign rfl) ?_
    refine T_pu rfl rfl (pu_assign rfl) ?_
    refine T_nil ?_
    refine W_ret ?_
    exact Res_2 rfl rfl rfl ⟨rfl, hs.kp⟩
set_option maxHeartbeats 8000000 in
theorem lawTrace_ok (n : Int) (v : Value) (xs : List Int) (q t : Int) (w : World) (hv : RI w v xs) (hl : xs.length ≤ 9223372036854775807) (hw : ∀ x ∈ xs, -9223372036854775808 ≤ x ∧ x ≤ 9223372036854775807) (hn : -9223372036854775808 ≤ n) (hn2 : n ≤ 9223372036854775807) (hq : -9223372036854775808 ≤ q ∧ q ≤ 9223372036854775807) (ht : -9223372036854775808 ≤ t ∧ t ≤ 9223372036854775807) :
    CallsR Try.prog 9 #[.agg #[.int .i64 n, v], .int .i64 q, .int .i64 t] w fun r w' => r = .bool true ∧ Kp no w w' := by
  obtain ⟨A, c, rfl, hc⟩ := hv.open
  have hs := St.start w
  refine fn_calls Try.func9 rfl rfl rfl ?_
  refine W_seq ?_
  refine W_reg ?_
  refine T_go rfl rfl (st_boxS hs rfl fun w1 b1 hk1 hb1 hs => ?_)
  refine T_pu rfl rfl (pu_assign rfl) ?_
  refine T_nil ?_
  refine W_seq ?_
  refine W_reg ?_
  refine T_pu rfl rfl (pu_assign rfl) ?_
  refine T_nil ?_
  refine W_seq ?_
  refine W_reg ?_
  refine T_pi rfl rfl (pi_loadAgg Try.underlying24 rfl ty24 rfl (fun w' h => by obtain rfl := h; exact (by first | exact (hs.bk 0 rfl).cells)) (by first | rfl | (simp; done) | (rw [nums_length]; assumption) | assumption)) ?_
  refine T_pu rfl rfl (pu_move rfl) ?_
  refine T_go rfl rfl (st_call fn16 rfl ((szBraid_ok n _ xs 1048576 w1 (hv.keep hs.kp) hl (by omega)).mono ?_))
  rintro v w2 ⟨rfl, hk2⟩
  have hs := hs.next hk2
  refine T_pu rfl rfl (pu_assign rfl) ?_
  refine T_nil ?_
  refine W_seq ?_
  refine W_seq ?_
  refine W_reg ?_
  refine T_pu rfl rfl (pu_move rfl) ?_
  refine T_pu rfl rfl (pu_lss rfl rfl) ?_
  refine T_nil ?_
  refine W_if rfl (fun hc3 => ?_) (fun hc3 => ?_)
  · refine W_seq ?_
    refine W_reg ?_
    refine T_pu rfl rfl (pu_assign rfl) ?_
    refine T_nil ?_
    refine W_ret ?_
    exact Res_1 rfl rfl ⟨rfl, hs.kp⟩
  · refine W_skip ?_
    refine W_seq ?_
    have hl' : xs.length ≤ 1048576 := by split at hc3 <;> omega
    refine W_reg ?_
    refine T_pi rfl rfl (pi_loadAgg Try.underlying24 rfl ty24 rfl (fun w' h => by obtain rfl := h; exact (by first | exact (hs.bk 0 rfl).cells)) (by first | rfl | (simp; done) | (rw [nums_length]; assumption) | assumption)) ?_
    refine T_go rfl rfl (st_call fn18 rfl ((toBraid_ok n _ xs w2 (hv.keep hs.kp) hl').mono ?_))
    rintro v w3 ⟨u, rfl, hn⟩
    have hs := hs.newI hn
    refine T_pu rfl rfl (pu_move rfl) ?_
    refine T_pu rfl rfl (pu_move rfl) ?_
    refine T_go rfl rfl (st_call fn49 rfl ((specTrace_ok n _ xs q t w3 (hs.oi 0 rfl).ri hl hw).mono ?_))
    rintro v w4 ⟨rfl, hk4⟩
    have hs := hs.next hk4
    refine T_pu rfl rfl (pu_move rfl) ?_
    refine T_pu rfl rfl (pu_extract rfl rfl) ?_
    refine T_pu rfl rfl (pu_extract rfl rfl) ?_
    refine T_pu rfl rfl (pu_assign rfl) ?_
    refine T_pu rfl rfl (pu_assign rfl) ?_
    refine T_nil ?_
    refine W_seq ?_
    refine W_reg ?_
    refine T_pi rfl rfl (pi_loadAgg Try.underlying24 rfl ty24 rfl (fun w' h => by obtain rfl := h; exact (by first | exact (hs.bk 1 rfl).cells)) (by first | rfl | (simp; done) | (rw [nums_length]; assumption) | assumption)) ?_
    refine T_go rfl rfl (st_call fn18 rfl ((toBraid_ok n _ xs w4 (hv.keep hs.kp) hl').mono ?_))
    rintro v w5 ⟨u2, rfl, hn⟩
    obtain ⟨A2, c2, rfl, _⟩ := hn.1.ri.open
    have hs := hs.newI hn
    refine T_go rfl rfl (st_allocS hs ty28 fun w6 b6 hk6 hb6 hs => ?_)
    refine T_goN rfl (st_storeBs hs 0 rfl ty28 rfl rfl rfl (by simp [Value.cells, Value.oneCell']) (by first | exact Nat.le_of_ble_eq_true rfl | omega | (simp; done) | (simp; omega)) fun w7 hk7 hs => ?_)
    refine T_nil ?_
    refine W_seq ?_
    refine W_reg ?_
    refine T_pi rfl rfl (pi_loadAgg Try.underlying28 rfl ty28 rfl (fun w' h => by obtain rfl := h; exact (by first | exact (hs.bk 0 rfl).cells)) (by first | rfl | (simp; done) | (rw [nums_length]; assumption) | assumption)) ?_
    refine T_pu rfl rfl (pu_move rfl) ?_
    refine T_pu rfl rfl (pu_move rfl) ?_
    refine T_go rfl rfl (st_call fn50 rfl ((implTrace_ok n _ xs q t w7 (hs.oi 1 rfl).ri hl hq ht).mono ?_))
    rintro v w8 ⟨rfl, hk8⟩
    have hs := hs.next hk8
    refine T_pu rfl rfl (pu_move rfl) ?_
    refine T_pu rfl rfl (pu_extract rfl rfl) ?_
    refine T_pu rfl rfl (pu_extract rfl rfl) ?_
    refine T_pu rfl rfl (pu_assign rfl) ?_
    refine T_pu rfl rfl (pu_assign rfl) ?_
    refine T_nil ?_
    refine W_seq ?_
    refine W_seq ?_
    refine W_reg ?_
    refine T_pu rfl rfl (pu_move rfl) ?_
    refine T_pu rfl rfl (pu_move rfl) ?_
    refine T_pu rfl rfl (pu_neq rfl rfl) ?_
    refine T_if rfl rfl (pu_move rfl) (fun hg8_3 => ?_) (fun hg8_3 => ?_)
    · refine T_no rfl rfl ?_
      refine T_no rfl rfl ?_
      refine T_no rfl rfl ?_
      refine T_pu rfl rfl (pu_pick_t rfl rfl) ?_
      refine T_nil ?_
      refine W_true rfl ?_
      refine W_seq ?_
      refine W_reg ?_
      refine T_pu rfl rfl (pu_assign rfl) ?_
      refine T_nil ?_
      refine W_ret ?_
      exfalso; simp_all
    · refine T_pu rfl rfl (pu_move rfl) ?_
      refine T_pu rfl rfl (pu_move rfl) ?_
      refine T_pu rfl rfl (pu_neq rfl rfl) ?_
      refine T_pu rfl rfl (pu_pick_f rfl rfl) ?_
      refine T_nil ?_
      refine W_if rfl (fun hc8 => ?_) (fun hc8 => ?_)
      · refine W_seq ?_
        refine W_reg ?_
        refine T_pu rfl rfl (pu_assign rfl) ?_
        refine T_nil ?_
        refine W_ret ?_
        exfalso; simp_all
      · refine W_skip ?_
        refine W_seq ?_
        refine W_seq ?_
        refine W_draw mixed 1000 IK (fun w9 hk9 => ?_)
        have hs := hs.next hk9
        refine D_pu 0 (by kernel_rfl) rfl (by kernel_rfl) (by kernel_rfl) rfl rfl (by kernel_rfl) (pi_loadAgg Try.underlying28 rfl ty28 rfl (fun w' h => by obtain ⟨_, h⟩ := h; exact h.cells (by first | exact (hs.bk 0 rfl).cells | exact (hs.bk 3 rfl).cells) id) (by first | rfl | (simp; done) | (rw [nums_length]; assumption) | assumption)) ?_
        refine D_pu 1 (by kernel_rfl) rfl (by kernel_rfl) (by kernel_rfl) rfl rfl (by kernel_rfl) (pi_loadAgg Try.underlying24 rfl ty24 rfl (fun w' h => by obtain ⟨_, h⟩ := h; exact h.cells (by first | exact (hs.bk 0 rfl).cells | exact (hs.bk 3 rfl).cells) id) (by first | rfl | (simp; done) | (rw [nums_length]; assumption) | assumption)) ?_
        refine D_go 2 (by kernel_rfl) (by first | rfl | (intro _; rfl) | (intro h; exact absurd (show true = false from h) (by decide)) | exact Kp.refl _ _ | assumption) rfl rfl rfl (st_call fn18 rfl ((toBraid_ok n _ xs _ (hv.keep hs.kp) hl').mono ?_))
        rintro v w10 ⟨u3, rfl, hn⟩
        have hkA : Kp no w9 w10 := hn.2.1
        have hs := hs.newI hn
        refine D_go 3 (by kernel_rfl) (by first | rfl | (intro _; rfl) | (intro h; exact absurd (show true = false from h) (by decide)) | exact Kp.refl _ _ | assumption) rfl rfl rfl (st_call fn20 rfl ((eqBraid_ok n n _ _ xs xs w10 (hs.oi 2 rfl).ri (hs.oi 0 rfl).ri hl hl).mono ?_))
        rintro v w11 ⟨rfl, hk11⟩
        have hkB : Kp no w9 w11 := hkA.next hk11
        have hs := hs.next hk11
        refine D_pu 4 (by kernel_rfl) rfl (by kernel_rfl) (by kernel_rfl) rfl rfl (by kernel_rfl) (Pu.stable (pu_notp rfl)) ?_
        refine D_done (by kernel_rfl) (by first | rfl | (intro _; rfl) | (intro h; exact absurd (show true = false from h) (by decide)) | exact Kp.refl _ _ | assumption) ?_
        refine W_if rfl (fun hc10 => ?_) (fun hc10 => ?_)
        · refine W_seq ?_
          refine W_reg ?_
          refine T_pu rfl rfl (pu_assign rfl) ?_
          refine T_nil ?_
          refine W_ret ?_
          exfalso; simp_all
        · refine W_skip ?_
          refine W_seq ?_
          refine W_reg ?_
          refine T_pu rfl rfl (pu_assign rfl) ?_
          refine T_nil ?_
          refine W_ret ?_
          exact Res_1 rfl rfl ⟨rfl, hs.kp⟩
end Go.Proofs.Ytdpbfdjpeofbmaa.L
