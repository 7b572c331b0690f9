/- Determinants: both functions, and the law. -/
import Derived.Test.YtdpbfdjpeofbmaaC3
namespace Go.Proofs.Ytdpbfdjpeofbmaa.L
set_option linter.unusedVariables false
set_option maxRecDepth 100000

def detR (xss : List (List Int)) : Int × Int := if ¬ Fm xss then (0, 1) else (detF xss, 0)
def invR (xss : List (List Int)) : List (List Int) × Int := if ¬ Fm xss then ([], 1) else if detF xss = 0 then ([], 5) else (invF xss, 0)
def Short (xss : List (List Int)) : Prop := xss.length ≤ 9223372036854775807 ∧ ∀ xs ∈ xss, xs.length ≤ 9223372036854775807
theorem implDet_ok (v : Value) (xss : List (List Int)) (w : World) (hv : RM w v xss) (hl : Short xss) :
    CallsR Try.prog 24 #[v] w fun r w' => r = .tuple #[.int .i64 (detR xss).1, .int .i64 (detR xss).2] ∧ Kp no w w' := by
  refine fn_calls Try.func24 rfl rfl rfl ?_
  refine W_seq ?_
  refine W_reg ?_
  refine T_pu rfl rfl (pu_assign rfl) ?_
  refine T_pu rfl rfl (pu_assign rfl) ?_
  refine T_nil ?_
  refine W_seq ?_
  refine W_seq ?_
  refine W_reg ?_
  refine T_pu rfl rfl (pu_move rfl) ?_
  refine T_go rfl rfl (st_call fn40 rfl ((IsFieldMatrix_ok _ xss _ hv hl.1 hl.2).mono ?_))
  rintro v w' ⟨rfl, rfl⟩
  refine T_pu rfl rfl (pu_notp rfl) ?_
  refine T_nil ?_
  refine W_if rfl (fun hc1 => ?_) (fun hc1 => ?_)
  · refine W_seq ?_
    refine W_reg ?_
    refine T_pu rfl rfl (pu_assign rfl) ?_
    refine T_pu rfl rfl (pu_assign rfl) ?_
    refine T_nil ?_
    refine W_ret ?_
    have hF : ¬ Fm xss := by simpa using hc1
    exact Res_2 rfl rfl rfl ⟨by unfold detR; rw [if_pos hF], Kp.refl _ _⟩
  · refine W_skip ?_
    refine W_seq ?_
    have hF : Fm xss := by simpa using hc1
    refine W_reg ?_
    refine T_pu rfl rfl (pu_move rfl) ?_
    refine T_go rfl rfl (st_call fn79 rfl ((inverseIn_ok _ xss _ hv hF).mono ?_))
    rintro v w1 ⟨u, rfl, hn⟩
    refine T_pu rfl rfl (pu_move rfl) ?_
    refine T_pu rfl rfl (pu_extract rfl rfl) ?_
    refine T_pu rfl rfl (pu_extract rfl rfl) ?_
    refine T_pu rfl rfl (pu_assign rfl) ?_
    refine T_pu rfl rfl (pu_assign rfl) ?_
    refine T_nil ?_
    refine W_seq ?_
    refine W_reg ?_
    refine T_pu rfl rfl (pu_move rfl) ?_
    refine T_pu rfl rfl (pu_assign rfl) ?_
    refine T_pu rfl rfl (pu_assign rfl) ?_
    refine T_nil ?_
    refine W_ret ?_
    obtain ⟨_, _, hk, _⟩ := hn
    exact Res_2 rfl rfl rfl ⟨by unfold detR; rw [if_neg (not_not_intro hF)]; rfl, hk⟩
theorem specDet_ok (v : Value) (xss : List (List Int)) (w : World) (hv : RM w v xss) (hl : Short xss) :
    CallsR Try.prog 22 #[v] w fun r w' => r = .tuple #[.int .i64 (detR xss).1, .int .i64 (detR xss).2] ∧ Kp no w w' := by
  refine fn_calls Try.func22 rfl rfl rfl ?_
  refine W_seq ?_
  refine W_reg ?_
  refine T_pu rfl rfl (pu_assign rfl) ?_
  refine T_pu rfl rfl (pu_assign rfl) ?_
  refine T_nil ?_
  refine W_seq ?_
  refine W_seq ?_
  refine W_reg ?_
  refine T_pu rfl rfl (pu_move rfl) ?_
  refine T_go rfl rfl (st_call fn77 rfl ((l09Is_ok _ xss _ hv hl.1 hl.2).mono ?_))
  rintro v w' ⟨rfl, rfl⟩
  refine T_pu rfl rfl (pu_notp rfl) ?_
  refine T_nil ?_
  refine W_if rfl (fun hc1 => ?_) (fun hc1 => ?_)
  · refine W_seq ?_
    refine W_reg ?_
    refine T_pu rfl rfl (pu_assign rfl) ?_
    refine T_pu rfl rfl (pu_assign rfl) ?_
    refine T_nil ?_
    refine W_ret ?_
    have hF : ¬ Fm xss := by simpa using hc1
    exact Res_2 rfl rfl rfl ⟨by unfold detR; rw [if_pos hF], Kp.refl _ _⟩
  · refine W_skip ?_
    refine W_seq ?_
    have hF : Fm xss := by simpa using hc1
    refine W_reg ?_
    refine T_pu rfl rfl (pu_move rfl) ?_
    refine T_go rfl rfl (st_call fn78 rfl ((l09Solve_ok _ xss _ hv hF).mono ?_))
    rintro v w1 ⟨u, rfl, hn⟩
    refine T_pu rfl rfl (pu_move rfl) ?_
    refine T_pu rfl rfl (pu_extract rfl rfl) ?_
    refine T_pu rfl rfl (pu_extract rfl rfl) ?_
    refine T_pu rfl rfl (pu_assign rfl) ?_
    refine T_pu rfl rfl (pu_assign rfl) ?_
    refine T_nil ?_
    refine W_seq ?_
    refine W_reg ?_
    refine T_pu rfl rfl (pu_move rfl) ?_
    refine T_pu rfl rfl (pu_assign rfl) ?_
    refine T_pu rfl rfl (pu_assign rfl) ?_
    refine T_nil ?_
    refine W_ret ?_
    obtain ⟨_, _, hk, _⟩ := hn
    exact Res_2 rfl rfl rfl ⟨by unfold detR; rw [if_neg (not_not_intro hF)]; rfl, hk⟩
theorem implInv_ok (v : Value) (xss : List (List Int)) (w : World) (hv : RM w v xss) (hl : Short xss) :
    CallsR Try.prog 32 #[v] w fun r w' => ∃ u, r = .tuple #[u, .int .i64 (invR xss).2] ∧ NewM w w' u (invR xss).1 := by
  refine fn_calls Try.func32 rfl rfl rfl ?_
  refine W_seq ?_
  refine W_reg ?_
  refine T_pu rfl rfl (pu_assign rfl) ?_
  refine T_pu rfl rfl (pu_assign rfl) ?_
  refine T_nil ?_
  refine W_seq ?_
  refine W_seq ?_
  refine W_reg ?_
  refine T_pu rfl rfl (pu_move rfl) ?_
  refine T_go rfl rfl (st_call fn40 rfl ((IsFieldMatrix_ok _ xss _ hv hl.1 hl.2).mono ?_))
  rintro v w' ⟨rfl, rfl⟩
  refine T_pu rfl rfl (pu_notp rfl) ?_
  refine T_nil ?_
  refine W_if rfl (fun hc1 => ?_) (fun hc1 => ?_)
  · refine W_seq ?_
    refine W_reg ?_
    refine T_pu rfl rfl (pu_assign rfl) ?_
    refine T_pu rfl rfl (pu_assign rfl) ?_
    refine T_nil ?_
    refine W_ret ?_
    have hF : ¬ Fm xss := by simpa using hc1
    have e : invR xss = ([], 1) := by unfold invR; rw [if_pos hF]
    rw [e]
    exact Res_2 rfl rfl rfl ⟨_, rfl, newM_none (Kp.refl _ _)⟩
  · refine W_skip ?_
    refine W_seq ?_
    have hF : Fm xss := by simpa using hc1
    refine W_reg ?_
    refine T_pu rfl rfl (pu_move rfl) ?_
    refine T_go rfl rfl (st_call fn79 rfl ((inverseIn_ok _ xss _ hv hF).mono ?_))
    rintro v w1 ⟨u, rfl, hn⟩
    refine T_pu rfl rfl (pu_move rfl) ?_
    refine T_pu rfl rfl (pu_extract rfl rfl) ?_
    refine T_pu rfl rfl (pu_extract rfl rfl) ?_
    refine T_pu rfl rfl (pu_assign rfl) ?_
    refine T_pu rfl rfl (pu_assign rfl) ?_
    refine T_nil ?_
    refine W_seq ?_
    refine W_seq ?_
    refine W_reg ?_
    refine T_pu rfl rfl (pu_move rfl) ?_
    refine T_pu rfl rfl (pu_eql rfl rfl) ?_
    refine T_nil ?_
    refine W_if rfl (fun hc4 => ?_) (fun hc4 => ?_)
    · refine W_seq ?_
      refine W_reg ?_
      refine T_pu rfl rfl (pu_assign rfl) ?_
      refine T_pu rfl rfl (pu_assign rfl) ?_
      refine T_nil ?_
      refine W_ret ?_
      have e : invR xss = ([], 5) := by unfold invR; rw [if_neg (not_not_intro hF), if_pos hc4]
      rw [e]
      obtain ⟨_, _, hk, _⟩ := hn
      exact Res_2 rfl rfl rfl ⟨_, rfl, newM_none hk⟩
    · refine W_skip ?_
      refine W_seq ?_
      refine W_reg ?_
      refine T_pu rfl rfl (pu_move rfl) ?_
      refine T_pu rfl rfl (pu_assign rfl) ?_
      refine T_pu rfl rfl (pu_assign rfl) ?_
      refine T_nil ?_
      refine W_ret ?_
      have e : invR xss = (invF xss, 0) := by unfold invR; rw [if_neg (not_not_intro hF), if_neg hc4]
      rw [e]
      exact Res_2 rfl rfl rfl ⟨_, rfl, hn⟩
theorem specInv_ok (v : Value) (xss : List (List Int)) (w : World) (hv : RM w v xss) (hl : Short xss) :
    CallsR Try.prog 31 #[v] w fun r w' => ∃ u, r = .tuple #[u, .int .i64 (invR xss).2] ∧ NewM w w' u (invR xss).1 := by
  refine fn_calls Try.func31 rfl rfl rfl ?_
  refine W_seq ?_
  refine W_reg ?_
  refine T_pu rfl rfl (pu_assign rfl) ?_
  refine T_pu rfl rfl (pu_assign rfl) ?_
  refine T_nil ?_
  refine W_seq ?_
  refine W_seq ?_
  refine W_reg ?_
  refine T_pu rfl rfl (pu_move rfl) ?_
  refine T_go rfl rfl (st_call fn77 rfl ((l09Is_ok _ xss _ hv hl.1 hl.2).mono ?_))
  rintro v w' ⟨rfl, rfl⟩
  refine T_pu rfl rfl (pu_notp rfl) ?_
  refine T_nil ?_
  refine W_if rfl (fun hc1 => ?_) (fun hc1 => ?_)
  · refine W_seq ?_
    refine W_reg ?_
    refine T_pu rfl rfl (pu_assign rfl) ?_
    refine T_pu rfl rfl (pu_assign rfl) ?_
    refine T_nil ?_
    refine W_ret ?_
    have hF : ¬ Fm xss := by simpa using hc1
    have e : invR xss = ([], 1) := by unfold invR; rw [if_pos hF]
    rw [e]
    exact Res_2 rfl rfl rfl ⟨_, rfl, newM_none (Kp.refl _ _)⟩
  · refine W_skip ?_
    refine W_seq ?_
    have hF : Fm xss := by simpa using hc1
    refine W_reg ?_
    refine T_pu rfl rfl (pu_move rfl) ?_
    refine T_go rfl rfl (st_call fn78 rfl ((l09Solve_ok _ xss _ hv hF).mono ?_))
    rintro v w1 ⟨u, rfl, hn⟩
    refine T_pu rfl rfl (pu_move rfl) ?_
    refine T_pu rfl rfl (pu_extract rfl rfl) ?_
    refine T_pu rfl rfl (pu_extract rfl rfl) ?_
    refine T_pu rfl rfl (pu_assign rfl) ?_
    refine T_pu rfl rfl (pu_assign rfl) ?_
    refine T_nil ?_
    refine W_seq ?_
    refine W_seq ?_
    refine W_reg ?_
    refine T_pu rfl rfl (pu_move rfl) ?_
    refine T_pu rfl rfl (pu_eql rfl rfl) ?_
    refine T_nil ?_
    refine W_if rfl (fun hc4 => ?_) (fun hc4 => ?_)
    · refine W_seq ?_
      refine W_reg ?_
      refine T_pu rfl rfl (pu_assign rfl) ?_
      refine T_pu rfl rfl (pu_assign rfl) ?_
      refine T_nil ?_
      refine W_ret ?_
      have e : invR xss = ([], 5) := by unfold invR; rw [if_neg (not_not_intro hF), if_pos hc4]
      rw [e]
      obtain ⟨_, _, hk, _⟩ := hn
      exact Res_2 rfl rfl rfl ⟨_, rfl, newM_none hk⟩
    · refine W_skip ?_
      refine W_seq ?_
      refine W_reg ?_
      refine T_pu rfl rfl (pu_move rfl) ?_
      refine T_pu rfl rfl (pu_assign rfl) ?_
      refine T_pu rfl rfl (pu_assign rfl) ?_
      refine T_nil ?_
      refine W_ret ?_
      have e : invR xss = (invF xss, 0) := by unfold invR; rw [if_neg (not_not_intro hF), if_neg hc4]
      rw [e]
      exact Res_2 rfl rfl rfl ⟨_, rfl, hn⟩

set_option maxHeartbeats 8000000 in
theorem lawDet_ok (v : Value) (xss : List (List Int)) (w : World) (hv : RM w v xss) (hl : xss.length ≤ 9223372036854775807) (hw : ∀ xs ∈ xss, xs.length ≤ 9223372036854775807 ∧ ∀ x ∈ xs, -9223372036854775808 ≤ x ∧ x ≤ 9223372036854775807) :
    CallsR Try.prog 4 #[v] w fun r w' => r = .bool true ∧ Kp no w w' := by
  have hs := St.start w
  have hS : Short xss := ⟨hl, fun xs hx => (hw xs hx).1⟩
  refine fn_calls Try.func4 rfl rfl rfl ?_
  refine W_seq ?_
  refine W_reg ?_
  refine T_pu rfl rfl (pu_assign rfl) ?_
  refine T_nil ?_
  refine W_seq ?_
  refine W_reg ?_
  refine T_pu rfl rfl (pu_assign rfl) ?_
  refine T_nil ?_
  refine W_seq ?_
  refine W_reg ?_
  refine T_pu rfl rfl (pu_move rfl) ?_
  refine T_pu rfl rfl (pu_move rfl) ?_
  refine T_go rfl rfl (st_call fn21 rfl ((szInt64SS_ok _ xss _ hv hl hS.2).mono ?_))
  rintro v w1 ⟨z, rfl, rfl, hz⟩
  refine T_pu rfl rfl (pu_assign rfl) ?_
  refine T_nil ?_
  refine W_seq ?_
  refine W_seq ?_
  refine W_reg ?_
  refine T_pu rfl rfl (pu_move rfl) ?_
  refine T_pu rfl rfl (pu_lss rfl rfl) ?_
  refine T_nil ?_
  refine W_if rfl (fun hc3 => ?_) (fun hc3 => ?_)
  · refine W_seq ?_
    refine W_reg ?_
    refine T_pu rfl rfl (pu_assign rfl) ?_
    refine T_nil ?_
    refine W_ret ?_
    exact Res_1 rfl rfl ⟨rfl, hs.kp⟩
  · refine W_skip ?_
    refine W_seq ?_
    obtain ⟨hl1, hl2⟩ := hz (by omega)
    refine W_reg ?_
    refine T_pu rfl rfl (pu_move rfl) ?_
    refine T_go rfl rfl (st_call fn23 rfl ((toInt64SS_ok _ xss _ (hv.keep hs.kp) hl1 hl2).mono ?_))
    rintro v w2 ⟨h2, hM2, hk2, hf2⟩
    have hs := hs.newM hM2 hk2 hf2
    refine T_go rfl rfl (st_call fn22 rfl ((specDet_ok _ xss _ (hs.mat 0 rfl).rm hS).mono ?_))
    rintro v w3 ⟨rfl, hk3⟩
    have hs := (hs.next hk3).drop 0
    simp only [List.eraseIdx] at hs
    refine T_pu rfl rfl (pu_move rfl) ?_
    refine T_pu rfl rfl (pu_extract rfl rfl) ?_
    refine T_pu rfl rfl (pu_extract rfl rfl) ?_
    refine T_pu rfl rfl (pu_assign rfl) ?_
    refine T_pu rfl rfl (pu_assign rfl) ?_
    refine T_nil ?_
    refine W_seq ?_
    refine W_reg ?_
    refine T_pu rfl rfl (pu_move rfl) ?_
    refine T_go rfl rfl (st_call fn23 rfl ((toInt64SS_ok _ xss _ (hv.keep hs.kp) hl1 hl2).mono ?_))
    rintro v w4 ⟨h4, hM4, hk4, hf4⟩
    have hs := hs.newM hM4 hk4 hf4
    refine T_pu rfl rfl (pu_assign rfl) ?_
    refine T_nil ?_
    refine W_seq ?_
    refine W_reg ?_
    refine T_pu rfl rfl (pu_move rfl) ?_
    refine T_go rfl rfl (st_call fn24 rfl ((implDet_ok _ xss _ (hs.mat 0 rfl).rm hS).mono ?_))
    rintro v w5 ⟨rfl, hk5⟩
    have hs := hs.next hk5
    refine T_pu rfl rfl (pu_move rfl) ?_
    refine T_pu rfl rfl (pu_extract rfl rfl) ?_
    refine T_pu rfl rfl (pu_extract rfl rfl) ?_
    refine T_pu rfl rfl (pu_assign rfl) ?_
    refine T_pu rfl rfl (pu_assign rfl) ?_
    refine T_nil ?_
    refine W_seq ?_
    refine W_seq ?_
    refine W_reg ?_
    refine T_pu rfl rfl (pu_move rfl) ?_
    refine T_pu rfl rfl (pu_move rfl) ?_
    refine T_pu rfl rfl (pu_neq rfl rfl) ?_
    refine T_if rfl rfl (pu_move rfl) (fun hg8_3 => ?_) (fun hg8_3 => ?_)
    · refine T_no rfl rfl ?_
      refine T_no rfl rfl ?_
      refine T_no rfl rfl ?_
      refine T_pu rfl rfl (pu_pick_t rfl rfl) ?_
      refine T_nil ?_
      refine W_true rfl ?_
      refine W_seq ?_
      refine W_reg ?_
      refine T_pu rfl rfl (pu_assign rfl) ?_
      refine T_nil ?_
      refine W_ret ?_
      exfalso; simp_all
    · refine T_pu rfl rfl (pu_move rfl) ?_
      refine T_pu rfl rfl (pu_move rfl) ?_
      refine T_pu rfl rfl (pu_neq rfl rfl) ?_
      refine T_pu rfl rfl (pu_pick_f rfl rfl) ?_
      refine T_nil ?_
      refine W_if rfl (fun hc8 => ?_) (fun hc8 => ?_)
      · refine W_seq ?_
        refine W_reg ?_
        refine T_pu rfl rfl (pu_assign rfl) ?_
        refine T_nil ?_
        refine W_ret ?_
        exfalso; simp_all
      · refine W_skip ?_
        refine W_seq ?_
        refine W_seq ?_
        refine W_reg ?_
        refine T_pu rfl rfl (pu_move rfl) ?_
        refine T_pu rfl rfl (pu_move rfl) ?_
        refine T_go rfl rfl (st_call fn23 rfl ((toInt64SS_ok _ xss _ (hv.keep hs.kp) hl1 hl2).mono ?_))
        rintro v w6 ⟨h6, hM6, hk6, hf6⟩
        have hs := hs.newM hM6 hk6 hf6
        refine T_go rfl rfl (st_call fn25 rfl ((eqInt64SS_ok _ _ xss xss _ (hs.mat 1 rfl).rm (hs.mat 0 rfl).rm hl hl hS.2 hS.2).mono ?_))
        rintro v w7 ⟨rfl, hk7⟩
        have hs := hs.next hk7
        refine T_pu rfl rfl (pu_notp rfl) ?_
        refine T_nil ?_
        refine W_if rfl (fun hc10 => ?_) (fun hc10 => ?_)
        · refine W_seq ?_
          refine W_reg ?_
          refine T_pu rfl rfl (pu_assign rfl) ?_
          refine T_nil ?_
          refine W_ret ?_
          exfalso; simp_all
        · refine W_skip ?_
          refine W_seq ?_
          refine W_reg ?_
          refine T_pu rfl rfl (pu_assign rfl) ?_
          refine T_nil ?_
          refine W_ret ?_
          exact Res_1 rfl rfl ⟨rfl, hs.kp⟩
end Go.Proofs.Ytdpbfdjpeofbmaa.L
