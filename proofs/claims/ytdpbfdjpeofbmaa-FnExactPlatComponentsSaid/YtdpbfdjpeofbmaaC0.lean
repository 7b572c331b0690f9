/- Matrices of the field: whether they are, copies, sizes, equality, zero and unit. -/
import Derived.Test.YtdpbfdjpeofbmaaA4
import Derived.Test.YtdpbfdjpeofbmaaL10
namespace Go.Proofs.Ytdpbfdjpeofbmaa.L
set_option linter.unusedVariables false
set_option maxRecDepth 100000

def Fr (n : Nat) (xs : List Int) : Prop := xs.length = n ∧ ∀ x ∈ xs, 0 ≤ x ∧ x ≤ 10006
def Fm (xss : List (List Int)) : Prop := 1 ≤ xss.length ∧ xss.length ≤ 28 ∧ ∀ xs ∈ xss, Fr xss.length xs
instance (n : Nat) (xs : List Int) : Decidable (Fr n xs) := by unfold Fr; infer_instance
instance (xss : List (List Int)) : Decidable (Fm xss) := by unfold Fm; infer_instance
theorem rr_mem' {xss : List (List Int)} {i : Nat} (h : i < xss.length) : rr xss i ∈ xss := rr_mem (by omega) (by omega)
theorem take_allM {p : List Int → Prop} {xss : List (List Int)} {k : Nat} (h : ∀ i : Nat, i < k → p (rr xss i)) (hk : k = xss.length) : ∀ xs ∈ xss, p xs := by
  intro xs hx
  obtain ⟨i, hi⟩ := List.getElem?_of_mem hx
  have hil := (List.getElem?_eq_some_iff.1 hi).1
  have := h i (by omega)
  have e := rr_get (xss := xss) (i := (i : Int)) (by omega) (by omega)
  rw [Int.toNat_natCast, hi] at e
  rwa [Option.some.inj e]

set_option maxHeartbeats 8000000 in
theorem IsFieldMatrix_ok (v : Value) (xss : List (List Int)) (w : World) (hv : RM w v xss) (hl : xss.length ≤ 9223372036854775807) (hr : ∀ xs ∈ xss, xs.length ≤ 9223372036854775807) :
    CallsR Try.prog 40 #[v] w fun r w' => r = .bool (decide (Fm xss)) ∧ w = w' := by
  obtain ⟨A, c, rfl, hc⟩ := hv.open
  refine fn_calls Try.func40 rfl rfl rfl ?_
  refine W_seq ?_
  refine W_reg ?_
  refine T_pu rfl rfl (pu_assign rfl) ?_
  refine T_nil ?_
  refine W_seq ?_
  refine W_reg ?_
  refine T_pu rfl rfl (pu_move rfl) ?_
  refine T_pu rfl rfl (pu_len Try.underlying32 rfl) ?_
  refine T_pu rfl rfl (pu_assign rfl) ?_
  refine T_nil ?_
  refine W_seq ?_
  refine W_seq ?_
  refine W_reg ?_
  refine T_pu rfl rfl (pu_move rfl) ?_
  refine T_pu rfl rfl (pu_lss rfl rfl) ?_
  refine T_if rfl rfl (pu_move rfl) (fun hg2_2 => ?_) (fun hg2_2 => ?_)
  · refine T_no rfl rfl ?_
    refine T_no rfl rfl ?_
    refine T_pu rfl rfl (pu_pick_t rfl rfl) ?_
    refine T_nil ?_
    refine W_true rfl ?_
    refine W_seq ?_
    refine W_reg ?_
    refine T_pu rfl rfl (pu_assign rfl) ?_
    refine T_nil ?_
    refine W_ret ?_
    refine Res_1 rfl rfl ⟨?_, rfl⟩
    congr 1
    exact (decide_eq_false (fun h => by have h1 := h.1; have h2 := h.2.1; first | omega | simp_all | (simp at hc2; omega))).symm
  · refine T_pu rfl rfl (pu_move rfl) ?_
    refine T_pu rfl rfl (pu_gtr rfl rfl) ?_
    refine T_pu rfl rfl (pu_pick_f rfl rfl) ?_
    refine T_nil ?_
    refine W_if rfl (fun hc2 => ?_) (fun hc2 => ?_)
    · refine W_seq ?_
      refine W_reg ?_
      refine T_pu rfl rfl (pu_assign rfl) ?_
      refine T_nil ?_
      refine W_ret ?_
      refine Res_1 rfl rfl ⟨?_, rfl⟩
      congr 1
      exact (decide_eq_false (fun h => by have h1 := h.1; have h2 := h.2.1; first | omega | simp_all | (simp at hc2; omega))).symm
    · refine W_skip ?_
      refine W_seq ?_
      refine W_seq ?_
      have hlen : 1 ≤ xss.length ∧ xss.length ≤ 28 := by omega
      refine W_reg ?_
      refine T_pu rfl rfl (pu_move rfl) ?_
      refine T_pu rfl rfl (pu_len Try.underlying32 rfl) ?_
      refine T_pu rfl rfl (pu_move rfl) ?_
      refine T_nil ?_
      refine W_block ?_
      refine W_loop (σ := Nat) (fun k => [(3, .int .i64 xss.length), (16, .slice A xss.length c), (17, .int .i64 xss.length), (18, .int .i64 k)]) (fun k w' => w = w' ∧ k ≤ xss.length ∧ ∀ i : Nat, i < k → Fr xss.length (rr xss i)) (fun k => xss.length - k) 0 ?_ ?_ ?_
      · exact .cons rfl (.cons rfl (.cons rfl (.cons rfl (.nil _))))
      · exact ⟨rfl, Nat.zero_le _, fun i h => by omega⟩
      rintro k w2 ⟨rfl, hkl, hall⟩
      refine W_seq ?_
      refine W_reg ?_
      refine T_pu rfl rfl (pu_lss rfl rfl) ?_
      refine T_nil ?_
      refine W_seq ?_
      refine W_if rfl (fun hc5 => ?_) (fun hc5 => ?_)
      · refine W_skip ?_
        refine W_seq ?_
        refine W_block ?_
        refine W_seq ?_
        obtain ⟨a, B, cc, rfl, hcell, hri⟩ := hv.row (i := k) (by omega) (by omega)
        have hrl := hr _ (rr_mem' (i := k) (by omega))
        refine W_reg ?_
        refine T_pu rfl rfl ((by first | exact pu_ix1 Try.underlying32 ty22 rfl rfl (by omega) (by omega) | exact pu_index Try.underlying32 ty22 rfl rfl (by omega) (by omega))) ?_
        refine T_pi rfl rfl (pi_load Try.underlying22 rfl rfl (fun w' h => by obtain rfl := h; exact (by first | exact hcell))) ?_
        refine T_pu rfl rfl (pu_assign rfl) ?_
        refine T_nil ?_
        refine W_seq ?_
        refine W_seq ?_
        refine W_reg ?_
        refine T_pu rfl rfl (pu_move rfl) ?_
        refine T_pu rfl rfl (pu_len Try.underlying22 rfl) ?_
        refine T_pu rfl rfl (pu_move rfl) ?_
        refine T_pu rfl rfl (pu_neq rfl rfl) ?_
        refine T_nil ?_
        refine W_if rfl (fun hc7 => ?_) (fun hc7 => ?_)
        · refine W_seq ?_
          refine W_reg ?_
          refine T_pu rfl rfl (pu_assign rfl) ?_
          refine T_nil ?_
          refine W_ret ?_
          refine Res_1 rfl rfl ⟨?_, rfl⟩
          congr 1
          exact (decide_eq_false (fun h => by have h1 := (h.2.2 _ (rr_mem' (i := k) (by omega))).1; omega)).symm
        · refine W_skip ?_
          refine W_seq ?_
          refine W_reg ?_
          refine T_pu rfl rfl (pu_move rfl) ?_
          refine T_pu rfl rfl (pu_len Try.underlying22 rfl) ?_
          refine T_pu rfl rfl (pu_move rfl) ?_
          refine T_nil ?_
          refine W_block ?_
          refine W_loop (σ := Nat) (fun j => [(3, .int .i64 xss.length), (16, .slice (some a) xss.length c), (17, .int .i64 xss.length), (18, .int .i64 k), (26, .slice B (rr xss k).length cc), (27, .int .i64 (rr xss k).length), (28, .int .i64 j)]) (fun j w' => w = w' ∧ j ≤ (rr xss k).length ∧ ∀ i : Nat, i < j → 0 ≤ rd (rr xss k) i ∧ rd (rr xss k) i ≤ 10006) (fun j => (rr xss k).length - j) 0 ?_ ?_ ?_
          · exact .cons rfl (.cons rfl (.cons rfl (.cons rfl (.cons rfl (.cons rfl (.cons rfl (.nil _)))))))
          · exact ⟨rfl, Nat.zero_le _, fun i h => by omega⟩
          rintro j w3 ⟨rfl, hjl, hin⟩
          refine W_seq ?_
          refine W_reg ?_
          refine T_pu rfl rfl (pu_lss rfl rfl) ?_
          refine T_nil ?_
          refine W_seq ?_
          refine W_if rfl (fun hc10 => ?_) (fun hc10 => ?_)
          · refine W_skip ?_
            refine W_seq ?_
            refine W_block ?_
            refine W_seq ?_
            obtain ⟨b, rfl⟩ := hri.addr (i := j) (by omega) (by omega)
            refine W_reg ?_
            refine T_pu rfl rfl ((by first | exact pu_ix1 Try.underlying22 ty2 rfl rfl (by omega) (by omega) | exact pu_index Try.underlying22 ty2 rfl rfl (by omega) (by omega))) ?_
            refine T_pi rfl rfl (pi_load Try.underlying2 rfl rfl (fun w' h => by obtain rfl := h; exact (by first | exact hri.at (by omega) (by omega)))) ?_
            refine T_pu rfl rfl (pu_assign rfl) ?_
            refine T_nil ?_
            refine W_seq ?_
            refine W_reg ?_
            refine T_pu rfl rfl (pu_move rfl) ?_
            refine T_go rfl rfl (st_call fn98 rfl ((within_ok _ _ _ _).mono ?_))
            rintro v w' ⟨rfl, rfl⟩
            refine T_pu rfl rfl (pu_notp rfl) ?_
            refine T_nil ?_
            refine W_if rfl (fun hc12 => ?_) (fun hc12 => ?_)
            · refine W_seq ?_
              refine W_reg ?_
              refine T_pu rfl rfl (pu_assign rfl) ?_
              refine T_nil ?_
              refine W_ret ?_
              refine Res_1 rfl rfl ⟨?_, rfl⟩
              congr 1
              exact (decide_eq_false (fun h => by have h1 := (h.2.2 _ (rr_mem' (i := k) (by omega))).2 _ (rd_mem (i := j) (by omega)); simp at hc12; omega)).symm
            · refine W_skip ?_
              refine W_reg ?_
              refine T_pu rfl rfl (pu_add64 rfl rfl (by omega)) ?_
              refine T_pu rfl rfl (pu_move rfl) ?_
              refine T_nil ?_
              exact ⟨j + 1, .cons rfl (.cons rfl (.cons rfl (.cons rfl (.cons rfl (.cons rfl (.cons rfl (.nil _))))))), ⟨rfl, by omega, fun i hi => by
                by_cases e : i = j
                · subst e; simp at hc12; omega
                · exact hin i (by omega)⟩, by omega⟩
          · refine W_exit rfl ?_
            refine W_reg ?_
            refine T_pu rfl rfl (pu_add64 rfl rfl (by omega)) ?_
            refine T_pu rfl rfl (pu_move rfl) ?_
            refine T_nil ?_
            exact ⟨k + 1, .cons rfl (.cons rfl (.cons rfl (.cons rfl (.nil _)))), ⟨rfl, by omega, fun i hi => by
              by_cases e : i = k
              · subst e; exact ⟨by omega, take_all hin (by omega)⟩
              · exact hall i (by omega)⟩, by omega⟩
      · refine W_exit rfl ?_
        refine W_seq ?_
        refine W_reg ?_
        refine T_pu rfl rfl (pu_assign rfl) ?_
        refine T_nil ?_
        refine W_ret ?_
        refine Res_1 rfl rfl ⟨?_, rfl⟩
        congr 1
        exact (decide_eq_true ⟨hlen.1, hlen.2, take_allM hall (by omega)⟩).symm
set_option maxHeartbeats 8000000 in
theorem l09Is_ok (v : Value) (xss : List (List Int)) (w : World) (hv : RM w v xss) (hl : xss.length ≤ 9223372036854775807) (hr : ∀ xs ∈ xss, xs.length ≤ 9223372036854775807) :
    CallsR Try.prog 77 #[v] w fun r w' => r = .bool (decide (Fm xss)) ∧ w = w' := by
  obtain ⟨A, c, rfl, hc⟩ := hv.open
  refine fn_calls Try.func77 rfl rfl rfl ?_
  refine W_seq ?_
  refine W_reg ?_
  refine T_pu rfl rfl (pu_assign rfl) ?_
  refine T_nil ?_
  refine W_seq ?_
  refine W_seq ?_
  refine W_reg ?_
  refine T_pu rfl rfl (pu_move rfl) ?_
  refine T_pu rfl rfl (pu_len Try.underlying32 rfl) ?_
  refine T_pu rfl rfl (pu_lss rfl rfl) ?_
  refine T_if rfl rfl (pu_move rfl) (fun hg1_3 => ?_) (fun hg1_3 => ?_)
  · refine T_no rfl rfl ?_
    refine T_no rfl rfl ?_
    refine T_no rfl rfl ?_
    refine T_pu rfl rfl (pu_pick_t rfl rfl) ?_
    refine T_nil ?_
    refine W_true rfl ?_
    refine W_seq ?_
    refine W_reg ?_
    refine T_pu rfl rfl (pu_assign rfl) ?_
    refine T_nil ?_
    refine W_ret ?_
    refine Res_1 rfl rfl ⟨?_, rfl⟩
    congr 1
    exact (decide_eq_false (fun h => by have h1 := h.1; have h2 := h.2.1; first | omega | simp_all | (simp at hc1; omega))).symm
  · refine T_pu rfl rfl (pu_move rfl) ?_
    refine T_pu rfl rfl (pu_len Try.underlying32 rfl) ?_
    refine T_pu rfl rfl (pu_gtr rfl rfl) ?_
    refine T_pu rfl rfl (pu_pick_f rfl rfl) ?_
    refine T_nil ?_
    refine W_if rfl (fun hc1 => ?_) (fun hc1 => ?_)
    · refine W_seq ?_
      refine W_reg ?_
      refine T_pu rfl rfl (pu_assign rfl) ?_
      refine T_nil ?_
      refine W_ret ?_
      refine Res_1 rfl rfl ⟨?_, rfl⟩
      congr 1
      exact (decide_eq_false (fun h => by have h1 := h.1; have h2 := h.2.1; first | omega | simp_all | (simp at hc1; omega))).symm
    · refine W_skip ?_
      refine W_seq ?_
      refine W_seq ?_
      have hlen : 1 ≤ xss.length ∧ xss.length ≤ 28 := by omega
      refine W_reg ?_
      refine T_pu rfl rfl (pu_assign rfl) ?_
      refine T_nil ?_
      refine W_block ?_
      refine W_loop (σ := Nat) (fun k => [(0, .slice A xss.length c), (3, .int .i64 k)]) (fun k w' => w = w' ∧ k ≤ xss.length ∧ ∀ i : Nat, i < k → Fr xss.length (rr xss i)) (fun k => xss.length - k) 0 ?_ ?_ ?_
      · exact .cons rfl (.cons rfl (.nil _))
      · exact ⟨rfl, Nat.zero_le _, fun i h => by omega⟩
      rintro k w2 ⟨rfl, hkl, hall⟩
      refine W_seq ?_
      refine W_seq ?_
      refine W_reg ?_
      refine T_pu rfl rfl (pu_move rfl) ?_
      refine T_pu rfl rfl (pu_move rfl) ?_
      refine T_pu rfl rfl (pu_len Try.underlying32 rfl) ?_
      refine T_pu rfl rfl (pu_lss rfl rfl) ?_
      refine T_nil ?_
      refine W_if rfl (fun hc4 => ?_) (fun hc4 => ?_)
      · refine W_skip ?_
        refine W_seq ?_
        refine W_block ?_
        refine W_seq ?_
        refine W_seq ?_
        obtain ⟨a, B, cc, rfl, hcell, hri⟩ := hv.row (i := k) (by omega) (by omega)
        have hrl := hr _ (rr_mem' (i := k) (by omega))
        refine W_reg ?_
        refine T_pu rfl rfl (pu_move rfl) ?_
        refine T_pu rfl rfl (pu_move rfl) ?_
        refine T_pu rfl rfl ((by first | exact pu_ix1 Try.underlying32 ty22 rfl rfl (by omega) (by omega) | exact pu_index Try.underlying32 ty22 rfl rfl (by omega) (by omega))) ?_
        refine T_pi rfl rfl (pi_load Try.underlying22 rfl rfl (fun w' h => by obtain rfl := h; exact (by first | exact hcell))) ?_
        refine T_pu rfl rfl (pu_len Try.underlying22 rfl) ?_
        refine T_pu rfl rfl (pu_move rfl) ?_
        refine T_pu rfl rfl (pu_len Try.underlying32 rfl) ?_
        refine T_pu rfl rfl (pu_neq rfl rfl) ?_
        refine T_nil ?_
        refine W_if rfl (fun hc6 => ?_) (fun hc6 => ?_)
        · refine W_seq ?_
          refine W_reg ?_
          refine T_pu rfl rfl (pu_assign rfl) ?_
          refine T_nil ?_
          refine W_ret ?_
          refine Res_1 rfl rfl ⟨?_, rfl⟩
          congr 1
          exact (decide_eq_false (fun h => by have h1 := (h.2.2 _ (rr_mem' (i := k) (by omega))).1; omega)).symm
        · refine W_skip ?_
          refine W_seq ?_
          refine W_reg ?_
          refine T_pu rfl rfl (pu_assign rfl) ?_
          refine T_nil ?_
          refine W_block ?_
          refine W_loop (σ := Nat) (fun j => [(0, .slice (some a) xss.length c), (3, .int .i64 k), (4, .int .i64 j)]) (fun j w' => w = w' ∧ j ≤ (rr xss k).length ∧ ∀ i : Nat, i < j → 0 ≤ rd (rr xss k) i ∧ rd (rr xss k) i ≤ 10006) (fun j => (rr xss k).length - j) 0 ?_ ?_ ?_
          · exact .cons rfl (.cons rfl (.cons rfl (.nil _)))
          · exact ⟨rfl, Nat.zero_le _, fun i h => by omega⟩
          rintro j w3 ⟨rfl, hjl, hin⟩
          refine W_seq ?_
          refine W_seq ?_
          refine W_reg ?_
          refine T_pu rfl rfl (pu_move rfl) ?_
          refine T_pu rfl rfl (pu_move rfl) ?_
          refine T_pu rfl rfl (pu_move rfl) ?_
          refine T_pu rfl rfl ((by first | exact pu_ix1 Try.underlying32 ty22 rfl rfl (by omega) (by omega) | exact pu_index Try.underlying32 ty22 rfl rfl (by omega) (by omega))) ?_
          refine T_pi rfl rfl (pi_load Try.underlying22 rfl rfl (fun w' h => by obtain rfl := h; exact (by first | exact hcell))) ?_
          refine T_pu rfl rfl (pu_len Try.underlying22 rfl) ?_
          refine T_pu rfl rfl (pu_lss rfl rfl) ?_
          refine T_nil ?_
          refine W_if rfl (fun hc9 => ?_) (fun hc9 => ?_)
          · refine W_skip ?_
            refine W_seq ?_
            refine W_block ?_
            refine W_seq ?_
            obtain ⟨b, rfl⟩ := hri.addr (i := j) (by omega) (by omega)
            refine W_reg ?_
            refine T_pu rfl rfl (pu_move rfl) ?_
            refine T_pu rfl rfl (pu_move rfl) ?_
            refine T_pu rfl rfl ((by first | exact pu_ix1 Try.underlying32 ty22 rfl rfl (by omega) (by omega) | exact pu_index Try.underlying32 ty22 rfl rfl (by omega) (by omega))) ?_
            refine T_pi rfl rfl (pi_load Try.underlying22 rfl rfl (fun w' h => by obtain rfl := h; exact (by first | exact hcell | exact hri.at (by omega) (by omega)))) ?_
            refine T_pu rfl rfl (pu_move rfl) ?_
            refine T_pu rfl rfl ((by first | exact pu_ix1 Try.underlying22 ty2 rfl rfl (by omega) (by omega) | exact pu_index Try.underlying22 ty2 rfl rfl (by omega) (by omega))) ?_
            refine T_pi rfl rfl (pi_load Try.underlying2 rfl rfl (fun w' h => by obtain rfl := h; exact (by first | exact hcell | exact hri.at (by omega) (by omega)))) ?_
            refine T_go rfl rfl (st_call fn135 rfl ((l01In_ok _ _ _ _).mono ?_))
            rintro v w' ⟨rfl, rfl⟩
            refine T_pu rfl rfl (pu_notp rfl) ?_
            refine T_nil ?_
            refine W_if rfl (fun hc11 => ?_) (fun hc11 => ?_)
            · refine W_seq ?_
              refine W_reg ?_
              refine T_pu rfl rfl (pu_assign rfl) ?_
              refine T_nil ?_
              refine W_ret ?_
              refine Res_1 rfl rfl ⟨?_, rfl⟩
              congr 1
              exact (decide_eq_false (fun h => by have h1 := (h.2.2 _ (rr_mem' (i := k) (by omega))).2 _ (rd_mem (i := j) (by omega)); simp at hc11; omega)).symm
            · refine W_skip ?_
              refine W_reg ?_
              refine T_pu rfl rfl (pu_move rfl) ?_
              refine T_pu rfl rfl (pu_add64 rfl rfl (by omega)) ?_
              refine T_pu rfl rfl (pu_assign rfl) ?_
              refine T_nil ?_
              exact ⟨j + 1, .cons rfl (.cons rfl (.cons rfl (.nil _))), ⟨rfl, by omega, fun i hi => by
                by_cases e : i = j
                · subst e; simp at hc11; omega
                · exact hin i (by omega)⟩, by omega⟩
          · refine W_exit rfl ?_
            refine W_reg ?_
            refine T_pu rfl rfl (pu_move rfl) ?_
            refine T_pu rfl rfl (pu_add64 rfl rfl (by omega)) ?_
            refine T_pu rfl rfl (pu_assign rfl) ?_
            refine T_nil ?_
            exact ⟨k + 1, .cons rfl (.cons rfl (.nil _)), ⟨rfl, by omega, fun i hi => by
              by_cases e : i = k
              · subst e; exact ⟨by omega, take_all hin (by omega)⟩
              · exact hall i (by omega)⟩, by omega⟩
      · refine W_exit rfl ?_
        refine W_seq ?_
        refine W_reg ?_
        refine T_pu rfl rfl (pu_assign rfl) ?_
        refine T_nil ?_
        refine W_ret ?_
        refine Res_1 rfl rfl ⟨?_, rfl⟩
        congr 1
        exact (decide_eq_true ⟨hlen.1, hlen.2, take_allM hall (by omega)⟩).symm
theorem l09Mod_ok (x : Int) (w : World) : CallsR Try.prog 141 #[.int .i64 x] w fun r w' => r = .int .i64 (x % 10007) ∧ w = w' := by
  have h1 := Int.tmod_lt_of_pos x (show 0 < (10007 : Int) by omega)
  have h2 := Int.lt_tmod_of_pos x (show 0 < (10007 : Int) by omega)
  refine fn_calls Try.func141 rfl rfl rfl ?_
  refine W_seq ?_
  refine W_reg ?_
  refine T_pu rfl rfl (pu_assign rfl) ?_
  refine T_nil ?_
  refine W_seq ?_
  refine W_reg ?_
  refine T_pu rfl rfl (pu_move rfl) ?_
  refine T_pu rfl rfl (pu_rem rfl rfl (by omega)) ?_
  refine T_pu rfl rfl (pu_add64 rfl rfl (by omega)) ?_
  refine T_pu rfl rfl (pu_rem rfl rfl (by omega)) ?_
  refine T_pu rfl rfl (pu_assign rfl) ?_
  refine T_nil ?_
  refine W_ret ?_
  exact Res_1 rfl rfl ⟨by rw [← twice_mod (p := 10007) (by omega)], rfl⟩
theorem inField_ok (x : Int) (w : World) : CallsR Try.prog 92 #[.int .i64 x] w fun r w' => r = .int .i64 (x % 10007) ∧ w = w' := by
  have h1 := Int.tmod_lt_of_pos x (show 0 < (10007 : Int) by omega)
  have h2 := Int.lt_tmod_of_pos x (show 0 < (10007 : Int) by omega)
  refine fn_calls Try.func92 rfl rfl rfl ?_
  refine W_seq ?_
  refine W_reg ?_
  refine T_pu rfl rfl (pu_assign rfl) ?_
  refine T_nil ?_
  refine W_seq ?_
  refine W_reg ?_
  refine T_pu rfl rfl (pu_move rfl) ?_
  refine T_pu rfl rfl (pu_rem rfl rfl (by omega)) ?_
  refine T_pu rfl rfl (pu_add64 rfl rfl (by omega)) ?_
  refine T_pu rfl rfl (pu_rem rfl rfl (by omega)) ?_
  refine T_pu rfl rfl (pu_assign rfl) ?_
  refine T_nil ?_
  refine W_ret ?_
  exact Res_1 rfl rfl ⟨by rw [← twice_mod (p := 10007) (by omega)], rfl⟩
theorem szInt64SS_ok (v : Value) (xss : List (List Int)) (w : World) (hv : RM w v xss) (hl : xss.length ≤ 9223372036854775807) (hr : ∀ xs ∈ xss, xs.length ≤ 9223372036854775807) :
    CallsR Try.prog 21 #[v, .int .i64 1048576] w fun r w' => ∃ z, r = .int .i64 z ∧ w = w' ∧ (0 ≤ z → xss.length ≤ 1048576 ∧ ∀ xs ∈ xss, xs.length ≤ 1048576) := by
  obtain ⟨A, c, rfl, hc⟩ := hv.open
  refine fn_calls Try.func21 rfl rfl rfl ?_
  refine W_seq ?_
  refine W_reg ?_
  refine T_pu rfl rfl (pu_assign rfl) ?_
  refine T_nil ?_
  refine W_seq ?_
  refine W_reg ?_
  refine T_pu rfl rfl (pu_move rfl) ?_
  refine T_pu rfl rfl (pu_move rfl) ?_
  refine T_pu rfl rfl (pu_len Try.underlying32 rfl) ?_
  refine T_pu rfl rfl (pu_sub64 rfl rfl (by omega)) ?_
  refine T_pu rfl rfl (pu_assign rfl) ?_
  refine T_nil ?_
  refine W_seq ?_
  refine W_seq ?_
  refine W_reg ?_
  refine T_pu rfl rfl (pu_move rfl) ?_
  refine T_pu rfl rfl (pu_lss rfl rfl) ?_
  refine T_nil ?_
  refine W_if rfl (fun hc2 => ?_) (fun hc2 => ?_)
  · refine W_seq ?_
    refine W_reg ?_
    refine T_pu rfl rfl (pu_assign rfl) ?_
    refine T_nil ?_
    refine W_ret ?_
    exact Res_1 rfl rfl ⟨_, rfl, rfl, fun h => by omega⟩
  · refine W_skip ?_
    refine W_seq ?_
    refine W_seq ?_
    refine W_reg ?_
    refine T_pu rfl rfl (pu_assign rfl) ?_
    refine T_nil ?_
    refine W_block ?_
    refine W_loop (σ := Nat × Int) (fun s => [(0, .slice A xss.length c), (1, .int .i64 s.2), (5, .int .i64 s.1)]) (fun s w' => w = w' ∧ s.1 ≤ xss.length ∧ 0 ≤ s.2 ∧ s.2 ≤ 1048576 ∧ ∀ i : Nat, i < s.1 → (rr xss i).length ≤ 1048576) (fun s => xss.length - s.1) (0, 1048576 - xss.length) ?_ ?_ ?_
    · exact .cons rfl (.cons rfl (.cons rfl (.nil _)))
    · exact ⟨rfl, Nat.zero_le _, by show 0 ≤ (1048576 - xss.length : Int); omega, by show (1048576 - xss.length : Int) ≤ _; omega, fun i h => by omega⟩
    rintro ⟨k, lf⟩ w2 ⟨rfl, hkl, h0, h1, hall⟩
    dsimp only at hkl h0 h1 hall ⊢
    refine W_seq ?_
    refine W_seq ?_
    refine W_reg ?_
    refine T_pu rfl rfl (pu_move rfl) ?_
    refine T_pu rfl rfl (pu_move rfl) ?_
    refine T_pu rfl rfl (pu_len Try.underlying32 rfl) ?_
    refine T_pu rfl rfl (pu_lss rfl rfl) ?_
    refine T_nil ?_
    refine W_if rfl (fun hc5 => ?_) (fun hc5 => ?_)
    · refine W_skip ?_
      refine W_seq ?_
      refine W_block ?_
      refine W_seq ?_
      obtain ⟨a, B, cc, rfl, hcell, hri⟩ := hv.row (i := k) (by omega) (by omega)
      have hrl := hr _ (rr_mem' (i := k) (by omega))
      refine W_reg ?_
      refine T_pu rfl rfl (pu_move rfl) ?_
      refine T_pu rfl rfl (pu_move rfl) ?_
      refine T_pu rfl rfl ((by first | exact pu_ix1 Try.underlying32 ty22 rfl rfl (by omega) (by omega) | exact pu_index Try.underlying32 ty22 rfl rfl (by omega) (by omega))) ?_
      refine T_pi rfl rfl (pi_load Try.underlying22 rfl rfl (fun w' h => by obtain rfl := h; exact (by first | exact hcell))) ?_
      refine T_pu rfl rfl (pu_move rfl) ?_
      refine T_go rfl rfl (st_call fn66 rfl ((szInt64S_ok _ (rr xss k) lf _ hri hrl ⟨h0, h1⟩).mono ?_))
      rintro v w' ⟨rfl, rfl⟩
      refine T_pu rfl rfl (pu_assign rfl) ?_
      refine T_nil ?_
      refine W_seq ?_
      refine W_reg ?_
      refine T_pu rfl rfl (pu_move rfl) ?_
      refine T_pu rfl rfl (pu_lss rfl rfl) ?_
      refine T_nil ?_
      refine W_if rfl (fun hc8 => ?_) (fun hc8 => ?_)
      · refine W_seq ?_
        refine W_reg ?_
        refine T_pu rfl rfl (pu_assign rfl) ?_
        refine T_nil ?_
        refine W_ret ?_
        exact Res_1 rfl rfl ⟨_, rfl, rfl, fun h => by omega⟩
      · refine W_skip ?_
        refine W_reg ?_
        refine T_pu rfl rfl (pu_move rfl) ?_
        refine T_pu rfl rfl (pu_add64 rfl rfl (by omega)) ?_
        refine T_pu rfl rfl (pu_assign rfl) ?_
        refine T_nil ?_
        refine ⟨(k + 1, if lf - (rr xss k).length < 0 then -1 else lf - (rr xss k).length), .cons rfl (.cons rfl (.cons rfl (.nil _))), ⟨rfl, by show k + 1 ≤ _; omega, ?_, ?_, fun i hi => ?_⟩, by show xss.length - (k + 1) < xss.length - k; omega⟩
        · show 0 ≤ (if lf - (rr xss k).length < 0 then -1 else lf - (rr xss k).length : Int)
          omega
        · show (if lf - (rr xss k).length < 0 then -1 else lf - (rr xss k).length : Int) ≤ _
          split <;> omega
        · by_cases e : i = k
          · subst e; split at hc8 <;> omega
          · exact hall i (by have : i < k + 1 := hi; omega)
    · refine W_exit rfl ?_
      refine W_seq ?_
      refine W_reg ?_
      refine T_pu rfl rfl (pu_move rfl) ?_
      refine T_pu rfl rfl (pu_assign rfl) ?_
      refine T_nil ?_
      refine W_ret ?_
      exact Res_1 rfl rfl ⟨_, rfl, rfl, fun h => ⟨by omega, take_allM hall (by omega)⟩⟩
theorem set_fillL {α : Type} (xs : List α) (d : α) (x : α) (k : Nat) (hk : xs[k]? = some x) : (xs.take k ++ List.replicate (xs.length - k) d).set k x = xs.take (k + 1) ++ List.replicate (xs.length - (k + 1)) d := by
  have hkl := (List.getElem?_eq_some_iff.1 hk).1
  rw [List.set_append_right _ _ (by simp; omega)]
  have : k - (xs.take k).length = 0 := by simp; omega
  rw [this, show xs.length - k = (xs.length - (k + 1)) + 1 from by omega, List.replicate_succ, List.set_cons_zero, List.take_add_one, hk]
  simp
set_option maxHeartbeats 8000000 in
theorem toInt64SS_ok (v : Value) (xss : List (List Int)) (w : World) (hv : RM w v xss) (hl : xss.length ≤ 1048576) (hr : ∀ xs ∈ xss, xs.length ≤ 1048576) :
    CallsR Try.prog 23 #[v] w fun r w' => NewM w w' r xss := by
  obtain ⟨A, c, rfl, hc⟩ := hv.open
  have hs := St.start w
  refine fn_calls Try.func23 rfl rfl rfl ?_
  refine W_seq ?_
  refine W_reg ?_
  refine T_pu rfl rfl (pu_assign rfl) ?_
  refine T_nil ?_
  refine W_seq ?_
  refine W_reg ?_
  refine T_pu rfl rfl (pu_move rfl) ?_
  refine T_pu rfl rfl (pu_len Try.underlying32 rfl) ?_
  refine T_go rfl rfl (st_makeM hs Try.underlying32 ty22 rfl rfl (by omega) fun w1 b hk1 hb hs => ?_)
  refine T_pu rfl rfl (pu_assign rfl) ?_
  refine T_nil ?_
  refine W_seq ?_
  refine W_seq ?_
  refine W_reg ?_
  refine T_pu rfl rfl (pu_assign rfl) ?_
  refine T_nil ?_
  refine W_block ?_
  refine W_loop (σ := Nat) (fun k => [(0, .slice A xss.length c), (3, .slice (some ⟨b, 0, none⟩) xss.length xss.length), (4, .int .i64 k)]) (fun k w' => k ≤ xss.length ∧ ∃ hds, St no w [aMat (.slice (some ⟨b, 0, none⟩) xss.length xss.length) hds (xss.take k ++ List.replicate (xss.length - k) [])] w') (fun k => xss.length - k) 0 ?_ ?_ ?_
  · exact .cons rfl (.cons rfl (.cons rfl (.nil _)))
  · exact ⟨Nat.zero_le _, _, hs⟩
  rintro k w2 ⟨hkl, hds, hs⟩
  have hv2 := hv.keep hs.kp
  refine W_seq ?_
  refine W_seq ?_
  refine W_reg ?_
  refine T_pu rfl rfl (pu_move rfl) ?_
  refine T_pu rfl rfl (pu_move rfl) ?_
  refine T_pu rfl rfl (pu_len Try.underlying32 rfl) ?_
  refine T_pu rfl rfl (pu_lss rfl rfl) ?_
  refine T_nil ?_
  refine W_if rfl (fun hc3 => ?_) (fun hc3 => ?_)
  · refine W_skip ?_
    refine W_seq ?_
    refine W_block ?_
    obtain ⟨a, B, cc, rfl, hcell, hri⟩ := hv2.row (i := k) (by omega) (by omega)
    have hrl := hr _ (rr_mem' (i := k) (by omega))
    refine W_reg ?_
    refine T_pu rfl rfl (pu_move rfl) ?_
    refine T_pu rfl rfl (pu_move rfl) ?_
    refine T_pu rfl rfl (pu_move rfl) ?_
    refine T_pu rfl rfl (pu_move rfl) ?_
    refine T_pu rfl rfl ((by first | exact pu_ix1 Try.underlying32 ty22 rfl rfl (by omega) (by omega) | exact pu_index Try.underlying32 ty22 rfl rfl (by omega) (by omega))) ?_
    refine T_pi rfl rfl (pi_load Try.underlying22 rfl rfl (fun w' h => by obtain rfl := h; exact (by first | exact hcell))) ?_
    refine T_go rfl rfl (st_call fn71 rfl ((toInt64S_ok _ (rr xss k) _ hri hrl).mono ?_))
    rintro v w3 hn
    have hs := (hs.newI hn).front 1 rfl
    obtain ⟨A3, c3, rfl, _⟩ := hn.1.ri.open
    refine T_pu rfl rfl ((by first | exact pu_ix1 Try.underlying32 ty22 rfl rfl (by omega) (by omega) | exact pu_index Try.underlying32 ty22 rfl rfl (by omega) (by omega))) ?_
    refine T_goN rfl (st_putM hs ty22 rfl rfl rfl (by first | omega | (simp; omega)) (by first | omega | (simp; omega)) fun w4 hk4 hs => ?_)
    rw [Int.toNat_natCast, set_fillL xss [] (rr xss k) k (by have := rr_get (xss := xss) (i := (k : Int)) (by omega) (by omega); simpa using this)] at hs
    refine T_nil ?_
    refine W_reg ?_
    refine T_pu rfl rfl (pu_move rfl) ?_
    refine T_pu rfl rfl (pu_add64 rfl rfl (by omega)) ?_
    refine T_pu rfl rfl (pu_assign rfl) ?_
    refine T_nil ?_
    exact ⟨k + 1, .cons rfl (.cons rfl (.cons rfl (.nil _))), ⟨by omega, _, hs⟩, by omega⟩
  · refine W_exit rfl ?_
    refine W_seq ?_
    refine W_reg ?_
    refine T_pu rfl rfl (pu_move rfl) ?_
    refine T_pu rfl rfl (pu_assign rfl) ?_
    refine T_nil ?_
    refine W_ret ?_
    obtain rfl : k = xss.length := by omega
    have e : xss.take xss.length ++ List.replicate (xss.length - xss.length) [] = xss := by simp
    rw [e] at hs
    exact Res_1 rfl rfl (hs.isNewM 0 rfl)
theorem rr_ext {xss yss : List (List Int)} (hl : xss.length = yss.length) (h : ∀ i : Nat, i < xss.length → rr xss i = rr yss i) : xss = yss := by
  refine List.ext_getElem? fun i => ?_
  by_cases hi : i < xss.length
  · have h1 := rr_get (xss := xss) (i := (i : Int)) (by omega) (by omega)
    have h2 := rr_get (xss := yss) (i := (i : Int)) (by omega) (by omega)
    rw [Int.toNat_natCast] at h1 h2
    rw [h1, h2, h i hi]
  · rw [List.getElem?_eq_none (by omega), List.getElem?_eq_none (by omega)]
set_option maxHeartbeats 8000000 in
theorem eqInt64SS_ok (v u : Value) (xss yss : List (List Int)) (w : World) (hv : RM w v xss) (hu : RM w u yss) (hl : xss.length ≤ 9223372036854775807) (hl' : yss.length ≤ 9223372036854775807) (hr : ∀ xs ∈ xss, xs.length ≤ 9223372036854775807) (hr' : ∀ xs ∈ yss, xs.length ≤ 9223372036854775807) :
    CallsR Try.prog 25 #[v, u] w fun r w' => r = .bool (decide (xss = yss)) ∧ Kp no w w' := by
  obtain ⟨A, c, rfl, hc⟩ := hv.open
  obtain ⟨B, c', rfl, hc'⟩ := hu.open
  refine fn_calls Try.func25 rfl rfl rfl ?_
  refine W_seq ?_
  refine W_reg ?_
  refine T_pu rfl rfl (pu_assign rfl) ?_
  refine T_nil ?_
  refine W_seq ?_
  refine W_seq ?_
  refine W_reg ?_
  refine T_pu rfl rfl (pu_move rfl) ?_
  refine T_pu rfl rfl (pu_len Try.underlying32 rfl) ?_
  refine T_pu rfl rfl (pu_move rfl) ?_
  refine T_pu rfl rfl (pu_len Try.underlying32 rfl) ?_
  refine T_pu rfl rfl (pu_neq rfl rfl) ?_
  refine T_nil ?_
  refine W_if rfl (fun hc1 => ?_) (fun hc1 => ?_)
  · refine W_seq ?_
    refine W_reg ?_
    refine T_pu rfl rfl (pu_assign rfl) ?_
    refine T_nil ?_
    refine W_ret ?_
    refine Res_1 rfl rfl ⟨?_, Kp.refl _ _⟩
    congr 1
    exact (decide_eq_false (fun e => hc1 (by rw [e]))).symm
  · refine W_skip ?_
    refine W_seq ?_
    refine W_seq ?_
    have hll : xss.length = yss.length := by omega
    refine W_reg ?_
    refine T_pu rfl rfl (pu_assign rfl) ?_
    refine T_nil ?_
    refine W_block ?_
    refine W_loop (σ := Nat) (fun k => [(0, .slice A xss.length c), (1, .slice B yss.length c'), (5, .int .i64 k)]) (fun k w' => k ≤ xss.length ∧ Kp no w w' ∧ ∀ i : Nat, i < k → rr xss i = rr yss i) (fun k => xss.length - k) 0 ?_ ?_ ?_
    · exact .cons rfl (.cons rfl (.cons rfl (.nil _)))
    · exact ⟨Nat.zero_le _, Kp.refl _ _, fun i h => by omega⟩
    rintro k w2 ⟨hkl, hk2, hall⟩
    refine W_seq ?_
    refine W_seq ?_
    refine W_reg ?_
    refine T_pu rfl rfl (pu_move rfl) ?_
    refine T_pu rfl rfl (pu_move rfl) ?_
    refine T_pu rfl rfl (pu_len Try.underlying32 rfl) ?_
    refine T_pu rfl rfl (pu_lss rfl rfl) ?_
    refine T_nil ?_
    refine W_if rfl (fun hc4 => ?_) (fun hc4 => ?_)
    · refine W_skip ?_
      refine W_seq ?_
      refine W_block ?_
      refine W_seq ?_
      refine W_draw mixed 1000 IK (fun w3 hk3 => ?_)
      have hv3 := hv.keep (hk2.next hk3)
      have hu3 := hu.keep (hk2.next hk3)
      obtain ⟨a, B1, cc1, rfl, hcell1, hri1⟩ := hv3.row (i := k) (by omega) (by omega)
      obtain ⟨b, B2, cc2, rfl, hcell2, hri2⟩ := hu3.row (i := k) (by omega) (by omega)
      refine D_pu 0 (by kernel_rfl) rfl (by kernel_rfl) (by kernel_rfl) rfl rfl (by kernel_rfl) (Pu.stable (pu_move rfl)) ?_
      refine D_pu 1 (by kernel_rfl) rfl (by kernel_rfl) (by kernel_rfl) rfl rfl (by kernel_rfl) (Pu.stable (pu_move rfl)) ?_
      refine D_pu 2 (by kernel_rfl) rfl (by kernel_rfl) (by kernel_rfl) rfl rfl (by kernel_rfl) (Pu.stable ((by first | exact pu_ix1 Try.underlying32 ty22 rfl rfl (by omega) (by omega) | exact pu_index Try.underlying32 ty22 rfl rfl (by omega) (by omega)))) ?_
      refine D_pu 3 (by kernel_rfl) rfl (by kernel_rfl) (by kernel_rfl) rfl rfl (by kernel_rfl) (pi_load Try.underlying22 rfl rfl (fun w' h => by obtain ⟨_, h⟩ := h; exact h.cell (by first | exact hcell1 | exact hcell2) id)) ?_
      refine D_pu 4 (by kernel_rfl) rfl (by kernel_rfl) (by kernel_rfl) rfl rfl (by kernel_rfl) (Pu.stable (pu_move rfl)) ?_
      refine D_pu 5 (by kernel_rfl) rfl (by kernel_rfl) (by kernel_rfl) rfl rfl (by kernel_rfl) (Pu.stable (pu_move rfl)) ?_
      refine D_pu 6 (by kernel_rfl) rfl (by kernel_rfl) (by kernel_rfl) rfl rfl (by kernel_rfl) (Pu.stable ((by first | exact pu_ix1 Try.underlying32 ty22 rfl rfl (by omega) (by omega) | exact pu_index Try.underlying32 ty22 rfl rfl (by omega) (by omega)))) ?_
      refine D_pu 7 (by kernel_rfl) rfl (by kernel_rfl) (by kernel_rfl) rfl rfl (by kernel_rfl) (pi_load Try.underlying22 rfl rfl (fun w' h => by obtain ⟨_, h⟩ := h; exact h.cell (by first | exact hcell1 | exact hcell2) id)) ?_
      refine D_go 8 (by kernel_rfl) (by first | rfl | (intro _; rfl) | (intro h; exact absurd (show true = false from h) (by decide)) | exact Kp.refl _ _ | assumption) rfl rfl rfl (st_call fn76 rfl ((eqInt64S_ok _ _ (rr xss k) (rr yss k) _ hri1 hri2 (hr _ (rr_mem' (by omega))) (hr' _ (rr_mem' (by omega)))).mono ?_))
      rintro v w4 ⟨rfl, hk4⟩
      refine D_pu 9 (by kernel_rfl) rfl (by kernel_rfl) (by kernel_rfl) rfl rfl (by kernel_rfl) (Pu.stable (pu_notp rfl)) ?_
      refine D_done (by kernel_rfl) (by first | rfl | (intro _; rfl) | (intro h; exact absurd (show true = false from h) (by decide)) | exact Kp.refl _ _ | assumption) ?_
      refine W_if rfl (fun hc6 => ?_) (fun hc6 => ?_)
      · refine W_seq ?_
        refine W_reg ?_
        refine T_pu rfl rfl (pu_assign rfl) ?_
        refine T_nil ?_
        refine W_ret ?_
        refine Res_1 rfl rfl ⟨?_, (hk2.next hk3).next hk4⟩
        congr 1
        exact (decide_eq_false (fun e => hc6 (by rw [e]))).symm
      · refine W_skip ?_
        refine W_reg ?_
        refine T_pu rfl rfl (pu_move rfl) ?_
        refine T_pu rfl rfl (pu_add64 rfl rfl (by omega)) ?_
        refine T_pu rfl rfl (pu_assign rfl) ?_
        refine T_nil ?_
        exact ⟨k + 1, .cons rfl (.cons rfl (.cons rfl (.nil _))), ⟨by omega, (hk2.next hk3).next hk4, fun i hi => by
          by_cases e : i = k
          · subst e; simpa using hc6
          · exact hall i (by omega)⟩, by omega⟩
    · refine W_exit rfl ?_
      refine W_seq ?_
      refine W_reg ?_
      refine T_pu rfl rfl (pu_assign rfl) ?_
      refine T_nil ?_
      refine W_ret ?_
      refine Res_1 rfl rfl ⟨?_, hk2⟩
      congr 1
      exact (decide_eq_true (rr_ext hll (fun i hi => hall i (by omega)))).symm
end Go.Proofs.Ytdpbfdjpeofbmaa.L
