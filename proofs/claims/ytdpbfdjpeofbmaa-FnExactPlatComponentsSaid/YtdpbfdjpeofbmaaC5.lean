/- Marks: a result is written over, and read again. The law of the inverse matrix. -/
import Derived.Test.YtdpbfdjpeofbmaaC4
namespace Go.Proofs.Ytdpbfdjpeofbmaa.L
set_option linter.unusedVariables false
set_option maxRecDepth 100000

def upTo (k : Int) (n : Nat) : List Int := (List.range n).map fun i : Nat => k + (i : Int)
theorem upTo_length (k : Int) (n : Nat) : (upTo k n).length = n := by simp [upTo]
theorem upTo_rd {k : Int} {n i : Nat} (h : i < n) : rd (upTo k n) i = k + i := by simp [upTo, rd, List.getD_eq_getElem?_getD, h]
/-- What 'mark' writes: the rows get the numbers from k on. -/
def mkM : List (List Int) → Int → List (List Int)
  | [], _ => []
  | xs :: xss, k => upTo k xs.length :: mkM xss (k + xs.length)
def totM : List (List Int) → Int
  | [] => 0
  | xs :: xss => xs.length + totM xss
theorem totM_take (xss : List (List Int)) : ∀ i, i < xss.length → totM (xss.take (i + 1)) = totM (xss.take i) + (rr xss i).length := by
  induction xss with
  | nil => intro i h; simp at h
  | cons xs xss ih =>
    intro i h
    cases i with
    | zero => simp [totM, rr]
    | succ i =>
      have := ih i (by simpa using h)
      simp only [List.take_succ_cons, totM]
      rw [this]
      have e : rr (xs :: xss) ((i + 1 : Nat) : Int) = rr xss (i : Int) := by simp [rr]
      rw [e]
      omega
theorem totM_nonneg (xss : List (List Int)) : 0 ≤ totM xss := by
  induction xss with
  | nil => simp [totM]
  | cons xs xss ih => simp only [totM]; omega
theorem totM_take_le (xss : List (List Int)) (i : Nat) : totM (xss.take i) ≤ totM xss := by
  induction xss generalizing i with
  | nil => simp [totM]
  | cons xs xss ih =>
    cases i with
    | zero => have := totM_nonneg (xs :: xss); simpa [totM] using this
    | succ i => have := ih i; simp only [List.take_succ_cons, totM]; omega
theorem mkM_length (xss : List (List Int)) (k : Int) : (mkM xss k).length = xss.length := by
  induction xss generalizing k with
  | nil => rfl
  | cons xs xss ih => simp [mkM, ih]
theorem mkM_rr (xss : List (List Int)) (k : Int) : ∀ i : Nat, i < xss.length → rr (mkM xss k) i = upTo (k + totM (xss.take i)) (rr xss i).length := by
  induction xss generalizing k with
  | nil => intro i h; simp at h
  | cons xs xss ih =>
    intro i h
    cases i with
    | zero => simp [mkM, totM, rr]
    | succ i =>
      have := ih (k + xs.length) i (by simpa using h)
      simp only [mkM, List.take_succ_cons, totM]
      have e : rr (xs :: xss) ((i + 1 : Nat) : Int) = rr xss (i : Int) := by simp [rr]
      have e2 : rr (upTo k xs.length :: mkM xss (k + xs.length)) ((i + 1 : Nat) : Int) = rr (mkM xss (k + xs.length)) (i : Int) := by simp [rr]
      rw [e, e2, this]
      congr 1
      omega
/-- The rows before i are marked. -/
def mkTo (xss : List (List Int)) (k : Int) (i : Nat) : List (List Int) := (mkM xss k).take i ++ xss.drop i
theorem mkTo_length {xss : List (List Int)} {k : Int} {i : Nat} : (mkTo xss k i).length = xss.length := by
  unfold mkTo
  rw [List.length_append, List.length_take, List.length_drop, mkM_length]
  omega
theorem mkTo_rr {xss : List (List Int)} {k : Int} {i : Nat} (h : i < xss.length) : rr (mkTo xss k i) i = rr xss i := by
  unfold mkTo rr
  rw [List.getD_eq_getElem?_getD, List.getD_eq_getElem?_getD, Int.toNat_natCast, List.getElem?_append_right (by simp [mkM_length]; omega), List.getElem?_drop]
  congr 2
  simp [mkM_length]
  omega
theorem mkTo_set {xss : List (List Int)} {k : Int} {i : Nat} (h : i < xss.length) : (mkTo xss k i).set i (upTo (k + totM (xss.take i)) (rr xss i).length) = mkTo xss k (i + 1) := by
  unfold mkTo
  have hl : ((mkM xss k).take i).length = i := by simp [mkM_length]; omega
  have hm := rr_get (xss := mkM xss k) (i := (i : Int)) (by omega) (by rw [mkM_length]; omega)
  rw [Int.toNat_natCast, mkM_rr xss k i h] at hm
  rw [List.set_append_right _ _ (by omega), hl, Nat.sub_self, List.take_add_one, hm]
  rw [List.drop_eq_getElem_cons h, List.set_cons_zero]
  show _ ++ _ = (_ ++ [_]) ++ _
  rw [List.append_assoc]
  rfl
theorem mkTo_zero (xss : List (List Int)) (k : Int) : mkTo xss k 0 = xss := by simp [mkTo]
theorem mkTo_all (xss : List (List Int)) (k : Int) : mkTo xss k xss.length = mkM xss k := by
  unfold mkTo
  rw [List.take_of_length_le (by rw [mkM_length]; exact Nat.le_refl _), List.drop_length, List.append_nil]
/-- A row of a matrix, written by a call. -/
theorem MatH.rowSet {w w' : World} {v : Value} {hds : List Value} {xss : List (List Int)} (h : MatH w v hds xss) {i : Nat} {q : Value} (hi : hds[i]? = some q) (hk : Kp (fun k => q.ownBlock = some k) w w') {xs : List Int} (hO : OI w' q xs) : MatH w' v hds (xss.set i xs) := by
  refine ⟨Ow.keep h.head hk (fun k e e' => h.headApart hi e' e), by simpa using h.len, fun j q' xs' hj hx => ?_, h.apart⟩
  by_cases hij : i = j
  · subst hij
    have hlt : i < xss.length := by rw [← h.len]; exact (List.getElem?_eq_some_iff.1 hi).1
    rw [List.getElem?_set_self hlt] at hx
    cases hx
    rw [hi] at hj
    cases hj
    exact hO
  · rw [List.getElem?_set_ne hij] at hx
    exact (h.row j q' xs' hj hx).keep hk fun k e e' => h.apart j i q' q hj hi (Ne.symm hij) k e e'
theorem St.rowSet {F0 : Nat → Prop} {w0 w w' : World} {As : List Asr} {v : Value} {hds : List Value} {xss : List (List Int)} (hs : St F0 w0 As w) (j : Nat) (hj : As[j]? = some (aMat v hds xss)) {i : Nat} {q : Value} (hi : hds[i]? = some q) (hk : Kp (fun k => q.ownBlock = some k) w w') {xs : List Int} (hO : OI w' q xs) : St F0 w0 (As.set j (aMat v hds (xss.set i xs))) w' :=
  hs.upd j hj (hk.mono fun k _ e => .inr ⟨q, List.mem_of_getElem? hi, e⟩) (aMat _ _ _) ((hs.mat j hj).rowSet hi hk hO) (fun k e => .inl e)
/-- The head of a row, whether it is nil or not. -/
theorem MatH.headAt {w : World} {a : Option Addr} {n c : Nat} {hds : List Value} {xss : List (List Int)} (h : MatH w (.slice a n c) hds xss) {i : Nat} (hi : i < xss.length) : ∃ g q, a = some ⟨g, 0, none⟩ ∧ hds[i]? = some q ∧ w.cell? ⟨g, i, none⟩ = some q ∧ OI w q (rr xss i) := by
  have hlt : i < hds.length := by rw [h.len]; exact hi
  have hq := List.getElem?_eq_getElem hlt
  have hO := h.row i _ _ hq (by have := rr_get (xss := xss) (i := (i : Int)) (by omega) (by omega); rwa [Int.toNat_natCast] at this)
  rcases h.open with ⟨_, e⟩ | ⟨g, c', e, _⟩
  · rw [e] at hi; simp at hi
  · cases e
    refine ⟨g, _, rfl, hq, ?_, hO⟩
    obtain ⟨A', c'', e', _, _, hcell⟩ := Ow.rs h.head
    obtain ⟨a, ha, hc'⟩ := hcell _ _ hq
    obtain ⟨e1, _, _⟩ := Value.slice.inj e'
    subst e1
    cases ha
    rwa [add_zero'] at hc'
set_option maxHeartbeats 8000000 in
theorem markInt64S_ok (v : Value) (xs : List Int) (k : Int) (w : World) (hO : OI w v xs) (hl : xs.length ≤ 1048576) (hk0 : 0 ≤ k ∧ k ≤ 4398046511104) :
    CallsR Try.prog 84 #[v, .int .i64 k] w fun r w' => r = .int .i64 (k + xs.length) ∧ Kp (fun b => v.ownBlock = some b) w w' ∧ OI w' v (upTo k xs.length) := by
  have hs : St (fun b => v.ownBlock = some b) w [aOI v xs] w := St.startF w _ (fun A hA => by simp only [List.mem_singleton] at hA; subst hA; exact ⟨hO, fun b hb => ⟨hb, OI.lt hO hb⟩⟩) (by simp)
  generalize hF : (fun b => v.ownBlock = some b) = F at *
  obtain ⟨A, c, rfl, hc⟩ := hO.ri.open
  refine fn_calls Try.func84 rfl rfl rfl ?_
  refine W_seq ?_
  refine W_reg ?_
  refine T_pu rfl rfl (pu_assign rfl) ?_
  refine T_nil ?_
  refine W_seq ?_
  refine W_seq ?_
  refine W_reg ?_
  refine T_pu rfl rfl (pu_assign rfl) ?_
  refine T_nil ?_
  refine W_block ?_
  refine W_loop (σ := Nat) (fun i => [(0, .slice A xs.length c), (1, .int .i64 (k + i)), (5, .int .i64 i)]) (fun i w' => i ≤ xs.length ∧ St F w [aOI (.slice A xs.length c) (mixL (upTo k xs.length) xs i)] w') (fun i => xs.length - i) 0 ?_ ?_ ?_
  · exact .cons rfl (.cons (by show some _ = some _; simp) (.cons rfl (.nil _)))
  · exact ⟨Nat.zero_le _, by rw [mixL_zero]; exact hs⟩
  clear hs hO
  rintro i w2 ⟨hil, hs⟩
  have hul := upTo_length k xs.length
  have hml : (mixL (upTo k xs.length) xs i).length = xs.length := mixL_length hul hil
  refine W_seq ?_
  refine W_seq ?_
  refine W_reg ?_
  refine T_pu rfl rfl (pu_move rfl) ?_
  refine T_pu rfl rfl (pu_move rfl) ?_
  refine T_pu rfl rfl (pu_len Try.underlying22 rfl) ?_
  refine T_pu rfl rfl (pu_lss rfl rfl) ?_
  refine T_nil ?_
  refine W_if rfl (fun hc2 => ?_) (fun hc2 => ?_)
  · refine W_skip ?_
    refine W_seq ?_
    refine W_block ?_
    refine W_seq ?_
    obtain ⟨b, hb⟩ : ∃ b, A = some ⟨b, 0, none⟩ := by
      rcases (hs.oi 0 rfl).open with ⟨_, e⟩ | ⟨b, c', e, _⟩
      · rw [e] at hml; simp at hml; omega
      · exact ⟨b, (Value.slice.inj e).1⟩
    subst hb
    refine W_reg ?_
    refine T_pu rfl rfl (pu_move rfl) ?_
    refine T_pu rfl rfl (pu_move rfl) ?_
    refine T_pu rfl rfl (pu_move rfl) ?_
    refine T_pu rfl rfl ((by first | exact pu_ix1 Try.underlying22 ty2 rfl rfl (by omega) (by omega) | exact pu_index Try.underlying22 ty2 rfl rfl (by omega) (by omega))) ?_
    refine T_goN rfl (st_storeI hs 0 rfl ty2 rfl rfl (by omega) (by first | omega | (simp; omega)) fun w3 hk3 hs => ?_)
    rw [Int.toNat_natCast, ← upTo_rd (k := k) (n := xs.length) (by omega), mixL_set hul (by omega)] at hs
    simp only [List.set_cons_zero] at hs
    refine T_nil ?_
    refine W_reg ?_
    refine T_pu rfl rfl (pu_move rfl) ?_
    refine T_pu rfl rfl (pu_add64 rfl rfl (by omega)) ?_
    refine T_pu rfl rfl (pu_assign rfl) ?_
    refine T_nil ?_
    refine W_reg ?_
    refine T_pu rfl rfl (pu_move rfl) ?_
    refine T_pu rfl rfl (pu_add64 rfl rfl (by omega)) ?_
    refine T_pu rfl rfl (pu_assign rfl) ?_
    refine T_nil ?_
    exact ⟨i + 1, .cons rfl (.cons (by show some _ = some _; congr 2; omega) (.cons rfl (.nil _))), ⟨by omega, hs⟩, by omega⟩
  · refine W_exit rfl ?_
    refine W_seq ?_
    refine W_reg ?_
    refine T_pu rfl rfl (pu_move rfl) ?_
    refine T_pu rfl rfl (pu_assign rfl) ?_
    refine T_nil ?_
    refine W_ret ?_
    obtain rfl : i = xs.length := by omega
    rw [mixL_all hul] at hs
    refine Res_1 rfl rfl ⟨rfl, hs.kp, ?_⟩
    have := hs.oi 0 rfl
    exact this
set_option maxHeartbeats 8000000 in
theorem heldInt64S_ok (v : Value) (n : Nat) (k : Int) (w : World) (hv : RI w v (upTo k n)) (hl : n ≤ 1048576) (hk0 : 0 ≤ k ∧ k ≤ 4398046511104) :
    CallsR Try.prog 85 #[v, .int .i64 k] w fun r w' => r = .int .i64 (k + n) ∧ w = w' := by
  have hul := upTo_length k n
  obtain ⟨A, c, rfl, hc⟩ := hv.open
  rw [hul] at hc hv ⊢
  refine fn_calls Try.func85 rfl rfl rfl ?_
  refine W_seq ?_
  refine W_reg ?_
  refine T_pu rfl rfl (pu_assign rfl) ?_
  refine T_nil ?_
  refine W_seq ?_
  refine W_seq ?_
  refine W_reg ?_
  refine T_pu rfl rfl (pu_assign rfl) ?_
  refine T_nil ?_
  refine W_block ?_
  refine W_loop (σ := Nat) (fun i => [(0, .slice A n c), (1, .int .i64 (k + i)), (5, .int .i64 i)]) (fun i w' => w = w' ∧ i ≤ n) (fun i => n - i) 0 ?_ ?_ ?_
  · exact .cons rfl (.cons (by show some _ = some _; simp) (.cons rfl (.nil _)))
  · exact ⟨rfl, Nat.zero_le _⟩
  rintro i w2 ⟨rfl, hil⟩
  refine W_seq ?_
  refine W_seq ?_
  refine W_reg ?_
  refine T_pu rfl rfl (pu_move rfl) ?_
  refine T_pu rfl rfl (pu_move rfl) ?_
  refine T_pu rfl rfl (pu_len Try.underlying22 rfl) ?_
  refine T_pu rfl rfl (pu_lss rfl rfl) ?_
  refine T_nil ?_
  refine W_if rfl (fun hc2 => ?_) (fun hc2 => ?_)
  · refine W_skip ?_
    refine W_seq ?_
    refine W_block ?_
    refine W_seq ?_
    refine W_seq ?_
    obtain ⟨a, rfl⟩ := hv.addr (i := i) (by omega) (by omega)
    have hcell := hv.at (i := i) (by omega) (by omega)
    rw [upTo_rd (by omega)] at hcell
    refine W_reg ?_
    refine T_pu rfl rfl (pu_move rfl) ?_
    refine T_pu rfl rfl (pu_move rfl) ?_
    refine T_pu rfl rfl ((by first | exact pu_ix1 Try.underlying22 ty2 rfl rfl (by omega) (by omega) | exact pu_index Try.underlying22 ty2 rfl rfl (by omega) (by omega))) ?_
    refine T_pi rfl rfl (pi_load Try.underlying2 rfl rfl (fun w' h => by obtain rfl := h; exact (by first | exact hcell))) ?_
    refine T_pu rfl rfl (pu_move rfl) ?_
    refine T_pu rfl rfl (pu_neq rfl rfl) ?_
    refine T_nil ?_
    refine W_if rfl (fun hc4 => ?_) (fun hc4 => ?_)
    · refine W_seq ?_
      refine W_reg ?_
      refine T_pu rfl rfl (pu_assign rfl) ?_
      refine T_nil ?_
      refine W_ret ?_
      exact absurd rfl hc4
    · refine W_skip ?_
      refine W_reg ?_
      refine T_pu rfl rfl (pu_move rfl) ?_
      refine T_pu rfl rfl (pu_add64 rfl rfl (by omega)) ?_
      refine T_pu rfl rfl (pu_assign rfl) ?_
      refine T_nil ?_
      refine W_reg ?_
      refine T_pu rfl rfl (pu_move rfl) ?_
      refine T_pu rfl rfl (pu_add64 rfl rfl (by omega)) ?_
      refine T_pu rfl rfl (pu_assign rfl) ?_
      refine T_nil ?_
      exact ⟨i + 1, .cons rfl (.cons (by show some _ = some _; congr 2; omega) (.cons rfl (.nil _))), ⟨rfl, by omega⟩, by omega⟩
  · refine W_exit rfl ?_
    refine W_seq ?_
    refine W_reg ?_
    refine T_pu rfl rfl (pu_move rfl) ?_
    refine T_pu rfl rfl (pu_assign rfl) ?_
    refine T_nil ?_
    refine W_ret ?_
    obtain rfl : i = n := by omega
    exact Res_1 rfl rfl ⟨rfl, rfl⟩
theorem totM_le {xss : List (List Int)} (hr : ∀ xs ∈ xss, xs.length ≤ 1048576) : totM xss ≤ 1048576 * xss.length := by
  induction xss with
  | nil => simp [totM]
  | cons xs xss ih =>
    have h1 := hr xs (by simp)
    have h2 := ih fun ys hy => hr ys (by simp [hy])
    simp only [totM, List.length_cons]
    omega
set_option maxHeartbeats 8000000 in
theorem markInt64SS_ok (v : Value) (hds : List Value) (xss : List (List Int)) (k : Int) (w : World) (hM : MatH w v hds xss) (hl : xss.length ≤ 1048576) (hr : ∀ xs ∈ xss, xs.length ≤ 1048576) (hk0 : 0 ≤ k ∧ k ≤ 1000) :
    CallsR Try.prog 29 #[v, .int .i64 k] w fun r w' => r = .int .i64 (k + totM xss) ∧ Kp (MatF v hds) w w' ∧ MatH w' v hds (mkM xss k) := by
  have hs := hM.start
  have htot := totM_le hr
  generalize hF : MatF v hds = F at *
  obtain ⟨A, c, rfl, hc⟩ := hM.rm.open
  clear hM
  refine fn_calls Try.func29 rfl rfl rfl ?_
  refine W_seq ?_
  refine W_reg ?_
  refine T_pu rfl rfl (pu_assign rfl) ?_
  refine T_nil ?_
  refine W_seq ?_
  refine W_seq ?_
  refine W_reg ?_
  refine T_pu rfl rfl (pu_assign rfl) ?_
  refine T_nil ?_
  refine W_block ?_
  refine W_loop (σ := Nat) (fun i => [(0, .slice A xss.length c), (1, .int .i64 (k + totM (xss.take i))), (5, .int .i64 i)]) (fun i w' => i ≤ xss.length ∧ St F w [aMat (.slice A xss.length c) hds (mkTo xss k i)] w') (fun i => xss.length - i) 0 ?_ ?_ ?_
  · exact .cons rfl (.cons (by show some _ = some _; simp [totM]) (.cons rfl (.nil _)))
  · exact ⟨Nat.zero_le _, by rw [mkTo_zero]; exact hs⟩
  clear hs
  rintro i w2 ⟨hil, hs⟩
  have ht1 := totM_take_le xss i
  have ht2 := totM_nonneg (xss.take i)
  refine W_seq ?_
  refine W_seq ?_
  refine W_reg ?_
  refine T_pu rfl rfl (pu_move rfl) ?_
  refine T_pu rfl rfl (pu_move rfl) ?_
  refine T_pu rfl rfl (pu_len Try.underlying32 rfl) ?_
  refine T_pu rfl rfl (pu_lss rfl rfl) ?_
  refine T_nil ?_
  refine W_if rfl (fun hc2 => ?_) (fun hc2 => ?_)
  · refine W_skip ?_
    refine W_seq ?_
    refine W_block ?_
    obtain ⟨g, q, hA, hq, hcl, hO⟩ := (hs.mat 0 rfl).headAt (i := i) (by rw [mkTo_length]; omega)
    subst hA
    rw [mkTo_rr (by omega)] at hO
    obtain ⟨B, cc, rfl, _⟩ := hO.ri.open
    have hrl := hr _ (rr_mem' (i := i) (by omega))
    refine W_reg ?_
    refine T_pu rfl rfl (pu_move rfl) ?_
    refine T_pu rfl rfl (pu_move rfl) ?_
    refine T_pu rfl rfl ((by first | exact pu_ix1 Try.underlying32 ty22 rfl rfl (by omega) (by omega) | exact pu_index Try.underlying32 ty22 rfl rfl (by omega) (by omega))) ?_
    refine T_pi rfl rfl (pi_load Try.underlying22 rfl rfl (fun w' h => by obtain rfl := h; exact (by first | exact hcl))) ?_
    refine T_pu rfl rfl (pu_move rfl) ?_
    refine T_go rfl rfl (st_call fn84 rfl ((markInt64S_ok _ (rr xss i) (k + totM (xss.take i)) _ hO (by omega) (by omega)).mono ?_))
    rintro q w3 ⟨rfl, hk3, hO3⟩
    have hs := hs.rowSet 0 rfl hq hk3 hO3
    rw [mkTo_set (by omega)] at hs
    simp only [List.set_cons_zero] at hs
    refine T_pu rfl rfl (pu_assign rfl) ?_
    refine T_nil ?_
    refine W_reg ?_
    refine T_pu rfl rfl (pu_move rfl) ?_
    refine T_pu rfl rfl (pu_add64 rfl rfl (by omega)) ?_
    refine T_pu rfl rfl (pu_assign rfl) ?_
    refine T_nil ?_
    exact ⟨i + 1, .cons rfl (.cons (by show some _ = some _; rw [totM_take xss i (by omega), Int.add_assoc]) (.cons rfl (.nil _))), ⟨by omega, hs⟩, by omega⟩
  · refine W_exit rfl ?_
    refine W_seq ?_
    refine W_reg ?_
    refine T_pu rfl rfl (pu_move rfl) ?_
    refine T_pu rfl rfl (pu_assign rfl) ?_
    refine T_nil ?_
    refine W_ret ?_
    obtain rfl : i = xss.length := by omega
    rw [mkTo_all] at hs
    refine Res_1 rfl rfl ⟨by rw [List.take_length], hs.kp, ?_⟩
    exact hs.mat 0 rfl
set_option maxHeartbeats 8000000 in
theorem heldInt64SS_ok (v : Value) (xss : List (List Int)) (k : Int) (w : World) (hv : RM w v (mkM xss k)) (hl : xss.length ≤ 1048576) (hr : ∀ xs ∈ xss, xs.length ≤ 1048576) (hk0 : 0 ≤ k ∧ k ≤ 1000) :
    CallsR Try.prog 30 #[v, .int .i64 k] w fun r w' => r = .int .i64 (k + totM xss) ∧ w = w' := by
  have htot := totM_le hr
  have hml := mkM_length xss k
  obtain ⟨A, c, rfl, hc⟩ := hv.open
  rw [hml] at hc hv ⊢
  refine fn_calls Try.func30 rfl rfl rfl ?_
  refine W_seq ?_
  refine W_reg ?_
  refine T_pu rfl rfl (pu_assign rfl) ?_
  refine T_nil ?_
  refine W_seq ?_
  refine W_seq ?_
  refine W_reg ?_
  refine T_pu rfl rfl (pu_assign rfl) ?_
  refine T_nil ?_
  refine W_block ?_
  refine W_loop (σ := Nat) (fun i => [(0, .slice A xss.length c), (1, .int .i64 (k + totM (xss.take i))), (5, .int .i64 i)]) (fun i w' => w = w' ∧ i ≤ xss.length) (fun i => xss.length - i) 0 ?_ ?_ ?_
  · exact .cons rfl (.cons (by show some _ = some _; simp [totM]) (.cons rfl (.nil _)))
  · exact ⟨rfl, Nat.zero_le _⟩
  rintro i w2 ⟨rfl, hil⟩
  have ht1 := totM_take_le xss i
  have ht2 := totM_nonneg (xss.take i)
  refine W_seq ?_
  refine W_seq ?_
  refine W_reg ?_
  refine T_pu rfl rfl (pu_move rfl) ?_
  refine T_pu rfl rfl (pu_move rfl) ?_
  refine T_pu rfl rfl (pu_len Try.underlying32 rfl) ?_
  refine T_pu rfl rfl (pu_lss rfl rfl) ?_
  refine T_nil ?_
  refine W_if rfl (fun hc2 => ?_) (fun hc2 => ?_)
  · refine W_skip ?_
    refine W_seq ?_
    refine W_block ?_
    refine W_seq ?_
    obtain ⟨a, B, cc, rfl, hcell, hri⟩ := hv.row (i := i) (by omega) (by omega)
    have hrl := hr _ (rr_mem' (i := i) (by omega))
    rw [mkM_rr xss k i (by omega)] at hcell hri
    refine W_reg ?_
    refine T_pu rfl rfl (pu_move rfl) ?_
    refine T_pu rfl rfl (pu_move rfl) ?_
    refine T_pu rfl rfl ((by first | exact pu_ix1 Try.underlying32 ty22 rfl rfl (by omega) (by omega) | exact pu_index Try.underlying32 ty22 rfl rfl (by omega) (by omega))) ?_
    refine T_pi rfl rfl (pi_load Try.underlying22 rfl rfl (fun w' h => by obtain rfl := h; exact (by first | exact hcell))) ?_
    refine T_pu rfl rfl (pu_move rfl) ?_
    refine T_go rfl rfl (st_call fn85 rfl ((heldInt64S_ok _ (rr xss i).length (k + totM (xss.take i)) _ hri (by omega) (by omega)).mono ?_))
    rintro v w' ⟨rfl, rfl⟩
    refine T_pu rfl rfl (pu_assign rfl) ?_
    refine T_nil ?_
    refine W_seq ?_
    refine W_reg ?_
    refine T_pu rfl rfl (pu_move rfl) ?_
    refine T_pu rfl rfl (pu_lss rfl rfl) ?_
    refine T_nil ?_
    refine W_if rfl (fun hc5 => ?_) (fun hc5 => ?_)
    · refine W_seq ?_
      refine W_reg ?_
      refine T_pu rfl rfl (pu_assign rfl) ?_
      refine T_nil ?_
      refine W_ret ?_
      exfalso; omega
    · refine W_skip ?_
      refine W_reg ?_
      refine T_pu rfl rfl (pu_move rfl) ?_
      refine T_pu rfl rfl (pu_add64 rfl rfl (by omega)) ?_
      refine T_pu rfl rfl (pu_assign rfl) ?_
      refine T_nil ?_
      exact ⟨i + 1, .cons rfl (.cons (by show some _ = some _; rw [totM_take xss i (by omega), Int.add_assoc]) (.cons rfl (.nil _))), ⟨rfl, by omega⟩, by omega⟩
  · refine W_exit rfl ?_
    refine W_seq ?_
    refine W_reg ?_
    refine T_pu rfl rfl (pu_move rfl) ?_
    refine T_pu rfl rfl (pu_assign rfl) ?_
    refine T_nil ?_
    refine W_ret ?_
    obtain rfl : i = xss.length := by omega
    exact Res_1 rfl rfl ⟨by rw [List.take_length], rfl⟩
theorem invR_ok (xss : List (List Int)) : (invR xss).1.length ≤ 28 ∧ ∀ xs ∈ (invR xss).1, xs.length ≤ 28 := by
  unfold invR
  split
  · exact ⟨by simp, fun xs h => by simp at h⟩
  · rename_i hF
    have hF := Decidable.not_not.1 hF
    split
    · exact ⟨by simp, fun xs h => by simp at h⟩
    · obtain ⟨h1, h2⟩ := invF_ok hF
      have := hF.2.1
      exact ⟨by show (invF xss).length ≤ 28; omega, fun xs h => by have := (h2 xs h).1; omega⟩
set_option maxHeartbeats 8000000 in
theorem lawInv_ok (v : Value) (xss : List (List Int)) (w : World) (hv : RM w v xss) (hl : xss.length ≤ 9223372036854775807) (hw : ∀ xs ∈ xss, xs.length ≤ 9223372036854775807 ∧ ∀ x ∈ xs, -9223372036854775808 ≤ x ∧ x ≤ 9223372036854775807) :
    CallsR Try.prog 6 #[v] w fun r w' => r = .bool true ∧ Kp no w w' := by
  have hs := St.start w
  have hS : Short xss := ⟨hl, fun xs hx => (hw xs hx).1⟩
  obtain ⟨hR1, hR2⟩ := invR_ok xss
  generalize hRe : (invR xss).1 = R at hR1 hR2
  have hR1' : R.length ≤ 9223372036854775807 := by omega
  have hR2' : ∀ xs ∈ R, xs.length ≤ 9223372036854775807 := fun xs h => by have := hR2 xs h; omega
  have hR2'' : ∀ xs ∈ R, xs.length ≤ 1048576 := fun xs h => by have := hR2 xs h; omega
  have hsI : ∀ (v : Value) (w : World), RM w v xss → CallsR Try.prog 31 #[v] w fun r w' => ∃ u, r = .tuple #[u, .int .i64 (invR xss).2] ∧ NewM w w' u R := fun v w h => hRe ▸ specInv_ok v xss w h hS
  have hiI : ∀ (v : Value) (w : World), RM w v xss → CallsR Try.prog 32 #[v] w fun r w' => ∃ u, r = .tuple #[u, .int .i64 (invR xss).2] ∧ NewM w w' u R := fun v w h => hRe ▸ implInv_ok v xss w h hS
  refine fn_calls Try.func6 rfl rfl rfl ?_
  refine W_seq ?_
  refine W_reg ?_
  refine T_pu rfl rfl (pu_assign rfl) ?_
  refine T_nil ?_
  refine W_seq ?_
  refine W_reg ?_
  refine T_pu rfl rfl (pu_assign rfl) ?_
  refine T_nil ?_
  refine W_seq ?_
  refine W_reg ?_
  refine T_pu rfl rfl (pu_move rfl) ?_
  refine T_pu rfl rfl (pu_move rfl) ?_
  refine T_go rfl rfl (st_call fn21 rfl ((szInt64SS_ok _ xss _ hv hl hS.2).mono ?_))
  rintro v w1 ⟨z, rfl, rfl, hz⟩
  refine T_pu rfl rfl (pu_assign rfl) ?_
  refine T_nil ?_
  refine W_seq ?_
  refine W_seq ?_
  refine W_reg ?_
  refine T_pu rfl rfl (pu_move rfl) ?_
  refine T_pu rfl rfl (pu_lss rfl rfl) ?_
  refine T_nil ?_
  refine W_if rfl (fun hc3 => ?_) (fun hc3 => ?_)
  · refine W_seq ?_
    refine W_reg ?_
    refine T_pu rfl rfl (pu_assign rfl) ?_
    refine T_nil ?_
    refine W_ret ?_
    exact Res_1 rfl rfl ⟨rfl, hs.kp⟩
  · refine W_skip ?_
    refine W_seq ?_
    obtain ⟨hl1, hl2⟩ := hz (by omega)
    refine W_reg ?_
    refine T_pu rfl rfl (pu_move rfl) ?_
    refine T_go rfl rfl (st_call fn23 rfl ((toInt64SS_ok _ xss _ (hv.keep hs.kp) hl1 hl2).mono ?_))
    rintro v w2 ⟨h2, hM2, hk2, hf2⟩
    have hs := hs.newM hM2 hk2 hf2
    refine T_go rfl rfl (st_call fn31 rfl ((hsI _ _ (hs.mat 0 rfl).rm).mono ?_))
    rintro v w3 ⟨u3, rfl, h3, hM3, hk3, hf3⟩
    have hs := (hs.newM hM3 hk3 hf3).drop 1
    simp only [List.eraseIdx] at hs
    refine T_pu rfl rfl (pu_move rfl) ?_
    refine T_pu rfl rfl (pu_extract rfl rfl) ?_
    refine T_pu rfl rfl (pu_extract rfl rfl) ?_
    refine T_pu rfl rfl (pu_assign rfl) ?_
    refine T_pu rfl rfl (pu_assign rfl) ?_
    refine T_nil ?_
    refine W_seq ?_
    refine W_reg ?_
    refine T_pu rfl rfl (pu_move rfl) ?_
    refine T_go rfl rfl (st_call fn23 rfl ((toInt64SS_ok _ xss _ (hv.keep hs.kp) hl1 hl2).mono ?_))
    rintro v6 w4 ⟨h4, hM4, hk4, hf4⟩
    have hs := hs.newM hM4 hk4 hf4
    refine T_pu rfl rfl (pu_assign rfl) ?_
    refine T_nil ?_
    refine W_seq ?_
    refine W_reg ?_
    refine T_pu rfl rfl (pu_move rfl) ?_
    refine T_go rfl rfl (st_call fn32 rfl ((hiI _ _ (hs.mat 0 rfl).rm).mono ?_))
    rintro v w5 ⟨u5, rfl, h5, hM5, hk5, hf5⟩
    have hs := hs.newM hM5 hk5 hf5
    refine T_pu rfl rfl (pu_move rfl) ?_
    refine T_pu rfl rfl (pu_extract rfl rfl) ?_
    refine T_pu rfl rfl (pu_extract rfl rfl) ?_
    refine T_pu rfl rfl (pu_assign rfl) ?_
    refine T_pu rfl rfl (pu_assign rfl) ?_
    refine T_nil ?_
    refine W_seq ?_
    refine W_seq ?_
    refine W_reg ?_
    refine T_pu rfl rfl (pu_move rfl) ?_
    refine T_pu rfl rfl (pu_move rfl) ?_
    refine T_go rfl rfl (st_call fn25 rfl ((eqInt64SS_ok _ _ R R _ (hs.mat 0 rfl).rm (hs.mat 2 rfl).rm hR1' hR1' hR2' hR2').mono ?_))
    rintro v w6 ⟨rfl, hk6⟩
    have hs := hs.next hk6
    refine T_pu rfl rfl (pu_notp rfl) ?_
    refine T_if rfl rfl (pu_move rfl) (fun hg8_4 => ?_) (fun hg8_4 => ?_)
    · refine T_no rfl rfl ?_
      refine T_no rfl rfl ?_
      refine T_no rfl rfl ?_
      refine T_pu rfl rfl (pu_pick_t rfl rfl) ?_
      refine T_nil ?_
      refine W_true rfl ?_
      refine W_seq ?_
      refine W_reg ?_
      refine T_pu rfl rfl (pu_assign rfl) ?_
      refine T_nil ?_
      refine W_ret ?_
      exfalso; simp_all
    · refine T_pu rfl rfl (pu_move rfl) ?_
      refine T_pu rfl rfl (pu_move rfl) ?_
      refine T_pu rfl rfl (pu_neq rfl rfl) ?_
      refine T_pu rfl rfl (pu_pick_f rfl rfl) ?_
      refine T_nil ?_
      refine W_if rfl (fun hc8 => ?_) (fun hc8 => ?_)
      · refine W_seq ?_
        refine W_reg ?_
        refine T_pu rfl rfl (pu_assign rfl) ?_
        refine T_nil ?_
        refine W_ret ?_
        exfalso; simp_all
      · refine W_skip ?_
        refine W_seq ?_
        refine W_seq ?_
        refine W_reg ?_
        refine T_pu rfl rfl (pu_move rfl) ?_
        refine T_pu rfl rfl (pu_move rfl) ?_
        refine T_go rfl rfl (st_call fn23 rfl ((toInt64SS_ok _ xss _ (hv.keep hs.kp) hl1 hl2).mono ?_))
        rintro v w7 ⟨h7, hM7, hk7, hf7⟩
        have hs := hs.newM hM7 hk7 hf7
        refine T_go rfl rfl (st_call fn25 rfl ((eqInt64SS_ok _ _ xss xss _ (hs.mat 2 rfl).rm (hs.mat 0 rfl).rm hl hl hS.2 hS.2).mono ?_))
        rintro v w8 ⟨rfl, hk8⟩
        have hs := (hs.next hk8).tail
        refine T_pu rfl rfl (pu_notp rfl) ?_
        refine T_nil ?_
        refine W_if rfl (fun hc10 => ?_) (fun hc10 => ?_)
        · refine W_seq ?_
          refine W_reg ?_
          refine T_pu rfl rfl (pu_assign rfl) ?_
          refine T_nil ?_
          refine W_ret ?_
          exfalso; simp_all
        · refine W_skip ?_
          refine W_seq ?_
          refine W_reg ?_
          refine T_pu rfl rfl (pu_assign rfl) ?_
          refine T_nil ?_
          refine W_seq ?_
          refine W_reg ?_
          refine T_pu rfl rfl (pu_move rfl) ?_
          refine T_pu rfl rfl (pu_move rfl) ?_
          refine T_go rfl rfl (st_call fn29 rfl ((markInt64SS_ok _ _ xss 1 _ (hs.mat 1 rfl) hl1 hl2 (by omega)).mono ?_))
          rintro v w9 ⟨rfl, hk9, hM9⟩
          have hs := hs.upd 1 rfl hk9 (aMat _ _ _) hM9 (fun b h => .inl h)
          have ht1 := totM_nonneg xss
          refine T_pu rfl rfl (pu_assign rfl) ?_
          refine T_nil ?_
          refine W_seq ?_
          refine W_seq ?_
          refine W_reg ?_
          refine T_pu rfl rfl (pu_move rfl) ?_
          refine T_pu rfl rfl (pu_lss rfl rfl) ?_
          refine T_if rfl rfl (pu_move rfl) (fun hg14_2 => ?_) (fun hg14_2 => ?_)
          · refine T_no rfl rfl ?_
            refine T_no rfl rfl ?_
            refine T_no rfl rfl ?_
            refine T_no rfl rfl ?_
            refine T_pu rfl rfl (pu_pick_t rfl rfl) ?_
            refine T_pu rfl rfl (pu_move rfl) ?_
            refine T_no rfl rfl ?_
            refine T_no rfl rfl ?_
            refine T_no rfl rfl ?_
            refine T_pu rfl rfl (pu_pick_t rfl rfl) ?_
            refine T_nil ?_
            refine W_true rfl ?_
            refine W_seq ?_
            refine W_reg ?_
            refine T_pu rfl rfl (pu_assign rfl) ?_
            refine T_nil ?_
            refine W_ret ?_
            exfalso; first | omega | simp_all
          · refine T_pu rfl rfl (pu_move rfl) ?_
            refine T_pu rfl rfl (pu_move rfl) ?_
            refine T_go rfl rfl (st_call fn25 rfl ((eqInt64SS_ok _ _ R R _ (hs.mat 0 rfl).rm (hs.mat 2 rfl).rm hR1' hR1' hR2' hR2').mono ?_))
            rintro v w10 ⟨rfl, hk10⟩
            have hs := hs.next hk10
            refine T_pu rfl rfl (pu_notp rfl) ?_
            refine T_pu rfl rfl (pu_pick_f rfl rfl) ?_
            refine T_if rfl rfl (pu_move rfl) (fun hg14_8 => ?_) (fun hg14_8 => ?_)
            · refine T_no rfl rfl ?_
              refine T_no rfl rfl ?_
              refine T_no rfl rfl ?_
              refine T_pu rfl rfl (pu_pick_t rfl rfl) ?_
              refine T_nil ?_
              refine W_true rfl ?_
              refine W_seq ?_
              refine W_reg ?_
              refine T_pu rfl rfl (pu_assign rfl) ?_
              refine T_nil ?_
              refine W_ret ?_
              exfalso; first | omega | simp_all
            · refine T_pu rfl rfl (pu_move rfl) ?_
              refine T_pu rfl rfl (pu_move rfl) ?_
              refine T_pu rfl rfl (pu_neq rfl rfl) ?_
              refine T_pu rfl rfl (pu_pick_f rfl rfl) ?_
              refine T_nil ?_
              refine W_if rfl (fun hc14 => ?_) (fun hc14 => ?_)
              · refine W_seq ?_
                refine W_reg ?_
                refine T_pu rfl rfl (pu_assign rfl) ?_
                refine T_nil ?_
                refine W_ret ?_
                exfalso; first | omega | simp_all
              · refine W_skip ?_
                refine W_seq ?_
                refine W_reg ?_
                refine T_pu rfl rfl (pu_assign rfl) ?_
                refine T_nil ?_
                refine W_seq ?_
                refine W_reg ?_
                refine T_pu rfl rfl (pu_move rfl) ?_
                refine T_pu rfl rfl (pu_move rfl) ?_
                refine T_go rfl rfl (st_call fn29 rfl ((markInt64SS_ok _ _ R 1 _ (hs.mat 0 rfl) (by omega) hR2'' (by omega)).mono ?_))
                rintro v w11 ⟨rfl, hk11, hM11⟩
                have hs := hs.upd 0 rfl hk11 (aMat _ _ _) hM11 (fun b h => .inl h)
                have ht2 := totM_nonneg R
                refine T_pu rfl rfl (pu_assign rfl) ?_
                refine T_nil ?_
                refine W_seq ?_
                refine W_reg ?_
                refine T_pu rfl rfl (pu_assign rfl) ?_
                refine T_nil ?_
                refine W_seq ?_
                refine W_reg ?_
                refine T_pu rfl rfl (pu_move rfl) ?_
                refine T_pu rfl rfl (pu_move rfl) ?_
                refine T_go rfl rfl (st_call fn30 rfl ((heldInt64SS_ok _ R 1 _ (hs.mat 0 rfl).rm (by omega) hR2'' (by omega)).mono ?_))
                rintro v w12 ⟨rfl, rfl⟩
                refine T_pu rfl rfl (pu_assign rfl) ?_
                refine T_nil ?_
                refine W_seq ?_
                refine W_seq ?_
                refine W_reg ?_
                refine T_pu rfl rfl (pu_move rfl) ?_
                refine T_pu rfl rfl (pu_lss rfl rfl) ?_
                refine T_nil ?_
                refine W_if rfl (fun hc20 => ?_) (fun hc20 => ?_)
                · refine W_seq ?_
                  refine W_reg ?_
                  refine T_pu rfl rfl (pu_assign rfl) ?_
                  refine T_nil ?_
                  refine W_ret ?_
                  exfalso; omega
                · refine W_skip ?_
                  refine W_seq ?_
                  refine W_seq ?_
                  refine W_reg ?_
                  refine T_pu rfl rfl (pu_move rfl) ?_
                  refine T_pu rfl rfl (pu_move rfl) ?_
                  refine T_pu rfl rfl (pu_neq rfl rfl) ?_
                  refine T_nil ?_
                  refine W_if rfl (fun hc22 => ?_) (fun hc22 => ?_)
                  · refine W_seq ?_
                    refine W_reg ?_
                    refine T_pu rfl rfl (pu_assign rfl) ?_
                    refine T_nil ?_
                    refine W_ret ?_
                    exfalso; exact hc22 rfl
                  · refine W_skip ?_
                    refine W_seq ?_
                    refine W_reg ?_
                    refine T_pu rfl rfl (pu_move rfl) ?_
                    refine T_go rfl rfl (st_call fn23 rfl ((toInt64SS_ok _ xss _ (hv.keep hs.kp) hl1 hl2).mono ?_))
                    rintro v w13 ⟨h13, hM13, hk13, hf13⟩
                    have hs := hs.newM hM13 hk13 hf13
                    refine T_go rfl rfl (st_call fn32 rfl ((hiI _ _ (hs.mat 0 rfl).rm).mono ?_))
                    rintro v w14 ⟨u14, rfl, h14, hM14, hk14, hf14⟩
                    have hs := hs.newM hM14 hk14 hf14
                    refine T_pu rfl rfl (pu_move rfl) ?_
                    refine T_pu rfl rfl (pu_extract rfl rfl) ?_
                    refine T_pu rfl rfl (pu_extract rfl rfl) ?_
                    refine T_pu rfl rfl (pu_assign rfl) ?_
                    refine T_pu rfl rfl (pu_assign rfl) ?_
                    refine T_nil ?_
                    refine W_seq ?_
                    refine W_seq ?_
                    refine W_reg ?_
                    refine T_pu rfl rfl (pu_move rfl) ?_
                    refine T_pu rfl rfl (pu_move rfl) ?_
                    refine T_go rfl rfl (st_call fn25 rfl ((eqInt64SS_ok _ _ R R _ (hs.mat 0 rfl).rm (hs.mat 4 rfl).rm hR1' hR1' hR2' hR2').mono ?_))
                    rintro v w15 ⟨rfl, hk15⟩
                    have hs := hs.next hk15
                    refine T_pu rfl rfl (pu_notp rfl) ?_
                    refine T_if rfl rfl (pu_move rfl) (fun hg25_4 => ?_) (fun hg25_4 => ?_)
                    · refine T_no rfl rfl ?_
                      refine T_no rfl rfl ?_
                      refine T_no rfl rfl ?_
                      refine T_pu rfl rfl (pu_pick_t rfl rfl) ?_
                      refine T_nil ?_
                      refine W_true rfl ?_
                      refine W_seq ?_
                      refine W_reg ?_
                      refine T_pu rfl rfl (pu_assign rfl) ?_
                      refine T_nil ?_
                      refine W_ret ?_
                      exfalso; simp_all
                    · refine T_pu rfl rfl (pu_move rfl) ?_
                      refine T_pu rfl rfl (pu_move rfl) ?_
                      refine T_pu rfl rfl (pu_neq rfl rfl) ?_
                      refine T_pu rfl rfl (pu_pick_f rfl rfl) ?_
                      refine T_nil ?_
                      refine W_if rfl (fun hc25 => ?_) (fun hc25 => ?_)
                      · refine W_seq ?_
                        refine W_reg ?_
                        refine T_pu rfl rfl (pu_assign rfl) ?_
                        refine T_nil ?_
                        refine W_ret ?_
                        exfalso; simp_all
                      · refine W_skip ?_
                        refine W_seq ?_
                        refine W_reg ?_
                        refine T_pu rfl rfl (pu_assign rfl) ?_
                        refine T_nil ?_
                        refine W_seq ?_
                        refine W_reg ?_
                        refine T_pu rfl rfl (pu_move rfl) ?_
                        refine T_pu rfl rfl (pu_move rfl) ?_
                        refine T_go rfl rfl (st_call fn30 rfl ((heldInt64SS_ok _ R 1 _ (hs.mat 2 rfl).rm (by omega) hR2'' (by omega)).mono ?_))
                        rintro v w16 ⟨rfl, rfl⟩
                        refine T_pu rfl rfl (pu_assign rfl) ?_
                        refine T_nil ?_
                        refine W_seq ?_
                        refine W_seq ?_
                        refine W_reg ?_
                        refine T_pu rfl rfl (pu_move rfl) ?_
                        refine T_pu rfl rfl (pu_lss rfl rfl) ?_
                        refine T_nil ?_
                        refine W_if rfl (fun hc29 => ?_) (fun hc29 => ?_)
                        · refine W_seq ?_
                          refine W_reg ?_
                          refine T_pu rfl rfl (pu_assign rfl) ?_
                          refine T_nil ?_
                          refine W_ret ?_
                          exfalso; omega
                        · refine W_skip ?_
                          refine W_seq ?_
                          refine W_seq ?_
                          refine W_reg ?_
                          refine T_pu rfl rfl (pu_move rfl) ?_
                          refine T_pu rfl rfl (pu_move rfl) ?_
                          refine T_pu rfl rfl (pu_neq rfl rfl) ?_
                          refine T_nil ?_
                          refine W_if rfl (fun hc31 => ?_) (fun hc31 => ?_)
                          · refine W_seq ?_
                            refine W_reg ?_
                            refine T_pu rfl rfl (pu_assign rfl) ?_
                            refine T_nil ?_
                            refine W_ret ?_
                            exfalso; exact hc31 rfl
                          · refine W_skip ?_
                            refine W_seq ?_
                            refine W_reg ?_
                            refine T_pu rfl rfl (pu_assign rfl) ?_
                            refine T_nil ?_
                            refine W_ret ?_
                            exact Res_1 rfl rfl ⟨rfl, hs.kp⟩
end Go.Proofs.Ytdpbfdjpeofbmaa.L
