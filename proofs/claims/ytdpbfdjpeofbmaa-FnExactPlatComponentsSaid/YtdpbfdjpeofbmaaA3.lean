/- Ranks modulo a prime. -/
import Derived.Test.YtdpbfdjpeofbmaaA2
import Derived.Test.YtdpbfdjpeofbmaaL9
namespace Go.Proofs.Ytdpbfdjpeofbmaa.L
set_option linter.unusedVariables false
set_option maxRecDepth 100000

/-! ### What is computed -/
def fr (xss : List (List Int)) (c : Int) : Nat → Nat → Nat
  | 0, at_ => at_
  | f + 1, at_ => if rd2 xss at_ c = 0 then fr xss c f (at_ + 1) else at_
def findRow (xss : List (List Int)) (c : Int) (at_ : Nat) : Nat := fr xss c (xss.length - at_) at_
theorem findRow_end {xss : List (List Int)} {c : Int} {a : Nat} (h : a = xss.length) : findRow xss c a = a := by unfold findRow; rw [h, Nat.sub_self]; rfl
theorem findRow_skip {xss : List (List Int)} {c : Int} {a : Nat} (h : a < xss.length) (hz : rd2 xss a c = 0) : findRow xss c a = findRow xss c (a + 1) := by
  unfold findRow
  rw [show xss.length - a = (xss.length - (a + 1)) + 1 from by omega, fr, if_pos hz]
theorem findRow_hit {xss : List (List Int)} {c : Int} {a : Nat} (h : a < xss.length) (hz : rd2 xss a c ≠ 0) : findRow xss c a = a := by
  unfold findRow
  rw [show xss.length - a = (xss.length - (a + 1)) + 1 from by omega, fr, if_neg hz]
theorem findRow_le (xss : List (List Int)) (c : Int) : ∀ (d a : Nat), xss.length - a = d → a ≤ xss.length → a ≤ findRow xss c a ∧ findRow xss c a ≤ xss.length ∧ (findRow xss c a < xss.length → rd2 xss (findRow xss c a) c ≠ 0)
  | 0, a, h, h' => by rw [findRow_end (by omega)]; exact ⟨Nat.le_refl _, h', fun h => by omega⟩
  | d + 1, a, h, h' => by
    by_cases hz : rd2 xss a c = 0
    · rw [findRow_skip (by omega) hz]
      obtain ⟨h1, h2, h3⟩ := findRow_le xss c d (a + 1) (by omega) (by omega)
      exact ⟨by omega, h2, h3⟩
    · rw [findRow_hit (by omega) hz]
      exact ⟨Nat.le_refl _, h', fun _ => hz⟩
def axpy (p f : Int) (row pr : List Int) : List Int := List.zipWith (fun a b => (a + (p - f) * b) % p) row pr
def elimR (p : Int) (c r : Nat) (iv : Int) (xss : List (List Int)) (k : Nat) : List (List Int) := xss.set k (axpy p (rd2 xss k c * iv % p) (rr xss k) (rr xss r))
def elimTo (p : Int) (c r : Nat) (iv : Int) (xss : List (List Int)) (k : Nat) : List (List Int) := (List.range k).foldl (fun s i => if r < i then elimR p c r iv s i else s) xss
theorem elimTo_succ {p : Int} {c r : Nat} {iv : Int} {xss : List (List Int)} {k : Nat} (h : r < k) : elimTo p c r iv xss (k + 1) = elimR p c r iv (elimTo p c r iv xss k) k := by
  unfold elimTo; rw [List.range_succ, List.foldl_append]; simp [h]
theorem elimTo_start {p : Int} {c r : Nat} {iv : Int} {xss : List (List Int)} : ∀ k, k ≤ r + 1 → elimTo p c r iv xss k = xss
  | 0, _ => rfl
  | k + 1, h => by
    have := elimTo_start (p := p) (c := c) (r := r) (iv := iv) (xss := xss) k (by omega)
    unfold elimTo at this ⊢
    rw [List.range_succ, List.foldl_append, this]
    simp only [List.foldl_cons, List.foldl_nil]
    exact if_neg (by omega)
def rankStep (p : Int) (s : List (List Int) × Nat) (c : Nat) : List (List Int) × Nat :=
  let a := findRow s.1 c s.2
  if a = s.1.length then s
  else
    let t := swapL s.1 s.2 a []
    (elimTo p c s.2 (invM (rd2 t s.2 c) p) t s.1.length, s.2 + 1)
def rankTo (p : Int) (xss : List (List Int)) (c : Nat) : List (List Int) × Nat := (List.range c).foldl (rankStep p) (xss, 0)
def rankF (p : Int) (xss : List (List Int)) : Nat := (rankTo p xss xss.length).2
theorem rankTo_succ (p : Int) (xss : List (List Int)) (c : Nat) : rankTo p xss (c + 1) = rankStep p (rankTo p xss c) c := by
  unfold rankTo; rw [List.range_succ, List.foldl_append]; rfl

/-! ### Squares of numbers below p -/
structure Gd (p : Int) (n : Nat) (xss : List (List Int)) : Prop where
  len : xss.length = n
  row : ∀ xs ∈ xss, xs.length = n ∧ InP p xs
theorem Gd.rr {p : Int} {n : Nat} {xss : List (List Int)} (h : Gd p n xss) {i : Int} (h0 : 0 ≤ i) (h1 : i < n) : (rr xss i).length = n ∧ InP p (rr xss i) := h.row _ (rr_mem h0 (by rw [h.len]; exact h1))
theorem Gd.rd2 {p : Int} {n : Nat} {xss : List (List Int)} (h : Gd p n xss) {i j : Int} (h0 : 0 ≤ i) (h1 : i < n) (h2 : 0 ≤ j) (h3 : j < n) : 0 ≤ rd2 xss i j ∧ rd2 xss i j < p :=
  (h.rr h0 h1).2.rd h2 (by rw [(h.rr h0 h1).1]; exact h3)
theorem Gd.set {p : Int} {n : Nat} {xss : List (List Int)} (h : Gd p n xss) {k : Nat} {xs : List Int} (hx : xs.length = n ∧ InP p xs) : Gd p n (xss.set k xs) :=
  ⟨by simpa using h.len, fun y hy => by
    rcases List.mem_or_eq_of_mem_set hy with h' | rfl
    · exact h.row y h'
    · exact hx⟩
theorem getD_mem {α : Type} {xs : List α} {i : Nat} {d : α} (h : i < xs.length) : xs.getD i d ∈ xs := by
  rw [List.getD_eq_getElem?_getD, List.getElem?_eq_getElem h]; exact List.getElem_mem h
theorem Gd.swap {p : Int} {n : Nat} {xss : List (List Int)} (h : Gd p n xss) {r a : Nat} (hr : r < n) (ha : a < n) : Gd p n (swapL xss r a []) := by
  have e := h.len
  exact (h.set (h.row _ (getD_mem (by omega)))).set (h.row _ (getD_mem (by omega)))
theorem axpy_ok {p f : Int} (hp : 0 < p) {row pr : List Int} {n : Nat} (h1 : row.length = n) (h2 : pr.length = n) : (axpy p f row pr).length = n ∧ InP p (axpy p f row pr) := by
  refine ⟨by simp [axpy, h1, h2], fun x hx => ?_⟩
  unfold axpy at hx
  obtain ⟨i, hi, rfl⟩ := List.mem_iff_getElem.1 hx
  rw [List.getElem_zipWith]
  exact ⟨Int.emod_nonneg _ (by omega), Int.emod_lt_of_pos _ hp⟩
theorem axpy_rd {p f : Int} {row pr : List Int} {n : Nat} (h1 : row.length = n) (h2 : pr.length = n) {i : Nat} (hi : i < n) : rd (axpy p f row pr) i = (rd row i + (p - f) * rd pr i) % p := by
  subst h1
  have e1 : row[i]? = some row[i] := List.getElem?_eq_getElem hi
  have e2 : pr[i]? = some pr[i] := List.getElem?_eq_getElem (by omega)
  simp [rd, axpy, List.getD_eq_getElem?_getD, List.getElem?_zipWith, e1, e2]
theorem Gd.elimR {p : Int} (hp : 0 < p) {n : Nat} {xss : List (List Int)} (h : Gd p n xss) {c r k : Nat} {iv : Int} (hr : r < n) (hk : k < n) : Gd p n (elimR p c r iv xss k) :=
  h.set (axpy_ok hp (h.rr (by omega) (by omega)).1 (h.rr (by omega) (by omega)).1)
theorem Gd.elimTo {p : Int} (hp : 0 < p) {n : Nat} {xss : List (List Int)} (h : Gd p n xss) {c r : Nat} {iv : Int} (hr : r < n) : ∀ k, k ≤ n → Gd p n (elimTo p c r iv xss k)
  | 0, _ => h
  | k + 1, hk => by
    have ih := Gd.elimTo hp h (c := c) (iv := iv) hr k (by omega)
    by_cases e : r < k
    · rw [elimTo_succ e]; exact ih.elimR hp hr (by omega)
    · rw [elimTo_start _ (by omega)]; exact h
theorem Gd.rankTo {p : Int} (hp : 0 < p) {n : Nat} {xss : List (List Int)} (h : Gd p n xss) : ∀ c, c ≤ n → Gd p n (rankTo p xss c).1 ∧ (rankTo p xss c).2 ≤ c
  | 0, _ => ⟨h, Nat.le_refl _⟩
  | c + 1, hc => by
    obtain ⟨h1, h2⟩ := Gd.rankTo hp h c (by omega)
    rw [rankTo_succ]
    unfold rankStep
    simp only []
    split
    · exact ⟨h1, by omega⟩
    · rename_i hne
      obtain ⟨_, hle, _⟩ := findRow_le (L.rankTo p xss c).1 c _ (L.rankTo p xss c).2 rfl (by rw [h1.len]; omega)
      refine ⟨?_, by simp; omega⟩
      rw [h1.len]
      exact (h1.swap (by omega) (by have := h1.len; omega)).elimTo hp (by omega) n (Nat.le_refl _)

/-! ### Rows in the midst of a change -/
def mixL (a b : List Int) (x : Nat) : List Int := a.take x ++ b.drop x
theorem mixL_length {a b : List Int} (h : a.length = b.length) {x : Nat} (hx : x ≤ b.length) : (mixL a b x).length = b.length := by unfold mixL; simp; omega
theorem mixL_rd {a b : List Int} (h : a.length = b.length) {x : Nat} (hx : x < b.length) : rd (mixL a b x) x = rd b x := by
  unfold rd mixL
  rw [Int.toNat_natCast, List.getD_eq_getElem?_getD, List.getD_eq_getElem?_getD, List.getElem?_append_right (by simp; omega)]
  simp only [List.length_take, List.getElem?_drop]
  rw [show x + (x - min x a.length) = x from by omega]
theorem mixL_set {a b : List Int} (h : a.length = b.length) {x : Nat} (hx : x < b.length) : (mixL a b x).set x (rd a x) = mixL a b (x + 1) := by
  apply List.ext_getElem?
  intro i
  have hl : (mixL a b x).length = b.length := mixL_length h (by omega)
  have e1 : a[x]? = some (rd a x) := by
    have : x < a.length := by omega
    simp [rd, List.getD_eq_getElem?_getD, this]
  rw [List.getElem?_set, hl]
  unfold mixL
  by_cases hi : x = i
  · subst hi
    rw [if_pos rfl, if_pos hx, List.getElem?_append_left (by simp; omega), List.getElem?_take, if_pos (by omega), e1]
  · rw [if_neg hi]
    by_cases h2 : i < x
    · rw [List.getElem?_append_left (by simp; omega), List.getElem?_append_left (by simp; omega), List.getElem?_take, List.getElem?_take, if_pos h2, if_pos (by omega)]
    · rw [List.getElem?_append_right (by simp; omega), List.getElem?_append_right (by simp; omega)]
      simp only [List.length_take, List.getElem?_drop]
      congr 1
      omega
theorem mixL_zero (a b : List Int) : mixL a b 0 = b := by simp [mixL]
theorem mixL_all {a b : List Int} (h : a.length = b.length) : mixL a b b.length = a := by simp [mixL, ← h]
theorem rr_set_self {xss : List (List Int)} {k : Nat} {xs : List Int} (h : k < xss.length) : rr (xss.set k xs) k = xs := by simp [rr, List.getD_eq_getElem?_getD, h]
theorem rr_set_ne {xss : List (List Int)} {k i : Nat} {xs : List Int} (h : i ≠ k) : rr (xss.set k xs) i = rr xss i := by simp [rr, List.getD_eq_getElem?_getD, List.getElem?_set_ne (Ne.symm h)]
theorem set2_set {xss : List (List Int)} {k : Nat} {xs : List Int} {j x : Int} (h : k < xss.length) : set2 (xss.set k xs) k j x = xss.set k (xs.set j.toNat x) := by
  unfold set2; rw [rr_set_self h, Int.toNat_natCast, List.set_set]
theorem set_self_rr {xss : List (List Int)} {k : Nat} (h : k < xss.length) : xss.set k (rr xss k) = xss := by
  apply List.ext_getElem?
  intro i
  rw [List.getElem?_set]
  split
  · rename_i e
    subst e
    have := rr_get (xss := xss) (i := (k : Int)) (by omega) (by omega)
    rw [Int.toNat_natCast] at this
    exact this.symm
  · rfl
theorem MatH.lt {w : World} {v : Value} {hds : List Value} {xss : List (List Int)} (h : MatH w v hds xss) {b : Nat} (hb : MatF v hds b) : b < w.heap.size := by
  rcases hb with hb | ⟨q, hq, hb⟩
  · exact Ow.lt h.head hb
  · obtain ⟨i, hi⟩ := List.getElem?_of_mem hq
    have hil : i < xss.length := by rw [← h.len]; exact (List.getElem?_eq_some_iff.1 hi).1
    exact (h.row i q _ hi (List.getElem?_eq_getElem hil)).lt hb
theorem MatH.start {w : World} {v : Value} {hds : List Value} {xss : List (List Int)} (h : MatH w v hds xss) : St (MatF v hds) w [aMat v hds xss] w :=
  St.startF w _ (fun A hA => by simp only [List.mem_singleton] at hA; subst hA; exact ⟨h, fun b hb => ⟨hb, h.lt hb⟩⟩) (by simp)
theorem mul97 {a b : Int} (ha : 0 ≤ a ∧ a ≤ 97) (hb : 0 ≤ b ∧ b ≤ 97) : 0 ≤ a * b ∧ a * b ≤ 9409 := by
  have h1 := Int.mul_nonneg ha.1 hb.1
  have h2 : a * b ≤ 97 * 97 := Int.mul_le_mul (by omega) (by omega) hb.1 (by omega)
  omega
theorem swapL_hds {hds : List Value} {r a : Nat} {q1 q2 : Value} (h1 : hds[a]? = some q1) (h2 : hds[r]? = some q2) : (hds.set r q1).set a q2 = swapL hds r a undef := by
  unfold swapL; rw [List.getD_eq_getElem?_getD, List.getD_eq_getElem?_getD, h1, h2]; rfl

theorem pw_range {p : Int} (hp : 0 < p) : ∀ (f k : Nat) (x out : Int), 0 ≤ out ∧ out < p → 0 ≤ pw p f k x out ∧ pw p f k x out < p
  | 0, _, _, _, h => h
  | f + 1, k, x, out, h => by
    unfold pw
    split
    · exact h
    · refine pw_range hp f _ _ _ ?_
      split
      · exact ⟨Int.emod_nonneg _ (by omega), Int.emod_lt_of_pos _ hp⟩
      · exact h
theorem invM_range {p x : Int} (hp : 1 < p) : 0 ≤ invM x p ∧ invM x p < p := pw_range (by omega) _ _ _ _ ⟨by omega, by omega⟩
set_option maxHeartbeats 8000000 in
theorem rankModulo_ok (v : Value) (hds : List Value) (xss : List (List Int)) (p : Int) (n : Nat) (w : World) (hp : 3 ≤ p ∧ p ≤ 97) (hn : 1 ≤ n ∧ n ≤ 8) (hM : MatH w v hds xss) (hg : Gd p n xss) :
    CallsR Try.prog 75 #[v, .int .i64 p] w fun r w' => r = .int .i64 (rankF p xss) ∧ Kp (MatF v hds) w w' := by
  have hs := hM.start
  obtain ⟨g, cg, rfl, hcg⟩ : ∃ g c, v = .slice (some ⟨g, 0, none⟩) n c ∧ n ≤ c := by
    rcases hM.open with ⟨_, e⟩ | ⟨g, c, e, h⟩
    · have := hg.len; rw [e] at this; simp at this; omega
    · rw [hg.len] at e h; exact ⟨g, c, e, h⟩
  generalize hF : MatF (.slice (some ⟨g, 0, none⟩) n cg) hds = F at hs
  refine fn_calls Try.func75 rfl rfl rfl ?_
  refine W_seq ?_
  refine W_reg ?_
  refine T_pu rfl rfl (pu_assign rfl) ?_
  refine T_nil ?_
  refine W_seq ?_
  refine W_reg ?_
  refine T_pu rfl rfl (pu_assign rfl) ?_
  refine T_nil ?_
  refine W_seq ?_
  refine W_seq ?_
  refine W_reg ?_
  refine T_pu rfl rfl (pu_move rfl) ?_
  refine T_pu rfl rfl (pu_len Try.underlying32 rfl) ?_
  refine T_pu rfl rfl (pu_move rfl) ?_
  refine T_nil ?_
  refine W_block ?_
  refine W_loop (σ := Nat) (fun c => [(0, .slice (some ⟨g, 0, none⟩) n cg), (1, .int .i64 p), (5, .int .i64 (rankTo p xss c).2), (13, .int .i64 n), (14, .int .i64 c)]) (fun c w' => c ≤ n ∧ ∃ hds', St F w [aMat (.slice (some ⟨g, 0, none⟩) n cg) hds' (rankTo p xss c).1] w') (fun c => n - c) 0 ?_ ?_ ?_
  · exact .cons rfl (.cons rfl (.cons rfl (.cons rfl (.cons rfl (.nil _)))))
  · exact ⟨Nat.zero_le _, hds, hs⟩
  rintro c w2 ⟨hcn, hds', hs⟩
  obtain ⟨hg2, hrk⟩ := hg.rankTo (by omega) c hcn
  have hsucc := rankTo_succ p xss c
  generalize hst : rankTo p xss c = st at *
  obtain ⟨ys, rk⟩ := st
  dsimp only at hs hg2 hrk ⊢
  have hM2 := hs.mat 0 rfl
  have hyl := hg2.len
  refine W_seq ?_
  refine W_reg ?_
  refine T_pu rfl rfl (pu_lss rfl rfl) ?_
  refine T_nil ?_
  refine W_seq ?_
  refine W_if rfl (fun hc3 => ?_) (fun hc3 => ?_)
  · refine W_skip ?_
    refine W_seq ?_
    refine W_block ?_
    refine W_seq ?_
    have hfl := findRow_le ys c _ rk rfl (by omega)
    refine W_reg ?_
    refine T_pu rfl rfl (pu_move rfl) ?_
    refine T_pu rfl rfl (pu_assign rfl) ?_
    refine T_nil ?_
    refine W_seq ?_
    refine W_reg ?_
    refine T_pu rfl rfl (pu_move rfl) ?_
    refine T_pu rfl rfl (pu_assign rfl) ?_
    refine T_nil ?_
    refine W_cut (σ := Unit) (fun _ => [(0, .slice (some ⟨g, 0, none⟩) n cg), (1, .int .i64 p), (5, .int .i64 rk), (13, .int .i64 n), (14, .int .i64 c), (6, .int .i64 c), (7, .int .i64 (findRow ys c rk))]) (fun _ w' => w2 = w') ?_ ?_
    · refine W_block ?_
      refine W_loop (σ := Nat) (fun a => [(0, .slice (some ⟨g, 0, none⟩) n cg), (1, .int .i64 p), (5, .int .i64 rk), (13, .int .i64 n), (14, .int .i64 c), (6, .int .i64 c), (7, .int .i64 a)]) (fun a w' => w2 = w' ∧ a ≤ n ∧ findRow ys c a = findRow ys c rk) (fun a => n - a) rk ?_ ?_ ?_
      · exact .cons rfl (.cons rfl (.cons rfl (.cons rfl (.cons rfl (.cons rfl (.cons rfl (.nil _)))))))
      · exact ⟨rfl, by omega, rfl⟩
      rintro a w3 ⟨rfl, han, hfa⟩
      refine W_seq ?_
      refine W_seq ?_
      refine W_reg ?_
      refine T_pu rfl rfl (pu_move rfl) ?_
      refine T_pu rfl rfl (pu_move rfl) ?_
      refine T_pu rfl rfl (pu_len Try.underlying32 rfl) ?_
      refine T_pu rfl rfl (pu_lss rfl rfl) ?_
      refine T_if rfl rfl (pu_move rfl) (fun hg6_4 => ?_) (fun hg6_4 => ?_)
      · have ha1 : a < n := by omega
        obtain ⟨b1, c1, hh1, hc1, hO1⟩ := hM2.at (i := a) (by omega) (by omega) (hg2.rr (by omega) (by omega)).1 (by omega)
        have hr1 := (hg2.rr (i := a) (by omega) (by omega)).1
        refine T_pu rfl rfl (pu_move rfl) ?_
        refine T_pu rfl rfl (pu_move rfl) ?_
        refine T_pu rfl rfl ((by first | exact pu_ix1 Try.underlying32 ty22 rfl rfl (by omega) (by omega) | exact pu_index Try.underlying32 ty22 rfl rfl (by omega) (by omega))) ?_
        refine T_pi rfl rfl (pi_load Try.underlying22 rfl rfl (fun w' h => by obtain rfl := h; exact (by first | exact hc1 | exact hO1.ri.at0 (by omega) (by omega)))) ?_
        refine T_pu rfl rfl (pu_move rfl) ?_
        refine T_pu rfl rfl ((by first | exact pu_ix1 Try.underlying22 ty2 rfl rfl (by omega) (by omega) | exact pu_index Try.underlying22 ty2 rfl rfl (by omega) (by omega))) ?_
        refine T_pi rfl rfl (pi_load Try.underlying2 rfl rfl (fun w' h => by obtain rfl := h; exact (by first | exact hc1 | exact hO1.ri.at0 (by omega) (by omega)))) ?_
        refine T_pu rfl rfl (pu_eql rfl rfl) ?_
        refine T_pu rfl rfl (pu_pick_t rfl rfl) ?_
        refine T_nil ?_
        refine W_if rfl (fun hc6 => ?_) (fun hc6 => ?_)
        · refine W_skip ?_
          refine W_block ?_
          refine W_reg ?_
          refine T_pu rfl rfl (pu_move rfl) ?_
          refine T_pu rfl rfl (pu_add64 rfl rfl (by omega)) ?_
          refine T_pu rfl rfl (pu_assign rfl) ?_
          refine T_nil ?_
          exact ⟨a + 1, .cons rfl (.cons rfl (.cons rfl (.cons rfl (.cons rfl (.cons rfl (.cons rfl (.nil _))))))), ⟨rfl, by omega, by rw [← hfa]; exact (findRow_skip (by omega) hc6).symm⟩, by omega⟩
        · refine W_exit rfl ?_
          refine ⟨(), .cons rfl (.cons rfl (.cons rfl (.cons rfl (.cons rfl (.cons rfl (.cons ?_ (.nil _))))))), rfl⟩
          rw [← hfa]
          first
            | (rw [findRow_hit (by omega) hc6]; rfl)
            | (rw [findRow_end (by omega)]; rfl)
      · refine T_no rfl rfl ?_
        refine T_no rfl rfl ?_
        refine T_no rfl rfl ?_
        refine T_no rfl rfl ?_
        refine T_no rfl rfl ?_
        refine T_no rfl rfl ?_
        refine T_no rfl rfl ?_
        refine T_no rfl rfl ?_
        refine T_pu rfl rfl (pu_pick_f rfl rfl) ?_
        refine T_nil ?_
        refine W_false rfl ?_
        refine W_exit rfl ?_
        refine ⟨(), .cons rfl (.cons rfl (.cons rfl (.cons rfl (.cons rfl (.cons rfl (.cons ?_ (.nil _))))))), rfl⟩
        rw [← hfa]
        first
          | (rw [findRow_hit (by omega) hc6]; rfl)
          | (rw [findRow_end (by omega)]; rfl)
    · rintro ⟨⟩ w3 rfl
      unfold rankStep at hsucc
      dsimp only at hsucc
      generalize hfr : findRow ys c rk = a at *
      refine W_seq ?_
      refine W_seq ?_
      refine W_reg ?_
      refine T_pu rfl rfl (pu_move rfl) ?_
      refine T_pu rfl rfl (pu_move rfl) ?_
      refine T_pu rfl rfl (pu_len Try.underlying32 rfl) ?_
      refine T_pu rfl rfl (pu_eql rfl rfl) ?_
      refine T_nil ?_
      refine W_if rfl (fun hc8 => ?_) (fun hc8 => ?_)
      · refine W_exit rfl ?_
        refine W_reg ?_
        refine T_pu rfl rfl (pu_add64 rfl rfl (by omega)) ?_
        refine T_pu rfl rfl (pu_move rfl) ?_
        refine T_nil ?_
        first
          | (have ha2 : a = ys.length := by omega
             rw [if_pos ha2] at hsucc
             exact ⟨c + 1, by rw [hsucc]; exact .cons rfl (.cons rfl (.cons rfl (.cons rfl (.cons rfl (.nil _))))), ⟨by omega, _, by rw [hsucc]; exact hs⟩, by omega⟩)
          | (have ha2 : ¬ a = ys.length := by omega
             have hkn' : k = n := by omega
             rw [if_neg ha2, hyl] at hsucc
             rw [← het, hkn'] at hs
             exact ⟨c + 1, by rw [hsucc]; exact .cons rfl (.cons rfl (.cons rfl (.cons rfl (.cons rfl (.nil _))))), ⟨by omega, _, by rw [hsucc]; exact hs⟩, by omega⟩)
      · refine W_skip ?_
        refine W_seq ?_
        refine W_draw mixed 13 IS (fun w4 hk4 => ?_)
        have ha1 : a < n := by omega
        have hs := hs.next hk4
        have hM4 := hs.mat 0 rfl
        obtain ⟨b1, c1, hh1, hc1, hO1⟩ := hM4.at (i := a) (by omega) (by omega) (hg2.rr (by omega) (by omega)).1 (by omega)
        obtain ⟨b2, c2, hh2, hc2, hO2⟩ := hM4.at (i := rk) (by omega) (by omega) (hg2.rr (by omega) (by omega)).1 (by omega)
        have hH : Ow w4 22 1 (.slice (some ⟨g, 0, none⟩) n cg) n hds' := by have := hM4.head; rwa [hM4.len, hyl] at this
        have hdl : hds'.length = n := by rw [hM4.len, hyl]
        refine D_pu 0 (by kernel_rfl) rfl (by kernel_rfl) (by kernel_rfl) rfl rfl (by kernel_rfl) (Pu.stable (pu_move rfl)) ?_
        refine D_pu 1 (by kernel_rfl) rfl (by kernel_rfl) (by kernel_rfl) rfl rfl (by kernel_rfl) (Pu.stable (pu_move rfl)) ?_
        refine D_pu 2 (by kernel_rfl) rfl (by kernel_rfl) (by kernel_rfl) rfl rfl (by kernel_rfl) (Pu.stable (pu_move rfl)) ?_
        refine D_pu 3 (by kernel_rfl) rfl (by kernel_rfl) (by kernel_rfl) rfl rfl (by kernel_rfl) (Pu.stable (pu_move rfl)) ?_
        refine D_pu 4 (by kernel_rfl) rfl (by kernel_rfl) (by kernel_rfl) rfl rfl (by kernel_rfl) (Pu.stable (pu_move rfl)) ?_
        refine D_pu 5 (by kernel_rfl) rfl (by kernel_rfl) (by kernel_rfl) rfl rfl (by kernel_rfl) (Pu.stable (pu_move rfl)) ?_
        refine D_pu 6 (by kernel_rfl) rfl (by kernel_rfl) (by kernel_rfl) rfl rfl (by kernel_rfl) (Pu.stable ((by first | exact pu_ix1 Try.underlying32 ty22 rfl rfl (by omega) (by omega) | exact pu_index Try.underlying32 ty22 rfl rfl (by omega) (by omega)))) ?_
        refine D_rd 7 (by kernel_rfl) rfl (by kernel_rfl) (by kernel_rfl) rfl rfl (by kernel_rfl) (by kernel_rfl) (by kernel_rfl) (pi_load Try.underlying22 rfl rfl (fun w' h => by obtain rfl := h rfl; exact (by first | exact hc1 | exact hc2))) ?_
        refine D_pu 8 (by kernel_rfl) rfl (by kernel_rfl) (by kernel_rfl) rfl rfl (by kernel_rfl) (Pu.stable (pu_move rfl)) ?_
        refine D_pu 9 (by kernel_rfl) rfl (by kernel_rfl) (by kernel_rfl) rfl rfl (by kernel_rfl) (Pu.stable (pu_move rfl)) ?_
        refine D_pu 10 (by kernel_rfl) rfl (by kernel_rfl) (by kernel_rfl) rfl rfl (by kernel_rfl) (Pu.stable ((by first | exact pu_ix1 Try.underlying32 ty22 rfl rfl (by omega) (by omega) | exact pu_index Try.underlying32 ty22 rfl rfl (by omega) (by omega)))) ?_
        refine D_rd 11 (by kernel_rfl) rfl (by kernel_rfl) (by kernel_rfl) rfl rfl (by kernel_rfl) (by kernel_rfl) (by kernel_rfl) (pi_load Try.underlying22 rfl rfl (fun w' h => by obtain rfl := h rfl; exact (by first | exact hc1 | exact hc2))) ?_
        refine D_pu 12 (by kernel_rfl) rfl (by kernel_rfl) (by kernel_rfl) rfl rfl (by kernel_rfl) (Pu.stable ((by first | exact pu_ix1 Try.underlying32 ty22 rfl rfl (by omega) (by omega) | exact pu_index Try.underlying32 ty22 rfl rfl (by omega) (by omega)))) ?_
        refine D_goN 13 (by kernel_rfl) (by first | rfl | (intro _; rfl) | (intro h; exact absurd (show true = false from h) (by decide)) | exact Kp.refl _ _ | assumption) rfl rfl (st_storeO ty22 rfl rfl hH rfl (by omega) fun w5 hk5 hH5 => ?_)
        refine D_pu 14 (by kernel_rfl) rfl (by kernel_rfl) (by kernel_rfl) rfl rfl (by kernel_rfl) (Pu.stable ((by first | exact pu_ix1 Try.underlying32 ty22 rfl rfl (by omega) (by omega) | exact pu_index Try.underlying32 ty22 rfl rfl (by omega) (by omega)))) ?_
        refine D_goN 15 (by kernel_rfl) (by first | rfl | (intro _; rfl) | (intro h; exact absurd (show true = false from h) (by decide)) | exact Kp.refl _ _ | assumption) rfl rfl (st_storeO ty22 rfl rfl hH5 rfl (by simp; omega) fun w6 hk6 hH6 => ?_)
        have hs := hs.swapM 0 rfl (r := rk) (a := a) (by omega) (by omega) (hk5.trans hk6 (fun _ _ h => h)) (by
          rw [hdl]
          rw [← swapL_hds (q1 := .slice (some ⟨b1, 0, none⟩) n c1) (q2 := .slice (some ⟨b2, 0, none⟩) n c2) (by simpa using hh1) (by simpa using hh2)]
          simpa using hH6)
        refine D_done (by kernel_rfl) (by first | rfl | (intro _; rfl) | (intro h; exact absurd (show true = false from h) (by decide)) | exact Kp.refl _ _ | assumption) ?_
        refine W_seq ?_
        have hg3 := hg2.swap (r := rk) (a := a) (by omega) ha1
        generalize hzs : swapL ys rk a [] = zs at *
        simp only [List.set_cons_zero] at hs
        have hM6 := hs.mat 0 rfl
        have hzl := hg3.len
        obtain ⟨b3, c3, hh3, hc3', hO3⟩ := hM6.at (i := rk) (by omega) (by omega) (hg3.rr (by omega) (by omega)).1 (by omega)
        have hr3 := (hg3.rr (i := rk) (by omega) (by omega)).1
        have hpv := hg3.rd2 (i := rk) (j := c) (by omega) (by omega) (by omega) (by omega)
        refine W_reg ?_
        refine T_pu rfl rfl (pu_move rfl) ?_
        refine T_pu rfl rfl (pu_move rfl) ?_
        refine T_pu rfl rfl ((by first | exact pu_ix1 Try.underlying32 ty22 rfl rfl (by omega) (by omega) | exact pu_index Try.underlying32 ty22 rfl rfl (by omega) (by omega))) ?_
        refine T_pi rfl rfl (pi_load Try.underlying22 rfl rfl (fun w' h => by obtain rfl := h; exact (by first | exact hc3' | exact hO3.ri.at0 (by omega) (by omega)))) ?_
        refine T_pu rfl rfl (pu_move rfl) ?_
        refine T_pu rfl rfl ((by first | exact pu_ix1 Try.underlying22 ty2 rfl rfl (by omega) (by omega) | exact pu_index Try.underlying22 ty2 rfl rfl (by omega) (by omega))) ?_
        refine T_pi rfl rfl (pi_load Try.underlying2 rfl rfl (fun w' h => by obtain rfl := h; exact (by first | exact hc3' | exact hO3.ri.at0 (by omega) (by omega)))) ?_
        refine T_pu rfl rfl (pu_move rfl) ?_
        refine T_go rfl rfl (st_call fn102 rfl ((inverseModulo_ok _ _ (by omega) hpv _).mono ?_))
        rintro v w' ⟨rfl, rfl⟩
        clear hc3' hO3 hh3
        refine T_pu rfl rfl (pu_assign rfl) ?_
        refine T_nil ?_
        refine W_seq ?_
        refine W_seq ?_
        refine W_reg ?_
        refine T_pu rfl rfl (pu_move rfl) ?_
        refine T_pu rfl rfl (pu_add64 rfl rfl (by omega)) ?_
        refine T_pu rfl rfl (pu_assign rfl) ?_
        refine T_nil ?_
        refine W_block ?_
        refine W_loop (σ := Nat) (fun k => [(0, .slice (some ⟨g, 0, none⟩) n cg), (1, .int .i64 p), (5, .int .i64 rk), (13, .int .i64 n), (14, .int .i64 c), (6, .int .i64 c), (8, .int .i64 (invM (rd2 zs rk c) p)), (9, .int .i64 k)]) (fun k w' => rk + 1 ≤ k ∧ k ≤ n ∧ ∃ hds', St F w [aMat (.slice (some ⟨g, 0, none⟩) n cg) hds' (elimTo p c rk (invM (rd2 zs rk c) p) zs k)] w') (fun k => n - k) (rk + 1) ?_ ?_ ?_
        · exact .cons rfl (.cons rfl (.cons rfl (.cons rfl (.cons rfl (.cons rfl (.cons rfl (.cons rfl (.nil _))))))))
        · exact ⟨Nat.le_refl _, by omega, _, by rw [elimTo_start _ (Nat.le_refl _)]; exact hs⟩
        rintro k w7 ⟨hk1, hkn, hds7, hs⟩
        have hg7 := hg3.elimTo (c := c) (iv := invM (rd2 zs rk c) p) (by omega) (show rk < n by omega) k hkn
        have hesucc := elimTo_succ (p := p) (c := c) (iv := invM (rd2 zs rk c) p) (xss := zs) (show rk < k by omega)
        generalize het : elimTo p c rk (invM (rd2 zs rk c) p) zs k = es at *
        have hM7 := hs.mat 0 rfl
        have hel := hg7.len
        refine W_seq ?_
        refine W_seq ?_
        refine W_reg ?_
        refine T_pu rfl rfl (pu_move rfl) ?_
        refine T_pu rfl rfl (pu_move rfl) ?_
        refine T_pu rfl rfl (pu_len Try.underlying32 rfl) ?_
        refine T_pu rfl rfl (pu_lss rfl rfl) ?_
        refine T_nil ?_
        refine W_if rfl (fun hc12 => ?_) (fun hc12 => ?_)
        · refine W_skip ?_
          refine W_seq ?_
          refine W_block ?_
          refine W_seq ?_
          obtain ⟨b4, c4, hh4, hc4', hO4⟩ := hM7.at (i := k) (by omega) (by omega) (hg7.rr (by omega) (by omega)).1 (by omega)
          have hr4 := (hg7.rr (i := k) (by omega) (by omega)).1
          have hev := hg7.rd2 (i := k) (j := c) (by omega) (by omega) (by omega) (by omega)
          have hiv := invM_range (p := p) (x := rd2 zs rk c) (by omega)
          have hml := mul97 (a := rd2 es k c) (b := invM (rd2 zs rk c) p) (by omega) (by omega)
          refine W_reg ?_
          refine T_pu rfl rfl (pu_move rfl) ?_
          refine T_pu rfl rfl (pu_move rfl) ?_
          refine T_pu rfl rfl ((by first | exact pu_ix1 Try.underlying32 ty22 rfl rfl (by omega) (by omega) | exact pu_index Try.underlying32 ty22 rfl rfl (by omega) (by omega))) ?_
          refine T_pi rfl rfl (pi_load Try.underlying22 rfl rfl (fun w' h => by obtain rfl := h; exact (by first | exact hc4' | exact hO4.ri.at0 (by omega) (by omega)))) ?_
          refine T_pu rfl rfl (pu_move rfl) ?_
          refine T_pu rfl rfl ((by first | exact pu_ix1 Try.underlying22 ty2 rfl rfl (by omega) (by omega) | exact pu_index Try.underlying22 ty2 rfl rfl (by omega) (by omega))) ?_
          refine T_pi rfl rfl (pi_load Try.underlying2 rfl rfl (fun w' h => by obtain rfl := h; exact (by first | exact hc4' | exact hO4.ri.at0 (by omega) (by omega)))) ?_
          refine T_pu rfl rfl (pu_move rfl) ?_
          refine T_pu rfl rfl (pu_mul64 rfl rfl (by show _ ≤ rd2 es k c * _ ∧ rd2 es k c * _ ≤ _; omega)) ?_
          refine T_pu rfl rfl (pu_move rfl) ?_
          refine T_pu rfl rfl (pu_rem rfl rfl (by omega)) ?_
          have hfv : (rd2 es k c * invM (rd2 zs rk c) p).tmod p = rd2 es k c * invM (rd2 zs rk c) p % p := tmod_nn hml.1
          refine T_pu rfl rfl (pu_assign rfl) ?_
          refine T_nil ?_
          refine W_seq ?_
          refine W_reg ?_
          refine T_pu rfl rfl (pu_move rfl) ?_
          refine T_pu rfl rfl (pu_move rfl) ?_
          refine T_pu rfl rfl ((by first | exact pu_ix1 Try.underlying32 ty22 rfl rfl (by omega) (by omega) | exact pu_index Try.underlying32 ty22 rfl rfl (by omega) (by omega))) ?_
          refine T_pi rfl rfl (pi_load Try.underlying22 rfl rfl (fun w' h => by obtain rfl := h; exact (by first | exact hc4' | exact hO4.ri.at0 (by omega) (by omega)))) ?_
          refine T_pu rfl rfl (pu_len Try.underlying22 rfl) ?_
          refine T_pu rfl rfl (pu_move rfl) ?_
          refine T_nil ?_
          refine W_block ?_
          have hfr1 := Int.emod_nonneg (rd2 es k c * invM (rd2 zs rk c) p) (show p ≠ 0 by omega)
          have hfr2 := Int.emod_lt_of_pos (rd2 es k c * invM (rd2 zs rk c) p) (show 0 < p by omega)
          generalize hf : rd2 es k c * invM (rd2 zs rk c) p % p = f at *
          have hrk7 := hg7.rr (i := rk) (by omega) (by omega)
          have hk7' := hg7.rr (i := k) (by omega) (by omega)
          have hax := axpy_ok (p := p) (f := f) (by omega) hk7'.1 hrk7.1
          have hcA : (axpy p f (rr es k) (rr es rk)).length = (rr es k).length := by rw [hax.1, hk7'.1]
          refine W_loop (σ := Nat) (fun x => [(0, .slice (some ⟨g, 0, none⟩) n cg), (1, .int .i64 p), (5, .int .i64 rk), (13, .int .i64 n), (14, .int .i64 c), (6, .int .i64 c), (8, .int .i64 (invM (rd2 zs rk c) p)), (9, .int .i64 k), (10, .int .i64 f), (84, .int .i64 n), (85, .int .i64 x)]) (fun x w' => x ≤ n ∧ St F w [aMat (.slice (some ⟨g, 0, none⟩) n cg) hds7 (es.set k (mixL (axpy p f (rr es k) (rr es rk)) (rr es k) x))] w') (fun x => n - x) 0 ?_ ?_ ?_
          · exact .cons rfl (.cons rfl (.cons rfl (.cons rfl (.cons rfl (.cons rfl (.cons rfl (.cons rfl (.cons (by rw [← hfv]; rfl) (.cons rfl (.cons rfl (.nil _)))))))))))
          · exact ⟨Nat.zero_le _, by rw [mixL_zero, set_self_rr (by omega)]; exact hs⟩
          rintro x w8 ⟨hxn, hs⟩
          refine W_seq ?_
          refine W_reg ?_
          refine T_pu rfl rfl (pu_lss rfl rfl) ?_
          refine T_nil ?_
          refine W_seq ?_
          refine W_if rfl (fun hc16 => ?_) (fun hc16 => ?_)
          · refine W_skip ?_
            refine W_seq ?_
            refine W_block ?_
            refine W_seq ?_
            refine W_reg ?_
            refine T_pu rfl rfl (pu_move rfl) ?_
            refine T_pu rfl rfl (pu_assign rfl) ?_
            refine T_nil ?_
            refine W_draw mixed 27 IS (fun w9 hk9 => ?_)
            have hs := hs.next hk9
            have hM9 := hs.mat 0 rfl
            have hsl : (es.set k (mixL (axpy p f (rr es k) (rr es rk)) (rr es k) x)).length = n := by simpa using hel
            have hmk : rr (es.set k (mixL (axpy p f (rr es k) (rr es rk)) (rr es k) x)) k = mixL (axpy p f (rr es k) (rr es rk)) (rr es k) x := rr_set_self (by omega)
            have hmr : rr (es.set k (mixL (axpy p f (rr es k) (rr es rk)) (rr es k) x)) rk = rr es rk := rr_set_ne (by omega)
            have hmkl : (mixL (axpy p f (rr es k) (rr es rk)) (rr es k) x).length = n := by rw [mixL_length hcA (by omega)]; exact hk7'.1
            obtain ⟨b5, c5, hh5, hc5', hO5⟩ := hM9.at (i := k) (by omega) (by omega) (show List.length _ = n by rw [hmk]; exact hmkl) (by omega)
            obtain ⟨b6, c6, hh6, hc6', hO6⟩ := hM9.at (i := rk) (by omega) (by omega) (show List.length _ = n by rw [hmr]; exact hrk7.1) (by omega)
            rw [hmk] at hO5
            rw [hmr] at hO6
            have hxr := hk7'.2.rd (i := x) (by omega) (by omega)
            have hyr := hrk7.2.rd (i := x) (by omega) (by omega)
            have hmx := mixL_rd hcA (x := x) (by omega)
            have hml := mul97 (a := p - f) (b := rd (rr es rk) x) (by omega) (by omega)
            refine D_pu 0 (by kernel_rfl) rfl (by kernel_rfl) (by kernel_rfl) rfl rfl (by kernel_rfl) (Pu.stable (pu_move rfl)) ?_
            refine D_pu 1 (by kernel_rfl) rfl (by kernel_rfl) (by kernel_rfl) rfl rfl (by kernel_rfl) (Pu.stable (pu_move rfl)) ?_
            refine D_pu 2 (by kernel_rfl) rfl (by kernel_rfl) (by kernel_rfl) rfl rfl (by kernel_rfl) (Pu.stable ((by first | exact pu_ix1 Try.underlying32 ty22 rfl rfl (by omega) (by omega) | exact pu_index Try.underlying32 ty22 rfl rfl (by omega) (by omega)))) ?_
            refine D_rd 3 (by kernel_rfl) rfl (by kernel_rfl) (by kernel_rfl) rfl rfl (by kernel_rfl) (by kernel_rfl) (by kernel_rfl) (pi_load Try.underlying22 rfl rfl (fun w' h => by obtain rfl := h rfl; exact (by first | exact hc5' | exact hc6' | exact hO5.ri.at0 (by omega) (by omega) | exact hO6.ri.at0 (by omega) (by omega)))) ?_
            refine D_pu 4 (by kernel_rfl) rfl (by kernel_rfl) (by kernel_rfl) rfl rfl (by kernel_rfl) (Pu.stable (pu_move rfl)) ?_
            refine D_pu 5 (by kernel_rfl) rfl (by kernel_rfl) (by kernel_rfl) rfl rfl (by kernel_rfl) (Pu.stable (pu_move rfl)) ?_
            refine D_pu 6 (by kernel_rfl) rfl (by kernel_rfl) (by kernel_rfl) rfl rfl (by kernel_rfl) (Pu.stable (pu_move rfl)) ?_
            refine D_pu 7 (by kernel_rfl) rfl (by kernel_rfl) (by kernel_rfl) rfl rfl (by kernel_rfl) (Pu.stable ((by first | exact pu_ix1 Try.underlying32 ty22 rfl rfl (by omega) (by omega) | exact pu_index Try.underlying32 ty22 rfl rfl (by omega) (by omega)))) ?_
            refine D_rd 8 (by kernel_rfl) rfl (by kernel_rfl) (by kernel_rfl) rfl rfl (by kernel_rfl) (by kernel_rfl) (by kernel_rfl) (pi_load Try.underlying22 rfl rfl (fun w' h => by obtain rfl := h rfl; exact (by first | exact hc5' | exact hc6' | exact hO5.ri.at0 (by omega) (by omega) | exact hO6.ri.at0 (by omega) (by omega)))) ?_
            refine D_pu 9 (by kernel_rfl) rfl (by kernel_rfl) (by kernel_rfl) rfl rfl (by kernel_rfl) (Pu.stable (pu_move rfl)) ?_
            refine D_pu 10 (by kernel_rfl) rfl (by kernel_rfl) (by kernel_rfl) rfl rfl (by kernel_rfl) (Pu.stable ((by first | exact pu_ix1 Try.underlying22 ty2 rfl rfl (by omega) (by omega) | exact pu_index Try.underlying22 ty2 rfl rfl (by omega) (by omega)))) ?_
            refine D_rd 11 (by kernel_rfl) rfl (by kernel_rfl) (by kernel_rfl) rfl rfl (by kernel_rfl) (by kernel_rfl) (by kernel_rfl) (pi_load Try.underlying2 rfl rfl (fun w' h => by obtain rfl := h rfl; exact (by first | exact hc5' | exact hc6' | exact hO5.ri.at0 (by omega) (by omega) | exact hO6.ri.at0 (by omega) (by omega)))) ?_
            refine D_pu 12 (by kernel_rfl) rfl (by kernel_rfl) (by kernel_rfl) rfl rfl (by kernel_rfl) (Pu.stable (pu_move rfl)) ?_
            refine D_pu 13 (by kernel_rfl) rfl (by kernel_rfl) (by kernel_rfl) rfl rfl (by kernel_rfl) (Pu.stable (pu_move rfl)) ?_
            refine D_pu 14 (by kernel_rfl) rfl (by kernel_rfl) (by kernel_rfl) rfl rfl (by kernel_rfl) (Pu.stable (pu_sub64 rfl rfl (by omega))) ?_
            refine D_pu 15 (by kernel_rfl) rfl (by kernel_rfl) (by kernel_rfl) rfl rfl (by kernel_rfl) (Pu.stable (pu_move rfl)) ?_
            refine D_pu 16 (by kernel_rfl) rfl (by kernel_rfl) (by kernel_rfl) rfl rfl (by kernel_rfl) (Pu.stable (pu_move rfl)) ?_
            refine D_pu 17 (by kernel_rfl) rfl (by kernel_rfl) (by kernel_rfl) rfl rfl (by kernel_rfl) (Pu.stable ((by first | exact pu_ix1 Try.underlying32 ty22 rfl rfl (by omega) (by omega) | exact pu_index Try.underlying32 ty22 rfl rfl (by omega) (by omega)))) ?_
            refine D_rd 18 (by kernel_rfl) rfl (by kernel_rfl) (by kernel_rfl) rfl rfl (by kernel_rfl) (by kernel_rfl) (by kernel_rfl) (pi_load Try.underlying22 rfl rfl (fun w' h => by obtain rfl := h rfl; exact (by first | exact hc5' | exact hc6' | exact hO5.ri.at0 (by omega) (by omega) | exact hO6.ri.at0 (by omega) (by omega)))) ?_
            refine D_pu 19 (by kernel_rfl) rfl (by kernel_rfl) (by kernel_rfl) rfl rfl (by kernel_rfl) (Pu.stable (pu_move rfl)) ?_
            refine D_pu 20 (by kernel_rfl) rfl (by kernel_rfl) (by kernel_rfl) rfl rfl (by kernel_rfl) (Pu.stable ((by first | exact pu_ix1 Try.underlying22 ty2 rfl rfl (by omega) (by omega) | exact pu_index Try.underlying22 ty2 rfl rfl (by omega) (by omega)))) ?_
            refine D_rd 21 (by kernel_rfl) rfl (by kernel_rfl) (by kernel_rfl) rfl rfl (by kernel_rfl) (by kernel_rfl) (by kernel_rfl) (pi_load Try.underlying2 rfl rfl (fun w' h => by obtain rfl := h rfl; exact (by first | exact hc5' | exact hc6' | exact hO5.ri.at0 (by omega) (by omega) | exact hO6.ri.at0 (by omega) (by omega)))) ?_
            refine D_pu 22 (by kernel_rfl) rfl (by kernel_rfl) (by kernel_rfl) rfl rfl (by kernel_rfl) (Pu.stable (pu_mul64 rfl rfl (by omega))) ?_
            refine D_pu 23 (by kernel_rfl) rfl (by kernel_rfl) (by kernel_rfl) rfl rfl (by kernel_rfl) (Pu.stable (pu_add64 rfl rfl (by omega))) ?_
            refine D_pu 24 (by kernel_rfl) rfl (by kernel_rfl) (by kernel_rfl) rfl rfl (by kernel_rfl) (Pu.stable (pu_move rfl)) ?_
            refine D_pu 25 (by kernel_rfl) rfl (by kernel_rfl) (by kernel_rfl) rfl rfl (by kernel_rfl) (Pu.stable (pu_rem rfl rfl (by omega))) ?_
            refine D_pu 26 (by kernel_rfl) rfl (by kernel_rfl) (by kernel_rfl) rfl rfl (by kernel_rfl) (Pu.stable ((by first | exact pu_ix1 Try.underlying22 ty2 rfl rfl (by omega) (by omega) | exact pu_index Try.underlying22 ty2 rfl rfl (by omega) (by omega)))) ?_
            refine D_goN 27 (by kernel_rfl) (by first | rfl | (intro _; rfl) | (intro h; exact absurd (show true = false from h) (by decide)) | exact Kp.refl _ _ | assumption) rfl rfl (st_storeM hs 0 rfl (k : Int) (by omega) (by omega) hh5 ty2 rfl rfl (by omega) (by omega) fun w10 hk10 hs => ?_)
            refine D_done (by kernel_rfl) (by first | rfl | (intro _; rfl) | (intro h; exact absurd (show true = false from h) (by decide)) | exact Kp.refl _ _ | assumption) ?_
            refine W_reg ?_
            refine T_pu rfl rfl (pu_add64 rfl rfl (by omega)) ?_
            refine T_pu rfl rfl (pu_move rfl) ?_
            refine T_nil ?_
            refine ⟨x + 1, .cons rfl (.cons rfl (.cons rfl (.cons rfl (.cons rfl (.cons rfl (.cons rfl (.cons rfl (.cons rfl (.cons rfl (.cons rfl (.nil _))))))))))), ⟨by omega, ?_⟩, by omega⟩
            rw [hmx, tmod_nn (by omega), set2_set (by omega), Int.toNat_natCast, ← axpy_rd (n := n) hk7'.1 hrk7.1 (by omega), mixL_set hcA (by omega)] at hs
            exact hs
          · refine W_exit rfl ?_
            obtain rfl : x = n := by omega
            have hs : St F w [aMat (.slice (some ⟨g, 0, none⟩) x cg) hds7 (elimTo p c rk (invM (rd2 zs rk c) p) zs (k + 1))] w8 := by
              rw [hesucc]
              unfold elimR
              rw [hf]
              have := mixL_all hcA
              rw [hk7'.1] at this
              rw [this] at hs
              exact hs
            refine W_reg ?_
            refine T_pu rfl rfl (pu_move rfl) ?_
            refine T_pu rfl rfl (pu_add64 rfl rfl (by omega)) ?_
            refine T_pu rfl rfl (pu_assign rfl) ?_
            refine T_nil ?_
            exact ⟨k + 1, .cons rfl (.cons rfl (.cons rfl (.cons rfl (.cons rfl (.cons rfl (.cons rfl (.cons rfl (.nil _)))))))), ⟨by omega, by omega, _, hs⟩, by omega⟩
        · refine W_exit rfl ?_
          refine W_reg ?_
          refine T_pu rfl rfl (pu_move rfl) ?_
          refine T_pu rfl rfl (pu_add64 rfl rfl (by omega)) ?_
          refine T_pu rfl rfl (pu_assign rfl) ?_
          refine T_nil ?_
          refine W_reg ?_
          refine T_pu rfl rfl (pu_add64 rfl rfl (by omega)) ?_
          refine T_pu rfl rfl (pu_move rfl) ?_
          refine T_nil ?_
          first
            | (have ha2 : a = ys.length := by omega
               rw [if_pos ha2] at hsucc
               exact ⟨c + 1, by rw [hsucc]; exact .cons rfl (.cons rfl (.cons rfl (.cons rfl (.cons rfl (.nil _))))), ⟨by omega, _, by rw [hsucc]; exact hs⟩, by omega⟩)
            | (have ha2 : ¬ a = ys.length := by omega
               have hkn' : k = n := by omega
               rw [if_neg ha2, hyl] at hsucc
               rw [← het, hkn'] at hs
               exact ⟨c + 1, by rw [hsucc]; exact .cons rfl (.cons rfl (.cons rfl (.cons rfl (.cons rfl (.nil _))))), ⟨by omega, _, by rw [hsucc]; exact hs⟩, by omega⟩)
  · refine W_exit rfl ?_
    refine W_seq ?_
    refine W_reg ?_
    refine T_pu rfl rfl (pu_move rfl) ?_
    refine T_pu rfl rfl (pu_assign rfl) ?_
    refine T_nil ?_
    refine W_ret ?_
    have : c = n := by omega
    refine Res_1 rfl rfl ⟨?_, hs.kp⟩
    unfold rankF
    rw [hg.len, ← this, hst]
end Go.Proofs.Ytdpbfdjpeofbmaa.L
