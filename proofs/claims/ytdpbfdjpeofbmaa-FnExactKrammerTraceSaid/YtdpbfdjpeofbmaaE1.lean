/- Products of matrices over the field; units; numbers of the field. -/
import Derived.Test.YtdpbfdjpeofbmaaE0
namespace Go.Proofs.Ytdpbfdjpeofbmaa.L
set_option linter.unusedVariables false
set_option maxRecDepth 100000

/-- The first k terms of a product's entry. -/
def dot (A B : List (List Int)) (i j : Nat) : Nat → Int
  | 0 => 0
  | k + 1 => (dot A B i j k + rd2 A i k * rd2 B k j) % 10007
def mulM (A B : List (List Int)) : List (List Int) := fmat A.length fun i j => dot A B i j A.length
theorem dot_range (A B : List (List Int)) (i j : Nat) : ∀ k, 0 ≤ dot A B i j k ∧ dot A B i j k < 10007
  | 0 => by simp [dot]
  | k + 1 => by
    rw [dot]
    exact ⟨Int.emod_nonneg _ (by omega), Int.emod_lt_of_pos _ (by omega)⟩
theorem dot_skip {A B : List (List Int)} {i j k : Nat} (h : rd2 A i k = 0) : dot A B i j (k + 1) = dot A B i j k := by
  have := dot_range A B i j k
  rw [dot, h, Int.zero_mul, Int.add_zero, Int.emod_eq_of_lt this.1 this.2]
/-- n rows of n numbers of the field. -/
def Fq (n : Nat) (A : List (List Int)) : Prop := A.length = n ∧ ∀ i : Int, 0 ≤ i → i < n → (rr A i).length = n ∧ ∀ j : Int, 0 ≤ j → j < n → 0 ≤ rd2 A i j ∧ rd2 A i j < 10007
theorem Fq.fmat {n : Nat} {f : Nat → Nat → Int} (h : ∀ i j, i < n → j < n → 0 ≤ f i j ∧ f i j < 10007) : Fq n (fmat n f) := by
  refine ⟨fmat_length n f, fun i h0 h1 => ⟨fmat_rrl h0 h1, fun j h2 h3 => ?_⟩⟩
  obtain ⟨a, rfl⟩ : ∃ a : Nat, i = a := ⟨i.toNat, by omega⟩
  obtain ⟨b, rfl⟩ : ∃ b : Nat, j = b := ⟨j.toNat, by omega⟩
  have : rd2 (L.fmat n f) a b = f a b := fmat_rd (by omega) (by omega)
  rw [this]
  exact h a b (by omega) (by omega)
theorem Fq.mul {n : Nat} {A B : List (List Int)} (h : A.length = n) : Fq n (mulM A B) := by
  unfold mulM
  rw [h]
  exact Fq.fmat fun i j _ _ => dot_range A B i j n
/-- The state of the program's product: the rows before x are done, row x has k terms, its columns before y one more. -/
def mulP (A B : List (List Int)) (n x k y : Nat) : Nat → Nat → Int := fun a b => if a < x then dot A B a b n else if a = x then (if b < y then dot A B a b (k + 1) else dot A B a b k) else 0
theorem mulP_set {A B : List (List Int)} {n x k y : Nat} : fmat n (updF (mulP A B n x k y) x y (dot A B x y (k + 1))) = fmat n (mulP A B n x k (y + 1)) := by
  refine fmat_congr fun a b _ _ => ?_
  simp only [updF, mulP]
  by_cases h : a = x ∧ b = y
  · rw [if_pos h, h.1, h.2, if_neg (by omega), if_pos rfl, if_pos (by omega)]
  · rw [if_neg h]
    by_cases h1 : a < x
    · rw [if_pos h1, if_pos h1]
    · rw [if_neg h1, if_neg h1]
      by_cases h2 : a = x
      · rw [if_pos h2, if_pos h2]
        by_cases h3 : b < y
        · rw [if_pos h3, if_pos (by omega)]
        · rw [if_neg h3, if_neg (by omega)]
      · rw [if_neg h2, if_neg h2]
theorem mulP_col {A B : List (List Int)} {n x k : Nat} : fmat n (mulP A B n x k n) = fmat n (mulP A B n x (k + 1) 0) := by
  refine fmat_congr fun a b _ hb => ?_
  simp only [mulP]
  by_cases h1 : a < x
  · rw [if_pos h1, if_pos h1]
  · rw [if_neg h1, if_neg h1]
    by_cases h2 : a = x
    · rw [if_pos h2, if_pos h2, if_pos hb, if_neg (by omega)]
    · rw [if_neg h2, if_neg h2]
theorem mulP_skip {A B : List (List Int)} {n x k : Nat} (h : rd2 A x k = 0) : fmat n (mulP A B n x k 0) = fmat n (mulP A B n x (k + 1) 0) := by
  refine fmat_congr fun a b _ hb => ?_
  simp only [mulP]
  by_cases h1 : a < x
  · rw [if_pos h1, if_pos h1]
  · rw [if_neg h1, if_neg h1]
    by_cases h2 : a = x
    · rw [if_pos h2, if_pos h2, if_neg (by omega), if_neg (by omega), h2, dot_skip h]
    · rw [if_neg h2, if_neg h2]
theorem mulP_row {A B : List (List Int)} {n x : Nat} : fmat n (mulP A B n x n 0) = fmat n (mulP A B n (x + 1) 0 0) := by
  refine fmat_congr fun a b _ hb => ?_
  simp only [mulP, Nat.not_lt_zero, if_false, dot]
  by_cases h1 : a < x
  · rw [if_pos h1, if_pos (by omega)]
  · rw [if_neg h1]
    by_cases h2 : a = x
    · rw [if_pos h2, if_pos (by omega)]
    · rw [if_neg h2, if_neg (by omega), ite_self]
theorem mulP_zero {A B : List (List Int)} {n : Nat} : fmat n (fun _ _ => 0) = fmat n (mulP A B n 0 0 0) := by
  refine fmat_congr fun a b _ hb => ?_
  simp only [mulP]
  rw [if_neg (by omega)]
  split
  · rw [if_neg (by omega)]; rfl
  · rfl
theorem mulP_all {A B : List (List Int)} {n : Nat} : fmat n (mulP A B n n 0 0) = fmat n (fun i j => dot A B i j n) := by
  refine fmat_congr fun a b ha hb => ?_
  simp only [mulP]
  rw [if_pos ha]
theorem emul_range {a b : Int} (ha : 0 ≤ a ∧ a < 10007) (hb : 0 ≤ b ∧ b < 10007) : 0 ≤ a * b ∧ a * b ≤ 100140049 := mul_range ha hb (Int.le_refl _)
set_option maxHeartbeats 16000000 in
theorem multiplyIn_ok (n : Nat) (hn : 1 ≤ n ∧ n ≤ 1000) (v u : Value) (A B : List (List Int)) (w : World) (hv : RM w v A) (hu : RM w u B) (hA : Fq n A) (hB : Fq n B) :
    CallsR Try.prog 96 #[v, u] w fun r w' => NewM w w' r (mulM A B) := by
  have hAl := hA.1
  have hBl := hB.1
  obtain ⟨P, c, rfl, hc⟩ := hv.open
  obtain ⟨P', c', rfl, hc'⟩ := hu.open
  rw [hAl] at hc hv ⊢
  rw [hBl] at hc' hu ⊢
  have hs := St.start w
  unfold mulM
  rw [hAl]
  refine fn_calls Try.func96 rfl rfl rfl ?_
  refine W_seq ?_
  refine W_reg ?_
  refine T_pu rfl rfl (pu_assign rfl) ?_
  refine T_nil ?_
  refine W_seq ?_
  refine W_reg ?_
  refine T_pu rfl rfl (pu_move rfl) ?_
  refine T_pu rfl rfl (pu_len Try.underlying32 rfl) ?_
  refine T_go rfl rfl (st_call fn134 rfl ((zeroRows_ok n hn.2 _).mono ?_))
  rintro u1 w1 ⟨hds, hM1, hk1, hf1⟩
  have hs := hs.newM hM1 hk1 hf1
  obtain ⟨g, cg, rfl, hcg⟩ := hM1.slice (n := n) (by simp) hn.1
  rw [fmat_zero, mulP_zero (A := A) (B := B)] at hs
  refine T_pu rfl rfl (pu_assign rfl) ?_
  refine T_nil ?_
  refine W_seq ?_
  refine W_seq ?_
  refine W_reg ?_
  refine T_pu rfl rfl (pu_move rfl) ?_
  refine T_pu rfl rfl (pu_len Try.underlying32 rfl) ?_
  refine T_pu rfl rfl (pu_move rfl) ?_
  refine T_nil ?_
  refine W_block ?_
  refine W_loop (σ := Nat) (fun x => [(1, .slice P' n c'), (5, .slice (some ⟨g, 0, none⟩) n cg), (15, .slice P n c), (16, .int .i64 n), (17, .int .i64 x)]) (fun x w' => x ≤ n ∧ St no w [aMat (.slice (some ⟨g, 0, none⟩) n cg) hds (fmat n (mulP A B n x 0 0))] w') (fun x => n - x) 0 ?_ ?_ ?_
  · exact .cons rfl (.cons rfl (.cons rfl (.cons rfl (.cons rfl (.nil _)))))
  · exact ⟨Nat.zero_le _, hs⟩
  repeat clear hs
  rintro x w2 ⟨hxn, hs⟩
  refine W_seq ?_
  refine W_reg ?_
  refine T_pu rfl rfl (pu_lss rfl rfl) ?_
  refine T_nil ?_
  refine W_seq ?_
  refine W_if rfl (fun hc3 => ?_) (fun hc3 => ?_)
  · refine W_skip ?_
    refine W_seq ?_
    refine W_block ?_
    refine W_seq ?_
    obtain ⟨a, R, cR, rfl, hcx, hRI⟩ := hv.row (i := x) (by omega) (by omega)
    have hxl := (hA.2 x (by omega) (by omega)).1
    rw [hxl] at hcx hRI
    have hxr := (hA.2 x (by omega) (by omega)).2
    refine W_reg ?_
    refine T_pu rfl rfl (pu_move rfl) ?_
    refine T_pu rfl rfl ((by first | exact pu_ix1 Try.underlying32 ty22 rfl rfl (by omega) (by omega) | exact pu_index Try.underlying32 ty22 rfl rfl (by omega) (by omega))) ?_
    refine T_pi rfl rfl (pi_load Try.underlying22 rfl rfl (fun w' h => by obtain rfl := h; exact (by first | exact hs.kp.cell hcx id))) ?_
    refine T_pu rfl rfl (pu_assign rfl) ?_
    refine T_pu rfl rfl (pu_assign rfl) ?_
    refine T_nil ?_
    refine W_seq ?_
    refine W_reg ?_
    refine T_pu rfl rfl (pu_move rfl) ?_
    refine T_pu rfl rfl (pu_len Try.underlying22 rfl) ?_
    refine T_pu rfl rfl (pu_move rfl) ?_
    refine T_nil ?_
    refine W_block ?_
    refine W_loop (σ := Nat) (fun k => [(1, .slice P' n c'), (5, .slice (some ⟨g, 0, none⟩) n cg), (15, .slice (some a) n c), (16, .int .i64 n), (17, .int .i64 x), (6, .int .i64 x), (7, .slice R n cR), (22, .slice R n cR), (23, .int .i64 n), (24, .int .i64 k)]) (fun k w' => k ≤ n ∧ St no w [aMat (.slice (some ⟨g, 0, none⟩) n cg) hds (fmat n (mulP A B n x k 0))] w') (fun k => n - k) 0 ?_ ?_ ?_
    · exact .cons rfl (.cons rfl (.cons rfl (.cons rfl (.cons rfl (.cons rfl (.cons rfl (.cons rfl (.cons rfl (.cons rfl (.nil _))))))))))
    · exact ⟨Nat.zero_le _, hs⟩
    repeat clear hs
    rintro k w3 ⟨hkn, hs⟩
    refine W_seq ?_
    refine W_reg ?_
    refine T_pu rfl rfl (pu_lss rfl rfl) ?_
    refine T_nil ?_
    refine W_seq ?_
    refine W_if rfl (fun hc6 => ?_) (fun hc6 => ?_)
    · refine W_skip ?_
      refine W_seq ?_
      refine W_block ?_
      refine W_seq ?_
      obtain ⟨b, rfl⟩ := hRI.addr (i := k) (by omega) (by omega)
      have hck := (hRI.keep hs.kp).at (i := k) (by omega) (by omega)
      have hak := hxr k (by omega) (by omega)
      have hsk := mulP_skip (A := A) (B := B) (n := n) (x := x) (k := k)
      have hst := fun y => mulP_set (A := A) (B := B) (n := n) (x := x) (k := k) (y := y)
      have hdk : ∀ y, dot A B x y (k + 1) = (dot A B x y k + rd2 A x k * rd2 B k y) % 10007 := fun y => rfl
      rw [show rd (rr A x) k = rd2 A x k from rfl] at hck
      generalize rd2 A x k = ak at hck hak hsk hdk
      refine W_reg ?_
      refine T_pu rfl rfl (pu_move rfl) ?_
      refine T_pu rfl rfl ((by first | exact pu_ix1 Try.underlying22 ty2 rfl rfl (by omega) (by omega) | exact pu_index Try.underlying22 ty2 rfl rfl (by omega) (by omega))) ?_
      refine T_pi rfl rfl (pi_load Try.underlying2 rfl rfl (fun w' h => by obtain rfl := h; exact (by first | exact hck))) ?_
      refine T_pu rfl rfl (pu_assign rfl) ?_
      refine T_pu rfl rfl (pu_assign rfl) ?_
      refine T_nil ?_
      refine W_seq ?_
      refine W_seq ?_
      refine W_reg ?_
      refine T_pu rfl rfl (pu_move rfl) ?_
      refine T_pu rfl rfl (pu_eql rfl rfl) ?_
      refine T_nil ?_
      refine W_if rfl (fun hc8 => ?_) (fun hc8 => ?_)
      · rw [hsk (by omega)] at hs
        refine W_exit rfl ?_
        first
          | (have hyn' : y = n := by omega
             rw [hyn', mulP_col] at hs)
          | skip
        refine W_reg ?_
        refine T_pu rfl rfl (pu_add64 rfl rfl (by omega)) ?_
        refine T_pu rfl rfl (pu_move rfl) ?_
        refine T_nil ?_
        exact ⟨k + 1, .cons rfl (.cons rfl (.cons rfl (.cons rfl (.cons rfl (.cons rfl (.cons rfl (.cons rfl (.cons rfl (.cons rfl (.nil _)))))))))), ⟨by omega, hs⟩, by omega⟩
      · refine W_skip ?_
        refine W_seq ?_
        obtain ⟨a3, R3, cR3, rfl, hcb, hRB⟩ := hu.row (i := k) (by omega) (by omega)
        have hbl := (hB.2 k (by omega) (by omega)).1
        rw [hbl] at hcb hRB
        have hbr := (hB.2 k (by omega) (by omega)).2
        refine W_reg ?_
        refine T_pu rfl rfl (pu_move rfl) ?_
        refine T_pu rfl rfl (pu_move rfl) ?_
        refine T_pu rfl rfl ((by first | exact pu_ix1 Try.underlying32 ty22 rfl rfl (by omega) (by omega) | exact pu_index Try.underlying32 ty22 rfl rfl (by omega) (by omega))) ?_
        refine T_pi rfl rfl (pi_load Try.underlying22 rfl rfl (fun w' h => by obtain rfl := h; exact (by first | exact hs.kp.cell hcb id))) ?_
        refine T_pu rfl rfl (pu_len Try.underlying22 rfl) ?_
        refine T_pu rfl rfl (pu_move rfl) ?_
        refine T_nil ?_
        refine W_block ?_
        refine W_loop (σ := Nat) (fun y => [(1, .slice (some a3) n c'), (5, .slice (some ⟨g, 0, none⟩) n cg), (15, .slice (some a) n c), (16, .int .i64 n), (17, .int .i64 x), (6, .int .i64 x), (7, .slice (some b) n cR), (22, .slice (some b) n cR), (23, .int .i64 n), (24, .int .i64 k), (8, .int .i64 k), (9, .int .i64 ak), (34, .slice R3 n cR3), (35, .int .i64 n), (36, .int .i64 y)]) (fun y w' => y ≤ n ∧ St no w [aMat (.slice (some ⟨g, 0, none⟩) n cg) hds (fmat n (mulP A B n x k y))] w') (fun y => n - y) 0 ?_ ?_ ?_
        · exact .cons rfl (.cons rfl (.cons rfl (.cons rfl (.cons rfl (.cons rfl (.cons rfl (.cons rfl (.cons rfl (.cons rfl (.cons rfl (.cons rfl (.cons rfl (.cons rfl (.cons rfl (.nil _)))))))))))))))
        · exact ⟨Nat.zero_le _, hs⟩
        repeat clear hs
        rintro y w4 ⟨hyn, hs⟩
        refine W_seq ?_
        refine W_reg ?_
        refine T_pu rfl rfl (pu_lss rfl rfl) ?_
        refine T_nil ?_
        refine W_seq ?_
        refine W_if rfl (fun hc10 => ?_) (fun hc10 => ?_)
        · refine W_skip ?_
          refine W_seq ?_
          refine W_block ?_
          refine W_seq ?_
          obtain ⟨b3, rfl⟩ := hRB.addr (i := y) (by omega) (by omega)
          have hcy := (hRB.keep hs.kp).at (i := y) (by omega) (by omega)
          have hby := hbr y (by omega) (by omega)
          have hdy := hdk y
          have hsty := hst y
          rw [show rd (rr B k) y = rd2 B k y from rfl] at hcy
          generalize rd2 B k y = bk at hcy hby hdy
          have hdr := dot_range A B x y k
          have hmr := emul_range hak hby
          refine W_reg ?_
          refine T_pu rfl rfl (pu_move rfl) ?_
          refine T_pu rfl rfl ((by first | exact pu_ix1 Try.underlying22 ty2 rfl rfl (by omega) (by omega) | exact pu_index Try.underlying22 ty2 rfl rfl (by omega) (by omega))) ?_
          refine T_pi rfl rfl (pi_load Try.underlying2 rfl rfl (fun w' h => by obtain rfl := h; exact (by first | exact hcy))) ?_
          refine T_pu rfl rfl (pu_assign rfl) ?_
          refine T_pu rfl rfl (pu_assign rfl) ?_
          refine T_nil ?_
          refine W_draw mixed 18 IS (fun w5 hk5 => ?_)
          have hs := hs.next hk5
          clear hcy
          obtain ⟨b5, cc5, hh5, hcl5, hO5⟩ := (hs.mat 0 rfl).at (i := x) (m := n) (by omega) (by rw [fmat_length]; omega) (fmat_rrl (by omega) (by omega)) (by omega)
          have hc5 := hO5.ri.at0 (i := y) (by omega) (by rw [fmat_rrl (by omega) (by omega)]; omega)
          rw [fmat_rd (by omega) (by omega), show mulP A B n x k y x y = dot A B x y k by unfold mulP; rw [if_neg (by omega), if_pos rfl, if_neg (by omega)]] at hc5
          generalize dot A B x y k = dk at hc5 hdy hdr
          refine D_pu 0 (by kernel_rfl) rfl (by kernel_rfl) (by kernel_rfl) rfl rfl (by kernel_rfl) (Pu.stable (pu_move rfl)) ?_
          refine D_pu 1 (by kernel_rfl) rfl (by kernel_rfl) (by kernel_rfl) rfl rfl (by kernel_rfl) (Pu.stable (pu_move rfl)) ?_
          refine D_pu 2 (by kernel_rfl) rfl (by kernel_rfl) (by kernel_rfl) rfl rfl (by kernel_rfl) (Pu.stable ((by first | exact pu_ix1 Try.underlying32 ty22 rfl rfl (by omega) (by omega) | exact pu_index Try.underlying32 ty22 rfl rfl (by omega) (by omega)))) ?_
          refine D_rd 3 (by kernel_rfl) rfl (by kernel_rfl) (by kernel_rfl) rfl rfl (by kernel_rfl) (by kernel_rfl) (by kernel_rfl) (pi_load Try.underlying22 rfl rfl (fun w' h => by obtain rfl := h rfl; exact (by first | exact hcl5 | exact hc5))) ?_
          refine D_pu 4 (by kernel_rfl) rfl (by kernel_rfl) (by kernel_rfl) rfl rfl (by kernel_rfl) (Pu.stable (pu_move rfl)) ?_
          refine D_pu 5 (by kernel_rfl) rfl (by kernel_rfl) (by kernel_rfl) rfl rfl (by kernel_rfl) (Pu.stable (pu_move rfl)) ?_
          refine D_pu 6 (by kernel_rfl) rfl (by kernel_rfl) (by kernel_rfl) rfl rfl (by kernel_rfl) (Pu.stable (pu_move rfl)) ?_
          refine D_pu 7 (by kernel_rfl) rfl (by kernel_rfl) (by kernel_rfl) rfl rfl (by kernel_rfl) (Pu.stable ((by first | exact pu_ix1 Try.underlying32 ty22 rfl rfl (by omega) (by omega) | exact pu_index Try.underlying32 ty22 rfl rfl (by omega) (by omega)))) ?_
          refine D_rd 8 (by kernel_rfl) rfl (by kernel_rfl) (by kernel_rfl) rfl rfl (by kernel_rfl) (by kernel_rfl) (by kernel_rfl) (pi_load Try.underlying22 rfl rfl (fun w' h => by obtain rfl := h rfl; exact (by first | exact hcl5 | exact hc5))) ?_
          refine D_pu 9 (by kernel_rfl) rfl (by kernel_rfl) (by kernel_rfl) rfl rfl (by kernel_rfl) (Pu.stable (pu_move rfl)) ?_
          refine D_pu 10 (by kernel_rfl) rfl (by kernel_rfl) (by kernel_rfl) rfl rfl (by kernel_rfl) (Pu.stable ((by first | exact pu_ix1 Try.underlying22 ty2 rfl rfl (by omega) (by omega) | exact pu_index Try.underlying22 ty2 rfl rfl (by omega) (by omega)))) ?_
          refine D_rd 11 (by kernel_rfl) rfl (by kernel_rfl) (by kernel_rfl) rfl rfl (by kernel_rfl) (by kernel_rfl) (by kernel_rfl) (pi_load Try.underlying2 rfl rfl (fun w' h => by obtain rfl := h rfl; exact (by first | exact hcl5 | exact hc5))) ?_
          refine D_pu 12 (by kernel_rfl) rfl (by kernel_rfl) (by kernel_rfl) rfl rfl (by kernel_rfl) (Pu.stable (pu_move rfl)) ?_
          refine D_pu 13 (by kernel_rfl) rfl (by kernel_rfl) (by kernel_rfl) rfl rfl (by kernel_rfl) (Pu.stable (pu_move rfl)) ?_
          refine D_pu 14 (by kernel_rfl) rfl (by kernel_rfl) (by kernel_rfl) rfl rfl (by kernel_rfl) (Pu.stable (pu_mul64 rfl rfl (by omega))) ?_
          refine D_pu 15 (by kernel_rfl) rfl (by kernel_rfl) (by kernel_rfl) rfl rfl (by kernel_rfl) (Pu.stable (pu_add64 rfl rfl (by omega))) ?_
          refine D_pu 16 (by kernel_rfl) rfl (by kernel_rfl) (by kernel_rfl) rfl rfl (by kernel_rfl) (Pu.stable (pu_rem rfl rfl (by omega))) ?_
          refine D_pu 17 (by kernel_rfl) rfl (by kernel_rfl) (by kernel_rfl) rfl rfl (by kernel_rfl) (Pu.stable ((by first | exact pu_ix1 Try.underlying22 ty2 rfl rfl (by omega) (by omega) | exact pu_index Try.underlying22 ty2 rfl rfl (by omega) (by omega)))) ?_
          refine D_goN 18 (by kernel_rfl) (by first | rfl | (intro _; rfl) | (intro h; exact absurd (show true = false from h) (by decide)) | exact Kp.refl _ _ | assumption) rfl rfl (st_storeM hs 0 rfl x (by omega) (by rw [fmat_length]; omega) hh5 ty2 rfl rfl (by omega) (by omega) fun w6 hk6 hs => ?_)
          rw [fmat_set (by omega) (by omega), tmod_nn (by omega), ← hdy, hsty] at hs
          simp only [List.set_cons_zero] at hs
          refine D_done (by kernel_rfl) (by first | rfl | (intro _; rfl) | (intro h; exact absurd (show true = false from h) (by decide)) | exact Kp.refl _ _ | assumption) ?_
          refine W_reg ?_
          refine T_pu rfl rfl (pu_add64 rfl rfl (by omega)) ?_
          refine T_pu rfl rfl (pu_move rfl) ?_
          refine T_nil ?_
          exact ⟨y + 1, .cons rfl (.cons rfl (.cons rfl (.cons rfl (.cons rfl (.cons rfl (.cons rfl (.cons rfl (.cons rfl (.cons rfl (.cons rfl (.cons rfl (.cons rfl (.cons rfl (.cons rfl (.nil _))))))))))))))), ⟨by omega, hs⟩, by omega⟩
        · refine W_exit rfl ?_
          first
            | (have hyn' : y = n := by omega
               rw [hyn', mulP_col] at hs)
            | skip
          refine W_reg ?_
          refine T_pu rfl rfl (pu_add64 rfl rfl (by omega)) ?_
          refine T_pu rfl rfl (pu_move rfl) ?_
          refine T_nil ?_
          exact ⟨k + 1, .cons rfl (.cons rfl (.cons rfl (.cons rfl (.cons rfl (.cons rfl (.cons rfl (.cons rfl (.cons rfl (.cons rfl (.nil _)))))))))), ⟨by omega, hs⟩, by omega⟩
    · refine W_exit rfl ?_
      obtain rfl : k = n := by omega
      rw [mulP_row] at hs
      refine W_reg ?_
      refine T_pu rfl rfl (pu_add64 rfl rfl (by omega)) ?_
      refine T_pu rfl rfl (pu_move rfl) ?_
      refine T_nil ?_
      exact ⟨x + 1, .cons rfl (.cons rfl (.cons rfl (.cons rfl (.cons rfl (.nil _))))), ⟨by omega, hs⟩, by omega⟩
  · refine W_exit rfl ?_
    refine W_seq ?_
    refine W_reg ?_
    refine T_pu rfl rfl (pu_move rfl) ?_
    refine T_pu rfl rfl (pu_assign rfl) ?_
    refine T_nil ?_
    refine W_ret ?_
    obtain rfl : x = n := by omega
    rw [mulP_all] at hs
    exact Res_1 rfl rfl (hs.isNewM 0 rfl)
end Go.Proofs.Ytdpbfdjpeofbmaa.L
