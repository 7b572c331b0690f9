/- Places of strands: what letters make of them, where strands end, which braids are pure. -/
import Derived.Test.YtdpbfdjpeofbmaaC5
import Derived.Test.YtdpbfdjpeofbmaaL13
namespace Go.Proofs.Ytdpbfdjpeofbmaa.L
set_option linter.unusedVariables false
set_option maxRecDepth 100000

def iota (n : Nat) : List Int := (List.range n).map fun i : Nat => (i : Int)
theorem iota_length (n : Nat) : (iota n).length = n := by simp [iota]
theorem iota_rd {n i : Nat} (h : i < n) : rd (iota n) i = i := by simp [iota, rd, List.getD_eq_getElem?_getD, h]
theorem iota_succ (n : Nat) : iota (n + 1) = iota n ++ [(n : Int)] := by simp [iota, List.range_succ]
def pad (m : Nat) (xs : List Int) : List Int := xs ++ List.replicate (m - xs.length) 0
theorem pad_length {m : Nat} {xs : List Int} (h : xs.length ≤ m) : (pad m xs).length = m := by simp [pad]; omega
theorem pad_rd (m : Nat) (xs : List Int) (i : Int) : rd (pad m xs) i = rd xs i := by
  unfold rd pad
  simp only [List.getD_eq_getElem?_getD]
  by_cases h : i.toNat < xs.length
  · rw [List.getElem?_append_left h]
  · rw [List.getElem?_append_right (by omega), List.getElem?_eq_none (l := xs) (by omega), List.getElem?_replicate]
    split <;> rfl
theorem pad_set {m : Nat} {xs : List Int} {i : Nat} (h : i < xs.length) (x : Int) : (pad m xs).set i x = pad m (xs.set i x) := by
  unfold pad
  rw [List.set_append_left _ _ h, List.length_set]
theorem pad_end {m : Nat} {xs : List Int} {k : Nat} (hk : xs.length = k) (h : k < m) (x : Int) : (pad m xs).set k x = pad m (xs ++ [x]) := by
  subst hk
  unfold pad
  rw [List.set_append_right _ _ (Nat.le_refl _), Nat.sub_self, show m - xs.length = (m - (xs.length + 1)) + 1 by omega, List.replicate_succ, List.set_cons_zero]
  simp [List.append_assoc]
theorem pad_nil (m : Nat) : pad m [] = List.replicate m 0 := by simp [pad]
theorem pad_inj {m : Nat} {xs ys : List Int} (h : xs.length = ys.length) : pad m xs = pad m ys ↔ xs = ys := by
  refine ⟨fun e => ?_, fun e => by rw [e]⟩
  unfold pad at e
  exact (List.append_inj e h).1
def swp (a : List Int) (k : Int) : List Int := (a.set (k - 1).toNat (rd a k)).set k.toNat (rd a (k - 1))
theorem swp_length (a : List Int) (k : Int) : (swp a k).length = a.length := by simp [swp]
theorem rd_memI {xs : List Int} {i : Int} (h0 : 0 ≤ i) (h : i < xs.length) : rd xs i ∈ xs := by
  have := rd_mem (xs := xs) (i := i.toNat) (by omega)
  rwa [Int.toNat_of_nonneg h0] at this
def InN (n : Nat) (xs : List Int) : Prop := ∀ x ∈ xs, 0 ≤ x ∧ x < n
theorem InN.set {n : Nat} {xs : List Int} (h : InN n xs) {i : Nat} {x : Int} (hx : 0 ≤ x ∧ x < n) : InN n (xs.set i x) := fun y hy => by
  rcases List.mem_or_eq_of_mem_set hy with hy | rfl
  · exact h y hy
  · exact hx
theorem InN.rd {n : Nat} {xs : List Int} (h : InN n xs) {i : Int} (h0 : 0 ≤ i) (h1 : i < xs.length) : 0 ≤ rd xs i ∧ rd xs i < n := h _ (rd_memI h0 h1)
def strF (n : Nat) (ls : List Int) : List Int := ls.foldl (fun a l => swp a (max l (-l))) (iota n)
theorem foldl_take {α : Type} (f : α → Int → α) (a : α) (ls : List Int) (k : Nat) (h : k < ls.length) : (ls.take (k + 1)).foldl f a = f ((ls.take k).foldl f a) (rd ls k) := by
  rw [List.take_add_one, List.getElem?_eq_getElem h, List.foldl_append]
  simp [rd, List.getD_eq_getElem?_getD, h]
theorem strF_take {n : Nat} {ls : List Int} {k : Nat} (h : k < ls.length) : strF n (ls.take (k + 1)) = swp (strF n (ls.take k)) (max (rd ls k) (-rd ls k)) := foldl_take _ _ _ _ h
theorem iota_in (n : Nat) : InN n (iota n) := fun x hx => by
  simp only [iota, List.mem_map, List.mem_range] at hx
  obtain ⟨i, hi, rfl⟩ := hx
  omega
theorem swp_in {n : Nat} {a : List Int} (h : a.length = n ∧ InN n a) {k : Int} (h1 : 1 ≤ k) (h2 : k ≤ n - 1) : (swp a k).length = n ∧ InN n (swp a k) :=
  ⟨by rw [swp_length]; exact h.1, (h.2.set (h.2.rd (by omega) (by omega))).set (h.2.rd (by omega) (by omega))⟩
theorem strF_ok {n : Nat} {ls : List Int} (hl : ∀ l ∈ ls, Lt n l) : (strF n ls).length = n ∧ InN n (strF n ls) := by
  unfold strF
  have key : ∀ (ls : List Int) (a : List Int), (∀ l ∈ ls, Lt n l) → a.length = n ∧ InN n a → (ls.foldl (fun a l => swp a (max l (-l))) a).length = n ∧ InN n (ls.foldl (fun a l => swp a (max l (-l))) a) := by
    intro ls
    induction ls with
    | nil => intro a _ h; exact h
    | cons l ls ih =>
      intro a hl h
      have := hl l (by simp)
      unfold Lt at this
      exact ih _ (fun x hx => hl x (by simp [hx])) (swp_in h (by omega) (by omega))
  exact key ls _ hl ⟨iota_length n, iota_in n⟩
theorem strF_okT {n : Nat} {ls : List Int} (hl : ∀ l ∈ ls, Lt n l) (k : Nat) : (strF n (ls.take k)).length = n ∧ InN n (strF n (ls.take k)) := strF_ok fun l h => hl l (List.mem_of_mem_take h)
/-- Where the strands end: strand 'a i' at place i. -/
def endsTo (a : List Int) (n k : Nat) : List Int := (List.range k).foldl (fun o (i : Nat) => o.set (rd a i).toNat (i : Int)) (List.replicate n 0)
theorem endsTo_succ (a : List Int) (n k : Nat) : endsTo a n (k + 1) = (endsTo a n k).set (rd a k).toNat k := by simp [endsTo, List.range_succ, List.foldl_append]
theorem endsTo_ok (a : List Int) (n : Nat) (hn : 0 < n) (k : Nat) (hk : k ≤ n) : (endsTo a n k).length = n ∧ InN n (endsTo a n k) := by
  induction k with
  | zero => exact ⟨by simp [endsTo], fun x hx => by have := List.eq_of_mem_replicate hx; omega⟩
  | succ k ih =>
    rw [endsTo_succ]
    have := ih (by omega)
    exact ⟨by rw [List.length_set]; exact this.1, this.2.set ⟨by omega, by omega⟩⟩
def endsF (n : Nat) (ls : List Int) : List Int := endsTo (strF n ls) n n
theorem u8_small {x : Int} (h : 0 ≤ x ∧ x < 256) : IntKind.u8.wrap x = x := by rw [wrap_u8]; omega
theorem i64_small {x : Int} (h : 0 ≤ x ∧ x < 256) : IntKind.i64.wrap x = x := w64_in (by omega)

set_option maxHeartbeats 4000000 in
theorem l01Strands_ok (n : Nat) (hn : 1 ≤ n ∧ n ≤ 8) (v : Value) (xs : List Int) (w : World) (hv : RI w v xs) (hl : xs.length ≤ 9223372036854775807) (hL : ∀ l ∈ xs, Lt n l) :
    CallsR Try.prog 143 #[.int .i64 n, v] w fun r w' => r = .agg (nums .u8 (pad 8 (strF n xs))).toArray ∧ Kp no w w' := by
  obtain ⟨A, c, rfl, hc⟩ := hv.open
  have hs := St.start w
  refine fn_calls Try.func143 rfl rfl rfl ?_
  refine W_seq ?_
  refine W_reg ?_
  refine T_go rfl rfl (st_allocS hs ty107 fun w1 b1 hk1 hb1 hs => ?_)
  refine T_nil ?_
  refine W_seq ?_
  refine W_reg ?_
  refine T_pu rfl rfl (pu_build (v := .agg (nums .u8 (List.replicate 8 0)).toArray) (vs := []) (parts := []) rfl (fun _ => by kernel_rfl)) ?_
  refine T_go rfl rfl (st_allocS hs ty107 fun w2 b2 hk2 hb2 hs => ?_)
  refine T_goN rfl (st_storeW hs 0 rfl ty107 rfl rfl (by first | rfl | (simp; done) | assumption) (by first | rfl | (simp; done) | assumption) fun w3 hk3 hs => ?_)
  refine T_nil ?_
  refine W_seq ?_
  refine W_seq ?_
  refine W_reg ?_
  refine T_pu rfl rfl (pu_assign rfl) ?_
  refine T_nil ?_
  refine W_block ?_
  refine W_loop (σ := Nat) (fun k => [(0, .int .i64 n), (1, .slice A xs.length c), (4, .pointer (some ⟨b1, 0, none⟩)), (5, .pointer (some ⟨b2, 0, none⟩)), (6, .int .i64 k)]) (fun k w' => k ≤ n ∧ ∃ cs, cs.length = 8 ∧ St no w [aBk b2 107 (nums .u8 (pad 8 (iota k))), aBk b1 107 cs] w') (fun k => n - k) 0 ?_ ?_ ?_
  · exact .cons rfl (.cons rfl (.cons rfl (.cons rfl (.cons rfl (.nil _)))))
  · exact ⟨Nat.zero_le _, _, by rfl, hs⟩
  clear hs
  rintro k w4 ⟨hkn, cs, hcs, hs⟩
  have hil := iota_length k
  refine W_seq ?_
  refine W_seq ?_
  refine W_reg ?_
  refine T_pu rfl rfl (pu_move rfl) ?_
  refine T_pu rfl rfl (pu_move rfl) ?_
  refine T_pu rfl rfl (pu_lss rfl rfl) ?_
  refine T_nil ?_
  refine W_if rfl (fun hc3 => ?_) (fun hc3 => ?_)
  · refine W_skip ?_
    refine W_seq ?_
    refine W_block ?_
    refine W_reg ?_
    refine T_pu rfl rfl (pu_move rfl) ?_
    refine T_pu rfl rfl (pu_move rfl) ?_
    refine T_pu rfl rfl (pu_conv Try.underlying2 Try.underlying5 rfl) ?_
    refine T_pu rfl rfl (pu_ixA Try.underlying107 ty5 rfl rfl (by omega) (by omega)) ?_
    refine T_goN rfl (st_storeN hs 0 rfl ty5 rfl rfl k (by omega) (by rw [pad_length (by omega)]; omega) fun w5 hk5 hs => ?_)
    rw [u8_small (by omega), pad_end hil (by omega), ← iota_succ] at hs
    simp only [List.set_cons_zero] at hs
    refine T_nil ?_
    refine W_reg ?_
    refine T_pu rfl rfl (pu_move rfl) ?_
    refine T_pu rfl rfl (pu_add64 rfl rfl (by omega)) ?_
    refine T_pu rfl rfl (pu_assign rfl) ?_
    refine T_nil ?_
    exact ⟨k + 1, .cons rfl (.cons rfl (.cons rfl (.cons rfl (.cons rfl (.nil _))))), ⟨by omega, cs, hcs, hs⟩, by omega⟩
  · obtain rfl : k = n := by omega
    refine W_exit rfl ?_
    refine W_seq ?_
    refine W_seq ?_
    refine W_reg ?_
    refine T_pu rfl rfl (pu_assign rfl) ?_
    refine T_nil ?_
    refine W_block ?_
    refine W_loop (σ := Nat) (fun j => [(0, .int .i64 k), (1, .slice A xs.length c), (4, .pointer (some ⟨b1, 0, none⟩)), (5, .pointer (some ⟨b2, 0, none⟩)), (7, .int .i64 j)]) (fun j w' => j ≤ xs.length ∧ St no w [aBk b2 107 (nums .u8 (pad 8 (strF k (xs.take j)))), aBk b1 107 cs] w') (fun j => xs.length - j) 0 ?_ ?_ ?_
    · exact .cons rfl (.cons rfl (.cons rfl (.cons rfl (.cons rfl (.nil _)))))
    · exact ⟨Nat.zero_le _, hs⟩
    clear hs
    rintro j w6 ⟨hjl, hs⟩
    refine W_seq ?_
    refine W_seq ?_
    refine W_reg ?_
    refine T_pu rfl rfl (pu_move rfl) ?_
    refine T_pu rfl rfl (pu_move rfl) ?_
    refine T_pu rfl rfl (pu_len Try.underlying22 rfl) ?_
    refine T_pu rfl rfl (pu_lss rfl rfl) ?_
    refine T_nil ?_
    refine W_if rfl (fun hc7 => ?_) (fun hc7 => ?_)
    · refine W_skip ?_
      refine W_seq ?_
      refine W_block ?_
      refine W_seq ?_
      refine W_draw mixed 1000 I0 (fun w7 hk7 => ?_)
      have hs := hs.next hk7
      have hv2 := hv.keep hs.kp
      obtain ⟨a, rfl⟩ := hv2.addr (i := j) (by omega) (by omega)
      have hlt := hL _ (rd_mem (i := j) (by omega))
      unfold Lt at hlt
      have hcell := hv2.at (i := j) (by omega) (by omega)
      have hso := strF_okT hL j
      have hpl := pad_length (m := 8) (xs := strF k (xs.take j)) (by omega)
      refine D_pu 0 (by kernel_rfl) rfl (by kernel_rfl) (by kernel_rfl) rfl rfl (by kernel_rfl) (Pu.stable (pu_move rfl)) ?_
      refine D_pu 1 (by kernel_rfl) rfl (by kernel_rfl) (by kernel_rfl) rfl rfl (by kernel_rfl) (Pu.stable (pu_move rfl)) ?_
      refine D_pu 2 (by kernel_rfl) rfl (by kernel_rfl) (by kernel_rfl) rfl rfl (by kernel_rfl) (Pu.stable ((by first | exact pu_ix1 Try.underlying22 ty2 rfl rfl (by omega) (by omega) | exact pu_index Try.underlying22 ty2 rfl rfl (by omega) (by omega)))) ?_
      refine D_pu 3 (by kernel_rfl) rfl (by kernel_rfl) (by kernel_rfl) rfl rfl (by kernel_rfl) (pi_load Try.underlying2 rfl rfl (fun w' h => by obtain ⟨_, rfl⟩ := h; exact (by first | exact hcell))) ?_
      refine D_pu 4 (by kernel_rfl) rfl (by kernel_rfl) (by kernel_rfl) rfl rfl (by kernel_rfl) (Pu.stable (pu_move rfl)) ?_
      refine D_pu 5 (by kernel_rfl) rfl (by kernel_rfl) (by kernel_rfl) rfl rfl (by kernel_rfl) (Pu.stable (pu_move rfl)) ?_
      refine D_pu 6 (by kernel_rfl) rfl (by kernel_rfl) (by kernel_rfl) rfl rfl (by kernel_rfl) (Pu.stable ((by first | exact pu_ix1 Try.underlying22 ty2 rfl rfl (by omega) (by omega) | exact pu_index Try.underlying22 ty2 rfl rfl (by omega) (by omega)))) ?_
      refine D_pu 7 (by kernel_rfl) rfl (by kernel_rfl) (by kernel_rfl) rfl rfl (by kernel_rfl) (pi_load Try.underlying2 rfl rfl (fun w' h => by obtain ⟨_, rfl⟩ := h; exact (by first | exact hcell))) ?_
      refine D_pu 8 (by kernel_rfl) rfl (by kernel_rfl) (by kernel_rfl) rfl rfl (by kernel_rfl) (Pu.stable (pu_neg64 rfl (by omega))) ?_
      refine D_pu 9 (by kernel_rfl) rfl (by kernel_rfl) (by kernel_rfl) rfl rfl (by kernel_rfl) (Pu.stable (pu_max rfl rfl)) ?_
      refine D_pu 10 (by kernel_rfl) rfl (by kernel_rfl) (by kernel_rfl) rfl rfl (by kernel_rfl) (Pu.stable (pu_assign rfl)) ?_
      refine D_done (by kernel_rfl) (by first | rfl | (intro _; rfl) | (intro h; exact absurd (show true = false from h) (by decide)) | exact Kp.refl _ _ | assumption) ?_
      refine W_seq ?_
      refine W_reg ?_
      refine T_pu rfl rfl (pu_move rfl) ?_
      refine T_pu rfl rfl (pu_ixA Try.underlying107 ty5 rfl rfl (by omega) (by omega)) ?_
      refine T_pi rfl rfl (pi_load Try.underlying5 rfl rfl (fun w' h => by obtain rfl := h; exact (by first | exact (hs.bk 0 rfl).at1 (by omega) (by omega)))) ?_
      refine T_pu rfl rfl (pu_assign rfl) ?_
      refine T_nil ?_
      refine W_seq ?_
      refine W_reg ?_
      refine T_pu rfl rfl (pu_move rfl) ?_
      refine T_pu rfl rfl (pu_move rfl) ?_
      refine T_pu rfl rfl (pu_sub64 rfl rfl (by omega)) ?_
      refine T_pu rfl rfl (pu_ixA Try.underlying107 ty5 rfl rfl (by omega) (by omega)) ?_
      refine T_pi rfl rfl (pi_load Try.underlying5 rfl rfl (fun w' h => by obtain rfl := h; exact (by first | exact (hs.bk 0 rfl).at1 (by omega) (by omega)))) ?_
      refine T_pu rfl rfl (pu_ixA Try.underlying107 ty5 rfl rfl (by omega) (by omega)) ?_
      refine T_goN rfl (st_storeN hs 0 rfl ty5 rfl rfl (max (rd xs j) (-rd xs j)).toNat (by omega) (by first | omega | (simp; omega)) fun w8 hk8 hs => ?_)
      simp only [List.set_cons_zero] at hs
      refine T_nil ?_
      refine W_reg ?_
      refine T_pu rfl rfl (pu_move rfl) ?_
      refine T_pu rfl rfl (pu_sub64 rfl rfl (by omega)) ?_
      refine T_pu rfl rfl (pu_move rfl) ?_
      refine T_pu rfl rfl (pu_ixA Try.underlying107 ty5 rfl rfl (by omega) (by omega)) ?_
      refine T_goN rfl (st_storeN hs 0 rfl ty5 rfl rfl (max (rd xs j) (-rd xs j) - 1).toNat (by omega) (by first | omega | (simp; omega)) fun w9 hk9 hs => ?_)
      simp only [List.set_cons_zero, pad_rd] at hs
      rw [pad_set (by omega), pad_set (by rw [List.length_set]; omega), List.set_comm _ _ (by omega)] at hs
      have hst := strF_take (n := k) (ls := xs) (k := j) (by omega)
      unfold swp at hst
      rw [← hst] at hs
      refine T_nil ?_
      refine W_reg ?_
      refine T_pu rfl rfl (pu_move rfl) ?_
      refine T_pu rfl rfl (pu_add64 rfl rfl (by omega)) ?_
      refine T_pu rfl rfl (pu_assign rfl) ?_
      refine T_nil ?_
      exact ⟨j + 1, .cons rfl (.cons rfl (.cons rfl (.cons rfl (.cons rfl (.nil _))))), ⟨by omega, hs⟩, by omega⟩
    · refine W_exit rfl ?_
      refine W_seq ?_
      have hpl := pad_length (m := 8) (xs := strF k (xs.take j)) (by rw [(strF_okT hL j).1]; omega)
      refine W_reg ?_
      refine T_pi rfl rfl (pi_loadAgg Try.underlying107 rfl ty107 rfl (fun w' h => by obtain rfl := h; exact (by first | exact (hs.bk 0 rfl).cells)) (by first | rfl | (simp; done) | (rw [nums_length]; assumption) | assumption)) ?_
      refine T_goN rfl (st_storeW hs 1 rfl ty107 rfl rfl (by first | rfl | (simp; done) | assumption) (by first | rfl | (simp; done) | assumption) fun w10 hk10 hs => ?_)
      refine T_nil ?_
      refine W_ret ?_
      obtain rfl : j = xs.length := by omega
      rw [List.take_length] at hs
      refine Res_r1 rfl (rv_cell Try.underlying107 rfl ty107 rfl (hs.bk 1 rfl) (by rw [nums_length, pad_length (by rw [(strF_ok hL).1]; omega)])) ⟨rfl, hs.kp⟩

theorem pad_zeros {n m : Nat} (h : n ≤ m) : pad m (List.replicate n 0) = List.replicate m 0 := by
  unfold pad
  rw [List.length_replicate, List.replicate_append_replicate]
  congr 1
  omega
set_option maxHeartbeats 4000000 in
theorem l01Perm_ok (n : Nat) (hn : 1 ≤ n ∧ n ≤ 8) (v : Value) (xs : List Int) (w : World) (hv : RI w v xs) (hl : xs.length ≤ 9223372036854775807) (hL : ∀ l ∈ xs, Lt n l) :
    CallsR Try.prog 117 #[.int .i64 n, v] w fun r w' => r = .agg (nums .u8 (pad 8 (endsF n xs))).toArray ∧ Kp no w w' := by
  obtain ⟨A, c, rfl, hc⟩ := hv.open
  have hs := St.start w
  obtain ⟨ha1, ha2⟩ := strF_ok hL
  unfold endsF
  generalize ha : strF n xs = a at ha1 ha2
  have hpa := pad_length (m := 8) (xs := a) (by omega)
  refine fn_calls Try.func117 rfl rfl rfl ?_
  refine W_seq ?_
  refine W_reg ?_
  refine T_go rfl rfl (st_allocS hs ty107 fun w1 b1 hk1 hb1 hs => ?_)
  refine T_nil ?_
  refine W_seq ?_
  refine W_reg ?_
  refine T_pu rfl rfl (pu_move rfl) ?_
  refine T_pu rfl rfl (pu_move rfl) ?_
  refine T_go rfl rfl (st_call fn143 rfl ((l01Strands_ok n hn _ xs _ (hv.keep hs.kp) hl hL).mono ?_))
  rintro v w2 ⟨rfl, hk2⟩
  have hs := hs.next hk2
  rw [ha]
  refine T_pu rfl rfl (pu_build (v := .agg (nums .u8 (List.replicate 8 0)).toArray) (vs := []) (parts := []) rfl (fun _ => by kernel_rfl)) ?_
  refine T_go rfl rfl (st_allocS hs ty107 fun w3 b3 hk3 hb3 hs => ?_)
  refine T_go rfl rfl (st_allocS hs ty107 fun w4 b4 hk4 hb4 hs => ?_)
  refine T_goN rfl (st_storeW hs 1 rfl ty107 rfl rfl (by first | rfl | (simp; done) | assumption) (by first | rfl | (simp; done) | assumption) fun w5 hk5 hs => ?_)
  refine T_goN rfl (st_storeW hs 0 rfl ty107 rfl rfl (by first | rfl | (simp; done) | assumption) (by first | rfl | (simp; done) | assumption) fun w6 hk6 hs => ?_)
  refine T_nil ?_
  refine W_seq ?_
  refine W_seq ?_
  refine W_reg ?_
  refine T_pu rfl rfl (pu_assign rfl) ?_
  refine T_nil ?_
  refine W_block ?_
  refine W_loop (σ := Nat) (fun k => [(0, .int .i64 n), (4, .pointer (some ⟨b1, 0, none⟩)), (5, .pointer (some ⟨b3, 0, none⟩)), (6, .pointer (some ⟨b4, 0, none⟩)), (7, .int .i64 k)]) (fun k w' => k ≤ n ∧ ∃ cs, cs.length = 8 ∧ St no w [aBk b4 107 (nums .u8 (pad 8 (endsTo a n k))), aBk b3 107 (nums .u8 (pad 8 a)), aBk b1 107 cs] w') (fun k => n - k) 0 ?_ ?_ ?_
  · exact .cons rfl (.cons rfl (.cons rfl (.cons rfl (.cons rfl (.nil _)))))
  · rw [show endsTo a n 0 = List.replicate n 0 from rfl, pad_zeros hn.2]
    exact ⟨Nat.zero_le _, _, by rfl, hs⟩
  clear hs
  rintro k w7 ⟨hkn, cs, hcs, hs⟩
  have hte := endsTo_ok a n hn.1 k hkn
  have hpl := pad_length (m := 8) (xs := endsTo a n k) (by omega)
  refine W_seq ?_
  refine W_seq ?_
  refine W_reg ?_
  refine T_pu rfl rfl (pu_move rfl) ?_
  refine T_pu rfl rfl (pu_move rfl) ?_
  refine T_pu rfl rfl (pu_lss rfl rfl) ?_
  refine T_nil ?_
  refine W_if rfl (fun hc3 => ?_) (fun hc3 => ?_)
  · refine W_skip ?_
    refine W_seq ?_
    refine W_block ?_
    have hcell := (hs.bk 1 rfl).at1 (i := k) (by omega) (by omega)
    rw [pad_rd] at hcell
    have hrg := ha2.rd (i := k) (by omega) (by omega)
    refine W_reg ?_
    refine T_pu rfl rfl (pu_move rfl) ?_
    refine T_pu rfl rfl (pu_ixA Try.underlying107 ty5 rfl rfl (by omega) (by omega)) ?_
    refine T_pi rfl rfl (pi_load Try.underlying5 rfl rfl (fun w' h => by obtain rfl := h; exact (by first | exact hcell))) ?_
    refine T_pu rfl rfl (pu_move rfl) ?_
    refine T_pu rfl rfl (pu_conv Try.underlying2 Try.underlying5 rfl) ?_
    refine T_pu rfl rfl (pu_ixA Try.underlying107 ty5 rfl rfl (by omega) (by omega)) ?_
    refine T_goN rfl (st_storeN hs 0 rfl ty5 rfl rfl (rd a k).toNat (by omega) (by rw [hpl]; omega) fun w8 hk8 hs => ?_)
    rw [u8_small (by omega), pad_set (by omega), ← endsTo_succ] at hs
    simp only [List.set_cons_zero] at hs
    refine T_nil ?_
    refine W_reg ?_
    refine T_pu rfl rfl (pu_move rfl) ?_
    refine T_pu rfl rfl (pu_add64 rfl rfl (by omega)) ?_
    refine T_pu rfl rfl (pu_assign rfl) ?_
    refine T_nil ?_
    exact ⟨k + 1, .cons rfl (.cons rfl (.cons rfl (.cons rfl (.cons rfl (.nil _))))), ⟨by omega, cs, hcs, hs⟩, by omega⟩
  · refine W_exit rfl ?_
    refine W_seq ?_
    refine W_reg ?_
    refine T_pi rfl rfl (pi_loadAgg Try.underlying107 rfl ty107 rfl (fun w' h => by obtain rfl := h; exact (by first | exact (hs.bk 0 rfl).cells)) (by first | rfl | (simp; done) | (rw [nums_length]; assumption) | assumption)) ?_
    refine T_goN rfl (st_storeW hs 2 rfl ty107 rfl rfl (by first | rfl | (simp; done) | assumption) (by first | rfl | (simp; done) | assumption) fun w10 hk10 hs => ?_)
    refine T_nil ?_
    refine W_ret ?_
    obtain rfl : k = n := by omega
    refine Res_r1 rfl (rv_cell Try.underlying107 rfl ty107 rfl (hs.bk 2 rfl) (by rw [nums_length, hpl])) ⟨rfl, hs.kp⟩
theorem endsF_nil (n : Nat) : endsF n [] = iota n := by
  have key : ∀ k, k ≤ n → endsTo (iota n) n k = pad n (iota k) := by
    intro k
    induction k with
    | zero => intro _; rw [show iota 0 = [] from rfl, pad_nil]; rfl
    | succ k ih =>
      intro h
      rw [endsTo_succ, ih (by omega), iota_rd (by omega), Int.toNat_natCast, pad_end (iota_length k) (by omega), ← iota_succ]
  unfold endsF
  rw [show strF n [] = iota n from rfl, key n (Nat.le_refl _)]
  simp [pad, iota_length]
theorem endsF_length (n : Nat) (hn : 0 < n) (ls : List Int) : (endsF n ls).length = n := (endsTo_ok _ n hn n (Nat.le_refl _)).1
def pureF (n : Int) (xs : List Int) : Int := if ¬ Br n xs then 1 else if endsF n.toNat xs ≠ iota n.toNat then 5 else 0
set_option maxHeartbeats 4000000 in
theorem l10Pure_ok (n : Int) (v : Value) (xs : List Int) (w : World) (hv : RI w v xs) (hl : xs.length ≤ 9223372036854775807) (hw : ∀ x ∈ xs, -9223372036854775808 ≤ x ∧ x ≤ 9223372036854775807) :
    CallsR Try.prog 80 #[.agg #[.int .i64 n, v]] w fun r w' => r = .int .i64 (pureF n xs) ∧ Kp no w w' := by
  obtain ⟨A, c, rfl, hc⟩ := hv.open
  have hs := St.start w
  refine fn_calls Try.func80 rfl rfl rfl ?_
  refine W_seq ?_
  refine W_reg ?_
  refine T_go rfl rfl (st_boxS hs rfl fun w1 b1 hk1 hb1 hs => ?_)
  refine T_pu rfl rfl (pu_assign rfl) ?_
  refine T_nil ?_
  refine W_seq ?_
  refine W_block ?_
  refine W_seq ?_
  refine W_reg ?_
  refine T_pi rfl rfl (pi_loadAgg Try.underlying28 rfl ty28 rfl (fun w' h => by obtain rfl := h; exact (by first | exact (hs.bk 0 rfl).cells)) (by first | rfl | (simp; done) | (rw [nums_length]; assumption) | assumption)) ?_
  refine T_go rfl rfl (st_call fn67 rfl ((l01Is_ok n _ xs _ (hv.keep hs.kp) hl hw).mono ?_))
  rintro v w2 ⟨rfl, hk2⟩
  have hs := hs.next hk2
  refine T_pu rfl rfl (pu_notp rfl) ?_
  refine T_pu rfl rfl (pu_assign rfl) ?_
  refine T_nil ?_
  refine W_if rfl (fun hc1 => ?_) (fun hc1 => ?_)
  · refine W_seq ?_
    refine W_reg ?_
    refine T_pu rfl rfl (pu_assign rfl) ?_
    refine T_nil ?_
    refine W_ret ?_
    exact Res_1 rfl rfl ⟨by unfold pureF; rw [if_pos hc1], hs.kp⟩
  · refine W_seq ?_
    refine W_draw mixed 1000 IK (fun w3 hk3 => ?_)
    have hs := hs.next hk3
    have hBr : Br n xs := Decidable.not_not.1 hc1
    obtain ⟨m, rfl⟩ : ∃ m : Nat, n = m := ⟨n.toNat, by have := hBr.1; omega⟩
    have hm : 1 ≤ m ∧ m ≤ 8 := by have := hBr.1; omega
    refine D_pu 0 (by kernel_rfl) rfl (by kernel_rfl) (by kernel_rfl) rfl rfl (by kernel_rfl) (Pu.stable (pu_fld (off := 0) Try.underlying28 rfl rfl ty2 rfl rfl)) ?_
    refine D_pu 1 (by kernel_rfl) rfl (by kernel_rfl) (by kernel_rfl) rfl rfl (by kernel_rfl) (pi_load Try.underlying2 rfl rfl (fun w' h => by obtain ⟨_, h⟩ := h; exact h.cell (by first | exact (hs.bk 0 rfl).cell rfl) id)) ?_
    refine D_pu 2 (by kernel_rfl) rfl (by kernel_rfl) (by kernel_rfl) rfl rfl (by kernel_rfl) (Pu.stable (pu_fld (off := 1) Try.underlying28 rfl rfl ty22 rfl rfl)) ?_
    refine D_pu 3 (by kernel_rfl) rfl (by kernel_rfl) (by kernel_rfl) rfl rfl (by kernel_rfl) (pi_load Try.underlying22 rfl rfl (fun w' h => by obtain ⟨_, h⟩ := h; exact h.cell (by first | exact (hs.bk 0 rfl).cell rfl) id)) ?_
    refine D_pu 5 (by kernel_rfl) rfl (by kernel_rfl) (by kernel_rfl) rfl rfl (by kernel_rfl) (Pu.stable (pu_fld (off := 0) Try.underlying28 rfl rfl ty2 rfl rfl)) ?_
    refine D_pu 6 (by kernel_rfl) rfl (by kernel_rfl) (by kernel_rfl) rfl rfl (by kernel_rfl) (pi_load Try.underlying2 rfl rfl (fun w' h => by obtain ⟨_, h⟩ := h; exact h.cell (by first | exact (hs.bk 0 rfl).cell rfl) id)) ?_
    refine D_go 4 (by kernel_rfl) (by first | rfl | (intro _; rfl) | (intro h; exact absurd (show true = false from h) (by decide)) | exact Kp.refl _ _ | assumption) rfl rfl rfl (st_call fn117 rfl ((l01Perm_ok m hm _ xs _ (hv.keep hs.kp) hl hBr.2.2).mono ?_))
    rintro v w4 ⟨rfl, hk4⟩
    have hkA := hk4
    have hs := hs.next hk4
    refine D_go 7 (by kernel_rfl) (by first | rfl | (intro _; rfl) | (intro h; exact absurd (show true = false from h) (by decide)) | exact Kp.refl _ _ | assumption) rfl rfl rfl (st_call fn117 rfl ((l01Perm_ok m hm _ [] _ (ri_nil _) (by simp) (fun l h => by simp at h)).mono ?_))
    rintro v w5 ⟨rfl, hk5⟩
    have hkA := hkA.next hk5
    have hs := hs.next hk5
    refine D_pu 8 (by kernel_rfl) rfl (by kernel_rfl) (by kernel_rfl) rfl rfl (by kernel_rfl) (Pu.stable (pu_neqA Try.underlying107 Try.underlying5 ty5 (by kernel_rfl) rfl rfl (pad_length (by rw [endsF_length m hm.1]; exact hm.2)) (pad_length (by rw [endsF_length m hm.1]; exact hm.2)))) ?_
    refine D_pu 9 (by kernel_rfl) rfl (by kernel_rfl) (by kernel_rfl) rfl rfl (by kernel_rfl) (Pu.stable (pu_assign rfl)) ?_
    refine D_done (by kernel_rfl) (by first | rfl | (intro _; rfl) | (intro h; exact absurd (show true = false from h) (by decide)) | exact Kp.refl _ _ | assumption) ?_
    refine W_if rfl (fun hc3 => ?_) (fun hc3 => ?_)
    · refine W_seq ?_
      refine W_reg ?_
      refine T_pu rfl rfl (pu_assign rfl) ?_
      refine T_nil ?_
      refine W_ret ?_
      refine Res_1 rfl rfl ⟨?_, hs.kp⟩
      have h3 : endsF m xs ≠ iota m := fun e => hc3 (by rw [endsF_nil, e])
      unfold pureF
      rw [if_neg hc1, Int.toNat_natCast, if_pos h3]
    · refine W_skip ?_
      refine W_seq ?_
      refine W_reg ?_
      refine T_pu rfl rfl (pu_assign rfl) ?_
      refine T_nil ?_
      refine W_ret ?_
      refine Res_1 rfl rfl ⟨?_, hs.kp⟩
      have h3 : endsF m xs = iota m := by
        have := (pad_inj (by rw [endsF_length m hm.1, endsF_length m hm.1])).1 (Decidable.not_not.1 hc3)
        rw [this, endsF_nil]
      unfold pureF
      rw [if_neg hc1, Int.toNat_natCast, if_neg (fun h => h h3)]
theorem sign_ok (x : Int) (w : World) : CallsR Try.prog 146 #[.int .i64 x] w fun v w' => v = .int .i64 (if 0 < x then 1 else -1) ∧ w = w' := by
  refine fn_calls Try.func146 rfl rfl rfl ?_
  refine W_seq ?_
  refine W_reg ?_
  refine T_pu rfl rfl (pu_assign rfl) ?_
  refine T_nil ?_
  refine W_seq ?_
  refine W_seq ?_
  refine W_reg ?_
  refine T_pu rfl rfl (pu_move rfl) ?_
  refine T_pu rfl rfl (pu_gtr rfl rfl) ?_
  refine T_nil ?_
  refine W_if rfl (fun hc1 => ?_) (fun hc1 => ?_)
  · refine W_seq ?_
    refine W_reg ?_
    refine T_pu rfl rfl (pu_assign rfl) ?_
    refine T_nil ?_
    refine W_ret ?_
    exact Res_1 rfl rfl ⟨by rw [if_pos (by omega)], rfl⟩
  · refine W_skip ?_
    refine W_seq ?_
    refine W_reg ?_
    refine T_pu rfl rfl (pu_assign rfl) ?_
    refine T_nil ?_
    refine W_ret ?_
    exact Res_1 rfl rfl ⟨by rw [if_neg (by omega)], rfl⟩
set_option maxHeartbeats 4000000 in
theorem strandsOf_ok (n : Nat) (hn : n ≤ 1000) (w : World) : CallsR Try.prog 162 #[.int .i64 n] w fun r w' => NewI w w' r (iota n) := by
  have hs := St.start w
  refine fn_calls Try.func162 rfl rfl rfl ?_
  refine W_seq ?_
  refine W_reg ?_
  refine T_pu rfl rfl (pu_assign rfl) ?_
  refine T_nil ?_
  refine W_seq ?_
  refine W_reg ?_
  refine T_go rfl rfl (st_litI hs [] rfl (fun _ => by kernel_rfl) rfl rfl fun w1 b1 hk1 hb1 hs => ?_)
  refine T_pu rfl rfl (pu_assign rfl) ?_
  refine T_nil ?_
  refine W_seq ?_
  refine W_seq ?_
  refine W_reg ?_
  refine T_pu rfl rfl (pu_move rfl) ?_
  refine T_pu rfl rfl (pu_move rfl) ?_
  refine T_nil ?_
  refine W_block ?_
  refine W_loop (σ := Nat × Value) (fun s => [(3, s.2), (6, .int .i64 n), (7, .int .i64 s.1)]) (fun s w' => s.1 ≤ n ∧ St no w [aOI s.2 (iota s.1)] w') (fun s => n - s.1) (0, .slice (some ⟨b1, 0, none⟩) 0 0) ?_ ?_ ?_
  · exact .cons rfl (.cons rfl (.cons rfl (.nil _)))
  · exact ⟨Nat.zero_le _, hs⟩
  clear hs
  rintro ⟨k, u⟩ w2 ⟨hkn, hs⟩
  dsimp only at hkn hs ⊢
  refine W_seq ?_
  refine W_reg ?_
  refine T_pu rfl rfl (pu_lss rfl rfl) ?_
  refine T_nil ?_
  refine W_seq ?_
  refine W_if rfl (fun hc3 => ?_) (fun hc3 => ?_)
  · refine W_skip ?_
    refine W_seq ?_
    refine W_block ?_
    refine W_seq ?_
    refine W_reg ?_
    refine T_pu rfl rfl (pu_move rfl) ?_
    refine T_pu rfl rfl (pu_assign rfl) ?_
    refine T_nil ?_
    refine W_reg ?_
    refine T_pu rfl rfl (pu_move rfl) ?_
    refine T_pu rfl rfl (pu_move rfl) ?_
    refine T_go rfl rfl (st_litI hs [k] rfl (fun _ => by kernel_rfl) rfl rfl fun w3 b3 hk3 hb3 hs => ?_)
    refine T_go rfl rfl (st_appendI hs 1 rfl Try.underlying22 ty2 rfl rfl ((hs.oi 0 rfl).ri) (by rw [iota_length]; show k + 1 ≤ _; omega) fun u' w4 hs hk4 hf4 => ?_)
    rw [← iota_succ] at hs
    have hs := hs.tail
    refine T_pu rfl rfl (pu_assign rfl) ?_
    refine T_nil ?_
    refine W_reg ?_
    refine T_pu rfl rfl (pu_add64 rfl rfl (by omega)) ?_
    refine T_pu rfl rfl (pu_move rfl) ?_
    refine T_nil ?_
    exact ⟨(k + 1, u'), .cons rfl (.cons rfl (.cons rfl (.nil _))), ⟨by show k + 1 ≤ n; omega, hs⟩, by show n - (k + 1) < n - k; omega⟩
  · refine W_exit rfl ?_
    refine W_seq ?_
    refine W_reg ?_
    refine T_pu rfl rfl (pu_move rfl) ?_
    refine T_pu rfl rfl (pu_assign rfl) ?_
    refine T_nil ?_
    refine W_ret ?_
    obtain rfl : k = n := by omega
    exact Res_1 rfl rfl (hs.isNewI 0 rfl)
end Go.Proofs.Ytdpbfdjpeofbmaa.L
