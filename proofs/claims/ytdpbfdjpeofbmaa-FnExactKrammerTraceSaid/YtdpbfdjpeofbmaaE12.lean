/- Krammer's letters, the program: pairs in a map, rows in whatever order the map gives them. -/
import Derived.Test.YtdpbfdjpeofbmaaE11
import Derived.Test.YtdpbfdjpeofbmaaL16
import Derived.Test.YtdpbfdjpeofbmaaE6
namespace Go.Proofs.Ytdpbfdjpeofbmaa.L
set_option linter.unusedVariables false
set_option maxRecDepth 100000

abbrev kvN (xs : List Int) : Value := .agg (nums .i64 xs).toArray
theorem klN : KL Try.prog 136 kvN (fun xs => xs.length = 2) := KL_nums (k := .i64) Try.underlying136 Try.underlying2 ty2
/-- The first m pairs and their numbers. -/
def ents (n m : Nat) : List (List Int × Value) := (List.range m).map fun p : Nat => ([((pr n p).1 : Int), ((pr n p).2 : Int)], Value.int .i64 p)
theorem ents_length (n m : Nat) : (ents n m).length = m := by simp [ents]
theorem ents_succ (n m : Nat) : ents n (m + 1) = ents n m ++ [([((pr n m).1 : Int), ((pr n m).2 : Int)], Value.int .i64 m)] := by simp [ents, List.range_succ]
theorem ents_get {n m p : Nat} (h : p < m) : (ents n m)[p]? = some ([((pr n p).1 : Int), ((pr n p).2 : Int)], Value.int .i64 p) := by simp [ents, h]
theorem ents_len2 (n m : Nat) : ∀ e ∈ ents n m, e.1.length = 2 := fun e he => by
  simp only [ents, List.mem_map] at he
  obtain ⟨p, _, rfl⟩ := he
  rfl
theorem mput_new {α : Type} [DecidableEq α] {a : α} {v : Value} : ∀ {ms : List (α × Value)}, (∀ e ∈ ms, e.1 ≠ a) → mput ms a v = ms ++ [(a, v)]
  | [], _ => rfl
  | (b, u) :: r, h => by
    simp only [mput]
    rw [if_neg (fun e => h (b, u) (by simp) e.symm), mput_new fun e he => h e (by simp [he])]
    rfl
theorem mget_append {α : Type} [DecidableEq α] {a b : α} {v : Value} : ∀ {ms : List (α × Value)}, (∀ e ∈ ms, e.1 ≠ b) → mget (ms ++ [(b, v)]) a = if a = b then some v else mget ms a
  | [], _ => by simp [mget]
  | (c, u) :: r, h => by
    simp only [List.cons_append, mget]
    rw [mget_append fun e he => h e (by simp [he])]
    by_cases h1 : a = c
    · subst h1
      rw [if_pos rfl, if_neg (h (a, u) (by simp)), if_pos rfl]
    · rw [if_neg h1, if_neg h1]
theorem ents_new {n m : Nat} (hn : n ≤ 8) (hm : m < nPr n) : ∀ e ∈ ents n m, e.1 ≠ [((pr n m).1 : Int), ((pr n m).2 : Int)] := fun e he h => by
  simp only [ents, List.mem_map, List.mem_range] at he
  obtain ⟨p, hp, rfl⟩ := he
  simp only [List.cons.injEq, and_true] at h
  have h1 := pr_of hn (p := p) (by omega)
  have h2 := pr_of hn hm
  have e1 : (pr n p).1 = (pr n m).1 := by omega
  have e2 : (pr n p).2 = (pr n m).2 := by omega
  have := h1.2.2.2
  rw [e1, e2, h2.2.2.2] at this
  omega
theorem ents_mget {n : Nat} (hn : n ≤ 8) {p : Nat} : ∀ {m : Nat}, m ≤ nPr n → p < m → mget (ents n m) [((pr n p).1 : Int), ((pr n p).2 : Int)] = some (.int .i64 p)
  | 0, _, h => by omega
  | m + 1, hm, h => by
    rw [ents_succ, mget_append (ents_new hn (by omega))]
    by_cases e : p = m
    · subst e; rw [if_pos rfl]
    · rw [if_neg fun h' => ents_new hn (m := m) (by omega) _ (List.mem_of_getElem? (ents_get (p := p) (by omega))) h']
      exact ents_mget hn (by omega) (by omega)
set_option maxHeartbeats 8000000 in
theorem pairsOf_ok (n : Nat) (hn : 2 ≤ n ∧ n ≤ 8) (w : World) : CallsR Try.prog 150 #[.int .i64 n] w fun r w' => ∃ b, r = .map (some b) ∧ MapH kvN b (ents n (nPr n)) w' ∧ Kp no w w' ∧ Fresh w w' b := by
  have hs := St.start w
  have hN := nPr_le hn.2
  refine fn_calls Try.func150 rfl rfl rfl ?_
  refine W_seq ?_
  refine W_reg ?_
  refine T_pu rfl rfl (pu_assign rfl) ?_
  refine T_nil ?_
  refine W_seq ?_
  refine W_reg ?_
  refine T_go rfl rfl (st_makeMapS kvN hs Try.underlying134 fun w1 bm hk1 hb1 hs => ?_)
  refine T_pu rfl rfl (pu_assign rfl) ?_
  refine T_nil ?_
  refine W_seq ?_
  refine W_seq ?_
  refine W_reg ?_
  refine T_pu rfl rfl (pu_assign rfl) ?_
  refine T_nil ?_
  refine W_block ?_
  refine W_loop (σ := Nat) (fun a => [(0, .int .i64 n), (3, .map (some bm)), (4, .int .i64 (a + 1 : Nat))]) (fun a w' => a ≤ n ∧ St no w [aMap kvN bm (ents n (psN n a))] w') (fun a => n - a) 0 ?_ ?_ ?_
  · exact .cons rfl (.cons rfl (.cons rfl (.nil _)))
  · exact ⟨Nat.zero_le _, hs⟩
  repeat clear hs
  rintro a w2 ⟨han, hs⟩
  have hps : psN n (a + 1) = psN n a + (n - (a + 1)) := rfl
  have hpl := ps_le hn.2 (i := a) (by omega)
  refine W_seq ?_
  refine W_seq ?_
  refine W_reg ?_
  refine T_pu rfl rfl (pu_move rfl) ?_
  refine T_pu rfl rfl (pu_move rfl) ?_
  refine T_pu rfl rfl (pu_leq rfl rfl) ?_
  refine T_nil ?_
  refine W_if rfl (fun hc3 => ?_) (fun hc3 => ?_)
  · refine W_skip ?_
    refine W_seq ?_
    refine W_block ?_
    refine W_seq ?_
    refine W_reg ?_
    refine T_pu rfl rfl (pu_move rfl) ?_
    refine T_pu rfl rfl (pu_add64 rfl rfl (by omega)) ?_
    refine T_pu rfl rfl (pu_assign rfl) ?_
    refine T_nil ?_
    refine W_block ?_
    refine W_loop (σ := Nat) (fun c => [(0, .int .i64 n), (3, .map (some bm)), (4, .int .i64 (a + 1 : Nat)), (5, .int .i64 (a + 2 + c : Nat))]) (fun c w' => c ≤ n - (a + 1) ∧ St no w [aMap kvN bm (ents n (psN n a + c))] w') (fun c => n - c) 0 ?_ ?_ ?_
    · exact .cons rfl (.cons rfl (.cons rfl (.cons (by show some (Value.int .i64 _) = some (Value.int .i64 _); congr 2 <;> omega) (.nil _))))
    · exact ⟨Nat.zero_le _, hs⟩
    repeat clear hs
    rintro c w3 ⟨hcn, hs⟩
    refine W_seq ?_
    refine W_seq ?_
    refine W_reg ?_
    refine T_pu rfl rfl (pu_move rfl) ?_
    refine T_pu rfl rfl (pu_move rfl) ?_
    refine T_pu rfl rfl (pu_leq rfl rfl) ?_
    refine T_nil ?_
    refine W_if rfl (fun hc6 => ?_) (fun hc6 => ?_)
    · refine W_skip ?_
      refine W_seq ?_
      refine W_block ?_
      have hpN : pN n (a + 1) (a + 2 + c) = psN n a + c := by unfold pN; rw [show a + 2 + c - (a + 1) - 1 = c by omega]; rfl
      obtain ⟨hpr, hplt⟩ := pr_at hn.2 (i := a + 1) (j := a + 2 + c) (by omega) (by omega) (by omega)
      rw [hpN] at hpr hplt
      have hnew := ents_new hn.2 hplt
      have hsu := ents_succ n (psN n a + c)
      rw [hpr] at hnew hsu
      refine W_reg ?_
      refine T_pu rfl rfl (pu_move rfl) ?_
      refine T_pu rfl rfl (pu_move rfl) ?_
      refine T_pu rfl rfl (pu_move rfl) ?_
      refine T_pu rfl rfl (pu_build (v := kvN [((a + 1 : Nat) : Int), ((a + 2 + c : Nat) : Int)]) rfl (fun _ => by kernel_rfl)) ?_
      refine T_pu rfl rfl (pu_move rfl) ?_
      refine T_pi rfl rfl (pu_lenMap (kv := kvN) Try.underlying134 rfl (fun w' h => by obtain rfl := h; exact hs.mp 0 rfl)) ?_
      rw [ents_length]
      refine T_goN rfl (st_mapUpdate hs 0 rfl klN Try.underlying134 rfl rfl rfl (ents_len2 n _) rfl fun w4 hk4 hs => ?_)
      rw [mput_new hnew, ← hsu] at hs
      simp only [List.set_cons_zero] at hs
      refine T_nil ?_
      refine W_reg ?_
      refine T_pu rfl rfl (pu_move rfl) ?_
      refine T_pu rfl rfl (pu_add64 rfl rfl (by omega)) ?_
      refine T_pu rfl rfl (pu_assign rfl) ?_
      refine T_nil ?_
      exact ⟨c + 1, .cons rfl (.cons rfl (.cons rfl (.cons (by show some (Value.int .i64 _) = some (Value.int .i64 _); congr 2 <;> omega) (.nil _)))), ⟨by omega, hs⟩, by omega⟩
    · refine W_exit rfl ?_
      obtain rfl : c = n - (a + 1) := by omega
      rw [← hps] at hs
      refine W_reg ?_
      refine T_pu rfl rfl (pu_move rfl) ?_
      refine T_pu rfl rfl (pu_add64 rfl rfl (by omega)) ?_
      refine T_pu rfl rfl (pu_assign rfl) ?_
      refine T_nil ?_
      exact ⟨a + 1, .cons rfl (.cons rfl (.cons (by show some (Value.int .i64 _) = some (Value.int .i64 _); congr 2 <;> omega) (.nil _))), ⟨by omega, hs⟩, by omega⟩
  · refine W_exit rfl ?_
    refine W_seq ?_
    refine W_reg ?_
    refine T_pu rfl rfl (pu_move rfl) ?_
    refine T_pu rfl rfl (pu_assign rfl) ?_
    refine T_nil ?_
    refine W_ret ?_
    obtain rfl : a = n := by omega
    rw [(ps_n hn.2).1] at hs
    exact Res_1 rfl rfl ⟨bm, rfl, hs.mp 0 rfl, hs.kp, by have := (hs.each _ (List.mem_of_getElem? (i := 0) rfl)).2 bm rfl; exact ⟨this.1.resolve_left id, this.2⟩⟩
set_option maxHeartbeats 8000000 in
theorem put_ok (n : Nat) (hn : 2 ≤ n ∧ n ≤ 8) (f : Nat → Nat → Int) (x : Nat) (hx : x < nPr n) (hf : ∀ b, 0 ≤ f x b ∧ f x b < 10007) (i j value : Int) (h1 : 1 ≤ i) (h2 : i < j) (h3 : j ≤ n) (hval : -1000000000 ≤ value ∧ value ≤ 1000000000) (bAt bOut bx bm r : Nat) (vis : List Nat) (v : Value) (hds : List Value) (B : Asr) (rest : List Asr) (w0 w : World)
    (hs : St no w0 (aBk bx 3 [.int .i64 x] :: B :: aMat v hds (fmat (nPr n) f) :: aBk bOut 32 [v] :: aIt kvN bm r (ents n (nPr n)) vis :: aBk bAt 134 [.map (some bm)] :: rest) w) :
    CallsR Try.prog 151 #[.int .i64 i, .int .i64 j, .int .i64 value, .pointer (some ⟨bAt, 0, none⟩), .pointer (some ⟨bOut, 0, none⟩), .pointer (some ⟨bx, 0, none⟩)] w fun _ w' =>
      St no w0 (aBk bx 3 [.int .i64 x] :: B :: aMat v hds (fmat (nPr n) (updF f x (pN n i.toNat j.toNat) ((f x (pN n i.toNat j.toNat) + value) % 10007))) :: aBk bOut 32 [v] :: aIt kvN bm r (ents n (nPr n)) vis :: aBk bAt 134 [.map (some bm)] :: rest) w' := by
  have hN := nPr_le hn.2
  obtain ⟨hpr, hplt⟩ := pr_at hn.2 (i := i.toNat) (j := j.toNat) (by omega) (by omega) (by omega)
  have hmg := ents_mget hn.2 (Nat.le_refl _) hplt
  rw [hpr] at hmg
  simp only at hmg
  rw [show ((i.toNat : Nat) : Int) = i by omega, show ((j.toNat : Nat) : Int) = j by omega] at hmg
  generalize pN n i.toNat j.toNat = y at hpr hplt hmg ⊢
  obtain ⟨g, c, rfl, hc⟩ := (hs.mat 2 rfl).slice (n := nPr n) (fmat_length _ _) (by omega)
  refine fn_calls Try.func151 rfl rfl rfl ?_
  refine W_seq ?_
  refine W_reg ?_
  refine T_pi rfl rfl (pi_load Try.underlying134 rfl rfl (fun w' h => by obtain rfl := h; exact (by first | exact (hs.bk 5 rfl).cell rfl))) ?_
  refine T_pu rfl rfl (pu_move rfl) ?_
  refine T_pu rfl rfl (pu_move rfl) ?_
  refine T_pu rfl rfl (pu_build (v := kvN [i, j]) rfl (fun _ => by kernel_rfl)) ?_
  refine T_pi rfl rfl (pi_lookup (z := .int .i64 0) klN Try.underlying134 ty3 rfl rfl (ents_len2 n _) rfl (fun w' h => by obtain rfl := h; exact (hs.it 4 rfl).map)) ?_
  rw [hmg]
  refine T_pu rfl rfl (pu_assign rfl) ?_
  refine T_nil ?_
  refine W_draw mixed 16 IS (fun w1 hk1 => ?_)
  have hs := hs.next hk1
  obtain ⟨b5, cc5, hh5, hcl5, hO5⟩ := (hs.mat 2 rfl).at (i := x) (m := nPr n) (by omega) (by rw [fmat_length]; omega) (fmat_rrl (by omega) (by omega)) (by omega)
  have hc5 := hO5.ri.at0 (i := y) (by omega) (by rw [fmat_rrl (by omega) (by omega)]; omega)
  rw [fmat_rd hx hplt] at hc5
  have hfy := hf y
  generalize f x y = fy at hc5 hfy ⊢
  refine D_rd 0 (by kernel_rfl) rfl (by kernel_rfl) (by kernel_rfl) rfl rfl (by kernel_rfl) (by kernel_rfl) (by kernel_rfl) (pi_load Try.underlying32 rfl rfl (fun w' h => by obtain rfl := h rfl; exact (by first | exact (hs.bk 0 rfl).cell rfl | exact (hs.bk 3 rfl).cell rfl | exact hcl5 | exact hc5))) ?_
  refine D_rd 1 (by kernel_rfl) rfl (by kernel_rfl) (by kernel_rfl) rfl rfl (by kernel_rfl) (by kernel_rfl) (by kernel_rfl) (pi_load Try.underlying3 rfl rfl (fun w' h => by obtain rfl := h rfl; exact (by first | exact (hs.bk 0 rfl).cell rfl | exact (hs.bk 3 rfl).cell rfl | exact hcl5 | exact hc5))) ?_
  refine D_pu 2 (by kernel_rfl) rfl (by kernel_rfl) (by kernel_rfl) rfl rfl (by kernel_rfl) (Pu.stable ((by first | exact pu_ix1 Try.underlying32 ty22 rfl rfl (by omega) (by omega) | exact pu_index Try.underlying32 ty22 rfl rfl (by omega) (by omega)))) ?_
  refine D_rd 3 (by kernel_rfl) rfl (by kernel_rfl) (by kernel_rfl) rfl rfl (by kernel_rfl) (by kernel_rfl) (by kernel_rfl) (pi_load Try.underlying22 rfl rfl (fun w' h => by obtain rfl := h rfl; exact (by first | exact (hs.bk 0 rfl).cell rfl | exact (hs.bk 3 rfl).cell rfl | exact hcl5 | exact hc5))) ?_
  refine D_pu 4 (by kernel_rfl) rfl (by kernel_rfl) (by kernel_rfl) rfl rfl (by kernel_rfl) (Pu.stable (pu_move rfl)) ?_
  refine D_rd 5 (by kernel_rfl) rfl (by kernel_rfl) (by kernel_rfl) rfl rfl (by kernel_rfl) (by kernel_rfl) (by kernel_rfl) (pi_load Try.underlying32 rfl rfl (fun w' h => by obtain rfl := h rfl; exact (by first | exact (hs.bk 0 rfl).cell rfl | exact (hs.bk 3 rfl).cell rfl | exact hcl5 | exact hc5))) ?_
  refine D_rd 6 (by kernel_rfl) rfl (by kernel_rfl) (by kernel_rfl) rfl rfl (by kernel_rfl) (by kernel_rfl) (by kernel_rfl) (pi_load Try.underlying3 rfl rfl (fun w' h => by obtain rfl := h rfl; exact (by first | exact (hs.bk 0 rfl).cell rfl | exact (hs.bk 3 rfl).cell rfl | exact hcl5 | exact hc5))) ?_
  refine D_pu 7 (by kernel_rfl) rfl (by kernel_rfl) (by kernel_rfl) rfl rfl (by kernel_rfl) (Pu.stable ((by first | exact pu_ix1 Try.underlying32 ty22 rfl rfl (by omega) (by omega) | exact pu_index Try.underlying32 ty22 rfl rfl (by omega) (by omega)))) ?_
  refine D_rd 8 (by kernel_rfl) rfl (by kernel_rfl) (by kernel_rfl) rfl rfl (by kernel_rfl) (by kernel_rfl) (by kernel_rfl) (pi_load Try.underlying22 rfl rfl (fun w' h => by obtain rfl := h rfl; exact (by first | exact (hs.bk 0 rfl).cell rfl | exact (hs.bk 3 rfl).cell rfl | exact hcl5 | exact hc5))) ?_
  refine D_pu 9 (by kernel_rfl) rfl (by kernel_rfl) (by kernel_rfl) rfl rfl (by kernel_rfl) (Pu.stable (pu_move rfl)) ?_
  refine D_pu 10 (by kernel_rfl) rfl (by kernel_rfl) (by kernel_rfl) rfl rfl (by kernel_rfl) (Pu.stable ((by first | exact pu_ix1 Try.underlying22 ty2 rfl rfl (by omega) (by omega) | exact pu_index Try.underlying22 ty2 rfl rfl (by omega) (by omega)))) ?_
  refine D_rd 11 (by kernel_rfl) rfl (by kernel_rfl) (by kernel_rfl) rfl rfl (by kernel_rfl) (by kernel_rfl) (by kernel_rfl) (pi_load Try.underlying2 rfl rfl (fun w' h => by obtain rfl := h rfl; exact (by first | exact (hs.bk 0 rfl).cell rfl | exact (hs.bk 3 rfl).cell rfl | exact hcl5 | exact hc5))) ?_
  refine D_pu 12 (by kernel_rfl) rfl (by kernel_rfl) (by kernel_rfl) rfl rfl (by kernel_rfl) (Pu.stable (pu_move rfl)) ?_
  refine D_pu 13 (by kernel_rfl) rfl (by kernel_rfl) (by kernel_rfl) rfl rfl (by kernel_rfl) (Pu.stable (pu_add64 rfl rfl (by omega))) ?_
  refine D_go 14 (by kernel_rfl) (by first | rfl | (intro _; rfl) | (intro h; exact absurd (show true = false from h) (by decide)) | exact Kp.refl _ _ | assumption) rfl rfl rfl (st_call fn92 rfl ((inField_ok _ _).mono ?_))
  rintro v w' ⟨rfl, rfl⟩
  refine D_pu 15 (by kernel_rfl) rfl (by kernel_rfl) (by kernel_rfl) rfl rfl (by kernel_rfl) (Pu.stable ((by first | exact pu_ix1 Try.underlying22 ty2 rfl rfl (by omega) (by omega) | exact pu_index Try.underlying22 ty2 rfl rfl (by omega) (by omega)))) ?_
  refine D_goN 16 (by kernel_rfl) (by first | rfl | (intro _; rfl) | (intro h; exact absurd (show true = false from h) (by decide)) | exact Kp.refl _ _ | assumption) rfl rfl (st_storeM hs 2 rfl x (by omega) (by rw [fmat_length]; omega) hh5 ty2 rfl rfl (by omega) (by omega) fun w2 hk2 hs => ?_)
  rw [fmat_set hx hplt] at hs
  simp only [List.set_cons_zero, List.set_cons_succ] at hs
  refine D_done (by kernel_rfl) (by first | rfl | (intro _; rfl) | (intro h; exact absurd (show true = false from h) (by decide)) | exact Kp.refl _ _ | assumption) ?_
  exact Res_0 rfl hs
end Go.Proofs.Ytdpbfdjpeofbmaa.L
