/- Colourings counted: both functions. -/
import Derived.Test.YtdpbfdjpeofbmaaA4
import Derived.Test.YtdpbfdjpeofbmaaL10
namespace Go.Proofs.Ytdpbfdjpeofbmaa.L
set_option linter.unusedVariables false
set_option maxRecDepth 100000

def unitL (n x : Nat) : List Int := (List.replicate n 0).set x 1
def colRow (p : Int) (n : Nat) (ls : List Int) (x : Nat) : List Int :=
  let r := colF p ls (unitL n x)
  r.set x ((rd r x + p - 1) % p)
def colRows (p : Int) (n : Nat) (ls : List Int) (k : Nat) : List (List Int) := (List.range k).map (colRow p n ls)
theorem unitL_ok {n x : Nat} {p : Int} (hp : 3 ≤ p) : (unitL n x).length = n ∧ InP p (unitL n x) := by
  refine ⟨by simp [unitL], ?_⟩
  refine InP.set (fun y hy => ?_) (by omega)
  have := List.eq_of_mem_replicate hy
  omega
theorem colRow_ok {p : Int} {n x : Nat} {ls : List Int} (hp : 3 ≤ p) (hl : ∀ l ∈ ls, Lt n l) : (colRow p n ls x).length = n ∧ InP p (colRow p n ls x) := by
  obtain ⟨h1, h2⟩ := unitL_ok (n := n) (x := x) hp
  obtain ⟨h3, h4⟩ := colF_all (p := p) (by omega) ls (unitL n x) h1 hl h2
  unfold colRow
  dsimp only
  refine ⟨by simpa using h3, h4.set ⟨Int.emod_nonneg _ (by omega), Int.emod_lt_of_pos _ (by omega)⟩⟩
theorem colRows_ok {p : Int} {n : Nat} {ls : List Int} (hp : 3 ≤ p) (hl : ∀ l ∈ ls, Lt n l) : Gd p n (colRows p n ls n) :=
  ⟨by simp [colRows], fun xs hx => by
    simp only [colRows, List.mem_map] at hx
    obtain ⟨x, _, rfl⟩ := hx
    exact colRow_ok hp hl⟩
theorem colRows_succ {p : Int} {n : Nat} {ls : List Int} {k : Nat} : colRows p n ls (k + 1) = colRows p n ls k ++ [colRow p n ls k] := by simp [colRows, List.range_succ]
theorem colRows_length {p : Int} {n : Nat} {ls : List Int} {k : Nat} : (colRows p n ls k).length = k := by simp [colRows]
def colN (n : Int) (p : Int) (xs : List Int) : Int × Int := if ¬ Br n xs then (0, 1) else if ¬ Pr p then (0, 2) else (n - rankF p (colRows p n.toNat xs n.toNat), 0)
theorem rankF_le {p : Int} {n : Nat} {xss : List (List Int)} (hp : 0 < p) (h : Gd p n xss) : rankF p xss ≤ n := by
  have := (h.rankTo hp xss.length (by rw [h.len]; exact Nat.le_refl _)).2
  rw [h.len] at this
  unfold rankF
  rw [h.len]
  exact this

set_option maxHeartbeats 8000000 in
theorem implCount_ok (n : Int) (v : Value) (xs : List Int) (p : Int) (w : World) (hv : RI w v xs) (hl : xs.length ≤ 1048576) (hw : ∀ x ∈ xs, -9223372036854775808 ≤ x ∧ x ≤ 9223372036854775807) :
    CallsR Try.prog 19 #[.agg #[.int .i64 n, v], .int .i64 p] w fun r w' => r = .tuple #[.int .i64 (colN n p xs).1, .int .i64 (colN n p xs).2] ∧ Kp no w w' := by
  obtain ⟨A, c, rfl, hc⟩ := hv.open
  refine fn_calls Try.func19 rfl rfl rfl ?_
  refine W_seq ?_
  refine W_reg ?_
  refine T_go rfl rfl (st_box rfl fun w1 b1 hk1 hb1 hB1 => ?_)
  have hv := hv.keep hk1
  have hs := St.start w1
  refine T_pu rfl rfl (pu_assign rfl) ?_
  refine T_pu rfl rfl (pu_assign rfl) ?_
  refine T_nil ?_
  refine W_seq ?_
  refine W_block ?_
  refine W_seq ?_
  refine W_reg ?_
  refine T_pi rfl rfl (pi_loadAgg Try.underlying28 rfl ty28 rfl (fun w' h => by obtain rfl := h; exact (by first | exact hB1.cells)) (by first | rfl | (simp; done))) ?_
  refine T_go rfl rfl (st_call fn72 rfl ((IsBraid_ok n _ xs w1 hv (by omega)).mono ?_))
  rintro v w2 ⟨rfl, hk2⟩
  have hs := hs.next hk2
  refine T_pu rfl rfl (pu_notp rfl) ?_
  refine T_pu rfl rfl (pu_assign rfl) ?_
  refine T_nil ?_
  refine W_if rfl (fun hc1 => ?_) (fun hc1 => ?_)
  · refine W_seq ?_
    refine W_reg ?_
    refine T_pu rfl rfl (pu_assign rfl) ?_
    refine T_pu rfl rfl (pu_assign rfl) ?_
    refine T_nil ?_
    refine W_ret ?_
    have hB : ¬ Br n xs := by simpa using hc1
    refine Res_2 rfl rfl rfl ⟨?_, hk1.next hs.kp⟩
    simp only [colN, if_pos hB]
  · refine W_seq ?_
    have hBr : Br n xs := by simpa using hc1
    refine W_reg ?_
    refine T_pu rfl rfl (pu_move rfl) ?_
    refine T_go rfl rfl (st_call fn73 rfl ((isPrime_ok p w2).mono ?_))
    rintro v w' ⟨rfl, rfl⟩
    refine T_pu rfl rfl (pu_notp rfl) ?_
    refine T_pu rfl rfl (pu_assign rfl) ?_
    refine T_nil ?_
    refine W_if rfl (fun hc3 => ?_) (fun hc3 => ?_)
    · refine W_seq ?_
      refine W_reg ?_
      refine T_pu rfl rfl (pu_assign rfl) ?_
      refine T_pu rfl rfl (pu_assign rfl) ?_
      refine T_nil ?_
      refine W_ret ?_
      have hP : ¬ Pr p := by simpa using hc3
      refine Res_2 rfl rfl rfl ⟨?_, hk1.next hs.kp⟩
      simp only [colN, if_neg (not_not_intro hBr), if_pos hP]
    · refine W_skip ?_
      refine W_seq ?_
      have hP : Pr p := by simpa using hc3
      have hp := pr_range hP
      obtain ⟨m, rfl⟩ : ∃ m : Nat, n = m := ⟨n.toNat, by have := hBr.1; omega⟩
      have hm := hBr.1
      have hlen := hBr.2.1
      have hLt := hBr.2.2
      refine W_reg ?_
      refine T_go rfl rfl (st_litM hs (fun _ => by kernel_rfl) fun w3 b3 hk3 hb3 hs => ?_)
      refine T_pu rfl rfl (pu_assign rfl) ?_
      refine T_nil ?_
      refine W_seq ?_
      refine W_seq ?_
      refine W_reg ?_
      refine T_pu rfl rfl (pu_fld (off := 0) Try.underlying28 rfl rfl ty2 rfl rfl) ?_
      refine T_pi rfl rfl (pi_load Try.underlying2 rfl rfl (fun w' h => by obtain rfl := h; exact (by first | exact (hB1.keep hs.kp id).cell rfl))) ?_
      refine T_pu rfl rfl (pu_move rfl) ?_
      refine T_nil ?_
      refine W_block ?_
      refine W_loop (σ := Nat × Value) (fun s => [(1, .int .i64 p), (2, .pointer (some ⟨b1, 0, none⟩)), (6, s.2), (20, .int .i64 m), (21, .int .i64 s.1)]) (fun s w' => s.1 ≤ m ∧ ∃ hds, St no w1 [aMat s.2 hds (colRows p m xs s.1)] w') (fun s => m - s.1) (0, .slice (some ⟨b3, 0, none⟩) 0 0) ?_ ?_ ?_
      · exact .cons rfl (.cons rfl (.cons rfl (.cons rfl (.cons rfl (.nil _)))))
      · exact ⟨Nat.zero_le _, [], hs⟩
      clear hs
      rintro ⟨k, u⟩ w4 ⟨hkm, hds, hs⟩
      dsimp only at hkm hs ⊢
      refine W_seq ?_
      refine W_reg ?_
      refine T_pu rfl rfl (pu_lss rfl rfl) ?_
      refine T_nil ?_
      refine W_seq ?_
      refine W_if rfl (fun hc7 => ?_) (fun hc7 => ?_)
      · refine W_skip ?_
        refine W_seq ?_
        refine W_block ?_
        refine W_seq ?_
        refine W_reg ?_
        refine T_pu rfl rfl (pu_move rfl) ?_
        refine T_pu rfl rfl (pu_assign rfl) ?_
        refine T_nil ?_
        refine W_seq ?_
        refine W_reg ?_
        refine T_pu rfl rfl (pu_fld (off := 0) Try.underlying28 rfl rfl ty2 rfl rfl) ?_
        refine T_pi rfl rfl (pi_load Try.underlying2 rfl rfl (fun w' h => by obtain rfl := h; exact (by first | exact (hB1.keep hs.kp id).cell rfl))) ?_
        refine T_go rfl rfl (st_makeI hs Try.underlying22 ty2 rfl rfl (by omega) fun w5 b5 hk5 hb5 hs => ?_)
        refine T_pu rfl rfl (pu_assign rfl) ?_
        refine T_nil ?_
        refine W_seq ?_
        refine W_reg ?_
        refine T_pu rfl rfl (pu_move rfl) ?_
        refine T_pu rfl rfl (pu_move rfl) ?_
        refine T_pu rfl rfl ((by first | exact pu_ix1 Try.underlying22 ty2 rfl rfl (by omega) (by omega) | exact pu_index Try.underlying22 ty2 rfl rfl (by omega) (by omega))) ?_
        refine T_goN rfl (st_storeI hs 0 rfl ty2 rfl rfl (by omega) (by simp; omega) fun w6 hk6 hs => ?_)
        have hs : St no w1 [aOI (.slice (some ⟨b5, 0, none⟩) m m) (unitL m k), aMat u hds (colRows p m xs k)] w6 := hs
        refine T_nil ?_
        refine W_seq ?_
        have hu := unitL_ok (n := m) (x := k) hp.1
        obtain ⟨hc1', hc2'⟩ := colF_all (p := p) (by omega) xs (unitL m k) hu.1 hLt hu.2
        refine W_reg ?_
        refine T_pu rfl rfl (pu_fld (off := 1) Try.underlying28 rfl rfl ty22 rfl rfl) ?_
        refine T_pi rfl rfl (pi_load Try.underlying22 rfl rfl (fun w' h => by obtain rfl := h; exact (by first | exact (hB1.keep hs.kp id).cell rfl))) ?_
        refine T_pu rfl rfl (pu_move rfl) ?_
        refine T_pu rfl rfl (pu_move rfl) ?_
        refine T_go rfl rfl (st_call fn74 rfl ((colour_ok _ _ xs (unitL m k) p hp w6 (hv.keep (hs.kp)) (hs.oi 0 rfl).ri (by omega) (by omega) (by rw [hu.1]; exact hLt) hu.2).mono ?_))
        rintro r w7 hn
        have hs := (hs.newI hn).drop 1
        simp only [List.eraseIdx] at hs
        obtain ⟨b7, c7, rfl, hcap7⟩ : ∃ b c, r = .slice (some ⟨b, 0, none⟩) m c ∧ m ≤ c := by
          rcases hn.1.open with ⟨_, e⟩ | ⟨b, c, e, h⟩
          · rw [e] at hc1'; simp at hc1'; omega
          · rw [hc1'] at e h; exact ⟨b, c, e, h⟩
        refine T_pu rfl rfl (pu_assign rfl) ?_
        refine T_nil ?_
        refine W_seq ?_
        have hrd := hc2'.rd (i := k) (by omega) (by omega)
        have hO := (hs.oi 0 rfl).ri
        refine W_reg ?_
        refine T_pu rfl rfl (pu_move rfl) ?_
        refine T_pu rfl rfl (pu_move rfl) ?_
        refine T_pu rfl rfl (pu_move rfl) ?_
        refine T_pu rfl rfl (pu_move rfl) ?_
        refine T_pu rfl rfl ((by first | exact pu_ix1 Try.underlying22 ty2 rfl rfl (by omega) (by omega) | exact pu_index Try.underlying22 ty2 rfl rfl (by omega) (by omega))) ?_
        refine T_pi rfl rfl (pi_load Try.underlying2 rfl rfl (fun w' h => by obtain rfl := h; exact (by first | exact hO.at0 (by omega) (by omega)))) ?_
        refine T_pu rfl rfl (pu_move rfl) ?_
        refine T_pu rfl rfl (pu_add64 rfl rfl (by omega)) ?_
        refine T_pu rfl rfl (pu_sub64 rfl rfl (by omega)) ?_
        refine T_pu rfl rfl (pu_move rfl) ?_
        refine T_pu rfl rfl (pu_rem rfl rfl (by omega)) ?_
        refine T_pu rfl rfl ((by first | exact pu_ix1 Try.underlying22 ty2 rfl rfl (by omega) (by omega) | exact pu_index Try.underlying22 ty2 rfl rfl (by omega) (by omega))) ?_
        refine T_goN rfl (st_storeI hs 0 rfl ty2 rfl rfl (by omega) (by first | omega | (simp; omega)) fun w8 hk8 hs => ?_)
        rw [tmod_nn (by omega)] at hs
        have hs : St no w1 [aOI (.slice (some ⟨b7, 0, none⟩) m c7) (colRow p m xs k), aMat u hds (colRows p m xs k)] w8 := hs
        refine T_nil ?_
        refine W_reg ?_
        refine T_pu rfl rfl (pu_move rfl) ?_
        refine T_pu rfl rfl (pu_move rfl) ?_
        refine T_go rfl rfl (st_litR hs rfl (fun _ => by kernel_rfl) fun w9 b9 hk9 hb9 hs hU => ?_)
        have hs := hs.front 1 rfl
        refine T_go rfl rfl (st_appendM (by' := 0) hs Try.underlying32 ty22 rfl rfl hU rfl (by rw [colRows_length]; omega) fun u' w10 hs hk10 hf10 => ?_)
        refine T_pu rfl rfl (pu_assign rfl) ?_
        refine T_nil ?_
        refine W_reg ?_
        refine T_pu rfl rfl (pu_add64 rfl rfl (by omega)) ?_
        refine T_pu rfl rfl (pu_move rfl) ?_
        refine T_nil ?_
        exact ⟨(k + 1, u'), .cons rfl (.cons rfl (.cons rfl (.cons rfl (.cons rfl (.nil _))))), ⟨by show k + 1 ≤ m; omega, _, by rw [colRows_succ]; exact hs⟩, by show m - (k + 1) < m - k; omega⟩
      · refine W_exit rfl ?_
        refine W_seq ?_
        refine W_draw mixed 1000 (IF (MatF u hds)) (fun w5 hk5 => ?_)
        obtain rfl : k = m := by omega
        have hs := hs.next hk5
        have hg := colRows_ok (p := p) hp.1 hLt
        have hM := hs.mat 0 rfl
        have hnb : ¬ MatF u hds b1 := fun e => by have := ((hs.each _ (List.mem_cons_self ..)).2 b1 e).1.resolve_left id; have := hB1.lt; omega
        have hrl := rankF_le (p := p) (by omega) hg
        refine D_pu 0 (by kernel_rfl) rfl (by kernel_rfl) (by kernel_rfl) rfl rfl (by kernel_rfl) (Pu.stable (pu_fld (off := 0) Try.underlying28 rfl rfl ty2 rfl rfl)) ?_
        refine D_pu 1 (by kernel_rfl) rfl (by kernel_rfl) (by kernel_rfl) rfl rfl (by kernel_rfl) (pi_load Try.underlying2 rfl rfl (fun w' h => by obtain ⟨_, h⟩ := h; first | exact h.cell ((hB1.keep hs.kp id).cell rfl) hnb)) ?_
        refine D_pu 2 (by kernel_rfl) rfl (by kernel_rfl) (by kernel_rfl) rfl rfl (by kernel_rfl) (Pu.stable (pu_move rfl)) ?_
        refine D_pu 3 (by kernel_rfl) rfl (by kernel_rfl) (by kernel_rfl) rfl rfl (by kernel_rfl) (Pu.stable (pu_move rfl)) ?_
        refine D_go 4 (by kernel_rfl) (by first | rfl | (intro _; rfl) | (intro h; exact absurd (show true = false from h) (by decide)) | exact Kp.refl _ _ | assumption) rfl rfl rfl (st_call fn75 rfl ((rankModulo_ok u hds _ p k _ hp (by omega) hM hg).mono ?_))
        rintro v w6 ⟨rfl, hk6⟩
        refine D_pu 5 (by kernel_rfl) rfl (by kernel_rfl) (by kernel_rfl) rfl rfl (by kernel_rfl) (Pu.stable (pu_sub64 rfl rfl (by omega))) ?_
        refine D_pu 6 (by kernel_rfl) rfl (by kernel_rfl) (by kernel_rfl) rfl rfl (by kernel_rfl) (Pu.stable (pu_assign rfl)) ?_
        refine D_pu 7 (by kernel_rfl) rfl (by kernel_rfl) (by kernel_rfl) rfl rfl (by kernel_rfl) (Pu.stable (pu_assign rfl)) ?_
        refine D_done (by kernel_rfl) (by first | rfl | (intro _; rfl) | (intro h; exact absurd (show true = false from h) (by decide)) | exact Kp.refl _ _ | assumption) ?_
        refine W_ret ?_
        refine Res_2 rfl rfl rfl ⟨?_, hk1.next (hs.kp.trans hk6 ?_)⟩
        · simp only [colN, if_neg (not_not_intro hBr), if_neg (not_not_intro hP), Int.toNat_natCast]
        · intro b hb hf
          have := (hs.each _ (List.mem_cons_self ..)).2 b hf
          exact absurd (this.1.resolve_left id) (by omega)
set_option maxHeartbeats 8000000 in
theorem specCount_ok (n : Int) (v : Value) (xs : List Int) (p : Int) (w : World) (hv : RI w v xs) (hl : xs.length ≤ 1048576) (hw : ∀ x ∈ xs, -9223372036854775808 ≤ x ∧ x ≤ 9223372036854775807) :
    CallsR Try.prog 17 #[.agg #[.int .i64 n, v], .int .i64 p] w fun r w' => r = .tuple #[.int .i64 (colN n p xs).1, .int .i64 (colN n p xs).2] ∧ Kp no w w' := by
  obtain ⟨A, c, rfl, hc⟩ := hv.open
  refine fn_calls Try.func17 rfl rfl rfl ?_
  refine W_seq ?_
  refine W_reg ?_
  refine T_go rfl rfl (st_box rfl fun w1 b1 hk1 hb1 hB1 => ?_)
  have hv := hv.keep hk1
  have hs := St.start w1
  refine T_pu rfl rfl (pu_assign rfl) ?_
  refine T_pu rfl rfl (pu_assign rfl) ?_
  refine T_nil ?_
  refine W_seq ?_
  refine W_block ?_
  refine W_seq ?_
  refine W_reg ?_
  refine T_pi rfl rfl (pi_loadAgg Try.underlying28 rfl ty28 rfl (fun w' h => by obtain rfl := h; exact (by first | exact hB1.cells)) (by first | rfl | (simp; done))) ?_
  refine T_go rfl rfl (st_call fn67 rfl ((l01Is_ok n _ xs w1 hv (by omega) hw).mono ?_))
  rintro v w2 ⟨rfl, hk2⟩
  have hs := hs.next hk2
  refine T_pu rfl rfl (pu_notp rfl) ?_
  refine T_pu rfl rfl (pu_assign rfl) ?_
  refine T_nil ?_
  refine W_if rfl (fun hc1 => ?_) (fun hc1 => ?_)
  · refine W_seq ?_
    refine W_reg ?_
    refine T_pu rfl rfl (pu_assign rfl) ?_
    refine T_pu rfl rfl (pu_assign rfl) ?_
    refine T_nil ?_
    refine W_ret ?_
    have hB : ¬ Br n xs := by simpa using hc1
    refine Res_2 rfl rfl rfl ⟨?_, hk1.next hs.kp⟩
    simp only [colN, if_pos hB]
  · refine W_seq ?_
    have hBr : Br n xs := by simpa using hc1
    refine W_reg ?_
    refine T_pu rfl rfl (pu_move rfl) ?_
    refine T_go rfl rfl (st_call fn68 rfl ((l08Prime_ok p w2).mono ?_))
    rintro v w' ⟨rfl, rfl⟩
    refine T_pu rfl rfl (pu_notp rfl) ?_
    refine T_pu rfl rfl (pu_assign rfl) ?_
    refine T_nil ?_
    refine W_if rfl (fun hc3 => ?_) (fun hc3 => ?_)
    · refine W_seq ?_
      refine W_reg ?_
      refine T_pu rfl rfl (pu_assign rfl) ?_
      refine T_pu rfl rfl (pu_assign rfl) ?_
      refine T_nil ?_
      refine W_ret ?_
      have hP : ¬ Pr p := by simpa using hc3
      refine Res_2 rfl rfl rfl ⟨?_, hk1.next hs.kp⟩
      simp only [colN, if_neg (not_not_intro hBr), if_pos hP]
    · refine W_skip ?_
      refine W_seq ?_
      have hP : Pr p := by simpa using hc3
      have hp := pr_range hP
      obtain ⟨m, rfl⟩ : ∃ m : Nat, n = m := ⟨n.toNat, by have := hBr.1; omega⟩
      have hm := hBr.1
      have hlen := hBr.2.1
      have hLt := hBr.2.2
      refine W_reg ?_
      refine T_go rfl rfl (st_litM hs (fun _ => by kernel_rfl) fun w3 b3 hk3 hb3 hs => ?_)
      refine T_pu rfl rfl (pu_assign rfl) ?_
      refine T_nil ?_
      refine W_seq ?_
      refine W_seq ?_
      refine W_reg ?_
      refine T_pu rfl rfl (pu_assign rfl) ?_
      refine T_nil ?_
      refine W_block ?_
      refine W_loop (σ := Nat × Value) (fun s => [(1, .int .i64 p), (2, .pointer (some ⟨b1, 0, none⟩)), (6, s.2), (7, .int .i64 s.1)]) (fun s w' => s.1 ≤ m ∧ ∃ hds, St no w1 [aMat s.2 hds (colRows p m xs s.1)] w') (fun s => m - s.1) (0, .slice (some ⟨b3, 0, none⟩) 0 0) ?_ ?_ ?_
      · exact .cons rfl (.cons rfl (.cons rfl (.cons rfl (.nil _))))
      · exact ⟨Nat.zero_le _, [], hs⟩
      clear hs
      rintro ⟨k, u⟩ w4 ⟨hkm, hds, hs⟩
      dsimp only at hkm hs ⊢
      refine W_seq ?_
      refine W_seq ?_
      refine W_reg ?_
      refine T_pu rfl rfl (pu_move rfl) ?_
      refine T_pu rfl rfl (pu_fld (off := 0) Try.underlying28 rfl rfl ty2 rfl rfl) ?_
      refine T_pi rfl rfl (pi_load Try.underlying2 rfl rfl (fun w' h => by obtain rfl := h; exact (by first | exact (hB1.keep hs.kp id).cell rfl))) ?_
      refine T_pu rfl rfl (pu_lss rfl rfl) ?_
      refine T_nil ?_
      refine W_if rfl (fun hc7 => ?_) (fun hc7 => ?_)
      · refine W_skip ?_
        refine W_seq ?_
        refine W_block ?_
        refine W_seq ?_
        refine W_reg ?_
        refine T_pu rfl rfl (pu_fld (off := 0) Try.underlying28 rfl rfl ty2 rfl rfl) ?_
        refine T_pi rfl rfl (pi_load Try.underlying2 rfl rfl (fun w' h => by obtain rfl := h; exact (by first | exact (hB1.keep hs.kp id).cell rfl))) ?_
        refine T_go rfl rfl (st_makeI hs Try.underlying22 ty2 rfl rfl (by omega) fun w5 b5 hk5 hb5 hs => ?_)
        refine T_pu rfl rfl (pu_assign rfl) ?_
        refine T_nil ?_
        refine W_seq ?_
        refine W_reg ?_
        refine T_pu rfl rfl (pu_move rfl) ?_
        refine T_pu rfl rfl (pu_move rfl) ?_
        refine T_pu rfl rfl ((by first | exact pu_ix1 Try.underlying22 ty2 rfl rfl (by omega) (by omega) | exact pu_index Try.underlying22 ty2 rfl rfl (by omega) (by omega))) ?_
        refine T_goN rfl (st_storeI hs 0 rfl ty2 rfl rfl (by omega) (by simp; omega) fun w6 hk6 hs => ?_)
        have hs : St no w1 [aOI (.slice (some ⟨b5, 0, none⟩) m m) (unitL m k), aMat u hds (colRows p m xs k)] w6 := hs
        refine T_nil ?_
        refine W_seq ?_
        have hu := unitL_ok (n := m) (x := k) hp.1
        obtain ⟨hc1', hc2'⟩ := colF_all (p := p) (by omega) xs (unitL m k) hu.1 hLt hu.2
        refine W_reg ?_
        refine T_pu rfl rfl (pu_fld (off := 1) Try.underlying28 rfl rfl ty22 rfl rfl) ?_
        refine T_pi rfl rfl (pi_load Try.underlying22 rfl rfl (fun w' h => by obtain rfl := h; exact (by first | exact (hB1.keep hs.kp id).cell rfl))) ?_
        refine T_pu rfl rfl (pu_move rfl) ?_
        refine T_pu rfl rfl (pu_move rfl) ?_
        refine T_go rfl rfl (st_call fn69 rfl ((l08Step_ok _ _ xs (unitL m k) p hp w6 (hv.keep (hs.kp)) (hs.oi 0 rfl).ri (by omega) (by omega) (by rw [hu.1]; exact hLt) hu.2).mono ?_))
        rintro r w7 hn
        have hs := (hs.newI hn).drop 1
        simp only [List.eraseIdx] at hs
        obtain ⟨b7, c7, rfl, hcap7⟩ : ∃ b c, r = .slice (some ⟨b, 0, none⟩) m c ∧ m ≤ c := by
          rcases hn.1.open with ⟨_, e⟩ | ⟨b, c, e, h⟩
          · rw [e] at hc1'; simp at hc1'; omega
          · rw [hc1'] at e h; exact ⟨b, c, e, h⟩
        refine T_pu rfl rfl (pu_assign rfl) ?_
        refine T_nil ?_
        refine W_seq ?_
        have hrd := hc2'.rd (i := k) (by omega) (by omega)
        have hO := (hs.oi 0 rfl).ri
        refine W_reg ?_
        refine T_pu rfl rfl (pu_move rfl) ?_
        refine T_pu rfl rfl (pu_move rfl) ?_
        refine T_pu rfl rfl (pu_move rfl) ?_
        refine T_pu rfl rfl (pu_move rfl) ?_
        refine T_pu rfl rfl ((by first | exact pu_ix1 Try.underlying22 ty2 rfl rfl (by omega) (by omega) | exact pu_index Try.underlying22 ty2 rfl rfl (by omega) (by omega))) ?_
        refine T_pi rfl rfl (pi_load Try.underlying2 rfl rfl (fun w' h => by obtain rfl := h; exact (by first | exact hO.at0 (by omega) (by omega)))) ?_
        refine T_pu rfl rfl (pu_move rfl) ?_
        refine T_pu rfl rfl (pu_add64 rfl rfl (by omega)) ?_
        refine T_pu rfl rfl (pu_sub64 rfl rfl (by omega)) ?_
        refine T_pu rfl rfl (pu_move rfl) ?_
        refine T_pu rfl rfl (pu_rem rfl rfl (by omega)) ?_
        refine T_pu rfl rfl ((by first | exact pu_ix1 Try.underlying22 ty2 rfl rfl (by omega) (by omega) | exact pu_index Try.underlying22 ty2 rfl rfl (by omega) (by omega))) ?_
        refine T_goN rfl (st_storeI hs 0 rfl ty2 rfl rfl (by omega) (by first | omega | (simp; omega)) fun w8 hk8 hs => ?_)
        rw [tmod_nn (by omega)] at hs
        have hs : St no w1 [aOI (.slice (some ⟨b7, 0, none⟩) m c7) (colRow p m xs k), aMat u hds (colRows p m xs k)] w8 := hs
        refine T_nil ?_
        refine W_reg ?_
        refine T_pu rfl rfl (pu_move rfl) ?_
        refine T_pu rfl rfl (pu_move rfl) ?_
        refine T_go rfl rfl (st_litR hs rfl (fun _ => by kernel_rfl) fun w9 b9 hk9 hb9 hs hU => ?_)
        have hs := hs.front 1 rfl
        refine T_go rfl rfl (st_appendM (by' := 0) hs Try.underlying32 ty22 rfl rfl hU rfl (by rw [colRows_length]; omega) fun u' w10 hs hk10 hf10 => ?_)
        refine T_pu rfl rfl (pu_assign rfl) ?_
        refine T_nil ?_
        refine W_reg ?_
        refine T_pu rfl rfl (pu_move rfl) ?_
        refine T_pu rfl rfl (pu_add64 rfl rfl (by omega)) ?_
        refine T_pu rfl rfl (pu_assign rfl) ?_
        refine T_nil ?_
        exact ⟨(k + 1, u'), .cons rfl (.cons rfl (.cons rfl (.cons rfl (.nil _)))), ⟨by show k + 1 ≤ m; omega, _, by rw [colRows_succ]; exact hs⟩, by show m - (k + 1) < m - k; omega⟩
      · refine W_exit rfl ?_
        refine W_seq ?_
        refine W_draw mixed 1000 (IF (MatF u hds)) (fun w5 hk5 => ?_)
        obtain rfl : k = m := by omega
        have hs := hs.next hk5
        have hg := colRows_ok (p := p) hp.1 hLt
        have hM := hs.mat 0 rfl
        have hnb : ¬ MatF u hds b1 := fun e => by have := ((hs.each _ (List.mem_cons_self ..)).2 b1 e).1.resolve_left id; have := hB1.lt; omega
        have hrl := rankF_le (p := p) (by omega) hg
        refine D_pu 0 (by kernel_rfl) rfl (by kernel_rfl) (by kernel_rfl) rfl rfl (by kernel_rfl) (Pu.stable (pu_fld (off := 0) Try.underlying28 rfl rfl ty2 rfl rfl)) ?_
        refine D_pu 1 (by kernel_rfl) rfl (by kernel_rfl) (by kernel_rfl) rfl rfl (by kernel_rfl) (pi_load Try.underlying2 rfl rfl (fun w' h => by obtain ⟨_, h⟩ := h; first | exact h.cell ((hB1.keep hs.kp id).cell rfl) hnb)) ?_
        refine D_pu 2 (by kernel_rfl) rfl (by kernel_rfl) (by kernel_rfl) rfl rfl (by kernel_rfl) (Pu.stable (pu_move rfl)) ?_
        refine D_pu 3 (by kernel_rfl) rfl (by kernel_rfl) (by kernel_rfl) rfl rfl (by kernel_rfl) (Pu.stable (pu_move rfl)) ?_
        refine D_go 4 (by kernel_rfl) (by first | rfl | (intro _; rfl) | (intro h; exact absurd (show true = false from h) (by decide)) | exact Kp.refl _ _ | assumption) rfl rfl rfl (st_call fn70 rfl ((l08Rank_ok u hds _ p k _ hP (by omega) hM hg).mono ?_))
        rintro v w6 ⟨rfl, hk6⟩
        refine D_pu 5 (by kernel_rfl) rfl (by kernel_rfl) (by kernel_rfl) rfl rfl (by kernel_rfl) (Pu.stable (pu_sub64 rfl rfl (by omega))) ?_
        refine D_pu 6 (by kernel_rfl) rfl (by kernel_rfl) (by kernel_rfl) rfl rfl (by kernel_rfl) (Pu.stable (pu_assign rfl)) ?_
        refine D_pu 7 (by kernel_rfl) rfl (by kernel_rfl) (by kernel_rfl) rfl rfl (by kernel_rfl) (Pu.stable (pu_assign rfl)) ?_
        refine D_done (by kernel_rfl) (by first | rfl | (intro _; rfl) | (intro h; exact absurd (show true = false from h) (by decide)) | exact Kp.refl _ _ | assumption) ?_
        refine W_ret ?_
        refine Res_2 rfl rfl rfl ⟨?_, hk1.next (hs.kp.trans hk6 ?_)⟩
        · simp only [colN, if_neg (not_not_intro hBr), if_neg (not_not_intro hP), Int.toNat_natCast]
        · intro b hb hf
          have := (hs.each _ (List.mem_cons_self ..)).2 b hf
          exact absurd (this.1.resolve_left id) (by omega)
end Go.Proofs.Ytdpbfdjpeofbmaa.L
