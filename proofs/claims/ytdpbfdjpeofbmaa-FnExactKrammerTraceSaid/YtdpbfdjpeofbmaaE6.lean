/- productIn: the program's product of the matrices of letters, whatever function gives them. -/
import Derived.Test.YtdpbfdjpeofbmaaE5
namespace Go.Proofs.Ytdpbfdjpeofbmaa.L
set_option linter.unusedVariables false
set_option maxRecDepth 100000

theorem kl_i64 : KL Try.prog 2 (fun a : Int => Value.int .i64 a) (fun _ => True) := KL_int Try.underlying2
theorem Kn.put {n : Int} {LM : Int → List (List Int)} {ms : List (Int × Value)} {w : World} (h : Kn n LM ms w) {l : Int} {v : Value} (h1 : Lt n l) (h2 : ∃ a c e, v = .slice (some a) c e) (h3 : RM w v (ltr LM l)) : Kn n LM (mput ms l v) w := fun m hm => by
  rcases mput_mem hm with rfl | hm
  · exact ⟨h1, h2, h3⟩
  · exact h m hm
theorem Kn.keepF {F : Nat → Prop} {n : Int} {LM : Int → List (List Int)} {ms : List (Int × Value)} {w w' : World} (h : Kn n LM ms w) (hk : Kp F w w') (hf : ∀ a u, w.cell? a = some u → ¬ F a.block) : Kn n LM ms w' := fun m hm => ⟨(h m hm).1, (h m hm).2.1, (h m hm).2.2.keepF hk hf⟩
theorem mput_mput {α : Type} [DecidableEq α] {ms : List (α × Value)} {a : α} {v u : Value} : mput (mput ms a v) a u = mput ms a u := by
  induction ms with
  | nil => simp [mput]
  | cons m ms ih =>
    obtain ⟨b, q⟩ := m
    simp only [mput]
    by_cases h : a = b
    · subst h; simp [mput]
    · rw [if_neg h, if_neg h]; simp only [mput]; rw [if_neg h, ih]
set_option maxHeartbeats 16000000 in
theorem productIn_ok (n : Nat) (hn : 1 ≤ n ∧ n ≤ 8) (d : Nat) (hd : 1 ≤ d ∧ d ≤ 28) (v : Value) (xs : List Int) (w : World) (hv : RI w v xs) (hl : xs.length ≤ 200) (hL : ∀ l ∈ xs, Lt n l) (LM : Int → List (List Int)) (hG : ∀ k : Int, 1 ≤ k → k ≤ n - 1 → Good d (LM k))
    (f : FuncId) (cap : List Value) (hfn : Fn Try.prog f) (hcl : ∀ (k : Int) w', 1 ≤ k → k ≤ n - 1 → Kp no w w' → CallsR Try.prog f (Value.int .i64 k :: cap).toArray w' fun r w'' => NewM w' w'' r (LM k)) :
    CallsR Try.prog 89 #[.agg #[.int .i64 n, v], .int .i64 d, .func (.func f) #[] cap.toArray] w fun r w' => NewM w w' r (prodF d LM xs xs.length) := by
  obtain ⟨A, c, rfl, hc⟩ := hv.open
  have hs := St.start w
  refine fn_calls Try.func89 rfl rfl rfl ?_
  refine W_seq ?_
  refine W_reg ?_
  refine T_go rfl rfl (st_boxS hs rfl fun w1 b1 hk1 hb1 hs => ?_)
  refine T_pu rfl rfl (pu_assign rfl) ?_
  refine T_nil ?_
  refine W_seq ?_
  refine W_reg ?_
  refine T_go rfl rfl (st_makeMapS (fun a : Int => Value.int .i64 a) hs Try.underlying129 fun w2 bm hk2 hb2 hs => ?_)
  refine T_pu rfl rfl (pu_assign rfl) ?_
  refine T_nil ?_
  refine W_seq ?_
  refine W_reg ?_
  refine T_pu rfl rfl (pu_move rfl) ?_
  refine T_go rfl rfl (st_call fn91 rfl ((unitIn_ok d hd.1 (by omega) _).mono ?_))
  rintro u3 w3 hn3
  obtain ⟨hds3, hM3, hk3, hf3⟩ := hn3
  have hs := hs.newM hM3 hk3 hf3
  refine T_pu rfl rfl (pu_assign rfl) ?_
  refine T_nil ?_
  refine W_seq ?_
  refine W_seq ?_
  refine W_reg ?_
  refine T_pu rfl rfl (pu_fld (off := 1) Try.underlying28 rfl rfl ty22 rfl rfl) ?_
  refine T_pi rfl rfl (pi_load Try.underlying22 rfl rfl (fun w' h => by obtain rfl := h; exact (by first | exact (hs.bk 2 rfl).cell rfl))) ?_
  refine T_pu rfl rfl (pu_len Try.underlying22 rfl) ?_
  refine T_pu rfl rfl (pu_move rfl) ?_
  refine T_nil ?_
  refine W_block ?_
  refine W_loop (σ := Nat × Value × List (Int × Value)) (fun s => [(2, .func (.func f) #[] cap.toArray), (7, .map (some bm)), (8, s.2.1), (15, .slice A xs.length c), (16, .int .i64 xs.length), (17, .int .i64 s.1)]) (fun s w' => s.1 ≤ xs.length ∧ Kn n LM s.2.2 w' ∧ ∃ hds, St no w [aMat s.2.1 hds (prodF d LM xs s.1), aMap (fun a : Int => Value.int .i64 a) bm s.2.2] w') (fun s => xs.length - s.1) (0, u3, []) ?_ ?_ ?_
  · exact .cons rfl (.cons rfl (.cons rfl (.cons rfl (.cons rfl (.cons rfl (.nil _))))))
  · exact ⟨Nat.zero_le _, fun m h => by simp at h, hds3, hs.drop 2⟩
  repeat clear hs
  rintro ⟨k, uo, ms⟩ w4 ⟨hkl, hKn, hds, hs⟩
  dsimp only at hkl hKn hs ⊢
  refine W_seq ?_
  refine W_reg ?_
  refine T_pu rfl rfl (pu_lss rfl rfl) ?_
  refine T_nil ?_
  refine W_seq ?_
  refine W_if rfl (fun hc4 => ?_) (fun hc4 => ?_)
  · refine W_skip ?_
    refine W_seq ?_
    refine W_block ?_
    refine W_seq ?_
    obtain ⟨a, rfl⟩ := hv.addr (i := k) (by omega) (by omega)
    have hcell := (hv.keep hs.kp).at (i := k) (by omega) (by omega)
    have hlt := hL _ (rd_mem (i := k) (by omega))
    have hpq := pq_max hlt
    have hps := prodF_succ (d := d) (LM := LM) (ls := xs) (k := k) (by omega)
    have hgl := hG _ hpq.1 hpq.2
    have hlq := ltr_fq hG hd.1 hd.2 hlt
    generalize rd xs k = l at hcell hlt hpq hps hgl hlq
    have hlt2 := hlt
    unfold Lt at hlt2
    refine W_reg ?_
    refine T_pu rfl rfl ((by first | exact pu_ix1 Try.underlying22 ty2 rfl rfl (by omega) (by omega) | exact pu_index Try.underlying22 ty2 rfl rfl (by omega) (by omega))) ?_
    refine T_pi rfl rfl (pi_load Try.underlying2 rfl rfl (fun w' h => by obtain rfl := h; exact (by first | exact hcell))) ?_
    refine T_pu rfl rfl (pu_assign rfl) ?_
    refine T_nil ?_
    refine W_cut (σ := Value × List (Int × Value)) (fun s => [(2, .func (.func f) #[] cap.toArray), (7, .map (some bm)), (8, uo), (10, .int .i64 l), (15, .slice (some a) xs.length c), (16, .int .i64 xs.length), (17, .int .i64 k)]) (fun s w' => mget s.2 l = some s.1 ∧ Kn n LM s.2 w' ∧ St no w [aMat uo hds (prodF d LM xs k), aMap (fun a : Int => Value.int .i64 a) bm s.2] w') ?_ ?_
    · refine W_seq ?_
      obtain ⟨Aq, nq, cq, hq, hqn⟩ : ∃ (Aq : Option Addr) (nq cq : Nat), (mget ms l).getD (.slice none 0 0) = .slice Aq nq cq ∧ (Aq = none ↔ mget ms l = none) := by
        cases hg : mget ms l with
        | none => exact ⟨none, 0, 0, rfl, by simp⟩
        | some q =>
          obtain ⟨a', c', e', hq⟩ := (hKn _ (mget_mem hg)).2.1
          exact ⟨some a', c', e', hq, by simp⟩
      refine W_reg ?_
      refine T_pu rfl rfl (pu_move rfl) ?_
      refine T_pu rfl rfl (pu_move rfl) ?_
      refine T_pi rfl rfl (pi_lookup (z := .slice none 0 0) kl_i64 Try.underlying129 ty32 rfl rfl (fun _ _ => trivial) trivial (fun w' h => by obtain rfl := h; exact hs.mp 1 rfl)) ?_
      rw [hq]
      refine T_pu rfl rfl (pu_eqlSN Try.underlying32 rfl) ?_
      refine T_nil ?_
      refine W_if rfl (fun hc6 => ?_) (fun hc6 => ?_)
      · refine W_seq ?_
        refine W_reg ?_
        refine T_pu rfl rfl (pu_move rfl) ?_
        refine T_pu rfl rfl (pu_move rfl) ?_
        refine T_pu rfl rfl (pu_move rfl) ?_
        refine T_pu rfl rfl (pu_move rfl) ?_
        refine T_go rfl rfl (st_call fn140 rfl ((size_ok _ (by omega) _).mono ?_))
        rintro v w' ⟨rfl, rfl⟩
        refine T_go rfl rfl (st_callv (fi := []) hfn rfl rfl ((hcl (max l (-l)) _ hpq.1 hpq.2 hs.kp).mono ?_))
        rintro u5 w5 ⟨hds5, hM5, hk5, hf5⟩
        have hs := hs.newM hM5 hk5 hf5
        obtain ⟨g5, c5, rfl, hc5⟩ := hM5.slice (n := d) hgl.fq.1 hd.1
        have hKn := hKn.keep hk5
        refine T_goN rfl (st_mapUpdate hs 2 rfl kl_i64 Try.underlying129 rfl rfl rfl (fun _ _ => trivial) trivial fun w6 hk6 hs' => ?_)
        have hKn := hKn.keepF hk6 (fun a u h => cell_not_map h (hs.mp 2 rfl))
        have hRM5 := (hs.mat 0 rfl).rm.keepF hk6 (fun a u h => cell_not_map h (hs.mp 2 rfl))
        have hs := hs'.drop 0
        clear hs'
        dsimp only [List.set, List.eraseIdx] at hs
        refine T_nil ?_
        refine W_seq ?_
        refine W_reg ?_
        refine T_pu rfl rfl (pu_move rfl) ?_
        refine T_pu rfl rfl (pu_lss rfl rfl) ?_
        refine T_nil ?_
        refine W_if rfl (fun hc8 => ?_) (fun hc8 => ?_)
        · refine W_reg ?_
          refine T_pu rfl rfl (pu_move rfl) ?_
          refine T_pu rfl rfl (pu_move rfl) ?_
          refine T_pu rfl rfl (pu_move rfl) ?_
          refine T_pu rfl rfl (pu_move rfl) ?_
          refine T_pi rfl rfl (pi_lookup (z := .slice none 0 0) kl_i64 Try.underlying129 ty32 rfl rfl (fun _ _ => trivial) trivial (fun w' h => by obtain rfl := h; exact hs.mp 1 rfl)) ?_
          rw [mget_mput, if_pos rfl]
          refine T_go rfl rfl (st_call fn79 rfl ((inverseIn_ok _ _ _ hRM5 (hgl.fq.fm hd.1 hd.2)).mono ?_))
          rintro v w7 ⟨u7, rfl, hds7, hM7, hk7, hf7⟩
          have hs := hs.newM hM7 hk7 hf7
          obtain ⟨g7, c7, rfl, hc7⟩ := hM7.slice (n := d) (hgl.inv hd.1 hd.2).1 hd.1
          have hKn := hKn.keep hk7
          refine T_pu rfl rfl (pu_move rfl) ?_
          refine T_pu rfl rfl (pu_extract rfl rfl) ?_
          refine T_pu rfl rfl (pu_extract rfl rfl) ?_
          refine T_goN rfl (st_mapUpdate hs 2 rfl kl_i64 Try.underlying129 rfl rfl rfl (fun _ _ => trivial) trivial fun w8 hk8 hs' => ?_)
          have hKn := hKn.keepF hk8 (fun a u h => cell_not_map h (hs.mp 2 rfl))
          have hRM7 := (hs.mat 0 rfl).rm.keepF hk8 (fun a u h => cell_not_map h (hs.mp 2 rfl))
          have hs := hs'.drop 0
          clear hs'
          dsimp only [List.set, List.eraseIdx] at hs
          rw [mput_mput] at hs
          refine T_nil ?_
          first
            | exact ⟨(.slice (some ⟨g7, 0, none⟩) d c7, mput ms l (.slice (some ⟨g7, 0, none⟩) d c7)), .cons rfl (.cons rfl (.cons rfl (.cons rfl (.cons rfl (.cons rfl (.cons rfl (.nil _))))))), by show mget (mput ms l _) l = _; rw [mget_mput, if_pos rfl], hKn.put hlt ⟨_, _, _, rfl⟩ (by unfold ltr; rw [if_pos (by omega)]; exact hRM7), hs⟩
            | exact ⟨(.slice (some ⟨g5, 0, none⟩) d c5, mput ms l (.slice (some ⟨g5, 0, none⟩) d c5)), .cons rfl (.cons rfl (.cons rfl (.cons rfl (.cons rfl (.cons rfl (.cons rfl (.nil _))))))), by show mget (mput ms l _) l = _; rw [mget_mput, if_pos rfl], hKn.put hlt ⟨_, _, _, rfl⟩ (by unfold ltr; rw [if_neg (by omega)]; exact hRM5), hs⟩
            | (obtain ⟨q, hg⟩ : ∃ q, mget ms l = some q := by
                 cases hg : mget ms l with
                 | none => exact absurd (hqn.2 hg) hc6
                 | some q => exact ⟨q, rfl⟩
               exact ⟨(q, ms), .cons rfl (.cons rfl (.cons rfl (.cons rfl (.cons rfl (.cons rfl (.cons rfl (.nil _))))))), hg, hKn, hs⟩)
        · refine W_skip ?_
          first
            | exact ⟨(.slice (some ⟨g7, 0, none⟩) d c7, mput ms l (.slice (some ⟨g7, 0, none⟩) d c7)), .cons rfl (.cons rfl (.cons rfl (.cons rfl (.cons rfl (.cons rfl (.cons rfl (.nil _))))))), by show mget (mput ms l _) l = _; rw [mget_mput, if_pos rfl], hKn.put hlt ⟨_, _, _, rfl⟩ (by unfold ltr; rw [if_pos (by omega)]; exact hRM7), hs⟩
            | exact ⟨(.slice (some ⟨g5, 0, none⟩) d c5, mput ms l (.slice (some ⟨g5, 0, none⟩) d c5)), .cons rfl (.cons rfl (.cons rfl (.cons rfl (.cons rfl (.cons rfl (.cons rfl (.nil _))))))), by show mget (mput ms l _) l = _; rw [mget_mput, if_pos rfl], hKn.put hlt ⟨_, _, _, rfl⟩ (by unfold ltr; rw [if_neg (by omega)]; exact hRM5), hs⟩
            | (obtain ⟨q, hg⟩ : ∃ q, mget ms l = some q := by
                 cases hg : mget ms l with
                 | none => exact absurd (hqn.2 hg) hc6
                 | some q => exact ⟨q, rfl⟩
               exact ⟨(q, ms), .cons rfl (.cons rfl (.cons rfl (.cons rfl (.cons rfl (.cons rfl (.cons rfl (.nil _))))))), hg, hKn, hs⟩)
      · refine W_skip ?_
        first
          | exact ⟨(.slice (some ⟨g7, 0, none⟩) d c7, mput ms l (.slice (some ⟨g7, 0, none⟩) d c7)), .cons rfl (.cons rfl (.cons rfl (.cons rfl (.cons rfl (.cons rfl (.cons rfl (.nil _))))))), by show mget (mput ms l _) l = _; rw [mget_mput, if_pos rfl], hKn.put hlt ⟨_, _, _, rfl⟩ (by unfold ltr; rw [if_pos (by omega)]; exact hRM7), hs⟩
          | exact ⟨(.slice (some ⟨g5, 0, none⟩) d c5, mput ms l (.slice (some ⟨g5, 0, none⟩) d c5)), .cons rfl (.cons rfl (.cons rfl (.cons rfl (.cons rfl (.cons rfl (.cons rfl (.nil _))))))), by show mget (mput ms l _) l = _; rw [mget_mput, if_pos rfl], hKn.put hlt ⟨_, _, _, rfl⟩ (by unfold ltr; rw [if_neg (by omega)]; exact hRM5), hs⟩
          | (obtain ⟨q, hg⟩ : ∃ q, mget ms l = some q := by
               cases hg : mget ms l with
               | none => exact absurd (hqn.2 hg) hc6
               | some q => exact ⟨q, rfl⟩
             exact ⟨(q, ms), .cons rfl (.cons rfl (.cons rfl (.cons rfl (.cons rfl (.cons rfl (.cons rfl (.nil _))))))), hg, hKn, hs⟩)
    · rintro ⟨q, ms2⟩ w9 ⟨hg, hKn2, hs2⟩
      repeat clear hs
      dsimp only at hg hKn2 hs2 ⊢
      have hs := hs2
      clear hs2
      refine W_reg ?_
      refine T_pu rfl rfl (pu_move rfl) ?_
      refine T_pu rfl rfl (pu_move rfl) ?_
      refine T_pu rfl rfl (pu_move rfl) ?_
      refine T_pi rfl rfl (pi_lookup (z := .slice none 0 0) kl_i64 Try.underlying129 ty32 rfl rfl (fun _ _ => trivial) trivial (fun w' h => by obtain rfl := h; exact hs.mp 1 rfl)) ?_
      rw [hg]
      refine T_go rfl rfl (st_call fn96 rfl ((multiplyIn_ok d (by omega) _ _ (prodF d LM xs k) (ltr LM l) _ (hs.mat 0 rfl).rm (hKn2 _ (mget_mem hg)).2.2 (prodF_fq k) hlq).mono ?_))
      rintro u10 w10 ⟨hds10, hM10, hk10, hf10⟩
      rw [← hps] at hM10
      have hs := (hs.newM hM10 hk10 hf10).drop 1
      refine T_pu rfl rfl (pu_assign rfl) ?_
      refine T_nil ?_
      refine W_reg ?_
      refine T_pu rfl rfl (pu_add64 rfl rfl (by omega)) ?_
      refine T_pu rfl rfl (pu_move rfl) ?_
      refine T_nil ?_
      exact ⟨(k + 1, u10, ms2), .cons rfl (.cons rfl (.cons rfl (.cons rfl (.cons rfl (.cons rfl (.nil _)))))), ⟨by show k + 1 ≤ _; omega, hKn2.keep hk10, hds10, hs⟩, by show _ - (k + 1) < _ - k; omega⟩
  · refine W_exit rfl ?_
    refine W_seq ?_
    refine W_reg ?_
    refine T_pu rfl rfl (pu_move rfl) ?_
    refine T_pu rfl rfl (pu_assign rfl) ?_
    refine T_nil ?_
    refine W_ret ?_
    obtain rfl : k = xs.length := by omega
    exact Res_1 rfl rfl (hs.isNewM 0 rfl)
end Go.Proofs.Ytdpbfdjpeofbmaa.L
