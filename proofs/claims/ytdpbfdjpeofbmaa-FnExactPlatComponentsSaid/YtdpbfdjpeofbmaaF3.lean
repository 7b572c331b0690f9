/- PlatComponents: the program, the reference, the law. -/
import Derived.Test.YtdpbfdjpeofbmaaF2
import Derived.Test.YtdpbfdjpeofbmaaL14
import Derived.Test.YtdpbfdjpeofbmaaD4
namespace Go.Proofs.Ytdpbfdjpeofbmaa.L
set_option linter.unusedVariables false
set_option maxRecDepth 100000

theorem noopP_ok (x y l : Int) (w : World) : CallsR Try.prog 120 #[.int .i64 x, .int .i64 y, .int .i64 l] w fun _ w' => w = w' := by
  refine fn_calls Try.func120 rfl rfl rfl ?_
  refine W_skip ?_
  exact Res_0 rfl rfl
def platR (n : Int) (xs : List Int) : Int × Int := if ¬ Br n xs then (0, 1) else if n % 2 ≠ 0 then (0, 5) else (dcnt (plF n.toNat (strF n.toNat xs) (n.toNat / 2)), 0)
set_option maxHeartbeats 8000000 in
theorem implPlat_ok (n : Int) (v : Value) (xs : List Int) (w : World) (hv : RI w v xs) (hl : xs.length ≤ 9223372036854775807) :
    CallsR Try.prog 61 #[.agg #[.int .i64 n, v]] w fun r w' => r = .tuple #[.int .i64 (platR n xs).1, .int .i64 (platR n xs).2] ∧ Kp no w w' := by
  obtain ⟨A, c, rfl, hc⟩ := hv.open
  have hs := St.start w
  refine fn_calls Try.func61 rfl rfl rfl ?_
  refine W_seq ?_
  refine W_reg ?_
  refine T_go rfl rfl (st_boxS hs rfl fun w1 b1 hk1 hb1 hs => ?_)
  refine T_pu rfl rfl (pu_assign rfl) ?_
  refine T_pu rfl rfl (pu_assign rfl) ?_
  refine T_nil ?_
  refine W_seq ?_
  refine W_block ?_
  refine W_seq ?_
  refine W_reg ?_
  refine T_pi rfl rfl (pi_loadAgg Try.underlying28 rfl ty28 rfl (fun w' h => by obtain rfl := h; exact (by first | exact (hs.bk 0 rfl).cells)) (by first | rfl | (simp; done) | (rw [nums_length]; assumption) | assumption)) ?_
  refine T_go rfl rfl (st_call fn72 rfl ((IsBraid_ok n _ xs _ (hv.keep hs.kp) hl).mono ?_))
  rintro v w2 ⟨rfl, hk2⟩
  have hs := hs.next hk2
  refine T_pu rfl rfl (pu_notp rfl) ?_
  refine T_pu rfl rfl (pu_assign rfl) ?_
  refine T_nil ?_
  refine W_if rfl (fun hc1 => ?_) (fun hc1 => ?_)
  · refine W_seq ?_
    refine W_reg ?_
    refine T_pu rfl rfl (pu_assign rfl) ?_
    refine T_pu rfl rfl (pu_assign rfl) ?_
    refine T_nil ?_
    refine W_ret ?_
    exact Res_2 rfl rfl rfl ⟨by unfold platR; rw [if_pos hc1], hs.kp⟩
  · refine W_seq ?_
    have hBr : Br n xs := Decidable.not_not.1 hc1
    have h1 := hBr.1
    have htm : n.tmod 2 = n % 2 := Int.tmod_eq_emod_of_nonneg (by omega)
    refine W_reg ?_
    refine T_pu rfl rfl (pu_fld (off := 0) Try.underlying28 rfl rfl ty2 rfl rfl) ?_
    refine T_pi rfl rfl (pi_load Try.underlying2 rfl rfl (fun w' h => by obtain rfl := h; exact (by first | exact (hs.bk 0 rfl).cell rfl))) ?_
    refine T_pu rfl rfl (pu_rem rfl rfl (by omega)) ?_
    rw [htm]
    refine T_pu rfl rfl (pu_eql rfl rfl) ?_
    refine T_pu rfl rfl (pu_assign rfl) ?_
    refine T_nil ?_
    refine W_if rfl (fun hc3 => ?_) (fun hc3 => ?_)
    · refine W_seq ?_
      refine W_reg ?_
      refine T_pu rfl rfl (pu_assign rfl) ?_
      refine T_pu rfl rfl (pu_assign rfl) ?_
      refine T_nil ?_
      refine W_ret ?_
      exact Res_2 rfl rfl rfl ⟨by unfold platR; rw [if_neg hc1, if_pos (by omega)], hs.kp⟩
    · refine W_skip ?_
      refine W_seq ?_
      obtain ⟨m, rfl⟩ : ∃ m : Nat, n = m := ⟨n.toNat, by omega⟩
      have e : platR m xs = ((dcnt (plF m (strF m xs) (m / 2)) : Int), 0) := by unfold platR; rw [if_neg hc1, if_neg (by omega), Int.toNat_natCast]
      rw [e]
      obtain ⟨hal, hain⟩ := strF_ok hBr.2.2
      refine W_reg ?_
      refine T_pu rfl rfl (pu_fld (off := 0) Try.underlying28 rfl rfl ty2 rfl rfl) ?_
      refine T_pi rfl rfl (pi_load Try.underlying2 rfl rfl (fun w' h => by obtain rfl := h; exact (by first | exact (hs.bk 0 rfl).cell rfl))) ?_
      refine T_go rfl rfl (st_call fn118 rfl ((fineGroups_ok m (by omega) _).mono ?_))
      rintro vg w3 hn3
      have hs := hs.newI hn3
      refine T_pu rfl rfl (pu_assign rfl) ?_
      refine T_nil ?_
      refine W_seq ?_
      refine W_reg ?_
      refine T_pi rfl rfl (pi_loadAgg Try.underlying28 rfl ty28 rfl (fun w' h => by obtain rfl := h; exact (by first | exact (hs.bk 1 rfl).cells)) (by first | rfl | (simp; done) | (rw [nums_length]; assumption) | assumption)) ?_
      refine T_go rfl rfl (st_call fn119 rfl ((follow_ok m (by omega) _ xs _ no (fun _ _ => True) (fun _ _ _ _ _ => trivial) (fun b h => h.elim) trivial (fun w' hk => (hv.keep hs.kp).keep hk) hl hBr.2.2 _ [] fn120 (fun k w' _ _ _ => (noopP_ok _ _ _ _).mono fun _ w'' e => ⟨by subst e; exact Kp.refl _ _, trivial⟩)).mono ?_))
      rintro va w4 ⟨hO4, hk4, _, hf4⟩
      have hs := hs.newI ⟨hO4, hk4, hf4⟩
      have hgr := fun i hi => plF_grp (n := m) (a := strF m xs) hal hain i hi
      generalize strF m xs = a at hal hain hs hgr hO4 ⊢
      obtain ⟨Aa, ca, rfl, _⟩ : ∃ Aa ca, va = .slice (some ⟨Aa, 0, none⟩) m ca ∧ m ≤ ca := by
        rcases hO4.open with ⟨_, e⟩ | ⟨b, c, e, h⟩
        · rw [e] at hal; simp at hal; omega
        · rw [hal] at e h; exact ⟨b, c, e, h⟩
      clear hO4 hf4
      refine T_pu rfl rfl (pu_assign rfl) ?_
      refine T_nil ?_
      refine W_seq ?_
      refine W_seq ?_
      refine W_reg ?_
      refine T_pu rfl rfl (pu_assign rfl) ?_
      refine T_nil ?_
      refine W_block ?_
      refine W_loop (σ := Nat) (fun i => [(1, .pointer (some ⟨b1, 0, none⟩)), (4, vg), (5, .slice (some ⟨Aa, 0, none⟩) m ca), (6, .int .i64 (2 * i : Nat))]) (fun i w' => 2 * i ≤ m ∧ St no w [aOI (.slice (some ⟨Aa, 0, none⟩) m ca) a, aOI vg (plF m a i), aBk b1 28 [.int .i64 m, .slice A xs.length c]] w') (fun i => m - 2 * i) 0 ?_ ?_ ?_
      · exact .cons rfl (.cons rfl (.cons rfl (.cons rfl (.nil _))))
      · exact ⟨by omega, hs⟩
      repeat clear hs
      rintro i w5 ⟨him, hs⟩
      have hgl := (hgr i him).len
      refine W_seq ?_
      refine W_seq ?_
      refine W_reg ?_
      refine T_pu rfl rfl (pu_move rfl) ?_
      refine T_pu rfl rfl (pu_fld (off := 0) Try.underlying28 rfl rfl ty2 rfl rfl) ?_
      refine T_pi rfl rfl (pi_load Try.underlying2 rfl rfl (fun w' h => by obtain rfl := h; exact (by first | exact (hs.bk 2 rfl).cell rfl))) ?_
      refine T_pu rfl rfl (pu_lss rfl rfl) ?_
      refine T_nil ?_
      refine W_if rfl (fun hc8 => ?_) (fun hc8 => ?_)
      · refine W_skip ?_
        refine W_seq ?_
        refine W_block ?_
        refine W_seq ?_
        refine W_reg ?_
        refine T_pu rfl rfl (pu_move rfl) ?_
        refine T_pu rfl rfl (pu_move rfl) ?_
        refine T_pu rfl rfl (pu_move rfl) ?_
        refine T_pu rfl rfl (pu_add64 rfl rfl (by omega)) ?_
        refine T_go rfl rfl (st_call fn121 rfl ((merge_ok vg (plF m a i) (2 * i : Nat) ((2 * i : Nat) + 1 : Int) _ (hs.oi 1 rfl) (by omega) (by omega) (by omega)).mono ?_))
        rintro q w6 ⟨hk6, hO6⟩
        have hs := hs.upd 1 rfl hk6 (aOI _ _) hO6 (fun b h => .inl h)
        simp only [List.set_cons_zero, List.set_cons_succ] at hs
        have hml := mrg_length (plF m a i) (2 * i : Nat) ((2 * i : Nat) + 1 : Int)
        refine T_nil ?_
        refine W_draw mixed 10 IS (fun w7 hk7 => ?_)
        have hs := hs.next hk7
        have hx1 := (hs.oi 0 rfl).ri.at0 (i := (2 * i : Nat)) (by omega) (by omega)
        have hx2 := (hs.oi 0 rfl).ri.at0 (i := ((2 * i : Nat) + 1 : Int)) (by omega) (by omega)
        have hr1 := hain.rd (i := (2 * i : Nat)) (by omega) (by omega)
        have hr2 := hain.rd (i := ((2 * i : Nat) + 1 : Int)) (by omega) (by omega)
        refine D_pu 0 (by kernel_rfl) rfl (by kernel_rfl) (by kernel_rfl) rfl rfl (by kernel_rfl) (Pu.stable (pu_move rfl)) ?_
        refine D_pu 1 (by kernel_rfl) rfl (by kernel_rfl) (by kernel_rfl) rfl rfl (by kernel_rfl) (Pu.stable (pu_move rfl)) ?_
        refine D_pu 2 (by kernel_rfl) rfl (by kernel_rfl) (by kernel_rfl) rfl rfl (by kernel_rfl) (Pu.stable (pu_move rfl)) ?_
        refine D_pu 3 (by kernel_rfl) rfl (by kernel_rfl) (by kernel_rfl) rfl rfl (by kernel_rfl) (Pu.stable ((by first | exact pu_ix1 Try.underlying22 ty2 rfl rfl (by omega) (by omega) | exact pu_index Try.underlying22 ty2 rfl rfl (by omega) (by omega)))) ?_
        refine D_rd 4 (by kernel_rfl) rfl (by kernel_rfl) (by kernel_rfl) rfl rfl (by kernel_rfl) (by kernel_rfl) (by kernel_rfl) (pi_load Try.underlying2 rfl rfl (fun w' h => by obtain rfl := h rfl; exact (by first | exact hx1 | exact hx2))) ?_
        refine D_pu 5 (by kernel_rfl) rfl (by kernel_rfl) (by kernel_rfl) rfl rfl (by kernel_rfl) (Pu.stable (pu_move rfl)) ?_
        refine D_pu 6 (by kernel_rfl) rfl (by kernel_rfl) (by kernel_rfl) rfl rfl (by kernel_rfl) (Pu.stable (pu_move rfl)) ?_
        refine D_pu 7 (by kernel_rfl) rfl (by kernel_rfl) (by kernel_rfl) rfl rfl (by kernel_rfl) (Pu.stable (pu_add64 rfl rfl (by omega))) ?_
        refine D_pu 8 (by kernel_rfl) rfl (by kernel_rfl) (by kernel_rfl) rfl rfl (by kernel_rfl) (Pu.stable ((by first | exact pu_ix1 Try.underlying22 ty2 rfl rfl (by omega) (by omega) | exact pu_index Try.underlying22 ty2 rfl rfl (by omega) (by omega)))) ?_
        refine D_rd 9 (by kernel_rfl) rfl (by kernel_rfl) (by kernel_rfl) rfl rfl (by kernel_rfl) (by kernel_rfl) (by kernel_rfl) (pi_load Try.underlying2 rfl rfl (fun w' h => by obtain rfl := h rfl; exact (by first | exact hx1 | exact hx2))) ?_
        refine D_go 10 (by kernel_rfl) (by first | rfl | (intro _; rfl) | (intro h; exact absurd (show true = false from h) (by decide)) | exact Kp.refl _ _ | assumption) rfl rfl rfl (st_call fn121 rfl ((merge_ok vg (mrg (plF m a i) (2 * i : Nat) ((2 * i : Nat) + 1 : Int)) (rd a (2 * i : Nat)) (rd a ((2 * i : Nat) + 1 : Int)) _ (hs.oi 1 rfl) (by omega) (by omega) (by omega)).mono ?_))
        rintro q w8 ⟨hk8, hO8⟩
        have hs := hs.upd 1 rfl hk8 (aOI _ _) hO8 (fun b h => .inl h)
        simp only [List.set_cons_zero, List.set_cons_succ] at hs
        refine D_done (by kernel_rfl) (by first | rfl | (intro _; rfl) | (intro h; exact absurd (show true = false from h) (by decide)) | exact Kp.refl _ _ | assumption) ?_
        refine W_reg ?_
        refine T_pu rfl rfl (pu_move rfl) ?_
        refine T_pu rfl rfl (pu_add64 rfl rfl (by omega)) ?_
        refine T_pu rfl rfl (pu_assign rfl) ?_
        refine T_nil ?_
        exact ⟨i + 1, .cons rfl (.cons rfl (.cons rfl (.cons (by show some (Value.int .i64 _) = some (Value.int .i64 _); congr 2 <;> omega) (.nil _)))), ⟨by omega, hs⟩, by omega⟩
      · refine W_exit rfl ?_
        refine W_seq ?_
        obtain rfl : i = m / 2 := by omega
        refine W_reg ?_
        refine T_pu rfl rfl (pu_move rfl) ?_
        refine T_go rfl rfl (st_call fn122 rfl ((sortGroups_ok vg _ _ (hs.oi 1 rfl) (by omega)).mono ?_))
        rintro q w9 ⟨ys, hk9, hO9, hpm, hsr⟩
        have hs := hs.upd 1 rfl hk9 (aOI _ _) hO9 (fun b h => .inl h)
        simp only [List.set_cons_zero, List.set_cons_succ] at hs
        have hyl := hpm.length_eq
        refine T_nil ?_
        refine W_seq ?_
        refine W_reg ?_
        refine T_pu rfl rfl (pu_move rfl) ?_
        refine T_go rfl rfl (st_call fn123 rfl ((compact_ok vg ys _ (hs.oi 1 rfl) (by omega) hsr).mono ?_))
        rintro q w10 ⟨⟨A10, c10, rfl⟩, hk10⟩
        refine T_pu rfl rfl (pu_len Try.underlying110 rfl) ?_
        refine T_pu rfl rfl (pu_assign rfl) ?_
        refine T_pu rfl rfl (pu_assign rfl) ?_
        refine T_nil ?_
        refine W_ret ?_
        refine Res_2 rfl rfl rfl ⟨by rw [dcnt_perm hpm], ?_⟩
        refine hs.kp.trans hk10 fun b hb he => ?_
        have := ((hs.each _ (List.mem_of_getElem? (i := 1) rfl)).2 b he).1
        rcases this with h | h
        · exact h
        · omega
/-! ### The reference -/
theorem pu_xor {P : Program} {l : Env} {d : Option Tmp} {ty : TypeId} {ps : String} {af : Array Edge} {g : Option (Nat × Bool)} {x y : Operand} {t t' : TypeId} {k : IntKind} {a b : Int} (hx : ev l x = some (.int k a)) (hy : ev l y = some (.int k b)) :
    Pu P l ⟨d, .binOp .xor t x y t', ty, ps, af, g⟩ (.int k (k.wrap ((BitVec.ofInt k.bits a ^^^ BitVec.ofInt k.bits b).toNat))) := by
  intro ρ h w; simp [execOp, h _ _ hx, h _ _ hy, eqGuard, binOp, Op.intBits]
theorem xor_all : (List.range 16).all (fun x : Nat => decide (IntKind.i64.wrap ((BitVec.ofInt IntKind.i64.bits (x : Int) ^^^ BitVec.ofInt IntKind.i64.bits 1).toNat) = pO x)) = true := by decide +kernel
theorem xor_one {x : Nat} (h : x < 16) : IntKind.i64.wrap ((BitVec.ofInt IntKind.i64.bits (x : Int) ^^^ BitVec.ofInt IntKind.i64.bits 1).toNat) = pO x := by
  have h' := xor_all
  simp only [List.all_eq_true, List.mem_range, decide_eq_true_eq] at h'
  exact h' x h
set_option maxHeartbeats 8000000 in
theorem l11Outside_ok (n : Nat) (hn : 1 ≤ n ∧ n ≤ 8) (w : World) : CallsR Try.prog 109 #[.int .i64 n] w fun r w' => (∃ ol, ol.length = 16 ∧ (∀ z : Nat, z < 2 * n → rd ol z = pO z) ∧ r = .agg (nums .u8 ol).toArray) ∧ Kp no w w' := by
  have hs := St.start w
  refine fn_calls Try.func109 rfl rfl rfl ?_
  refine W_seq ?_
  refine W_reg ?_
  refine T_go rfl rfl (st_allocS hs ty96 fun w1 b1 hk1 hb1 hs => ?_)
  refine T_nil ?_
  refine W_seq ?_
  refine W_reg ?_
  refine T_pu rfl rfl (pu_build (v := .agg (nums .u8 (List.replicate 16 0)).toArray) (vs := []) (parts := []) rfl (fun _ => by kernel_rfl)) ?_
  refine T_go rfl rfl (st_allocS hs ty96 fun w2 b2 hk2 hb2 hs => ?_)
  refine T_goN rfl (st_storeW hs 0 rfl ty96 rfl rfl (by first | rfl | (simp; done) | assumption) (by first | rfl | (simp; done) | assumption) fun w3 hk3 hs => ?_)
  refine T_nil ?_
  refine W_seq ?_
  refine W_seq ?_
  refine W_reg ?_
  refine T_pu rfl rfl (pu_assign rfl) ?_
  refine T_nil ?_
  refine W_block ?_
  refine W_loop (σ := Nat × List Int) (fun s => [(0, .int .i64 n), (2, .pointer (some ⟨b1, 0, none⟩)), (3, .pointer (some ⟨b2, 0, none⟩)), (4, .int .i64 s.1)]) (fun s w' => s.1 ≤ 2 * n ∧ s.2.length = 16 ∧ (∀ z : Nat, z < s.1 → rd s.2 z = pO z) ∧ ∃ cs, cs.length = 16 ∧ St no w [aBk b2 96 (nums .u8 s.2), aBk b1 96 cs] w') (fun s => 2 * n - s.1) (0, List.replicate 16 0) ?_ ?_ ?_
  · exact .cons rfl (.cons rfl (.cons rfl (.cons rfl (.nil _))))
  · exact ⟨Nat.zero_le _, by simp, fun z h => absurd h (Nat.not_lt_zero _), _, by rfl, hs⟩
  repeat clear hs
  rintro ⟨x, ol⟩ w4 ⟨hx, hol, hall, cs, hcs, hs⟩
  dsimp only at hx hol hall hs ⊢
  refine W_seq ?_
  refine W_seq ?_
  refine W_reg ?_
  refine T_pu rfl rfl (pu_move rfl) ?_
  refine T_pu rfl rfl (pu_move rfl) ?_
  refine T_pu rfl rfl (pu_mul64 rfl rfl (by omega)) ?_
  refine T_pu rfl rfl (pu_lss rfl rfl) ?_
  refine T_nil ?_
  refine W_if rfl (fun hc3 => ?_) (fun hc3 => ?_)
  · refine W_skip ?_
    refine W_seq ?_
    refine W_block ?_
    refine W_reg ?_
    refine T_pu rfl rfl (pu_move rfl) ?_
    refine T_pu rfl rfl (pu_move rfl) ?_
    refine T_pu rfl rfl (pu_xor rfl rfl) ?_
    rw [xor_one (by omega)]
    have hpo : 0 ≤ pO x ∧ pO x < 16 := by unfold pO; split <;> omega
    refine T_pu rfl rfl (pu_conv Try.underlying2 Try.underlying5 rfl) ?_
    refine T_pu rfl rfl (pu_ixA Try.underlying96 ty5 rfl rfl (by omega) (by omega)) ?_
    refine T_goN rfl (st_storeN hs 0 rfl ty5 rfl rfl x (by omega) (by omega) fun w5 hk5 hs => ?_)
    rw [u8_small (by omega)] at hs
    simp only [List.set_cons_zero] at hs
    refine T_nil ?_
    refine W_reg ?_
    refine T_pu rfl rfl (pu_move rfl) ?_
    refine T_pu rfl rfl (pu_add64 rfl rfl (by omega)) ?_
    refine T_pu rfl rfl (pu_assign rfl) ?_
    refine T_nil ?_
    exact ⟨(x + 1, ol.set x (pO x)), .cons rfl (.cons rfl (.cons rfl (.cons rfl (.nil _)))), ⟨by show x + 1 ≤ 2 * n; omega, by simpa using hol, fun z hz => by
      have hz : z < x + 1 := hz
      show rd (ol.set x _) z = _
      rw [rd_set]
      by_cases e : z = x
      · subst e; rw [if_pos (by omega)]
      · rw [if_neg (by omega)]; exact hall z (by omega), cs, hcs, hs⟩, by show 2 * n - (x + 1) < 2 * n - x; omega⟩
  · refine W_exit rfl ?_
    refine W_seq ?_
    refine W_reg ?_
    refine T_pi rfl rfl (pi_loadAgg Try.underlying96 rfl ty96 rfl (fun w' h => by obtain rfl := h; exact (by first | exact (hs.bk 0 rfl).cells)) (by first | rfl | (simp; done) | (rw [nums_length]; assumption) | assumption)) ?_
    refine T_goN rfl (st_storeW hs 1 rfl ty96 rfl rfl (by first | rfl | (simp; done) | assumption) (by first | rfl | (simp; done) | assumption) fun w10 hk10 hs => ?_)
    refine T_nil ?_
    refine W_ret ?_
    obtain rfl : x = 2 * n := by omega
    refine Res_r1 rfl (rv_cell Try.underlying96 rfl ty96 rfl (hs.bk 1 rfl) (by rw [nums_length, hol])) ⟨⟨ol, hol, hall, rfl⟩, hs.kp⟩
def bV (bs : List Bool) : List Value := bs.map .bool
theorem bV_length (bs : List Bool) : (bV bs).length = bs.length := by simp [bV]
def rb (bs : List Bool) (y : Int) : Bool := bs.getD y.toNat false
theorem bV_get {bs : List Bool} {y : Int} {o : Nat} (ho : o = y.toNat) (h1 : y.toNat < bs.length) : (bV bs)[o]? = some (.bool (rb bs y)) := by
  subst ho
  simp [bV, rb, List.getD_eq_getElem?_getD, h1]
theorem bV_set (bs : List Bool) (i : Nat) (b : Bool) : (bV bs).set i (.bool b) = bV (bs.set i b) := by simp [bV, List.map_set]
theorem rb_set {bs : List Bool} {i : Nat} {b : Bool} {y : Int} : rb (bs.set i b) y = if y.toNat = i ∧ i < bs.length then b else rb bs y := by
  unfold rb
  simp only [List.getD_eq_getElem?_getD, List.getElem?_set]
  by_cases h : i = y.toNat
  · subst h
    by_cases h2 : y.toNat < bs.length
    · simp [h2]
    · simp [h2]
  · rw [if_neg h, if_neg (fun e => h e.1.symm)]
/-- How many are not met. -/
def unm (bs : List Bool) : Nat := bs.countP fun b => !b
theorem unm_set_le {bs : List Bool} {i : Nat} (h : i < bs.length) : unm (bs.set i true) ≤ unm bs := by
  unfold unm
  rw [List.countP_set h]
  simp
theorem unm_set_lt {bs : List Bool} {y : Int} (h0 : 0 ≤ y) (h : y.toNat < bs.length) (hy : rb bs y = false) : unm (bs.set y.toNat true) < unm bs := by
  have e : bs[y.toNat] = false := by unfold rb at hy; simpa [List.getD_eq_getElem?_getD, h] using hy
  have hp : 0 < bs.countP fun b => !b := List.countP_pos_iff.2 ⟨bs[y.toNat], List.getElem_mem h, by rw [e]; rfl⟩
  unfold unm
  rw [List.countP_set h, e]
  simp
  omega
abbrev Mt (m : Nat) (bs : List Bool) (y : Int) : Prop := (0 ≤ y ∧ y < m) ∧ rb bs y = true
theorem Mt_add {m : Nat} {bs : List Bool} (hm : m ≤ bs.length) {y q : Int} (hy : 0 ≤ y ∧ y < m) (hq : 0 ≤ q ∧ q < m) (z : Int) : Mt m ((bs.set y.toNat true).set q.toNat true) z ↔ add2' (Mt m bs) y q z := by
  unfold add2' Mt
  rw [rb_set, rb_set, List.length_set]
  by_cases h2 : z = q
  · subst h2
    rw [if_pos ⟨rfl, by omega⟩]
    simp [hq]
  · by_cases h1 : z = y
    · subst h1
      by_cases hr : 0 ≤ z ∧ z < m
      · rw [if_pos (c := z.toNat = z.toNat ∧ z.toNat < bs.length) ⟨rfl, by omega⟩]
        simp [hr]
      · exact absurd hy hr
    · simp only [h1, h2, or_false]
      by_cases hr : 0 ≤ z ∧ z < m
      · rw [if_neg (by omega), if_neg (by omega)]
      · simp [hr]
/-- On the way from x: what was met is of the points before, or of the group of x. -/
structure Run (n : Nat) (a e g : List Int) (x : Int) (M0 : Int → Prop) (y : Int) (bs : List Bool) : Prop where
  len : bs.length = 16
  rg : 0 ≤ y ∧ y < (2 * n : Nat)
  lm : lam n a g y = lam n a g x
  way : rb bs y = false → Way (2 * n) (pP n a e) pO x y (Mt (2 * n) bs)
  clo : rb bs y = true → Clo (2 * n) (pP n a e) pO (Mt (2 * n) bs)
  old : ∀ z, M0 z → Mt (2 * n) bs z
  new : ∀ z, Mt (2 * n) bs z → M0 z ∨ lam n a g z = lam n a g x
  fst : Mt (2 * n) bs x ∨ y = x
theorem Clo.congr {m : Nat} {p o : Int → Int} {M N : Int → Prop} (h : Clo m p o M) (hn : ∀ z, N z ↔ M z) : Clo m p o N := fun y h0 h1 hy => by
  have := h y h0 h1 ((hn y).1 hy)
  exact ⟨(hn _).2 this.1, (hn _).2 this.2⟩
theorem Way.congr {m : Nat} {p o : Int → Int} {x y : Int} {M N : Int → Prop} (h : Way m p o x y M) (hn : ∀ z, N z ↔ M z) : Way m p o x y N := by
  obtain ⟨h1, h2, h3, h4, h5⟩ := h
  refine ⟨h1, fun e => h2 ((hn y).1 e), fun z a b c => (hn _).2 (h3 z a b ((hn z).1 c)), fun z a b c => ?_, ?_⟩
  · rcases h4 z a b ((hn z).1 c) with h | h
    · exact .inl ((hn _).2 h)
    · exact .inr h
  · rcases h5 with ⟨h, e⟩ | ⟨a, b, c⟩
    · exact .inl ⟨h.congr hn, e⟩
    · exact .inr ⟨(hn _).2 a, b, (hn _).2 c⟩
theorem Run.step {n : Nat} {a e g : List Int} (hn : n ≤ 8) (h : Pm n a e) (h2 : n % 2 = 0) (hg : Grp n (PP a (n / 2)) g) {x : Int} (hx : 0 ≤ x ∧ x < (2 * n : Nat)) {M0 : Int → Prop} {y : Int} {bs : List Bool} (hr : Run n a e g x M0 y bs) (hy : rb bs y = false) :
    Run n a e g x M0 (pO (pP n a e y)) ((bs.set y.toNat true).set (pP n a e y).toNat true) ∧ unm ((bs.set y.toNat true).set (pP n a e y).toNat true) < unm bs := by
  have I := plat_inv h h2
  obtain ⟨r1, r2, r3, r4, r5, r6, r7, r8⟩ := hr
  have hpy := I.pr y r2.1 r2.2
  have hopy := I.orr _ hpy.1 hpy.2
  have hM := Mt_add (m := 2 * n) (bs := bs) (by omega) r2 hpy
  obtain ⟨s1, s2⟩ := (r4 hy).step I hx
  have hlp := lam_p (g := g) h r2.1 r2.2
  have hlo := lam_o h h2 hg hpy.1 hpy.2
  refine ⟨⟨by rw [List.length_set, List.length_set, r1], hopy, by rw [hlo, hlp, r3], fun hf => ?_, fun ht => ?_, fun z hz => (hM z).2 (.inl (r6 z hz)), fun z hz => ?_, ?_⟩, ?_⟩
  · refine (s1 fun hm => ?_).congr hM
    have := ((hM _).2 hm).2
    rw [hf] at this
    cases this
  · exact (s2 ((hM _).1 ⟨hopy, ht⟩)).congr hM
  · rcases (hM z).1 hz with hz | rfl | rfl
    · exact r7 z hz
    · exact .inr r3
    · exact .inr (by rw [hlp, r3])
  · rcases r8 with r8 | r8
    · exact .inl ((hM x).2 (.inl r8))
    · exact .inl ((hM x).2 (.inr (.inl r8.symm)))
  · exact Nat.lt_of_le_of_lt (unm_set_le (by rw [List.length_set]; omega)) (unm_set_lt r2.1 (by omega) hy)
/-- What was met when the points before x have been seen. -/
structure Seen (n : Nat) (a e g : List Int) (x : Nat) (cnt : Nat) (bs : List Bool) : Prop where
  len : bs.length = 16
  clo : Clo (2 * n) (pP n a e) pO (Mt (2 * n) bs)
  met : ∀ z, Mt (2 * n) bs z ↔ (0 ≤ z ∧ z < (2 * n : Nat)) ∧ ∃ w : Nat, w < x ∧ lam n a g z = lam n a g w
  cnt_ : cnt = dcnt (lamL n a g x)
theorem Seen.start (n : Nat) (a e g : List Int) : Seen n a e g 0 0 (List.replicate 16 false) := by
  have hno : ∀ z, ¬ Mt (2 * n) (List.replicate 16 false) z := fun z hz => by
    have := hz.2
    unfold rb at this
    rw [List.getD_eq_getElem?_getD, List.getElem?_replicate] at this
    split at this <;> cases this
  exact ⟨by simp, fun y _ _ hy => absurd hy (hno y), fun z => ⟨fun h => absurd h (hno z), fun ⟨_, w, h, _⟩ => by omega⟩, rfl⟩
theorem Seen.skip {n : Nat} {a e g : List Int} {x cnt : Nat} {bs : List Bool} (h : Seen n a e g x cnt bs) (hx : x < 2 * n) (hm : rb bs x = true) : Seen n a e g (x + 1) cnt bs := by
  obtain ⟨_, w0, hw0, hl0⟩ := (h.met x).1 ⟨by omega, hm⟩
  refine ⟨h.len, h.clo, fun z => (h.met z).trans ⟨fun ⟨a1, w, hw, hl⟩ => ⟨a1, w, by omega, hl⟩, fun ⟨a1, w, hw, hl⟩ => ⟨a1, ?_⟩⟩, ?_⟩
  · by_cases e1 : w = x
    · subst e1; exact ⟨w0, hw0, hl.trans hl0⟩
    · exact ⟨w, by omega, hl⟩
  · rw [lamL_succ, dcnt_snoc, if_pos, Nat.add_zero]
    · exact h.cnt_
    · unfold lamL
      rw [List.mem_map]
      exact ⟨w0, List.mem_range.2 hw0, hl0.symm⟩
theorem Seen.begin_ {n : Nat} {a e g : List Int} {x cnt : Nat} {bs : List Bool} (h : Seen n a e g x cnt bs) (hx : x < 2 * n) (hm : rb bs x = false) : Run n a e g x (Mt (2 * n) bs) x bs := by
  have hnm : ¬ Mt (2 * n) bs x := fun e => by have := e.2; rw [hm] at this; cases this
  refine ⟨h.len, by omega, rfl, fun _ => ⟨by omega, hnm, fun z h0 h1 hz => (h.clo z h0 h1 hz).1, fun z h0 h1 hz => .inl (h.clo z h0 h1 hz).2, .inl ⟨h.clo, rfl⟩⟩, fun ht => ?_, fun z hz => hz, fun z hz => .inl hz, .inr rfl⟩
  rw [hm] at ht
  cases ht
theorem Seen.done {n : Nat} {a e g : List Int} (hp : Pm n a e) (h2 : n % 2 = 0) (hg : Grp n (PP a (n / 2)) g) {x cnt : Nat} {bs bs' : List Bool} {y : Int} (h : Seen n a e g x cnt bs) (hx : x < 2 * n) (hm : rb bs x = false) (hr : Run n a e g x (Mt (2 * n) bs) y bs') (hy : rb bs' y = true) : Seen n a e g (x + 1) (cnt + 1) bs' := by
  have hc := hr.clo hy
  have hxm : Mt (2 * n) bs' x := by
    rcases hr.fst with h | h
    · exact h
    · exact ⟨by omega, by rw [← h]; exact hy⟩
  refine ⟨hr.len, hc, fun z => ⟨fun hz => ?_, fun ⟨a1, w, hw, hl⟩ => ?_⟩, ?_⟩
  · refine ⟨hz.1, ?_⟩
    rcases hr.new z hz with h' | h'
    · obtain ⟨_, w, hw, hl⟩ := (h.met z).1 h'
      exact ⟨w, by omega, hl⟩
    · exact ⟨x, by omega, h'⟩
  · by_cases e1 : w = x
    · subst e1
      exact clo_class hp h2 hg hc a1 (by omega) hl hxm
    · exact hr.old z ((h.met z).2 ⟨a1, w, by omega, hl⟩)
  · rw [lamL_succ, dcnt_snoc, if_neg, ← h.cnt_]
    intro hmem
    unfold lamL at hmem
    rw [List.mem_map] at hmem
    obtain ⟨w, hw, hl⟩ := hmem
    have := ((h.met x).2 ⟨by omega, w, List.mem_range.1 hw, hl.symm⟩).2
    rw [hm] at this
    cases this
end Go.Proofs.Ytdpbfdjpeofbmaa.L
