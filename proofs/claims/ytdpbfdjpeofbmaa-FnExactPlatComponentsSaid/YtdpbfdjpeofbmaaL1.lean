/- The light logic, part 1: functions, regions, operations that only compute. -/
import Derived.Test.YtdpbfdjpeofbmaaL0
import Derived.IntWalk
namespace Go.Proofs.Ytdpbfdjpeofbmaa.L

/-! ### A call that returns -/
abbrev CallsR (P : Program) (f : FuncId) (args : Array Value) (w : World) (R : Value → World → Prop) : Prop :=
  Calls P f args w fun e w' => ∃ v, e = .returned v ∧ R v w'
theorem CallsR.mono {P : Program} {f : FuncId} {args : Array Value} {w : World} {R R' : Value → World → Prop} (h : CallsR P f args w R) (hr : ∀ v w', R v w' → R' v w') : CallsR P f args w R' :=
  Calls.mono h fun _ _ ⟨v, e, r⟩ => ⟨v, e, hr v _ r⟩
def initE : Nat → List Value → Env
  | _, [] => []
  | k, v :: r => (k, v) :: initE (k + 1) r
theorem look_initE : ∀ (vs : List Value) (k t : Nat) (v : Value), look (initE k vs) t = some v → k ≤ t ∧ vs[t - k]? = some v
  | [], k, t, v, h => by simp [initE, look] at h
  | u :: r, k, t, v, h => by
    simp only [initE, look] at h
    split at h
    · rename_i hb
      have := Nat.eq_of_beq_eq_true hb
      subst this
      simp at h
      simp [h]
    · rename_i hb
      obtain ⟨h1, h2⟩ := look_initE r (k + 1) t v h
      refine ⟨by omega, ?_⟩
      have : t - k = (t - (k + 1)) + 1 := by omega
      rw [this]
      simpa using h2
/-- What a function hands back at its end. -/
structure Res (P : Program) (fn : Func) (n : Nat) (R : Value → World → Prop) (l : Env) (w : World) : Prop where
  out : ∀ a, Ag n a l → ∃ v, (results fn a.tmps).run P w = .ok v w ∧ R v w
theorem fn_calls {P : Program} {f : FuncId} {fn : Func} {c : Code} {args : Array Value} {n : Nat} {w : World} {R : Value → World → Prop} (hf : P.funcs[f]? = some fn) (hb : fn.body = some c) (hn : fn.ntmps = n)
    (ha : Nat.ble args.size n = true) (h : W P n c (Res P fn n R) [] (Res P fn n R) (initE 0 args.toList) w) : CallsR P f args w R := by
  have ha' : args.size ≤ n := Nat.le_of_ble_eq_true ha
  refine calls_of_wp hf hb (Go.wp_mono (h.out _ ⟨rfl, by simp [hn]; omega, fun t v ht => ?_⟩) fun e a w q => ?_)
  · obtain ⟨_, h2⟩ := look_initE args.toList 0 t v ht
    simp only [Nat.sub_zero, Array.getElem?_toList] at h2
    have hlt : t < args.size := (Array.getElem?_eq_some_iff.1 h2).1
    rw [Array.getElem?_append_left hlt]
    exact h2
  · cases e with
    | normal => obtain ⟨l, ha, hk⟩ := q; obtain ⟨v, hr, hR⟩ := hk.out a ha; exact ⟨ha.dfs, v, hr, v, rfl, hR⟩
    | ret => obtain ⟨l, ha, hk⟩ := q; obtain ⟨v, hr, hR⟩ := hk.out a ha; exact ⟨ha.dfs, v, hr, v, rfl, hR⟩
    | exit id => obtain ⟨K', l, hq, _⟩ := q; simp [lookQ] at hq
    | goto l => exact q
    | panic c => exact q.elim
    | outgrown => exact q.elim
theorem Res_0 {P : Program} {fn : Func} {n : Nat} {R : Value → World → Prop} {l : Env} {w : World} (h : fn.results = #[]) (hR : R (.tuple #[]) w) : Res P fn n R l w :=
  ⟨fun a _ => ⟨_, results_none h _ _ _, hR⟩⟩
theorem Ag.getD {n : Nat} {a : Act} {l : Env} (h : Ag n a l) {t : Nat} {v : Value} (hx : look l t = some v) : a.tmps.getD t undef = v := by
  simp [Array.getD_eq_getD_getElem?, h.at_ t v hx]
theorem Res_1 {P : Program} {fn : Func} {n : Nat} {R : Value → World → Prop} {l : Env} {w : World} {t : Nat} {v : Value} (h : fn.results = #[.tmp t]) (hv : look l t = some v) (hR : R v w) : Res P fn n R l w :=
  ⟨fun a ha => ⟨v, by rw [results_tmp h, ha.getD hv], hR⟩⟩
theorem Res_2 {P : Program} {fn : Func} {n : Nat} {R : Value → World → Prop} {l : Env} {w : World} {t u : Nat} {v x : Value} (h : fn.results = #[.tmp t, .tmp u]) (hv : look l t = some v) (hx : look l u = some x)
    (hR : R (.tuple #[v, x]) w) : Res P fn n R l w :=
  ⟨fun a ha => ⟨.tuple #[v, x], by rw [results_tmp2 h, ha.getD hv, ha.getD hx], hR⟩⟩
theorem Res_3 {P : Program} {fn : Func} {n : Nat} {R : Value → World → Prop} {l : Env} {w : World} {t u s : Nat} {v x y : Value} (h : fn.results = #[.tmp t, .tmp u, .tmp s]) (hv : look l t = some v) (hx : look l u = some x) (hy : look l s = some y)
    (hR : R (.tuple #[v, x, y]) w) : Res P fn n R l w :=
  ⟨fun a ha => ⟨.tuple #[v, x, y], by simp [results, h, ← ha.getD hv, ← ha.getD hx, ← ha.getD hy], hR⟩⟩

/-- One result out of what lies in slots or in memory. -/
inductive RV (P : Program) (l : Env) (w : World) : ResultVar → Value → Prop
  | tmp {t : Nat} {v : Value} (h : look l t = some v) : RV P l w (.tmp t) v
  | cell {t : Nat} {ty : TypeId} {A : Addr} {v : Value} (h : look l t = some (.pointer (some A))) (hr : (loadVar ty A).run P w = .ok v w) : RV P l w (.cell t ty) v
theorem Res_r1 {P : Program} {fn : Func} {n : Nat} {R : Value → World → Prop} {l : Env} {w : World} {r : ResultVar} {v : Value} (h : fn.results = #[r]) (hv : RV P l w r v) (hR : R v w) : Res P fn n R l w :=
  ⟨fun a ha => ⟨v, by
    cases hv with
    | tmp h1 => simp [results, h, ← ha.getD h1]
    | cell h1 r1 =>
      have e1 := ha.getD h1
      simp only [Array.getD_eq_getD_getElem?] at e1
      simp [results, h, e1, asAddr, r1], hR⟩⟩
theorem Res_r2 {P : Program} {fn : Func} {n : Nat} {R : Value → World → Prop} {l : Env} {w : World} {r s : ResultVar} {v x : Value} (h : fn.results = #[r, s]) (hv : RV P l w r v) (hx : RV P l w s x) (hR : R (.tuple #[v, x]) w) : Res P fn n R l w :=
  ⟨fun a ha => ⟨.tuple #[v, x], by
    cases hv with
    | tmp h1 => cases hx with
      | tmp h2 => simp [results, h, ← ha.getD h1, ← ha.getD h2]
      | cell h2 r2 => have e2 := ha.getD h2; simp only [Array.getD_eq_getD_getElem?] at e2; simp [results, h, ← ha.getD h1, e2, asAddr, r2]
    | cell h1 r1 =>
      have e1 := ha.getD h1
      simp only [Array.getD_eq_getD_getElem?] at e1
      cases hx with
      | tmp h2 => simp [results, h, e1, asAddr, r1, ← ha.getD h2]
      | cell h2 r2 => have e2 := ha.getD h2; simp only [Array.getD_eq_getD_getElem?] at e2; simp [results, h, e1, asAddr, r1, e2, r2], hR⟩⟩

/-! ### Operations -/
/-- What a step of an operation may come to. -/
def SR (P : Program) (J : Value → World → Prop) : Result Next → Prop
  | .ok (.value v) w' => J v w'
  | .ok .skip w' => J undef w'
  | .ok (.enter f args) w' => CallsR P f args w' J
  | _ => False
def St1 (P : Program) (l : Env) (o : Oper) (w : World) (J : Value → World → Prop) : Prop :=
  ∀ ρ : Operand → Value, (∀ x u, ev l x = some u → ρ x = u) → SR P J ((execOp ρ o).run P w)
/-- It computes a value out of its operands, whatever the world. -/
def Pu (P : Program) (l : Env) (o : Oper) (v : Value) : Prop :=
  ∀ ρ : Operand → Value, (∀ x u, ev l x = some u → ρ x = u) → ∀ w, (execOp ρ o).run P w = .ok (.value v) w
/-- It computes a value and leaves the world, in each world of a kind. -/
def PuI (P : Program) (I : World → Prop) (l : Env) (o : Oper) (v : Value) : Prop :=
  ∀ ρ : Operand → Value, (∀ x u, ev l x = some u → ρ x = u) → ∀ w, I w → (execOp ρ o).run P w = .ok (.value v) w
theorem Pu.stable {P : Program} {I : World → Prop} {l : Env} {o : Oper} {v : Value} (h : Pu P l o v) : PuI P I l o v := fun ρ hρ w _ => h ρ hρ w
theorem Pu.st {P : Program} {l : Env} {o : Oper} {v : Value} {w : World} {J : Value → World → Prop} (h : Pu P l o v) (hj : J v w) : St1 P l o w J := fun ρ hρ => by rw [h ρ hρ w]; exact hj

/-- Is an operation wanted? -/
def gd (ops : Array Oper) (l : Env) : Option (Nat × Bool) → Option Bool
  | none => some true
  | some (j, want) => match (ops[j]?).bind (·.dst) with
    | none => none
    | some g => match look l g with
      | some (.bool b) => some (b == want)
      | _ => none
theorem gd_wanted {n : Nat} {ops : Array Oper} {l : Env} {o : Oper} {b : Bool} (h : gd ops l o.guard = some b) {a : Act} (ha : Ag n a l) : Region.wanted o (yielded ops a.tmps) = b := by
  unfold Region.wanted
  cases hg : o.guard with
  | none => rw [hg] at h; simpa [gd] using h
  | some gw =>
    obtain ⟨j, want⟩ := gw
    rw [hg] at h
    simp only [gd] at h
    cases hd : (ops[j]?).bind (·.dst) with
    | none => rw [hd] at h; simp at h
    | some g =>
      rw [hd] at h
      simp only at h
      cases hl : look l g with
      | none => rw [hl] at h; simp at h
      | some v =>
        rw [hl] at h
        cases v <;> simp at h
        rename_i x
        have hy : yielded ops a.tmps j = some x := by
          unfold yielded
          rw [hd]
          simp [ha.at_ g _ hl]
        simp only [hy]
        rw [← h]
        cases x <;> cases want <;> rfl

/-- A region in the order of its text. -/
structure T (P : Program) (n : Nat) (ops : Array Oper) (K : KK) (os : List Oper) (l : Env) (w : World) : Prop where
  out : ∀ (Q : Exit → Act → World → Prop), (∀ a l w, Ag n a l → K l w → Q .normal a w) → ∀ a, Ag n a l → wpList P ops Q os a w
section
variable {P : Program} {n : Nat} {ops : Array Oper} {K : KK} {Qs : List (Nat × KK)} {R : KK} {l : Env} {w : World} {o : Oper} {rest : List Oper}
theorem W_reg {id : Nat} {os : List Oper} (h : T P n os.toArray K os l w) : W P n (.region id os.toArray false) K Qs R l w :=
  ⟨fun a ha => wp_region_lit (h.out _ (fun _ l _ ha hk => ⟨l, ha, hk⟩) a ha)⟩
theorem T_nil (h : K l w) : T P n ops K [] l w := ⟨fun _ hQ a ha => hQ a l w ha h⟩
theorem T_st {J : Value → World → Prop} (hg : gd ops l o.guard = some true) (hd : dok n o.dst = true) (hs : St1 P l o w J) (h : ∀ v w', J v w' → T P n ops K rest (putE l o.dst v) w') :
    T P n ops K (o :: rest) l w := by
  refine ⟨fun Q hQ a ha => ?_⟩
  unfold wpList
  rw [gd_wanted hg ha, if_pos rfl]
  refine .inl ?_
  have hr := hs a.eval (fun x u hx => ha.ev hx)
  unfold Oper.wp Oper.upon
  unfold SR at hr
  split at hr
  · rename_i v w' he
    rw [he]
    exact (h v w' hr).out Q hQ _ (ha.put hd v)
  · rename_i w' he
    rw [he]
    exact (h undef w' hr).out Q hQ _ (ha.put hd undef)
  · rename_i f args w' he
    rw [he]
    refine Calls.mono hr fun e w'' ⟨v, ee, hv⟩ => ?_
    subst ee
    exact (h v w'' hv).out Q hQ _ (ha.put hd v)
  · exact hr.elim
theorem T_pu0 {v : Value} (hg : gd ops l o.guard = some true) (hd : dok n o.dst = true) (hp : Pu P l o v) (h : T P n ops K rest (putE l o.dst v) w) : T P n ops K (o :: rest) l w :=
  T_st (J := fun v' w' => v' = v ∧ w' = w) hg hd (hp.st ⟨rfl, rfl⟩) fun v' w' ⟨e1, e2⟩ => by subst e1; subst e2; exact h
theorem T_no0 (hg : gd ops l o.guard = some false) (hd : dok n o.dst = true) (h : T P n ops K rest (putE l o.dst undef) w) : T P n ops K (o :: rest) l w := by
  refine ⟨fun Q hQ a ha => ?_⟩
  unfold wpList
  rw [gd_wanted hg ha, if_neg (by simp)]
  exact h.out Q hQ _ (ha.put hd undef)
section
variable {d : Tmp} {op : Op} {ty : TypeId} {ps : String} {af : Array Edge} {g : Option (Nat × Bool)} {v : Value}
theorem T_pu (hg : gd ops l g = some true) (hd : Nat.blt d n = true) (hp : Pu P l ⟨some d, op, ty, ps, af, g⟩ v) (h : T P n ops K rest ((d, v) :: l) w) : T P n ops K (⟨some d, op, ty, ps, af, g⟩ :: rest) l w :=
  T_pu0 hg hd hp h
theorem T_pi (hg : gd ops l g = some true) (hd : Nat.blt d n = true) (hp : PuI P (fun w' => w' = w) l ⟨some d, op, ty, ps, af, g⟩ v) (h : T P n ops K rest ((d, v) :: l) w) : T P n ops K (⟨some d, op, ty, ps, af, g⟩ :: rest) l w :=
  T_st (o := ⟨some d, op, ty, ps, af, g⟩) (J := fun v' w' => v' = v ∧ w' = w) hg hd (fun ρ hρ => by rw [hp ρ hρ w rfl]; exact ⟨rfl, rfl⟩) fun v' w' ⟨e1, e2⟩ => by subst e1; subst e2; exact h
/-- A step whose law is given: with a slot for its value; without. -/
theorem T_go (hg : gd ops l g = some true) (hd : Nat.blt d n = true) (hs : St1 P l ⟨some d, op, ty, ps, af, g⟩ w fun v w' => T P n ops K rest ((d, v) :: l) w') : T P n ops K (⟨some d, op, ty, ps, af, g⟩ :: rest) l w :=
  T_st (o := ⟨some d, op, ty, ps, af, g⟩) hg hd hs fun _ _ h => h
theorem T_goN (hg : gd ops l g = some true) (hs : St1 P l ⟨none, op, ty, ps, af, g⟩ w fun _ w' => T P n ops K rest l w') : T P n ops K (⟨none, op, ty, ps, af, g⟩ :: rest) l w :=
  T_st (o := ⟨none, op, ty, ps, af, g⟩) hg rfl hs fun _ _ h => h
theorem T_no (hg : gd ops l g = some false) (hd : Nat.blt d n = true) (h : T P n ops K rest ((d, undef) :: l) w) : T P n ops K (⟨some d, op, ty, ps, af, g⟩ :: rest) l w := T_no0 (o := ⟨some d, op, ty, ps, af, g⟩) hg hd h
theorem T_noN (hg : gd ops l g = some false) (h : T P n ops K rest l w) : T P n ops K (⟨none, op, ty, ps, af, g⟩ :: rest) l w := T_no0 (o := ⟨none, op, ty, ps, af, g⟩) hg rfl h
/-- A test: both ways. -/
theorem T_if {p : Prop} [Decidable p] (hg : gd ops l g = some true) (hd : Nat.blt d n = true) (hp : Pu P l ⟨some d, op, ty, ps, af, g⟩ (.bool (decide p))) (h1 : p → T P n ops K rest ((d, .bool true) :: l) w)
    (h2 : ¬ p → T P n ops K rest ((d, .bool false) :: l) w) : T P n ops K (⟨some d, op, ty, ps, af, g⟩ :: rest) l w :=
  T_pu hg hd hp (by by_cases hp : p <;> simp only [hp, decide_true, decide_false] <;> first | exact h1 hp | exact h2 hp)
theorem T_ifb {b : Bool} (hg : gd ops l g = some true) (hd : Nat.blt d n = true) (hp : Pu P l ⟨some d, op, ty, ps, af, g⟩ (.bool b)) (h1 : b = true → T P n ops K rest ((d, .bool true) :: l) w)
    (h2 : b = false → T P n ops K rest ((d, .bool false) :: l) w) : T P n ops K (⟨some d, op, ty, ps, af, g⟩ :: rest) l w :=
  T_pu hg hd hp (by cases b <;> first | exact h1 rfl | exact h2 rfl)
end
end

/-! ### Operations that only compute -/
section
variable {P : Program} {l : Env} {d : Option Tmp} {ty : TypeId} {ps : String} {af : Array Edge} {g : Option (Nat × Bool)} {x y c : Operand} {v u : Value}
theorem pu_move (hx : ev l x = some v) : Pu P l ⟨d, .move x, ty, ps, af, g⟩ v := fun ρ h w => by simp [execOp, h _ _ hx]
theorem pu_assign (hx : ev l x = some v) : Pu P l ⟨d, .assign x, ty, ps, af, g⟩ v := fun ρ h w => by simp [execOp, h _ _ hx]
theorem pu_pick_t (hc : ev l c = some (.bool true)) (hx : ev l x = some v) : Pu P l ⟨d, .pick c x y, ty, ps, af, g⟩ v := fun ρ h w => by simp [execOp, h _ _ hx, h _ _ hc, asBool]
theorem pu_pick_f (hc : ev l c = some (.bool false)) (hx : ev l y = some v) : Pu P l ⟨d, .pick c x y, ty, ps, af, g⟩ v := fun ρ h w => by simp [execOp, h _ _ hx, h _ _ hc, asBool]
theorem pu_extract {vs : Array Value} {i : Nat} (hx : ev l x = some (.tuple vs)) (hi : vs[i]? = some v) : Pu P l ⟨d, .extract x i, ty, ps, af, g⟩ v := fun ρ h w => by simp [execOp, h _ _ hx, Instr.extract, hi]
theorem pu_makeFunc {fn : Fn} {fs cs : List Operand} {vf vc : List Value} (hf : evs l fs = some vf) (hc : evs l cs = some vc) : Pu P l ⟨d, .makeFunc fn fs.toArray cs.toArray, ty, ps, af, g⟩ (.func fn vf.toArray vc.toArray) := fun ρ h w => by
  have key : ∀ (xs : List Operand) (vs : List Value), evs l xs = some vs → xs.map ρ = vs := by
    intro xs
    induction xs with
    | nil => intro vs hv; simp [evs] at hv; subst hv; rfl
    | cons x r ih =>
      intro vs hv
      simp only [evs] at hv
      cases h1 : ev l x with
      | none => rw [h1] at hv; simp at hv
      | some v =>
        cases h2 : evs l r with
        | none => rw [h1, h2] at hv; simp at hv
        | some us => rw [h1, h2] at hv; simp only [Option.some.injEq] at hv; subst hv; simp [h _ _ h1, ih _ h2]
  simp [execOp, Instr.makeFunc, key _ _ hf, key _ _ hc]

section ints
variable {k : IntKind} {a b : Int} {t t' : TypeId}
end ints
end
end Go.Proofs.Ytdpbfdjpeofbmaa.L
