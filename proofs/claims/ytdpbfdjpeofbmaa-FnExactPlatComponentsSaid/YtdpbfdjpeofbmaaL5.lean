/- The light logic, part 5: regions that draw their order: what computes, and what reads cells that nothing in the region turns, may be taken first; the rest in each order that the edges allow. -/
import Derived.Test.YtdpbfdjpeofbmaaL4
namespace Go.Proofs.Ytdpbfdjpeofbmaa.L
set_option linter.unusedVariables false
section
variable {P : Program} {ops : Array Oper} {Q : Exit → Act → World → Prop} {S : Nat} {I : Bool → World → Prop}
def wpI (P : Program) (ops : Array Oper) (S : Nat) (I : Bool → World → Prop) (Q : Exit → Act → World → Prop) : Nat → Array Bool → Act → World → Prop
  | 0, listed, a, w => I (listed.getD S false) w ∧ Region.ready .any ops listed = [] ∧ Q .normal a w
  | fuel + 1, listed, a, w => I (listed.getD S false) w ∧ (Region.ready .any ops listed = [] → Q .normal a w) ∧
    ∀ i ∈ Region.ready .any ops listed, wpOp P ops Q i (wpI P ops S I Q fuel (listed.setIfInBounds i true)) a w
theorem wpI_any : ∀ (fuel : Nat) (listed : Array Bool) (a : Act) (w : World), wpI P ops S I Q fuel listed a w → wpAny P .any ops Q fuel listed a w
  | 0, _, _, _, h => h.2
  | fuel + 1, _, _, _, h => ⟨h.2.1, fun i hi => wpOp_mono (wpI_any fuel _) (h.2.2 i hi)⟩
theorem wpI_I : ∀ {fuel : Nat} {listed : Array Bool} {a : Act} {w : World}, wpI P ops S I Q fuel listed a w → I (listed.getD S false) w
  | 0, _, _, _, h => h.1
  | _ + 1, _, _, _, h => h.1
def YI (P : Program) (ops : Array Oper) (J : World → Prop) (o : Oper) (v : Value) (a : Act) : Prop :=
  (Region.wanted o (yielded ops a.tmps) = true ∧ ∀ w, J w → (execOp a.eval o).run P w = .ok (.value v) w) ∨ (Region.wanted o (yielded ops a.tmps) = false ∧ v = undef)
theorem YI.wpOp {J : World → Prop} {i : Nat} {o : Oper} {v : Value} {a : Act} (hi : ops[i]? = some o) (hy : YI P ops J o v a) {K : Act → World → Prop} {w : World} (hI : J w) (h : K (a.put o.dst v) w) : wpOp P ops Q i K a w := by
  unfold Go.wpOp
  simp only [hi]
  rcases hy with ⟨hw, hv⟩ | ⟨hw, rfl⟩
  · simp only [hw, if_true, Oper.wp, hv w hI, Oper.upon]; exact .inl h
  · simp only [hw, Bool.false_eq_true, if_false]; exact h
theorem YI.of_same {J : World → Prop} {o : Oper} {v : Value} {a a' : Act} (hy : YI P ops J o v a) (he : execOp a'.eval o = execOp a.eval o) (hw : Region.wanted o (yielded ops a'.tmps) = Region.wanted o (yielded ops a.tmps)) : YI P ops J o v a' := by
  unfold YI at *
  rw [he, hw]
  exact hy
theorem wpOp_putI {J : World → Prop} {j : Nat} {oi oj : Oper} {v : Value} (hj : ops[j]? = some oj) (hap : oi.apart ops oj = true) (hsi : ∀ cs b, oi.op ≠ .select cs b) (hsj : ∀ cs b, oj.op ≠ .select cs b)
    (hQ : ∀ c a w, Q (.panic c) (a.put oi.dst v) w → Q (.panic c) a w) {K : Act → World → Prop} {a : Act} {w : World} (hy : YI P ops J oi v a) (h : wpOp P ops Q j K (a.put oi.dst v) w) :
    wpOp P ops Q j (fun a' w' => YI P ops J oi v a' ∧ K (a'.put oi.dst v) w') a w := by
  obtain ⟨h1, h2, h3⟩ := Oper.apart_spec hap
  have keep : ∀ (a : Act), YI P ops J oi v a → ∀ u, YI P ops J oi v (a.put oj.dst u) := fun a hy u =>
    hy.of_same (execOp_put oi hsi a oj.dst u h3) (wanted_put oi a oj.dst u h3)
  have keepD : ∀ d, YI P ops J oi v { a with defers := d :: a.defers } := fun d => hy.of_same rfl rfl
  unfold wpOp at *
  simp only [hj] at *
  rw [wanted_put oj a oi.dst v h1] at h
  split
  · rename_i hw
    simp only [hw, if_true] at h
    rcases h with h | ⟨hasks, hlets⟩
    case inr => exact .inr ⟨by unfold Oper.asks at *; rw [execOp_put oj hsj a oi.dst v h1] at hasks; exact hasks, hlets⟩
    refine .inl ?_
    unfold Oper.wp at *
    rw [execOp_put oj hsj a oi.dst v h1] at h
    generalize (execOp a.eval oj).run P w = r at *
    cases r with
    | ok n w' =>
      cases n <;> simp only [Oper.upon] at h ⊢
      case value u => exact ⟨keep a hy u, by rw [← Act.put_comm a v u h2]; exact h⟩
      case skip => exact ⟨keep a hy _, by rw [← Act.put_comm a v undef h2]; exact h⟩
      case defer d =>
        refine ⟨keep _ (keepD d) _, ?_⟩
        rw [← Act.put_comm _ v undef h2, ← Act.put_defers]
        exact h
      case enter f args =>
        refine Calls.mono h fun e w'' he => ?_
        cases e with
        | returned u => exact ⟨keep a hy u, by rw [← Act.put_comm a v u h2]; exact he⟩
        | panicked c => exact hQ _ _ _ he
        | outgrown => exact he
      case row row args => exact Rows.mono h fun u w'' he => ⟨keep a hy u, by rw [← Act.put_comm a v u h2]; exact he⟩
    | halt x w' =>
      cases x <;> simp only [Oper.upon] at h ⊢
      case panic u => exact hQ _ _ _ h
  · rename_i hw
    simp only [hw] at h
    exact ⟨keep a hy _, by rw [← Act.put_comm a v undef h2]; exact h⟩
theorem wpI_first {J : World → Prop} {i : Nat} {oi : Oper} {v : Value} (hi : ops[i]? = some oi) (hsel : ∀ (j : Nat) (o : Oper) cs b, ops[j]? = some o → o.op ≠ .select cs b)
    (hQ : ∀ c a w, Q (.panic c) (a.put oi.dst v) w → Q (.panic c) a w) (hSi : S ≠ i)
    (hJ : (∀ b w, I b w → J w) ∨ ((∀ w, I false w → J w) ∧ ∃ oS, ops[S]? = some oS ∧ ∃ e ∈ oS.after, Region.binds .any e = true ∧ e.on = i)) :
    ∀ (fuel : Nat) (listed : Array Bool) (a : Act) (w : World), ((∀ b w, I b w → J w) ∨ listed.getD S false = false) →
      (∀ j oj, ops[j]? = some oj → j ≠ i → listed.getD j true = false → (∀ e ∈ oj.after, Region.binds .any e = true → e.on ≠ i) → oi.apart ops oj = true) →
      i ∈ Region.ready .any ops listed → YI P ops J oi v a →
      wpI P ops S I Q fuel (listed.setIfInBounds i true) (a.put oi.dst v) w → wpI P ops S I Q (fuel + 1) listed a w := by
  have hgo : ∀ (listed : Array Bool) (w : World), I ((listed.setIfInBounds i true).getD S false) w → I (listed.getD S false) w := fun listed w h => by
    rwa [getD_set_ne false (Ne.symm hSi)] at h
  have hJw : ∀ (listed : Array Bool) (w : World), ((∀ b w, I b w → J w) ∨ listed.getD S false = false) → I (listed.getD S false) w → J w := fun listed w hl h => by
    rcases hJ with hJ | ⟨hJ, _⟩
    · exact hJ _ _ h
    · rcases hl with hl | hl
      · exact hl _ _ h
      · rw [hl] at h; exact hJ _ h
  intro fuel
  induction fuel with
  | zero =>
    intro listed a w hl _ hr hy H
    have hIw := hgo _ _ (wpI_I H)
    refine ⟨hIw, fun h => (by rw [h] at hr; cases hr), fun j hj => ?_⟩
    by_cases hji : j = i
    · subst hji; exact hy.wpOp hi (hJw _ _ hl hIw) H
    · have := ready_mono hj hji
      rw [H.2.1] at this
      cases this
  | succ fuel ih =>
    intro listed a w hl hfree hr hy H
    have hIw := hgo _ _ (wpI_I H)
    refine ⟨hIw, fun h => (by rw [h] at hr; cases hr), fun j hj => ?_⟩
    by_cases hji : j = i
    · subst hji; exact hy.wpOp hi (hJw _ _ hl hIw) H
    · have h1 := H.2.2 j (ready_mono hj hji)
      obtain ⟨hjun, oj, hoj, hall⟩ := mem_ready.1 hj
      have hnot : ∀ e ∈ oj.after, Region.binds .any e = true → e.on ≠ i := fun e he hb heq => by
        have h1 := hall e he hb
        have h0 := (mem_ready.1 hr).1
        rw [heq] at h1
        rcases Nat.lt_or_ge i listed.size with h' | h'
        · simp [h'] at h0 h1; rw [h0] at h1; cases h1
        · simp [Array.getElem?_eq_none h'] at h1
      have h2 := wpOp_putI hoj (hfree j oj hoj hji hjun hnot) (fun cs b => hsel i oi cs b hi) (fun cs b => hsel j oj cs b hoj) hQ hy h1
      have hfree' : ∀ k ok, ops[k]? = some ok → k ≠ i → (listed.setIfInBounds j true).getD k true = false →
          (∀ e ∈ ok.after, Region.binds .any e = true → e.on ≠ i) → oi.apart ops ok = true := fun k ok hk hki hun hno => by
        refine hfree k ok hk hki ?_ hno
        by_cases hjk : j = k
        · subst hjk; exact hjun
        · rw [getD_set_ne true hjk] at hun; exact hun
      have hl' : (∀ b w, I b w → J w) ∨ (listed.setIfInBounds j true).getD S false = false := by
        rcases hl with hl | hl
        · exact .inl hl
        · rcases hJ with hJ | ⟨_, oS, hS, e, he, hb, hon⟩
          · exact .inl hJ
          · by_cases hjS : j = S
            · subst hjS
              rw [hoj] at hS
              cases hS
              exact absurd hon (hnot e he hb)
            · right
              rw [getD_set_ne false hjS]
              exact hl
      refine wpOp_mono (fun a' w' h3 => ih (listed.setIfInBounds j true) a' w' hl' hfree' (ready_mono hr (Ne.symm hji)) h3.1 ?_) h2
      rw [Array.setIfInBounds_comm _ _ hji]
      exact h3.2
end

def QQ (n : Nat) (K : KK) : Exit → Act → World → Prop := fun e a w => e = .normal ∧ ∃ l, Ag n a l ∧ K l w
structure D (P : Program) (n : Nat) (ops : Array Oper) (S : Nat) (I : Bool → World → Prop) (K : KK) (fuel : Nat) (listed : Array Bool) (l : Env) (w : World) : Prop where
  out : ∀ a, Ag n a l → wpI P ops S I (QQ n K) fuel listed a w
section
variable {P : Program} {n : Nat} {ops : Array Oper} {S : Nat} {I : Bool → World → Prop} {K : KK} {Qs : List (Nat × KK)} {R : KK} {fuel : Nat} {listed : Array Bool} {l : Env} {w : World} {o : Oper} {i : Nat}
/-- The kinds of invariants: the world stays; it stays till S; nothing that was there turns; only blocks of F turn. -/
abbrev I0 (w0 : World) (_ : Bool) (w : World) : Prop := w = w0
abbrev IS (w0 : World) (b : Bool) (w : World) : Prop := b = false → w = w0
abbrev IK (w0 : World) (_ : Bool) (w : World) : Prop := Kp no w0 w
abbrev IF (F : Nat → Prop) (w0 : World) (_ : Bool) (w : World) : Prop := Kp F w0 w
theorem W_draw {id : Nat} {os : List Oper} (hm : P.follows .mixedOrders = true) (S : Nat) (I : World → Bool → World → Prop) (h : ∀ w', Kp no w w' → D P n os.toArray S (I w') K os.length (Array.replicate os.length false) l w') : W P n (.region id os.toArray true) K Qs R l w := by
  replace h := h { w with drawn := w.drawn + 1 } (Kp.drew w)
  refine ⟨fun a ha => Go.wp_mono (Q := QQ n K) (wp_region_any hm ?_) fun (e : Exit) a w q => ?_⟩
  · have := wpI_any _ _ _ _ (h.out a ha)
    simpa using this
  · obtain ⟨rfl, l, ha, hk⟩ := q
    exact ⟨l, ha, hk⟩
theorem D_pu0 {v : Value} (i : Nat) (hs : Region.noSelect ops = true) (hi : ops[i]? = some o) (hr : (Region.ready .any ops listed).contains i = true) (hf : Region.free .any ops listed i = true) (hg : gd ops l o.guard = some true) (hd : dok n o.dst = true)
    (hSi : Nat.beq S i = false) (hp : PuI P (fun w => ∃ b, I b w) l o v) (h : D P n ops S I K fuel (listed.setIfInBounds i true) (putE l o.dst v) w) : D P n ops S I K (fuel + 1) listed l w :=
  ⟨fun a ha => wpI_first hi (Region.noSelect_spec hs) (fun c a w q => by cases q.1) (Nat.ne_of_beq_eq_false hSi) (.inl fun b w h => ⟨b, h⟩) fuel listed a w (.inl fun b w h => ⟨b, h⟩) (Region.free_spec hi hf) (by simpa using hr)
    (.inl ⟨gd_wanted hg ha, fun w hw => hp a.eval (fun x u hx => ha.ev hx) w hw⟩) (h.out _ (ha.put hd v))⟩
/-- What reads cells, ahead of the first operation S that may turn them. -/
def after1 (ops : Array Oper) (S i : Nat) : Bool := match ops[S]? with
  | some o => o.after.any fun e => Region.binds .any e && Nat.beq e.on i
  | none => false
theorem D_rd0 {v : Value} (i : Nat) (hs : Region.noSelect ops = true) (hi : ops[i]? = some o) (hr : (Region.ready .any ops listed).contains i = true) (hf : Region.free .any ops listed i = true) (hg : gd ops l o.guard = some true) (hd : dok n o.dst = true)
    (hSi : Nat.beq S i = false) (hS : listed.getD S false = false) (ha : after1 ops S i = true) (hp : PuI P (I false) l o v) (h : D P n ops S I K fuel (listed.setIfInBounds i true) (putE l o.dst v) w) : D P n ops S I K (fuel + 1) listed l w := by
  have he : ∃ oS, ops[S]? = some oS ∧ ∃ e ∈ oS.after, Region.binds .any e = true ∧ e.on = i := by
    unfold after1 at ha
    cases hS' : ops[S]? with
    | none => rw [hS'] at ha; simp at ha
    | some oS =>
      rw [hS'] at ha
      obtain ⟨e, he, hb⟩ := Array.any_eq_true'.1 ha
      simp only [Bool.and_eq_true] at hb
      exact ⟨oS, rfl, e, he, hb.1, Nat.eq_of_beq_eq_true hb.2⟩
  exact ⟨fun a ha => wpI_first hi (Region.noSelect_spec hs) (fun c a w q => by cases q.1) (Nat.ne_of_beq_eq_false hSi) (.inr ⟨fun w h => h, he⟩) fuel listed a w (.inr hS) (Region.free_spec hi hf) (by simpa using hr)
    (.inl ⟨gd_wanted hg ha, fun w hw => hp a.eval (fun x u hx => ha.ev hx) w hw⟩) (h.out _ (ha.put hd v))⟩
theorem D_no0 (i : Nat) (hs : Region.noSelect ops = true) (hi : ops[i]? = some o) (hr : (Region.ready .any ops listed).contains i = true) (hf : Region.free .any ops listed i = true) (hg : gd ops l o.guard = some false) (hd : dok n o.dst = true) (hSi : Nat.beq S i = false)
    (h : D P n ops S I K fuel (listed.setIfInBounds i true) (putE l o.dst undef) w) : D P n ops S I K (fuel + 1) listed l w :=
  ⟨fun a ha => wpI_first hi (Region.noSelect_spec hs) (fun c a w q => by cases q.1) (Nat.ne_of_beq_eq_false hSi) (J := fun w => ∃ b, I b w) (.inl fun b w h => ⟨b, h⟩) fuel listed a w (.inl fun b w h => ⟨b, h⟩) (Region.free_spec hi hf) (by simpa using hr)
    (.inr ⟨gd_wanted hg ha, rfl⟩) (h.out _ (ha.put hd undef))⟩
section
variable {d : Tmp} {op : Op} {ty : TypeId} {ps : String} {af : Array Edge} {g : Option (Nat × Bool)} {v : Value}
theorem D_pu (i : Nat) (hs : Region.noSelect ops = true) (hi : ops[i]? = some ⟨some d, op, ty, ps, af, g⟩) (hr : (Region.ready .any ops listed).contains i = true) (hf : Region.free .any ops listed i = true) (hg : gd ops l g = some true) (hd : Nat.blt d n = true)
    (hSi : Nat.beq S i = false) (hp : PuI P (fun w => ∃ b, I b w) l ⟨some d, op, ty, ps, af, g⟩ v) (h : D P n ops S I K fuel (listed.setIfInBounds i true) ((d, v) :: l) w) : D P n ops S I K (fuel + 1) listed l w := D_pu0 i hs hi hr hf hg hd hSi hp h
theorem D_rd (i : Nat) (hs : Region.noSelect ops = true) (hi : ops[i]? = some ⟨some d, op, ty, ps, af, g⟩) (hr : (Region.ready .any ops listed).contains i = true) (hf : Region.free .any ops listed i = true) (hg : gd ops l g = some true) (hd : Nat.blt d n = true)
    (hSi : Nat.beq S i = false) (hS : listed.getD S false = false) (ha : after1 ops S i = true) (hp : PuI P (I false) l ⟨some d, op, ty, ps, af, g⟩ v) (h : D P n ops S I K fuel (listed.setIfInBounds i true) ((d, v) :: l) w) : D P n ops S I K (fuel + 1) listed l w :=
  D_rd0 i hs hi hr hf hg hd hSi hS ha hp h
theorem D_no (i : Nat) (hs : Region.noSelect ops = true) (hi : ops[i]? = some ⟨some d, op, ty, ps, af, g⟩) (hr : (Region.ready .any ops listed).contains i = true) (hf : Region.free .any ops listed i = true) (hg : gd ops l g = some false) (hd : Nat.blt d n = true)
    (hSi : Nat.beq S i = false) (h : D P n ops S I K fuel (listed.setIfInBounds i true) ((d, undef) :: l) w) : D P n ops S I K (fuel + 1) listed l w := D_no0 i hs hi hr hf hg hd hSi h
theorem D_if {p : Prop} [Decidable p] (i : Nat) (hs : Region.noSelect ops = true) (hi : ops[i]? = some ⟨some d, op, ty, ps, af, g⟩) (hr : (Region.ready .any ops listed).contains i = true) (hf : Region.free .any ops listed i = true) (hg : gd ops l g = some true) (hd : Nat.blt d n = true)
    (hSi : Nat.beq S i = false) (hp : PuI P (fun w => ∃ b, I b w) l ⟨some d, op, ty, ps, af, g⟩ (.bool (decide p))) (h1 : p → D P n ops S I K fuel (listed.setIfInBounds i true) ((d, .bool true) :: l) w)
    (h2 : ¬ p → D P n ops S I K fuel (listed.setIfInBounds i true) ((d, .bool false) :: l) w) :
    D P n ops S I K (fuel + 1) listed l w :=
  D_pu i hs hi hr hf hg hd hSi hp (by by_cases hp : p <;> simp only [hp, decide_true, decide_false] <;> first | exact h1 hp | exact h2 hp)
end
theorem D_done (hr : Region.ready .any ops listed = []) (hI : I (listed.getD S false) w) (h : K l w) : D P n ops S I K fuel listed l w :=
  ⟨fun a ha => by cases fuel with
    | zero => exact ⟨hI, hr, rfl, l, ha, h⟩
    | succ f => exact ⟨hI, fun _ => ⟨rfl, l, ha, h⟩, fun i hi => by rw [hr] at hi; cases hi⟩⟩
/-- One of those that are ready, next. -/
def DNext (P : Program) (n : Nat) (ops : Array Oper) (S : Nat) (I : Bool → World → Prop) (K : KK) (fuel : Nat) (listed : Array Bool) (l : Env) (w : World) (i : Nat) : Prop :=
  ∃ o, ops[i]? = some o ∧ gd ops l o.guard = some true ∧ dok n o.dst = true ∧ St1 P l o w fun v w' => D P n ops S I K fuel (listed.setIfInBounds i true) (putE l o.dst v) w'
theorem DNext_st {J : Value → World → Prop} (hi : ops[i]? = some o) (hg : gd ops l o.guard = some true) (hd : dok n o.dst = true) (hs : St1 P l o w J) (h : ∀ v w', J v w' → D P n ops S I K fuel (listed.setIfInBounds i true) (putE l o.dst v) w') :
    DNext P n ops S I K fuel listed l w i := by
  refine ⟨o, hi, hg, hd, fun ρ hρ => ?_⟩
  have hr := hs ρ hρ
  generalize (execOp ρ o).run P w = r at hr ⊢
  cases r with
  | ok x w' => cases x <;> first | exact h _ _ hr | exact CallsR.mono hr h | exact hr
  | halt x w' => exact hr
theorem D_all {rs : List Nat} (hr : Region.ready .any ops listed = rs) (hne : rs ≠ []) (hI : I (listed.getD S false) w) (h : ∀ i ∈ rs, DNext P n ops S I K fuel listed l w i) : D P n ops S I K (fuel + 1) listed l w := by
  refine ⟨fun a ha => ⟨hI, fun h0 => absurd (hr ▸ h0) hne, fun i hi => ?_⟩⟩
  obtain ⟨o, ho, hg, hd, hs⟩ := h i (hr ▸ hi)
  unfold wpOp
  simp only [ho, gd_wanted hg ha, if_true]
  refine .inl ?_
  have hq := hs a.eval (fun x u hx => ha.ev hx)
  unfold Oper.wp Oper.upon
  unfold SR at hq
  split at hq
  · rename_i v w' he
    rw [he]
    exact hq.out _ (ha.put hd v)
  · rename_i w' he
    rw [he]
    exact hq.out _ (ha.put hd undef)
  · rename_i f args w' he
    rw [he]
    refine Calls.mono hq fun e w'' ⟨v, ee, hv⟩ => ?_
    subst ee
    exact hv.out _ (ha.put hd v)
  · exact hq.elim
section
variable {d : Tmp} {op : Op} {ty : TypeId} {ps : String} {af : Array Edge} {g : Option (Nat × Bool)}
theorem DNext_go (hi : ops[i]? = some ⟨some d, op, ty, ps, af, g⟩) (hg : gd ops l g = some true) (hd : Nat.blt d n = true) (hs : St1 P l ⟨some d, op, ty, ps, af, g⟩ w fun v w' => D P n ops S I K fuel (listed.setIfInBounds i true) ((d, v) :: l) w') :
    DNext P n ops S I K fuel listed l w i := ⟨_, hi, hg, hd, hs⟩
theorem DNext_goN (hi : ops[i]? = some ⟨none, op, ty, ps, af, g⟩) (hg : gd ops l g = some true) (hs : St1 P l ⟨none, op, ty, ps, af, g⟩ w fun _ w' => D P n ops S I K fuel (listed.setIfInBounds i true) l w') :
    DNext P n ops S I K fuel listed l w i := ⟨_, hi, hg, rfl, hs⟩
theorem D_go (i : Nat) (hr : Region.ready .any ops listed = [i]) (hI : I (listed.getD S false) w) (hi : ops[i]? = some ⟨some d, op, ty, ps, af, g⟩) (hg : gd ops l g = some true) (hd : Nat.blt d n = true)
    (hs : St1 P l ⟨some d, op, ty, ps, af, g⟩ w fun v w' => D P n ops S I K fuel (listed.setIfInBounds i true) ((d, v) :: l) w') : D P n ops S I K (fuel + 1) listed l w :=
  D_all hr (by simp) hI (by simp only [List.mem_singleton, forall_eq]; exact DNext_go hi hg hd hs)
theorem D_goN (i : Nat) (hr : Region.ready .any ops listed = [i]) (hI : I (listed.getD S false) w) (hi : ops[i]? = some ⟨none, op, ty, ps, af, g⟩) (hg : gd ops l g = some true)
    (hs : St1 P l ⟨none, op, ty, ps, af, g⟩ w fun _ w' => D P n ops S I K fuel (listed.setIfInBounds i true) l w') : D P n ops S I K (fuel + 1) listed l w :=
  D_all hr (by simp) hI (by simp only [List.mem_singleton, forall_eq]; exact DNext_goN hi hg hs)
end
theorem D_two (i j : Nat) (hr : Region.ready .any ops listed = [i, j]) (hI : I (listed.getD S false) w) (h1 : DNext P n ops S I K fuel listed l w i) (h2 : DNext P n ops S I K fuel listed l w j) : D P n ops S I K (fuel + 1) listed l w :=
  D_all hr (by simp) hI (by simp only [List.mem_cons, List.not_mem_nil, or_false, forall_eq_or_imp, forall_eq]; exact ⟨h1, h2⟩)
end
end Go.Proofs.Ytdpbfdjpeofbmaa.L
