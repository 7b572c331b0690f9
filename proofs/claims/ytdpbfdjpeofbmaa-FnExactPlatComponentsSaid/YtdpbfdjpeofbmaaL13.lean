/- The light logic, part 13: reads ahead of a store that is reached over other operations; whole arrays; arrays compared. -/
import Derived.Test.YtdpbfdjpeofbmaaL12
import Derived.Laws.StructEq
namespace Go.Proofs.Ytdpbfdjpeofbmaa.L
set_option linter.unusedVariables false
section
variable {P : Program} {ops : Array Oper} {Q : Exit → Act → World → Prop} {S : Nat} {I : Bool → World → Prop}
theorem wpI_firstB {J : World → Prop} {i : Nat} {oi : Oper} {v : Value} (Bad : List Nat) (hi : ops[i]? = some oi) (hsel : ∀ (j : Nat) (o : Oper) cs b, ops[j]? = some o → o.op ≠ .select cs b)
    (hQ : ∀ c a w, Q (.panic c) (a.put oi.dst v) w → Q (.panic c) a w) (hSB : S ∈ Bad) (hiB : i ∉ Bad) (hJ : ∀ w, I false w → J w)
    (hB : ∀ b ∈ Bad, ∃ o, ops[b]? = some o ∧ ∃ e ∈ o.after, Region.binds .any e = true ∧ (e.on = i ∨ e.on ∈ Bad)) :
    ∀ (fuel : Nat) (listed : Array Bool) (a : Act) (w : World), (∀ b ∈ Bad, listed.getD b false = false) →
      (∀ j oj, ops[j]? = some oj → j ≠ i → listed.getD j true = false → (∀ e ∈ oj.after, Region.binds .any e = true → e.on ≠ i) → oi.apart ops oj = true) →
      i ∈ Region.ready .any ops listed → YI P ops J oi v a →
      wpI P ops S I Q fuel (listed.setIfInBounds i true) (a.put oi.dst v) w → wpI P ops S I Q (fuel + 1) listed a w := by
  have hSi : S ≠ i := fun e => hiB (e ▸ hSB)
  have hgo : ∀ (listed : Array Bool) (w : World), I ((listed.setIfInBounds i true).getD S false) w → I (listed.getD S false) w := fun listed w h => by
    rwa [getD_set_ne false (Ne.symm hSi)] at h
  have hJw : ∀ (listed : Array Bool) (w : World), (∀ b ∈ Bad, listed.getD b false = false) → I (listed.getD S false) w → J w := fun listed w hl h => by
    rw [hl S hSB] at h; exact hJ _ h
  intro fuel
  induction fuel with
  | zero =>
    intro listed a w hl _ hr hy H
    have hIw := hgo _ _ (wpI_I H)
    refine ⟨hIw, fun h => (by rw [h] at hr; cases hr), fun j hj => ?_⟩
    by_cases hji : j = i
    · subst hji; exact hy.wpOp hi (hJw _ _ hl hIw) H
    · have := ready_mono hj hji
      rw [H.2.1] at this
      cases this
  | succ fuel ih =>
    intro listed a w hl hfree hr hy H
    have hIw := hgo _ _ (wpI_I H)
    refine ⟨hIw, fun h => (by rw [h] at hr; cases hr), fun j hj => ?_⟩
    by_cases hji : j = i
    · subst hji; exact hy.wpOp hi (hJw _ _ hl hIw) H
    · have h1 := H.2.2 j (ready_mono hj hji)
      obtain ⟨hjun, oj, hoj, hall⟩ := mem_ready.1 hj
      have hnot : ∀ e ∈ oj.after, Region.binds .any e = true → e.on ≠ i := fun e he hb heq => by
        have h1 := hall e he hb
        have h0 := (mem_ready.1 hr).1
        rw [heq] at h1
        rcases Nat.lt_or_ge i listed.size with h' | h'
        · simp [h'] at h0 h1; rw [h0] at h1; cases h1
        · simp [Array.getElem?_eq_none h'] at h1
      have hjB : j ∉ Bad := fun hjB => by
        obtain ⟨o, ho, e, he, hb, hon⟩ := hB j hjB
        rw [hoj] at ho
        cases ho
        rcases hon with hon | hon
        · exact hnot e he hb hon
        · have h2 := hall e he hb
          have h3 := hl _ hon
          rw [h3] at h2
          cases h2
      have h2 := wpOp_putI hoj (hfree j oj hoj hji hjun hnot) (fun cs b => hsel i oi cs b hi) (fun cs b => hsel j oj cs b hoj) hQ hy h1
      have hfree' : ∀ k ok, ops[k]? = some ok → k ≠ i → (listed.setIfInBounds j true).getD k true = false →
          (∀ e ∈ ok.after, Region.binds .any e = true → e.on ≠ i) → oi.apart ops ok = true := fun k ok hk hki hun hno => by
        refine hfree k ok hk hki ?_ hno
        by_cases hjk : j = k
        · subst hjk; exact hjun
        · rw [getD_set_ne true hjk] at hun; exact hun
      have hl' : ∀ b ∈ Bad, (listed.setIfInBounds j true).getD b false = false := fun b hb => by
        have hne : j ≠ b := fun e => hjB (by rw [e]; exact hb)
        rw [getD_set_ne false hne]
        exact hl b hb
      refine wpOp_mono (fun a' w' h3 => ih (listed.setIfInBounds j true) a' w' hl' hfree' (ready_mono hr (Ne.symm hji)) h3.1 ?_) h2
      rw [Array.setIfInBounds_comm _ _ hji]
      exact h3.2
/-- The operations of a list lie behind i, each by an edge to it or to one of the list; none has run. -/
def aheadB (ops : Array Oper) (listed : Array Bool) (i S : Nat) (Bad : List Nat) : Bool :=
  Bad.contains S && !Bad.contains i && Bad.all fun b => (listed.getD b false == false) && match ops[b]? with
    | some o => o.after.any fun e => Region.binds .any e && (Nat.beq e.on i || Bad.contains e.on)
    | none => false
end
section
variable {P : Program} {n : Nat} {ops : Array Oper} {S : Nat} {I : Bool → World → Prop} {K : KK} {fuel : Nat} {listed : Array Bool} {l : Env} {w : World}
variable {d : Tmp} {op : Op} {ty : TypeId} {ps : String} {af : Array Edge} {g : Option (Nat × Bool)} {v : Value}
theorem D_rdB (i : Nat) (hs : Region.noSelect ops = true) (hi : ops[i]? = some ⟨some d, op, ty, ps, af, g⟩) (hr : (Region.ready .any ops listed).contains i = true) (hf : Region.free .any ops listed i = true) (hg : gd ops l g = some true) (hd : Nat.blt d n = true)
    (Bad : List Nat) (hB : aheadB ops listed i S Bad = true) (hp : PuI P (I false) l ⟨some d, op, ty, ps, af, g⟩ v) (h : D P n ops S I K fuel (listed.setIfInBounds i true) ((d, v) :: l) w) : D P n ops S I K (fuel + 1) listed l w := by
  unfold aheadB at hB
  simp only [Bool.and_eq_true, List.contains_iff_mem, Bool.not_eq_true', List.all_eq_true, beq_iff_eq] at hB
  obtain ⟨⟨h1, h2⟩, h3⟩ := hB
  have h2' : i ∉ Bad := fun e => by rw [List.contains_iff_mem.2 e] at h2; cases h2
  refine ⟨fun a ha => wpI_firstB Bad hi (Region.noSelect_spec hs) (fun c a w q => by cases q.1) h1 h2' (fun w h => h) (fun b hb => ?_) fuel listed a w (fun b hb => (h3 b hb).1) (Region.free_spec hi hf) (by simpa using hr)
    (.inl ⟨gd_wanted hg ha, fun w hw => hp a.eval (fun x u hx => ha.ev hx) w hw⟩) (h.out _ (ha.put (d := some d) hd v))⟩
  have h4 := (h3 b hb).2
  cases ho : ops[b]? with
  | none => rw [ho] at h4; simp at h4
  | some o =>
    rw [ho] at h4
    obtain ⟨e, he, hb⟩ := Array.any_eq_true'.1 h4
    simp only [Bool.and_eq_true, Bool.or_eq_true, List.contains_iff_mem] at hb
    exact ⟨o, rfl, e, he, hb.1, hb.2.imp Nat.eq_of_beq_eq_true id⟩
end
section
variable {F0 : Nat → Prop} {w0 w : World} {As : List Asr} {P : Program} {l : Env} {d : Option Tmp} {ty : TypeId} {ps : String} {af : Array Edge} {g : Option (Nat × Bool)} {x y : Operand} {v u : Value} {t : TypeId} {J : Value → World → Prop}
/-- A whole array of numbers stored. -/
theorem st_storeW {b s : Nat} {e : TypeId} {cs : List Value} {k : IntKind} {xs : List Int} {by' : Nat} {z : Value} (hs : St F0 w0 As w) (j : Nat) (hj : As[j]? = some (aBk b e cs)) (hz : Ty P t s by' z) (hx : ev l x = some (.pointer (some ⟨b, 0, none⟩))) (hy : ev l y = some (.agg (nums k xs).toArray))
    (hl : xs.length = s) (hc : cs.length = s) (hJ : ∀ w', Kp (fun k => k = b) w w' → St F0 w0 (As.set j (aBk b e (nums k xs))) w' → J undef w') : St1 P l ⟨none, .store t x y, ty, ps, af, g⟩ w J := by
  refine st_storeBs hs j hj hz hx hy (by simp [Value.cells, nums_length, hl]) (fun u hu => nums_one k xs u (by simpa [Value.cells] using hu)) (by omega) fun w' hk hs' => hJ w' hk ?_
  have e1 : cs.take 0 ++ (Value.agg (nums k xs).toArray).cells.toList ++ cs.drop (0 + s) = nums k xs := by
    rw [List.drop_of_length_le (by omega)]
    simp [Value.cells]
  rwa [e1] at hs'
theorem run_equalIn_nums (w : World) (d : Nat) (t e : TypeId) (n : Nat) (k k' : IntKind) (ht : P.underlying t = some (.array n e)) (he : P.underlying e = some (.int k')) (hsz : ∀ w, (sizeOf e).run P w = .ok 1 w)
    (xs ys : List Int) (hx : xs.length = n) (hy : ys.length = n) :
    (Op.equalIn (d + 2) t (.agg (nums k xs).toArray) (.agg (nums k ys).toArray)).run P w = .ok (decide (xs = ys)) w := by
  have hall : ((List.range n).all fun i => xs.getD i 0 == ys.getD i 0) = decide (xs = ys) := by
    rw [Bool.eq_iff_iff]
    simp only [List.all_eq_true, List.mem_range, beq_iff_eq, decide_eq_true_eq]
    refine ⟨fun h => List.ext_getElem? fun i => ?_, fun h i _ => by rw [h]⟩
    by_cases hi : i < n
    · have := h i hi
      simp only [List.getD_eq_getElem?_getD, List.getElem?_eq_getElem (show i < xs.length by omega), List.getElem?_eq_getElem (show i < ys.length by omega), Option.getD_some] at this ⊢
      rw [this]
    · rw [List.getElem?_eq_none (by omega), List.getElem?_eq_none (by omega)]
  rw [← hall, List.range_eq_range', Op.equalIn]
  simp only [Sem.run_bind, run_underlying ht, Result.andThen_ok, hsz, Std.Legacy.Range.forIn_eq_forIn_range', Std.Legacy.Range.size, Nat.sub_zero, Nat.add_sub_cancel, Nat.div_one]
  have hl : ∀ i ∈ List.range' 0 n 1, i < n := fun i hi => by simpa using (List.mem_range'_1.1 hi).2
  clear hall
  generalize List.range' 0 n 1 = l at hl ⊢
  induction l with
  | nil => simp
  | cons i l ih =>
    have hi : i < n := hl i (by simp)
    have px : (part e (nums k xs).toArray (i * 1)).run P w = .ok (.int k (xs.getD i 0)) w := by
      simp [part, isAgg, run_underlying he, List.getD, List.getElem?_eq_getElem (show i < xs.length by omega), nums]
    have py : (part e (nums k ys).toArray (i * 1)).run P w = .ok (.int k (ys.getD i 0)) w := by
      simp [part, isAgg, run_underlying he, List.getD, List.getElem?_eq_getElem (show i < ys.length by omega), nums]
    have pe : (Op.equalIn (d + 1) e (.int k (xs.getD i 0)) (.int k (ys.getD i 0))).run P w = .ok (xs.getD i 0 == ys.getD i 0) w := run_equalIn_int w d e k k' _ _ he
    simp only [List.forIn_cons, Sem.run_bind, px, py, pe, Result.andThen_ok, List.all_cons]
    cases hb : (xs.getD i 0 == ys.getD i 0)
    · simp
    · simp only [Bool.not_true, Bool.false_eq_true, if_false, Sem.run_pure, Result.andThen_ok, Bool.true_and]
      exact ih fun j hj => hl j (by simp [hj])
variable {n : Nat} {e : TypeId} {k k' : IntKind} {xs ys : List Int} {by' : Nat} {z : Value} {t' : TypeId}
theorem pu_neqA (ht : P.underlying t = some (.array n e)) (he : P.underlying e = some (.int k')) (hz : Ty P e 1 by' z) (hm : P.eqGuardType P.depth t = false) (hx : ev l x = some (.agg (nums k xs).toArray)) (hy : ev l y = some (.agg (nums k ys).toArray)) (hlx : xs.length = n) (hly : ys.length = n) :
    Pu P l ⟨d, .binOp .neq t x y t', ty, ps, af, g⟩ (.bool (decide (xs ≠ ys))) := by
  intro ρ h w
  obtain ⟨i, hi, hs1, _⟩ := hz.out
  have hsz : ∀ w, (sizeOf e).run P w = .ok 1 w := fun w => by simp [sizeOf, typeInfo, hi, hs1]
  have hr := run_equalIn_nums w 9998 t e n k k' ht he hsz xs ys hlx hly
  have : (!decide (xs = ys)) = decide (xs ≠ ys) := by by_cases e : xs = ys <;> simp [e]
  simp only [execOp, h _ _ hx, h _ _ hy, Sem.run_bind, run_eqGuard_agg w .neq t x y _ _ hm, Result.andThen_ok, run_neq_struct, hr, this, Sem.run_pure]
theorem pu_eqlA (ht : P.underlying t = some (.array n e)) (he : P.underlying e = some (.int k')) (hz : Ty P e 1 by' z) (hm : P.eqGuardType P.depth t = false) (hx : ev l x = some (.agg (nums k xs).toArray)) (hy : ev l y = some (.agg (nums k ys).toArray)) (hlx : xs.length = n) (hly : ys.length = n) :
    Pu P l ⟨d, .binOp .eql t x y t', ty, ps, af, g⟩ (.bool (decide (xs = ys))) := by
  intro ρ h w
  obtain ⟨i, hi, hs1, _⟩ := hz.out
  have hsz : ∀ w, (sizeOf e).run P w = .ok 1 w := fun w => by simp [sizeOf, typeInfo, hi, hs1]
  have hr := run_equalIn_nums w 9998 t e n k k' ht he hsz xs ys hlx hly
  simp only [execOp, h _ _ hx, h _ _ hy, Sem.run_bind, run_eqGuard_agg w .eql t x y _ _ hm, Result.andThen_ok, run_eql_struct, hr, Sem.run_pure]
end
end Go.Proofs.Ytdpbfdjpeofbmaa.L
