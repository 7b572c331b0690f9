/- Gauss and Jordan: the program's. -/
import Derived.Test.YtdpbfdjpeofbmaaC1
import Derived.Test.YtdpbfdjpeofbmaaA3
namespace Go.Proofs.Ytdpbfdjpeofbmaa.L
set_option linter.unusedVariables false
set_option maxRecDepth 100000

theorem MatH.nilv (w : World) : MatH w (.slice none 0 0) [] [] := ⟨⟨rfl, .inl ⟨rfl, rfl⟩⟩, rfl, fun i h xs hi _ => by simp at hi, fun i j h h' hi _ _ => by simp at hi⟩
theorem newM_none {w w' : World} (h : Kp no w w') : NewM w w' (.slice none 0 0) [] := ⟨[], MatH.nilv _, h, fun b hb => by
  rcases hb with e | ⟨q, hq, _⟩
  · simp [Value.ownBlock] at e
  · simp at hq⟩
theorem MatH.slice {w : World} {v : Value} {hds : List Value} {xss : List (List Int)} {n : Nat} (h : MatH w v hds xss) (hn : xss.length = n) (h0 : 1 ≤ n) : ∃ g c, v = .slice (some ⟨g, 0, none⟩) n c ∧ n ≤ c := by
  rcases h.open with ⟨_, e⟩ | ⟨g, c, e, hc⟩
  · rw [e] at hn; simp at hn; omega
  · rw [hn] at e hc; exact ⟨g, c, e, hc⟩
theorem Rc.map {p : Int} {n m m' : Nat} {Z : List (List Int)} (h : Rc p n m Z) (f : List Int → List Int) (hf : ∀ xs, xs.length = m → InP p xs → (f xs).length = m' ∧ InP p (f xs)) : Rc p n m' (Z.map f) :=
  ⟨by rw [List.length_map]; exact h.len, fun xs hx => by
    obtain ⟨ys, hy, rfl⟩ := List.mem_map.1 hx
    exact hf ys (h.row ys hy).1 (h.row ys hy).2⟩
theorem Rc.left {p : Int} {n d : Nat} {Z : List (List Int)} (h : Rc p n (2 * d) Z) : Rc p n d (Z.map (List.take d)) := h.map _ fun xs hl hp => ⟨by rw [List.length_take]; omega, fun x hx => hp x (List.mem_of_mem_take hx)⟩
theorem Rc.right {p : Int} {n d : Nat} {Z : List (List Int)} (h : Rc p n (2 * d) Z) : Rc p n d (Z.map (List.drop d)) := h.map _ fun xs hl hp => ⟨by rw [List.length_drop]; omega, fun x hx => hp x (List.mem_of_mem_drop hx)⟩
theorem det_none {xss : List (List Int)} (h : gjTo 10007 (augM xss) xss.length = Option.none) : detF xss = 0 ∧ invF xss = [] := by unfold detF invF; rw [h]; exact ⟨rfl, rfl⟩
theorem det_some {xss : List (List Int)} {Z : List (List Int)} {det : Int} (h : gjTo 10007 (augM xss) xss.length = some (Z, det)) : detF xss = det ∧ invF xss = Z.map (List.drop xss.length) := by unfold detF invF; rw [h]; exact ⟨rfl, rfl⟩
theorem zeroRows_ok (n : Nat) (hn : n ≤ 1000) (w : World) : CallsR Try.prog 134 #[.int .i64 n] w fun r w' => NewM w w' r (List.replicate n (List.replicate n 0)) := by
  have hs := St.start w
  refine fn_calls Try.func134 rfl rfl rfl ?_
  refine W_seq ?_
  refine W_reg ?_
  refine T_pu rfl rfl (pu_assign rfl) ?_
  refine T_nil ?_
  refine W_seq ?_
  refine W_reg ?_
  refine T_go rfl rfl (st_litM hs (fun _ => by kernel_rfl) fun w1 b1 hk1 hb1 hs => ?_)
  refine T_pu rfl rfl (pu_assign rfl) ?_
  refine T_nil ?_
  refine W_seq ?_
  refine W_seq ?_
  refine W_reg ?_
  refine T_pu rfl rfl (pu_move rfl) ?_
  refine T_pu rfl rfl (pu_move rfl) ?_
  refine T_nil ?_
  refine W_block ?_
  refine W_loop (σ := Nat × Value) (fun s => [(0, .int .i64 n), (3, s.2), (5, .int .i64 n), (6, .int .i64 s.1)]) (fun s w' => s.1 ≤ n ∧ ∃ hds, St no w [aMat s.2 hds (List.replicate s.1 (List.replicate n 0))] w') (fun s => n - s.1) (0, .slice (some ⟨b1, 0, none⟩) 0 0) ?_ ?_ ?_
  · exact .cons rfl (.cons rfl (.cons rfl (.cons rfl (.nil _))))
  · exact ⟨Nat.zero_le _, [], hs⟩
  clear hs
  rintro ⟨k, u⟩ w2 ⟨hkn, hds, hs⟩
  dsimp only at hkn hs ⊢
  refine W_seq ?_
  refine W_reg ?_
  refine T_pu rfl rfl (pu_lss rfl rfl) ?_
  refine T_nil ?_
  refine W_seq ?_
  refine W_if rfl (fun hc3 => ?_) (fun hc3 => ?_)
  · refine W_skip ?_
    refine W_seq ?_
    refine W_block ?_
    refine W_reg ?_
    refine T_pu rfl rfl (pu_move rfl) ?_
    refine T_pu rfl rfl (pu_move rfl) ?_
    refine T_go rfl rfl (st_makeI hs Try.underlying22 ty2 rfl rfl (by omega) fun w3 b3 hk3 hb3 hs => ?_)
    refine T_go rfl rfl (st_litR hs rfl (fun _ => by kernel_rfl) fun w4 b4 hk4 hb4 hs hU => ?_)
    have hs := hs.front 1 rfl
    refine T_go rfl rfl (st_appendM (by' := 0) hs Try.underlying32 ty22 rfl rfl hU rfl (by rw [List.length_replicate]; omega) fun u' w5 hs hk5 hf5 => ?_)
    refine T_pu rfl rfl (pu_assign rfl) ?_
    refine T_nil ?_
    refine W_reg ?_
    refine T_pu rfl rfl (pu_add64 rfl rfl (by omega)) ?_
    refine T_pu rfl rfl (pu_move rfl) ?_
    refine T_nil ?_
    exact ⟨(k + 1, u'), .cons rfl (.cons rfl (.cons rfl (.cons rfl (.nil _)))), ⟨by show k + 1 ≤ n; omega, _, by rw [List.replicate_succ']; exact hs⟩, by show n - (k + 1) < n - k; omega⟩
  · refine W_exit rfl ?_
    refine W_seq ?_
    refine W_reg ?_
    refine T_pu rfl rfl (pu_move rfl) ?_
    refine T_pu rfl rfl (pu_assign rfl) ?_
    refine T_nil ?_
    refine W_ret ?_
    obtain rfl : k = n := by omega
    exact Res_1 rfl rfl (hs.isNewM 0 rfl)
def idTo (n k : Nat) : List (List Int) := (List.range n).map fun i => if i < k then unitAt n i 1 else List.replicate n 0
theorem idTo_zero (n : Nat) : idTo n 0 = List.replicate n (List.replicate n 0) := by
  unfold idTo
  refine List.ext_getElem? fun i => ?_
  by_cases h : i < n <;> simp [h]
theorem idTo_all (n : Nat) : idTo n n = idM n := by
  unfold idTo idM
  refine List.map_congr_left fun i hi => ?_
  rw [if_pos (by simpa using hi)]
theorem idTo_rr {n k : Nat} {i : Nat} (h : i < n) : rr (idTo n k) i = if i < k then unitAt n i 1 else List.replicate n 0 := by
  unfold rr idTo
  rw [Int.toNat_natCast, List.getD_eq_getElem?_getD]
  simp [h]
theorem idTo_set {n k : Nat} (h : k < n) : set2 (idTo n k) k k 1 = idTo n (k + 1) := by
  unfold set2
  rw [idTo_rr h, if_neg (by omega), Int.toNat_natCast]
  refine List.ext_getElem? fun i => ?_
  rw [List.getElem?_set]
  by_cases e : k = i
  · subst e
    simp [idTo, h, unitAt]
  · rw [if_neg e]
    unfold idTo
    by_cases hi : i < n
    · simp only [List.getElem?_map, List.getElem?_range hi, Option.map_some]
      by_cases hik : i < k
      · rw [if_pos hik, if_pos (by omega)]
      · rw [if_neg hik, if_neg (by omega)]
    · simp [hi]
theorem unitIn_ok (n : Nat) (hn0 : 1 ≤ n) (hn : n ≤ 1000) (w : World) : CallsR Try.prog 91 #[.int .i64 n] w fun r w' => NewM w w' r (idM n) := by
  have hs := St.start w
  refine fn_calls Try.func91 rfl rfl rfl ?_
  refine W_seq ?_
  refine W_reg ?_
  refine T_pu rfl rfl (pu_assign rfl) ?_
  refine T_nil ?_
  refine W_seq ?_
  refine W_reg ?_
  refine T_pu rfl rfl (pu_move rfl) ?_
  refine T_go rfl rfl (st_call fn134 rfl ((zeroRows_ok n hn _).mono ?_))
  rintro v w1 ⟨hds, hM, hkM, hfM⟩
  have hs := hs.newM hM hkM hfM
  obtain ⟨g, cg, rfl, _⟩ := hM.slice (n := n) (by simp) hn0
  rw [← idTo_zero] at hs
  refine T_pu rfl rfl (pu_assign rfl) ?_
  refine T_nil ?_
  refine W_seq ?_
  refine W_seq ?_
  refine W_reg ?_
  refine T_pu rfl rfl (pu_move rfl) ?_
  refine T_pu rfl rfl (pu_move rfl) ?_
  refine T_nil ?_
  refine W_block ?_
  refine W_loop (σ := Nat) (fun k => [(3, .slice (some ⟨g, 0, none⟩) n cg), (7, .int .i64 n), (8, .int .i64 k)]) (fun k w' => k ≤ n ∧ St no w [aMat (.slice (some ⟨g, 0, none⟩) n cg) hds (idTo n k)] w') (fun k => n - k) 0 ?_ ?_ ?_
  · exact .cons rfl (.cons rfl (.cons rfl (.nil _)))
  · exact ⟨Nat.zero_le _, hs⟩
  clear hs
  rintro k w2 ⟨hkn, hs⟩
  have hM2 := hs.mat 0 rfl
  have hl2 : (idTo n k).length = n := by simp [idTo]
  refine W_seq ?_
  refine W_reg ?_
  refine T_pu rfl rfl (pu_lss rfl rfl) ?_
  refine T_nil ?_
  refine W_seq ?_
  refine W_if rfl (fun hc3 => ?_) (fun hc3 => ?_)
  · refine W_skip ?_
    refine W_seq ?_
    refine W_block ?_
    refine W_seq ?_
    refine W_reg ?_
    refine T_pu rfl rfl (pu_move rfl) ?_
    refine T_pu rfl rfl (pu_assign rfl) ?_
    refine T_nil ?_
    obtain ⟨b, cc, hh, hcl, hO⟩ := hM2.at (i := k) (by omega) (by omega) (show List.length _ = n by rw [idTo_rr (by omega)]; split <;> simp [unitAt]) (by omega)
    refine W_reg ?_
    refine T_pu rfl rfl (pu_move rfl) ?_
    refine T_pu rfl rfl (pu_move rfl) ?_
    refine T_pu rfl rfl ((by first | exact pu_ix1 Try.underlying32 ty22 rfl rfl (by omega) (by omega) | exact pu_index Try.underlying32 ty22 rfl rfl (by omega) (by omega))) ?_
    refine T_pi rfl rfl (pi_load Try.underlying22 rfl rfl (fun w' h => by obtain rfl := h; exact (by first | exact hcl))) ?_
    refine T_pu rfl rfl (pu_move rfl) ?_
    refine T_pu rfl rfl ((by first | exact pu_ix1 Try.underlying22 ty2 rfl rfl (by omega) (by omega) | exact pu_index Try.underlying22 ty2 rfl rfl (by omega) (by omega))) ?_
    refine T_goN rfl (st_storeM hs 0 rfl (k : Int) (by omega) (by omega) hh ty2 rfl rfl (by omega) (by omega) fun w3 hk3 hs => ?_)
    rw [idTo_set (by omega)] at hs
    refine T_nil ?_
    refine W_reg ?_
    refine T_pu rfl rfl (pu_add64 rfl rfl (by omega)) ?_
    refine T_pu rfl rfl (pu_move rfl) ?_
    refine T_nil ?_
    exact ⟨k + 1, .cons rfl (.cons rfl (.cons rfl (.nil _))), ⟨by omega, hs⟩, by omega⟩
  · refine W_exit rfl ?_
    refine W_seq ?_
    refine W_reg ?_
    refine T_pu rfl rfl (pu_move rfl) ?_
    refine T_pu rfl rfl (pu_assign rfl) ?_
    refine T_nil ?_
    refine W_ret ?_
    obtain rfl : k = n := by omega
    rw [idTo_all] at hs
    exact Res_1 rfl rfl (hs.isNewM 0 rfl)

theorem RI.at0x {w : World} {b : Nat} {n c : Nat} {xs : List Int} (h : RI w (.slice (some ⟨b, 0, none⟩) n c) xs) {i : Int} (h0 : 0 ≤ i) (h1 : i < xs.length) : ∃ x, Go.RowKit.Hid (x = rd xs i) ∧ w.cell? ⟨b, i.toNat, none⟩ = some (.int .i64 x) := ⟨_, rfl, h.at0 h0 h1⟩

set_option maxHeartbeats 16000000 in
theorem inverseIn_ok (v : Value) (xss : List (List Int)) (w : World) (hv : RM w v xss) (hF : Fm xss) :
    CallsR Try.prog 79 #[v] w fun r w' => ∃ u, r = .tuple #[u, .int .i64 (detF xss)] ∧ NewM w w' u (invF xss) := by
  obtain ⟨A, c, rfl, hc⟩ := hv.open
  have hs := St.start w
  have hd1 := hF.1
  have hd2 := hF.2.1
  have hZ0 := augM_ok hF
  have hfr : ∀ i : Nat, i < xss.length → (rr xss i).length = xss.length ∧ InP 10007 (rr xss i) := fun i hi => hF.fr hi
  have haL := augM_left hF
  have haR := augM_right hF
  have hdn := @det_none xss
  have hds := @det_some xss
  have htk : ∀ k : Nat, k < xss.length → xss.take (k + 1) = xss.take k ++ [rr xss k] := fun k hk => by
    rw [List.take_add_one, show xss[k]? = some (rr xss k) from by have := rr_get (xss := xss) (i := (k : Int)) (by omega) (by omega); simpa using this]
    rfl
  have htkl : xss.take xss.length = xss := List.take_length
  have htkn : ∀ k, k ≤ xss.length → (xss.take k).length = k := fun k hk => by simp; omega
  have hrow : ∀ (w' : World) (k : Nat), k < xss.length → RM w' (.slice A xss.length c) xss → ∃ a B cc, A = some a ∧ w'.cell? (a.add ((k : Int).toNat * 1)) = some (.slice B (rr xss k).length cc) ∧ RI w' (.slice B (rr xss k).length cc) (rr xss k) := fun w' k hk h => h.row (by omega) (by omega)
  generalize hd : xss.length = d at *
  refine fn_calls Try.func79 rfl rfl rfl ?_
  refine W_seq ?_
  refine W_reg ?_
  refine T_pu rfl rfl (pu_assign rfl) ?_
  refine T_pu rfl rfl (pu_assign rfl) ?_
  refine T_nil ?_
  refine W_seq ?_
  refine W_reg ?_
  refine T_pu rfl rfl (pu_move rfl) ?_
  refine T_pu rfl rfl (pu_len Try.underlying32 rfl) ?_
  refine T_pu rfl rfl (pu_assign rfl) ?_
  refine T_nil ?_
  refine W_seq ?_
  refine W_reg ?_
  refine T_go rfl rfl (st_litM hs (fun _ => by kernel_rfl) fun w1 b1 hk1 hb1 hs => ?_)
  refine T_pu rfl rfl (pu_move rfl) ?_
  refine T_go rfl rfl (st_call fn91 rfl ((unitIn_ok d hd1 (by omega) _).mono ?_))
  rintro v w2 ⟨hB0, hMB, hkB, hfB⟩
  have hs := (hs.newM hMB hkB hfB).front 1 rfl
  simp only [List.eraseIdx] at hs
  obtain ⟨gB, cB, rfl, _⟩ := hMB.slice (n := d) (by simp [idM]) hd1
  refine T_pu rfl rfl (pu_assign rfl) ?_
  refine T_pu rfl rfl (pu_assign rfl) ?_
  refine T_pu rfl rfl (pu_assign rfl) ?_
  refine T_nil ?_
  refine W_seq ?_
  refine W_seq ?_
  refine W_reg ?_
  refine T_pu rfl rfl (pu_move rfl) ?_
  refine T_pu rfl rfl (pu_len Try.underlying32 rfl) ?_
  refine T_pu rfl rfl (pu_move rfl) ?_
  refine T_nil ?_
  refine W_block ?_
  refine W_loop (σ := Nat × Value) (fun s => [(4, .int .i64 d), (5, s.2), (6, (.slice (some ⟨gB, 0, none⟩) d cB)), (7, .int .i64 1), (22, .slice A d c), (23, .int .i64 d), (24, .int .i64 s.1)]) (fun s w' => s.1 ≤ d ∧ ∃ hA, St no w [aMat s.2 hA (xss.take s.1), aMat (.slice (some ⟨gB, 0, none⟩) d cB) hB0 (idM d)] w') (fun s => d - s.1) (0, .slice (some ⟨b1, 0, none⟩) 0 0) ?_ ?_ ?_
  · exact .cons rfl (.cons rfl (.cons rfl (.cons rfl (.cons rfl (.cons rfl (.cons rfl (.nil _)))))))
  · exact ⟨Nat.zero_le _, [], hs⟩
  clear hs
  rintro ⟨k, u⟩ w3 ⟨hkd, hA, hs⟩
  dsimp only at hkd hs ⊢
  refine W_seq ?_
  refine W_reg ?_
  refine T_pu rfl rfl (pu_lss rfl rfl) ?_
  refine T_nil ?_
  refine W_seq ?_
  refine W_if rfl (fun hc4 => ?_) (fun hc4 => ?_)
  · refine W_skip ?_
    refine W_seq ?_
    refine W_block ?_
    refine W_seq ?_
    obtain ⟨a, B, cc, rfl, hcell, hri⟩ := hrow w3 k (by omega) (hv.keep hs.kp)
    have hrl := (hfr k (by omega)).1
    refine W_reg ?_
    refine T_pu rfl rfl ((by first | exact pu_ix1 Try.underlying32 ty22 rfl rfl (by omega) (by omega) | exact pu_index Try.underlying32 ty22 rfl rfl (by omega) (by omega))) ?_
    refine T_pi rfl rfl (pi_load Try.underlying22 rfl rfl (fun w' h => by obtain rfl := h; exact (by first | exact hcell))) ?_
    refine T_pu rfl rfl (pu_assign rfl) ?_
    refine T_nil ?_
    refine W_reg ?_
    refine T_pu rfl rfl (pu_move rfl) ?_
    refine T_pu rfl rfl (pu_move rfl) ?_
    refine T_go rfl rfl (st_call fn139 rfl ((copyOf_ok _ (rr xss k) _ hri (by omega)).mono ?_))
    rintro q w4 hn
    have hs := hs.newI hn
    obtain ⟨A4, c4, rfl, _⟩ := hn.1.ri.open
    refine T_go rfl rfl (st_litR hs rfl (fun _ => by kernel_rfl) fun w5 b5 hk5 hb5 hs hU => ?_)
    have hs := hs.front 1 rfl
    simp only [List.eraseIdx] at hs
    refine T_go rfl rfl (st_appendM (by' := 0) hs Try.underlying32 ty22 rfl rfl hU rfl (by rw [htkn k (by omega)]; omega) fun u' w6 hs hk6 hf6 => ?_)
    refine T_pu rfl rfl (pu_assign rfl) ?_
    refine T_nil ?_
    refine W_reg ?_
    refine T_pu rfl rfl (pu_add64 rfl rfl (by omega)) ?_
    refine T_pu rfl rfl (pu_move rfl) ?_
    refine T_nil ?_
    rw [← htk k (by omega)] at hs
    exact ⟨(k + 1, u'), .cons rfl (.cons rfl (.cons rfl (.cons rfl (.cons rfl (.cons rfl (.cons rfl (.nil _))))))), ⟨by show k + 1 ≤ d; omega, _, hs⟩, by show d - (k + 1) < d - k; omega⟩
  · refine W_exit rfl ?_
    refine W_seq ?_
    refine W_seq ?_
    have hs : St no w [aMat u hA ((augM xss).map (List.take d)), aMat (.slice (some ⟨gB, 0, none⟩) d cB) hB0 ((augM xss).map (List.drop d))] w3 := by
      rw [haL, haR]
      rw [show k = d from by omega, htkl] at hs
      exact hs
    obtain ⟨gA, cA, rfl, _⟩ := (hs.mat 0 rfl).slice (n := d) (by rw [List.length_map]; exact hZ0.len) hd1
    refine W_reg ?_
    refine T_pu rfl rfl (pu_move rfl) ?_
    refine T_pu rfl rfl (pu_move rfl) ?_
    refine T_nil ?_
    refine W_block ?_
    refine W_loop (σ := Nat × List (List Int) × Int) (fun s => [(4, .int .i64 d), (5, (.slice (some ⟨gA, 0, none⟩) d cA)), (6, (.slice (some ⟨gB, 0, none⟩) d cB)), (7, .int .i64 s.2.2), (34, .int .i64 d), (35, .int .i64 s.1)]) (fun s w' => s.1 ≤ d ∧ gjTo 10007 (augM xss) s.1 = some s.2 ∧ ∃ hA hB, St no w [aMat (.slice (some ⟨gA, 0, none⟩) d cA) hA (s.2.1.map (List.take d)), aMat (.slice (some ⟨gB, 0, none⟩) d cB) hB (s.2.1.map (List.drop d))] w') (fun s => d - s.1) (0, augM xss, 1) ?_ ?_ ?_
    · exact .cons rfl (.cons rfl (.cons rfl (.cons rfl (.cons rfl (.cons rfl (.nil _))))))
    · exact ⟨Nat.zero_le _, rfl, hA, hB0, hs⟩
    clear hs
    rintro ⟨c1, Z, det⟩ w4 ⟨hcd, hgj, hA, hB, hs⟩
    dsimp only at hcd hgj hs ⊢
    obtain ⟨hZ, hdet⟩ := gjTo_ok (by omega) hZ0 c1 (by omega) Z det hgj
    have hsucc := gjTo_succ (p := 10007) (Z := augM xss) (c := c1)
    rw [hgj, Option.bind_some] at hsucc
    unfold gjStep at hsucc
    dsimp only at hsucc
    have hZl := hZ.len
    have hXA := hZ.left
    have hXB := hZ.right
    refine W_seq ?_
    refine W_reg ?_
    refine T_pu rfl rfl (pu_lss rfl rfl) ?_
    refine T_nil ?_
    refine W_seq ?_
    refine W_if rfl (fun hc9 => ?_) (fun hc9 => ?_)
    · refine W_skip ?_
      refine W_seq ?_
      refine W_block ?_
      refine W_seq ?_
      have hfl := findRow_le Z c1 _ c1 rfl (by omega)
      refine W_reg ?_
      refine T_pu rfl rfl (pu_move rfl) ?_
      refine T_pu rfl rfl (pu_assign rfl) ?_
      refine T_nil ?_
      refine W_seq ?_
      refine W_reg ?_
      refine T_pu rfl rfl (pu_move rfl) ?_
      refine T_pu rfl rfl (pu_assign rfl) ?_
      refine T_nil ?_
      refine W_cut (σ := Unit) (fun _ => [(4, .int .i64 d), (5, (.slice (some ⟨gA, 0, none⟩) d cA)), (6, (.slice (some ⟨gB, 0, none⟩) d cB)), (7, .int .i64 det), (34, .int .i64 d), (35, .int .i64 c1), (10, .int .i64 c1), (11, .int .i64 (findRow Z c1 c1))]) (fun _ w' => w4 = w') ?_ ?_
      · refine W_block ?_
        refine W_loop (σ := Nat) (fun a => [(4, .int .i64 d), (5, (.slice (some ⟨gA, 0, none⟩) d cA)), (6, (.slice (some ⟨gB, 0, none⟩) d cB)), (7, .int .i64 det), (34, .int .i64 d), (35, .int .i64 c1), (10, .int .i64 c1), (11, .int .i64 a)]) (fun a w' => w4 = w' ∧ a ≤ d ∧ findRow Z c1 a = findRow Z c1 c1) (fun a => d - a) c1 ?_ ?_ ?_
        · exact .cons rfl (.cons rfl (.cons rfl (.cons rfl (.cons rfl (.cons rfl (.cons rfl (.cons rfl (.nil _))))))))
        · exact ⟨rfl, by omega, rfl⟩
        rintro a w5 ⟨rfl, had, hfa⟩
        have hMA := hs.mat 0 rfl
        refine W_seq ?_
        refine W_seq ?_
        refine W_reg ?_
        refine T_pu rfl rfl (pu_move rfl) ?_
        refine T_pu rfl rfl (pu_move rfl) ?_
        refine T_pu rfl rfl (pu_lss rfl rfl) ?_
        refine T_if rfl rfl (pu_move rfl) (fun hg12_3 => ?_) (fun hg12_3 => ?_)
        · have ha1 : a < d := by omega
          obtain ⟨b1, cc1, hh1, hcA1, hO1⟩ := hMA.at (i := a) (by omega) (by rw [List.length_map]; omega) (hXA.rr (by omega) (by omega)).1 (by omega)
          have hr1 := (hXA.rr (i := a) (by omega) (by omega)).1
          refine T_pu rfl rfl (pu_move rfl) ?_
          refine T_pu rfl rfl (pu_move rfl) ?_
          refine T_pu rfl rfl ((by first | exact pu_ix1 Try.underlying32 ty22 rfl rfl (by omega) (by omega) | exact pu_index Try.underlying32 ty22 rfl rfl (by omega) (by omega))) ?_
          refine T_pi rfl rfl (pi_load Try.underlying22 rfl rfl (fun w' h => by obtain rfl := h; exact (by first | exact hcA1 | exact hO1.ri.at0 (by omega) (by omega)))) ?_
          refine T_pu rfl rfl (pu_move rfl) ?_
          refine T_pu rfl rfl ((by first | exact pu_ix1 Try.underlying22 ty2 rfl rfl (by omega) (by omega) | exact pu_index Try.underlying22 ty2 rfl rfl (by omega) (by omega))) ?_
          refine T_pi rfl rfl (pi_load Try.underlying2 rfl rfl (fun w' h => by obtain rfl := h; exact (by first | exact hcA1 | exact hO1.ri.at0 (by omega) (by omega)))) ?_
          refine T_pu rfl rfl (pu_eql rfl rfl) ?_
          refine T_pu rfl rfl (pu_pick_t rfl rfl) ?_
          refine T_nil ?_
          refine W_if rfl (fun hc12 => ?_) (fun hc12 => ?_)
          · refine W_skip ?_
            refine W_block ?_
            refine W_reg ?_
            refine T_pu rfl rfl (pu_move rfl) ?_
            refine T_pu rfl rfl (pu_add64 rfl rfl (by omega)) ?_
            refine T_pu rfl rfl (pu_assign rfl) ?_
            refine T_nil ?_
            exact ⟨a + 1, .cons rfl (.cons rfl (.cons rfl (.cons rfl (.cons rfl (.cons rfl (.cons rfl (.cons rfl (.nil _)))))))), ⟨rfl, by omega, by rw [← hfa]; exact (findRow_skip (by omega) (by rw [← rd2_take (d := d) (by omega) (by omega)]; exact hc12)).symm⟩, by omega⟩
          · refine W_exit rfl ?_
            refine ⟨(), .cons rfl (.cons rfl (.cons rfl (.cons rfl (.cons rfl (.cons rfl (.cons rfl (.cons ?_ (.nil _)))))))), rfl⟩
            rw [← hfa]
            first
              | (rw [findRow_hit (by omega) (by rw [← rd2_take (d := d) (by omega) (by omega)]; exact hc12)]; rfl)
              | (rw [findRow_end (by omega)]; rfl)
        · refine T_no rfl rfl ?_
          refine T_no rfl rfl ?_
          refine T_no rfl rfl ?_
          refine T_no rfl rfl ?_
          refine T_no rfl rfl ?_
          refine T_no rfl rfl ?_
          refine T_no rfl rfl ?_
          refine T_no rfl rfl ?_
          refine T_pu rfl rfl (pu_pick_f rfl rfl) ?_
          refine T_nil ?_
          refine W_false rfl ?_
          refine W_exit rfl ?_
          refine ⟨(), .cons rfl (.cons rfl (.cons rfl (.cons rfl (.cons rfl (.cons rfl (.cons rfl (.cons ?_ (.nil _)))))))), rfl⟩
          rw [← hfa]
          first
            | (rw [findRow_hit (by omega) (by rw [← rd2_take (d := d) (by omega) (by omega)]; exact hc12)]; rfl)
            | (rw [findRow_end (by omega)]; rfl)
      · rintro ⟨⟩ w5 rfl
        generalize hfe : findRow Z c1 c1 = a at *
        refine W_seq ?_
        refine W_seq ?_
        refine W_reg ?_
        refine T_pu rfl rfl (pu_move rfl) ?_
        refine T_pu rfl rfl (pu_move rfl) ?_
        refine T_pu rfl rfl (pu_eql rfl rfl) ?_
        refine T_nil ?_
        refine W_if rfl (fun hc14 => ?_) (fun hc14 => ?_)
        · refine W_seq ?_
          refine W_reg ?_
          refine T_pu rfl rfl (pu_assign rfl) ?_
          refine T_pu rfl rfl (pu_assign rfl) ?_
          refine T_nil ?_
          refine W_ret ?_
          have e := gjTo_none (d := d) (by omega) (show gjTo 10007 (augM xss) (c1 + 1) = none from by rw [hsucc, if_pos (by omega)])
          obtain ⟨e1, e2⟩ := hdn e
          refine Res_2 rfl rfl rfl ⟨_, by rw [e1], ?_⟩
          rw [e2]
          exact newM_none hs.kp
        · refine W_skip ?_
          refine W_seq ?_
          refine W_seq ?_
          rw [if_neg (show ¬ a = Z.length by omega)] at hsucc
          obtain ⟨hca, had⟩ : c1 ≤ a ∧ a < d := by omega
          clear hfl hv hrow hfr haL haR htk htkl htkn hZ0 hdn hds hgj hc14 hfe
          refine W_reg ?_
          refine T_pu rfl rfl (pu_move rfl) ?_
          refine T_pu rfl rfl (pu_move rfl) ?_
          refine T_pu rfl rfl (pu_neq rfl rfl) ?_
          refine T_nil ?_
          refine W_if rfl (fun hc16 => ?_) (fun hc16 => ?_)
          · refine W_seq ?_
            refine W_draw mixed 13 IS (fun w6 hk6 => ?_)
            have hs := hs.next hk6
            have hMA := hs.mat 0 rfl
            obtain ⟨b1, cc1, hh1, hcA1, hO1⟩ := hMA.at (i := a) (by omega) (by rw [List.length_map]; omega) (hXA.rr (by omega) (by omega)).1 (by omega)
            obtain ⟨b2, cc2, hh2, hcA2, hO2⟩ := hMA.at (i := c1) (by omega) (by rw [List.length_map]; omega) (hXA.rr (by omega) (by omega)).1 (by omega)
            have hH : Ow w6 22 1 (.slice (some ⟨gA, 0, none⟩) d cA) d hA := by have := hMA.head; rwa [hMA.len, List.length_map, hZl] at this
            have hdl : hA.length = d := by rw [hMA.len, List.length_map, hZl]
            refine D_pu 0 (by kernel_rfl) rfl (by kernel_rfl) (by kernel_rfl) rfl rfl (by kernel_rfl) (Pu.stable (pu_move rfl)) ?_
            refine D_pu 1 (by kernel_rfl) rfl (by kernel_rfl) (by kernel_rfl) rfl rfl (by kernel_rfl) (Pu.stable (pu_move rfl)) ?_
            refine D_pu 2 (by kernel_rfl) rfl (by kernel_rfl) (by kernel_rfl) rfl rfl (by kernel_rfl) (Pu.stable (pu_move rfl)) ?_
            refine D_pu 3 (by kernel_rfl) rfl (by kernel_rfl) (by kernel_rfl) rfl rfl (by kernel_rfl) (Pu.stable (pu_move rfl)) ?_
            refine D_pu 4 (by kernel_rfl) rfl (by kernel_rfl) (by kernel_rfl) rfl rfl (by kernel_rfl) (Pu.stable (pu_move rfl)) ?_
            refine D_pu 5 (by kernel_rfl) rfl (by kernel_rfl) (by kernel_rfl) rfl rfl (by kernel_rfl) (Pu.stable (pu_move rfl)) ?_
            refine D_pu 6 (by kernel_rfl) rfl (by kernel_rfl) (by kernel_rfl) rfl rfl (by kernel_rfl) (Pu.stable ((by first | exact pu_ix1 Try.underlying32 ty22 rfl rfl (by omega) (by omega) | exact pu_index Try.underlying32 ty22 rfl rfl (by omega) (by omega)))) ?_
            refine D_rd 7 (by kernel_rfl) rfl (by kernel_rfl) (by kernel_rfl) rfl rfl (by kernel_rfl) (by kernel_rfl) (by kernel_rfl) (pi_load Try.underlying22 rfl rfl (fun w' h => by obtain rfl := h rfl; exact (by first | exact hcA1 | exact hcA2))) ?_
            refine D_pu 8 (by kernel_rfl) rfl (by kernel_rfl) (by kernel_rfl) rfl rfl (by kernel_rfl) (Pu.stable (pu_move rfl)) ?_
            refine D_pu 9 (by kernel_rfl) rfl (by kernel_rfl) (by kernel_rfl) rfl rfl (by kernel_rfl) (Pu.stable (pu_move rfl)) ?_
            refine D_pu 10 (by kernel_rfl) rfl (by kernel_rfl) (by kernel_rfl) rfl rfl (by kernel_rfl) (Pu.stable ((by first | exact pu_ix1 Try.underlying32 ty22 rfl rfl (by omega) (by omega) | exact pu_index Try.underlying32 ty22 rfl rfl (by omega) (by omega)))) ?_
            refine D_rd 11 (by kernel_rfl) rfl (by kernel_rfl) (by kernel_rfl) rfl rfl (by kernel_rfl) (by kernel_rfl) (by kernel_rfl) (pi_load Try.underlying22 rfl rfl (fun w' h => by obtain rfl := h rfl; exact (by first | exact hcA1 | exact hcA2))) ?_
            refine D_pu 12 (by kernel_rfl) rfl (by kernel_rfl) (by kernel_rfl) rfl rfl (by kernel_rfl) (Pu.stable ((by first | exact pu_ix1 Try.underlying32 ty22 rfl rfl (by omega) (by omega) | exact pu_index Try.underlying32 ty22 rfl rfl (by omega) (by omega)))) ?_
            refine D_goN 13 (by kernel_rfl) (by first | rfl | (intro _; rfl) | (intro h; exact absurd (show true = false from h) (by decide)) | exact Kp.refl _ _ | assumption) rfl rfl (st_storeO ty22 rfl rfl hH rfl (by omega) fun w7 hk7 hH7 => ?_)
            refine D_pu 14 (by kernel_rfl) rfl (by kernel_rfl) (by kernel_rfl) rfl rfl (by kernel_rfl) (Pu.stable ((by first | exact pu_ix1 Try.underlying32 ty22 rfl rfl (by omega) (by omega) | exact pu_index Try.underlying32 ty22 rfl rfl (by omega) (by omega)))) ?_
            refine D_goN 15 (by kernel_rfl) (by first | rfl | (intro _; rfl) | (intro h; exact absurd (show true = false from h) (by decide)) | exact Kp.refl _ _ | assumption) rfl rfl (st_storeO ty22 rfl rfl hH7 rfl (by simp; omega) fun w8 hk8 hH8 => ?_)
            have hs := hs.swapM 0 rfl (r := c1) (a := a) (by rw [List.length_map]; omega) (by rw [List.length_map]; omega) (hk7.trans hk8 (fun _ _ h => h)) (by
              rw [hdl]
              rw [← swapL_hds2 (q1 := .slice (some ⟨b1, 0, none⟩) d cc1) (q2 := .slice (some ⟨b2, 0, none⟩) d cc2) (by simpa using hh1) (by simpa using hh2)]
              simpa using hH8)
            rw [swapL_map (take_nil' d)] at hs
            simp only [List.set_cons_zero] at hs
            refine D_done (by kernel_rfl) (by first | rfl | (intro _; rfl) | (intro h; exact absurd (show true = false from h) (by decide)) | exact Kp.refl _ _ | assumption) ?_
            refine W_seq ?_
            refine W_draw mixed 13 IS (fun w9 hk9 => ?_)
            have hs := hs.next hk9
            have hMB := hs.mat 1 rfl
            obtain ⟨b3, cc3, hh3, hcB1, hO3⟩ := hMB.at (i := a) (by omega) (by rw [List.length_map]; omega) (hXB.rr (by omega) (by omega)).1 (by omega)
            obtain ⟨b4, cc4, hh4, hcB2, hO4⟩ := hMB.at (i := c1) (by omega) (by rw [List.length_map]; omega) (hXB.rr (by omega) (by omega)).1 (by omega)
            have hH : Ow w9 22 1 (.slice (some ⟨gB, 0, none⟩) d cB) d hB := by have := hMB.head; rwa [hMB.len, List.length_map, hZl] at this
            have hdl : hB.length = d := by rw [hMB.len, List.length_map, hZl]
            refine D_pu 0 (by kernel_rfl) rfl (by kernel_rfl) (by kernel_rfl) rfl rfl (by kernel_rfl) (Pu.stable (pu_move rfl)) ?_
            refine D_pu 1 (by kernel_rfl) rfl (by kernel_rfl) (by kernel_rfl) rfl rfl (by kernel_rfl) (Pu.stable (pu_move rfl)) ?_
            refine D_pu 2 (by kernel_rfl) rfl (by kernel_rfl) (by kernel_rfl) rfl rfl (by kernel_rfl) (Pu.stable (pu_move rfl)) ?_
            refine D_pu 3 (by kernel_rfl) rfl (by kernel_rfl) (by kernel_rfl) rfl rfl (by kernel_rfl) (Pu.stable (pu_move rfl)) ?_
            refine D_pu 4 (by kernel_rfl) rfl (by kernel_rfl) (by kernel_rfl) rfl rfl (by kernel_rfl) (Pu.stable (pu_move rfl)) ?_
            refine D_pu 5 (by kernel_rfl) rfl (by kernel_rfl) (by kernel_rfl) rfl rfl (by kernel_rfl) (Pu.stable (pu_move rfl)) ?_
            refine D_pu 6 (by kernel_rfl) rfl (by kernel_rfl) (by kernel_rfl) rfl rfl (by kernel_rfl) (Pu.stable ((by first | exact pu_ix1 Try.underlying32 ty22 rfl rfl (by omega) (by omega) | exact pu_index Try.underlying32 ty22 rfl rfl (by omega) (by omega)))) ?_
            refine D_rd 7 (by kernel_rfl) rfl (by kernel_rfl) (by kernel_rfl) rfl rfl (by kernel_rfl) (by kernel_rfl) (by kernel_rfl) (pi_load Try.underlying22 rfl rfl (fun w' h => by obtain rfl := h rfl; exact (by first | exact hcB1 | exact hcB2))) ?_
            refine D_pu 8 (by kernel_rfl) rfl (by kernel_rfl) (by kernel_rfl) rfl rfl (by kernel_rfl) (Pu.stable (pu_move rfl)) ?_
            refine D_pu 9 (by kernel_rfl) rfl (by kernel_rfl) (by kernel_rfl) rfl rfl (by kernel_rfl) (Pu.stable (pu_move rfl)) ?_
            refine D_pu 10 (by kernel_rfl) rfl (by kernel_rfl) (by kernel_rfl) rfl rfl (by kernel_rfl) (Pu.stable ((by first | exact pu_ix1 Try.underlying32 ty22 rfl rfl (by omega) (by omega) | exact pu_index Try.underlying32 ty22 rfl rfl (by omega) (by omega)))) ?_
            refine D_rd 11 (by kernel_rfl) rfl (by kernel_rfl) (by kernel_rfl) rfl rfl (by kernel_rfl) (by kernel_rfl) (by kernel_rfl) (pi_load Try.underlying22 rfl rfl (fun w' h => by obtain rfl := h rfl; exact (by first | exact hcB1 | exact hcB2))) ?_
            refine D_pu 12 (by kernel_rfl) rfl (by kernel_rfl) (by kernel_rfl) rfl rfl (by kernel_rfl) (Pu.stable ((by first | exact pu_ix1 Try.underlying32 ty22 rfl rfl (by omega) (by omega) | exact pu_index Try.underlying32 ty22 rfl rfl (by omega) (by omega)))) ?_
            refine D_goN 13 (by kernel_rfl) (by first | rfl | (intro _; rfl) | (intro h; exact absurd (show true = false from h) (by decide)) | exact Kp.refl _ _ | assumption) rfl rfl (st_storeO ty22 rfl rfl hH rfl (by omega) fun w10 hk10 hH10 => ?_)
            refine D_pu 14 (by kernel_rfl) rfl (by kernel_rfl) (by kernel_rfl) rfl rfl (by kernel_rfl) (Pu.stable ((by first | exact pu_ix1 Try.underlying32 ty22 rfl rfl (by omega) (by omega) | exact pu_index Try.underlying32 ty22 rfl rfl (by omega) (by omega)))) ?_
            refine D_goN 15 (by kernel_rfl) (by first | rfl | (intro _; rfl) | (intro h; exact absurd (show true = false from h) (by decide)) | exact Kp.refl _ _ | assumption) rfl rfl (st_storeO ty22 rfl rfl hH10 rfl (by simp; omega) fun w11 hk11 hH11 => ?_)
            have hs := hs.swapM 1 rfl (r := c1) (a := a) (by rw [List.length_map]; omega) (by rw [List.length_map]; omega) (hk10.trans hk11 (fun _ _ h => h)) (by
              rw [hdl]
              rw [← swapL_hds2 (q1 := .slice (some ⟨b3, 0, none⟩) d cc3) (q2 := .slice (some ⟨b4, 0, none⟩) d cc4) (by simpa using hh3) (by simpa using hh4)]
              simpa using hH11)
            rw [swapL_map (drop_nil' d)] at hs
            simp only [List.set_cons_succ, List.set_cons_zero] at hs
            refine D_done (by kernel_rfl) (by first | rfl | (intro _; rfl) | (intro h; exact absurd (show true = false from h) (by decide)) | exact Kp.refl _ _ | assumption) ?_
            refine W_reg ?_
            refine T_pu rfl rfl (pu_move rfl) ?_
            refine T_pu rfl rfl (pu_neg64 rfl (by omega)) ?_
            refine T_go rfl rfl (st_call fn92 rfl ((inField_ok _ _).mono ?_))
            rintro v w' ⟨rfl, rfl⟩
            refine T_pu rfl rfl (pu_assign rfl) ?_
            refine T_nil ?_
            rw [if_neg (show ¬ a = c1 by omega)] at hsucc
            have hdtr : 0 ≤ (-det) % 10007 ∧ (-det) % 10007 < 10007 := ⟨Int.emod_nonneg _ (by omega), Int.emod_lt_of_pos _ (by omega)⟩
            generalize hdt : (-det) % 10007 = dt at *
            clear hdt hMA hh1 hcA1 hO1 hh2 hcA2 hO2 hH7 hH8 hMB hh3 hcB1 hO3 hh4 hcB2 hO4 hH10 hH11 hH hdl
            refine W_seq ?_
            have hZ1 := hZ.swap (r := c1) (a := a) (by omega) (by omega)
            generalize hZ1e : swapL Z c1 a [] = Z1 at *
            rw [hZl] at hsucc
            have hZ1l := hZ1.len
            have hXA1 := hZ1.left
            have hXB1 := hZ1.right
            have hpe : rd2 (Z1.map (List.take d)) c1 c1 = rd2 Z1 c1 c1 := rd2_take (by omega) (by omega)
            have hrA : ∀ i : Int, rr (Z1.map (List.take d)) i = (rr Z1 i).take d := rr_map (take_nil' d) Z1
            have hrB : ∀ i : Int, rr (Z1.map (List.drop d)) i = (rr Z1 i).drop d := rr_map (drop_nil' d) Z1
            have hsetA : ∀ (k : Nat) xs, (Z1.set k xs).map (List.take d) = (Z1.map (List.take d)).set k (xs.take d) := fun k xs => by rw [List.map_set]
            have hsetB : ∀ (k : Nat) xs, (Z1.set k xs).map (List.drop d) = (Z1.map (List.drop d)).set k (xs.drop d) := fun k xs => by rw [List.map_set]
            have hlA : (Z1.map (List.take d)).length = d := by rw [List.length_map]; exact hZ1l
            have hlB : (Z1.map (List.drop d)).length = d := by rw [List.length_map]; exact hZ1l
            generalize hXAe : Z1.map (List.take d) = XA at *
            generalize hXBe : Z1.map (List.drop d) = XB at *
            have hMA1 := hs.mat 0 rfl
            obtain ⟨b3, cc3, hh3, hcA3, hO3⟩ := hMA1.at (i := c1) (by omega) (by omega) (hXA1.rr (by omega) (by omega)).1 (by omega)
            have hr3 := (hXA1.rr (i := c1) (by omega) (by omega)).1
            have hr4 := (hXB1.rr (i := c1) (by omega) (by omega)).1
            obtain ⟨pv, hpve, hcpv⟩ := hO3.ri.at0x (i := c1) (by omega) (by omega)
            have hpv : 0 ≤ pv ∧ pv < 10007 := by rw [hpve.out]; exact hXA1.rd2 (i := c1) (j := c1) (by omega) (by omega) (by omega) (by omega)
            have hpz : Go.RowKit.Hid (rd2 Z1 c1 c1 = pv) := by show _ = _; rw [← hpe, hpve.out]; rfl
            rw [hpz.out] at hsucc
            clear hpe hO3 hZ hdet hXA hXB hZl hc16
            have hml := mul_range hdtr hpv (by omega)
            refine W_reg ?_
            refine T_pu rfl rfl (pu_move rfl) ?_
            refine T_pu rfl rfl (pu_move rfl) ?_
            refine T_pu rfl rfl (pu_move rfl) ?_
            refine T_pu rfl rfl ((by first | exact pu_ix1 Try.underlying32 ty22 rfl rfl (by omega) (by omega) | exact pu_index Try.underlying32 ty22 rfl rfl (by omega) (by omega))) ?_
            refine T_pi rfl rfl (pi_load Try.underlying22 rfl rfl (fun w' h => by obtain rfl := h; exact (by first | exact hcA3 | exact hcpv))) ?_
            refine T_pu rfl rfl (pu_move rfl) ?_
            refine T_pu rfl rfl ((by first | exact pu_ix1 Try.underlying22 ty2 rfl rfl (by omega) (by omega) | exact pu_index Try.underlying22 ty2 rfl rfl (by omega) (by omega))) ?_
            refine T_pi rfl rfl (pi_load Try.underlying2 rfl rfl (fun w' h => by obtain rfl := h; exact (by first | exact hcA3 | exact hcpv))) ?_
            refine T_pu rfl rfl (pu_mul64 rfl rfl (by omega)) ?_
            refine T_pu rfl rfl (pu_rem rfl rfl (by omega)) ?_
            refine T_pu rfl rfl (pu_assign rfl) ?_
            refine T_nil ?_
            refine W_seq ?_
            refine W_reg ?_
            refine T_pu rfl rfl (pu_move rfl) ?_
            refine T_pu rfl rfl (pu_move rfl) ?_
            refine T_pu rfl rfl ((by first | exact pu_ix1 Try.underlying32 ty22 rfl rfl (by omega) (by omega) | exact pu_index Try.underlying32 ty22 rfl rfl (by omega) (by omega))) ?_
            refine T_pi rfl rfl (pi_load Try.underlying22 rfl rfl (fun w' h => by obtain rfl := h; exact (by first | exact hcA3 | exact hcpv))) ?_
            refine T_pu rfl rfl (pu_move rfl) ?_
            refine T_pu rfl rfl ((by first | exact pu_ix1 Try.underlying22 ty2 rfl rfl (by omega) (by omega) | exact pu_index Try.underlying22 ty2 rfl rfl (by omega) (by omega))) ?_
            refine T_pi rfl rfl (pi_load Try.underlying2 rfl rfl (fun w' h => by obtain rfl := h; exact (by first | exact hcA3 | exact hcpv))) ?_
            refine T_go rfl rfl (st_call fn102 rfl ((inverseModulo_ok _ _ (by omega) hpv _).mono ?_))
            rintro v w' ⟨rfl, rfl⟩
            refine T_pu rfl rfl (pu_assign rfl) ?_
            refine T_nil ?_
            refine W_seq ?_
            refine W_seq ?_
            refine W_reg ?_
            refine T_pu rfl rfl (pu_move rfl) ?_
            refine T_pu rfl rfl (pu_move rfl) ?_
            refine T_nil ?_
            refine W_block ?_
            have hivr := invM_range (p := 10007) (x := pv) (by omega)
            obtain ⟨iv, hive, hivv⟩ : ∃ iv, Go.RowKit.Hid (invM pv 10007 = iv) ∧ 0 ≤ iv ∧ iv < 10007 := ⟨_, rfl, hivr⟩
            clear hivr
            have hivr := hivv
            obtain ⟨D, hDe⟩ : ∃ D, Go.RowKit.Hid (dt * pv % 10007 = D) := ⟨_, rfl⟩
            rw [hDe.out] at hsucc
            have hmt : Go.RowKit.Hid ((dt * pv).tmod 10007 = D) := (tmod_nn (p := 10007) hml.1).trans hDe.out
            clear hml
            have hsA : Go.RowKit.Hid ((scl 10007 iv (rr XA c1)).length = (rr XA c1).length) := scl_length _ _ _
            have hsB : Go.RowKit.Hid ((scl 10007 iv (rr XB c1)).length = (rr XB c1).length) := scl_length _ _ _
            refine W_loop (σ := Nat) (fun j => [(4, .int .i64 d), (5, (.slice (some ⟨gA, 0, none⟩) d cA)), (6, (.slice (some ⟨gB, 0, none⟩) d cB)), (7, .int .i64 D), (34, .int .i64 d), (35, .int .i64 c1), (10, .int .i64 c1), (12, .int .i64 iv), (109, .int .i64 d), (110, .int .i64 j)]) (fun j w' => j ≤ d ∧ ∃ hA1 hB1, St no w [aMat (.slice (some ⟨gA, 0, none⟩) d cA) hA1 (XA.set c1 (mixL (scl 10007 iv (rr XA c1)) (rr XA c1) j)), aMat (.slice (some ⟨gB, 0, none⟩) d cB) hB1 (XB.set c1 (mixL (scl 10007 iv (rr XB c1)) (rr XB c1) j))] w') (fun j => d - j) 0 ?_ ?_ ?_
            · exact .cons rfl (.cons rfl (.cons rfl (.cons (by rw [← hmt.out]; rfl) (.cons rfl (.cons rfl (.cons rfl (.cons (by rw [← hive.out]; rfl) (.cons rfl (.cons rfl (.nil _))))))))))
            · exact ⟨Nat.zero_le _, _, _, by rw [mixL_zero, mixL_zero, set_self_rr (by omega), set_self_rr (by omega)]; exact hs⟩
            clear hcA3 hcpv hh3 hMA1 hs hmt hDe
            rintro j w12 ⟨hjd, hA1, hB1, hs⟩
            refine W_seq ?_
            refine W_reg ?_
            refine T_pu rfl rfl (pu_lss rfl rfl) ?_
            refine T_nil ?_
            refine W_seq ?_
            refine W_if rfl (fun hc23 => ?_) (fun hc23 => ?_)
            · refine W_skip ?_
              refine W_seq ?_
              refine W_block ?_
              refine W_seq ?_
              refine W_reg ?_
              refine T_pu rfl rfl (pu_move rfl) ?_
              refine T_pu rfl rfl (pu_assign rfl) ?_
              refine T_nil ?_
              refine W_seq ?_
              refine W_draw mixed 16 IS (fun w13 hk13 => ?_)
              have hs := hs.next hk13
              have hM := hs.mat 0 rfl
              have hmk : rr (XA.set c1 (mixL (scl 10007 iv (rr XA c1)) (rr XA c1) j)) c1 = mixL (scl 10007 iv (rr XA c1)) (rr XA c1) j := rr_set_self (by omega)
              have hmkl : (mixL (scl 10007 iv (rr XA c1)) (rr XA c1) j).length = d := by rw [mixL_length hsA.out (by omega)]; exact hr3
              obtain ⟨b5, cc5, hh5, hcA5, hO5⟩ := hM.at (i := c1) (by omega) (by rw [List.length_set]; omega) (show List.length _ = d by rw [hmk]; exact hmkl) (by omega)
              rw [hmk] at hO5
              have hmx := mixL_rd hsA.out (x := j) (by omega)
              obtain ⟨x, hx, hcx⟩ := hO5.ri.at0x (i := j) (by omega) (by omega)
              have hxr : 0 ≤ x ∧ x < 10007 := by rw [hx.out, hmx]; exact (hXA1.rr (i := c1) (by omega) (by omega)).2.rd (by omega) (by omega)
              have hx : Go.RowKit.Hid (x = rd (rr XA c1) j) := hx.out.trans hmx
              clear hmx hmk hmkl hM hO5
              have hml2 := mul_range hxr hivr (by omega)
              refine D_pu 0 (by kernel_rfl) rfl (by kernel_rfl) (by kernel_rfl) rfl rfl (by kernel_rfl) (Pu.stable (pu_move rfl)) ?_
              refine D_pu 1 (by kernel_rfl) rfl (by kernel_rfl) (by kernel_rfl) rfl rfl (by kernel_rfl) (Pu.stable (pu_move rfl)) ?_
              refine D_pu 2 (by kernel_rfl) rfl (by kernel_rfl) (by kernel_rfl) rfl rfl (by kernel_rfl) (Pu.stable ((by first | exact pu_ix1 Try.underlying32 ty22 rfl rfl (by omega) (by omega) | exact pu_index Try.underlying32 ty22 rfl rfl (by omega) (by omega)))) ?_
              refine D_rd 3 (by kernel_rfl) rfl (by kernel_rfl) (by kernel_rfl) rfl rfl (by kernel_rfl) (by kernel_rfl) (by kernel_rfl) (pi_load Try.underlying22 rfl rfl (fun w' h => by obtain rfl := h rfl; exact (by first | exact hcA5 | exact hcx))) ?_
              refine D_pu 4 (by kernel_rfl) rfl (by kernel_rfl) (by kernel_rfl) rfl rfl (by kernel_rfl) (Pu.stable (pu_move rfl)) ?_
              refine D_pu 5 (by kernel_rfl) rfl (by kernel_rfl) (by kernel_rfl) rfl rfl (by kernel_rfl) (Pu.stable (pu_move rfl)) ?_
              refine D_pu 6 (by kernel_rfl) rfl (by kernel_rfl) (by kernel_rfl) rfl rfl (by kernel_rfl) (Pu.stable (pu_move rfl)) ?_
              refine D_pu 7 (by kernel_rfl) rfl (by kernel_rfl) (by kernel_rfl) rfl rfl (by kernel_rfl) (Pu.stable ((by first | exact pu_ix1 Try.underlying32 ty22 rfl rfl (by omega) (by omega) | exact pu_index Try.underlying32 ty22 rfl rfl (by omega) (by omega)))) ?_
              refine D_rd 8 (by kernel_rfl) rfl (by kernel_rfl) (by kernel_rfl) rfl rfl (by kernel_rfl) (by kernel_rfl) (by kernel_rfl) (pi_load Try.underlying22 rfl rfl (fun w' h => by obtain rfl := h rfl; exact (by first | exact hcA5 | exact hcx))) ?_
              refine D_pu 9 (by kernel_rfl) rfl (by kernel_rfl) (by kernel_rfl) rfl rfl (by kernel_rfl) (Pu.stable (pu_move rfl)) ?_
              refine D_pu 10 (by kernel_rfl) rfl (by kernel_rfl) (by kernel_rfl) rfl rfl (by kernel_rfl) (Pu.stable ((by first | exact pu_ix1 Try.underlying22 ty2 rfl rfl (by omega) (by omega) | exact pu_index Try.underlying22 ty2 rfl rfl (by omega) (by omega)))) ?_
              refine D_rd 11 (by kernel_rfl) rfl (by kernel_rfl) (by kernel_rfl) rfl rfl (by kernel_rfl) (by kernel_rfl) (by kernel_rfl) (pi_load Try.underlying2 rfl rfl (fun w' h => by obtain rfl := h rfl; exact (by first | exact hcA5 | exact hcx))) ?_
              refine D_pu 12 (by kernel_rfl) rfl (by kernel_rfl) (by kernel_rfl) rfl rfl (by kernel_rfl) (Pu.stable (pu_move rfl)) ?_
              refine D_pu 13 (by kernel_rfl) rfl (by kernel_rfl) (by kernel_rfl) rfl rfl (by kernel_rfl) (Pu.stable (pu_mul64 rfl rfl (by omega))) ?_
              refine D_pu 14 (by kernel_rfl) rfl (by kernel_rfl) (by kernel_rfl) rfl rfl (by kernel_rfl) (Pu.stable (pu_rem rfl rfl (by omega))) ?_
              refine D_pu 15 (by kernel_rfl) rfl (by kernel_rfl) (by kernel_rfl) rfl rfl (by kernel_rfl) (Pu.stable ((by first | exact pu_ix1 Try.underlying22 ty2 rfl rfl (by omega) (by omega) | exact pu_index Try.underlying22 ty2 rfl rfl (by omega) (by omega)))) ?_
              refine D_goN 16 (by kernel_rfl) (by first | rfl | (intro _; rfl) | (intro h; exact absurd (show true = false from h) (by decide)) | exact Kp.refl _ _ | assumption) rfl rfl (st_storeM hs 0 rfl (c1 : Int) (by omega) (by rw [List.length_set]; omega) hh5 ty2 rfl rfl (by omega) (by omega) fun w14 hk14 hs => ?_)
              rw [tmod_nn (by omega), hx.out, set2_set (by omega), Int.toNat_natCast, ← scl_rd (by omega), mixL_set hsA.out (by omega)] at hs
              simp only [List.set_cons_zero] at hs
              refine D_done (by kernel_rfl) (by first | rfl | (intro _; rfl) | (intro h; exact absurd (show true = false from h) (by decide)) | exact Kp.refl _ _ | assumption) ?_
              refine W_draw mixed 16 IS (fun w15 hk15 => ?_)
              have hs := hs.next hk15
              have hM := hs.mat 1 rfl
              have hmk : rr (XB.set c1 (mixL (scl 10007 iv (rr XB c1)) (rr XB c1) j)) c1 = mixL (scl 10007 iv (rr XB c1)) (rr XB c1) j := rr_set_self (by omega)
              have hmkl : (mixL (scl 10007 iv (rr XB c1)) (rr XB c1) j).length = d := by rw [mixL_length hsB.out (by omega)]; exact hr4
              obtain ⟨b5, cc5, hh5, hcA5, hO5⟩ := hM.at (i := c1) (by omega) (by rw [List.length_set]; omega) (show List.length _ = d by rw [hmk]; exact hmkl) (by omega)
              rw [hmk] at hO5
              have hmx := mixL_rd hsB.out (x := j) (by omega)
              obtain ⟨x, hx, hcx⟩ := hO5.ri.at0x (i := j) (by omega) (by omega)
              have hxr : 0 ≤ x ∧ x < 10007 := by rw [hx.out, hmx]; exact (hXB1.rr (i := c1) (by omega) (by omega)).2.rd (by omega) (by omega)
              have hx : Go.RowKit.Hid (x = rd (rr XB c1) j) := hx.out.trans hmx
              clear hmx hmk hmkl hM hO5
              have hml2 := mul_range hxr hivr (by omega)
              refine D_pu 0 (by kernel_rfl) rfl (by kernel_rfl) (by kernel_rfl) rfl rfl (by kernel_rfl) (Pu.stable (pu_move rfl)) ?_
              refine D_pu 1 (by kernel_rfl) rfl (by kernel_rfl) (by kernel_rfl) rfl rfl (by kernel_rfl) (Pu.stable (pu_move rfl)) ?_
              refine D_pu 2 (by kernel_rfl) rfl (by kernel_rfl) (by kernel_rfl) rfl rfl (by kernel_rfl) (Pu.stable ((by first | exact pu_ix1 Try.underlying32 ty22 rfl rfl (by omega) (by omega) | exact pu_index Try.underlying32 ty22 rfl rfl (by omega) (by omega)))) ?_
              refine D_rd 3 (by kernel_rfl) rfl (by kernel_rfl) (by kernel_rfl) rfl rfl (by kernel_rfl) (by kernel_rfl) (by kernel_rfl) (pi_load Try.underlying22 rfl rfl (fun w' h => by obtain rfl := h rfl; exact (by first | exact hcA5 | exact hcx))) ?_
              refine D_pu 4 (by kernel_rfl) rfl (by kernel_rfl) (by kernel_rfl) rfl rfl (by kernel_rfl) (Pu.stable (pu_move rfl)) ?_
              refine D_pu 5 (by kernel_rfl) rfl (by kernel_rfl) (by kernel_rfl) rfl rfl (by kernel_rfl) (Pu.stable (pu_move rfl)) ?_
              refine D_pu 6 (by kernel_rfl) rfl (by kernel_rfl) (by kernel_rfl) rfl rfl (by kernel_rfl) (Pu.stable (pu_move rfl)) ?_
              refine D_pu 7 (by kernel_rfl) rfl (by kernel_rfl) (by kernel_rfl) rfl rfl (by kernel_rfl) (Pu.stable ((by first | exact pu_ix1 Try.underlying32 ty22 rfl rfl (by omega) (by omega) | exact pu_index Try.underlying32 ty22 rfl rfl (by omega) (by omega)))) ?_
              refine D_rd 8 (by kernel_rfl) rfl (by kernel_rfl) (by kernel_rfl) rfl rfl (by kernel_rfl) (by kernel_rfl) (by kernel_rfl) (pi_load Try.underlying22 rfl rfl (fun w' h => by obtain rfl := h rfl; exact (by first | exact hcA5 | exact hcx))) ?_
              refine D_pu 9 (by kernel_rfl) rfl (by kernel_rfl) (by kernel_rfl) rfl rfl (by kernel_rfl) (Pu.stable (pu_move rfl)) ?_
              refine D_pu 10 (by kernel_rfl) rfl (by kernel_rfl) (by kernel_rfl) rfl rfl (by kernel_rfl) (Pu.stable ((by first | exact pu_ix1 Try.underlying22 ty2 rfl rfl (by omega) (by omega) | exact pu_index Try.underlying22 ty2 rfl rfl (by omega) (by omega)))) ?_
              refine D_rd 11 (by kernel_rfl) rfl (by kernel_rfl) (by kernel_rfl) rfl rfl (by kernel_rfl) (by kernel_rfl) (by kernel_rfl) (pi_load Try.underlying2 rfl rfl (fun w' h => by obtain rfl := h rfl; exact (by first | exact hcA5 | exact hcx))) ?_
              refine D_pu 12 (by kernel_rfl) rfl (by kernel_rfl) (by kernel_rfl) rfl rfl (by kernel_rfl) (Pu.stable (pu_move rfl)) ?_
              refine D_pu 13 (by kernel_rfl) rfl (by kernel_rfl) (by kernel_rfl) rfl rfl (by kernel_rfl) (Pu.stable (pu_mul64 rfl rfl (by omega))) ?_
              refine D_pu 14 (by kernel_rfl) rfl (by kernel_rfl) (by kernel_rfl) rfl rfl (by kernel_rfl) (Pu.stable (pu_rem rfl rfl (by omega))) ?_
              refine D_pu 15 (by kernel_rfl) rfl (by kernel_rfl) (by kernel_rfl) rfl rfl (by kernel_rfl) (Pu.stable ((by first | exact pu_ix1 Try.underlying22 ty2 rfl rfl (by omega) (by omega) | exact pu_index Try.underlying22 ty2 rfl rfl (by omega) (by omega)))) ?_
              refine D_goN 16 (by kernel_rfl) (by first | rfl | (intro _; rfl) | (intro h; exact absurd (show true = false from h) (by decide)) | exact Kp.refl _ _ | assumption) rfl rfl (st_storeM hs 1 rfl (c1 : Int) (by omega) (by rw [List.length_set]; omega) hh5 ty2 rfl rfl (by omega) (by omega) fun w16 hk16 hs => ?_)
              rw [tmod_nn (by omega), hx.out, set2_set (by omega), Int.toNat_natCast, ← scl_rd (by omega), mixL_set hsB.out (by omega)] at hs
              simp only [List.set_cons_succ, List.set_cons_zero] at hs
              refine D_done (by kernel_rfl) (by first | rfl | (intro _; rfl) | (intro h; exact absurd (show true = false from h) (by decide)) | exact Kp.refl _ _ | assumption) ?_
              refine W_reg ?_
              refine T_pu rfl rfl (pu_add64 rfl rfl (by omega)) ?_
              refine T_pu rfl rfl (pu_move rfl) ?_
              refine T_nil ?_
              exact ⟨j + 1, .cons rfl (.cons rfl (.cons rfl (.cons rfl (.cons rfl (.cons rfl (.cons rfl (.cons rfl (.cons rfl (.cons rfl (.nil _)))))))))), ⟨by omega, _, _, hs⟩, by omega⟩
            · refine W_exit rfl ?_
              refine W_seq ?_
              have hs : St no w [aMat (.slice (some ⟨gA, 0, none⟩) d cA) hA1 ((Z1.set c1 (scl 10007 iv (rr Z1 c1))).map (List.take d)), aMat (.slice (some ⟨gB, 0, none⟩) d cB) hB1 ((Z1.set c1 (scl 10007 iv (rr Z1 c1))).map (List.drop d))] w12 := by
                rw [hsetA, hsetB, scl_take, scl_drop, ← hrA, ← hrB]
                have e1 := mixL_all hsA.out
                have e2 := mixL_all hsB.out
                rw [hr3] at e1
                rw [hr4] at e2
                rw [show j = d from by omega, e1, e2] at hs
                exact hs
              have hZ2 := hZ1.scl (iv := iv) (c := c1) (by omega) (by omega)
              have hgin : gjIn 10007 c1 Z1 d = gjRows 10007 c1 (Z1.set c1 (scl 10007 iv (rr Z1 c1))) d := by unfold gjIn; rw [hpz.out, hive.out]
              rw [hgin] at hsucc
              generalize hZ2e : Z1.set c1 (scl 10007 iv (rr Z1 c1)) = Z2 at *
              clear hsetA hsetB hrA hrB hZ2e hgin hsA hsB hive hivv hivr hpz hpve hpv hr3 hr4 hlA hlB hXA1 hXB1 hXAe hXBe hZ1 hZ1l hdtr hc23 hjd
              refine W_reg ?_
              refine T_pu rfl rfl (pu_move rfl) ?_
              refine T_pu rfl rfl (pu_move rfl) ?_
              refine T_nil ?_
              refine W_block ?_
              refine W_loop (σ := Nat) (fun k => [(4, .int .i64 d), (5, (.slice (some ⟨gA, 0, none⟩) d cA)), (6, (.slice (some ⟨gB, 0, none⟩) d cB)), (7, .int .i64 D), (34, .int .i64 d), (35, .int .i64 c1), (10, .int .i64 c1), (146, .int .i64 d), (147, .int .i64 k)]) (fun k w' => k ≤ d ∧ ∃ hA2 hB2, St no w [aMat (.slice (some ⟨gA, 0, none⟩) d cA) hA2 ((gjRows 10007 c1 Z2 k).map (List.take d)), aMat (.slice (some ⟨gB, 0, none⟩) d cB) hB2 ((gjRows 10007 c1 Z2 k).map (List.drop d))] w') (fun k => d - k) 0 ?_ ?_ ?_
              · exact .cons rfl (.cons rfl (.cons rfl (.cons rfl (.cons rfl (.cons rfl (.cons rfl (.cons rfl (.cons rfl (.nil _)))))))))
              · exact ⟨Nat.zero_le _, _, _, hs⟩
              clear hs
              rintro k w17 ⟨hkd2, hA2, hB2, hs⟩
              have hgs := gjRows_succ (p := 10007) (c := c1) (Z := Z2) (k := k)
              have hY := hZ2.gjRows (c := c1) (by omega) (by omega) k hkd2
              generalize hYe : gjRows 10007 c1 Z2 k = Y at *
              have hYl := hY.len
              have hYA := hY.left
              have hYB := hY.right
              have hrA : ∀ i : Int, rr (Y.map (List.take d)) i = (rr Y i).take d := rr_map (take_nil' d) Y
              have hrB : ∀ i : Int, rr (Y.map (List.drop d)) i = (rr Y i).drop d := rr_map (drop_nil' d) Y
              have hsetA : ∀ (k : Nat) xs, (Y.set k xs).map (List.take d) = (Y.map (List.take d)).set k (xs.take d) := fun k xs => by rw [List.map_set]
              have hsetB : ∀ (k : Nat) xs, (Y.set k xs).map (List.drop d) = (Y.map (List.drop d)).set k (xs.drop d) := fun k xs => by rw [List.map_set]
              refine W_seq ?_
              refine W_reg ?_
              refine T_pu rfl rfl (pu_lss rfl rfl) ?_
              refine T_nil ?_
              refine W_seq ?_
              refine W_if rfl (fun hc29 => ?_) (fun hc29 => ?_)
              · refine W_skip ?_
                refine W_seq ?_
                refine W_block ?_
                refine W_seq ?_
                refine W_reg ?_
                refine T_pu rfl rfl (pu_move rfl) ?_
                refine T_pu rfl rfl (pu_assign rfl) ?_
                refine T_nil ?_
                refine W_seq ?_
                have hlA2 : (Y.map (List.take d)).length = d := by rw [List.length_map]; exact hYl
                have hlB2 : (Y.map (List.drop d)).length = d := by rw [List.length_map]; exact hYl
                have hpf : Go.RowKit.Hid (rd2 (Y.map (List.take d)) k c1 = rd2 Y k c1) := rd2_take (by omega) (by omega)
                generalize hYAe : Y.map (List.take d) = YA at *
                generalize hYBe : Y.map (List.drop d) = YB at *
                have hMA2 := hs.mat 0 rfl
                obtain ⟨b6, cc6, hh6, hcA6, hO6⟩ := hMA2.at (i := k) (by omega) (by omega) (hYA.rr (by omega) (by omega)).1 (by omega)
                have hr6 := (hYA.rr (i := k) (by omega) (by omega)).1
                have hr7 := (hYB.rr (i := k) (by omega) (by omega)).1
                have hr8 := (hYA.rr (i := c1) (by omega) (by omega)).1
                have hr9 := (hYB.rr (i := c1) (by omega) (by omega)).1
                obtain ⟨f, hfe, hcf⟩ := hO6.ri.at0x (i := c1) (by omega) (by omega)
                have hfr1 : 0 ≤ f ∧ f < 10007 := by rw [hfe.out]; exact hYA.rd2 (i := k) (j := c1) (by omega) (by omega) (by omega) (by omega)
                have hfz : Go.RowKit.Hid (rd2 Y k c1 = f) := by show _ = _; rw [← hpf.out, hfe.out]; rfl
                clear hpf hO6
                refine W_reg ?_
                refine T_pu rfl rfl (pu_move rfl) ?_
                refine T_pu rfl rfl (pu_move rfl) ?_
                refine T_pu rfl rfl ((by first | exact pu_ix1 Try.underlying32 ty22 rfl rfl (by omega) (by omega) | exact pu_index Try.underlying32 ty22 rfl rfl (by omega) (by omega))) ?_
                refine T_pi rfl rfl (pi_load Try.underlying22 rfl rfl (fun w' h => by obtain rfl := h; exact (by first | exact hcA6 | exact hcf))) ?_
                refine T_pu rfl rfl (pu_move rfl) ?_
                refine T_pu rfl rfl ((by first | exact pu_ix1 Try.underlying22 ty2 rfl rfl (by omega) (by omega) | exact pu_index Try.underlying22 ty2 rfl rfl (by omega) (by omega))) ?_
                refine T_pi rfl rfl (pi_load Try.underlying2 rfl rfl (fun w' h => by obtain rfl := h; exact (by first | exact hcA6 | exact hcf))) ?_
                refine T_pu rfl rfl (pu_assign rfl) ?_
                refine T_nil ?_
                refine W_seq ?_
                refine W_seq ?_
                refine W_reg ?_
                refine T_pu rfl rfl (pu_move rfl) ?_
                refine T_pu rfl rfl (pu_move rfl) ?_
                refine T_pu rfl rfl (pu_eql rfl rfl) ?_
                refine T_if rfl rfl (pu_move rfl) (fun hg32_3 => ?_) (fun hg32_3 => ?_)
                · refine T_no rfl rfl ?_
                  refine T_no rfl rfl ?_
                  refine T_pu rfl rfl (pu_pick_t rfl rfl) ?_
                  refine T_nil ?_
                  refine W_true rfl ?_
                  refine W_exit rfl ?_
                  refine W_reg ?_
                  refine T_pu rfl rfl (pu_add64 rfl rfl (by omega)) ?_
                  refine T_pu rfl rfl (pu_move rfl) ?_
                  refine T_nil ?_
                  first
                    | (have hkc : (k : Int) = c1 := hg32_3
                       have e : gjRow 10007 c1 Y k = Y := by unfold gjRow; rw [if_pos (.inl (Int.ofNat.inj hkc))]
                       refine ⟨k + 1, .cons rfl (.cons rfl (.cons rfl (.cons rfl (.cons rfl (.cons rfl (.cons rfl (.cons rfl (.cons rfl (.nil _))))))))), ⟨by omega, hA2, hB2, ?_⟩, by omega⟩
                       rw [hgs, e, hYAe, hYBe]
                       exact hs)
                    | (have hf0 : f = 0 := hc32
                       have e : gjRow 10007 c1 Y k = Y := by unfold gjRow; rw [if_pos (.inr (by rw [hfz.out]; exact hf0))]
                       refine ⟨k + 1, .cons rfl (.cons rfl (.cons rfl (.cons rfl (.cons rfl (.cons rfl (.cons rfl (.cons rfl (.cons rfl (.nil _))))))))), ⟨by omega, hA2, hB2, ?_⟩, by omega⟩
                       rw [hgs, e, hYAe, hYBe]
                       exact hs)
                    | (have e : gjRow 10007 c1 Y k = Y.set k (axpy 10007 f (rr Y k) (rr Y c1)) := by unfold gjRow; rw [hfz.out, if_neg (fun h => h.elim (fun h => hg32_3 (by rw [h])) hc32)]
                       refine ⟨k + 1, .cons rfl (.cons rfl (.cons rfl (.cons rfl (.cons rfl (.cons rfl (.cons rfl (.cons rfl (.cons rfl (.nil _))))))))), ⟨by omega, hA3, hB3, ?_⟩, by omega⟩
                       rw [hgs, e, hsetA, hsetB, axpy_take, axpy_drop, ← hrA, ← hrB, ← hrA, ← hrB]
                       have e1 := mixL_all haA.out
                       have e2 := mixL_all haB.out
                       rw [hr6] at e1
                       rw [hr7] at e2
                       rw [show j = d from by omega, e1, e2] at hs
                       exact hs)
                · refine T_pu rfl rfl (pu_move rfl) ?_
                  refine T_pu rfl rfl (pu_eql rfl rfl) ?_
                  refine T_pu rfl rfl (pu_pick_f rfl rfl) ?_
                  refine T_nil ?_
                  refine W_if rfl (fun hc32 => ?_) (fun hc32 => ?_)
                  · refine W_exit rfl ?_
                    refine W_reg ?_
                    refine T_pu rfl rfl (pu_add64 rfl rfl (by omega)) ?_
                    refine T_pu rfl rfl (pu_move rfl) ?_
                    refine T_nil ?_
                    first
                      | (have hkc : (k : Int) = c1 := hg32_3
                         have e : gjRow 10007 c1 Y k = Y := by unfold gjRow; rw [if_pos (.inl (Int.ofNat.inj hkc))]
                         refine ⟨k + 1, .cons rfl (.cons rfl (.cons rfl (.cons rfl (.cons rfl (.cons rfl (.cons rfl (.cons rfl (.cons rfl (.nil _))))))))), ⟨by omega, hA2, hB2, ?_⟩, by omega⟩
                         rw [hgs, e, hYAe, hYBe]
                         exact hs)
                      | (have hf0 : f = 0 := hc32
                         have e : gjRow 10007 c1 Y k = Y := by unfold gjRow; rw [if_pos (.inr (by rw [hfz.out]; exact hf0))]
                         refine ⟨k + 1, .cons rfl (.cons rfl (.cons rfl (.cons rfl (.cons rfl (.cons rfl (.cons rfl (.cons rfl (.cons rfl (.nil _))))))))), ⟨by omega, hA2, hB2, ?_⟩, by omega⟩
                         rw [hgs, e, hYAe, hYBe]
                         exact hs)
                      | (have e : gjRow 10007 c1 Y k = Y.set k (axpy 10007 f (rr Y k) (rr Y c1)) := by unfold gjRow; rw [hfz.out, if_neg (fun h => h.elim (fun h => hg32_3 (by rw [h])) hc32)]
                         refine ⟨k + 1, .cons rfl (.cons rfl (.cons rfl (.cons rfl (.cons rfl (.cons rfl (.cons rfl (.cons rfl (.cons rfl (.nil _))))))))), ⟨by omega, hA3, hB3, ?_⟩, by omega⟩
                         rw [hgs, e, hsetA, hsetB, axpy_take, axpy_drop, ← hrA, ← hrB, ← hrA, ← hrB]
                         have e1 := mixL_all haA.out
                         have e2 := mixL_all haB.out
                         rw [hr6] at e1
                         rw [hr7] at e2
                         rw [show j = d from by omega, e1, e2] at hs
                         exact hs)
                  · refine W_skip ?_
                    refine W_seq ?_
                    refine W_reg ?_
                    refine T_pu rfl rfl (pu_move rfl) ?_
                    refine T_pu rfl rfl (pu_move rfl) ?_
                    refine T_nil ?_
                    refine W_block ?_
                    clear hcA6 hcf hh6 hMA2
                    have haA : Go.RowKit.Hid ((axpy 10007 f (rr YA k) (rr YA c1)).length = (rr YA k).length) := by show _ = _; rw [(axpy_ok (by omega) hr6 hr8).1, hr6]
                    have haB : Go.RowKit.Hid ((axpy 10007 f (rr YB k) (rr YB c1)).length = (rr YB k).length) := by show _ = _; rw [(axpy_ok (by omega) hr7 hr9).1, hr7]
                    refine W_loop (σ := Nat) (fun j => [(4, .int .i64 d), (5, (.slice (some ⟨gA, 0, none⟩) d cA)), (6, (.slice (some ⟨gB, 0, none⟩) d cB)), (7, .int .i64 D), (34, .int .i64 d), (35, .int .i64 c1), (10, .int .i64 c1), (146, .int .i64 d), (147, .int .i64 k), (14, .int .i64 k), (15, .int .i64 f), (164, .int .i64 d), (165, .int .i64 j)]) (fun j w' => j ≤ d ∧ ∃ hA2 hB2, St no w [aMat (.slice (some ⟨gA, 0, none⟩) d cA) hA2 (YA.set k (mixL (axpy 10007 f (rr YA k) (rr YA c1)) (rr YA k) j)), aMat (.slice (some ⟨gB, 0, none⟩) d cB) hB2 (YB.set k (mixL (axpy 10007 f (rr YB k) (rr YB c1)) (rr YB k) j))] w') (fun j => d - j) 0 ?_ ?_ ?_
                    · exact .cons rfl (.cons rfl (.cons rfl (.cons rfl (.cons rfl (.cons rfl (.cons rfl (.cons rfl (.cons rfl (.cons rfl (.cons rfl (.cons rfl (.cons rfl (.nil _)))))))))))))
                    · exact ⟨Nat.zero_le _, _, _, by rw [mixL_zero, mixL_zero, set_self_rr (by omega), set_self_rr (by omega)]; exact hs⟩
                    clear hs
                    rintro j w18 ⟨hjd, hA3, hB3, hs⟩
                    refine W_seq ?_
                    refine W_reg ?_
                    refine T_pu rfl rfl (pu_lss rfl rfl) ?_
                    refine T_nil ?_
                    refine W_seq ?_
                    refine W_if rfl (fun hc34 => ?_) (fun hc34 => ?_)
                    · refine W_skip ?_
                      refine W_seq ?_
                      refine W_block ?_
                      refine W_seq ?_
                      refine W_reg ?_
                      refine T_pu rfl rfl (pu_move rfl) ?_
                      refine T_pu rfl rfl (pu_assign rfl) ?_
                      refine T_nil ?_
                      refine W_seq ?_
                      refine W_draw mixed 24 IS (fun w19 hk19 => ?_)
                      have hs := hs.next hk19
                      have hM := hs.mat 0 rfl
                      have hmk : rr (YA.set k (mixL (axpy 10007 f (rr YA k) (rr YA c1)) (rr YA k) j)) k = mixL (axpy 10007 f (rr YA k) (rr YA c1)) (rr YA k) j := rr_set_self (by omega)
                      have hmc : rr (YA.set k (mixL (axpy 10007 f (rr YA k) (rr YA c1)) (rr YA k) j)) c1 = rr YA c1 := rr_set_ne (by omega)
                      have hmkl : (mixL (axpy 10007 f (rr YA k) (rr YA c1)) (rr YA k) j).length = d := by rw [mixL_length haA.out (by omega)]; exact hr6
                      obtain ⟨b5, cc5, hh5, hcA5, hO5⟩ := hM.at (i := k) (by omega) (by rw [List.length_set]; omega) (show List.length _ = d by rw [hmk]; exact hmkl) (by omega)
                      obtain ⟨b7, cc7, hh7, hcA7, hO7⟩ := hM.at (i := c1) (by omega) (by rw [List.length_set]; omega) (show List.length _ = d by rw [hmc]; exact hr8) (by omega)
                      rw [hmk] at hO5
                      rw [hmc] at hO7
                      have hmx := mixL_rd haA.out (x := j) (by omega)
                      obtain ⟨x, hx, hcx⟩ := hO5.ri.at0x (i := j) (by omega) (by omega)
                      obtain ⟨y, hy, hcy⟩ := hO7.ri.at0x (i := j) (by omega) (by omega)
                      have hxr : 0 ≤ x ∧ x < 10007 := by rw [hx.out, hmx]; exact (hYA.rr (i := k) (by omega) (by omega)).2.rd (by omega) (by omega)
                      have hyr : 0 ≤ y ∧ y < 10007 := by rw [hy.out]; exact (hYA.rr (i := c1) (by omega) (by omega)).2.rd (by omega) (by omega)
                      have hx : Go.RowKit.Hid (x = rd (rr YA k) j) := hx.out.trans hmx
                      clear hmx hmk hmkl hmc hM hO5 hO7
                      have hml2 := mul_range hfr1 hyr (by omega)
                      refine D_pu 0 (by kernel_rfl) rfl (by kernel_rfl) (by kernel_rfl) rfl rfl (by kernel_rfl) (Pu.stable (pu_move rfl)) ?_
                      refine D_pu 1 (by kernel_rfl) rfl (by kernel_rfl) (by kernel_rfl) rfl rfl (by kernel_rfl) (Pu.stable (pu_move rfl)) ?_
                      refine D_pu 2 (by kernel_rfl) rfl (by kernel_rfl) (by kernel_rfl) rfl rfl (by kernel_rfl) (Pu.stable ((by first | exact pu_ix1 Try.underlying32 ty22 rfl rfl (by omega) (by omega) | exact pu_index Try.underlying32 ty22 rfl rfl (by omega) (by omega)))) ?_
                      refine D_rd 3 (by kernel_rfl) rfl (by kernel_rfl) (by kernel_rfl) rfl rfl (by kernel_rfl) (by kernel_rfl) (by kernel_rfl) (pi_load Try.underlying22 rfl rfl (fun w' h => by obtain rfl := h rfl; exact (by first | exact hcA5 | exact hcA7 | exact hcx | exact hcy))) ?_
                      refine D_pu 4 (by kernel_rfl) rfl (by kernel_rfl) (by kernel_rfl) rfl rfl (by kernel_rfl) (Pu.stable (pu_move rfl)) ?_
                      refine D_pu 5 (by kernel_rfl) rfl (by kernel_rfl) (by kernel_rfl) rfl rfl (by kernel_rfl) (Pu.stable (pu_move rfl)) ?_
                      refine D_pu 6 (by kernel_rfl) rfl (by kernel_rfl) (by kernel_rfl) rfl rfl (by kernel_rfl) (Pu.stable (pu_move rfl)) ?_
                      refine D_pu 7 (by kernel_rfl) rfl (by kernel_rfl) (by kernel_rfl) rfl rfl (by kernel_rfl) (Pu.stable ((by first | exact pu_ix1 Try.underlying32 ty22 rfl rfl (by omega) (by omega) | exact pu_index Try.underlying32 ty22 rfl rfl (by omega) (by omega)))) ?_
                      refine D_rd 8 (by kernel_rfl) rfl (by kernel_rfl) (by kernel_rfl) rfl rfl (by kernel_rfl) (by kernel_rfl) (by kernel_rfl) (pi_load Try.underlying22 rfl rfl (fun w' h => by obtain rfl := h rfl; exact (by first | exact hcA5 | exact hcA7 | exact hcx | exact hcy))) ?_
                      refine D_pu 9 (by kernel_rfl) rfl (by kernel_rfl) (by kernel_rfl) rfl rfl (by kernel_rfl) (Pu.stable (pu_move rfl)) ?_
                      refine D_pu 10 (by kernel_rfl) rfl (by kernel_rfl) (by kernel_rfl) rfl rfl (by kernel_rfl) (Pu.stable ((by first | exact pu_ix1 Try.underlying22 ty2 rfl rfl (by omega) (by omega) | exact pu_index Try.underlying22 ty2 rfl rfl (by omega) (by omega)))) ?_
                      refine D_rd 11 (by kernel_rfl) rfl (by kernel_rfl) (by kernel_rfl) rfl rfl (by kernel_rfl) (by kernel_rfl) (by kernel_rfl) (pi_load Try.underlying2 rfl rfl (fun w' h => by obtain rfl := h rfl; exact (by first | exact hcA5 | exact hcA7 | exact hcx | exact hcy))) ?_
                      refine D_pu 12 (by kernel_rfl) rfl (by kernel_rfl) (by kernel_rfl) rfl rfl (by kernel_rfl) (Pu.stable (pu_move rfl)) ?_
                      refine D_pu 13 (by kernel_rfl) rfl (by kernel_rfl) (by kernel_rfl) rfl rfl (by kernel_rfl) (Pu.stable (pu_move rfl)) ?_
                      refine D_pu 14 (by kernel_rfl) rfl (by kernel_rfl) (by kernel_rfl) rfl rfl (by kernel_rfl) (Pu.stable (pu_move rfl)) ?_
                      refine D_pu 15 (by kernel_rfl) rfl (by kernel_rfl) (by kernel_rfl) rfl rfl (by kernel_rfl) (Pu.stable ((by first | exact pu_ix1 Try.underlying32 ty22 rfl rfl (by omega) (by omega) | exact pu_index Try.underlying32 ty22 rfl rfl (by omega) (by omega)))) ?_
                      refine D_rd 16 (by kernel_rfl) rfl (by kernel_rfl) (by kernel_rfl) rfl rfl (by kernel_rfl) (by kernel_rfl) (by kernel_rfl) (pi_load Try.underlying22 rfl rfl (fun w' h => by obtain rfl := h rfl; exact (by first | exact hcA5 | exact hcA7 | exact hcx | exact hcy))) ?_
                      refine D_pu 17 (by kernel_rfl) rfl (by kernel_rfl) (by kernel_rfl) rfl rfl (by kernel_rfl) (Pu.stable (pu_move rfl)) ?_
                      refine D_pu 18 (by kernel_rfl) rfl (by kernel_rfl) (by kernel_rfl) rfl rfl (by kernel_rfl) (Pu.stable ((by first | exact pu_ix1 Try.underlying22 ty2 rfl rfl (by omega) (by omega) | exact pu_index Try.underlying22 ty2 rfl rfl (by omega) (by omega)))) ?_
                      refine D_rd 19 (by kernel_rfl) rfl (by kernel_rfl) (by kernel_rfl) rfl rfl (by kernel_rfl) (by kernel_rfl) (by kernel_rfl) (pi_load Try.underlying2 rfl rfl (fun w' h => by obtain rfl := h rfl; exact (by first | exact hcA5 | exact hcA7 | exact hcx | exact hcy))) ?_
                      refine D_pu 20 (by kernel_rfl) rfl (by kernel_rfl) (by kernel_rfl) rfl rfl (by kernel_rfl) (Pu.stable (pu_mul64 rfl rfl (by omega))) ?_
                      refine D_pu 21 (by kernel_rfl) rfl (by kernel_rfl) (by kernel_rfl) rfl rfl (by kernel_rfl) (Pu.stable (pu_sub64 rfl rfl (by omega))) ?_
                      refine D_go 22 (by kernel_rfl) (by first | rfl | (intro _; rfl) | (intro h; exact absurd (show true = false from h) (by decide)) | exact Kp.refl _ _ | assumption) rfl rfl rfl (st_call fn92 rfl ((inField_ok _ _).mono ?_))
                      rintro v w' ⟨rfl, rfl⟩
                      refine D_pu 23 (by kernel_rfl) rfl (by kernel_rfl) (by kernel_rfl) rfl rfl (by kernel_rfl) (Pu.stable ((by first | exact pu_ix1 Try.underlying22 ty2 rfl rfl (by omega) (by omega) | exact pu_index Try.underlying22 ty2 rfl rfl (by omega) (by omega)))) ?_
                      refine D_goN 24 (by kernel_rfl) (by first | rfl | (intro _; rfl) | (intro h; exact absurd (show true = false from h) (by decide)) | exact Kp.refl _ _ | assumption) rfl rfl (st_storeM hs 0 rfl (k : Int) (by omega) (by rw [List.length_set]; omega) hh5 ty2 rfl rfl (by omega) (by omega) fun w20 hk20 hs => ?_)
                      rw [sub_mod, hx.out, hy.out, set2_set (by omega), Int.toNat_natCast, ← axpy_rd (n := d) hr6 hr8 (by omega), mixL_set haA.out (by omega)] at hs
                      simp only [List.set_cons_zero] at hs
                      refine D_done (by kernel_rfl) (by first | rfl | (intro _; rfl) | (intro h; exact absurd (show true = false from h) (by decide)) | exact Kp.refl _ _ | assumption) ?_
                      refine W_draw mixed 24 IS (fun w21 hk21 => ?_)
                      have hs := hs.next hk21
                      have hM := hs.mat 1 rfl
                      have hmk : rr (YB.set k (mixL (axpy 10007 f (rr YB k) (rr YB c1)) (rr YB k) j)) k = mixL (axpy 10007 f (rr YB k) (rr YB c1)) (rr YB k) j := rr_set_self (by omega)
                      have hmc : rr (YB.set k (mixL (axpy 10007 f (rr YB k) (rr YB c1)) (rr YB k) j)) c1 = rr YB c1 := rr_set_ne (by omega)
                      have hmkl : (mixL (axpy 10007 f (rr YB k) (rr YB c1)) (rr YB k) j).length = d := by rw [mixL_length haB.out (by omega)]; exact hr7
                      obtain ⟨b5, cc5, hh5, hcA5, hO5⟩ := hM.at (i := k) (by omega) (by rw [List.length_set]; omega) (show List.length _ = d by rw [hmk]; exact hmkl) (by omega)
                      obtain ⟨b7, cc7, hh7, hcA7, hO7⟩ := hM.at (i := c1) (by omega) (by rw [List.length_set]; omega) (show List.length _ = d by rw [hmc]; exact hr9) (by omega)
                      rw [hmk] at hO5
                      rw [hmc] at hO7
                      have hmx := mixL_rd haB.out (x := j) (by omega)
                      obtain ⟨x, hx, hcx⟩ := hO5.ri.at0x (i := j) (by omega) (by omega)
                      obtain ⟨y, hy, hcy⟩ := hO7.ri.at0x (i := j) (by omega) (by omega)
                      have hxr : 0 ≤ x ∧ x < 10007 := by rw [hx.out, hmx]; exact (hYB.rr (i := k) (by omega) (by omega)).2.rd (by omega) (by omega)
                      have hyr : 0 ≤ y ∧ y < 10007 := by rw [hy.out]; exact (hYB.rr (i := c1) (by omega) (by omega)).2.rd (by omega) (by omega)
                      have hx : Go.RowKit.Hid (x = rd (rr YB k) j) := hx.out.trans hmx
                      clear hmx hmk hmkl hmc hM hO5 hO7
                      have hml2 := mul_range hfr1 hyr (by omega)
                      refine D_pu 0 (by kernel_rfl) rfl (by kernel_rfl) (by kernel_rfl) rfl rfl (by kernel_rfl) (Pu.stable (pu_move rfl)) ?_
                      refine D_pu 1 (by kernel_rfl) rfl (by kernel_rfl) (by kernel_rfl) rfl rfl (by kernel_rfl) (Pu.stable (pu_move rfl)) ?_
                      refine D_pu 2 (by kernel_rfl) rfl (by kernel_rfl) (by kernel_rfl) rfl rfl (by kernel_rfl) (Pu.stable ((by first | exact pu_ix1 Try.underlying32 ty22 rfl rfl (by omega) (by omega) | exact pu_index Try.underlying32 ty22 rfl rfl (by omega) (by omega)))) ?_
                      refine D_rd 3 (by kernel_rfl) rfl (by kernel_rfl) (by kernel_rfl) rfl rfl (by kernel_rfl) (by kernel_rfl) (by kernel_rfl) (pi_load Try.underlying22 rfl rfl (fun w' h => by obtain rfl := h rfl; exact (by first | exact hcA5 | exact hcA7 | exact hcx | exact hcy))) ?_
                      refine D_pu 4 (by kernel_rfl) rfl (by kernel_rfl) (by kernel_rfl) rfl rfl (by kernel_rfl) (Pu.stable (pu_move rfl)) ?_
                      refine D_pu 5 (by kernel_rfl) rfl (by kernel_rfl) (by kernel_rfl) rfl rfl (by kernel_rfl) (Pu.stable (pu_move rfl)) ?_
                      refine D_pu 6 (by kernel_rfl) rfl (by kernel_rfl) (by kernel_rfl) rfl rfl (by kernel_rfl) (Pu.stable (pu_move rfl)) ?_
                      refine D_pu 7 (by kernel_rfl) rfl (by kernel_rfl) (by kernel_rfl) rfl rfl (by kernel_rfl) (Pu.stable ((by first | exact pu_ix1 Try.underlying32 ty22 rfl rfl (by omega) (by omega) | exact pu_index Try.underlying32 ty22 rfl rfl (by omega) (by omega)))) ?_
                      refine D_rd 8 (by kernel_rfl) rfl (by kernel_rfl) (by kernel_rfl) rfl rfl (by kernel_rfl) (by kernel_rfl) (by kernel_rfl) (pi_load Try.underlying22 rfl rfl (fun w' h => by obtain rfl := h rfl; exact (by first | exact hcA5 | exact hcA7 | exact hcx | exact hcy))) ?_
                      refine D_pu 9 (by kernel_rfl) rfl (by kernel_rfl) (by kernel_rfl) rfl rfl (by kernel_rfl) (Pu.stable (pu_move rfl)) ?_
                      refine D_pu 10 (by kernel_rfl) rfl (by kernel_rfl) (by kernel_rfl) rfl rfl (by kernel_rfl) (Pu.stable ((by first | exact pu_ix1 Try.underlying22 ty2 rfl rfl (by omega) (by omega) | exact pu_index Try.underlying22 ty2 rfl rfl (by omega) (by omega)))) ?_
                      refine D_rd 11 (by kernel_rfl) rfl (by kernel_rfl) (by kernel_rfl) rfl rfl (by kernel_rfl) (by kernel_rfl) (by kernel_rfl) (pi_load Try.underlying2 rfl rfl (fun w' h => by obtain rfl := h rfl; exact (by first | exact hcA5 | exact hcA7 | exact hcx | exact hcy))) ?_
                      refine D_pu 12 (by kernel_rfl) rfl (by kernel_rfl) (by kernel_rfl) rfl rfl (by kernel_rfl) (Pu.stable (pu_move rfl)) ?_
                      refine D_pu 13 (by kernel_rfl) rfl (by kernel_rfl) (by kernel_rfl) rfl rfl (by kernel_rfl) (Pu.stable (pu_move rfl)) ?_
                      refine D_pu 14 (by kernel_rfl) rfl (by kernel_rfl) (by kernel_rfl) rfl rfl (by kernel_rfl) (Pu.stable (pu_move rfl)) ?_
                      refine D_pu 15 (by kernel_rfl) rfl (by kernel_rfl) (by kernel_rfl) rfl rfl (by kernel_rfl) (Pu.stable ((by first | exact pu_ix1 Try.underlying32 ty22 rfl rfl (by omega) (by omega) | exact pu_index Try.underlying32 ty22 rfl rfl (by omega) (by omega)))) ?_
                      refine D_rd 16 (by kernel_rfl) rfl (by kernel_rfl) (by kernel_rfl) rfl rfl (by kernel_rfl) (by kernel_rfl) (by kernel_rfl) (pi_load Try.underlying22 rfl rfl (fun w' h => by obtain rfl := h rfl; exact (by first | exact hcA5 | exact hcA7 | exact hcx | exact hcy))) ?_
                      refine D_pu 17 (by kernel_rfl) rfl (by kernel_rfl) (by kernel_rfl) rfl rfl (by kernel_rfl) (Pu.stable (pu_move rfl)) ?_
                      refine D_pu 18 (by kernel_rfl) rfl (by kernel_rfl) (by kernel_rfl) rfl rfl (by kernel_rfl) (Pu.stable ((by first | exact pu_ix1 Try.underlying22 ty2 rfl rfl (by omega) (by omega) | exact pu_index Try.underlying22 ty2 rfl rfl (by omega) (by omega)))) ?_
                      refine D_rd 19 (by kernel_rfl) rfl (by kernel_rfl) (by kernel_rfl) rfl rfl (by kernel_rfl) (by kernel_rfl) (by kernel_rfl) (pi_load Try.underlying2 rfl rfl (fun w' h => by obtain rfl := h rfl; exact (by first | exact hcA5 | exact hcA7 | exact hcx | exact hcy))) ?_
                      refine D_pu 20 (by kernel_rfl) rfl (by kernel_rfl) (by kernel_rfl) rfl rfl (by kernel_rfl) (Pu.stable (pu_mul64 rfl rfl (by omega))) ?_
                      refine D_pu 21 (by kernel_rfl) rfl (by kernel_rfl) (by kernel_rfl) rfl rfl (by kernel_rfl) (Pu.stable (pu_sub64 rfl rfl (by omega))) ?_
                      refine D_go 22 (by kernel_rfl) (by first | rfl | (intro _; rfl) | (intro h; exact absurd (show true = false from h) (by decide)) | exact Kp.refl _ _ | assumption) rfl rfl rfl (st_call fn92 rfl ((inField_ok _ _).mono ?_))
                      rintro v w' ⟨rfl, rfl⟩
                      refine D_pu 23 (by kernel_rfl) rfl (by kernel_rfl) (by kernel_rfl) rfl rfl (by kernel_rfl) (Pu.stable ((by first | exact pu_ix1 Try.underlying22 ty2 rfl rfl (by omega) (by omega) | exact pu_index Try.underlying22 ty2 rfl rfl (by omega) (by omega)))) ?_
                      refine D_goN 24 (by kernel_rfl) (by first | rfl | (intro _; rfl) | (intro h; exact absurd (show true = false from h) (by decide)) | exact Kp.refl _ _ | assumption) rfl rfl (st_storeM hs 1 rfl (k : Int) (by omega) (by rw [List.length_set]; omega) hh5 ty2 rfl rfl (by omega) (by omega) fun w22 hk22 hs => ?_)
                      rw [sub_mod, hx.out, hy.out, set2_set (by omega), Int.toNat_natCast, ← axpy_rd (n := d) hr7 hr9 (by omega), mixL_set haB.out (by omega)] at hs
                      simp only [List.set_cons_succ, List.set_cons_zero] at hs
                      refine D_done (by kernel_rfl) (by first | rfl | (intro _; rfl) | (intro h; exact absurd (show true = false from h) (by decide)) | exact Kp.refl _ _ | assumption) ?_
                      refine W_reg ?_
                      refine T_pu rfl rfl (pu_add64 rfl rfl (by omega)) ?_
                      refine T_pu rfl rfl (pu_move rfl) ?_
                      refine T_nil ?_
                      exact ⟨j + 1, .cons rfl (.cons rfl (.cons rfl (.cons rfl (.cons rfl (.cons rfl (.cons rfl (.cons rfl (.cons rfl (.cons rfl (.cons rfl (.cons rfl (.cons rfl (.nil _))))))))))))), ⟨by omega, _, _, hs⟩, by omega⟩
                    · refine W_exit rfl ?_
                      refine W_reg ?_
                      refine T_pu rfl rfl (pu_add64 rfl rfl (by omega)) ?_
                      refine T_pu rfl rfl (pu_move rfl) ?_
                      refine T_nil ?_
                      first
                        | (have hkc : (k : Int) = c1 := hg32_3
                           have e : gjRow 10007 c1 Y k = Y := by unfold gjRow; rw [if_pos (.inl (Int.ofNat.inj hkc))]
                           refine ⟨k + 1, .cons rfl (.cons rfl (.cons rfl (.cons rfl (.cons rfl (.cons rfl (.cons rfl (.cons rfl (.cons rfl (.nil _))))))))), ⟨by omega, hA2, hB2, ?_⟩, by omega⟩
                           rw [hgs, e, hYAe, hYBe]
                           exact hs)
                        | (have hf0 : f = 0 := hc32
                           have e : gjRow 10007 c1 Y k = Y := by unfold gjRow; rw [if_pos (.inr (by rw [hfz.out]; exact hf0))]
                           refine ⟨k + 1, .cons rfl (.cons rfl (.cons rfl (.cons rfl (.cons rfl (.cons rfl (.cons rfl (.cons rfl (.cons rfl (.nil _))))))))), ⟨by omega, hA2, hB2, ?_⟩, by omega⟩
                           rw [hgs, e, hYAe, hYBe]
                           exact hs)
                        | (have e : gjRow 10007 c1 Y k = Y.set k (axpy 10007 f (rr Y k) (rr Y c1)) := by unfold gjRow; rw [hfz.out, if_neg (fun h => h.elim (fun h => hg32_3 (by rw [h])) hc32)]
                           refine ⟨k + 1, .cons rfl (.cons rfl (.cons rfl (.cons rfl (.cons rfl (.cons rfl (.cons rfl (.cons rfl (.cons rfl (.nil _))))))))), ⟨by omega, hA3, hB3, ?_⟩, by omega⟩
                           rw [hgs, e, hsetA, hsetB, axpy_take, axpy_drop, ← hrA, ← hrB, ← hrA, ← hrB]
                           have e1 := mixL_all haA.out
                           have e2 := mixL_all haB.out
                           rw [hr6] at e1
                           rw [hr7] at e2
                           rw [show j = d from by omega, e1, e2] at hs
                           exact hs)
              · refine W_exit rfl ?_
                refine W_reg ?_
                refine T_pu rfl rfl (pu_add64 rfl rfl (by omega)) ?_
                refine T_pu rfl rfl (pu_move rfl) ?_
                refine T_nil ?_
                refine ⟨(c1 + 1, gjRows 10007 c1 Z2 d, D), .cons rfl (.cons rfl (.cons rfl (.cons rfl (.cons rfl (.cons rfl (.nil _)))))), ⟨by show c1 + 1 ≤ d; omega, hsucc, hA2, hB2, ?_⟩, by show d - (c1 + 1) < d - c1; omega⟩
                have hYd : gjRows 10007 c1 Z2 d = Y := by rw [← hYe]; congr 1; omega
                rw [hYd]
                exact hs
          · rw [if_pos (show a = c1 by omega)] at hsucc
            obtain ⟨dt, rfl⟩ : ∃ dt, dt = det := ⟨_, rfl⟩
            have hdtr := hdet
            rw [show Z = swapL Z c1 a [] from by rw [show a = c1 from by omega]; exact (swapL_self (by omega)).symm] at hs
            refine W_skip ?_
            refine W_seq ?_
            have hZ1 := hZ.swap (r := c1) (a := a) (by omega) (by omega)
            generalize hZ1e : swapL Z c1 a [] = Z1 at *
            rw [hZl] at hsucc
            have hZ1l := hZ1.len
            have hXA1 := hZ1.left
            have hXB1 := hZ1.right
            have hpe : rd2 (Z1.map (List.take d)) c1 c1 = rd2 Z1 c1 c1 := rd2_take (by omega) (by omega)
            have hrA : ∀ i : Int, rr (Z1.map (List.take d)) i = (rr Z1 i).take d := rr_map (take_nil' d) Z1
            have hrB : ∀ i : Int, rr (Z1.map (List.drop d)) i = (rr Z1 i).drop d := rr_map (drop_nil' d) Z1
            have hsetA : ∀ (k : Nat) xs, (Z1.set k xs).map (List.take d) = (Z1.map (List.take d)).set k (xs.take d) := fun k xs => by rw [List.map_set]
            have hsetB : ∀ (k : Nat) xs, (Z1.set k xs).map (List.drop d) = (Z1.map (List.drop d)).set k (xs.drop d) := fun k xs => by rw [List.map_set]
            have hlA : (Z1.map (List.take d)).length = d := by rw [List.length_map]; exact hZ1l
            have hlB : (Z1.map (List.drop d)).length = d := by rw [List.length_map]; exact hZ1l
            generalize hXAe : Z1.map (List.take d) = XA at *
            generalize hXBe : Z1.map (List.drop d) = XB at *
            have hMA1 := hs.mat 0 rfl
            obtain ⟨b3, cc3, hh3, hcA3, hO3⟩ := hMA1.at (i := c1) (by omega) (by omega) (hXA1.rr (by omega) (by omega)).1 (by omega)
            have hr3 := (hXA1.rr (i := c1) (by omega) (by omega)).1
            have hr4 := (hXB1.rr (i := c1) (by omega) (by omega)).1
            obtain ⟨pv, hpve, hcpv⟩ := hO3.ri.at0x (i := c1) (by omega) (by omega)
            have hpv : 0 ≤ pv ∧ pv < 10007 := by rw [hpve.out]; exact hXA1.rd2 (i := c1) (j := c1) (by omega) (by omega) (by omega) (by omega)
            have hpz : Go.RowKit.Hid (rd2 Z1 c1 c1 = pv) := by show _ = _; rw [← hpe, hpve.out]; rfl
            rw [hpz.out] at hsucc
            clear hpe hO3 hZ hdet hXA hXB hZl hc16
            have hml := mul_range hdtr hpv (by omega)
            refine W_reg ?_
            refine T_pu rfl rfl (pu_move rfl) ?_
            refine T_pu rfl rfl (pu_move rfl) ?_
            refine T_pu rfl rfl (pu_move rfl) ?_
            refine T_pu rfl rfl ((by first | exact pu_ix1 Try.underlying32 ty22 rfl rfl (by omega) (by omega) | exact pu_index Try.underlying32 ty22 rfl rfl (by omega) (by omega))) ?_
            refine T_pi rfl rfl (pi_load Try.underlying22 rfl rfl (fun w' h => by obtain rfl := h; exact (by first | exact hcA3 | exact hcpv))) ?_
            refine T_pu rfl rfl (pu_move rfl) ?_
            refine T_pu rfl rfl ((by first | exact pu_ix1 Try.underlying22 ty2 rfl rfl (by omega) (by omega) | exact pu_index Try.underlying22 ty2 rfl rfl (by omega) (by omega))) ?_
            refine T_pi rfl rfl (pi_load Try.underlying2 rfl rfl (fun w' h => by obtain rfl := h; exact (by first | exact hcA3 | exact hcpv))) ?_
            refine T_pu rfl rfl (pu_mul64 rfl rfl (by omega)) ?_
            refine T_pu rfl rfl (pu_rem rfl rfl (by omega)) ?_
            refine T_pu rfl rfl (pu_assign rfl) ?_
            refine T_nil ?_
            refine W_seq ?_
            refine W_reg ?_
            refine T_pu rfl rfl (pu_move rfl) ?_
            refine T_pu rfl rfl (pu_move rfl) ?_
            refine T_pu rfl rfl ((by first | exact pu_ix1 Try.underlying32 ty22 rfl rfl (by omega) (by omega) | exact pu_index Try.underlying32 ty22 rfl rfl (by omega) (by omega))) ?_
            refine T_pi rfl rfl (pi_load Try.underlying22 rfl rfl (fun w' h => by obtain rfl := h; exact (by first | exact hcA3 | exact hcpv))) ?_
            refine T_pu rfl rfl (pu_move rfl) ?_
            refine T_pu rfl rfl ((by first | exact pu_ix1 Try.underlying22 ty2 rfl rfl (by omega) (by omega) | exact pu_index Try.underlying22 ty2 rfl rfl (by omega) (by omega))) ?_
            refine T_pi rfl rfl (pi_load Try.underlying2 rfl rfl (fun w' h => by obtain rfl := h; exact (by first | exact hcA3 | exact hcpv))) ?_
            refine T_go rfl rfl (st_call fn102 rfl ((inverseModulo_ok _ _ (by omega) hpv _).mono ?_))
            rintro v w' ⟨rfl, rfl⟩
            refine T_pu rfl rfl (pu_assign rfl) ?_
            refine T_nil ?_
            refine W_seq ?_
            refine W_seq ?_
            refine W_reg ?_
            refine T_pu rfl rfl (pu_move rfl) ?_
            refine T_pu rfl rfl (pu_move rfl) ?_
            refine T_nil ?_
            refine W_block ?_
            have hivr := invM_range (p := 10007) (x := pv) (by omega)
            obtain ⟨iv, hive, hivv⟩ : ∃ iv, Go.RowKit.Hid (invM pv 10007 = iv) ∧ 0 ≤ iv ∧ iv < 10007 := ⟨_, rfl, hivr⟩
            clear hivr
            have hivr := hivv
            obtain ⟨D, hDe⟩ : ∃ D, Go.RowKit.Hid (dt * pv % 10007 = D) := ⟨_, rfl⟩
            rw [hDe.out] at hsucc
            have hmt : Go.RowKit.Hid ((dt * pv).tmod 10007 = D) := (tmod_nn (p := 10007) hml.1).trans hDe.out
            clear hml
            have hsA : Go.RowKit.Hid ((scl 10007 iv (rr XA c1)).length = (rr XA c1).length) := scl_length _ _ _
            have hsB : Go.RowKit.Hid ((scl 10007 iv (rr XB c1)).length = (rr XB c1).length) := scl_length _ _ _
            refine W_loop (σ := Nat) (fun j => [(4, .int .i64 d), (5, (.slice (some ⟨gA, 0, none⟩) d cA)), (6, (.slice (some ⟨gB, 0, none⟩) d cB)), (7, .int .i64 D), (34, .int .i64 d), (35, .int .i64 c1), (10, .int .i64 c1), (12, .int .i64 iv), (109, .int .i64 d), (110, .int .i64 j)]) (fun j w' => j ≤ d ∧ ∃ hA1 hB1, St no w [aMat (.slice (some ⟨gA, 0, none⟩) d cA) hA1 (XA.set c1 (mixL (scl 10007 iv (rr XA c1)) (rr XA c1) j)), aMat (.slice (some ⟨gB, 0, none⟩) d cB) hB1 (XB.set c1 (mixL (scl 10007 iv (rr XB c1)) (rr XB c1) j))] w') (fun j => d - j) 0 ?_ ?_ ?_
            · exact .cons rfl (.cons rfl (.cons rfl (.cons (by rw [← hmt.out]; rfl) (.cons rfl (.cons rfl (.cons rfl (.cons (by rw [← hive.out]; rfl) (.cons rfl (.cons rfl (.nil _))))))))))
            · exact ⟨Nat.zero_le _, _, _, by rw [mixL_zero, mixL_zero, set_self_rr (by omega), set_self_rr (by omega)]; exact hs⟩
            clear hcA3 hcpv hh3 hMA1 hs hmt hDe
            rintro j w12 ⟨hjd, hA1, hB1, hs⟩
            refine W_seq ?_
            refine W_reg ?_
            refine T_pu rfl rfl (pu_lss rfl rfl) ?_
            refine T_nil ?_
            refine W_seq ?_
            refine W_if rfl (fun hc23 => ?_) (fun hc23 => ?_)
            · refine W_skip ?_
              refine W_seq ?_
              refine W_block ?_
              refine W_seq ?_
              refine W_reg ?_
              refine T_pu rfl rfl (pu_move rfl) ?_
              refine T_pu rfl rfl (pu_assign rfl) ?_
              refine T_nil ?_
              refine W_seq ?_
              refine W_draw mixed 16 IS (fun w13 hk13 => ?_)
              have hs := hs.next hk13
              have hM := hs.mat 0 rfl
              have hmk : rr (XA.set c1 (mixL (scl 10007 iv (rr XA c1)) (rr XA c1) j)) c1 = mixL (scl 10007 iv (rr XA c1)) (rr XA c1) j := rr_set_self (by omega)
              have hmkl : (mixL (scl 10007 iv (rr XA c1)) (rr XA c1) j).length = d := by rw [mixL_length hsA.out (by omega)]; exact hr3
              obtain ⟨b5, cc5, hh5, hcA5, hO5⟩ := hM.at (i := c1) (by omega) (by rw [List.length_set]; omega) (show List.length _ = d by rw [hmk]; exact hmkl) (by omega)
              rw [hmk] at hO5
              have hmx := mixL_rd hsA.out (x := j) (by omega)
              obtain ⟨x, hx, hcx⟩ := hO5.ri.at0x (i := j) (by omega) (by omega)
              have hxr : 0 ≤ x ∧ x < 10007 := by rw [hx.out, hmx]; exact (hXA1.rr (i := c1) (by omega) (by omega)).2.rd (by omega) (by omega)
              have hx : Go.RowKit.Hid (x = rd (rr XA c1) j) := hx.out.trans hmx
              clear hmx hmk hmkl hM hO5
              have hml2 := mul_range hxr hivr (by omega)
              refine D_pu 0 (by kernel_rfl) rfl (by kernel_rfl) (by kernel_rfl) rfl rfl (by kernel_rfl) (Pu.stable (pu_move rfl)) ?_
              refine D_pu 1 (by kernel_rfl) rfl (by kernel_rfl) (by kernel_rfl) rfl rfl (by kernel_rfl) (Pu.stable (pu_move rfl)) ?_
              refine D_pu 2 (by kernel_rfl) rfl (by kernel_rfl) (by kernel_rfl) rfl rfl (by kernel_rfl) (Pu.stable ((by first | exact pu_ix1 Try.underlying32 ty22 rfl rfl (by omega) (by omega) | exact pu_index Try.underlying32 ty22 rfl rfl (by omega) (by omega)))) ?_
              refine D_rd 3 (by kernel_rfl) rfl (by kernel_rfl) (by kernel_rfl) rfl rfl (by kernel_rfl) (by kernel_rfl) (by kernel_rfl) (pi_load Try.underlying22 rfl rfl (fun w' h => by obtain rfl := h rfl; exact (by first | exact hcA5 | exact hcx))) ?_
              refine D_pu 4 (by kernel_rfl) rfl (by kernel_rfl) (by kernel_rfl) rfl rfl (by kernel_rfl) (Pu.stable (pu_move rfl)) ?_
              refine D_pu 5 (by kernel_rfl) rfl (by kernel_rfl) (by kernel_rfl) rfl rfl (by kernel_rfl) (Pu.stable (pu_move rfl)) ?_
              refine D_pu 6 (by kernel_rfl) rfl (by kernel_rfl) (by kernel_rfl) rfl rfl (by kernel_rfl) (Pu.stable (pu_move rfl)) ?_
              refine D_pu 7 (by kernel_rfl) rfl (by kernel_rfl) (by kernel_rfl) rfl rfl (by kernel_rfl) (Pu.stable ((by first | exact pu_ix1 Try.underlying32 ty22 rfl rfl (by omega) (by omega) | exact pu_index Try.underlying32 ty22 rfl rfl (by omega) (by omega)))) ?_
              refine D_rd 8 (by kernel_rfl) rfl (by kernel_rfl) (by kernel_rfl) rfl rfl (by kernel_rfl) (by kernel_rfl) (by kernel_rfl) (pi_load Try.underlying22 rfl rfl (fun w' h => by obtain rfl := h rfl; exact (by first | exact hcA5 | exact hcx))) ?_
              refine D_pu 9 (by kernel_rfl) rfl (by kernel_rfl) (by kernel_rfl) rfl rfl (by kernel_rfl) (Pu.stable (pu_move rfl)) ?_
              refine D_pu 10 (by kernel_rfl) rfl (by kernel_rfl) (by kernel_rfl) rfl rfl (by kernel_rfl) (Pu.stable ((by first | exact pu_ix1 Try.underlying22 ty2 rfl rfl (by omega) (by omega) | exact pu_index Try.underlying22 ty2 rfl rfl (by omega) (by omega)))) ?_
              refine D_rd 11 (by kernel_rfl) rfl (by kernel_rfl) (by kernel_rfl) rfl rfl (by kernel_rfl) (by kernel_rfl) (by kernel_rfl) (pi_load Try.underlying2 rfl rfl (fun w' h => by obtain rfl := h rfl; exact (by first | exact hcA5 | exact hcx))) ?_
              refine D_pu 12 (by kernel_rfl) rfl (by kernel_rfl) (by kernel_rfl) rfl rfl (by kernel_rfl) (Pu.stable (pu_move rfl)) ?_
              refine D_pu 13 (by kernel_rfl) rfl (by kernel_rfl) (by kernel_rfl) rfl rfl (by kernel_rfl) (Pu.stable (pu_mul64 rfl rfl (by omega))) ?_
              refine D_pu 14 (by kernel_rfl) rfl (by kernel_rfl) (by kernel_rfl) rfl rfl (by kernel_rfl) (Pu.stable (pu_rem rfl rfl (by omega))) ?_
              refine D_pu 15 (by kernel_rfl) rfl (by kernel_rfl) (by kernel_rfl) rfl rfl (by kernel_rfl) (Pu.stable ((by first | exact pu_ix1 Try.underlying22 ty2 rfl rfl (by omega) (by omega) | exact pu_index Try.underlying22 ty2 rfl rfl (by omega) (by omega)))) ?_
              refine D_goN 16 (by kernel_rfl) (by first | rfl | (intro _; rfl) | (intro h; exact absurd (show true = false from h) (by decide)) | exact Kp.refl _ _ | assumption) rfl rfl (st_storeM hs 0 rfl (c1 : Int) (by omega) (by rw [List.length_set]; omega) hh5 ty2 rfl rfl (by omega) (by omega) fun w14 hk14 hs => ?_)
              rw [tmod_nn (by omega), hx.out, set2_set (by omega), Int.toNat_natCast, ← scl_rd (by omega), mixL_set hsA.out (by omega)] at hs
              simp only [List.set_cons_zero] at hs
              refine D_done (by kernel_rfl) (by first | rfl | (intro _; rfl) | (intro h; exact absurd (show true = false from h) (by decide)) | exact Kp.refl _ _ | assumption) ?_
              refine W_draw mixed 16 IS (fun w15 hk15 => ?_)
              have hs := hs.next hk15
              have hM := hs.mat 1 rfl
              have hmk : rr (XB.set c1 (mixL (scl 10007 iv (rr XB c1)) (rr XB c1) j)) c1 = mixL (scl 10007 iv (rr XB c1)) (rr XB c1) j := rr_set_self (by omega)
              have hmkl : (mixL (scl 10007 iv (rr XB c1)) (rr XB c1) j).length = d := by rw [mixL_length hsB.out (by omega)]; exact hr4
              obtain ⟨b5, cc5, hh5, hcA5, hO5⟩ := hM.at (i := c1) (by omega) (by rw [List.length_set]; omega) (show List.length _ = d by rw [hmk]; exact hmkl) (by omega)
              rw [hmk] at hO5
              have hmx := mixL_rd hsB.out (x := j) (by omega)
              obtain ⟨x, hx, hcx⟩ := hO5.ri.at0x (i := j) (by omega) (by omega)
              have hxr : 0 ≤ x ∧ x < 10007 := by rw [hx.out, hmx]; exact (hXB1.rr (i := c1) (by omega) (by omega)).2.rd (by omega) (by omega)
              have hx : Go.RowKit.Hid (x = rd (rr XB c1) j) := hx.out.trans hmx
              clear hmx hmk hmkl hM hO5
              have hml2 := mul_range hxr hivr (by omega)
              refine D_pu 0 (by kernel_rfl) rfl (by kernel_rfl) (by kernel_rfl) rfl rfl (by kernel_rfl) (Pu.stable (pu_move rfl)) ?_
              refine D_pu 1 (by kernel_rfl) rfl (by kernel_rfl) (by kernel_rfl) rfl rfl (by kernel_rfl) (Pu.stable (pu_move rfl)) ?_
              refine D_pu 2 (by kernel_rfl) rfl (by kernel_rfl) (by kernel_rfl) rfl rfl (by kernel_rfl) (Pu.stable ((by first | exact pu_ix1 Try.underlying32 ty22 rfl rfl (by omega) (by omega) | exact pu_index Try.underlying32 ty22 rfl rfl (by omega) (by omega)))) ?_
              refine D_rd 3 (by kernel_rfl) rfl (by kernel_rfl) (by kernel_rfl) rfl rfl (by kernel_rfl) (by kernel_rfl) (by kernel_rfl) (pi_load Try.underlying22 rfl rfl (fun w' h => by obtain rfl := h rfl; exact (by first | exact hcA5 | exact hcx))) ?_
              refine D_pu 4 (by kernel_rfl) rfl (by kernel_rfl) (by kernel_rfl) rfl rfl (by kernel_rfl) (Pu.stable (pu_move rfl)) ?_
              refine D_pu 5 (by kernel_rfl) rfl (by kernel_rfl) (by kernel_rfl) rfl rfl (by kernel_rfl) (Pu.stable (pu_move rfl)) ?_
              refine D_pu 6 (by kernel_rfl) rfl (by kernel_rfl) (by kernel_rfl) rfl rfl (by kernel_rfl) (Pu.stable (pu_move rfl)) ?_
              refine D_pu 7 (by kernel_rfl) rfl (by kernel_rfl) (by kernel_rfl) rfl rfl (by kernel_rfl) (Pu.stable ((by first | exact pu_ix1 Try.underlying32 ty22 rfl rfl (by omega) (by omega) | exact pu_index Try.underlying32 ty22 rfl rfl (by omega) (by omega)))) ?_
              refine D_rd 8 (by kernel_rfl) rfl (by kernel_rfl) (by kernel_rfl) rfl rfl (by kernel_rfl) (by kernel_rfl) (by kernel_rfl) (pi_load Try.underlying22 rfl rfl (fun w' h => by obtain rfl := h rfl; exact (by first | exact hcA5 | exact hcx))) ?_
              refine D_pu 9 (by kernel_rfl) rfl (by kernel_rfl) (by kernel_rfl) rfl rfl (by kernel_rfl) (Pu.stable (pu_move rfl)) ?_
              refine D_pu 10 (by kernel_rfl) rfl (by kernel_rfl) (by kernel_rfl) rfl rfl (by kernel_rfl) (Pu.stable ((by first | exact pu_ix1 Try.underlying22 ty2 rfl rfl (by omega) (by omega) | exact pu_index Try.underlying22 ty2 rfl rfl (by omega) (by omega)))) ?_
              refine D_rd 11 (by kernel_rfl) rfl (by kernel_rfl) (by kernel_rfl) rfl rfl (by kernel_rfl) (by kernel_rfl) (by kernel_rfl) (pi_load Try.underlying2 rfl rfl (fun w' h => by obtain rfl := h rfl; exact (by first | exact hcA5 | exact hcx))) ?_
              refine D_pu 12 (by kernel_rfl) rfl (by kernel_rfl) (by kernel_rfl) rfl rfl (by kernel_rfl) (Pu.stable (pu_move rfl)) ?_
              refine D_pu 13 (by kernel_rfl) rfl (by kernel_rfl) (by kernel_rfl) rfl rfl (by kernel_rfl) (Pu.stable (pu_mul64 rfl rfl (by omega))) ?_
              refine D_pu 14 (by kernel_rfl) rfl (by kernel_rfl) (by kernel_rfl) rfl rfl (by kernel_rfl) (Pu.stable (pu_rem rfl rfl (by omega))) ?_
              refine D_pu 15 (by kernel_rfl) rfl (by kernel_rfl) (by kernel_rfl) rfl rfl (by kernel_rfl) (Pu.stable ((by first | exact pu_ix1 Try.underlying22 ty2 rfl rfl (by omega) (by omega) | exact pu_index Try.underlying22 ty2 rfl rfl (by omega) (by omega)))) ?_
              refine D_goN 16 (by kernel_rfl) (by first | rfl | (intro _; rfl) | (intro h; exact absurd (show true = false from h) (by decide)) | exact Kp.refl _ _ | assumption) rfl rfl (st_storeM hs 1 rfl (c1 : Int) (by omega) (by rw [List.length_set]; omega) hh5 ty2 rfl rfl (by omega) (by omega) fun w16 hk16 hs => ?_)
              rw [tmod_nn (by omega), hx.out, set2_set (by omega), Int.toNat_natCast, ← scl_rd (by omega), mixL_set hsB.out (by omega)] at hs
              simp only [List.set_cons_succ, List.set_cons_zero] at hs
              refine D_done (by kernel_rfl) (by first | rfl | (intro _; rfl) | (intro h; exact absurd (show true = false from h) (by decide)) | exact Kp.refl _ _ | assumption) ?_
              refine W_reg ?_
              refine T_pu rfl rfl (pu_add64 rfl rfl (by omega)) ?_
              refine T_pu rfl rfl (pu_move rfl) ?_
              refine T_nil ?_
              exact ⟨j + 1, .cons rfl (.cons rfl (.cons rfl (.cons rfl (.cons rfl (.cons rfl (.cons rfl (.cons rfl (.cons rfl (.cons rfl (.nil _)))))))))), ⟨by omega, _, _, hs⟩, by omega⟩
            · refine W_exit rfl ?_
              refine W_seq ?_
              have hs : St no w [aMat (.slice (some ⟨gA, 0, none⟩) d cA) hA1 ((Z1.set c1 (scl 10007 iv (rr Z1 c1))).map (List.take d)), aMat (.slice (some ⟨gB, 0, none⟩) d cB) hB1 ((Z1.set c1 (scl 10007 iv (rr Z1 c1))).map (List.drop d))] w12 := by
                rw [hsetA, hsetB, scl_take, scl_drop, ← hrA, ← hrB]
                have e1 := mixL_all hsA.out
                have e2 := mixL_all hsB.out
                rw [hr3] at e1
                rw [hr4] at e2
                rw [show j = d from by omega, e1, e2] at hs
                exact hs
              have hZ2 := hZ1.scl (iv := iv) (c := c1) (by omega) (by omega)
              have hgin : gjIn 10007 c1 Z1 d = gjRows 10007 c1 (Z1.set c1 (scl 10007 iv (rr Z1 c1))) d := by unfold gjIn; rw [hpz.out, hive.out]
              rw [hgin] at hsucc
              generalize hZ2e : Z1.set c1 (scl 10007 iv (rr Z1 c1)) = Z2 at *
              clear hsetA hsetB hrA hrB hZ2e hgin hsA hsB hive hivv hivr hpz hpve hpv hr3 hr4 hlA hlB hXA1 hXB1 hXAe hXBe hZ1 hZ1l hdtr hc23 hjd
              refine W_reg ?_
              refine T_pu rfl rfl (pu_move rfl) ?_
              refine T_pu rfl rfl (pu_move rfl) ?_
              refine T_nil ?_
              refine W_block ?_
              refine W_loop (σ := Nat) (fun k => [(4, .int .i64 d), (5, (.slice (some ⟨gA, 0, none⟩) d cA)), (6, (.slice (some ⟨gB, 0, none⟩) d cB)), (7, .int .i64 D), (34, .int .i64 d), (35, .int .i64 c1), (10, .int .i64 c1), (146, .int .i64 d), (147, .int .i64 k)]) (fun k w' => k ≤ d ∧ ∃ hA2 hB2, St no w [aMat (.slice (some ⟨gA, 0, none⟩) d cA) hA2 ((gjRows 10007 c1 Z2 k).map (List.take d)), aMat (.slice (some ⟨gB, 0, none⟩) d cB) hB2 ((gjRows 10007 c1 Z2 k).map (List.drop d))] w') (fun k => d - k) 0 ?_ ?_ ?_
              · exact .cons rfl (.cons rfl (.cons rfl (.cons rfl (.cons rfl (.cons rfl (.cons rfl (.cons rfl (.cons rfl (.nil _)))))))))
              · exact ⟨Nat.zero_le _, _, _, hs⟩
              clear hs
              rintro k w17 ⟨hkd2, hA2, hB2, hs⟩
              have hgs := gjRows_succ (p := 10007) (c := c1) (Z := Z2) (k := k)
              have hY := hZ2.gjRows (c := c1) (by omega) (by omega) k hkd2
              generalize hYe : gjRows 10007 c1 Z2 k = Y at *
              have hYl := hY.len
              have hYA := hY.left
              have hYB := hY.right
              have hrA : ∀ i : Int, rr (Y.map (List.take d)) i = (rr Y i).take d := rr_map (take_nil' d) Y
              have hrB : ∀ i : Int, rr (Y.map (List.drop d)) i = (rr Y i).drop d := rr_map (drop_nil' d) Y
              have hsetA : ∀ (k : Nat) xs, (Y.set k xs).map (List.take d) = (Y.map (List.take d)).set k (xs.take d) := fun k xs => by rw [List.map_set]
              have hsetB : ∀ (k : Nat) xs, (Y.set k xs).map (List.drop d) = (Y.map (List.drop d)).set k (xs.drop d) := fun k xs => by rw [List.map_set]
              refine W_seq ?_
              refine W_reg ?_
              refine T_pu rfl rfl (pu_lss rfl rfl) ?_
              refine T_nil ?_
              refine W_seq ?_
              refine W_if rfl (fun hc29 => ?_) (fun hc29 => ?_)
              · refine W_skip ?_
                refine W_seq ?_
                refine W_block ?_
                refine W_seq ?_
                refine W_reg ?_
                refine T_pu rfl rfl (pu_move rfl) ?_
                refine T_pu rfl rfl (pu_assign rfl) ?_
                refine T_nil ?_
                refine W_seq ?_
                have hlA2 : (Y.map (List.take d)).length = d := by rw [List.length_map]; exact hYl
                have hlB2 : (Y.map (List.drop d)).length = d := by rw [List.length_map]; exact hYl
                have hpf : Go.RowKit.Hid (rd2 (Y.map (List.take d)) k c1 = rd2 Y k c1) := rd2_take (by omega) (by omega)
                generalize hYAe : Y.map (List.take d) = YA at *
                generalize hYBe : Y.map (List.drop d) = YB at *
                have hMA2 := hs.mat 0 rfl
                obtain ⟨b6, cc6, hh6, hcA6, hO6⟩ := hMA2.at (i := k) (by omega) (by omega) (hYA.rr (by omega) (by omega)).1 (by omega)
                have hr6 := (hYA.rr (i := k) (by omega) (by omega)).1
                have hr7 := (hYB.rr (i := k) (by omega) (by omega)).1
                have hr8 := (hYA.rr (i := c1) (by omega) (by omega)).1
                have hr9 := (hYB.rr (i := c1) (by omega) (by omega)).1
                obtain ⟨f, hfe, hcf⟩ := hO6.ri.at0x (i := c1) (by omega) (by omega)
                have hfr1 : 0 ≤ f ∧ f < 10007 := by rw [hfe.out]; exact hYA.rd2 (i := k) (j := c1) (by omega) (by omega) (by omega) (by omega)
                have hfz : Go.RowKit.Hid (rd2 Y k c1 = f) := by show _ = _; rw [← hpf.out, hfe.out]; rfl
                clear hpf hO6
                refine W_reg ?_
                refine T_pu rfl rfl (pu_move rfl) ?_
                refine T_pu rfl rfl (pu_move rfl) ?_
                refine T_pu rfl rfl ((by first | exact pu_ix1 Try.underlying32 ty22 rfl rfl (by omega) (by omega) | exact pu_index Try.underlying32 ty22 rfl rfl (by omega) (by omega))) ?_
                refine T_pi rfl rfl (pi_load Try.underlying22 rfl rfl (fun w' h => by obtain rfl := h; exact (by first | exact hcA6 | exact hcf))) ?_
                refine T_pu rfl rfl (pu_move rfl) ?_
                refine T_pu rfl rfl ((by first | exact pu_ix1 Try.underlying22 ty2 rfl rfl (by omega) (by omega) | exact pu_index Try.underlying22 ty2 rfl rfl (by omega) (by omega))) ?_
                refine T_pi rfl rfl (pi_load Try.underlying2 rfl rfl (fun w' h => by obtain rfl := h; exact (by first | exact hcA6 | exact hcf))) ?_
                refine T_pu rfl rfl (pu_assign rfl) ?_
                refine T_nil ?_
                refine W_seq ?_
                refine W_seq ?_
                refine W_reg ?_
                refine T_pu rfl rfl (pu_move rfl) ?_
                refine T_pu rfl rfl (pu_move rfl) ?_
                refine T_pu rfl rfl (pu_eql rfl rfl) ?_
                refine T_if rfl rfl (pu_move rfl) (fun hg32_3 => ?_) (fun hg32_3 => ?_)
                · refine T_no rfl rfl ?_
                  refine T_no rfl rfl ?_
                  refine T_pu rfl rfl (pu_pick_t rfl rfl) ?_
                  refine T_nil ?_
                  refine W_true rfl ?_
                  refine W_exit rfl ?_
                  refine W_reg ?_
                  refine T_pu rfl rfl (pu_add64 rfl rfl (by omega)) ?_
                  refine T_pu rfl rfl (pu_move rfl) ?_
                  refine T_nil ?_
                  first
                    | (have hkc : (k : Int) = c1 := hg32_3
                       have e : gjRow 10007 c1 Y k = Y := by unfold gjRow; rw [if_pos (.inl (Int.ofNat.inj hkc))]
                       refine ⟨k + 1, .cons rfl (.cons rfl (.cons rfl (.cons rfl (.cons rfl (.cons rfl (.cons rfl (.cons rfl (.cons rfl (.nil _))))))))), ⟨by omega, hA2, hB2, ?_⟩, by omega⟩
                       rw [hgs, e, hYAe, hYBe]
                       exact hs)
                    | (have hf0 : f = 0 := hc32
                       have e : gjRow 10007 c1 Y k = Y := by unfold gjRow; rw [if_pos (.inr (by rw [hfz.out]; exact hf0))]
                       refine ⟨k + 1, .cons rfl (.cons rfl (.cons rfl (.cons rfl (.cons rfl (.cons rfl (.cons rfl (.cons rfl (.cons rfl (.nil _))))))))), ⟨by omega, hA2, hB2, ?_⟩, by omega⟩
                       rw [hgs, e, hYAe, hYBe]
                       exact hs)
                    | (have e : gjRow 10007 c1 Y k = Y.set k (axpy 10007 f (rr Y k) (rr Y c1)) := by unfold gjRow; rw [hfz.out, if_neg (fun h => h.elim (fun h => hg32_3 (by rw [h])) hc32)]
                       refine ⟨k + 1, .cons rfl (.cons rfl (.cons rfl (.cons rfl (.cons rfl (.cons rfl (.cons rfl (.cons rfl (.cons rfl (.nil _))))))))), ⟨by omega, hA3, hB3, ?_⟩, by omega⟩
                       rw [hgs, e, hsetA, hsetB, axpy_take, axpy_drop, ← hrA, ← hrB, ← hrA, ← hrB]
                       have e1 := mixL_all haA.out
                       have e2 := mixL_all haB.out
                       rw [hr6] at e1
                       rw [hr7] at e2
                       rw [show j = d from by omega, e1, e2] at hs
                       exact hs)
                · refine T_pu rfl rfl (pu_move rfl) ?_
                  refine T_pu rfl rfl (pu_eql rfl rfl) ?_
                  refine T_pu rfl rfl (pu_pick_f rfl rfl) ?_
                  refine T_nil ?_
                  refine W_if rfl (fun hc32 => ?_) (fun hc32 => ?_)
                  · refine W_exit rfl ?_
                    refine W_reg ?_
                    refine T_pu rfl rfl (pu_add64 rfl rfl (by omega)) ?_
                    refine T_pu rfl rfl (pu_move rfl) ?_
                    refine T_nil ?_
                    first
                      | (have hkc : (k : Int) = c1 := hg32_3
                         have e : gjRow 10007 c1 Y k = Y := by unfold gjRow; rw [if_pos (.inl (Int.ofNat.inj hkc))]
                         refine ⟨k + 1, .cons rfl (.cons rfl (.cons rfl (.cons rfl (.cons rfl (.cons rfl (.cons rfl (.cons rfl (.cons rfl (.nil _))))))))), ⟨by omega, hA2, hB2, ?_⟩, by omega⟩
                         rw [hgs, e, hYAe, hYBe]
                         exact hs)
                      | (have hf0 : f = 0 := hc32
                         have e : gjRow 10007 c1 Y k = Y := by unfold gjRow; rw [if_pos (.inr (by rw [hfz.out]; exact hf0))]
                         refine ⟨k + 1, .cons rfl (.cons rfl (.cons rfl (.cons rfl (.cons rfl (.cons rfl (.cons rfl (.cons rfl (.cons rfl (.nil _))))))))), ⟨by omega, hA2, hB2, ?_⟩, by omega⟩
                         rw [hgs, e, hYAe, hYBe]
                         exact hs)
                      | (have e : gjRow 10007 c1 Y k = Y.set k (axpy 10007 f (rr Y k) (rr Y c1)) := by unfold gjRow; rw [hfz.out, if_neg (fun h => h.elim (fun h => hg32_3 (by rw [h])) hc32)]
                         refine ⟨k + 1, .cons rfl (.cons rfl (.cons rfl (.cons rfl (.cons rfl (.cons rfl (.cons rfl (.cons rfl (.cons rfl (.nil _))))))))), ⟨by omega, hA3, hB3, ?_⟩, by omega⟩
                         rw [hgs, e, hsetA, hsetB, axpy_take, axpy_drop, ← hrA, ← hrB, ← hrA, ← hrB]
                         have e1 := mixL_all haA.out
                         have e2 := mixL_all haB.out
                         rw [hr6] at e1
                         rw [hr7] at e2
                         rw [show j = d from by omega, e1, e2] at hs
                         exact hs)
                  · refine W_skip ?_
                    refine W_seq ?_
                    refine W_reg ?_
                    refine T_pu rfl rfl (pu_move rfl) ?_
                    refine T_pu rfl rfl (pu_move rfl) ?_
                    refine T_nil ?_
                    refine W_block ?_
                    clear hcA6 hcf hh6 hMA2
                    have haA : Go.RowKit.Hid ((axpy 10007 f (rr YA k) (rr YA c1)).length = (rr YA k).length) := by show _ = _; rw [(axpy_ok (by omega) hr6 hr8).1, hr6]
                    have haB : Go.RowKit.Hid ((axpy 10007 f (rr YB k) (rr YB c1)).length = (rr YB k).length) := by show _ = _; rw [(axpy_ok (by omega) hr7 hr9).1, hr7]
                    refine W_loop (σ := Nat) (fun j => [(4, .int .i64 d), (5, (.slice (some ⟨gA, 0, none⟩) d cA)), (6, (.slice (some ⟨gB, 0, none⟩) d cB)), (7, .int .i64 D), (34, .int .i64 d), (35, .int .i64 c1), (10, .int .i64 c1), (146, .int .i64 d), (147, .int .i64 k), (14, .int .i64 k), (15, .int .i64 f), (164, .int .i64 d), (165, .int .i64 j)]) (fun j w' => j ≤ d ∧ ∃ hA2 hB2, St no w [aMat (.slice (some ⟨gA, 0, none⟩) d cA) hA2 (YA.set k (mixL (axpy 10007 f (rr YA k) (rr YA c1)) (rr YA k) j)), aMat (.slice (some ⟨gB, 0, none⟩) d cB) hB2 (YB.set k (mixL (axpy 10007 f (rr YB k) (rr YB c1)) (rr YB k) j))] w') (fun j => d - j) 0 ?_ ?_ ?_
                    · exact .cons rfl (.cons rfl (.cons rfl (.cons rfl (.cons rfl (.cons rfl (.cons rfl (.cons rfl (.cons rfl (.cons rfl (.cons rfl (.cons rfl (.cons rfl (.nil _)))))))))))))
                    · exact ⟨Nat.zero_le _, _, _, by rw [mixL_zero, mixL_zero, set_self_rr (by omega), set_self_rr (by omega)]; exact hs⟩
                    clear hs
                    rintro j w18 ⟨hjd, hA3, hB3, hs⟩
                    refine W_seq ?_
                    refine W_reg ?_
                    refine T_pu rfl rfl (pu_lss rfl rfl) ?_
                    refine T_nil ?_
                    refine W_seq ?_
                    refine W_if rfl (fun hc34 => ?_) (fun hc34 => ?_)
                    · refine W_skip ?_
                      refine W_seq ?_
                      refine W_block ?_
                      refine W_seq ?_
                      refine W_reg ?_
                      refine T_pu rfl rfl (pu_move rfl) ?_
                      refine T_pu rfl rfl (pu_assign rfl) ?_
                      refine T_nil ?_
                      refine W_seq ?_
                      refine W_draw mixed 24 IS (fun w19 hk19 => ?_)
                      have hs := hs.next hk19
                      have hM := hs.mat 0 rfl
                      have hmk : rr (YA.set k (mixL (axpy 10007 f (rr YA k) (rr YA c1)) (rr YA k) j)) k = mixL (axpy 10007 f (rr YA k) (rr YA c1)) (rr YA k) j := rr_set_self (by omega)
                      have hmc : rr (YA.set k (mixL (axpy 10007 f (rr YA k) (rr YA c1)) (rr YA k) j)) c1 = rr YA c1 := rr_set_ne (by omega)
                      have hmkl : (mixL (axpy 10007 f (rr YA k) (rr YA c1)) (rr YA k) j).length = d := by rw [mixL_length haA.out (by omega)]; exact hr6
                      obtain ⟨b5, cc5, hh5, hcA5, hO5⟩ := hM.at (i := k) (by omega) (by rw [List.length_set]; omega) (show List.length _ = d by rw [hmk]; exact hmkl) (by omega)
                      obtain ⟨b7, cc7, hh7, hcA7, hO7⟩ := hM.at (i := c1) (by omega) (by rw [List.length_set]; omega) (show List.length _ = d by rw [hmc]; exact hr8) (by omega)
                      rw [hmk] at hO5
                      rw [hmc] at hO7
                      have hmx := mixL_rd haA.out (x := j) (by omega)
                      obtain ⟨x, hx, hcx⟩ := hO5.ri.at0x (i := j) (by omega) (by omega)
                      obtain ⟨y, hy, hcy⟩ := hO7.ri.at0x (i := j) (by omega) (by omega)
                      have hxr : 0 ≤ x ∧ x < 10007 := by rw [hx.out, hmx]; exact (hYA.rr (i := k) (by omega) (by omega)).2.rd (by omega) (by omega)
                      have hyr : 0 ≤ y ∧ y < 10007 := by rw [hy.out]; exact (hYA.rr (i := c1) (by omega) (by omega)).2.rd (by omega) (by omega)
                      have hx : Go.RowKit.Hid (x = rd (rr YA k) j) := hx.out.trans hmx
                      clear hmx hmk hmkl hmc hM hO5 hO7
                      have hml2 := mul_range hfr1 hyr (by omega)
                      refine D_pu 0 (by kernel_rfl) rfl (by kernel_rfl) (by kernel_rfl) rfl rfl (by kernel_rfl) (Pu.stable (pu_move rfl)) ?_
                      refine D_pu 1 (by kernel_rfl) rfl (by kernel_rfl) (by kernel_rfl) rfl rfl (by kernel_rfl) (Pu.stable (pu_move rfl)) ?_
                      refine D_pu 2 (by kernel_rfl) rfl (by kernel_rfl) (by kernel_rfl) rfl rfl (by kernel_rfl) (Pu.stable ((by first | exact pu_ix1 Try.underlying32 ty22 rfl rfl (by omega) (by omega) | exact pu_index Try.underlying32 ty22 rfl rfl (by omega) (by omega)))) ?_
                      refine D_rd 3 (by kernel_rfl) rfl (by kernel_rfl) (by kernel_rfl) rfl rfl (by kernel_rfl) (by kernel_rfl) (by kernel_rfl) (pi_load Try.underlying22 rfl rfl (fun w' h => by obtain rfl := h rfl; exact (by first | exact hcA5 | exact hcA7 | exact hcx | exact hcy))) ?_
                      refine D_pu 4 (by kernel_rfl) rfl (by kernel_rfl) (by kernel_rfl) rfl rfl (by kernel_rfl) (Pu.stable (pu_move rfl)) ?_
                      refine D_pu 5 (by kernel_rfl) rfl (by kernel_rfl) (by kernel_rfl) rfl rfl (by kernel_rfl) (Pu.stable (pu_move rfl)) ?_
                      refine D_pu 6 (by kernel_rfl) rfl (by kernel_rfl) (by kernel_rfl) rfl rfl (by kernel_rfl) (Pu.stable (pu_move rfl)) ?_
                      refine D_pu 7 (by kernel_rfl) rfl (by kernel_rfl) (by kernel_rfl) rfl rfl (by kernel_rfl) (Pu.stable ((by first | exact pu_ix1 Try.underlying32 ty22 rfl rfl (by omega) (by omega) | exact pu_index Try.underlying32 ty22 rfl rfl (by omega) (by omega)))) ?_
                      refine D_rd 8 (by kernel_rfl) rfl (by kernel_rfl) (by kernel_rfl) rfl rfl (by kernel_rfl) (by kernel_rfl) (by kernel_rfl) (pi_load Try.underlying22 rfl rfl (fun w' h => by obtain rfl := h rfl; exact (by first | exact hcA5 | exact hcA7 | exact hcx | exact hcy))) ?_
                      refine D_pu 9 (by kernel_rfl) rfl (by kernel_rfl) (by kernel_rfl) rfl rfl (by kernel_rfl) (Pu.stable (pu_move rfl)) ?_
                      refine D_pu 10 (by kernel_rfl) rfl (by kernel_rfl) (by kernel_rfl) rfl rfl (by kernel_rfl) (Pu.stable ((by first | exact pu_ix1 Try.underlying22 ty2 rfl rfl (by omega) (by omega) | exact pu_index Try.underlying22 ty2 rfl rfl (by omega) (by omega)))) ?_
                      refine D_rd 11 (by kernel_rfl) rfl (by kernel_rfl) (by kernel_rfl) rfl rfl (by kernel_rfl) (by kernel_rfl) (by kernel_rfl) (pi_load Try.underlying2 rfl rfl (fun w' h => by obtain rfl := h rfl; exact (by first | exact hcA5 | exact hcA7 | exact hcx | exact hcy))) ?_
                      refine D_pu 12 (by kernel_rfl) rfl (by kernel_rfl) (by kernel_rfl) rfl rfl (by kernel_rfl) (Pu.stable (pu_move rfl)) ?_
                      refine D_pu 13 (by kernel_rfl) rfl (by kernel_rfl) (by kernel_rfl) rfl rfl (by kernel_rfl) (Pu.stable (pu_move rfl)) ?_
                      refine D_pu 14 (by kernel_rfl) rfl (by kernel_rfl) (by kernel_rfl) rfl rfl (by kernel_rfl) (Pu.stable (pu_move rfl)) ?_
                      refine D_pu 15 (by kernel_rfl) rfl (by kernel_rfl) (by kernel_rfl) rfl rfl (by kernel_rfl) (Pu.stable ((by first | exact pu_ix1 Try.underlying32 ty22 rfl rfl (by omega) (by omega) | exact pu_index Try.underlying32 ty22 rfl rfl (by omega) (by omega)))) ?_
                      refine D_rd 16 (by kernel_rfl) rfl (by kernel_rfl) (by kernel_rfl) rfl rfl (by kernel_rfl) (by kernel_rfl) (by kernel_rfl) (pi_load Try.underlying22 rfl rfl (fun w' h => by obtain rfl := h rfl; exact (by first | exact hcA5 | exact hcA7 | exact hcx | exact hcy))) ?_
                      refine D_pu 17 (by kernel_rfl) rfl (by kernel_rfl) (by kernel_rfl) rfl rfl (by kernel_rfl) (Pu.stable (pu_move rfl)) ?_
                      refine D_pu 18 (by kernel_rfl) rfl (by kernel_rfl) (by kernel_rfl) rfl rfl (by kernel_rfl) (Pu.stable ((by first | exact pu_ix1 Try.underlying22 ty2 rfl rfl (by omega) (by omega) | exact pu_index Try.underlying22 ty2 rfl rfl (by omega) (by omega)))) ?_
                      refine D_rd 19 (by kernel_rfl) rfl (by kernel_rfl) (by kernel_rfl) rfl rfl (by kernel_rfl) (by kernel_rfl) (by kernel_rfl) (pi_load Try.underlying2 rfl rfl (fun w' h => by obtain rfl := h rfl; exact (by first | exact hcA5 | exact hcA7 | exact hcx | exact hcy))) ?_
                      refine D_pu 20 (by kernel_rfl) rfl (by kernel_rfl) (by kernel_rfl) rfl rfl (by kernel_rfl) (Pu.stable (pu_mul64 rfl rfl (by omega))) ?_
                      refine D_pu 21 (by kernel_rfl) rfl (by kernel_rfl) (by kernel_rfl) rfl rfl (by kernel_rfl) (Pu.stable (pu_sub64 rfl rfl (by omega))) ?_
                      refine D_go 22 (by kernel_rfl) (by first | rfl | (intro _; rfl) | (intro h; exact absurd (show true = false from h) (by decide)) | exact Kp.refl _ _ | assumption) rfl rfl rfl (st_call fn92 rfl ((inField_ok _ _).mono ?_))
                      rintro v w' ⟨rfl, rfl⟩
                      refine D_pu 23 (by kernel_rfl) rfl (by kernel_rfl) (by kernel_rfl) rfl rfl (by kernel_rfl) (Pu.stable ((by first | exact pu_ix1 Try.underlying22 ty2 rfl rfl (by omega) (by omega) | exact pu_index Try.underlying22 ty2 rfl rfl (by omega) (by omega)))) ?_
                      refine D_goN 24 (by kernel_rfl) (by first | rfl | (intro _; rfl) | (intro h; exact absurd (show true = false from h) (by decide)) | exact Kp.refl _ _ | assumption) rfl rfl (st_storeM hs 0 rfl (k : Int) (by omega) (by rw [List.length_set]; omega) hh5 ty2 rfl rfl (by omega) (by omega) fun w20 hk20 hs => ?_)
                      rw [sub_mod, hx.out, hy.out, set2_set (by omega), Int.toNat_natCast, ← axpy_rd (n := d) hr6 hr8 (by omega), mixL_set haA.out (by omega)] at hs
                      simp only [List.set_cons_zero] at hs
                      refine D_done (by kernel_rfl) (by first | rfl | (intro _; rfl) | (intro h; exact absurd (show true = false from h) (by decide)) | exact Kp.refl _ _ | assumption) ?_
                      refine W_draw mixed 24 IS (fun w21 hk21 => ?_)
                      have hs := hs.next hk21
                      have hM := hs.mat 1 rfl
                      have hmk : rr (YB.set k (mixL (axpy 10007 f (rr YB k) (rr YB c1)) (rr YB k) j)) k = mixL (axpy 10007 f (rr YB k) (rr YB c1)) (rr YB k) j := rr_set_self (by omega)
                      have hmc : rr (YB.set k (mixL (axpy 10007 f (rr YB k) (rr YB c1)) (rr YB k) j)) c1 = rr YB c1 := rr_set_ne (by omega)
                      have hmkl : (mixL (axpy 10007 f (rr YB k) (rr YB c1)) (rr YB k) j).length = d := by rw [mixL_length haB.out (by omega)]; exact hr7
                      obtain ⟨b5, cc5, hh5, hcA5, hO5⟩ := hM.at (i := k) (by omega) (by rw [List.length_set]; omega) (show List.length _ = d by rw [hmk]; exact hmkl) (by omega)
                      obtain ⟨b7, cc7, hh7, hcA7, hO7⟩ := hM.at (i := c1) (by omega) (by rw [List.length_set]; omega) (show List.length _ = d by rw [hmc]; exact hr9) (by omega)
                      rw [hmk] at hO5
                      rw [hmc] at hO7
                      have hmx := mixL_rd haB.out (x := j) (by omega)
                      obtain ⟨x, hx, hcx⟩ := hO5.ri.at0x (i := j) (by omega) (by omega)
                      obtain ⟨y, hy, hcy⟩ := hO7.ri.at0x (i := j) (by omega) (by omega)
                      have hxr : 0 ≤ x ∧ x < 10007 := by rw [hx.out, hmx]; exact (hYB.rr (i := k) (by omega) (by omega)).2.rd (by omega) (by omega)
                      have hyr : 0 ≤ y ∧ y < 10007 := by rw [hy.out]; exact (hYB.rr (i := c1) (by omega) (by omega)).2.rd (by omega) (by omega)
                      have hx : Go.RowKit.Hid (x = rd (rr YB k) j) := hx.out.trans hmx
                      clear hmx hmk hmkl hmc hM hO5 hO7
                      have hml2 := mul_range hfr1 hyr (by omega)
                      refine D_pu 0 (by kernel_rfl) rfl (by kernel_rfl) (by kernel_rfl) rfl rfl (by kernel_rfl) (Pu.stable (pu_move rfl)) ?_
                      refine D_pu 1 (by kernel_rfl) rfl (by kernel_rfl) (by kernel_rfl) rfl rfl (by kernel_rfl) (Pu.stable (pu_move rfl)) ?_
                      refine D_pu 2 (by kernel_rfl) rfl (by kernel_rfl) (by kernel_rfl) rfl rfl (by kernel_rfl) (Pu.stable ((by first | exact pu_ix1 Try.underlying32 ty22 rfl rfl (by omega) (by omega) | exact pu_index Try.underlying32 ty22 rfl rfl (by omega) (by omega)))) ?_
                      refine D_rd 3 (by kernel_rfl) rfl (by kernel_rfl) (by kernel_rfl) rfl rfl (by kernel_rfl) (by kernel_rfl) (by kernel_rfl) (pi_load Try.underlying22 rfl rfl (fun w' h => by obtain rfl := h rfl; exact (by first | exact hcA5 | exact hcA7 | exact hcx | exact hcy))) ?_
                      refine D_pu 4 (by kernel_rfl) rfl (by kernel_rfl) (by kernel_rfl) rfl rfl (by kernel_rfl) (Pu.stable (pu_move rfl)) ?_
                      refine D_pu 5 (by kernel_rfl) rfl (by kernel_rfl) (by kernel_rfl) rfl rfl (by kernel_rfl) (Pu.stable (pu_move rfl)) ?_
                      refine D_pu 6 (by kernel_rfl) rfl (by kernel_rfl) (by kernel_rfl) rfl rfl (by kernel_rfl) (Pu.stable (pu_move rfl)) ?_
                      refine D_pu 7 (by kernel_rfl) rfl (by kernel_rfl) (by kernel_rfl) rfl rfl (by kernel_rfl) (Pu.stable ((by first | exact pu_ix1 Try.underlying32 ty22 rfl rfl (by omega) (by omega) | exact pu_index Try.underlying32 ty22 rfl rfl (by omega) (by omega)))) ?_
                      refine D_rd 8 (by kernel_rfl) rfl (by kernel_rfl) (by kernel_rfl) rfl rfl (by kernel_rfl) (by kernel_rfl) (by kernel_rfl) (pi_load Try.underlying22 rfl rfl (fun w' h => by obtain rfl := h rfl; exact (by first | exact hcA5 | exact hcA7 | exact hcx | exact hcy))) ?_
                      refine D_pu 9 (by kernel_rfl) rfl (by kernel_rfl) (by kernel_rfl) rfl rfl (by kernel_rfl) (Pu.stable (pu_move rfl)) ?_
                      refine D_pu 10 (by kernel_rfl) rfl (by kernel_rfl) (by kernel_rfl) rfl rfl (by kernel_rfl) (Pu.stable ((by first | exact pu_ix1 Try.underlying22 ty2 rfl rfl (by omega) (by omega) | exact pu_index Try.underlying22 ty2 rfl rfl (by omega) (by omega)))) ?_
                      refine D_rd 11 (by kernel_rfl) rfl (by kernel_rfl) (by kernel_rfl) rfl rfl (by kernel_rfl) (by kernel_rfl) (by kernel_rfl) (pi_load Try.underlying2 rfl rfl (fun w' h => by obtain rfl := h rfl; exact (by first | exact hcA5 | exact hcA7 | exact hcx | exact hcy))) ?_
                      refine D_pu 12 (by kernel_rfl) rfl (by kernel_rfl) (by kernel_rfl) rfl rfl (by kernel_rfl) (Pu.stable (pu_move rfl)) ?_
                      refine D_pu 13 (by kernel_rfl) rfl (by kernel_rfl) (by kernel_rfl) rfl rfl (by kernel_rfl) (Pu.stable (pu_move rfl)) ?_
                      refine D_pu 14 (by kernel_rfl) rfl (by kernel_rfl) (by kernel_rfl) rfl rfl (by kernel_rfl) (Pu.stable (pu_move rfl)) ?_
                      refine D_pu 15 (by kernel_rfl) rfl (by kernel_rfl) (by kernel_rfl) rfl rfl (by kernel_rfl) (Pu.stable ((by first | exact pu_ix1 Try.underlying32 ty22 rfl rfl (by omega) (by omega) | exact pu_index Try.underlying32 ty22 rfl rfl (by omega) (by omega)))) ?_
                      refine D_rd 16 (by kernel_rfl) rfl (by kernel_rfl) (by kernel_rfl) rfl rfl (by kernel_rfl) (by kernel_rfl) (by kernel_rfl) (pi_load Try.underlying22 rfl rfl (fun w' h => by obtain rfl := h rfl; exact (by first | exact hcA5 | exact hcA7 | exact hcx | exact hcy))) ?_
                      refine D_pu 17 (by kernel_rfl) rfl (by kernel_rfl) (by kernel_rfl) rfl rfl (by kernel_rfl) (Pu.stable (pu_move rfl)) ?_
                      refine D_pu 18 (by kernel_rfl) rfl (by kernel_rfl) (by kernel_rfl) rfl rfl (by kernel_rfl) (Pu.stable ((by first | exact pu_ix1 Try.underlying22 ty2 rfl rfl (by omega) (by omega) | exact pu_index Try.underlying22 ty2 rfl rfl (by omega) (by omega)))) ?_
                      refine D_rd 19 (by kernel_rfl) rfl (by kernel_rfl) (by kernel_rfl) rfl rfl (by kernel_rfl) (by kernel_rfl) (by kernel_rfl) (pi_load Try.underlying2 rfl rfl (fun w' h => by obtain rfl := h rfl; exact (by first | exact hcA5 | exact hcA7 | exact hcx | exact hcy))) ?_
                      refine D_pu 20 (by kernel_rfl) rfl (by kernel_rfl) (by kernel_rfl) rfl rfl (by kernel_rfl) (Pu.stable (pu_mul64 rfl rfl (by omega))) ?_
                      refine D_pu 21 (by kernel_rfl) rfl (by kernel_rfl) (by kernel_rfl) rfl rfl (by kernel_rfl) (Pu.stable (pu_sub64 rfl rfl (by omega))) ?_
                      refine D_go 22 (by kernel_rfl) (by first | rfl | (intro _; rfl) | (intro h; exact absurd (show true = false from h) (by decide)) | exact Kp.refl _ _ | assumption) rfl rfl rfl (st_call fn92 rfl ((inField_ok _ _).mono ?_))
                      rintro v w' ⟨rfl, rfl⟩
                      refine D_pu 23 (by kernel_rfl) rfl (by kernel_rfl) (by kernel_rfl) rfl rfl (by kernel_rfl) (Pu.stable ((by first | exact pu_ix1 Try.underlying22 ty2 rfl rfl (by omega) (by omega) | exact pu_index Try.underlying22 ty2 rfl rfl (by omega) (by omega)))) ?_
                      refine D_goN 24 (by kernel_rfl) (by first | rfl | (intro _; rfl) | (intro h; exact absurd (show true = false from h) (by decide)) | exact Kp.refl _ _ | assumption) rfl rfl (st_storeM hs 1 rfl (k : Int) (by omega) (by rw [List.length_set]; omega) hh5 ty2 rfl rfl (by omega) (by omega) fun w22 hk22 hs => ?_)
                      rw [sub_mod, hx.out, hy.out, set2_set (by omega), Int.toNat_natCast, ← axpy_rd (n := d) hr7 hr9 (by omega), mixL_set haB.out (by omega)] at hs
                      simp only [List.set_cons_succ, List.set_cons_zero] at hs
                      refine D_done (by kernel_rfl) (by first | rfl | (intro _; rfl) | (intro h; exact absurd (show true = false from h) (by decide)) | exact Kp.refl _ _ | assumption) ?_
                      refine W_reg ?_
                      refine T_pu rfl rfl (pu_add64 rfl rfl (by omega)) ?_
                      refine T_pu rfl rfl (pu_move rfl) ?_
                      refine T_nil ?_
                      exact ⟨j + 1, .cons rfl (.cons rfl (.cons rfl (.cons rfl (.cons rfl (.cons rfl (.cons rfl (.cons rfl (.cons rfl (.cons rfl (.cons rfl (.cons rfl (.cons rfl (.nil _))))))))))))), ⟨by omega, _, _, hs⟩, by omega⟩
                    · refine W_exit rfl ?_
                      refine W_reg ?_
                      refine T_pu rfl rfl (pu_add64 rfl rfl (by omega)) ?_
                      refine T_pu rfl rfl (pu_move rfl) ?_
                      refine T_nil ?_
                      first
                        | (have hkc : (k : Int) = c1 := hg32_3
                           have e : gjRow 10007 c1 Y k = Y := by unfold gjRow; rw [if_pos (.inl (Int.ofNat.inj hkc))]
                           refine ⟨k + 1, .cons rfl (.cons rfl (.cons rfl (.cons rfl (.cons rfl (.cons rfl (.cons rfl (.cons rfl (.cons rfl (.nil _))))))))), ⟨by omega, hA2, hB2, ?_⟩, by omega⟩
                           rw [hgs, e, hYAe, hYBe]
                           exact hs)
                        | (have hf0 : f = 0 := hc32
                           have e : gjRow 10007 c1 Y k = Y := by unfold gjRow; rw [if_pos (.inr (by rw [hfz.out]; exact hf0))]
                           refine ⟨k + 1, .cons rfl (.cons rfl (.cons rfl (.cons rfl (.cons rfl (.cons rfl (.cons rfl (.cons rfl (.cons rfl (.nil _))))))))), ⟨by omega, hA2, hB2, ?_⟩, by omega⟩
                           rw [hgs, e, hYAe, hYBe]
                           exact hs)
                        | (have e : gjRow 10007 c1 Y k = Y.set k (axpy 10007 f (rr Y k) (rr Y c1)) := by unfold gjRow; rw [hfz.out, if_neg (fun h => h.elim (fun h => hg32_3 (by rw [h])) hc32)]
                           refine ⟨k + 1, .cons rfl (.cons rfl (.cons rfl (.cons rfl (.cons rfl (.cons rfl (.cons rfl (.cons rfl (.cons rfl (.nil _))))))))), ⟨by omega, hA3, hB3, ?_⟩, by omega⟩
                           rw [hgs, e, hsetA, hsetB, axpy_take, axpy_drop, ← hrA, ← hrB, ← hrA, ← hrB]
                           have e1 := mixL_all haA.out
                           have e2 := mixL_all haB.out
                           rw [hr6] at e1
                           rw [hr7] at e2
                           rw [show j = d from by omega, e1, e2] at hs
                           exact hs)
              · refine W_exit rfl ?_
                refine W_reg ?_
                refine T_pu rfl rfl (pu_add64 rfl rfl (by omega)) ?_
                refine T_pu rfl rfl (pu_move rfl) ?_
                refine T_nil ?_
                refine ⟨(c1 + 1, gjRows 10007 c1 Z2 d, D), .cons rfl (.cons rfl (.cons rfl (.cons rfl (.cons rfl (.cons rfl (.nil _)))))), ⟨by show c1 + 1 ≤ d; omega, hsucc, hA2, hB2, ?_⟩, by show d - (c1 + 1) < d - c1; omega⟩
                have hYd : gjRows 10007 c1 Z2 d = Y := by rw [← hYe]; congr 1; omega
                rw [hYd]
                exact hs
    · refine W_exit rfl ?_
      refine W_seq ?_
      refine W_reg ?_
      refine T_pu rfl rfl (pu_move rfl) ?_
      refine T_pu rfl rfl (pu_move rfl) ?_
      refine T_pu rfl rfl (pu_assign rfl) ?_
      refine T_pu rfl rfl (pu_assign rfl) ?_
      refine T_nil ?_
      refine W_ret ?_
      obtain ⟨e1, e2⟩ := hds (by rw [← show c1 = d from by omega]; exact hgj)
      refine Res_2 rfl rfl rfl ⟨_, by rw [e1], ?_⟩
      rw [e2]
      exact hs.isNewM 1 rfl
end Go.Proofs.Ytdpbfdjpeofbmaa.L
