/- The law Loads. -/
import Derived.Test.YtemeeeomcjdlnaaDoorBa16
namespace Go.Proofs.YtemeeeomcjdlnaaDoor
open Go Go.RowKit
set_option linter.unusedSimpArgs false
set_option linter.unusedVariables false
set_option linter.deprecated false
theorem digs_cons (N n m : Nat) : digs N (n + 1) m = m % N :: digs N n (m / N) := by
  unfold digs
  rw [List.range_succ_eq_map, List.map_cons, List.map_map]
  refine List.cons_eq_cons.2 ⟨by simp, List.map_congr_left fun i _ => ?_⟩
  show m / N ^ (i + 1) % N = m / N / N ^ i % N
  rw [Nat.div_div_eq_div_mul, Nat.pow_succ, Nat.mul_comm]
def num (N : Nat) : List Nat → Nat
  | [] => 0
  | b :: a => b + N * num N a
theorem num_lt {N : Nat} : ∀ (a : List Nat), (∀ b ∈ a, b < N) → num N a < N ^ a.length
  | [], _ => by simp [num]
  | b :: a, h => by
    have h1 := num_lt a fun x hx => h x (List.mem_cons_of_mem _ hx)
    have h2 := h b (List.mem_cons_self ..)
    have h3 : N * (num N a + 1) ≤ N * N ^ a.length := Nat.mul_le_mul_left _ h1
    rw [num, List.length_cons, Nat.pow_succ, Nat.mul_comm (N ^ a.length) N]
    rw [Nat.mul_add, Nat.mul_one] at h3
    omega
theorem digs_num {N : Nat} : ∀ (a : List Nat), (∀ b ∈ a, b < N) → digs N a.length (num N a) = a
  | [], _ => rfl
  | b :: a, h => by
    have h2 := h b (List.mem_cons_self ..)
    have e1 : (b + N * num N a) % N = b := by rw [Nat.add_mul_mod_self_left, Nat.mod_eq_of_lt h2]
    have e2 : (b + N * num N a) / N = num N a := by rw [Nat.add_mul_div_left _ _ (by omega), Nat.div_eq_of_lt h2, Nat.zero_add]
    rw [List.length_cons, digs_cons, num, e1, e2, digs_num a fun x hx => h x (List.mem_cons_of_mem _ hx)]
theorem try_iff {t : Trim} {ws : List Int} (hN : 0 < t.bays.length) : (List.range (t.bays.length ^ ws.length)).any (tryF t ws) = true ↔ ∃ a, Fit t (zeros t.bays.length) ws a := by
  rw [List.any_eq_true]
  constructor
  · rintro ⟨m, _, h⟩
    exact ⟨digs t.bays.length ws.length m, digs_len .., digs_lt hN _ _, of_decide_eq_true h⟩
  · rintro ⟨a, h1, h2, h3⟩
    refine ⟨num t.bays.length a, List.mem_range.2 (by rw [← h1]; exact num_lt a h2), ?_⟩
    unfold tryF
    rw [← h1, digs_num a h2]
    exact decide_eq_true h3
theorem fit_small {t : Trim} (ht : TrimOk t) : ∀ (ls ws : List Int) (a : List Nat), ls.length = t.bays.length → (∀ k, 0 ≤ ls.getD k 0) → (∀ w ∈ ws, 0 ≤ w) → Fit t ls ws a → ∀ w ∈ ws, w ≤ 1000000
  | ls, w :: ws, b :: a, hl, h0, hw, hf, x, hx => by
    obtain ⟨h1, h2, h3⟩ := hf
    rw [addTo] at h3
    have hb := h2 b (List.mem_cons_self ..)
    have hbl : b < ls.length := by omega
    have hw0 := hw w (List.mem_cons_self ..)
    rcases List.mem_cons.1 hx with rfl | hx
    · refine Int.not_lt.1 fun c => fits_over hb ?_ h3
      have h5 := addTo_ge (ls.set b (ls.getD b 0 + x)) ws a (fun y hy => hw y (List.mem_cons_of_mem _ hy)) (fun y hy => by rw [List.length_set, hl]; exact h2 y (List.mem_cons_of_mem _ hy)) b
      rw [getD_set _ _ _ _ hbl, if_pos rfl] at h5
      have h6 := h0 b
      have h7 := (ht.2.2.2.1 _ (List.getElem_mem hb)).2.2
      rw [getD_lt _ _ _ hb]
      omega
    · exact fit_small ht (ls.set b (ls.getD b 0 + w)) ws a (by rw [List.length_set]; exact hl) (fun k => by rw [getD_set _ _ _ _ hbl]; have := h0 k; have := h0 b; split <;> omega) (fun y hy => hw y (List.mem_cons_of_mem _ hy)) ⟨by simpa using h1, fun y hy => h2 y (List.mem_cons_of_mem _ hy), h3⟩ x hx
  | ls, _ :: _, [], _, _, _, hf, _, _ => by cases hf.1
  | ls, [], _, _, _, _, _, _, hx => by cases hx
theorem zeros_ge (n k : Nat) : 0 ≤ (zeros n).getD k 0 := by unfold zeros; rw [List.getD_eq_getElem?_getD, List.getElem?_replicate]; split <;> simp
theorem start_iff {t : Trim} {ws : List Int} (hw : ∀ w ∈ ws, 0 ≤ w) : (startR t ws).1 = true ↔ ∃ a, Fit t (zeros t.bays.length) ws a := by
  unfold startR
  rw [putR_iff hw ws.length (Nat.le_refl _) _ _ (List.length_replicate ..), Nat.sub_self, List.drop_zero]; rfl
theorem load_poss {t : Trim} {ws : List Int} (ht : TrimOk t) : (loadOf t ws).2 = possOf t ws := by
  by_cases h1 : ws.any negB = true
  · rw [ld0 h1, po0 h1]
  · replace h1 := Bool.eq_false_iff.2 h1
    have hw : ∀ w ∈ ws, 0 ≤ w := fun w hw => by have := List.any_eq_false.1 h1 w hw; simp [negB] at this; omega
    by_cases h2 : tooB t ws = true
    · rw [ld1 h1 h2, po1 h1 h2]
    · replace h2 := Bool.eq_false_iff.2 h2
      have hs := start_iff (t := t) hw
      rw [ld2 h1 h2]
      by_cases h3 : ws.any bigW = true
      · rw [po2 h1 h2 h3, if_neg]
        intro c
        obtain ⟨a, ha⟩ := hs.1 c
        obtain ⟨w, hm, hb⟩ := List.any_eq_true.1 h3
        have := fit_small ht _ ws a (List.length_replicate ..) (zeros_ge _) hw ha w hm
        simp [bigW] at hb
        omega
      · rw [po3 h1 h2 (Bool.eq_false_iff.2 h3)]
        have hN := ht.2.2.1.1
        have e : (startR t ws).1 = (List.range (t.bays.length ^ ws.length)).any (tryF t ws) := by
          rw [Bool.eq_iff_iff, hs, try_iff (by omega)]
        rw [e]
        split <;> rfl
/-- What Load returned is a distribution that fits. -/
theorem load_good {t : Trim} {ws : List Int} (ht : TrimOk t) (h : (loadOf t ws).2 = 0) : LdOk (t, ws, (loadOf t ws).1) ∧ fitsOf t (addTo (zeros t.bays.length) ws ((loadOf t ws).1.map Int.toNat)) = 0 := by
  by_cases h1 : ws.any negB = true
  · rw [ld0 h1] at h; cases h
  · replace h1 := Bool.eq_false_iff.2 h1
    have hw : ∀ w ∈ ws, 0 ≤ w := fun w hw => by have := List.any_eq_false.1 h1 w hw; simp [negB] at this; omega
    by_cases h2 : tooB t ws = true
    · rw [ld1 h1 h2] at h; cases h
    · replace h2 := Bool.eq_false_iff.2 h2
      rw [ld2 h1 h2] at h ⊢
      split at h
      · rename_i hs
        rw [if_pos hs]
        dsimp only
        obtain ⟨a, ha, hr⟩ := putR_res ws.length (Nat.le_refl _) (List.replicate ws.length 0) (List.replicate t.bays.length 0) (List.length_replicate ..) (List.length_replicate ..) hs
        rw [Nat.sub_self, List.drop_zero] at ha
        rw [Nat.sub_self, List.take_zero, List.nil_append] at hr
        have hr2 : (startR t ws).2.1 = nats a := hr
        rw [hr2, nats_toNat]
        have hsm := fit_small ht _ ws a (List.length_replicate ..) (zeros_ge t.bays.length) hw ha
        simp only [tooB, Bool.or_eq_false_iff, decide_eq_false_iff_not] at h2
        exact ⟨⟨⟨a, rfl, ha.1, ha.2.1⟩, by dsimp only; omega, fun w hm => ⟨hw w hm, hsm w hm⟩, ht.2.2.1.2⟩, ha.2.2⟩
      · cases h
theorem load_nil {t : Trim} {ws : List Int} (h : (loadOf t ws).2 ≠ 0) : (loadOf t ws).1 = [] := by
  revert h
  unfold loadOf
  split
  · exact fun _ => rfl
  · split
    · exact fun _ => rfl
    · split
      · exact fun h => absurd rfl h
      · exact fun _ => rfl
theorem fLoad_eq (em ix : Int) (bs : List Bay) (en : List Point) (ws : List Int) : gOf aPl fLoad [.agg [.int .i64 em, .int .i64 ix, .list (bs.map Bay.enc) false, .list (en.map Point.enc) false], .list (ints ws) false] = (TrimOk ⟨em, ix, bs, en⟩ ∧ ws.length ≤ 1000 ∧ ∀ w ∈ ws, inI w, .tup [.list (ints (loadOf ⟨em, ix, bs, en⟩ ws).1) false, .int .i64 (loadOf ⟨em, ix, bs, en⟩ ws).2]) := gOf_eq aPl_inj (⟨em, ix, bs, en⟩, ws)
theorem fPo_eq (em ix : Int) (bs : List Bay) (en : List Point) (ws : List Int) : gOf aPl fPo [.agg [.int .i64 em, .int .i64 ix, .list (bs.map Bay.enc) false, .list (en.map Point.enc) false], .list (ints ws) false] = (TrimOk ⟨em, ix, bs, en⟩ ∧ ws.length ≤ 1000, .int .i64 (possOf ⟨em, ix, bs, en⟩ ws)) := gOf_eq aPl_inj (⟨em, ix, bs, en⟩, ws)
noncomputable def tL5 : Tab
  | 8 => (gOf aT fBig)
  | 9 => (gOf aUnit fTrue)
  | 12 => (gOf aT fChk)
  | 16 => (gOf aPl fFits)
  | 19 => (gOf aPl fLoad)
  | 20 => (gOf aPl fPo)
  | 21 => (gOf aLd fLd)
  | _ => gNo
theorem tL5_ok : ∀ f, PureC Tryd.prog UT f (tL5 f) := fun f => by
  unfold tL5
  split
  · exact big_p
  · exact awake_p
  · exact rcheck_p
  · exact rfits_p
  · exact load_p
  · exact rpossible_p
  · exact rloads_p
  · exact PureC.no
def fLaw5 (x : Trim × List Int) : Prop × V := (x.1.ok ∧ x.2.length ≤ 140737488355328 ∧ ∀ w ∈ x.2, inI w, .bool true)
set_option maxHeartbeats 4000000 in
theorem law5_p : PureC Tryd.prog UT 7 (gOf aPl fLaw5) := by
  have hG := tL5_ok
  refine PureC.ofArgs aPl_inj Tryd.func7 body7 nm7 res7 ?_
  rintro ⟨⟨em, ix, bs, en⟩, ws⟩ hv
  refine ⟨by rw [nt7]; simp [aPl], fun C hN Q hQ => ?_⟩
  rw [nt7] at hN
  unfold c7
  obtain ⟨hv, hl, hwi⟩ : (⟨em, ix, bs, en⟩ : Trim).ok ∧ ws.length ≤ 140737488355328 ∧ ∀ w ∈ ws, inI w := hv
  refine aw_seq (aw_region (EF := EF0) hG (by rw [hN]; exact tr7_0) ?_)
  simp only [a7_0, go_sem, ↓reduceIte, Nat.reduceEqDiff, reduceCtorEq, Nat.reduceAdd, Nat.reduceLT, Nat.reduceLeDiff, Nat.reduceBNe, Nat.reduceBEq, Int.reduceToNat, aPl, Trim.enc, tL5, fTrue_eq]
  refine aw_seq ?_
  have hs := fun h => sz_of (t := ⟨em, ix, bs, en⟩) h
  have hln := fun h => chk_len (t := ⟨em, ix, bs, en⟩) (sz_of h)
  by_cases hbg : bigT ⟨em, ix, bs, en⟩ = true
  · skip
    refine aw_seq (aw_region (EF := EF0) hG (by rw [hN]; exact tr7_1) ?_)
    simp only [a7_1, go_sem, ↓reduceIte, Nat.reduceEqDiff, reduceCtorEq, Nat.reduceAdd, Nat.reduceLT, Nat.reduceLeDiff, Nat.reduceBNe, Nat.reduceBEq, Int.reduceToNat, fBig_eq, hv, hbg, fChk_eq, tL5, fTrue_eq]
    (repeat' apply And.intro) <;> (try first | omega | (intros; (repeat' apply And.intro) <;> first | assumption | omega | (simp_all; done)))
    refine aw_condT rfl ?_
    refine aw_seq (aw_region (EF := EF0) hG (by rw [hN]; exact tr7_2) ?_)
    simp only [a7_2, go_sem, ↓reduceIte, Nat.reduceEqDiff, reduceCtorEq, Nat.reduceAdd, Nat.reduceLT, Nat.reduceLeDiff, Nat.reduceBNe, Nat.reduceBEq, Int.reduceToNat, tL5, fTrue_eq]
    (repeat' apply And.intro) <;> (try first | omega | (intros; (repeat' apply And.intro) <;> first | assumption | omega | (simp_all; done)))
    refine aw_ret ?_
    show Q _ _
    refine hQ _ _ (.inl rfl) ?_ ?_ ?_ <;> simp only [outφ, outV, AR.res, go_sem, ↓reduceIte, Nat.reduceEqDiff, reduceCtorEq, Nat.reduceAdd, Nat.reduceLT, Nat.reduceLeDiff, Nat.reduceBNe, Nat.reduceBEq, Int.reduceToNat, fLaw5]
  · skip
    replace hbg := Bool.eq_false_iff.2 hbg
    replace hs := hs hbg
    replace hln := hln hbg
    refine aw_seq (aw_region (EF := EF0) hG (by rw [hN]; exact tr7_1) ?_)
    simp only [a7_1, go_sem, ↓reduceIte, Nat.reduceEqDiff, reduceCtorEq, Nat.reduceAdd, Nat.reduceLT, Nat.reduceLeDiff, Nat.reduceBNe, Nat.reduceBEq, Int.reduceToNat, fBig_eq, hv, hbg, fChk_eq, tL5, fTrue_eq, hs]
    (repeat' apply And.intro) <;> (try first | omega | (intros; (repeat' apply And.intro) <;> first | assumption | omega | (simp_all; done)))
    refine aw_cond (b := _) rfl (fun hb => ?_) (fun hb => ?_)
    · skip
      refine aw_seq (aw_region (EF := EF0) hG (by rw [hN]; exact tr7_2) ?_)
      simp only [a7_2, go_sem, ↓reduceIte, Nat.reduceEqDiff, reduceCtorEq, Nat.reduceAdd, Nat.reduceLT, Nat.reduceLeDiff, Nat.reduceBNe, Nat.reduceBEq, Int.reduceToNat, tL5, fTrue_eq]
      (repeat' apply And.intro) <;> (try first | omega | (intros; (repeat' apply And.intro) <;> first | assumption | omega | (simp_all; done)))
      refine aw_ret ?_
      show Q _ _
      refine hQ _ _ (.inl rfl) ?_ ?_ ?_ <;> simp only [outφ, outV, AR.res, go_sem, ↓reduceIte, Nat.reduceEqDiff, reduceCtorEq, Nat.reduceAdd, Nat.reduceLT, Nat.reduceLeDiff, Nat.reduceBNe, Nat.reduceBEq, Int.reduceToNat, fLaw5]
    · skip
      obtain ⟨hb1, hb3⟩ := Bool.or_eq_false_iff.1 hb
      obtain ⟨hb1, hb2⟩ := Bool.or_eq_false_iff.1 hb1
      have htr := none_of hb1
      have hl3 : ws.length ≤ 1000 := by simp only [decide_eq_false_iff_not] at hb3; omega
      have hlp := load_poss (ws := ws) htr
      have hlg := load_good (ws := ws) htr
      have hlz := load_nil (t := ⟨em, ix, bs, en⟩) (ws := ws)
      have e1 := fLoad_eq em ix bs en ws
      generalize loadOf ⟨em, ix, bs, en⟩ ws = r at hlp hlg hlz e1
      obtain ⟨lb, le⟩ := r
      dsimp only at hlp hlg hlz e1
      refine aw_skip ?_
      simp only [go_sem, ↓reduceIte, Nat.reduceEqDiff, reduceCtorEq, Nat.reduceAdd, Nat.reduceLT, Nat.reduceLeDiff, Nat.reduceBNe, Nat.reduceBEq, Int.reduceToNat]
      refine aw_seq (aw_region (EF := EF0) hG (by rw [hN]; exact tr7_3) ?_)
      simp only [a7_3, go_sem, ↓reduceIte, Nat.reduceEqDiff, reduceCtorEq, Nat.reduceAdd, Nat.reduceLT, Nat.reduceLeDiff, Nat.reduceBNe, Nat.reduceBEq, Int.reduceToNat, e1, htr, hl3, hwi, tL5, fTrue_eq]
      (repeat' apply And.intro) <;> (try first | omega | (intros; (repeat' apply And.intro) <;> first | assumption | omega | (simp_all; done)))
      refine aw_seq ?_
      refine aw_seq (aw_region (EF := EF0) hG (by rw [hN]; exact tr7_4) ?_)
      simp only [a7_4, go_sem, ↓reduceIte, Nat.reduceEqDiff, reduceCtorEq, Nat.reduceAdd, Nat.reduceLT, Nat.reduceLeDiff, Nat.reduceBNe, Nat.reduceBEq, Int.reduceToNat, fPo_eq, htr, hl3, ← hlp, tL5, fTrue_eq]
      (repeat' apply And.intro) <;> (try first | omega | (intros; (repeat' apply And.intro) <;> first | assumption | omega | (simp_all; done)))
      refine aw_condF rfl ?_
      refine aw_skip ?_
      simp only [go_sem, ↓reduceIte, Nat.reduceEqDiff, reduceCtorEq, Nat.reduceAdd, Nat.reduceLT, Nat.reduceLeDiff, Nat.reduceBNe, Nat.reduceBEq, Int.reduceToNat]
      refine aw_seq ?_
      refine aw_seq (aw_region (EF := EF0) hG (by rw [hN]; exact tr7_6) ?_)
      simp only [a7_6, go_sem, ↓reduceIte, Nat.reduceEqDiff, reduceCtorEq, Nat.reduceAdd, Nat.reduceLT, Nat.reduceLeDiff, Nat.reduceBNe, Nat.reduceBEq, Int.reduceToNat, tL5, fTrue_eq]
      refine aw_cond (b := _) rfl (fun hb6 => ?_) (fun hb6 => ?_)
      · simp only [decide_eq_true_eq, decide_eq_false_iff_not, Bool.and_eq_true, Bool.or_eq_true, Bool.not_eq_true', Bool.not_eq_false', Bool.and_eq_false_iff, Bool.or_eq_false_iff, Int.ofNat_lt, Int.ofNat_le, Nat.not_lt, Nat.not_le, Int.not_lt, Int.not_le] at hb6
        have hz := hlz hb6
        subst hz
        refine aw_seq (aw_region (EF := EF0) hG (by rw [hN]; exact tr7_7) ?_)
        simp only [a7_7, go_sem, ↓reduceIte, Nat.reduceEqDiff, reduceCtorEq, Nat.reduceAdd, Nat.reduceLT, Nat.reduceLeDiff, Nat.reduceBNe, Nat.reduceBEq, Int.reduceToNat, ints_nil, tL5, fTrue_eq]
        (repeat' apply And.intro) <;> (try first | omega | (intros; (repeat' apply And.intro) <;> first | assumption | omega | (simp_all; done)))
        refine aw_ret ?_
        show Q _ _
        refine hQ _ _ (.inl rfl) ?_ ?_ ?_ <;> simp only [outφ, outV, AR.res, go_sem, ↓reduceIte, Nat.reduceEqDiff, reduceCtorEq, Nat.reduceAdd, Nat.reduceLT, Nat.reduceLeDiff, Nat.reduceBNe, Nat.reduceBEq, Int.reduceToNat, fLaw5]
      · simp only [decide_eq_true_eq, decide_eq_false_iff_not, Bool.and_eq_true, Bool.or_eq_true, Bool.not_eq_true', Bool.not_eq_false', Bool.and_eq_false_iff, Bool.or_eq_false_iff, Int.ofNat_lt, Int.ofNat_le, Nat.not_lt, Nat.not_le, Int.not_lt, Int.not_le] at hb6
        refine aw_skip ?_
        simp only [go_sem, ↓reduceIte, Nat.reduceEqDiff, reduceCtorEq, Nat.reduceAdd, Nat.reduceLT, Nat.reduceLeDiff, Nat.reduceBNe, Nat.reduceBEq, Int.reduceToNat]
        obtain ⟨hld, hfit⟩ := hlg (by simpa using hb6)
        have hal3 : (addTo (zeros bs.length) ws (lb.map Int.toNat)).length ≤ 1000 := by have := htr.2.2.1.2; rw [addTo_len]; unfold zeros; rw [List.length_replicate]; dsimp only at this; omega
        refine aw_seq (aw_region (EF := EF0) hG (by rw [hN]; exact tr7_8) ?_)
        simp only [a7_8, go_sem, ↓reduceIte, Nat.reduceEqDiff, reduceCtorEq, Nat.reduceAdd, Nat.reduceLT, Nat.reduceLeDiff, Nat.reduceBNe, Nat.reduceBEq, Int.reduceToNat, fLd_eq, hld, tL5, fTrue_eq]
        (repeat' apply And.intro) <;> (try first | omega | (intros; (repeat' apply And.intro) <;> first | assumption | omega | (simp_all; done)))
        refine aw_seq (aw_region (EF := EF0) hG (by rw [hN]; exact tr7_9) ?_)
        simp only [a7_9, go_sem, ↓reduceIte, Nat.reduceEqDiff, reduceCtorEq, Nat.reduceAdd, Nat.reduceLT, Nat.reduceLeDiff, Nat.reduceBNe, Nat.reduceBEq, Int.reduceToNat, fFits_eq, htr, hal3, hfit, tL5, fTrue_eq]
        (repeat' apply And.intro) <;> (try first | omega | (intros; (repeat' apply And.intro) <;> first | assumption | omega | (simp_all; done)))
        refine aw_ret ?_
        show Q _ _
        refine hQ _ _ (.inl rfl) ?_ ?_ ?_ <;> simp only [outφ, outV, AR.res, go_sem, ↓reduceIte, Nat.reduceEqDiff, reduceCtorEq, Nat.reduceAdd, Nat.reduceLT, Nat.reduceLeDiff, Nat.reduceBNe, Nat.reduceBEq, Int.reduceToNat, fLaw5]
end Go.Proofs.YtemeeeomcjdlnaaDoor
