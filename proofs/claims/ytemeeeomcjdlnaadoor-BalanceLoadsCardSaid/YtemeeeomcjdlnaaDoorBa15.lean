/- Loads and Possible of the reference. -/
import Derived.Test.YtemeeeomcjdlnaaDoorBa14
namespace Go.Proofs.YtemeeeomcjdlnaaDoor
open Go Go.RowKit
set_option linter.unusedSimpArgs false
set_option linter.unusedVariables false
set_option linter.deprecated false
theorem nats_len (a : List Nat) : (nats a).length = a.length := List.length_map _
theorem nats_at {a : List Nat} {i : Nat} (h : i < a.length) : (nats a)[i]'(by rw [nats_len]; exact h) = (a[i] : Int) := by simp [nats]
theorem nats_toNat (a : List Nat) : (nats a).map Int.toNat = a := by
  unfold nats; rw [List.map_map]
  conv => rhs; rw [← List.map_id a]
  exact List.map_congr_left fun x _ => rfl
theorem addTo_snoc : ∀ (ls ws : List Int) (a : List Nat) (w : Int) (b : Nat), a.length = ws.length → addTo ls (ws ++ [w]) (a ++ [b]) = (addTo ls ws a).set b ((addTo ls ws a).getD b 0 + w)
  | ls, [], [], w, b, _ => rfl
  | ls, x :: ws, y :: a, w, b, h => by
    rw [List.cons_append, List.cons_append, addTo, addTo]
    exact addTo_snoc _ ws a w b (by simpa using h)
  | ls, [], _ :: _, _, _, h => by cases h
  | ls, _ :: _, [], _, _, h => by cases h
def zeros (n : Nat) : List Int := List.replicate n 0
def aLd (x : Trim × List Int × List Int) : List V := [.agg x.1.enc, .list (ints x.2.1) false, .list (ints x.2.2) false]
theorem aLd_inj (a b : Trim × List Int × List Int) (h : aLd a = aLd b) : a = b := by
  obtain ⟨a_t, a_ws, a_bays⟩ := a
  obtain ⟨b_t, b_ws, b_bays⟩ := b
  simp only [aLd, List.cons.injEq, V.str.injEq, V.int.injEq, V.bool.injEq, V.agg.injEq, V.list.injEq, and_true, true_and] at h
  obtain ⟨h0, h1, h2⟩ := h
  replace h0 := Trim.inj _ _ h0
  subst h0
  replace h1 := ints_inj h1
  subst h1
  replace h2 := ints_inj h2
  subst h2
  rfl
def LdOk (x : Trim × List Int × List Int) : Prop := (∃ a : List Nat, x.2.2 = nats a ∧ a.length = x.2.1.length ∧ ∀ b ∈ a, b < x.1.bays.length) ∧ x.2.1.length ≤ 12 ∧ (∀ w ∈ x.2.1, 0 ≤ w ∧ w ≤ 1000000) ∧ x.1.bays.length ≤ 16
def fLd (x : Trim × List Int × List Int) : Prop × V := (LdOk x, .tup [.list (ints (addTo (zeros x.1.bays.length) x.2.1 (x.2.2.map Int.toNat))) false, .bool true])
noncomputable def tNo2 : Tab
  | _ => gNo
theorem tNo2_ok : ∀ f, PureC Tryd.prog UT f (tNo2 f) := fun f => by
  unfold tNo2
  split
  · exact PureC.no
set_option maxHeartbeats 4000000 in
theorem rloads_p : PureC Tryd.prog UT 21 (gOf aLd fLd) := by
  have hG := tNo2_ok
  refine PureC.ofArgs aLd_inj Tryd.func21 body21 nm21 res21 ?_
  rintro ⟨⟨em, ix, bs, en⟩, ws, bays⟩ hv
  refine ⟨by rw [nt21]; simp [aLd], fun C hN Q hQ => ?_⟩
  rw [nt21] at hN
  unfold c21
  obtain ⟨⟨a, ha, hal, hab⟩, hwl, hww, hbl⟩ : LdOk (⟨em, ix, bs, en⟩, ws, bays) := hv
  dsimp only at ha hal hab hwl hww hbl
  subst ha
  refine aw_seq (aw_region (EF := EF0) hG (by rw [hN]; exact tr21_0) ?_)
  simp only [a21_0, go_sem, ↓reduceIte, Nat.reduceEqDiff, reduceCtorEq, Nat.reduceAdd, Nat.reduceLT, Nat.reduceLeDiff, Nat.reduceBNe, Nat.reduceBEq, Int.reduceToNat, aLd, Trim.enc]
  refine aw_seq (aw_region (EF := EF0) hG (by rw [hN]; exact tr21_1) ?_)
  simp only [a21_1, go_sem, ↓reduceIte, Nat.reduceEqDiff, reduceCtorEq, Nat.reduceAdd, Nat.reduceLT, Nat.reduceLeDiff, Nat.reduceBNe, Nat.reduceBEq, Int.reduceToNat, ints_zero]
  (repeat' apply And.intro) <;> (try first | omega | (intros; (repeat' apply And.intro) <;> first | assumption | omega | (simp_all; done)))
  refine aw_seq ?_
  refine aw_seq (aw_region (EF := EF0) hG (by rw [hN]; exact tr21_2) ?_)
  simp only [a21_2, go_sem, ↓reduceIte, Nat.reduceEqDiff, reduceCtorEq, Nat.reduceAdd, Nat.reduceLT, Nat.reduceLeDiff, Nat.reduceBNe, Nat.reduceBEq, Int.reduceToNat]
  refine aw_block ?_
  refine aw_loop (α := Nat × (List Int)) (fun γ => (γ.1 ≤ ws.length) ∧ (γ.2 = addTo (zeros bs.length) (ws.take γ.1) (a.take γ.1)) ∧ (γ.2.length = bs.length) ∧ (∀ k, 0 ≤ γ.2.getD k 0 ∧ γ.2.getD k 0 ≤ 1000000 * (γ.1 : Int))) (fun γ => ⟨mkE [(1, V.list (ints ws) false), (2, V.list (ints (nats a)) false), (8, .own 13 bs.length), (9, .int .i64 γ.1)], mkH [(13, .arr 3 1 (ints γ.2))]⟩) (fun γ => ws.length - γ.1) (0, zeros bs.length) ⟨Nat.zero_le _, rfl, List.length_replicate .., fun k => by unfold zeros; rw [List.getD_eq_getElem?_getD, List.getElem?_replicate]; split <;> simp⟩ ?_ ?_
  · refine Le.mk _ _ ?_ ?_ rfl <;> simp only [go_sem, ↓reduceIte, Nat.reduceEqDiff, reduceCtorEq, Nat.reduceAdd, Nat.reduceLT, Nat.reduceLeDiff, Nat.reduceBNe, Nat.reduceBEq, Int.reduceToNat] <;> (repeat' apply And.intro) <;> (try first | rfl | exact wk_frzb rfl rfl rfl | exact wk_fn rfl | exact .nilo _ _ _ rfl rfl)
  · rintro ⟨i, out⟩ ⟨hi, hout, hln, hbd⟩ KL0 hKL0
    try dsimp only at *
    refine aw_seq ?_
    refine aw_seq (aw_region (EF := EF0) hG (by rw [hN]; exact tr21_3) ?_)
    simp only [a21_3, go_sem, ↓reduceIte, Nat.reduceEqDiff, reduceCtorEq, Nat.reduceAdd, Nat.reduceLT, Nat.reduceLeDiff, Nat.reduceBNe, Nat.reduceBEq, Int.reduceToNat]
    refine aw_cond (b := _) rfl (fun hc3 => ?_) (fun hc3 => ?_)
    · simp only [decide_eq_true_eq, decide_eq_false_iff_not, Bool.and_eq_true, Bool.or_eq_true, Bool.not_eq_true', Bool.not_eq_false', Bool.and_eq_false_iff, Bool.or_eq_false_iff, Int.ofNat_lt, Int.ofNat_le, Nat.not_lt, Nat.not_le, Int.not_lt, Int.not_le] at hc3
      refine aw_skip ?_
      simp only [go_sem, ↓reduceIte, Nat.reduceEqDiff, reduceCtorEq, Nat.reduceAdd, Nat.reduceLT, Nat.reduceLeDiff, Nat.reduceBNe, Nat.reduceBEq, Int.reduceToNat]
      refine aw_seq ?_
      refine aw_block ?_
      refine aw_seq ?_
      have hia : i < a.length := by omega
      have hin : i < (nats a).length := by rw [nats_len]; exact hia
      have hbi := hab _ (List.getElem_mem hia)
      have hwi := hww _ (List.getElem_mem hc3)
      refine aw_seq (aw_region (EF := EF0) hG (by rw [hN]; exact tr21_5) ?_)
      simp only [a21_5, go_sem, ↓reduceIte, Nat.reduceEqDiff, reduceCtorEq, Nat.reduceAdd, Nat.reduceLT, Nat.reduceLeDiff, Nat.reduceBNe, Nat.reduceBEq, Int.reduceToNat, nats_len, ints_getD _ _ _ hin, hin, nats_at hia, hln]
      (repeat' apply And.intro) <;> (try first | omega | (intros; (repeat' apply And.intro) <;> first | assumption | omega | (simp_all; done)))
      refine aw_cond (b := _) rfl (fun hb5 => ?_) (fun hb5 => ?_)
      · skip
        refine aw_seq (aw_region (EF := EF0) hG (by rw [hN]; exact tr21_6) ?_)
        simp only [a21_6, go_sem, ↓reduceIte, Nat.reduceEqDiff, reduceCtorEq, Nat.reduceAdd, Nat.reduceLT, Nat.reduceLeDiff, Nat.reduceBNe, Nat.reduceBEq, Int.reduceToNat]
        exfalso
        simp only [Bool.or_eq_true, decide_eq_true_eq] at hb5
        omega
      · skip
        refine aw_skip ?_
        simp only [go_sem, ↓reduceIte, Nat.reduceEqDiff, reduceCtorEq, Nat.reduceAdd, Nat.reduceLT, Nat.reduceLeDiff, Nat.reduceBNe, Nat.reduceBEq, Int.reduceToNat]
        have hbo : a[i] < out.length := by omega
        have hbb := hbd a[i]
        have hge : out.getD a[i] 0 = out[a[i]] := getD_lt _ _ _ hbo
        rw [hge] at hbb
        refine aw_regionD (EF := EF0) hG mixed (by rw [hN]; exact tr21_7) ok21_7 ?_
        simp only [a21_7, d21_7, go_sem, ↓reduceIte, Nat.reduceEqDiff, reduceCtorEq, Nat.reduceAdd, Nat.reduceLT, Nat.reduceLeDiff, Nat.reduceBNe, Nat.reduceBEq, Int.reduceToNat, inI, ints_getD _ _ _ hin, hin, nats_at hia, ints_getD _ _ _ hbo, ints_getD _ _ _ hc3, hc3, hln, hbi, ints_set, Int.toNat_natCast]
        (repeat' apply And.intro) <;> (try first | omega | (intros; (repeat' apply And.intro) <;> first | assumption | omega | (simp_all; done)))
        refine aw_region (EF := EF0) hG (by rw [hN]; exact tr21_4) ?_
        simp only [a21_4, go_sem, ↓reduceIte, Nat.reduceEqDiff, reduceCtorEq, Nat.reduceAdd, Nat.reduceLT, Nat.reduceLeDiff, Nat.reduceBNe, Nat.reduceBEq, Int.reduceToNat, inI]
        (repeat' apply And.intro) <;> (try first | omega | (intros; (repeat' apply And.intro) <;> first | assumption | omega | (simp_all; done)))
        refine hKL0 (i + 1, out.set a[i] (out[a[i]] + ws[i])) _ ?_ ?_ ?_
        · (try dsimp only); refine ⟨hc3, ?_, by rw [List.length_set, hln], fun k => ?_⟩; (rw [take_succ' hc3, take_succ' hia, addTo_snoc _ _ _ _ _ (by rw [List.length_take, List.length_take]; omega), ← hout, hge]); (rw [getD_set _ _ _ _ hbo]; have := hbd k; split <;> omega)
        · (try dsimp only); omega
        · refine Le.mk _ _ ?_ ?_ rfl <;> simp only [go_sem, ↓reduceIte, Nat.reduceEqDiff, reduceCtorEq, Nat.reduceAdd, Nat.reduceLT, Nat.reduceLeDiff, Nat.reduceBNe, Nat.reduceBEq, Int.reduceToNat] <;> (repeat' apply And.intro) <;> (try first | rfl | exact wk_frzb rfl rfl rfl | exact wk_fn rfl | exact .nilo _ _ _ rfl rfl)
    · simp only [decide_eq_true_eq, decide_eq_false_iff_not, Bool.and_eq_true, Bool.or_eq_true, Bool.not_eq_true', Bool.not_eq_false', Bool.and_eq_false_iff, Bool.or_eq_false_iff, Int.ofNat_lt, Int.ofNat_le, Nat.not_lt, Nat.not_le, Int.not_lt, Int.not_le] at hc3
      refine aw_exit ?_
      simp only [go_sem, ↓reduceIte, Nat.reduceEqDiff, reduceCtorEq, Nat.reduceAdd, Nat.reduceLT, Nat.reduceLeDiff, Nat.reduceBNe, Nat.reduceBEq, Int.reduceToNat]
      refine aw_seq (aw_region (EF := EF0) hG (by rw [hN]; exact tr21_8) ?_)
      simp only [a21_8, go_sem, ↓reduceIte, Nat.reduceEqDiff, reduceCtorEq, Nat.reduceAdd, Nat.reduceLT, Nat.reduceLeDiff, Nat.reduceBNe, Nat.reduceBEq, Int.reduceToNat]
      refine AW.le (s' := ⟨mkE [(6, .list (ints out) false), (7, .bool true)], mkH []⟩) (Le.mk _ _ ?_ ?_ rfl) (aw_ret (hQ _ _ (.inl rfl) ?_ ?_ ?_)) <;> simp only [outφ, outV, AR.res, go_sem, ↓reduceIte, Nat.reduceEqDiff, reduceCtorEq, Nat.reduceAdd, Nat.reduceLT, Nat.reduceLeDiff, Nat.reduceBNe, Nat.reduceBEq, Int.reduceToNat, fLd, nats_toNat, nats_len, hal]
      · exact wk_frz rfl (by rw [ints_len, hln]) rfl (ints_pur _)
      · rw [hout, List.take_of_length_le hc3, List.take_of_length_le (by omega)]
end Go.Proofs.YtemeeeomcjdlnaaDoor
