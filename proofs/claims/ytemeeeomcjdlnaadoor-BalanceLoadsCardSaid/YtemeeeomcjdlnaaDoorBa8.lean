/- Fits, of the program and of the reference. -/
import Derived.Test.YtemeeeomcjdlnaaDoorBa7
namespace Go.Proofs.YtemeeeomcjdlnaaDoor
open Go Go.RowKit
set_option linter.unusedSimpArgs false
set_option linter.unusedVariables false
set_option linter.deprecated false
theorem gOf_sub {α : Type} {args : α → List V} {F F' : α → Prop × V} {f : Nat} (inj : ∀ a b, args a = args b → a = b) (h : PureC Tryd.prog UT f (gOf args F)) (hs : ∀ a, (F' a).1 → (F a).1 ∧ (F a).2 = (F' a).2) : PureC Tryd.prog UT f (gOf args F') := by
  refine h.sub fun vs hv => ?_
  by_cases e : ∃ a, args a = vs
  · obtain ⟨a, rfl⟩ := e
    rw [gOf_eq inj] at hv
    rw [gOf_eq inj, gOf_eq inj]
    exact hs a hv
  · unfold gOf at hv
    rw [dif_neg e] at hv
    exact hv.elim
theorem inside_p : PureC Tryd.prog UT 17 (gOf aIn fIn) := gOf_sub aIn_inj inside_p0 fun a h => ⟨h.1, by
  show V.bool (insP a.1 a.2) = V.bool (insideB a.1 a.2)
  rw [ins_eq h]⟩
theorem fIn_eq (l : List Point) (a b) : gOf aIn fIn [.list (l.map Point.enc) false, .agg [.int .i64 a, .int .i64 b]] = (ValidL l, .bool (insideB l ⟨a, b⟩)) := gOf_eq aIn_inj (l, ⟨a, b⟩)
def fitsOf (t : Trim) (ls : List Int) : Int := if (pointOf t ls).2 = 0 then (if insideB t.envelope (pointOf t ls).1 then 0 else 33) else (pointOf t ls).2
def fFits (x : Trim × List Int) : Prop × V := (TrimOk x.1 ∧ x.2.length ≤ 1000, .int .i64 (fitsOf x.1 x.2))
theorem fPt_eq (em ix : Int) (bs : List Bay) (en : List Point) (ls : List Int) : gOf aPl fPt [.agg [.int .i64 em, .int .i64 ix, .list (bs.map Bay.enc) false, .list (en.map Point.enc) false], .list (ints ls) false] = (TrimOk ⟨em, ix, bs, en⟩ ∧ ls.length ≤ 1000, .tup [.agg (pointOf ⟨em, ix, bs, en⟩ ls).1.enc, .int .i64 (pointOf ⟨em, ix, bs, en⟩ ls).2]) := gOf_eq aPl_inj (⟨em, ix, bs, en⟩, ls)
theorem fFits_eq (em ix : Int) (bs : List Bay) (en : List Point) (ls : List Int) : gOf aPl fFits [.agg [.int .i64 em, .int .i64 ix, .list (bs.map Bay.enc) false, .list (en.map Point.enc) false], .list (ints ls) false] = (TrimOk ⟨em, ix, bs, en⟩ ∧ ls.length ≤ 1000, .int .i64 (fitsOf ⟨em, ix, bs, en⟩ ls)) := gOf_eq aPl_inj (⟨em, ix, bs, en⟩, ls)
noncomputable def tFits : Tab
  | 13 => (gOf aPl fPt)
  | 17 => (gOf aIn fIn)
  | _ => gNo
theorem tFits_ok : ∀ f, PureC Tryd.prog UT f (tFits f) := fun f => by
  unfold tFits
  split
  · exact point_p
  · exact inside_p
  · exact PureC.no
set_option maxHeartbeats 2000000 in
theorem fits_p : PureC Tryd.prog UT 15 (gOf aPl fFits) := by
  have hG := tFits_ok
  refine PureC.ofArgs aPl_inj Tryd.func15 body15 nm15 res15 ?_
  rintro ⟨⟨em, ix, bs, en⟩, ls⟩ hv
  refine ⟨by rw [nt15]; simp [aPl], fun C hN Q hQ => ?_⟩
  rw [nt15] at hN
  unfold c15
  obtain ⟨ht, hl⟩ : TrimOk ⟨em, ix, bs, en⟩ ∧ ls.length ≤ 1000 := hv
  have hvl : ValidL en := ⟨ht.2.2.2.2.1, ht.2.2.2.2.2.2⟩
  have e1 := fPt_eq em ix bs en ls
  have e2 : fitsOf ⟨em, ix, bs, en⟩ ls = if (pointOf ⟨em, ix, bs, en⟩ ls).2 = 0 then (if insideB en (pointOf ⟨em, ix, bs, en⟩ ls).1 then 0 else 33) else (pointOf ⟨em, ix, bs, en⟩ ls).2 := rfl
  generalize pointOf ⟨em, ix, bs, en⟩ ls = r at e1 e2
  obtain ⟨⟨pw, pi⟩, e⟩ := r
  simp only [Point.enc] at e1
  dsimp only at e2
  refine aw_seq (aw_region (EF := EF0) hG (by rw [hN]; exact tr15_0) ?_)
  simp only [a15_0, go_sem, ↓reduceIte, Nat.reduceEqDiff, reduceCtorEq, Nat.reduceAdd, Nat.reduceLT, Nat.reduceLeDiff, Nat.reduceBNe, Nat.reduceBEq, Int.reduceToNat, aPl, Trim.enc, tFits]
  refine aw_seq (aw_region (EF := EF0) hG (by rw [hN]; exact tr15_1) ?_)
  simp only [a15_1, go_sem, ↓reduceIte, Nat.reduceEqDiff, reduceCtorEq, Nat.reduceAdd, Nat.reduceLT, Nat.reduceLeDiff, Nat.reduceBNe, Nat.reduceBEq, Int.reduceToNat, e1, ht, hl, tFits]
  (repeat' apply And.intro) <;> (try first | omega | (intros; (repeat' apply And.intro) <;> first | assumption | omega | (simp_all; done)))
  refine aw_seq ?_
  refine aw_seq (aw_region (EF := EF0) hG (by rw [hN]; exact tr15_2) ?_)
  simp only [a15_2, go_sem, ↓reduceIte, Nat.reduceEqDiff, reduceCtorEq, Nat.reduceAdd, Nat.reduceLT, Nat.reduceLeDiff, Nat.reduceBNe, Nat.reduceBEq, Int.reduceToNat, tFits]
  refine aw_cond (b := _) rfl (fun hc2 => ?_) (fun hc2 => ?_)
  · simp only [decide_eq_true_eq, decide_eq_false_iff_not, Bool.and_eq_true, Bool.or_eq_true, Bool.not_eq_true', Bool.not_eq_false', Bool.and_eq_false_iff, Bool.or_eq_false_iff, Int.ofNat_lt, Int.ofNat_le, Nat.not_lt, Nat.not_le, Int.not_lt, Int.not_le] at hc2
    refine aw_seq (aw_region (EF := EF0) hG (by rw [hN]; exact tr15_3) ?_)
    simp only [a15_3, go_sem, ↓reduceIte, Nat.reduceEqDiff, reduceCtorEq, Nat.reduceAdd, Nat.reduceLT, Nat.reduceLeDiff, Nat.reduceBNe, Nat.reduceBEq, Int.reduceToNat, tFits]
    refine aw_ret ?_
    show Q _ _
    refine hQ _ _ (.inl rfl) ?_ ?_ ?_ <;> simp only [outφ, outV, AR.res, go_sem, ↓reduceIte, Nat.reduceEqDiff, reduceCtorEq, Nat.reduceAdd, Nat.reduceLT, Nat.reduceLeDiff, Nat.reduceBNe, Nat.reduceBEq, Int.reduceToNat, fFits]
    rw [e2, if_neg hc2]
  · simp only [decide_eq_true_eq, decide_eq_false_iff_not, Bool.and_eq_true, Bool.or_eq_true, Bool.not_eq_true', Bool.not_eq_false', Bool.and_eq_false_iff, Bool.or_eq_false_iff, Int.ofNat_lt, Int.ofNat_le, Nat.not_lt, Nat.not_le, Int.not_lt, Int.not_le] at hc2
    refine aw_skip ?_
    simp only [go_sem, ↓reduceIte, Nat.reduceEqDiff, reduceCtorEq, Nat.reduceAdd, Nat.reduceLT, Nat.reduceLeDiff, Nat.reduceBNe, Nat.reduceBEq, Int.reduceToNat]
    refine aw_seq ?_
    refine aw_seq (aw_region (EF := EF0) hG (by rw [hN]; exact tr15_4) ?_)
    simp only [a15_4, go_sem, ↓reduceIte, Nat.reduceEqDiff, reduceCtorEq, Nat.reduceAdd, Nat.reduceLT, Nat.reduceLeDiff, Nat.reduceBNe, Nat.reduceBEq, Int.reduceToNat, fIn_eq, hvl, tFits]
    (repeat' apply And.intro) <;> (try first | omega | (intros; (repeat' apply And.intro) <;> first | assumption | omega | (simp_all; done)))
    refine aw_cond (b := _) rfl (fun hb4 => ?_) (fun hb4 => ?_)
    · skip
      refine aw_seq (aw_region (EF := EF0) hG (by rw [hN]; exact tr15_5) ?_)
      simp only [a15_5, go_sem, ↓reduceIte, Nat.reduceEqDiff, reduceCtorEq, Nat.reduceAdd, Nat.reduceLT, Nat.reduceLeDiff, Nat.reduceBNe, Nat.reduceBEq, Int.reduceToNat, tFits]
      refine aw_ret ?_
      show Q _ _
      refine hQ _ _ (.inl rfl) ?_ ?_ ?_ <;> simp only [outφ, outV, AR.res, go_sem, ↓reduceIte, Nat.reduceEqDiff, reduceCtorEq, Nat.reduceAdd, Nat.reduceLT, Nat.reduceLeDiff, Nat.reduceBNe, Nat.reduceBEq, Int.reduceToNat, fFits]
      rw [e2, if_pos (by simpa using hc2), if_neg (by simpa using hb4)]
    · skip
      refine aw_skip ?_
      simp only [go_sem, ↓reduceIte, Nat.reduceEqDiff, reduceCtorEq, Nat.reduceAdd, Nat.reduceLT, Nat.reduceLeDiff, Nat.reduceBNe, Nat.reduceBEq, Int.reduceToNat]
      refine aw_seq (aw_region (EF := EF0) hG (by rw [hN]; exact tr15_6) ?_)
      simp only [a15_6, go_sem, ↓reduceIte, Nat.reduceEqDiff, reduceCtorEq, Nat.reduceAdd, Nat.reduceLT, Nat.reduceLeDiff, Nat.reduceBNe, Nat.reduceBEq, Int.reduceToNat, tFits]
      refine aw_ret ?_
      show Q _ _
      refine hQ _ _ (.inl rfl) ?_ ?_ ?_ <;> simp only [outφ, outV, AR.res, go_sem, ↓reduceIte, Nat.reduceEqDiff, reduceCtorEq, Nat.reduceAdd, Nat.reduceLT, Nat.reduceLeDiff, Nat.reduceBNe, Nat.reduceBEq, Int.reduceToNat, fFits]
      rw [e2, if_pos (by simpa using hc2), if_pos (by simpa using hb4)]
noncomputable def trFits : Tab
  | 14 => (gOf aPl fPt)
  | 18 => (gOf aIn fIn)
  | _ => gNo
theorem trFits_ok : ∀ f, PureC Tryd.prog UT f (trFits f) := fun f => by
  unfold trFits
  split
  · exact rpoint_p
  · exact rinside_p
  · exact PureC.no
set_option maxHeartbeats 2000000 in
theorem rfits_p : PureC Tryd.prog UT 16 (gOf aPl fFits) := by
  have hG := trFits_ok
  refine PureC.ofArgs aPl_inj Tryd.func16 body16 nm16 res16 ?_
  rintro ⟨⟨em, ix, bs, en⟩, ls⟩ hv
  refine ⟨by rw [nt16]; simp [aPl], fun C hN Q hQ => ?_⟩
  rw [nt16] at hN
  unfold c16
  obtain ⟨ht, hl⟩ : TrimOk ⟨em, ix, bs, en⟩ ∧ ls.length ≤ 1000 := hv
  have hvl : ValidL en := ⟨ht.2.2.2.2.1, ht.2.2.2.2.2.2⟩
  have e1 := fPt_eq em ix bs en ls
  have e2 : fitsOf ⟨em, ix, bs, en⟩ ls = if (pointOf ⟨em, ix, bs, en⟩ ls).2 = 0 then (if insideB en (pointOf ⟨em, ix, bs, en⟩ ls).1 then 0 else 33) else (pointOf ⟨em, ix, bs, en⟩ ls).2 := rfl
  generalize pointOf ⟨em, ix, bs, en⟩ ls = r at e1 e2
  obtain ⟨⟨pw, pi⟩, e⟩ := r
  simp only [Point.enc] at e1
  dsimp only at e2
  refine aw_seq (aw_region (EF := EF0) hG (by rw [hN]; exact tr16_0) ?_)
  simp only [a16_0, go_sem, ↓reduceIte, Nat.reduceEqDiff, reduceCtorEq, Nat.reduceAdd, Nat.reduceLT, Nat.reduceLeDiff, Nat.reduceBNe, Nat.reduceBEq, Int.reduceToNat, aPl, Trim.enc, trFits]
  refine aw_seq (aw_region (EF := EF0) hG (by rw [hN]; exact tr16_1) ?_)
  simp only [a16_1, go_sem, ↓reduceIte, Nat.reduceEqDiff, reduceCtorEq, Nat.reduceAdd, Nat.reduceLT, Nat.reduceLeDiff, Nat.reduceBNe, Nat.reduceBEq, Int.reduceToNat, e1, ht, hl, trFits]
  (repeat' apply And.intro) <;> (try first | omega | (intros; (repeat' apply And.intro) <;> first | assumption | omega | (simp_all; done)))
  refine aw_seq ?_
  refine aw_seq (aw_region (EF := EF0) hG (by rw [hN]; exact tr16_2) ?_)
  simp only [a16_2, go_sem, ↓reduceIte, Nat.reduceEqDiff, reduceCtorEq, Nat.reduceAdd, Nat.reduceLT, Nat.reduceLeDiff, Nat.reduceBNe, Nat.reduceBEq, Int.reduceToNat, fIn_eq, hvl, trFits]
  (repeat' apply And.intro) <;> (try first | omega | (intros; (repeat' apply And.intro) <;> first | assumption | omega | (simp_all; done)))
  refine aw_cond (b := _) rfl (fun hb2 => ?_) (fun hb2 => ?_)
  · skip
    refine aw_seq (aw_region (EF := EF0) hG (by rw [hN]; exact tr16_3) ?_)
    simp only [a16_3, go_sem, ↓reduceIte, Nat.reduceEqDiff, reduceCtorEq, Nat.reduceAdd, Nat.reduceLT, Nat.reduceLeDiff, Nat.reduceBNe, Nat.reduceBEq, Int.reduceToNat, trFits]
    refine aw_ret ?_
    show Q _ _
    refine hQ _ _ (.inl rfl) ?_ ?_ ?_ <;> simp only [outφ, outV, AR.res, go_sem, ↓reduceIte, Nat.reduceEqDiff, reduceCtorEq, Nat.reduceAdd, Nat.reduceLT, Nat.reduceLeDiff, Nat.reduceBNe, Nat.reduceBEq, Int.reduceToNat, fFits]
    simp only [Bool.and_eq_true, decide_eq_true_eq, Bool.not_eq_true'] at hb2; rw [e2, if_pos hb2.1, if_neg (by rw [hb2.2]; decide)]
  · skip
    refine aw_skip ?_
    simp only [go_sem, ↓reduceIte, Nat.reduceEqDiff, reduceCtorEq, Nat.reduceAdd, Nat.reduceLT, Nat.reduceLeDiff, Nat.reduceBNe, Nat.reduceBEq, Int.reduceToNat]
    refine aw_seq (aw_region (EF := EF0) hG (by rw [hN]; exact tr16_4) ?_)
    simp only [a16_4, go_sem, ↓reduceIte, Nat.reduceEqDiff, reduceCtorEq, Nat.reduceAdd, Nat.reduceLT, Nat.reduceLeDiff, Nat.reduceBNe, Nat.reduceBEq, Int.reduceToNat, trFits]
    refine aw_ret ?_
    show Q _ _
    refine hQ _ _ (.inl rfl) ?_ ?_ ?_ <;> simp only [outφ, outV, AR.res, go_sem, ↓reduceIte, Nat.reduceEqDiff, reduceCtorEq, Nat.reduceAdd, Nat.reduceLT, Nat.reduceLeDiff, Nat.reduceBNe, Nat.reduceBEq, Int.reduceToNat, fFits]
    simp only [Bool.and_eq_false_iff, decide_eq_false_iff_not, Bool.not_eq_false'] at hb2; rw [e2]; split; (rename_i h0; rw [if_pos (hb2.resolve_left (fun c => c h0)), h0]); rfl
/-! What Check lets pass. -/
theorem fIf_nil {b : Bool} {e : Int} {p : List UInt8} (h : fIf b e p = []) : b = false := by
  cases b with
  | false => rfl
  | true => cases h
theorem bayTo_nil {l : List Bay} : ∀ {n : Nat}, bayTo l n = [] → ∀ k, k < n → bayBad (l.getD k Bay.zero) = false
  | n + 1, h, k, hk => by
    rw [bayTo, List.append_eq_nil_iff] at h
    by_cases e : k = n
    · subst e; exact fIf_nil h.2
    · exact bayTo_nil h.1 k (by omega)
theorem ptTo_nil {l : List Point} : ∀ {n : Nat}, ptTo l n = [] → ∀ k, k < n → fineB (l.getD k Point.zero) = true
  | n + 1, h, k, hk => by
    rw [ptTo, List.append_eq_nil_iff] at h
    by_cases e : k = n
    · subst e; have := fIf_nil h.2; simpa using this
    · exact ptTo_nil h.1 k (by omega)
theorem chk_ok {t : Trim} (h : chkF t = []) : TrimOk t := by
  unfold chkF headF at h
  simp only [List.append_eq_nil_iff] at h
  obtain ⟨⟨⟨⟨h1, h2⟩, h3⟩, h4⟩, h5⟩ := h
  replace h1 := fIf_nil h1
  replace h2 := fIf_nil h2
  replace h3 := fIf_nil h3
  simp only [within, Bool.not_eq_false', Bool.and_eq_true, decide_eq_true_eq] at h1 h2 h3
  rw [if_pos (by omega)] at h4
  split at h5
  · rename_i hw
    rw [List.append_eq_nil_iff] at h5
    obtain ⟨h6, h7⟩ := h5
    replace h7 := fIf_nil h7
    simp only [within, Bool.and_eq_true, decide_eq_true_eq] at hw
    have hall : t.envelope.all fineB = true := List.all_eq_true.2 fun p hp => by
      obtain ⟨k, hk, rfl⟩ := List.mem_iff_getElem.1 hp
      have := ptTo_nil h6 k hk
      rwa [getD_lt _ _ _ hk] at this
    rw [hall, Bool.true_and] at h7
    refine ⟨⟨h1.1, h1.2⟩, ⟨h2.1, h2.2⟩, ⟨by omega, by omega⟩, fun b hb => ?_, ⟨by omega, by omega, fine_all hall⟩, by omega, of_decide_eq_false h7⟩
    obtain ⟨k, hk, rfl⟩ := List.mem_iff_getElem.1 hb
    have := bayTo_nil h4 k hk
    rw [getD_lt _ _ _ hk] at this
    simp only [bayBad, within, Bool.or_eq_false_iff, Bool.not_eq_false', Bool.and_eq_true, decide_eq_true_eq] at this
    omega
  · cases h5
end Go.Proofs.YtemeeeomcjdlnaaDoor
