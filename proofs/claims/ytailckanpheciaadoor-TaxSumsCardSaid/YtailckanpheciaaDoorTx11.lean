/- The laws of taxes. -/
import Derived.Test.YtailckanpheciaaDoorTx10
namespace Go.Proofs.YtailckanpheciaaDoor
open Go Go.RowKit
set_option linter.unusedSimpArgs false
set_option linter.unusedVariables false
set_option linter.deprecated false
theorem fIf_nil {b : Bool} {e p} (h : fIf b e p = []) : b = false := by
  cases b with
  | false => rfl
  | true => rw [fIf_t rfl] at h; cases h
theorem taxTo_nil {l : List Tax} : ∀ n, taxTo l n = [] → ∀ i, i < n → taxOne i (l.getD i Tax.zero) = []
  | 0, _, i, hi => absurd hi (by omega)
  | n + 1, h, i, hi => by
    rw [taxTo] at h
    obtain ⟨h1, h2⟩ := List.append_eq_nil_iff.1 h
    by_cases e : i = n
    · rw [e]; exact h2
    · exact taxTo_nil n h1 i (by omega)
theorem tax_right {l : List Tax} (h : taxTo l l.length = []) : ∀ x ∈ l, RightT x := by
  intro x hx
  obtain ⟨i, hi, rfl⟩ := List.mem_iff_getElem.1 hx
  have h1 := taxTo_nil _ h i hi
  rw [getD_lt _ _ _ hi] at h1
  unfold taxOne at h1
  obtain ⟨h2, h3⟩ := List.append_eq_nil_iff.1 h1
  have h4 := fIf_nil (List.append_eq_nil_iff.1 h2).2
  have h5 := fIf_nil h3
  generalize l[i] = y at h4 h5
  unfold badK at h4
  unfold badA mostOf at h5
  simp only [Bool.or_eq_false_iff, decide_eq_false_iff_not] at h4 h5
  exact ⟨⟨by omega, by omega, by omega, by omega⟩, by omega, by obtain ⟨⟨⟨⟨⟨h6, h7⟩, _⟩, _⟩, _⟩, _⟩ := h5; split at h7 <;> split <;> omega⟩
structure RightA (p : Places) (l : List Tax) (s : List Seg) : Prop where
  lp : LenP p
  sm : SmT l
  sl : s.length ≤ 12
  so : ∀ x ∈ s, SegOk x
  rt : ∀ x ∈ l, RightT x
theorem right_of {ps ds} {l : List Tax} {s : List Seg} (h : rightB ⟨ps, ds⟩ l s = true) (hp : (⟨ps, ds⟩ : Places).ok) (hl : LenT l) : RightA ⟨ps, ds⟩ l s := by
  unfold rightB wrongB at h
  simp only [Bool.and_eq_true, Bool.not_eq_true', Bool.or_eq_false_iff, Bool.not_eq_false', decide_eq_false_iff_not] at h
  obtain ⟨⟨⟨⟨⟨h1, h2⟩, h3⟩, h4⟩, h5⟩, h6⟩ := h
  refine ⟨(sm_of h1 hp).2, smT_of h2 hl, by omega, fun x hx => ?_, tax_right (List.eq_nil_of_length_eq_zero (by omega))⟩
  have := List.any_eq_false.1 h6 x hx
  unfold timeBad at this
  simp only [Bool.or_eq_true, decide_eq_true_eq] at this
  unfold SegOk
  omega
/-! A journey in two parts. -/
theorem gd_left {α : Type} (a b : List α) (d : α) (i : Nat) (h : i < a.length) : (a ++ b).getD i d = a.getD i d := by
  rw [List.getD_eq_getElem?_getD, List.getD_eq_getElem?_getD, List.getElem?_append_left h]
theorem gd_right {α : Type} (a b : List α) (d : α) (i : Nat) (h : a.length ≤ i) : (a ++ b).getD i d = b.getD (i - a.length) d := by
  rw [List.getD_eq_getElem?_getD, List.getD_eq_getElem?_getD, List.getElem?_append_right h]
theorem once_left {ps : List Airport} {x : Tax} {A B : List Seg} (h4 : x.kind ≠ 4) (hb : B = [] ∨ follB x.transit (A.getD (A.length - 1) Seg.zero) (B.getD 0 Seg.zero) = false) {i : Nat} (hi : i < A.length) (n n' : Int) : onceP ps x (A ++ B) i n = onceP ps x A i n' := by
  have e0 : (A ++ B).getD i Seg.zero = A.getD i Seg.zero := gd_left _ _ _ _ hi
  have e1 : (A ++ B).getD (i - 1) Seg.zero = A.getD (i - 1) Seg.zero := gd_left _ _ _ _ (by omega)
  unfold onceP
  rw [e0]
  congr 1
  unfold dueP
  rw [e0, e1, if_neg h4, if_neg h4]
  split
  · rfl
  · split
    · congr 1
      by_cases h : i + 1 = A.length
      · rw [decide_eq_true h, Bool.true_or]
        rcases hb with rfl | hb
        · rw [List.append_nil, decide_eq_true h, Bool.true_or]
        · rw [show (A ++ B).getD (i + 1) Seg.zero = B.getD 0 Seg.zero by rw [gd_right _ _ _ _ (by omega), show i + 1 - A.length = 0 by omega], show i = A.length - 1 by omega, hb, Bool.not_false, Bool.or_true]
      · rw [show (A ++ B).getD (i + 1) Seg.zero = A.getD (i + 1) Seg.zero from gd_left _ _ _ _ (by omega), decide_eq_false h, decide_eq_false (by rw [List.length_append]; omega)]
    · rfl
theorem once_right {ps : List Airport} {x : Tax} {A B : List Seg} (h4 : x.kind ≠ 4) (hb : A = [] ∨ follB x.transit (A.getD (A.length - 1) Seg.zero) (B.getD 0 Seg.zero) = false) {j : Nat} (hj : j < B.length) (n n' : Int) : onceP ps x (A ++ B) (A.length + j) n = onceP ps x B j n' := by
  have e0 : (A ++ B).getD (A.length + j) Seg.zero = B.getD j Seg.zero := by rw [gd_right _ _ _ _ (by omega), show A.length + j - A.length = j by omega]
  have e1 : (A ++ B).getD (A.length + j + 1) Seg.zero = B.getD (j + 1) Seg.zero := by rw [gd_right _ _ _ _ (by omega), show A.length + j + 1 - A.length = j + 1 by omega]
  unfold onceP
  rw [e0]
  congr 1
  unfold dueP
  rw [e0, e1, if_neg h4, if_neg h4]
  split
  · congr 1
    by_cases h : j = 0
    · subst h
      rw [decide_eq_true rfl, Bool.true_or]
      rcases hb with rfl | hb
      · rfl
      · by_cases hA : A.length = 0
        · rw [decide_eq_true (by omega), Bool.true_or]
        · rw [show (A ++ B).getD (A.length + 0 - 1) Seg.zero = A.getD (A.length - 1) Seg.zero from gd_left _ _ _ _ (by omega), hb, Bool.not_false, Bool.or_true]
    · rw [show (A ++ B).getD (A.length + j - 1) Seg.zero = B.getD (j - 1) Seg.zero by rw [gd_right _ _ _ _ (by omega), show A.length + j - 1 - A.length = j - 1 by omega], decide_eq_false h, decide_eq_false (by omega)]
  · split
    · congr 2
      rw [decide_eq_decide, List.length_append]; omega
    · rfl
theorem times_left {ps : List Airport} {x : Tax} {A B : List Seg} (h4 : x.kind ≠ 4) (hb : B = [] ∨ follB x.transit (A.getD (A.length - 1) Seg.zero) (B.getD 0 Seg.zero) = false) : ∀ i, i ≤ A.length → timesTo ps x (A ++ B) i = timesTo ps x A i
  | 0, _ => rfl
  | i + 1, hi => by
    rw [timesTo, timesTo, times_left h4 hb i (by omega), once_left h4 hb (by omega) _ (timesTo ps x A i)]
theorem times_right {ps : List Airport} {x : Tax} {A B : List Seg} (h4 : x.kind ≠ 4) (hb : A = [] ∨ B = [] ∨ follB x.transit (A.getD (A.length - 1) Seg.zero) (B.getD 0 Seg.zero) = false) : ∀ j, j ≤ B.length → timesTo ps x (A ++ B) (A.length + j) = timesTo ps x A A.length + timesTo ps x B j
  | 0, _ => by
    rcases hb with rfl | hb
    · simp [timesTo]
    · rw [Nat.add_zero, times_left h4 hb _ (Nat.le_refl _)]; simp [timesTo]
  | j + 1, hj => by
    have hb2 : A = [] ∨ follB x.transit (A.getD (A.length - 1) Seg.zero) (B.getD 0 Seg.zero) = false := by
      rcases hb with h | rfl | h
      · exact .inl h
      · exact absurd hj (by simp)
      · exact .inr h
    rw [show A.length + (j + 1) = (A.length + j) + 1 by omega, timesTo, once_right h4 hb2 (by omega) _ (timesTo ps x B j), times_right h4 hb j (by omega), show timesTo ps x B (j + 1) = if onceP ps x B j (timesTo ps x B j) = true then timesTo ps x B j + 1 else timesTo ps x B j from rfl]
    split
    · rw [Int.add_assoc]
    · rfl
theorem times_parts {ps : List Airport} {x : Tax} {q : List UInt8} (l : List Seg) (k : Nat) (h4 : x.kind ≠ 4) (hb : l.take k = [] ∨ l.drop k = [] ∨ follB x.transit ((l.take k).getD ((l.take k).length - 1) Seg.zero) ((l.drop k).getD 0 Seg.zero) = false) : timesP ps x l q = timesP ps x (l.take k) q + timesP ps x (l.drop k) q := by
  unfold timesP
  split
  · rfl
  · have := times_right (ps := ps) h4 hb _ (Nat.le_refl _)
    rw [List.take_append_drop, ← List.length_append, List.take_append_drop] at this
    exact this
noncomputable def tL : Tab
  | 8 => (gOf aTaxes fFew)
  | 13 => (gOf aRi fRi)
  | 12 => (gOf aUnit fTrue)
  | 9 => (gOf aSameF fSameF)
  | 10 => (gOf aTaxes fTaxes)
  | 11 => (gOf aTaxes fTaxes)
  | 14 => (gOf aTimes fTimes)
  | 15 => (gOf aTimes fTimesR)
  | 16 => (gOf aOf fTof)
  | 17 => (gOf aOf fTof)
  | 19 => (gOf aCh fSum)
  | 20 => (gOf aCh fSum)
  | 18 => (gOf aTwoC fSameC)
  | _ => gNo
theorem tL_ok : ∀ f, PureC Tryd.prog UT f (tL f) := fun f => by
  unfold tL
  split
  · exact few_p
  · exact right_p6
  · exact awake_p
  · exact sameF_p
  · exact tcheck_p
  · exact rtcheck_p
  · exact times_p
  · exact rtimes_p
  · exact of_p
  · exact rof_p
  · exact sum_p
  · exact rsum_p
  · exact sameC_p
  · exact PureC.no
def fLaw1 (l : List Tax) : Prop × V := (LenT l, .bool true)
set_option maxHeartbeats 2000000 in
theorem law1_p : PureC Tryd.prog UT 3 (gOf aTaxes fLaw1) := by
  have hG := tL_ok
  refine PureC.ofArgs aTaxes_inj Tryd.func3 body3 nm3 res3 ?_
  rintro l hv
  refine ⟨by rw [nt3]; simp [aTaxes], fun C hN Q hQ => ?_⟩
  rw [nt3] at hN
  unfold c3
  replace hv : LenT l := hv
  have htl := taxTo_len l l.length
  refine aw_seq (aw_region (EF := EF0) hG (by rw [hN]; exact tr3_0) ?_)
  simp only [a3_0, go_sem, ↓reduceIte, Nat.reduceEqDiff, reduceCtorEq, Nat.reduceAdd, Nat.reduceLT, Nat.reduceLeDiff, Nat.reduceBNe, Nat.reduceBEq, Int.reduceToNat, aTaxes, tL, fTrue_eq]
  by_cases hf : fewB l = true
  · skip
    have hs := smT_of hf hv
    have hln : (taxTo l l.length).length ≤ 140737488355328 := by have := hs.1; omega
    refine aw_seq (aw_region (EF := EF0) hG (by rw [hN]; exact tr3_1) ?_)
    simp only [a3_1, go_sem, ↓reduceIte, Nat.reduceEqDiff, reduceCtorEq, Nat.reduceAdd, Nat.reduceLT, Nat.reduceLeDiff, Nat.reduceBNe, Nat.reduceBEq, Int.reduceToNat, fFew_eq, hv, hf, fTaxes_eq, fSameF_eq, tL, fTrue_eq, hs, hln]
    (repeat' apply And.intro) <;> (try first | omega | (intros; (repeat' apply And.intro) <;> first | assumption | omega | (simp_all; done)))
    refine aw_ret ?_
    show Q _ _
    refine hQ _ _ (.inl rfl) ?_ ?_ ?_ <;> simp only [outφ, outV, AR.res, go_sem, ↓reduceIte, Nat.reduceEqDiff, reduceCtorEq, Nat.reduceAdd, Nat.reduceLT, Nat.reduceLeDiff, Nat.reduceBNe, Nat.reduceBEq, Int.reduceToNat, fLaw1]
  · skip
    replace hf := Bool.eq_false_iff.2 hf
    refine aw_seq (aw_region (EF := EF0) hG (by rw [hN]; exact tr3_1) ?_)
    simp only [a3_1, go_sem, ↓reduceIte, Nat.reduceEqDiff, reduceCtorEq, Nat.reduceAdd, Nat.reduceLT, Nat.reduceLeDiff, Nat.reduceBNe, Nat.reduceBEq, Int.reduceToNat, fFew_eq, hv, hf, fTaxes_eq, fSameF_eq, tL, fTrue_eq]
    (repeat' apply And.intro) <;> (try first | omega | (intros; (repeat' apply And.intro) <;> first | assumption | omega | (simp_all; done)))
    refine aw_ret ?_
    show Q _ _
    refine hQ _ _ (.inl rfl) ?_ ?_ ?_ <;> simp only [outφ, outV, AR.res, go_sem, ↓reduceIte, Nat.reduceEqDiff, reduceCtorEq, Nat.reduceAdd, Nat.reduceLT, Nat.reduceLeDiff, Nat.reduceBNe, Nat.reduceBEq, Int.reduceToNat, fLaw1]
theorem fRi1_eq (ps : List Airport) (ds : List Distance) (a b c d e f fr) (s : List Seg) : gOf aRi fRi [.agg [.list (ps.map Airport.enc) false, .list (ds.map Distance.enc) false], .list [[.str a, .int .i64 b, .str c, .int .i64 d, .int .i64 e, .int .i64 f, .list (strs fr) false]] false, .list (s.map Seg.enc) false] = ((⟨ps, ds⟩ : Places).ok ∧ LenT [⟨a, b, c, d, e, f, fr⟩] ∧ s.length ≤ 140737488355328, .bool (rightB ⟨ps, ds⟩ [⟨a, b, c, d, e, f, fr⟩] s)) := gOf_eq aRi_inj ((⟨ps, ds⟩ : Places), [(⟨a, b, c, d, e, f, fr⟩ : Tax)], s)
theorem fRi_eq (ps : List Airport) (ds : List Distance) (l : List Tax) (s : List Seg) : gOf aRi fRi [.agg [.list (ps.map Airport.enc) false, .list (ds.map Distance.enc) false], .list (l.map Tax.enc) false, .list (s.map Seg.enc) false] = ((⟨ps, ds⟩ : Places).ok ∧ LenT l ∧ s.length ≤ 140737488355328, .bool (rightB ⟨ps, ds⟩ l s)) := gOf_eq aRi_inj ((⟨ps, ds⟩ : Places), l, s)
def LawO (p : Places) (x : Tax) (s : List Seg) : Prop := p.ok ∧ x.ok ∧ s.length ≤ 140737488355328
theorem one_len {x : Tax} (h : x.ok) : LenT [x] := ⟨by simp, fun y hy => by rw [List.mem_singleton.1 hy]; exact h⟩
theorem times_ok {ps ds a b c d e f fr} {s : List Seg} (hR : RightA ⟨ps, ds⟩ [⟨a, b, c, d, e, f, fr⟩] s) (hx : (⟨a, b, c, d, e, f, fr⟩ : Tax).ok) : TimesOk ⟨ps, ds⟩ ⟨a, b, c, d, e, f, fr⟩ s := ⟨hR.lp, hx.2.2.2.2.2.2.1, by have := hR.sl; omega, hR.so⟩
def fLaw2 (x : Places × Tax × List Seg × List UInt8) : Prop × V := (LawO x.1 x.2.1 x.2.2.1, .bool true)
set_option maxHeartbeats 4000000 in
theorem law2_p : PureC Tryd.prog UT 4 (gOf aTimes fLaw2) := by
  have hG := tL_ok
  refine PureC.ofArgs aTimes_inj Tryd.func4 body4 nm4 res4 ?_
  rintro ⟨⟨ps, ds⟩, ⟨a, b, c, d, e, f, fr⟩, sg, q⟩ hv
  refine ⟨by rw [nt4]; simp [aTimes], fun C hN Q hQ => ?_⟩
  rw [nt4] at hN
  unfold c4
  obtain ⟨hp, hx, hs⟩ : LawO ⟨ps, ds⟩ ⟨a, b, c, d, e, f, fr⟩ sg := hv
  have hx1 := one_len hx
  refine aw_seq (aw_region (EF := EF0) hG (by rw [hN]; exact tr4_0) ?_)
  simp only [a4_0, go_sem, ↓reduceIte, Nat.reduceEqDiff, reduceCtorEq, Nat.reduceAdd, Nat.reduceLT, Nat.reduceLeDiff, Nat.reduceBNe, Nat.reduceBEq, Int.reduceToNat, aTimes, Places.enc, Tax.enc, tL, fTrue_eq]
  refine aw_seq ?_
  refine aw_seq (aw_region (EF := EF0) hG (by rw [hN]; exact tr4_1) ?_)
  simp only [a4_1, go_sem, ↓reduceIte, Nat.reduceEqDiff, reduceCtorEq, Nat.reduceAdd, Nat.reduceLT, Nat.reduceLeDiff, Nat.reduceBNe, Nat.reduceBEq, Int.reduceToNat, fRi1_eq, hp, hx1, hs, tL, fTrue_eq]
  (repeat' apply And.intro) <;> (try first | omega | (intros; (repeat' apply And.intro) <;> first | assumption | omega | (simp_all; done)))
  refine aw_cond (b := _) rfl (fun hb => ?_) (fun hb => ?_)
  · skip
    refine aw_seq (aw_region (EF := EF0) hG (by rw [hN]; exact tr4_2) ?_)
    simp only [a4_2, go_sem, ↓reduceIte, Nat.reduceEqDiff, reduceCtorEq, Nat.reduceAdd, Nat.reduceLT, Nat.reduceLeDiff, Nat.reduceBNe, Nat.reduceBEq, Int.reduceToNat, tL, fTrue_eq]
    (repeat' apply And.intro) <;> (try first | omega | (intros; (repeat' apply And.intro) <;> first | assumption | omega | (simp_all; done)))
    refine aw_ret ?_
    show Q _ _
    refine hQ _ _ (.inl rfl) ?_ ?_ ?_ <;> simp only [outφ, outV, AR.res, go_sem, ↓reduceIte, Nat.reduceEqDiff, reduceCtorEq, Nat.reduceAdd, Nat.reduceLT, Nat.reduceLeDiff, Nat.reduceBNe, Nat.reduceBEq, Int.reduceToNat, fLaw2]
  · skip
    have hR := right_of (show rightB ⟨ps, ds⟩ [⟨a, b, c, d, e, f, fr⟩] sg = true by simpa using hb) hp hx1
    have hto := times_ok hR hx
    have hte := times_eq (ps := ps) (l := sg) (q := q) (hR.rt _ (List.mem_singleton.2 rfl)).1
    refine aw_skip ?_
    try simp only [go_sem, ↓reduceIte, Nat.reduceEqDiff, reduceCtorEq, Nat.reduceAdd, Nat.reduceLT, Nat.reduceLeDiff, Nat.reduceBNe, Nat.reduceBEq, Int.reduceToNat]
    refine aw_seq (aw_regionD (EF := EF0) hG mixed (by rw [hN]; exact tr4_3) ok4_3 ?_)
    simp only [a4_3, d4_3, go_sem, ↓reduceIte, Nat.reduceEqDiff, reduceCtorEq, Nat.reduceAdd, Nat.reduceLT, Nat.reduceLeDiff, Nat.reduceBNe, Nat.reduceBEq, Int.reduceToNat, fTimes_eq, fTimesR_eq, hto, ← hte, tL, fTrue_eq]
    (repeat' apply And.intro) <;> (try first | omega | (intros; (repeat' apply And.intro) <;> first | assumption | omega | (simp_all; done)))
    refine aw_ret ?_
    show Q _ _
    refine hQ _ _ (.inl rfl) ?_ ?_ ?_ <;> simp only [outφ, outV, AR.res, go_sem, ↓reduceIte, Nat.reduceEqDiff, reduceCtorEq, Nat.reduceAdd, Nat.reduceLT, Nat.reduceLeDiff, Nat.reduceBNe, Nat.reduceBEq, Int.reduceToNat, fLaw2]
def LawOf (p : Places) (l : List Tax) (s : List Seg) (f : Int) : Prop := p.ok ∧ LenT l ∧ s.length ≤ 140737488355328 ∧ inI f
def fLaw3 (x : Places × List Tax × List Seg × List UInt8 × Int) : Prop × V := (LawOf x.1 x.2.1 x.2.2.1 x.2.2.2.2, .bool true)
theorem fTof_eq (ps : List Airport) (ds : List Distance) (l : List Tax) (s : List Seg) (q : List UInt8) (f : Int) : gOf aOf fTof [.agg [.list (ps.map Airport.enc) false, .list (ds.map Distance.enc) false], .list (l.map Tax.enc) false, .list (s.map Seg.enc) false, .str q, .int .i64 f] = (OkO ⟨ps, ds⟩ l s f, ofV (ofM (fun y => timesP ps y s q) f l [])) := gOf_eq aOf_inj ((⟨ps, ds⟩ : Places), l, s, q, f)
theorem fSameC_eq (l : List Charge) : gOf aTwoC fSameC [.list (l.map Charge.enc) false, .list (l.map Charge.enc) false] = (l.length ≤ 140737488355328 ∧ l = l, .bool true) := gOf_eq aTwoC_inj (l, l)
theorem ofM_len {t fare} : ∀ (l : List Tax) (out : List Charge), (ofM t fare l out).1.length ≤ out.length + l.length
  | [], out => by simp [ofM]
  | x :: l, out => by
    rw [ofM]
    split
    · simp
    · split
      · simp
      · have h1 := ofM_len (t := t) (fare := fare) l (out ++ chg x.code (amtM (t x) x fare).1)
        have h2 : (chg x.code (amtM (t x) x fare).1).length ≤ 1 := by unfold chg; split <;> simp
        rw [List.length_append] at h1
        rw [List.length_cons]
        omega
set_option maxHeartbeats 4000000 in
theorem law3_p : PureC Tryd.prog UT 5 (gOf aOf fLaw3) := by
  have hG := tL_ok
  refine PureC.ofArgs aOf_inj Tryd.func5 body5 nm5 res5 ?_
  rintro ⟨⟨ps, ds⟩, l, sg, q, fare⟩ hv
  refine ⟨by rw [nt5]; simp [aOf], fun C hN Q hQ => ?_⟩
  rw [nt5] at hN
  unfold c5
  obtain ⟨hp, hl, hs, hf⟩ : LawOf ⟨ps, ds⟩ l sg fare := hv
  refine aw_seq (aw_region (EF := EF0) hG (by rw [hN]; exact tr5_0) ?_)
  simp only [a5_0, go_sem, ↓reduceIte, Nat.reduceEqDiff, reduceCtorEq, Nat.reduceAdd, Nat.reduceLT, Nat.reduceLeDiff, Nat.reduceBNe, Nat.reduceBEq, Int.reduceToNat, aOf, Places.enc, tL, fTrue_eq]
  refine aw_seq ?_
  refine aw_seq (aw_region (EF := EF0) hG (by rw [hN]; exact tr5_1) ?_)
  simp only [a5_1, go_sem, ↓reduceIte, Nat.reduceEqDiff, reduceCtorEq, Nat.reduceAdd, Nat.reduceLT, Nat.reduceLeDiff, Nat.reduceBNe, Nat.reduceBEq, Int.reduceToNat, fRi_eq, hp, hl, hs, tL, fTrue_eq]
  (repeat' apply And.intro) <;> (try first | omega | (intros; (repeat' apply And.intro) <;> first | assumption | omega | (simp_all; done)))
  refine aw_cond (b := _) rfl (fun hb => ?_) (fun hb => ?_)
  · skip
    refine aw_seq (aw_region (EF := EF0) hG (by rw [hN]; exact tr5_2) ?_)
    simp only [a5_2, go_sem, ↓reduceIte, Nat.reduceEqDiff, reduceCtorEq, Nat.reduceAdd, Nat.reduceLT, Nat.reduceLeDiff, Nat.reduceBNe, Nat.reduceBEq, Int.reduceToNat, tL, fTrue_eq]
    (repeat' apply And.intro) <;> (try first | omega | (intros; (repeat' apply And.intro) <;> first | assumption | omega | (simp_all; done)))
    refine aw_ret ?_
    show Q _ _
    refine hQ _ _ (.inl rfl) ?_ ?_ ?_ <;> simp only [outφ, outV, AR.res, go_sem, ↓reduceIte, Nat.reduceEqDiff, reduceCtorEq, Nat.reduceAdd, Nat.reduceLT, Nat.reduceLeDiff, Nat.reduceBNe, Nat.reduceBEq, Int.reduceToNat, fLaw3]
  · skip
    have hR := right_of (show rightB ⟨ps, ds⟩ l sg = true by simpa using hb) hp hl
    have hoo : OkO ⟨ps, ds⟩ l sg fare := ⟨hR.lp, hR.sm.1, by have := hR.sl; omega, hR.so, fun x hx => ⟨hR.sm.2 x hx, hR.rt x hx⟩, hf⟩
    have hln : (ofM (fun y => timesP ps y sg q) fare l []).1.length ≤ 140737488355328 := by have h1 := ofM_len (t := fun y => timesP ps y sg q) (fare := fare) l []; have h2 := hR.sm.1; rw [List.length_nil] at h1; omega
    refine aw_skip ?_
    try simp only [go_sem, ↓reduceIte, Nat.reduceEqDiff, reduceCtorEq, Nat.reduceAdd, Nat.reduceLT, Nat.reduceLeDiff, Nat.reduceBNe, Nat.reduceBEq, Int.reduceToNat]
    refine aw_seq (aw_region (EF := EF0) hG (by rw [hN]; exact tr5_3) ?_)
    simp only [a5_3, go_sem, ↓reduceIte, Nat.reduceEqDiff, reduceCtorEq, Nat.reduceAdd, Nat.reduceLT, Nat.reduceLeDiff, Nat.reduceBNe, Nat.reduceBEq, Int.reduceToNat, fTof_eq, hoo, ofV, tL, fTrue_eq]
    (repeat' apply And.intro) <;> (try first | omega | (intros; (repeat' apply And.intro) <;> first | assumption | omega | (simp_all; done)))
    refine aw_seq (aw_region (EF := EF0) hG (by rw [hN]; exact tr5_4) ?_)
    simp only [a5_4, go_sem, ↓reduceIte, Nat.reduceEqDiff, reduceCtorEq, Nat.reduceAdd, Nat.reduceLT, Nat.reduceLeDiff, Nat.reduceBNe, Nat.reduceBEq, Int.reduceToNat, fTof_eq, hoo, ofV, tL, fTrue_eq]
    (repeat' apply And.intro) <;> (try first | omega | (intros; (repeat' apply And.intro) <;> first | assumption | omega | (simp_all; done)))
    refine aw_seq (aw_region (EF := EF0) hG (by rw [hN]; exact tr5_5) ?_)
    simp only [a5_5, go_sem, ↓reduceIte, Nat.reduceEqDiff, reduceCtorEq, Nat.reduceAdd, Nat.reduceLT, Nat.reduceLeDiff, Nat.reduceBNe, Nat.reduceBEq, Int.reduceToNat, fSameC_eq, hln, tL, fTrue_eq]
    (repeat' apply And.intro) <;> (try first | omega | (intros; (repeat' apply And.intro) <;> first | assumption | omega | (simp_all; done)))
    refine aw_ret ?_
    show Q _ _
    refine hQ _ _ (.inl rfl) ?_ ?_ ?_ <;> simp only [outφ, outV, AR.res, go_sem, ↓reduceIte, Nat.reduceEqDiff, reduceCtorEq, Nat.reduceAdd, Nat.reduceLT, Nat.reduceLeDiff, Nat.reduceBNe, Nat.reduceBEq, Int.reduceToNat, fLaw3]
def fLaw5 (l : List Charge) : Prop × V := (l.length ≤ 140737488355328, .bool true)
theorem fSum_eq (l : List Charge) : gOf aCh fSum [.list (l.map Charge.enc) false] = (l.length ≤ 1000, pairI (sumM (amts l) 0)) := gOf_eq aCh_inj l
set_option maxHeartbeats 2000000 in
theorem law5_p : PureC Tryd.prog UT 7 (gOf aCh fLaw5) := by
  have hG := tL_ok
  refine PureC.ofArgs aCh_inj Tryd.func7 body7 nm7 res7 ?_
  rintro l hv
  refine ⟨by rw [nt7]; simp [aCh], fun C hN Q hQ => ?_⟩
  rw [nt7] at hN
  unfold c7
  replace hv : l.length ≤ 140737488355328 := hv
  refine aw_seq (aw_region (EF := EF0) hG (by rw [hN]; exact tr7_0) ?_)
  simp only [a7_0, go_sem, ↓reduceIte, Nat.reduceEqDiff, reduceCtorEq, Nat.reduceAdd, Nat.reduceLT, Nat.reduceLeDiff, Nat.reduceBNe, Nat.reduceBEq, Int.reduceToNat, aCh, tL, fTrue_eq, pairI]
  refine aw_seq ?_
  refine aw_seq (aw_region (EF := EF0) hG (by rw [hN]; exact tr7_1) ?_)
  simp only [a7_1, go_sem, ↓reduceIte, Nat.reduceEqDiff, reduceCtorEq, Nat.reduceAdd, Nat.reduceLT, Nat.reduceLeDiff, Nat.reduceBNe, Nat.reduceBEq, Int.reduceToNat, tL, fTrue_eq, pairI]
  refine aw_cond (b := _) rfl (fun hb1 => ?_) (fun hb1 => ?_)
  · skip
    refine aw_seq (aw_region (EF := EF0) hG (by rw [hN]; exact tr7_2) ?_)
    simp only [a7_2, go_sem, ↓reduceIte, Nat.reduceEqDiff, reduceCtorEq, Nat.reduceAdd, Nat.reduceLT, Nat.reduceLeDiff, Nat.reduceBNe, Nat.reduceBEq, Int.reduceToNat, tL, fTrue_eq, pairI]
    (repeat' apply And.intro) <;> (try first | omega | (intros; (repeat' apply And.intro) <;> first | assumption | omega | (simp_all; done)))
    refine aw_ret ?_
    show Q _ _
    refine hQ _ _ (.inl rfl) ?_ ?_ ?_ <;> simp only [outφ, outV, AR.res, go_sem, ↓reduceIte, Nat.reduceEqDiff, reduceCtorEq, Nat.reduceAdd, Nat.reduceLT, Nat.reduceLeDiff, Nat.reduceBNe, Nat.reduceBEq, Int.reduceToNat, fLaw5]
  · skip
    have hl : l.length ≤ 1000 := by have := of_decide_eq_false hb1; omega
    refine aw_skip ?_
    try simp only [go_sem, ↓reduceIte, Nat.reduceEqDiff, reduceCtorEq, Nat.reduceAdd, Nat.reduceLT, Nat.reduceLeDiff, Nat.reduceBNe, Nat.reduceBEq, Int.reduceToNat]
    refine aw_seq (aw_region (EF := EF0) hG (by rw [hN]; exact tr7_3) ?_)
    simp only [a7_3, go_sem, ↓reduceIte, Nat.reduceEqDiff, reduceCtorEq, Nat.reduceAdd, Nat.reduceLT, Nat.reduceLeDiff, Nat.reduceBNe, Nat.reduceBEq, Int.reduceToNat, fSum_eq, hl, tL, fTrue_eq, pairI]
    (repeat' apply And.intro) <;> (try first | omega | (intros; (repeat' apply And.intro) <;> first | assumption | omega | (simp_all; done)))
    refine aw_seq (aw_region (EF := EF0) hG (by rw [hN]; exact tr7_4) ?_)
    simp only [a7_4, go_sem, ↓reduceIte, Nat.reduceEqDiff, reduceCtorEq, Nat.reduceAdd, Nat.reduceLT, Nat.reduceLeDiff, Nat.reduceBNe, Nat.reduceBEq, Int.reduceToNat, fSum_eq, hl, tL, fTrue_eq, pairI]
    (repeat' apply And.intro) <;> (try first | omega | (intros; (repeat' apply And.intro) <;> first | assumption | omega | (simp_all; done)))
    refine aw_seq (aw_region (EF := EF0) hG (by rw [hN]; exact tr7_5) ?_)
    simp only [a7_5, go_sem, ↓reduceIte, Nat.reduceEqDiff, reduceCtorEq, Nat.reduceAdd, Nat.reduceLT, Nat.reduceLeDiff, Nat.reduceBNe, Nat.reduceBEq, Int.reduceToNat, tL, fTrue_eq, pairI]
    (repeat' apply And.intro) <;> (try first | omega | (intros; (repeat' apply And.intro) <;> first | assumption | omega | (simp_all; done)))
    refine aw_ret ?_
    show Q _ _
    refine hQ _ _ (.inl rfl) ?_ ?_ ?_ <;> simp only [outφ, outV, AR.res, go_sem, ↓reduceIte, Nat.reduceEqDiff, reduceCtorEq, Nat.reduceAdd, Nat.reduceLT, Nat.reduceLeDiff, Nat.reduceBNe, Nat.reduceBEq, Int.reduceToNat, fLaw5]
def aParts (x : Places × Tax × List Seg × List UInt8 × Int) : List V := [.agg x.1.enc, .agg x.2.1.enc, .list (x.2.2.1.map Seg.enc) false, .str x.2.2.2.1, .int .u8 x.2.2.2.2]
theorem aParts_inj (a b : Places × Tax × List Seg × List UInt8 × Int) (h : aParts a = aParts b) : a = b := by
  obtain ⟨a_p, a_x, a_l, a_q, a_c⟩ := a
  obtain ⟨b_p, b_x, b_l, b_q, b_c⟩ := b
  simp only [aParts, List.cons.injEq, V.str.injEq, V.int.injEq, V.bool.injEq, V.agg.injEq, V.list.injEq, and_true, true_and] at h
  obtain ⟨h0, h1, h2, h3, h4⟩ := h
  replace h0 := Places.inj _ _ h0
  subst h0
  replace h1 := Tax.inj _ _ h1
  subst h1
  replace h2 := map_inj' Seg.inj h2
  subst h2
  subst h3
  subst h4
  rfl
def LawP (p : Places) (x : Tax) (s : List Seg) (c : Int) : Prop := p.ok ∧ x.ok ∧ s.length ≤ 140737488355328 ∧ 0 ≤ c ∧ c ≤ 255
def fLaw4 (x : Places × Tax × List Seg × List UInt8 × Int) : Prop × V := (LawP x.1 x.2.1 x.2.2.1 x.2.2.2.2, .bool true)
theorem mod_at {c : Int} (h : 0 ≤ c) (n : Nat) : ∃ k : Nat, Int.tmod c ((n : Int) + 1) = k ∧ k ≤ n := by
  have h1 := Int.tmod_nonneg ((n : Int) + 1) h
  have h2 := Int.tmod_lt_of_pos c (show (0 : Int) < (n : Int) + 1 by omega)
  obtain ⟨k, hk⟩ := Int.eq_ofNat_of_zero_le h1
  exact ⟨k, hk, by omega⟩
theorem parts_br {sg : List Seg} {k : Nat} {f : Int} (hkl : k ≤ sg.length) (h : k = 0 ∨ k = sg.length ∨ follB f (sg.getD (k - 1) Seg.zero) (sg.getD k Seg.zero) = false) : sg.take k = [] ∨ sg.drop k = [] ∨ follB f ((sg.take k).getD ((sg.take k).length - 1) Seg.zero) ((sg.drop k).getD 0 Seg.zero) = false := by
  by_cases h0 : k = 0
  · subst h0; exact .inl rfl
  · rcases h with h | h | h
    · exact absurd h h0
    · exact .inr (.inl (by rw [h, List.drop_length]))
    · refine .inr (.inr ?_)
      rw [List.length_take, Nat.min_eq_left hkl]
      have e1 : (sg.take k).getD (k - 1) Seg.zero = sg.getD (k - 1) Seg.zero := by rw [List.getD_eq_getElem?_getD, List.getD_eq_getElem?_getD, List.getElem?_take, if_pos (by omega)]
      have e2 : (sg.drop k).getD 0 Seg.zero = sg.getD k Seg.zero := by rw [List.getD_eq_getElem?_getD, List.getD_eq_getElem?_getD, List.getElem?_drop, Nat.add_zero]
      rw [e1, e2]; exact h
set_option maxHeartbeats 4000000 in
theorem law4_p : PureC Tryd.prog UT 6 (gOf aParts fLaw4) := by
  have hG := tL_ok
  refine PureC.ofArgs aParts_inj Tryd.func6 body6 nm6 res6 ?_
  rintro ⟨⟨ps, ds⟩, ⟨a, b, c, d, e, f, fr⟩, sg, q, ct⟩ hv
  refine ⟨by rw [nt6]; simp [aParts], fun C hN Q hQ => ?_⟩
  rw [nt6] at hN
  unfold c6
  obtain ⟨hp, hx, hs, hc0, hc1⟩ : LawP ⟨ps, ds⟩ ⟨a, b, c, d, e, f, fr⟩ sg ct := hv
  have hx1 := one_len hx
  obtain ⟨k, hk, hkl⟩ := mod_at hc0 sg.length
  have hci : inK .i64 ct := inK_i64.2 (by unfold inI; omega)
  have hn1 : (sg.length : Int) + 1 ≠ 0 := by omega
  refine aw_seq (aw_region (EF := EF0) hG (by rw [hN]; exact tr6_0) ?_)
  simp only [a6_0, go_sem, ↓reduceIte, Nat.reduceEqDiff, reduceCtorEq, Nat.reduceAdd, Nat.reduceLT, Nat.reduceLeDiff, Nat.reduceBNe, Nat.reduceBEq, Int.reduceToNat, aParts, Places.enc, Tax.enc, tL, fTrue_eq]
  refine aw_seq ?_
  refine aw_seq (aw_region (EF := EF0) hG (by rw [hN]; exact tr6_1) ?_)
  simp only [a6_1, go_sem, ↓reduceIte, Nat.reduceEqDiff, reduceCtorEq, Nat.reduceAdd, Nat.reduceLT, Nat.reduceLeDiff, Nat.reduceBNe, Nat.reduceBEq, Int.reduceToNat, fRi1_eq, hp, hx1, hs, tL, fTrue_eq]
  (repeat' apply And.intro) <;> (try first | omega | (intros; (repeat' apply And.intro) <;> first | assumption | omega | (simp_all; done)))
  refine aw_cond (b := _) rfl (fun hb => ?_) (fun hb => ?_)
  · skip
    refine aw_seq (aw_region (EF := EF0) hG (by rw [hN]; exact tr6_2) ?_)
    simp only [a6_2, go_sem, ↓reduceIte, Nat.reduceEqDiff, reduceCtorEq, Nat.reduceAdd, Nat.reduceLT, Nat.reduceLeDiff, Nat.reduceBNe, Nat.reduceBEq, Int.reduceToNat, tL, fTrue_eq]
    (repeat' apply And.intro) <;> (try first | omega | (intros; (repeat' apply And.intro) <;> first | assumption | omega | (simp_all; done)))
    refine aw_ret ?_
    show Q _ _
    refine hQ _ _ (.inl rfl) ?_ ?_ ?_ <;> simp only [outφ, outV, AR.res, go_sem, ↓reduceIte, Nat.reduceEqDiff, reduceCtorEq, Nat.reduceAdd, Nat.reduceLT, Nat.reduceLeDiff, Nat.reduceBNe, Nat.reduceBEq, Int.reduceToNat, fLaw4]
  · skip
    obtain ⟨hb1, hb2⟩ := Bool.or_eq_false_iff.1 hb
    have hR := right_of (show rightB ⟨ps, ds⟩ [⟨a, b, c, d, e, f, fr⟩] sg = true by simpa using hb1) hp hx1
    have hto := times_ok hR hx
    have hk4 : b ≠ 4 := by simpa using hb2
    refine aw_skip ?_
    try simp only [go_sem, ↓reduceIte, Nat.reduceEqDiff, reduceCtorEq, Nat.reduceAdd, Nat.reduceLT, Nat.reduceLeDiff, Nat.reduceBNe, Nat.reduceBEq, Int.reduceToNat]
    refine aw_seq (aw_region (EF := EF0) hG (by rw [hN]; exact tr6_3) ?_)
    simp only [a6_3, go_sem, ↓reduceIte, Nat.reduceEqDiff, reduceCtorEq, Nat.reduceAdd, Nat.reduceLT, Nat.reduceLeDiff, Nat.reduceBNe, Nat.reduceBEq, Int.reduceToNat, inI, hci, hn1, hk, tL, fTrue_eq]
    (repeat' apply And.intro) <;> (try first | omega | (intros; (repeat' apply And.intro) <;> first | assumption | omega | (simp_all; done)))
    refine aw_cut (α := Unit) (fun _ => (k = 0 ∨ k = sg.length ∨ follB f (sg.getD (k - 1) Seg.zero) (sg.getD k Seg.zero) = false)) (fun _ => ⟨mkE [(2, V.list (List.map Seg.enc sg) false), (3, V.str q), (5, V.ptr 5 0), (6, V.ptr 6 0), (11, V.int IntKind.i64 ↑k)], mkH [(5, Ob.box 31 [V.list (List.map Airport.enc ps) false, V.list (List.map Distance.enc ds) false]), (6, Ob.box 34 [V.str a, V.int IntKind.i64 b, V.str c, V.int IntKind.i64 d, V.int IntKind.i64 e, V.int IntKind.i64 f, V.list (strs fr) false])]⟩) ?_ ?_
    · intro KC4 hKC4
      refine aw_seq (aw_region (EF := EF0) hG (by rw [hN]; exact tr6_4) ?_)
      simp only [a6_4, go_sem, ↓reduceIte, Nat.reduceEqDiff, reduceCtorEq, Nat.reduceAdd, Nat.reduceLT, Nat.reduceLeDiff, Nat.reduceBNe, Nat.reduceBEq, Int.reduceToNat, tL, fTrue_eq]
      (repeat' apply And.intro) <;> (try first | omega | (intros; (repeat' apply And.intro) <;> first | assumption | omega | (simp_all; done)))
      refine aw_cond (b := _) rfl (fun hb4 => ?_) (fun hb4 => ?_)
      · skip
        obtain ⟨h41, h42⟩ := Bool.and_eq_true_iff.1 hb4
        have hk0 : 0 < k := by have := of_decide_eq_true h41; omega
        have hk1 : k < sg.length := by have := of_decide_eq_true h42; omega
        have hk2 : k - 1 < sg.length := by omega
        have ek : ((k : Int) - 1).toNat = k - 1 := by omega
        have ez : (0 : Int) ≤ (k : Int) - 1 := by omega
        have ey : (k : Int) - 1 < (sg.length : Int) := by omega
        have ex : (k : Int) < (sg.length : Int) := by omega
        have hs1 := hR.so _ (List.getElem_mem hk1)
        have hs2 := hR.so _ (List.getElem_mem hk2)
        have hg1 : sg.getD k Seg.zero = sg[k] := getD_lt _ _ _ hk1
        have hg2 : sg.getD (k - 1) Seg.zero = sg[k - 1] := getD_lt _ _ _ hk2
        generalize hw1 : sg[k] = w1 at hs1 hg1
        generalize hw2 : sg[k - 1] = w2 at hs2 hg2
        obtain ⟨p1, p2, p3, p4, p5, p6, p7⟩ := w1
        obtain ⟨q1, q2, q3, q4, q5, q6, q7⟩ := w2
        obtain ⟨m1, m2, m3, m4⟩ := hs1
        obtain ⟨m5, m6, m7, m8⟩ := hs2
        dsimp only at m1 m2 m3 m4 m5 m6 m7 m8
        refine aw_seq (aw_regionD (EF := EF0) hG mixed (by rw [hN]; exact tr6_5) ok6_5 ?_)
        simp only [a6_5, d6_5, go_sem, ↓reduceIte, Nat.reduceEqDiff, reduceCtorEq, Nat.reduceAdd, Nat.reduceLT, Nat.reduceLeDiff, Nat.reduceBNe, Nat.reduceBEq, Int.reduceToNat, inI, ek, ez, ey, ex, getD_mapd _ _ _ _ hk1, hk1, hw1, getD_mapd _ _ _ _ hk2, hk2, hw2, Seg.enc, tL, fTrue_eq]
        (repeat' apply And.intro) <;> (try first | omega | (intros; (repeat' apply And.intro) <;> first | assumption | omega | (simp_all; done)))
        refine aw_seq (aw_region (EF := EF0) hG (by rw [hN]; exact tr6_6) ?_)
        simp only [a6_6, go_sem, ↓reduceIte, Nat.reduceEqDiff, reduceCtorEq, Nat.reduceAdd, Nat.reduceLT, Nat.reduceLeDiff, Nat.reduceBNe, Nat.reduceBEq, Int.reduceToNat, inI, tL, fTrue_eq]
        (repeat' apply And.intro) <;> (try first | omega | (intros; (repeat' apply And.intro) <;> first | assumption | omega | (simp_all; done)))
        refine aw_cond (b := _) rfl (fun hb6 => ?_) (fun hb6 => ?_)
        · skip
          refine aw_seq (aw_region (EF := EF0) hG (by rw [hN]; exact tr6_7) ?_)
          simp only [a6_7, go_sem, ↓reduceIte, Nat.reduceEqDiff, reduceCtorEq, Nat.reduceAdd, Nat.reduceLT, Nat.reduceLeDiff, Nat.reduceBNe, Nat.reduceBEq, Int.reduceToNat, tL, fTrue_eq]
          (repeat' apply And.intro) <;> (try first | omega | (intros; (repeat' apply And.intro) <;> first | assumption | omega | (simp_all; done)))
          refine aw_ret ?_
          show Q _ _
          refine hQ _ _ (.inl rfl) ?_ ?_ ?_ <;> simp only [outφ, outV, AR.res, go_sem, ↓reduceIte, Nat.reduceEqDiff, reduceCtorEq, Nat.reduceAdd, Nat.reduceLT, Nat.reduceLeDiff, Nat.reduceBNe, Nat.reduceBEq, Int.reduceToNat, fLaw4]
        · skip
          refine aw_skip ?_
          try simp only [go_sem, ↓reduceIte, Nat.reduceEqDiff, reduceCtorEq, Nat.reduceAdd, Nat.reduceLT, Nat.reduceLeDiff, Nat.reduceBNe, Nat.reduceBEq, Int.reduceToNat]
          refine hKC4 (()) _ ?_ ?_
          · (try dsimp only); refine .inr (.inr ?_); rw [hg1, hg2, ← trB_eq]; unfold trB; rw [Bool.and_assoc]; simpa using hb6
          · refine Le.mk _ _ ?_ ?_ rfl <;> simp only [go_sem, ↓reduceIte, Nat.reduceEqDiff, reduceCtorEq, Nat.reduceAdd, Nat.reduceLT, Nat.reduceLeDiff, Nat.reduceBNe, Nat.reduceBEq, Int.reduceToNat] <;> (repeat' apply And.intro) <;> (try first | rfl | exact wk_frzb rfl rfl rfl | exact wk_fn rfl | exact .nilo _ _ _ rfl rfl)
      · skip
        have hkb : k = 0 ∨ k = sg.length := by simp at hb4; omega
        refine aw_skip ?_
        try simp only [go_sem, ↓reduceIte, Nat.reduceEqDiff, reduceCtorEq, Nat.reduceAdd, Nat.reduceLT, Nat.reduceLeDiff, Nat.reduceBNe, Nat.reduceBEq, Int.reduceToNat]
        refine hKC4 (()) _ ?_ ?_
        · (try dsimp only); exact hkb.elim .inl (fun h => .inr (.inl h))
        · refine Le.mk _ _ ?_ ?_ rfl <;> simp only [go_sem, ↓reduceIte, Nat.reduceEqDiff, reduceCtorEq, Nat.reduceAdd, Nat.reduceLT, Nat.reduceLeDiff, Nat.reduceBNe, Nat.reduceBEq, Int.reduceToNat] <;> (repeat' apply And.intro) <;> (try first | rfl | exact wk_frzb rfl rfl rfl | exact wk_fn rfl | exact .nilo _ _ _ rfl rfl)
    · rintro _ hbr
      have hrt := (hR.rt _ (List.mem_singleton.2 rfl)).1
      have hto1 : TimesOk ⟨ps, ds⟩ ⟨a, b, c, d, e, f, fr⟩ (sg.take k) := ⟨hto.1, hto.2.1, by rw [List.length_take]; have := hto.2.2.1; omega, fun z hz => hR.so z (List.mem_of_mem_take hz)⟩
      have hto2 : TimesOk ⟨ps, ds⟩ ⟨a, b, c, d, e, f, fr⟩ (sg.drop k) := ⟨hto.1, hto.2.1, by rw [List.length_drop]; have := hto.2.2.1; omega, fun z hz => hR.so z (List.mem_of_mem_drop hz)⟩
      have hb81 := tm_bd (ps := ps) (l := sg.take k) (q := q) hrt
      have hb82 := tm_bd (ps := ps) (l := sg.drop k) (q := q) hrt
      rw [List.length_take] at hb81
      rw [List.length_drop] at hb82
      have hsl := hR.sl
      have hpt := times_parts (ps := ps) (x := ⟨a, b, c, d, e, f, fr⟩) (q := q) sg k hk4 (parts_br hkl hbr)
      generalize hn1 : timesP ps ⟨a, b, c, d, e, f, fr⟩ (sg.take k) q = n1 at hb81 hpt
      generalize hn2 : timesP ps ⟨a, b, c, d, e, f, fr⟩ (sg.drop k) q = n2 at hb82 hpt
      have hkl2 : (k : Int) ≤ (sg.length : Int) := by omega
      have htl : (List.map Seg.enc sg).take sg.length = List.map Seg.enc sg := List.take_of_length_le (by rw [List.length_map]; exact Nat.le_refl _)
      refine aw_seq (aw_regionD (EF := EF0) hG mixed (by rw [hN]; exact tr6_8) ok6_8 ?_)
      simp only [a6_8, d6_8, go_sem, ↓reduceIte, Nat.reduceEqDiff, reduceCtorEq, Nat.reduceAdd, Nat.reduceLT, Nat.reduceLeDiff, Nat.reduceBNe, Nat.reduceBEq, Int.reduceToNat, inI, hto, hto1, hto2, fTimes_eq, Int.toNat_natCast, Int.toNat_zero, List.drop_zero, ← List.map_take, ← List.map_drop, hpt, hn1, hn2, htl, hkl2, List.take_length, tL, fTrue_eq]
      (repeat' apply And.intro) <;> (try first | omega | (intros; (repeat' apply And.intro) <;> first | assumption | omega | (simp_all; done)))
      refine aw_ret ?_
      show Q _ _
      refine hQ _ _ (.inl rfl) ?_ ?_ ?_ <;> simp only [outφ, outV, AR.res, go_sem, ↓reduceIte, Nat.reduceEqDiff, reduceCtorEq, Nat.reduceAdd, Nat.reduceLT, Nat.reduceLeDiff, Nat.reduceBNe, Nat.reduceBEq, Int.reduceToNat, fLaw4]
end Go.Proofs.YtailckanpheciaaDoor
