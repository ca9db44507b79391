/- The laws of places. -/
import Derived.Test.YtcongikpaonliaaDoorPl17
namespace Go.Proofs.YtcongikpaonliaaDoor
open Go Go.RowKit
set_option linter.unusedSimpArgs false
set_option linter.unusedVariables false
set_option linter.deprecated false
structure Trio where
  a : List UInt8
  b : List UInt8
  c : List UInt8
def Trio.enc (x : Trio) : List V := [.str x.a, .str x.b, .str x.c]
theorem Trio.inj (a b : Trio) (h : a.enc = b.enc) : a = b := by
  obtain ⟨a_a, a_b, a_c⟩ := a
  obtain ⟨b_a, b_b, b_c⟩ := b
  simp only [Trio.enc, List.cons.injEq, V.str.injEq, V.int.injEq, V.bool.injEq, V.agg.injEq, V.list.injEq, and_true, true_and] at h
  obtain ⟨h0, h1, h2⟩ := h
  subst h0
  subst h1
  subst h2
  rfl
def Trio.ok (x : Trio) : Prop := x.a.length ≤ 140737488355328 ∧ x.b.length ≤ 140737488355328 ∧ x.c.length ≤ 140737488355328
def Trio.zero : Trio := ⟨[], [], []⟩
theorem Trio.rows (l : List Trio) : (∀ r ∈ l.map Trio.enc, r.length = 3) ↔ True := iff_true_intro fun r hr => by obtain ⟨x, _, rfl⟩ := List.mem_map.1 hr; rfl
theorem Trio.purs (l : List Trio) : (∀ r ∈ l.map Trio.enc, V.purs r = true) ↔ True := iff_true_intro fun r hr => by obtain ⟨x, _, rfl⟩ := List.mem_map.1 hr; rfl
attribute [go_sem] Trio.rows Trio.purs
theorem Trio.mapLen (l : List Trio) : (l.map Trio.enc).length = l.length := List.length_map _
theorem fSmall_eq (ps : List Airport) (ds : List Distance) : gOf aP1 fSmall [.agg [.list (ps.map Airport.enc) false, .list (ds.map Distance.enc) false]] = ((⟨ps, ds⟩ : Places).ok, .bool (smallB ⟨ps, ds⟩)) := gOf_eq aP1_inj (⟨ps, ds⟩ : Places)
theorem fChk_eq (ps : List Airport) (ds : List Distance) : gOf aP1 fChk [.agg [.list (ps.map Airport.enc) false, .list (ds.map Distance.enc) false]] = (Sm ⟨ps, ds⟩, .list (faults (chkF ⟨ps, ds⟩)) false) := gOf_eq aP1_inj (⟨ps, ds⟩ : Places)
theorem fCountry_eq (ps : List Airport) (ds : List Distance) (c : List UInt8) : gOf aPs fCountry [.agg [.list (ps.map Airport.enc) false, .list (ds.map Distance.enc) false], .str c] = (LenP ⟨ps, ds⟩, .str (countryOf ps c)) := gOf_eq aPs_inj (⟨ps, ds⟩, c)
theorem fWay_eq (ps : List Airport) (ds : List Distance) (cs : List (List UInt8)) : gOf aWay fWay [.agg [.list (ps.map Airport.enc) false, .list (ds.map Distance.enc) false], .list (strs cs) false] = (MOk ⟨ps, ds⟩ ∧ cs.length ≤ 1000, .tup [.int .i64 (wayOf ps ds cs).1, .int .i64 (wayOf ps ds cs).2]) := gOf_eq aWay_inj (⟨ps, ds⟩, cs)
theorem fSameA_eq (a b c : List UInt8) (zo : Int) (sh : List Shift) : gOf aTwoA fSameA [.agg [.str a, .str b, .str c, .int .i64 zo, .list (sh.map Shift.enc) false], .agg [.str a, .str b, .str c, .int .i64 zo, .list (sh.map Shift.enc) false]] = ((⟨a, b, c, ⟨zo, sh⟩⟩ : Airport).ok ∧ (⟨a, b, c, ⟨zo, sh⟩⟩ : Airport) = ⟨a, b, c, ⟨zo, sh⟩⟩, .bool true) := gOf_eq aTwoA_inj ((⟨a, b, c, ⟨zo, sh⟩⟩ : Airport), (⟨a, b, c, ⟨zo, sh⟩⟩ : Airport))
theorem small_sm {ps : List Airport} {ds : List Distance} (h : smallB ⟨ps, ds⟩ = true) (hk : (⟨ps, ds⟩ : Places).ok) : Sm ⟨ps, ds⟩ ∧ MOk ⟨ps, ds⟩ ∧ ds.length ≤ 1000 ∧ LenP ⟨ps, ds⟩ := by
  unfold smallB at h
  simp only [Bool.and_eq_true, Bool.not_eq_true', Bool.or_eq_false_iff, decide_eq_false_iff_not] at h
  obtain ⟨⟨h1, h2⟩, _⟩ := h
  have a1 : ps.length ≤ 1000 := by omega
  have a2 : ds.length ≤ 1000 := by omega
  have a3 : LenP ⟨ps, ds⟩ := ⟨by dsimp only; omega, by dsimp only; omega⟩
  exact ⟨⟨a1, a2, hk.1.2⟩, ⟨a3, a2⟩, a2, a3⟩
theorem errF_len (p es) : (errF p es).length = es.length := List.length_map _
theorem airTo_len (ps) : ∀ i, (airTo ps i).length ≤ 4 * i
  | 0 => Nat.le_refl _
  | i + 1 => by rw [airTo, List.length_append, errF_len]; have := airTo_len ps i; have := airErrs_len ps i (ps.getD i Airport.zero); omega
theorem disTo_len (ps ds) : ∀ i, (disTo ps ds i).length ≤ 3 * i
  | 0 => Nat.le_refl _
  | i + 1 => by rw [disTo, List.length_append, errF_len]; have := disTo_len ps ds i; have := disErrs_len ps ds i (ds.getD i Distance.zero); omega
theorem chk_len {p : Places} (h : Sm p) : (chkF p).length ≤ 140737488355328 := by
  have h1 := airTo_len p.airports p.airports.length
  have h2 := disTo_len p.airports p.distances p.distances.length
  have := h.1
  have := h.2.1
  unfold chkF; rw [List.length_append]; omega
theorem zeroA_ok : Airport.zero.ok := ⟨by decide, by decide, by decide, by constructor <;> decide, by decide, fun z hz => absurd hz List.not_mem_nil⟩
theorem find_ok {p : Airport → Bool} {l : List Airport} (h : ∀ a ∈ l, a.ok) : ((findBy p l).getD Airport.zero).ok := by
  cases e : findBy p l with
  | none => exact zeroA_ok
  | some a => exact h a (findBy_in e).1
/-- City of a city is the city, unless it is a code. -/
theorem city_city {ps : List Airport} {c : List UInt8} : ((findBy (byCode (cityOf ps c)) ps).isSome || decide (cityOf ps (cityOf ps c) = cityOf ps c)) = true := by
  cases e : findBy (byCode (cityOf ps c)) ps with
  | some _ => rfl
  | none =>
    rw [Option.isSome_none, Bool.false_or, decide_eq_true_iff, city_none e]
    have key : ∀ a ∈ ps, (findBy (byCity a.city) ps).isSome = true := fun a ha => List.find?_isSome.2 ⟨a, ha, by simp [byCity]⟩
    cases h1 : findBy (byCode c) ps with
    | some a => rw [city_some h1, if_pos (key a (findBy_in h1).1)]
    | none =>
      rw [city_none h1]
      split
      · rename_i h2; first | rfl | rw [if_pos h2]
      · split <;> rfl
noncomputable def tL : Tab
  | 8 => (gOf aP1 fSmall)
  | 9 => (gOf aUnit fTrue)
  | 10 => (gOf aSameF fSameF)
  | 15 => (gOf aTwoA fSameA)
  | 11 => (gOf aP1 fChk)
  | 12 => (gOf aP1 fChk)
  | 13 => (gOf aPs fFind)
  | 14 => (gOf aPs fFind)
  | 16 => (gOf aPs fCity)
  | 17 => (gOf aPs fCity)
  | 18 => (gOf aPs fCountry)
  | 19 => (gOf aPs fCountry)
  | 20 => (gOf aMi fMiles)
  | 21 => (gOf aMi fMiles)
  | 22 => (gOf aWay fWay)
  | 23 => (gOf aWay fWay)
  | _ => gNo
theorem tL_ok : ∀ f, PureC Tryd.prog UT f (tL f) := fun f => by
  unfold tL
  split
  · exact small_p
  · exact awake_p
  · exact sameF_p
  · exact sameA_p
  · exact check_p
  · exact rcheck_p
  · exact find_p
  · exact rfind_p
  · exact city_p
  · exact rcity_p
  · exact country_p
  · exact rcountry_p
  · exact miles_p
  · exact rmiles_p
  · exact way_p
  · exact rway_p
  · exact PureC.no
def fLaw1 (p : Places) : Prop × V := (p.ok, .bool true)
set_option maxHeartbeats 2000000 in
theorem law1_p : PureC Tryd.prog UT 3 (gOf aP1 fLaw1) := by
  have hG := tL_ok
  refine PureC.ofArgs aP1_inj Tryd.func3 body3 nm3 res3 ?_
  rintro ⟨ps, ds⟩ hv
  refine ⟨by rw [nt3]; simp [aP1], fun C hN Q hQ => ?_⟩
  rw [nt3] at hN
  unfold c3
  replace hv : (⟨ps, ds⟩ : Places).ok := hv
  refine aw_seq (aw_region (EF := EF0) hG (by rw [hN]; exact tr3_0) ?_)
  simp only [a3_0, go_sem, ↓reduceIte, Nat.reduceEqDiff, reduceCtorEq, Nat.reduceAdd, Nat.reduceLT, Nat.reduceLeDiff, Nat.reduceBNe, Nat.reduceBEq, Int.reduceToNat, aP1, Places.enc, tL, fTrue_eq]
  refine aw_seq ?_
  refine aw_seq (aw_region (EF := EF0) hG (by rw [hN]; exact tr3_1) ?_)
  simp only [a3_1, go_sem, ↓reduceIte, Nat.reduceEqDiff, reduceCtorEq, Nat.reduceAdd, Nat.reduceLT, Nat.reduceLeDiff, Nat.reduceBNe, Nat.reduceBEq, Int.reduceToNat, fSmall_eq, hv, tL, fTrue_eq]
  (repeat' apply And.intro) <;> (try first | omega | (intros; (repeat' apply And.intro) <;> first | assumption | omega | (simp_all; done)))
  refine aw_cond (b := _) rfl (fun hb => ?_) (fun hb => ?_)
  · skip
    refine aw_seq (aw_region (EF := EF0) hG (by rw [hN]; exact tr3_2) ?_)
    simp only [a3_2, go_sem, ↓reduceIte, Nat.reduceEqDiff, reduceCtorEq, Nat.reduceAdd, Nat.reduceLT, Nat.reduceLeDiff, Nat.reduceBNe, Nat.reduceBEq, Int.reduceToNat, tL, fTrue_eq]
    (repeat' apply And.intro) <;> (try first | omega | (intros; (repeat' apply And.intro) <;> first | assumption | omega | (simp_all; done)))
    refine aw_ret ?_
    show Q _ _
    refine hQ _ _ (.inl rfl) ?_ ?_ ?_ <;> simp only [outφ, outV, AR.res, go_sem, ↓reduceIte, Nat.reduceEqDiff, reduceCtorEq, Nat.reduceAdd, Nat.reduceLT, Nat.reduceLeDiff, Nat.reduceBNe, Nat.reduceBEq, Int.reduceToNat, fLaw1]
  · skip
    obtain ⟨hs, hM, hd, hl⟩ := small_sm (show smallB ⟨ps, ds⟩ = true by simpa using hb) hv
    have hln := chk_len hs
    refine aw_skip ?_
    simp only [go_sem, ↓reduceIte, Nat.reduceEqDiff, reduceCtorEq, Nat.reduceAdd, Nat.reduceLT, Nat.reduceLeDiff, Nat.reduceBNe, Nat.reduceBEq, Int.reduceToNat]
    refine aw_seq (aw_regionD (EF := EF0) hG mixed (by rw [hN]; exact tr3_3) ok3_3 ?_)
    simp only [a3_3, d3_3, go_sem, ↓reduceIte, Nat.reduceEqDiff, reduceCtorEq, Nat.reduceAdd, Nat.reduceLT, Nat.reduceLeDiff, Nat.reduceBNe, Nat.reduceBEq, Int.reduceToNat, fChk_eq, hs, fSameF_eq, tL, fTrue_eq]
    (repeat' apply And.intro) <;> (try first | omega | (intros; (repeat' apply And.intro) <;> first | assumption | omega | (simp_all; done)))
    refine aw_ret ?_
    show Q _ _
    refine hQ _ _ (.inl rfl) ?_ ?_ ?_ <;> simp only [outφ, outV, AR.res, go_sem, ↓reduceIte, Nat.reduceEqDiff, reduceCtorEq, Nat.reduceAdd, Nat.reduceLT, Nat.reduceLeDiff, Nat.reduceBNe, Nat.reduceBEq, Int.reduceToNat, fLaw1]
def fLaw2 (x : Places × List UInt8) : Prop × V := (x.1.ok ∧ x.2.length ≤ 140737488355328, .bool true)
set_option maxHeartbeats 4000000 in
theorem law2_p : PureC Tryd.prog UT 4 (gOf aPs fLaw2) := by
  have hG := tL_ok
  refine PureC.ofArgs aPs_inj Tryd.func4 body4 nm4 res4 ?_
  rintro ⟨⟨ps, ds⟩, c⟩ hv
  refine ⟨by rw [nt4]; simp [aPs], fun C hN Q hQ => ?_⟩
  rw [nt4] at hN
  unfold c4
  obtain ⟨hv, hc⟩ : (⟨ps, ds⟩ : Places).ok ∧ c.length ≤ 140737488355328 := hv
  refine aw_seq (aw_region (EF := EF0) hG (by rw [hN]; exact tr4_0) ?_)
  simp only [a4_0, go_sem, ↓reduceIte, Nat.reduceEqDiff, reduceCtorEq, Nat.reduceAdd, Nat.reduceLT, Nat.reduceLeDiff, Nat.reduceBNe, Nat.reduceBEq, Int.reduceToNat, aPs, Places.enc, tL, fTrue_eq]
  refine aw_seq ?_
  refine aw_seq (aw_region (EF := EF0) hG (by rw [hN]; exact tr4_1) ?_)
  simp only [a4_1, go_sem, ↓reduceIte, Nat.reduceEqDiff, reduceCtorEq, Nat.reduceAdd, Nat.reduceLT, Nat.reduceLeDiff, Nat.reduceBNe, Nat.reduceBEq, Int.reduceToNat, fSmall_eq, hv, tL, fTrue_eq]
  (repeat' apply And.intro) <;> (try first | omega | (intros; (repeat' apply And.intro) <;> first | assumption | omega | (simp_all; done)))
  refine aw_cond (b := _) rfl (fun hb => ?_) (fun hb => ?_)
  · skip
    refine aw_seq (aw_region (EF := EF0) hG (by rw [hN]; exact tr4_2) ?_)
    simp only [a4_2, go_sem, ↓reduceIte, Nat.reduceEqDiff, reduceCtorEq, Nat.reduceAdd, Nat.reduceLT, Nat.reduceLeDiff, Nat.reduceBNe, Nat.reduceBEq, Int.reduceToNat, tL, fTrue_eq]
    (repeat' apply And.intro) <;> (try first | omega | (intros; (repeat' apply And.intro) <;> first | assumption | omega | (simp_all; done)))
    refine aw_ret ?_
    show Q _ _
    refine hQ _ _ (.inl rfl) ?_ ?_ ?_ <;> simp only [outφ, outV, AR.res, go_sem, ↓reduceIte, Nat.reduceEqDiff, reduceCtorEq, Nat.reduceAdd, Nat.reduceLT, Nat.reduceLeDiff, Nat.reduceBNe, Nat.reduceBEq, Int.reduceToNat, fLaw2]
  · skip
    obtain ⟨hs, hM, hd, hl⟩ := small_sm (show smallB ⟨ps, ds⟩ = true by simpa using hb) hv
    have e1 := fFind_eq ps ds c
    have hao := find_ok (p := byCode c) hv.1.2
    obtain ⟨a, ha⟩ : ∃ a, (findBy (byCode c) ps).getD Airport.zero = a := ⟨_, rfl⟩
    dsimp only at hao
    unfold airV at e1
    rw [ha] at e1 hao
    obtain ⟨ac, at', an, ⟨zo, sh⟩⟩ := a
    simp only [Airport.enc] at e1
    have e2 := fFind_eq ps ds (cityOf ps c)
    obtain ⟨a2, ha2⟩ : ∃ a, (findBy (byCode (cityOf ps c)) ps).getD Airport.zero = a := ⟨_, rfl⟩
    unfold airV at e2
    rw [ha2] at e2
    obtain ⟨bc, bt, bn, ⟨bo, bh⟩⟩ := a2
    simp only [Airport.enc] at e2
    refine aw_skip ?_
    simp only [go_sem, ↓reduceIte, Nat.reduceEqDiff, reduceCtorEq, Nat.reduceAdd, Nat.reduceLT, Nat.reduceLeDiff, Nat.reduceBNe, Nat.reduceBEq, Int.reduceToNat]
    refine aw_seq (aw_region (EF := EF0) hG (by rw [hN]; exact tr4_3) ?_)
    simp only [a4_3, go_sem, ↓reduceIte, Nat.reduceEqDiff, reduceCtorEq, Nat.reduceAdd, Nat.reduceLT, Nat.reduceLeDiff, Nat.reduceBNe, Nat.reduceBEq, Int.reduceToNat, e1, hl, tL, fTrue_eq]
    (repeat' apply And.intro) <;> (try first | omega | (intros; (repeat' apply And.intro) <;> first | assumption | omega | (simp_all; done)))
    refine aw_seq (aw_region (EF := EF0) hG (by rw [hN]; exact tr4_4) ?_)
    simp only [a4_4, go_sem, ↓reduceIte, Nat.reduceEqDiff, reduceCtorEq, Nat.reduceAdd, Nat.reduceLT, Nat.reduceLeDiff, Nat.reduceBNe, Nat.reduceBEq, Int.reduceToNat, e1, hl, tL, fTrue_eq]
    (repeat' apply And.intro) <;> (try first | omega | (intros; (repeat' apply And.intro) <;> first | assumption | omega | (simp_all; done)))
    refine aw_seq ?_
    refine aw_seq (aw_regionD (EF := EF0) hG mixed (by rw [hN]; exact tr4_5) ok4_5 ?_)
    simp only [a4_5, d4_5, go_sem, ↓reduceIte, Nat.reduceEqDiff, reduceCtorEq, Nat.reduceAdd, Nat.reduceLT, Nat.reduceLeDiff, Nat.reduceBNe, Nat.reduceBEq, Int.reduceToNat, fSameA_eq, hao, fCity_eq, fCountry_eq, hl, tL, fTrue_eq]
    (repeat' apply And.intro) <;> (try first | omega | (intros; (repeat' apply And.intro) <;> first | assumption | omega | (simp_all; done)))
    refine aw_condF rfl ?_
    refine aw_skip ?_
    simp only [go_sem, ↓reduceIte, Nat.reduceEqDiff, reduceCtorEq, Nat.reduceAdd, Nat.reduceLT, Nat.reduceLeDiff, Nat.reduceBNe, Nat.reduceBEq, Int.reduceToNat]
    refine aw_seq (aw_region (EF := EF0) hG (by rw [hN]; exact tr4_7) ?_)
    simp only [a4_7, go_sem, ↓reduceIte, Nat.reduceEqDiff, reduceCtorEq, Nat.reduceAdd, Nat.reduceLT, Nat.reduceLeDiff, Nat.reduceBNe, Nat.reduceBEq, Int.reduceToNat, fCity_eq, hl, tL, fTrue_eq]
    (repeat' apply And.intro) <;> (try first | omega | (intros; (repeat' apply And.intro) <;> first | assumption | omega | (simp_all; done)))
    refine aw_seq (aw_region (EF := EF0) hG (by rw [hN]; exact tr4_8) ?_)
    simp only [a4_8, go_sem, ↓reduceIte, Nat.reduceEqDiff, reduceCtorEq, Nat.reduceAdd, Nat.reduceLT, Nat.reduceLeDiff, Nat.reduceBNe, Nat.reduceBEq, Int.reduceToNat, e2, hl, tL, fTrue_eq]
    (repeat' apply And.intro) <;> (try first | omega | (intros; (repeat' apply And.intro) <;> first | assumption | omega | (simp_all; done)))
    refine aw_seq (aw_region (EF := EF0) hG (by rw [hN]; exact tr4_9) ?_)
    simp only [a4_9, go_sem, ↓reduceIte, Nat.reduceEqDiff, reduceCtorEq, Nat.reduceAdd, Nat.reduceLT, Nat.reduceLeDiff, Nat.reduceBNe, Nat.reduceBEq, Int.reduceToNat, fCity_eq, hl, tL, fTrue_eq]
    (repeat' apply And.intro) <;> (try first | omega | (intros; (repeat' apply And.intro) <;> first | assumption | omega | (simp_all; done)))
    refine aw_ret ?_
    show Q _ _
    refine hQ _ _ (.inl rfl) ?_ ?_ ?_ <;> simp only [outφ, outV, AR.res, go_sem, ↓reduceIte, Nat.reduceEqDiff, reduceCtorEq, Nat.reduceAdd, Nat.reduceLT, Nat.reduceLeDiff, Nat.reduceBNe, Nat.reduceBEq, Int.reduceToNat, fLaw2]
    exact congrArg V.bool city_city
def fLaw3 (x : Places × List UInt8 × List UInt8) : Prop × V := (x.1.ok, .bool true)
set_option maxHeartbeats 4000000 in
theorem law3_p : PureC Tryd.prog UT 5 (gOf aMi fLaw3) := by
  have hG := tL_ok
  refine PureC.ofArgs aMi_inj Tryd.func5 body5 nm5 res5 ?_
  rintro ⟨⟨ps, ds⟩, a, b⟩ hv
  refine ⟨by rw [nt5]; simp [aMi], fun C hN Q hQ => ?_⟩
  rw [nt5] at hN
  unfold c5
  replace hv : (⟨ps, ds⟩ : Places).ok := hv
  refine aw_seq (aw_region (EF := EF0) hG (by rw [hN]; exact tr5_0) ?_)
  simp only [a5_0, go_sem, ↓reduceIte, Nat.reduceEqDiff, reduceCtorEq, Nat.reduceAdd, Nat.reduceLT, Nat.reduceLeDiff, Nat.reduceBNe, Nat.reduceBEq, Int.reduceToNat, aMi, Places.enc, tL, fTrue_eq]
  refine aw_seq ?_
  refine aw_seq (aw_region (EF := EF0) hG (by rw [hN]; exact tr5_1) ?_)
  simp only [a5_1, go_sem, ↓reduceIte, Nat.reduceEqDiff, reduceCtorEq, Nat.reduceAdd, Nat.reduceLT, Nat.reduceLeDiff, Nat.reduceBNe, Nat.reduceBEq, Int.reduceToNat, fSmall_eq, hv, tL, fTrue_eq]
  (repeat' apply And.intro) <;> (try first | omega | (intros; (repeat' apply And.intro) <;> first | assumption | omega | (simp_all; done)))
  refine aw_cond (b := _) rfl (fun hb => ?_) (fun hb => ?_)
  · skip
    refine aw_seq (aw_region (EF := EF0) hG (by rw [hN]; exact tr5_2) ?_)
    simp only [a5_2, go_sem, ↓reduceIte, Nat.reduceEqDiff, reduceCtorEq, Nat.reduceAdd, Nat.reduceLT, Nat.reduceLeDiff, Nat.reduceBNe, Nat.reduceBEq, Int.reduceToNat, tL, fTrue_eq]
    (repeat' apply And.intro) <;> (try first | omega | (intros; (repeat' apply And.intro) <;> first | assumption | omega | (simp_all; done)))
    refine aw_ret ?_
    show Q _ _
    refine hQ _ _ (.inl rfl) ?_ ?_ ?_ <;> simp only [outφ, outV, AR.res, go_sem, ↓reduceIte, Nat.reduceEqDiff, reduceCtorEq, Nat.reduceAdd, Nat.reduceLT, Nat.reduceLeDiff, Nat.reduceBNe, Nat.reduceBEq, Int.reduceToNat, fLaw3]
  · skip
    obtain ⟨hs, hM, hd, hl⟩ := small_sm (show smallB ⟨ps, ds⟩ = true by simpa using hb) hv
    refine aw_skip ?_
    simp only [go_sem, ↓reduceIte, Nat.reduceEqDiff, reduceCtorEq, Nat.reduceAdd, Nat.reduceLT, Nat.reduceLeDiff, Nat.reduceBNe, Nat.reduceBEq, Int.reduceToNat]
    refine aw_seq (aw_region (EF := EF0) hG (by rw [hN]; exact tr5_3) ?_)
    simp only [a5_3, go_sem, ↓reduceIte, Nat.reduceEqDiff, reduceCtorEq, Nat.reduceAdd, Nat.reduceLT, Nat.reduceLeDiff, Nat.reduceBNe, Nat.reduceBEq, Int.reduceToNat, fMiles_eq, hM, tL, fTrue_eq]
    (repeat' apply And.intro) <;> (try first | omega | (intros; (repeat' apply And.intro) <;> first | assumption | omega | (simp_all; done)))
    refine aw_seq (aw_region (EF := EF0) hG (by rw [hN]; exact tr5_4) ?_)
    simp only [a5_4, go_sem, ↓reduceIte, Nat.reduceEqDiff, reduceCtorEq, Nat.reduceAdd, Nat.reduceLT, Nat.reduceLeDiff, Nat.reduceBNe, Nat.reduceBEq, Int.reduceToNat, fMiles_eq, hM, tL, fTrue_eq]
    (repeat' apply And.intro) <;> (try first | omega | (intros; (repeat' apply And.intro) <;> first | assumption | omega | (simp_all; done)))
    refine aw_seq (aw_region (EF := EF0) hG (by rw [hN]; exact tr5_5) ?_)
    simp only [a5_5, go_sem, ↓reduceIte, Nat.reduceEqDiff, reduceCtorEq, Nat.reduceAdd, Nat.reduceLT, Nat.reduceLeDiff, Nat.reduceBNe, Nat.reduceBEq, Int.reduceToNat, tL, fTrue_eq]
    (repeat' apply And.intro) <;> (try first | omega | (intros; (repeat' apply And.intro) <;> first | assumption | omega | (simp_all; done)))
    refine aw_ret ?_
    show Q _ _
    refine hQ _ _ (.inl rfl) ?_ ?_ ?_ <;> simp only [outφ, outV, AR.res, go_sem, ↓reduceIte, Nat.reduceEqDiff, reduceCtorEq, Nat.reduceAdd, Nat.reduceLT, Nat.reduceLeDiff, Nat.reduceBNe, Nat.reduceBEq, Int.reduceToNat, fLaw3]
def aTri (x : Places × Trio) : List V := [.agg x.1.enc, .agg x.2.enc]
theorem aTri_inj (a b : Places × Trio) (h : aTri a = aTri b) : a = b := by
  obtain ⟨a_p, a_t⟩ := a
  obtain ⟨b_p, b_t⟩ := b
  simp only [aTri, List.cons.injEq, V.str.injEq, V.int.injEq, V.bool.injEq, V.agg.injEq, V.list.injEq, and_true, true_and] at h
  obtain ⟨h0, h1⟩ := h
  replace h0 := Places.inj _ _ h0
  subst h0
  replace h1 := Trio.inj _ _ h1
  subst h1
  rfl
def fLaw4 (x : Places × Trio) : Prop × V := (x.1.ok, .bool true)
theorem tri_ok {e1 e2 n1 n2 : Int} {r : Int × Int} (h : e1 = 0 → e2 = 0 → ∃ m, r = (m, 0) ∧ m ≤ n1 + n2) : (!decide (e1 = 0) || !decide (e2 = 0) || (decide (r.2 = 0) && decide (r.1 ≤ n1 + n2))) = true := by
  by_cases a : e1 = 0
  · by_cases b : e2 = 0
    · obtain ⟨m, rfl, hm⟩ := h a b
      simp [hm]
    · simp [b]
  · simp [a]
set_option maxHeartbeats 4000000 in
theorem law4_p : PureC Tryd.prog UT 6 (gOf aTri fLaw4) := by
  have hG := tL_ok
  refine PureC.ofArgs aTri_inj Tryd.func6 body6 nm6 res6 ?_
  rintro ⟨⟨ps, ds⟩, ⟨a, b, c⟩⟩ hv
  refine ⟨by rw [nt6]; simp [aTri], fun C hN Q hQ => ?_⟩
  rw [nt6] at hN
  unfold c6
  replace hv : (⟨ps, ds⟩ : Places).ok := hv
  refine aw_seq (aw_region (EF := EF0) hG (by rw [hN]; exact tr6_0) ?_)
  simp only [a6_0, go_sem, ↓reduceIte, Nat.reduceEqDiff, reduceCtorEq, Nat.reduceAdd, Nat.reduceLT, Nat.reduceLeDiff, Nat.reduceBNe, Nat.reduceBEq, Int.reduceToNat, aTri, Places.enc, Trio.enc, tL, fTrue_eq]
  refine aw_seq ?_
  refine aw_seq (aw_region (EF := EF0) hG (by rw [hN]; exact tr6_1) ?_)
  simp only [a6_1, go_sem, ↓reduceIte, Nat.reduceEqDiff, reduceCtorEq, Nat.reduceAdd, Nat.reduceLT, Nat.reduceLeDiff, Nat.reduceBNe, Nat.reduceBEq, Int.reduceToNat, fSmall_eq, hv, tL, fTrue_eq]
  (repeat' apply And.intro) <;> (try first | omega | (intros; (repeat' apply And.intro) <;> first | assumption | omega | (simp_all; done)))
  refine aw_cond (b := _) rfl (fun hb => ?_) (fun hb => ?_)
  · skip
    refine aw_seq (aw_region (EF := EF0) hG (by rw [hN]; exact tr6_2) ?_)
    simp only [a6_2, go_sem, ↓reduceIte, Nat.reduceEqDiff, reduceCtorEq, Nat.reduceAdd, Nat.reduceLT, Nat.reduceLeDiff, Nat.reduceBNe, Nat.reduceBEq, Int.reduceToNat, tL, fTrue_eq]
    (repeat' apply And.intro) <;> (try first | omega | (intros; (repeat' apply And.intro) <;> first | assumption | omega | (simp_all; done)))
    refine aw_ret ?_
    show Q _ _
    refine hQ _ _ (.inl rfl) ?_ ?_ ?_ <;> simp only [outφ, outV, AR.res, go_sem, ↓reduceIte, Nat.reduceEqDiff, reduceCtorEq, Nat.reduceAdd, Nat.reduceLT, Nat.reduceLeDiff, Nat.reduceBNe, Nat.reduceBEq, Int.reduceToNat, fLaw4]
  · skip
    obtain ⟨hs, hM, hd, hl⟩ := small_sm (show smallB ⟨ps, ds⟩ = true by simpa using hb) hv
    have hsy := milesOf_symm (ps := ps) hd b a
    have hb1 := milesOf_bd (ps := ps) hd a b
    have hb2 := milesOf_bd (ps := ps) hd b c
    have htri : (milesOf ps ds a b).2 = 0 → (milesOf ps ds b c).2 = 0 → ∃ m, milesOf ps ds a c = (m, 0) ∧ m ≤ (milesOf ps ds a b).1 + (milesOf ps ds b c).1 := fun h1 h2 => milesOf_tri hd (show milesOf ps ds a b = ((milesOf ps ds a b).1, 0) by rw [← h1]) (show milesOf ps ds b c = ((milesOf ps ds b c).1, 0) by rw [← h2])
    refine aw_skip ?_
    simp only [go_sem, ↓reduceIte, Nat.reduceEqDiff, reduceCtorEq, Nat.reduceAdd, Nat.reduceLT, Nat.reduceLeDiff, Nat.reduceBNe, Nat.reduceBEq, Int.reduceToNat]
    refine aw_seq (aw_region (EF := EF0) hG (by rw [hN]; exact tr6_3) ?_)
    simp only [a6_3, go_sem, ↓reduceIte, Nat.reduceEqDiff, reduceCtorEq, Nat.reduceAdd, Nat.reduceLT, Nat.reduceLeDiff, Nat.reduceBNe, Nat.reduceBEq, Int.reduceToNat, fMiles_eq, hM, tL, fTrue_eq]
    (repeat' apply And.intro) <;> (try first | omega | (intros; (repeat' apply And.intro) <;> first | assumption | omega | (simp_all; done)))
    refine aw_seq (aw_region (EF := EF0) hG (by rw [hN]; exact tr6_4) ?_)
    simp only [a6_4, go_sem, ↓reduceIte, Nat.reduceEqDiff, reduceCtorEq, Nat.reduceAdd, Nat.reduceLT, Nat.reduceLeDiff, Nat.reduceBNe, Nat.reduceBEq, Int.reduceToNat, fMiles_eq, hM, hsy, tL, fTrue_eq]
    (repeat' apply And.intro) <;> (try first | omega | (intros; (repeat' apply And.intro) <;> first | assumption | omega | (simp_all; done)))
    refine aw_seq (aw_region (EF := EF0) hG (by rw [hN]; exact tr6_5) ?_)
    simp only [a6_5, go_sem, ↓reduceIte, Nat.reduceEqDiff, reduceCtorEq, Nat.reduceAdd, Nat.reduceLT, Nat.reduceLeDiff, Nat.reduceBNe, Nat.reduceBEq, Int.reduceToNat, fMiles_eq, hM, tL, fTrue_eq]
    (repeat' apply And.intro) <;> (try first | omega | (intros; (repeat' apply And.intro) <;> first | assumption | omega | (simp_all; done)))
    refine aw_seq (aw_region (EF := EF0) hG (by rw [hN]; exact tr6_6) ?_)
    simp only [a6_6, go_sem, ↓reduceIte, Nat.reduceEqDiff, reduceCtorEq, Nat.reduceAdd, Nat.reduceLT, Nat.reduceLeDiff, Nat.reduceBNe, Nat.reduceBEq, Int.reduceToNat, fMiles_eq, hM, tL, fTrue_eq]
    (repeat' apply And.intro) <;> (try first | omega | (intros; (repeat' apply And.intro) <;> first | assumption | omega | (simp_all; done)))
    have hse := milesOf_self (ps := ps) hd a
    by_cases hce : cityOf ps a = []
    · skip
      rw [if_pos hce] at hse
      refine aw_seq (aw_region (EF := EF0) hG (by rw [hN]; exact tr6_7) ?_)
      simp only [a6_7, go_sem, ↓reduceIte, Nat.reduceEqDiff, reduceCtorEq, Nat.reduceAdd, Nat.reduceLT, Nat.reduceLeDiff, Nat.reduceBNe, Nat.reduceBEq, Int.reduceToNat, fMiles_eq, hM, hse, tL, fTrue_eq]
      (repeat' apply And.intro) <;> (try first | omega | (intros; (repeat' apply And.intro) <;> first | assumption | omega | (simp_all; done)))
      refine aw_seq ?_
      refine aw_seq (aw_region (EF := EF0) hG (by rw [hN]; exact tr6_8) ?_)
      simp only [a6_8, go_sem, ↓reduceIte, Nat.reduceEqDiff, reduceCtorEq, Nat.reduceAdd, Nat.reduceLT, Nat.reduceLeDiff, Nat.reduceBNe, Nat.reduceBEq, Int.reduceToNat, fCity_eq, hl, hce, tL, fTrue_eq]
      (repeat' apply And.intro) <;> (try first | omega | (intros; (repeat' apply And.intro) <;> first | assumption | omega | (simp_all; done)))
      refine aw_condF rfl ?_
      refine aw_skip ?_
      simp only [go_sem, ↓reduceIte, Nat.reduceEqDiff, reduceCtorEq, Nat.reduceAdd, Nat.reduceLT, Nat.reduceLeDiff, Nat.reduceBNe, Nat.reduceBEq, Int.reduceToNat]
      refine aw_seq (aw_region (EF := EF0) hG (by rw [hN]; exact tr6_10) ?_)
      simp only [a6_10, go_sem, ↓reduceIte, Nat.reduceEqDiff, reduceCtorEq, Nat.reduceAdd, Nat.reduceLT, Nat.reduceLeDiff, Nat.reduceBNe, Nat.reduceBEq, Int.reduceToNat, inI, tL, fTrue_eq]
      (repeat' apply And.intro) <;> (try first | omega | (intros; (repeat' apply And.intro) <;> first | assumption | omega | (simp_all; done)))
      refine aw_ret ?_
      show Q _ _
      refine hQ _ _ (.inl rfl) ?_ ?_ ?_ <;> simp only [outφ, outV, AR.res, go_sem, ↓reduceIte, Nat.reduceEqDiff, reduceCtorEq, Nat.reduceAdd, Nat.reduceLT, Nat.reduceLeDiff, Nat.reduceBNe, Nat.reduceBEq, Int.reduceToNat, fLaw4]
      exact congrArg V.bool (tri_ok htri)
    · skip
      rw [if_neg hce] at hse
      refine aw_seq (aw_region (EF := EF0) hG (by rw [hN]; exact tr6_7) ?_)
      simp only [a6_7, go_sem, ↓reduceIte, Nat.reduceEqDiff, reduceCtorEq, Nat.reduceAdd, Nat.reduceLT, Nat.reduceLeDiff, Nat.reduceBNe, Nat.reduceBEq, Int.reduceToNat, fMiles_eq, hM, hse, tL, fTrue_eq]
      (repeat' apply And.intro) <;> (try first | omega | (intros; (repeat' apply And.intro) <;> first | assumption | omega | (simp_all; done)))
      refine aw_seq ?_
      refine aw_seq (aw_region (EF := EF0) hG (by rw [hN]; exact tr6_8) ?_)
      simp only [a6_8, go_sem, ↓reduceIte, Nat.reduceEqDiff, reduceCtorEq, Nat.reduceAdd, Nat.reduceLT, Nat.reduceLeDiff, Nat.reduceBNe, Nat.reduceBEq, Int.reduceToNat, fCity_eq, hl, hce, tL, fTrue_eq]
      (repeat' apply And.intro) <;> (try first | omega | (intros; (repeat' apply And.intro) <;> first | assumption | omega | (simp_all; done)))
      refine aw_condF rfl ?_
      refine aw_skip ?_
      simp only [go_sem, ↓reduceIte, Nat.reduceEqDiff, reduceCtorEq, Nat.reduceAdd, Nat.reduceLT, Nat.reduceLeDiff, Nat.reduceBNe, Nat.reduceBEq, Int.reduceToNat]
      refine aw_seq (aw_region (EF := EF0) hG (by rw [hN]; exact tr6_10) ?_)
      simp only [a6_10, go_sem, ↓reduceIte, Nat.reduceEqDiff, reduceCtorEq, Nat.reduceAdd, Nat.reduceLT, Nat.reduceLeDiff, Nat.reduceBNe, Nat.reduceBEq, Int.reduceToNat, inI, tL, fTrue_eq]
      (repeat' apply And.intro) <;> (try first | omega | (intros; (repeat' apply And.intro) <;> first | assumption | omega | (simp_all; done)))
      refine aw_ret ?_
      show Q _ _
      refine hQ _ _ (.inl rfl) ?_ ?_ ?_ <;> simp only [outφ, outV, AR.res, go_sem, ↓reduceIte, Nat.reduceEqDiff, reduceCtorEq, Nat.reduceAdd, Nat.reduceLT, Nat.reduceLeDiff, Nat.reduceBNe, Nat.reduceBEq, Int.reduceToNat, fLaw4]
      exact congrArg V.bool (tri_ok htri)
def fLaw5 (x : Places × List (List UInt8)) : Prop × V := (x.1.ok ∧ x.2.length ≤ 140737488355328, .bool true)
theorem way_last {ps ds} (hd : ds.length ≤ 1000) {cs : List (List UInt8)} (h2 : 1 < cs.length) (h : (wayOf ps ds cs).2 = 0) : ∃ m, milesOf ps ds (cs[0]'(by omega)) (cs[cs.length - 1]'(by omega)) = (m, 0) ∧ m ≤ (wayOf ps ds cs).1 := by
  match cs, h2 with
  | x :: y :: r, _ =>
    obtain ⟨m, h3, h4⟩ := way_ge hd r x y 0 (wayOf ps ds (x :: y :: r)).1 (show wayOf ps ds (x :: y :: r) = _ by rw [← h])
    rw [List.getLast_eq_getElem] at h3
    exact ⟨m, h3, by omega⟩
set_option maxHeartbeats 4000000 in
theorem law5_p : PureC Tryd.prog UT 7 (gOf aWay fLaw5) := by
  have hG := tL_ok
  refine PureC.ofArgs aWay_inj Tryd.func7 body7 nm7 res7 ?_
  rintro ⟨⟨ps, ds⟩, cs⟩ hv
  refine ⟨by rw [nt7]; simp [aWay], fun C hN Q hQ => ?_⟩
  rw [nt7] at hN
  unfold c7
  obtain ⟨hv, hcl⟩ : (⟨ps, ds⟩ : Places).ok ∧ cs.length ≤ 140737488355328 := hv
  refine aw_seq (aw_region (EF := EF0) hG (by rw [hN]; exact tr7_0) ?_)
  simp only [a7_0, go_sem, ↓reduceIte, Nat.reduceEqDiff, reduceCtorEq, Nat.reduceAdd, Nat.reduceLT, Nat.reduceLeDiff, Nat.reduceBNe, Nat.reduceBEq, Int.reduceToNat, aWay, Places.enc, tL, fTrue_eq]
  refine aw_seq ?_
  refine aw_seq (aw_region (EF := EF0) hG (by rw [hN]; exact tr7_1) ?_)
  simp only [a7_1, go_sem, ↓reduceIte, Nat.reduceEqDiff, reduceCtorEq, Nat.reduceAdd, Nat.reduceLT, Nat.reduceLeDiff, Nat.reduceBNe, Nat.reduceBEq, Int.reduceToNat, fSmall_eq, hv, tL, fTrue_eq]
  (repeat' apply And.intro) <;> (try first | omega | (intros; (repeat' apply And.intro) <;> first | assumption | omega | (simp_all; done)))
  refine aw_cond (b := _) rfl (fun hb => ?_) (fun hb => ?_)
  · skip
    refine aw_seq (aw_region (EF := EF0) hG (by rw [hN]; exact tr7_2) ?_)
    simp only [a7_2, go_sem, ↓reduceIte, Nat.reduceEqDiff, reduceCtorEq, Nat.reduceAdd, Nat.reduceLT, Nat.reduceLeDiff, Nat.reduceBNe, Nat.reduceBEq, Int.reduceToNat, tL, fTrue_eq]
    (repeat' apply And.intro) <;> (try first | omega | (intros; (repeat' apply And.intro) <;> first | assumption | omega | (simp_all; done)))
    refine aw_ret ?_
    show Q _ _
    refine hQ _ _ (.inl rfl) ?_ ?_ ?_ <;> simp only [outφ, outV, AR.res, go_sem, ↓reduceIte, Nat.reduceEqDiff, reduceCtorEq, Nat.reduceAdd, Nat.reduceLT, Nat.reduceLeDiff, Nat.reduceBNe, Nat.reduceBEq, Int.reduceToNat, fLaw5]
  · skip
    obtain ⟨hb1, hb2⟩ := Bool.or_eq_false_iff.1 hb
    obtain ⟨hs, hM, hd, hl⟩ := small_sm (show smallB ⟨ps, ds⟩ = true by simpa using hb1) hv
    have hc3 : cs.length ≤ 1000 := by simp only [decide_eq_false_iff_not] at hb2; omega
    refine aw_skip ?_
    simp only [go_sem, ↓reduceIte, Nat.reduceEqDiff, reduceCtorEq, Nat.reduceAdd, Nat.reduceLT, Nat.reduceLeDiff, Nat.reduceBNe, Nat.reduceBEq, Int.reduceToNat]
    refine aw_seq (aw_region (EF := EF0) hG (by rw [hN]; exact tr7_3) ?_)
    simp only [a7_3, go_sem, ↓reduceIte, Nat.reduceEqDiff, reduceCtorEq, Nat.reduceAdd, Nat.reduceLT, Nat.reduceLeDiff, Nat.reduceBNe, Nat.reduceBEq, Int.reduceToNat, fWay_eq, hM, hc3, tL, fTrue_eq]
    (repeat' apply And.intro) <;> (try first | omega | (intros; (repeat' apply And.intro) <;> first | assumption | omega | (simp_all; done)))
    refine aw_seq (aw_region (EF := EF0) hG (by rw [hN]; exact tr7_4) ?_)
    simp only [a7_4, go_sem, ↓reduceIte, Nat.reduceEqDiff, reduceCtorEq, Nat.reduceAdd, Nat.reduceLT, Nat.reduceLeDiff, Nat.reduceBNe, Nat.reduceBEq, Int.reduceToNat, fWay_eq, hM, hc3, tL, fTrue_eq]
    (repeat' apply And.intro) <;> (try first | omega | (intros; (repeat' apply And.intro) <;> first | assumption | omega | (simp_all; done)))
    refine aw_seq ?_
    refine aw_seq (aw_region (EF := EF0) hG (by rw [hN]; exact tr7_5) ?_)
    simp only [a7_5, go_sem, ↓reduceIte, Nat.reduceEqDiff, reduceCtorEq, Nat.reduceAdd, Nat.reduceLT, Nat.reduceLeDiff, Nat.reduceBNe, Nat.reduceBEq, Int.reduceToNat, tL, fTrue_eq]
    (repeat' apply And.intro) <;> (try first | omega | (intros; (repeat' apply And.intro) <;> first | assumption | omega | (simp_all; done)))
    refine aw_condF rfl ?_
    refine aw_skip ?_
    simp only [go_sem, ↓reduceIte, Nat.reduceEqDiff, reduceCtorEq, Nat.reduceAdd, Nat.reduceLT, Nat.reduceLeDiff, Nat.reduceBNe, Nat.reduceBEq, Int.reduceToNat]
    refine aw_seq ?_
    refine aw_seq (aw_region (EF := EF0) hG (by rw [hN]; exact tr7_7) ?_)
    simp only [a7_7, go_sem, ↓reduceIte, Nat.reduceEqDiff, reduceCtorEq, Nat.reduceAdd, Nat.reduceLT, Nat.reduceLeDiff, Nat.reduceBNe, Nat.reduceBEq, Int.reduceToNat, tL, fTrue_eq]
    (repeat' apply And.intro) <;> (try first | omega | (intros; (repeat' apply And.intro) <;> first | assumption | omega | (simp_all; done)))
    refine aw_cond (b := _) rfl (fun hb7 => ?_) (fun hb7 => ?_)
    · skip
      refine aw_seq (aw_region (EF := EF0) hG (by rw [hN]; exact tr7_8) ?_)
      simp only [a7_8, go_sem, ↓reduceIte, Nat.reduceEqDiff, reduceCtorEq, Nat.reduceAdd, Nat.reduceLT, Nat.reduceLeDiff, Nat.reduceBNe, Nat.reduceBEq, Int.reduceToNat, tL, fTrue_eq]
      (repeat' apply And.intro) <;> (try first | omega | (intros; (repeat' apply And.intro) <;> first | assumption | omega | (simp_all; done)))
      refine aw_ret ?_
      show Q _ _
      refine hQ _ _ (.inl rfl) ?_ ?_ ?_ <;> simp only [outφ, outV, AR.res, go_sem, ↓reduceIte, Nat.reduceEqDiff, reduceCtorEq, Nat.reduceAdd, Nat.reduceLT, Nat.reduceLeDiff, Nat.reduceBNe, Nat.reduceBEq, Int.reduceToNat, fLaw5]
    · skip
      refine aw_skip ?_
      simp only [go_sem, ↓reduceIte, Nat.reduceEqDiff, reduceCtorEq, Nat.reduceAdd, Nat.reduceLT, Nat.reduceLeDiff, Nat.reduceBNe, Nat.reduceBEq, Int.reduceToNat]
      obtain ⟨hb8, hb9⟩ := Bool.or_eq_false_iff.1 hb7
      have hlen : 1 < cs.length := by simp only [decide_eq_false_iff_not] at hb9; omega
      have h0 : 0 < cs.length := by omega
      have h1 : cs.length - 1 < cs.length := by omega
      have e9 : ((cs.length : Int) - 1).toNat = cs.length - 1 := by omega
      obtain ⟨m, hm1, hm2⟩ := way_last hd hlen (show (wayOf ps ds cs).2 = 0 by simpa using hb8)
      refine aw_seq (aw_regionD (EF := EF0) hG mixed (by rw [hN]; exact tr7_9) ok7_9 ?_)
      simp only [a7_9, d7_9, go_sem, ↓reduceIte, Nat.reduceEqDiff, reduceCtorEq, Nat.reduceAdd, Nat.reduceLT, Nat.reduceLeDiff, Nat.reduceBNe, Nat.reduceBEq, Int.reduceToNat, inI, e9, strs_getD _ _ _ h0, strs_getD _ _ _ h1, h0, h1, fMiles_eq, hM, hm1, tL, fTrue_eq]
      (repeat' apply And.intro) <;> (try first | omega | (intros; (repeat' apply And.intro) <;> first | assumption | omega | (simp_all; done)))
      refine aw_seq (aw_region (EF := EF0) hG (by rw [hN]; exact tr7_10) ?_)
      simp only [a7_10, go_sem, ↓reduceIte, Nat.reduceEqDiff, reduceCtorEq, Nat.reduceAdd, Nat.reduceLT, Nat.reduceLeDiff, Nat.reduceBNe, Nat.reduceBEq, Int.reduceToNat, hm2, tL, fTrue_eq]
      (repeat' apply And.intro) <;> (try first | omega | (intros; (repeat' apply And.intro) <;> first | assumption | omega | (simp_all; done)))
      refine aw_ret ?_
      show Q _ _
      refine hQ _ _ (.inl rfl) ?_ ?_ ?_ <;> simp only [outφ, outV, AR.res, go_sem, ↓reduceIte, Nat.reduceEqDiff, reduceCtorEq, Nat.reduceAdd, Nat.reduceLT, Nat.reduceLeDiff, Nat.reduceBNe, Nat.reduceBEq, Int.reduceToNat, fLaw5]
end Go.Proofs.YtcongikpaonliaaDoor
