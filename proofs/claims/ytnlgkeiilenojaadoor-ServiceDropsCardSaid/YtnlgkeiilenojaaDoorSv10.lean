/- The laws Drops and Back. -/
import Derived.Test.YtnlgkeiilenojaaDoorSv9
namespace Go.Proofs.YtnlgkeiilenojaaDoor
open Go Go.RowKit
set_option linter.unusedSimpArgs false
set_option linter.unusedVariables false
set_option linter.deprecated false
theorem fDrop_eq (lo ps gr sg sv lm) (i : Int) : gOf aDr fDrop [.agg [.str lo, .list (List.map Person.enc ps) false, .int .i64 gr, .list (List.map Booked.enc sg) false, .list (List.map Service.enc sv) false, .int .i64 lm], .int .i64 i] = ((⟨lo, ps, gr, sg, sv, lm⟩ : Booking).ok ∧ sv.length ≤ 1000000, bkV (dropB ⟨lo, ps, gr, sg, sv, lm⟩ i)) := gOf_eq aDr_inj (⟨lo, ps, gr, sg, sv, lm⟩, i)
theorem zeroB_ok : Booking.zero.ok := by simp [Booking.zero, Booking.ok, inI]
theorem eraseIdx_mem {α : Type} {l : List α} {i : Nat} {x : α} (h : x ∈ l.eraseIdx i) : x ∈ l := List.mem_of_mem_eraseIdx h
theorem drop_ok {b : Booking} {i : Int} (h : b.ok) : (dropB b i).1.ok := by
  unfold dropB
  split
  · exact zeroB_ok
  · obtain ⟨h1, h2, h3, h4, h5, h6⟩ := h
    refine ⟨h1, h2, h3, h4, ⟨?_, fun z hz => h5.2 z (List.mem_of_mem_eraseIdx hz)⟩, h6⟩
    have := List.length_eraseIdx_le b.services i.toNat
    have := h5.1
    dsimp only; omega
noncomputable def tL2 : Tab
  | 8 => (gOf aOff fMany)
  | 9 => (gOf aUnit fTrue)
  | 12 => (gOf aOff fOffers)
  | 14 => (gOf aBk fBig)
  | 15 => (gOf aAll fAdd)
  | 17 => (gOf aTwoB fSameB)
  | 18 => (gOf aAll fAll)
  | 20 => (gOf aUsed fUsed)
  | 22 => (gOf aDr fDrop)
  | 23 => (gOf aDr fDrop)
  | _ => gNo
theorem tL2_ok : ∀ f, PureC Tryd.prog UT f (tL2 f) := fun f => by
  unfold tL2
  split
  · exact many_p
  · exact awake_p
  · exact offers_p
  · exact big_p
  · exact add_p
  · exact sameB_p
  · exact allowed_p
  · exact used_p
  · exact drop_p
  · exact rdrop_p
  · exact PureC.no
def fLaw4 (x : Booking × Int) : Prop × V := (x.1.ok, .bool true)
set_option maxHeartbeats 4000000 in
theorem law4_p : PureC Tryd.prog UT 6 (gOf aDr fLaw4) := by
  have hG := tL2_ok
  refine PureC.ofArgs aDr_inj Tryd.func6 body6 nm6 res6 ?_
  rintro ⟨⟨lo, ps, gr, sg, sv, lm⟩, i⟩ hv
  refine ⟨by rw [nt6]; simp [aDr], fun C hN Q hQ => ?_⟩
  rw [nt6] at hN
  unfold c6
  replace hv : (⟨lo, ps, gr, sg, sv, lm⟩ : Booking).ok := hv
  refine aw_seq (aw_region (EF := EF0) hG (by rw [hN]; exact tr6_0) ?_)
  simp only [a6_0, go_sem, ↓reduceIte, Nat.reduceEqDiff, reduceCtorEq, Nat.reduceAdd, Nat.reduceLT, Nat.reduceLeDiff, Nat.reduceBNe, Nat.reduceBEq, Int.reduceToNat, aDr, Booking.enc, tL2, fTrue_eq]
  refine aw_seq ?_
  refine aw_seq (aw_region (EF := EF0) hG (by rw [hN]; exact tr6_1) ?_)
  simp only [a6_1, go_sem, ↓reduceIte, Nat.reduceEqDiff, reduceCtorEq, Nat.reduceAdd, Nat.reduceLT, Nat.reduceLeDiff, Nat.reduceBNe, Nat.reduceBEq, Int.reduceToNat, fBig_eq, hv, tL2, fTrue_eq]
  (repeat' apply And.intro) <;> (try first | omega | (intros; (repeat' apply And.intro) <;> first | assumption | omega | (simp_all; done)))
  refine aw_cond (b := _) rfl (fun hb => ?_) (fun hb => ?_)
  · skip
    refine aw_seq (aw_region (EF := EF0) hG (by rw [hN]; exact tr6_2) ?_)
    simp only [a6_2, go_sem, ↓reduceIte, Nat.reduceEqDiff, reduceCtorEq, Nat.reduceAdd, Nat.reduceLT, Nat.reduceLeDiff, Nat.reduceBNe, Nat.reduceBEq, Int.reduceToNat, tL2, fTrue_eq]
    (repeat' apply And.intro) <;> (try first | omega | (intros; (repeat' apply And.intro) <;> first | assumption | omega | (simp_all; done)))
    refine aw_ret ?_
    show Q _ _
    refine hQ _ _ (.inl rfl) ?_ ?_ ?_ <;> simp only [outφ, outV, AR.res, go_sem, ↓reduceIte, Nat.reduceEqDiff, reduceCtorEq, Nat.reduceAdd, Nat.reduceLT, Nat.reduceLeDiff, Nat.reduceBNe, Nat.reduceBEq, Int.reduceToNat, fLaw4]
  · skip
    have hsv : sv.length ≤ 1000000 := by have := (big_no hb).2.2.1; dsimp only at this; omega
    have hy := drop_ok (i := i) hv
    have e1 := fDrop_eq lo ps gr sg sv lm i
    generalize dropB ⟨lo, ps, gr, sg, sv, lm⟩ i = y at hy e1
    obtain ⟨⟨y1, y2, y3, y4, y5, y6⟩, ye⟩ := y
    simp only [bkV, Booking.enc] at e1
    dsimp only at hy
    refine aw_skip ?_
    simp only [go_sem, ↓reduceIte, Nat.reduceEqDiff, reduceCtorEq, Nat.reduceAdd, Nat.reduceLT, Nat.reduceLeDiff, Nat.reduceBNe, Nat.reduceBEq, Int.reduceToNat]
    refine aw_seq (aw_region (EF := EF0) hG (by rw [hN]; exact tr6_3) ?_)
    simp only [a6_3, go_sem, ↓reduceIte, Nat.reduceEqDiff, reduceCtorEq, Nat.reduceAdd, Nat.reduceLT, Nat.reduceLeDiff, Nat.reduceBNe, Nat.reduceBEq, Int.reduceToNat, e1, hv, hsv, tL2, fTrue_eq]
    (repeat' apply And.intro) <;> (try first | omega | (intros; (repeat' apply And.intro) <;> first | assumption | omega | (simp_all; done)))
    refine aw_seq (aw_region (EF := EF0) hG (by rw [hN]; exact tr6_4) ?_)
    simp only [a6_4, go_sem, ↓reduceIte, Nat.reduceEqDiff, reduceCtorEq, Nat.reduceAdd, Nat.reduceLT, Nat.reduceLeDiff, Nat.reduceBNe, Nat.reduceBEq, Int.reduceToNat, e1, hv, hsv, tL2, fTrue_eq]
    (repeat' apply And.intro) <;> (try first | omega | (intros; (repeat' apply And.intro) <;> first | assumption | omega | (simp_all; done)))
    refine aw_seq (aw_region (EF := EF0) hG (by rw [hN]; exact tr6_5) ?_)
    simp only [a6_5, go_sem, ↓reduceIte, Nat.reduceEqDiff, reduceCtorEq, Nat.reduceAdd, Nat.reduceLT, Nat.reduceLeDiff, Nat.reduceBNe, Nat.reduceBEq, Int.reduceToNat, fSameB_eq, hy, tL2, fTrue_eq]
    (repeat' apply And.intro) <;> (try first | omega | (intros; (repeat' apply And.intro) <;> first | assumption | omega | (simp_all; done)))
    refine aw_ret ?_
    show Q _ _
    refine hQ _ _ (.inl rfl) ?_ ?_ ?_ <;> simp only [outφ, outV, AR.res, go_sem, ↓reduceIte, Nat.reduceEqDiff, reduceCtorEq, Nat.reduceAdd, Nat.reduceLT, Nat.reduceLeDiff, Nat.reduceBNe, Nat.reduceBEq, Int.reduceToNat, fLaw4]
/-! Back. -/
theorem svEq_self (x : Service) : svEq x x = true := by unfold svEq; simp
theorem svIn_snoc (l : List Service) (x : Service) : svIn (l ++ [x]) x = true := by unfold svIn; rw [List.any_append]; simp [svEq_self]
theorem allowed_in {l : List Offer} {b : Booking} {x : Service} {u : Int} (h : allowed l b x u = 0) : argBad b x = false ∧ seat (b.segs.getD x.seg.toNat Booked.zero).status = true ∧ allowed l ⟨b.locator, b.persons, b.group, b.segs, b.services ++ [x], b.limit⟩ x u = 6 := by
  cases hf : find l x.code with
  | none => rw [al0 hf] at h; cases h
  | some o =>
    rw [al1 hf] at h ⊢
    by_cases h1 : argBad b x = true
    · rw [if_pos h1] at h; cases h
    · by_cases h2 : partyBad o b x = true
      · rw [if_neg h1, if_pos h2] at h; cases h
      · by_cases h3 : segBad b x = true
        · rw [if_neg h1, if_neg h2, if_pos h3] at h; cases h
        · refine ⟨by simpa using h1, by unfold segBad at h3; simpa using h3, ?_⟩
          have e1 : argBad ⟨b.locator, b.persons, b.group, b.segs, b.services ++ [x], b.limit⟩ x = argBad b x := rfl
          have e2 : partyBad o ⟨b.locator, b.persons, b.group, b.segs, b.services ++ [x], b.limit⟩ x = partyBad o b x := rfl
          have e3 : segBad ⟨b.locator, b.persons, b.group, b.segs, b.services ++ [x], b.limit⟩ x = segBad b x := rfl
          rw [e1, e2, e3, if_neg h1, if_neg h2, if_neg h3, if_pos (svIn_snoc _ _)]
theorem segEq_self (s : Seg) : segEq s s = true := by unfold segEq; simp
theorem used_back {b : Booking} {x : Service} (ha : argBad b x = false) (hs : seat (b.segs.getD x.seg.toNat Booked.zero).status = true) : used [⟨b.locator, b.persons, b.group, b.segs, b.services ++ [x], b.limit⟩] (b.segs.getD x.seg.toNat Booked.zero).want.seg x.code = used [b] (b.segs.getD x.seg.toNat Booked.zero).want.seg x.code + 1 := by
  have h := argBad_no ha
  have hu : uses b.segs (b.segs.getD x.seg.toNat Booked.zero).want.seg x.code x = true := by
    unfold uses
    rw [segEq_self, hs, decide_eq_true (rfl : x.code = x.code), decide_eq_true h.2.2.1, decide_eq_true (show x.seg < (b.segs.length : Int) by omega)]; rfl
  unfold used used1
  simp only [List.map_cons, List.map_nil, List.sum_cons, List.sum_nil]
  rw [List.filter_append, List.length_append, List.filter_cons_of_pos hu]
  simp <;> omega
theorem drop_back {lo ps gr sg} {sv : List Service} {lm} (x : Service) : dropB ⟨lo, ps, gr, sg, sv ++ [x], lm⟩ (sv.length : Int) = (⟨lo, ps, gr, sg, sv, lm⟩, 0) := by
  rw [dropB_yes (by simp)]
  dsimp only
  rw [List.eraseIdx_append_of_length_le (Nat.le_refl _), Nat.sub_self]; simp
def fLaw5 (x : List Offer × Booking × Service × Int) : Prop × V := (OkA x.1 x.2.1 ∧ x.2.2.1.ok, .bool true)
theorem fUsed1_eq (lo ps gr sg sv lm a b c d e f g s) : gOf aUsed fUsed [.list [[.str lo, .list (List.map Person.enc ps) false, .int .i64 gr, .list (List.map Booked.enc sg) false, .list (List.map Service.enc sv) false, .int .i64 lm]] false, .agg [.str a, .int .i64 b, .int .i64 c, .str d, .str e, .int .i64 f, .int .i64 g], .str s] = (OkB [⟨lo, ps, gr, sg, sv, lm⟩], .int .i64 (used [⟨lo, ps, gr, sg, sv, lm⟩] ⟨a, b, c, d, e, f, g⟩ s)) := gOf_eq aUsed_inj ([⟨lo, ps, gr, sg, sv, lm⟩], ⟨a, b, c, d, e, f, g⟩, s)
theorem okB1 {b : Booking} (h : b.ok) (h2 : b.services.length ≤ 1000) : OkB [b] := ⟨by simp, fun z hz => by rw [List.mem_singleton] at hz; subst hz; exact ⟨h, h2⟩⟩
theorem add_yes {l : List Offer} {b : Booking} {x : Service} {u : Int} (h : allowed l b x u = 0) : add l b x u = (⟨b.locator, b.persons, b.group, b.segs, b.services ++ [x], b.limit⟩, 0) := by unfold add; rw [if_pos h]
theorem add_not {l : List Offer} {b : Booking} {x : Service} {u : Int} (h : ¬ allowed l b x u = 0) : add l b x u = (Booking.zero, allowed l b x u) := by unfold add; rw [if_neg h]
set_option maxRecDepth 20000 in
set_option maxHeartbeats 8000000 in
theorem law5_p : PureC Tryd.prog UT 7 (gOf aAll fLaw5) := by
  have hG := tL2_ok
  refine PureC.ofArgs aAll_inj Tryd.func7 body7 nm7 res7 ?_
  rintro ⟨l, ⟨lo, ps, gr, sg, sv, lm⟩, ⟨xc, xp, xs⟩, u⟩ hv
  refine ⟨by rw [nt7]; simp [aAll], fun C hN Q hQ => ?_⟩
  rw [nt7] at hN
  unfold c7
  obtain ⟨hok, hx⟩ : OkA l ⟨lo, ps, gr, sg, sv, lm⟩ ∧ (⟨xc, xp, xs⟩ : Service).ok := hv
  have hln := hok.1
  have hbk := hok.2
  refine aw_seq (aw_region (EF := EF0) hG (by rw [hN]; exact tr7_0) ?_)
  simp only [a7_0, go_sem, ↓reduceIte, Nat.reduceEqDiff, reduceCtorEq, Nat.reduceAdd, Nat.reduceLT, Nat.reduceLeDiff, Nat.reduceBNe, Nat.reduceBEq, Int.reduceToNat, aAll, Booking.enc, Service.enc, tL2, fTrue_eq]
  refine aw_seq ?_
  refine aw_seq (aw_region (EF := EF0) hG (by rw [hN]; exact tr7_1) ?_)
  simp only [a7_1, go_sem, ↓reduceIte, Nat.reduceEqDiff, reduceCtorEq, Nat.reduceAdd, Nat.reduceLT, Nat.reduceLeDiff, Nat.reduceBNe, Nat.reduceBEq, Int.reduceToNat, fMany_eq, hln, fBig_eq, hbk, tL2, fTrue_eq]
  (repeat' apply And.intro) <;> (try first | omega | (intros; (repeat' apply And.intro) <;> first | assumption | omega | (simp_all; done)))
  refine aw_cond (b := _) rfl (fun hb => ?_) (fun hb => ?_)
  · skip
    refine aw_seq (aw_region (EF := EF0) hG (by rw [hN]; exact tr7_2) ?_)
    simp only [a7_2, go_sem, ↓reduceIte, Nat.reduceEqDiff, reduceCtorEq, Nat.reduceAdd, Nat.reduceLT, Nat.reduceLeDiff, Nat.reduceBNe, Nat.reduceBEq, Int.reduceToNat, tL2, fTrue_eq]
    (repeat' apply And.intro) <;> (try first | omega | (intros; (repeat' apply And.intro) <;> first | assumption | omega | (simp_all; done)))
    refine aw_ret ?_
    show Q _ _
    refine hQ _ _ (.inl rfl) ?_ ?_ ?_ <;> simp only [outφ, outV, AR.res, go_sem, ↓reduceIte, Nat.reduceEqDiff, reduceCtorEq, Nat.reduceAdd, Nat.reduceLT, Nat.reduceLeDiff, Nat.reduceBNe, Nat.reduceBEq, Int.reduceToNat, fLaw5]
  · skip
    obtain ⟨hb1, hb2⟩ := Bool.or_eq_false_iff.1 hb
    have hs := small_of hln hb1
    have hl15 := hs.1
    have hsv3 : sv.length ≤ 30 := (big_no hb2).2.2.1
    have hsv : sv.length ≤ 1000000 := by omega
    have e1 := fAdd_eq l lo ps gr sg sv lm xc xp xs u
    refine aw_skip ?_
    simp only [go_sem, ↓reduceIte, Nat.reduceEqDiff, reduceCtorEq, Nat.reduceAdd, Nat.reduceLT, Nat.reduceLeDiff, Nat.reduceBNe, Nat.reduceBEq, Int.reduceToNat]
    have hy := add_ok (u := u) hok hx hsv
    by_cases he : allowed l ⟨lo, ps, gr, sg, sv, lm⟩ ⟨xc, xp, xs⟩ u = 0
    · skip
      rw [add_yes he] at e1 hy
      simp only [bkV, Booking.enc] at e1
      dsimp only at hy
      refine aw_seq (aw_regionD (EF := EF0) hG mixed (by rw [hN]; exact tr7_3) ok7_3 ?_)
      simp only [a7_3, d7_3, go_sem, ↓reduceIte, Nat.reduceEqDiff, reduceCtorEq, Nat.reduceAdd, Nat.reduceLT, Nat.reduceLeDiff, Nat.reduceBNe, Nat.reduceBEq, Int.reduceToNat, fOffers_eq, e1, hok, hsv, tL2, fTrue_eq]
      (repeat' apply And.intro) <;> (try first | omega | (intros; (repeat' apply And.intro) <;> first | assumption | omega | (simp_all; done)))
      refine aw_seq ?_
      refine aw_seq (aw_region (EF := EF0) hG (by rw [hN]; exact tr7_4) ?_)
      simp only [a7_4, go_sem, ↓reduceIte, Nat.reduceEqDiff, reduceCtorEq, Nat.reduceAdd, Nat.reduceLT, Nat.reduceLeDiff, Nat.reduceBNe, Nat.reduceBEq, Int.reduceToNat, he, tL2, fTrue_eq]
      refine aw_condF rfl ?_
      refine aw_skip ?_
      simp only [go_sem, ↓reduceIte, Nat.reduceEqDiff, reduceCtorEq, Nat.reduceAdd, Nat.reduceLT, Nat.reduceLeDiff, Nat.reduceBNe, Nat.reduceBEq, Int.reduceToNat]
      obtain ⟨ha, hst, h6⟩ := allowed_in he
      have han := argBad_no ha
      dsimp only at han hst h6
      obtain ⟨i, rfl⟩ : ∃ i : Nat, xs = (i : Int) := ⟨xs.toNat, by omega⟩
      simp only [Int.toNat_natCast] at han hst
      have hi : i < sg.length := han.2.2.2
      have hub := used_back ha hst
      dsimp only at hub
      simp only [Int.toNat_natCast] at hub
      rw [getD_lt _ _ _ hi] at hub hst
      generalize hbd : sg[i] = bd at hub hst
      obtain ⟨⟨⟨s1, s2, s3, s4, s5, s6, s7⟩, cl⟩, st, mr⟩ := bd
      refine aw_seq (aw_region (EF := EF0) hG (by rw [hN]; exact tr7_6) ?_)
      simp only [a7_6, go_sem, ↓reduceIte, Nat.reduceEqDiff, reduceCtorEq, Nat.reduceAdd, Nat.reduceLT, Nat.reduceLeDiff, Nat.reduceBNe, Nat.reduceBEq, Int.reduceToNat, getD_mapd _ _ _ _ hi, hi, hbd, Booked.enc, tL2, fTrue_eq]
      (repeat' apply And.intro) <;> (try first | omega | (intros; (repeat' apply And.intro) <;> first | assumption | omega | (simp_all; done)))
      have hdb := fDrop_eq lo ps gr sg (sv ++ [(⟨xc, xp, i⟩ : Service)]) lm sv.length
      rw [drop_back] at hdb
      simp only [bkV, Booking.enc] at hdb
      have hl1 : (sv ++ [(⟨xc, xp, i⟩ : Service)]).length ≤ 1000000 := by simp; omega
      have e7 : (sv.length : Int) + 1 - 1 = sv.length := by omega
      refine aw_seq (aw_region (EF := EF0) hG (by rw [hN]; exact tr7_7) ?_)
      simp only [a7_7, go_sem, ↓reduceIte, Nat.reduceEqDiff, reduceCtorEq, Nat.reduceAdd, Nat.reduceLT, Nat.reduceLeDiff, Nat.reduceBNe, Nat.reduceBEq, Int.reduceToNat, inI, hdb, hy, hl1, e7, List.length_append, List.length_cons, List.length_nil, tL2, fTrue_eq]
      (repeat' apply And.intro) <;> (try first | omega | (intros; (repeat' apply And.intro) <;> first | assumption | omega | (simp_all; done)))
      have ho1 := okB1 hy (by dsimp only; simp; omega)
      have ho2 := okB1 hbk (by dsimp only; omega)
      have hu1 := fUsed1_eq lo ps gr sg (sv ++ [(⟨xc, xp, i⟩ : Service)]) lm s1 s2 s3 s4 s5 s6 s7 xc
      rw [hub] at hu1
      have hul : used [(⟨lo, ps, gr, sg, sv, lm⟩ : Booking)] ⟨s1, s2, s3, s4, s5, s6, s7⟩ xc ≤ 30 := by unfold used used1; simp only [List.map_cons, List.map_nil, List.sum_cons, List.sum_nil]; have := List.length_filter_le (uses sg ⟨s1, s2, s3, s4, s5, s6, s7⟩ xc) sv; omega
      have hal := fAll_eq l lo ps gr sg (sv ++ [(⟨xc, xp, i⟩ : Service)]) lm xc xp i u
      rw [h6] at hal
      have hok2 : OkA l ⟨lo, ps, gr, sg, sv ++ [(⟨xc, xp, i⟩ : Service)], lm⟩ := ⟨hln, hy⟩
      refine aw_seq (aw_regionD (EF := EF0) hG mixed (by rw [hN]; exact tr7_8) ok7_8 ?_)
      simp only [a7_8, d7_8, go_sem, ↓reduceIte, Nat.reduceEqDiff, reduceCtorEq, Nat.reduceAdd, Nat.reduceLT, Nat.reduceLeDiff, Nat.reduceBNe, Nat.reduceBEq, Int.reduceToNat, inI, hu1, fUsed1_eq, ho1, ho2, fOffers_eq, hal, hok2, fSameB_eq, hbk, tL2, fTrue_eq]
      (repeat' apply And.intro) <;> (try first | omega | (intros; (repeat' apply And.intro) <;> first | assumption | omega | (simp_all; done)))
      refine aw_ret ?_
      show Q _ _
      refine hQ _ _ (.inl rfl) ?_ ?_ ?_ <;> simp only [outφ, outV, AR.res, go_sem, ↓reduceIte, Nat.reduceEqDiff, reduceCtorEq, Nat.reduceAdd, Nat.reduceLT, Nat.reduceLeDiff, Nat.reduceBNe, Nat.reduceBEq, Int.reduceToNat, fLaw5]
    · skip
      rw [add_not he] at e1
      simp only [bkV, Booking.enc, Booking.zero, List.map_nil] at e1
      refine aw_seq (aw_regionD (EF := EF0) hG mixed (by rw [hN]; exact tr7_3) ok7_3 ?_)
      simp only [a7_3, d7_3, go_sem, ↓reduceIte, Nat.reduceEqDiff, reduceCtorEq, Nat.reduceAdd, Nat.reduceLT, Nat.reduceLeDiff, Nat.reduceBNe, Nat.reduceBEq, Int.reduceToNat, fOffers_eq, e1, hok, hsv, tL2, fTrue_eq]
      (repeat' apply And.intro) <;> (try first | omega | (intros; (repeat' apply And.intro) <;> first | assumption | omega | (simp_all; done)))
      refine aw_seq ?_
      refine aw_seq (aw_region (EF := EF0) hG (by rw [hN]; exact tr7_4) ?_)
      simp only [a7_4, go_sem, ↓reduceIte, Nat.reduceEqDiff, reduceCtorEq, Nat.reduceAdd, Nat.reduceLT, Nat.reduceLeDiff, Nat.reduceBNe, Nat.reduceBEq, Int.reduceToNat, he, tL2, fTrue_eq]
      refine aw_condT rfl ?_
      refine aw_seq (aw_region (EF := EF0) hG (by rw [hN]; exact tr7_5) ?_)
      simp only [a7_5, go_sem, ↓reduceIte, Nat.reduceEqDiff, reduceCtorEq, Nat.reduceAdd, Nat.reduceLT, Nat.reduceLeDiff, Nat.reduceBNe, Nat.reduceBEq, Int.reduceToNat, tL2, fTrue_eq]
      (repeat' apply And.intro) <;> (try first | omega | (intros; (repeat' apply And.intro) <;> first | assumption | omega | (simp_all; done)))
      refine aw_ret ?_
      show Q _ _
      refine hQ _ _ (.inl rfl) ?_ ?_ ?_ <;> simp only [outφ, outV, AR.res, go_sem, ↓reduceIte, Nat.reduceEqDiff, reduceCtorEq, Nat.reduceAdd, Nat.reduceLT, Nat.reduceLeDiff, Nat.reduceBNe, Nat.reduceBEq, Int.reduceToNat, fLaw5]
end Go.Proofs.YtnlgkeiilenojaaDoor
