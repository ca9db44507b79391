/- Allowed, Add. -/
import Derived.Test.YtnlgkeiilenojaaDoorSv3
namespace Go.Proofs.YtnlgkeiilenojaaDoor
open Go Go.RowKit
set_option linter.unusedSimpArgs false
set_option linter.unusedVariables false
set_option linter.deprecated false
def argBad (b : Booking) (x : Service) : Bool := decide (x.person < 0) || decide ((b.persons.length : Int) ≤ x.person) || decide (x.seg < 0) || decide ((b.segs.length : Int) ≤ x.seg)
theorem argBad_no {b : Booking} {x : Service} (h : argBad b x = false) : 0 ≤ x.person ∧ x.person.toNat < b.persons.length ∧ 0 ≤ x.seg ∧ x.seg.toNat < b.segs.length := by
  simp only [argBad, Bool.or_eq_false_iff, decide_eq_false_iff_not] at h
  omega
def partyBad (o : Offer) (b : Booking) (x : Service) : Bool := decide (0 < (o.types.length : Int)) && !inB o.types (b.persons.getD x.person.toNat Person.zero).type
def segBad (b : Booking) (x : Service) : Bool := !seat (b.segs.getD x.seg.toNat Booked.zero).status
def allowed (l : List Offer) (b : Booking) (x : Service) (used : Int) : Int :=
  match find l x.code with
  | none => 7
  | some o => if argBad b x then 2 else if partyBad o b x then 25 else if segBad b x then 10 else if svIn b.services x then 6 else if decide (o.most ≤ used) then 9 else 0
theorem al0 {l b x used} (h : find l x.code = none) : allowed l b x used = 7 := by rw [allowed, h]
theorem al1 {l b x used o} (h : find l x.code = some o) : allowed l b x used = if argBad b x then 2 else if partyBad o b x then 25 else if segBad b x then 10 else if svIn b.services x then 6 else if decide (o.most ≤ used) then 9 else 0 := by rw [allowed, h]
theorem find_mem {l : List Offer} {c : List UInt8} {o : Offer} (h : find l c = some o) : o ∈ l ∧ o.code = c := ⟨List.mem_of_find?_eq_some h, by simpa using List.find?_some h⟩
theorem findI_of {l : List Offer} {c : List UInt8} {o : Offer} (h : find l c = some o) : ∃ (k : Nat) (hk : k < l.length), findI l c = some k ∧ l[k] = o := by
  cases e : findI l c with
  | none => rw [findI_none e] at h; cases h
  | some k =>
    obtain ⟨h1, h2, h3⟩ := findI_lt e
    rw [h3] at h
    injection h with h
    exact ⟨k, h1, rfl, h⟩
theorem svEq_comm (x y : Service) : svEq x y = svEq y x := by simp only [svEq, eq_comm]
theorem svEq_sym {c : List UInt8} {p s : Int} {y : Service} (h : svEq y ⟨c, p, s⟩ = true) : svEq ⟨c, p, s⟩ y = true := by rw [svEq_comm]; exact h
theorem svEq_symF {c : List UInt8} {p s : Int} {y : Service} (h : svEq y ⟨c, p, s⟩ = false) : svEq ⟨c, p, s⟩ y = false := by rw [svEq_comm]; exact h
def aAll (x : List Offer × Booking × Service × Int) : List V := [.list (x.1.map Offer.enc) false, .agg x.2.1.enc, .agg x.2.2.1.enc, .int .i64 x.2.2.2]
theorem aAll_inj (a b : List Offer × Booking × Service × Int) (h : aAll a = aAll b) : a = b := by
  obtain ⟨a_l, a_b, a_x, a_used⟩ := a
  obtain ⟨b_l, b_b, b_x, b_used⟩ := b
  simp only [aAll, List.cons.injEq, V.str.injEq, V.int.injEq, V.bool.injEq, V.agg.injEq, V.list.injEq, and_true, true_and] at h
  obtain ⟨h0, h1, h2, h3⟩ := h
  replace h0 := map_inj' Offer.inj h0
  subst h0
  replace h1 := Booking.inj _ _ h1
  subst h1
  replace h2 := Service.inj _ _ h2
  subst h2
  subst h3
  rfl
def OkA (l : List Offer) (b : Booking) : Prop := Lens l ∧ b.ok
def fAll (x : List Offer × Booking × Service × Int) : Prop × V := (OkA x.1 x.2.1, .int .i64 (allowed x.1 x.2.1 x.2.2.1 x.2.2.2))
theorem fFindEq2 (l : List Offer) (c) (h : l.length ≤ 140737488355328) : gOf aFind fFind [.list (l.map Offer.enc) false, .str c] = (True, .tup [.agg ((find l c).getD Offer.zero).enc, .bool (find l c).isSome]) := by rw [fFind_eq]; exact Prod.ext (propext ⟨fun _ => trivial, fun _ => h⟩) rfl
noncomputable def tAll : Tab
  | 26 => (gOf aFind fFind)
  | 27 => (gOf aIn fIn)
  | 33 => (gOf aInt fSeat)
  | 34 => (gOf aSvIn fSvIn)
  | _ => gNo
theorem tAll_ok : ∀ f, PureC Tryd.prog UT f (tAll f) := fun f => by
  unfold tAll
  split
  · exact find_p
  · exact cont_p
  · exact seat_p
  · exact svcont_p
  · exact PureC.no
set_option maxHeartbeats 2000000 in
theorem allowed_p : PureC Tryd.prog UT 18 (gOf aAll fAll) := by
  have hG := tAll_ok
  refine PureC.ofArgs aAll_inj Tryd.func18 body18 nm18 res18 ?_
  rintro ⟨l, ⟨lo, ps, gr, sg, sv, lm⟩, ⟨xc, xp, xs⟩, used⟩ hv
  refine ⟨by rw [nt18]; simp [aAll], fun C hN Q hQ => ?_⟩
  rw [nt18] at hN
  unfold c18
  obtain ⟨⟨hl, ho⟩, hbl, ⟨hpl, hpo⟩, -, ⟨hsl, hso⟩, ⟨hvl, -⟩, -⟩ : OkA l ⟨lo, ps, gr, sg, sv, lm⟩ := hv
  dsimp only at hbl hpl hpo hsl hso hvl
  refine aw_seq (aw_region (EF := EF0) hG (by rw [hN]; exact tr18_0) ?_)
  simp only [a18_0, go_sem, ↓reduceIte, Nat.reduceEqDiff, reduceCtorEq, Nat.reduceAdd, Nat.reduceLT, Nat.reduceLeDiff, Nat.reduceBNe, Nat.reduceBEq, Int.reduceToNat, aAll, Booking.enc, Service.enc]
  refine aw_seq (aw_region (EF := EF0) hG (by rw [hN]; exact tr18_1) ?_)
  simp only [a18_1, go_sem, ↓reduceIte, Nat.reduceEqDiff, reduceCtorEq, Nat.reduceAdd, Nat.reduceLT, Nat.reduceLeDiff, Nat.reduceBNe, Nat.reduceBEq, Int.reduceToNat, tAll, fFindEq2 l xc hl, Offer.enc]
  (repeat' apply And.intro) <;> (try first | omega | (intros; (repeat' apply And.intro) <;> first | assumption | omega | (simp_all; done)))
  refine aw_seq ?_
  refine aw_block ?_
  refine aw_seq (aw_region (EF := EF0) hG (by rw [hN]; exact tr18_2) ?_)
  simp only [a18_2, go_sem, ↓reduceIte, Nat.reduceEqDiff, reduceCtorEq, Nat.reduceAdd, Nat.reduceLT, Nat.reduceLeDiff, Nat.reduceBNe, Nat.reduceBEq, Int.reduceToNat]
  refine aw_cond (b := _) rfl (fun hb2 => ?_) (fun hb2 => ?_)
  · skip
    have hs : find l (⟨xc, xp, xs⟩ : Service).code = none := by simpa using hb2
    refine aw_seq (aw_region (EF := EF0) hG (by rw [hN]; exact tr18_3) ?_)
    simp only [a18_3, go_sem, ↓reduceIte, Nat.reduceEqDiff, reduceCtorEq, Nat.reduceAdd, Nat.reduceLT, Nat.reduceLeDiff, Nat.reduceBNe, Nat.reduceBEq, Int.reduceToNat]
    refine aw_ret ?_
    show Q _ _
    refine hQ _ _ (.inl rfl) ?_ ?_ ?_ <;> simp only [outφ, outV, AR.res, go_sem, ↓reduceIte, Nat.reduceEqDiff, reduceCtorEq, Nat.reduceAdd, Nat.reduceLT, Nat.reduceLeDiff, Nat.reduceBNe, Nat.reduceBEq, Int.reduceToNat, fAll]
    rw [al0 hs]
  · skip
    obtain ⟨o, hs⟩ := Option.isSome_iff_exists.1 (show (find l (⟨xc, xp, xs⟩ : Service).code).isSome = true by simpa using hb2)
    obtain ⟨hocl, -, hot, -⟩ := ho o (find_mem hs).1
    refine aw_seq (aw_region (EF := EF0) hG (by rw [hN]; exact tr18_4) ?_)
    simp only [a18_4, go_sem, ↓reduceIte, Nat.reduceEqDiff, reduceCtorEq, Nat.reduceAdd, Nat.reduceLT, Nat.reduceLeDiff, Nat.reduceBNe, Nat.reduceBEq, Int.reduceToNat]
    (repeat' apply And.intro) <;> (try first | omega | (intros; (repeat' apply And.intro) <;> first | assumption | omega | (simp_all; done)))
    refine aw_cond (b := _) rfl (fun hb4 => ?_) (fun hb4 => ?_)
    · skip
      have e4 : argBad (⟨lo, ps, gr, sg, sv, lm⟩ : Booking) (⟨xc, xp, xs⟩ : Service) = true := hb4
      refine aw_seq (aw_region (EF := EF0) hG (by rw [hN]; exact tr18_5) ?_)
      simp only [a18_5, go_sem, ↓reduceIte, Nat.reduceEqDiff, reduceCtorEq, Nat.reduceAdd, Nat.reduceLT, Nat.reduceLeDiff, Nat.reduceBNe, Nat.reduceBEq, Int.reduceToNat]
      refine aw_ret ?_
      show Q _ _
      refine hQ _ _ (.inl rfl) ?_ ?_ ?_ <;> simp only [outφ, outV, AR.res, go_sem, ↓reduceIte, Nat.reduceEqDiff, reduceCtorEq, Nat.reduceAdd, Nat.reduceLT, Nat.reduceLeDiff, Nat.reduceBNe, Nat.reduceBEq, Int.reduceToNat, fAll]
      rw [al1 hs, e4]; rfl
    · skip
      have e4 : argBad (⟨lo, ps, gr, sg, sv, lm⟩ : Booking) (⟨xc, xp, xs⟩ : Service) = false := hb4
      obtain ⟨hp0, hpn, hs0, hsn⟩ := argBad_no e4
      dsimp only at hp0 hpn hs0 hsn hs
      refine aw_seq (aw_regionD (EF := EF0) hG mixed (by rw [hN]; exact tr18_6) ok18_6 ?_)
      simp only [a18_6, d18_6, go_sem, ↓reduceIte, Nat.reduceEqDiff, reduceCtorEq, Nat.reduceAdd, Nat.reduceLT, Nat.reduceLeDiff, Nat.reduceBNe, Nat.reduceBEq, Int.reduceToNat, tAll, hs, Option.getD_some, fIn_eq, getD_mapd _ _ _ _ hpn, hpn, hp0, Person.enc]
      (repeat' apply And.intro) <;> (try first | omega | (intros; (repeat' apply And.intro) <;> first | assumption | omega | (simp_all; done)))
      refine aw_cond (b := _) rfl (fun hb6 => ?_) (fun hb6 => ?_)
      · skip
        have e6 : partyBad o (⟨lo, ps, gr, sg, sv, lm⟩ : Booking) (⟨xc, xp, xs⟩ : Service) = true := by unfold partyBad; dsimp only; rw [getD_lt _ _ _ hpn]; exact hb6
        refine aw_seq (aw_region (EF := EF0) hG (by rw [hN]; exact tr18_7) ?_)
        simp only [a18_7, go_sem, ↓reduceIte, Nat.reduceEqDiff, reduceCtorEq, Nat.reduceAdd, Nat.reduceLT, Nat.reduceLeDiff, Nat.reduceBNe, Nat.reduceBEq, Int.reduceToNat]
        refine aw_ret ?_
        show Q _ _
        refine hQ _ _ (.inl rfl) ?_ ?_ ?_ <;> simp only [outφ, outV, AR.res, go_sem, ↓reduceIte, Nat.reduceEqDiff, reduceCtorEq, Nat.reduceAdd, Nat.reduceLT, Nat.reduceLeDiff, Nat.reduceBNe, Nat.reduceBEq, Int.reduceToNat, fAll]
        rw [al1 hs, e4, e6]; rfl
      · skip
        have e6 : partyBad o (⟨lo, ps, gr, sg, sv, lm⟩ : Booking) (⟨xc, xp, xs⟩ : Service) = false := by unfold partyBad; dsimp only; rw [getD_lt _ _ _ hpn]; exact hb6
        refine aw_seq (aw_region (EF := EF0) hG (by rw [hN]; exact tr18_8) ?_)
        simp only [a18_8, go_sem, ↓reduceIte, Nat.reduceEqDiff, reduceCtorEq, Nat.reduceAdd, Nat.reduceLT, Nat.reduceLeDiff, Nat.reduceBNe, Nat.reduceBEq, Int.reduceToNat, tAll, fSeat_eq, getD_mapd _ _ _ _ hsn, hsn, hs0, Booked.enc]
        (repeat' apply And.intro) <;> (try first | omega | (intros; (repeat' apply And.intro) <;> first | assumption | omega | (simp_all; done)))
        refine aw_cond (b := _) rfl (fun hb8 => ?_) (fun hb8 => ?_)
        · skip
          have e8 : segBad (⟨lo, ps, gr, sg, sv, lm⟩ : Booking) (⟨xc, xp, xs⟩ : Service) = true := by unfold segBad; dsimp only; rw [getD_lt _ _ _ hsn]; exact hb8
          refine aw_seq (aw_region (EF := EF0) hG (by rw [hN]; exact tr18_9) ?_)
          simp only [a18_9, go_sem, ↓reduceIte, Nat.reduceEqDiff, reduceCtorEq, Nat.reduceAdd, Nat.reduceLT, Nat.reduceLeDiff, Nat.reduceBNe, Nat.reduceBEq, Int.reduceToNat]
          refine aw_ret ?_
          show Q _ _
          refine hQ _ _ (.inl rfl) ?_ ?_ ?_ <;> simp only [outφ, outV, AR.res, go_sem, ↓reduceIte, Nat.reduceEqDiff, reduceCtorEq, Nat.reduceAdd, Nat.reduceLT, Nat.reduceLeDiff, Nat.reduceBNe, Nat.reduceBEq, Int.reduceToNat, fAll]
          rw [al1 hs, e4, e6, e8]; rfl
        · skip
          have e8 : segBad (⟨lo, ps, gr, sg, sv, lm⟩ : Booking) (⟨xc, xp, xs⟩ : Service) = false := by unfold segBad; dsimp only; rw [getD_lt _ _ _ hsn]; exact hb8
          refine aw_seq (aw_region (EF := EF0) hG (by rw [hN]; exact tr18_10) ?_)
          simp only [a18_10, go_sem, ↓reduceIte, Nat.reduceEqDiff, reduceCtorEq, Nat.reduceAdd, Nat.reduceLT, Nat.reduceLeDiff, Nat.reduceBNe, Nat.reduceBEq, Int.reduceToNat, tAll, fSvIn_eq, hvl]
          (repeat' apply And.intro) <;> (try first | omega | (intros; (repeat' apply And.intro) <;> first | assumption | omega | (simp_all; done)))
          refine aw_cond (b := _) rfl (fun hb10 => ?_) (fun hb10 => ?_)
          · skip
            refine aw_seq (aw_region (EF := EF0) hG (by rw [hN]; exact tr18_11) ?_)
            simp only [a18_11, go_sem, ↓reduceIte, Nat.reduceEqDiff, reduceCtorEq, Nat.reduceAdd, Nat.reduceLT, Nat.reduceLeDiff, Nat.reduceBNe, Nat.reduceBEq, Int.reduceToNat]
            refine aw_ret ?_
            show Q _ _
            refine hQ _ _ (.inl rfl) ?_ ?_ ?_ <;> simp only [outφ, outV, AR.res, go_sem, ↓reduceIte, Nat.reduceEqDiff, reduceCtorEq, Nat.reduceAdd, Nat.reduceLT, Nat.reduceLeDiff, Nat.reduceBNe, Nat.reduceBEq, Int.reduceToNat, fAll]
            rw [al1 hs, e4, e6, e8, show svIn (⟨lo, ps, gr, sg, sv, lm⟩ : Booking).services (⟨xc, xp, xs⟩ : Service) = true from hb10]; rfl
          · skip
            refine aw_seq (aw_region (EF := EF0) hG (by rw [hN]; exact tr18_12) ?_)
            simp only [a18_12, go_sem, ↓reduceIte, Nat.reduceEqDiff, reduceCtorEq, Nat.reduceAdd, Nat.reduceLT, Nat.reduceLeDiff, Nat.reduceBNe, Nat.reduceBEq, Int.reduceToNat, hs, Option.getD_some]
            refine aw_cond (b := _) rfl (fun hb12 => ?_) (fun hb12 => ?_)
            · skip
              refine aw_seq (aw_region (EF := EF0) hG (by rw [hN]; exact tr18_13) ?_)
              simp only [a18_13, go_sem, ↓reduceIte, Nat.reduceEqDiff, reduceCtorEq, Nat.reduceAdd, Nat.reduceLT, Nat.reduceLeDiff, Nat.reduceBNe, Nat.reduceBEq, Int.reduceToNat]
              refine aw_ret ?_
              show Q _ _
              refine hQ _ _ (.inl rfl) ?_ ?_ ?_ <;> simp only [outφ, outV, AR.res, go_sem, ↓reduceIte, Nat.reduceEqDiff, reduceCtorEq, Nat.reduceAdd, Nat.reduceLT, Nat.reduceLeDiff, Nat.reduceBNe, Nat.reduceBEq, Int.reduceToNat, fAll]
              rw [al1 hs, e4, e6, e8, show svIn (⟨lo, ps, gr, sg, sv, lm⟩ : Booking).services (⟨xc, xp, xs⟩ : Service) = false from hb10, show decide (o.most ≤ used) = true from hb12]; rfl
            · skip
              refine aw_skip ?_
              simp only [go_sem, ↓reduceIte, Nat.reduceEqDiff, reduceCtorEq, Nat.reduceAdd, Nat.reduceLT, Nat.reduceLeDiff, Nat.reduceBNe, Nat.reduceBEq, Int.reduceToNat]
              refine aw_seq (aw_region (EF := EF0) hG (by rw [hN]; exact tr18_14) ?_)
              simp only [a18_14, go_sem, ↓reduceIte, Nat.reduceEqDiff, reduceCtorEq, Nat.reduceAdd, Nat.reduceLT, Nat.reduceLeDiff, Nat.reduceBNe, Nat.reduceBEq, Int.reduceToNat]
              refine aw_ret ?_
              show Q _ _
              refine hQ _ _ (.inl rfl) ?_ ?_ ?_ <;> simp only [outφ, outV, AR.res, go_sem, ↓reduceIte, Nat.reduceEqDiff, reduceCtorEq, Nat.reduceAdd, Nat.reduceLT, Nat.reduceLeDiff, Nat.reduceBNe, Nat.reduceBEq, Int.reduceToNat, fAll]
              rw [al1 hs, e4, e6, e8, show svIn (⟨lo, ps, gr, sg, sv, lm⟩ : Booking).services (⟨xc, xp, xs⟩ : Service) = false from hb10, show decide (o.most ≤ used) = false from hb12]; rfl
noncomputable def trAll : Tab
  | 30 => (gOf aFind fFindI)
  | 31 => (gOf aIn fIn)
  | 35 => (gOf aInt fSeat)
  | _ => gNo
theorem trAll_ok : ∀ f, PureC Tryd.prog UT f (trAll f) := fun f => by
  unfold trAll
  split
  · exact rfind_p
  · exact rin_p
  · exact rseat_p
  · exact PureC.no
set_option maxHeartbeats 2000000 in
theorem rallowed_p : PureC Tryd.prog UT 19 (gOf aAll fAll) := by
  have hG := trAll_ok
  refine PureC.ofArgs aAll_inj Tryd.func19 body19 nm19 res19 ?_
  rintro ⟨l, ⟨lo, ps, gr, sg, sv, lm⟩, ⟨xc, xp, xs⟩, used⟩ hv
  refine ⟨by rw [nt19]; simp [aAll], fun C hN Q hQ => ?_⟩
  rw [nt19] at hN
  unfold c19
  obtain ⟨⟨hl, ho⟩, hbl, ⟨hpl, hpo⟩, -, ⟨hsl, hso⟩, ⟨hvl, -⟩, -⟩ : OkA l ⟨lo, ps, gr, sg, sv, lm⟩ := hv
  dsimp only at hbl hpl hpo hsl hso hvl
  refine aw_seq (aw_region (EF := EF0) hG (by rw [hN]; exact tr19_0) ?_)
  simp only [a19_0, go_sem, ↓reduceIte, Nat.reduceEqDiff, reduceCtorEq, Nat.reduceAdd, Nat.reduceLT, Nat.reduceLeDiff, Nat.reduceBNe, Nat.reduceBEq, Int.reduceToNat, aAll, Booking.enc, Service.enc]
  refine aw_seq (aw_region (EF := EF0) hG (by rw [hN]; exact tr19_1) ?_)
  simp only [a19_1, go_sem, ↓reduceIte, Nat.reduceEqDiff, reduceCtorEq, Nat.reduceAdd, Nat.reduceLT, Nat.reduceLeDiff, Nat.reduceBNe, Nat.reduceBEq, Int.reduceToNat, trAll, fFindI_eq, idxV, hl]
  (repeat' apply And.intro) <;> (try first | omega | (intros; (repeat' apply And.intro) <;> first | assumption | omega | (simp_all; done)))
  refine aw_seq ?_
  refine aw_seq (aw_region (EF := EF0) hG (by rw [hN]; exact tr19_2) ?_)
  simp only [a19_2, go_sem, ↓reduceIte, Nat.reduceEqDiff, reduceCtorEq, Nat.reduceAdd, Nat.reduceLT, Nat.reduceLeDiff, Nat.reduceBNe, Nat.reduceBEq, Int.reduceToNat, findI_neg]
  refine aw_cond (b := _) rfl (fun hb2 => ?_) (fun hb2 => ?_)
  · skip
    have hs : find l (⟨xc, xp, xs⟩ : Service).code = none := by simpa using hb2
    refine aw_seq (aw_region (EF := EF0) hG (by rw [hN]; exact tr19_3) ?_)
    simp only [a19_3, go_sem, ↓reduceIte, Nat.reduceEqDiff, reduceCtorEq, Nat.reduceAdd, Nat.reduceLT, Nat.reduceLeDiff, Nat.reduceBNe, Nat.reduceBEq, Int.reduceToNat]
    refine aw_ret ?_
    show Q _ _
    refine hQ _ _ (.inl rfl) ?_ ?_ ?_ <;> simp only [outφ, outV, AR.res, go_sem, ↓reduceIte, Nat.reduceEqDiff, reduceCtorEq, Nat.reduceAdd, Nat.reduceLT, Nat.reduceLeDiff, Nat.reduceBNe, Nat.reduceBEq, Int.reduceToNat, fAll]
    rw [al0 hs]
  · skip
    obtain ⟨o, hs⟩ := Option.isSome_iff_exists.1 (show (find l (⟨xc, xp, xs⟩ : Service).code).isSome = true by simpa using hb2)
    obtain ⟨hocl, -, hot, -⟩ := ho o (find_mem hs).1
    obtain ⟨k, hk, hfk, hko⟩ := findI_of hs
    refine aw_skip ?_
    simp only [go_sem, ↓reduceIte, Nat.reduceEqDiff, reduceCtorEq, Nat.reduceAdd, Nat.reduceLT, Nat.reduceLeDiff, Nat.reduceBNe, Nat.reduceBEq, Int.reduceToNat]
    refine aw_seq ?_
    refine aw_seq (aw_region (EF := EF0) hG (by rw [hN]; exact tr19_4) ?_)
    simp only [a19_4, go_sem, ↓reduceIte, Nat.reduceEqDiff, reduceCtorEq, Nat.reduceAdd, Nat.reduceLT, Nat.reduceLeDiff, Nat.reduceBNe, Nat.reduceBEq, Int.reduceToNat]
    (repeat' apply And.intro) <;> (try first | omega | (intros; (repeat' apply And.intro) <;> first | assumption | omega | (simp_all; done)))
    refine aw_cond (b := _) rfl (fun hb4 => ?_) (fun hb4 => ?_)
    · skip
      have e4 : argBad (⟨lo, ps, gr, sg, sv, lm⟩ : Booking) (⟨xc, xp, xs⟩ : Service) = true := hb4
      refine aw_seq (aw_region (EF := EF0) hG (by rw [hN]; exact tr19_5) ?_)
      simp only [a19_5, go_sem, ↓reduceIte, Nat.reduceEqDiff, reduceCtorEq, Nat.reduceAdd, Nat.reduceLT, Nat.reduceLeDiff, Nat.reduceBNe, Nat.reduceBEq, Int.reduceToNat]
      refine aw_ret ?_
      show Q _ _
      refine hQ _ _ (.inl rfl) ?_ ?_ ?_ <;> simp only [outφ, outV, AR.res, go_sem, ↓reduceIte, Nat.reduceEqDiff, reduceCtorEq, Nat.reduceAdd, Nat.reduceLT, Nat.reduceLeDiff, Nat.reduceBNe, Nat.reduceBEq, Int.reduceToNat, fAll]
      rw [al1 hs, e4]; rfl
    · skip
      have e4 : argBad (⟨lo, ps, gr, sg, sv, lm⟩ : Booking) (⟨xc, xp, xs⟩ : Service) = false := hb4
      obtain ⟨hp0, hpn, hs0, hsn⟩ := argBad_no e4
      dsimp only at hp0 hpn hs0 hsn hs hfk
      refine aw_skip ?_
      simp only [go_sem, ↓reduceIte, Nat.reduceEqDiff, reduceCtorEq, Nat.reduceAdd, Nat.reduceLT, Nat.reduceLeDiff, Nat.reduceBNe, Nat.reduceBEq, Int.reduceToNat]
      refine aw_seq ?_
      refine aw_seq (aw_regionD (EF := EF0) hG mixed (by rw [hN]; exact tr19_6) ok19_6 ?_)
      simp only [a19_6, d19_6, go_sem, ↓reduceIte, Nat.reduceEqDiff, reduceCtorEq, Nat.reduceAdd, Nat.reduceLT, Nat.reduceLeDiff, Nat.reduceBNe, Nat.reduceBEq, Int.reduceToNat, trAll, hfk, idxI, fIn_eq, getD_mapd _ _ _ _ hk, hk, hko, Offer.enc, getD_mapd _ _ _ _ hpn, hpn, hp0, Person.enc]
      (repeat' apply And.intro) <;> (try first | omega | (intros; (repeat' apply And.intro) <;> first | assumption | omega | (simp_all; done)))
      refine aw_cond (b := _) rfl (fun hb6 => ?_) (fun hb6 => ?_)
      · skip
        have e6 : partyBad o (⟨lo, ps, gr, sg, sv, lm⟩ : Booking) (⟨xc, xp, xs⟩ : Service) = true := by unfold partyBad; dsimp only; rw [getD_lt _ _ _ hpn]; exact hb6
        refine aw_seq (aw_region (EF := EF0) hG (by rw [hN]; exact tr19_7) ?_)
        simp only [a19_7, go_sem, ↓reduceIte, Nat.reduceEqDiff, reduceCtorEq, Nat.reduceAdd, Nat.reduceLT, Nat.reduceLeDiff, Nat.reduceBNe, Nat.reduceBEq, Int.reduceToNat]
        refine aw_ret ?_
        show Q _ _
        refine hQ _ _ (.inl rfl) ?_ ?_ ?_ <;> simp only [outφ, outV, AR.res, go_sem, ↓reduceIte, Nat.reduceEqDiff, reduceCtorEq, Nat.reduceAdd, Nat.reduceLT, Nat.reduceLeDiff, Nat.reduceBNe, Nat.reduceBEq, Int.reduceToNat, fAll]
        rw [al1 hs, e4, e6]; rfl
      · skip
        have e6 : partyBad o (⟨lo, ps, gr, sg, sv, lm⟩ : Booking) (⟨xc, xp, xs⟩ : Service) = false := by unfold partyBad; dsimp only; rw [getD_lt _ _ _ hpn]; exact hb6
        refine aw_skip ?_
        simp only [go_sem, ↓reduceIte, Nat.reduceEqDiff, reduceCtorEq, Nat.reduceAdd, Nat.reduceLT, Nat.reduceLeDiff, Nat.reduceBNe, Nat.reduceBEq, Int.reduceToNat]
        refine aw_seq ?_
        refine aw_seq (aw_region (EF := EF0) hG (by rw [hN]; exact tr19_8) ?_)
        simp only [a19_8, go_sem, ↓reduceIte, Nat.reduceEqDiff, reduceCtorEq, Nat.reduceAdd, Nat.reduceLT, Nat.reduceLeDiff, Nat.reduceBNe, Nat.reduceBEq, Int.reduceToNat, trAll, fSeat_eq, getD_mapd _ _ _ _ hsn, hsn, hs0, Booked.enc]
        (repeat' apply And.intro) <;> (try first | omega | (intros; (repeat' apply And.intro) <;> first | assumption | omega | (simp_all; done)))
        refine aw_cond (b := _) rfl (fun hb8 => ?_) (fun hb8 => ?_)
        · skip
          have e8 : segBad (⟨lo, ps, gr, sg, sv, lm⟩ : Booking) (⟨xc, xp, xs⟩ : Service) = true := by unfold segBad; dsimp only; rw [getD_lt _ _ _ hsn]; exact hb8
          refine aw_seq (aw_region (EF := EF0) hG (by rw [hN]; exact tr19_9) ?_)
          simp only [a19_9, go_sem, ↓reduceIte, Nat.reduceEqDiff, reduceCtorEq, Nat.reduceAdd, Nat.reduceLT, Nat.reduceLeDiff, Nat.reduceBNe, Nat.reduceBEq, Int.reduceToNat]
          refine aw_ret ?_
          show Q _ _
          refine hQ _ _ (.inl rfl) ?_ ?_ ?_ <;> simp only [outφ, outV, AR.res, go_sem, ↓reduceIte, Nat.reduceEqDiff, reduceCtorEq, Nat.reduceAdd, Nat.reduceLT, Nat.reduceLeDiff, Nat.reduceBNe, Nat.reduceBEq, Int.reduceToNat, fAll]
          rw [al1 hs, e4, e6, e8]; rfl
        · skip
          have e8 : segBad (⟨lo, ps, gr, sg, sv, lm⟩ : Booking) (⟨xc, xp, xs⟩ : Service) = false := by unfold segBad; dsimp only; rw [getD_lt _ _ _ hsn]; exact hb8
          refine aw_skip ?_
          simp only [go_sem, ↓reduceIte, Nat.reduceEqDiff, reduceCtorEq, Nat.reduceAdd, Nat.reduceLT, Nat.reduceLeDiff, Nat.reduceBNe, Nat.reduceBEq, Int.reduceToNat]
          refine aw_seq ?_
          refine aw_seq (aw_region (EF := EF0) hG (by rw [hN]; exact tr19_10) ?_)
          simp only [a19_10, go_sem, ↓reduceIte, Nat.reduceEqDiff, reduceCtorEq, Nat.reduceAdd, Nat.reduceLT, Nat.reduceLeDiff, Nat.reduceBNe, Nat.reduceBEq, Int.reduceToNat]
          refine aw_block ?_
          refine aw_loop (α := Nat) (fun i => (i ≤ sv.length) ∧ (∀ y ∈ sv.take i, svEq (⟨xc, xp, xs⟩ : Service) y = false)) (fun i => ⟨mkE [(0, V.list (List.map Offer.enc l) false), (3, V.int IntKind.i64 used), (5, V.ptr 5 0), (6, V.ptr 6 0), (9, V.int IntKind.i64 ↑k), (10, .int .i64 i)], mkH [(5, Ob.box 35 [V.str lo, V.list (List.map Person.enc ps) false, V.int IntKind.i64 gr, V.list (List.map Booked.enc sg) false, V.list (List.map Service.enc sv) false, V.int IntKind.i64 lm]), (6, Ob.box 37 [V.str xc, V.int IntKind.i64 xp, V.int IntKind.i64 xs])]⟩) (fun i => sv.length - i) 0 (by simp) ?_ ?_
          · refine Le.mk _ _ ?_ ?_ rfl <;> simp only [go_sem, ↓reduceIte, Nat.reduceEqDiff, reduceCtorEq, Nat.reduceAdd, Nat.reduceLT, Nat.reduceLeDiff, Nat.reduceBNe, Nat.reduceBEq, Int.reduceToNat] <;> (repeat' apply And.intro) <;> (try first | rfl | exact wk_frzb rfl rfl rfl | exact wk_fn rfl | exact .nilo _ _ _ rfl rfl)
          · rintro i ⟨hi, hq⟩ KL0 hKL0
            try dsimp only at *
            refine aw_seq ?_
            refine aw_seq (aw_region (EF := EF0) hG (by rw [hN]; exact tr19_11) ?_)
            simp only [a19_11, go_sem, ↓reduceIte, Nat.reduceEqDiff, reduceCtorEq, Nat.reduceAdd, Nat.reduceLT, Nat.reduceLeDiff, Nat.reduceBNe, Nat.reduceBEq, Int.reduceToNat]
            refine aw_cond (b := _) rfl (fun hc11 => ?_) (fun hc11 => ?_)
            · simp only [decide_eq_true_eq, decide_eq_false_iff_not, Bool.and_eq_true, Bool.or_eq_true, Bool.not_eq_true', Bool.not_eq_false', Bool.and_eq_false_iff, Bool.or_eq_false_iff, Int.ofNat_lt, Int.ofNat_le, Nat.not_lt, Nat.not_le, Int.not_lt, Int.not_le] at hc11
              refine aw_skip ?_
              simp only [go_sem, ↓reduceIte, Nat.reduceEqDiff, reduceCtorEq, Nat.reduceAdd, Nat.reduceLT, Nat.reduceLeDiff, Nat.reduceBNe, Nat.reduceBEq, Int.reduceToNat]
              refine aw_seq ?_
              refine aw_block ?_
              refine aw_seq (aw_regionD (EF := EF0) hG mixed (by rw [hN]; exact tr19_13) ok19_13 ?_)
              simp only [a19_13, d19_13, go_sem, ↓reduceIte, Nat.reduceEqDiff, reduceCtorEq, Nat.reduceAdd, Nat.reduceLT, Nat.reduceLeDiff, Nat.reduceBNe, Nat.reduceBEq, Int.reduceToNat, getD_mapd _ _ _ _ hc11, hc11, Service.enc]
              (repeat' apply And.intro) <;> (try first | omega | (intros; (repeat' apply And.intro) <;> first | assumption | omega | (simp_all; done)))
              refine aw_cond (b := _) rfl (fun hb13 => ?_) (fun hb13 => ?_)
              · skip
                have e10 : svIn (⟨lo, ps, gr, sg, sv, lm⟩ : Booking).services (⟨xc, xp, xs⟩ : Service) = true := any_at (p := svEq (⟨xc, xp, xs⟩ : Service)) hc11 (svEq_sym hb13)
                refine aw_seq (aw_region (EF := EF0) hG (by rw [hN]; exact tr19_14) ?_)
                simp only [a19_14, go_sem, ↓reduceIte, Nat.reduceEqDiff, reduceCtorEq, Nat.reduceAdd, Nat.reduceLT, Nat.reduceLeDiff, Nat.reduceBNe, Nat.reduceBEq, Int.reduceToNat]
                refine aw_ret ?_
                show Q _ _
                refine hQ _ _ (.inl rfl) ?_ ?_ ?_ <;> simp only [outφ, outV, AR.res, go_sem, ↓reduceIte, Nat.reduceEqDiff, reduceCtorEq, Nat.reduceAdd, Nat.reduceLT, Nat.reduceLeDiff, Nat.reduceBNe, Nat.reduceBEq, Int.reduceToNat, fAll]
                rw [al1 hs, e4, e6, e8, e10]; rfl
              · skip
                refine aw_skip ?_
                simp only [go_sem, ↓reduceIte, Nat.reduceEqDiff, reduceCtorEq, Nat.reduceAdd, Nat.reduceLT, Nat.reduceLeDiff, Nat.reduceBNe, Nat.reduceBEq, Int.reduceToNat]
                refine aw_region (EF := EF0) hG (by rw [hN]; exact tr19_12) ?_
                simp only [a19_12, go_sem, ↓reduceIte, Nat.reduceEqDiff, reduceCtorEq, Nat.reduceAdd, Nat.reduceLT, Nat.reduceLeDiff, Nat.reduceBNe, Nat.reduceBEq, Int.reduceToNat, inI]
                (repeat' apply And.intro) <;> (try first | omega | (intros; (repeat' apply And.intro) <;> first | assumption | omega | (simp_all; done)))
                refine hKL0 (i + 1) _ ?_ ?_ ?_
                · (try dsimp only); exact ⟨hc11, take_all hc11 hq (svEq_symF hb13)⟩
                · (try dsimp only); omega
                · refine Le.mk _ _ ?_ ?_ rfl <;> simp only [go_sem, ↓reduceIte, Nat.reduceEqDiff, reduceCtorEq, Nat.reduceAdd, Nat.reduceLT, Nat.reduceLeDiff, Nat.reduceBNe, Nat.reduceBEq, Int.reduceToNat] <;> (repeat' apply And.intro) <;> (try first | rfl | exact wk_frzb rfl rfl rfl | exact wk_fn rfl | exact .nilo _ _ _ rfl rfl)
            · simp only [decide_eq_true_eq, decide_eq_false_iff_not, Bool.and_eq_true, Bool.or_eq_true, Bool.not_eq_true', Bool.not_eq_false', Bool.and_eq_false_iff, Bool.or_eq_false_iff, Int.ofNat_lt, Int.ofNat_le, Nat.not_lt, Nat.not_le, Int.not_lt, Int.not_le] at hc11
              refine aw_exit ?_
              simp only [go_sem, ↓reduceIte, Nat.reduceEqDiff, reduceCtorEq, Nat.reduceAdd, Nat.reduceLT, Nat.reduceLeDiff, Nat.reduceBNe, Nat.reduceBEq, Int.reduceToNat]
              refine aw_seq ?_
              have e10 : svIn (⟨lo, ps, gr, sg, sv, lm⟩ : Booking).services (⟨xc, xp, xs⟩ : Service) = false := any_no (p := svEq (⟨xc, xp, xs⟩ : Service)) hc11 hq
              refine aw_seq (aw_region (EF := EF0) hG (by rw [hN]; exact tr19_15) ?_)
              simp only [a19_15, go_sem, ↓reduceIte, Nat.reduceEqDiff, reduceCtorEq, Nat.reduceAdd, Nat.reduceLT, Nat.reduceLeDiff, Nat.reduceBNe, Nat.reduceBEq, Int.reduceToNat, hfk, idxI, getD_mapd _ _ _ _ hk, hk, hko, Offer.enc]
              (repeat' apply And.intro) <;> (try first | omega | (intros; (repeat' apply And.intro) <;> first | assumption | omega | (simp_all; done)))
              refine aw_cond (b := _) rfl (fun hb15 => ?_) (fun hb15 => ?_)
              · skip
                refine aw_seq (aw_region (EF := EF0) hG (by rw [hN]; exact tr19_16) ?_)
                simp only [a19_16, go_sem, ↓reduceIte, Nat.reduceEqDiff, reduceCtorEq, Nat.reduceAdd, Nat.reduceLT, Nat.reduceLeDiff, Nat.reduceBNe, Nat.reduceBEq, Int.reduceToNat]
                refine aw_ret ?_
                show Q _ _
                refine hQ _ _ (.inl rfl) ?_ ?_ ?_ <;> simp only [outφ, outV, AR.res, go_sem, ↓reduceIte, Nat.reduceEqDiff, reduceCtorEq, Nat.reduceAdd, Nat.reduceLT, Nat.reduceLeDiff, Nat.reduceBNe, Nat.reduceBEq, Int.reduceToNat, fAll]
                rw [al1 hs, e4, e6, e8, e10, show decide (o.most ≤ used) = true from hb15]; rfl
              · skip
                refine aw_skip ?_
                simp only [go_sem, ↓reduceIte, Nat.reduceEqDiff, reduceCtorEq, Nat.reduceAdd, Nat.reduceLT, Nat.reduceLeDiff, Nat.reduceBNe, Nat.reduceBEq, Int.reduceToNat]
                refine aw_seq (aw_region (EF := EF0) hG (by rw [hN]; exact tr19_17) ?_)
                simp only [a19_17, go_sem, ↓reduceIte, Nat.reduceEqDiff, reduceCtorEq, Nat.reduceAdd, Nat.reduceLT, Nat.reduceLeDiff, Nat.reduceBNe, Nat.reduceBEq, Int.reduceToNat]
                refine aw_ret ?_
                show Q _ _
                refine hQ _ _ (.inl rfl) ?_ ?_ ?_ <;> simp only [outφ, outV, AR.res, go_sem, ↓reduceIte, Nat.reduceEqDiff, reduceCtorEq, Nat.reduceAdd, Nat.reduceLT, Nat.reduceLeDiff, Nat.reduceBNe, Nat.reduceBEq, Int.reduceToNat, fAll]
                rw [al1 hs, e4, e6, e8, e10, show decide (o.most ≤ used) = false from hb15]; rfl
end Go.Proofs.YtnlgkeiilenojaaDoor
