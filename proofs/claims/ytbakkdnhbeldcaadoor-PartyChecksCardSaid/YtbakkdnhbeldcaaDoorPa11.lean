/- The chapter's examples; the laws of parties. -/
import Derived.Test.YtbakkdnhbeldcaaDoorPa10
namespace Go.Proofs.YtbakkdnhbeldcaaDoor
open Go Go.RowKit
set_option linter.unusedSimpArgs false
set_option linter.unusedVariables false
set_option linter.deprecated false
def pA : Person := ⟨[83, 77, 73, 84, 72], [74, 79, 72, 78], [65, 68, 84]⟩
def pI : Person := ⟨[83, 77, 73, 84, 72], [84, 73, 77], [73, 78, 70]⟩
def pC : Person := ⟨[83, 77, 73, 84, 72], [77, 65, 82, 89, 32, 74, 79], [67, 72, 68]⟩
def vA : List V := [.str [83, 77, 73, 84, 72], .str [74, 79, 72, 78], .str [65, 68, 84]]
def vI : List V := [.str [83, 77, 73, 84, 72], .str [84, 73, 77], .str [73, 78, 70]]
def vC : List V := [.str [83, 77, 73, 84, 72], .str [77, 65, 82, 89, 32, 74, 79], .str [67, 72, 68]]
def sCt : List UInt8 := [83, 77, 73, 84, 72, 47, 77, 65, 82, 89, 32, 74, 79, 32, 67, 72, 68]
theorem pA_ok : pA.ok := by simp [pA, Person.ok]
theorem pI_ok : pI.ok := by simp [pI, Person.ok]
theorem pC_ok : pC.ok := by simp [pC, Person.ok]
theorem nm_at : gNrm (gOf aNam fNm) [.nils, .int .i64 2, .int .i64 0, .agg vA] = (True, .tup [.list [vA] false, .int .i64 1, .int .i64 0]) := gOf_at aNam_inj ([], 2, 0, pA) rfl ⟨by decide, pA_ok, by unfold inI; decide⟩ (by kernel_rfl)
theorem sp_at1 : gOf aSp (fSp true) [.list [vA, vI, vA] false, .list [[.int .i64 1], [.int .i64 0]] false] = (True, .tup [.list [vA, vI] true, .list [vA] true, .int .i64 0]) := gOf_at aSp_inj ([pA, pI, pA], [1, 0]) rfl ⟨by decide, by decide⟩ (by kernel_rfl)
theorem sp_at2 : gOf aSp (fSp true) [.list [vA, vI, vA] false, .list [[.int .i64 1]] false] = (True, .tup [.list [] true, .list [] true, .int .i64 25]) := gOf_at aSp_inj ([pA, pI, pA], [1]) rfl ⟨by decide, by decide⟩ (by kernel_rfl)
theorem pr_at : gOf aPer fPr [.agg vC] = (True, .tup [.str sCt, .int .i64 0]) := gOf_at aPer_inj pC rfl ⟨by decide, by decide, by decide⟩ (by kernel_rfl)
theorem pa_at1 : gOf aStr fPar [.str sCt] = (True, .tup [.agg vC, .int .i64 0]) := gOf_at aStr_inj sCt rfl (by unfold fPar; decide) (by kernel_rfl)
theorem pa_at2 : gOf aStr fPar [.str [83, 77, 73, 84, 72, 32, 65, 68, 84]] = (True, .tup [.agg [.str [], .str [], .str []], .int .i64 3]) := gOf_at aStr_inj [83, 77, 73, 84, 72, 32, 65, 68, 84] rfl (by unfold fPar; decide) (by kernel_rfl)
theorem se_at : gNrm (gOf aSea fSeats) [.list [vA, vC, vI] false, .int .i64 3] = (True, .int .i64 5) := gOf_at aSea_inj ([pA, pC, pI], 3) rfl (by unfold fSeats; decide) (by kernel_rfl)
theorem ck_at1 : gNrm (gOf aSea fChk) [.list [vA, vI, vI] false, .int .i64 0] = (True, .list [[.int .i64 25, .str sParty]] false) := gOf_at aSea_inj ([pA, pI, pI], 0) rfl ⟨by decide, fun x hx => by
    simp only [List.mem_cons, List.not_mem_nil, or_false] at hx
    rcases hx with rfl | rfl | rfl
    · exact pA_ok
    · exact pI_ok
    · exact pI_ok⟩ (by kernel_rfl)
theorem ck_at2 : gNrm (gOf aSea fChk) [.nils, .int .i64 12] = (True, .list [] false) := gOf_at aSea_inj ([], 12) rfl ⟨by decide, fun x hx => by simp at hx⟩ (by kernel_rfl)
theorem sf_at : gOf aSameF fSameF [.list [[.int .i64 25, .str sParty]] false, .list [[.int .i64 25, .str sParty]] false] = (True, .bool true) := gOf_at aSameF_inj ([⟨25, sParty⟩], [⟨25, sParty⟩]) rfl ⟨by decide, rfl⟩ rfl
noncomputable def tAw : Tab
  | 15 => (gNrm (gOf aNam fNm))
  | 18 => (gOf aSp (fSp true))
  | 20 => (gOf aPer fPr)
  | 22 => (gOf aStr fPar)
  | 13 => (gNrm (gOf aSea fSeats))
  | 10 => (gNrm (gOf aSea fChk))
  | 9 => (gOf aSameF fSameF)
  | _ => gNo
theorem tAw_ok : ∀ f, PureC Tryd.prog UT f (tAw f) := fun f => by
  unfold tAw
  split
  · exact nme_p.nrm
  · exact split2_p
  · exact print_p
  · exact parse_p
  · exact seats_p.nrm
  · exact check_p.nrm
  · exact sameF_p
  · exact PureC.no
set_option maxRecDepth 20000 in
set_option maxHeartbeats 8000000 in
theorem awake_p : PureC Tryd.prog UT 12 (gOf aUnit fTrue) := by
  have hG := tAw_ok
  have e0 := nm_at
  have e1 := sp_at1
  have e2 := sp_at2
  have e3 := pr_at
  have e4 := pa_at1
  have e5 := pa_at2
  have e6 := se_at
  have e7 := ck_at1
  have e8 := ck_at2
  have e9 := sf_at
  simp only [vA, vI, vC, sCt, sParty] at e0 e1 e2 e3 e4 e5 e6 e7 e8 e9
  refine PureC.ofArgs aUnit_inj Tryd.func12 body12 nm12 res12 ?_
  rintro ⟨⟩ hv
  refine ⟨by rw [nt12]; simp [aUnit], fun C hN Q hQ => ?_⟩
  rw [nt12] at hN
  unfold c12
  refine aw_seq (aw_region (EF := EF0) hG (by rw [hN]; exact tr12_0) ?_)
  simp only [a12_0, go_sem, ↓reduceIte, Nat.reduceEqDiff, reduceCtorEq, Nat.reduceAdd, Nat.reduceLT, Nat.reduceLeDiff, Nat.reduceBNe, Nat.reduceBEq, Int.reduceToNat, aUnit, tAw]
  refine aw_seq (aw_region (EF := EF0) hG (by rw [hN]; exact tr12_1) ?_)
  simp only [a12_1, go_sem, ↓reduceIte, Nat.reduceEqDiff, reduceCtorEq, Nat.reduceAdd, Nat.reduceLT, Nat.reduceLeDiff, Nat.reduceBNe, Nat.reduceBEq, Int.reduceToNat, tAw]
  refine aw_seq (aw_region (EF := EF0) hG (by rw [hN]; exact tr12_2) ?_)
  simp only [a12_2, go_sem, ↓reduceIte, Nat.reduceEqDiff, reduceCtorEq, Nat.reduceAdd, Nat.reduceLT, Nat.reduceLeDiff, Nat.reduceBNe, Nat.reduceBEq, Int.reduceToNat, tAw]
  refine aw_seq (aw_region (EF := EF0) hG (by rw [hN]; exact tr12_3) ?_)
  simp only [a12_3, go_sem, ↓reduceIte, Nat.reduceEqDiff, reduceCtorEq, Nat.reduceAdd, Nat.reduceLT, Nat.reduceLeDiff, Nat.reduceBNe, Nat.reduceBEq, Int.reduceToNat, e0, tAw]
  (repeat' apply And.intro) <;> (try first | omega | (intros; (repeat' apply And.intro) <;> first | assumption | omega | (simp_all; done)))
  refine aw_seq (aw_region (EF := EF0) hG (by rw [hN]; exact tr12_4) ?_)
  simp only [a12_4, go_sem, ↓reduceIte, Nat.reduceEqDiff, reduceCtorEq, Nat.reduceAdd, Nat.reduceLT, Nat.reduceLeDiff, Nat.reduceBNe, Nat.reduceBEq, Int.reduceToNat, e1, tAw]
  (repeat' apply And.intro) <;> (try first | omega | (intros; (repeat' apply And.intro) <;> first | assumption | omega | (simp_all; done)))
  refine aw_seq (aw_region (EF := EF0) hG (by rw [hN]; exact tr12_5) ?_)
  simp only [a12_5, go_sem, ↓reduceIte, Nat.reduceEqDiff, reduceCtorEq, Nat.reduceAdd, Nat.reduceLT, Nat.reduceLeDiff, Nat.reduceBNe, Nat.reduceBEq, Int.reduceToNat, e2, tAw]
  (repeat' apply And.intro) <;> (try first | omega | (intros; (repeat' apply And.intro) <;> first | assumption | omega | (simp_all; done)))
  refine aw_seq (aw_region (EF := EF0) hG (by rw [hN]; exact tr12_6) ?_)
  simp only [a12_6, go_sem, ↓reduceIte, Nat.reduceEqDiff, reduceCtorEq, Nat.reduceAdd, Nat.reduceLT, Nat.reduceLeDiff, Nat.reduceBNe, Nat.reduceBEq, Int.reduceToNat, e3, tAw]
  (repeat' apply And.intro) <;> (try first | omega | (intros; (repeat' apply And.intro) <;> first | assumption | omega | (simp_all; done)))
  refine aw_seq (aw_region (EF := EF0) hG (by rw [hN]; exact tr12_7) ?_)
  simp only [a12_7, go_sem, ↓reduceIte, Nat.reduceEqDiff, reduceCtorEq, Nat.reduceAdd, Nat.reduceLT, Nat.reduceLeDiff, Nat.reduceBNe, Nat.reduceBEq, Int.reduceToNat, e4, tAw]
  (repeat' apply And.intro) <;> (try first | omega | (intros; (repeat' apply And.intro) <;> first | assumption | omega | (simp_all; done)))
  refine aw_seq (aw_region (EF := EF0) hG (by rw [hN]; exact tr12_8) ?_)
  simp only [a12_8, go_sem, ↓reduceIte, Nat.reduceEqDiff, reduceCtorEq, Nat.reduceAdd, Nat.reduceLT, Nat.reduceLeDiff, Nat.reduceBNe, Nat.reduceBEq, Int.reduceToNat, e5, tAw]
  (repeat' apply And.intro) <;> (try first | omega | (intros; (repeat' apply And.intro) <;> first | assumption | omega | (simp_all; done)))
  refine aw_seq (aw_regionD (EF := EF0) hG mixed (by rw [hN]; exact tr12_9) ok12_9 ?_)
  simp (maxSteps := 2000000) only [a12_9, d12_9, go_sem, ↓reduceIte, Nat.reduceEqDiff, reduceCtorEq, Nat.reduceAdd, Nat.reduceLT, Nat.reduceLeDiff, Nat.reduceBNe, Nat.reduceBEq, Int.reduceToNat, e6, e7, e8, e9, tAw]
  (repeat' apply And.intro) <;> (try first | omega | (intros; (repeat' apply And.intro) <;> first | assumption | omega | (simp_all; done)))
  refine aw_ret ?_
  show Q _ _
  refine hQ _ _ (.inl rfl) ?_ ?_ ?_ <;> simp only [outφ, outV, AR.res, go_sem, ↓reduceIte, Nat.reduceEqDiff, reduceCtorEq, Nat.reduceAdd, Nat.reduceLT, Nat.reduceLeDiff, Nat.reduceBNe, Nat.reduceBEq, Int.reduceToNat, fTrue]
/-! The laws. -/
def LenPs (l : List Person) : Prop := l.length ≤ 140737488355328 ∧ ∀ x ∈ l, x.ok
theorem chkP_len (l : List Person) (g : Int) : (chkP l g).length ≤ 2 * l.length + 3 := by
  unfold chkP
  rw [List.length_append, List.length_append, List.length_append]
  have h1 := perTo_len l l.length
  have h2 := fIf_len (wrongG g) 2 sParty
  have h3 := fIf_len (sizeBad l.length (goodG g)) 4 sParty
  have h4 := fIf_len (aloneB l) 25 sParty
  omega
theorem small_okC {l : List Person} (h : smB l = true) (hl : LenPs l) : OkC l := ⟨by have := of_decide_eq_true h; omega, hl.2⟩
theorem fSameP_eq (a b : List Person) (f g : Bool) : gNrm (gOf aTwoP fSameP) [.list (a.map Person.enc) f, .list (b.map Person.enc) g] = (a.length ≤ 140737488355328 ∧ a = b, .bool true) := gOf_eq aTwoP_inj (a, b)
theorem nSeats_eq (l : List Person) (f : Bool) (g : Int) : gNrm (gOf aSea fSeats) [.list (l.map Person.enc) f, .int .i64 g] = (l.length ≤ 140737488355328, .int .i64 (seatsN l g)) := gOf_eq aSea_inj (l, g)
noncomputable def tL : Tab
  | 8 => (gOf aPers fSmall)
  | 17 => (gNrm (gOf aTwoP fSameP))
  | 12 => (gOf aUnit fTrue)
  | 9 => (gOf aSameF fSameF)
  | 10 => (gOf aSea fChk)
  | 11 => (gOf aSea fChk)
  | 13 => (gNrm (gOf aSea fSeats))
  | 14 => (gOf aSea fSeats)
  | 15 => (gOf aNam fNm)
  | 16 => (gOf aNam fNm)
  | 18 => (gOf aSp (fSp true))
  | 19 => (gOf aSp (fSp false))
  | 20 => (gOf aPer fPr)
  | 21 => (gOf aPer fPr)
  | 22 => (gOf aStr fPar)
  | 23 => (gOf aStr fPar)
  | _ => gNo
theorem tL_ok : ∀ f, PureC Tryd.prog UT f (tL f) := fun f => by
  unfold tL
  split
  · exact small_p
  · exact sameP_p.nrm
  · exact awake_p
  · exact sameF_p
  · exact check_p
  · exact rcheck_p
  · exact seats_p.nrm
  · exact rseats_p
  · exact nme_p
  · exact rnme_p
  · exact split2_p
  · exact rsplit_p
  · exact print_p
  · exact rprint_p
  · exact parse_p
  · exact rparse_p
  · exact PureC.no
def fLaw1 (x : List Person × Int) : Prop × V := (LenPs x.1, .bool true)
set_option maxHeartbeats 2000000 in
theorem law1_p : PureC Tryd.prog UT 3 (gOf aSea fLaw1) := by
  have hG := tL_ok
  refine PureC.ofArgs aSea_inj Tryd.func3 body3 nm3 res3 ?_
  rintro ⟨l, g⟩ hv
  refine ⟨by rw [nt3]; simp [aSea], fun C hN Q hQ => ?_⟩
  rw [nt3] at hN
  unfold c3
  replace hv : LenPs l := hv
  have hv1 := hv.1
  have hcl := chkP_len l g
  refine aw_seq (aw_region (EF := EF0) hG (by rw [hN]; exact tr3_0) ?_)
  simp only [a3_0, go_sem, ↓reduceIte, Nat.reduceEqDiff, reduceCtorEq, Nat.reduceAdd, Nat.reduceLT, Nat.reduceLeDiff, Nat.reduceBNe, Nat.reduceBEq, Int.reduceToNat, aSea, tL, fTrue_eq]
  by_cases hf : smB l = true
  · skip
    have hs := small_okC hf hv
    have hln : (chkP l g).length ≤ 140737488355328 := by have := hs.1; omega
    refine aw_seq (aw_region (EF := EF0) hG (by rw [hN]; exact tr3_1) ?_)
    simp only [a3_1, go_sem, ↓reduceIte, Nat.reduceEqDiff, reduceCtorEq, Nat.reduceAdd, Nat.reduceLT, Nat.reduceLeDiff, Nat.reduceBNe, Nat.reduceBEq, Int.reduceToNat, fSmall_eq, hv1, hf, fChk_eq, fSameF_eq, tL, fTrue_eq, hs, hln]
    (repeat' apply And.intro) <;> (try first | omega | (intros; (repeat' apply And.intro) <;> first | assumption | omega | (simp_all; done)))
    refine aw_ret ?_
    show Q _ _
    refine hQ _ _ (.inl rfl) ?_ ?_ ?_ <;> simp only [outφ, outV, AR.res, go_sem, ↓reduceIte, Nat.reduceEqDiff, reduceCtorEq, Nat.reduceAdd, Nat.reduceLT, Nat.reduceLeDiff, Nat.reduceBNe, Nat.reduceBEq, Int.reduceToNat, fLaw1]
  · skip
    replace hf := Bool.eq_false_iff.2 hf
    refine aw_seq (aw_region (EF := EF0) hG (by rw [hN]; exact tr3_1) ?_)
    simp only [a3_1, go_sem, ↓reduceIte, Nat.reduceEqDiff, reduceCtorEq, Nat.reduceAdd, Nat.reduceLT, Nat.reduceLeDiff, Nat.reduceBNe, Nat.reduceBEq, Int.reduceToNat, fSmall_eq, hv1, hf, fChk_eq, fSameF_eq, tL, fTrue_eq]
    (repeat' apply And.intro) <;> (try first | omega | (intros; (repeat' apply And.intro) <;> first | assumption | omega | (simp_all; done)))
    refine aw_ret ?_
    show Q _ _
    refine hQ _ _ (.inl rfl) ?_ ?_ ?_ <;> simp only [outφ, outV, AR.res, go_sem, ↓reduceIte, Nat.reduceEqDiff, reduceCtorEq, Nat.reduceAdd, Nat.reduceLT, Nat.reduceLeDiff, Nat.reduceBNe, Nat.reduceBEq, Int.reduceToNat, fLaw1]
def LawN (l : List Person) (g at' : Int) (x : Person) : Prop := LenPs l ∧ x.ok ∧ inI g ∧ inI at'
def fLaw2 (z : List Person × Int × Int × Person) : Prop × V := (LawN z.1 z.2.1 z.2.2.1 z.2.2.2, .bool true)
theorem name_len (l : List Person) (g at' : Int) (x : Person) : (nameP l g at' x).1.length ≤ l.length + 1 := by
  by_cases h : (nameP l g at' x).2.2 = 0
  · rw [(name_ok h).1]; exact put_len l at' x
  · unfold nameP at h ⊢
    repeat' split
    all_goals first | exact put_len l at' x | simp
theorem name_oks {l : List Person} {g at' : Int} {x : Person} (hl : ∀ z ∈ l, z.ok) (hx : x.ok) (h : (nameP l g at' x).2.2 = 0) : ∀ z ∈ (nameP l g at' x).1, z.ok := by
  rw [(name_ok h).1]
  intro z hz
  rcases put_mem hz with hz | rfl
  · exact hl z hz
  · exact hx
set_option maxHeartbeats 4000000 in
theorem law2_p : PureC Tryd.prog UT 4 (gOf aNam fLaw2) := by
  have hG := tL_ok
  refine PureC.ofArgs aNam_inj Tryd.func4 body4 nm4 res4 ?_
  rintro ⟨l, g, at', ⟨a, b, c⟩⟩ hv
  refine ⟨by rw [nt4]; simp [aNam], fun C hN Q hQ => ?_⟩
  rw [nt4] at hN
  unfold c4
  obtain ⟨hv, hx, hgi, _⟩ : LawN l g at' ⟨a, b, c⟩ := hv
  have hv1 := hv.1
  have hse := fun h => @seats_name l g at' ⟨a, b, c⟩ h
  have hnl := name_len l g at' ⟨a, b, c⟩
  obtain ⟨⟨m, g2, e⟩, hnp⟩ : ∃ y, nameP l g at' ⟨a, b, c⟩ = y := ⟨_, rfl⟩
  rw [hnp] at hse hnl
  dsimp only at hse hnl
  refine aw_seq (aw_region (EF := EF0) hG (by rw [hN]; exact tr4_0) ?_)
  simp only [a4_0, go_sem, ↓reduceIte, Nat.reduceEqDiff, reduceCtorEq, Nat.reduceAdd, Nat.reduceLT, Nat.reduceLeDiff, Nat.reduceBNe, Nat.reduceBEq, Int.reduceToNat, aNam, Person.enc, tL, fTrue_eq]
  refine aw_seq ?_
  refine aw_seq (aw_region (EF := EF0) hG (by rw [hN]; exact tr4_1) ?_)
  simp only [a4_1, go_sem, ↓reduceIte, Nat.reduceEqDiff, reduceCtorEq, Nat.reduceAdd, Nat.reduceLT, Nat.reduceLeDiff, Nat.reduceBNe, Nat.reduceBEq, Int.reduceToNat, fSmall_eq, hv1, tL, fTrue_eq]
  (repeat' apply And.intro) <;> (try first | omega | (intros; (repeat' apply And.intro) <;> first | assumption | omega | (simp_all; done)))
  refine aw_cond (b := _) rfl (fun hb1 => ?_) (fun hb1 => ?_)
  · skip
    refine aw_seq (aw_region (EF := EF0) hG (by rw [hN]; exact tr4_2) ?_)
    simp only [a4_2, go_sem, ↓reduceIte, Nat.reduceEqDiff, reduceCtorEq, Nat.reduceAdd, Nat.reduceLT, Nat.reduceLeDiff, Nat.reduceBNe, Nat.reduceBEq, Int.reduceToNat, tL, fTrue_eq]
    (repeat' apply And.intro) <;> (try first | omega | (intros; (repeat' apply And.intro) <;> first | assumption | omega | (simp_all; done)))
    refine aw_ret ?_
    show Q _ _
    refine hQ _ _ (.inl rfl) ?_ ?_ ?_ <;> simp only [outφ, outV, AR.res, go_sem, ↓reduceIte, Nat.reduceEqDiff, reduceCtorEq, Nat.reduceAdd, Nat.reduceLT, Nat.reduceLeDiff, Nat.reduceBNe, Nat.reduceBEq, Int.reduceToNat, fLaw2]
  · skip
    have hs : OkN l g ⟨a, b, c⟩ := ⟨by have := of_decide_eq_true (show smB l = true by simpa using hb1); omega, hx, hgi⟩
    have hml : m.length ≤ 140737488355328 := by have := hs.1; omega
    refine aw_skip ?_
    try simp only [go_sem, ↓reduceIte, Nat.reduceEqDiff, reduceCtorEq, Nat.reduceAdd, Nat.reduceLT, Nat.reduceLeDiff, Nat.reduceBNe, Nat.reduceBEq, Int.reduceToNat]
    refine aw_seq (aw_region (EF := EF0) hG (by rw [hN]; exact tr4_3) ?_)
    simp only [a4_3, go_sem, ↓reduceIte, Nat.reduceEqDiff, reduceCtorEq, Nat.reduceAdd, Nat.reduceLT, Nat.reduceLeDiff, Nat.reduceBNe, Nat.reduceBEq, Int.reduceToNat, nSeats_eq, hv1, tL, fTrue_eq]
    (repeat' apply And.intro) <;> (try first | omega | (intros; (repeat' apply And.intro) <;> first | assumption | omega | (simp_all; done)))
    refine aw_seq ?_
    refine aw_seq (aw_region (EF := EF0) hG (by rw [hN]; exact tr4_4) ?_)
    simp only [a4_4, go_sem, ↓reduceIte, Nat.reduceEqDiff, reduceCtorEq, Nat.reduceAdd, Nat.reduceLT, Nat.reduceLeDiff, Nat.reduceBNe, Nat.reduceBEq, Int.reduceToNat, fSeats_eq, hv1, tL, fTrue_eq]
    (repeat' apply And.intro) <;> (try first | omega | (intros; (repeat' apply And.intro) <;> first | assumption | omega | (simp_all; done)))
    refine aw_condF rfl ?_
    refine aw_skip ?_
    try simp only [go_sem, ↓reduceIte, Nat.reduceEqDiff, reduceCtorEq, Nat.reduceAdd, Nat.reduceLT, Nat.reduceLeDiff, Nat.reduceBNe, Nat.reduceBEq, Int.reduceToNat]
    refine aw_seq (aw_region (EF := EF0) hG (by rw [hN]; exact tr4_6) ?_)
    simp only [a4_6, go_sem, ↓reduceIte, Nat.reduceEqDiff, reduceCtorEq, Nat.reduceAdd, Nat.reduceLT, Nat.reduceLeDiff, Nat.reduceBNe, Nat.reduceBEq, Int.reduceToNat, fNm_eq, hs, hnp, nmV, tL, fTrue_eq]
    (repeat' apply And.intro) <;> (try first | omega | (intros; (repeat' apply And.intro) <;> first | assumption | omega | (simp_all; done)))
    refine aw_seq (aw_region (EF := EF0) hG (by rw [hN]; exact tr4_7) ?_)
    simp only [a4_7, go_sem, ↓reduceIte, Nat.reduceEqDiff, reduceCtorEq, Nat.reduceAdd, Nat.reduceLT, Nat.reduceLeDiff, Nat.reduceBNe, Nat.reduceBEq, Int.reduceToNat, nSeats_eq, hml, tL, fTrue_eq]
    (repeat' apply And.intro) <;> (try first | omega | (intros; (repeat' apply And.intro) <;> first | assumption | omega | (simp_all; done)))
    refine aw_ret ?_
    show Q _ _
    refine hQ _ _ (.inl rfl) ?_ ?_ ?_ <;> simp only [outφ, outV, AR.res, go_sem, ↓reduceIte, Nat.reduceEqDiff, reduceCtorEq, Nat.reduceAdd, Nat.reduceLT, Nat.reduceLeDiff, Nat.reduceBNe, Nat.reduceBEq, Int.reduceToNat, fLaw2]
    refine congrArg V.bool ?_; by_cases k0 : e = 0; (by_cases k1 : g ≤ 99; (rw [decide_eq_true (hse k0 k1), Bool.or_true]); (rw [decide_eq_true (show 99 < g by omega)]; simp)); (rw [decide_eq_false k0]; rfl)
theorem app_emp (l : List Person) : ([] : List (List V)) ++ l.map Person.enc = l.map Person.enc := rfl
def fLaw3 (z : List Person × Int × Int × Person) : Prop × V := (LawN z.1 z.2.1 z.2.2.1 z.2.2.2, .bool true)
set_option maxHeartbeats 4000000 in
theorem law3_p : PureC Tryd.prog UT 5 (gOf aNam fLaw3) := by
  have hG := tL_ok
  refine PureC.ofArgs aNam_inj Tryd.func5 body5 nm5 res5 ?_
  rintro ⟨l, g, at', ⟨a, b, c⟩⟩ hv
  refine ⟨by rw [nt5]; simp [aNam], fun C hN Q hQ => ?_⟩
  rw [nt5] at hN
  unfold c5
  obtain ⟨hv, hx, hgi, _⟩ : LawN l g at' ⟨a, b, c⟩ := hv
  have hv1 := hv.1
  have hri := fun h => @name_right l g at' ⟨a, b, c⟩ h
  have hoks := fun h => @name_oks l g at' ⟨a, b, c⟩ hv.2 hx h
  have hnl := name_len l g at' ⟨a, b, c⟩
  obtain ⟨⟨m, g2, e⟩, hnp⟩ : ∃ y, nameP l g at' ⟨a, b, c⟩ = y := ⟨_, rfl⟩
  rw [hnp] at hri hnl hoks
  dsimp only at hri hnl hoks
  refine aw_seq (aw_region (EF := EF0) hG (by rw [hN]; exact tr5_0) ?_)
  simp only [a5_0, go_sem, ↓reduceIte, Nat.reduceEqDiff, reduceCtorEq, Nat.reduceAdd, Nat.reduceLT, Nat.reduceLeDiff, Nat.reduceBNe, Nat.reduceBEq, Int.reduceToNat, aNam, Person.enc, tL, fTrue_eq]
  refine aw_seq ?_
  refine aw_seq (aw_region (EF := EF0) hG (by rw [hN]; exact tr5_1) ?_)
  simp only [a5_1, go_sem, ↓reduceIte, Nat.reduceEqDiff, reduceCtorEq, Nat.reduceAdd, Nat.reduceLT, Nat.reduceLeDiff, Nat.reduceBNe, Nat.reduceBEq, Int.reduceToNat, fSmall_eq, hv1, tL, fTrue_eq]
  (repeat' apply And.intro) <;> (try first | omega | (intros; (repeat' apply And.intro) <;> first | assumption | omega | (simp_all; done)))
  refine aw_cond (b := _) rfl (fun hb1 => ?_) (fun hb1 => ?_)
  · skip
    refine aw_seq (aw_region (EF := EF0) hG (by rw [hN]; exact tr5_2) ?_)
    simp only [a5_2, go_sem, ↓reduceIte, Nat.reduceEqDiff, reduceCtorEq, Nat.reduceAdd, Nat.reduceLT, Nat.reduceLeDiff, Nat.reduceBNe, Nat.reduceBEq, Int.reduceToNat, tL, fTrue_eq]
    (repeat' apply And.intro) <;> (try first | omega | (intros; (repeat' apply And.intro) <;> first | assumption | omega | (simp_all; done)))
    refine aw_ret ?_
    show Q _ _
    refine hQ _ _ (.inl rfl) ?_ ?_ ?_ <;> simp only [outφ, outV, AR.res, go_sem, ↓reduceIte, Nat.reduceEqDiff, reduceCtorEq, Nat.reduceAdd, Nat.reduceLT, Nat.reduceLeDiff, Nat.reduceBNe, Nat.reduceBEq, Int.reduceToNat, fLaw3]
  · skip
    have hs : OkN l g ⟨a, b, c⟩ := ⟨by have := of_decide_eq_true (show smB l = true by simpa using hb1); omega, hx, hgi⟩
    have hlc : OkC l := ⟨hs.1, hv.2⟩
    have hml : m.length ≤ 140737488355328 := by have := hs.1; omega
    have hl2 := hs.1
    have hl3 : (l.length : Int) ≤ 150 := of_decide_eq_true (show smB l = true by simpa using hb1)
    refine aw_skip ?_
    try simp only [go_sem, ↓reduceIte, Nat.reduceEqDiff, reduceCtorEq, Nat.reduceAdd, Nat.reduceLT, Nat.reduceLeDiff, Nat.reduceBNe, Nat.reduceBEq, Int.reduceToNat]
    refine aw_seq (aw_region (EF := EF0) hG (by rw [hN]; exact tr5_3) ?_)
    simp only [a5_3, go_sem, ↓reduceIte, Nat.reduceEqDiff, reduceCtorEq, Nat.reduceAdd, Nat.reduceLT, Nat.reduceLeDiff, Nat.reduceBNe, Nat.reduceBEq, Int.reduceToNat, tL, fTrue_eq]
    (repeat' apply And.intro) <;> (try first | omega | (intros; (repeat' apply And.intro) <;> first | assumption | omega | (simp_all; done)))
    refine aw_seq (aw_region (EF := EF0) hG (by rw [hN]; exact tr5_4) ?_)
    simp only [a5_4, go_sem, ↓reduceIte, Nat.reduceEqDiff, reduceCtorEq, Nat.reduceAdd, Nat.reduceLT, Nat.reduceLeDiff, Nat.reduceBNe, Nat.reduceBEq, Int.reduceToNat, fNm_eq, hs, hnp, nmV, tL, fTrue_eq]
    (repeat' apply And.intro) <;> (try first | omega | (intros; (repeat' apply And.intro) <;> first | assumption | omega | (simp_all; done)))
    refine aw_seq (aw_region (EF := EF0) hG (by rw [hN]; exact tr5_5) ?_)
    simp only [a5_5, go_sem, ↓reduceIte, Nat.reduceEqDiff, reduceCtorEq, Nat.reduceAdd, Nat.reduceLT, Nat.reduceLeDiff, Nat.reduceBNe, Nat.reduceBEq, Int.reduceToNat, fNm_eq, hs, hnp, nmV, tL, fTrue_eq]
    (repeat' apply And.intro) <;> (try first | omega | (intros; (repeat' apply And.intro) <;> first | assumption | omega | (simp_all; done)))
    refine aw_seq ?_
    refine aw_seq (aw_region (EF := EF0) hG (by rw [hN]; exact tr5_6) ?_)
    simp only [a5_6, go_sem, ↓reduceIte, Nat.reduceEqDiff, reduceCtorEq, Nat.reduceAdd, Nat.reduceLT, Nat.reduceLeDiff, Nat.reduceBNe, Nat.reduceBEq, Int.reduceToNat, fSameP_eq, hml, hv1, tL, fTrue_eq]
    (repeat' apply And.intro) <;> (try first | omega | (intros; (repeat' apply And.intro) <;> first | assumption | omega | (simp_all; done)))
    refine aw_condF rfl ?_
    refine aw_skip ?_
    try simp only [go_sem, ↓reduceIte, Nat.reduceEqDiff, reduceCtorEq, Nat.reduceAdd, Nat.reduceLT, Nat.reduceLeDiff, Nat.reduceBNe, Nat.reduceBEq, Int.reduceToNat]
    refine aw_seq ?_
    refine aw_seq (aw_region (EF := EF0) hG (by rw [hN]; exact tr5_8) ?_)
    simp only [a5_8, go_sem, ↓reduceIte, Nat.reduceEqDiff, reduceCtorEq, Nat.reduceAdd, Nat.reduceLT, Nat.reduceLeDiff, Nat.reduceBNe, Nat.reduceBEq, Int.reduceToNat, fChk_eq, hlc, tL, fTrue_eq]
    (repeat' apply And.intro) <;> (try first | omega | (intros; (repeat' apply And.intro) <;> first | assumption | omega | (simp_all; done)))
    refine aw_cond (b := _) rfl (fun hb8 => ?_) (fun hb8 => ?_)
    · skip
      refine aw_seq (aw_region (EF := EF0) hG (by rw [hN]; exact tr5_9) ?_)
      simp only [a5_9, go_sem, ↓reduceIte, Nat.reduceEqDiff, reduceCtorEq, Nat.reduceAdd, Nat.reduceLT, Nat.reduceLeDiff, Nat.reduceBNe, Nat.reduceBEq, Int.reduceToNat, tL, fTrue_eq]
      (repeat' apply And.intro) <;> (try first | omega | (intros; (repeat' apply And.intro) <;> first | assumption | omega | (simp_all; done)))
      refine aw_ret ?_
      show Q _ _
      refine hQ _ _ (.inl rfl) ?_ ?_ ?_ <;> simp only [outφ, outV, AR.res, go_sem, ↓reduceIte, Nat.reduceEqDiff, reduceCtorEq, Nat.reduceAdd, Nat.reduceLT, Nat.reduceLeDiff, Nat.reduceBNe, Nat.reduceBEq, Int.reduceToNat, fLaw3]
    · skip
      have he0 : e = 0 := by simp at hb8; exact hb8.1
      have hcn : chkP l g = [] := by simp at hb8; exact hb8.2
      have hmo : OkC m := ⟨by omega, hoks he0⟩
      have hmr := hri he0 hcn
      refine aw_skip ?_
      try simp only [go_sem, ↓reduceIte, Nat.reduceEqDiff, reduceCtorEq, Nat.reduceAdd, Nat.reduceLT, Nat.reduceLeDiff, Nat.reduceBNe, Nat.reduceBEq, Int.reduceToNat]
      refine aw_seq (aw_region (EF := EF0) hG (by rw [hN]; exact tr5_10) ?_)
      simp only [a5_10, go_sem, ↓reduceIte, Nat.reduceEqDiff, reduceCtorEq, Nat.reduceAdd, Nat.reduceLT, Nat.reduceLeDiff, Nat.reduceBNe, Nat.reduceBEq, Int.reduceToNat, fChk_eq, hmo, hmr, tL, fTrue_eq]
      (repeat' apply And.intro) <;> (try first | omega | (intros; (repeat' apply And.intro) <;> first | assumption | omega | (simp_all; done)))
      refine aw_ret ?_
      show Q _ _
      refine hQ _ _ (.inl rfl) ?_ ?_ ?_ <;> simp only [outφ, outV, AR.res, go_sem, ↓reduceIte, Nat.reduceEqDiff, reduceCtorEq, Nat.reduceAdd, Nat.reduceLT, Nat.reduceLeDiff, Nat.reduceBNe, Nat.reduceBEq, Int.reduceToNat, fLaw3]
def fLaw4 (z : List Person × List Int) : Prop × V := (LenPs z.1 ∧ z.2.length ≤ 140737488355328, .bool true)
set_option maxHeartbeats 4000000 in
theorem law4_p : PureC Tryd.prog UT 6 (gOf aSp fLaw4) := by
  have hG := tL_ok
  refine PureC.ofArgs aSp_inj Tryd.func6 body6 nm6 res6 ?_
  rintro ⟨l, at'⟩ hv
  refine ⟨by rw [nt6]; simp [aSp], fun C hN Q hQ => ?_⟩
  rw [nt6] at hN
  unfold c6
  obtain ⟨hv, ha1⟩ : LenPs l ∧ at'.length ≤ 140737488355328 := hv
  have hv1 := hv.1
  have hsu := fun h => @split_sum l at' h
  have hsl := split_len l at'
  obtain ⟨⟨m, n, e⟩, hsp⟩ : ∃ y, splitP l at' = y := ⟨_, rfl⟩
  rw [hsp] at hsu hsl
  dsimp only at hsu hsl
  obtain ⟨hs1, hs2⟩ := hsl
  refine aw_seq (aw_region (EF := EF0) hG (by rw [hN]; exact tr6_0) ?_)
  simp only [a6_0, go_sem, ↓reduceIte, Nat.reduceEqDiff, reduceCtorEq, Nat.reduceAdd, Nat.reduceLT, Nat.reduceLeDiff, Nat.reduceBNe, Nat.reduceBEq, Int.reduceToNat, aSp, tL, fTrue_eq]
  refine aw_seq ?_
  refine aw_seq (aw_region (EF := EF0) hG (by rw [hN]; exact tr6_1) ?_)
  simp only [a6_1, go_sem, ↓reduceIte, Nat.reduceEqDiff, reduceCtorEq, Nat.reduceAdd, Nat.reduceLT, Nat.reduceLeDiff, Nat.reduceBNe, Nat.reduceBEq, Int.reduceToNat, fSmall_eq, hv1, tL, fTrue_eq]
  (repeat' apply And.intro) <;> (try first | omega | (intros; (repeat' apply And.intro) <;> first | assumption | omega | (simp_all; done)))
  refine aw_cond (b := _) rfl (fun hb1 => ?_) (fun hb1 => ?_)
  · skip
    refine aw_seq (aw_region (EF := EF0) hG (by rw [hN]; exact tr6_2) ?_)
    simp only [a6_2, go_sem, ↓reduceIte, Nat.reduceEqDiff, reduceCtorEq, Nat.reduceAdd, Nat.reduceLT, Nat.reduceLeDiff, Nat.reduceBNe, Nat.reduceBEq, Int.reduceToNat, tL, fTrue_eq]
    (repeat' apply And.intro) <;> (try first | omega | (intros; (repeat' apply And.intro) <;> first | assumption | omega | (simp_all; done)))
    refine aw_ret ?_
    show Q _ _
    refine hQ _ _ (.inl rfl) ?_ ?_ ?_ <;> simp only [outφ, outV, AR.res, go_sem, ↓reduceIte, Nat.reduceEqDiff, reduceCtorEq, Nat.reduceAdd, Nat.reduceLT, Nat.reduceLeDiff, Nat.reduceBNe, Nat.reduceBEq, Int.reduceToNat, fLaw4]
  · skip
    have hok : l.length ≤ 1000 ∧ at'.length ≤ 1000 := by simp at hb1; exact ⟨by have := of_decide_eq_true (show smB l = true by simpa using hb1.1); omega, by omega⟩
    have hm1 : m.length ≤ 140737488355328 := by omega
    have hn1 : n.length ≤ 140737488355328 := by omega
    have w1 := seats_bd m m.length 0
    have w2 := seats_bd n n.length 0
    rw [List.take_length] at w1 w2
    refine aw_skip ?_
    try simp only [go_sem, ↓reduceIte, Nat.reduceEqDiff, reduceCtorEq, Nat.reduceAdd, Nat.reduceLT, Nat.reduceLeDiff, Nat.reduceBNe, Nat.reduceBEq, Int.reduceToNat]
    refine aw_seq (aw_region (EF := EF0) hG (by rw [hN]; exact tr6_3) ?_)
    simp only [a6_3, go_sem, ↓reduceIte, Nat.reduceEqDiff, reduceCtorEq, Nat.reduceAdd, Nat.reduceLT, Nat.reduceLeDiff, Nat.reduceBNe, Nat.reduceBEq, Int.reduceToNat, fSp_eq, hok, hsp, spV, tL, fTrue_eq]
    (repeat' apply And.intro) <;> (try first | omega | (intros; (repeat' apply And.intro) <;> first | assumption | omega | (simp_all; done)))
    refine aw_seq (aw_region (EF := EF0) hG (by rw [hN]; exact tr6_4) ?_)
    simp only [a6_4, go_sem, ↓reduceIte, Nat.reduceEqDiff, reduceCtorEq, Nat.reduceAdd, Nat.reduceLT, Nat.reduceLeDiff, Nat.reduceBNe, Nat.reduceBEq, Int.reduceToNat, fSp_eq, hok, hsp, spV, tL, fTrue_eq]
    (repeat' apply And.intro) <;> (try first | omega | (intros; (repeat' apply And.intro) <;> first | assumption | omega | (simp_all; done)))
    refine aw_seq ?_
    refine aw_seq (aw_region (EF := EF0) hG (by rw [hN]; exact tr6_5) ?_)
    simp only [a6_5, go_sem, ↓reduceIte, Nat.reduceEqDiff, reduceCtorEq, Nat.reduceAdd, Nat.reduceLT, Nat.reduceLeDiff, Nat.reduceBNe, Nat.reduceBEq, Int.reduceToNat, fSameP_eq, hm1, hn1, tL, fTrue_eq]
    (repeat' apply And.intro) <;> (try first | omega | (intros; (repeat' apply And.intro) <;> first | assumption | omega | (simp_all; done)))
    refine aw_condF rfl ?_
    refine aw_skip ?_
    try simp only [go_sem, ↓reduceIte, Nat.reduceEqDiff, reduceCtorEq, Nat.reduceAdd, Nat.reduceLT, Nat.reduceLeDiff, Nat.reduceBNe, Nat.reduceBEq, Int.reduceToNat]
    refine aw_seq (aw_region (EF := EF0) hG (by rw [hN]; exact tr6_7) ?_)
    simp only [a6_7, go_sem, ↓reduceIte, Nat.reduceEqDiff, reduceCtorEq, Nat.reduceAdd, Nat.reduceLT, Nat.reduceLeDiff, Nat.reduceBNe, Nat.reduceBEq, Int.reduceToNat, inI, nSeats_eq, hm1, hn1, hv1, tL, fTrue_eq]
    (repeat' apply And.intro) <;> (try first | omega | (intros; (repeat' apply And.intro) <;> first | assumption | omega | (simp_all; done)) | (intro h; exact ⟨h, by omega, by omega⟩))
    refine aw_ret ?_
    show Q _ _
    refine hQ _ _ (.inl rfl) ?_ ?_ ?_ <;> simp only [outφ, outV, AR.res, go_sem, ↓reduceIte, Nat.reduceEqDiff, reduceCtorEq, Nat.reduceAdd, Nat.reduceLT, Nat.reduceLeDiff, Nat.reduceBNe, Nat.reduceBEq, Int.reduceToNat, fLaw4]
    refine congrArg V.bool ?_; by_cases k0 : e = 0; (rw [decide_eq_true (hsu k0).2, decide_eq_true (by have := (hsu k0).1; omega : (m.length : Int) + (n.length : Int) = (l.length : Int))]; simp); (rw [decide_eq_false k0]; rfl)
def aTx (x : Person × List UInt8) : List V := [.agg x.1.enc, .str x.2]
theorem aTx_inj (a b : Person × List UInt8) (h : aTx a = aTx b) : a = b := by
  obtain ⟨a_x, a_s⟩ := a
  obtain ⟨b_x, b_s⟩ := b
  simp only [aTx, List.cons.injEq, V.str.injEq, V.int.injEq, V.bool.injEq, V.agg.injEq, V.list.injEq, and_true, true_and] at h
  obtain ⟨h0, h1⟩ := h
  replace h0 := Person.inj _ _ h0
  subst h0
  subst h1
  rfl
def LawT (x : Person) (s : List UInt8) : Prop := x.ok ∧ s.length ≤ 140737488355328
def fLaw5 (z : Person × List UInt8) : Prop × V := (LawT z.1 z.2, .bool true)
theorem prT_len (x : Person) : (prT x).1.length ≤ x.last.length + x.first.length + x.type'.length + 2 := by
  unfold prT
  repeat' split
  · simp; omega
  · simp
  · simp
theorem parT_len (s : List UInt8) : (parT s).1.last.length ≤ s.length ∧ (parT s).1.first.length ≤ s.length ∧ (parT s).1.type'.length ≤ s.length := by
  unfold parT
  repeat' split
  · simp [Person.zero]
  · simp only [parX, List.length_take, List.length_drop]; omega
  · simp [Person.zero]
set_option maxHeartbeats 4000000 in
theorem law5_p : PureC Tryd.prog UT 7 (gOf aTx fLaw5) := by
  have hG := tL_ok
  refine PureC.ofArgs aTx_inj Tryd.func7 body7 nm7 res7 ?_
  rintro ⟨⟨a, b, c⟩, s⟩ hv
  refine ⟨by rw [nt7]; simp [aTx], fun C hN Q hQ => ?_⟩
  rw [nt7] at hN
  unfold c7
  obtain ⟨⟨x1, x2, x3⟩, hs⟩ : LawT ⟨a, b, c⟩ s := hv
  dsimp only at x1 x2 x3 hs
  have h1 := fun h => @par_print ⟨a, b, c⟩ h
  have h2 := fun h => @print_par s h
  have l1 := prT_len ⟨a, b, c⟩
  have l2 := parT_len s
  obtain ⟨⟨p, e⟩, hp⟩ : ∃ y, prT ⟨a, b, c⟩ = y := ⟨_, rfl⟩
  obtain ⟨⟨⟨q1, q2, q3⟩, g⟩, hq⟩ : ∃ y, parT s = y := ⟨_, rfl⟩
  obtain ⟨⟨⟨u1, u2, u3⟩, i⟩, hu⟩ : ∃ y, parT p = y := ⟨_, rfl⟩
  obtain ⟨⟨v, j⟩, hw⟩ : ∃ y, prT ⟨q1, q2, q3⟩ = y := ⟨_, rfl⟩
  rw [hp] at h1 l1
  rw [hq] at h2 l2
  dsimp only at h1 h2 l1 l2
  rw [hu] at h1
  rw [hw] at h2
  obtain ⟨l3, l4, l5⟩ := l2
  refine aw_seq (aw_region (EF := EF0) hG (by rw [hN]; exact tr7_0) ?_)
  simp only [a7_0, go_sem, ↓reduceIte, Nat.reduceEqDiff, reduceCtorEq, Nat.reduceAdd, Nat.reduceLT, Nat.reduceLeDiff, Nat.reduceBNe, Nat.reduceBEq, Int.reduceToNat, aTx, Person.enc, tL, fTrue_eq]
  refine aw_seq ?_
  refine aw_seq (aw_region (EF := EF0) hG (by rw [hN]; exact tr7_1) ?_)
  simp only [a7_1, go_sem, ↓reduceIte, Nat.reduceEqDiff, reduceCtorEq, Nat.reduceAdd, Nat.reduceLT, Nat.reduceLeDiff, Nat.reduceBNe, Nat.reduceBEq, Int.reduceToNat, inI, tL, fTrue_eq]
  (repeat' apply And.intro) <;> (try first | omega | (intros; (repeat' apply And.intro) <;> first | assumption | omega | (simp_all; done)))
  refine aw_cond (b := _) rfl (fun hb1 => ?_) (fun hb1 => ?_)
  · skip
    refine aw_seq (aw_region (EF := EF0) hG (by rw [hN]; exact tr7_2) ?_)
    simp only [a7_2, go_sem, ↓reduceIte, Nat.reduceEqDiff, reduceCtorEq, Nat.reduceAdd, Nat.reduceLT, Nat.reduceLeDiff, Nat.reduceBNe, Nat.reduceBEq, Int.reduceToNat, tL, fTrue_eq]
    (repeat' apply And.intro) <;> (try first | omega | (intros; (repeat' apply And.intro) <;> first | assumption | omega | (simp_all; done)))
    refine aw_ret ?_
    show Q _ _
    refine hQ _ _ (.inl rfl) ?_ ?_ ?_ <;> simp only [outφ, outV, AR.res, go_sem, ↓reduceIte, Nat.reduceEqDiff, reduceCtorEq, Nat.reduceAdd, Nat.reduceLT, Nat.reduceLeDiff, Nat.reduceBNe, Nat.reduceBEq, Int.reduceToNat, fLaw5]
  · skip
    simp only [Bool.or_eq_false_iff, decide_eq_false_iff_not] at hb1
    have y1 : a.length ≤ 1000000 ∧ b.length ≤ 1000000 ∧ c.length ≤ 1000000 := by omega
    have y2 : s.length ≤ 1000 := by omega
    have y3 : p.length ≤ 1000 := by omega
    have y4 : q1.length ≤ 1000000 ∧ q2.length ≤ 1000000 ∧ q3.length ≤ 1000000 := by omega
    refine aw_skip ?_
    try simp only [go_sem, ↓reduceIte, Nat.reduceEqDiff, reduceCtorEq, Nat.reduceAdd, Nat.reduceLT, Nat.reduceLeDiff, Nat.reduceBNe, Nat.reduceBEq, Int.reduceToNat]
    refine aw_seq (aw_region (EF := EF0) hG (by rw [hN]; exact tr7_3) ?_)
    simp only [a7_3, go_sem, ↓reduceIte, Nat.reduceEqDiff, reduceCtorEq, Nat.reduceAdd, Nat.reduceLT, Nat.reduceLeDiff, Nat.reduceBNe, Nat.reduceBEq, Int.reduceToNat, fPr_eq, y1, hp, prV, tL, fTrue_eq]
    (repeat' apply And.intro) <;> (try first | omega | (intros; (repeat' apply And.intro) <;> first | assumption | omega | (simp_all; done)))
    refine aw_seq (aw_region (EF := EF0) hG (by rw [hN]; exact tr7_4) ?_)
    simp only [a7_4, go_sem, ↓reduceIte, Nat.reduceEqDiff, reduceCtorEq, Nat.reduceAdd, Nat.reduceLT, Nat.reduceLeDiff, Nat.reduceBNe, Nat.reduceBEq, Int.reduceToNat, fPr_eq, y1, hp, prV, tL, fTrue_eq]
    (repeat' apply And.intro) <;> (try first | omega | (intros; (repeat' apply And.intro) <;> first | assumption | omega | (simp_all; done)))
    refine aw_seq (aw_region (EF := EF0) hG (by rw [hN]; exact tr7_5) ?_)
    simp only [a7_5, go_sem, ↓reduceIte, Nat.reduceEqDiff, reduceCtorEq, Nat.reduceAdd, Nat.reduceLT, Nat.reduceLeDiff, Nat.reduceBNe, Nat.reduceBEq, Int.reduceToNat, fPar_eq, y2, hq, parV, Person.enc, tL, fTrue_eq]
    (repeat' apply And.intro) <;> (try first | omega | (intros; (repeat' apply And.intro) <;> first | assumption | omega | (simp_all; done)))
    refine aw_seq (aw_region (EF := EF0) hG (by rw [hN]; exact tr7_6) ?_)
    simp only [a7_6, go_sem, ↓reduceIte, Nat.reduceEqDiff, reduceCtorEq, Nat.reduceAdd, Nat.reduceLT, Nat.reduceLeDiff, Nat.reduceBNe, Nat.reduceBEq, Int.reduceToNat, fPar_eq, y2, hq, parV, Person.enc, tL, fTrue_eq]
    (repeat' apply And.intro) <;> (try first | omega | (intros; (repeat' apply And.intro) <;> first | assumption | omega | (simp_all; done)))
    refine aw_seq ?_
    refine aw_seq (aw_region (EF := EF0) hG (by rw [hN]; exact tr7_7) ?_)
    simp only [a7_7, go_sem, ↓reduceIte, Nat.reduceEqDiff, reduceCtorEq, Nat.reduceAdd, Nat.reduceLT, Nat.reduceLeDiff, Nat.reduceBNe, Nat.reduceBEq, Int.reduceToNat, fitKs, fitK, eqVs, eqV, tL, fTrue_eq]
    (repeat' apply And.intro) <;> (try first | omega | (intros; (repeat' apply And.intro) <;> first | assumption | omega | (simp_all; done)))
    refine aw_condF rfl ?_
    refine aw_skip ?_
    try simp only [go_sem, ↓reduceIte, Nat.reduceEqDiff, reduceCtorEq, Nat.reduceAdd, Nat.reduceLT, Nat.reduceLeDiff, Nat.reduceBNe, Nat.reduceBEq, Int.reduceToNat]
    refine aw_seq (aw_region (EF := EF0) hG (by rw [hN]; exact tr7_9) ?_)
    simp only [a7_9, go_sem, ↓reduceIte, Nat.reduceEqDiff, reduceCtorEq, Nat.reduceAdd, Nat.reduceLT, Nat.reduceLeDiff, Nat.reduceBNe, Nat.reduceBEq, Int.reduceToNat, fPar_eq, y3, hu, parV, Person.enc, tL, fTrue_eq]
    (repeat' apply And.intro) <;> (try first | omega | (intros; (repeat' apply And.intro) <;> first | assumption | omega | (simp_all; done)))
    refine aw_seq (aw_region (EF := EF0) hG (by rw [hN]; exact tr7_10) ?_)
    simp only [a7_10, go_sem, ↓reduceIte, Nat.reduceEqDiff, reduceCtorEq, Nat.reduceAdd, Nat.reduceLT, Nat.reduceLeDiff, Nat.reduceBNe, Nat.reduceBEq, Int.reduceToNat, fPr_eq, y4, hw, prV, tL, fTrue_eq]
    (repeat' apply And.intro) <;> (try first | omega | (intros; (repeat' apply And.intro) <;> first | assumption | omega | (simp_all; done)))
    refine aw_seq (aw_region (EF := EF0) hG (by rw [hN]; exact tr7_11) ?_)
    simp only [a7_11, go_sem, ↓reduceIte, Nat.reduceEqDiff, reduceCtorEq, Nat.reduceAdd, Nat.reduceLT, Nat.reduceLeDiff, Nat.reduceBNe, Nat.reduceBEq, Int.reduceToNat, fitKs, fitK, eqVs, eqV, tL, fTrue_eq]
    (repeat' apply And.intro) <;> (try first | omega | (intros; (repeat' apply And.intro) <;> first | assumption | omega | (simp_all; done)))
    refine aw_ret ?_
    show Q _ _
    refine hQ _ _ (.inl rfl) ?_ ?_ ?_ <;> simp only [outφ, outV, AR.res, go_sem, ↓reduceIte, Nat.reduceEqDiff, reduceCtorEq, Nat.reduceAdd, Nat.reduceLT, Nat.reduceLeDiff, Nat.reduceBNe, Nat.reduceBEq, Int.reduceToNat, fLaw5]
    refine congrArg V.bool ?_; refine Bool.and_eq_true_iff.2 ⟨?_, ?_⟩; (by_cases k0 : e = 0; (obtain ⟨⟨rfl, rfl, rfl⟩, rfl⟩ := (by simpa using h1 k0 : (u1 = a ∧ u2 = b ∧ u3 = c) ∧ i = 0); simp); (rw [decide_eq_false k0]; rfl)); (by_cases k0 : g = 0; (obtain ⟨rfl, rfl⟩ := (by simpa using h2 k0 : v = s ∧ j = 0); simp); (rw [decide_eq_false k0]; rfl))
end Go.Proofs.YtbakkdnhbeldcaaDoor
