/- The reference's Name; persons: infants and adults, seats, texts. -/
import Derived.Test.YtbakkdnhbeldcaaDoorPa1
namespace Go.Proofs.YtbakkdnhbeldcaaDoor
open Go Go.RowKit
set_option linter.unusedSimpArgs false
set_option linter.unusedVariables false
set_option linter.deprecated false
theorem okF_last : ∀ (s : List UInt8) (p : Bool), s ≠ [] → s.getD (s.length - 1) 0 = 32 → okF p s = false
  | [c], p, _, h => by
    have : c = 32 := by simpa using h
    subst this
    rw [okF, if_pos rfl]; simp [okF]
  | c :: d :: s, p, _, h => by
    have h2 : (d :: s).getD ((d :: s).length - 1) 0 = 32 := by simpa using h
    rw [okF, okF_last (d :: s) true (by simp) h2, okF_last (d :: s) false (by simp) h2]
    simp
def rName (s : List UInt8) (i : Nat) : Bool := decide (i = 0) || decide (s.getD (i - 1) 0 = 32)
theorem okF_step {s : List UInt8} {i : Nat} (hi : i < s.length) (p : Bool) : okF p (s.drop i) = if s.getD i 0 = 32 then !p && okF true (s.drop (i + 1)) else capB ((s.getD i 0).toNat : Int) && okF false (s.drop (i + 1)) := by
  rw [List.drop_eq_getElem_cons hi, okF]
  have e : s.getD i 0 = s[i] := by rw [List.getD_eq_getElem?_getD, List.getElem?_eq_getElem hi]; rfl
  rw [e]
theorem byte32 (c : UInt8) : decide ((c.toNat : Int) = 32) = decide (c = 32) := decide_eq_decide.2 ⟨fun h => UInt8.toNat_inj.1 (by show c.toNat = 32; omega), fun h => by rw [h]; rfl⟩
theorem cap32 : capB 32 = false := by decide
theorem nameB_bad {s : List UInt8} (hlast : s.getD (s.length - 1) 0 = 32 → okF true s = false) (h : (decide ((s.length : Int) < 1) || decide (30 < (s.length : Int)) || decide (((s.getD 0 0).toNat : Int) = 32) || decide (((s.getD (s.length - 1) 0).toNat : Int) = 32)) = true) : nameB s = false := by
  unfold nameB
  rw [byte32, byte32] at h
  simp only [Bool.or_eq_true, decide_eq_true_eq] at h
  rcases h with ((h | h) | h) | h
  · have : s = [] := List.eq_nil_of_length_eq_zero (by omega)
    subst this; decide
  · rw [decide_eq_false (by omega), Bool.false_and]
  · cases s with
    | nil => decide
    | cons c s =>
      have : c = 32 := by simpa using h
      subst this
      rw [okF, if_pos rfl]; simp
  · rw [hlast h, Bool.and_false]
noncomputable def trNm : Tab
  | 55 => (gByte capB)
  | _ => gNo
theorem trNm_ok : ∀ f, PureC Tryd.prog UT f (trNm f) := fun f => by
  unfold trNm
  split
  · exact rupper_p
  · exact PureC.no
theorem gByte_eq (p : Int → Bool) (n : Int) : gByte p [.int .u8 n] = (True, .bool (p n)) := rfl
set_option maxHeartbeats 2000000 in
theorem rname_p : PureC Tryd.prog UT 42 (gOf aStr fName) := by
  have hG := trNm_ok
  refine PureC.ofArgs aStr_inj Tryd.func42 body42 nm42 res42 ?_
  rintro s hv
  refine ⟨by rw [nt42]; simp [aStr], fun C hN Q hQ => ?_⟩
  rw [nt42] at hN
  unfold c42
  replace hv : s.length ≤ 140737488355328 := hv
  refine aw_seq (aw_region (EF := EF0) hG (by rw [hN]; exact tr42_0) ?_)
  simp only [a42_0, go_sem, ↓reduceIte, Nat.reduceEqDiff, reduceCtorEq, Nat.reduceAdd, Nat.reduceLT, Nat.reduceLeDiff, Nat.reduceBNe, Nat.reduceBEq, Int.reduceToNat, aStr, trNm, gByte_eq]
  refine aw_seq ?_
  by_cases h0 : s = []
  · skip
    subst h0
    refine aw_seq (aw_region (EF := EF0) hG (by rw [hN]; exact tr42_1) ?_)
    simp only [a42_1, go_sem, ↓reduceIte, Nat.reduceEqDiff, reduceCtorEq, Nat.reduceAdd, Nat.reduceLT, Nat.reduceLeDiff, Nat.reduceBNe, Nat.reduceBEq, Int.reduceToNat, inI, trNm, gByte_eq]
    (repeat' apply And.intro) <;> (try first | omega | (intros; (repeat' apply And.intro) <;> first | assumption | omega | (simp_all; done)))
    refine aw_condT rfl ?_
    refine aw_seq (aw_region (EF := EF0) hG (by rw [hN]; exact tr42_2) ?_)
    simp only [a42_2, go_sem, ↓reduceIte, Nat.reduceEqDiff, reduceCtorEq, Nat.reduceAdd, Nat.reduceLT, Nat.reduceLeDiff, Nat.reduceBNe, Nat.reduceBEq, Int.reduceToNat, trNm, gByte_eq]
    refine aw_ret ?_
    show Q _ _
    refine hQ _ _ (.inl rfl) ?_ ?_ ?_ <;> simp only [outφ, outV, AR.res, go_sem, ↓reduceIte, Nat.reduceEqDiff, reduceCtorEq, Nat.reduceAdd, Nat.reduceLT, Nat.reduceLeDiff, Nat.reduceBNe, Nat.reduceBEq, Int.reduceToNat, fName]
    exact congrArg V.bool (by decide)
  · skip
    have hpos : 0 < s.length := List.length_pos_iff.2 h0
    have e1 : ((s.length : Int) - 1).toNat = s.length - 1 := by omega
    have hlast : s.getD (s.length - 1) 0 = 32 → okF true s = false := okF_last s true h0
    refine aw_seq (aw_region (EF := EF0) hG (by rw [hN]; exact tr42_1) ?_)
    simp only [a42_1, go_sem, ↓reduceIte, Nat.reduceEqDiff, reduceCtorEq, Nat.reduceAdd, Nat.reduceLT, Nat.reduceLeDiff, Nat.reduceBNe, Nat.reduceBEq, Int.reduceToNat, inI, trNm, gByte_eq, e1]
    (repeat' apply And.intro) <;> (try first | omega | (intros; (repeat' apply And.intro) <;> first | assumption | omega | (simp_all; done)))
    refine aw_cond (b := _) rfl (fun hb1 => ?_) (fun hb1 => ?_)
    · skip
      refine aw_seq (aw_region (EF := EF0) hG (by rw [hN]; exact tr42_2) ?_)
      simp only [a42_2, go_sem, ↓reduceIte, Nat.reduceEqDiff, reduceCtorEq, Nat.reduceAdd, Nat.reduceLT, Nat.reduceLeDiff, Nat.reduceBNe, Nat.reduceBEq, Int.reduceToNat, trNm, gByte_eq]
      refine aw_ret ?_
      show Q _ _
      refine hQ _ _ (.inl rfl) ?_ ?_ ?_ <;> simp only [outφ, outV, AR.res, go_sem, ↓reduceIte, Nat.reduceEqDiff, reduceCtorEq, Nat.reduceAdd, Nat.reduceLT, Nat.reduceLeDiff, Nat.reduceBNe, Nat.reduceBEq, Int.reduceToNat, fName]
      rw [nameB_bad hlast hb1]
    · skip
      refine aw_skip ?_
      try simp only [go_sem, ↓reduceIte, Nat.reduceEqDiff, reduceCtorEq, Nat.reduceAdd, Nat.reduceLT, Nat.reduceLeDiff, Nat.reduceBNe, Nat.reduceBEq, Int.reduceToNat]
      refine aw_seq ?_
      simp only [Bool.or_eq_false_iff, decide_eq_false_iff_not] at hb1
      obtain ⟨⟨⟨g1, g2⟩, g3⟩, g4⟩ := hb1
      have hl : s.length ≤ 30 := by omega
      have hd30 : decide ((s.length : Int) ≤ 30) = true := decide_eq_true (by omega)
      refine aw_seq (aw_region (EF := EF0) hG (by rw [hN]; exact tr42_3) ?_)
      simp only [a42_3, go_sem, ↓reduceIte, Nat.reduceEqDiff, reduceCtorEq, Nat.reduceAdd, Nat.reduceLT, Nat.reduceLeDiff, Nat.reduceBNe, Nat.reduceBEq, Int.reduceToNat, trNm, gByte_eq]
      refine aw_block ?_
      refine aw_loop (α := Nat) (fun i => (i ≤ s.length) ∧ (okF true s = okF (rName s i) (s.drop i))) (fun i => ⟨mkE [(0, V.str s), (3, .int .i64 i)], mkH []⟩) (fun i => s.length - i) 0 ⟨Nat.zero_le _, rfl⟩ ?_ ?_
      · refine Le.mk _ _ ?_ ?_ rfl <;> simp only [go_sem, ↓reduceIte, Nat.reduceEqDiff, reduceCtorEq, Nat.reduceAdd, Nat.reduceLT, Nat.reduceLeDiff, Nat.reduceBNe, Nat.reduceBEq, Int.reduceToNat] <;> (repeat' apply And.intro) <;> (try first | rfl | exact wk_frzb rfl rfl rfl | exact wk_fn rfl | exact .nilo _ _ _ rfl rfl)
      · rintro i ⟨hi, hinv⟩ KL0 hKL0
        try dsimp only at *
        refine aw_seq ?_
        refine aw_seq (aw_region (EF := EF0) hG (by rw [hN]; exact tr42_4) ?_)
        simp only [a42_4, go_sem, ↓reduceIte, Nat.reduceEqDiff, reduceCtorEq, Nat.reduceAdd, Nat.reduceLT, Nat.reduceLeDiff, Nat.reduceBNe, Nat.reduceBEq, Int.reduceToNat, trNm, gByte_eq]
        refine aw_cond (b := _) rfl (fun hc4 => ?_) (fun hc4 => ?_)
        · simp only [decide_eq_true_eq, decide_eq_false_iff_not, Bool.and_eq_true, Bool.or_eq_true, Bool.not_eq_true', Bool.not_eq_false', Bool.and_eq_false_iff, Bool.or_eq_false_iff, Int.ofNat_lt, Int.ofNat_le, Nat.not_lt, Nat.not_le, Int.not_lt, Int.not_le] at hc4
          refine aw_skip ?_
          try simp only [go_sem, ↓reduceIte, Nat.reduceEqDiff, reduceCtorEq, Nat.reduceAdd, Nat.reduceLT, Nat.reduceLeDiff, Nat.reduceBNe, Nat.reduceBEq, Int.reduceToNat]
          refine aw_seq ?_
          refine aw_block ?_
          have hst := okF_step hc4 (rName s i)
          have hbyte := byte32 (s.getD i 0)
          have hbyte1 := byte32 (s.getD (i - 1) 0)
          have hr1 : rName s (i + 1) = decide (s.getD i 0 = 32) := by unfold rName; simp
          by_cases hz : s.getD i 0 = 32
          · skip
            rw [decide_eq_true hz] at hbyte hr1
            have hi0 : i ≠ 0 := fun h => g3 (by rw [h] at hz; rw [hz]; rfl)
            have e2 : ((i : Int) - 1).toNat = i - 1 := by omega
            have e3 : (0 : Int) ≤ (i : Int) - 1 := by omega
            have e4 : (i : Int) - 1 < (s.length : Int) := by omega
            have hcz : capB ((s.getD i 0).toNat : Int) = false := by rw [hz]; exact cap32
            have hr0 : rName s i = decide (s.getD (i - 1) 0 = 32) := by unfold rName; rw [decide_eq_false hi0, Bool.false_or]
            refine aw_seq (aw_region (EF := EF0) hG (by rw [hN]; exact tr42_6) ?_)
            simp only [a42_6, go_sem, ↓reduceIte, Nat.reduceEqDiff, reduceCtorEq, Nat.reduceAdd, Nat.reduceLT, Nat.reduceLeDiff, Nat.reduceBNe, Nat.reduceBEq, Int.reduceToNat, inI, hbyte, hbyte1, trNm, gByte_eq, e2, e3, e4, hcz]
            (repeat' apply And.intro) <;> (try first | omega | (intros; (repeat' apply And.intro) <;> first | assumption | omega | (simp_all; done)))
            refine aw_cond (b := _) rfl (fun hb6 => ?_) (fun hb6 => ?_)
            · skip
              refine aw_seq (aw_region (EF := EF0) hG (by rw [hN]; exact tr42_7) ?_)
              simp only [a42_7, go_sem, ↓reduceIte, Nat.reduceEqDiff, reduceCtorEq, Nat.reduceAdd, Nat.reduceLT, Nat.reduceLeDiff, Nat.reduceBNe, Nat.reduceBEq, Int.reduceToNat, trNm, gByte_eq]
              refine aw_ret ?_
              show Q _ _
              refine hQ _ _ (.inl rfl) ?_ ?_ ?_ <;> simp only [outφ, outV, AR.res, go_sem, ↓reduceIte, Nat.reduceEqDiff, reduceCtorEq, Nat.reduceAdd, Nat.reduceLT, Nat.reduceLeDiff, Nat.reduceBNe, Nat.reduceBEq, Int.reduceToNat, fName, nameB]
              rw [hinv, hst, if_pos hz, hr0, hb6]; simp
            · skip
              refine aw_skip ?_
              try simp only [go_sem, ↓reduceIte, Nat.reduceEqDiff, reduceCtorEq, Nat.reduceAdd, Nat.reduceLT, Nat.reduceLeDiff, Nat.reduceBNe, Nat.reduceBEq, Int.reduceToNat]
              refine aw_region (EF := EF0) hG (by rw [hN]; exact tr42_5) ?_
              simp only [a42_5, go_sem, ↓reduceIte, Nat.reduceEqDiff, reduceCtorEq, Nat.reduceAdd, Nat.reduceLT, Nat.reduceLeDiff, Nat.reduceBNe, Nat.reduceBEq, Int.reduceToNat, inI, trNm, gByte_eq]
              (repeat' apply And.intro) <;> (try first | omega | (intros; (repeat' apply And.intro) <;> first | assumption | omega | (simp_all; done)))
              refine hKL0 (i + 1) _ ?_ ?_ ?_
              · (try dsimp only); exact ⟨hc4, by rw [hinv, hst, if_pos hz, hr0, hb6, hr1]; rfl⟩
              · (try dsimp only); omega
              · refine Le.mk _ _ ?_ ?_ rfl <;> simp only [go_sem, ↓reduceIte, Nat.reduceEqDiff, reduceCtorEq, Nat.reduceAdd, Nat.reduceLT, Nat.reduceLeDiff, Nat.reduceBNe, Nat.reduceBEq, Int.reduceToNat] <;> (repeat' apply And.intro) <;> (try first | rfl | exact wk_frzb rfl rfl rfl | exact wk_fn rfl | exact .nilo _ _ _ rfl rfl)
          · skip
            rw [decide_eq_false hz] at hbyte hr1
            generalize hcb : capB ((s.getD i 0).toNat : Int) = cb at hst
            refine aw_seq (aw_region (EF := EF0) hG (by rw [hN]; exact tr42_6) ?_)
            simp only [a42_6, go_sem, ↓reduceIte, Nat.reduceEqDiff, reduceCtorEq, Nat.reduceAdd, Nat.reduceLT, Nat.reduceLeDiff, Nat.reduceBNe, Nat.reduceBEq, Int.reduceToNat, inI, hbyte, hbyte1, trNm, gByte_eq, hcb]
            (repeat' apply And.intro) <;> (try first | omega | (intros; (repeat' apply And.intro) <;> first | assumption | omega | (simp_all; done)))
            refine aw_cond (b := _) rfl (fun hb6 => ?_) (fun hb6 => ?_)
            · skip
              refine aw_seq (aw_region (EF := EF0) hG (by rw [hN]; exact tr42_7) ?_)
              simp only [a42_7, go_sem, ↓reduceIte, Nat.reduceEqDiff, reduceCtorEq, Nat.reduceAdd, Nat.reduceLT, Nat.reduceLeDiff, Nat.reduceBNe, Nat.reduceBEq, Int.reduceToNat, trNm, gByte_eq]
              refine aw_ret ?_
              show Q _ _
              refine hQ _ _ (.inl rfl) ?_ ?_ ?_ <;> simp only [outφ, outV, AR.res, go_sem, ↓reduceIte, Nat.reduceEqDiff, reduceCtorEq, Nat.reduceAdd, Nat.reduceLT, Nat.reduceLeDiff, Nat.reduceBNe, Nat.reduceBEq, Int.reduceToNat, fName, nameB]
              rw [hinv, hst, if_neg hz]; simp at hb6; rw [hb6]; simp
            · skip
              refine aw_skip ?_
              try simp only [go_sem, ↓reduceIte, Nat.reduceEqDiff, reduceCtorEq, Nat.reduceAdd, Nat.reduceLT, Nat.reduceLeDiff, Nat.reduceBNe, Nat.reduceBEq, Int.reduceToNat]
              refine aw_region (EF := EF0) hG (by rw [hN]; exact tr42_5) ?_
              simp only [a42_5, go_sem, ↓reduceIte, Nat.reduceEqDiff, reduceCtorEq, Nat.reduceAdd, Nat.reduceLT, Nat.reduceLeDiff, Nat.reduceBNe, Nat.reduceBEq, Int.reduceToNat, inI, trNm, gByte_eq]
              (repeat' apply And.intro) <;> (try first | omega | (intros; (repeat' apply And.intro) <;> first | assumption | omega | (simp_all; done)))
              refine hKL0 (i + 1) _ ?_ ?_ ?_
              · (try dsimp only); exact ⟨hc4, by rw [hinv, hst, if_neg hz, hr1]; simp at hb6; rw [hb6]; simp⟩
              · (try dsimp only); omega
              · refine Le.mk _ _ ?_ ?_ rfl <;> simp only [go_sem, ↓reduceIte, Nat.reduceEqDiff, reduceCtorEq, Nat.reduceAdd, Nat.reduceLT, Nat.reduceLeDiff, Nat.reduceBNe, Nat.reduceBEq, Int.reduceToNat] <;> (repeat' apply And.intro) <;> (try first | rfl | exact wk_frzb rfl rfl rfl | exact wk_fn rfl | exact .nilo _ _ _ rfl rfl)
        · simp only [decide_eq_true_eq, decide_eq_false_iff_not, Bool.and_eq_true, Bool.or_eq_true, Bool.not_eq_true', Bool.not_eq_false', Bool.and_eq_false_iff, Bool.or_eq_false_iff, Int.ofNat_lt, Int.ofNat_le, Nat.not_lt, Nat.not_le, Int.not_lt, Int.not_le] at hc4
          refine aw_exit ?_
          simp only [go_sem, ↓reduceIte, Nat.reduceEqDiff, reduceCtorEq, Nat.reduceAdd, Nat.reduceLT, Nat.reduceLeDiff, Nat.reduceBNe, Nat.reduceBEq, Int.reduceToNat]
          refine aw_seq (aw_region (EF := EF0) hG (by rw [hN]; exact tr42_8) ?_)
          simp only [a42_8, go_sem, ↓reduceIte, Nat.reduceEqDiff, reduceCtorEq, Nat.reduceAdd, Nat.reduceLT, Nat.reduceLeDiff, Nat.reduceBNe, Nat.reduceBEq, Int.reduceToNat, trNm, gByte_eq]
          refine aw_ret ?_
          show Q _ _
          refine hQ _ _ (.inl rfl) ?_ ?_ ?_ <;> simp only [outφ, outV, AR.res, go_sem, ↓reduceIte, Nat.reduceEqDiff, reduceCtorEq, Nat.reduceAdd, Nat.reduceLT, Nat.reduceLeDiff, Nat.reduceBNe, Nat.reduceBEq, Int.reduceToNat, fName, nameB]
          rw [hd30, hinv, List.drop_eq_nil_of_le hc4, okF, show rName s i = false from by unfold rName; rw [decide_eq_false (by omega), decide_eq_false (by rw [show i = s.length by omega]; intro h; exact g4 (by rw [h]; rfl))]; rfl]; rfl
/-! Persons. -/
structure Person where
  last : List UInt8
  first : List UInt8
  type' : List UInt8
def Person.enc (x : Person) : List V := [.str x.last, .str x.first, .str x.type']
theorem Person.inj (a b : Person) (h : a.enc = b.enc) : a = b := by
  obtain ⟨a_last, a_first, a_type'⟩ := a
  obtain ⟨b_last, b_first, b_type'⟩ := b
  simp only [Person.enc, List.cons.injEq, V.str.injEq, V.int.injEq, V.bool.injEq, V.agg.injEq, V.list.injEq, and_true, true_and] at h
  obtain ⟨h0, h1, h2⟩ := h
  subst h0
  subst h1
  subst h2
  rfl
def Person.ok (x : Person) : Prop := x.last.length ≤ 140737488355328 ∧ x.first.length ≤ 140737488355328 ∧ x.type'.length ≤ 140737488355328
def Person.zero : Person := ⟨[], [], []⟩
theorem Person.rows (l : List Person) : (∀ r ∈ l.map Person.enc, r.length = 3) ↔ True := iff_true_intro fun r hr => by obtain ⟨x, _, rfl⟩ := List.mem_map.1 hr; rfl
theorem Person.purs (l : List Person) : (∀ r ∈ l.map Person.enc, V.purs r = true) ↔ True := iff_true_intro fun r hr => by obtain ⟨x, _, rfl⟩ := List.mem_map.1 hr; rfl
attribute [go_sem] Person.rows Person.purs
theorem Person.mapLen (l : List Person) : (l.map Person.enc).length = l.length := List.length_map _
def aPer (x : Person) : List V := [.agg x.enc]
theorem aPer_inj (a b : Person) (h : aPer a = aPer b) : a = b := by
  simp only [aPer, List.cons.injEq, V.str.injEq, V.int.injEq, V.bool.injEq, V.agg.injEq, V.list.injEq, and_true, true_and] at h
  have h0 := h
  replace h0 := Person.inj _ _ h0
  subst h0
  rfl
def aPers (x : List Person) : List V := [.list (x.map Person.enc) false]
theorem aPers_inj (a b : List Person) (h : aPers a = aPers b) : a = b := by
  simp only [aPers, List.cons.injEq, V.str.injEq, V.int.injEq, V.bool.injEq, V.agg.injEq, V.list.injEq, and_true, true_and] at h
  have h0 := h
  replace h0 := map_inj' Person.inj h0
  subst h0
  rfl
def sINF : List UInt8 := [73, 78, 70]
def sCHD : List UInt8 := [67, 72, 68]
def infB (x : Person) : Bool := decide (x.type' = sINF)
def adB (x : Person) : Bool := !infB x && !decide (x.type' = sCHD)
def namB (x : Person) : Bool := nameB x.last && nameB x.first
def typB (x : Person) : Bool := codeB x.type' 3 3
def infN (l : List Person) : Nat := (l.filter infB).length
def adN (l : List Person) : Nat := (l.filter adB).length
def aloneB (l : List Person) : Bool := decide ((adN l : Int) < (infN l : Int))
def fInf (x : Person) : Prop × V := (True, .bool (infB x))
def fAd (x : Person) : Prop × V := (True, .bool (adB x))
def fNam (x : Person) : Prop × V := (x.ok, .bool (namB x))
def fTyp (x : Person) : Prop × V := (x.ok, .bool (typB x))
theorem fInf_eq (a b c) : gOf aPer fInf [.agg [.str a, .str b, .str c]] = (True, .bool (infB ⟨a, b, c⟩)) := gOf_eq aPer_inj (⟨a, b, c⟩ : Person)
theorem fAd_eq (a b c) : gOf aPer fAd [.agg [.str a, .str b, .str c]] = (True, .bool (adB ⟨a, b, c⟩)) := gOf_eq aPer_inj (⟨a, b, c⟩ : Person)
theorem fNam_eq (a b c) : gOf aPer fNam [.agg [.str a, .str b, .str c]] = ((⟨a, b, c⟩ : Person).ok, .bool (namB ⟨a, b, c⟩)) := gOf_eq aPer_inj (⟨a, b, c⟩ : Person)
theorem fTyp_eq (a b c) : gOf aPer fTyp [.agg [.str a, .str b, .str c]] = ((⟨a, b, c⟩ : Person).ok, .bool (typB ⟨a, b, c⟩)) := gOf_eq aPer_inj (⟨a, b, c⟩ : Person)
theorem infant_p : PureC Tryd.prog UT 33 (gOf aPer fInf) := by
  have hG := tNo_ok
  refine PureC.ofArgs aPer_inj Tryd.func33 body33 nm33 res33 ?_
  rintro ⟨a, b, c⟩ hv
  refine ⟨by rw [nt33]; simp [aPer], fun C hN Q hQ => ?_⟩
  rw [nt33] at hN
  unfold c33
  refine aw_seq (aw_region (EF := EF0) hG (by rw [hN]; exact tr33_0) ?_)
  simp only [a33_0, go_sem, ↓reduceIte, Nat.reduceEqDiff, reduceCtorEq, Nat.reduceAdd, Nat.reduceLT, Nat.reduceLeDiff, Nat.reduceBNe, Nat.reduceBEq, Int.reduceToNat, aPer, Person.enc]
  refine aw_seq (aw_region (EF := EF0) hG (by rw [hN]; exact tr33_1) ?_)
  simp only [a33_1, go_sem, ↓reduceIte, Nat.reduceEqDiff, reduceCtorEq, Nat.reduceAdd, Nat.reduceLT, Nat.reduceLeDiff, Nat.reduceBNe, Nat.reduceBEq, Int.reduceToNat]
  refine aw_ret ?_
  show Q _ _
  refine hQ _ _ (.inl rfl) ?_ ?_ ?_ <;> simp only [outφ, outV, AR.res, go_sem, ↓reduceIte, Nat.reduceEqDiff, reduceCtorEq, Nat.reduceAdd, Nat.reduceLT, Nat.reduceLeDiff, Nat.reduceBNe, Nat.reduceBEq, Int.reduceToNat, fInf]
  rfl
noncomputable def tAd : Tab
  | 33 => (gOf aPer fInf)
  | _ => gNo
theorem tAd_ok : ∀ f, PureC Tryd.prog UT f (tAd f) := fun f => by
  unfold tAd
  split
  · exact infant_p
  · exact PureC.no
theorem adult_p : PureC Tryd.prog UT 40 (gOf aPer fAd) := by
  have hG := tAd_ok
  refine PureC.ofArgs aPer_inj Tryd.func40 body40 nm40 res40 ?_
  rintro ⟨a, b, c⟩ hv
  refine ⟨by rw [nt40]; simp [aPer], fun C hN Q hQ => ?_⟩
  rw [nt40] at hN
  unfold c40
  refine aw_seq (aw_region (EF := EF0) hG (by rw [hN]; exact tr40_0) ?_)
  simp only [a40_0, go_sem, ↓reduceIte, Nat.reduceEqDiff, reduceCtorEq, Nat.reduceAdd, Nat.reduceLT, Nat.reduceLeDiff, Nat.reduceBNe, Nat.reduceBEq, Int.reduceToNat, aPer, Person.enc, tAd, fInf_eq]
  refine aw_seq (aw_region (EF := EF0) hG (by rw [hN]; exact tr40_1) ?_)
  simp only [a40_1, go_sem, ↓reduceIte, Nat.reduceEqDiff, reduceCtorEq, Nat.reduceAdd, Nat.reduceLT, Nat.reduceLeDiff, Nat.reduceBNe, Nat.reduceBEq, Int.reduceToNat, tAd, fInf_eq]
  (repeat' apply And.intro) <;> (try first | omega | (intros; (repeat' apply And.intro) <;> first | assumption | omega | (simp_all; done)))
  refine aw_ret ?_
  show Q _ _
  refine hQ _ _ (.inl rfl) ?_ ?_ ?_ <;> simp only [outφ, outV, AR.res, go_sem, ↓reduceIte, Nat.reduceEqDiff, reduceCtorEq, Nat.reduceAdd, Nat.reduceLT, Nat.reduceLeDiff, Nat.reduceBNe, Nat.reduceBEq, Int.reduceToNat, fAd]
  rfl
noncomputable def tNa : Tab
  | 38 => (gOf aStr fName)
  | 39 => gCode
  | _ => gNo
theorem tNa_ok : ∀ f, PureC Tryd.prog UT f (tNa f) := fun f => by
  unfold tNa
  split
  · exact name_p
  · exact code_p
  · exact PureC.no
theorem named_p : PureC Tryd.prog UT 26 (gOf aPer fNam) := by
  have hG := tNa_ok
  refine PureC.ofArgs aPer_inj Tryd.func26 body26 nm26 res26 ?_
  rintro ⟨a, b, c⟩ hv
  refine ⟨by rw [nt26]; simp [aPer], fun C hN Q hQ => ?_⟩
  rw [nt26] at hN
  unfold c26
  obtain ⟨h1, h2, h3⟩ : (⟨a, b, c⟩ : Person).ok := hv
  dsimp only at h1 h2 h3
  refine aw_seq (aw_region (EF := EF0) hG (by rw [hN]; exact tr26_0) ?_)
  simp only [a26_0, go_sem, ↓reduceIte, Nat.reduceEqDiff, reduceCtorEq, Nat.reduceAdd, Nat.reduceLT, Nat.reduceLeDiff, Nat.reduceBNe, Nat.reduceBEq, Int.reduceToNat, aPer, Person.enc, tNa, fName_eq, h1, h2]
  refine aw_seq (aw_region (EF := EF0) hG (by rw [hN]; exact tr26_1) ?_)
  simp only [a26_1, go_sem, ↓reduceIte, Nat.reduceEqDiff, reduceCtorEq, Nat.reduceAdd, Nat.reduceLT, Nat.reduceLeDiff, Nat.reduceBNe, Nat.reduceBEq, Int.reduceToNat, tNa, fName_eq, h1, h2]
  (repeat' apply And.intro) <;> (try first | omega | (intros; (repeat' apply And.intro) <;> first | assumption | omega | (simp_all; done)))
  refine aw_ret ?_
  show Q _ _
  refine hQ _ _ (.inl rfl) ?_ ?_ ?_ <;> simp only [outφ, outV, AR.res, go_sem, ↓reduceIte, Nat.reduceEqDiff, reduceCtorEq, Nat.reduceAdd, Nat.reduceLT, Nat.reduceLeDiff, Nat.reduceBNe, Nat.reduceBEq, Int.reduceToNat, fNam]
  rfl
theorem typed_p : PureC Tryd.prog UT 27 (gOf aPer fTyp) := by
  have hG := tNa_ok
  refine PureC.ofArgs aPer_inj Tryd.func27 body27 nm27 res27 ?_
  rintro ⟨a, b, c⟩ hv
  refine ⟨by rw [nt27]; simp [aPer], fun C hN Q hQ => ?_⟩
  rw [nt27] at hN
  unfold c27
  obtain ⟨h1, h2, h3⟩ : (⟨a, b, c⟩ : Person).ok := hv
  dsimp only at h1 h2 h3
  refine aw_seq (aw_region (EF := EF0) hG (by rw [hN]; exact tr27_0) ?_)
  simp only [a27_0, go_sem, ↓reduceIte, Nat.reduceEqDiff, reduceCtorEq, Nat.reduceAdd, Nat.reduceLT, Nat.reduceLeDiff, Nat.reduceBNe, Nat.reduceBEq, Int.reduceToNat, aPer, Person.enc, tNa, fCode_eq, h3]
  refine aw_seq (aw_region (EF := EF0) hG (by rw [hN]; exact tr27_1) ?_)
  simp only [a27_1, go_sem, ↓reduceIte, Nat.reduceEqDiff, reduceCtorEq, Nat.reduceAdd, Nat.reduceLT, Nat.reduceLeDiff, Nat.reduceBNe, Nat.reduceBEq, Int.reduceToNat, tNa, fCode_eq, h3]
  (repeat' apply And.intro) <;> (try first | omega | (intros; (repeat' apply And.intro) <;> first | assumption | omega | (simp_all; done)))
  refine aw_ret ?_
  show Q _ _
  refine hQ _ _ (.inl rfl) ?_ ?_ ?_ <;> simp only [outφ, outV, AR.res, go_sem, ↓reduceIte, Nat.reduceEqDiff, reduceCtorEq, Nat.reduceAdd, Nat.reduceLT, Nat.reduceLeDiff, Nat.reduceBNe, Nat.reduceBEq, Int.reduceToNat, fTyp]
  rfl
noncomputable def trNa : Tab
  | 42 => (gOf aStr fName)
  | 43 => gCode
  | _ => gNo
theorem trNa_ok : ∀ f, PureC Tryd.prog UT f (trNa f) := fun f => by
  unfold trNa
  split
  · exact rname_p
  · exact rcode_p
  · exact PureC.no
theorem rnamed_p : PureC Tryd.prog UT 30 (gOf aPer fNam) := by
  have hG := trNa_ok
  refine PureC.ofArgs aPer_inj Tryd.func30 body30 nm30 res30 ?_
  rintro ⟨a, b, c⟩ hv
  refine ⟨by rw [nt30]; simp [aPer], fun C hN Q hQ => ?_⟩
  rw [nt30] at hN
  unfold c30
  obtain ⟨h1, h2, h3⟩ : (⟨a, b, c⟩ : Person).ok := hv
  dsimp only at h1 h2 h3
  refine aw_seq (aw_region (EF := EF0) hG (by rw [hN]; exact tr30_0) ?_)
  simp only [a30_0, go_sem, ↓reduceIte, Nat.reduceEqDiff, reduceCtorEq, Nat.reduceAdd, Nat.reduceLT, Nat.reduceLeDiff, Nat.reduceBNe, Nat.reduceBEq, Int.reduceToNat, aPer, Person.enc, trNa, fName_eq, h1, h2]
  refine aw_seq (aw_region (EF := EF0) hG (by rw [hN]; exact tr30_1) ?_)
  simp only [a30_1, go_sem, ↓reduceIte, Nat.reduceEqDiff, reduceCtorEq, Nat.reduceAdd, Nat.reduceLT, Nat.reduceLeDiff, Nat.reduceBNe, Nat.reduceBEq, Int.reduceToNat, trNa, fName_eq, h1, h2]
  (repeat' apply And.intro) <;> (try first | omega | (intros; (repeat' apply And.intro) <;> first | assumption | omega | (simp_all; done)))
  refine aw_ret ?_
  show Q _ _
  refine hQ _ _ (.inl rfl) ?_ ?_ ?_ <;> simp only [outφ, outV, AR.res, go_sem, ↓reduceIte, Nat.reduceEqDiff, reduceCtorEq, Nat.reduceAdd, Nat.reduceLT, Nat.reduceLeDiff, Nat.reduceBNe, Nat.reduceBEq, Int.reduceToNat, fNam]
  rfl
theorem rtyped_p : PureC Tryd.prog UT 31 (gOf aPer fTyp) := by
  have hG := trNa_ok
  refine PureC.ofArgs aPer_inj Tryd.func31 body31 nm31 res31 ?_
  rintro ⟨a, b, c⟩ hv
  refine ⟨by rw [nt31]; simp [aPer], fun C hN Q hQ => ?_⟩
  rw [nt31] at hN
  unfold c31
  obtain ⟨h1, h2, h3⟩ : (⟨a, b, c⟩ : Person).ok := hv
  dsimp only at h1 h2 h3
  refine aw_seq (aw_region (EF := EF0) hG (by rw [hN]; exact tr31_0) ?_)
  simp only [a31_0, go_sem, ↓reduceIte, Nat.reduceEqDiff, reduceCtorEq, Nat.reduceAdd, Nat.reduceLT, Nat.reduceLeDiff, Nat.reduceBNe, Nat.reduceBEq, Int.reduceToNat, aPer, Person.enc, trNa, fCode_eq, h3]
  refine aw_seq (aw_region (EF := EF0) hG (by rw [hN]; exact tr31_1) ?_)
  simp only [a31_1, go_sem, ↓reduceIte, Nat.reduceEqDiff, reduceCtorEq, Nat.reduceAdd, Nat.reduceLT, Nat.reduceLeDiff, Nat.reduceBNe, Nat.reduceBEq, Int.reduceToNat, trNa, fCode_eq, h3]
  (repeat' apply And.intro) <;> (try first | omega | (intros; (repeat' apply And.intro) <;> first | assumption | omega | (simp_all; done)))
  refine aw_ret ?_
  show Q _ _
  refine hQ _ _ (.inl rfl) ?_ ?_ ?_ <;> simp only [outφ, outV, AR.res, go_sem, ↓reduceIte, Nat.reduceEqDiff, reduceCtorEq, Nat.reduceAdd, Nat.reduceLT, Nat.reduceLeDiff, Nat.reduceBNe, Nat.reduceBEq, Int.reduceToNat, fTyp]
  rfl
/-! More infants than adults. -/
def fAlone (l : List Person) : Prop × V := (l.length ≤ 140737488355328, .bool (aloneB l))
theorem fAlone_eq (l : List Person) : gOf aPers fAlone [.list (l.map Person.enc) false] = (l.length ≤ 140737488355328, .bool (aloneB l)) := gOf_eq aPers_inj l
def balN (l : List Person) : Int := (infN l : Int) - (adN l : Int)
theorem bal_step {l : List Person} {i : Nat} (h : i < l.length) : balN (l.take (i + 1)) = balN (l.take i) + (if infB l[i] = true then 1 else 0) - (if adB l[i] = true then 1 else 0) := by
  unfold balN infN adN
  have h1 : ((l.take (i + 1)).filter infB).length = ((l.take i).filter infB).length + (if infB l[i] = true then 1 else 0) := by
    split
    · rename_i c; rw [cnt_t h c]
    · rename_i c; rw [cnt_f h (Bool.eq_false_iff.2 c)]; rfl
  have h2 : ((l.take (i + 1)).filter adB).length = ((l.take i).filter adB).length + (if adB l[i] = true then 1 else 0) := by
    split
    · rename_i c; rw [cnt_t h c]
    · rename_i c; rw [cnt_f h (Bool.eq_false_iff.2 c)]; rfl
  rw [h1, h2]
  split <;> split <;> omega
theorem bal_bd (l : List Person) : -(l.length : Int) ≤ balN l ∧ balN l ≤ l.length := by
  have h1 : infN l ≤ l.length := List.length_filter_le _ _
  have h2 : adN l ≤ l.length := List.length_filter_le _ _
  unfold balN; omega
theorem alone_bal (l : List Person) : decide (0 < balN l) = aloneB l := decide_eq_decide.2 (by unfold balN; omega)
theorem ad_inf {x : Person} (h : infB x = true) : adB x = false := by unfold adB; rw [h]; rfl
noncomputable def tAl : Tab
  | 33 => (gOf aPer fInf)
  | 40 => (gOf aPer fAd)
  | _ => gNo
theorem tAl_ok : ∀ f, PureC Tryd.prog UT f (tAl f) := fun f => by
  unfold tAl
  split
  · exact infant_p
  · exact adult_p
  · exact PureC.no
set_option maxHeartbeats 2000000 in
theorem alone_p : PureC Tryd.prog UT 28 (gOf aPers fAlone) := by
  have hG := tAl_ok
  refine PureC.ofArgs aPers_inj Tryd.func28 body28 nm28 res28 ?_
  rintro l hv
  refine ⟨by rw [nt28]; simp [aPers], fun C hN Q hQ => ?_⟩
  rw [nt28] at hN
  unfold c28
  replace hv : l.length ≤ 140737488355328 := hv
  refine aw_seq (aw_region (EF := EF0) hG (by rw [hN]; exact tr28_0) ?_)
  simp only [a28_0, go_sem, ↓reduceIte, Nat.reduceEqDiff, reduceCtorEq, Nat.reduceAdd, Nat.reduceLT, Nat.reduceLeDiff, Nat.reduceBNe, Nat.reduceBEq, Int.reduceToNat, aPers, tAl, fInf_eq, fAd_eq]
  refine aw_seq (aw_region (EF := EF0) hG (by rw [hN]; exact tr28_1) ?_)
  simp only [a28_1, go_sem, ↓reduceIte, Nat.reduceEqDiff, reduceCtorEq, Nat.reduceAdd, Nat.reduceLT, Nat.reduceLeDiff, Nat.reduceBNe, Nat.reduceBEq, Int.reduceToNat, tAl, fInf_eq, fAd_eq]
  refine aw_seq ?_
  refine aw_seq (aw_region (EF := EF0) hG (by rw [hN]; exact tr28_2) ?_)
  simp only [a28_2, go_sem, ↓reduceIte, Nat.reduceEqDiff, reduceCtorEq, Nat.reduceAdd, Nat.reduceLT, Nat.reduceLeDiff, Nat.reduceBNe, Nat.reduceBEq, Int.reduceToNat, tAl, fInf_eq, fAd_eq]
  refine aw_block ?_
  refine aw_loop (α := Nat) (fun i => (i ≤ l.length)) (fun i => ⟨mkE [(3, .int .i64 (balN (l.take i))), (6, V.list (List.map Person.enc l) false), (7, V.int IntKind.i64 ↑l.length), (8, .int .i64 i)], mkH []⟩) (fun i => l.length - i) 0 (by simp) ?_ ?_
  · refine Le.mk _ _ ?_ ?_ rfl <;> simp only [go_sem, ↓reduceIte, Nat.reduceEqDiff, reduceCtorEq, Nat.reduceAdd, Nat.reduceLT, Nat.reduceLeDiff, Nat.reduceBNe, Nat.reduceBEq, Int.reduceToNat] <;> (repeat' apply And.intro) <;> (try first | rfl | exact wk_frzb rfl rfl rfl | exact wk_fn rfl | exact .nilo _ _ _ rfl rfl)
  · rintro i hi KL0 hKL0
    try dsimp only at *
    refine aw_seq (aw_region (EF := EF0) hG (by rw [hN]; exact tr28_3) ?_)
    simp only [a28_3, go_sem, ↓reduceIte, Nat.reduceEqDiff, reduceCtorEq, Nat.reduceAdd, Nat.reduceLT, Nat.reduceLeDiff, Nat.reduceBNe, Nat.reduceBEq, Int.reduceToNat, tAl, fInf_eq, fAd_eq]
    refine aw_seq ?_
    refine aw_cond (b := _) rfl (fun hc3 => ?_) (fun hc3 => ?_)
    · simp only [decide_eq_true_eq, decide_eq_false_iff_not, Bool.and_eq_true, Bool.or_eq_true, Bool.not_eq_true', Bool.not_eq_false', Bool.and_eq_false_iff, Bool.or_eq_false_iff, Int.ofNat_lt, Int.ofNat_le, Nat.not_lt, Nat.not_le, Int.not_lt, Int.not_le] at hc3
      refine aw_skip ?_
      try simp only [go_sem, ↓reduceIte, Nat.reduceEqDiff, reduceCtorEq, Nat.reduceAdd, Nat.reduceLT, Nat.reduceLeDiff, Nat.reduceBNe, Nat.reduceBEq, Int.reduceToNat]
      refine aw_seq ?_
      refine aw_block ?_
      have hst := bal_step hc3
      have hbd := bal_bd (l.take i)
      rw [List.length_take] at hbd
      generalize balN (l.take i) = n at hst hbd
      generalize hxx : l[i] = x at hst
      obtain ⟨a, b, c⟩ := x
      refine aw_seq (aw_region (EF := EF0) hG (by rw [hN]; exact tr28_4) ?_)
      simp only [a28_4, go_sem, ↓reduceIte, Nat.reduceEqDiff, reduceCtorEq, Nat.reduceAdd, Nat.reduceLT, Nat.reduceLeDiff, Nat.reduceBNe, Nat.reduceBEq, Int.reduceToNat, getD_mapd _ _ _ _ hc3, hc3, hxx, Person.enc, tAl, fInf_eq, fAd_eq]
      (repeat' apply And.intro) <;> (try first | omega | (intros; (repeat' apply And.intro) <;> first | assumption | omega | (simp_all; done)))
      refine aw_cut (α := Int) (fun n2 => (n2 = n + (if infB ⟨a, b, c⟩ = true then 1 else 0))) (fun n2 => ⟨mkE [(3, .int .i64 n2), (5, V.ptr 5 0), (6, V.list (List.map Person.enc l) false), (7, V.int IntKind.i64 ↑l.length), (8, V.int IntKind.i64 ↑i)], mkH [(5, Ob.box 30 [V.str a, V.str b, V.str c])]⟩) ?_ ?_
      · intro KC5 hKC5
        refine aw_seq (aw_region (EF := EF0) hG (by rw [hN]; exact tr28_5) ?_)
        simp only [a28_5, go_sem, ↓reduceIte, Nat.reduceEqDiff, reduceCtorEq, Nat.reduceAdd, Nat.reduceLT, Nat.reduceLeDiff, Nat.reduceBNe, Nat.reduceBEq, Int.reduceToNat, tAl, fInf_eq, fAd_eq]
        (repeat' apply And.intro) <;> (try first | omega | (intros; (repeat' apply And.intro) <;> first | assumption | omega | (simp_all; done)))
        refine aw_cond (b := _) rfl (fun hb5 => ?_) (fun hb5 => ?_)
        · skip
          refine aw_region (EF := EF0) hG (by rw [hN]; exact tr28_6) ?_
          simp only [a28_6, go_sem, ↓reduceIte, Nat.reduceEqDiff, reduceCtorEq, Nat.reduceAdd, Nat.reduceLT, Nat.reduceLeDiff, Nat.reduceBNe, Nat.reduceBEq, Int.reduceToNat, inI, tAl, fInf_eq, fAd_eq]
          (repeat' apply And.intro) <;> (try first | omega | (intros; (repeat' apply And.intro) <;> first | assumption | omega | (simp_all; done)))
          refine hKC5 (n + 1) _ ?_ ?_
          · (try dsimp only); rw [if_pos hb5]
          · refine Le.mk _ _ ?_ ?_ rfl <;> simp only [go_sem, ↓reduceIte, Nat.reduceEqDiff, reduceCtorEq, Nat.reduceAdd, Nat.reduceLT, Nat.reduceLeDiff, Nat.reduceBNe, Nat.reduceBEq, Int.reduceToNat] <;> (repeat' apply And.intro) <;> (try first | rfl | exact wk_frzb rfl rfl rfl | exact wk_fn rfl | exact .nilo _ _ _ rfl rfl)
        · skip
          refine aw_skip ?_
          try simp only [go_sem, ↓reduceIte, Nat.reduceEqDiff, reduceCtorEq, Nat.reduceAdd, Nat.reduceLT, Nat.reduceLeDiff, Nat.reduceBNe, Nat.reduceBEq, Int.reduceToNat]
          refine hKC5 (n) _ ?_ ?_
          · (try dsimp only); rw [if_neg (by rw [hb5]; decide), Int.add_zero]
          · refine Le.mk _ _ ?_ ?_ rfl <;> simp only [go_sem, ↓reduceIte, Nat.reduceEqDiff, reduceCtorEq, Nat.reduceAdd, Nat.reduceLT, Nat.reduceLeDiff, Nat.reduceBNe, Nat.reduceBEq, Int.reduceToNat] <;> (repeat' apply And.intro) <;> (try first | rfl | exact wk_frzb rfl rfl rfl | exact wk_fn rfl | exact .nilo _ _ _ rfl rfl)
      · rintro n2 hn2
        have hn2b : n2 ≤ n + 1 ∧ n ≤ n2 := by rw [hn2]; split <;> omega
        refine aw_seq (aw_region (EF := EF0) hG (by rw [hN]; exact tr28_7) ?_)
        simp only [a28_7, go_sem, ↓reduceIte, Nat.reduceEqDiff, reduceCtorEq, Nat.reduceAdd, Nat.reduceLT, Nat.reduceLeDiff, Nat.reduceBNe, Nat.reduceBEq, Int.reduceToNat, tAl, fInf_eq, fAd_eq]
        (repeat' apply And.intro) <;> (try first | omega | (intros; (repeat' apply And.intro) <;> first | assumption | omega | (simp_all; done)))
        refine aw_cond (b := _) rfl (fun hb7 => ?_) (fun hb7 => ?_)
        · skip
          refine aw_region (EF := EF0) hG (by rw [hN]; exact tr28_8) ?_
          simp only [a28_8, go_sem, ↓reduceIte, Nat.reduceEqDiff, reduceCtorEq, Nat.reduceAdd, Nat.reduceLT, Nat.reduceLeDiff, Nat.reduceBNe, Nat.reduceBEq, Int.reduceToNat, inI, tAl, fInf_eq, fAd_eq]
          (repeat' apply And.intro) <;> (try first | omega | (intros; (repeat' apply And.intro) <;> first | assumption | omega | (simp_all; done)))
          refine aw_region (EF := EF0) hG (by rw [hN]; exact tr28_9) ?_
          simp only [a28_9, go_sem, ↓reduceIte, Nat.reduceEqDiff, reduceCtorEq, Nat.reduceAdd, Nat.reduceLT, Nat.reduceLeDiff, Nat.reduceBNe, Nat.reduceBEq, Int.reduceToNat, inI, tAl, fInf_eq, fAd_eq]
          (repeat' apply And.intro) <;> (try first | omega | (intros; (repeat' apply And.intro) <;> first | assumption | omega | (simp_all; done)))
          refine hKL0 (i + 1) _ ?_ ?_ ?_
          · (try dsimp only); exact hc3
          · (try dsimp only); omega
          · refine Le.mk _ _ ?_ ?_ rfl <;> simp only [go_sem, ↓reduceIte, Nat.reduceEqDiff, reduceCtorEq, Nat.reduceAdd, Nat.reduceLT, Nat.reduceLeDiff, Nat.reduceBNe, Nat.reduceBEq, Int.reduceToNat, hst, hb7, ← hn2] <;> (repeat' apply And.intro) <;> (try first | rfl | exact wk_frzb rfl rfl rfl | exact wk_fn rfl | exact .nilo _ _ _ rfl rfl)
        · skip
          refine aw_skip ?_
          try simp only [go_sem, ↓reduceIte, Nat.reduceEqDiff, reduceCtorEq, Nat.reduceAdd, Nat.reduceLT, Nat.reduceLeDiff, Nat.reduceBNe, Nat.reduceBEq, Int.reduceToNat]
          refine aw_region (EF := EF0) hG (by rw [hN]; exact tr28_9) ?_
          simp only [a28_9, go_sem, ↓reduceIte, Nat.reduceEqDiff, reduceCtorEq, Nat.reduceAdd, Nat.reduceLT, Nat.reduceLeDiff, Nat.reduceBNe, Nat.reduceBEq, Int.reduceToNat, inI, tAl, fInf_eq, fAd_eq]
          (repeat' apply And.intro) <;> (try first | omega | (intros; (repeat' apply And.intro) <;> first | assumption | omega | (simp_all; done)))
          refine hKL0 (i + 1) _ ?_ ?_ ?_
          · (try dsimp only); exact hc3
          · (try dsimp only); omega
          · refine Le.mk _ _ ?_ ?_ rfl <;> simp only [go_sem, ↓reduceIte, Nat.reduceEqDiff, reduceCtorEq, Nat.reduceAdd, Nat.reduceLT, Nat.reduceLeDiff, Nat.reduceBNe, Nat.reduceBEq, Int.reduceToNat, hst, hb7, ← hn2, Bool.false_eq_true, if_false, Int.sub_zero] <;> (repeat' apply And.intro) <;> (try first | rfl | exact wk_frzb rfl rfl rfl | exact wk_fn rfl | exact .nilo _ _ _ rfl rfl)
    · simp only [decide_eq_true_eq, decide_eq_false_iff_not, Bool.and_eq_true, Bool.or_eq_true, Bool.not_eq_true', Bool.not_eq_false', Bool.and_eq_false_iff, Bool.or_eq_false_iff, Int.ofNat_lt, Int.ofNat_le, Nat.not_lt, Nat.not_le, Int.not_lt, Int.not_le] at hc3
      refine aw_exit ?_
      simp only [go_sem, ↓reduceIte, Nat.reduceEqDiff, reduceCtorEq, Nat.reduceAdd, Nat.reduceLT, Nat.reduceLeDiff, Nat.reduceBNe, Nat.reduceBEq, Int.reduceToNat]
      refine aw_seq (aw_region (EF := EF0) hG (by rw [hN]; exact tr28_10) ?_)
      simp only [a28_10, go_sem, ↓reduceIte, Nat.reduceEqDiff, reduceCtorEq, Nat.reduceAdd, Nat.reduceLT, Nat.reduceLeDiff, Nat.reduceBNe, Nat.reduceBEq, Int.reduceToNat, List.take_of_length_le hc3, alone_bal, tAl, fInf_eq, fAd_eq]
      refine aw_ret ?_
      show Q _ _
      refine hQ _ _ (.inl rfl) ?_ ?_ ?_ <;> simp only [outφ, outV, AR.res, go_sem, ↓reduceIte, Nat.reduceEqDiff, reduceCtorEq, Nat.reduceAdd, Nat.reduceLT, Nat.reduceLeDiff, Nat.reduceBNe, Nat.reduceBEq, Int.reduceToNat, fAlone]
end Go.Proofs.YtbakkdnhbeldcaaDoor
