/- Texts of airports and countries; zones. -/
import Derived.Test.YtailckanpheciaaDoorPl2
namespace Go.Proofs.YtailckanpheciaaDoor
open Go Go.RowKit
set_option linter.unusedSimpArgs false
set_option linter.unusedVariables false
set_option linter.deprecated false
/-- So many capital letters. -/
def capsB (n : Int) (s : List UInt8) : Bool := decide ((s.length : Int) = n) && allB capB s
def aStr (x : List UInt8) : List V := [.str x]
theorem aStr_inj (a b : List UInt8) (h : aStr a = aStr b) : a = b := by
  simp only [aStr, List.cons.injEq, V.str.injEq, V.int.injEq, V.bool.injEq, V.agg.injEq, V.list.injEq, and_true, true_and] at h
  have h0 := h
  subst h0
  rfl
def fCaps (n : Int) (s : List UInt8) : Prop × V := (s.length ≤ 140737488355328, .bool (capsB n s))
theorem fCaps_eq (n : Int) (s : List UInt8) : gOf aStr (fCaps n) [.str s] = (s.length ≤ 140737488355328, .bool (capsB n s)) := gOf_eq aStr_inj s
noncomputable def tTx : Tab
  | 42 => gEvery
  | _ => gNo
theorem tTx_ok : ∀ f, PureC Tryd.prog UT f (tTx f) := fun f => by
  unfold tTx
  split
  · exact every_p
  · exact PureC.no
theorem tcountry_p : PureC Tryd.prog UT 24 (gOf aStr (fCaps 2)) := by
  have hG := tTx_ok
  refine PureC.ofArgs aStr_inj Tryd.func24 body24 nm24 res24 ?_
  rintro s hv
  refine ⟨by rw [nt24]; simp [aStr], fun C hN Q hQ => ?_⟩
  rw [nt24] at hN
  unfold c24
  replace hv : s.length ≤ 140737488355328 := hv
  refine aw_seq (aw_region (EF := EF0) hG (by rw [hN]; exact tr24_0) ?_)
  simp only [a24_0, go_sem, ↓reduceIte, Nat.reduceEqDiff, reduceCtorEq, Nat.reduceAdd, Nat.reduceLT, Nat.reduceLeDiff, Nat.reduceBNe, Nat.reduceBEq, Int.reduceToNat, aStr]
  refine aw_seq (aw_region (EF := EF0) hG (by rw [hN]; exact tr24_1) ?_)
  simp only [a24_1, go_sem, ↓reduceIte, Nat.reduceEqDiff, reduceCtorEq, Nat.reduceAdd, Nat.reduceLT, Nat.reduceLeDiff, Nat.reduceBNe, Nat.reduceBEq, Int.reduceToNat, tTx, gEvery, fOf, hv]
  (repeat' apply And.intro) <;> (try first | omega | (intros; (repeat' apply And.intro) <;> first | assumption | omega | (simp_all; done)))
  refine aw_ret ?_
  show Q _ _
  refine hQ _ _ (.inl rfl) ?_ ?_ ?_ <;> simp only [outφ, outV, AR.res, go_sem, ↓reduceIte, Nat.reduceEqDiff, reduceCtorEq, Nat.reduceAdd, Nat.reduceLT, Nat.reduceLeDiff, Nat.reduceBNe, Nat.reduceBEq, Int.reduceToNat, fCaps, capsB]
noncomputable def trTx : Tab
  | 68 => gLetters
  | _ => gNo
theorem trTx_ok : ∀ f, PureC Tryd.prog UT f (trTx f) := fun f => by
  unfold trTx
  split
  · exact rletters_p
  · exact PureC.no
theorem rairport_p : PureC Tryd.prog UT 69 (gOf aStr (fCaps 3)) := by
  have hG := trTx_ok
  refine PureC.ofArgs aStr_inj Tryd.func69 body69 nm69 res69 ?_
  rintro s hv
  refine ⟨by rw [nt69]; simp [aStr], fun C hN Q hQ => ?_⟩
  rw [nt69] at hN
  unfold c69
  replace hv : s.length ≤ 140737488355328 := hv
  refine aw_seq (aw_region (EF := EF0) hG (by rw [hN]; exact tr69_0) ?_)
  simp only [a69_0, go_sem, ↓reduceIte, Nat.reduceEqDiff, reduceCtorEq, Nat.reduceAdd, Nat.reduceLT, Nat.reduceLeDiff, Nat.reduceBNe, Nat.reduceBEq, Int.reduceToNat, aStr]
  refine aw_seq (aw_region (EF := EF0) hG (by rw [hN]; exact tr69_1) ?_)
  simp only [a69_1, go_sem, ↓reduceIte, Nat.reduceEqDiff, reduceCtorEq, Nat.reduceAdd, Nat.reduceLT, Nat.reduceLeDiff, Nat.reduceBNe, Nat.reduceBEq, Int.reduceToNat, trTx, gLetters, hv]
  (repeat' apply And.intro) <;> (try first | omega | (intros; (repeat' apply And.intro) <;> first | assumption | omega | (simp_all; done)))
  refine aw_ret ?_
  show Q _ _
  refine hQ _ _ (.inl rfl) ?_ ?_ ?_ <;> simp only [outφ, outV, AR.res, go_sem, ↓reduceIte, Nat.reduceEqDiff, reduceCtorEq, Nat.reduceAdd, Nat.reduceLT, Nat.reduceLeDiff, Nat.reduceBNe, Nat.reduceBEq, Int.reduceToNat, fCaps, capsB]
  rw [Bool.and_comm]
theorem rtcountry_p : PureC Tryd.prog UT 49 (gOf aStr (fCaps 2)) := by
  have hG := trTx_ok
  refine PureC.ofArgs aStr_inj Tryd.func49 body49 nm49 res49 ?_
  rintro s hv
  refine ⟨by rw [nt49]; simp [aStr], fun C hN Q hQ => ?_⟩
  rw [nt49] at hN
  unfold c49
  replace hv : s.length ≤ 140737488355328 := hv
  refine aw_seq (aw_region (EF := EF0) hG (by rw [hN]; exact tr49_0) ?_)
  simp only [a49_0, go_sem, ↓reduceIte, Nat.reduceEqDiff, reduceCtorEq, Nat.reduceAdd, Nat.reduceLT, Nat.reduceLeDiff, Nat.reduceBNe, Nat.reduceBEq, Int.reduceToNat, aStr]
  refine aw_seq (aw_region (EF := EF0) hG (by rw [hN]; exact tr49_1) ?_)
  simp only [a49_1, go_sem, ↓reduceIte, Nat.reduceEqDiff, reduceCtorEq, Nat.reduceAdd, Nat.reduceLT, Nat.reduceLeDiff, Nat.reduceBNe, Nat.reduceBEq, Int.reduceToNat, trTx, gLetters, hv]
  (repeat' apply And.intro) <;> (try first | omega | (intros; (repeat' apply And.intro) <;> first | assumption | omega | (simp_all; done)))
  refine aw_ret ?_
  show Q _ _
  refine hQ _ _ (.inl rfl) ?_ ?_ ?_ <;> simp only [outφ, outV, AR.res, go_sem, ↓reduceIte, Nat.reduceEqDiff, reduceCtorEq, Nat.reduceAdd, Nat.reduceLT, Nat.reduceLeDiff, Nat.reduceBNe, Nat.reduceBEq, Int.reduceToNat, fCaps, capsB]
  rw [Bool.and_comm]
/-! Zones. -/
def offR (n : Int) : Bool := decide (-840 ≤ n) && decide (n ≤ 840)
def aInt (x : Int) : List V := [.int .i64 x]
theorem aInt_inj (a b : Int) (h : aInt a = aInt b) : a = b := by
  simp only [aInt, List.cons.injEq, V.str.injEq, V.int.injEq, V.bool.injEq, V.agg.injEq, V.list.injEq, and_true, true_and] at h
  have h0 := h
  subst h0
  rfl
def fOff (n : Int) : Prop × V := (True, .bool (offR n))
theorem fOff_eq (n : Int) : gOf aInt fOff [.int .i64 n] = (True, .bool (offR n)) := gOf_eq aInt_inj n
theorem roff_p : PureC Tryd.prog UT 77 (gOf aInt fOff) := by
  have hG := tNo_ok
  refine PureC.ofArgs aInt_inj Tryd.func77 body77 nm77 res77 ?_
  rintro n hv
  refine ⟨by rw [nt77]; simp [aInt], fun C hN Q hQ => ?_⟩
  rw [nt77] at hN
  unfold c77
  refine aw_seq (aw_region (EF := EF0) hG (by rw [hN]; exact tr77_0) ?_)
  simp only [a77_0, go_sem, ↓reduceIte, Nat.reduceEqDiff, reduceCtorEq, Nat.reduceAdd, Nat.reduceLT, Nat.reduceLeDiff, Nat.reduceBNe, Nat.reduceBEq, Int.reduceToNat, aInt]
  refine aw_seq (aw_region (EF := EF0) hG (by rw [hN]; exact tr77_1) ?_)
  simp only [a77_1, go_sem, ↓reduceIte, Nat.reduceEqDiff, reduceCtorEq, Nat.reduceAdd, Nat.reduceLT, Nat.reduceLeDiff, Nat.reduceBNe, Nat.reduceBEq, Int.reduceToNat]
  (repeat' apply And.intro) <;> (try first | omega | (intros; (repeat' apply And.intro) <;> first | assumption | omega | (simp_all; done)))
  refine aw_ret ?_
  show Q _ _
  refine hQ _ _ (.inl rfl) ?_ ?_ ?_ <;> simp only [outφ, outV, AR.res, go_sem, ↓reduceIte, Nat.reduceEqDiff, reduceCtorEq, Nat.reduceAdd, Nat.reduceLT, Nat.reduceLeDiff, Nat.reduceBNe, Nat.reduceBEq, Int.reduceToNat, fOff, offR]
def atB (n : Int) : Bool := decide (n < 0) || decide (52596000 ≤ n)
def shiftBad (l : List Shift) (i : Nat) : Bool := atB (l.getD i Shift.zero).at' || (decide (0 < i) && decide ((l.getD i Shift.zero).at' - (l.getD (i - 1) Shift.zero).at' < 2880))
def shiftErr (l : List Shift) (i : Nat) : Int := if shiftBad l i then 13 else if offR (l.getD i Shift.zero).offset then 0 else 2
def zFrom (l : List Shift) : Nat → Nat → Int
  | 0, _ => 0
  | f + 1, i => if shiftErr l i = 0 then zFrom l f (i + 1) else shiftErr l i
def zErr (z : Zone) : Int := if 256 < z.shifts.length then 4 else if offR z.offset then zFrom z.shifts z.shifts.length 0 else 2
theorem zFrom_ok {l : List Shift} {i : Nat} (hi : i < l.length) (h1 : shiftBad l i = false) (h2 : offR l[i].offset = true) : zFrom l (l.length - i) i = zFrom l (l.length - (i + 1)) (i + 1) := by
  obtain ⟨m, hm⟩ : ∃ m, l.length - i = m + 1 := ⟨l.length - i - 1, by omega⟩
  have e : shiftErr l i = 0 := by unfold shiftErr; rw [h1, getD_lt _ _ _ hi, h2]; rfl
  rw [hm, zFrom, if_pos e, show l.length - (i + 1) = m by omega]
theorem zFrom_bad {l : List Shift} {i : Nat} (hi : i < l.length) (h1 : shiftBad l i = true) : zFrom l (l.length - i) i = 13 := by
  obtain ⟨m, hm⟩ : ∃ m, l.length - i = m + 1 := ⟨l.length - i - 1, by omega⟩
  have e : shiftErr l i = 13 := by unfold shiftErr; rw [h1]; rfl
  rw [hm, zFrom, e]; rfl
theorem zFrom_off {l : List Shift} {i : Nat} (hi : i < l.length) (h1 : shiftBad l i = false) (h2 : offR l[i].offset = false) : zFrom l (l.length - i) i = 2 := by
  obtain ⟨m, hm⟩ : ∃ m, l.length - i = m + 1 := ⟨l.length - i - 1, by omega⟩
  have e : shiftErr l i = 2 := by unfold shiftErr; rw [h1, getD_lt _ _ _ hi, h2]; rfl
  rw [hm, zFrom, e]; rfl
theorem bad_at {l : List Shift} {i : Nat} (hi : i < l.length) (hz : 0 < i) : shiftBad l i = (decide (l[i].at' < 0) || decide (52596000 ≤ l[i].at') || decide (l[i].at' - l[i - 1].at' < 2880)) := by
  unfold shiftBad atB; rw [getD_lt _ _ _ hi, getD_lt _ _ _ (by omega), decide_eq_true hz, Bool.true_and]
theorem bad_0 {l : List Shift} {i : Nat} (hi : i < l.length) (hz : ¬ 0 < i) : shiftBad l i = (decide (l[i].at' < 0) || decide (52596000 ≤ l[i].at')) := by
  unfold shiftBad atB; rw [getD_lt _ _ _ hi, decide_eq_false hz, Bool.false_and, Bool.or_false]
theorem at_ok {l : List Shift} {i : Nat} (hi : i < l.length) (h : shiftBad l i = false) : 0 ≤ l[i].at' ∧ l[i].at' < 52596000 := by
  unfold shiftBad atB at h; rw [getD_lt _ _ _ hi] at h
  simp only [Bool.or_eq_false_iff, decide_eq_false_iff_not] at h
  omega
def aZone (x : Zone) : List V := [.agg x.enc]
theorem aZone_inj (a b : Zone) (h : aZone a = aZone b) : a = b := by
  simp only [aZone, List.cons.injEq, V.str.injEq, V.int.injEq, V.bool.injEq, V.agg.injEq, V.list.injEq, and_true, true_and] at h
  have h0 := h
  replace h0 := Zone.inj _ _ h0
  subst h0
  rfl
def fZone (z : Zone) : Prop × V := (z.ok, .int .i64 (zErr z))
noncomputable def trZ : Tab
  | 77 => (gOf aInt fOff)
  | _ => gNo
theorem trZ_ok : ∀ f, PureC Tryd.prog UT f (trZ f) := fun f => by
  unfold trZ
  split
  · exact roff_p
  · exact PureC.no
set_option maxHeartbeats 2000000 in
theorem rzone_p : PureC Tryd.prog UT 70 (gOf aZone fZone) := by
  have hG := trZ_ok
  refine PureC.ofArgs aZone_inj Tryd.func70 body70 nm70 res70 ?_
  rintro ⟨zo, sh⟩ hv
  refine ⟨by rw [nt70]; simp [aZone], fun C hN Q hQ => ?_⟩
  rw [nt70] at hN
  unfold c70
  obtain ⟨hzo, hsl, hss⟩ : (⟨zo, sh⟩ : Zone).ok := hv
  dsimp only at hzo hsl hss
  refine aw_seq (aw_region (EF := EF0) hG (by rw [hN]; exact tr70_0) ?_)
  simp only [a70_0, go_sem, ↓reduceIte, Nat.reduceEqDiff, reduceCtorEq, Nat.reduceAdd, Nat.reduceLT, Nat.reduceLeDiff, Nat.reduceBNe, Nat.reduceBEq, Int.reduceToNat, aZone, Zone.enc, trZ, fOff_eq]
  refine aw_seq ?_
  refine aw_seq (aw_region (EF := EF0) hG (by rw [hN]; exact tr70_1) ?_)
  simp only [a70_1, go_sem, ↓reduceIte, Nat.reduceEqDiff, reduceCtorEq, Nat.reduceAdd, Nat.reduceLT, Nat.reduceLeDiff, Nat.reduceBNe, Nat.reduceBEq, Int.reduceToNat, trZ, fOff_eq]
  refine aw_cond (b := _) rfl (fun hc1 => ?_) (fun hc1 => ?_)
  · simp only [decide_eq_true_eq, decide_eq_false_iff_not, Bool.and_eq_true, Bool.or_eq_true, Bool.not_eq_true', Bool.not_eq_false', Bool.and_eq_false_iff, Bool.or_eq_false_iff, Int.ofNat_lt, Int.ofNat_le, Nat.not_lt, Nat.not_le, Int.not_lt, Int.not_le] at hc1
    refine aw_seq (aw_region (EF := EF0) hG (by rw [hN]; exact tr70_2) ?_)
    simp only [a70_2, go_sem, ↓reduceIte, Nat.reduceEqDiff, reduceCtorEq, Nat.reduceAdd, Nat.reduceLT, Nat.reduceLeDiff, Nat.reduceBNe, Nat.reduceBEq, Int.reduceToNat, trZ, fOff_eq]
    refine aw_ret ?_
    show Q _ _
    refine hQ _ _ (.inl rfl) ?_ ?_ ?_ <;> simp only [outφ, outV, AR.res, go_sem, ↓reduceIte, Nat.reduceEqDiff, reduceCtorEq, Nat.reduceAdd, Nat.reduceLT, Nat.reduceLeDiff, Nat.reduceBNe, Nat.reduceBEq, Int.reduceToNat, fZone]
    unfold zErr; rw [if_pos (by dsimp only; omega)]
  · simp only [decide_eq_true_eq, decide_eq_false_iff_not, Bool.and_eq_true, Bool.or_eq_true, Bool.not_eq_true', Bool.not_eq_false', Bool.and_eq_false_iff, Bool.or_eq_false_iff, Int.ofNat_lt, Int.ofNat_le, Nat.not_lt, Nat.not_le, Int.not_lt, Int.not_le] at hc1
    refine aw_skip ?_
    try simp only [go_sem, ↓reduceIte, Nat.reduceEqDiff, reduceCtorEq, Nat.reduceAdd, Nat.reduceLT, Nat.reduceLeDiff, Nat.reduceBNe, Nat.reduceBEq, Int.reduceToNat]
    refine aw_seq ?_
    refine aw_seq (aw_region (EF := EF0) hG (by rw [hN]; exact tr70_3) ?_)
    simp only [a70_3, go_sem, ↓reduceIte, Nat.reduceEqDiff, reduceCtorEq, Nat.reduceAdd, Nat.reduceLT, Nat.reduceLeDiff, Nat.reduceBNe, Nat.reduceBEq, Int.reduceToNat, trZ, fOff_eq]
    (repeat' apply And.intro) <;> (try first | omega | (intros; (repeat' apply And.intro) <;> first | assumption | omega | (simp_all; done)))
    refine aw_cond (b := _) rfl (fun hb3 => ?_) (fun hb3 => ?_)
    · skip
      refine aw_seq (aw_region (EF := EF0) hG (by rw [hN]; exact tr70_4) ?_)
      simp only [a70_4, go_sem, ↓reduceIte, Nat.reduceEqDiff, reduceCtorEq, Nat.reduceAdd, Nat.reduceLT, Nat.reduceLeDiff, Nat.reduceBNe, Nat.reduceBEq, Int.reduceToNat, trZ, fOff_eq]
      refine aw_ret ?_
      show Q _ _
      refine hQ _ _ (.inl rfl) ?_ ?_ ?_ <;> simp only [outφ, outV, AR.res, go_sem, ↓reduceIte, Nat.reduceEqDiff, reduceCtorEq, Nat.reduceAdd, Nat.reduceLT, Nat.reduceLeDiff, Nat.reduceBNe, Nat.reduceBEq, Int.reduceToNat, fZone]
      unfold zErr; rw [if_neg (by dsimp only; omega), if_neg (by simpa using hb3)]
    · skip
      refine aw_skip ?_
      try simp only [go_sem, ↓reduceIte, Nat.reduceEqDiff, reduceCtorEq, Nat.reduceAdd, Nat.reduceLT, Nat.reduceLeDiff, Nat.reduceBNe, Nat.reduceBEq, Int.reduceToNat]
      refine aw_seq ?_
      have hze : zErr ⟨zo, sh⟩ = zFrom sh (sh.length - 0) 0 := by unfold zErr; rw [if_neg (by dsimp only; omega), if_pos (by simpa using hb3)]; rfl
      refine aw_seq (aw_region (EF := EF0) hG (by rw [hN]; exact tr70_5) ?_)
      simp only [a70_5, go_sem, ↓reduceIte, Nat.reduceEqDiff, reduceCtorEq, Nat.reduceAdd, Nat.reduceLT, Nat.reduceLeDiff, Nat.reduceBNe, Nat.reduceBEq, Int.reduceToNat, trZ, fOff_eq]
      refine aw_block ?_
      refine aw_loop (α := Nat) (fun i => (i ≤ sh.length) ∧ (zErr ⟨zo, sh⟩ = zFrom sh (sh.length - i) i) ∧ (∀ j (hj : j < sh.length), j < i → 0 ≤ sh[j].at' ∧ sh[j].at' < 52596000)) (fun i => ⟨mkE [(1, V.ptr 1 0), (3, .int .i64 i)], mkH [(1, Ob.box 79 [V.int IntKind.i64 zo, V.list (List.map Shift.enc sh) false])]⟩) (fun i => sh.length - i) 0 ⟨Nat.zero_le _, hze, fun j _ hj => absurd hj (Nat.not_lt_zero _)⟩ ?_ ?_
      · refine Le.mk _ _ ?_ ?_ rfl <;> simp only [go_sem, ↓reduceIte, Nat.reduceEqDiff, reduceCtorEq, Nat.reduceAdd, Nat.reduceLT, Nat.reduceLeDiff, Nat.reduceBNe, Nat.reduceBEq, Int.reduceToNat] <;> (repeat' apply And.intro) <;> (try first | rfl | exact wk_frzb rfl rfl rfl | exact wk_fn rfl | exact .nilo _ _ _ rfl rfl)
      · rintro i ⟨hi, hinv, hpr⟩ KL0 hKL0
        try dsimp only at *
        refine aw_seq ?_
        refine aw_seq (aw_region (EF := EF0) hG (by rw [hN]; exact tr70_6) ?_)
        simp only [a70_6, go_sem, ↓reduceIte, Nat.reduceEqDiff, reduceCtorEq, Nat.reduceAdd, Nat.reduceLT, Nat.reduceLeDiff, Nat.reduceBNe, Nat.reduceBEq, Int.reduceToNat, trZ, fOff_eq]
        refine aw_cond (b := _) rfl (fun hc6 => ?_) (fun hc6 => ?_)
        · simp only [decide_eq_true_eq, decide_eq_false_iff_not, Bool.and_eq_true, Bool.or_eq_true, Bool.not_eq_true', Bool.not_eq_false', Bool.and_eq_false_iff, Bool.or_eq_false_iff, Int.ofNat_lt, Int.ofNat_le, Nat.not_lt, Nat.not_le, Int.not_lt, Int.not_le] at hc6
          refine aw_skip ?_
          try simp only [go_sem, ↓reduceIte, Nat.reduceEqDiff, reduceCtorEq, Nat.reduceAdd, Nat.reduceLT, Nat.reduceLeDiff, Nat.reduceBNe, Nat.reduceBEq, Int.reduceToNat]
          refine aw_seq ?_
          refine aw_block ?_
          refine aw_seq (aw_region (EF := EF0) hG (by rw [hN]; exact tr70_8) ?_)
          simp only [a70_8, go_sem, ↓reduceIte, Nat.reduceEqDiff, reduceCtorEq, Nat.reduceAdd, Nat.reduceLT, Nat.reduceLeDiff, Nat.reduceBNe, Nat.reduceBEq, Int.reduceToNat, getD_mapd _ _ _ _ hc6, hc6, Shift.enc, trZ, fOff_eq]
          (repeat' apply And.intro) <;> (try first | omega | (intros; (repeat' apply And.intro) <;> first | assumption | omega | (simp_all; done)))
          refine aw_seq ?_
          by_cases hz : 0 < i
          · skip
            have hzi : ((0 : Int) < (i : Int)) = True := eq_true (by omega)
            have hj1 : i - 1 < sh.length := by omega
            have hpj := hpr (i - 1) hj1 (by omega)
            have e1 : (i : Int) - 1 = ((i - 1 : Nat) : Int) := by omega
            have hsb := bad_at hc6 hz
            refine aw_seq (aw_regionD (EF := EF0) hG mixed (by rw [hN]; exact tr70_9) ok70_9 ?_)
            simp only [a70_9, d70_9, go_sem, ↓reduceIte, Nat.reduceEqDiff, reduceCtorEq, Nat.reduceAdd, Nat.reduceLT, Nat.reduceLeDiff, Nat.reduceBNe, Nat.reduceBEq, Int.reduceToNat, inI, hzi, trZ, fOff_eq, e1, getD_mapd _ _ _ _ hj1, hj1, Shift.enc]
            (repeat' apply And.intro) <;> (try first | omega | (intros; (repeat' apply And.intro) <;> first | assumption | omega | (simp_all; done)) | (intro h; refine ⟨h, ?_, ?_⟩ <;> (simp only [Bool.not_eq_true', Bool.or_eq_false_iff, decide_eq_false_iff_not] at h; omega)))
            refine aw_cond (b := _) rfl (fun hb => ?_) (fun hb => ?_)
            · skip
              refine aw_seq (aw_region (EF := EF0) hG (by rw [hN]; exact tr70_10) ?_)
              simp only [a70_10, go_sem, ↓reduceIte, Nat.reduceEqDiff, reduceCtorEq, Nat.reduceAdd, Nat.reduceLT, Nat.reduceLeDiff, Nat.reduceBNe, Nat.reduceBEq, Int.reduceToNat, trZ, fOff_eq]
              refine aw_ret ?_
              show Q _ _
              refine hQ _ _ (.inl rfl) ?_ ?_ ?_ <;> simp only [outφ, outV, AR.res, go_sem, ↓reduceIte, Nat.reduceEqDiff, reduceCtorEq, Nat.reduceAdd, Nat.reduceLT, Nat.reduceLeDiff, Nat.reduceBNe, Nat.reduceBEq, Int.reduceToNat, fZone]
              rw [hinv, zFrom_bad hc6 (hsb.trans hb)]
            · skip
              refine aw_skip ?_
              try simp only [go_sem, ↓reduceIte, Nat.reduceEqDiff, reduceCtorEq, Nat.reduceAdd, Nat.reduceLT, Nat.reduceLeDiff, Nat.reduceBNe, Nat.reduceBEq, Int.reduceToNat]
              refine aw_seq (aw_region (EF := EF0) hG (by rw [hN]; exact tr70_11) ?_)
              simp only [a70_11, go_sem, ↓reduceIte, Nat.reduceEqDiff, reduceCtorEq, Nat.reduceAdd, Nat.reduceLT, Nat.reduceLeDiff, Nat.reduceBNe, Nat.reduceBEq, Int.reduceToNat, trZ, fOff_eq]
              (repeat' apply And.intro) <;> (try first | omega | (intros; (repeat' apply And.intro) <;> first | assumption | omega | (simp_all; done)))
              refine aw_cond (b := _) rfl (fun hbo => ?_) (fun hbo => ?_)
              · skip
                refine aw_seq (aw_region (EF := EF0) hG (by rw [hN]; exact tr70_12) ?_)
                simp only [a70_12, go_sem, ↓reduceIte, Nat.reduceEqDiff, reduceCtorEq, Nat.reduceAdd, Nat.reduceLT, Nat.reduceLeDiff, Nat.reduceBNe, Nat.reduceBEq, Int.reduceToNat, trZ, fOff_eq]
                refine aw_ret ?_
                show Q _ _
                refine hQ _ _ (.inl rfl) ?_ ?_ ?_ <;> simp only [outφ, outV, AR.res, go_sem, ↓reduceIte, Nat.reduceEqDiff, reduceCtorEq, Nat.reduceAdd, Nat.reduceLT, Nat.reduceLeDiff, Nat.reduceBNe, Nat.reduceBEq, Int.reduceToNat, fZone]
                rw [hinv, zFrom_off hc6 (hsb.trans hb) (by simpa using hbo)]
              · skip
                refine aw_skip ?_
                try simp only [go_sem, ↓reduceIte, Nat.reduceEqDiff, reduceCtorEq, Nat.reduceAdd, Nat.reduceLT, Nat.reduceLeDiff, Nat.reduceBNe, Nat.reduceBEq, Int.reduceToNat]
                refine aw_region (EF := EF0) hG (by rw [hN]; exact tr70_7) ?_
                simp only [a70_7, go_sem, ↓reduceIte, Nat.reduceEqDiff, reduceCtorEq, Nat.reduceAdd, Nat.reduceLT, Nat.reduceLeDiff, Nat.reduceBNe, Nat.reduceBEq, Int.reduceToNat, inI, trZ, fOff_eq]
                (repeat' apply And.intro) <;> (try first | omega | (intros; (repeat' apply And.intro) <;> first | assumption | omega | (simp_all; done)))
                refine hKL0 (i + 1) _ ?_ ?_ ?_
                · (try dsimp only); refine ⟨hc6, by rw [hinv, zFrom_ok hc6 (hsb.trans hb) (by simpa using hbo)], fun j hj hji => ?_⟩; by_cases e : j = i; (subst e; exact at_ok hj (hsb.trans hb)); (exact hpr j hj (by omega))
                · (try dsimp only); omega
                · refine Le.mk _ _ ?_ ?_ rfl <;> simp only [go_sem, ↓reduceIte, Nat.reduceEqDiff, reduceCtorEq, Nat.reduceAdd, Nat.reduceLT, Nat.reduceLeDiff, Nat.reduceBNe, Nat.reduceBEq, Int.reduceToNat] <;> (repeat' apply And.intro) <;> (try first | rfl | exact wk_frzb rfl rfl rfl | exact wk_fn rfl | exact .nilo _ _ _ rfl rfl)
          · skip
            have hzi : ((0 : Int) < (i : Int)) = False := eq_false (by omega)
            have hsb := bad_0 hc6 hz
            obtain rfl : i = 0 := by omega
            have e0 : ((0 : Int) - 1).toNat = 0 := rfl
            refine aw_seq (aw_regionD (EF := EF0) hG mixed (by rw [hN]; exact tr70_9) ok70_9 ?_)
            simp only [a70_9, d70_9, go_sem, ↓reduceIte, Nat.reduceEqDiff, reduceCtorEq, Nat.reduceAdd, Nat.reduceLT, Nat.reduceLeDiff, Nat.reduceBNe, Nat.reduceBEq, Int.reduceToNat, inI, hzi, trZ, fOff_eq, e0, Int.lt_irrefl, Nat.lt_irrefl, getD_mapd _ _ _ _ hc6, hc6, Shift.enc]
            (repeat' apply And.intro) <;> (try first | omega | (intros; (repeat' apply And.intro) <;> first | assumption | omega | (simp_all; done)) | (intro h; refine ⟨h, ?_, ?_⟩ <;> (simp only [Bool.not_eq_true', Bool.or_eq_false_iff, decide_eq_false_iff_not] at h; omega)))
            refine aw_cond (b := _) rfl (fun hb => ?_) (fun hb => ?_)
            · skip
              refine aw_seq (aw_region (EF := EF0) hG (by rw [hN]; exact tr70_10) ?_)
              simp only [a70_10, go_sem, ↓reduceIte, Nat.reduceEqDiff, reduceCtorEq, Nat.reduceAdd, Nat.reduceLT, Nat.reduceLeDiff, Nat.reduceBNe, Nat.reduceBEq, Int.reduceToNat, trZ, fOff_eq]
              refine aw_ret ?_
              show Q _ _
              refine hQ _ _ (.inl rfl) ?_ ?_ ?_ <;> simp only [outφ, outV, AR.res, go_sem, ↓reduceIte, Nat.reduceEqDiff, reduceCtorEq, Nat.reduceAdd, Nat.reduceLT, Nat.reduceLeDiff, Nat.reduceBNe, Nat.reduceBEq, Int.reduceToNat, fZone]
              rw [hinv, zFrom_bad hc6 (hsb.trans hb)]
            · skip
              refine aw_skip ?_
              try simp only [go_sem, ↓reduceIte, Nat.reduceEqDiff, reduceCtorEq, Nat.reduceAdd, Nat.reduceLT, Nat.reduceLeDiff, Nat.reduceBNe, Nat.reduceBEq, Int.reduceToNat]
              refine aw_seq (aw_region (EF := EF0) hG (by rw [hN]; exact tr70_11) ?_)
              simp only [a70_11, go_sem, ↓reduceIte, Nat.reduceEqDiff, reduceCtorEq, Nat.reduceAdd, Nat.reduceLT, Nat.reduceLeDiff, Nat.reduceBNe, Nat.reduceBEq, Int.reduceToNat, trZ, fOff_eq]
              (repeat' apply And.intro) <;> (try first | omega | (intros; (repeat' apply And.intro) <;> first | assumption | omega | (simp_all; done)))
              refine aw_cond (b := _) rfl (fun hbo => ?_) (fun hbo => ?_)
              · skip
                refine aw_seq (aw_region (EF := EF0) hG (by rw [hN]; exact tr70_12) ?_)
                simp only [a70_12, go_sem, ↓reduceIte, Nat.reduceEqDiff, reduceCtorEq, Nat.reduceAdd, Nat.reduceLT, Nat.reduceLeDiff, Nat.reduceBNe, Nat.reduceBEq, Int.reduceToNat, trZ, fOff_eq]
                refine aw_ret ?_
                show Q _ _
                refine hQ _ _ (.inl rfl) ?_ ?_ ?_ <;> simp only [outφ, outV, AR.res, go_sem, ↓reduceIte, Nat.reduceEqDiff, reduceCtorEq, Nat.reduceAdd, Nat.reduceLT, Nat.reduceLeDiff, Nat.reduceBNe, Nat.reduceBEq, Int.reduceToNat, fZone]
                rw [hinv, zFrom_off hc6 (hsb.trans hb) (by simpa using hbo)]
              · skip
                refine aw_skip ?_
                try simp only [go_sem, ↓reduceIte, Nat.reduceEqDiff, reduceCtorEq, Nat.reduceAdd, Nat.reduceLT, Nat.reduceLeDiff, Nat.reduceBNe, Nat.reduceBEq, Int.reduceToNat]
                refine aw_region (EF := EF0) hG (by rw [hN]; exact tr70_7) ?_
                simp only [a70_7, go_sem, ↓reduceIte, Nat.reduceEqDiff, reduceCtorEq, Nat.reduceAdd, Nat.reduceLT, Nat.reduceLeDiff, Nat.reduceBNe, Nat.reduceBEq, Int.reduceToNat, inI, trZ, fOff_eq]
                (repeat' apply And.intro) <;> (try first | omega | (intros; (repeat' apply And.intro) <;> first | assumption | omega | (simp_all; done)))
                refine hKL0 (0 + 1) _ ?_ ?_ ?_
                · (try dsimp only); refine ⟨hc6, by rw [hinv, zFrom_ok hc6 (hsb.trans hb) (by simpa using hbo)], fun j hj hji => ?_⟩; (obtain rfl : j = 0 := by omega); exact at_ok hj (hsb.trans hb)
                · (try dsimp only); omega
                · refine Le.mk _ _ ?_ ?_ rfl <;> simp only [go_sem, ↓reduceIte, Nat.reduceEqDiff, reduceCtorEq, Nat.reduceAdd, Nat.reduceLT, Nat.reduceLeDiff, Nat.reduceBNe, Nat.reduceBEq, Int.reduceToNat] <;> (repeat' apply And.intro) <;> (try first | rfl | exact wk_frzb rfl rfl rfl | exact wk_fn rfl | exact .nilo _ _ _ rfl rfl)
        · simp only [decide_eq_true_eq, decide_eq_false_iff_not, Bool.and_eq_true, Bool.or_eq_true, Bool.not_eq_true', Bool.not_eq_false', Bool.and_eq_false_iff, Bool.or_eq_false_iff, Int.ofNat_lt, Int.ofNat_le, Nat.not_lt, Nat.not_le, Int.not_lt, Int.not_le] at hc6
          refine aw_exit ?_
          simp only [go_sem, ↓reduceIte, Nat.reduceEqDiff, reduceCtorEq, Nat.reduceAdd, Nat.reduceLT, Nat.reduceLeDiff, Nat.reduceBNe, Nat.reduceBEq, Int.reduceToNat]
          refine aw_seq (aw_region (EF := EF0) hG (by rw [hN]; exact tr70_13) ?_)
          simp only [a70_13, go_sem, ↓reduceIte, Nat.reduceEqDiff, reduceCtorEq, Nat.reduceAdd, Nat.reduceLT, Nat.reduceLeDiff, Nat.reduceBNe, Nat.reduceBEq, Int.reduceToNat, trZ, fOff_eq]
          refine aw_ret ?_
          show Q _ _
          refine hQ _ _ (.inl rfl) ?_ ?_ ?_ <;> simp only [outφ, outV, AR.res, go_sem, ↓reduceIte, Nat.reduceEqDiff, reduceCtorEq, Nat.reduceAdd, Nat.reduceLT, Nat.reduceLeDiff, Nat.reduceBNe, Nat.reduceBEq, Int.reduceToNat, fZone]
          rw [hinv, show sh.length - i = 0 by omega]; rfl
end Go.Proofs.YtailckanpheciaaDoor
/- Small, sameAirport, the sample; what is reached. -/
namespace Go.Proofs.YtailckanpheciaaDoor
open Go Go.RowKit
set_option linter.unusedSimpArgs false
set_option linter.unusedVariables false
set_option linter.deprecated false
def manyS (a : Airport) : Bool := decide (40 < (a.zone.shifts.length : Int))
def smallB (p : Places) : Bool := !(decide (40 < (p.airports.length : Int)) || decide (60 < (p.distances.length : Int))) && !p.airports.any manyS
def aP1 (x : Places) : List V := [.agg x.enc]
theorem aP1_inj (a b : Places) (h : aP1 a = aP1 b) : a = b := by
  simp only [aP1, List.cons.injEq, V.str.injEq, V.int.injEq, V.bool.injEq, V.agg.injEq, V.list.injEq, and_true, true_and] at h
  have h0 := h
  replace h0 := Places.inj _ _ h0
  subst h0
  rfl
def fSmall (p : Places) : Prop × V := (p.ok, .bool (smallB p))
theorem small_p : PureC Tryd.prog UT 31 (gOf aP1 fSmall) := by
  have hG := tNo_ok
  refine PureC.ofArgs aP1_inj Tryd.func31 body31 nm31 res31 ?_
  rintro ⟨ps, ds⟩ hv
  refine ⟨by rw [nt31]; simp [aP1], fun C hN Q hQ => ?_⟩
  rw [nt31] at hN
  unfold c31
  obtain ⟨⟨hpl, hpo⟩, hdl, -⟩ : (⟨ps, ds⟩ : Places).ok := hv
  dsimp only at hpl hpo hdl
  refine aw_seq (aw_region (EF := EF0) hG (by rw [hN]; exact tr31_0) ?_)
  simp only [a31_0, go_sem, ↓reduceIte, Nat.reduceEqDiff, reduceCtorEq, Nat.reduceAdd, Nat.reduceLT, Nat.reduceLeDiff, Nat.reduceBNe, Nat.reduceBEq, Int.reduceToNat, aP1, Places.enc]
  refine aw_seq ?_
  refine aw_seq (aw_region (EF := EF0) hG (by rw [hN]; exact tr31_1) ?_)
  simp only [a31_1, go_sem, ↓reduceIte, Nat.reduceEqDiff, reduceCtorEq, Nat.reduceAdd, Nat.reduceLT, Nat.reduceLeDiff, Nat.reduceBNe, Nat.reduceBEq, Int.reduceToNat]
  (repeat' apply And.intro) <;> (try first | omega | (intros; (repeat' apply And.intro) <;> first | assumption | omega | (simp_all; done)))
  refine aw_cond (b := _) rfl (fun hb1 => ?_) (fun hb1 => ?_)
  · skip
    refine aw_seq (aw_region (EF := EF0) hG (by rw [hN]; exact tr31_2) ?_)
    simp only [a31_2, go_sem, ↓reduceIte, Nat.reduceEqDiff, reduceCtorEq, Nat.reduceAdd, Nat.reduceLT, Nat.reduceLeDiff, Nat.reduceBNe, Nat.reduceBEq, Int.reduceToNat]
    refine aw_ret ?_
    show Q _ _
    refine hQ _ _ (.inl rfl) ?_ ?_ ?_ <;> simp only [outφ, outV, AR.res, go_sem, ↓reduceIte, Nat.reduceEqDiff, reduceCtorEq, Nat.reduceAdd, Nat.reduceLT, Nat.reduceLeDiff, Nat.reduceBNe, Nat.reduceBEq, Int.reduceToNat, fSmall]
    unfold smallB; dsimp only; rw [hb1]; rfl
  · skip
    refine aw_skip ?_
    try simp only [go_sem, ↓reduceIte, Nat.reduceEqDiff, reduceCtorEq, Nat.reduceAdd, Nat.reduceLT, Nat.reduceLeDiff, Nat.reduceBNe, Nat.reduceBEq, Int.reduceToNat]
    refine aw_seq ?_
    refine aw_seq (aw_region (EF := EF0) hG (by rw [hN]; exact tr31_3) ?_)
    simp only [a31_3, go_sem, ↓reduceIte, Nat.reduceEqDiff, reduceCtorEq, Nat.reduceAdd, Nat.reduceLT, Nat.reduceLeDiff, Nat.reduceBNe, Nat.reduceBEq, Int.reduceToNat]
    refine aw_block ?_
    refine aw_loop (α := Nat) (fun i => (i ≤ ps.length) ∧ (∀ a ∈ ps.take i, manyS a = false)) (fun i => ⟨mkE [(1, V.ptr 1 0), (3, .int .i64 i)], mkH [(1, Ob.box 31 [V.list (List.map Airport.enc ps) false, V.list (List.map Distance.enc ds) false])]⟩) (fun i => ps.length - i) 0 (by simp) ?_ ?_
    · refine Le.mk _ _ ?_ ?_ rfl <;> simp only [go_sem, ↓reduceIte, Nat.reduceEqDiff, reduceCtorEq, Nat.reduceAdd, Nat.reduceLT, Nat.reduceLeDiff, Nat.reduceBNe, Nat.reduceBEq, Int.reduceToNat] <;> (repeat' apply And.intro) <;> (try first | rfl | exact wk_frzb rfl rfl rfl | exact wk_fn rfl | exact .nilo _ _ _ rfl rfl)
    · rintro i ⟨hi, hp⟩ KL0 hKL0
      try dsimp only at *
      refine aw_seq ?_
      refine aw_seq (aw_region (EF := EF0) hG (by rw [hN]; exact tr31_4) ?_)
      simp only [a31_4, go_sem, ↓reduceIte, Nat.reduceEqDiff, reduceCtorEq, Nat.reduceAdd, Nat.reduceLT, Nat.reduceLeDiff, Nat.reduceBNe, Nat.reduceBEq, Int.reduceToNat]
      refine aw_cond (b := _) rfl (fun hc4 => ?_) (fun hc4 => ?_)
      · simp only [decide_eq_true_eq, decide_eq_false_iff_not, Bool.and_eq_true, Bool.or_eq_true, Bool.not_eq_true', Bool.not_eq_false', Bool.and_eq_false_iff, Bool.or_eq_false_iff, Int.ofNat_lt, Int.ofNat_le, Nat.not_lt, Nat.not_le, Int.not_lt, Int.not_le] at hc4
        refine aw_skip ?_
        try simp only [go_sem, ↓reduceIte, Nat.reduceEqDiff, reduceCtorEq, Nat.reduceAdd, Nat.reduceLT, Nat.reduceLeDiff, Nat.reduceBNe, Nat.reduceBEq, Int.reduceToNat]
        refine aw_seq ?_
        refine aw_block ?_
        have hzl := (hpo _ (List.getElem_mem hc4)).2.2.2.2.1
        refine aw_seq (aw_region (EF := EF0) hG (by rw [hN]; exact tr31_6) ?_)
        simp only [a31_6, go_sem, ↓reduceIte, Nat.reduceEqDiff, reduceCtorEq, Nat.reduceAdd, Nat.reduceLT, Nat.reduceLeDiff, Nat.reduceBNe, Nat.reduceBEq, Int.reduceToNat, getD_mapd _ _ _ _ hc4, hc4, Airport.enc]
        (repeat' apply And.intro) <;> (try first | omega | (intros; (repeat' apply And.intro) <;> first | assumption | omega | (simp_all; done)))
        refine aw_cond (b := _) rfl (fun hb6 => ?_) (fun hb6 => ?_)
        · skip
          refine aw_seq (aw_region (EF := EF0) hG (by rw [hN]; exact tr31_7) ?_)
          simp only [a31_7, go_sem, ↓reduceIte, Nat.reduceEqDiff, reduceCtorEq, Nat.reduceAdd, Nat.reduceLT, Nat.reduceLeDiff, Nat.reduceBNe, Nat.reduceBEq, Int.reduceToNat]
          refine aw_ret ?_
          show Q _ _
          refine hQ _ _ (.inl rfl) ?_ ?_ ?_ <;> simp only [outφ, outV, AR.res, go_sem, ↓reduceIte, Nat.reduceEqDiff, reduceCtorEq, Nat.reduceAdd, Nat.reduceLT, Nat.reduceLeDiff, Nat.reduceBNe, Nat.reduceBEq, Int.reduceToNat, fSmall]
          unfold smallB; dsimp only; rw [hb1, any_at (p := manyS) hc4 hb6]; rfl
        · skip
          refine aw_skip ?_
          try simp only [go_sem, ↓reduceIte, Nat.reduceEqDiff, reduceCtorEq, Nat.reduceAdd, Nat.reduceLT, Nat.reduceLeDiff, Nat.reduceBNe, Nat.reduceBEq, Int.reduceToNat]
          refine aw_region (EF := EF0) hG (by rw [hN]; exact tr31_5) ?_
          simp only [a31_5, go_sem, ↓reduceIte, Nat.reduceEqDiff, reduceCtorEq, Nat.reduceAdd, Nat.reduceLT, Nat.reduceLeDiff, Nat.reduceBNe, Nat.reduceBEq, Int.reduceToNat, inI]
          (repeat' apply And.intro) <;> (try first | omega | (intros; (repeat' apply And.intro) <;> first | assumption | omega | (simp_all; done)))
          refine hKL0 (i + 1) _ ?_ ?_ ?_
          · (try dsimp only); exact ⟨hc4, take_all hc4 hp hb6⟩
          · (try dsimp only); omega
          · refine Le.mk _ _ ?_ ?_ rfl <;> simp only [go_sem, ↓reduceIte, Nat.reduceEqDiff, reduceCtorEq, Nat.reduceAdd, Nat.reduceLT, Nat.reduceLeDiff, Nat.reduceBNe, Nat.reduceBEq, Int.reduceToNat] <;> (repeat' apply And.intro) <;> (try first | rfl | exact wk_frzb rfl rfl rfl | exact wk_fn rfl | exact .nilo _ _ _ rfl rfl)
      · simp only [decide_eq_true_eq, decide_eq_false_iff_not, Bool.and_eq_true, Bool.or_eq_true, Bool.not_eq_true', Bool.not_eq_false', Bool.and_eq_false_iff, Bool.or_eq_false_iff, Int.ofNat_lt, Int.ofNat_le, Nat.not_lt, Nat.not_le, Int.not_lt, Int.not_le] at hc4
        refine aw_exit ?_
        simp only [go_sem, ↓reduceIte, Nat.reduceEqDiff, reduceCtorEq, Nat.reduceAdd, Nat.reduceLT, Nat.reduceLeDiff, Nat.reduceBNe, Nat.reduceBEq, Int.reduceToNat]
        refine aw_seq (aw_region (EF := EF0) hG (by rw [hN]; exact tr31_8) ?_)
        simp only [a31_8, go_sem, ↓reduceIte, Nat.reduceEqDiff, reduceCtorEq, Nat.reduceAdd, Nat.reduceLT, Nat.reduceLeDiff, Nat.reduceBNe, Nat.reduceBEq, Int.reduceToNat]
        refine aw_ret ?_
        show Q _ _
        refine hQ _ _ (.inl rfl) ?_ ?_ ?_ <;> simp only [outφ, outV, AR.res, go_sem, ↓reduceIte, Nat.reduceEqDiff, reduceCtorEq, Nat.reduceAdd, Nat.reduceLT, Nat.reduceLeDiff, Nat.reduceBNe, Nat.reduceBEq, Int.reduceToNat, fSmall]
        unfold smallB; dsimp only; rw [hb1, any_no (p := manyS) hc4 hp]; rfl
def aTwoA (x : Airport × Airport) : List V := [.agg x.1.enc, .agg x.2.enc]
theorem aTwoA_inj (a b : Airport × Airport) (h : aTwoA a = aTwoA b) : a = b := by
  obtain ⟨a_a, a_b⟩ := a
  obtain ⟨b_a, b_b⟩ := b
  simp only [aTwoA, List.cons.injEq, V.str.injEq, V.int.injEq, V.bool.injEq, V.agg.injEq, V.list.injEq, and_true, true_and] at h
  obtain ⟨h0, h1⟩ := h
  replace h0 := Airport.inj _ _ h0
  subst h0
  replace h1 := Airport.inj _ _ h1
  subst h1
  rfl
/-- Of two equal airports. -/
def fSameA (x : Airport × Airport) : Prop × V := (x.1.ok ∧ x.1 = x.2, .bool true)
def smp : Places := ⟨[⟨[76, 72, 82], [76, 79, 78], [71, 66], ⟨0, []⟩⟩, ⟨[76, 71, 87], [76, 79, 78], [71, 66], ⟨0, []⟩⟩, ⟨[67, 68, 71], [80, 65, 82], [70, 82], ⟨0, []⟩⟩, ⟨[70, 67, 79], [82, 79, 77], [73, 84], ⟨0, []⟩⟩], [⟨[76, 79, 78], [80, 65, 82], 214⟩, ⟨[80, 65, 82], [82, 79, 77], 688⟩]⟩
def fSmp (_ : Unit) : Prop × V := (True, .agg smp.enc)
/-! What is reached: a list of cities with miles. -/
def spots (L : Assoc Int) : List (List V) := L.map fun p => [.str p.1, .int .i64 p.2]
theorem spots_len (L : Assoc Int) : (spots L).length = L.length := List.length_map _
theorem spots_getD (L : Assoc Int) (i : Nat) (d : List V) (h : i < L.length) : (spots L).getD i d = [.str L[i].1, .int .i64 L[i].2] := by
  unfold spots; rw [List.getD_eq_getElem?_getD, List.getElem?_map, List.getElem?_eq_getElem h]; rfl
theorem spots_set (L : Assoc Int) (i : Nat) (c : List UInt8) (v : Int) : (spots L).set i [.str c, .int .i64 v] = spots (L.set i (c, v)) := by unfold spots; rw [List.map_set]
theorem spots_snoc (L : Assoc Int) (c : List UInt8) (v : Int) : spots L ++ [[.str c, .int .i64 v]] = spots (L ++ [(c, v)]) := by unfold spots; rw [List.map_append]; rfl
theorem spots_pur (L : Assoc Int) : ∀ r ∈ spots L, V.purs r = true := by intro r hr; obtain ⟨p, _, rfl⟩ := List.mem_map.1 hr; rfl
theorem spots_purT (L : Assoc Int) : (∀ r ∈ spots L, V.purs r = true) ↔ True := iff_true_intro (spots_pur L)
theorem spots_twoT (L : Assoc Int) : (∀ r ∈ spots L, r.length = 2) ↔ True := iff_true_intro fun r hr => by obtain ⟨p, _, rfl⟩ := List.mem_map.1 hr; rfl
attribute [go_sem] spots_len spots_purT spots_twoT
theorem aget_at {L : Assoc Int} {c : List UInt8} {i : Nat} (hi : i < L.length) (hp : ∀ p ∈ L.take i, decide (p.1 = c) = false) (h : L[i].1 = c) : aget L c = some L[i].2 := by
  unfold aget
  have e1 : L.find? (fun p => decide (p.1 = c)) = (L.take i ++ L.drop i).find? fun p => decide (p.1 = c) := by rw [List.take_append_drop]
  rw [e1, List.find?_append, List.find?_eq_none.2 (fun p hq => by rw [hp p hq]; decide), Option.none_or, List.drop_eq_getElem_cons hi, List.find?_cons_of_pos (by simpa using h)]; rfl
theorem aget_no {L : Assoc Int} {c : List UInt8} {i : Nat} (hi : L.length ≤ i) (hp : ∀ p ∈ L.take i, decide (p.1 = c) = false) : aget L c = none := by
  rw [List.take_of_length_le hi] at hp
  unfold aget
  rw [List.find?_eq_none.2 fun p hq => by rw [hp p hq]; decide]; rfl
def aRe (x : Assoc Int × List UInt8) : List V := [.list (spots x.1) false, .str x.2]
theorem aRe_inj (a b : Assoc Int × List UInt8) (h : aRe a = aRe b) : a = b := by
  obtain ⟨a1, a2⟩ := a
  obtain ⟨b1, b2⟩ := b
  simp only [aRe, spots, List.cons.injEq, V.list.injEq, V.str.injEq, and_true] at h
  obtain ⟨h1, rfl⟩ := h
  rw [map_inj' (fun a b h => by obtain ⟨x, y⟩ := a; obtain ⟨z, w⟩ := b; simpa using h) h1]
def fRe (x : Assoc Int × List UInt8) : Prop × V := (x.1.length ≤ 140737488355328, .int .i64 ((aget x.1 x.2).getD (-1)))
end Go.Proofs.YtailckanpheciaaDoor
