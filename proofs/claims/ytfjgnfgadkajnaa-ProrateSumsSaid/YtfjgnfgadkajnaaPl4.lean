/- Texts of airports and countries; zones. -/
import Derived.Test.YtfjgnfgadkajnaaPl2
namespace Go.Proofs.Ytfjgnfgadkajnaa
open Go Go.RowKit
set_option linter.unusedSimpArgs false
set_option linter.unusedVariables false
set_option linter.deprecated false
/-- So many capital letters. -/
def capsB (n : Int) (s : List UInt8) : Bool := decide ((s.length : Int) = n) && allB capB s
def aStr (x : List UInt8) : List V := [.str x]
theorem aStr_inj (a b : List UInt8) (h : aStr a = aStr b) : a = b := by
  simp only [aStr, List.cons.injEq, V.str.injEq, V.int.injEq, V.bool.injEq, V.agg.injEq, V.list.injEq, and_true, true_and] at h
  have h0 := h
  subst h0
  rfl
def fCaps (n : Int) (s : List UInt8) : Prop × V := (s.length ≤ 140737488355328, .bool (capsB n s))
theorem fCaps_eq (n : Int) (s : List UInt8) : gOf aStr (fCaps n) [.str s] = (s.length ≤ 140737488355328, .bool (capsB n s)) := gOf_eq aStr_inj s
noncomputable def trTx : Tab
  | 56 => gLetters
  | _ => gNo
theorem trTx_ok : ∀ f, PureC Try.prog UT f (trTx f) := fun f => by
  unfold trTx
  split
  · exact rletters_p
  · exact PureC.no
theorem rairport_p : PureC Try.prog UT 37 (gOf aStr (fCaps 3)) := by
  have hG := trTx_ok
  refine PureC.ofArgs aStr_inj Try.func37 body37 nm37 res37 ?_
  rintro s hv
  refine ⟨by rw [nt37]; simp [aStr], fun C hN Q hQ => ?_⟩
  rw [nt37] at hN
  unfold c37
  replace hv : s.length ≤ 140737488355328 := hv
  refine aw_seq (aw_region (EF := EF0) hG (by rw [hN]; exact tr37_0) ?_)
  simp only [a37_0, go_sem, ↓reduceIte, Nat.reduceEqDiff, reduceCtorEq, Nat.reduceAdd, Nat.reduceLT, Nat.reduceLeDiff, Nat.reduceBNe, Nat.reduceBEq, Int.reduceToNat, aStr]
  refine aw_seq (aw_region (EF := EF0) hG (by rw [hN]; exact tr37_1) ?_)
  simp only [a37_1, go_sem, ↓reduceIte, Nat.reduceEqDiff, reduceCtorEq, Nat.reduceAdd, Nat.reduceLT, Nat.reduceLeDiff, Nat.reduceBNe, Nat.reduceBEq, Int.reduceToNat, trTx, gLetters, hv]
  (repeat' apply And.intro) <;> (try first | omega | ((fail_if_success refine idW ?_); (fail_if_success refine idS ?_); intros; (repeat' apply And.intro) <;> first | assumption | omega | (simp_all; done)))
  refine aw_ret ?_
  show Q _ _
  refine hQ _ _ (.inl rfl) ?_ ?_ ?_ <;> simp only [outφ, outV, AR.res, go_sem, ↓reduceIte, Nat.reduceEqDiff, reduceCtorEq, Nat.reduceAdd, Nat.reduceLT, Nat.reduceLeDiff, Nat.reduceBNe, Nat.reduceBEq, Int.reduceToNat, fCaps, capsB]
  rw [Bool.and_comm]
theorem rtcountry_p : PureC Try.prog UT 38 (gOf aStr (fCaps 2)) := by
  have hG := trTx_ok
  refine PureC.ofArgs aStr_inj Try.func38 body38 nm38 res38 ?_
  rintro s hv
  refine ⟨by rw [nt38]; simp [aStr], fun C hN Q hQ => ?_⟩
  rw [nt38] at hN
  unfold c38
  replace hv : s.length ≤ 140737488355328 := hv
  refine aw_seq (aw_region (EF := EF0) hG (by rw [hN]; exact tr38_0) ?_)
  simp only [a38_0, go_sem, ↓reduceIte, Nat.reduceEqDiff, reduceCtorEq, Nat.reduceAdd, Nat.reduceLT, Nat.reduceLeDiff, Nat.reduceBNe, Nat.reduceBEq, Int.reduceToNat, aStr]
  refine aw_seq (aw_region (EF := EF0) hG (by rw [hN]; exact tr38_1) ?_)
  simp only [a38_1, go_sem, ↓reduceIte, Nat.reduceEqDiff, reduceCtorEq, Nat.reduceAdd, Nat.reduceLT, Nat.reduceLeDiff, Nat.reduceBNe, Nat.reduceBEq, Int.reduceToNat, trTx, gLetters, hv]
  (repeat' apply And.intro) <;> (try first | omega | ((fail_if_success refine idW ?_); (fail_if_success refine idS ?_); intros; (repeat' apply And.intro) <;> first | assumption | omega | (simp_all; done)))
  refine aw_ret ?_
  show Q _ _
  refine hQ _ _ (.inl rfl) ?_ ?_ ?_ <;> simp only [outφ, outV, AR.res, go_sem, ↓reduceIte, Nat.reduceEqDiff, reduceCtorEq, Nat.reduceAdd, Nat.reduceLT, Nat.reduceLeDiff, Nat.reduceBNe, Nat.reduceBEq, Int.reduceToNat, fCaps, capsB]
  rw [Bool.and_comm]
/-! Zones. -/
def offR (n : Int) : Bool := decide (-840 ≤ n) && decide (n ≤ 840)
def aInt (x : Int) : List V := [.int .i64 x]
theorem aInt_inj (a b : Int) (h : aInt a = aInt b) : a = b := by
  simp only [aInt, List.cons.injEq, V.str.injEq, V.int.injEq, V.bool.injEq, V.agg.injEq, V.list.injEq, and_true, true_and] at h
  have h0 := h
  subst h0
  rfl
def fOff (n : Int) : Prop × V := (True, .bool (offR n))
theorem fOff_eq (n : Int) : gOf aInt fOff [.int .i64 n] = (True, .bool (offR n)) := gOf_eq aInt_inj n
theorem roff_p : PureC Try.prog UT 57 (gOf aInt fOff) := by
  have hG := tNo_ok
  refine PureC.ofArgs aInt_inj Try.func57 body57 nm57 res57 ?_
  rintro n hv
  refine ⟨by rw [nt57]; simp [aInt], fun C hN Q hQ => ?_⟩
  rw [nt57] at hN
  unfold c57
  refine aw_seq (aw_region (EF := EF0) hG (by rw [hN]; exact tr57_0) ?_)
  simp only [a57_0, go_sem, ↓reduceIte, Nat.reduceEqDiff, reduceCtorEq, Nat.reduceAdd, Nat.reduceLT, Nat.reduceLeDiff, Nat.reduceBNe, Nat.reduceBEq, Int.reduceToNat, aInt]
  refine aw_seq (aw_region (EF := EF0) hG (by rw [hN]; exact tr57_1) ?_)
  simp only [a57_1, go_sem, ↓reduceIte, Nat.reduceEqDiff, reduceCtorEq, Nat.reduceAdd, Nat.reduceLT, Nat.reduceLeDiff, Nat.reduceBNe, Nat.reduceBEq, Int.reduceToNat]
  (repeat' apply And.intro) <;> (try first | omega | ((fail_if_success refine idW ?_); (fail_if_success refine idS ?_); intros; (repeat' apply And.intro) <;> first | assumption | omega | (simp_all; done)))
  refine aw_ret ?_
  show Q _ _
  refine hQ _ _ (.inl rfl) ?_ ?_ ?_ <;> simp only [outφ, outV, AR.res, go_sem, ↓reduceIte, Nat.reduceEqDiff, reduceCtorEq, Nat.reduceAdd, Nat.reduceLT, Nat.reduceLeDiff, Nat.reduceBNe, Nat.reduceBEq, Int.reduceToNat, fOff, offR]
def atB (n : Int) : Bool := decide (n < 0) || decide (52596000 ≤ n)
def shiftBad (l : List Shift) (i : Nat) : Bool := atB (l.getD i Shift.zero).at' || (decide (0 < i) && decide ((l.getD i Shift.zero).at' - (l.getD (i - 1) Shift.zero).at' < 2880))
def shiftErr (l : List Shift) (i : Nat) : Int := if shiftBad l i then 13 else if offR (l.getD i Shift.zero).offset then 0 else 2
def zFrom (l : List Shift) : Nat → Nat → Int
  | 0, _ => 0
  | f + 1, i => if shiftErr l i = 0 then zFrom l f (i + 1) else shiftErr l i
def zErr (z : Zone) : Int := if 256 < z.shifts.length then 4 else if offR z.offset then zFrom z.shifts z.shifts.length 0 else 2
theorem zFrom_ok {l : List Shift} {i : Nat} (hi : i < l.length) (h1 : shiftBad l i = false) (h2 : offR l[i].offset = true) : zFrom l (l.length - i) i = zFrom l (l.length - (i + 1)) (i + 1) := by
  obtain ⟨m, hm⟩ : ∃ m, l.length - i = m + 1 := ⟨l.length - i - 1, by omega⟩
  have e : shiftErr l i = 0 := by unfold shiftErr; rw [h1, getD_lt _ _ _ hi, h2]; rfl
  rw [hm, zFrom, if_pos e, show l.length - (i + 1) = m by omega]
theorem zFrom_bad {l : List Shift} {i : Nat} (hi : i < l.length) (h1 : shiftBad l i = true) : zFrom l (l.length - i) i = 13 := by
  obtain ⟨m, hm⟩ : ∃ m, l.length - i = m + 1 := ⟨l.length - i - 1, by omega⟩
  have e : shiftErr l i = 13 := by unfold shiftErr; rw [h1]; rfl
  rw [hm, zFrom, e]; rfl
theorem zFrom_off {l : List Shift} {i : Nat} (hi : i < l.length) (h1 : shiftBad l i = false) (h2 : offR l[i].offset = false) : zFrom l (l.length - i) i = 2 := by
  obtain ⟨m, hm⟩ : ∃ m, l.length - i = m + 1 := ⟨l.length - i - 1, by omega⟩
  have e : shiftErr l i = 2 := by unfold shiftErr; rw [h1, getD_lt _ _ _ hi, h2]; rfl
  rw [hm, zFrom, e]; rfl
theorem bad_at {l : List Shift} {i : Nat} (hi : i < l.length) (hz : 0 < i) : shiftBad l i = (decide (l[i].at' < 0) || decide (52596000 ≤ l[i].at') || decide (l[i].at' - l[i - 1].at' < 2880)) := by
  unfold shiftBad atB; rw [getD_lt _ _ _ hi, getD_lt _ _ _ (by omega), decide_eq_true hz, Bool.true_and]
theorem bad_0 {l : List Shift} {i : Nat} (hi : i < l.length) (hz : ¬ 0 < i) : shiftBad l i = (decide (l[i].at' < 0) || decide (52596000 ≤ l[i].at')) := by
  unfold shiftBad atB; rw [getD_lt _ _ _ hi, decide_eq_false hz, Bool.false_and, Bool.or_false]
theorem at_ok {l : List Shift} {i : Nat} (hi : i < l.length) (h : shiftBad l i = false) : 0 ≤ l[i].at' ∧ l[i].at' < 52596000 := by
  unfold shiftBad atB at h; rw [getD_lt _ _ _ hi] at h
  simp only [Bool.or_eq_false_iff, decide_eq_false_iff_not] at h
  omega
def aZone (x : Zone) : List V := [.agg x.enc]
theorem aZone_inj (a b : Zone) (h : aZone a = aZone b) : a = b := by
  simp only [aZone, List.cons.injEq, V.str.injEq, V.int.injEq, V.bool.injEq, V.agg.injEq, V.list.injEq, and_true, true_and] at h
  have h0 := h
  replace h0 := Zone.inj _ _ h0
  subst h0
  rfl
def fZone (z : Zone) : Prop × V := (z.ok, .int .i64 (zErr z))
noncomputable def trZ : Tab
  | 57 => (gOf aInt fOff)
  | _ => gNo
theorem trZ_ok : ∀ f, PureC Try.prog UT f (trZ f) := fun f => by
  unfold trZ
  split
  · exact roff_p
  · exact PureC.no
set_option maxHeartbeats 2000000 in
theorem rzone_p : PureC Try.prog UT 39 (gOf aZone fZone) := by
  have hG := trZ_ok
  refine PureC.ofArgs aZone_inj Try.func39 body39 nm39 res39 ?_
  rintro ⟨zo, sh⟩ hv
  refine ⟨by rw [nt39]; simp [aZone], fun C hN Q hQ => ?_⟩
  rw [nt39] at hN
  unfold c39
  obtain ⟨hzo, hsl, hss⟩ : (⟨zo, sh⟩ : Zone).ok := hv
  dsimp only at hzo hsl hss
  refine aw_seq (aw_region (EF := EF0) hG (by rw [hN]; exact tr39_0) ?_)
  simp only [a39_0, go_sem, ↓reduceIte, Nat.reduceEqDiff, reduceCtorEq, Nat.reduceAdd, Nat.reduceLT, Nat.reduceLeDiff, Nat.reduceBNe, Nat.reduceBEq, Int.reduceToNat, aZone, Zone.enc, trZ, fOff_eq]
  refine aw_seq ?_
  refine aw_seq (aw_region (EF := EF0) hG (by rw [hN]; exact tr39_1) ?_)
  simp only [a39_1, go_sem, ↓reduceIte, Nat.reduceEqDiff, reduceCtorEq, Nat.reduceAdd, Nat.reduceLT, Nat.reduceLeDiff, Nat.reduceBNe, Nat.reduceBEq, Int.reduceToNat, trZ, fOff_eq]
  refine aw_cond (b := _) rfl (fun hc1 => ?_) (fun hc1 => ?_)
  · simp only [decide_eq_true_eq, decide_eq_false_iff_not, Bool.and_eq_true, Bool.or_eq_true, Bool.not_eq_true', Bool.not_eq_false', Bool.and_eq_false_iff, Bool.or_eq_false_iff, Int.ofNat_lt, Int.ofNat_le, Nat.not_lt, Nat.not_le, Int.not_lt, Int.not_le] at hc1
    refine aw_seq (aw_region (EF := EF0) hG (by rw [hN]; exact tr39_2) ?_)
    simp only [a39_2, go_sem, ↓reduceIte, Nat.reduceEqDiff, reduceCtorEq, Nat.reduceAdd, Nat.reduceLT, Nat.reduceLeDiff, Nat.reduceBNe, Nat.reduceBEq, Int.reduceToNat, trZ, fOff_eq]
    refine aw_ret ?_
    show Q _ _
    refine hQ _ _ (.inl rfl) ?_ ?_ ?_ <;> simp only [outφ, outV, AR.res, go_sem, ↓reduceIte, Nat.reduceEqDiff, reduceCtorEq, Nat.reduceAdd, Nat.reduceLT, Nat.reduceLeDiff, Nat.reduceBNe, Nat.reduceBEq, Int.reduceToNat, fZone]
    unfold zErr; rw [if_pos (by dsimp only; omega)]
  · simp only [decide_eq_true_eq, decide_eq_false_iff_not, Bool.and_eq_true, Bool.or_eq_true, Bool.not_eq_true', Bool.not_eq_false', Bool.and_eq_false_iff, Bool.or_eq_false_iff, Int.ofNat_lt, Int.ofNat_le, Nat.not_lt, Nat.not_le, Int.not_lt, Int.not_le] at hc1
    refine aw_skip ?_
    try simp only [go_sem, ↓reduceIte, Nat.reduceEqDiff, reduceCtorEq, Nat.reduceAdd, Nat.reduceLT, Nat.reduceLeDiff, Nat.reduceBNe, Nat.reduceBEq, Int.reduceToNat]
    refine aw_seq ?_
    refine aw_seq (aw_region (EF := EF0) hG (by rw [hN]; exact tr39_3) ?_)
    simp only [a39_3, go_sem, ↓reduceIte, Nat.reduceEqDiff, reduceCtorEq, Nat.reduceAdd, Nat.reduceLT, Nat.reduceLeDiff, Nat.reduceBNe, Nat.reduceBEq, Int.reduceToNat, trZ, fOff_eq]
    (repeat' apply And.intro) <;> (try first | omega | ((fail_if_success refine idW ?_); (fail_if_success refine idS ?_); intros; (repeat' apply And.intro) <;> first | assumption | omega | (simp_all; done)))
    refine aw_cond (b := _) rfl (fun hb3 => ?_) (fun hb3 => ?_)
    · skip
      refine aw_seq (aw_region (EF := EF0) hG (by rw [hN]; exact tr39_4) ?_)
      simp only [a39_4, go_sem, ↓reduceIte, Nat.reduceEqDiff, reduceCtorEq, Nat.reduceAdd, Nat.reduceLT, Nat.reduceLeDiff, Nat.reduceBNe, Nat.reduceBEq, Int.reduceToNat, trZ, fOff_eq]
      refine aw_ret ?_
      show Q _ _
      refine hQ _ _ (.inl rfl) ?_ ?_ ?_ <;> simp only [outφ, outV, AR.res, go_sem, ↓reduceIte, Nat.reduceEqDiff, reduceCtorEq, Nat.reduceAdd, Nat.reduceLT, Nat.reduceLeDiff, Nat.reduceBNe, Nat.reduceBEq, Int.reduceToNat, fZone]
      unfold zErr; rw [if_neg (by dsimp only; omega), if_neg (by simpa using hb3)]
    · skip
      refine aw_skip ?_
      try simp only [go_sem, ↓reduceIte, Nat.reduceEqDiff, reduceCtorEq, Nat.reduceAdd, Nat.reduceLT, Nat.reduceLeDiff, Nat.reduceBNe, Nat.reduceBEq, Int.reduceToNat]
      refine aw_seq ?_
      have hze : zErr ⟨zo, sh⟩ = zFrom sh (sh.length - 0) 0 := by unfold zErr; rw [if_neg (by dsimp only; omega), if_pos (by simpa using hb3)]; rfl
      refine aw_seq (aw_region (EF := EF0) hG (by rw [hN]; exact tr39_5) ?_)
      simp only [a39_5, go_sem, ↓reduceIte, Nat.reduceEqDiff, reduceCtorEq, Nat.reduceAdd, Nat.reduceLT, Nat.reduceLeDiff, Nat.reduceBNe, Nat.reduceBEq, Int.reduceToNat, trZ, fOff_eq]
      refine aw_block ?_
      refine aw_loop (α := Nat) (fun i => (i ≤ sh.length) ∧ (zErr ⟨zo, sh⟩ = zFrom sh (sh.length - i) i) ∧ (∀ j (hj : j < sh.length), j < i → 0 ≤ sh[j].at' ∧ sh[j].at' < 52596000)) (fun i => ⟨mkE [(1, V.ptr 1 0), (3, .int .i64 i)], mkH [(1, Ob.box 68 [V.int IntKind.i64 zo, V.list (List.map Shift.enc sh) false])]⟩) (fun i => sh.length - i) 0 ⟨Nat.zero_le _, hze, fun j _ hj => absurd hj (Nat.not_lt_zero _)⟩ ?_ ?_
      · refine Le.mk _ _ ?_ ?_ rfl <;> simp only [go_sem, ↓reduceIte, Nat.reduceEqDiff, reduceCtorEq, Nat.reduceAdd, Nat.reduceLT, Nat.reduceLeDiff, Nat.reduceBNe, Nat.reduceBEq, Int.reduceToNat] <;> (repeat' apply And.intro) <;> (try first | rfl | exact wk_frzb rfl rfl rfl | exact wk_fn rfl | exact .nilo _ _ _ rfl rfl | exact wk_frzm rfl rfl (fun kv hk => by obtain ⟨_, _, rfl⟩ := List.mem_map.1 hk; rfl))
      · rintro i ⟨hi, hinv, hpr⟩ KL0 hKL0
        try dsimp only at *
        refine aw_seq ?_
        refine aw_seq (aw_region (EF := EF0) hG (by rw [hN]; exact tr39_6) ?_)
        simp only [a39_6, go_sem, ↓reduceIte, Nat.reduceEqDiff, reduceCtorEq, Nat.reduceAdd, Nat.reduceLT, Nat.reduceLeDiff, Nat.reduceBNe, Nat.reduceBEq, Int.reduceToNat, trZ, fOff_eq]
        refine aw_cond (b := _) rfl (fun hc6 => ?_) (fun hc6 => ?_)
        · simp only [decide_eq_true_eq, decide_eq_false_iff_not, Bool.and_eq_true, Bool.or_eq_true, Bool.not_eq_true', Bool.not_eq_false', Bool.and_eq_false_iff, Bool.or_eq_false_iff, Int.ofNat_lt, Int.ofNat_le, Nat.not_lt, Nat.not_le, Int.not_lt, Int.not_le] at hc6
          refine aw_skip ?_
          try simp only [go_sem, ↓reduceIte, Nat.reduceEqDiff, reduceCtorEq, Nat.reduceAdd, Nat.reduceLT, Nat.reduceLeDiff, Nat.reduceBNe, Nat.reduceBEq, Int.reduceToNat]
          refine aw_seq ?_
          refine aw_block ?_
          refine aw_seq (aw_region (EF := EF0) hG (by rw [hN]; exact tr39_8) ?_)
          simp only [a39_8, go_sem, ↓reduceIte, Nat.reduceEqDiff, reduceCtorEq, Nat.reduceAdd, Nat.reduceLT, Nat.reduceLeDiff, Nat.reduceBNe, Nat.reduceBEq, Int.reduceToNat, getD_mapd _ _ _ _ hc6, hc6, Shift.enc, trZ, fOff_eq]
          (repeat' apply And.intro) <;> (try first | omega | ((fail_if_success refine idW ?_); (fail_if_success refine idS ?_); intros; (repeat' apply And.intro) <;> first | assumption | omega | (simp_all; done)))
          refine aw_seq ?_
          by_cases hz : 0 < i
          · skip
            have hzi : ((0 : Int) < (i : Int)) = True := eq_true (by omega)
            have hj1 : i - 1 < sh.length := by omega
            have hpj := hpr (i - 1) hj1 (by omega)
            have e1 : (i : Int) - 1 = ((i - 1 : Nat) : Int) := by omega
            have hsb := bad_at hc6 hz
            refine aw_seq (aw_regionD (EF := EF0) hG mixed (by rw [hN]; exact tr39_9) ok39_9 ?_)
            simp only [a39_9, d39_9, go_sem, ↓reduceIte, Nat.reduceEqDiff, reduceCtorEq, Nat.reduceAdd, Nat.reduceLT, Nat.reduceLeDiff, Nat.reduceBNe, Nat.reduceBEq, Int.reduceToNat, inI, hzi, trZ, fOff_eq, e1, getD_mapd _ _ _ _ hj1, hj1, Shift.enc]
            (repeat' apply And.intro) <;> (try first | omega | ((fail_if_success refine idW ?_); (fail_if_success refine idS ?_); intros; (repeat' apply And.intro) <;> first | assumption | omega | (simp_all; done)) | (intro h; refine ⟨h, ?_, ?_⟩ <;> (simp only [Bool.not_eq_true', Bool.or_eq_false_iff, decide_eq_false_iff_not] at h; omega)))
            refine aw_cond (b := _) rfl (fun hb => ?_) (fun hb => ?_)
            · skip
              refine aw_seq (aw_region (EF := EF0) hG (by rw [hN]; exact tr39_10) ?_)
              simp only [a39_10, go_sem, ↓reduceIte, Nat.reduceEqDiff, reduceCtorEq, Nat.reduceAdd, Nat.reduceLT, Nat.reduceLeDiff, Nat.reduceBNe, Nat.reduceBEq, Int.reduceToNat, trZ, fOff_eq]
              refine aw_ret ?_
              show Q _ _
              refine hQ _ _ (.inl rfl) ?_ ?_ ?_ <;> simp only [outφ, outV, AR.res, go_sem, ↓reduceIte, Nat.reduceEqDiff, reduceCtorEq, Nat.reduceAdd, Nat.reduceLT, Nat.reduceLeDiff, Nat.reduceBNe, Nat.reduceBEq, Int.reduceToNat, fZone]
              rw [hinv, zFrom_bad hc6 (hsb.trans hb)]
            · skip
              refine aw_skip ?_
              try simp only [go_sem, ↓reduceIte, Nat.reduceEqDiff, reduceCtorEq, Nat.reduceAdd, Nat.reduceLT, Nat.reduceLeDiff, Nat.reduceBNe, Nat.reduceBEq, Int.reduceToNat]
              refine aw_seq (aw_region (EF := EF0) hG (by rw [hN]; exact tr39_11) ?_)
              simp only [a39_11, go_sem, ↓reduceIte, Nat.reduceEqDiff, reduceCtorEq, Nat.reduceAdd, Nat.reduceLT, Nat.reduceLeDiff, Nat.reduceBNe, Nat.reduceBEq, Int.reduceToNat, trZ, fOff_eq]
              (repeat' apply And.intro) <;> (try first | omega | ((fail_if_success refine idW ?_); (fail_if_success refine idS ?_); intros; (repeat' apply And.intro) <;> first | assumption | omega | (simp_all; done)))
              refine aw_cond (b := _) rfl (fun hbo => ?_) (fun hbo => ?_)
              · skip
                refine aw_seq (aw_region (EF := EF0) hG (by rw [hN]; exact tr39_12) ?_)
                simp only [a39_12, go_sem, ↓reduceIte, Nat.reduceEqDiff, reduceCtorEq, Nat.reduceAdd, Nat.reduceLT, Nat.reduceLeDiff, Nat.reduceBNe, Nat.reduceBEq, Int.reduceToNat, trZ, fOff_eq]
                refine aw_ret ?_
                show Q _ _
                refine hQ _ _ (.inl rfl) ?_ ?_ ?_ <;> simp only [outφ, outV, AR.res, go_sem, ↓reduceIte, Nat.reduceEqDiff, reduceCtorEq, Nat.reduceAdd, Nat.reduceLT, Nat.reduceLeDiff, Nat.reduceBNe, Nat.reduceBEq, Int.reduceToNat, fZone]
                rw [hinv, zFrom_off hc6 (hsb.trans hb) (by simpa using hbo)]
              · skip
                refine aw_skip ?_
                try simp only [go_sem, ↓reduceIte, Nat.reduceEqDiff, reduceCtorEq, Nat.reduceAdd, Nat.reduceLT, Nat.reduceLeDiff, Nat.reduceBNe, Nat.reduceBEq, Int.reduceToNat]
                refine aw_region (EF := EF0) hG (by rw [hN]; exact tr39_7) ?_
                simp only [a39_7, go_sem, ↓reduceIte, Nat.reduceEqDiff, reduceCtorEq, Nat.reduceAdd, Nat.reduceLT, Nat.reduceLeDiff, Nat.reduceBNe, Nat.reduceBEq, Int.reduceToNat, inI, trZ, fOff_eq]
                (repeat' apply And.intro) <;> (try first | omega | ((fail_if_success refine idW ?_); (fail_if_success refine idS ?_); intros; (repeat' apply And.intro) <;> first | assumption | omega | (simp_all; done)))
                refine hKL0 (i + 1) _ ?_ ?_ ?_
                · (try dsimp only); refine ⟨hc6, by rw [hinv, zFrom_ok hc6 (hsb.trans hb) (by simpa using hbo)], fun j hj hji => ?_⟩; by_cases e : j = i; (subst e; exact at_ok hj (hsb.trans hb)); (exact hpr j hj (by omega))
                · (try dsimp only); omega
                · refine Le.mk _ _ ?_ ?_ rfl <;> simp only [go_sem, ↓reduceIte, Nat.reduceEqDiff, reduceCtorEq, Nat.reduceAdd, Nat.reduceLT, Nat.reduceLeDiff, Nat.reduceBNe, Nat.reduceBEq, Int.reduceToNat] <;> (repeat' apply And.intro) <;> (try first | rfl | exact wk_frzb rfl rfl rfl | exact wk_fn rfl | exact .nilo _ _ _ rfl rfl | exact wk_frzm rfl rfl (fun kv hk => by obtain ⟨_, _, rfl⟩ := List.mem_map.1 hk; rfl))
          · skip
            have hzi : ((0 : Int) < (i : Int)) = False := eq_false (by omega)
            have hsb := bad_0 hc6 hz
            obtain rfl : i = 0 := by omega
            have e0 : ((0 : Int) - 1).toNat = 0 := rfl
            refine aw_seq (aw_regionD (EF := EF0) hG mixed (by rw [hN]; exact tr39_9) ok39_9 ?_)
            simp only [a39_9, d39_9, go_sem, ↓reduceIte, Nat.reduceEqDiff, reduceCtorEq, Nat.reduceAdd, Nat.reduceLT, Nat.reduceLeDiff, Nat.reduceBNe, Nat.reduceBEq, Int.reduceToNat, inI, hzi, trZ, fOff_eq, e0, Int.lt_irrefl, Nat.lt_irrefl, getD_mapd _ _ _ _ hc6, hc6, Shift.enc]
            (repeat' apply And.intro) <;> (try first | omega | ((fail_if_success refine idW ?_); (fail_if_success refine idS ?_); intros; (repeat' apply And.intro) <;> first | assumption | omega | (simp_all; done)) | (intro h; refine ⟨h, ?_, ?_⟩ <;> (simp only [Bool.not_eq_true', Bool.or_eq_false_iff, decide_eq_false_iff_not] at h; omega)))
            refine aw_cond (b := _) rfl (fun hb => ?_) (fun hb => ?_)
            · skip
              refine aw_seq (aw_region (EF := EF0) hG (by rw [hN]; exact tr39_10) ?_)
              simp only [a39_10, go_sem, ↓reduceIte, Nat.reduceEqDiff, reduceCtorEq, Nat.reduceAdd, Nat.reduceLT, Nat.reduceLeDiff, Nat.reduceBNe, Nat.reduceBEq, Int.reduceToNat, trZ, fOff_eq]
              refine aw_ret ?_
              show Q _ _
              refine hQ _ _ (.inl rfl) ?_ ?_ ?_ <;> simp only [outφ, outV, AR.res, go_sem, ↓reduceIte, Nat.reduceEqDiff, reduceCtorEq, Nat.reduceAdd, Nat.reduceLT, Nat.reduceLeDiff, Nat.reduceBNe, Nat.reduceBEq, Int.reduceToNat, fZone]
              rw [hinv, zFrom_bad hc6 (hsb.trans hb)]
            · skip
              refine aw_skip ?_
              try simp only [go_sem, ↓reduceIte, Nat.reduceEqDiff, reduceCtorEq, Nat.reduceAdd, Nat.reduceLT, Nat.reduceLeDiff, Nat.reduceBNe, Nat.reduceBEq, Int.reduceToNat]
              refine aw_seq (aw_region (EF := EF0) hG (by rw [hN]; exact tr39_11) ?_)
              simp only [a39_11, go_sem, ↓reduceIte, Nat.reduceEqDiff, reduceCtorEq, Nat.reduceAdd, Nat.reduceLT, Nat.reduceLeDiff, Nat.reduceBNe, Nat.reduceBEq, Int.reduceToNat, trZ, fOff_eq]
              (repeat' apply And.intro) <;> (try first | omega | ((fail_if_success refine idW ?_); (fail_if_success refine idS ?_); intros; (repeat' apply And.intro) <;> first | assumption | omega | (simp_all; done)))
              refine aw_cond (b := _) rfl (fun hbo => ?_) (fun hbo => ?_)
              · skip
                refine aw_seq (aw_region (EF := EF0) hG (by rw [hN]; exact tr39_12) ?_)
                simp only [a39_12, go_sem, ↓reduceIte, Nat.reduceEqDiff, reduceCtorEq, Nat.reduceAdd, Nat.reduceLT, Nat.reduceLeDiff, Nat.reduceBNe, Nat.reduceBEq, Int.reduceToNat, trZ, fOff_eq]
                refine aw_ret ?_
                show Q _ _
                refine hQ _ _ (.inl rfl) ?_ ?_ ?_ <;> simp only [outφ, outV, AR.res, go_sem, ↓reduceIte, Nat.reduceEqDiff, reduceCtorEq, Nat.reduceAdd, Nat.reduceLT, Nat.reduceLeDiff, Nat.reduceBNe, Nat.reduceBEq, Int.reduceToNat, fZone]
                rw [hinv, zFrom_off hc6 (hsb.trans hb) (by simpa using hbo)]
              · skip
                refine aw_skip ?_
                try simp only [go_sem, ↓reduceIte, Nat.reduceEqDiff, reduceCtorEq, Nat.reduceAdd, Nat.reduceLT, Nat.reduceLeDiff, Nat.reduceBNe, Nat.reduceBEq, Int.reduceToNat]
                refine aw_region (EF := EF0) hG (by rw [hN]; exact tr39_7) ?_
                simp only [a39_7, go_sem, ↓reduceIte, Nat.reduceEqDiff, reduceCtorEq, Nat.reduceAdd, Nat.reduceLT, Nat.reduceLeDiff, Nat.reduceBNe, Nat.reduceBEq, Int.reduceToNat, inI, trZ, fOff_eq]
                (repeat' apply And.intro) <;> (try first | omega | ((fail_if_success refine idW ?_); (fail_if_success refine idS ?_); intros; (repeat' apply And.intro) <;> first | assumption | omega | (simp_all; done)))
                refine hKL0 (0 + 1) _ ?_ ?_ ?_
                · (try dsimp only); refine ⟨hc6, by rw [hinv, zFrom_ok hc6 (hsb.trans hb) (by simpa using hbo)], fun j hj hji => ?_⟩; (obtain rfl : j = 0 := by omega); exact at_ok hj (hsb.trans hb)
                · (try dsimp only); omega
                · refine Le.mk _ _ ?_ ?_ rfl <;> simp only [go_sem, ↓reduceIte, Nat.reduceEqDiff, reduceCtorEq, Nat.reduceAdd, Nat.reduceLT, Nat.reduceLeDiff, Nat.reduceBNe, Nat.reduceBEq, Int.reduceToNat] <;> (repeat' apply And.intro) <;> (try first | rfl | exact wk_frzb rfl rfl rfl | exact wk_fn rfl | exact .nilo _ _ _ rfl rfl | exact wk_frzm rfl rfl (fun kv hk => by obtain ⟨_, _, rfl⟩ := List.mem_map.1 hk; rfl))
        · simp only [decide_eq_true_eq, decide_eq_false_iff_not, Bool.and_eq_true, Bool.or_eq_true, Bool.not_eq_true', Bool.not_eq_false', Bool.and_eq_false_iff, Bool.or_eq_false_iff, Int.ofNat_lt, Int.ofNat_le, Nat.not_lt, Nat.not_le, Int.not_lt, Int.not_le] at hc6
          refine aw_exit ?_
          simp only [go_sem, ↓reduceIte, Nat.reduceEqDiff, reduceCtorEq, Nat.reduceAdd, Nat.reduceLT, Nat.reduceLeDiff, Nat.reduceBNe, Nat.reduceBEq, Int.reduceToNat]
          refine aw_seq (aw_region (EF := EF0) hG (by rw [hN]; exact tr39_13) ?_)
          simp only [a39_13, go_sem, ↓reduceIte, Nat.reduceEqDiff, reduceCtorEq, Nat.reduceAdd, Nat.reduceLT, Nat.reduceLeDiff, Nat.reduceBNe, Nat.reduceBEq, Int.reduceToNat, trZ, fOff_eq]
          refine aw_ret ?_
          show Q _ _
          refine hQ _ _ (.inl rfl) ?_ ?_ ?_ <;> simp only [outφ, outV, AR.res, go_sem, ↓reduceIte, Nat.reduceEqDiff, reduceCtorEq, Nat.reduceAdd, Nat.reduceLT, Nat.reduceLeDiff, Nat.reduceBNe, Nat.reduceBEq, Int.reduceToNat, fZone]
          rw [hinv, show sh.length - i = 0 by omega]; rfl
end Go.Proofs.Ytfjgnfgadkajnaa
/- Small, sameAirport, the sample; what is reached. -/
namespace Go.Proofs.Ytfjgnfgadkajnaa
open Go Go.RowKit
set_option linter.unusedSimpArgs false
set_option linter.unusedVariables false
set_option linter.deprecated false
def aP1 (x : Places) : List V := [.agg x.enc]
theorem aP1_inj (a b : Places) (h : aP1 a = aP1 b) : a = b := by
  simp only [aP1, List.cons.injEq, V.str.injEq, V.int.injEq, V.bool.injEq, V.agg.injEq, V.list.injEq, and_true, true_and] at h
  have h0 := h
  replace h0 := Places.inj _ _ h0
  subst h0
  rfl
/-! What is reached: a list of cities with miles. -/
def spots (L : Assoc Int) : List (List V) := L.map fun p => [.str p.1, .int .i64 p.2]
theorem spots_len (L : Assoc Int) : (spots L).length = L.length := List.length_map _
theorem spots_pur (L : Assoc Int) : ∀ r ∈ spots L, V.purs r = true := by intro r hr; obtain ⟨p, _, rfl⟩ := List.mem_map.1 hr; rfl
theorem spots_purT (L : Assoc Int) : (∀ r ∈ spots L, V.purs r = true) ↔ True := iff_true_intro (spots_pur L)
theorem spots_twoT (L : Assoc Int) : (∀ r ∈ spots L, r.length = 2) ↔ True := iff_true_intro fun r hr => by obtain ⟨p, _, rfl⟩ := List.mem_map.1 hr; rfl
attribute [go_sem] spots_len spots_purT spots_twoT
end Go.Proofs.Ytfjgnfgadkajnaa
