/- Parse, both. -/
import Derived.Test.YtbakkdnhbeldcaaDoorPa7
import Derived.Lib.IndexLaws
import Derived.Lib.LastIndexByte
namespace Go.Proofs.YtbakkdnhbeldcaaDoor
open Go Go.RowKit
set_option linter.unusedSimpArgs false
set_option linter.unusedVariables false
set_option linter.deprecated false
def lastTo (c : UInt8) (s : List UInt8) : Nat → Int
  | 0 => -1
  | i + 1 => if s.getD i 0 = c then (i : Int) else lastTo c s i
def lastI (c : UInt8) (s : List UInt8) : Int := lastTo c s s.length
theorem last_ge (c s) : ∀ n, -1 ≤ lastTo c s n ∧ lastTo c s n < n
  | 0 => ⟨Int.le_refl _, by rw [lastTo]; decide⟩
  | n + 1 => by have := last_ge c s n; rw [lastTo]; split <;> omega
theorem last_at (c s) : ∀ (n k : Nat), lastTo c s n = k → s.getD k 0 = c
  | 0, k, h => by rw [lastTo] at h; omega
  | n + 1, k, h => by
    rw [lastTo] at h
    split at h
    · rename_i h1; rw [show k = n by omega]; exact h1
    · exact last_at c s n k h
theorem last_uni {c : UInt8} {s : List UInt8} {i : Nat} (h : s.getD i 0 = c) : ∀ n, i < n → (∀ j, i < j → j < n → s.getD j 0 ≠ c) → lastTo c s n = i
  | 0, hi, _ => absurd hi (by omega)
  | n + 1, hi, hn => by
    rw [lastTo]
    by_cases e : i = n
    · subst e; rw [if_pos h]
    · rw [if_neg (hn n (by omega) (by omega)), last_uni h n (by omega) fun j h1 h2 => hn j h1 (by omega)]
theorem cnt2 {c : UInt8} {s : List UInt8} {i j : Nat} (hij : i < j) (hj : j < s.length) (h1 : s.getD i 0 = c) (h2 : s.getD j 0 = c) : 2 ≤ s.count c := by
  have e : s.count c = (s.take j).count c + (s.drop j).count c := by rw [← List.count_append, List.take_append_drop]
  have m1 : c ∈ s.take j := by
    rw [List.mem_take_iff_getElem]
    exact ⟨i, by omega, by rw [← h1, List.getD_eq_getElem?_getD, List.getElem?_eq_getElem (by omega)]; rfl⟩
  have m2 : c ∈ s.drop j := by
    rw [List.mem_drop_iff_getElem]
    exact ⟨0, by omega, by rw [← h2, List.getD_eq_getElem?_getD, List.getElem?_eq_getElem (by omega)]; simp⟩
  have := List.count_pos_iff.2 m1
  have := List.count_pos_iff.2 m2
  omega
theorem count_one {c : UInt8} {s : List UInt8} (h : s.count c = 1) : ∃ i : Nat, lastI c s = i ∧ i < s.length ∧ s.getD i 0 = c ∧ Lib.indexByte s c = i := by
  have hm : c ∈ s := List.count_pos_iff.1 (by omega)
  have hg := Lib.indexByte_ge s c
  by_cases h0 : Lib.indexByte s c = -1
  · obtain ⟨k, hk, e⟩ := List.mem_iff_getElem.1 hm
    exact absurd (by rw [List.getElem?_eq_getElem hk, e]) (Lib.indexByte_none h0 k)
  · obtain ⟨i, hi⟩ := Int.eq_ofNat_of_zero_le (show 0 ≤ Lib.indexByte s c by omega)
    obtain ⟨h1, _⟩ := Lib.indexByte_some hi
    obtain ⟨hl, h2⟩ := List.getElem?_eq_some_iff.1 h1
    have h3 : s.getD i 0 = c := by rw [List.getD_eq_getElem?_getD, h1]; rfl
    exact ⟨i, last_uni h3 _ hl fun j hj hjl e => by have := cnt2 hj hjl h3 e; omega, hl, h3, hi⟩
theorem lib_last (s : List UInt8) : Lib.lastIndexByte ⟨s.toArray⟩ 32 = lastI 32 s := by
  unfold Lib.lastIndexByte lastI
  rw [show (ByteArray.mk s.toArray).size = s.length by simp [ByteArray.size]]
  have key : ∀ n, n ≤ s.length → Lib.lastIdx ⟨s.toArray⟩ 32 n = lastTo 32 s n := by
    intro n
    induction n with
    | zero => intro _; rfl
    | succ n ih =>
      intro hn
      unfold Lib.lastIdx
      rw [lastTo, ih (by omega)]
      have e : (s.toArray[n]! : UInt8) = s.getD n 0 := by
        rw [List.getD_eq_getElem?_getD, List.getElem?_eq_getElem (by omega : n < s.length)]
        simp [getElem!_pos, show n < s.length by omega]
      rw [show ((⟨s.toArray⟩ : ByteArray).data[n]!) = s.getD n 0 from e]
      by_cases h : s.getD n 0 = 32
      · rw [if_pos h, if_pos (by rw [h]; rfl)]
      · rw [if_neg h, if_neg (fun h2 => h (by have := byte32 (s.getD n 0); rw [decide_eq_true h2] at this; exact of_decide_eq_true this.symm))]
  exact key _ (Nat.le_refl _)
theorem byte47 (c : UInt8) : decide ((c.toNat : Int) = 47) = decide (c = 47) := decide_eq_decide.2 ⟨fun h => UInt8.toNat_inj.1 (by show c.toNat = 47; omega), fun h => by rw [h]; rfl⟩
def parX (s : List UInt8) (i k : Nat) : Person := ⟨s.take i, (s.take k).drop (i + 1), s.drop (k + 1)⟩
def badP (s : List UInt8) : Bool := !decide ((s.count 47 : Int) = 1) || decide (lastI 32 s < lastI 47 s)
def parT (s : List UInt8) : Person × Int :=
  if badP s = true then (Person.zero, 3) else if (prT (parX s (lastI 47 s).toNat (lastI 32 s).toNat)).2 = 0 then (parX s (lastI 47 s).toNat (lastI 32 s).toNat, 0) else (Person.zero, (prT (parX s (lastI 47 s).toNat (lastI 32 s).toNat)).2)
def parV (y : Person × Int) : V := .tup [.agg y.1.enc, .int .i64 y.2]
def fPar (s : List UInt8) : Prop × V := (s.length ≤ 1000, parV (parT s))
theorem fPar_eq (s : List UInt8) : gOf aStr fPar [.str s] = (s.length ≤ 1000, parV (parT s)) := gOf_eq aStr_inj s
theorem good_p {s : List UInt8} (h : badP s = false) : ∃ i k : Nat, lastI 47 s = i ∧ lastI 32 s = k ∧ Lib.indexByte s 47 = i ∧ i + 1 ≤ k ∧ k < s.length ∧ s.getD i 0 = 47 ∧ s.getD k 0 = 32 := by
  unfold badP at h
  simp only [Bool.or_eq_false_iff, Bool.not_eq_false', decide_eq_true_eq, decide_eq_false_iff_not] at h
  obtain ⟨i, h1, h2, h3, h4⟩ := count_one (c := 47) (s := s) (by omega)
  have hb := last_ge 32 s s.length
  obtain ⟨k, hk⟩ := Int.eq_ofNat_of_zero_le (show 0 ≤ lastI 32 s by omega)
  have hk3 := last_at 32 s s.length k hk
  have hkl : k < s.length := by have := hb.2; unfold lastI at hk; omega
  have hne : i ≠ k := fun e => by rw [← e, h3] at hk3; exact absurd hk3 (by decide)
  exact ⟨i, k, h1, hk, h4, by omega, hkl, h3, hk3⟩
noncomputable def tPar : Tab
  | 34 => gIxB
  | 35 => gLaB
  | 36 => gCnt1
  | 20 => (gOf aPer fPr)
  | _ => gNo
theorem tPar_ok : ∀ f, PureC Tryd.prog UT f (tPar f) := fun f => by
  unfold tPar
  split
  · exact ixB_p
  · exact laB_p
  · exact cnt1_p
  · exact print_p
  · exact PureC.no
theorem gIxB_eq (s : List UInt8) : gIxB [.str s, .int .u8 47] = (True, .int .i64 (Lib.indexByte s 47)) := rfl
theorem gLaB_eq (s : List UInt8) : gLaB [.str s, .int .u8 32] = (s.length < 4611686018427387904, .int .i64 (lastI 32 s)) := by rw [← lib_last]; rfl
theorem gCnt_eq (s : List UInt8) : gCnt1 [.str s, .str [47]] = (True, .int .i64 ((s.count 47 : Nat) : Int)) := rfl
theorem cond_p (s : List UInt8) : (decide (Lib.indexByte s 47 < 0) || !decide (((s.count 47 : Nat) : Int) = 1) || decide (lastI 32 s < Lib.indexByte s 47)) = badP s := by
  unfold badP
  by_cases h : s.count 47 = 1
  · obtain ⟨i, h1, h2, h3, h4⟩ := count_one h
    rw [h4, h1, decide_eq_false (by omega), Bool.false_or]
  · rw [decide_eq_false (by omega : ¬ ((s.count 47 : Nat) : Int) = 1)]; simp
set_option maxHeartbeats 4000000 in
theorem parse_p : PureC Tryd.prog UT 22 (gOf aStr fPar) := by
  have hG := tPar_ok
  refine PureC.ofArgs aStr_inj Tryd.func22 body22 nm22 res22 ?_
  rintro s hv
  refine ⟨by rw [nt22]; simp [aStr], fun C hN Q hQ => ?_⟩
  rw [nt22] at hN
  unfold c22
  replace hv : s.length ≤ 1000 := hv
  have hv2 : s.length < 4611686018427387904 := by omega
  have hcp := cond_p s
  refine aw_seq (aw_region (EF := EF0) hG (by rw [hN]; exact tr22_0) ?_)
  simp only [a22_0, go_sem, ↓reduceIte, Nat.reduceEqDiff, reduceCtorEq, Nat.reduceAdd, Nat.reduceLT, Nat.reduceLeDiff, Nat.reduceBNe, Nat.reduceBEq, Int.reduceToNat, aStr, tPar, gIxB_eq, gLaB_eq, gCnt_eq, fPr_eq]
  refine aw_seq (aw_region (EF := EF0) hG (by rw [hN]; exact tr22_1) ?_)
  simp only [a22_1, go_sem, ↓reduceIte, Nat.reduceEqDiff, reduceCtorEq, Nat.reduceAdd, Nat.reduceLT, Nat.reduceLeDiff, Nat.reduceBNe, Nat.reduceBEq, Int.reduceToNat, hv2, tPar, gIxB_eq, gLaB_eq, gCnt_eq, fPr_eq]
  (repeat' apply And.intro) <;> (try first | omega | (intros; (repeat' apply And.intro) <;> first | assumption | omega | (simp_all; done)))
  refine aw_seq ?_
  refine aw_seq (aw_region (EF := EF0) hG (by rw [hN]; exact tr22_2) ?_)
  simp only [a22_2, go_sem, ↓reduceIte, Nat.reduceEqDiff, reduceCtorEq, Nat.reduceAdd, Nat.reduceLT, Nat.reduceLeDiff, Nat.reduceBNe, Nat.reduceBEq, Int.reduceToNat, hcp, tPar, gIxB_eq, gLaB_eq, gCnt_eq, fPr_eq]
  refine aw_cond (b := _) rfl (fun hb2 => ?_) (fun hb2 => ?_)
  · skip
    refine aw_seq (aw_region (EF := EF0) hG (by rw [hN]; exact tr22_3) ?_)
    simp only [a22_3, go_sem, ↓reduceIte, Nat.reduceEqDiff, reduceCtorEq, Nat.reduceAdd, Nat.reduceLT, Nat.reduceLeDiff, Nat.reduceBNe, Nat.reduceBEq, Int.reduceToNat, tPar, gIxB_eq, gLaB_eq, gCnt_eq, fPr_eq]
    refine AW.le (s' := ⟨mkE [(2, .ptr 2 0), (3, .int .i64 3)], mkH [(2, .box 30 Person.zero.enc)]⟩) (Le.mk _ _ ?_ ?_ rfl) (aw_ret (hQ _ _ (.inl rfl) ?_ ?_ ?_)) <;> simp only [outφ, outV, AR.res, go_sem, ↓reduceIte, Nat.reduceEqDiff, reduceCtorEq, Nat.reduceAdd, Nat.reduceLT, Nat.reduceLeDiff, Nat.reduceBNe, Nat.reduceBEq, Int.reduceToNat, Person.enc, Person.zero, fPar, parV]
    · rw [parT, if_pos hb2]; rfl
  · skip
    obtain ⟨i, k, hI, hK, hI2, hik, hkl, hsi, hsk⟩ := good_p hb2
    have hnb : ¬ (badP s = true) := by rw [hb2]; decide
    have ei : ((i : Int) + 1).toNat = i + 1 := by omega
    have ek : ((k : Int) + 1).toNat = k + 1 := by omega
    have hx : (⟨s.take i, (s.take k).drop (i + 1), s.drop (k + 1)⟩ : Person) = parX s i k := rfl
    have l1 : min i s.length ≤ 1000000 := by omega
    have l2 : min k s.length - (i + 1) ≤ 1000000 := by omega
    have l3 : s.length - (k + 1) ≤ 1000000 := by omega
    refine aw_skip ?_
    try simp only [go_sem, ↓reduceIte, Nat.reduceEqDiff, reduceCtorEq, Nat.reduceAdd, Nat.reduceLT, Nat.reduceLeDiff, Nat.reduceBNe, Nat.reduceBEq, Int.reduceToNat]
    refine aw_seq (aw_regionD (EF := EF0) hG mixed (by rw [hN]; exact tr22_4) ok22_4 ?_)
    simp only [a22_4, d22_4, go_sem, ↓reduceIte, Nat.reduceEqDiff, reduceCtorEq, Nat.reduceAdd, Nat.reduceLT, Nat.reduceLeDiff, Nat.reduceBNe, Nat.reduceBEq, Int.reduceToNat, inI, hI2, hK, ei, ek, Int.toNat_natCast, List.drop_zero, List.take_length, tPar, gIxB_eq, gLaB_eq, gCnt_eq, fPr_eq]
    (repeat' apply And.intro) <;> (try first | omega | (intros; (repeat' apply And.intro) <;> first | assumption | omega | (simp_all; done)))
    refine aw_seq ?_
    refine aw_seq (aw_region (EF := EF0) hG (by rw [hN]; exact tr22_5) ?_)
    simp only [a22_5, go_sem, ↓reduceIte, Nat.reduceEqDiff, reduceCtorEq, Nat.reduceAdd, Nat.reduceLT, Nat.reduceLeDiff, Nat.reduceBNe, Nat.reduceBEq, Int.reduceToNat, hx, prV, List.length_take, List.length_drop, l1, l2, l3, tPar, gIxB_eq, gLaB_eq, gCnt_eq, fPr_eq]
    (repeat' apply And.intro) <;> (try first | omega | (intros; (repeat' apply And.intro) <;> first | assumption | omega | (simp_all; done)))
    refine aw_seq (aw_region (EF := EF0) hG (by rw [hN]; exact tr22_6) ?_)
    simp only [a22_6, go_sem, ↓reduceIte, Nat.reduceEqDiff, reduceCtorEq, Nat.reduceAdd, Nat.reduceLT, Nat.reduceLeDiff, Nat.reduceBNe, Nat.reduceBEq, Int.reduceToNat, tPar, gIxB_eq, gLaB_eq, gCnt_eq, fPr_eq]
    refine aw_cond (b := _) rfl (fun hb6 => ?_) (fun hb6 => ?_)
    · skip
      refine aw_seq (aw_region (EF := EF0) hG (by rw [hN]; exact tr22_7) ?_)
      simp only [a22_7, go_sem, ↓reduceIte, Nat.reduceEqDiff, reduceCtorEq, Nat.reduceAdd, Nat.reduceLT, Nat.reduceLeDiff, Nat.reduceBNe, Nat.reduceBEq, Int.reduceToNat, tPar, gIxB_eq, gLaB_eq, gCnt_eq, fPr_eq]
      refine AW.le (s' := ⟨mkE [(2, .ptr 2 0), (3, .int .i64 (prT (parX s i k)).2)], mkH [(2, .box 30 Person.zero.enc)]⟩) (Le.mk _ _ ?_ ?_ rfl) (aw_ret (hQ _ _ (.inl rfl) ?_ ?_ ?_)) <;> simp only [outφ, outV, AR.res, go_sem, ↓reduceIte, Nat.reduceEqDiff, reduceCtorEq, Nat.reduceAdd, Nat.reduceLT, Nat.reduceLeDiff, Nat.reduceBNe, Nat.reduceBEq, Int.reduceToNat, Person.enc, Person.zero, fPar, parV]
      · rw [parT, if_neg hnb, hI, hK, Int.toNat_natCast, Int.toNat_natCast, if_neg (by simpa using hb6)]; rfl
    · skip
      refine aw_skip ?_
      try simp only [go_sem, ↓reduceIte, Nat.reduceEqDiff, reduceCtorEq, Nat.reduceAdd, Nat.reduceLT, Nat.reduceLeDiff, Nat.reduceBNe, Nat.reduceBEq, Int.reduceToNat]
      refine aw_seq (aw_region (EF := EF0) hG (by rw [hN]; exact tr22_8) ?_)
      simp only [a22_8, go_sem, ↓reduceIte, Nat.reduceEqDiff, reduceCtorEq, Nat.reduceAdd, Nat.reduceLT, Nat.reduceLeDiff, Nat.reduceBNe, Nat.reduceBEq, Int.reduceToNat, tPar, gIxB_eq, gLaB_eq, gCnt_eq, fPr_eq]
      refine AW.le (s' := ⟨mkE [(2, .ptr 2 0), (3, .int .i64 0)], mkH [(2, .box 30 (parX s i k).enc)]⟩) (Le.mk _ _ ?_ ?_ rfl) (aw_ret (hQ _ _ (.inl rfl) ?_ ?_ ?_)) <;> simp only [outφ, outV, AR.res, go_sem, ↓reduceIte, Nat.reduceEqDiff, reduceCtorEq, Nat.reduceAdd, Nat.reduceLT, Nat.reduceLeDiff, Nat.reduceBNe, Nat.reduceBEq, Int.reduceToNat, Person.enc, parX, fPar, parV]
      · rw [parT, if_neg hnb, hI, hK, Int.toNat_natCast, Int.toNat_natCast, if_pos (by simpa using hb6)]; rfl
noncomputable def trPar : Tab
  | 21 => (gOf aPer fPr)
  | _ => gNo
theorem trPar_ok : ∀ f, PureC Tryd.prog UT f (trPar f) := fun f => by
  unfold trPar
  split
  · exact rprint_p
  · exact PureC.no
theorem cnt_step {c : UInt8} {s : List UInt8} {i : Nat} (h : i < s.length) : (s.take (i + 1)).count c = (s.take i).count c + (if s.getD i 0 = c then 1 else 0) := by
  rw [take_succ' h, List.count_append, List.count_singleton, List.getD_eq_getElem?_getD, List.getElem?_eq_getElem h]
  by_cases e : s[i] = c
  · simp [e]
  · simp [e]
set_option maxHeartbeats 4000000 in
theorem rparse_p : PureC Tryd.prog UT 23 (gOf aStr fPar) := by
  have hG := trPar_ok
  refine PureC.ofArgs aStr_inj Tryd.func23 body23 nm23 res23 ?_
  rintro s hv
  refine ⟨by rw [nt23]; simp [aStr], fun C hN Q hQ => ?_⟩
  rw [nt23] at hN
  unfold c23
  replace hv : s.length ≤ 1000 := hv
  refine aw_seq (aw_region (EF := EF0) hG (by rw [hN]; exact tr23_0) ?_)
  simp only [a23_0, go_sem, ↓reduceIte, Nat.reduceEqDiff, reduceCtorEq, Nat.reduceAdd, Nat.reduceLT, Nat.reduceLeDiff, Nat.reduceBNe, Nat.reduceBEq, Int.reduceToNat, aStr, trPar, fPr_eq]
  refine aw_seq (aw_region (EF := EF0) hG (by rw [hN]; exact tr23_1) ?_)
  simp only [a23_1, go_sem, ↓reduceIte, Nat.reduceEqDiff, reduceCtorEq, Nat.reduceAdd, Nat.reduceLT, Nat.reduceLeDiff, Nat.reduceBNe, Nat.reduceBEq, Int.reduceToNat, trPar, fPr_eq]
  refine aw_seq ?_
  refine aw_seq (aw_region (EF := EF0) hG (by rw [hN]; exact tr23_2) ?_)
  simp only [a23_2, go_sem, ↓reduceIte, Nat.reduceEqDiff, reduceCtorEq, Nat.reduceAdd, Nat.reduceLT, Nat.reduceLeDiff, Nat.reduceBNe, Nat.reduceBEq, Int.reduceToNat, trPar, fPr_eq]
  refine aw_block ?_
  refine aw_loop (α := Nat) (fun i => (i ≤ s.length)) (fun i => ⟨mkE [(0, V.str s), (2, V.ptr 2 0), (4, .int .i64 (lastTo 47 s i)), (5, .int .i64 (lastTo 32 s i)), (6, .int .i64 (((s.take i).count 47 : Nat) : Int)), (7, .int .i64 i)], mkH [(2, Ob.box 30 [V.str [], V.str [], V.str []])]⟩) (fun i => s.length - i) 0 (by simp) ?_ ?_
  · refine Le.mk _ _ ?_ ?_ rfl <;> simp only [go_sem, ↓reduceIte, Nat.reduceEqDiff, reduceCtorEq, Nat.reduceAdd, Nat.reduceLT, Nat.reduceLeDiff, Nat.reduceBNe, Nat.reduceBEq, Int.reduceToNat] <;> (repeat' apply And.intro) <;> (try first | rfl | exact wk_frzb rfl rfl rfl | exact wk_fn rfl | exact .nilo _ _ _ rfl rfl)
  · rintro i hi KL0 hKL0
    try dsimp only at *
    refine aw_seq ?_
    refine aw_seq (aw_region (EF := EF0) hG (by rw [hN]; exact tr23_3) ?_)
    simp only [a23_3, go_sem, ↓reduceIte, Nat.reduceEqDiff, reduceCtorEq, Nat.reduceAdd, Nat.reduceLT, Nat.reduceLeDiff, Nat.reduceBNe, Nat.reduceBEq, Int.reduceToNat, trPar, fPr_eq]
    refine aw_cond (b := _) rfl (fun hc3 => ?_) (fun hc3 => ?_)
    · simp only [decide_eq_true_eq, decide_eq_false_iff_not, Bool.and_eq_true, Bool.or_eq_true, Bool.not_eq_true', Bool.not_eq_false', Bool.and_eq_false_iff, Bool.or_eq_false_iff, Int.ofNat_lt, Int.ofNat_le, Nat.not_lt, Nat.not_le, Int.not_lt, Int.not_le] at hc3
      refine aw_skip ?_
      try simp only [go_sem, ↓reduceIte, Nat.reduceEqDiff, reduceCtorEq, Nat.reduceAdd, Nat.reduceLT, Nat.reduceLeDiff, Nat.reduceBNe, Nat.reduceBEq, Int.reduceToNat]
      refine aw_seq ?_
      refine aw_block ?_
      refine aw_cut (α := Int × Int) (fun γ => (γ.1 = lastTo 47 s (i + 1)) ∧ (γ.2 = (((s.take (i + 1)).count 47 : Nat) : Int))) (fun γ => ⟨mkE [(0, V.str s), (2, V.ptr 2 0), (4, .int .i64 γ.1), (5, V.int IntKind.i64 (lastTo 32 s i)), (6, .int .i64 γ.2), (7, V.int IntKind.i64 ↑i)], mkH [(2, Ob.box 30 [V.str [], V.str [], V.str []])]⟩) ?_ ?_
      · intro KC5 hKC5
        have hcs := cnt_step (c := 47) hc3
        have hcl : (s.take i).count 47 ≤ 1000 := by have := List.count_le_length (a := 47) (l := s.take i); rw [List.length_take] at this; omega
        have h47 := byte47 (s.getD i 0)
        generalize (s.take i).count 47 = N at hcs hcl
        refine aw_seq (aw_region (EF := EF0) hG (by rw [hN]; exact tr23_5) ?_)
        simp only [a23_5, go_sem, ↓reduceIte, Nat.reduceEqDiff, reduceCtorEq, Nat.reduceAdd, Nat.reduceLT, Nat.reduceLeDiff, Nat.reduceBNe, Nat.reduceBEq, Int.reduceToNat, h47, trPar, fPr_eq]
        (repeat' apply And.intro) <;> (try first | omega | (intros; (repeat' apply And.intro) <;> first | assumption | omega | (simp_all; done)))
        refine aw_cond (b := _) rfl (fun hb5 => ?_) (fun hb5 => ?_)
        · skip
          refine aw_seq (aw_region (EF := EF0) hG (by rw [hN]; exact tr23_6) ?_)
          simp only [a23_6, go_sem, ↓reduceIte, Nat.reduceEqDiff, reduceCtorEq, Nat.reduceAdd, Nat.reduceLT, Nat.reduceLeDiff, Nat.reduceBNe, Nat.reduceBEq, Int.reduceToNat, trPar, fPr_eq]
          refine aw_region (EF := EF0) hG (by rw [hN]; exact tr23_7) ?_
          simp only [a23_7, go_sem, ↓reduceIte, Nat.reduceEqDiff, reduceCtorEq, Nat.reduceAdd, Nat.reduceLT, Nat.reduceLeDiff, Nat.reduceBNe, Nat.reduceBEq, Int.reduceToNat, inI, trPar, fPr_eq]
          (repeat' apply And.intro) <;> (try first | omega | (intros; (repeat' apply And.intro) <;> first | assumption | omega | (simp_all; done)))
          refine hKC5 ((i : Int), (N : Int) + 1) _ ?_ ?_
          · (try dsimp only); exact ⟨by rw [lastTo, if_pos (of_decide_eq_true hb5)], by rw [hcs, if_pos (of_decide_eq_true hb5)]; rfl⟩
          · refine Le.mk _ _ ?_ ?_ rfl <;> simp only [go_sem, ↓reduceIte, Nat.reduceEqDiff, reduceCtorEq, Nat.reduceAdd, Nat.reduceLT, Nat.reduceLeDiff, Nat.reduceBNe, Nat.reduceBEq, Int.reduceToNat] <;> (repeat' apply And.intro) <;> (try first | rfl | exact wk_frzb rfl rfl rfl | exact wk_fn rfl | exact .nilo _ _ _ rfl rfl)
        · skip
          refine aw_skip ?_
          try simp only [go_sem, ↓reduceIte, Nat.reduceEqDiff, reduceCtorEq, Nat.reduceAdd, Nat.reduceLT, Nat.reduceLeDiff, Nat.reduceBNe, Nat.reduceBEq, Int.reduceToNat]
          refine hKC5 (lastTo 47 s i, (N : Int)) _ ?_ ?_
          · (try dsimp only); exact ⟨by rw [lastTo, if_neg (of_decide_eq_false hb5)], by rw [hcs, if_neg (of_decide_eq_false hb5)]; rfl⟩
          · refine Le.mk _ _ ?_ ?_ rfl <;> simp only [go_sem, ↓reduceIte, Nat.reduceEqDiff, reduceCtorEq, Nat.reduceAdd, Nat.reduceLT, Nat.reduceLeDiff, Nat.reduceBNe, Nat.reduceBEq, Int.reduceToNat] <;> (repeat' apply And.intro) <;> (try first | rfl | exact wk_frzb rfl rfl rfl | exact wk_fn rfl | exact .nilo _ _ _ rfl rfl)
      · rintro ⟨y, z⟩ ⟨hy, hz⟩
        try dsimp only at *
        have h32 := byte32 (s.getD i 0)
        refine aw_seq (aw_region (EF := EF0) hG (by rw [hN]; exact tr23_8) ?_)
        simp only [a23_8, go_sem, ↓reduceIte, Nat.reduceEqDiff, reduceCtorEq, Nat.reduceAdd, Nat.reduceLT, Nat.reduceLeDiff, Nat.reduceBNe, Nat.reduceBEq, Int.reduceToNat, h32, trPar, fPr_eq]
        (repeat' apply And.intro) <;> (try first | omega | (intros; (repeat' apply And.intro) <;> first | assumption | omega | (simp_all; done)))
        refine aw_cond (b := _) rfl (fun hb8 => ?_) (fun hb8 => ?_)
        · skip
          have hlb : lastTo 32 s (i + 1) = i := by rw [lastTo, if_pos (of_decide_eq_true hb8)]
          refine aw_region (EF := EF0) hG (by rw [hN]; exact tr23_9) ?_
          simp only [a23_9, go_sem, ↓reduceIte, Nat.reduceEqDiff, reduceCtorEq, Nat.reduceAdd, Nat.reduceLT, Nat.reduceLeDiff, Nat.reduceBNe, Nat.reduceBEq, Int.reduceToNat, trPar, fPr_eq]
          refine aw_region (EF := EF0) hG (by rw [hN]; exact tr23_4) ?_
          simp only [a23_4, go_sem, ↓reduceIte, Nat.reduceEqDiff, reduceCtorEq, Nat.reduceAdd, Nat.reduceLT, Nat.reduceLeDiff, Nat.reduceBNe, Nat.reduceBEq, Int.reduceToNat, inI, trPar, fPr_eq]
          (repeat' apply And.intro) <;> (try first | omega | (intros; (repeat' apply And.intro) <;> first | assumption | omega | (simp_all; done)))
          refine hKL0 (i + 1) _ ?_ ?_ ?_
          · (try dsimp only); exact hc3
          · (try dsimp only); omega
          · refine Le.mk _ _ ?_ ?_ rfl <;> simp only [go_sem, ↓reduceIte, Nat.reduceEqDiff, reduceCtorEq, Nat.reduceAdd, Nat.reduceLT, Nat.reduceLeDiff, Nat.reduceBNe, Nat.reduceBEq, Int.reduceToNat, hy, hz, hlb] <;> (repeat' apply And.intro) <;> (try first | rfl | exact wk_frzb rfl rfl rfl | exact wk_fn rfl | exact .nilo _ _ _ rfl rfl)
        · skip
          have hlb : lastTo 32 s (i + 1) = lastTo 32 s i := by rw [lastTo, if_neg (of_decide_eq_false hb8)]
          refine aw_skip ?_
          try simp only [go_sem, ↓reduceIte, Nat.reduceEqDiff, reduceCtorEq, Nat.reduceAdd, Nat.reduceLT, Nat.reduceLeDiff, Nat.reduceBNe, Nat.reduceBEq, Int.reduceToNat]
          refine aw_region (EF := EF0) hG (by rw [hN]; exact tr23_4) ?_
          simp only [a23_4, go_sem, ↓reduceIte, Nat.reduceEqDiff, reduceCtorEq, Nat.reduceAdd, Nat.reduceLT, Nat.reduceLeDiff, Nat.reduceBNe, Nat.reduceBEq, Int.reduceToNat, inI, trPar, fPr_eq]
          (repeat' apply And.intro) <;> (try first | omega | (intros; (repeat' apply And.intro) <;> first | assumption | omega | (simp_all; done)))
          refine hKL0 (i + 1) _ ?_ ?_ ?_
          · (try dsimp only); exact hc3
          · (try dsimp only); omega
          · refine Le.mk _ _ ?_ ?_ rfl <;> simp only [go_sem, ↓reduceIte, Nat.reduceEqDiff, reduceCtorEq, Nat.reduceAdd, Nat.reduceLT, Nat.reduceLeDiff, Nat.reduceBNe, Nat.reduceBEq, Int.reduceToNat, hy, hz, hlb] <;> (repeat' apply And.intro) <;> (try first | rfl | exact wk_frzb rfl rfl rfl | exact wk_fn rfl | exact .nilo _ _ _ rfl rfl)
    · simp only [decide_eq_true_eq, decide_eq_false_iff_not, Bool.and_eq_true, Bool.or_eq_true, Bool.not_eq_true', Bool.not_eq_false', Bool.and_eq_false_iff, Bool.or_eq_false_iff, Int.ofNat_lt, Int.ofNat_le, Nat.not_lt, Nat.not_le, Int.not_lt, Int.not_le] at hc3
      refine aw_exit ?_
      simp only [go_sem, ↓reduceIte, Nat.reduceEqDiff, reduceCtorEq, Nat.reduceAdd, Nat.reduceLT, Nat.reduceLeDiff, Nat.reduceBNe, Nat.reduceBEq, Int.reduceToNat]
      refine aw_seq ?_
      have hie : i = s.length := Nat.le_antisymm hi hc3
      subst hie
      have hcp : (!decide (((s.count 47 : Nat) : Int) = 1) || decide (lastTo 32 s s.length < lastTo 47 s s.length)) = badP s := rfl
      refine aw_seq (aw_region (EF := EF0) hG (by rw [hN]; exact tr23_10) ?_)
      simp only [a23_10, go_sem, ↓reduceIte, Nat.reduceEqDiff, reduceCtorEq, Nat.reduceAdd, Nat.reduceLT, Nat.reduceLeDiff, Nat.reduceBNe, Nat.reduceBEq, Int.reduceToNat, List.take_length, hcp, trPar, fPr_eq]
      (repeat' apply And.intro) <;> (try first | omega | (intros; (repeat' apply And.intro) <;> first | assumption | omega | (simp_all; done)))
      refine aw_cond (b := _) rfl (fun hb2 => ?_) (fun hb2 => ?_)
      · skip
        refine aw_seq (aw_region (EF := EF0) hG (by rw [hN]; exact tr23_11) ?_)
        simp only [a23_11, go_sem, ↓reduceIte, Nat.reduceEqDiff, reduceCtorEq, Nat.reduceAdd, Nat.reduceLT, Nat.reduceLeDiff, Nat.reduceBNe, Nat.reduceBEq, Int.reduceToNat, trPar, fPr_eq]
        refine AW.le (s' := ⟨mkE [(2, .ptr 2 0), (3, .int .i64 3)], mkH [(2, .box 30 Person.zero.enc)]⟩) (Le.mk _ _ ?_ ?_ rfl) (aw_ret (hQ _ _ (.inl rfl) ?_ ?_ ?_)) <;> simp only [outφ, outV, AR.res, go_sem, ↓reduceIte, Nat.reduceEqDiff, reduceCtorEq, Nat.reduceAdd, Nat.reduceLT, Nat.reduceLeDiff, Nat.reduceBNe, Nat.reduceBEq, Int.reduceToNat, Person.enc, Person.zero, fPar, parV]
        · rw [parT, if_pos hb2]; rfl
      · skip
        obtain ⟨i, k, hI, hK, hI2, hik, hkl, hsi, hsk⟩ := good_p hb2
        have hnb : ¬ (badP s = true) := by rw [hb2]; decide
        have ei : ((i : Int) + 1).toNat = i + 1 := by omega
        have ek : ((k : Int) + 1).toNat = k + 1 := by omega
        have hx : (⟨s.take i, (s.take k).drop (i + 1), s.drop (k + 1)⟩ : Person) = parX s i k := rfl
        have l1 : min i s.length ≤ 1000000 := by omega
        have l2 : min k s.length - (i + 1) ≤ 1000000 := by omega
        have l3 : s.length - (k + 1) ≤ 1000000 := by omega
        have hI' : lastTo 47 s s.length = i := hI
        have hK' : lastTo 32 s s.length = k := hK
        refine aw_skip ?_
        try simp only [go_sem, ↓reduceIte, Nat.reduceEqDiff, reduceCtorEq, Nat.reduceAdd, Nat.reduceLT, Nat.reduceLeDiff, Nat.reduceBNe, Nat.reduceBEq, Int.reduceToNat]
        refine aw_seq (aw_regionD (EF := EF0) hG mixed (by rw [hN]; exact tr23_12) ok23_12 ?_)
        simp only [a23_12, d23_12, go_sem, ↓reduceIte, Nat.reduceEqDiff, reduceCtorEq, Nat.reduceAdd, Nat.reduceLT, Nat.reduceLeDiff, Nat.reduceBNe, Nat.reduceBEq, Int.reduceToNat, inI, hI', hK', ei, ek, Int.toNat_natCast, List.drop_zero, List.take_length, trPar, fPr_eq]
        (repeat' apply And.intro) <;> (try first | omega | (intros; (repeat' apply And.intro) <;> first | assumption | omega | (simp_all; done)))
        refine aw_seq (aw_region (EF := EF0) hG (by rw [hN]; exact tr23_13) ?_)
        simp only [a23_13, go_sem, ↓reduceIte, Nat.reduceEqDiff, reduceCtorEq, Nat.reduceAdd, Nat.reduceLT, Nat.reduceLeDiff, Nat.reduceBNe, Nat.reduceBEq, Int.reduceToNat, hx, prV, List.length_take, List.length_drop, l1, l2, l3, trPar, fPr_eq]
        (repeat' apply And.intro) <;> (try first | omega | (intros; (repeat' apply And.intro) <;> first | assumption | omega | (simp_all; done)))
        refine aw_seq ?_
        refine aw_seq (aw_region (EF := EF0) hG (by rw [hN]; exact tr23_14) ?_)
        simp only [a23_14, go_sem, ↓reduceIte, Nat.reduceEqDiff, reduceCtorEq, Nat.reduceAdd, Nat.reduceLT, Nat.reduceLeDiff, Nat.reduceBNe, Nat.reduceBEq, Int.reduceToNat, trPar, fPr_eq]
        refine aw_cond (b := _) rfl (fun hb6 => ?_) (fun hb6 => ?_)
        · skip
          refine aw_seq (aw_region (EF := EF0) hG (by rw [hN]; exact tr23_15) ?_)
          simp only [a23_15, go_sem, ↓reduceIte, Nat.reduceEqDiff, reduceCtorEq, Nat.reduceAdd, Nat.reduceLT, Nat.reduceLeDiff, Nat.reduceBNe, Nat.reduceBEq, Int.reduceToNat, trPar, fPr_eq]
          refine AW.le (s' := ⟨mkE [(2, .ptr 2 0), (3, .int .i64 (prT (parX s i k)).2)], mkH [(2, .box 30 Person.zero.enc)]⟩) (Le.mk _ _ ?_ ?_ rfl) (aw_ret (hQ _ _ (.inl rfl) ?_ ?_ ?_)) <;> simp only [outφ, outV, AR.res, go_sem, ↓reduceIte, Nat.reduceEqDiff, reduceCtorEq, Nat.reduceAdd, Nat.reduceLT, Nat.reduceLeDiff, Nat.reduceBNe, Nat.reduceBEq, Int.reduceToNat, Person.enc, Person.zero, fPar, parV]
          · rw [parT, if_neg hnb, hI, hK, Int.toNat_natCast, Int.toNat_natCast, if_neg (by simpa using hb6)]; rfl
        · skip
          refine aw_skip ?_
          try simp only [go_sem, ↓reduceIte, Nat.reduceEqDiff, reduceCtorEq, Nat.reduceAdd, Nat.reduceLT, Nat.reduceLeDiff, Nat.reduceBNe, Nat.reduceBEq, Int.reduceToNat]
          refine aw_seq (aw_region (EF := EF0) hG (by rw [hN]; exact tr23_16) ?_)
          simp only [a23_16, go_sem, ↓reduceIte, Nat.reduceEqDiff, reduceCtorEq, Nat.reduceAdd, Nat.reduceLT, Nat.reduceLeDiff, Nat.reduceBNe, Nat.reduceBEq, Int.reduceToNat, trPar, fPr_eq]
          refine AW.le (s' := ⟨mkE [(2, .ptr 2 0), (3, .int .i64 0)], mkH [(2, .box 30 (parX s i k).enc)]⟩) (Le.mk _ _ ?_ ?_ rfl) (aw_ret (hQ _ _ (.inl rfl) ?_ ?_ ?_)) <;> simp only [outφ, outV, AR.res, go_sem, ↓reduceIte, Nat.reduceEqDiff, reduceCtorEq, Nat.reduceAdd, Nat.reduceLT, Nat.reduceLeDiff, Nat.reduceBNe, Nat.reduceBEq, Int.reduceToNat, Person.enc, parX, fPar, parV]
          · rw [parT, if_neg hnb, hI, hK, Int.toNat_natCast, Int.toNat_natCast, if_pos (by simpa using hb6)]; rfl
end Go.Proofs.YtbakkdnhbeldcaaDoor
