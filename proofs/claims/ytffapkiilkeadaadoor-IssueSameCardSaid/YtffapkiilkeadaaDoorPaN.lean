/- Names in the reference. -/
import Derived.Test.YtffapkiilkeadaaDoorPa1
namespace Go.Proofs.YtffapkiilkeadaaDoor
open Go Go.RowKit
set_option linter.unusedSimpArgs false
set_option linter.unusedVariables false
set_option linter.deprecated false
theorem okF_last : ∀ (s : List UInt8) (p : Bool), s ≠ [] → s.getD (s.length - 1) 0 = 32 → okF p s = false
  | [c], p, _, h => by
    have : c = 32 := by simpa using h
    subst this
    rw [okF, if_pos rfl]; simp [okF]
  | c :: d :: s, p, _, h => by
    have h2 : (d :: s).getD ((d :: s).length - 1) 0 = 32 := by simpa using h
    rw [okF, okF_last (d :: s) true (by simp) h2, okF_last (d :: s) false (by simp) h2]
    simp
def rName (s : List UInt8) (i : Nat) : Bool := decide (i = 0) || decide (s.getD (i - 1) 0 = 32)
theorem okF_step {s : List UInt8} {i : Nat} (hi : i < s.length) (p : Bool) : okF p (s.drop i) = if s.getD i 0 = 32 then !p && okF true (s.drop (i + 1)) else capB ((s.getD i 0).toNat : Int) && okF false (s.drop (i + 1)) := by
  rw [List.drop_eq_getElem_cons hi, okF]
  have e : s.getD i 0 = s[i] := by rw [List.getD_eq_getElem?_getD, List.getElem?_eq_getElem hi]; rfl
  rw [e]
theorem byte32 (c : UInt8) : decide ((c.toNat : Int) = 32) = decide (c = 32) := decide_eq_decide.2 ⟨fun h => UInt8.toNat_inj.1 (by show c.toNat = 32; omega), fun h => by rw [h]; rfl⟩
theorem cap32 : capB 32 = false := by decide
theorem nameB_bad {s : List UInt8} (hlast : s.getD (s.length - 1) 0 = 32 → okF true s = false) (h : (decide ((s.length : Int) < 1) || decide (30 < (s.length : Int)) || decide (((s.getD 0 0).toNat : Int) = 32) || decide (((s.getD (s.length - 1) 0).toNat : Int) = 32)) = true) : nameB s = false := by
  unfold nameB
  rw [byte32, byte32] at h
  simp only [Bool.or_eq_true, decide_eq_true_eq] at h
  rcases h with ((h | h) | h) | h
  · have : s = [] := List.eq_nil_of_length_eq_zero (by omega)
    subst this; decide
  · rw [decide_eq_false (by omega), Bool.false_and]
  · cases s with
    | nil => decide
    | cons c s =>
      have : c = 32 := by simpa using h
      subst this
      rw [okF, if_pos rfl]; simp
  · rw [hlast h, Bool.and_false]
noncomputable def trNm : Tab
  | 47 => (gByte capB)
  | _ => gNo
theorem trNm_ok : ∀ f, PureC Tryd.prog UT f (trNm f) := fun f => by
  unfold trNm
  split
  · exact rupper_p
  · exact PureC.no
theorem gByte_eq (p : Int → Bool) (n : Int) : gByte p [.int .u8 n] = (True, .bool (p n)) := rfl
set_option maxHeartbeats 2000000 in
theorem rname_p : PureC Tryd.prog UT 26 (gOf aStr fName) := by
  have hG := trNm_ok
  refine PureC.ofArgs aStr_inj Tryd.func26 body26 nm26 res26 ?_
  rintro s hv
  refine ⟨by rw [nt26]; simp [aStr], fun C hN Q hQ => ?_⟩
  rw [nt26] at hN
  unfold c26
  replace hv : s.length ≤ 140737488355328 := hv
  refine aw_seq (aw_region (EF := EF0) hG (by rw [hN]; exact tr26_0) ?_)
  simp only [a26_0, go_sem, ↓reduceIte, Nat.reduceEqDiff, reduceCtorEq, Nat.reduceAdd, Nat.reduceLT, Nat.reduceLeDiff, Nat.reduceBNe, Nat.reduceBEq, Int.reduceToNat, aStr, trNm, gByte_eq]
  refine aw_seq ?_
  by_cases h0 : s = []
  · skip
    subst h0
    refine aw_seq (aw_region (EF := EF0) hG (by rw [hN]; exact tr26_1) ?_)
    simp only [a26_1, go_sem, ↓reduceIte, Nat.reduceEqDiff, reduceCtorEq, Nat.reduceAdd, Nat.reduceLT, Nat.reduceLeDiff, Nat.reduceBNe, Nat.reduceBEq, Int.reduceToNat, inI, trNm, gByte_eq]
    (repeat' apply And.intro) <;> (try first | omega | ((fail_if_success refine idW ?_); (fail_if_success refine idS ?_); intros; (repeat' apply And.intro) <;> first | assumption | omega | (simp_all; done)))
    refine aw_condT rfl ?_
    refine aw_seq (aw_region (EF := EF0) hG (by rw [hN]; exact tr26_2) ?_)
    simp only [a26_2, go_sem, ↓reduceIte, Nat.reduceEqDiff, reduceCtorEq, Nat.reduceAdd, Nat.reduceLT, Nat.reduceLeDiff, Nat.reduceBNe, Nat.reduceBEq, Int.reduceToNat, trNm, gByte_eq]
    refine aw_ret ?_
    show Q _ _
    refine hQ _ _ (.inl rfl) ?_ ?_ ?_ <;> simp only [outφ, outV, AR.res, go_sem, ↓reduceIte, Nat.reduceEqDiff, reduceCtorEq, Nat.reduceAdd, Nat.reduceLT, Nat.reduceLeDiff, Nat.reduceBNe, Nat.reduceBEq, Int.reduceToNat, fName]
    exact congrArg V.bool (by decide)
  · skip
    have hpos : 0 < s.length := List.length_pos_iff.2 h0
    have e1 : ((s.length : Int) - 1).toNat = s.length - 1 := by omega
    have hlast : s.getD (s.length - 1) 0 = 32 → okF true s = false := okF_last s true h0
    refine aw_seq (aw_region (EF := EF0) hG (by rw [hN]; exact tr26_1) ?_)
    simp only [a26_1, go_sem, ↓reduceIte, Nat.reduceEqDiff, reduceCtorEq, Nat.reduceAdd, Nat.reduceLT, Nat.reduceLeDiff, Nat.reduceBNe, Nat.reduceBEq, Int.reduceToNat, inI, trNm, gByte_eq, e1]
    (repeat' apply And.intro) <;> (try first | omega | ((fail_if_success refine idW ?_); (fail_if_success refine idS ?_); intros; (repeat' apply And.intro) <;> first | assumption | omega | (simp_all; done)))
    refine aw_cond (b := _) rfl (fun hb1 => ?_) (fun hb1 => ?_)
    · skip
      refine aw_seq (aw_region (EF := EF0) hG (by rw [hN]; exact tr26_2) ?_)
      simp only [a26_2, go_sem, ↓reduceIte, Nat.reduceEqDiff, reduceCtorEq, Nat.reduceAdd, Nat.reduceLT, Nat.reduceLeDiff, Nat.reduceBNe, Nat.reduceBEq, Int.reduceToNat, trNm, gByte_eq]
      refine aw_ret ?_
      show Q _ _
      refine hQ _ _ (.inl rfl) ?_ ?_ ?_ <;> simp only [outφ, outV, AR.res, go_sem, ↓reduceIte, Nat.reduceEqDiff, reduceCtorEq, Nat.reduceAdd, Nat.reduceLT, Nat.reduceLeDiff, Nat.reduceBNe, Nat.reduceBEq, Int.reduceToNat, fName]
      rw [nameB_bad hlast hb1]
    · skip
      refine aw_skip ?_
      try simp only [go_sem, ↓reduceIte, Nat.reduceEqDiff, reduceCtorEq, Nat.reduceAdd, Nat.reduceLT, Nat.reduceLeDiff, Nat.reduceBNe, Nat.reduceBEq, Int.reduceToNat]
      refine aw_seq ?_
      simp only [Bool.or_eq_false_iff, decide_eq_false_iff_not] at hb1
      obtain ⟨⟨⟨g1, g2⟩, g3⟩, g4⟩ := hb1
      have hl : s.length ≤ 30 := by omega
      have hd30 : decide ((s.length : Int) ≤ 30) = true := decide_eq_true (by omega)
      refine aw_seq (aw_region (EF := EF0) hG (by rw [hN]; exact tr26_3) ?_)
      simp only [a26_3, go_sem, ↓reduceIte, Nat.reduceEqDiff, reduceCtorEq, Nat.reduceAdd, Nat.reduceLT, Nat.reduceLeDiff, Nat.reduceBNe, Nat.reduceBEq, Int.reduceToNat, trNm, gByte_eq]
      refine aw_block ?_
      refine aw_loop (α := Nat) (fun i => (i ≤ s.length) ∧ (okF true s = okF (rName s i) (s.drop i))) (fun i => ⟨mkE [(0, V.str s), (3, .int .i64 i)], mkH []⟩) (fun i => s.length - i) 0 ⟨Nat.zero_le _, rfl⟩ ?_ ?_
      · refine Le.mk _ _ ?_ ?_ rfl <;> simp only [go_sem, ↓reduceIte, Nat.reduceEqDiff, reduceCtorEq, Nat.reduceAdd, Nat.reduceLT, Nat.reduceLeDiff, Nat.reduceBNe, Nat.reduceBEq, Int.reduceToNat] <;> (repeat' apply And.intro) <;> (try first | rfl | exact wk_frzb rfl rfl rfl | exact wk_fn rfl | exact .nilo _ _ _ rfl rfl | exact wk_frzm rfl rfl (fun kv hk => by obtain ⟨_, _, rfl⟩ := List.mem_map.1 hk; rfl))
      · rintro i ⟨hi, hinv⟩ KL0 hKL0
        try dsimp only at *
        refine aw_seq ?_
        refine aw_seq (aw_region (EF := EF0) hG (by rw [hN]; exact tr26_4) ?_)
        simp only [a26_4, go_sem, ↓reduceIte, Nat.reduceEqDiff, reduceCtorEq, Nat.reduceAdd, Nat.reduceLT, Nat.reduceLeDiff, Nat.reduceBNe, Nat.reduceBEq, Int.reduceToNat, trNm, gByte_eq]
        refine aw_cond (b := _) rfl (fun hc4 => ?_) (fun hc4 => ?_)
        · simp only [decide_eq_true_eq, decide_eq_false_iff_not, Bool.and_eq_true, Bool.or_eq_true, Bool.not_eq_true', Bool.not_eq_false', Bool.and_eq_false_iff, Bool.or_eq_false_iff, Int.ofNat_lt, Int.ofNat_le, Nat.not_lt, Nat.not_le, Int.not_lt, Int.not_le] at hc4
          refine aw_skip ?_
          try simp only [go_sem, ↓reduceIte, Nat.reduceEqDiff, reduceCtorEq, Nat.reduceAdd, Nat.reduceLT, Nat.reduceLeDiff, Nat.reduceBNe, Nat.reduceBEq, Int.reduceToNat]
          refine aw_seq ?_
          refine aw_block ?_
          have hst := okF_step hc4 (rName s i)
          have hbyte := byte32 (s.getD i 0)
          have hbyte1 := byte32 (s.getD (i - 1) 0)
          have hr1 : rName s (i + 1) = decide (s.getD i 0 = 32) := by unfold rName; simp
          by_cases hz : s.getD i 0 = 32
          · skip
            rw [decide_eq_true hz] at hbyte hr1
            have hi0 : i ≠ 0 := fun h => g3 (by rw [h] at hz; rw [hz]; rfl)
            have e2 : ((i : Int) - 1).toNat = i - 1 := by omega
            have e3 : (0 : Int) ≤ (i : Int) - 1 := by omega
            have e4 : (i : Int) - 1 < (s.length : Int) := by omega
            have hcz : capB ((s.getD i 0).toNat : Int) = false := by rw [hz]; exact cap32
            have hr0 : rName s i = decide (s.getD (i - 1) 0 = 32) := by unfold rName; rw [decide_eq_false hi0, Bool.false_or]
            refine aw_seq (aw_region (EF := EF0) hG (by rw [hN]; exact tr26_6) ?_)
            simp only [a26_6, go_sem, ↓reduceIte, Nat.reduceEqDiff, reduceCtorEq, Nat.reduceAdd, Nat.reduceLT, Nat.reduceLeDiff, Nat.reduceBNe, Nat.reduceBEq, Int.reduceToNat, inI, hbyte, hbyte1, trNm, gByte_eq, e2, e3, e4, hcz]
            (repeat' apply And.intro) <;> (try first | omega | ((fail_if_success refine idW ?_); (fail_if_success refine idS ?_); intros; (repeat' apply And.intro) <;> first | assumption | omega | (simp_all; done)))
            refine aw_cond (b := _) rfl (fun hb6 => ?_) (fun hb6 => ?_)
            · skip
              refine aw_seq (aw_region (EF := EF0) hG (by rw [hN]; exact tr26_7) ?_)
              simp only [a26_7, go_sem, ↓reduceIte, Nat.reduceEqDiff, reduceCtorEq, Nat.reduceAdd, Nat.reduceLT, Nat.reduceLeDiff, Nat.reduceBNe, Nat.reduceBEq, Int.reduceToNat, trNm, gByte_eq]
              refine aw_ret ?_
              show Q _ _
              refine hQ _ _ (.inl rfl) ?_ ?_ ?_ <;> simp only [outφ, outV, AR.res, go_sem, ↓reduceIte, Nat.reduceEqDiff, reduceCtorEq, Nat.reduceAdd, Nat.reduceLT, Nat.reduceLeDiff, Nat.reduceBNe, Nat.reduceBEq, Int.reduceToNat, fName, nameB]
              rw [hinv, hst, if_pos hz, hr0, hb6]; simp
            · skip
              refine aw_skip ?_
              try simp only [go_sem, ↓reduceIte, Nat.reduceEqDiff, reduceCtorEq, Nat.reduceAdd, Nat.reduceLT, Nat.reduceLeDiff, Nat.reduceBNe, Nat.reduceBEq, Int.reduceToNat]
              refine aw_region (EF := EF0) hG (by rw [hN]; exact tr26_5) ?_
              simp only [a26_5, go_sem, ↓reduceIte, Nat.reduceEqDiff, reduceCtorEq, Nat.reduceAdd, Nat.reduceLT, Nat.reduceLeDiff, Nat.reduceBNe, Nat.reduceBEq, Int.reduceToNat, inI, trNm, gByte_eq]
              (repeat' apply And.intro) <;> (try first | omega | ((fail_if_success refine idW ?_); (fail_if_success refine idS ?_); intros; (repeat' apply And.intro) <;> first | assumption | omega | (simp_all; done)))
              refine hKL0 (i + 1) _ ?_ ?_ ?_
              · (try dsimp only); exact ⟨hc4, by rw [hinv, hst, if_pos hz, hr0, hb6, hr1]; rfl⟩
              · (try dsimp only); omega
              · refine Le.mk _ _ ?_ ?_ rfl <;> simp only [go_sem, ↓reduceIte, Nat.reduceEqDiff, reduceCtorEq, Nat.reduceAdd, Nat.reduceLT, Nat.reduceLeDiff, Nat.reduceBNe, Nat.reduceBEq, Int.reduceToNat] <;> (repeat' apply And.intro) <;> (try first | rfl | exact wk_frzb rfl rfl rfl | exact wk_fn rfl | exact .nilo _ _ _ rfl rfl | exact wk_frzm rfl rfl (fun kv hk => by obtain ⟨_, _, rfl⟩ := List.mem_map.1 hk; rfl))
          · skip
            rw [decide_eq_false hz] at hbyte hr1
            generalize hcb : capB ((s.getD i 0).toNat : Int) = cb at hst
            refine aw_seq (aw_region (EF := EF0) hG (by rw [hN]; exact tr26_6) ?_)
            simp only [a26_6, go_sem, ↓reduceIte, Nat.reduceEqDiff, reduceCtorEq, Nat.reduceAdd, Nat.reduceLT, Nat.reduceLeDiff, Nat.reduceBNe, Nat.reduceBEq, Int.reduceToNat, inI, hbyte, hbyte1, trNm, gByte_eq, hcb]
            (repeat' apply And.intro) <;> (try first | omega | ((fail_if_success refine idW ?_); (fail_if_success refine idS ?_); intros; (repeat' apply And.intro) <;> first | assumption | omega | (simp_all; done)))
            refine aw_cond (b := _) rfl (fun hb6 => ?_) (fun hb6 => ?_)
            · skip
              refine aw_seq (aw_region (EF := EF0) hG (by rw [hN]; exact tr26_7) ?_)
              simp only [a26_7, go_sem, ↓reduceIte, Nat.reduceEqDiff, reduceCtorEq, Nat.reduceAdd, Nat.reduceLT, Nat.reduceLeDiff, Nat.reduceBNe, Nat.reduceBEq, Int.reduceToNat, trNm, gByte_eq]
              refine aw_ret ?_
              show Q _ _
              refine hQ _ _ (.inl rfl) ?_ ?_ ?_ <;> simp only [outφ, outV, AR.res, go_sem, ↓reduceIte, Nat.reduceEqDiff, reduceCtorEq, Nat.reduceAdd, Nat.reduceLT, Nat.reduceLeDiff, Nat.reduceBNe, Nat.reduceBEq, Int.reduceToNat, fName, nameB]
              rw [hinv, hst, if_neg hz]; simp at hb6; rw [hb6]; simp
            · skip
              refine aw_skip ?_
              try simp only [go_sem, ↓reduceIte, Nat.reduceEqDiff, reduceCtorEq, Nat.reduceAdd, Nat.reduceLT, Nat.reduceLeDiff, Nat.reduceBNe, Nat.reduceBEq, Int.reduceToNat]
              refine aw_region (EF := EF0) hG (by rw [hN]; exact tr26_5) ?_
              simp only [a26_5, go_sem, ↓reduceIte, Nat.reduceEqDiff, reduceCtorEq, Nat.reduceAdd, Nat.reduceLT, Nat.reduceLeDiff, Nat.reduceBNe, Nat.reduceBEq, Int.reduceToNat, inI, trNm, gByte_eq]
              (repeat' apply And.intro) <;> (try first | omega | ((fail_if_success refine idW ?_); (fail_if_success refine idS ?_); intros; (repeat' apply And.intro) <;> first | assumption | omega | (simp_all; done)))
              refine hKL0 (i + 1) _ ?_ ?_ ?_
              · (try dsimp only); exact ⟨hc4, by rw [hinv, hst, if_neg hz, hr1]; simp at hb6; rw [hb6]; simp⟩
              · (try dsimp only); omega
              · refine Le.mk _ _ ?_ ?_ rfl <;> simp only [go_sem, ↓reduceIte, Nat.reduceEqDiff, reduceCtorEq, Nat.reduceAdd, Nat.reduceLT, Nat.reduceLeDiff, Nat.reduceBNe, Nat.reduceBEq, Int.reduceToNat] <;> (repeat' apply And.intro) <;> (try first | rfl | exact wk_frzb rfl rfl rfl | exact wk_fn rfl | exact .nilo _ _ _ rfl rfl | exact wk_frzm rfl rfl (fun kv hk => by obtain ⟨_, _, rfl⟩ := List.mem_map.1 hk; rfl))
        · simp only [decide_eq_true_eq, decide_eq_false_iff_not, Bool.and_eq_true, Bool.or_eq_true, Bool.not_eq_true', Bool.not_eq_false', Bool.and_eq_false_iff, Bool.or_eq_false_iff, Int.ofNat_lt, Int.ofNat_le, Nat.not_lt, Nat.not_le, Int.not_lt, Int.not_le] at hc4
          refine aw_exit ?_
          simp only [go_sem, ↓reduceIte, Nat.reduceEqDiff, reduceCtorEq, Nat.reduceAdd, Nat.reduceLT, Nat.reduceLeDiff, Nat.reduceBNe, Nat.reduceBEq, Int.reduceToNat]
          refine aw_seq (aw_region (EF := EF0) hG (by rw [hN]; exact tr26_8) ?_)
          simp only [a26_8, go_sem, ↓reduceIte, Nat.reduceEqDiff, reduceCtorEq, Nat.reduceAdd, Nat.reduceLT, Nat.reduceLeDiff, Nat.reduceBNe, Nat.reduceBEq, Int.reduceToNat, trNm, gByte_eq]
          refine aw_ret ?_
          show Q _ _
          refine hQ _ _ (.inl rfl) ?_ ?_ ?_ <;> simp only [outφ, outV, AR.res, go_sem, ↓reduceIte, Nat.reduceEqDiff, reduceCtorEq, Nat.reduceAdd, Nat.reduceLT, Nat.reduceLeDiff, Nat.reduceBNe, Nat.reduceBEq, Int.reduceToNat, fName, nameB]
          rw [hd30, hinv, List.drop_eq_nil_of_le hc4, okF, show rName s i = false from by unfold rName; rw [decide_eq_false (by omega), decide_eq_false (by rw [show i = s.length by omega]; intro h; exact g4 (by rw [h]; rfl))]; rfl]; rfl
/-! Persons. -/
end Go.Proofs.YtffapkiilkeadaaDoor
