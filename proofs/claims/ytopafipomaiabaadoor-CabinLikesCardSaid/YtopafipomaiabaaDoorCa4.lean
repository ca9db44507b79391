/- Like, of the program and of the reference. -/
import Derived.Test.YtopafipomaiabaaDoorCa3
namespace Go.Proofs.YtopafipomaiabaaDoor
open Go Go.RowKit
set_option linter.unusedSimpArgs false
set_option linter.unusedVariables false
set_option linter.deprecated false
theorem fPlace_eq (q : List UInt8) (l : List Cabin) (s : List UInt8) : gOf aPlace fPlace [.agg [.str q, .list (l.map Cabin.enc) false], .str s] = (Config.ok ⟨q, l⟩, placeV (place l s)) := gOf_eq aPlace_inj ((⟨q, l⟩, s) : Config × List UInt8)
def zCabin : Cabin := ⟨[], 0, 0, []⟩
def lastOf (l : List Class) : Option (List UInt8) := if l.length = 0 then none else some (l.getD (l.length - 1) zClass).code
def like (la lb : List Cabin) (s : List UInt8) : Option (List UInt8) :=
  match place la s with
  | none => none
  | some (i, _) => match place lb s with
    | some _ => some s
    | none => if lb.length = 0 then none else lastOf (lb.getD (min i (lb.length - 1)) zCabin).cl
def likeV : Option (List UInt8) → V
  | some s => .tup [.str s, .bool true]
  | none => .tup [.str [], .bool false]
def aLike (x : Config × Config × List UInt8) : List V := [.agg x.1.enc, .agg x.2.1.enc, .str x.2.2]
theorem aLike_inj (a b : Config × Config × List UInt8) (h : aLike a = aLike b) : a = b := by
  obtain ⟨a1, a2, a3⟩ := a; obtain ⟨b1, b2, b3⟩ := b
  simp only [aLike, List.cons.injEq, V.str.injEq, V.agg.injEq, and_true] at h
  obtain ⟨h1, h2, rfl⟩ := h
  rw [Config.inj _ _ h1, Config.inj _ _ h2]
def fLike (x : Config × Config × List UInt8) : Prop × V := (x.1.ok ∧ x.2.1.ok, likeV (like x.1.cabs x.2.1.cabs x.2.2))
theorem place_empty (s : List UInt8) : place [] s = none := rfl
theorem placeFrom_lt {s : List UInt8} : ∀ {l : List Cabin} {i n k : Nat}, placeFrom s i l = some (n, k) → n < i + l.length
  | [], _, _, _, h => by cases h
  | y :: ys, i, n, k, h => by
    rw [placeFrom] at h
    split at h
    · injection h with h; injection h with h1 _; subst h1; simp
    · have := placeFrom_lt h
      simp only [List.length_cons]; omega
theorem place_lt {s : List UInt8} {l : List Cabin} {n k : Nat} (h : place l s = some (n, k)) : n < l.length := by
  have := placeFrom_lt h; omega
noncomputable def tLike : Tab
  | 15 => (gOf aPlace fPlace)
  | _ => gNo
theorem tLike_ok : ∀ f, PureC Tryd.prog UT f (tLike f) := fun f => by
  unfold tLike
  split
  · exact place_p
  · exact PureC.no
set_option maxHeartbeats 1000000 in
theorem like_p : PureC Tryd.prog UT 21 (gOf aLike fLike) := by
  have hG := tLike_ok
  refine PureC.ofArgs aLike_inj Tryd.func21 body21 nm21 res21 ?_
  rintro ⟨⟨qa, la⟩, ⟨qb, lb⟩, s⟩ hv
  refine ⟨by rw [nt21]; simp [aLike], fun C hN Q hQ => ?_⟩
  rw [nt21] at hN
  unfold c21
  obtain ⟨ha, hb⟩ : Config.ok ⟨qa, la⟩ ∧ Config.ok ⟨qb, lb⟩ := hv
  have hla := ha.2.1
  have hlb := hb.2.1
  have hyb := hb.2.2
  dsimp only at hla hlb hyb
  refine aw_seq (aw_region (EF := EF0) hG (by rw [hN]; exact tr21_0) ?_)
  simp only [a21_0, go_sem, ↓reduceIte, Nat.reduceEqDiff, reduceCtorEq, Nat.reduceAdd, Nat.reduceLT, Nat.reduceLeDiff, Nat.reduceBNe, Nat.reduceBEq, Int.reduceToNat, aLike, Config.enc]
  rcases hpa : place la s with _ | ⟨i, k⟩
  · refine aw_seq (aw_region (EF := EF0) hG (by rw [hN]; exact tr21_1) ?_)
    simp only [a21_1, go_sem, ↓reduceIte, Nat.reduceEqDiff, reduceCtorEq, Nat.reduceAdd, Nat.reduceLT, Nat.reduceLeDiff, Nat.reduceBNe, Nat.reduceBEq, Int.reduceToNat, tLike, fPlace_eq, hpa, placeV, ha]
    refine aw_seq ?_
    refine aw_seq (aw_region (EF := EF0) hG (by rw [hN]; exact tr21_2) ?_)
    simp only [a21_2, go_sem, ↓reduceIte, Nat.reduceEqDiff, reduceCtorEq, Nat.reduceAdd, Nat.reduceLT, Nat.reduceLeDiff, Nat.reduceBNe, Nat.reduceBEq, Int.reduceToNat]
    refine aw_condT rfl ?_
    refine aw_seq (aw_region (EF := EF0) hG (by rw [hN]; exact tr21_3) ?_)
    simp only [a21_3, go_sem, ↓reduceIte, Nat.reduceEqDiff, reduceCtorEq, Nat.reduceAdd, Nat.reduceLT, Nat.reduceLeDiff, Nat.reduceBNe, Nat.reduceBEq, Int.reduceToNat]
    refine aw_ret ?_
    show Q _ _
    refine hQ _ _ (.inl rfl) ?_ ?_ ?_ <;> simp only [outφ, outV, AR.res, go_sem, ↓reduceIte, Nat.reduceEqDiff, reduceCtorEq, Nat.reduceAdd, Nat.reduceLT, Nat.reduceLeDiff, Nat.reduceBNe, Nat.reduceBEq, Int.reduceToNat, fLike, like, hpa, likeV]
  · have hil := place_lt hpa
    refine aw_seq (aw_region (EF := EF0) hG (by rw [hN]; exact tr21_1) ?_)
    simp only [a21_1, go_sem, ↓reduceIte, Nat.reduceEqDiff, reduceCtorEq, Nat.reduceAdd, Nat.reduceLT, Nat.reduceLeDiff, Nat.reduceBNe, Nat.reduceBEq, Int.reduceToNat, tLike, fPlace_eq, hpa, placeV, ha]
    refine aw_seq ?_
    refine aw_seq (aw_region (EF := EF0) hG (by rw [hN]; exact tr21_2) ?_)
    simp only [a21_2, go_sem, ↓reduceIte, Nat.reduceEqDiff, reduceCtorEq, Nat.reduceAdd, Nat.reduceLT, Nat.reduceLeDiff, Nat.reduceBNe, Nat.reduceBEq, Int.reduceToNat]
    refine aw_condF rfl ?_
    refine aw_skip ?_
    simp only [go_sem, ↓reduceIte, Nat.reduceEqDiff, reduceCtorEq, Nat.reduceAdd, Nat.reduceLT, Nat.reduceLeDiff, Nat.reduceBNe, Nat.reduceBEq, Int.reduceToNat]
    refine aw_seq ?_
    refine aw_seq ?_
    rcases hpb : place lb s with _ | ⟨i2, k2⟩
    · refine aw_region (EF := EF0) hG (by rw [hN]; exact tr21_4) ?_
      simp only [a21_4, go_sem, ↓reduceIte, Nat.reduceEqDiff, reduceCtorEq, Nat.reduceAdd, Nat.reduceLT, Nat.reduceLeDiff, Nat.reduceBNe, Nat.reduceBEq, Int.reduceToNat, tLike, fPlace_eq, hpb, placeV, hb]
      refine aw_seq (aw_region (EF := EF0) hG (by rw [hN]; exact tr21_5) ?_)
      simp only [a21_5, go_sem, ↓reduceIte, Nat.reduceEqDiff, reduceCtorEq, Nat.reduceAdd, Nat.reduceLT, Nat.reduceLeDiff, Nat.reduceBNe, Nat.reduceBEq, Int.reduceToNat]
      refine aw_condF rfl ?_
      refine aw_skip ?_
      simp only [go_sem, ↓reduceIte, Nat.reduceEqDiff, reduceCtorEq, Nat.reduceAdd, Nat.reduceLT, Nat.reduceLeDiff, Nat.reduceBNe, Nat.reduceBEq, Int.reduceToNat]
      by_cases hz : lb.length = 0
      · obtain rfl := List.length_eq_zero_iff.1 hz
        have e0 : min (i : Int) (0 - 1) = -1 := by omega
        refine aw_seq (aw_region (EF := EF0) hG (by rw [hN]; exact tr21_7) ?_)
        simp only [a21_7, go_sem, ↓reduceIte, Nat.reduceEqDiff, reduceCtorEq, Nat.reduceAdd, Nat.reduceLT, Nat.reduceLeDiff, Nat.reduceBNe, Nat.reduceBEq, Int.reduceToNat, inI]
        (repeat' apply And.intro) <;> (try first | omega)
        refine aw_seq ?_
        refine aw_seq (aw_region (EF := EF0) hG (by rw [hN]; exact tr21_8) ?_)
        simp only [a21_8, go_sem, ↓reduceIte, Nat.reduceEqDiff, reduceCtorEq, Nat.reduceAdd, Nat.reduceLT, Nat.reduceLeDiff, Nat.reduceBNe, Nat.reduceBEq, Int.reduceToNat, e0, (show decide ((-1 : Int) < 0) = true from rfl)]
        refine aw_condT rfl ?_
        refine aw_seq (aw_region (EF := EF0) hG (by rw [hN]; exact tr21_9) ?_)
        simp only [a21_9, go_sem, ↓reduceIte, Nat.reduceEqDiff, reduceCtorEq, Nat.reduceAdd, Nat.reduceLT, Nat.reduceLeDiff, Nat.reduceBNe, Nat.reduceBEq, Int.reduceToNat]
        refine aw_ret ?_
        show Q _ _
        refine hQ _ _ (.inl rfl) ?_ ?_ ?_ <;> simp only [outφ, outV, AR.res, go_sem, ↓reduceIte, Nat.reduceEqDiff, reduceCtorEq, Nat.reduceAdd, Nat.reduceLT, Nat.reduceLeDiff, Nat.reduceBNe, Nat.reduceBEq, Int.reduceToNat, fLike, like, hpa, hpb, likeV]
      · have hm : min i (lb.length - 1) < lb.length := by omega
        have e0 : min (i : Int) ((lb.length : Int) - 1) = ((min i (lb.length - 1) : Nat) : Int) := by omega
        have el : lb.getD (min i (lb.length - 1)) zCabin = lb[min i (lb.length - 1)] := by rw [List.getD_eq_getElem?_getD, List.getElem?_eq_getElem hm]; rfl
        generalize hmm : min i (lb.length - 1) = m at hm e0 el
        have hym := (hyb _ (List.getElem_mem hm)).2.2.2.1
        have ed : decide ((m : Int) < 0) = false := decide_eq_false (by omega)
        refine aw_seq (aw_region (EF := EF0) hG (by rw [hN]; exact tr21_7) ?_)
        simp only [a21_7, go_sem, ↓reduceIte, Nat.reduceEqDiff, reduceCtorEq, Nat.reduceAdd, Nat.reduceLT, Nat.reduceLeDiff, Nat.reduceBNe, Nat.reduceBEq, Int.reduceToNat, inI]
        (repeat' apply And.intro) <;> (try first | omega)
        refine aw_seq ?_
        have hl0 : lb.length ≠ 0 := hz
        refine aw_seq (aw_region (EF := EF0) hG (by rw [hN]; exact tr21_8) ?_)
        simp only [a21_8, go_sem, ↓reduceIte, Nat.reduceEqDiff, reduceCtorEq, Nat.reduceAdd, Nat.reduceLT, Nat.reduceLeDiff, Nat.reduceBNe, Nat.reduceBEq, Int.reduceToNat, e0, ed, getD_map _ _ _ hm, hm, Cabin.enc]
        refine aw_cond (b := _) rfl (fun hc => ?_) (fun hc => ?_)
        · simp only [decide_eq_true_eq, decide_eq_false_iff_not, Bool.and_eq_true, Bool.or_eq_true, Bool.not_eq_true', Bool.not_eq_false', Bool.and_eq_false_iff, Bool.or_eq_false_iff, Int.ofNat_lt, Int.ofNat_le, Nat.not_lt, Nat.not_le, Int.not_lt, Int.not_le] at hc
          refine aw_seq (aw_region (EF := EF0) hG (by rw [hN]; exact tr21_9) ?_)
          simp only [a21_9, go_sem, ↓reduceIte, Nat.reduceEqDiff, reduceCtorEq, Nat.reduceAdd, Nat.reduceLT, Nat.reduceLeDiff, Nat.reduceBNe, Nat.reduceBEq, Int.reduceToNat]
          have hlast : lastOf lb[m].cl = none := if_pos (by omega)
          refine aw_ret ?_
          show Q _ _
          refine hQ _ _ (.inl rfl) ?_ ?_ ?_ <;> simp only [outφ, outV, AR.res, go_sem, ↓reduceIte, Nat.reduceEqDiff, reduceCtorEq, Nat.reduceAdd, Nat.reduceLT, Nat.reduceLeDiff, Nat.reduceBNe, Nat.reduceBEq, Int.reduceToNat, fLike, like, hpa, hpb, hl0, hmm, el, hlast, likeV]
        · simp only [decide_eq_true_eq, decide_eq_false_iff_not, Bool.and_eq_true, Bool.or_eq_true, Bool.not_eq_true', Bool.not_eq_false', Bool.and_eq_false_iff, Bool.or_eq_false_iff, Int.ofNat_lt, Int.ofNat_le, Nat.not_lt, Nat.not_le, Int.not_lt, Int.not_le] at hc
          refine aw_skip ?_
          simp only [go_sem, ↓reduceIte, Nat.reduceEqDiff, reduceCtorEq, Nat.reduceAdd, Nat.reduceLT, Nat.reduceLeDiff, Nat.reduceBNe, Nat.reduceBEq, Int.reduceToNat]
          have hk : lb[m].cl.length - 1 < lb[m].cl.length := by omega
          have e1 : (lb[m].cl.length : Int) - 1 = ((lb[m].cl.length - 1 : Nat) : Int) := by omega
          refine aw_seq (aw_region (EF := EF0) hG (by rw [hN]; exact tr21_10) ?_)
          simp only [a21_10, go_sem, ↓reduceIte, Nat.reduceEqDiff, reduceCtorEq, Nat.reduceAdd, Nat.reduceLT, Nat.reduceLeDiff, Nat.reduceBNe, Nat.reduceBEq, Int.reduceToNat, getD_map _ _ _ hm, hm, Cabin.enc]
          refine aw_seq (aw_region (EF := EF0) hG (by rw [hN]; exact tr21_11) ?_)
          simp only [a21_11, go_sem, ↓reduceIte, Nat.reduceEqDiff, reduceCtorEq, Nat.reduceAdd, Nat.reduceLT, Nat.reduceLeDiff, Nat.reduceBNe, Nat.reduceBEq, Int.reduceToNat, e1, inI, getD_map _ _ _ hk, hk, Class.enc]
          (repeat' apply And.intro) <;> (try first | omega)
          have hlast : lastOf lb[m].cl = some (lb[m].cl[lb[m].cl.length - 1]).code := by
            rw [lastOf, if_neg (by omega), List.getD_eq_getElem?_getD, List.getElem?_eq_getElem hk]; rfl
          refine aw_ret ?_
          show Q _ _
          refine hQ _ _ (.inl rfl) ?_ ?_ ?_ <;> simp only [outφ, outV, AR.res, go_sem, ↓reduceIte, Nat.reduceEqDiff, reduceCtorEq, Nat.reduceAdd, Nat.reduceLT, Nat.reduceLeDiff, Nat.reduceBNe, Nat.reduceBEq, Int.reduceToNat, fLike, like, hpa, hpb, hl0, hmm, el, hlast, likeV]
    · refine aw_region (EF := EF0) hG (by rw [hN]; exact tr21_4) ?_
      simp only [a21_4, go_sem, ↓reduceIte, Nat.reduceEqDiff, reduceCtorEq, Nat.reduceAdd, Nat.reduceLT, Nat.reduceLeDiff, Nat.reduceBNe, Nat.reduceBEq, Int.reduceToNat, tLike, fPlace_eq, hpb, placeV, hb]
      refine aw_seq (aw_region (EF := EF0) hG (by rw [hN]; exact tr21_5) ?_)
      simp only [a21_5, go_sem, ↓reduceIte, Nat.reduceEqDiff, reduceCtorEq, Nat.reduceAdd, Nat.reduceLT, Nat.reduceLeDiff, Nat.reduceBNe, Nat.reduceBEq, Int.reduceToNat]
      refine aw_condT rfl ?_
      refine aw_seq (aw_region (EF := EF0) hG (by rw [hN]; exact tr21_6) ?_)
      simp only [a21_6, go_sem, ↓reduceIte, Nat.reduceEqDiff, reduceCtorEq, Nat.reduceAdd, Nat.reduceLT, Nat.reduceLeDiff, Nat.reduceBNe, Nat.reduceBEq, Int.reduceToNat]
      refine aw_ret ?_
      show Q _ _
      refine hQ _ _ (.inl rfl) ?_ ?_ ?_ <;> simp only [outφ, outV, AR.res, go_sem, ↓reduceIte, Nat.reduceEqDiff, reduceCtorEq, Nat.reduceAdd, Nat.reduceLT, Nat.reduceLeDiff, Nat.reduceBNe, Nat.reduceBEq, Int.reduceToNat, fLike, like, hpa, hpb, likeV]
noncomputable def trLike : Tab
  | 16 => (gOf aPlace fPlace)
  | _ => gNo
theorem trLike_ok : ∀ f, PureC Tryd.prog UT f (trLike f) := fun f => by
  unfold trLike
  split
  · exact rplace_p
  · exact PureC.no
theorem like_none {la : List Cabin} {s : List UInt8} {i k : Nat} (h : place la s = some (i, k)) : like la [] s = none := by rw [like, h]; rfl
set_option maxHeartbeats 1000000 in
theorem rlike_p : PureC Tryd.prog UT 22 (gOf aLike fLike) := by
  have hG := trLike_ok
  refine PureC.ofArgs aLike_inj Tryd.func22 body22 nm22 res22 ?_
  rintro ⟨⟨qa, la⟩, ⟨qb, lb⟩, s⟩ hv
  refine ⟨by rw [nt22]; simp [aLike], fun C hN Q hQ => ?_⟩
  rw [nt22] at hN
  unfold c22
  obtain ⟨ha, hb⟩ : Config.ok ⟨qa, la⟩ ∧ Config.ok ⟨qb, lb⟩ := hv
  have hla := ha.2.1
  have hlb := hb.2.1
  have hyb := hb.2.2
  dsimp only at hla hlb hyb
  refine aw_seq (aw_region (EF := EF0) hG (by rw [hN]; exact tr22_0) ?_)
  simp only [a22_0, go_sem, ↓reduceIte, Nat.reduceEqDiff, reduceCtorEq, Nat.reduceAdd, Nat.reduceLT, Nat.reduceLeDiff, Nat.reduceBNe, Nat.reduceBEq, Int.reduceToNat, aLike, Config.enc]
  rcases hpa : place la s with _ | ⟨i, k⟩
  · refine aw_seq (aw_region (EF := EF0) hG (by rw [hN]; exact tr22_1) ?_)
    simp only [a22_1, go_sem, ↓reduceIte, Nat.reduceEqDiff, reduceCtorEq, Nat.reduceAdd, Nat.reduceLT, Nat.reduceLeDiff, Nat.reduceBNe, Nat.reduceBEq, Int.reduceToNat, trLike, fPlace_eq, hpa, placeV, ha]
    refine aw_seq ?_
    refine aw_seq (aw_region (EF := EF0) hG (by rw [hN]; exact tr22_2) ?_)
    simp only [a22_2, go_sem, ↓reduceIte, Nat.reduceEqDiff, reduceCtorEq, Nat.reduceAdd, Nat.reduceLT, Nat.reduceLeDiff, Nat.reduceBNe, Nat.reduceBEq, Int.reduceToNat]
    refine aw_condT rfl ?_
    refine aw_seq (aw_region (EF := EF0) hG (by rw [hN]; exact tr22_3) ?_)
    simp only [a22_3, go_sem, ↓reduceIte, Nat.reduceEqDiff, reduceCtorEq, Nat.reduceAdd, Nat.reduceLT, Nat.reduceLeDiff, Nat.reduceBNe, Nat.reduceBEq, Int.reduceToNat]
    refine aw_ret ?_
    show Q _ _
    refine hQ _ _ (.inl rfl) ?_ ?_ ?_ <;> simp only [outφ, outV, AR.res, go_sem, ↓reduceIte, Nat.reduceEqDiff, reduceCtorEq, Nat.reduceAdd, Nat.reduceLT, Nat.reduceLeDiff, Nat.reduceBNe, Nat.reduceBEq, Int.reduceToNat, fLike, like, hpa, likeV]
  · have hil := place_lt hpa
    refine aw_seq (aw_region (EF := EF0) hG (by rw [hN]; exact tr22_1) ?_)
    simp only [a22_1, go_sem, ↓reduceIte, Nat.reduceEqDiff, reduceCtorEq, Nat.reduceAdd, Nat.reduceLT, Nat.reduceLeDiff, Nat.reduceBNe, Nat.reduceBEq, Int.reduceToNat, trLike, fPlace_eq, hpa, placeV, ha]
    refine aw_seq ?_
    refine aw_seq (aw_region (EF := EF0) hG (by rw [hN]; exact tr22_2) ?_)
    simp only [a22_2, go_sem, ↓reduceIte, Nat.reduceEqDiff, reduceCtorEq, Nat.reduceAdd, Nat.reduceLT, Nat.reduceLeDiff, Nat.reduceBNe, Nat.reduceBEq, Int.reduceToNat]
    by_cases hz : lb.length = 0
    · obtain rfl := List.length_eq_zero_iff.1 hz
      refine aw_condT rfl ?_
      refine aw_seq (aw_region (EF := EF0) hG (by rw [hN]; exact tr22_3) ?_)
      simp only [a22_3, go_sem, ↓reduceIte, Nat.reduceEqDiff, reduceCtorEq, Nat.reduceAdd, Nat.reduceLT, Nat.reduceLeDiff, Nat.reduceBNe, Nat.reduceBEq, Int.reduceToNat]
      refine aw_ret ?_
      show Q _ _
      refine hQ _ _ (.inl rfl) ?_ ?_ ?_ <;> simp only [outφ, outV, AR.res, go_sem, ↓reduceIte, Nat.reduceEqDiff, reduceCtorEq, Nat.reduceAdd, Nat.reduceLT, Nat.reduceLeDiff, Nat.reduceBNe, Nat.reduceBEq, Int.reduceToNat, fLike, like_none hpa, likeV]
    have hzb : decide ((lb.length : Int) = 0) = false := decide_eq_false (by omega)
    simp only [go_sem, ↓reduceIte, Nat.reduceEqDiff, reduceCtorEq, Nat.reduceAdd, Nat.reduceLT, Nat.reduceLeDiff, Nat.reduceBNe, Nat.reduceBEq, Int.reduceToNat, hzb]
    refine aw_condF rfl ?_
    refine aw_skip ?_
    simp only [go_sem, ↓reduceIte, Nat.reduceEqDiff, reduceCtorEq, Nat.reduceAdd, Nat.reduceLT, Nat.reduceLeDiff, Nat.reduceBNe, Nat.reduceBEq, Int.reduceToNat]
    rcases hpb : place lb s with _ | ⟨i2, k2⟩
    · refine aw_seq (aw_region (EF := EF0) hG (by rw [hN]; exact tr22_4) ?_)
      simp only [a22_4, go_sem, ↓reduceIte, Nat.reduceEqDiff, reduceCtorEq, Nat.reduceAdd, Nat.reduceLT, Nat.reduceLeDiff, Nat.reduceBNe, Nat.reduceBEq, Int.reduceToNat, trLike, fPlace_eq, hpb, placeV, hb]
      refine aw_seq ?_
      refine aw_seq (aw_region (EF := EF0) hG (by rw [hN]; exact tr22_5) ?_)
      simp only [a22_5, go_sem, ↓reduceIte, Nat.reduceEqDiff, reduceCtorEq, Nat.reduceAdd, Nat.reduceLT, Nat.reduceLeDiff, Nat.reduceBNe, Nat.reduceBEq, Int.reduceToNat]
      refine aw_condF rfl ?_
      refine aw_skip ?_
      simp only [go_sem, ↓reduceIte, Nat.reduceEqDiff, reduceCtorEq, Nat.reduceAdd, Nat.reduceLT, Nat.reduceLeDiff, Nat.reduceBNe, Nat.reduceBEq, Int.reduceToNat]
      have hm : min i (lb.length - 1) < lb.length := by omega
      have e0 : min (i : Int) ((lb.length : Int) - 1) = ((min i (lb.length - 1) : Nat) : Int) := by omega
      have el : lb.getD (min i (lb.length - 1)) zCabin = lb[min i (lb.length - 1)] := by rw [List.getD_eq_getElem?_getD, List.getElem?_eq_getElem hm]; rfl
      generalize hmm : min i (lb.length - 1) = m at hm e0 el
      have hym := (hyb _ (List.getElem_mem hm)).2.2.2.1
      refine aw_seq (aw_region (EF := EF0) hG (by rw [hN]; exact tr22_7) ?_)
      simp only [a22_7, go_sem, ↓reduceIte, Nat.reduceEqDiff, reduceCtorEq, Nat.reduceAdd, Nat.reduceLT, Nat.reduceLeDiff, Nat.reduceBNe, Nat.reduceBEq, Int.reduceToNat, inI, e0, getD_map _ _ _ hm, hm, Cabin.enc]
      (repeat' apply And.intro) <;> (try first | omega)
      refine aw_seq ?_
      refine aw_seq (aw_region (EF := EF0) hG (by rw [hN]; exact tr22_8) ?_)
      simp only [a22_8, go_sem, ↓reduceIte, Nat.reduceEqDiff, reduceCtorEq, Nat.reduceAdd, Nat.reduceLT, Nat.reduceLeDiff, Nat.reduceBNe, Nat.reduceBEq, Int.reduceToNat]
      have hl0 : lb.length ≠ 0 := hz
      refine aw_cond (b := _) rfl (fun hc => ?_) (fun hc => ?_)
      · simp only [decide_eq_true_eq, decide_eq_false_iff_not, Bool.and_eq_true, Bool.or_eq_true, Bool.not_eq_true', Bool.not_eq_false', Bool.and_eq_false_iff, Bool.or_eq_false_iff, Int.ofNat_lt, Int.ofNat_le, Nat.not_lt, Nat.not_le, Int.not_lt, Int.not_le] at hc
        refine aw_seq (aw_region (EF := EF0) hG (by rw [hN]; exact tr22_9) ?_)
        simp only [a22_9, go_sem, ↓reduceIte, Nat.reduceEqDiff, reduceCtorEq, Nat.reduceAdd, Nat.reduceLT, Nat.reduceLeDiff, Nat.reduceBNe, Nat.reduceBEq, Int.reduceToNat]
        have hlast : lastOf lb[m].cl = none := if_pos (by omega)
        refine aw_ret ?_
        show Q _ _
        refine hQ _ _ (.inl rfl) ?_ ?_ ?_ <;> simp only [outφ, outV, AR.res, go_sem, ↓reduceIte, Nat.reduceEqDiff, reduceCtorEq, Nat.reduceAdd, Nat.reduceLT, Nat.reduceLeDiff, Nat.reduceBNe, Nat.reduceBEq, Int.reduceToNat, fLike, like, hpa, hpb, hl0, hmm, el, hlast, likeV]
      · simp only [decide_eq_true_eq, decide_eq_false_iff_not, Bool.and_eq_true, Bool.or_eq_true, Bool.not_eq_true', Bool.not_eq_false', Bool.and_eq_false_iff, Bool.or_eq_false_iff, Int.ofNat_lt, Int.ofNat_le, Nat.not_lt, Nat.not_le, Int.not_lt, Int.not_le] at hc
        refine aw_skip ?_
        simp only [go_sem, ↓reduceIte, Nat.reduceEqDiff, reduceCtorEq, Nat.reduceAdd, Nat.reduceLT, Nat.reduceLeDiff, Nat.reduceBNe, Nat.reduceBEq, Int.reduceToNat]
        have hk : lb[m].cl.length - 1 < lb[m].cl.length := by omega
        have e1 : (lb[m].cl.length : Int) - 1 = ((lb[m].cl.length - 1 : Nat) : Int) := by omega
        refine aw_seq (aw_region (EF := EF0) hG (by rw [hN]; exact tr22_10) ?_)
        simp only [a22_10, go_sem, ↓reduceIte, Nat.reduceEqDiff, reduceCtorEq, Nat.reduceAdd, Nat.reduceLT, Nat.reduceLeDiff, Nat.reduceBNe, Nat.reduceBEq, Int.reduceToNat, e1, inI, getD_map _ _ _ hk, hk, Class.enc]
        (repeat' apply And.intro) <;> (try first | omega)
        have hlast : lastOf lb[m].cl = some (lb[m].cl[lb[m].cl.length - 1]).code := by
          rw [lastOf, if_neg (by omega), List.getD_eq_getElem?_getD, List.getElem?_eq_getElem hk]; rfl
        refine aw_ret ?_
        show Q _ _
        refine hQ _ _ (.inl rfl) ?_ ?_ ?_ <;> simp only [outφ, outV, AR.res, go_sem, ↓reduceIte, Nat.reduceEqDiff, reduceCtorEq, Nat.reduceAdd, Nat.reduceLT, Nat.reduceLeDiff, Nat.reduceBNe, Nat.reduceBEq, Int.reduceToNat, fLike, like, hpa, hpb, hl0, hmm, el, hlast, likeV]
    · refine aw_seq (aw_region (EF := EF0) hG (by rw [hN]; exact tr22_4) ?_)
      simp only [a22_4, go_sem, ↓reduceIte, Nat.reduceEqDiff, reduceCtorEq, Nat.reduceAdd, Nat.reduceLT, Nat.reduceLeDiff, Nat.reduceBNe, Nat.reduceBEq, Int.reduceToNat, trLike, fPlace_eq, hpb, placeV, hb]
      refine aw_seq ?_
      refine aw_seq (aw_region (EF := EF0) hG (by rw [hN]; exact tr22_5) ?_)
      simp only [a22_5, go_sem, ↓reduceIte, Nat.reduceEqDiff, reduceCtorEq, Nat.reduceAdd, Nat.reduceLT, Nat.reduceLeDiff, Nat.reduceBNe, Nat.reduceBEq, Int.reduceToNat]
      refine aw_condT rfl ?_
      refine aw_seq (aw_region (EF := EF0) hG (by rw [hN]; exact tr22_6) ?_)
      simp only [a22_6, go_sem, ↓reduceIte, Nat.reduceEqDiff, reduceCtorEq, Nat.reduceAdd, Nat.reduceLT, Nat.reduceLeDiff, Nat.reduceBNe, Nat.reduceBEq, Int.reduceToNat]
      refine aw_ret ?_
      show Q _ _
      refine hQ _ _ (.inl rfl) ?_ ?_ ?_ <;> simp only [outφ, outV, AR.res, go_sem, ↓reduceIte, Nat.reduceEqDiff, reduceCtorEq, Nat.reduceAdd, Nat.reduceLT, Nat.reduceLeDiff, Nat.reduceBNe, Nat.reduceBEq, Int.reduceToNat, fLike, like, hpa, hpb, likeV]
end Go.Proofs.YtopafipomaiabaaDoor
