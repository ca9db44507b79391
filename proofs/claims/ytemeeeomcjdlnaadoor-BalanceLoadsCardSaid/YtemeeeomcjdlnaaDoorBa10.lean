/- Load. -/
import Derived.Test.YtemeeeomcjdlnaaDoorBa9
namespace Go.Proofs.YtemeeeomcjdlnaaDoor
open Go Go.RowKit
set_option linter.unusedSimpArgs false
set_option linter.unusedVariables false
set_option linter.deprecated false
def startR (t : Trim) (ws : List Int) : Bool × List Int × List Int := putR t ws ws.length (List.replicate ws.length 0) (List.replicate t.bays.length 0)
def tooB (t : Trim) (ws : List Int) : Bool := decide (4 < (t.bays.length : Int)) || decide (12 < (ws.length : Int))
def loadOf (t : Trim) (ws : List Int) : List Int × Int :=
  if ws.any negB then ([], 2) else if tooB t ws then ([], 4) else if (startR t ws).1 then ((startR t ws).2.1, 0) else ([], 32)
def fLoad (x : Trim × List Int) : Prop × V := (TrimOk x.1 ∧ x.2.length ≤ 1000 ∧ ∀ w ∈ x.2, inI w, .tup [.list (ints (loadOf x.1 x.2).1) false, .int .i64 (loadOf x.1 x.2).2])
theorem ld0 {t ws} (h : ws.any negB = true) : loadOf t ws = ([], 2) := if_pos h
theorem ld1 {t ws} (h : ws.any negB = false) (h2 : tooB t ws = true) : loadOf t ws = ([], 4) := by unfold loadOf; rw [if_neg (by rw [h]; decide), if_pos h2]
theorem ld2 {t ws} (h : ws.any negB = false) (h2 : tooB t ws = false) : loadOf t ws = if (startR t ws).1 then ((startR t ws).2.1, 0) else ([], 32) := by unfold loadOf; rw [if_neg (by rw [h]; decide), if_neg (by rw [h2]; decide)]
noncomputable def tLoad : Tab
  | _ => gNo
theorem tLoad_ok : ∀ f, PureC Tryd.prog UT f (tLoad f) := fun f => by
  unfold tLoad
  split
  · exact PureC.no
set_option maxHeartbeats 4000000 in
theorem load_p : PureC Tryd.prog UT 19 (gOf aPl fLoad) := by
  have hG := tLoad_ok
  refine PureC.ofArgs aPl_inj Tryd.func19 body19 nm19 res19 ?_
  rintro ⟨⟨em, ix, bs, en⟩, ws⟩ hv
  refine ⟨by rw [nt19]; simp [aPl], fun C hN Q hQ => ?_⟩
  rw [nt19] at hN
  unfold c19
  obtain ⟨ht, hl, hwi⟩ : TrimOk ⟨em, ix, bs, en⟩ ∧ ws.length ≤ 1000 ∧ ∀ w ∈ ws, inI w := hv
  have hbl := ht.2.2.1
  dsimp only at hbl
  refine aw_seq (aw_region (EF := EFp) hG (by rw [hN]; exact tr19_0) ?_)
  simp only [a19_0, go_sem, ↓reduceIte, Nat.reduceEqDiff, reduceCtorEq, Nat.reduceAdd, Nat.reduceLT, Nat.reduceLeDiff, Nat.reduceBNe, Nat.reduceBEq, Int.reduceToNat, aPl, Trim.enc, EFp]
  refine aw_seq ?_
  refine aw_seq (aw_region (EF := EFp) hG (by rw [hN]; exact tr19_1) ?_)
  simp only [a19_1, go_sem, ↓reduceIte, Nat.reduceEqDiff, reduceCtorEq, Nat.reduceAdd, Nat.reduceLT, Nat.reduceLeDiff, Nat.reduceBNe, Nat.reduceBEq, Int.reduceToNat, EFp]
  refine aw_block ?_
  refine aw_loop (α := Nat) (fun i => (i ≤ ws.length) ∧ (∀ x ∈ ws.take i, negB x = false)) (fun i => ⟨mkE [(1, V.list (ints ws) false), (2, V.ptr 2 0), (9, V.list (ints ws) false), (10, V.int IntKind.i64 ↑ws.length), (11, .int .i64 i)], mkH [(2, Ob.box 25 [V.int IntKind.i64 em, V.int IntKind.i64 ix, V.list (List.map Bay.enc bs) false, V.list (List.map Point.enc en) false])]⟩) (fun i => ws.length - i) 0 (by simp) ?_ ?_
  · refine Le.mk _ _ ?_ ?_ rfl <;> simp only [go_sem, ↓reduceIte, Nat.reduceEqDiff, reduceCtorEq, Nat.reduceAdd, Nat.reduceLT, Nat.reduceLeDiff, Nat.reduceBNe, Nat.reduceBEq, Int.reduceToNat] <;> (repeat' apply And.intro) <;> (try first | rfl | exact wk_frzb rfl rfl rfl | exact wk_fn rfl | exact .nilo _ _ _ rfl rfl)
  · rintro i ⟨hi, hp⟩ KL0 hKL0
    try dsimp only at *
    refine aw_seq (aw_region (EF := EFp) hG (by rw [hN]; exact tr19_2) ?_)
    simp only [a19_2, go_sem, ↓reduceIte, Nat.reduceEqDiff, reduceCtorEq, Nat.reduceAdd, Nat.reduceLT, Nat.reduceLeDiff, Nat.reduceBNe, Nat.reduceBEq, Int.reduceToNat, EFp]
    refine aw_seq ?_
    refine aw_cond (b := _) rfl (fun hc2 => ?_) (fun hc2 => ?_)
    · simp only [decide_eq_true_eq, decide_eq_false_iff_not, Bool.and_eq_true, Bool.or_eq_true, Bool.not_eq_true', Bool.not_eq_false', Bool.and_eq_false_iff, Bool.or_eq_false_iff, Int.ofNat_lt, Int.ofNat_le, Nat.not_lt, Nat.not_le, Int.not_lt, Int.not_le] at hc2
      refine aw_skip ?_
      simp only [go_sem, ↓reduceIte, Nat.reduceEqDiff, reduceCtorEq, Nat.reduceAdd, Nat.reduceLT, Nat.reduceLeDiff, Nat.reduceBNe, Nat.reduceBEq, Int.reduceToNat]
      refine aw_seq ?_
      refine aw_block ?_
      refine aw_seq (aw_region (EF := EFp) hG (by rw [hN]; exact tr19_3) ?_)
      simp only [a19_3, go_sem, ↓reduceIte, Nat.reduceEqDiff, reduceCtorEq, Nat.reduceAdd, Nat.reduceLT, Nat.reduceLeDiff, Nat.reduceBNe, Nat.reduceBEq, Int.reduceToNat, ints_getD _ _ _ hc2, hc2, EFp]
      (repeat' apply And.intro) <;> (try first | omega | (intros; (repeat' apply And.intro) <;> first | assumption | omega | (simp_all; done)))
      refine aw_seq (aw_region (EF := EFp) hG (by rw [hN]; exact tr19_4) ?_)
      simp only [a19_4, go_sem, ↓reduceIte, Nat.reduceEqDiff, reduceCtorEq, Nat.reduceAdd, Nat.reduceLT, Nat.reduceLeDiff, Nat.reduceBNe, Nat.reduceBEq, Int.reduceToNat, EFp]
      refine aw_cond (b := _) rfl (fun hb4 => ?_) (fun hb4 => ?_)
      · skip
        refine aw_seq (aw_region (EF := EFp) hG (by rw [hN]; exact tr19_5) ?_)
        simp only [a19_5, go_sem, ↓reduceIte, Nat.reduceEqDiff, reduceCtorEq, Nat.reduceAdd, Nat.reduceLT, Nat.reduceLeDiff, Nat.reduceBNe, Nat.reduceBEq, Int.reduceToNat, EFp]
        refine AW.le (s' := ⟨mkE [(4, .list (ints []) false), (5, .int .i64 2)], mkH []⟩) (Le.mk _ _ ?_ ?_ rfl) (aw_ret (hQ _ _ (.inl rfl) ?_ ?_ ?_)) <;> simp only [outφ, outV, AR.res, go_sem, ↓reduceIte, Nat.reduceEqDiff, reduceCtorEq, Nat.reduceAdd, Nat.reduceLT, Nat.reduceLeDiff, Nat.reduceBNe, Nat.reduceBEq, Int.reduceToNat, fLoad, ld0 (t := ⟨em, ix, bs, en⟩) (any_at (p := negB) hc2 hb4), ints_nil]
      · skip
        refine aw_skip ?_
        simp only [go_sem, ↓reduceIte, Nat.reduceEqDiff, reduceCtorEq, Nat.reduceAdd, Nat.reduceLT, Nat.reduceLeDiff, Nat.reduceBNe, Nat.reduceBEq, Int.reduceToNat]
        refine aw_region (EF := EFp) hG (by rw [hN]; exact tr19_6) ?_
        simp only [a19_6, go_sem, ↓reduceIte, Nat.reduceEqDiff, reduceCtorEq, Nat.reduceAdd, Nat.reduceLT, Nat.reduceLeDiff, Nat.reduceBNe, Nat.reduceBEq, Int.reduceToNat, inI, EFp]
        (repeat' apply And.intro) <;> (try first | omega | (intros; (repeat' apply And.intro) <;> first | assumption | omega | (simp_all; done)))
        refine hKL0 (i + 1) _ ?_ ?_ ?_
        · (try dsimp only); exact ⟨hc2, take_all hc2 hp hb4⟩
        · (try dsimp only); omega
        · refine Le.mk _ _ ?_ ?_ rfl <;> simp only [go_sem, ↓reduceIte, Nat.reduceEqDiff, reduceCtorEq, Nat.reduceAdd, Nat.reduceLT, Nat.reduceLeDiff, Nat.reduceBNe, Nat.reduceBEq, Int.reduceToNat] <;> (repeat' apply And.intro) <;> (try first | rfl | exact wk_frzb rfl rfl rfl | exact wk_fn rfl | exact .nilo _ _ _ rfl rfl)
    · simp only [decide_eq_true_eq, decide_eq_false_iff_not, Bool.and_eq_true, Bool.or_eq_true, Bool.not_eq_true', Bool.not_eq_false', Bool.and_eq_false_iff, Bool.or_eq_false_iff, Int.ofNat_lt, Int.ofNat_le, Nat.not_lt, Nat.not_le, Int.not_lt, Int.not_le] at hc2
      refine aw_exit ?_
      simp only [go_sem, ↓reduceIte, Nat.reduceEqDiff, reduceCtorEq, Nat.reduceAdd, Nat.reduceLT, Nat.reduceLeDiff, Nat.reduceBNe, Nat.reduceBEq, Int.reduceToNat]
      refine aw_seq ?_
      have hneg : ws.any negB = false := any_no (p := negB) hc2 hp
      refine aw_seq (aw_region (EF := EFp) hG (by rw [hN]; exact tr19_7) ?_)
      simp only [a19_7, go_sem, ↓reduceIte, Nat.reduceEqDiff, reduceCtorEq, Nat.reduceAdd, Nat.reduceLT, Nat.reduceLeDiff, Nat.reduceBNe, Nat.reduceBEq, Int.reduceToNat, EFp]
      (repeat' apply And.intro) <;> (try first | omega | (intros; (repeat' apply And.intro) <;> first | assumption | omega | (simp_all; done)))
      refine aw_cond (b := _) rfl (fun hb7 => ?_) (fun hb7 => ?_)
      · skip
        refine aw_seq (aw_region (EF := EFp) hG (by rw [hN]; exact tr19_8) ?_)
        simp only [a19_8, go_sem, ↓reduceIte, Nat.reduceEqDiff, reduceCtorEq, Nat.reduceAdd, Nat.reduceLT, Nat.reduceLeDiff, Nat.reduceBNe, Nat.reduceBEq, Int.reduceToNat, EFp]
        refine AW.le (s' := ⟨mkE [(4, .list (ints []) false), (5, .int .i64 4)], mkH []⟩) (Le.mk _ _ ?_ ?_ rfl) (aw_ret (hQ _ _ (.inl rfl) ?_ ?_ ?_)) <;> simp only [outφ, outV, AR.res, go_sem, ↓reduceIte, Nat.reduceEqDiff, reduceCtorEq, Nat.reduceAdd, Nat.reduceLT, Nat.reduceLeDiff, Nat.reduceBNe, Nat.reduceBEq, Int.reduceToNat, fLoad, ld1 (t := ⟨em, ix, bs, en⟩) hneg (show tooB ⟨em, ix, bs, en⟩ ws = true from hb7), ints_nil]
      · skip
        refine aw_skip ?_
        simp only [go_sem, ↓reduceIte, Nat.reduceEqDiff, reduceCtorEq, Nat.reduceAdd, Nat.reduceLT, Nat.reduceLeDiff, Nat.reduceBNe, Nat.reduceBEq, Int.reduceToNat]
        have hlw := ld2 (t := ⟨em, ix, bs, en⟩) hneg (show tooB ⟨em, ix, bs, en⟩ ws = false from hb7)
        have hws : WsOk ws := ⟨hl, fun w hw => ⟨by have := List.any_eq_false.1 hneg w hw; simp [negB] at this; omega, hwi w hw⟩⟩
        have IH := put_e ht hws ws.length (Nat.le_refl _) (List.replicate ws.length 0) (List.replicate bs.length 0) (List.length_replicate ..) ⟨List.length_replicate .., fun x hx => by rw [(List.mem_replicate.1 hx).2]; omega⟩
        rw [Nat.sub_self, show putR ⟨em, ix, bs, en⟩ ws ws.length (List.replicate ws.length 0) (List.replicate bs.length 0) = startR ⟨em, ix, bs, en⟩ ws from rfl] at IH
        generalize startR ⟨em, ix, bs, en⟩ ws = R at IH hlw
        obtain ⟨ok, bay3, ls3⟩ := R
        dsimp only at IH hlw
        refine aw_seq (aw_regionD (EF := EFp) hG mixed (by rw [hN]; exact tr19_9) ok19_9 ?_)
        simp only [a19_9, d19_9, go_sem, ↓reduceIte, Nat.reduceEqDiff, reduceCtorEq, Nat.reduceAdd, Nat.reduceLT, Nat.reduceLeDiff, Nat.reduceBNe, Nat.reduceBEq, Int.reduceToNat, ints_zero, EFp]
        (repeat' apply And.intro) <;> (try first | omega | (intros; (repeat' apply And.intro) <;> first | assumption | omega | (simp_all; done)))
        refine aw_seq ?_
        refine aw_seq (aw_region (EF := EFp) hG (by rw [hN]; exact tr19_10) ?_)
        simp only [a19_10, go_sem, ↓reduceIte, Nat.reduceEqDiff, reduceCtorEq, Nat.reduceAdd, Nat.reduceLT, Nat.reduceLeDiff, Nat.reduceBNe, Nat.reduceBEq, Int.reduceToNat, EFp]
        (repeat' apply And.intro) <;> (try first | omega | (intros; (repeat' apply And.intro) <;> first | assumption | omega | (simp_all; done)))
        refine put_use (nb := 37) (n1 := 31) (n2 := 35) (p := ws.length) (q := bs.length) IH (by rfl) (by rw [List.length_replicate]) (by rw [List.length_replicate]) (by rfl) (by rfl) (by decide) (by decide) (by decide) ?_
        simp only [go_sem, ↓reduceIte, Nat.reduceEqDiff, reduceCtorEq, Nat.reduceAdd, Nat.reduceLT, Nat.reduceLeDiff, Nat.reduceBNe, Nat.reduceBEq, Int.reduceToNat, ldr]
        refine aw_cond (b := _) rfl (fun hb10 => ?_) (fun hb10 => ?_)
        · skip
          rw [if_neg (by simpa using hb10)] at hlw
          refine aw_seq (aw_region (EF := EFp) hG (by rw [hN]; exact tr19_11) ?_)
          simp only [a19_11, go_sem, ↓reduceIte, Nat.reduceEqDiff, reduceCtorEq, Nat.reduceAdd, Nat.reduceLT, Nat.reduceLeDiff, Nat.reduceBNe, Nat.reduceBEq, Int.reduceToNat, EFp]
          refine AW.le (s' := ⟨mkE [(4, .list (ints []) false), (5, .int .i64 32)], mkH []⟩) (Le.mk _ _ ?_ ?_ rfl) (aw_ret (hQ _ _ (.inl rfl) ?_ ?_ ?_)) <;> simp only [outφ, outV, AR.res, go_sem, ↓reduceIte, Nat.reduceEqDiff, reduceCtorEq, Nat.reduceAdd, Nat.reduceLT, Nat.reduceLeDiff, Nat.reduceBNe, Nat.reduceBEq, Int.reduceToNat, fLoad, hlw, ints_nil]
        · skip
          rw [if_pos (by simpa using hb10)] at hlw
          refine aw_skip ?_
          simp only [go_sem, ↓reduceIte, Nat.reduceEqDiff, reduceCtorEq, Nat.reduceAdd, Nat.reduceLT, Nat.reduceLeDiff, Nat.reduceBNe, Nat.reduceBEq, Int.reduceToNat]
          refine aw_seq (aw_region (EF := EFp) hG (by rw [hN]; exact tr19_12) ?_)
          simp only [a19_12, go_sem, ↓reduceIte, Nat.reduceEqDiff, reduceCtorEq, Nat.reduceAdd, Nat.reduceLT, Nat.reduceLeDiff, Nat.reduceBNe, Nat.reduceBEq, Int.reduceToNat, EFp]
          refine AW.le (s' := ⟨mkE [(4, .list (ints bay3) false), (5, .int .i64 0)], mkH []⟩) (Le.mk _ _ ?_ ?_ rfl) (aw_ret (hQ _ _ (.inl rfl) ?_ ?_ ?_)) <;> simp only [outφ, outV, AR.res, go_sem, ↓reduceIte, Nat.reduceEqDiff, reduceCtorEq, Nat.reduceAdd, Nat.reduceLT, Nat.reduceLeDiff, Nat.reduceBNe, Nat.reduceBEq, Int.reduceToNat, fLoad, hlw]
          · exact wk_frz rfl (by rw [ints_len]) rfl (ints_pur _)
end Go.Proofs.YtemeeeomcjdlnaaDoor
