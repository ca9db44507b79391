/- Possible of the reference. -/
import Derived.Test.YtemeeeomcjdlnaaDoorBa15
namespace Go.Proofs.YtemeeeomcjdlnaaDoor
open Go Go.RowKit
set_option linter.unusedSimpArgs false
set_option linter.unusedVariables false
set_option linter.deprecated false
def bigW (x : Int) : Bool := decide (1000000 < x)
def digs (N n m : Nat) : List Nat := (List.range n).map fun i => m / N ^ i % N
theorem digs_len (N n m) : (digs N n m).length = n := by simp [digs]
theorem digs_succ (N n m) : digs N (n + 1) m = digs N n m ++ [m / N ^ n % N] := by simp [digs, List.range_succ]
theorem digs_lt {N : Nat} (h : 0 < N) (n m) : ∀ b ∈ digs N n m, b < N := by
  intro b hb
  obtain ⟨i, _, rfl⟩ := List.mem_map.1 hb
  exact Nat.mod_lt _ h
def tryF (t : Trim) (ws : List Int) (m : Nat) : Bool := decide (fitsOf t (addTo (zeros t.bays.length) ws (digs t.bays.length ws.length m)) = 0)
def possOf (t : Trim) (ws : List Int) : Int :=
  if ws.any negB then 2 else if tooB t ws then 4 else if ws.any bigW then 32 else if (List.range (t.bays.length ^ ws.length)).any (tryF t ws) then 0 else 32
theorem po0 {t ws} (h : ws.any negB = true) : possOf t ws = 2 := if_pos h
theorem po1 {t ws} (h : ws.any negB = false) (h2 : tooB t ws = true) : possOf t ws = 4 := by unfold possOf; rw [if_neg (by rw [h]; decide), if_pos h2]
theorem po2 {t ws} (h : ws.any negB = false) (h2 : tooB t ws = false) (h3 : ws.any bigW = true) : possOf t ws = 32 := by unfold possOf; rw [if_neg (by rw [h]; decide), if_neg (by rw [h2]; decide), if_pos h3]
theorem po3 {t ws} (h : ws.any negB = false) (h2 : tooB t ws = false) (h3 : ws.any bigW = false) : possOf t ws = if (List.range (t.bays.length ^ ws.length)).any (tryF t ws) then 0 else 32 := by unfold possOf; rw [if_neg (by rw [h]; decide), if_neg (by rw [h2]; decide), if_neg (by rw [h3]; decide)]
theorem pow_le {N i n : Nat} (h1 : 1 ≤ N) (h4 : N ≤ 4) (hi : i ≤ n) (hn : n ≤ 12) : N ^ i ≤ 16777216 := by
  have a1 : N ^ i ≤ 4 ^ i := Nat.pow_le_pow_left h4 i
  have a2 : 4 ^ i ≤ 4 ^ 12 := Nat.pow_le_pow_right (by decide) (by omega)
  have : (4 : Nat) ^ 12 = 16777216 := by decide
  omega
theorem cast_tmod (k n : Nat) : (k : Int).tmod (n : Int) = ((k % n : Nat) : Int) := by rw [Int.tmod_eq_emod_of_nonneg (by omega)]; rfl
theorem cast_tdiv (k n : Nat) : (k : Int).tdiv (n : Int) = ((k / n : Nat) : Int) := by rw [Int.tdiv_eq_ediv_of_nonneg (by omega)]; rfl
theorem cast_mul (k n : Nat) : (k : Int) * (n : Int) = ((k * n : Nat) : Int) := by simp
theorem fLd_eq (em ix : Int) (bs : List Bay) (en : List Point) (ws bays : List Int) : gOf aLd fLd [.agg [.int .i64 em, .int .i64 ix, .list (bs.map Bay.enc) false, .list (en.map Point.enc) false], .list (ints ws) false, .list (ints bays) false] = (LdOk (⟨em, ix, bs, en⟩, ws, bays), .tup [.list (ints (addTo (zeros bs.length) ws (bays.map Int.toNat))) false, .bool true]) := gOf_eq aLd_inj (⟨em, ix, bs, en⟩, ws, bays)
def fPo (x : Trim × List Int) : Prop × V := (TrimOk x.1 ∧ x.2.length ≤ 1000, .int .i64 (possOf x.1 x.2))
noncomputable def tPo : Tab
  | 21 => (gOf aLd fLd)
  | 16 => (gOf aPl fFits)
  | _ => gNo
theorem tPo_ok : ∀ f, PureC Tryd.prog UT f (tPo f) := fun f => by
  unfold tPo
  split
  · exact rloads_p
  · exact rfits_p
  · exact PureC.no
set_option maxHeartbeats 4000000 in
theorem rpossible_p : PureC Tryd.prog UT 20 (gOf aPl fPo) := by
  have hG := tPo_ok
  refine PureC.ofArgs aPl_inj Tryd.func20 body20 nm20 res20 ?_
  rintro ⟨⟨em, ix, bs, en⟩, ws⟩ hv
  refine ⟨by rw [nt20]; simp [aPl], fun C hN Q hQ => ?_⟩
  rw [nt20] at hN
  unfold c20
  obtain ⟨ht, hl⟩ : TrimOk ⟨em, ix, bs, en⟩ ∧ ws.length ≤ 1000 := hv
  have hbl := ht.2.2.1
  dsimp only at hbl
  refine aw_seq (aw_region (EF := EF0) hG (by rw [hN]; exact tr20_0) ?_)
  simp only [a20_0, go_sem, ↓reduceIte, Nat.reduceEqDiff, reduceCtorEq, Nat.reduceAdd, Nat.reduceLT, Nat.reduceLeDiff, Nat.reduceBNe, Nat.reduceBEq, Int.reduceToNat, aPl, Trim.enc]
  refine aw_seq (aw_region (EF := EF0) hG (by rw [hN]; exact tr20_1) ?_)
  simp only [a20_1, go_sem, ↓reduceIte, Nat.reduceEqDiff, reduceCtorEq, Nat.reduceAdd, Nat.reduceLT, Nat.reduceLeDiff, Nat.reduceBNe, Nat.reduceBEq, Int.reduceToNat]
  refine aw_seq ?_
  refine aw_seq (aw_region (EF := EF0) hG (by rw [hN]; exact tr20_2) ?_)
  simp only [a20_2, go_sem, ↓reduceIte, Nat.reduceEqDiff, reduceCtorEq, Nat.reduceAdd, Nat.reduceLT, Nat.reduceLeDiff, Nat.reduceBNe, Nat.reduceBEq, Int.reduceToNat]
  refine aw_block ?_
  refine aw_loop (α := Nat) (fun i => (i ≤ ws.length) ∧ (∀ x ∈ ws.take i, negB x = false)) (fun i => ⟨mkE [(1, V.list (ints ws) false), (2, V.ptr 2 0), (5, V.int IntKind.i64 1), (6, .int .i64 i)], mkH [(2, Ob.box 25 [V.int IntKind.i64 em, V.int IntKind.i64 ix, V.list (List.map Bay.enc bs) false, V.list (List.map Point.enc en) false])]⟩) (fun i => ws.length - i) 0 (by simp) ?_ ?_
  · refine Le.mk _ _ ?_ ?_ rfl <;> simp only [go_sem, ↓reduceIte, Nat.reduceEqDiff, reduceCtorEq, Nat.reduceAdd, Nat.reduceLT, Nat.reduceLeDiff, Nat.reduceBNe, Nat.reduceBEq, Int.reduceToNat] <;> (repeat' apply And.intro) <;> (try first | rfl | exact wk_frzb rfl rfl rfl | exact wk_fn rfl | exact .nilo _ _ _ rfl rfl)
  · rintro i ⟨hi, hp⟩ KL0 hKL0
    try dsimp only at *
    refine aw_seq ?_
    refine aw_seq (aw_region (EF := EF0) hG (by rw [hN]; exact tr20_3) ?_)
    simp only [a20_3, go_sem, ↓reduceIte, Nat.reduceEqDiff, reduceCtorEq, Nat.reduceAdd, Nat.reduceLT, Nat.reduceLeDiff, Nat.reduceBNe, Nat.reduceBEq, Int.reduceToNat]
    refine aw_cond (b := _) rfl (fun hc3 => ?_) (fun hc3 => ?_)
    · simp only [decide_eq_true_eq, decide_eq_false_iff_not, Bool.and_eq_true, Bool.or_eq_true, Bool.not_eq_true', Bool.not_eq_false', Bool.and_eq_false_iff, Bool.or_eq_false_iff, Int.ofNat_lt, Int.ofNat_le, Nat.not_lt, Nat.not_le, Int.not_lt, Int.not_le] at hc3
      refine aw_skip ?_
      simp only [go_sem, ↓reduceIte, Nat.reduceEqDiff, reduceCtorEq, Nat.reduceAdd, Nat.reduceLT, Nat.reduceLeDiff, Nat.reduceBNe, Nat.reduceBEq, Int.reduceToNat]
      refine aw_seq ?_
      refine aw_block ?_
      refine aw_seq (aw_region (EF := EF0) hG (by rw [hN]; exact tr20_5) ?_)
      simp only [a20_5, go_sem, ↓reduceIte, Nat.reduceEqDiff, reduceCtorEq, Nat.reduceAdd, Nat.reduceLT, Nat.reduceLeDiff, Nat.reduceBNe, Nat.reduceBEq, Int.reduceToNat, ints_getD _ _ _ hc3, hc3]
      (repeat' apply And.intro) <;> (try first | omega | (intros; (repeat' apply And.intro) <;> first | assumption | omega | (simp_all; done)))
      refine aw_cond (b := _) rfl (fun hb5 => ?_) (fun hb5 => ?_)
      · skip
        refine aw_seq (aw_region (EF := EF0) hG (by rw [hN]; exact tr20_6) ?_)
        simp only [a20_6, go_sem, ↓reduceIte, Nat.reduceEqDiff, reduceCtorEq, Nat.reduceAdd, Nat.reduceLT, Nat.reduceLeDiff, Nat.reduceBNe, Nat.reduceBEq, Int.reduceToNat]
        refine aw_ret ?_
        show Q _ _
        refine hQ _ _ (.inl rfl) ?_ ?_ ?_ <;> simp only [outφ, outV, AR.res, go_sem, ↓reduceIte, Nat.reduceEqDiff, reduceCtorEq, Nat.reduceAdd, Nat.reduceLT, Nat.reduceLeDiff, Nat.reduceBNe, Nat.reduceBEq, Int.reduceToNat, fPo]
        rw [po0 (any_at (p := negB) hc3 hb5)]
      · skip
        refine aw_skip ?_
        simp only [go_sem, ↓reduceIte, Nat.reduceEqDiff, reduceCtorEq, Nat.reduceAdd, Nat.reduceLT, Nat.reduceLeDiff, Nat.reduceBNe, Nat.reduceBEq, Int.reduceToNat]
        refine aw_region (EF := EF0) hG (by rw [hN]; exact tr20_4) ?_
        simp only [a20_4, go_sem, ↓reduceIte, Nat.reduceEqDiff, reduceCtorEq, Nat.reduceAdd, Nat.reduceLT, Nat.reduceLeDiff, Nat.reduceBNe, Nat.reduceBEq, Int.reduceToNat, inI]
        (repeat' apply And.intro) <;> (try first | omega | (intros; (repeat' apply And.intro) <;> first | assumption | omega | (simp_all; done)))
        refine hKL0 (i + 1) _ ?_ ?_ ?_
        · (try dsimp only); exact ⟨hc3, take_all hc3 hp hb5⟩
        · (try dsimp only); omega
        · refine Le.mk _ _ ?_ ?_ rfl <;> simp only [go_sem, ↓reduceIte, Nat.reduceEqDiff, reduceCtorEq, Nat.reduceAdd, Nat.reduceLT, Nat.reduceLeDiff, Nat.reduceBNe, Nat.reduceBEq, Int.reduceToNat] <;> (repeat' apply And.intro) <;> (try first | rfl | exact wk_frzb rfl rfl rfl | exact wk_fn rfl | exact .nilo _ _ _ rfl rfl)
    · simp only [decide_eq_true_eq, decide_eq_false_iff_not, Bool.and_eq_true, Bool.or_eq_true, Bool.not_eq_true', Bool.not_eq_false', Bool.and_eq_false_iff, Bool.or_eq_false_iff, Int.ofNat_lt, Int.ofNat_le, Nat.not_lt, Nat.not_le, Int.not_lt, Int.not_le] at hc3
      refine aw_exit ?_
      simp only [go_sem, ↓reduceIte, Nat.reduceEqDiff, reduceCtorEq, Nat.reduceAdd, Nat.reduceLT, Nat.reduceLeDiff, Nat.reduceBNe, Nat.reduceBEq, Int.reduceToNat]
      refine aw_seq ?_
      have hneg : ws.any negB = false := any_no (p := negB) hc3 hp
      have hnn : ∀ x ∈ ws, 0 ≤ x := fun x hx => by have := List.any_eq_false.1 hneg x hx; simp [negB] at this; omega
      refine aw_seq (aw_region (EF := EF0) hG (by rw [hN]; exact tr20_7) ?_)
      simp only [a20_7, go_sem, ↓reduceIte, Nat.reduceEqDiff, reduceCtorEq, Nat.reduceAdd, Nat.reduceLT, Nat.reduceLeDiff, Nat.reduceBNe, Nat.reduceBEq, Int.reduceToNat]
      (repeat' apply And.intro) <;> (try first | omega | (intros; (repeat' apply And.intro) <;> first | assumption | omega | (simp_all; done)))
      refine aw_cond (b := _) rfl (fun hb7 => ?_) (fun hb7 => ?_)
      · skip
        refine aw_seq (aw_region (EF := EF0) hG (by rw [hN]; exact tr20_8) ?_)
        simp only [a20_8, go_sem, ↓reduceIte, Nat.reduceEqDiff, reduceCtorEq, Nat.reduceAdd, Nat.reduceLT, Nat.reduceLeDiff, Nat.reduceBNe, Nat.reduceBEq, Int.reduceToNat]
        refine aw_ret ?_
        show Q _ _
        refine hQ _ _ (.inl rfl) ?_ ?_ ?_ <;> simp only [outφ, outV, AR.res, go_sem, ↓reduceIte, Nat.reduceEqDiff, reduceCtorEq, Nat.reduceAdd, Nat.reduceLT, Nat.reduceLeDiff, Nat.reduceBNe, Nat.reduceBEq, Int.reduceToNat, fPo]
        rw [po1 hneg (show tooB ⟨em, ix, bs, en⟩ ws = true from hb7)]
      · skip
        refine aw_skip ?_
        simp only [go_sem, ↓reduceIte, Nat.reduceEqDiff, reduceCtorEq, Nat.reduceAdd, Nat.reduceLT, Nat.reduceLeDiff, Nat.reduceBNe, Nat.reduceBEq, Int.reduceToNat]
        refine aw_seq ?_
        have htoo : tooB ⟨em, ix, bs, en⟩ ws = false := hb7
        have hsm : bs.length ≤ 4 ∧ ws.length ≤ 12 := by simp only [tooB, Bool.or_eq_false_iff, decide_eq_false_iff_not] at htoo; omega
        refine aw_seq (aw_region (EF := EF0) hG (by rw [hN]; exact tr20_9) ?_)
        simp only [a20_9, go_sem, ↓reduceIte, Nat.reduceEqDiff, reduceCtorEq, Nat.reduceAdd, Nat.reduceLT, Nat.reduceLeDiff, Nat.reduceBNe, Nat.reduceBEq, Int.reduceToNat]
        refine aw_block ?_
        refine aw_loop (α := Nat × Nat) (fun γ => (γ.1 ≤ ws.length) ∧ (∀ x ∈ ws.take γ.1, bigW x = false) ∧ (γ.2 = bs.length ^ γ.1)) (fun γ => ⟨mkE [(1, V.list (ints ws) false), (2, V.ptr 2 0), (5, .int .i64 γ.2), (7, .int .i64 γ.1)], mkH [(2, Ob.box 25 [V.int IntKind.i64 em, V.int IntKind.i64 ix, V.list (List.map Bay.enc bs) false, V.list (List.map Point.enc en) false])]⟩) (fun γ => ws.length - γ.1) (0, 1) ⟨Nat.zero_le _, by simp, by simp⟩ ?_ ?_
        · refine Le.mk _ _ ?_ ?_ rfl <;> simp only [go_sem, ↓reduceIte, Nat.reduceEqDiff, reduceCtorEq, Nat.reduceAdd, Nat.reduceLT, Nat.reduceLeDiff, Nat.reduceBNe, Nat.reduceBEq, Int.reduceToNat] <;> (repeat' apply And.intro) <;> (try first | rfl | exact wk_frzb rfl rfl rfl | exact wk_fn rfl | exact .nilo _ _ _ rfl rfl)
        · rintro ⟨i2, al⟩ ⟨hi2, hp2, hal⟩ KL2 hKL2
          try dsimp only at *
          refine aw_seq ?_
          refine aw_seq (aw_region (EF := EF0) hG (by rw [hN]; exact tr20_10) ?_)
          simp only [a20_10, go_sem, ↓reduceIte, Nat.reduceEqDiff, reduceCtorEq, Nat.reduceAdd, Nat.reduceLT, Nat.reduceLeDiff, Nat.reduceBNe, Nat.reduceBEq, Int.reduceToNat]
          refine aw_cond (b := _) rfl (fun hc10 => ?_) (fun hc10 => ?_)
          · simp only [decide_eq_true_eq, decide_eq_false_iff_not, Bool.and_eq_true, Bool.or_eq_true, Bool.not_eq_true', Bool.not_eq_false', Bool.and_eq_false_iff, Bool.or_eq_false_iff, Int.ofNat_lt, Int.ofNat_le, Nat.not_lt, Nat.not_le, Int.not_lt, Int.not_le] at hc10
            refine aw_skip ?_
            simp only [go_sem, ↓reduceIte, Nat.reduceEqDiff, reduceCtorEq, Nat.reduceAdd, Nat.reduceLT, Nat.reduceLeDiff, Nat.reduceBNe, Nat.reduceBEq, Int.reduceToNat]
            refine aw_seq ?_
            refine aw_block ?_
            refine aw_seq ?_
            refine aw_seq (aw_region (EF := EF0) hG (by rw [hN]; exact tr20_12) ?_)
            simp only [a20_12, go_sem, ↓reduceIte, Nat.reduceEqDiff, reduceCtorEq, Nat.reduceAdd, Nat.reduceLT, Nat.reduceLeDiff, Nat.reduceBNe, Nat.reduceBEq, Int.reduceToNat, ints_getD _ _ _ hc10, hc10]
            (repeat' apply And.intro) <;> (try first | omega | (intros; (repeat' apply And.intro) <;> first | assumption | omega | (simp_all; done)))
            refine aw_cond (b := _) rfl (fun hb12 => ?_) (fun hb12 => ?_)
            · skip
              refine aw_seq (aw_region (EF := EF0) hG (by rw [hN]; exact tr20_13) ?_)
              simp only [a20_13, go_sem, ↓reduceIte, Nat.reduceEqDiff, reduceCtorEq, Nat.reduceAdd, Nat.reduceLT, Nat.reduceLeDiff, Nat.reduceBNe, Nat.reduceBEq, Int.reduceToNat]
              refine aw_ret ?_
              show Q _ _
              refine hQ _ _ (.inl rfl) ?_ ?_ ?_ <;> simp only [outφ, outV, AR.res, go_sem, ↓reduceIte, Nat.reduceEqDiff, reduceCtorEq, Nat.reduceAdd, Nat.reduceLT, Nat.reduceLeDiff, Nat.reduceBNe, Nat.reduceBEq, Int.reduceToNat, fPo]
              rw [po2 hneg htoo (any_at (p := bigW) hc10 hb12)]
            · skip
              refine aw_skip ?_
              simp only [go_sem, ↓reduceIte, Nat.reduceEqDiff, reduceCtorEq, Nat.reduceAdd, Nat.reduceLT, Nat.reduceLeDiff, Nat.reduceBNe, Nat.reduceBEq, Int.reduceToNat]
              have hpw : al * bs.length ≤ 16777216 := by have := pow_le hbl.1 hsm.1 (show i2 + 1 ≤ ws.length by omega) hsm.2; rw [Nat.pow_succ, ← hal] at this; exact this
              refine aw_region (EF := EF0) hG (by rw [hN]; exact tr20_14) ?_
              simp only [a20_14, go_sem, ↓reduceIte, Nat.reduceEqDiff, reduceCtorEq, Nat.reduceAdd, Nat.reduceLT, Nat.reduceLeDiff, Nat.reduceBNe, Nat.reduceBEq, Int.reduceToNat, inI, cast_mul]
              (repeat' apply And.intro) <;> (try first | omega | (intros; (repeat' apply And.intro) <;> first | assumption | omega | (simp_all; done)))
              refine aw_region (EF := EF0) hG (by rw [hN]; exact tr20_11) ?_
              simp only [a20_11, go_sem, ↓reduceIte, Nat.reduceEqDiff, reduceCtorEq, Nat.reduceAdd, Nat.reduceLT, Nat.reduceLeDiff, Nat.reduceBNe, Nat.reduceBEq, Int.reduceToNat, inI]
              (repeat' apply And.intro) <;> (try first | omega | (intros; (repeat' apply And.intro) <;> first | assumption | omega | (simp_all; done)))
              refine hKL2 (i2 + 1, al * bs.length) _ ?_ ?_ ?_
              · (try dsimp only); exact ⟨hc10, take_all hc10 hp2 hb12, by rw [hal, Nat.pow_succ]⟩
              · (try dsimp only); omega
              · refine Le.mk _ _ ?_ ?_ rfl <;> simp only [go_sem, ↓reduceIte, Nat.reduceEqDiff, reduceCtorEq, Nat.reduceAdd, Nat.reduceLT, Nat.reduceLeDiff, Nat.reduceBNe, Nat.reduceBEq, Int.reduceToNat] <;> (repeat' apply And.intro) <;> (try first | rfl | exact wk_frzb rfl rfl rfl | exact wk_fn rfl | exact .nilo _ _ _ rfl rfl)
          · simp only [decide_eq_true_eq, decide_eq_false_iff_not, Bool.and_eq_true, Bool.or_eq_true, Bool.not_eq_true', Bool.not_eq_false', Bool.and_eq_false_iff, Bool.or_eq_false_iff, Int.ofNat_lt, Int.ofNat_le, Nat.not_lt, Nat.not_le, Int.not_lt, Int.not_le] at hc10
            refine aw_exit ?_
            simp only [go_sem, ↓reduceIte, Nat.reduceEqDiff, reduceCtorEq, Nat.reduceAdd, Nat.reduceLT, Nat.reduceLeDiff, Nat.reduceBNe, Nat.reduceBEq, Int.reduceToNat]
            refine aw_seq ?_
            have hbigw : ws.any bigW = false := any_no (p := bigW) hc10 hp2
            have hal2 : al = bs.length ^ ws.length := by rw [hal, Nat.le_antisymm hi2 hc10]
            have hall : al ≤ 16777216 := by rw [hal2]; exact pow_le hbl.1 hsm.1 (Nat.le_refl _) hsm.2
            have hww : ∀ w ∈ ws, 0 ≤ w ∧ w ≤ 1000000 := fun w hw => ⟨hnn w hw, by have := List.any_eq_false.1 hbigw w hw; simp [bigW] at this; omega⟩
            refine aw_seq (aw_region (EF := EF0) hG (by rw [hN]; exact tr20_15) ?_)
            simp only [a20_15, go_sem, ↓reduceIte, Nat.reduceEqDiff, reduceCtorEq, Nat.reduceAdd, Nat.reduceLT, Nat.reduceLeDiff, Nat.reduceBNe, Nat.reduceBEq, Int.reduceToNat]
            refine aw_block ?_
            refine aw_loop (α := Nat) (fun m => (m ≤ al) ∧ (∀ j, j < m → tryF ⟨em, ix, bs, en⟩ ws j = false)) (fun m => ⟨mkE [(1, V.list (ints ws) false), (2, V.ptr 2 0), (5, V.int IntKind.i64 ↑al), (8, .int .i64 m)], mkH [(2, Ob.box 25 [V.int IntKind.i64 em, V.int IntKind.i64 ix, V.list (List.map Bay.enc bs) false, V.list (List.map Point.enc en) false])]⟩) (fun m => al - m) 0 ⟨Nat.zero_le _, fun j hj => absurd hj (Nat.not_lt_zero _)⟩ ?_ ?_
            · refine Le.mk _ _ ?_ ?_ rfl <;> simp only [go_sem, ↓reduceIte, Nat.reduceEqDiff, reduceCtorEq, Nat.reduceAdd, Nat.reduceLT, Nat.reduceLeDiff, Nat.reduceBNe, Nat.reduceBEq, Int.reduceToNat] <;> (repeat' apply And.intro) <;> (try first | rfl | exact wk_frzb rfl rfl rfl | exact wk_fn rfl | exact .nilo _ _ _ rfl rfl)
            · rintro m ⟨hm, hq⟩ KL4 hKL4
              try dsimp only at *
              refine aw_seq ?_
              refine aw_seq (aw_region (EF := EF0) hG (by rw [hN]; exact tr20_16) ?_)
              simp only [a20_16, go_sem, ↓reduceIte, Nat.reduceEqDiff, reduceCtorEq, Nat.reduceAdd, Nat.reduceLT, Nat.reduceLeDiff, Nat.reduceBNe, Nat.reduceBEq, Int.reduceToNat]
              refine aw_cond (b := _) rfl (fun hc16 => ?_) (fun hc16 => ?_)
              · simp only [decide_eq_true_eq, decide_eq_false_iff_not, Bool.and_eq_true, Bool.or_eq_true, Bool.not_eq_true', Bool.not_eq_false', Bool.and_eq_false_iff, Bool.or_eq_false_iff, Int.ofNat_lt, Int.ofNat_le, Nat.not_lt, Nat.not_le, Int.not_lt, Int.not_le] at hc16
                refine aw_skip ?_
                simp only [go_sem, ↓reduceIte, Nat.reduceEqDiff, reduceCtorEq, Nat.reduceAdd, Nat.reduceLT, Nat.reduceLeDiff, Nat.reduceBNe, Nat.reduceBEq, Int.reduceToNat]
                refine aw_seq ?_
                refine aw_block ?_
                refine aw_seq (aw_region (EF := EF0) hG (by rw [hN]; exact tr20_18) ?_)
                simp only [a20_18, go_sem, ↓reduceIte, Nat.reduceEqDiff, reduceCtorEq, Nat.reduceAdd, Nat.reduceLT, Nat.reduceLeDiff, Nat.reduceBNe, Nat.reduceBEq, Int.reduceToNat]
                refine aw_seq (aw_region (EF := EF0) hG (by rw [hN]; exact tr20_19) ?_)
                simp only [a20_19, go_sem, ↓reduceIte, Nat.reduceEqDiff, reduceCtorEq, Nat.reduceAdd, Nat.reduceLT, Nat.reduceLeDiff, Nat.reduceBNe, Nat.reduceBEq, Int.reduceToNat]
                refine aw_seq ?_
                refine aw_seq (aw_region (EF := EF0) hG (by rw [hN]; exact tr20_20) ?_)
                simp only [a20_20, go_sem, ↓reduceIte, Nat.reduceEqDiff, reduceCtorEq, Nat.reduceAdd, Nat.reduceLT, Nat.reduceLeDiff, Nat.reduceBNe, Nat.reduceBEq, Int.reduceToNat]
                refine aw_block ?_
                refine aw_loop (α := Nat × Nat × (List Nat)) (fun γ => (γ.1 ≤ ws.length) ∧ (γ.2.1 = m / bs.length ^ γ.1) ∧ (γ.2.2 = digs bs.length γ.1 m) ∧ (γ.2.1 ≤ m)) (fun γ => ⟨mkE [(1, V.list (ints ws) false), (2, V.ptr 2 0), (5, V.int IntKind.i64 ↑al), (8, V.int IntKind.i64 ↑m), (9, .own 999 γ.2.2.length), (10, .int .i64 γ.2.1), (11, .int .i64 γ.1)], mkH [(2, Ob.box 25 [V.int IntKind.i64 em, V.int IntKind.i64 ix, V.list (List.map Bay.enc bs) false, V.list (List.map Point.enc en) false]), (999, .arr 3 1 (ints (nats γ.2.2)))]⟩) (fun γ => ws.length - γ.1) (0, m, []) ⟨Nat.zero_le _, by simp, rfl, Nat.le_refl _⟩ ?_ ?_
                · refine Le.mk _ _ ?_ ?_ rfl <;> simp only [go_sem, ↓reduceIte, Nat.reduceEqDiff, reduceCtorEq, Nat.reduceAdd, Nat.reduceLT, Nat.reduceLeDiff, Nat.reduceBNe, Nat.reduceBEq, Int.reduceToNat] <;> (repeat' apply And.intro) <;> (try first | rfl | exact wk_frzb rfl rfl rfl | exact wk_fn rfl | exact .nilo _ _ _ rfl rfl)
                · rintro ⟨i3, k, d⟩ ⟨hi3, hk, hd, hkm⟩ KL6 hKL6
                  try dsimp only at *
                  refine aw_seq ?_
                  refine aw_seq (aw_region (EF := EF0) hG (by rw [hN]; exact tr20_21) ?_)
                  simp only [a20_21, go_sem, ↓reduceIte, Nat.reduceEqDiff, reduceCtorEq, Nat.reduceAdd, Nat.reduceLT, Nat.reduceLeDiff, Nat.reduceBNe, Nat.reduceBEq, Int.reduceToNat]
                  refine aw_cond (b := _) rfl (fun hc21 => ?_) (fun hc21 => ?_)
                  · simp only [decide_eq_true_eq, decide_eq_false_iff_not, Bool.and_eq_true, Bool.or_eq_true, Bool.not_eq_true', Bool.not_eq_false', Bool.and_eq_false_iff, Bool.or_eq_false_iff, Int.ofNat_lt, Int.ofNat_le, Nat.not_lt, Nat.not_le, Int.not_lt, Int.not_le] at hc21
                    refine aw_skip ?_
                    simp only [go_sem, ↓reduceIte, Nat.reduceEqDiff, reduceCtorEq, Nat.reduceAdd, Nat.reduceLT, Nat.reduceLeDiff, Nat.reduceBNe, Nat.reduceBEq, Int.reduceToNat]
                    refine aw_seq ?_
                    refine aw_block ?_
                    have hdl : d.length = i3 := by rw [hd, digs_len]
                    have hsn : ints (nats d) ++ [[.int .i64 ((k % bs.length : Nat) : Int)]] = ints (nats (d ++ [k % bs.length])) := by rw [ints_snoc]; unfold nats; rw [List.map_append]; rfl
                    have hkd := Nat.div_le_self k bs.length
                    refine aw_seq (aw_region (EF := EF0) hG (by rw [hN]; exact tr20_23) ?_)
                    simp only [a20_23, go_sem, ↓reduceIte, Nat.reduceEqDiff, reduceCtorEq, Nat.reduceAdd, Nat.reduceLT, Nat.reduceLeDiff, Nat.reduceBNe, Nat.reduceBEq, Int.reduceToNat, cast_tmod, nats_len, hsn]
                    (repeat' apply And.intro) <;> (try first | omega | (intros; (repeat' apply And.intro) <;> first | assumption | omega | (simp_all; done)))
                    refine aw_region (EF := EF0) hG (by rw [hN]; exact tr20_24) ?_
                    simp only [a20_24, go_sem, ↓reduceIte, Nat.reduceEqDiff, reduceCtorEq, Nat.reduceAdd, Nat.reduceLT, Nat.reduceLeDiff, Nat.reduceBNe, Nat.reduceBEq, Int.reduceToNat, cast_tdiv]
                    (repeat' apply And.intro) <;> (try first | omega | (intros; (repeat' apply And.intro) <;> first | assumption | omega | (simp_all; done)) | (generalize k / bs.length = kq at hkd ⊢; omega))
                    refine aw_region (EF := EF0) hG (by rw [hN]; exact tr20_22) ?_
                    simp only [a20_22, go_sem, ↓reduceIte, Nat.reduceEqDiff, reduceCtorEq, Nat.reduceAdd, Nat.reduceLT, Nat.reduceLeDiff, Nat.reduceBNe, Nat.reduceBEq, Int.reduceToNat, inI]
                    (repeat' apply And.intro) <;> (try first | omega | (intros; (repeat' apply And.intro) <;> first | assumption | omega | (simp_all; done)))
                    refine hKL6 (i3 + 1, k / bs.length, d ++ [k % bs.length]) _ ?_ ?_ ?_
                    · (try dsimp only); refine ⟨hc21, ?_, ?_, by omega⟩; (rw [hk, Nat.div_div_eq_div_mul, Nat.pow_succ]); (rw [digs_succ, ← hd, ← hk])
                    · (try dsimp only); omega
                    · refine Le.mk _ _ ?_ ?_ rfl <;> simp only [go_sem, ↓reduceIte, Nat.reduceEqDiff, reduceCtorEq, Nat.reduceAdd, Nat.reduceLT, Nat.reduceLeDiff, Nat.reduceBNe, Nat.reduceBEq, Int.reduceToNat, List.length_append, List.length_cons, List.length_nil] <;> (repeat' apply And.intro) <;> (try first | rfl | exact wk_frzb rfl rfl rfl | exact wk_fn rfl | exact .nilo _ _ _ rfl rfl)
                  · simp only [decide_eq_true_eq, decide_eq_false_iff_not, Bool.and_eq_true, Bool.or_eq_true, Bool.not_eq_true', Bool.not_eq_false', Bool.and_eq_false_iff, Bool.or_eq_false_iff, Int.ofNat_lt, Int.ofNat_le, Nat.not_lt, Nat.not_le, Int.not_lt, Int.not_le] at hc21
                    refine aw_exit ?_
                    simp only [go_sem, ↓reduceIte, Nat.reduceEqDiff, reduceCtorEq, Nat.reduceAdd, Nat.reduceLT, Nat.reduceLeDiff, Nat.reduceBNe, Nat.reduceBEq, Int.reduceToNat]
                    have hdd : d = digs bs.length ws.length m := by rw [hd, Nat.le_antisymm hi3 hc21]
                    have hld : LdOk (⟨em, ix, bs, en⟩, ws, nats d) := ⟨⟨d, rfl, by rw [hdd, digs_len], by rw [hdd]; exact digs_lt (by omega) _ _⟩, hsm.2, hww, hbl.2⟩
                    have hal3 : (addTo (zeros bs.length) ws d).length ≤ 1000 := by rw [addTo_len]; unfold zeros; rw [List.length_replicate]; omega
                    refine AW.le (s' := ⟨mkE [(1, .list (ints ws) false), (2, .ptr 2 0), (5, .int .i64 al), (8, .int .i64 m), (9, .list (ints (nats d)) false)], mkH ([(2, .box 25 [.int .i64 em, .int .i64 ix, .list (bs.map Bay.enc) false, .list (en.map Point.enc) false])])⟩) (Le.mk _ _ (by (simp only [go_sem, ↓reduceIte, Nat.reduceEqDiff, reduceCtorEq, Nat.reduceAdd, Nat.reduceLT, Nat.reduceLeDiff, Nat.reduceBNe, Nat.reduceBEq, Int.reduceToNat]) <;> (repeat' apply And.intro) <;> (try first | exact wk_frzb rfl rfl rfl | rfl | exact wk_fn rfl | exact .nill _ | exact .nilo _ _ _ rfl rfl | exact wk_frz rfl (by simp only [ints_len, nats_len]) rfl (ints_pur _))) (by (simp only [go_sem, ↓reduceIte, Nat.reduceEqDiff, reduceCtorEq, Nat.reduceAdd, Nat.reduceLT, Nat.reduceLeDiff, Nat.reduceBNe, Nat.reduceBEq, Int.reduceToNat]) <;> (repeat' apply And.intro) <;> (try first | exact wk_frzb rfl rfl rfl | rfl | exact wk_fn rfl | exact .nill _ | exact .nilo _ _ _ rfl rfl | exact wk_frz rfl (by simp only [ints_len, nats_len]) rfl (ints_pur _))) rfl) ?_
                    refine aw_seq (aw_region (EF := EF0) hG (by rw [hN]; exact tr20_25) ?_)
                    simp only [a20_25, go_sem, ↓reduceIte, Nat.reduceEqDiff, reduceCtorEq, Nat.reduceAdd, Nat.reduceLT, Nat.reduceLeDiff, Nat.reduceBNe, Nat.reduceBEq, Int.reduceToNat, tPo, fLd_eq, hld, nats_toNat]
                    (repeat' apply And.intro) <;> (try first | omega | (intros; (repeat' apply And.intro) <;> first | assumption | omega | (simp_all; done)))
                    refine aw_seq (aw_region (EF := EF0) hG (by rw [hN]; exact tr20_26) ?_)
                    simp only [a20_26, go_sem, ↓reduceIte, Nat.reduceEqDiff, reduceCtorEq, Nat.reduceAdd, Nat.reduceLT, Nat.reduceLeDiff, Nat.reduceBNe, Nat.reduceBEq, Int.reduceToNat, tPo, fFits_eq, ht, hal3]
                    (repeat' apply And.intro) <;> (try first | omega | (intros; (repeat' apply And.intro) <;> first | assumption | omega | (simp_all; done)))
                    refine aw_cond (b := _) rfl (fun hb26 => ?_) (fun hb26 => ?_)
                    · skip
                      refine aw_seq (aw_region (EF := EF0) hG (by rw [hN]; exact tr20_27) ?_)
                      simp only [a20_27, go_sem, ↓reduceIte, Nat.reduceEqDiff, reduceCtorEq, Nat.reduceAdd, Nat.reduceLT, Nat.reduceLeDiff, Nat.reduceBNe, Nat.reduceBEq, Int.reduceToNat]
                      refine aw_ret ?_
                      show Q _ _
                      refine hQ _ _ (.inl rfl) ?_ ?_ ?_ <;> simp only [outφ, outV, AR.res, go_sem, ↓reduceIte, Nat.reduceEqDiff, reduceCtorEq, Nat.reduceAdd, Nat.reduceLT, Nat.reduceLeDiff, Nat.reduceBNe, Nat.reduceBEq, Int.reduceToNat, fPo]
                      rw [po3 hneg htoo hbigw, if_pos (List.any_eq_true.2 ⟨m, List.mem_range.2 (by rw [← hal2]; exact hc16), by unfold tryF; dsimp only; rw [← hdd]; exact hb26⟩)]
                    · skip
                      refine aw_skip ?_
                      simp only [go_sem, ↓reduceIte, Nat.reduceEqDiff, reduceCtorEq, Nat.reduceAdd, Nat.reduceLT, Nat.reduceLeDiff, Nat.reduceBNe, Nat.reduceBEq, Int.reduceToNat]
                      refine aw_region (EF := EF0) hG (by rw [hN]; exact tr20_17) ?_
                      simp only [a20_17, go_sem, ↓reduceIte, Nat.reduceEqDiff, reduceCtorEq, Nat.reduceAdd, Nat.reduceLT, Nat.reduceLeDiff, Nat.reduceBNe, Nat.reduceBEq, Int.reduceToNat, inI]
                      (repeat' apply And.intro) <;> (try first | omega | (intros; (repeat' apply And.intro) <;> first | assumption | omega | (simp_all; done)))
                      refine hKL4 (m + 1) _ ?_ ?_ ?_
                      · (try dsimp only); exact ⟨hc16, all_step hq (by unfold tryF; dsimp only; rw [← hdd]; exact hb26)⟩
                      · (try dsimp only); omega
                      · refine Le.mk _ _ ?_ ?_ rfl <;> simp only [go_sem, ↓reduceIte, Nat.reduceEqDiff, reduceCtorEq, Nat.reduceAdd, Nat.reduceLT, Nat.reduceLeDiff, Nat.reduceBNe, Nat.reduceBEq, Int.reduceToNat] <;> (repeat' apply And.intro) <;> (try first | rfl | exact wk_frzb rfl rfl rfl | exact wk_fn rfl | exact .nilo _ _ _ rfl rfl)
              · simp only [decide_eq_true_eq, decide_eq_false_iff_not, Bool.and_eq_true, Bool.or_eq_true, Bool.not_eq_true', Bool.not_eq_false', Bool.and_eq_false_iff, Bool.or_eq_false_iff, Int.ofNat_lt, Int.ofNat_le, Nat.not_lt, Nat.not_le, Int.not_lt, Int.not_le] at hc16
                refine aw_exit ?_
                simp only [go_sem, ↓reduceIte, Nat.reduceEqDiff, reduceCtorEq, Nat.reduceAdd, Nat.reduceLT, Nat.reduceLeDiff, Nat.reduceBNe, Nat.reduceBEq, Int.reduceToNat]
                refine aw_seq (aw_region (EF := EF0) hG (by rw [hN]; exact tr20_28) ?_)
                simp only [a20_28, go_sem, ↓reduceIte, Nat.reduceEqDiff, reduceCtorEq, Nat.reduceAdd, Nat.reduceLT, Nat.reduceLeDiff, Nat.reduceBNe, Nat.reduceBEq, Int.reduceToNat]
                refine aw_ret ?_
                show Q _ _
                refine hQ _ _ (.inl rfl) ?_ ?_ ?_ <;> simp only [outφ, outV, AR.res, go_sem, ↓reduceIte, Nat.reduceEqDiff, reduceCtorEq, Nat.reduceAdd, Nat.reduceLT, Nat.reduceLeDiff, Nat.reduceBNe, Nat.reduceBEq, Int.reduceToNat, fPo]
                rw [po3 hneg htoo hbigw, if_neg]; rw [Bool.not_eq_true, List.any_eq_false]; intro j hj; rw [hq j (by have := List.mem_range.1 hj; rw [← hal2] at this; omega)]; decide
end Go.Proofs.YtemeeeomcjdlnaaDoor
