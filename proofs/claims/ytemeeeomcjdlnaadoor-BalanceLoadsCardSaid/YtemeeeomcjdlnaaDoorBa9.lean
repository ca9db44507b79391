/- The loader's put: it writes the loader that it is handed. -/
import Derived.Test.YtemeeeomcjdlnaaDoorBa8
namespace Go.Proofs.YtemeeeomcjdlnaaDoor
open Go Go.RowKit
set_option linter.unusedSimpArgs false
set_option linter.unusedVariables false
set_option linter.deprecated false
def tryB (rec : List Int → List Int → Bool × List Int × List Int) (t : Trim) (i : Nat) (w : Int) (ls : List Int) : Nat → List Int → Bool × List Int × List Int
  | 0, bay => (false, bay, ls)
  | m + 1, bay =>
    if (t.bays.getD (ls.length - (m + 1)) Bay.zero).max - w < ls.getD (ls.length - (m + 1)) 0 then tryB rec t i w ls m bay
    else
      let r := rec (bay.set i ((ls.length - (m + 1) : Nat) : Int)) (ls.set (ls.length - (m + 1)) (ls.getD (ls.length - (m + 1)) 0 + w))
      if r.1 then r else tryB rec t i w ls m r.2.1
def putR (t : Trim) (ws : List Int) : Nat → List Int → List Int → Bool × List Int × List Int
  | 0, bay, ls => (decide (fitsOf t ls = 0), bay, ls)
  | r + 1, bay, ls => tryB (putR t ws r) t (ws.length - (r + 1)) (ws.getD (ws.length - (r + 1)) 0) ls ls.length bay
theorem tryB_restore {rec t i w ls} : ∀ {m bay}, (tryB rec t i w ls m bay).1 = false → (tryB rec t i w ls m bay).2.2 = ls
  | 0, _, _ => rfl
  | m + 1, bay, h => by
    rw [tryB] at h ⊢
    split at h
    · rename_i c; rw [if_pos c]; exact tryB_restore h
    · rename_i c
      rw [if_neg c]
      dsimp only at h ⊢
      split at h
      · rename_i c2; rw [h] at c2; cases c2
      · rename_i c2; rw [if_neg c2]; exact tryB_restore h
theorem putR_restore {t ws r bay ls} (h : (putR t ws r bay ls).1 = false) : (putR t ws r bay ls).2.2 = ls := by
  cases r with
  | zero => rfl
  | succ r => exact tryB_restore h
theorem tryB_len {rec t i w ls} (hr : ∀ bay ls, (rec bay ls).2.1.length = bay.length ∧ (rec bay ls).2.2.length = ls.length) : ∀ {m bay}, (tryB rec t i w ls m bay).2.1.length = bay.length ∧ (tryB rec t i w ls m bay).2.2.length = ls.length
  | 0, _ => ⟨rfl, rfl⟩
  | m + 1, bay => by
    rw [tryB]
    split
    · exact tryB_len hr
    · dsimp only
      obtain ⟨h1, h2⟩ := hr (bay.set i ((ls.length - (m + 1) : Nat) : Int)) (ls.set (ls.length - (m + 1)) (ls.getD (ls.length - (m + 1)) 0 + w))
      rw [List.length_set] at h1 h2
      split
      · exact ⟨h1, h2⟩
      · have := tryB_len (i := i) (w := w) (t := t) (ls := ls) hr (m := m) (bay := (rec (bay.set i ((ls.length - (m + 1) : Nat) : Int)) (ls.set (ls.length - (m + 1)) (ls.getD (ls.length - (m + 1)) 0 + w))).2.1)
        rw [h1] at this; exact this
theorem putR_len {t ws} : ∀ {r} (bay ls : List Int), (putR t ws r bay ls).2.1.length = bay.length ∧ (putR t ws r bay ls).2.2.length = ls.length
  | 0, _, _ => ⟨rfl, rfl⟩
  | r + 1, bay, ls => tryB_len fun bay ls => putR_len bay ls
theorem tryB_skip {rec t i w ls b bay} (hb : b < ls.length) (hbb : b < t.bays.length) (h : t.bays[b].max - w < ls[b]) : tryB rec t i w ls (ls.length - b) bay = tryB rec t i w ls (ls.length - (b + 1)) bay := by
  obtain ⟨m, hm⟩ : ∃ m, ls.length - b = m + 1 := ⟨ls.length - b - 1, by omega⟩
  have e : ls.length - (m + 1) = b := by omega
  rw [hm, tryB, e, getD_lt _ _ _ hb, getD_lt _ _ _ hbb, if_pos h, show ls.length - (b + 1) = m by omega]
theorem tryB_rec {rec t i w ls b bay} (hb : b < ls.length) (hbb : b < t.bays.length) (h : ¬ t.bays[b].max - w < ls[b]) {R : Bool × List Int × List Int} (hR : rec (bay.set i (b : Int)) (ls.set b (ls[b] + w)) = R) : tryB rec t i w ls (ls.length - b) bay = if R.1 then R else tryB rec t i w ls (ls.length - (b + 1)) R.2.1 := by
  obtain ⟨m, hm⟩ : ∃ m, ls.length - b = m + 1 := ⟨ls.length - b - 1, by omega⟩
  have e : ls.length - (m + 1) = b := by omega
  rw [hm, tryB, e, getD_lt _ _ _ hb, getD_lt _ _ _ hbb, if_neg h, hR, show ls.length - (b + 1) = m by omega]
/-- A loader and its lists, by their names. -/
def ldr (nb n1 n2 : Nat) (t : Trim) (ws bay ls : List Int) : List (Nat × Ob) := [(nb, .box 59 [.int .i64 t.empty, .int .i64 t.index, .list (t.bays.map Bay.enc) false, .list (t.envelope.map Point.enc) false, .list (ints ws) false, .own n1 bay.length, .own n2 ls.length]), (n1, .arr 3 1 (ints bay)), (n2, .arr 3 1 (ints ls))]
def EFp : Nat → Bool := fun f => f == 32
theorem put_use {d : Option Nat} {s : St} {K : St → Prop} {nb n1 n2 p q : Nat} {t : Trim} {ws bay ls bay' ls' : List Int} {i : Int} {ok : Bool} (he : Eff Tryd.prog UT 32 [.ptr 1000 0, .int .i64 i] (ldr 1000 1001 1002 t ws bay ls) (.bool ok) (ldr 1000 1001 1002 t ws bay' ls'))
    (hb : s.h nb = some (.box 59 [.int .i64 t.empty, .int .i64 t.index, .list (t.bays.map Bay.enc) false, .list (t.envelope.map Point.enc) false, .list (ints ws) false, .own n1 p, .own n2 q])) (hp : p = bay.length) (hq : q = ls.length) (ha : s.h n1 = some (.arr 3 1 (ints bay))) (hc : s.h n2 = some (.arr 3 1 (ints ls)))
    (h1 : nb ≠ n1) (h2 : nb ≠ n2) (h3 : n1 ≠ n2)
    (hK : K ⟨setE d (.bool ok) s.e, hov (ldr nb n1 n2 t ws bay' ls') s.h⟩) : EStep Tryd.prog UT d 32 [.ptr nb 0, .int .i64 i] s K := by
  subst hp hq
  have h1' := Ne.symm h1
  have h2' := Ne.symm h2
  have h3' := Ne.symm h3
  refine ⟨[(1000, nb), (1001, n1), (1002, n2)], [], _, _, _, _, he, ⟨by simp [okL, h1, h2, h3], rfl, rfl, by simp, by simp, ?_, by simp [V.rens, V.ren, rni, h1', h2', h3'], by simp [V.nins, V.nin], by simp [V.nin, V.nins], ?_, ?_⟩, ?_⟩
  · intro p hp
    simp only [List.mem_cons, List.not_mem_nil, or_false] at hp
    rcases hp with rfl | rfl | rfl
    · exact ⟨_, hb, by simp [ldr, mkH, Ob.ren, V.rens, V.ren, rni, h1', h2', h3'], by simp [Ob.nin, V.nins, V.nin]⟩
    · exact ⟨_, ha, by simp [ldr, mkH, Ob.ren], by simp only [Ob.nin, ints_purT]⟩
    · exact ⟨_, hc, by simp [ldr, mkH, Ob.ren], by simp only [Ob.nin, ints_purT]⟩
  · intro q hq
    simp only [ldr, List.mem_cons, List.not_mem_nil, or_false] at hq
    rcases hq with rfl | rfl | rfl
    · simp [Ob.nin, V.nins, V.nin, ldr]
    · simp only [Ob.nin, ints_purT]
    · simp only [Ob.nin, ints_purT]
  · intro p hp o o' h1 h2
    simp only [List.mem_cons, List.not_mem_nil, or_false] at hp
    rcases hp with rfl | rfl | rfl <;> simp [ldr, mkH] at h1 h2 <;> subst h1 h2 <;> simp [Ob.kind]
  · have e1 : (V.bool ok).ren (rn ([(1000, nb), (1001, n1), (1002, n2)] ++ [])) = .bool ok := by simp [V.ren]
    have e2 : (ldr 1000 1001 1002 t ws bay' ls').map (fun q : Nat × Ob => (rn ([(1000, nb), (1001, n1), (1002, n2)] ++ []) q.1, q.2.ren (rn ([(1000, nb), (1001, n1), (1002, n2)] ++ [])))) = ldr nb n1 n2 t ws bay' ls' := by
      simp [ldr, rn, Ob.ren, V.rens, V.ren]
    rw [e1, e2]
    exact hK
def LsOk (t : Trim) (ls : List Int) : Prop := ls.length = t.bays.length ∧ ∀ x ∈ ls, 0 ≤ x ∧ x ≤ 1000000
def WsOk (ws : List Int) : Prop := ws.length ≤ 1000 ∧ ∀ w ∈ ws, 0 ≤ w ∧ inI w
noncomputable def tPut : Tab
  | 15 => (gOf aPl fFits)
  | _ => gNo
theorem tPut_ok : ∀ f, PureC Tryd.prog UT f (tPut f) := fun f => by
  unfold tPut
  split
  · exact fits_p
  · exact PureC.no
set_option maxHeartbeats 4000000 in
theorem put_e {t : Trim} {ws : List Int} (ht : TrimOk t) (hw : WsOk ws) : ∀ r, r ≤ ws.length → ∀ bay ls, bay.length = ws.length → LsOk t ls →
    Eff Tryd.prog UT 32 [.ptr 1000 0, .int .i64 ((ws.length - r : Nat) : Int)] (ldr 1000 1001 1002 t ws bay ls) (.bool (putR t ws r bay ls).1) (ldr 1000 1001 1002 t ws (putR t ws r bay ls).2.1 (putR t ws r bay ls).2.2) := by
  intro r
  induction r with
  | zero =>
    intro _ bay ls hb hl
    have hG := tPut_ok
    obtain ⟨em, ix, bs, en⟩ := t
    have hwl := hw.1
    have hll : ls.length ≤ 1000 := by have := hl.1; have := ht.2.2.1.2; dsimp only at *; omega
    refine Eff.of_aw Tryd.func32 body32 nm32 res32 (by rw [nt32]; simp) fun C hN Q hQ => ?_
    rw [nt32] at hN
    unfold c32
    refine aw_seq (aw_region (EF := EFp) hG (by rw [hN]; exact tr32_0) ?_)
    simp only [a32_0, go_sem, ↓reduceIte, Nat.reduceEqDiff, reduceCtorEq, Nat.reduceAdd, Nat.reduceLT, Nat.reduceLeDiff, Nat.reduceBNe, Nat.reduceBEq, Int.reduceToNat, EFp, tPut, ldr]
    refine aw_seq ?_
    refine aw_seq (aw_region (EF := EFp) hG (by rw [hN]; exact tr32_1) ?_)
    simp only [a32_1, go_sem, ↓reduceIte, Nat.reduceEqDiff, reduceCtorEq, Nat.reduceAdd, Nat.reduceLT, Nat.reduceLeDiff, Nat.reduceBNe, Nat.reduceBEq, Int.reduceToNat, Nat.sub_zero, EFp, tPut, ldr]
    refine aw_condT rfl ?_
    refine aw_seq (aw_regionD (EF := EFp) hG mixed (by rw [hN]; exact tr32_2) ok32_2 ?_)
    simp only [a32_2, d32_2, go_sem, ↓reduceIte, Nat.reduceEqDiff, reduceCtorEq, Nat.reduceAdd, Nat.reduceLT, Nat.reduceLeDiff, Nat.reduceBNe, Nat.reduceBEq, Int.reduceToNat, fFits_eq, ht, hll, EFp, tPut, ldr]
    (repeat' apply And.intro) <;> (try first | omega | (intros; (repeat' apply And.intro) <;> first | assumption | omega | (simp_all; done)))
    refine aw_ret ?_
    show Q _ _
    refine hQ _ _ ⟨mkE [(4, .bool (decide (fitsOf ⟨em, ix, bs, en⟩ ls = 0)))], mkH (ldr 1000 1001 1002 ⟨em, ix, bs, en⟩ ws bay ls)⟩ (.inl rfl) (Le.mk _ _ ?_ ?_ rfl) rfl ?_ ?_ <;> simp only [outφ, outV, AR.res, go_sem, ↓reduceIte, Nat.reduceEqDiff, reduceCtorEq, Nat.reduceAdd, Nat.reduceLT, Nat.reduceLeDiff, Nat.reduceBNe, Nat.reduceBEq, Int.reduceToNat, ldr, putR]
  | succ r ih =>
    intro hr bay ls hb hl
    have hG := tPut_ok
    obtain ⟨em, ix, bs, en⟩ := t
    have hwl := hw.1
    have hbl := ht.2.2.1
    have hbb := ht.2.2.2.1
    have hll := hl.1
    have hlb := hl.2
    dsimp only at hbl hbb hll
    obtain ⟨i, hi⟩ : ∃ i, ws.length - (r + 1) = i := ⟨_, rfl⟩
    have hiw : i < ws.length := by omega
    have hib : i < bay.length := by omega
    have hne : ((i : Int) = (ws.length : Int)) ↔ False := ⟨fun h => by omega, False.elim⟩
    have hw0 := (hw.2 _ (List.getElem_mem hiw)).1
    have hwi := (hw.2 _ (List.getElem_mem hiw)).2
    have ei : ((ws.length - r : Nat) : Int) = (i : Int) + 1 := by omega
    have hput : ∀ b0, putR ⟨em, ix, bs, en⟩ ws (r + 1) b0 ls = tryB (putR ⟨em, ix, bs, en⟩ ws r) ⟨em, ix, bs, en⟩ i ws[i] ls (ls.length - 0) b0 := fun b0 => by rw [putR, hi, getD_lt _ _ _ hiw, Nat.sub_zero]
    rw [hi]
    generalize hR0 : putR ⟨em, ix, bs, en⟩ ws (r + 1) bay ls = R0
    refine Eff.of_aw Tryd.func32 body32 nm32 res32 (by rw [nt32]; simp) fun C hN Q hQ => ?_
    rw [nt32] at hN
    unfold c32
    refine aw_seq (aw_region (EF := EFp) hG (by rw [hN]; exact tr32_0) ?_)
    simp only [a32_0, go_sem, ↓reduceIte, Nat.reduceEqDiff, reduceCtorEq, Nat.reduceAdd, Nat.reduceLT, Nat.reduceLeDiff, Nat.reduceBNe, Nat.reduceBEq, Int.reduceToNat, EFp, tPut, ldr]
    refine aw_seq ?_
    refine aw_seq (aw_region (EF := EFp) hG (by rw [hN]; exact tr32_1) ?_)
    simp only [a32_1, go_sem, ↓reduceIte, Nat.reduceEqDiff, reduceCtorEq, Nat.reduceAdd, Nat.reduceLT, Nat.reduceLeDiff, Nat.reduceBNe, Nat.reduceBEq, Int.reduceToNat, hne, EFp, tPut, ldr]
    refine aw_condF rfl ?_
    refine aw_skip ?_
    simp only [go_sem, ↓reduceIte, Nat.reduceEqDiff, reduceCtorEq, Nat.reduceAdd, Nat.reduceLT, Nat.reduceLeDiff, Nat.reduceBNe, Nat.reduceBEq, Int.reduceToNat]
    refine aw_seq (aw_region (EF := EFp) hG (by rw [hN]; exact tr32_3) ?_)
    simp only [a32_3, go_sem, ↓reduceIte, Nat.reduceEqDiff, reduceCtorEq, Nat.reduceAdd, Nat.reduceLT, Nat.reduceLeDiff, Nat.reduceBNe, Nat.reduceBEq, Int.reduceToNat, ints_getD _ _ _ hiw, hiw, EFp, tPut, ldr]
    (repeat' apply And.intro) <;> (try first | omega | (intros; (repeat' apply And.intro) <;> first | assumption | omega | (simp_all; done)))
    refine aw_seq ?_
    refine aw_seq (aw_region (EF := EFp) hG (by rw [hN]; exact tr32_4) ?_)
    simp only [a32_4, go_sem, ↓reduceIte, Nat.reduceEqDiff, reduceCtorEq, Nat.reduceAdd, Nat.reduceLT, Nat.reduceLeDiff, Nat.reduceBNe, Nat.reduceBEq, Int.reduceToNat, EFp, tPut, ldr]
    refine aw_block ?_
    refine aw_loop (α := Nat × (List Int)) (fun γ => (γ.1 ≤ ls.length) ∧ (R0 = tryB (putR ⟨em, ix, bs, en⟩ ws r) ⟨em, ix, bs, en⟩ i ws[i] ls (ls.length - γ.1) γ.2) ∧ (γ.2.length = ws.length)) (fun γ => ⟨mkE [(0, V.ptr 1000 0), (1, V.int IntKind.i64 ↑i), (5, V.int IntKind.i64 ws[i]), (35, V.int IntKind.i64 ↑ls.length), (36, .int .i64 γ.1)], mkH [(1000, .box 59 [.int .i64 em, .int .i64 ix, .list (bs.map Bay.enc) false, .list (en.map Point.enc) false, .list (ints ws) false, .own 1001 γ.2.length, .own 1002 ls.length]), (1001, .arr 3 1 (ints γ.2)), (1002, Ob.arr 3 1 (ints ls))]⟩) (fun γ => ls.length - γ.1) (0, bay) ⟨Nat.zero_le _, by rw [← hR0]; exact hput bay, hb⟩ ?_ ?_
    · refine Le.mk _ _ ?_ ?_ rfl <;> simp only [go_sem, ↓reduceIte, Nat.reduceEqDiff, reduceCtorEq, Nat.reduceAdd, Nat.reduceLT, Nat.reduceLeDiff, Nat.reduceBNe, Nat.reduceBEq, Int.reduceToNat] <;> (repeat' apply And.intro) <;> (try first | rfl | exact wk_frzb rfl rfl rfl | exact wk_fn rfl | exact .nilo _ _ _ rfl rfl)
    · rintro ⟨b, bay2⟩ ⟨hbn, hinv, hb2⟩ KL0 hKL0
      try dsimp only at *
      refine aw_seq (aw_region (EF := EFp) hG (by rw [hN]; exact tr32_5) ?_)
      simp only [a32_5, go_sem, ↓reduceIte, Nat.reduceEqDiff, reduceCtorEq, Nat.reduceAdd, Nat.reduceLT, Nat.reduceLeDiff, Nat.reduceBNe, Nat.reduceBEq, Int.reduceToNat, EFp, tPut, ldr]
      refine aw_seq ?_
      refine aw_cond (b := _) rfl (fun hc5 => ?_) (fun hc5 => ?_)
      · simp only [decide_eq_true_eq, decide_eq_false_iff_not, Bool.and_eq_true, Bool.or_eq_true, Bool.not_eq_true', Bool.not_eq_false', Bool.and_eq_false_iff, Bool.or_eq_false_iff, Int.ofNat_lt, Int.ofNat_le, Nat.not_lt, Nat.not_le, Int.not_lt, Int.not_le] at hc5
        refine aw_skip ?_
        simp only [go_sem, ↓reduceIte, Nat.reduceEqDiff, reduceCtorEq, Nat.reduceAdd, Nat.reduceLT, Nat.reduceLeDiff, Nat.reduceBNe, Nat.reduceBEq, Int.reduceToNat]
        refine aw_seq ?_
        refine aw_block ?_
        refine aw_seq (aw_region (EF := EFp) hG (by rw [hN]; exact tr32_6) ?_)
        simp only [a32_6, go_sem, ↓reduceIte, Nat.reduceEqDiff, reduceCtorEq, Nat.reduceAdd, Nat.reduceLT, Nat.reduceLeDiff, Nat.reduceBNe, Nat.reduceBEq, Int.reduceToNat, EFp, tPut, ldr]
        refine aw_seq ?_
        have hcb : b < bs.length := by omega
        obtain ⟨hm1, hm2, hm3⟩ := hbb _ (List.getElem_mem hcb)
        have hl0 := hlb _ (List.getElem_mem hc5)
        obtain ⟨hwi1, hwi2⟩ := id hwi
        refine aw_seq (aw_regionD (EF := EFp) hG mixed (by rw [hN]; exact tr32_7) ok32_7 ?_)
        simp only [a32_7, d32_7, go_sem, ↓reduceIte, Nat.reduceEqDiff, reduceCtorEq, Nat.reduceAdd, Nat.reduceLT, Nat.reduceLeDiff, Nat.reduceBNe, Nat.reduceBEq, Int.reduceToNat, inI, ints_getD _ _ _ hc5, hc5, getD_mapd _ _ _ _ hcb, hcb, Bay.enc, EFp, tPut, ldr]
        (repeat' apply And.intro) <;> (try first | omega | (intros; (repeat' apply And.intro) <;> first | assumption | omega | (simp_all; done)))
        refine aw_cond (b := _) rfl (fun hb7 => ?_) (fun hb7 => ?_)
        · skip
          refine aw_exit ?_
          simp only [go_sem, ↓reduceIte, Nat.reduceEqDiff, reduceCtorEq, Nat.reduceAdd, Nat.reduceLT, Nat.reduceLeDiff, Nat.reduceBNe, Nat.reduceBEq, Int.reduceToNat]
          refine aw_region (EF := EFp) hG (by rw [hN]; exact tr32_13) ?_
          simp only [a32_13, go_sem, ↓reduceIte, Nat.reduceEqDiff, reduceCtorEq, Nat.reduceAdd, Nat.reduceLT, Nat.reduceLeDiff, Nat.reduceBNe, Nat.reduceBEq, Int.reduceToNat, inI, EFp, tPut, ldr]
          (repeat' apply And.intro) <;> (try first | omega | (intros; (repeat' apply And.intro) <;> first | assumption | omega | (simp_all; done)))
          refine hKL0 (b + 1, bay2) _ ?_ ?_ ?_
          · (try dsimp only); exact ⟨hc5, by rw [hinv, tryB_skip hc5 hcb (of_decide_eq_true hb7)], hb2⟩
          · (try dsimp only); omega
          · refine Le.mk _ _ ?_ ?_ rfl <;> simp only [go_sem, ↓reduceIte, Nat.reduceEqDiff, reduceCtorEq, Nat.reduceAdd, Nat.reduceLT, Nat.reduceLeDiff, Nat.reduceBNe, Nat.reduceBEq, Int.reduceToNat] <;> (repeat' apply And.intro) <;> (try first | rfl | exact wk_frzb rfl rfl rfl | exact wk_fn rfl | exact .nilo _ _ _ rfl rfl)
        · skip
          refine aw_skip ?_
          simp only [go_sem, ↓reduceIte, Nat.reduceEqDiff, reduceCtorEq, Nat.reduceAdd, Nat.reduceLT, Nat.reduceLeDiff, Nat.reduceBNe, Nat.reduceBEq, Int.reduceToNat]
          have hnl := of_decide_eq_false hb7
          have hib2 : i < bay2.length := by omega
          refine aw_seq (aw_region (EF := EFp) hG (by rw [hN]; exact tr32_8) ?_)
          simp only [a32_8, go_sem, ↓reduceIte, Nat.reduceEqDiff, reduceCtorEq, Nat.reduceAdd, Nat.reduceLT, Nat.reduceLeDiff, Nat.reduceBNe, Nat.reduceBEq, Int.reduceToNat, ints_getD _ _ _ hib2, ints_set, hib2, EFp, tPut, ldr]
          (repeat' apply And.intro) <;> (try first | omega | (intros; (repeat' apply And.intro) <;> first | assumption | omega | (simp_all; done)))
          refine aw_seq (aw_region (EF := EFp) hG (by rw [hN]; exact tr32_9) ?_)
          simp only [a32_9, go_sem, ↓reduceIte, Nat.reduceEqDiff, reduceCtorEq, Nat.reduceAdd, Nat.reduceLT, Nat.reduceLeDiff, Nat.reduceBNe, Nat.reduceBEq, Int.reduceToNat, inI, ints_getD _ _ _ hc5, hc5, ints_set, EFp, tPut, ldr]
          (repeat' apply And.intro) <;> (try first | omega | (intros; (repeat' apply And.intro) <;> first | assumption | omega | (simp_all; done)))
          refine aw_seq ?_
          have IH := ih (by omega) (bay2.set i (b : Int)) (ls.set b (ls[b] + ws[i])) (by rw [List.length_set]; exact hb2) ⟨by rw [List.length_set]; exact hll, fun x hx => by rcases List.mem_or_eq_of_mem_set hx with h | rfl; exact hlb x h; omega⟩
          rw [ei] at IH
          have hrest := putR_restore (t := ⟨em, ix, bs, en⟩) (ws := ws) (r := r) (bay := bay2.set i (b : Int)) (ls := ls.set b (ls[b] + ws[i]))
          have hlen := (putR_len (t := ⟨em, ix, bs, en⟩) (ws := ws) (r := r) (bay2.set i (b : Int)) (ls.set b (ls[b] + ws[i]))).1
          generalize hR : putR ⟨em, ix, bs, en⟩ ws r (bay2.set i (b : Int)) (ls.set b (ls[b] + ws[i])) = R at IH hrest hlen
          have hstep := tryB_rec (rec := putR ⟨em, ix, bs, en⟩ ws r) (t := ⟨em, ix, bs, en⟩) (i := i) (w := ws[i]) (ls := ls) (b := b) (bay := bay2) hc5 hcb hnl hR
          obtain ⟨ok, bay3, ls3⟩ := R
          dsimp only at IH hrest hlen hstep
          rw [List.length_set, hb2] at hlen
          refine aw_seq (aw_region (EF := EFp) hG (by rw [hN]; exact tr32_10) ?_)
          simp only [a32_10, go_sem, ↓reduceIte, Nat.reduceEqDiff, reduceCtorEq, Nat.reduceAdd, Nat.reduceLT, Nat.reduceLeDiff, Nat.reduceBNe, Nat.reduceBEq, Int.reduceToNat, inI, EFp, tPut, ldr]
          (repeat' apply And.intro) <;> (try first | omega | (intros; (repeat' apply And.intro) <;> first | assumption | omega | (simp_all; done)))
          refine put_use (nb := 1000) (n1 := 1001) (n2 := 1002) (p := bay2.length) (q := ls.length) IH (by rfl) (by rw [List.length_set]) (by rw [List.length_set]) (by rfl) (by rfl) (by decide) (by decide) (by decide) ?_
          simp only [go_sem, ↓reduceIte, Nat.reduceEqDiff, reduceCtorEq, Nat.reduceAdd, Nat.reduceLT, Nat.reduceLeDiff, Nat.reduceBNe, Nat.reduceBEq, Int.reduceToNat, ldr]
          refine aw_cond (b := _) rfl (fun hb10 => ?_) (fun hb10 => ?_)
          · skip
            refine aw_seq (aw_region (EF := EFp) hG (by rw [hN]; exact tr32_11) ?_)
            simp only [a32_11, go_sem, ↓reduceIte, Nat.reduceEqDiff, reduceCtorEq, Nat.reduceAdd, Nat.reduceLT, Nat.reduceLeDiff, Nat.reduceBNe, Nat.reduceBEq, Int.reduceToNat, EFp, tPut, ldr]
            have hfin : R0 = (true, bay3, ls3) := by rw [hinv, hstep, hb10]; rfl
            subst hfin
            refine aw_ret ?_
            show Q _ _
            refine hQ _ _ ⟨mkE [(4, .bool true)], mkH (ldr 1000 1001 1002 ⟨em, ix, bs, en⟩ ws bay3 ls3)⟩ (.inl rfl) (Le.mk _ _ ?_ ?_ rfl) rfl ?_ ?_ <;> simp only [outφ, outV, AR.res, go_sem, ↓reduceIte, Nat.reduceEqDiff, reduceCtorEq, Nat.reduceAdd, Nat.reduceLT, Nat.reduceLeDiff, Nat.reduceBNe, Nat.reduceBEq, Int.reduceToNat, ldr]
          · skip
            refine aw_skip ?_
            simp only [go_sem, ↓reduceIte, Nat.reduceEqDiff, reduceCtorEq, Nat.reduceAdd, Nat.reduceLT, Nat.reduceLeDiff, Nat.reduceBNe, Nat.reduceBEq, Int.reduceToNat]
            obtain rfl := hrest hb10
            have hcs : b < (ls.set b (ls[b] + ws[i])).length := by rw [List.length_set]; exact hc5
            refine aw_region (EF := EFp) hG (by rw [hN]; exact tr32_12) ?_
            simp only [a32_12, go_sem, ↓reduceIte, Nat.reduceEqDiff, reduceCtorEq, Nat.reduceAdd, Nat.reduceLT, Nat.reduceLeDiff, Nat.reduceBNe, Nat.reduceBEq, Int.reduceToNat, inI, ints_getD _ _ _ hcs, hcs, ints_set, List.getElem_set_self, List.set_set, List.length_set, EFp, tPut, ldr]
            (repeat' apply And.intro) <;> (try first | omega | (intros; (repeat' apply And.intro) <;> first | assumption | omega | (simp_all; done)))
            refine aw_region (EF := EFp) hG (by rw [hN]; exact tr32_13) ?_
            simp only [a32_13, go_sem, ↓reduceIte, Nat.reduceEqDiff, reduceCtorEq, Nat.reduceAdd, Nat.reduceLT, Nat.reduceLeDiff, Nat.reduceBNe, Nat.reduceBEq, Int.reduceToNat, inI, EFp, tPut, ldr]
            (repeat' apply And.intro) <;> (try first | omega | (intros; (repeat' apply And.intro) <;> first | assumption | omega | (simp_all; done)))
            refine hKL0 (b + 1, bay3) _ ?_ ?_ ?_
            · (try dsimp only); exact ⟨hc5, by rw [hinv, hstep, hb10]; rfl, hlen⟩
            · (try dsimp only); omega
            · refine Le.mk _ _ ?_ ?_ rfl <;> simp only [go_sem, ↓reduceIte, Nat.reduceEqDiff, reduceCtorEq, Nat.reduceAdd, Nat.reduceLT, Nat.reduceLeDiff, Nat.reduceBNe, Nat.reduceBEq, Int.reduceToNat, Int.add_sub_cancel, List.set_getElem_self] <;> (repeat' apply And.intro) <;> (try first | rfl | exact wk_frzb rfl rfl rfl | exact wk_fn rfl | exact .nilo _ _ _ rfl rfl)
      · simp only [decide_eq_true_eq, decide_eq_false_iff_not, Bool.and_eq_true, Bool.or_eq_true, Bool.not_eq_true', Bool.not_eq_false', Bool.and_eq_false_iff, Bool.or_eq_false_iff, Int.ofNat_lt, Int.ofNat_le, Nat.not_lt, Nat.not_le, Int.not_lt, Int.not_le] at hc5
        refine aw_exit ?_
        simp only [go_sem, ↓reduceIte, Nat.reduceEqDiff, reduceCtorEq, Nat.reduceAdd, Nat.reduceLT, Nat.reduceLeDiff, Nat.reduceBNe, Nat.reduceBEq, Int.reduceToNat]
        refine aw_seq (aw_region (EF := EFp) hG (by rw [hN]; exact tr32_14) ?_)
        simp only [a32_14, go_sem, ↓reduceIte, Nat.reduceEqDiff, reduceCtorEq, Nat.reduceAdd, Nat.reduceLT, Nat.reduceLeDiff, Nat.reduceBNe, Nat.reduceBEq, Int.reduceToNat, EFp, tPut, ldr]
        have hfin : R0 = (false, bay2, ls) := by rw [hinv, show ls.length - b = 0 by omega]; rfl
        subst hfin
        refine aw_ret ?_
        show Q _ _
        refine hQ _ _ ⟨mkE [(4, .bool false)], mkH (ldr 1000 1001 1002 ⟨em, ix, bs, en⟩ ws bay2 ls)⟩ (.inl rfl) (Le.mk _ _ ?_ ?_ rfl) rfl ?_ ?_ <;> simp only [outφ, outV, AR.res, go_sem, ↓reduceIte, Nat.reduceEqDiff, reduceCtorEq, Nat.reduceAdd, Nat.reduceLT, Nat.reduceLeDiff, Nat.reduceBNe, Nat.reduceBEq, Int.reduceToNat, ldr]
end Go.Proofs.YtemeeeomcjdlnaaDoor
