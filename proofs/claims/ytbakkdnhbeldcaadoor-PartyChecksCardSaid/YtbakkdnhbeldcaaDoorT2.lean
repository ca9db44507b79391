/- Faults, as every chapter's Check reports them; paths; SameFaults. -/
import Derived.Test.YtbakkdnhbeldcaaDoorT1
namespace Go.Proofs.YtbakkdnhbeldcaaDoor
open Go Go.RowKit
set_option linter.unusedSimpArgs false
set_option linter.unusedVariables false
set_option linter.deprecated false
structure Fault where
  err : Int
  pos : List UInt8
def Fault.enc (f : Fault) : List V := [.int .i64 f.err, .str f.pos]
def fIf (b : Bool) (e : Int) (pos : List UInt8) : List Fault := if b then [⟨e, pos⟩] else []
/-- A path with an index added. -/
def at1 (path word : List UInt8) (i : Nat) : List UInt8 := (if path = [] then [] else path ++ [32]) ++ word ++ [32] ++ dec i
theorem dec_lenN {i : Nat} (h : i ≤ 1000000) : (dec (i : Int)).length ≤ 21 := dec_len ⟨by omega, by omega⟩
theorem getD_lt {α : Type} (l : List α) (k : Nat) (d : α) (h : k < l.length) : l.getD k d = l[k] := by
  rw [List.getD_eq_getElem?_getD, List.getElem?_eq_getElem h]; rfl
def faults (l : List Fault) : List (List V) := l.map Fault.enc
theorem faults_len (l : List Fault) : (faults l).length = l.length := List.length_map _
theorem faults_pur (l : List Fault) : ∀ r ∈ faults l, V.purs r = true := by
  intro r hr
  obtain ⟨n, _, rfl⟩ := List.mem_map.1 hr
  rfl
theorem faults_purT (l : List Fault) : (∀ r ∈ faults l, V.purs r = true) ↔ True := iff_true_intro (faults_pur l)
theorem faults_snoc (l : List Fault) (e : Int) (p : List UInt8) : faults l ++ [[.int .i64 e, .str p]] = faults (l ++ [⟨e, p⟩]) := by unfold faults; rw [List.map_append]; rfl
theorem faults_app (l r : List Fault) : faults l ++ faults r = faults (l ++ r) := by unfold faults; rw [List.map_append]
theorem faults_two (l : List Fault) : ∀ r ∈ faults l, r.length = 2 := by
  intro r hr
  obtain ⟨n, _, rfl⟩ := List.mem_map.1 hr
  rfl
theorem faults_twoT (l : List Fault) : (∀ r ∈ faults l, r.length = 2) ↔ True := iff_true_intro (faults_two l)
theorem faults_nil : faults [] = [] := rfl
attribute [go_sem] faults_len faults_purT faults_snoc faults_app faults_twoT
theorem fIf_t {b : Bool} {e : Int} {p : List UInt8} (h : b = true) : fIf b e p = [⟨e, p⟩] := by rw [h]; rfl
theorem fIf_f {b : Bool} {e : Int} {p : List UInt8} (h : b = false) : fIf b e p = [] := by rw [h]; rfl
theorem fIf_len (b : Bool) (e : Int) (p : List UInt8) : (fIf b e p).length ≤ 1 := by unfold fIf; split <;> simp
theorem at1_len (p w : List UInt8) {i : Nat} (h : i ≤ 1000000) : (at1 p w i).length ≤ p.length + w.length + 30 := by
  have := dec_lenN h
  unfold at1
  split <;> simp only [List.length_append, List.length_cons, List.length_nil] <;> omega
theorem getD_mem {α : Type} (l : List α) (k : Nat) (d : α) (P : α → Prop) (hd : P d) (h : ∀ x ∈ l, P x) : P (l.getD k d) := by
  by_cases hk : k < l.length
  · rw [getD_lt l k d hk]; exact h _ (List.getElem_mem hk)
  · rw [List.getD_eq_getElem?_getD, List.getElem?_eq_none (by omega)]; exact hd
theorem take_all {α : Type} {p : α → Prop} {l : List α} {i : Nat} (hi : i < l.length) (hp : ∀ c ∈ l.take i, p c) (h : p l[i]) : ∀ c ∈ l.take (i + 1), p c := by
  intro c hc
  rw [List.take_succ_eq_append_getElem hi, List.mem_append, List.mem_singleton] at hc
  rcases hc with hc | rfl
  · exact hp c hc
  · exact h
theorem Fault.inj (a b : Fault) (h : a.enc = b.enc) : a = b := by
  cases a; cases b
  simp only [Fault.enc, List.cons.injEq, V.int.injEq, V.str.injEq, and_true, true_and] at h
  obtain ⟨rfl, rfl⟩ := h; rfl
theorem faults_at {l : List Fault} {i : Nat} {d : List V} (h : i < l.length) : (faults l).getD i d = [.int .i64 l[i].err, .str l[i].pos] := by
  unfold faults; rw [List.getD_eq_getElem?_getD, List.getElem?_map, List.getElem?_eq_getElem h]; rfl
def aSameF (x : List Fault × List Fault) : List V := [.list (faults x.1) false, .list (faults x.2) false]
theorem aSameF_inj (a b : List Fault × List Fault) (h : aSameF a = aSameF b) : a = b := by
  cases a; cases b
  simp only [aSameF, faults, List.cons.injEq, V.list.injEq, and_true] at h
  rw [map_inj' Fault.inj h.1, map_inj' Fault.inj h.2]
/-- Of two equal lists. -/
def fSameF (x : List Fault × List Fault) : Prop × V := (x.1.length ≤ 140737488355328 ∧ x.1 = x.2, .bool true)
theorem fSameF_eq (a b : List Fault) : gOf aSameF fSameF [.list (faults a) false, .list (faults b) false] = (a.length ≤ 140737488355328 ∧ a = b, .bool true) := gOf_eq aSameF_inj (a, b)
set_option maxHeartbeats 1000000 in
theorem sameF_p : PureC Tryd.prog UT 9 (gOf aSameF fSameF) := by
  have hG := tNo_ok
  refine PureC.ofArgs aSameF_inj Tryd.func9 body9 nm9 res9 ?_
  rintro ⟨l, r⟩ hv
  refine ⟨by rw [nt9]; simp [aSameF], fun C hN Q hQ => ?_⟩
  rw [nt9] at hN
  unfold c9
  obtain ⟨hl, rfl⟩ : l.length ≤ 140737488355328 ∧ l = r := hv
  refine aw_seq (aw_region (EF := EF0) hG (by rw [hN]; exact tr9_0) ?_)
  simp only [a9_0, go_sem, ↓reduceIte, Nat.reduceEqDiff, reduceCtorEq, Nat.reduceAdd, Nat.reduceLT, Nat.reduceLeDiff, Nat.reduceBNe, Nat.reduceBEq, Int.reduceToNat, aSameF]
  refine aw_seq ?_
  refine aw_seq ?_
  refine aw_region (EF := EF0) hG (by rw [hN]; exact tr9_1) ?_
  simp only [a9_1, go_sem, ↓reduceIte, Nat.reduceEqDiff, reduceCtorEq, Nat.reduceAdd, Nat.reduceLT, Nat.reduceLeDiff, Nat.reduceBNe, Nat.reduceBEq, Int.reduceToNat]
  refine aw_condF rfl ?_
  refine aw_skip ?_
  simp only [go_sem, ↓reduceIte, Nat.reduceEqDiff, reduceCtorEq, Nat.reduceAdd, Nat.reduceLT, Nat.reduceLeDiff, Nat.reduceBNe, Nat.reduceBEq, Int.reduceToNat]
  refine aw_seq ?_
  refine aw_seq ?_
  refine aw_region (EF := EF0) hG (by rw [hN]; exact tr9_3) ?_
  simp only [a9_3, go_sem, ↓reduceIte, Nat.reduceEqDiff, reduceCtorEq, Nat.reduceAdd, Nat.reduceLT, Nat.reduceLeDiff, Nat.reduceBNe, Nat.reduceBEq, Int.reduceToNat]
  refine aw_block ?_
  refine aw_loop (α := Nat) (fun i => i ≤ l.length) (fun i => ⟨mkE [(0, .list (faults l) false), (1, .list (faults l) false), (5, .int .i64 i)], mkH []⟩) (fun i => l.length - i) 0 (Nat.zero_le _) ?_ ?_
  · refine Le.mk _ _ ?_ ?_ rfl <;> simp only [go_sem, ↓reduceIte, Nat.reduceEqDiff, reduceCtorEq, Nat.reduceAdd, Nat.reduceLT, Nat.reduceLeDiff, Nat.reduceBNe, Nat.reduceBEq, Int.reduceToNat] <;> (repeat' apply And.intro) <;> (try first | rfl | exact wk_frzb rfl rfl rfl | exact wk_fn rfl | exact .nilo _ _ _ rfl rfl)
  · rintro i hi K hK
    refine aw_seq ?_
    refine aw_seq ?_
    refine aw_region (EF := EF0) hG (by rw [hN]; exact tr9_4) ?_
    simp only [a9_4, go_sem, ↓reduceIte, Nat.reduceEqDiff, reduceCtorEq, Nat.reduceAdd, Nat.reduceLT, Nat.reduceLeDiff, Nat.reduceBNe, Nat.reduceBEq, Int.reduceToNat]
    refine aw_cond (b := _) rfl (fun hc => ?_) (fun hc => ?_)
    · simp only [decide_eq_true_eq, decide_eq_false_iff_not, Bool.and_eq_true, Bool.or_eq_true, Bool.not_eq_true', Bool.not_eq_false', Bool.and_eq_false_iff, Bool.or_eq_false_iff, Int.ofNat_lt, Int.ofNat_le, Nat.not_lt, Nat.not_le, Int.not_lt, Int.not_le] at hc
      refine aw_skip ?_
      simp only [go_sem, ↓reduceIte, Nat.reduceEqDiff, reduceCtorEq, Nat.reduceAdd, Nat.reduceLT, Nat.reduceLeDiff, Nat.reduceBNe, Nat.reduceBEq, Int.reduceToNat]
      refine aw_seq ?_
      refine aw_block ?_
      refine aw_seq ?_
      refine aw_regionD (EF := EF0) hG mixed (by rw [hN]; exact tr9_6) ok9_6 ?_
      simp only [a9_6, d9_6, go_sem, ↓reduceIte, Nat.reduceEqDiff, reduceCtorEq, Nat.reduceAdd, Nat.reduceLT, Nat.reduceLeDiff, Nat.reduceBNe, Nat.reduceBEq, Int.reduceToNat, faults_at hc, hc]
      refine aw_condF rfl ?_
      refine aw_skip ?_
      simp only [go_sem, ↓reduceIte, Nat.reduceEqDiff, reduceCtorEq, Nat.reduceAdd, Nat.reduceLT, Nat.reduceLeDiff, Nat.reduceBNe, Nat.reduceBEq, Int.reduceToNat]
      refine aw_region (EF := EF0) hG (by rw [hN]; exact tr9_5) ?_
      simp only [a9_5, go_sem, ↓reduceIte, Nat.reduceEqDiff, reduceCtorEq, Nat.reduceAdd, Nat.reduceLT, Nat.reduceLeDiff, Nat.reduceBNe, Nat.reduceBEq, Int.reduceToNat, inI]
      (repeat' apply And.intro) <;> (try first | omega | (intros; (repeat' apply And.intro) <;> first | assumption | omega | (simp_all; done)))
      refine hK (i + 1) _ ?_ ?_ ?_
      · omega
      · omega
      · refine Le.mk _ _ ?_ ?_ rfl <;> simp only [go_sem, ↓reduceIte, Nat.reduceEqDiff, reduceCtorEq, Nat.reduceAdd, Nat.reduceLT, Nat.reduceLeDiff, Nat.reduceBNe, Nat.reduceBEq, Int.reduceToNat] <;> (repeat' apply And.intro) <;> (try first | rfl | exact wk_frzb rfl rfl rfl | exact wk_fn rfl | exact .nilo _ _ _ rfl rfl)
    · simp only [decide_eq_true_eq, decide_eq_false_iff_not, Bool.and_eq_true, Bool.or_eq_true, Bool.not_eq_true', Bool.not_eq_false', Bool.and_eq_false_iff, Bool.or_eq_false_iff, Int.ofNat_lt, Int.ofNat_le, Nat.not_lt, Nat.not_le, Int.not_lt, Int.not_le] at hc
      refine aw_exit ?_
      simp only [go_sem, ↓reduceIte, Nat.reduceEqDiff, reduceCtorEq, Nat.reduceAdd, Nat.reduceLT, Nat.reduceLeDiff, Nat.reduceBNe, Nat.reduceBEq, Int.reduceToNat]
      refine aw_seq (aw_region (EF := EF0) hG (by rw [hN]; exact tr9_8) ?_)
      simp only [a9_8, go_sem, ↓reduceIte, Nat.reduceEqDiff, reduceCtorEq, Nat.reduceAdd, Nat.reduceLT, Nat.reduceLeDiff, Nat.reduceBNe, Nat.reduceBEq, Int.reduceToNat]
      refine aw_ret ?_
      show Q _ _
      refine hQ _ _ (.inl rfl) ?_ ?_ ?_ <;> simp only [outφ, outV, AR.res, go_sem, ↓reduceIte, Nat.reduceEqDiff, reduceCtorEq, Nat.reduceAdd, Nat.reduceLT, Nat.reduceLeDiff, Nat.reduceBNe, Nat.reduceBEq, Int.reduceToNat, fSameF]
end Go.Proofs.YtbakkdnhbeldcaaDoor
