/- Data of the cabin chapter: configurations, and how they are spelt as abstract values. -/
import Derived.Test.YtopafipomaiabaaDoorT2
namespace Go.Proofs.YtopafipomaiabaaDoor
open Go Go.RowKit
set_option linter.unusedSimpArgs false
set_option linter.unusedVariables false
set_option linter.deprecated false
structure Class where
  code : List UInt8
  prot : Int
structure Cabin where
  name : List UInt8
  seats : Int
  over : Int
  cl : List Class
structure Config where
  equip : List UInt8
  cabs : List Cabin
def Class.enc (z : Class) : List V := [.str z.code, .int .i64 z.prot]
def Cabin.enc (y : Cabin) : List V := [.str y.name, .int .i64 y.seats, .int .i64 y.over, .list (y.cl.map Class.enc) false]
def Config.enc (c : Config) : List V := [.str c.equip, .list (c.cabs.map Cabin.enc) false]
theorem Class.inj (a b : Class) (h : a.enc = b.enc) : a = b := by
  cases a; cases b
  simp only [Class.enc, List.cons.injEq, V.str.injEq, V.int.injEq, true_and, and_true] at h
  obtain ⟨rfl, rfl⟩ := h; rfl
theorem Cabin.inj (a b : Cabin) (h : a.enc = b.enc) : a = b := by
  cases a; cases b
  simp only [Cabin.enc, List.cons.injEq, V.str.injEq, V.int.injEq, V.list.injEq, true_and, and_true] at h
  obtain ⟨rfl, rfl, rfl, h⟩ := h
  rw [map_inj' Class.inj h]
theorem Config.inj (a b : Config) (h : a.enc = b.enc) : a = b := by
  cases a; cases b
  simp only [Config.enc, List.cons.injEq, V.str.injEq, V.list.injEq, and_true] at h
  obtain ⟨rfl, h⟩ := h
  rw [map_inj' Cabin.inj h]
def Class.ok (z : Class) : Prop := z.code.length ≤ 140737488355328 ∧ inI z.prot
def Cabin.ok (y : Cabin) : Prop := y.name.length ≤ 140737488355328 ∧ inI y.seats ∧ inI y.over ∧ y.cl.length ≤ 140737488355328 ∧ ∀ z ∈ y.cl, z.ok
def Config.ok (c : Config) : Prop := c.equip.length ≤ 140737488355328 ∧ c.cabs.length ≤ 140737488355328 ∧ ∀ y ∈ c.cabs, y.ok
def ConfigsOk (l : List Config) : Prop := l.length ≤ 140737488355328 ∧ ∀ c ∈ l, c.ok
/-! Find. -/
def find (l : List Config) (e : List UInt8) : Option Config := l.find? fun c => decide (c.equip = e)
def zConf : Config := ⟨[], []⟩
def aFind (x : List Config × List UInt8) : List V := [.list (x.1.map Config.enc) false, .str x.2]
theorem aFind_inj (a b : List Config × List UInt8) (h : aFind a = aFind b) : a = b := by
  cases a; cases b
  simp only [aFind, List.cons.injEq, V.str.injEq, V.list.injEq, and_true] at h
  obtain ⟨h, rfl⟩ := h
  rw [map_inj' Config.inj h]
def fFind (x : List Config × List UInt8) : Prop × V := (x.1.length ≤ 140737488355328, .tup [.agg ((find x.1 x.2).getD zConf).enc, .bool (find x.1 x.2).isSome])
theorem find_at {l : List Config} {e : List UInt8} {i : Nat} (hi : i < l.length) (hp : ∀ c ∈ l.take i, c.equip ≠ e) (h : l[i].equip = e) : find l e = some l[i] := by
  have e1 : find l e = (l.take i ++ l.drop i).find? fun c => decide (c.equip = e) := by rw [List.take_append_drop]; rfl
  rw [e1, List.find?_append, List.find?_eq_none.2 (fun c hc => by simpa using hp c hc), Option.none_or, List.drop_eq_getElem_cons hi, List.find?_cons_of_pos (by simpa using h)]
theorem find_no {l : List Config} {e : List UInt8} {i : Nat} (hi : l.length ≤ i) (hp : ∀ c ∈ l.take i, c.equip ≠ e) : find l e = none := by
  rw [List.take_of_length_le hi] at hp
  exact List.find?_eq_none.2 fun c hc => by simpa using hp c hc
set_option maxHeartbeats 1000000 in
theorem find_p : PureC Tryd.prog UT 12 (gOf aFind fFind) := by
  have hG := tNo_ok
  refine PureC.ofArgs aFind_inj Tryd.func12 body12 nm12 res12 ?_
  rintro ⟨l, e⟩ hv
  refine ⟨by rw [nt12]; simp [aFind], fun C hN Q hQ => ?_⟩
  rw [nt12] at hN
  unfold c12
  replace hv : l.length ≤ 140737488355328 := hv
  refine aw_seq (aw_region (EF := EF0) hG (by rw [hN]; exact tr12_0) ?_)
  simp only [a12_0, go_sem, ↓reduceIte, Nat.reduceEqDiff, reduceCtorEq, Nat.reduceAdd, Nat.reduceLT, Nat.reduceLeDiff, Nat.reduceBNe, Nat.reduceBEq, Int.reduceToNat, aFind]
  refine aw_seq ?_
  refine aw_seq (aw_region (EF := EF0) hG (by rw [hN]; exact tr12_1) ?_)
  simp only [a12_1, go_sem, ↓reduceIte, Nat.reduceEqDiff, reduceCtorEq, Nat.reduceAdd, Nat.reduceLT, Nat.reduceLeDiff, Nat.reduceBNe, Nat.reduceBEq, Int.reduceToNat]
  refine aw_block ?_
  refine aw_loop (α := Nat) (fun i => i ≤ l.length ∧ ∀ c ∈ l.take i, c.equip ≠ e) (fun i => ⟨mkE [(1, .str e), (4, .ptr 4 0), (5, .bool false), (8, .list (l.map Config.enc) false), (9, .int .i64 l.length), (10, .int .i64 i)], mkH [(4, .box 30 [.str [], .nils])]⟩) (fun i => l.length - i) 0 ⟨Nat.zero_le _, by simp⟩ ?_ ?_
  · refine Le.mk _ _ ?_ ?_ rfl <;> simp only [go_sem, ↓reduceIte, Nat.reduceEqDiff, reduceCtorEq, Nat.reduceAdd, Nat.reduceLT, Nat.reduceLeDiff, Nat.reduceBNe, Nat.reduceBEq, Int.reduceToNat]
  · rintro i ⟨hi, hp⟩ K hK
    refine aw_seq ?_
    refine aw_region (EF := EF0) hG (by rw [hN]; exact tr12_2) ?_
    simp only [a12_2, go_sem, ↓reduceIte, Nat.reduceEqDiff, reduceCtorEq, Nat.reduceAdd, Nat.reduceLT, Nat.reduceLeDiff, Nat.reduceBNe, Nat.reduceBEq, Int.reduceToNat]
    refine aw_seq ?_
    refine aw_cond (b := _) rfl (fun hc => ?_) (fun hc => ?_)
    · simp only [decide_eq_true_eq, decide_eq_false_iff_not, Bool.and_eq_true, Bool.or_eq_true, Bool.not_eq_true', Bool.not_eq_false', Bool.and_eq_false_iff, Bool.or_eq_false_iff, Int.ofNat_lt, Int.ofNat_le, Nat.not_lt, Nat.not_le, Int.not_lt, Int.not_le] at hc
      refine aw_skip ?_
      simp only [go_sem, ↓reduceIte, Nat.reduceEqDiff, reduceCtorEq, Nat.reduceAdd, Nat.reduceLT, Nat.reduceLeDiff, Nat.reduceBNe, Nat.reduceBEq, Int.reduceToNat]
      refine aw_seq ?_
      refine aw_block ?_
      refine aw_seq (aw_region (EF := EF0) hG (by rw [hN]; exact tr12_3) ?_)
      simp only [a12_3, go_sem, ↓reduceIte, Nat.reduceEqDiff, reduceCtorEq, Nat.reduceAdd, Nat.reduceLT, Nat.reduceLeDiff, Nat.reduceBNe, Nat.reduceBEq, Int.reduceToNat, getD_map _ _ _ hc, hc, Config.enc]
      refine aw_seq (aw_region (EF := EF0) hG (by rw [hN]; exact tr12_4) ?_)
      simp only [a12_4, go_sem, ↓reduceIte, Nat.reduceEqDiff, reduceCtorEq, Nat.reduceAdd, Nat.reduceLT, Nat.reduceLeDiff, Nat.reduceBNe, Nat.reduceBEq, Int.reduceToNat]
      refine aw_cond (b := _) rfl (fun hd => ?_) (fun hd => ?_)
      · simp only [decide_eq_true_eq, decide_eq_false_iff_not, Bool.and_eq_true, Bool.or_eq_true, Bool.not_eq_true', Bool.not_eq_false', Bool.and_eq_false_iff, Bool.or_eq_false_iff, Int.ofNat_lt, Int.ofNat_le, Nat.not_lt, Nat.not_le, Int.not_lt, Int.not_le] at hd
        refine aw_seq (aw_region (EF := EF0) hG (by rw [hN]; exact tr12_5) ?_)
        simp only [a12_5, go_sem, ↓reduceIte, Nat.reduceEqDiff, reduceCtorEq, Nat.reduceAdd, Nat.reduceLT, Nat.reduceLeDiff, Nat.reduceBNe, Nat.reduceBEq, Int.reduceToNat]
        refine aw_ret ?_
        show Q _ _
        refine hQ _ _ (.inl rfl) ?_ ?_ ?_ <;> simp only [outφ, outV, AR.res, go_sem, ↓reduceIte, Nat.reduceEqDiff, reduceCtorEq, Nat.reduceAdd, Nat.reduceLT, Nat.reduceLeDiff, Nat.reduceBNe, Nat.reduceBEq, Int.reduceToNat, fFind, find_at hc hp hd, Config.enc, Option.getD_some, Option.isSome_some]
      · simp only [decide_eq_true_eq, decide_eq_false_iff_not, Bool.and_eq_true, Bool.or_eq_true, Bool.not_eq_true', Bool.not_eq_false', Bool.and_eq_false_iff, Bool.or_eq_false_iff, Int.ofNat_lt, Int.ofNat_le, Nat.not_lt, Nat.not_le, Int.not_lt, Int.not_le] at hd
        refine aw_skip ?_
        simp only [go_sem, ↓reduceIte, Nat.reduceEqDiff, reduceCtorEq, Nat.reduceAdd, Nat.reduceLT, Nat.reduceLeDiff, Nat.reduceBNe, Nat.reduceBEq, Int.reduceToNat]
        refine aw_region (EF := EF0) hG (by rw [hN]; exact tr12_6) ?_
        simp only [a12_6, go_sem, ↓reduceIte, Nat.reduceEqDiff, reduceCtorEq, Nat.reduceAdd, Nat.reduceLT, Nat.reduceLeDiff, Nat.reduceBNe, Nat.reduceBEq, Int.reduceToNat, inI]
        (repeat' apply And.intro) <;> (try first | omega)
        refine hK (i + 1) _ ?_ ?_ ?_
        · exact ⟨hc, take_all hc hp hd⟩
        · omega
        · refine Le.mk _ _ ?_ ?_ rfl <;> simp only [go_sem, ↓reduceIte, Nat.reduceEqDiff, reduceCtorEq, Nat.reduceAdd, Nat.reduceLT, Nat.reduceLeDiff, Nat.reduceBNe, Nat.reduceBEq, Int.reduceToNat]
    · simp only [decide_eq_true_eq, decide_eq_false_iff_not, Bool.and_eq_true, Bool.or_eq_true, Bool.not_eq_true', Bool.not_eq_false', Bool.and_eq_false_iff, Bool.or_eq_false_iff, Int.ofNat_lt, Int.ofNat_le, Nat.not_lt, Nat.not_le, Int.not_lt, Int.not_le] at hc
      refine aw_exit ?_
      simp only [go_sem, ↓reduceIte, Nat.reduceEqDiff, reduceCtorEq, Nat.reduceAdd, Nat.reduceLT, Nat.reduceLeDiff, Nat.reduceBNe, Nat.reduceBEq, Int.reduceToNat]
      refine aw_seq (aw_region (EF := EF0) hG (by rw [hN]; exact tr12_7) ?_)
      simp only [a12_7, go_sem, ↓reduceIte, Nat.reduceEqDiff, reduceCtorEq, Nat.reduceAdd, Nat.reduceLT, Nat.reduceLeDiff, Nat.reduceBNe, Nat.reduceBEq, Int.reduceToNat]
      refine AW.le (s' := ⟨mkE [(4, .ptr 4 0), (5, .bool false)], mkH [(4, .box 30 zConf.enc)]⟩) (Le.mk _ _ ?_ ?_ rfl) (aw_ret (hQ _ _ (.inl rfl) ?_ ?_ ?_)) <;> simp only [outφ, outV, AR.res, go_sem, ↓reduceIte, Nat.reduceEqDiff, reduceCtorEq, Nat.reduceAdd, Nat.reduceLT, Nat.reduceLeDiff, Nat.reduceBNe, Nat.reduceBEq, Int.reduceToNat, zConf, Config.enc, fFind, find_no hc hp, Option.getD_none, Option.isSome_none]
end Go.Proofs.YtopafipomaiabaaDoor
