/- The reference's Find; Place, of the program and of the reference. -/
import Derived.Test.YtopafipomaiabaaDoorCa1
namespace Go.Proofs.YtopafipomaiabaaDoor
open Go Go.RowKit
set_option linter.unusedSimpArgs false
set_option linter.unusedVariables false
set_option linter.deprecated false
set_option maxHeartbeats 1000000 in
theorem rfind_p : PureC Tryd.prog UT 13 (gOf aFind fFind) := by
  have hG := tNo_ok
  refine PureC.ofArgs aFind_inj Tryd.func13 body13 nm13 res13 ?_
  rintro ⟨l, e⟩ hv
  refine ⟨by rw [nt13]; simp [aFind], fun C hN Q hQ => ?_⟩
  rw [nt13] at hN
  unfold c13
  replace hv : l.length ≤ 140737488355328 := hv
  refine aw_seq (aw_region (EF := EF0) hG (by rw [hN]; exact tr13_0) ?_)
  simp only [a13_0, go_sem, ↓reduceIte, Nat.reduceEqDiff, reduceCtorEq, Nat.reduceAdd, Nat.reduceLT, Nat.reduceLeDiff, Nat.reduceBNe, Nat.reduceBEq, Int.reduceToNat, aFind]
  refine aw_seq ?_
  refine aw_seq (aw_region (EF := EF0) hG (by rw [hN]; exact tr13_1) ?_)
  simp only [a13_1, go_sem, ↓reduceIte, Nat.reduceEqDiff, reduceCtorEq, Nat.reduceAdd, Nat.reduceLT, Nat.reduceLeDiff, Nat.reduceBNe, Nat.reduceBEq, Int.reduceToNat]
  refine aw_block ?_
  refine aw_loop (α := Nat) (fun i => i ≤ l.length ∧ ∀ c ∈ l.take i, c.equip ≠ e) (fun i => ⟨mkE [(0, .list (l.map Config.enc) false), (1, .str e), (4, .ptr 4 0), (5, .bool false), (6, .int .i64 i)], mkH [(4, .box 30 [.str [], .nils])]⟩) (fun i => l.length - i) 0 ⟨Nat.zero_le _, by simp⟩ ?_ ?_
  · refine Le.mk _ _ ?_ ?_ rfl <;> simp only [go_sem, ↓reduceIte, Nat.reduceEqDiff, reduceCtorEq, Nat.reduceAdd, Nat.reduceLT, Nat.reduceLeDiff, Nat.reduceBNe, Nat.reduceBEq, Int.reduceToNat]
  · rintro i ⟨hi, hp⟩ K hK
    refine aw_seq ?_
    refine aw_seq ?_
    refine aw_region (EF := EF0) hG (by rw [hN]; exact tr13_2) ?_
    simp only [a13_2, go_sem, ↓reduceIte, Nat.reduceEqDiff, reduceCtorEq, Nat.reduceAdd, Nat.reduceLT, Nat.reduceLeDiff, Nat.reduceBNe, Nat.reduceBEq, Int.reduceToNat]
    refine aw_cond (b := _) rfl (fun hc => ?_) (fun hc => ?_)
    · simp only [decide_eq_true_eq, decide_eq_false_iff_not, Bool.and_eq_true, Bool.or_eq_true, Bool.not_eq_true', Bool.not_eq_false', Bool.and_eq_false_iff, Bool.or_eq_false_iff, Int.ofNat_lt, Int.ofNat_le, Nat.not_lt, Nat.not_le, Int.not_lt, Int.not_le] at hc
      refine aw_skip ?_
      simp only [go_sem, ↓reduceIte, Nat.reduceEqDiff, reduceCtorEq, Nat.reduceAdd, Nat.reduceLT, Nat.reduceLeDiff, Nat.reduceBNe, Nat.reduceBEq, Int.reduceToNat]
      refine aw_seq ?_
      refine aw_block ?_
      refine aw_seq ?_
      refine aw_region (EF := EF0) hG (by rw [hN]; exact tr13_4) ?_
      simp only [a13_4, go_sem, ↓reduceIte, Nat.reduceEqDiff, reduceCtorEq, Nat.reduceAdd, Nat.reduceLT, Nat.reduceLeDiff, Nat.reduceBNe, Nat.reduceBEq, Int.reduceToNat, getD_map _ _ _ hc, hc, Config.enc]
      refine aw_cond (b := _) rfl (fun hd => ?_) (fun hd => ?_)
      · simp only [decide_eq_true_eq, decide_eq_false_iff_not, Bool.and_eq_true, Bool.or_eq_true, Bool.not_eq_true', Bool.not_eq_false', Bool.and_eq_false_iff, Bool.or_eq_false_iff, Int.ofNat_lt, Int.ofNat_le, Nat.not_lt, Nat.not_le, Int.not_lt, Int.not_le] at hd
        refine aw_seq (aw_region (EF := EF0) hG (by rw [hN]; exact tr13_5) ?_)
        simp only [a13_5, go_sem, ↓reduceIte, Nat.reduceEqDiff, reduceCtorEq, Nat.reduceAdd, Nat.reduceLT, Nat.reduceLeDiff, Nat.reduceBNe, Nat.reduceBEq, Int.reduceToNat, getD_map _ _ _ hc, hc, Config.enc]
        refine aw_ret ?_
        show Q _ _
        refine hQ _ _ (.inl rfl) ?_ ?_ ?_ <;> simp only [outφ, outV, AR.res, go_sem, ↓reduceIte, Nat.reduceEqDiff, reduceCtorEq, Nat.reduceAdd, Nat.reduceLT, Nat.reduceLeDiff, Nat.reduceBNe, Nat.reduceBEq, Int.reduceToNat, fFind, find_at hc hp hd, Config.enc, Option.getD_some, Option.isSome_some]
      · simp only [decide_eq_true_eq, decide_eq_false_iff_not, Bool.and_eq_true, Bool.or_eq_true, Bool.not_eq_true', Bool.not_eq_false', Bool.and_eq_false_iff, Bool.or_eq_false_iff, Int.ofNat_lt, Int.ofNat_le, Nat.not_lt, Nat.not_le, Int.not_lt, Int.not_le] at hd
        refine aw_skip ?_
        simp only [go_sem, ↓reduceIte, Nat.reduceEqDiff, reduceCtorEq, Nat.reduceAdd, Nat.reduceLT, Nat.reduceLeDiff, Nat.reduceBNe, Nat.reduceBEq, Int.reduceToNat]
        refine aw_region (EF := EF0) hG (by rw [hN]; exact tr13_3) ?_
        simp only [a13_3, go_sem, ↓reduceIte, Nat.reduceEqDiff, reduceCtorEq, Nat.reduceAdd, Nat.reduceLT, Nat.reduceLeDiff, Nat.reduceBNe, Nat.reduceBEq, Int.reduceToNat, inI]
        (repeat' apply And.intro) <;> (try first | omega)
        refine hK (i + 1) _ ?_ ?_ ?_
        · exact ⟨hc, take_all hc hp hd⟩
        · omega
        · refine Le.mk _ _ ?_ ?_ rfl <;> simp only [go_sem, ↓reduceIte, Nat.reduceEqDiff, reduceCtorEq, Nat.reduceAdd, Nat.reduceLT, Nat.reduceLeDiff, Nat.reduceBNe, Nat.reduceBEq, Int.reduceToNat]
    · simp only [decide_eq_true_eq, decide_eq_false_iff_not, Bool.and_eq_true, Bool.or_eq_true, Bool.not_eq_true', Bool.not_eq_false', Bool.and_eq_false_iff, Bool.or_eq_false_iff, Int.ofNat_lt, Int.ofNat_le, Nat.not_lt, Nat.not_le, Int.not_lt, Int.not_le] at hc
      refine aw_exit ?_
      simp only [go_sem, ↓reduceIte, Nat.reduceEqDiff, reduceCtorEq, Nat.reduceAdd, Nat.reduceLT, Nat.reduceLeDiff, Nat.reduceBNe, Nat.reduceBEq, Int.reduceToNat]
      refine aw_seq (aw_region (EF := EF0) hG (by rw [hN]; exact tr13_6) ?_)
      simp only [a13_6, go_sem, ↓reduceIte, Nat.reduceEqDiff, reduceCtorEq, Nat.reduceAdd, Nat.reduceLT, Nat.reduceLeDiff, Nat.reduceBNe, Nat.reduceBEq, Int.reduceToNat]
      refine AW.le (s' := ⟨mkE [(4, .ptr 4 0), (5, .bool false)], mkH [(4, .box 30 zConf.enc)]⟩) (Le.mk _ _ ?_ ?_ rfl) (aw_ret (hQ _ _ (.inl rfl) ?_ ?_ ?_)) <;> simp only [outφ, outV, AR.res, go_sem, ↓reduceIte, Nat.reduceEqDiff, reduceCtorEq, Nat.reduceAdd, Nat.reduceLT, Nat.reduceLeDiff, Nat.reduceBNe, Nat.reduceBEq, Int.reduceToNat, zConf, Config.enc, fFind, find_no hc hp, Option.getD_none, Option.isSome_none]
/-! Place. -/
def noCls (s : List UInt8) (y : Cabin) : Prop := ∀ z ∈ y.cl, z.code ≠ s
def idx (l : List Class) (s : List UInt8) : Option Nat := l.findIdx? fun z => decide (z.code = s)
def placeFrom (s : List UInt8) (i : Nat) : List Cabin → Option (Nat × Nat)
  | [] => none
  | y :: ys => match idx y.cl s with
    | some k => some (i, k)
    | none => placeFrom s (i + 1) ys
def place (l : List Cabin) (s : List UInt8) : Option (Nat × Nat) := placeFrom s 0 l
def placeV : Option (Nat × Nat) → V
  | some (i, k) => .tup [.int .i64 i, .int .i64 k, .bool true]
  | none => .tup [.int .i64 0, .int .i64 0, .bool false]
theorem idx_none {s : List UInt8} {y : Cabin} (h : noCls s y) : idx y.cl s = none := by
  unfold idx
  rw [List.findIdx?_eq_none_iff]
  intro x hx
  simpa using h x hx
theorem idx_at {s : List UInt8} {l : List Class} {k : Nat} (hk : k < l.length) (h : ∀ z ∈ l.take k, z.code ≠ s) (hp : l[k].code = s) : idx l s = some k := by
  unfold idx
  rw [List.findIdx?_eq_some_iff_getElem]
  refine ⟨hk, by simpa using hp, fun j hj => ?_⟩
  have := h (l[j]'(by omega)) (by rw [List.mem_take_iff_getElem]; exact ⟨j, by omega, rfl⟩)
  simpa using this
theorem placeFrom_none {s : List UInt8} : ∀ {l : List Cabin} {i : Nat}, (∀ y ∈ l, noCls s y) → placeFrom s i l = none
  | [], _, _ => rfl
  | y :: ys, i, h => by
    rw [placeFrom, idx_none (h y (List.mem_cons_self ..))]
    exact placeFrom_none fun z hz => h z (List.mem_cons_of_mem _ hz)
theorem placeFrom_at {s : List UInt8} : ∀ {l : List Cabin} {i n k : Nat} (hn : n < l.length), (∀ y ∈ l.take n, noCls s y) → idx l[n].cl s = some k → placeFrom s i l = some (i + n, k)
  | [], _, _, _, hn, _, _ => absurd hn (Nat.not_lt_zero _)
  | y :: ys, i, 0, k, _, _, hp => by
    rw [placeFrom]
    simp only [List.getElem_cons_zero] at hp
    rw [hp]; rfl
  | y :: ys, i, n + 1, k, hn, h, hp => by
    simp only [List.take_succ_cons] at h
    rw [placeFrom, idx_none (h y (List.mem_cons_self ..))]
    have := placeFrom_at (i := i + 1) (l := ys) (n := n) (k := k) (by simpa using hn) (fun z hz => h z (List.mem_cons_of_mem _ hz)) (by simpa using hp)
    simp only [this]
    congr 2; omega
theorem place_at {s : List UInt8} {l : List Cabin} {n k : Nat} (hn : n < l.length) (h : ∀ y ∈ l.take n, noCls s y) (hk : k < l[n].cl.length) (h2 : ∀ z ∈ l[n].cl.take k, z.code ≠ s) (hp : l[n].cl[k].code = s) : place l s = some (n, k) := by
  rw [place, placeFrom_at hn h (idx_at hk h2 hp)]; simp
theorem place_none {s : List UInt8} {l : List Cabin} {i : Nat} (hi : l.length ≤ i) (h : ∀ y ∈ l.take i, noCls s y) : place l s = none := by
  rw [List.take_of_length_le hi] at h
  exact placeFrom_none h
theorem noCls_end {s : List UInt8} {y : Cabin} {k : Nat} (hk : y.cl.length ≤ k) (h : ∀ z ∈ y.cl.take k, z.code ≠ s) : noCls s y := by
  rwa [List.take_of_length_le hk] at h
def aPlace (x : Config × List UInt8) : List V := [.agg x.1.enc, .str x.2]
theorem aPlace_inj (a b : Config × List UInt8) (h : aPlace a = aPlace b) : a = b := by
  cases a; cases b
  simp only [aPlace, List.cons.injEq, V.str.injEq, V.agg.injEq, and_true] at h
  obtain ⟨h, rfl⟩ := h
  rw [Config.inj _ _ h]
def fPlace (x : Config × List UInt8) : Prop × V := (x.1.ok, placeV (place x.1.cabs x.2))
set_option maxHeartbeats 1000000 in
theorem place_p : PureC Tryd.prog UT 15 (gOf aPlace fPlace) := by
  have hG := tNo_ok
  refine PureC.ofArgs aPlace_inj Tryd.func15 body15 nm15 res15 ?_
  rintro ⟨⟨q, l⟩, e⟩ hv
  refine ⟨by rw [nt15]; simp [aPlace], fun C hN Q hQ => ?_⟩
  rw [nt15] at hN
  unfold c15
  obtain ⟨_, hv, hy⟩ := (hv : Config.ok ⟨q, l⟩)
  dsimp only at hv hy
  refine aw_seq (aw_region (EF := EF0) hG (by rw [hN]; exact tr15_0) ?_)
  simp only [a15_0, go_sem, ↓reduceIte, Nat.reduceEqDiff, reduceCtorEq, Nat.reduceAdd, Nat.reduceLT, Nat.reduceLeDiff, Nat.reduceBNe, Nat.reduceBEq, Int.reduceToNat, aPlace, Config.enc]
  refine aw_seq ?_
  refine aw_seq (aw_region (EF := EF0) hG (by rw [hN]; exact tr15_1) ?_)
  simp only [a15_1, go_sem, ↓reduceIte, Nat.reduceEqDiff, reduceCtorEq, Nat.reduceAdd, Nat.reduceLT, Nat.reduceLeDiff, Nat.reduceBNe, Nat.reduceBEq, Int.reduceToNat]
  refine aw_block ?_
  refine aw_loop (α := Nat) (fun i => i ≤ l.length ∧ ∀ y ∈ l.take i, noCls e y) (fun i => ⟨mkE [(1, .str e), (12, .list (l.map Cabin.enc) false), (13, .int .i64 l.length), (14, .int .i64 i)], mkH []⟩) (fun i => l.length - i) 0 ⟨Nat.zero_le _, by simp⟩ ?_ ?_
  · refine Le.mk _ _ ?_ ?_ rfl <;> simp only [go_sem, ↓reduceIte, Nat.reduceEqDiff, reduceCtorEq, Nat.reduceAdd, Nat.reduceLT, Nat.reduceLeDiff, Nat.reduceBNe, Nat.reduceBEq, Int.reduceToNat]
  · rintro i ⟨hi, hp⟩ K hK
    refine aw_seq ?_
    refine aw_region (EF := EF0) hG (by rw [hN]; exact tr15_2) ?_
    simp only [a15_2, go_sem, ↓reduceIte, Nat.reduceEqDiff, reduceCtorEq, Nat.reduceAdd, Nat.reduceLT, Nat.reduceLeDiff, Nat.reduceBNe, Nat.reduceBEq, Int.reduceToNat]
    refine aw_seq ?_
    refine aw_cond (b := _) rfl (fun hc => ?_) (fun hc => ?_)
    · simp only [decide_eq_true_eq, decide_eq_false_iff_not, Bool.and_eq_true, Bool.or_eq_true, Bool.not_eq_true', Bool.not_eq_false', Bool.and_eq_false_iff, Bool.or_eq_false_iff, Int.ofNat_lt, Int.ofNat_le, Nat.not_lt, Nat.not_le, Int.not_lt, Int.not_le] at hc
      refine aw_skip ?_
      simp only [go_sem, ↓reduceIte, Nat.reduceEqDiff, reduceCtorEq, Nat.reduceAdd, Nat.reduceLT, Nat.reduceLeDiff, Nat.reduceBNe, Nat.reduceBEq, Int.reduceToNat]
      have hyi := (hy _ (List.getElem_mem hc)).2.2.2.1
      generalize hcl : l[i].cl = cl at hyi
      refine aw_seq ?_
      refine aw_block ?_
      refine aw_seq (aw_region (EF := EF0) hG (by rw [hN]; exact tr15_3) ?_)
      simp only [a15_3, go_sem, ↓reduceIte, Nat.reduceEqDiff, reduceCtorEq, Nat.reduceAdd, Nat.reduceLT, Nat.reduceLeDiff, Nat.reduceBNe, Nat.reduceBEq, Int.reduceToNat, getD_map _ _ _ hc, hc, Cabin.enc]
      refine aw_seq (aw_region (EF := EF0) hG (by rw [hN]; exact tr15_4) ?_)
      simp only [a15_4, go_sem, ↓reduceIte, Nat.reduceEqDiff, reduceCtorEq, Nat.reduceAdd, Nat.reduceLT, Nat.reduceLeDiff, Nat.reduceBNe, Nat.reduceBEq, Int.reduceToNat, hcl]
      refine aw_block ?_
      refine aw_loop (α := Nat) (fun k => k ≤ cl.length ∧ ∀ z ∈ cl.take k, z.code ≠ e) (fun k => ⟨mkE [(1, .str e), (7, .int .i64 i), (12, .list (l.map Cabin.enc) false), (13, .int .i64 l.length), (14, .int .i64 i), (20, .list (cl.map Class.enc) false), (21, .int .i64 cl.length), (22, .int .i64 k)], mkH []⟩) (fun k => cl.length - k) 0 ⟨Nat.zero_le _, by simp⟩ ?_ ?_
      · refine Le.mk _ _ ?_ ?_ rfl <;> simp only [go_sem, ↓reduceIte, Nat.reduceEqDiff, reduceCtorEq, Nat.reduceAdd, Nat.reduceLT, Nat.reduceLeDiff, Nat.reduceBNe, Nat.reduceBEq, Int.reduceToNat]
      · rintro k ⟨hk, hp2⟩ K2 hK2
        refine aw_seq ?_
        refine aw_region (EF := EF0) hG (by rw [hN]; exact tr15_5) ?_
        simp only [a15_5, go_sem, ↓reduceIte, Nat.reduceEqDiff, reduceCtorEq, Nat.reduceAdd, Nat.reduceLT, Nat.reduceLeDiff, Nat.reduceBNe, Nat.reduceBEq, Int.reduceToNat]
        refine aw_seq ?_
        refine aw_cond (b := _) rfl (fun hc2 => ?_) (fun hc2 => ?_)
        · simp only [decide_eq_true_eq, decide_eq_false_iff_not, Bool.and_eq_true, Bool.or_eq_true, Bool.not_eq_true', Bool.not_eq_false', Bool.and_eq_false_iff, Bool.or_eq_false_iff, Int.ofNat_lt, Int.ofNat_le, Nat.not_lt, Nat.not_le, Int.not_lt, Int.not_le] at hc2
          refine aw_skip ?_
          simp only [go_sem, ↓reduceIte, Nat.reduceEqDiff, reduceCtorEq, Nat.reduceAdd, Nat.reduceLT, Nat.reduceLeDiff, Nat.reduceBNe, Nat.reduceBEq, Int.reduceToNat]
          refine aw_seq ?_
          refine aw_block ?_
          refine aw_seq (aw_region (EF := EF0) hG (by rw [hN]; exact tr15_6) ?_)
          simp only [a15_6, go_sem, ↓reduceIte, Nat.reduceEqDiff, reduceCtorEq, Nat.reduceAdd, Nat.reduceLT, Nat.reduceLeDiff, Nat.reduceBNe, Nat.reduceBEq, Int.reduceToNat, getD_map _ _ _ hc2, hc2, Class.enc]
          refine aw_seq (aw_region (EF := EF0) hG (by rw [hN]; exact tr15_7) ?_)
          simp only [a15_7, go_sem, ↓reduceIte, Nat.reduceEqDiff, reduceCtorEq, Nat.reduceAdd, Nat.reduceLT, Nat.reduceLeDiff, Nat.reduceBNe, Nat.reduceBEq, Int.reduceToNat]
          refine aw_cond (b := _) rfl (fun hd => ?_) (fun hd => ?_)
          · simp only [decide_eq_true_eq, decide_eq_false_iff_not, Bool.and_eq_true, Bool.or_eq_true, Bool.not_eq_true', Bool.not_eq_false', Bool.and_eq_false_iff, Bool.or_eq_false_iff, Int.ofNat_lt, Int.ofNat_le, Nat.not_lt, Nat.not_le, Int.not_lt, Int.not_le] at hd
            refine aw_seq (aw_region (EF := EF0) hG (by rw [hN]; exact tr15_8) ?_)
            simp only [a15_8, go_sem, ↓reduceIte, Nat.reduceEqDiff, reduceCtorEq, Nat.reduceAdd, Nat.reduceLT, Nat.reduceLeDiff, Nat.reduceBNe, Nat.reduceBEq, Int.reduceToNat]
            refine aw_ret ?_
            show Q _ _
            refine hQ _ _ (.inl rfl) ?_ ?_ ?_ <;> simp only [outφ, outV, AR.res, go_sem, ↓reduceIte, Nat.reduceEqDiff, reduceCtorEq, Nat.reduceAdd, Nat.reduceLT, Nat.reduceLeDiff, Nat.reduceBNe, Nat.reduceBEq, Int.reduceToNat, fPlace]
            subst hcl
            rw [place_at hc hp hc2 hp2 hd]
            rfl
          · simp only [decide_eq_true_eq, decide_eq_false_iff_not, Bool.and_eq_true, Bool.or_eq_true, Bool.not_eq_true', Bool.not_eq_false', Bool.and_eq_false_iff, Bool.or_eq_false_iff, Int.ofNat_lt, Int.ofNat_le, Nat.not_lt, Nat.not_le, Int.not_lt, Int.not_le] at hd
            refine aw_skip ?_
            simp only [go_sem, ↓reduceIte, Nat.reduceEqDiff, reduceCtorEq, Nat.reduceAdd, Nat.reduceLT, Nat.reduceLeDiff, Nat.reduceBNe, Nat.reduceBEq, Int.reduceToNat]
            refine aw_region (EF := EF0) hG (by rw [hN]; exact tr15_9) ?_
            simp only [a15_9, go_sem, ↓reduceIte, Nat.reduceEqDiff, reduceCtorEq, Nat.reduceAdd, Nat.reduceLT, Nat.reduceLeDiff, Nat.reduceBNe, Nat.reduceBEq, Int.reduceToNat, inI]
            (repeat' apply And.intro) <;> (try first | omega)
            refine hK2 (k + 1) _ ?_ ?_ ?_
            · exact ⟨hc2, take_all hc2 hp2 hd⟩
            · omega
            · refine Le.mk _ _ ?_ ?_ rfl <;> simp only [go_sem, ↓reduceIte, Nat.reduceEqDiff, reduceCtorEq, Nat.reduceAdd, Nat.reduceLT, Nat.reduceLeDiff, Nat.reduceBNe, Nat.reduceBEq, Int.reduceToNat]
        · simp only [decide_eq_true_eq, decide_eq_false_iff_not, Bool.and_eq_true, Bool.or_eq_true, Bool.not_eq_true', Bool.not_eq_false', Bool.and_eq_false_iff, Bool.or_eq_false_iff, Int.ofNat_lt, Int.ofNat_le, Nat.not_lt, Nat.not_le, Int.not_lt, Int.not_le] at hc2
          refine aw_exit ?_
          simp only [go_sem, ↓reduceIte, Nat.reduceEqDiff, reduceCtorEq, Nat.reduceAdd, Nat.reduceLT, Nat.reduceLeDiff, Nat.reduceBNe, Nat.reduceBEq, Int.reduceToNat]
          refine aw_region (EF := EF0) hG (by rw [hN]; exact tr15_10) ?_
          simp only [a15_10, go_sem, ↓reduceIte, Nat.reduceEqDiff, reduceCtorEq, Nat.reduceAdd, Nat.reduceLT, Nat.reduceLeDiff, Nat.reduceBNe, Nat.reduceBEq, Int.reduceToNat, inI]
          (repeat' apply And.intro) <;> (try first | omega)
          refine hK (i + 1) _ ?_ ?_ ?_
          · subst hcl
            exact ⟨hc, take_all hc hp (noCls_end hc2 hp2)⟩
          · omega
          · refine Le.mk _ _ ?_ ?_ rfl <;> simp only [go_sem, ↓reduceIte, Nat.reduceEqDiff, reduceCtorEq, Nat.reduceAdd, Nat.reduceLT, Nat.reduceLeDiff, Nat.reduceBNe, Nat.reduceBEq, Int.reduceToNat]
    · simp only [decide_eq_true_eq, decide_eq_false_iff_not, Bool.and_eq_true, Bool.or_eq_true, Bool.not_eq_true', Bool.not_eq_false', Bool.and_eq_false_iff, Bool.or_eq_false_iff, Int.ofNat_lt, Int.ofNat_le, Nat.not_lt, Nat.not_le, Int.not_lt, Int.not_le] at hc
      refine aw_exit ?_
      simp only [go_sem, ↓reduceIte, Nat.reduceEqDiff, reduceCtorEq, Nat.reduceAdd, Nat.reduceLT, Nat.reduceLeDiff, Nat.reduceBNe, Nat.reduceBEq, Int.reduceToNat]
      refine aw_seq (aw_region (EF := EF0) hG (by rw [hN]; exact tr15_11) ?_)
      simp only [a15_11, go_sem, ↓reduceIte, Nat.reduceEqDiff, reduceCtorEq, Nat.reduceAdd, Nat.reduceLT, Nat.reduceLeDiff, Nat.reduceBNe, Nat.reduceBEq, Int.reduceToNat]
      refine aw_ret ?_
      show Q _ _
      refine hQ _ _ (.inl rfl) ?_ ?_ ?_ <;> simp only [outφ, outV, AR.res, go_sem, ↓reduceIte, Nat.reduceEqDiff, reduceCtorEq, Nat.reduceAdd, Nat.reduceLT, Nat.reduceLeDiff, Nat.reduceBNe, Nat.reduceBEq, Int.reduceToNat, fPlace]
      rw [place_none hc hp]
      rfl
set_option maxHeartbeats 1000000 in
theorem rplace_p : PureC Tryd.prog UT 16 (gOf aPlace fPlace) := by
  have hG := tNo_ok
  refine PureC.ofArgs aPlace_inj Tryd.func16 body16 nm16 res16 ?_
  rintro ⟨⟨q, l⟩, e⟩ hv
  refine ⟨by rw [nt16]; simp [aPlace], fun C hN Q hQ => ?_⟩
  rw [nt16] at hN
  unfold c16
  obtain ⟨_, hv, hy⟩ := (hv : Config.ok ⟨q, l⟩)
  dsimp only at hv hy
  refine aw_seq (aw_region (EF := EF0) hG (by rw [hN]; exact tr16_0) ?_)
  simp only [a16_0, go_sem, ↓reduceIte, Nat.reduceEqDiff, reduceCtorEq, Nat.reduceAdd, Nat.reduceLT, Nat.reduceLeDiff, Nat.reduceBNe, Nat.reduceBEq, Int.reduceToNat, aPlace, Config.enc]
  refine aw_seq ?_
  refine aw_seq (aw_region (EF := EF0) hG (by rw [hN]; exact tr16_1) ?_)
  simp only [a16_1, go_sem, ↓reduceIte, Nat.reduceEqDiff, reduceCtorEq, Nat.reduceAdd, Nat.reduceLT, Nat.reduceLeDiff, Nat.reduceBNe, Nat.reduceBEq, Int.reduceToNat]
  refine aw_block ?_
  refine aw_loop (α := Nat) (fun i => i ≤ l.length ∧ ∀ y ∈ l.take i, noCls e y) (fun i => ⟨mkE [(1, .str e), (2, .ptr 2 0), (7, .int .i64 i)], mkH [(2, .box 30 [.str q, .list (l.map Cabin.enc) false])]⟩) (fun i => l.length - i) 0 ⟨Nat.zero_le _, by simp⟩ ?_ ?_
  · refine Le.mk _ _ ?_ ?_ rfl <;> simp only [go_sem, ↓reduceIte, Nat.reduceEqDiff, reduceCtorEq, Nat.reduceAdd, Nat.reduceLT, Nat.reduceLeDiff, Nat.reduceBNe, Nat.reduceBEq, Int.reduceToNat]
  · rintro i ⟨hi, hp⟩ K hK
    refine aw_seq ?_
    refine aw_seq ?_
    refine aw_region (EF := EF0) hG (by rw [hN]; exact tr16_2) ?_
    simp only [a16_2, go_sem, ↓reduceIte, Nat.reduceEqDiff, reduceCtorEq, Nat.reduceAdd, Nat.reduceLT, Nat.reduceLeDiff, Nat.reduceBNe, Nat.reduceBEq, Int.reduceToNat]
    refine aw_cond (b := _) rfl (fun hc => ?_) (fun hc => ?_)
    · simp only [decide_eq_true_eq, decide_eq_false_iff_not, Bool.and_eq_true, Bool.or_eq_true, Bool.not_eq_true', Bool.not_eq_false', Bool.and_eq_false_iff, Bool.or_eq_false_iff, Int.ofNat_lt, Int.ofNat_le, Nat.not_lt, Nat.not_le, Int.not_lt, Int.not_le] at hc
      refine aw_skip ?_
      simp only [go_sem, ↓reduceIte, Nat.reduceEqDiff, reduceCtorEq, Nat.reduceAdd, Nat.reduceLT, Nat.reduceLeDiff, Nat.reduceBNe, Nat.reduceBEq, Int.reduceToNat]
      have hyi := (hy _ (List.getElem_mem hc)).2.2.2.1
      generalize hcl : l[i].cl = cl at hyi
      refine aw_seq ?_
      refine aw_block ?_
      refine aw_seq (aw_region (EF := EF0) hG (by rw [hN]; exact tr16_4) ?_)
      simp only [a16_4, go_sem, ↓reduceIte, Nat.reduceEqDiff, reduceCtorEq, Nat.reduceAdd, Nat.reduceLT, Nat.reduceLeDiff, Nat.reduceBNe, Nat.reduceBEq, Int.reduceToNat]
      refine aw_block ?_
      refine aw_loop (α := Nat) (fun k => k ≤ cl.length ∧ ∀ z ∈ cl.take k, z.code ≠ e) (fun k => ⟨mkE [(1, .str e), (2, .ptr 2 0), (7, .int .i64 i), (8, .int .i64 k)], mkH [(2, .box 30 [.str q, .list (l.map Cabin.enc) false])]⟩) (fun k => cl.length - k) 0 ⟨Nat.zero_le _, by simp⟩ ?_ ?_
      · refine Le.mk _ _ ?_ ?_ rfl <;> simp only [go_sem, ↓reduceIte, Nat.reduceEqDiff, reduceCtorEq, Nat.reduceAdd, Nat.reduceLT, Nat.reduceLeDiff, Nat.reduceBNe, Nat.reduceBEq, Int.reduceToNat]
      · rintro k ⟨hk, hp2⟩ K2 hK2
        refine aw_seq ?_
        refine aw_seq ?_
        refine aw_region (EF := EF0) hG (by rw [hN]; exact tr16_5) ?_
        simp only [a16_5, go_sem, ↓reduceIte, Nat.reduceEqDiff, reduceCtorEq, Nat.reduceAdd, Nat.reduceLT, Nat.reduceLeDiff, Nat.reduceBNe, Nat.reduceBEq, Int.reduceToNat, getD_map _ _ _ hc, hc, Cabin.enc, hcl]
        refine aw_cond (b := _) rfl (fun hc2 => ?_) (fun hc2 => ?_)
        · simp only [decide_eq_true_eq, decide_eq_false_iff_not, Bool.and_eq_true, Bool.or_eq_true, Bool.not_eq_true', Bool.not_eq_false', Bool.and_eq_false_iff, Bool.or_eq_false_iff, Int.ofNat_lt, Int.ofNat_le, Nat.not_lt, Nat.not_le, Int.not_lt, Int.not_le] at hc2
          refine aw_skip ?_
          simp only [go_sem, ↓reduceIte, Nat.reduceEqDiff, reduceCtorEq, Nat.reduceAdd, Nat.reduceLT, Nat.reduceLeDiff, Nat.reduceBNe, Nat.reduceBEq, Int.reduceToNat]
          refine aw_seq ?_
          refine aw_block ?_
          refine aw_seq ?_
          refine aw_region (EF := EF0) hG (by rw [hN]; exact tr16_7) ?_
          simp only [a16_7, go_sem, ↓reduceIte, Nat.reduceEqDiff, reduceCtorEq, Nat.reduceAdd, Nat.reduceLT, Nat.reduceLeDiff, Nat.reduceBNe, Nat.reduceBEq, Int.reduceToNat, getD_map _ _ _ hc, hc, Cabin.enc, hcl, getD_map _ _ _ hc2, hc2, Class.enc]
          refine aw_cond (b := _) rfl (fun hd => ?_) (fun hd => ?_)
          · simp only [decide_eq_true_eq, decide_eq_false_iff_not, Bool.and_eq_true, Bool.or_eq_true, Bool.not_eq_true', Bool.not_eq_false', Bool.and_eq_false_iff, Bool.or_eq_false_iff, Int.ofNat_lt, Int.ofNat_le, Nat.not_lt, Nat.not_le, Int.not_lt, Int.not_le] at hd
            refine aw_seq (aw_region (EF := EF0) hG (by rw [hN]; exact tr16_8) ?_)
            simp only [a16_8, go_sem, ↓reduceIte, Nat.reduceEqDiff, reduceCtorEq, Nat.reduceAdd, Nat.reduceLT, Nat.reduceLeDiff, Nat.reduceBNe, Nat.reduceBEq, Int.reduceToNat]
            refine aw_ret ?_
            show Q _ _
            refine hQ _ _ (.inl rfl) ?_ ?_ ?_ <;> simp only [outφ, outV, AR.res, go_sem, ↓reduceIte, Nat.reduceEqDiff, reduceCtorEq, Nat.reduceAdd, Nat.reduceLT, Nat.reduceLeDiff, Nat.reduceBNe, Nat.reduceBEq, Int.reduceToNat, fPlace]
            subst hcl
            rw [place_at hc hp hc2 hp2 hd]
            rfl
          · simp only [decide_eq_true_eq, decide_eq_false_iff_not, Bool.and_eq_true, Bool.or_eq_true, Bool.not_eq_true', Bool.not_eq_false', Bool.and_eq_false_iff, Bool.or_eq_false_iff, Int.ofNat_lt, Int.ofNat_le, Nat.not_lt, Nat.not_le, Int.not_lt, Int.not_le] at hd
            refine aw_skip ?_
            simp only [go_sem, ↓reduceIte, Nat.reduceEqDiff, reduceCtorEq, Nat.reduceAdd, Nat.reduceLT, Nat.reduceLeDiff, Nat.reduceBNe, Nat.reduceBEq, Int.reduceToNat]
            refine aw_region (EF := EF0) hG (by rw [hN]; exact tr16_6) ?_
            simp only [a16_6, go_sem, ↓reduceIte, Nat.reduceEqDiff, reduceCtorEq, Nat.reduceAdd, Nat.reduceLT, Nat.reduceLeDiff, Nat.reduceBNe, Nat.reduceBEq, Int.reduceToNat, inI]
            (repeat' apply And.intro) <;> (try first | omega)
            refine hK2 (k + 1) _ ?_ ?_ ?_
            · exact ⟨hc2, take_all hc2 hp2 hd⟩
            · omega
            · refine Le.mk _ _ ?_ ?_ rfl <;> simp only [go_sem, ↓reduceIte, Nat.reduceEqDiff, reduceCtorEq, Nat.reduceAdd, Nat.reduceLT, Nat.reduceLeDiff, Nat.reduceBNe, Nat.reduceBEq, Int.reduceToNat]
        · simp only [decide_eq_true_eq, decide_eq_false_iff_not, Bool.and_eq_true, Bool.or_eq_true, Bool.not_eq_true', Bool.not_eq_false', Bool.and_eq_false_iff, Bool.or_eq_false_iff, Int.ofNat_lt, Int.ofNat_le, Nat.not_lt, Nat.not_le, Int.not_lt, Int.not_le] at hc2
          refine aw_exit ?_
          simp only [go_sem, ↓reduceIte, Nat.reduceEqDiff, reduceCtorEq, Nat.reduceAdd, Nat.reduceLT, Nat.reduceLeDiff, Nat.reduceBNe, Nat.reduceBEq, Int.reduceToNat]
          refine aw_region (EF := EF0) hG (by rw [hN]; exact tr16_3) ?_
          simp only [a16_3, go_sem, ↓reduceIte, Nat.reduceEqDiff, reduceCtorEq, Nat.reduceAdd, Nat.reduceLT, Nat.reduceLeDiff, Nat.reduceBNe, Nat.reduceBEq, Int.reduceToNat, inI]
          (repeat' apply And.intro) <;> (try first | omega)
          refine hK (i + 1) _ ?_ ?_ ?_
          · subst hcl
            exact ⟨hc, take_all hc hp (noCls_end hc2 hp2)⟩
          · omega
          · refine Le.mk _ _ ?_ ?_ rfl <;> simp only [go_sem, ↓reduceIte, Nat.reduceEqDiff, reduceCtorEq, Nat.reduceAdd, Nat.reduceLT, Nat.reduceLeDiff, Nat.reduceBNe, Nat.reduceBEq, Int.reduceToNat]
    · simp only [decide_eq_true_eq, decide_eq_false_iff_not, Bool.and_eq_true, Bool.or_eq_true, Bool.not_eq_true', Bool.not_eq_false', Bool.and_eq_false_iff, Bool.or_eq_false_iff, Int.ofNat_lt, Int.ofNat_le, Nat.not_lt, Nat.not_le, Int.not_lt, Int.not_le] at hc
      refine aw_exit ?_
      simp only [go_sem, ↓reduceIte, Nat.reduceEqDiff, reduceCtorEq, Nat.reduceAdd, Nat.reduceLT, Nat.reduceLeDiff, Nat.reduceBNe, Nat.reduceBEq, Int.reduceToNat]
      refine aw_seq (aw_region (EF := EF0) hG (by rw [hN]; exact tr16_9) ?_)
      simp only [a16_9, go_sem, ↓reduceIte, Nat.reduceEqDiff, reduceCtorEq, Nat.reduceAdd, Nat.reduceLT, Nat.reduceLeDiff, Nat.reduceBNe, Nat.reduceBEq, Int.reduceToNat]
      refine aw_ret ?_
      show Q _ _
      refine hQ _ _ (.inl rfl) ?_ ?_ ?_ <;> simp only [outφ, outV, AR.res, go_sem, ↓reduceIte, Nat.reduceEqDiff, reduceCtorEq, Nat.reduceAdd, Nat.reduceLT, Nat.reduceLeDiff, Nat.reduceBNe, Nat.reduceBEq, Int.reduceToNat, fPlace]
      rw [place_none hc hp]
      rfl
end Go.Proofs.YtopafipomaiabaaDoor
