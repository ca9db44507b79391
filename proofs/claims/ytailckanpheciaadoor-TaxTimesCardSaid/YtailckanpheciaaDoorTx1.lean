/- Taxes: the forms of their codes. -/
import Derived.Test.YtailckanpheciaaDoorT5
import Derived.Test.YtailckanpheciaaDoorPl10
import Derived.Test.YtailckanpheciaaDoorT4
namespace Go.Proofs.YtailckanpheciaaDoor
open Go Go.RowKit
set_option linter.unusedSimpArgs false
set_option linter.unusedVariables false
set_option linter.deprecated false
structure Tax where
  code : List UInt8
  kind : Int
  country : List UInt8
  amount : Int
  scope : Int
  transit : Int
  free : List (List UInt8)
def Tax.enc (x : Tax) : List V := [.str x.code, .int .i64 x.kind, .str x.country, .int .i64 x.amount, .int .i64 x.scope, .int .i64 x.transit, .list (strs x.free) false]
theorem Tax.inj (a b : Tax) (h : a.enc = b.enc) : a = b := by
  obtain ⟨a_code, a_kind, a_country, a_amount, a_scope, a_transit, a_free⟩ := a
  obtain ⟨b_code, b_kind, b_country, b_amount, b_scope, b_transit, b_free⟩ := b
  simp only [Tax.enc, List.cons.injEq, V.str.injEq, V.int.injEq, V.bool.injEq, V.agg.injEq, V.list.injEq, and_true, true_and] at h
  obtain ⟨h0, h1, h2, h3, h4, h5, h6⟩ := h
  subst h0
  subst h1
  subst h2
  subst h3
  subst h4
  subst h5
  replace h6 := strs_inj h6
  subst h6
  rfl
def Tax.ok (x : Tax) : Prop := x.code.length ≤ 140737488355328 ∧ inI x.kind ∧ x.country.length ≤ 140737488355328 ∧ inI x.amount ∧ inI x.scope ∧ inI x.transit ∧ (x.free.length ≤ 140737488355328 ∧ ∀ z ∈ x.free, z.length ≤ 140737488355328)
def Tax.zero : Tax := ⟨[], 0, [], 0, 0, 0, []⟩
theorem Tax.rows (l : List Tax) : (∀ r ∈ l.map Tax.enc, r.length = 7) ↔ True := iff_true_intro fun r hr => by obtain ⟨x, _, rfl⟩ := List.mem_map.1 hr; rfl
theorem Tax.purs (l : List Tax) : (∀ r ∈ l.map Tax.enc, V.purs r = true) ↔ True := iff_true_intro fun r hr => by obtain ⟨x, _, rfl⟩ := List.mem_map.1 hr; rfl
attribute [go_sem] Tax.rows Tax.purs
theorem Tax.mapLen (l : List Tax) : (l.map Tax.enc).length = l.length := List.length_map _
structure Charge where
  code : List UInt8
  amount : Int
def Charge.enc (x : Charge) : List V := [.str x.code, .int .i64 x.amount]
theorem Charge.inj (a b : Charge) (h : a.enc = b.enc) : a = b := by
  obtain ⟨a_code, a_amount⟩ := a
  obtain ⟨b_code, b_amount⟩ := b
  simp only [Charge.enc, List.cons.injEq, V.str.injEq, V.int.injEq, V.bool.injEq, V.agg.injEq, V.list.injEq, and_true, true_and] at h
  obtain ⟨h0, h1⟩ := h
  subst h0
  subst h1
  rfl
def Charge.ok (x : Charge) : Prop := x.code.length ≤ 140737488355328 ∧ inI x.amount
def Charge.zero : Charge := ⟨[], 0⟩
theorem Charge.rows (l : List Charge) : (∀ r ∈ l.map Charge.enc, r.length = 2) ↔ True := iff_true_intro fun r hr => by obtain ⟨x, _, rfl⟩ := List.mem_map.1 hr; rfl
theorem Charge.purs (l : List Charge) : (∀ r ∈ l.map Charge.enc, V.purs r = true) ↔ True := iff_true_intro fun r hr => by obtain ⟨x, _, rfl⟩ := List.mem_map.1 hr; rfl
attribute [go_sem] Charge.rows Charge.purs
theorem Charge.mapLen (l : List Charge) : (l.map Charge.enc).length = l.length := List.length_map _
structure Seg where
  carrier : List UInt8
  number : Int
  day : Int
  from' : List UInt8
  to' : List UInt8
  dep : Int
  arr : Int
def Seg.enc (x : Seg) : List V := [.str x.carrier, .int .i64 x.number, .int .i64 x.day, .str x.from', .str x.to', .int .i64 x.dep, .int .i64 x.arr]
theorem Seg.inj (a b : Seg) (h : a.enc = b.enc) : a = b := by
  obtain ⟨a_carrier, a_number, a_day, a_from', a_to', a_dep, a_arr⟩ := a
  obtain ⟨b_carrier, b_number, b_day, b_from', b_to', b_dep, b_arr⟩ := b
  simp only [Seg.enc, List.cons.injEq, V.str.injEq, V.int.injEq, V.bool.injEq, V.agg.injEq, V.list.injEq, and_true, true_and] at h
  obtain ⟨h0, h1, h2, h3, h4, h5, h6⟩ := h
  subst h0
  subst h1
  subst h2
  subst h3
  subst h4
  subst h5
  subst h6
  rfl
def Seg.ok (x : Seg) : Prop := x.carrier.length ≤ 140737488355328 ∧ inI x.number ∧ inI x.day ∧ x.from'.length ≤ 140737488355328 ∧ x.to'.length ≤ 140737488355328 ∧ inI x.dep ∧ inI x.arr
def Seg.zero : Seg := ⟨[], 0, 0, [], [], 0, 0⟩
theorem Seg.rows (l : List Seg) : (∀ r ∈ l.map Seg.enc, r.length = 7) ↔ True := iff_true_intro fun r hr => by obtain ⟨x, _, rfl⟩ := List.mem_map.1 hr; rfl
theorem Seg.purs (l : List Seg) : (∀ r ∈ l.map Seg.enc, V.purs r = true) ↔ True := iff_true_intro fun r hr => by obtain ⟨x, _, rfl⟩ := List.mem_map.1 hr; rfl
attribute [go_sem] Seg.rows Seg.purs
theorem Seg.mapLen (l : List Seg) : (l.map Seg.enc).length = l.length := List.length_map _
theorem fCode_eq (s : List UInt8) (a b : Int) : gCode [.str s, .int .i64 a, .int .i64 b] = (s.length ≤ 140737488355328, .bool (codeB s a b)) := rfl
def free3 (s : List UInt8) : Bool := !codeB s 3 3
def fFree3 (s : List UInt8) : Prop × V := (s.length ≤ 140737488355328, .bool (free3 s))
theorem fFree3_eq (s : List UInt8) : gOf aStr fFree3 [.str s] = (s.length ≤ 140737488355328, .bool (free3 s)) := gOf_eq aStr_inj s
noncomputable def tF3 : Tab
  | 23 => gCode
  | _ => gNo
theorem tF3_ok : ∀ f, PureC Tryd.prog UT f (tF3 f) := fun f => by
  unfold tF3
  split
  · exact code_p
  · exact PureC.no
theorem free3_p : PureC Tryd.prog UT 26 (gOf aStr fFree3) := by
  have hG := tF3_ok
  refine PureC.ofArgs aStr_inj Tryd.func26 body26 nm26 res26 ?_
  rintro s hv
  refine ⟨by rw [nt26]; simp [aStr], fun C hN Q hQ => ?_⟩
  rw [nt26] at hN
  unfold c26
  replace hv : s.length ≤ 140737488355328 := hv
  refine aw_seq (aw_region (EF := EF0) hG (by rw [hN]; exact tr26_0) ?_)
  simp only [a26_0, go_sem, ↓reduceIte, Nat.reduceEqDiff, reduceCtorEq, Nat.reduceAdd, Nat.reduceLT, Nat.reduceLeDiff, Nat.reduceBNe, Nat.reduceBEq, Int.reduceToNat, aStr, tF3, fCode_eq]
  refine aw_seq (aw_region (EF := EF0) hG (by rw [hN]; exact tr26_1) ?_)
  simp only [a26_1, go_sem, ↓reduceIte, Nat.reduceEqDiff, reduceCtorEq, Nat.reduceAdd, Nat.reduceLT, Nat.reduceLeDiff, Nat.reduceBNe, Nat.reduceBEq, Int.reduceToNat, hv, tF3, fCode_eq]
  (repeat' apply And.intro) <;> (try first | omega | (intros; (repeat' apply And.intro) <;> first | assumption | omega | (simp_all; done)))
  refine aw_ret ?_
  show Q _ _
  refine hQ _ _ (.inl rfl) ?_ ?_ ?_ <;> simp only [outφ, outV, AR.res, go_sem, ↓reduceIte, Nat.reduceEqDiff, reduceCtorEq, Nat.reduceAdd, Nat.reduceLT, Nat.reduceLeDiff, Nat.reduceBNe, Nat.reduceBEq, Int.reduceToNat, fFree3, free3]
/-- The first place with a property. -/
def idxOf (o : Option Nat) : Int := match o with | some k => k | none => -1
theorem idxOf_some (k : Nat) : idxOf (some k) = k := rfl
theorem findIdx_at {α : Type} {p : α → Bool} {l : List α} {i : Nat} (hi : i < l.length) (hp : ∀ x ∈ l.take i, p x = false) (h : p l[i] = true) : l.findIdx? p = some i := by
  rw [List.findIdx?_eq_some_iff_getElem]
  exact ⟨hi, h, fun j hj => by rw [hp _ (by rw [List.mem_take_iff_getElem]; exact ⟨j, by omega, rfl⟩)]; decide⟩
theorem findIdx_no {α : Type} {p : α → Bool} {l : List α} {i : Nat} (hi : l.length ≤ i) (hp : ∀ x ∈ l.take i, p x = false) : l.findIdx? p = none := by
  rw [List.take_of_length_le hi] at hp
  exact List.findIdx?_eq_none_iff.2 hp
theorem idx_any {α : Type} (p : α → Bool) (l : List α) : decide (0 ≤ idxOf (l.findIdx? p)) = l.any p := by
  cases h : l.findIdx? p with
  | none => rw [List.findIdx?_eq_none_iff] at h; rw [show l.any p = false from List.any_eq_false.2 fun x hx => by rw [h x hx]; decide]; rfl
  | some k =>
    obtain ⟨hk, h1, _⟩ := List.findIdx?_eq_some_iff_getElem.1 h
    rw [show l.any p = true from List.any_eq_true.2 ⟨_, List.getElem_mem hk, h1⟩, idxOf_some]
    simp
def LenS (l : List (List UInt8)) : Prop := l.length ≤ 140737488355328 ∧ ∀ s ∈ l, s.length ≤ 140737488355328
def aCF (l : List (List UInt8)) : List V := [.list (strs l) false, .fn 26 []]
theorem aCF_inj (a b : List (List UInt8)) (h : aCF a = aCF b) : a = b := by
  simp only [aCF, List.cons.injEq, V.list.injEq, and_true] at h
  exact strs_inj h
def fIF (l : List (List UInt8)) : Prop × V := (LenS l, .int .i64 (idxOf (l.findIdx? free3)))
def fCF (l : List (List UInt8)) : Prop × V := (LenS l, .bool (l.any free3))
theorem fIF_eq (l) : gOf aCF fIF [.list (strs l) false, .fn 26 []] = (LenS l, .int .i64 (idxOf (l.findIdx? free3))) := gOf_eq aCF_inj l
theorem fCF_eq (l) : gOf aCF fCF [.list (strs l) false, .fn 26 []] = (LenS l, .bool (l.any free3)) := gOf_eq aCF_inj l
noncomputable def tIF : Tab
  | 26 => (gOf aStr fFree3)
  | _ => gNo
theorem tIF_ok : ∀ f, PureC Tryd.prog UT f (tIF f) := fun f => by
  unfold tIF
  split
  · exact free3_p
  · exact PureC.no
theorem indexF_p : PureC Tryd.prog UT 46 (gOf aCF fIF) := by
  have hG := tIF_ok
  refine PureC.ofArgs aCF_inj Tryd.func46 body46 nm46 res46 ?_
  rintro l hv
  refine ⟨by rw [nt46]; simp [aCF], fun C hN Q hQ => ?_⟩
  rw [nt46] at hN
  unfold c46
  obtain ⟨hl, hs⟩ : LenS l := hv
  refine aw_seq (aw_region (EF := EF0) hG (by rw [hN]; exact tr46_0) ?_)
  simp only [a46_0, go_sem, ↓reduceIte, Nat.reduceEqDiff, reduceCtorEq, Nat.reduceAdd, Nat.reduceLT, Nat.reduceLeDiff, Nat.reduceBNe, Nat.reduceBEq, Int.reduceToNat, aCF, tIF, fFree3_eq]
  refine aw_seq ?_
  refine aw_seq (aw_region (EF := EF0) hG (by rw [hN]; exact tr46_1) ?_)
  simp only [a46_1, go_sem, ↓reduceIte, Nat.reduceEqDiff, reduceCtorEq, Nat.reduceAdd, Nat.reduceLT, Nat.reduceLeDiff, Nat.reduceBNe, Nat.reduceBEq, Int.reduceToNat, tIF, fFree3_eq]
  refine aw_block ?_
  refine aw_loop (α := Nat) (fun i => (i ≤ l.length) ∧ (∀ s ∈ l.take i, free3 s = false)) (fun i => ⟨mkE [(0, V.list (strs l) false), (1, V.fn 26 []), (7, V.int IntKind.i64 ↑l.length), (8, .int .i64 i)], mkH []⟩) (fun i => l.length - i) 0 (by simp) ?_ ?_
  · refine Le.mk _ _ ?_ ?_ rfl <;> simp only [go_sem, ↓reduceIte, Nat.reduceEqDiff, reduceCtorEq, Nat.reduceAdd, Nat.reduceLT, Nat.reduceLeDiff, Nat.reduceBNe, Nat.reduceBEq, Int.reduceToNat] <;> (repeat' apply And.intro) <;> (try first | rfl | exact wk_frzb rfl rfl rfl | exact wk_fn rfl | exact .nilo _ _ _ rfl rfl)
  · rintro i ⟨hi, hp⟩ KL0 hKL0
    try dsimp only at *
    refine aw_seq (aw_region (EF := EF0) hG (by rw [hN]; exact tr46_2) ?_)
    simp only [a46_2, go_sem, ↓reduceIte, Nat.reduceEqDiff, reduceCtorEq, Nat.reduceAdd, Nat.reduceLT, Nat.reduceLeDiff, Nat.reduceBNe, Nat.reduceBEq, Int.reduceToNat, tIF, fFree3_eq]
    refine aw_seq ?_
    refine aw_cond (b := _) rfl (fun hc2 => ?_) (fun hc2 => ?_)
    · simp only [decide_eq_true_eq, decide_eq_false_iff_not, Bool.and_eq_true, Bool.or_eq_true, Bool.not_eq_true', Bool.not_eq_false', Bool.and_eq_false_iff, Bool.or_eq_false_iff, Int.ofNat_lt, Int.ofNat_le, Nat.not_lt, Nat.not_le, Int.not_lt, Int.not_le] at hc2
      refine aw_skip ?_
      try simp only [go_sem, ↓reduceIte, Nat.reduceEqDiff, reduceCtorEq, Nat.reduceAdd, Nat.reduceLT, Nat.reduceLeDiff, Nat.reduceBNe, Nat.reduceBEq, Int.reduceToNat]
      refine aw_seq ?_
      refine aw_block ?_
      refine aw_seq (aw_region (EF := EF0) hG (by rw [hN]; exact tr46_3) ?_)
      simp only [a46_3, go_sem, ↓reduceIte, Nat.reduceEqDiff, reduceCtorEq, Nat.reduceAdd, Nat.reduceLT, Nat.reduceLeDiff, Nat.reduceBNe, Nat.reduceBEq, Int.reduceToNat, tIF, fFree3_eq]
      have hsi := hs _ (List.getElem_mem hc2)
      refine aw_seq (aw_region (EF := EF0) hG (by rw [hN]; exact tr46_4) ?_)
      simp only [a46_4, go_sem, ↓reduceIte, Nat.reduceEqDiff, reduceCtorEq, Nat.reduceAdd, Nat.reduceLT, Nat.reduceLeDiff, Nat.reduceBNe, Nat.reduceBEq, Int.reduceToNat, strs_getD _ _ _ hc2, hc2, hsi, tIF, fFree3_eq]
      (repeat' apply And.intro) <;> (try first | omega | (intros; (repeat' apply And.intro) <;> first | assumption | omega | (simp_all; done)))
      refine aw_cond (b := _) rfl (fun hb => ?_) (fun hb => ?_)
      · skip
        refine aw_seq (aw_region (EF := EF0) hG (by rw [hN]; exact tr46_5) ?_)
        simp only [a46_5, go_sem, ↓reduceIte, Nat.reduceEqDiff, reduceCtorEq, Nat.reduceAdd, Nat.reduceLT, Nat.reduceLeDiff, Nat.reduceBNe, Nat.reduceBEq, Int.reduceToNat, tIF, fFree3_eq]
        refine aw_ret ?_
        show Q _ _
        refine hQ _ _ (.inl rfl) ?_ ?_ ?_ <;> simp only [outφ, outV, AR.res, go_sem, ↓reduceIte, Nat.reduceEqDiff, reduceCtorEq, Nat.reduceAdd, Nat.reduceLT, Nat.reduceLeDiff, Nat.reduceBNe, Nat.reduceBEq, Int.reduceToNat, fIF]
        rw [findIdx_at hc2 hp hb]; rfl
      · skip
        refine aw_skip ?_
        try simp only [go_sem, ↓reduceIte, Nat.reduceEqDiff, reduceCtorEq, Nat.reduceAdd, Nat.reduceLT, Nat.reduceLeDiff, Nat.reduceBNe, Nat.reduceBEq, Int.reduceToNat]
        refine aw_region (EF := EF0) hG (by rw [hN]; exact tr46_6) ?_
        simp only [a46_6, go_sem, ↓reduceIte, Nat.reduceEqDiff, reduceCtorEq, Nat.reduceAdd, Nat.reduceLT, Nat.reduceLeDiff, Nat.reduceBNe, Nat.reduceBEq, Int.reduceToNat, inI, tIF, fFree3_eq]
        (repeat' apply And.intro) <;> (try first | omega | (intros; (repeat' apply And.intro) <;> first | assumption | omega | (simp_all; done)))
        refine hKL0 (i + 1) _ ?_ ?_ ?_
        · (try dsimp only); exact ⟨hc2, take_all hc2 hp hb⟩
        · (try dsimp only); omega
        · refine Le.mk _ _ ?_ ?_ rfl <;> simp only [go_sem, ↓reduceIte, Nat.reduceEqDiff, reduceCtorEq, Nat.reduceAdd, Nat.reduceLT, Nat.reduceLeDiff, Nat.reduceBNe, Nat.reduceBEq, Int.reduceToNat] <;> (repeat' apply And.intro) <;> (try first | rfl | exact wk_frzb rfl rfl rfl | exact wk_fn rfl | exact .nilo _ _ _ rfl rfl)
    · simp only [decide_eq_true_eq, decide_eq_false_iff_not, Bool.and_eq_true, Bool.or_eq_true, Bool.not_eq_true', Bool.not_eq_false', Bool.and_eq_false_iff, Bool.or_eq_false_iff, Int.ofNat_lt, Int.ofNat_le, Nat.not_lt, Nat.not_le, Int.not_lt, Int.not_le] at hc2
      refine aw_exit ?_
      simp only [go_sem, ↓reduceIte, Nat.reduceEqDiff, reduceCtorEq, Nat.reduceAdd, Nat.reduceLT, Nat.reduceLeDiff, Nat.reduceBNe, Nat.reduceBEq, Int.reduceToNat]
      refine aw_seq (aw_region (EF := EF0) hG (by rw [hN]; exact tr46_7) ?_)
      simp only [a46_7, go_sem, ↓reduceIte, Nat.reduceEqDiff, reduceCtorEq, Nat.reduceAdd, Nat.reduceLT, Nat.reduceLeDiff, Nat.reduceBNe, Nat.reduceBEq, Int.reduceToNat, tIF, fFree3_eq]
      refine aw_ret ?_
      show Q _ _
      refine hQ _ _ (.inl rfl) ?_ ?_ ?_ <;> simp only [outφ, outV, AR.res, go_sem, ↓reduceIte, Nat.reduceEqDiff, reduceCtorEq, Nat.reduceAdd, Nat.reduceLT, Nat.reduceLeDiff, Nat.reduceBNe, Nat.reduceBEq, Int.reduceToNat, fIF]
      rw [findIdx_no hc2 hp]; rfl
noncomputable def tCF : Tab
  | 46 => (gOf aCF fIF)
  | _ => gNo
theorem tCF_ok : ∀ f, PureC Tryd.prog UT f (tCF f) := fun f => by
  unfold tCF
  split
  · exact indexF_p
  · exact PureC.no
theorem containsF_p : PureC Tryd.prog UT 25 (gOf aCF fCF) := by
  have hG := tCF_ok
  refine PureC.ofArgs aCF_inj Tryd.func25 body25 nm25 res25 ?_
  rintro l hv
  refine ⟨by rw [nt25]; simp [aCF], fun C hN Q hQ => ?_⟩
  rw [nt25] at hN
  unfold c25
  replace hv : LenS l := hv
  refine aw_seq (aw_region (EF := EF0) hG (by rw [hN]; exact tr25_0) ?_)
  simp only [a25_0, go_sem, ↓reduceIte, Nat.reduceEqDiff, reduceCtorEq, Nat.reduceAdd, Nat.reduceLT, Nat.reduceLeDiff, Nat.reduceBNe, Nat.reduceBEq, Int.reduceToNat, aCF]
  refine aw_seq (aw_region (EF := EF0) hG (by rw [hN]; exact tr25_1) ?_)
  simp only [a25_1, go_sem, ↓reduceIte, Nat.reduceEqDiff, reduceCtorEq, Nat.reduceAdd, Nat.reduceLT, Nat.reduceLeDiff, Nat.reduceBNe, Nat.reduceBEq, Int.reduceToNat, tCF, fIF_eq, hv]
  (repeat' apply And.intro) <;> (try first | omega | (intros; (repeat' apply And.intro) <;> first | assumption | omega | (simp_all; done)))
  refine aw_ret ?_
  show Q _ _
  refine hQ _ _ (.inl rfl) ?_ ?_ ?_ <;> simp only [outφ, outV, AR.res, go_sem, ↓reduceIte, Nat.reduceEqDiff, reduceCtorEq, Nat.reduceAdd, Nat.reduceLT, Nat.reduceLeDiff, Nat.reduceBNe, Nat.reduceBEq, Int.reduceToNat, fCF]
  rw [idx_any]
def aIdx (x : List (List UInt8) × List UInt8) : List V := [.list (strs x.1) false, .str x.2]
theorem aIdx_inj (a b : List (List UInt8) × List UInt8) (h : aIdx a = aIdx b) : a = b := by
  obtain ⟨a_l, a_s⟩ := a
  obtain ⟨b_l, b_s⟩ := b
  simp only [aIdx, List.cons.injEq, V.str.injEq, V.int.injEq, V.bool.injEq, V.agg.injEq, V.list.injEq, and_true, true_and] at h
  obtain ⟨h0, h1⟩ := h
  replace h0 := strs_inj h0
  subst h0
  subst h1
  rfl
def isS (s : List UInt8) (t : List UInt8) : Bool := decide (s = t)
def fIdx (x : List (List UInt8) × List UInt8) : Prop × V := (x.1.length ≤ 140737488355328, .int .i64 (idxOf (x.1.findIdx? (isS x.2))))
def fCont (x : List (List UInt8) × List UInt8) : Prop × V := (x.1.length ≤ 140737488355328, .bool (x.1.any (isS x.2)))
theorem fIdx_eq (l s) : gOf aIdx fIdx [.list (strs l) false, .str s] = (l.length ≤ 140737488355328, .int .i64 (idxOf (l.findIdx? (isS s)))) := gOf_eq aIdx_inj (l, s)
theorem fCont_eq (l s) : gOf aIdx fCont [.list (strs l) false, .str s] = (l.length ≤ 140737488355328, .bool (l.any (isS s))) := gOf_eq aIdx_inj (l, s)
theorem index_p : PureC Tryd.prog UT 52 (gOf aIdx fIdx) := by
  have hG := tNo_ok
  refine PureC.ofArgs aIdx_inj Tryd.func52 body52 nm52 res52 ?_
  rintro ⟨l, s⟩ hv
  refine ⟨by rw [nt52]; simp [aIdx], fun C hN Q hQ => ?_⟩
  rw [nt52] at hN
  unfold c52
  replace hv : l.length ≤ 140737488355328 := hv
  refine aw_seq (aw_region (EF := EF0) hG (by rw [hN]; exact tr52_0) ?_)
  simp only [a52_0, go_sem, ↓reduceIte, Nat.reduceEqDiff, reduceCtorEq, Nat.reduceAdd, Nat.reduceLT, Nat.reduceLeDiff, Nat.reduceBNe, Nat.reduceBEq, Int.reduceToNat, aIdx]
  refine aw_seq ?_
  refine aw_seq (aw_region (EF := EF0) hG (by rw [hN]; exact tr52_1) ?_)
  simp only [a52_1, go_sem, ↓reduceIte, Nat.reduceEqDiff, reduceCtorEq, Nat.reduceAdd, Nat.reduceLT, Nat.reduceLeDiff, Nat.reduceBNe, Nat.reduceBEq, Int.reduceToNat]
  refine aw_block ?_
  refine aw_loop (α := Nat) (fun i => (i ≤ l.length) ∧ (∀ t ∈ l.take i, isS s t = false)) (fun i => ⟨mkE [(0, V.list (strs l) false), (1, V.str s), (7, V.int IntKind.i64 ↑l.length), (8, .int .i64 i)], mkH []⟩) (fun i => l.length - i) 0 (by simp) ?_ ?_
  · refine Le.mk _ _ ?_ ?_ rfl <;> simp only [go_sem, ↓reduceIte, Nat.reduceEqDiff, reduceCtorEq, Nat.reduceAdd, Nat.reduceLT, Nat.reduceLeDiff, Nat.reduceBNe, Nat.reduceBEq, Int.reduceToNat] <;> (repeat' apply And.intro) <;> (try first | rfl | exact wk_frzb rfl rfl rfl | exact wk_fn rfl | exact .nilo _ _ _ rfl rfl)
  · rintro i ⟨hi, hp⟩ KL0 hKL0
    try dsimp only at *
    refine aw_seq (aw_region (EF := EF0) hG (by rw [hN]; exact tr52_2) ?_)
    simp only [a52_2, go_sem, ↓reduceIte, Nat.reduceEqDiff, reduceCtorEq, Nat.reduceAdd, Nat.reduceLT, Nat.reduceLeDiff, Nat.reduceBNe, Nat.reduceBEq, Int.reduceToNat]
    refine aw_seq ?_
    refine aw_cond (b := _) rfl (fun hc2 => ?_) (fun hc2 => ?_)
    · simp only [decide_eq_true_eq, decide_eq_false_iff_not, Bool.and_eq_true, Bool.or_eq_true, Bool.not_eq_true', Bool.not_eq_false', Bool.and_eq_false_iff, Bool.or_eq_false_iff, Int.ofNat_lt, Int.ofNat_le, Nat.not_lt, Nat.not_le, Int.not_lt, Int.not_le] at hc2
      refine aw_skip ?_
      try simp only [go_sem, ↓reduceIte, Nat.reduceEqDiff, reduceCtorEq, Nat.reduceAdd, Nat.reduceLT, Nat.reduceLeDiff, Nat.reduceBNe, Nat.reduceBEq, Int.reduceToNat]
      refine aw_seq ?_
      refine aw_block ?_
      refine aw_seq (aw_region (EF := EF0) hG (by rw [hN]; exact tr52_3) ?_)
      simp only [a52_3, go_sem, ↓reduceIte, Nat.reduceEqDiff, reduceCtorEq, Nat.reduceAdd, Nat.reduceLT, Nat.reduceLeDiff, Nat.reduceBNe, Nat.reduceBEq, Int.reduceToNat]
      refine aw_seq (aw_region (EF := EF0) hG (by rw [hN]; exact tr52_4) ?_)
      simp only [a52_4, go_sem, ↓reduceIte, Nat.reduceEqDiff, reduceCtorEq, Nat.reduceAdd, Nat.reduceLT, Nat.reduceLeDiff, Nat.reduceBNe, Nat.reduceBEq, Int.reduceToNat, strs_getD _ _ _ hc2, hc2]
      (repeat' apply And.intro) <;> (try first | omega | (intros; (repeat' apply And.intro) <;> first | assumption | omega | (simp_all; done)))
      refine aw_cond (b := _) rfl (fun hb => ?_) (fun hb => ?_)
      · skip
        refine aw_seq (aw_region (EF := EF0) hG (by rw [hN]; exact tr52_5) ?_)
        simp only [a52_5, go_sem, ↓reduceIte, Nat.reduceEqDiff, reduceCtorEq, Nat.reduceAdd, Nat.reduceLT, Nat.reduceLeDiff, Nat.reduceBNe, Nat.reduceBEq, Int.reduceToNat]
        refine aw_ret ?_
        show Q _ _
        refine hQ _ _ (.inl rfl) ?_ ?_ ?_ <;> simp only [outφ, outV, AR.res, go_sem, ↓reduceIte, Nat.reduceEqDiff, reduceCtorEq, Nat.reduceAdd, Nat.reduceLT, Nat.reduceLeDiff, Nat.reduceBNe, Nat.reduceBEq, Int.reduceToNat, fIdx]
        rw [findIdx_at hc2 hp hb]; rfl
      · skip
        refine aw_skip ?_
        try simp only [go_sem, ↓reduceIte, Nat.reduceEqDiff, reduceCtorEq, Nat.reduceAdd, Nat.reduceLT, Nat.reduceLeDiff, Nat.reduceBNe, Nat.reduceBEq, Int.reduceToNat]
        refine aw_region (EF := EF0) hG (by rw [hN]; exact tr52_6) ?_
        simp only [a52_6, go_sem, ↓reduceIte, Nat.reduceEqDiff, reduceCtorEq, Nat.reduceAdd, Nat.reduceLT, Nat.reduceLeDiff, Nat.reduceBNe, Nat.reduceBEq, Int.reduceToNat, inI]
        (repeat' apply And.intro) <;> (try first | omega | (intros; (repeat' apply And.intro) <;> first | assumption | omega | (simp_all; done)))
        refine hKL0 (i + 1) _ ?_ ?_ ?_
        · (try dsimp only); exact ⟨hc2, take_all hc2 hp hb⟩
        · (try dsimp only); omega
        · refine Le.mk _ _ ?_ ?_ rfl <;> simp only [go_sem, ↓reduceIte, Nat.reduceEqDiff, reduceCtorEq, Nat.reduceAdd, Nat.reduceLT, Nat.reduceLeDiff, Nat.reduceBNe, Nat.reduceBEq, Int.reduceToNat] <;> (repeat' apply And.intro) <;> (try first | rfl | exact wk_frzb rfl rfl rfl | exact wk_fn rfl | exact .nilo _ _ _ rfl rfl)
    · simp only [decide_eq_true_eq, decide_eq_false_iff_not, Bool.and_eq_true, Bool.or_eq_true, Bool.not_eq_true', Bool.not_eq_false', Bool.and_eq_false_iff, Bool.or_eq_false_iff, Int.ofNat_lt, Int.ofNat_le, Nat.not_lt, Nat.not_le, Int.not_lt, Int.not_le] at hc2
      refine aw_exit ?_
      simp only [go_sem, ↓reduceIte, Nat.reduceEqDiff, reduceCtorEq, Nat.reduceAdd, Nat.reduceLT, Nat.reduceLeDiff, Nat.reduceBNe, Nat.reduceBEq, Int.reduceToNat]
      refine aw_seq (aw_region (EF := EF0) hG (by rw [hN]; exact tr52_7) ?_)
      simp only [a52_7, go_sem, ↓reduceIte, Nat.reduceEqDiff, reduceCtorEq, Nat.reduceAdd, Nat.reduceLT, Nat.reduceLeDiff, Nat.reduceBNe, Nat.reduceBEq, Int.reduceToNat]
      refine aw_ret ?_
      show Q _ _
      refine hQ _ _ (.inl rfl) ?_ ?_ ?_ <;> simp only [outφ, outV, AR.res, go_sem, ↓reduceIte, Nat.reduceEqDiff, reduceCtorEq, Nat.reduceAdd, Nat.reduceLT, Nat.reduceLeDiff, Nat.reduceBNe, Nat.reduceBEq, Int.reduceToNat, fIdx]
      rw [findIdx_no hc2 hp]; rfl
noncomputable def tCont : Tab
  | 52 => (gOf aIdx fIdx)
  | _ => gNo
theorem tCont_ok : ∀ f, PureC Tryd.prog UT f (tCont f) := fun f => by
  unfold tCont
  split
  · exact index_p
  · exact PureC.no
theorem contains_p : PureC Tryd.prog UT 33 (gOf aIdx fCont) := by
  have hG := tCont_ok
  refine PureC.ofArgs aIdx_inj Tryd.func33 body33 nm33 res33 ?_
  rintro ⟨l, s⟩ hv
  refine ⟨by rw [nt33]; simp [aIdx], fun C hN Q hQ => ?_⟩
  rw [nt33] at hN
  unfold c33
  replace hv : l.length ≤ 140737488355328 := hv
  refine aw_seq (aw_region (EF := EF0) hG (by rw [hN]; exact tr33_0) ?_)
  simp only [a33_0, go_sem, ↓reduceIte, Nat.reduceEqDiff, reduceCtorEq, Nat.reduceAdd, Nat.reduceLT, Nat.reduceLeDiff, Nat.reduceBNe, Nat.reduceBEq, Int.reduceToNat, aIdx]
  refine aw_seq (aw_region (EF := EF0) hG (by rw [hN]; exact tr33_1) ?_)
  simp only [a33_1, go_sem, ↓reduceIte, Nat.reduceEqDiff, reduceCtorEq, Nat.reduceAdd, Nat.reduceLT, Nat.reduceLeDiff, Nat.reduceBNe, Nat.reduceBEq, Int.reduceToNat, tCont, fIdx_eq, hv]
  (repeat' apply And.intro) <;> (try first | omega | (intros; (repeat' apply And.intro) <;> first | assumption | omega | (simp_all; done)))
  refine aw_ret ?_
  show Q _ _
  refine hQ _ _ (.inl rfl) ?_ ?_ ?_ <;> simp only [outφ, outV, AR.res, go_sem, ↓reduceIte, Nat.reduceEqDiff, reduceCtorEq, Nat.reduceAdd, Nat.reduceLT, Nat.reduceLeDiff, Nat.reduceBNe, Nat.reduceBEq, Int.reduceToNat, fCont]
  rw [idx_any]
/-! The reference's named, most. -/
def namedB (x : Tax) : Bool := codeB x.code 2 2 && capsB 2 x.country && !x.free.any free3
def mostOf (k : Int) : Int := if k = 4 then 100000 else 1099511627776
def aTax (x : Tax) : List V := [.agg x.enc]
theorem aTax_inj (a b : Tax) (h : aTax a = aTax b) : a = b := by
  simp only [aTax, List.cons.injEq, V.str.injEq, V.int.injEq, V.bool.injEq, V.agg.injEq, V.list.injEq, and_true, true_and] at h
  have h0 := h
  replace h0 := Tax.inj _ _ h0
  subst h0
  rfl
def fNamed (x : Tax) : Prop × V := (x.ok, .bool (namedB x))
theorem fNamed_eq (a b c d e f g) : gOf aTax fNamed [.agg [.str a, .int .i64 b, .str c, .int .i64 d, .int .i64 e, .int .i64 f, .list (strs g) false]] = ((⟨a, b, c, d, e, f, g⟩ : Tax).ok, .bool (namedB ⟨a, b, c, d, e, f, g⟩)) := gOf_eq aTax_inj (⟨a, b, c, d, e, f, g⟩ : Tax)
noncomputable def trN : Tab
  | 48 => gCode
  | 49 => (gOf aStr (fCaps 2))
  | _ => gNo
theorem trN_ok : ∀ f, PureC Tryd.prog UT f (trN f) := fun f => by
  unfold trN
  split
  · exact rcode_p
  · exact rtcountry_p
  · exact PureC.no
theorem rnamed_p : PureC Tryd.prog UT 28 (gOf aTax fNamed) := by
  have hG := trN_ok
  refine PureC.ofArgs aTax_inj Tryd.func28 body28 nm28 res28 ?_
  rintro ⟨a, b, c, d, e, f, g⟩ hv
  refine ⟨by rw [nt28]; simp [aTax], fun C hN Q hQ => ?_⟩
  rw [nt28] at hN
  unfold c28
  obtain ⟨h1, h2, h3, h4, h5, h6, h7, h8⟩ : (⟨a, b, c, d, e, f, g⟩ : Tax).ok := hv
  dsimp only at h1 h3 h7 h8
  refine aw_seq (aw_region (EF := EF0) hG (by rw [hN]; exact tr28_0) ?_)
  simp only [a28_0, go_sem, ↓reduceIte, Nat.reduceEqDiff, reduceCtorEq, Nat.reduceAdd, Nat.reduceLT, Nat.reduceLeDiff, Nat.reduceBNe, Nat.reduceBEq, Int.reduceToNat, aTax, Tax.enc, trN, fCode_eq, fCaps_eq]
  refine aw_seq ?_
  refine aw_seq (aw_region (EF := EF0) hG (by rw [hN]; exact tr28_1) ?_)
  simp only [a28_1, go_sem, ↓reduceIte, Nat.reduceEqDiff, reduceCtorEq, Nat.reduceAdd, Nat.reduceLT, Nat.reduceLeDiff, Nat.reduceBNe, Nat.reduceBEq, Int.reduceToNat, h1, h3, trN, fCode_eq, fCaps_eq]
  (repeat' apply And.intro) <;> (try first | omega | (intros; (repeat' apply And.intro) <;> first | assumption | omega | (simp_all; done)))
  refine aw_cond (b := _) rfl (fun hb1 => ?_) (fun hb1 => ?_)
  · skip
    refine aw_seq (aw_region (EF := EF0) hG (by rw [hN]; exact tr28_2) ?_)
    simp only [a28_2, go_sem, ↓reduceIte, Nat.reduceEqDiff, reduceCtorEq, Nat.reduceAdd, Nat.reduceLT, Nat.reduceLeDiff, Nat.reduceBNe, Nat.reduceBEq, Int.reduceToNat, trN, fCode_eq, fCaps_eq]
    refine aw_ret ?_
    show Q _ _
    refine hQ _ _ (.inl rfl) ?_ ?_ ?_ <;> simp only [outφ, outV, AR.res, go_sem, ↓reduceIte, Nat.reduceEqDiff, reduceCtorEq, Nat.reduceAdd, Nat.reduceLT, Nat.reduceLeDiff, Nat.reduceBNe, Nat.reduceBEq, Int.reduceToNat, fNamed]
    unfold namedB; dsimp only; rw [show (codeB a 2 2 && capsB 2 c) = false by revert hb1; cases codeB a 2 2 <;> cases capsB 2 c <;> simp]; rfl
  · skip
    refine aw_skip ?_
    try simp only [go_sem, ↓reduceIte, Nat.reduceEqDiff, reduceCtorEq, Nat.reduceAdd, Nat.reduceLT, Nat.reduceLeDiff, Nat.reduceBNe, Nat.reduceBEq, Int.reduceToNat]
    refine aw_seq ?_
    have hcc : (codeB a 2 2 && capsB 2 c) = true := by revert hb1; cases codeB a 2 2 <;> cases capsB 2 c <;> simp
    refine aw_seq (aw_region (EF := EF0) hG (by rw [hN]; exact tr28_3) ?_)
    simp only [a28_3, go_sem, ↓reduceIte, Nat.reduceEqDiff, reduceCtorEq, Nat.reduceAdd, Nat.reduceLT, Nat.reduceLeDiff, Nat.reduceBNe, Nat.reduceBEq, Int.reduceToNat, trN, fCode_eq, fCaps_eq]
    refine aw_block ?_
    refine aw_loop (α := Nat) (fun i => (i ≤ g.length) ∧ (∀ s ∈ g.take i, free3 s = false)) (fun i => ⟨mkE [(1, V.ptr 1 0), (3, .int .i64 i)], mkH [(1, Ob.box 34 [V.str a, V.int IntKind.i64 b, V.str c, V.int IntKind.i64 d, V.int IntKind.i64 e, V.int IntKind.i64 f, V.list (strs g) false])]⟩) (fun i => g.length - i) 0 (by simp) ?_ ?_
    · refine Le.mk _ _ ?_ ?_ rfl <;> simp only [go_sem, ↓reduceIte, Nat.reduceEqDiff, reduceCtorEq, Nat.reduceAdd, Nat.reduceLT, Nat.reduceLeDiff, Nat.reduceBNe, Nat.reduceBEq, Int.reduceToNat] <;> (repeat' apply And.intro) <;> (try first | rfl | exact wk_frzb rfl rfl rfl | exact wk_fn rfl | exact .nilo _ _ _ rfl rfl)
    · rintro i ⟨hi, hp⟩ KL0 hKL0
      try dsimp only at *
      refine aw_seq ?_
      refine aw_seq (aw_region (EF := EF0) hG (by rw [hN]; exact tr28_4) ?_)
      simp only [a28_4, go_sem, ↓reduceIte, Nat.reduceEqDiff, reduceCtorEq, Nat.reduceAdd, Nat.reduceLT, Nat.reduceLeDiff, Nat.reduceBNe, Nat.reduceBEq, Int.reduceToNat, trN, fCode_eq, fCaps_eq]
      refine aw_cond (b := _) rfl (fun hc4 => ?_) (fun hc4 => ?_)
      · simp only [decide_eq_true_eq, decide_eq_false_iff_not, Bool.and_eq_true, Bool.or_eq_true, Bool.not_eq_true', Bool.not_eq_false', Bool.and_eq_false_iff, Bool.or_eq_false_iff, Int.ofNat_lt, Int.ofNat_le, Nat.not_lt, Nat.not_le, Int.not_lt, Int.not_le] at hc4
        refine aw_skip ?_
        try simp only [go_sem, ↓reduceIte, Nat.reduceEqDiff, reduceCtorEq, Nat.reduceAdd, Nat.reduceLT, Nat.reduceLeDiff, Nat.reduceBNe, Nat.reduceBEq, Int.reduceToNat]
        refine aw_seq ?_
        refine aw_block ?_
        have hsi := h8 _ (List.getElem_mem hc4)
        refine aw_seq (aw_region (EF := EF0) hG (by rw [hN]; exact tr28_6) ?_)
        simp only [a28_6, go_sem, ↓reduceIte, Nat.reduceEqDiff, reduceCtorEq, Nat.reduceAdd, Nat.reduceLT, Nat.reduceLeDiff, Nat.reduceBNe, Nat.reduceBEq, Int.reduceToNat, strs_getD _ _ _ hc4, hc4, hsi, trN, fCode_eq, fCaps_eq]
        (repeat' apply And.intro) <;> (try first | omega | (intros; (repeat' apply And.intro) <;> first | assumption | omega | (simp_all; done)))
        refine aw_cond (b := _) rfl (fun hb6 => ?_) (fun hb6 => ?_)
        · skip
          refine aw_seq (aw_region (EF := EF0) hG (by rw [hN]; exact tr28_7) ?_)
          simp only [a28_7, go_sem, ↓reduceIte, Nat.reduceEqDiff, reduceCtorEq, Nat.reduceAdd, Nat.reduceLT, Nat.reduceLeDiff, Nat.reduceBNe, Nat.reduceBEq, Int.reduceToNat, trN, fCode_eq, fCaps_eq]
          refine aw_ret ?_
          show Q _ _
          refine hQ _ _ (.inl rfl) ?_ ?_ ?_ <;> simp only [outφ, outV, AR.res, go_sem, ↓reduceIte, Nat.reduceEqDiff, reduceCtorEq, Nat.reduceAdd, Nat.reduceLT, Nat.reduceLeDiff, Nat.reduceBNe, Nat.reduceBEq, Int.reduceToNat, fNamed]
          unfold namedB; dsimp only; rw [hcc, any_at (p := free3) hc4 hb6]; rfl
        · skip
          refine aw_skip ?_
          try simp only [go_sem, ↓reduceIte, Nat.reduceEqDiff, reduceCtorEq, Nat.reduceAdd, Nat.reduceLT, Nat.reduceLeDiff, Nat.reduceBNe, Nat.reduceBEq, Int.reduceToNat]
          refine aw_region (EF := EF0) hG (by rw [hN]; exact tr28_5) ?_
          simp only [a28_5, go_sem, ↓reduceIte, Nat.reduceEqDiff, reduceCtorEq, Nat.reduceAdd, Nat.reduceLT, Nat.reduceLeDiff, Nat.reduceBNe, Nat.reduceBEq, Int.reduceToNat, inI, trN, fCode_eq, fCaps_eq]
          (repeat' apply And.intro) <;> (try first | omega | (intros; (repeat' apply And.intro) <;> first | assumption | omega | (simp_all; done)))
          refine hKL0 (i + 1) _ ?_ ?_ ?_
          · (try dsimp only); exact ⟨hc4, take_all hc4 hp hb6⟩
          · (try dsimp only); omega
          · refine Le.mk _ _ ?_ ?_ rfl <;> simp only [go_sem, ↓reduceIte, Nat.reduceEqDiff, reduceCtorEq, Nat.reduceAdd, Nat.reduceLT, Nat.reduceLeDiff, Nat.reduceBNe, Nat.reduceBEq, Int.reduceToNat] <;> (repeat' apply And.intro) <;> (try first | rfl | exact wk_frzb rfl rfl rfl | exact wk_fn rfl | exact .nilo _ _ _ rfl rfl)
      · simp only [decide_eq_true_eq, decide_eq_false_iff_not, Bool.and_eq_true, Bool.or_eq_true, Bool.not_eq_true', Bool.not_eq_false', Bool.and_eq_false_iff, Bool.or_eq_false_iff, Int.ofNat_lt, Int.ofNat_le, Nat.not_lt, Nat.not_le, Int.not_lt, Int.not_le] at hc4
        refine aw_exit ?_
        simp only [go_sem, ↓reduceIte, Nat.reduceEqDiff, reduceCtorEq, Nat.reduceAdd, Nat.reduceLT, Nat.reduceLeDiff, Nat.reduceBNe, Nat.reduceBEq, Int.reduceToNat]
        refine aw_seq (aw_region (EF := EF0) hG (by rw [hN]; exact tr28_8) ?_)
        simp only [a28_8, go_sem, ↓reduceIte, Nat.reduceEqDiff, reduceCtorEq, Nat.reduceAdd, Nat.reduceLT, Nat.reduceLeDiff, Nat.reduceBNe, Nat.reduceBEq, Int.reduceToNat, trN, fCode_eq, fCaps_eq]
        refine aw_ret ?_
        show Q _ _
        refine hQ _ _ (.inl rfl) ?_ ?_ ?_ <;> simp only [outφ, outV, AR.res, go_sem, ↓reduceIte, Nat.reduceEqDiff, reduceCtorEq, Nat.reduceAdd, Nat.reduceLT, Nat.reduceLeDiff, Nat.reduceBNe, Nat.reduceBEq, Int.reduceToNat, fNamed]
        unfold namedB; dsimp only; rw [hcc, any_no (p := free3) hc4 hp]; rfl
def fMost (k : Int) : Prop × V := (True, .int .i64 (mostOf k))
theorem fMost_eq (k : Int) : gOf aInt fMost [.int .i64 k] = (True, .int .i64 (mostOf k)) := gOf_eq aInt_inj k
theorem rmost_p : PureC Tryd.prog UT 29 (gOf aInt fMost) := by
  have hG := tNo_ok
  refine PureC.ofArgs aInt_inj Tryd.func29 body29 nm29 res29 ?_
  rintro k hv
  refine ⟨by rw [nt29]; simp [aInt], fun C hN Q hQ => ?_⟩
  rw [nt29] at hN
  unfold c29
  refine aw_seq (aw_region (EF := EF0) hG (by rw [hN]; exact tr29_0) ?_)
  simp only [a29_0, go_sem, ↓reduceIte, Nat.reduceEqDiff, reduceCtorEq, Nat.reduceAdd, Nat.reduceLT, Nat.reduceLeDiff, Nat.reduceBNe, Nat.reduceBEq, Int.reduceToNat, aInt]
  refine aw_seq ?_
  refine aw_seq (aw_region (EF := EF0) hG (by rw [hN]; exact tr29_1) ?_)
  simp only [a29_1, go_sem, ↓reduceIte, Nat.reduceEqDiff, reduceCtorEq, Nat.reduceAdd, Nat.reduceLT, Nat.reduceLeDiff, Nat.reduceBNe, Nat.reduceBEq, Int.reduceToNat]
  refine aw_cond (b := _) rfl (fun hb => ?_) (fun hb => ?_)
  · skip
    refine aw_seq (aw_region (EF := EF0) hG (by rw [hN]; exact tr29_2) ?_)
    simp only [a29_2, go_sem, ↓reduceIte, Nat.reduceEqDiff, reduceCtorEq, Nat.reduceAdd, Nat.reduceLT, Nat.reduceLeDiff, Nat.reduceBNe, Nat.reduceBEq, Int.reduceToNat]
    refine aw_ret ?_
    show Q _ _
    refine hQ _ _ (.inl rfl) ?_ ?_ ?_ <;> simp only [outφ, outV, AR.res, go_sem, ↓reduceIte, Nat.reduceEqDiff, reduceCtorEq, Nat.reduceAdd, Nat.reduceLT, Nat.reduceLeDiff, Nat.reduceBNe, Nat.reduceBEq, Int.reduceToNat, fMost]
    unfold mostOf; rw [if_pos (of_decide_eq_true hb)]
  · skip
    refine aw_skip ?_
    try simp only [go_sem, ↓reduceIte, Nat.reduceEqDiff, reduceCtorEq, Nat.reduceAdd, Nat.reduceLT, Nat.reduceLeDiff, Nat.reduceBNe, Nat.reduceBEq, Int.reduceToNat]
    refine aw_seq (aw_region (EF := EF0) hG (by rw [hN]; exact tr29_3) ?_)
    simp only [a29_3, go_sem, ↓reduceIte, Nat.reduceEqDiff, reduceCtorEq, Nat.reduceAdd, Nat.reduceLT, Nat.reduceLeDiff, Nat.reduceBNe, Nat.reduceBEq, Int.reduceToNat]
    refine aw_ret ?_
    show Q _ _
    refine hQ _ _ (.inl rfl) ?_ ?_ ?_ <;> simp only [outφ, outV, AR.res, go_sem, ↓reduceIte, Nat.reduceEqDiff, reduceCtorEq, Nat.reduceAdd, Nat.reduceLT, Nat.reduceLeDiff, Nat.reduceBNe, Nat.reduceBEq, Int.reduceToNat, fMost]
    unfold mostOf; rw [if_neg (of_decide_eq_false hb)]
end Go.Proofs.YtailckanpheciaaDoor
