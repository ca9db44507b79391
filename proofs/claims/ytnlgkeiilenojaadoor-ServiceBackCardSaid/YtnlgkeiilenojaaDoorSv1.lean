/- Data of the service chapter; find, Contains. -/
import Derived.Test.YtnlgkeiilenojaaDoorT3
namespace Go.Proofs.YtnlgkeiilenojaaDoor
open Go Go.RowKit
set_option linter.unusedSimpArgs false
set_option linter.unusedVariables false
set_option linter.deprecated false
structure Offer where
  code : List UInt8
  most : Int
  types : List (List UInt8)
def Offer.enc (x : Offer) : List V := [.str x.code, .int .i64 x.most, .list (strs x.types) false]
theorem Offer.inj (a b : Offer) (h : a.enc = b.enc) : a = b := by
  obtain ⟨a_code, a_most, a_types⟩ := a
  obtain ⟨b_code, b_most, b_types⟩ := b
  simp only [Offer.enc, List.cons.injEq, V.str.injEq, V.int.injEq, V.bool.injEq, V.agg.injEq, V.list.injEq, and_true, true_and] at h
  obtain ⟨h0, h1, h2⟩ := h
  subst h0
  subst h1
  replace h2 := strs_inj h2
  subst h2
  rfl
def Offer.ok (x : Offer) : Prop := x.code.length ≤ 140737488355328 ∧ inI x.most ∧ (x.types.length ≤ 140737488355328 ∧ ∀ z ∈ x.types, z.length ≤ 140737488355328)
def Offer.zero : Offer := ⟨[], 0, []⟩
theorem Offer.rows (l : List Offer) : (∀ r ∈ l.map Offer.enc, r.length = 3) ↔ True := iff_true_intro fun r hr => by obtain ⟨x, _, rfl⟩ := List.mem_map.1 hr; rfl
theorem Offer.purs (l : List Offer) : (∀ r ∈ l.map Offer.enc, V.purs r = true) ↔ True := iff_true_intro fun r hr => by obtain ⟨x, _, rfl⟩ := List.mem_map.1 hr; rfl
attribute [go_sem] Offer.rows Offer.purs
theorem Offer.mapLen (l : List Offer) : (l.map Offer.enc).length = l.length := List.length_map _
structure Person where
  last : List UInt8
  first : List UInt8
  type : List UInt8
def Person.enc (x : Person) : List V := [.str x.last, .str x.first, .str x.type]
theorem Person.inj (a b : Person) (h : a.enc = b.enc) : a = b := by
  obtain ⟨a_last, a_first, a_type⟩ := a
  obtain ⟨b_last, b_first, b_type⟩ := b
  simp only [Person.enc, List.cons.injEq, V.str.injEq, V.int.injEq, V.bool.injEq, V.agg.injEq, V.list.injEq, and_true, true_and] at h
  obtain ⟨h0, h1, h2⟩ := h
  subst h0
  subst h1
  subst h2
  rfl
def Person.ok (x : Person) : Prop := x.last.length ≤ 140737488355328 ∧ x.first.length ≤ 140737488355328 ∧ x.type.length ≤ 140737488355328
def Person.zero : Person := ⟨[], [], []⟩
theorem Person.rows (l : List Person) : (∀ r ∈ l.map Person.enc, r.length = 3) ↔ True := iff_true_intro fun r hr => by obtain ⟨x, _, rfl⟩ := List.mem_map.1 hr; rfl
theorem Person.purs (l : List Person) : (∀ r ∈ l.map Person.enc, V.purs r = true) ↔ True := iff_true_intro fun r hr => by obtain ⟨x, _, rfl⟩ := List.mem_map.1 hr; rfl
attribute [go_sem] Person.rows Person.purs
theorem Person.mapLen (l : List Person) : (l.map Person.enc).length = l.length := List.length_map _
structure Seg where
  carrier : List UInt8
  number : Int
  day : Int
  from' : List UInt8
  to' : List UInt8
  dep : Int
  arr : Int
def Seg.enc (x : Seg) : List V := [.str x.carrier, .int .i64 x.number, .int .i64 x.day, .str x.from', .str x.to', .int .i64 x.dep, .int .i64 x.arr]
theorem Seg.inj (a b : Seg) (h : a.enc = b.enc) : a = b := by
  obtain ⟨a_carrier, a_number, a_day, a_from', a_to', a_dep, a_arr⟩ := a
  obtain ⟨b_carrier, b_number, b_day, b_from', b_to', b_dep, b_arr⟩ := b
  simp only [Seg.enc, List.cons.injEq, V.str.injEq, V.int.injEq, V.bool.injEq, V.agg.injEq, V.list.injEq, and_true, true_and] at h
  obtain ⟨h0, h1, h2, h3, h4, h5, h6⟩ := h
  subst h0
  subst h1
  subst h2
  subst h3
  subst h4
  subst h5
  subst h6
  rfl
def Seg.ok (x : Seg) : Prop := x.carrier.length ≤ 140737488355328 ∧ inI x.number ∧ inI x.day ∧ x.from'.length ≤ 140737488355328 ∧ x.to'.length ≤ 140737488355328 ∧ inI x.dep ∧ inI x.arr
def Seg.zero : Seg := ⟨[], 0, 0, [], [], 0, 0⟩
theorem Seg.rows (l : List Seg) : (∀ r ∈ l.map Seg.enc, r.length = 7) ↔ True := iff_true_intro fun r hr => by obtain ⟨x, _, rfl⟩ := List.mem_map.1 hr; rfl
theorem Seg.purs (l : List Seg) : (∀ r ∈ l.map Seg.enc, V.purs r = true) ↔ True := iff_true_intro fun r hr => by obtain ⟨x, _, rfl⟩ := List.mem_map.1 hr; rfl
attribute [go_sem] Seg.rows Seg.purs
theorem Seg.mapLen (l : List Seg) : (l.map Seg.enc).length = l.length := List.length_map _
structure Want where
  seg : Seg
  cls : List UInt8
def Want.enc (x : Want) : List V := [.str x.seg.carrier, .int .i64 x.seg.number, .int .i64 x.seg.day, .str x.seg.from', .str x.seg.to', .int .i64 x.seg.dep, .int .i64 x.seg.arr, .str x.cls]
theorem Want.inj (a b : Want) (h : a.enc = b.enc) : a = b := by
  obtain ⟨⟨a_seg_carrier, a_seg_number, a_seg_day, a_seg_from', a_seg_to', a_seg_dep, a_seg_arr⟩, a_cls⟩ := a
  obtain ⟨⟨b_seg_carrier, b_seg_number, b_seg_day, b_seg_from', b_seg_to', b_seg_dep, b_seg_arr⟩, b_cls⟩ := b
  simp only [Want.enc, List.cons.injEq, V.str.injEq, V.int.injEq, V.bool.injEq, V.agg.injEq, V.list.injEq, and_true, true_and] at h
  obtain ⟨h0, h1, h2, h3, h4, h5, h6, h7⟩ := h
  subst h0
  subst h1
  subst h2
  subst h3
  subst h4
  subst h5
  subst h6
  subst h7
  rfl
def Want.ok (x : Want) : Prop := x.seg.ok ∧ x.cls.length ≤ 140737488355328
def Want.zero : Want := ⟨Seg.zero, []⟩
theorem Want.rows (l : List Want) : (∀ r ∈ l.map Want.enc, r.length = 8) ↔ True := iff_true_intro fun r hr => by obtain ⟨x, _, rfl⟩ := List.mem_map.1 hr; rfl
theorem Want.purs (l : List Want) : (∀ r ∈ l.map Want.enc, V.purs r = true) ↔ True := iff_true_intro fun r hr => by obtain ⟨x, _, rfl⟩ := List.mem_map.1 hr; rfl
attribute [go_sem] Want.rows Want.purs
theorem Want.mapLen (l : List Want) : (l.map Want.enc).length = l.length := List.length_map _
structure Booked where
  want : Want
  status : Int
  married : Int
def Booked.enc (x : Booked) : List V := [.str x.want.seg.carrier, .int .i64 x.want.seg.number, .int .i64 x.want.seg.day, .str x.want.seg.from', .str x.want.seg.to', .int .i64 x.want.seg.dep, .int .i64 x.want.seg.arr, .str x.want.cls, .int .i64 x.status, .int .i64 x.married]
theorem Booked.inj (a b : Booked) (h : a.enc = b.enc) : a = b := by
  obtain ⟨⟨⟨a_want_seg_carrier, a_want_seg_number, a_want_seg_day, a_want_seg_from', a_want_seg_to', a_want_seg_dep, a_want_seg_arr⟩, a_want_cls⟩, a_status, a_married⟩ := a
  obtain ⟨⟨⟨b_want_seg_carrier, b_want_seg_number, b_want_seg_day, b_want_seg_from', b_want_seg_to', b_want_seg_dep, b_want_seg_arr⟩, b_want_cls⟩, b_status, b_married⟩ := b
  simp only [Booked.enc, List.cons.injEq, V.str.injEq, V.int.injEq, V.bool.injEq, V.agg.injEq, V.list.injEq, and_true, true_and] at h
  obtain ⟨h0, h1, h2, h3, h4, h5, h6, h7, h8, h9⟩ := h
  subst h0
  subst h1
  subst h2
  subst h3
  subst h4
  subst h5
  subst h6
  subst h7
  subst h8
  subst h9
  rfl
def Booked.ok (x : Booked) : Prop := x.want.ok ∧ inI x.status ∧ inI x.married
def Booked.zero : Booked := ⟨Want.zero, 0, 0⟩
theorem Booked.rows (l : List Booked) : (∀ r ∈ l.map Booked.enc, r.length = 10) ↔ True := iff_true_intro fun r hr => by obtain ⟨x, _, rfl⟩ := List.mem_map.1 hr; rfl
theorem Booked.purs (l : List Booked) : (∀ r ∈ l.map Booked.enc, V.purs r = true) ↔ True := iff_true_intro fun r hr => by obtain ⟨x, _, rfl⟩ := List.mem_map.1 hr; rfl
attribute [go_sem] Booked.rows Booked.purs
theorem Booked.mapLen (l : List Booked) : (l.map Booked.enc).length = l.length := List.length_map _
structure Service where
  code : List UInt8
  person : Int
  seg : Int
def Service.enc (x : Service) : List V := [.str x.code, .int .i64 x.person, .int .i64 x.seg]
theorem Service.inj (a b : Service) (h : a.enc = b.enc) : a = b := by
  obtain ⟨a_code, a_person, a_seg⟩ := a
  obtain ⟨b_code, b_person, b_seg⟩ := b
  simp only [Service.enc, List.cons.injEq, V.str.injEq, V.int.injEq, V.bool.injEq, V.agg.injEq, V.list.injEq, and_true, true_and] at h
  obtain ⟨h0, h1, h2⟩ := h
  subst h0
  subst h1
  subst h2
  rfl
def Service.ok (x : Service) : Prop := x.code.length ≤ 140737488355328 ∧ inI x.person ∧ inI x.seg
def Service.zero : Service := ⟨[], 0, 0⟩
theorem Service.rows (l : List Service) : (∀ r ∈ l.map Service.enc, r.length = 3) ↔ True := iff_true_intro fun r hr => by obtain ⟨x, _, rfl⟩ := List.mem_map.1 hr; rfl
theorem Service.purs (l : List Service) : (∀ r ∈ l.map Service.enc, V.purs r = true) ↔ True := iff_true_intro fun r hr => by obtain ⟨x, _, rfl⟩ := List.mem_map.1 hr; rfl
attribute [go_sem] Service.rows Service.purs
theorem Service.mapLen (l : List Service) : (l.map Service.enc).length = l.length := List.length_map _
structure Booking where
  locator : List UInt8
  persons : List Person
  group : Int
  segs : List Booked
  services : List Service
  limit : Int
def Booking.enc (x : Booking) : List V := [.str x.locator, .list (x.persons.map Person.enc) false, .int .i64 x.group, .list (x.segs.map Booked.enc) false, .list (x.services.map Service.enc) false, .int .i64 x.limit]
theorem Booking.inj (a b : Booking) (h : a.enc = b.enc) : a = b := by
  obtain ⟨a_locator, a_persons, a_group, a_segs, a_services, a_limit⟩ := a
  obtain ⟨b_locator, b_persons, b_group, b_segs, b_services, b_limit⟩ := b
  simp only [Booking.enc, List.cons.injEq, V.str.injEq, V.int.injEq, V.bool.injEq, V.agg.injEq, V.list.injEq, and_true, true_and] at h
  obtain ⟨h0, h1, h2, h3, h4, h5⟩ := h
  subst h0
  replace h1 := map_inj' Person.inj h1
  subst h1
  subst h2
  replace h3 := map_inj' Booked.inj h3
  subst h3
  replace h4 := map_inj' Service.inj h4
  subst h4
  subst h5
  rfl
def Booking.ok (x : Booking) : Prop := x.locator.length ≤ 140737488355328 ∧ (x.persons.length ≤ 140737488355328 ∧ ∀ z ∈ x.persons, z.ok) ∧ inI x.group ∧ (x.segs.length ≤ 140737488355328 ∧ ∀ z ∈ x.segs, z.ok) ∧ (x.services.length ≤ 140737488355328 ∧ ∀ z ∈ x.services, z.ok) ∧ inI x.limit
def Booking.zero : Booking := ⟨[], [], 0, [], [], 0⟩
theorem Booking.rows (l : List Booking) : (∀ r ∈ l.map Booking.enc, r.length = 6) ↔ True := iff_true_intro fun r hr => by obtain ⟨x, _, rfl⟩ := List.mem_map.1 hr; rfl
theorem Booking.purs (l : List Booking) : (∀ r ∈ l.map Booking.enc, V.purs r = true) ↔ True := iff_true_intro fun r hr => by obtain ⟨x, _, rfl⟩ := List.mem_map.1 hr; rfl
attribute [go_sem] Booking.rows Booking.purs
theorem Booking.mapLen (l : List Booking) : (l.map Booking.enc).length = l.length := List.length_map _
def findI (l : List Offer) (c : List UInt8) : Option Nat := l.findIdx? fun o => decide (o.code = c)
def find (l : List Offer) (c : List UInt8) : Option Offer := l.find? fun o => decide (o.code = c)
theorem findI_at {l : List Offer} {c : List UInt8} {k : Nat} (hk : k < l.length) (h : ∀ z ∈ l.take k, z.code ≠ c) (hp : l[k].code = c) : findI l c = some k := by
  unfold findI
  rw [List.findIdx?_eq_some_iff_getElem]
  refine ⟨hk, by simpa using hp, fun j hj => ?_⟩
  have := h (l[j]'(by omega)) (by rw [List.mem_take_iff_getElem]; exact ⟨j, by omega, rfl⟩)
  simpa using this
theorem findI_no {l : List Offer} {c : List UInt8} {k : Nat} (hk : l.length ≤ k) (h : ∀ z ∈ l.take k, z.code ≠ c) : findI l c = none := by
  rw [List.take_of_length_le hk] at h
  unfold findI
  rw [List.findIdx?_eq_none_iff]
  intro x hx
  simpa using h x hx
theorem findI_lt {l : List Offer} {c : List UInt8} {k : Nat} (h : findI l c = some k) : ∃ hk : k < l.length, l[k].code = c ∧ find l c = some l[k] := by
  unfold findI at h
  rw [List.findIdx?_eq_some_iff_getElem] at h
  obtain ⟨h1, h2, h3⟩ := h
  refine ⟨h1, by simpa using h2, ?_⟩
  have e1 : find l c = (l.take k ++ l.drop k).find? fun o => decide (o.code = c) := by rw [List.take_append_drop]; rfl
  rw [e1, List.find?_append, List.find?_eq_none.2 (fun x hx => ?_), Option.none_or, List.drop_eq_getElem_cons h1]
  · rw [List.find?_cons_of_pos (by simpa using h2)]
  obtain ⟨j, hj, rfl⟩ := List.mem_take_iff_getElem.1 hx
  have := h3 j (by omega)
  simpa using this
theorem findI_none {l : List Offer} {c : List UInt8} (h : findI l c = none) : find l c = none := by
  unfold findI at h
  rw [List.findIdx?_eq_none_iff] at h
  exact List.find?_eq_none.2 fun x hx => by simpa using h x hx
def idxI : Option Nat → Int
  | some k => (k : Int)
  | none => -1
def idxV (o : Option Nat) : V := .int .i64 (idxI o)
theorem findI_dec (l : List Offer) (c : List UInt8) : decide (0 ≤ idxI (findI l c)) = (find l c).isSome := by
  cases h : findI l c with
  | none => rw [findI_none h]; rfl
  | some k => rw [(findI_lt h).2.2, idxI, decide_eq_true (by omega)]; rfl
theorem findI_neg (l : List Offer) (c : List UInt8) : decide (idxI (findI l c) < 0) = !(find l c).isSome := by
  rw [← findI_dec, ← decide_not]; simp
def aFind (x : List Offer × List UInt8) : List V := [.list (x.1.map Offer.enc) false, .str x.2]
theorem aFind_inj (a b : List Offer × List UInt8) (h : aFind a = aFind b) : a = b := by
  obtain ⟨a_l, a_c⟩ := a
  obtain ⟨b_l, b_c⟩ := b
  simp only [aFind, List.cons.injEq, V.str.injEq, V.int.injEq, V.bool.injEq, V.agg.injEq, V.list.injEq, and_true, true_and] at h
  obtain ⟨h0, h1⟩ := h
  replace h0 := map_inj' Offer.inj h0
  subst h0
  subst h1
  rfl
def fFindI (x : List Offer × List UInt8) : Prop × V := (x.1.length ≤ 140737488355328, idxV (findI x.1 x.2))
theorem rfind_p : PureC Tryd.prog UT 30 (gOf aFind fFindI) := by
  have hG := tNo_ok
  refine PureC.ofArgs aFind_inj Tryd.func30 body30 nm30 res30 ?_
  rintro ⟨l, c⟩ hv
  refine ⟨by rw [nt30]; simp [aFind], fun C hN Q hQ => ?_⟩
  rw [nt30] at hN
  unfold c30
  replace hv : l.length ≤ 140737488355328 := hv
  refine aw_seq (aw_region (EF := EF0) hG (by rw [hN]; exact tr30_0) ?_)
  simp only [a30_0, go_sem, ↓reduceIte, Nat.reduceEqDiff, reduceCtorEq, Nat.reduceAdd, Nat.reduceLT, Nat.reduceLeDiff, Nat.reduceBNe, Nat.reduceBEq, Int.reduceToNat, aFind]
  refine aw_seq ?_
  refine aw_seq (aw_region (EF := EF0) hG (by rw [hN]; exact tr30_1) ?_)
  simp only [a30_1, go_sem, ↓reduceIte, Nat.reduceEqDiff, reduceCtorEq, Nat.reduceAdd, Nat.reduceLT, Nat.reduceLeDiff, Nat.reduceBNe, Nat.reduceBEq, Int.reduceToNat]
  refine aw_block ?_
  refine aw_loop (α := Nat) (fun i => (i ≤ l.length) ∧ (∀ z ∈ l.take i, z.code ≠ c)) (fun i => ⟨mkE [(0, V.list (List.map Offer.enc l) false), (1, V.str c), (5, .int .i64 i)], mkH []⟩) (fun i => l.length - i) 0 (by simp) ?_ ?_
  · refine Le.mk _ _ ?_ ?_ rfl <;> simp only [go_sem, ↓reduceIte, Nat.reduceEqDiff, reduceCtorEq, Nat.reduceAdd, Nat.reduceLT, Nat.reduceLeDiff, Nat.reduceBNe, Nat.reduceBEq, Int.reduceToNat] <;> (repeat' apply And.intro) <;> (try first | rfl | exact wk_frzb rfl rfl rfl | exact wk_fn rfl | exact .nilo _ _ _ rfl rfl)
  · rintro i ⟨hi, hp⟩ KL0 hKL0
    try dsimp only at *
    refine aw_seq ?_
    refine aw_seq (aw_region (EF := EF0) hG (by rw [hN]; exact tr30_2) ?_)
    simp only [a30_2, go_sem, ↓reduceIte, Nat.reduceEqDiff, reduceCtorEq, Nat.reduceAdd, Nat.reduceLT, Nat.reduceLeDiff, Nat.reduceBNe, Nat.reduceBEq, Int.reduceToNat]
    refine aw_cond (b := _) rfl (fun hc2 => ?_) (fun hc2 => ?_)
    · simp only [decide_eq_true_eq, decide_eq_false_iff_not, Bool.and_eq_true, Bool.or_eq_true, Bool.not_eq_true', Bool.not_eq_false', Bool.and_eq_false_iff, Bool.or_eq_false_iff, Int.ofNat_lt, Int.ofNat_le, Nat.not_lt, Nat.not_le, Int.not_lt, Int.not_le] at hc2
      refine aw_skip ?_
      simp only [go_sem, ↓reduceIte, Nat.reduceEqDiff, reduceCtorEq, Nat.reduceAdd, Nat.reduceLT, Nat.reduceLeDiff, Nat.reduceBNe, Nat.reduceBEq, Int.reduceToNat]
      refine aw_seq ?_
      refine aw_block ?_
      refine aw_seq (aw_region (EF := EF0) hG (by rw [hN]; exact tr30_4) ?_)
      simp only [a30_4, go_sem, ↓reduceIte, Nat.reduceEqDiff, reduceCtorEq, Nat.reduceAdd, Nat.reduceLT, Nat.reduceLeDiff, Nat.reduceBNe, Nat.reduceBEq, Int.reduceToNat, getD_mapd _ _ _ _ hc2, hc2, Offer.enc]
      (repeat' apply And.intro) <;> (try first | omega | (intros; (repeat' apply And.intro) <;> first | assumption | omega | (simp_all; done)))
      refine aw_cond (b := _) rfl (fun hc4 => ?_) (fun hc4 => ?_)
      · simp only [decide_eq_true_eq, decide_eq_false_iff_not, Bool.and_eq_true, Bool.or_eq_true, Bool.not_eq_true', Bool.not_eq_false', Bool.and_eq_false_iff, Bool.or_eq_false_iff, Int.ofNat_lt, Int.ofNat_le, Nat.not_lt, Nat.not_le, Int.not_lt, Int.not_le] at hc4
        refine aw_seq (aw_region (EF := EF0) hG (by rw [hN]; exact tr30_5) ?_)
        simp only [a30_5, go_sem, ↓reduceIte, Nat.reduceEqDiff, reduceCtorEq, Nat.reduceAdd, Nat.reduceLT, Nat.reduceLeDiff, Nat.reduceBNe, Nat.reduceBEq, Int.reduceToNat]
        refine aw_ret ?_
        show Q _ _
        refine hQ _ _ (.inl rfl) ?_ ?_ ?_ <;> simp only [outφ, outV, AR.res, go_sem, ↓reduceIte, Nat.reduceEqDiff, reduceCtorEq, Nat.reduceAdd, Nat.reduceLT, Nat.reduceLeDiff, Nat.reduceBNe, Nat.reduceBEq, Int.reduceToNat, fFindI]
        rw [findI_at hc2 hp hc4, idxV, idxI]
      · simp only [decide_eq_true_eq, decide_eq_false_iff_not, Bool.and_eq_true, Bool.or_eq_true, Bool.not_eq_true', Bool.not_eq_false', Bool.and_eq_false_iff, Bool.or_eq_false_iff, Int.ofNat_lt, Int.ofNat_le, Nat.not_lt, Nat.not_le, Int.not_lt, Int.not_le] at hc4
        refine aw_skip ?_
        simp only [go_sem, ↓reduceIte, Nat.reduceEqDiff, reduceCtorEq, Nat.reduceAdd, Nat.reduceLT, Nat.reduceLeDiff, Nat.reduceBNe, Nat.reduceBEq, Int.reduceToNat]
        refine aw_region (EF := EF0) hG (by rw [hN]; exact tr30_3) ?_
        simp only [a30_3, go_sem, ↓reduceIte, Nat.reduceEqDiff, reduceCtorEq, Nat.reduceAdd, Nat.reduceLT, Nat.reduceLeDiff, Nat.reduceBNe, Nat.reduceBEq, Int.reduceToNat, inI]
        (repeat' apply And.intro) <;> (try first | omega | (intros; (repeat' apply And.intro) <;> first | assumption | omega | (simp_all; done)))
        refine hKL0 (i + 1) _ ?_ ?_ ?_
        · (try dsimp only); exact ⟨hc2, take_all hc2 hp hc4⟩
        · (try dsimp only); omega
        · refine Le.mk _ _ ?_ ?_ rfl <;> simp only [go_sem, ↓reduceIte, Nat.reduceEqDiff, reduceCtorEq, Nat.reduceAdd, Nat.reduceLT, Nat.reduceLeDiff, Nat.reduceBNe, Nat.reduceBEq, Int.reduceToNat] <;> (repeat' apply And.intro) <;> (try first | rfl | exact wk_frzb rfl rfl rfl | exact wk_fn rfl | exact .nilo _ _ _ rfl rfl)
    · simp only [decide_eq_true_eq, decide_eq_false_iff_not, Bool.and_eq_true, Bool.or_eq_true, Bool.not_eq_true', Bool.not_eq_false', Bool.and_eq_false_iff, Bool.or_eq_false_iff, Int.ofNat_lt, Int.ofNat_le, Nat.not_lt, Nat.not_le, Int.not_lt, Int.not_le] at hc2
      refine aw_exit ?_
      simp only [go_sem, ↓reduceIte, Nat.reduceEqDiff, reduceCtorEq, Nat.reduceAdd, Nat.reduceLT, Nat.reduceLeDiff, Nat.reduceBNe, Nat.reduceBEq, Int.reduceToNat]
      refine aw_seq (aw_region (EF := EF0) hG (by rw [hN]; exact tr30_6) ?_)
      simp only [a30_6, go_sem, ↓reduceIte, Nat.reduceEqDiff, reduceCtorEq, Nat.reduceAdd, Nat.reduceLT, Nat.reduceLeDiff, Nat.reduceBNe, Nat.reduceBEq, Int.reduceToNat]
      refine aw_ret ?_
      show Q _ _
      refine hQ _ _ (.inl rfl) ?_ ?_ ?_ <;> simp only [outφ, outV, AR.res, go_sem, ↓reduceIte, Nat.reduceEqDiff, reduceCtorEq, Nat.reduceAdd, Nat.reduceLT, Nat.reduceLeDiff, Nat.reduceBNe, Nat.reduceBEq, Int.reduceToNat, fFindI]
      rw [findI_no hc2 hp, idxV, idxI]
def aSame (x : Offer × List UInt8) : List V := [.agg x.1.enc, .str x.2]
theorem aSame_inj (a b : Offer × List UInt8) (h : aSame a = aSame b) : a = b := by
  obtain ⟨a_o, a_c⟩ := a
  obtain ⟨b_o, b_c⟩ := b
  simp only [aSame, List.cons.injEq, V.str.injEq, V.int.injEq, V.bool.injEq, V.agg.injEq, V.list.injEq, and_true, true_and] at h
  obtain ⟨h0, h1⟩ := h
  replace h0 := Offer.inj _ _ h0
  subst h0
  subst h1
  rfl
def fSame (x : Offer × List UInt8) : Prop × V := (True, .bool (decide (x.1.code = x.2)))
theorem same_p : PureC Tryd.prog UT 45 (gOf aSame fSame) := by
  have hG := tNo_ok
  refine PureC.ofArgs aSame_inj Tryd.func45 body45 nm45 res45 ?_
  rintro ⟨o, c⟩ hv
  refine ⟨by rw [nt45]; simp [aSame], fun C hN Q hQ => ?_⟩
  rw [nt45] at hN
  unfold c45
  refine aw_seq (aw_region (EF := EF0) hG (by rw [hN]; exact tr45_0) ?_)
  simp only [a45_0, go_sem, ↓reduceIte, Nat.reduceEqDiff, reduceCtorEq, Nat.reduceAdd, Nat.reduceLT, Nat.reduceLeDiff, Nat.reduceBNe, Nat.reduceBEq, Int.reduceToNat, aSame, Offer.enc]
  refine aw_seq (aw_region (EF := EF0) hG (by rw [hN]; exact tr45_1) ?_)
  simp only [a45_1, go_sem, ↓reduceIte, Nat.reduceEqDiff, reduceCtorEq, Nat.reduceAdd, Nat.reduceLT, Nat.reduceLeDiff, Nat.reduceBNe, Nat.reduceBEq, Int.reduceToNat]
  refine aw_ret ?_
  show Q _ _
  refine hQ _ _ (.inl rfl) ?_ ?_ ?_ <;> simp only [outφ, outV, AR.res, go_sem, ↓reduceIte, Nat.reduceEqDiff, reduceCtorEq, Nat.reduceAdd, Nat.reduceLT, Nat.reduceLeDiff, Nat.reduceBNe, Nat.reduceBEq, Int.reduceToNat, fSame]
def aIn (x : List (List UInt8) × List UInt8) : List V := [.list (strs x.1) false, .str x.2]
theorem aIn_inj (a b : List (List UInt8) × List UInt8) (h : aIn a = aIn b) : a = b := by
  obtain ⟨a_l, a_s⟩ := a
  obtain ⟨b_l, b_s⟩ := b
  simp only [aIn, List.cons.injEq, V.str.injEq, V.int.injEq, V.bool.injEq, V.agg.injEq, V.list.injEq, and_true, true_and] at h
  obtain ⟨h0, h1⟩ := h
  replace h0 := strs_inj h0
  subst h0
  subst h1
  rfl
def inB (l : List (List UInt8)) (s : List UInt8) : Bool := l.any fun x => decide (x = s)
def fIn (x : List (List UInt8) × List UInt8) : Prop × V := (x.1.length ≤ 140737488355328, .bool (inB x.1 x.2))
theorem rin_p : PureC Tryd.prog UT 31 (gOf aIn fIn) := by
  have hG := tNo_ok
  refine PureC.ofArgs aIn_inj Tryd.func31 body31 nm31 res31 ?_
  rintro ⟨l, c⟩ hv
  refine ⟨by rw [nt31]; simp [aIn], fun C hN Q hQ => ?_⟩
  rw [nt31] at hN
  unfold c31
  replace hv : l.length ≤ 140737488355328 := hv
  refine aw_seq (aw_region (EF := EF0) hG (by rw [hN]; exact tr31_0) ?_)
  simp only [a31_0, go_sem, ↓reduceIte, Nat.reduceEqDiff, reduceCtorEq, Nat.reduceAdd, Nat.reduceLT, Nat.reduceLeDiff, Nat.reduceBNe, Nat.reduceBEq, Int.reduceToNat, aIn]
  refine aw_seq ?_
  refine aw_seq (aw_region (EF := EF0) hG (by rw [hN]; exact tr31_1) ?_)
  simp only [a31_1, go_sem, ↓reduceIte, Nat.reduceEqDiff, reduceCtorEq, Nat.reduceAdd, Nat.reduceLT, Nat.reduceLeDiff, Nat.reduceBNe, Nat.reduceBEq, Int.reduceToNat]
  refine aw_block ?_
  refine aw_loop (α := Nat) (fun i => (i ≤ l.length) ∧ (∀ z ∈ l.take i, decide (z = c) = false)) (fun i => ⟨mkE [(0, V.list (strs l) false), (1, V.str c), (5, .int .i64 i)], mkH []⟩) (fun i => l.length - i) 0 (by simp) ?_ ?_
  · refine Le.mk _ _ ?_ ?_ rfl <;> simp only [go_sem, ↓reduceIte, Nat.reduceEqDiff, reduceCtorEq, Nat.reduceAdd, Nat.reduceLT, Nat.reduceLeDiff, Nat.reduceBNe, Nat.reduceBEq, Int.reduceToNat] <;> (repeat' apply And.intro) <;> (try first | rfl | exact wk_frzb rfl rfl rfl | exact wk_fn rfl | exact .nilo _ _ _ rfl rfl)
  · rintro i ⟨hi, hp⟩ KL0 hKL0
    try dsimp only at *
    refine aw_seq ?_
    refine aw_seq (aw_region (EF := EF0) hG (by rw [hN]; exact tr31_2) ?_)
    simp only [a31_2, go_sem, ↓reduceIte, Nat.reduceEqDiff, reduceCtorEq, Nat.reduceAdd, Nat.reduceLT, Nat.reduceLeDiff, Nat.reduceBNe, Nat.reduceBEq, Int.reduceToNat]
    refine aw_cond (b := _) rfl (fun hc2 => ?_) (fun hc2 => ?_)
    · simp only [decide_eq_true_eq, decide_eq_false_iff_not, Bool.and_eq_true, Bool.or_eq_true, Bool.not_eq_true', Bool.not_eq_false', Bool.and_eq_false_iff, Bool.or_eq_false_iff, Int.ofNat_lt, Int.ofNat_le, Nat.not_lt, Nat.not_le, Int.not_lt, Int.not_le] at hc2
      refine aw_skip ?_
      simp only [go_sem, ↓reduceIte, Nat.reduceEqDiff, reduceCtorEq, Nat.reduceAdd, Nat.reduceLT, Nat.reduceLeDiff, Nat.reduceBNe, Nat.reduceBEq, Int.reduceToNat]
      refine aw_seq ?_
      refine aw_block ?_
      refine aw_seq (aw_region (EF := EF0) hG (by rw [hN]; exact tr31_4) ?_)
      simp only [a31_4, go_sem, ↓reduceIte, Nat.reduceEqDiff, reduceCtorEq, Nat.reduceAdd, Nat.reduceLT, Nat.reduceLeDiff, Nat.reduceBNe, Nat.reduceBEq, Int.reduceToNat, strs_getD _ _ _ hc2, hc2]
      (repeat' apply And.intro) <;> (try first | omega | (intros; (repeat' apply And.intro) <;> first | assumption | omega | (simp_all; done)))
      refine aw_cond (b := _) rfl (fun hc4 => ?_) (fun hc4 => ?_)
      · simp only [decide_eq_true_eq, decide_eq_false_iff_not, Bool.and_eq_true, Bool.or_eq_true, Bool.not_eq_true', Bool.not_eq_false', Bool.and_eq_false_iff, Bool.or_eq_false_iff, Int.ofNat_lt, Int.ofNat_le, Nat.not_lt, Nat.not_le, Int.not_lt, Int.not_le] at hc4
        refine aw_seq (aw_region (EF := EF0) hG (by rw [hN]; exact tr31_5) ?_)
        simp only [a31_5, go_sem, ↓reduceIte, Nat.reduceEqDiff, reduceCtorEq, Nat.reduceAdd, Nat.reduceLT, Nat.reduceLeDiff, Nat.reduceBNe, Nat.reduceBEq, Int.reduceToNat]
        refine aw_ret ?_
        show Q _ _
        refine hQ _ _ (.inl rfl) ?_ ?_ ?_ <;> simp only [outφ, outV, AR.res, go_sem, ↓reduceIte, Nat.reduceEqDiff, reduceCtorEq, Nat.reduceAdd, Nat.reduceLT, Nat.reduceLeDiff, Nat.reduceBNe, Nat.reduceBEq, Int.reduceToNat, fIn, inB]
        rw [any_at hc2 (by simpa using hc4)]
      · simp only [decide_eq_true_eq, decide_eq_false_iff_not, Bool.and_eq_true, Bool.or_eq_true, Bool.not_eq_true', Bool.not_eq_false', Bool.and_eq_false_iff, Bool.or_eq_false_iff, Int.ofNat_lt, Int.ofNat_le, Nat.not_lt, Nat.not_le, Int.not_lt, Int.not_le] at hc4
        refine aw_skip ?_
        simp only [go_sem, ↓reduceIte, Nat.reduceEqDiff, reduceCtorEq, Nat.reduceAdd, Nat.reduceLT, Nat.reduceLeDiff, Nat.reduceBNe, Nat.reduceBEq, Int.reduceToNat]
        refine aw_region (EF := EF0) hG (by rw [hN]; exact tr31_3) ?_
        simp only [a31_3, go_sem, ↓reduceIte, Nat.reduceEqDiff, reduceCtorEq, Nat.reduceAdd, Nat.reduceLT, Nat.reduceLeDiff, Nat.reduceBNe, Nat.reduceBEq, Int.reduceToNat, inI]
        (repeat' apply And.intro) <;> (try first | omega | (intros; (repeat' apply And.intro) <;> first | assumption | omega | (simp_all; done)))
        refine hKL0 (i + 1) _ ?_ ?_ ?_
        · (try dsimp only); exact ⟨hc2, take_all hc2 hp (by simpa using hc4)⟩
        · (try dsimp only); omega
        · refine Le.mk _ _ ?_ ?_ rfl <;> simp only [go_sem, ↓reduceIte, Nat.reduceEqDiff, reduceCtorEq, Nat.reduceAdd, Nat.reduceLT, Nat.reduceLeDiff, Nat.reduceBNe, Nat.reduceBEq, Int.reduceToNat] <;> (repeat' apply And.intro) <;> (try first | rfl | exact wk_frzb rfl rfl rfl | exact wk_fn rfl | exact .nilo _ _ _ rfl rfl)
    · simp only [decide_eq_true_eq, decide_eq_false_iff_not, Bool.and_eq_true, Bool.or_eq_true, Bool.not_eq_true', Bool.not_eq_false', Bool.and_eq_false_iff, Bool.or_eq_false_iff, Int.ofNat_lt, Int.ofNat_le, Nat.not_lt, Nat.not_le, Int.not_lt, Int.not_le] at hc2
      refine aw_exit ?_
      simp only [go_sem, ↓reduceIte, Nat.reduceEqDiff, reduceCtorEq, Nat.reduceAdd, Nat.reduceLT, Nat.reduceLeDiff, Nat.reduceBNe, Nat.reduceBEq, Int.reduceToNat]
      refine aw_seq (aw_region (EF := EF0) hG (by rw [hN]; exact tr31_6) ?_)
      simp only [a31_6, go_sem, ↓reduceIte, Nat.reduceEqDiff, reduceCtorEq, Nat.reduceAdd, Nat.reduceLT, Nat.reduceLeDiff, Nat.reduceBNe, Nat.reduceBEq, Int.reduceToNat]
      refine aw_ret ?_
      show Q _ _
      refine hQ _ _ (.inl rfl) ?_ ?_ ?_ <;> simp only [outφ, outV, AR.res, go_sem, ↓reduceIte, Nat.reduceEqDiff, reduceCtorEq, Nat.reduceAdd, Nat.reduceLT, Nat.reduceLeDiff, Nat.reduceBNe, Nat.reduceBEq, Int.reduceToNat, fIn, inB]
      rw [any_no hc2 hp]
def sIdx (l : List (List UInt8)) (s : List UInt8) : Option Nat := l.findIdx? fun x => decide (s = x)
theorem sIdx_at {l : List (List UInt8)} {c : List UInt8} {k : Nat} (hk : k < l.length) (h : ∀ z ∈ l.take k, decide (c = z) = false) (hp : c = l[k]) : sIdx l c = some k := by
  unfold sIdx
  rw [List.findIdx?_eq_some_iff_getElem]
  refine ⟨hk, by simpa using hp, fun j hj => ?_⟩
  have := h (l[j]'(by omega)) (by rw [List.mem_take_iff_getElem]; exact ⟨j, by omega, rfl⟩)
  simpa using this
theorem sIdx_no {l : List (List UInt8)} {c : List UInt8} {k : Nat} (hk : l.length ≤ k) (h : ∀ z ∈ l.take k, decide (c = z) = false) : sIdx l c = none := by
  rw [List.take_of_length_le hk] at h
  unfold sIdx
  rw [List.findIdx?_eq_none_iff]
  exact h
def fSIdx (x : List (List UInt8) × List UInt8) : Prop × V := (x.1.length ≤ 140737488355328, idxV (sIdx x.1 x.2))
theorem sidx_p : PureC Tryd.prog UT 46 (gOf aIn fSIdx) := by
  have hG := tNo_ok
  refine PureC.ofArgs aIn_inj Tryd.func46 body46 nm46 res46 ?_
  rintro ⟨l, c⟩ hv
  refine ⟨by rw [nt46]; simp [aIn], fun C hN Q hQ => ?_⟩
  rw [nt46] at hN
  unfold c46
  replace hv : l.length ≤ 140737488355328 := hv
  refine aw_seq (aw_region (EF := EF0) hG (by rw [hN]; exact tr46_0) ?_)
  simp only [a46_0, go_sem, ↓reduceIte, Nat.reduceEqDiff, reduceCtorEq, Nat.reduceAdd, Nat.reduceLT, Nat.reduceLeDiff, Nat.reduceBNe, Nat.reduceBEq, Int.reduceToNat, aIn]
  refine aw_seq ?_
  refine aw_seq (aw_region (EF := EF0) hG (by rw [hN]; exact tr46_1) ?_)
  simp only [a46_1, go_sem, ↓reduceIte, Nat.reduceEqDiff, reduceCtorEq, Nat.reduceAdd, Nat.reduceLT, Nat.reduceLeDiff, Nat.reduceBNe, Nat.reduceBEq, Int.reduceToNat]
  refine aw_block ?_
  refine aw_loop (α := Nat) (fun i => (i ≤ l.length) ∧ (∀ z ∈ l.take i, decide (c = z) = false)) (fun i => ⟨mkE [(0, V.list (strs l) false), (1, V.str c), (7, V.int IntKind.i64 ↑l.length), (8, .int .i64 i)], mkH []⟩) (fun i => l.length - i) 0 (by simp) ?_ ?_
  · refine Le.mk _ _ ?_ ?_ rfl <;> simp only [go_sem, ↓reduceIte, Nat.reduceEqDiff, reduceCtorEq, Nat.reduceAdd, Nat.reduceLT, Nat.reduceLeDiff, Nat.reduceBNe, Nat.reduceBEq, Int.reduceToNat] <;> (repeat' apply And.intro) <;> (try first | rfl | exact wk_frzb rfl rfl rfl | exact wk_fn rfl | exact .nilo _ _ _ rfl rfl)
  · rintro i ⟨hi, hp⟩ KL0 hKL0
    try dsimp only at *
    refine aw_seq (aw_region (EF := EF0) hG (by rw [hN]; exact tr46_2) ?_)
    simp only [a46_2, go_sem, ↓reduceIte, Nat.reduceEqDiff, reduceCtorEq, Nat.reduceAdd, Nat.reduceLT, Nat.reduceLeDiff, Nat.reduceBNe, Nat.reduceBEq, Int.reduceToNat]
    refine aw_seq ?_
    refine aw_cond (b := _) rfl (fun hc2 => ?_) (fun hc2 => ?_)
    · simp only [decide_eq_true_eq, decide_eq_false_iff_not, Bool.and_eq_true, Bool.or_eq_true, Bool.not_eq_true', Bool.not_eq_false', Bool.and_eq_false_iff, Bool.or_eq_false_iff, Int.ofNat_lt, Int.ofNat_le, Nat.not_lt, Nat.not_le, Int.not_lt, Int.not_le] at hc2
      refine aw_skip ?_
      simp only [go_sem, ↓reduceIte, Nat.reduceEqDiff, reduceCtorEq, Nat.reduceAdd, Nat.reduceLT, Nat.reduceLeDiff, Nat.reduceBNe, Nat.reduceBEq, Int.reduceToNat]
      refine aw_seq ?_
      refine aw_block ?_
      refine aw_seq (aw_region (EF := EF0) hG (by rw [hN]; exact tr46_3) ?_)
      simp only [a46_3, go_sem, ↓reduceIte, Nat.reduceEqDiff, reduceCtorEq, Nat.reduceAdd, Nat.reduceLT, Nat.reduceLeDiff, Nat.reduceBNe, Nat.reduceBEq, Int.reduceToNat]
      refine aw_seq (aw_region (EF := EF0) hG (by rw [hN]; exact tr46_4) ?_)
      simp only [a46_4, go_sem, ↓reduceIte, Nat.reduceEqDiff, reduceCtorEq, Nat.reduceAdd, Nat.reduceLT, Nat.reduceLeDiff, Nat.reduceBNe, Nat.reduceBEq, Int.reduceToNat, strs_getD _ _ _ hc2, hc2]
      (repeat' apply And.intro) <;> (try first | omega | (intros; (repeat' apply And.intro) <;> first | assumption | omega | (simp_all; done)))
      refine aw_cond (b := _) rfl (fun hc4 => ?_) (fun hc4 => ?_)
      · simp only [decide_eq_true_eq, decide_eq_false_iff_not, Bool.and_eq_true, Bool.or_eq_true, Bool.not_eq_true', Bool.not_eq_false', Bool.and_eq_false_iff, Bool.or_eq_false_iff, Int.ofNat_lt, Int.ofNat_le, Nat.not_lt, Nat.not_le, Int.not_lt, Int.not_le] at hc4
        refine aw_seq (aw_region (EF := EF0) hG (by rw [hN]; exact tr46_5) ?_)
        simp only [a46_5, go_sem, ↓reduceIte, Nat.reduceEqDiff, reduceCtorEq, Nat.reduceAdd, Nat.reduceLT, Nat.reduceLeDiff, Nat.reduceBNe, Nat.reduceBEq, Int.reduceToNat]
        refine aw_ret ?_
        show Q _ _
        refine hQ _ _ (.inl rfl) ?_ ?_ ?_ <;> simp only [outφ, outV, AR.res, go_sem, ↓reduceIte, Nat.reduceEqDiff, reduceCtorEq, Nat.reduceAdd, Nat.reduceLT, Nat.reduceLeDiff, Nat.reduceBNe, Nat.reduceBEq, Int.reduceToNat, fSIdx]
        rw [sIdx_at hc2 hp hc4, idxV, idxI]
      · simp only [decide_eq_true_eq, decide_eq_false_iff_not, Bool.and_eq_true, Bool.or_eq_true, Bool.not_eq_true', Bool.not_eq_false', Bool.and_eq_false_iff, Bool.or_eq_false_iff, Int.ofNat_lt, Int.ofNat_le, Nat.not_lt, Nat.not_le, Int.not_lt, Int.not_le] at hc4
        refine aw_skip ?_
        simp only [go_sem, ↓reduceIte, Nat.reduceEqDiff, reduceCtorEq, Nat.reduceAdd, Nat.reduceLT, Nat.reduceLeDiff, Nat.reduceBNe, Nat.reduceBEq, Int.reduceToNat]
        refine aw_region (EF := EF0) hG (by rw [hN]; exact tr46_6) ?_
        simp only [a46_6, go_sem, ↓reduceIte, Nat.reduceEqDiff, reduceCtorEq, Nat.reduceAdd, Nat.reduceLT, Nat.reduceLeDiff, Nat.reduceBNe, Nat.reduceBEq, Int.reduceToNat, inI]
        (repeat' apply And.intro) <;> (try first | omega | (intros; (repeat' apply And.intro) <;> first | assumption | omega | (simp_all; done)))
        refine hKL0 (i + 1) _ ?_ ?_ ?_
        · (try dsimp only); exact ⟨hc2, take_all hc2 hp (by simpa using hc4)⟩
        · (try dsimp only); omega
        · refine Le.mk _ _ ?_ ?_ rfl <;> simp only [go_sem, ↓reduceIte, Nat.reduceEqDiff, reduceCtorEq, Nat.reduceAdd, Nat.reduceLT, Nat.reduceLeDiff, Nat.reduceBNe, Nat.reduceBEq, Int.reduceToNat] <;> (repeat' apply And.intro) <;> (try first | rfl | exact wk_frzb rfl rfl rfl | exact wk_fn rfl | exact .nilo _ _ _ rfl rfl)
    · simp only [decide_eq_true_eq, decide_eq_false_iff_not, Bool.and_eq_true, Bool.or_eq_true, Bool.not_eq_true', Bool.not_eq_false', Bool.and_eq_false_iff, Bool.or_eq_false_iff, Int.ofNat_lt, Int.ofNat_le, Nat.not_lt, Nat.not_le, Int.not_lt, Int.not_le] at hc2
      refine aw_exit ?_
      simp only [go_sem, ↓reduceIte, Nat.reduceEqDiff, reduceCtorEq, Nat.reduceAdd, Nat.reduceLT, Nat.reduceLeDiff, Nat.reduceBNe, Nat.reduceBEq, Int.reduceToNat]
      refine aw_seq (aw_region (EF := EF0) hG (by rw [hN]; exact tr46_7) ?_)
      simp only [a46_7, go_sem, ↓reduceIte, Nat.reduceEqDiff, reduceCtorEq, Nat.reduceAdd, Nat.reduceLT, Nat.reduceLeDiff, Nat.reduceBNe, Nat.reduceBEq, Int.reduceToNat]
      refine aw_ret ?_
      show Q _ _
      refine hQ _ _ (.inl rfl) ?_ ?_ ?_ <;> simp only [outφ, outV, AR.res, go_sem, ↓reduceIte, Nat.reduceEqDiff, reduceCtorEq, Nat.reduceAdd, Nat.reduceLT, Nat.reduceLeDiff, Nat.reduceBNe, Nat.reduceBEq, Int.reduceToNat, fSIdx]
      rw [sIdx_no hc2 hp, idxV, idxI]
noncomputable def tCont : Tab
  | 46 => (gOf aIn fSIdx)
  | _ => gNo
theorem tCont_ok : ∀ f, PureC Tryd.prog UT f (tCont f) := fun f => by
  unfold tCont
  split
  · exact sidx_p
  · exact PureC.no
theorem fSIdx_eq (l : List (List UInt8)) (s : List UInt8) : gOf aIn fSIdx [.list (strs l) false, .str s] = (l.length ≤ 140737488355328, idxV (sIdx l s)) := gOf_eq aIn_inj (l, s)
theorem sIdx_in (l : List (List UInt8)) (s : List UInt8) : decide (0 ≤ idxI (sIdx l s)) = inB l s := by
  unfold sIdx inB
  cases h : l.findIdx? fun x => decide (s = x) with
  | none =>
    rw [List.findIdx?_eq_none_iff] at h
    rw [List.any_eq_false.2 (fun x hx => by have := h x hx; simpa [eq_comm] using this)]; rfl
  | some k =>
    rw [List.findIdx?_eq_some_iff_getElem] at h
    obtain ⟨h1, h2, _⟩ := h
    rw [any_at h1 (by simpa [eq_comm] using h2), idxI]; simp
theorem cont_p : PureC Tryd.prog UT 27 (gOf aIn fIn) := by
  have hG := tCont_ok
  refine PureC.ofArgs aIn_inj Tryd.func27 body27 nm27 res27 ?_
  rintro ⟨l, c⟩ hv
  refine ⟨by rw [nt27]; simp [aIn], fun C hN Q hQ => ?_⟩
  rw [nt27] at hN
  unfold c27
  replace hv : l.length ≤ 140737488355328 := hv
  refine aw_seq (aw_region (EF := EF0) hG (by rw [hN]; exact tr27_0) ?_)
  simp only [a27_0, go_sem, ↓reduceIte, Nat.reduceEqDiff, reduceCtorEq, Nat.reduceAdd, Nat.reduceLT, Nat.reduceLeDiff, Nat.reduceBNe, Nat.reduceBEq, Int.reduceToNat, aIn]
  refine aw_seq (aw_region (EF := EF0) hG (by rw [hN]; exact tr27_1) ?_)
  simp only [a27_1, go_sem, ↓reduceIte, Nat.reduceEqDiff, reduceCtorEq, Nat.reduceAdd, Nat.reduceLT, Nat.reduceLeDiff, Nat.reduceBNe, Nat.reduceBEq, Int.reduceToNat, tCont, fSIdx_eq, hv, idxV]
  (repeat' apply And.intro) <;> (try first | omega | (intros; (repeat' apply And.intro) <;> first | assumption | omega | (simp_all; done)))
  refine aw_ret ?_
  show Q _ _
  refine hQ _ _ (.inl rfl) ?_ ?_ ?_ <;> simp only [outφ, outV, AR.res, go_sem, ↓reduceIte, Nat.reduceEqDiff, reduceCtorEq, Nat.reduceAdd, Nat.reduceLT, Nat.reduceLeDiff, Nat.reduceBNe, Nat.reduceBEq, Int.reduceToNat, fIn]
  rw [← sIdx_in]
def aF1 (x : Offer × List UInt8) : List V := [.agg x.1.enc, .row [.str x.2] 0]
theorem aF1_inj (a b : Offer × List UInt8) (h : aF1 a = aF1 b) : a = b := by
  obtain ⟨a1, a2⟩ := a
  obtain ⟨b1, b2⟩ := b
  simp only [aF1, List.cons.injEq, V.agg.injEq, V.row.injEq, V.str.injEq, and_true, true_and] at h
  obtain ⟨h1, rfl⟩ := h
  rw [Offer.inj _ _ h1]
theorem fSame_eq (o c m t) : gOf aSame fSame [.agg [.str o, .int .i64 m, .list (strs t) false], .str c] = (True, .bool (decide (o = c))) := gOf_eq aSame_inj (⟨o, m, t⟩, c)
noncomputable def tF1 : Tab
  | 45 => (gOf aSame fSame)
  | _ => gNo
theorem tF1_ok : ∀ f, PureC Tryd.prog UT f (tF1 f) := fun f => by
  unfold tF1
  split
  · exact same_p
  · exact PureC.no
theorem find1_p : PureC Tryd.prog UT 44 (gOf aF1 fSame) := by
  have hG := tF1_ok
  refine PureC.ofArgs aF1_inj Tryd.func44 body44 nm44 res44 ?_
  rintro ⟨o, c⟩ hv
  refine ⟨by rw [nt44]; simp [aF1], fun C hN Q hQ => ?_⟩
  rw [nt44] at hN
  unfold c44
  refine aw_seq (aw_region (EF := EF0) hG (by rw [hN]; exact tr44_0) ?_)
  simp only [a44_0, go_sem, ↓reduceIte, Nat.reduceEqDiff, reduceCtorEq, Nat.reduceAdd, Nat.reduceLT, Nat.reduceLeDiff, Nat.reduceBNe, Nat.reduceBEq, Int.reduceToNat, aF1, Offer.enc]
  refine aw_seq (aw_region (EF := EF0) hG (by rw [hN]; exact tr44_1) ?_)
  simp only [a44_1, go_sem, ↓reduceIte, Nat.reduceEqDiff, reduceCtorEq, Nat.reduceAdd, Nat.reduceLT, Nat.reduceLeDiff, Nat.reduceBNe, Nat.reduceBEq, Int.reduceToNat, tF1, fSame_eq]
  (repeat' apply And.intro) <;> (try first | omega | (intros; (repeat' apply And.intro) <;> first | assumption | omega | (simp_all; done)))
  refine aw_ret ?_
  show Q _ _
  refine hQ _ _ (.inl rfl) ?_ ?_ ?_ <;> simp only [outφ, outV, AR.res, go_sem, ↓reduceIte, Nat.reduceEqDiff, reduceCtorEq, Nat.reduceAdd, Nat.reduceLT, Nat.reduceLeDiff, Nat.reduceBNe, Nat.reduceBEq, Int.reduceToNat, fSame]
def aIxF (x : List Offer × List UInt8) : List V := [.list (x.1.map Offer.enc) false, .fn 44 [.row [.str x.2] 0]]
theorem aIxF_inj (a b : List Offer × List UInt8) (h : aIxF a = aIxF b) : a = b := by
  obtain ⟨a1, a2⟩ := a
  obtain ⟨b1, b2⟩ := b
  simp only [aIxF, List.cons.injEq, V.list.injEq, V.fn.injEq, V.row.injEq, V.str.injEq, and_true, true_and] at h
  obtain ⟨h1, rfl⟩ := h
  rw [map_inj' Offer.inj h1]
noncomputable def tIxF : Tab
  | 44 => (gOf aF1 fSame)
  | _ => gNo
theorem tIxF_ok : ∀ f, PureC Tryd.prog UT f (tIxF f) := fun f => by
  unfold tIxF
  split
  · exact find1_p
  · exact PureC.no
theorem fF1_eq (o m t c) : gOf aF1 fSame [.agg [.str o, .int .i64 m, .list (strs t) false], .row [.str c] 0] = (True, .bool (decide (o = c))) := gOf_eq aF1_inj (⟨o, m, t⟩, c)
theorem idxF_p : PureC Tryd.prog UT 43 (gOf aIxF fFindI) := by
  have hG := tIxF_ok
  refine PureC.ofArgs aIxF_inj Tryd.func43 body43 nm43 res43 ?_
  rintro ⟨l, c⟩ hv
  refine ⟨by rw [nt43]; simp [aIxF], fun C hN Q hQ => ?_⟩
  rw [nt43] at hN
  unfold c43
  replace hv : l.length ≤ 140737488355328 := hv
  refine aw_seq (aw_region (EF := EF0) hG (by rw [hN]; exact tr43_0) ?_)
  simp only [a43_0, go_sem, ↓reduceIte, Nat.reduceEqDiff, reduceCtorEq, Nat.reduceAdd, Nat.reduceLT, Nat.reduceLeDiff, Nat.reduceBNe, Nat.reduceBEq, Int.reduceToNat, aIxF]
  refine aw_seq ?_
  refine aw_seq (aw_region (EF := EF0) hG (by rw [hN]; exact tr43_1) ?_)
  simp only [a43_1, go_sem, ↓reduceIte, Nat.reduceEqDiff, reduceCtorEq, Nat.reduceAdd, Nat.reduceLT, Nat.reduceLeDiff, Nat.reduceBNe, Nat.reduceBEq, Int.reduceToNat]
  refine aw_block ?_
  refine aw_loop (α := Nat) (fun i => (i ≤ l.length) ∧ (∀ z ∈ l.take i, z.code ≠ c)) (fun i => ⟨mkE [(0, V.list (List.map Offer.enc l) false), (1, V.fn 44 [V.row [V.str c] 0]), (7, V.int IntKind.i64 ↑l.length), (8, .int .i64 i)], mkH []⟩) (fun i => l.length - i) 0 (by simp) ?_ ?_
  · refine Le.mk _ _ ?_ ?_ rfl <;> simp only [go_sem, ↓reduceIte, Nat.reduceEqDiff, reduceCtorEq, Nat.reduceAdd, Nat.reduceLT, Nat.reduceLeDiff, Nat.reduceBNe, Nat.reduceBEq, Int.reduceToNat] <;> (repeat' apply And.intro) <;> (try first | rfl | exact wk_frzb rfl rfl rfl | exact wk_fn rfl | exact .nilo _ _ _ rfl rfl)
  · rintro i ⟨hi, hp⟩ KL0 hKL0
    try dsimp only at *
    refine aw_seq (aw_region (EF := EF0) hG (by rw [hN]; exact tr43_2) ?_)
    simp only [a43_2, go_sem, ↓reduceIte, Nat.reduceEqDiff, reduceCtorEq, Nat.reduceAdd, Nat.reduceLT, Nat.reduceLeDiff, Nat.reduceBNe, Nat.reduceBEq, Int.reduceToNat]
    refine aw_seq ?_
    refine aw_cond (b := _) rfl (fun hc2 => ?_) (fun hc2 => ?_)
    · simp only [decide_eq_true_eq, decide_eq_false_iff_not, Bool.and_eq_true, Bool.or_eq_true, Bool.not_eq_true', Bool.not_eq_false', Bool.and_eq_false_iff, Bool.or_eq_false_iff, Int.ofNat_lt, Int.ofNat_le, Nat.not_lt, Nat.not_le, Int.not_lt, Int.not_le] at hc2
      refine aw_skip ?_
      simp only [go_sem, ↓reduceIte, Nat.reduceEqDiff, reduceCtorEq, Nat.reduceAdd, Nat.reduceLT, Nat.reduceLeDiff, Nat.reduceBNe, Nat.reduceBEq, Int.reduceToNat]
      refine aw_seq ?_
      refine aw_block ?_
      refine aw_seq (aw_region (EF := EF0) hG (by rw [hN]; exact tr43_3) ?_)
      simp only [a43_3, go_sem, ↓reduceIte, Nat.reduceEqDiff, reduceCtorEq, Nat.reduceAdd, Nat.reduceLT, Nat.reduceLeDiff, Nat.reduceBNe, Nat.reduceBEq, Int.reduceToNat]
      refine aw_seq (aw_region (EF := EF0) hG (by rw [hN]; exact tr43_4) ?_)
      simp only [a43_4, go_sem, ↓reduceIte, Nat.reduceEqDiff, reduceCtorEq, Nat.reduceAdd, Nat.reduceLT, Nat.reduceLeDiff, Nat.reduceBNe, Nat.reduceBEq, Int.reduceToNat, getD_mapd _ _ _ _ hc2, hc2, Offer.enc, tIxF, fF1_eq]
      (repeat' apply And.intro) <;> (try first | omega | (intros; (repeat' apply And.intro) <;> first | assumption | omega | (simp_all; done)))
      refine aw_cond (b := _) rfl (fun hc4 => ?_) (fun hc4 => ?_)
      · simp only [decide_eq_true_eq, decide_eq_false_iff_not, Bool.and_eq_true, Bool.or_eq_true, Bool.not_eq_true', Bool.not_eq_false', Bool.and_eq_false_iff, Bool.or_eq_false_iff, Int.ofNat_lt, Int.ofNat_le, Nat.not_lt, Nat.not_le, Int.not_lt, Int.not_le] at hc4
        refine aw_seq (aw_region (EF := EF0) hG (by rw [hN]; exact tr43_5) ?_)
        simp only [a43_5, go_sem, ↓reduceIte, Nat.reduceEqDiff, reduceCtorEq, Nat.reduceAdd, Nat.reduceLT, Nat.reduceLeDiff, Nat.reduceBNe, Nat.reduceBEq, Int.reduceToNat]
        refine aw_ret ?_
        show Q _ _
        refine hQ _ _ (.inl rfl) ?_ ?_ ?_ <;> simp only [outφ, outV, AR.res, go_sem, ↓reduceIte, Nat.reduceEqDiff, reduceCtorEq, Nat.reduceAdd, Nat.reduceLT, Nat.reduceLeDiff, Nat.reduceBNe, Nat.reduceBEq, Int.reduceToNat, fFindI]
        rw [findI_at hc2 hp hc4, idxV, idxI]
      · simp only [decide_eq_true_eq, decide_eq_false_iff_not, Bool.and_eq_true, Bool.or_eq_true, Bool.not_eq_true', Bool.not_eq_false', Bool.and_eq_false_iff, Bool.or_eq_false_iff, Int.ofNat_lt, Int.ofNat_le, Nat.not_lt, Nat.not_le, Int.not_lt, Int.not_le] at hc4
        refine aw_skip ?_
        simp only [go_sem, ↓reduceIte, Nat.reduceEqDiff, reduceCtorEq, Nat.reduceAdd, Nat.reduceLT, Nat.reduceLeDiff, Nat.reduceBNe, Nat.reduceBEq, Int.reduceToNat]
        refine aw_region (EF := EF0) hG (by rw [hN]; exact tr43_6) ?_
        simp only [a43_6, go_sem, ↓reduceIte, Nat.reduceEqDiff, reduceCtorEq, Nat.reduceAdd, Nat.reduceLT, Nat.reduceLeDiff, Nat.reduceBNe, Nat.reduceBEq, Int.reduceToNat, inI]
        (repeat' apply And.intro) <;> (try first | omega | (intros; (repeat' apply And.intro) <;> first | assumption | omega | (simp_all; done)))
        refine hKL0 (i + 1) _ ?_ ?_ ?_
        · (try dsimp only); exact ⟨hc2, take_all hc2 hp hc4⟩
        · (try dsimp only); omega
        · refine Le.mk _ _ ?_ ?_ rfl <;> simp only [go_sem, ↓reduceIte, Nat.reduceEqDiff, reduceCtorEq, Nat.reduceAdd, Nat.reduceLT, Nat.reduceLeDiff, Nat.reduceBNe, Nat.reduceBEq, Int.reduceToNat] <;> (repeat' apply And.intro) <;> (try first | rfl | exact wk_frzb rfl rfl rfl | exact wk_fn rfl | exact .nilo _ _ _ rfl rfl)
    · simp only [decide_eq_true_eq, decide_eq_false_iff_not, Bool.and_eq_true, Bool.or_eq_true, Bool.not_eq_true', Bool.not_eq_false', Bool.and_eq_false_iff, Bool.or_eq_false_iff, Int.ofNat_lt, Int.ofNat_le, Nat.not_lt, Nat.not_le, Int.not_lt, Int.not_le] at hc2
      refine aw_exit ?_
      simp only [go_sem, ↓reduceIte, Nat.reduceEqDiff, reduceCtorEq, Nat.reduceAdd, Nat.reduceLT, Nat.reduceLeDiff, Nat.reduceBNe, Nat.reduceBEq, Int.reduceToNat]
      refine aw_seq (aw_region (EF := EF0) hG (by rw [hN]; exact tr43_7) ?_)
      simp only [a43_7, go_sem, ↓reduceIte, Nat.reduceEqDiff, reduceCtorEq, Nat.reduceAdd, Nat.reduceLT, Nat.reduceLeDiff, Nat.reduceBNe, Nat.reduceBEq, Int.reduceToNat]
      refine aw_ret ?_
      show Q _ _
      refine hQ _ _ (.inl rfl) ?_ ?_ ?_ <;> simp only [outφ, outV, AR.res, go_sem, ↓reduceIte, Nat.reduceEqDiff, reduceCtorEq, Nat.reduceAdd, Nat.reduceLT, Nat.reduceLeDiff, Nat.reduceBNe, Nat.reduceBEq, Int.reduceToNat, fFindI]
      rw [findI_no hc2 hp, idxV, idxI]
theorem fIdxF_eq (l : List Offer) (c) : gOf aIxF fFindI [.list (l.map Offer.enc) false, .fn 44 [.row [.str c] 0]] = (l.length ≤ 140737488355328, idxV (findI l c)) := gOf_eq aIxF_inj (l, c)
def fFind (x : List Offer × List UInt8) : Prop × V := (x.1.length ≤ 140737488355328, .tup [.agg ((find x.1 x.2).getD Offer.zero).enc, .bool (find x.1 x.2).isSome])
noncomputable def tFind : Tab
  | 43 => (gOf aIxF fFindI)
  | _ => gNo
theorem tFind_ok : ∀ f, PureC Tryd.prog UT f (tFind f) := fun f => by
  unfold tFind
  split
  · exact idxF_p
  · exact PureC.no
theorem find_p : PureC Tryd.prog UT 26 (gOf aFind fFind) := by
  have hG := tFind_ok
  refine PureC.ofArgs aFind_inj Tryd.func26 body26 nm26 res26 ?_
  rintro ⟨l, c⟩ hv
  refine ⟨by rw [nt26]; simp [aFind], fun C hN Q hQ => ?_⟩
  rw [nt26] at hN
  unfold c26
  replace hv : l.length ≤ 140737488355328 := hv
  refine aw_seq (aw_region (EF := EF0) hG (by rw [hN]; exact tr26_0) ?_)
  simp only [a26_0, go_sem, ↓reduceIte, Nat.reduceEqDiff, reduceCtorEq, Nat.reduceAdd, Nat.reduceLT, Nat.reduceLeDiff, Nat.reduceBNe, Nat.reduceBEq, Int.reduceToNat, aFind]
  refine AW.le (s' := ⟨mkE [(0, .list (l.map Offer.enc) false), (3, .row [.str c] 0), (4, .ptr 4 0), (5, .bool false)], mkH ([(4, .box 61 [.str [], .int .i64 0, .nils])])⟩) (Le.mk _ _ (by (simp only [go_sem, ↓reduceIte, Nat.reduceEqDiff, reduceCtorEq, Nat.reduceAdd, Nat.reduceLT, Nat.reduceLeDiff, Nat.reduceBNe, Nat.reduceBEq, Int.reduceToNat]) <;> (repeat' apply And.intro) <;> (try first | exact wk_frzb rfl rfl rfl | rfl | exact wk_fn rfl | exact .nill _ | exact .nilo _ _ _ rfl rfl | exact wk_frz rfl (by simp only [ints_len, nats_len]) rfl (ints_pur _))) (by (simp only [go_sem, ↓reduceIte, Nat.reduceEqDiff, reduceCtorEq, Nat.reduceAdd, Nat.reduceLT, Nat.reduceLeDiff, Nat.reduceBNe, Nat.reduceBEq, Int.reduceToNat]) <;> (repeat' apply And.intro) <;> (try first | exact wk_frzb rfl rfl rfl | rfl | exact wk_fn rfl | exact .nill _ | exact .nilo _ _ _ rfl rfl | exact wk_frz rfl (by simp only [ints_len, nats_len]) rfl (ints_pur _))) rfl) ?_
  refine aw_seq (aw_region (EF := EF0) hG (by rw [hN]; exact tr26_1) ?_)
  simp only [a26_1, go_sem, ↓reduceIte, Nat.reduceEqDiff, reduceCtorEq, Nat.reduceAdd, Nat.reduceLT, Nat.reduceLeDiff, Nat.reduceBNe, Nat.reduceBEq, Int.reduceToNat, tFind, fIdxF_eq, hv, idxV]
  (repeat' apply And.intro) <;> (try first | omega | (intros; (repeat' apply And.intro) <;> first | assumption | omega | (simp_all; done)))
  refine aw_seq ?_
  refine aw_seq (aw_region (EF := EF0) hG (by rw [hN]; exact tr26_2) ?_)
  simp only [a26_2, go_sem, ↓reduceIte, Nat.reduceEqDiff, reduceCtorEq, Nat.reduceAdd, Nat.reduceLT, Nat.reduceLeDiff, Nat.reduceBNe, Nat.reduceBEq, Int.reduceToNat]
  refine aw_cond (b := _) rfl (fun hc2 => ?_) (fun hc2 => ?_)
  · simp only [decide_eq_true_eq, decide_eq_false_iff_not, Bool.and_eq_true, Bool.or_eq_true, Bool.not_eq_true', Bool.not_eq_false', Bool.and_eq_false_iff, Bool.or_eq_false_iff, Int.ofNat_lt, Int.ofNat_le, Nat.not_lt, Nat.not_le, Int.not_lt, Int.not_le] at hc2
    have hs : findI l c = none := by revert hc2; cases findI l c with | none => exact fun _ => rfl | some k => exact fun h => absurd h (by rw [idxI]; omega)
    refine aw_seq (aw_region (EF := EF0) hG (by rw [hN]; exact tr26_3) ?_)
    simp only [a26_3, go_sem, ↓reduceIte, Nat.reduceEqDiff, reduceCtorEq, Nat.reduceAdd, Nat.reduceLT, Nat.reduceLeDiff, Nat.reduceBNe, Nat.reduceBEq, Int.reduceToNat]
    refine AW.le (s' := ⟨mkE [(4, .ptr 4 0), (5, .bool false)], mkH [(4, .box 61 Offer.zero.enc)]⟩) (Le.mk _ _ ?_ ?_ rfl) (aw_ret (hQ _ _ (.inl rfl) ?_ ?_ ?_)) <;> simp only [outφ, outV, AR.res, go_sem, ↓reduceIte, Nat.reduceEqDiff, reduceCtorEq, Nat.reduceAdd, Nat.reduceLT, Nat.reduceLeDiff, Nat.reduceBNe, Nat.reduceBEq, Int.reduceToNat, fFind, findI_none hs, Option.getD_none, Offer.zero, Offer.enc, Option.isSome_none, strs_nil]
  · simp only [decide_eq_true_eq, decide_eq_false_iff_not, Bool.and_eq_true, Bool.or_eq_true, Bool.not_eq_true', Bool.not_eq_false', Bool.and_eq_false_iff, Bool.or_eq_false_iff, Int.ofNat_lt, Int.ofNat_le, Nat.not_lt, Nat.not_le, Int.not_lt, Int.not_le] at hc2
    obtain ⟨k, hs⟩ : ∃ k, findI l c = some k := by revert hc2; cases findI l c with | none => exact fun h => absurd h (by rw [idxI]; omega) | some k => exact fun _ => ⟨k, rfl⟩
    obtain ⟨hk, -, hf⟩ := findI_lt hs
    refine aw_skip ?_
    simp only [go_sem, ↓reduceIte, Nat.reduceEqDiff, reduceCtorEq, Nat.reduceAdd, Nat.reduceLT, Nat.reduceLeDiff, Nat.reduceBNe, Nat.reduceBEq, Int.reduceToNat]
    refine aw_seq (aw_region (EF := EF0) hG (by rw [hN]; exact tr26_4) ?_)
    simp only [a26_4, go_sem, ↓reduceIte, Nat.reduceEqDiff, reduceCtorEq, Nat.reduceAdd, Nat.reduceLT, Nat.reduceLeDiff, Nat.reduceBNe, Nat.reduceBEq, Int.reduceToNat, hs, idxI, getD_mapd _ _ _ _ hk, hk, Offer.enc]
    (repeat' apply And.intro) <;> (try first | omega | (intros; (repeat' apply And.intro) <;> first | assumption | omega | (simp_all; done)))
    refine aw_ret ?_
    show Q _ _
    refine hQ _ _ (.inl rfl) ?_ ?_ ?_ <;> simp only [outφ, outV, AR.res, go_sem, ↓reduceIte, Nat.reduceEqDiff, reduceCtorEq, Nat.reduceAdd, Nat.reduceLT, Nat.reduceLeDiff, Nat.reduceBNe, Nat.reduceBEq, Int.reduceToNat, fFind, hf, Option.getD_some, Offer.enc, Option.isSome_some]
end Go.Proofs.YtnlgkeiilenojaaDoor
