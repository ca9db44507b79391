import Derived.Test.YtjkclhbckfkeeaaGreatDoorPl4
import Derived.Test.YtjkclhbckfkeeaaGreatDoorMo1
import Derived.Test.YtjkclhbckfkeeaaGreatDoorMo16
import Derived.Lib.Bytealg
set_option linter.unusedSimpArgs false
set_option linter.unusedVariables false
set_option linter.deprecated false
set_option maxHeartbeats 4000000
noncomputable section
namespace Go.Proofs.YtjkclhbckfkeeaaGreatDoor
open Go Go.RowKit
structure Seg where
 carrier : List UInt8
 number : Int
 day : Int
 from' : List UInt8
 to' : List UInt8
 dep : Int
 arr : Int
def Seg.enc (x : Seg) : List V := [.str x.carrier, .int .i64 x.number, .int .i64 x.day, .str x.from', .str x.to', .int .i64 x.dep, .int .i64 x.arr]
def Seg.ok (x : Seg) : Prop := x.carrier.length ≤ 140737488355328 ∧ inI x.number ∧ inI x.day ∧ x.from'.length ≤ 140737488355328 ∧ x.to'.length ≤ 140737488355328 ∧ inI x.dep ∧ inI x.arr
def Seg.zero : Seg := ⟨[], 0, 0, [], [], 0, 0⟩
theorem Seg.rows (l : List Seg) : (∀ r ∈ l.map Seg.enc, r.length = 7) ↔ True := iff_true_intro fun r hr => by obtain ⟨x, _, rfl⟩ := List.mem_map.1 hr; rfl
theorem Seg.purs (l : List Seg) : (∀ r ∈ l.map Seg.enc, V.purs r = true) ↔ True := iff_true_intro fun r hr => by obtain ⟨x, _, rfl⟩ := List.mem_map.1 hr; rfl
attribute [go_sem] Seg.rows Seg.purs
structure Want where
 seg : Seg
 cls : List UInt8
def Want.enc (x : Want) : List V := [.str x.seg.carrier, .int .i64 x.seg.number, .int .i64 x.seg.day, .str x.seg.from', .str x.seg.to', .int .i64 x.seg.dep, .int .i64 x.seg.arr, .str x.cls]
theorem Want.inj (a b : Want) (h : a.enc = b.enc) : a = b := by
 obtain ⟨⟨a_seg_carrier, a_seg_number, a_seg_day, a_seg_from', a_seg_to', a_seg_dep, a_seg_arr⟩, a_cls⟩ := a
 obtain ⟨⟨b_seg_carrier, b_seg_number, b_seg_day, b_seg_from', b_seg_to', b_seg_dep, b_seg_arr⟩, b_cls⟩ := b
 simp only [Want.enc, List.cons.injEq, V.str.injEq, V.int.injEq, V.bool.injEq, V.agg.injEq, V.list.injEq, and_true, true_and] at h
 obtain ⟨h0, h1, h2, h3, h4, h5, h6, h7⟩ := h
 subst h0
 subst h1
 subst h2
 subst h3
 subst h4
 subst h5
 subst h6
 subst h7
 rfl
def Want.ok (x : Want) : Prop := x.seg.ok ∧ x.cls.length ≤ 140737488355328
def Want.zero : Want := ⟨Seg.zero, []⟩
theorem Want.rows (l : List Want) : (∀ r ∈ l.map Want.enc, r.length = 8) ↔ True := iff_true_intro fun r hr => by obtain ⟨x, _, rfl⟩ := List.mem_map.1 hr; rfl
theorem Want.purs (l : List Want) : (∀ r ∈ l.map Want.enc, V.purs r = true) ↔ True := iff_true_intro fun r hr => by obtain ⟨x, _, rfl⟩ := List.mem_map.1 hr; rfl
attribute [go_sem] Want.rows Want.purs
structure Part where
 from' : Int
 to' : Int
 fare : Int
 amount : Int
def Part.enc (x : Part) : List V := [.int .i64 x.from', .int .i64 x.to', .int .i64 x.fare, .int .i64 x.amount]
theorem Part.inj (a b : Part) (h : a.enc = b.enc) : a = b := by
 obtain ⟨a_from', a_to', a_fare, a_amount⟩ := a
 obtain ⟨b_from', b_to', b_fare, b_amount⟩ := b
 simp only [Part.enc, List.cons.injEq, V.str.injEq, V.int.injEq, V.bool.injEq, V.agg.injEq, V.list.injEq, and_true, true_and] at h
 obtain ⟨h0, h1, h2, h3⟩ := h
 subst h0
 subst h1
 subst h2
 subst h3
 rfl
def Part.ok (x : Part) : Prop := inI x.from' ∧ inI x.to' ∧ inI x.fare ∧ inI x.amount
theorem Part.rows (l : List Part) : (∀ r ∈ l.map Part.enc, r.length = 4) ↔ True := iff_true_intro fun r hr => by obtain ⟨x, _, rfl⟩ := List.mem_map.1 hr; rfl
theorem Part.purs (l : List Part) : (∀ r ∈ l.map Part.enc, V.purs r = true) ↔ True := iff_true_intro fun r hr => by obtain ⟨x, _, rfl⟩ := List.mem_map.1 hr; rfl
attribute [go_sem] Part.rows Part.purs
structure Charge where
 code : List UInt8
 amount : Int
def Charge.enc (x : Charge) : List V := [.str x.code, .int .i64 x.amount]
theorem Charge.inj (a b : Charge) (h : a.enc = b.enc) : a = b := by
 obtain ⟨a_code, a_amount⟩ := a
 obtain ⟨b_code, b_amount⟩ := b
 simp only [Charge.enc, List.cons.injEq, V.str.injEq, V.int.injEq, V.bool.injEq, V.agg.injEq, V.list.injEq, and_true, true_and] at h
 obtain ⟨h0, h1⟩ := h
 subst h0
 subst h1
 rfl
def Charge.ok (x : Charge) : Prop := x.code.length ≤ 140737488355328 ∧ inI x.amount
def Charge.zero : Charge := ⟨[], 0⟩
theorem Charge.rows (l : List Charge) : (∀ r ∈ l.map Charge.enc, r.length = 2) ↔ True := iff_true_intro fun r hr => by obtain ⟨x, _, rfl⟩ := List.mem_map.1 hr; rfl
theorem Charge.purs (l : List Charge) : (∀ r ∈ l.map Charge.enc, V.purs r = true) ↔ True := iff_true_intro fun r hr => by obtain ⟨x, _, rfl⟩ := List.mem_map.1 hr; rfl
attribute [go_sem] Charge.rows Charge.purs
structure Two where
 a : Int
 b : Int
def Two.enc (x : Two) : List V := [.int .i64 x.a, .int .i64 x.b]
theorem Two.inj (a b : Two) (h : a.enc = b.enc) : a = b := by
 obtain ⟨a_a, a_b⟩ := a
 obtain ⟨b_a, b_b⟩ := b
 simp only [Two.enc, List.cons.injEq, V.str.injEq, V.int.injEq, V.bool.injEq, V.agg.injEq, V.list.injEq, and_true, true_and] at h
 obtain ⟨h0, h1⟩ := h
 subst h0
 subst h1
 rfl
def Two.ok (x : Two) : Prop := inI x.a ∧ inI x.b
theorem Two.rows (l : List Two) : (∀ r ∈ l.map Two.enc, r.length = 2) ↔ True := iff_true_intro fun r hr => by obtain ⟨x, _, rfl⟩ := List.mem_map.1 hr; rfl
theorem Two.purs (l : List Two) : (∀ r ∈ l.map Two.enc, V.purs r = true) ↔ True := iff_true_intro fun r hr => by obtain ⟨x, _, rfl⟩ := List.mem_map.1 hr; rfl
attribute [go_sem] Two.rows Two.purs
structure Quote where
 parts : List Part
 pairs : List Two
 taxes : List Charge
 fare : Int
 total : Int
def Quote.enc (x : Quote) : List V := [.list (x.parts.map Part.enc) false, .list (x.pairs.map Two.enc) false, .list (x.taxes.map Charge.enc) false, .int .i64 x.fare, .int .i64 x.total]
theorem Quote.inj (a b : Quote) (h : a.enc = b.enc) : a = b := by
 obtain ⟨a_parts, a_pairs, a_taxes, a_fare, a_total⟩ := a
 obtain ⟨b_parts, b_pairs, b_taxes, b_fare, b_total⟩ := b
 simp only [Quote.enc, List.cons.injEq, V.str.injEq, V.int.injEq, V.bool.injEq, V.agg.injEq, V.list.injEq, and_true, true_and] at h
 obtain ⟨h0, h1, h2, h3, h4⟩ := h
 replace h0 := Aw Part.inj h0
 subst h0
 replace h1 := Aw Two.inj h1
 subst h1
 replace h2 := Aw Charge.inj h2
 subst h2
 subst h3
 subst h4
 rfl
def Quote.ok (x : Quote) : Prop := (x.parts.length ≤ 140737488355328 ∧ ∀ z ∈ x.parts, z.ok) ∧ (x.pairs.length ≤ 140737488355328 ∧ ∀ z ∈ x.pairs, z.ok) ∧ (x.taxes.length ≤ 140737488355328 ∧ ∀ z ∈ x.taxes, z.ok) ∧ inI x.fare ∧ inI x.total
theorem Quote.rows (l : List Quote) : (∀ r ∈ l.map Quote.enc, r.length = 5) ↔ True := iff_true_intro fun r hr => by obtain ⟨x, _, rfl⟩ := List.mem_map.1 hr; rfl
theorem Quote.purs (l : List Quote) : (∀ r ∈ l.map Quote.enc, V.purs r = true) ↔ True := iff_true_intro fun r hr => by obtain ⟨x, _, rfl⟩ := List.mem_map.1 hr; rfl
attribute [go_sem] Quote.rows Quote.purs
structure Person where
 last : List UInt8
 first : List UInt8
 type : List UInt8
def Person.enc (x : Person) : List V := [.str x.last, .str x.first, .str x.type]
theorem Person.inj (a b : Person) (h : a.enc = b.enc) : a = b := by
 obtain ⟨a_last, a_first, a_type⟩ := a
 obtain ⟨b_last, b_first, b_type⟩ := b
 simp only [Person.enc, List.cons.injEq, V.str.injEq, V.int.injEq, V.bool.injEq, V.agg.injEq, V.list.injEq, and_true, true_and] at h
 obtain ⟨h0, h1, h2⟩ := h
 subst h0
 subst h1
 subst h2
 rfl
def Person.ok (x : Person) : Prop := x.last.length ≤ 140737488355328 ∧ x.first.length ≤ 140737488355328 ∧ x.type.length ≤ 140737488355328
def Person.zero : Person := ⟨[], [], []⟩
theorem Person.rows (l : List Person) : (∀ r ∈ l.map Person.enc, r.length = 3) ↔ True := iff_true_intro fun r hr => by obtain ⟨x, _, rfl⟩ := List.mem_map.1 hr; rfl
theorem Person.purs (l : List Person) : (∀ r ∈ l.map Person.enc, V.purs r = true) ↔ True := iff_true_intro fun r hr => by obtain ⟨x, _, rfl⟩ := List.mem_map.1 hr; rfl
attribute [go_sem] Person.rows Person.purs
structure Coupon where
 want : Want
 basis : List UInt8
 status : Int
 value : Int
def Coupon.enc (x : Coupon) : List V := [.str x.want.seg.carrier, .int .i64 x.want.seg.number, .int .i64 x.want.seg.day, .str x.want.seg.from', .str x.want.seg.to', .int .i64 x.want.seg.dep, .int .i64 x.want.seg.arr, .str x.want.cls, .str x.basis, .int .i64 x.status, .int .i64 x.value]
theorem Coupon.inj (a b : Coupon) (h : a.enc = b.enc) : a = b := by
 obtain ⟨⟨⟨a_want_seg_carrier, a_want_seg_number, a_want_seg_day, a_want_seg_from', a_want_seg_to', a_want_seg_dep, a_want_seg_arr⟩, a_want_cls⟩, a_basis, a_status, a_value⟩ := a
 obtain ⟨⟨⟨b_want_seg_carrier, b_want_seg_number, b_want_seg_day, b_want_seg_from', b_want_seg_to', b_want_seg_dep, b_want_seg_arr⟩, b_want_cls⟩, b_basis, b_status, b_value⟩ := b
 simp only [Coupon.enc, List.cons.injEq, V.str.injEq, V.int.injEq, V.bool.injEq, V.agg.injEq, V.list.injEq, and_true, true_and] at h
 obtain ⟨h0, h1, h2, h3, h4, h5, h6, h7, h8, h9, h10⟩ := h
 subst h0
 subst h1
 subst h2
 subst h3
 subst h4
 subst h5
 subst h6
 subst h7
 subst h8
 subst h9
 subst h10
 rfl
def Coupon.ok (x : Coupon) : Prop := x.want.ok ∧ x.basis.length ≤ 140737488355328 ∧ inI x.status ∧ inI x.value
def Coupon.zero : Coupon := ⟨Want.zero, [], 0, 0⟩
theorem Coupon.rows (l : List Coupon) : (∀ r ∈ l.map Coupon.enc, r.length = 11) ↔ True := iff_true_intro fun r hr => by obtain ⟨x, _, rfl⟩ := List.mem_map.1 hr; rfl
theorem Coupon.purs (l : List Coupon) : (∀ r ∈ l.map Coupon.enc, V.purs r = true) ↔ True := iff_true_intro fun r hr => by obtain ⟨x, _, rfl⟩ := List.mem_map.1 hr; rfl
attribute [go_sem] Coupon.rows Coupon.purs
structure Ticket where
 number : Int
 locator : List UInt8
 person : Person
 coupons : List Coupon
 fare : Int
 taxes : List Charge
 total : Int
 issued : Int
def Ticket.enc (x : Ticket) : List V := [.int .i64 x.number, .str x.locator, .str x.person.last, .str x.person.first, .str x.person.type, .list (x.coupons.map Coupon.enc) false, .int .i64 x.fare, .list (x.taxes.map Charge.enc) false, .int .i64 x.total, .int .i64 x.issued]
theorem Ticket.inj (a b : Ticket) (h : a.enc = b.enc) : a = b := by
 obtain ⟨a_number, a_locator, ⟨a_person_last, a_person_first, a_person_type⟩, a_coupons, a_fare, a_taxes, a_total, a_issued⟩ := a
 obtain ⟨b_number, b_locator, ⟨b_person_last, b_person_first, b_person_type⟩, b_coupons, b_fare, b_taxes, b_total, b_issued⟩ := b
 simp only [Ticket.enc, List.cons.injEq, V.str.injEq, V.int.injEq, V.bool.injEq, V.agg.injEq, V.list.injEq, and_true, true_and] at h
 obtain ⟨h0, h1, h2, h3, h4, h5, h6, h7, h8, h9⟩ := h
 subst h0
 subst h1
 subst h2
 subst h3
 subst h4
 replace h5 := Aw Coupon.inj h5
 subst h5
 subst h6
 replace h7 := Aw Charge.inj h7
 subst h7
 subst h8
 subst h9
 rfl
def Ticket.ok (x : Ticket) : Prop := inI x.number ∧ x.locator.length ≤ 140737488355328 ∧ x.person.ok ∧ (x.coupons.length ≤ 140737488355328 ∧ ∀ z ∈ x.coupons, z.ok) ∧ inI x.fare ∧ (x.taxes.length ≤ 140737488355328 ∧ ∀ z ∈ x.taxes, z.ok) ∧ inI x.total ∧ inI x.issued
def Ticket.zero : Ticket := ⟨0, [], Person.zero, [], 0, [], 0, 0⟩
theorem Ticket.rows (l : List Ticket) : (∀ r ∈ l.map Ticket.enc, r.length = 10) ↔ True := iff_true_intro fun r hr => by obtain ⟨x, _, rfl⟩ := List.mem_map.1 hr; rfl
theorem Ticket.purs (l : List Ticket) : (∀ r ∈ l.map Ticket.enc, V.purs r = true) ↔ True := iff_true_intro fun r hr => by obtain ⟨x, _, rfl⟩ := List.mem_map.1 hr; rfl
attribute [go_sem] Ticket.rows Ticket.purs
structure Post where
 account : List UInt8
 amount : Int
def Post.enc (x : Post) : List V := [.str x.account, .int .i64 x.amount]
theorem Post.rows (l : List Post) : (∀ r ∈ l.map Post.enc, r.length = 2) ↔ True := iff_true_intro fun r hr => by obtain ⟨x, _, rfl⟩ := List.mem_map.1 hr; rfl
theorem Post.purs (l : List Post) : (∀ r ∈ l.map Post.enc, V.purs r = true) ↔ True := iff_true_intro fun r hr => by obtain ⟨x, _, rfl⟩ := List.mem_map.1 hr; rfl
attribute [go_sem] Post.rows Post.purs
def PR (x : List Part × Int) : List V := [.list (x.1.map Part.enc) false, .int .i64 x.2]
theorem JQ (a b : List Part × Int) (h : PR a = PR b) : a = b := by
 obtain ⟨a_l, a_n⟩ := a
 obtain ⟨b_l, b_n⟩ := b
 simp only [PR, List.cons.injEq, V.str.injEq, V.int.injEq, V.bool.injEq, V.agg.injEq, V.list.injEq, and_true, true_and] at h
 obtain ⟨h0, h1⟩ := h
 replace h0 := Aw Part.inj h0
 subst h0
 subst h1
 rfl
def Ds (n at' : Int) : List Part → Bool
 | [] => decide (at' = n)
 | x :: l => if x.from' ≠ at' ∨ x.to' ≤ at' ∨ n < x.to' then false else Ds n x.to' l
def Wx (x : List Part × Int) : Prop × V := (x.1.length ≤ 140737488355328, .bool (Ds x.2 0 x.1))
theorem Bc (l : List Part) (n : Int) : gOf PR Wx [.list (l.map Part.enc) false, .int .i64 n] = (l.length ≤ 140737488355328, .bool (Ds n 0 l)) := Ar JQ (l, n)
theorem SE : PU 79 (gOf PR Wx) := by
 have hG := AC
 refine AiM.a JQ (by simp [PR]) ?_
 rintro ⟨l, n⟩ hv C hN Q hQ
 have Z := AiM.R EF0 hG hN
 replace hv : l.length ≤ 140737488355328 := hv
 refine Aa (Z 0 rfl ?_)
 simp only [go_sem, simprocAttr, PR]
 refine Aa (Z 1 rfl ?_)
 simp only [go_sem, simprocAttr]
 refine Aa (Aa (Z 2 rfl ?_))
 simp only [go_sem, simprocAttr]
 refine Ad ?_
 refine Aj (α := Nat × Int) (fun γ => (γ.1 ≤ l.length) ∧ (Ds n 0 l = Ds n γ.2 (l.drop γ.1))) (fun γ => ⟨mkE [(1, V.int IntKind.i64 n), (5, .int .i64 γ.2), (8, V.list (List.map Part.enc l) false), (9, V.int IntKind.i64 ↑l.length), (10, .int .i64 γ.1)], mkH []⟩) (fun γ => l.length - γ.1) (0, 0) ⟨Nat.zero_le _, rfl⟩ ?_ ?_
 ·exact leM
 rintro ⟨i, a⟩ ⟨hi, hs⟩ KL0 hKL0
 try dsimp only at *
 refine Aa (Z 3 rfl ?_)
 simp only [go_sem, simprocAttr]
 refine Aa ?_
 refine Ab rfl (fun hc3 => ?_) fun hc3 => ?_
 ·simp only [hcL] at hc3
  refine Ac ?_
  refine Aa (Ad ?_)
  have hd := List.drop_eq_getElem_cons hc3
  rw [hd, Ds] at hs
  refine Aa (Z 4 rfl ?_)
  simp only [go_sem, simprocAttr, Af _ _ _ _ hc3, hc3, Part.enc]
  and_intros <;> try exact sdA
  refine Aa (Aa (Z 5 rfl ?_))
  simp only [go_sem, simprocAttr]
  and_intros <;> try exact sdA
  refine Ab rfl (fun hb5 => ?_) fun hb5 => ?_
  ·rw [if_pos (by simp only [Bool.or_eq_true, Bool.not_eq_true', decide_eq_true_eq, decide_eq_false_iff_not] at hb5; omega)] at hs
   refine Aa (Z 6 rfl ?_)
   simp only [go_sem, simprocAttr]
   refine Ae (hQ _ _ (.inl rfl) ?_ ?_ ?_) <;> simp only [go_sem, simprocAttr, Wx, hs]
  rw [if_neg (by simp only [Bool.or_eq_false_iff, Bool.not_eq_false', decide_eq_true_eq, decide_eq_false_iff_not] at hb5; omega)] at hs
  refine Ac ?_
  refine Z 7 rfl ?_
  simp only [go_sem, simprocAttr]
  refine Z 8 rfl ?_
  simp only [go_sem, simprocAttr, inI]
  and_intros <;> try exact sdA
  refine hKL0 (i + 1, l[i].to') _ ?_ ?_ ?_
  ·(try dsimp only); exact ⟨hc3, hs⟩
  ·(try dsimp only); omega
  exact leM
 simp only [hcL] at hc3
 rw [List.drop_eq_nil_of_le hc3, Ds] at hs
 refine Ai ?_
 simp only [go_sem, simprocAttr]
 refine Aa (Z 9 rfl ?_)
 simp only [go_sem, simprocAttr]
 refine Ae (hQ _ _ (.inl rfl) ?_ ?_ ?_) <;> simp only [go_sem, simprocAttr, Wx, hs]
def wgt (p : Places) (w : Want) : Int :=
 let m := Ch p.airports p.distances w.seg.from' w.seg.to'
 if m.2 ≠ 0 ∨ m.1 = 0 then 1 else m.1
def aWe (x : Places × List Want) : List V := [.agg x.1.enc, .list (x.2.map Want.enc) false]
theorem ME (a b : Places × List Want) (h : aWe a = aWe b) : a = b := by
 obtain ⟨a_p, a_l⟩ := a
 obtain ⟨b_p, b_l⟩ := b
 simp only [aWe, List.cons.injEq, V.str.injEq, V.int.injEq, V.bool.injEq, V.agg.injEq, V.list.injEq, and_true, true_and] at h
 obtain ⟨h0, h1⟩ := h
 replace h0 := Places.inj _ _ h0
 subst h0
 replace h1 := Aw Want.inj h1
 subst h1
 rfl
def fWe (x : Places × List Want) : Prop × V := (MOk x.1 ∧ x.2.length ≤ 1000000, .list (AY (x.2.map (wgt x.1))) false)
theorem BC (ps : List Airport) (ds : List Distance) (l : List Want) : gOf aWe fWe [.agg [.list (ps.map Airport.enc) false, .list (ds.map Distance.enc) false], .list (l.map Want.enc) false] = (MOk ⟨ps, ds⟩ ∧ l.length ≤ 1000000, .list (AY (l.map (wgt ⟨ps, ds⟩))) false) := Ar ME (⟨ps, ds⟩, l)
theorem BA (ps : List Airport) (ds : List Distance) (a b : List UInt8) : gOf aMi EO [.agg [.list (ps.map Airport.enc) false, .list (ds.map Distance.enc) false], .str a, .str b] = (MOk ⟨ps, ds⟩, .tup [.int .i64 (Ch ps ds a b).1, .int .i64 (Ch ps ds a b).2]) := Ar MI (⟨ps, ds⟩, a, b)
def tWe : Tab
 | 138 => (gOf aMi EO)
 | _ => gNo
theorem AcK : ∀ f, PU f (tWe f) := fun f => by
 unfold tWe
 split
 ·exact AaP
 ·exact Ao.no
theorem PX : PU 80 (gOf aWe fWe) := by
 have hG := AcK
 refine AiL.a ME (by simp [aWe]) ?_
 rintro ⟨⟨ps, ds⟩, l⟩ hv C hN Q hQ
 have Z := AiL.R EF0 hG hN
 obtain ⟨hm, hl⟩ : MOk ⟨ps, ds⟩ ∧ l.length ≤ 1000000 := hv
 refine Aa (Z 0 rfl ?_)
 simp only [go_sem, simprocAttr, aWe, Places.enc, tWe, BA]
 refine Aa (Z 1 rfl ?_)
 simp only [go_sem, simprocAttr, List.length_map, tWe, BA]
 and_intros <;> try exact sdA
 refine Aa (Aa (Z 2 rfl ?_))
 simp only [go_sem, simprocAttr, tWe, BA]
 refine Ad ?_
 refine Aj (α := Nat × (List Int)) (fun γ => (γ.1 ≤ l.length) ∧ (γ.2 = (l.take γ.1).map (wgt ⟨ps, ds⟩)) ∧ (γ.2.length = γ.1)) (fun γ => ⟨mkE [(2, V.ptr 2 0), (5, .own 12 γ.2.length), (13, V.list (List.map Want.enc l) false), (14, V.int IntKind.i64 ↑l.length), (15, .int .i64 γ.1)], mkH [(2, Ob.box 25 [V.list (List.map Airport.enc ps) false, V.list (List.map Distance.enc ds) false]), (12, .arr 3 1 (AY γ.2))]⟩) (fun γ => l.length - γ.1) (0, []) ⟨Nat.zero_le _, rfl, rfl⟩ ?_ ?_
 ·exact leM
 rintro ⟨i, xs⟩ ⟨hi, hx, hxl⟩ KL0 hKL0
 try dsimp only at *
 refine Aa (Z 3 rfl ?_)
 simp only [go_sem, simprocAttr, tWe, BA]
 refine Aa ?_
 refine Ab rfl (fun hc3 => ?_) fun hc3 => ?_
 ·simp only [hcL] at hc3
  refine Ac ?_
  refine Aa (Ad ?_)
  refine Aa (Z 4 rfl ?_)
  simp only [go_sem, simprocAttr, Af _ _ _ _ hc3, hc3, Want.enc, tWe, BA]
  and_intros <;> try exact sdA
  obtain ⟨⟨n, e⟩, hne⟩ : ∃ y, Ch ps ds l[i].seg.from' l[i].seg.to' = y := ⟨_, rfl⟩
  have hw : wgt ⟨ps, ds⟩ l[i] = if e ≠ 0 ∨ n = 0 then 1 else n := by unfold wgt; dsimp only; rw [hne]
  refine Aa (Z 5 rfl ?_)
  simp only [go_sem, simprocAttr, hm, hne, tWe, BA]
  and_intros <;> try exact sdA
  refine BD (α := Int) (fun m => (m = wgt ⟨ps, ds⟩ l[i])) (fun m => ⟨mkE [(2, V.ptr 2 0), (5, V.own 12 xs.length), (8, .int .i64 m), (13, V.list (List.map Want.enc l) false), (14, V.int IntKind.i64 ↑l.length), (15, V.int IntKind.i64 ↑i)], mkH [(2, Ob.box 25 [V.list (List.map Airport.enc ps) false, V.list (List.map Distance.enc ds) false]), (12, Ob.arr 3 1 (AY xs))]⟩) ?_ ?_
  ·intro KC6 hKC6
   refine Aa (Z 6 rfl ?_)
   simp only [go_sem, simprocAttr, tWe, BA]
   and_intros <;> try exact sdA
   refine Ab rfl (fun hb6 => ?_) fun hb6 => ?_
   ·refine Z 7 rfl ?_
    simp only [go_sem, simprocAttr, tWe, BA]
    refine hKC6 (1) _ ?_ ?_
    ·(try dsimp only); (rw [hw, if_pos (by simpa using hb6)])
    exact leM
   refine Ac ?_
   refine hKC6 (n) _ ?_ ?_
   ·(try dsimp only); (rw [hw, if_neg (by simpa using hb6)])
   exact leM
  rintro m hmw
  refine Z 8 rfl ?_
  simp only [go_sem, simprocAttr, tWe, BA]
  and_intros <;> try exact sdA
  refine Z 9 rfl ?_
  simp only [go_sem, simprocAttr, inI, tWe, BA]
  and_intros <;> try exact sdA
  refine hKL0 (i + 1, xs ++ [m]) _ ?_ ?_ ?_
  ·(try dsimp only); exact ⟨hc3, by rw [hx, hmw, AI hc3, List.map_append]; rfl, by simp [hxl]⟩
  ·(try dsimp only); omega
  refine Le.mk _ _ ?_ ?_ rfl <;> simp only [go_sem, simprocAttr, Bm, List.length_append, List.length_cons, List.length_nil] <;> and_intros <;> try exact leA
 simp only [hcL] at hc3
 rw [List.take_of_length_le hc3] at hx
 refine Ai ?_
 simp only [go_sem, simprocAttr]
 refine Aa (Z 10 rfl ?_)
 simp only [go_sem, simprocAttr, tWe, BA]
 refine AW.le (s' := ⟨mkE [(4, .list (AY xs) false)], mkH []⟩) (Le.mk _ _ ?_ ?_ rfl) (Ae (hQ _ _ (.inl rfl) ?_ ?_ ?_)) <;> simp only [go_sem, simprocAttr, fWe, ← hx]
 exact Cq rfl (by rw [Bp]) rfl (CV _)
def HZ (W : List Int) : List Part → Int × List Int
 | [] => (0, [])
 | x :: l =>
  let s := BE x.amount ((W.take x.to'.toNat).drop x.from'.toNat)
  if s.1 ≠ 0 then (s.1, []) else
   let r := HZ W l
   if r.1 ≠ 0 then (r.1, []) else (0, s.2 ++ r.2)
def DP (p : Places) (l : List Want) (q : Quote) : Int × List Int := if Ds l.length 0 q.parts then HZ (l.map (wgt p)) q.parts else (2, [])
def aCo (x : Places × List Want × Quote) : List V := [.agg x.1.enc, .list (x.2.1.map Want.enc) false, .agg x.2.2.enc]
theorem MK (a b : Places × List Want × Quote) (h : aCo a = aCo b) : a = b := by
 obtain ⟨a_p, a_l, a_q⟩ := a
 obtain ⟨b_p, b_l, b_q⟩ := b
 simp only [aCo, List.cons.injEq, V.str.injEq, V.int.injEq, V.bool.injEq, V.agg.injEq, V.list.injEq, and_true, true_and] at h
 obtain ⟨h0, h1, h2⟩ := h
 replace h0 := Places.inj _ _ h0
 subst h0
 replace h1 := Aw Want.inj h1
 subst h1
 replace h2 := Quote.inj _ _ h2
 subst h2
 rfl
def COk (p : Places) (l : List Want) (q : Quote) : Prop := MOk p ∧ l.length ≤ 1000000 ∧ q.parts.length ≤ 1000000 ∧ (∀ x ∈ q.parts, x.ok)
def fCo (x : Places × List Want × Quote) : Prop × V := (COk x.1 x.2.1 x.2.2, Cr (DP x.1 x.2.1 x.2.2))
def Wj (xs : List Int) (r : Int × List Int) : Int × List Int := if r.1 ≠ 0 then (r.1, []) else (0, xs ++ r.2)
theorem SU {W : List Int} {x : Part} {l : List Part} {e : Int} {s : List Int} (h : BE x.amount ((W.take x.to'.toNat).drop x.from'.toNat) = (e, s)) (xs : List Int) : Wj xs (HZ W (x :: l)) = if e ≠ 0 then (e, []) else Wj (xs ++ s) (HZ W l) := by
 rw [HZ, h]
 dsimp only
 unfold Wj
 by_cases he : e = 0
 ·subst he
  simp only [ne_eq, not_true_eq_false, if_false]
  by_cases h2 : (HZ W l).1 = 0 <;> simp [h2]
 ·simp [he]
theorem NG (W : List Int) : ∀ l : List Part, HZ W l = Wj [] (HZ W l)
 | [] => rfl
 | x :: l => by
  rw [HZ]
  dsimp only
  unfold Wj
  split
  ·simp [*]
  ·split
   ·simp [*]
   ·simp
theorem Av (a : Int) (l : List Int) : gOf aSp EM [.int .i64 a, .list (AY l) false] = (l.length ≤ 1000000 ∧ inI a ∧ ∀ w ∈ l, inI w, Cr (BE a l)) := Ar MH (a, l)
theorem KI (L : AB Int) (hL : ∀ p ∈ L, 0 ≤ p.2 ∧ p.2 ≤ 1000000000) (k : List UInt8) : 0 ≤ (Ix (Bo L k)).1 ∧ (Ix (Bo L k)).1 ≤ 1000000000 := by
 cases h : Bo L k with
 | none => unfold Ix; simp
 | some v => unfold Ix; exact hL _ (El h)
theorem Xl {p : Places} (hp : MOk p) (w : Want) : 1 ≤ wgt p w ∧ wgt p w ≤ 1000000000 := by
 unfold wgt
 dsimp only
 have h : 0 ≤ (Ch p.airports p.distances w.seg.from' w.seg.to').1 ∧ (Ch p.airports p.distances w.seg.from' w.seg.to').1 ≤ 1000000000 := by
  unfold Ch
  split
  ·simp
  ·exact KI _ ((NM hp.2 _).inv.big hp.2).2 _
 split
 ·omega
 ·rename_i hh; omega
def tCo : Tab
 | 79 => (gOf PR Wx)
 | 80 => (gOf aWe fWe)
 | 81 => (gOf aSp EM)
 | _ => gNo
theorem AcZ : ∀ f, PU f (tCo f) := fun f => by
 unfold tCo
 split
 ·exact SE
 ·exact PX
 ·exact ZH
 ·exact Ao.no
theorem SZ : PU 36 (gOf aCo fCo) := by
 have hG := AcZ
 refine Ajc.a MK (by simp [aCo]) ?_
 rintro ⟨⟨ps, ds⟩, l, q⟩ hv C hN Q hQ
 have Y := Ajc.D EF0 hG hN mixed
 have Z := Ajc.R EF0 hG hN
 obtain ⟨hm, hl, hpl, hpo⟩ : COk ⟨ps, ds⟩ l q := hv
 have hl2 : l.length ≤ 140737488355328 := by omega
 have hpl2 : q.parts.length ≤ 140737488355328 := by omega
 refine Aa (Z 0 rfl ?_)
 simp only [go_sem, simprocAttr, aCo, Places.enc, Quote.enc, tCo, Bc, BC, Av]
 refine Aa (Aa (Z 1 rfl ?_))
 simp only [go_sem, simprocAttr, hpl2, List.length_map, tCo, Bc, BC, Av]
 and_intros <;> try exact sdA
 refine Ab rfl (fun hb1 => ?_) fun hb1 => ?_
 ·have hcm : DP ⟨ps, ds⟩ l q = (2, []) := by unfold DP; rw [if_neg (by simpa using hb1)]
  refine Aa (Z 2 rfl ?_)
  simp only [go_sem, simprocAttr, tCo, Bc, BC, Av]
  refine AW.le (s' := ⟨mkE [(6, .list [] false), (7, .int .i64 2)], mkH []⟩) (Le.mk _ _ ?_ ?_ rfl) (Ae (hQ _ _ (.inl rfl) ?_ ?_ ?_)) <;> simp only [go_sem, simprocAttr, fCo, hcm, Cr, Cy]
 have hdv : Ds l.length 0 q.parts = true := by simpa using hb1
 refine Ac ?_
 obtain ⟨W, hW⟩ : ∃ W, W = l.map (wgt ⟨ps, ds⟩) := ⟨_, rfl⟩
 have hWl : W.length = l.length := by rw [hW, List.length_map]
 have hWi : ∀ w ∈ W, inI w := fun w hw => by rw [hW] at hw; obtain ⟨x, _, rfl⟩ := List.mem_map.1 hw; have := Xl hm x; unfold inI; omega
 have hcm : DP ⟨ps, ds⟩ l q = HZ W q.parts := by unfold DP; rw [if_pos hdv, hW]
 refine Aa (Z 3 rfl ?_)
 simp only [go_sem, simprocAttr, hm, hl, tCo, Bc, BC, Av]
 and_intros <;> try exact sdA
 rw [← hW]
 refine Aa (Z 4 rfl ?_)
 simp only [go_sem, simprocAttr, tCo, Bc, BC, Av]
 refine Aa (Aa (Z 5 rfl ?_))
 simp only [go_sem, simprocAttr, List.length_map, tCo, Bc, BC, Av]
 refine Ad ?_
 refine Aj (α := Nat × (List Int)) (fun γ => (γ.1 ≤ q.parts.length) ∧ (Ds l.length γ.2.length (q.parts.drop γ.1) = true) ∧ (HZ W q.parts = Wj γ.2 (HZ W (q.parts.drop γ.1))) ∧ (γ.2.length ≤ l.length)) (fun γ => ⟨mkE [(8, V.list (AY W) false), (9, .own 47 γ.2.length), (24, V.list (List.map Part.enc q.parts) false), (25, V.int IntKind.i64 ↑q.parts.length), (26, .int .i64 γ.1)], mkH [(47, .arr 3 1 (AY γ.2))]⟩) (fun γ => q.parts.length - γ.1) (0, []) ⟨Nat.zero_le _, hdv, (NG _ _), Nat.zero_le _⟩ ?_ ?_
 ·exact leM
 rintro ⟨i, xs⟩ ⟨hi, hd, hc, hx⟩ KL0 hKL0
 try dsimp only at *
 refine Aa (Z 6 rfl ?_)
 simp only [go_sem, simprocAttr, tCo, Bc, BC, Av]
 refine Aa ?_
 refine Ab rfl (fun hc6 => ?_) fun hc6 => ?_
 ·simp only [hcL] at hc6
  refine Ac ?_
  refine Aa (Ad ?_)
  have hdd := List.drop_eq_getElem_cons hc6
  rw [hdd, Ds] at hd
  obtain ⟨x, hxx⟩ : ∃ x, x = q.parts[i] := ⟨_, rfl⟩
  rw [← hxx] at hd
  have hxo : x.ok := hxx ▸ hpo _ (List.getElem_mem hc6)
  obtain ⟨hdx, hd⟩ : ¬(x.from' ≠ xs.length ∨ x.to' ≤ xs.length ∨ (l.length : Int) < x.to') ∧ Ds l.length x.to' (q.parts.drop (i + 1)) = true := by split at hd; cases hd; exact ⟨‹_›, hd⟩
  have hb1 : 0 ≤ x.from' ∧ x.from' ≤ x.to' ∧ x.to' ≤ W.length := by omega
  obtain ⟨⟨e, s⟩, hsp⟩ : ∃ y, BE x.amount ((W.take x.to'.toNat).drop x.from'.toNat) = y := ⟨_, rfl⟩
  have hsl : ((W.take x.to'.toNat).drop x.from'.toNat).length = (x.to' - x.from').toNat := by rw [List.length_drop, List.length_take]; omega
  have hsi : ∀ w ∈ (W.take x.to'.toNat).drop x.from'.toNat, inI w := fun w hw => hWi w (List.mem_of_mem_take (List.mem_of_mem_drop hw))
  have hsub : ((AY W).take x.to'.toNat).drop x.from'.toNat = AY ((W.take x.to'.toNat).drop x.from'.toNat) := by rw [KM, KN]
  have hstep := SU (l := q.parts.drop (i + 1)) hsp xs
  rw [hdd, ← hxx, hstep] at hc
  have hfa := Hf hsp
  have hsl2 : ((W.take x.to'.toNat).drop x.from'.toNat).length ≤ 1000000 := by omega
  have hxi : inI x.amount := hxo.2.2.2
  refine Aa (Z 7 rfl ?_)
  simp only [go_sem, simprocAttr, Af _ _ _ _ hc6, hc6, ← hxx, Part.enc, tCo, Bc, BC, Av]
  and_intros <;> try exact sdA
  refine Aa (Y 8 rfl (by kernel_rfl) ?_)
  simp only [go_sem, simprocAttr, hsub, hsp, Cr, hsl2, hxi, hsi, Bp, hb1.1, hb1.2.1, hb1.2.2, tCo, Bc, BC, Av]
  and_intros <;> (try first | exact sdA | exact hsi)
  refine Aa (Aa (Z 9 rfl ?_))
  simp only [go_sem, simprocAttr, tCo, Bc, BC, Av]
  refine Ab rfl (fun hb9 => ?_) fun hb9 => ?_
  ·have he : e ≠ 0 := by simpa using hb9
   rw [if_pos he] at hc
   refine Aa (Z 10 rfl ?_)
   simp only [go_sem, simprocAttr, tCo, Bc, BC, Av]
   refine AW.le (s' := ⟨mkE [(6, .list [] false), (7, .int .i64 e)], mkH []⟩) (Le.mk _ _ ?_ ?_ rfl) (Ae (hQ _ _ (.inl rfl) ?_ ?_ ?_)) <;> simp only [go_sem, simprocAttr, fCo, Cr, hcm, hc, Cy]
  have he : e = 0 := by simpa using hb9
  rw [if_neg (by simpa using he)] at hc
  have hS := hfa.2 he
  have hsl3 : s.length = (x.to' - x.from').toNat := by rw [hS.len, hsl]
  refine Ac ?_
  refine Z 11 rfl ?_
  simp only [go_sem, simprocAttr, tCo, Bc, BC, Av]
  and_intros <;> try exact sdA
  refine Z 12 rfl ?_
  simp only [go_sem, simprocAttr, inI, tCo, Bc, BC, Av]
  and_intros <;> try exact sdA
  refine hKL0 (i + 1, xs ++ s) _ ?_ ?_ ?_
  ·(try dsimp only); exact ⟨hc6, by rw [List.length_append, hsl3, show (((xs.length + (x.to' - x.from').toNat : Nat)) : Int) = x.to' by omega]; exact hd, hc, by rw [List.length_append, hsl3]; omega⟩
  ·(try dsimp only); omega
  refine Le.mk _ _ ?_ ?_ rfl <;> simp only [go_sem, simprocAttr, ND, List.length_append] <;> and_intros <;> try exact leA
 simp only [hcL] at hc6
 rw [List.drop_eq_nil_of_le hc6, HZ] at hc
 refine Ai ?_
 simp only [go_sem, simprocAttr]
 refine Aa (Z 13 rfl ?_)
 simp only [go_sem, simprocAttr, tCo, Bc, BC, Av]
 refine AW.le (s' := ⟨mkE [(6, .list (AY xs) false), (7, .int .i64 0)], mkH []⟩) (Le.mk _ _ ?_ ?_ rfl) (Ae (hQ _ _ (.inl rfl) ?_ ?_ ?_)) <;> simp only [go_sem, simprocAttr, fCo, Cr, hcm, hc, Wj, List.append_nil, not_true_eq_false, ne_eq]
 exact Cq rfl (by rw [Bp]) rfl (CV _)
theorem Kq {d : Option Nat} {s : St} {K : St → Prop} {na q : Nat} {L L' : AB Int} {c : List UInt8} {m : Int} {ok : Bool} (he : Eff Tryz.prog UT 191 [.own 1000 L.length, .str c, .int .i64 m] (spO 1000 L) (.tup [.own 1000 L'.length, .bool ok]) (spO 1000 L'))
  (ha : s.h na = some (.arr 256 2 (Df L))) (hq : q = L.length)
  (hK : K ⟨Ew d (.tup [.own na L'.length, .bool ok]) s.e, hov (spO na L') s.h⟩) : CQ Tryz.prog UT d 191 [.own na q, .str c, .int .i64 m] s K := by
 subst hq
 refine ⟨[(1000, na)], [], _, _, _, _, he, ⟨by simp [okL], rfl, rfl, by simp, by simp, ?_, by simp [V.rens, V.ren, rni], by simp [V.nins, V.nin], by simp [V.nin, V.nins, spO], ?_, ?_⟩, ?_⟩
 ·intro p hp
  simp only [List.mem_cons, List.not_mem_nil, or_false] at hp
  subst hp
  exact ⟨_, ha, by simp [spO, mkH, Ob.ren, Al (Hd L)], by simp only [Ob.nin, FZ, true_or]⟩
 ·intro q hq
  simp only [spO, List.mem_cons, List.not_mem_nil, or_false] at hq
  subst hq
  simp only [Ob.nin, FZ, true_or]
 ·intro p hp o o' h1 h2
  simp only [List.mem_cons, List.not_mem_nil, or_false] at hp
  subst hp; simp [spO, mkH] at h1 h2; subst h1 h2; simp [Ob.kind]
 ·have e1 : (V.tup [.own 1000 L'.length, .bool ok]).ren (rn ([(1000, na)] ++ [])) = .tup [.own na L'.length, .bool ok] := by simp [V.ren, V.rens, rn]
  have e2 : (spO 1000 L').map (fun q : Nat × Ob => (rn ([(1000, na)] ++ []) q.1, q.2.ren (rn ([(1000, na)] ++ [])))) = spO na L' := by
   simp [spO, rn, Ob.ren, V.rens, V.ren, Al (Hd L')]
  rw [e1, e2]
  exact hK
theorem XI (L : AB Int) (c : List UInt8) : gOf aRe fRe [.list (Df L) false, .str c] = (L.length ≤ 140737488355328, .int .i64 ((Bo L c).getD (-1))) := Ar TA (L, c)
theorem QG (c : List UInt8) (v : Int) : [[.str c, .int .i64 v]] = Df [(c, v)] := rfl
def EFr : Nat → Bool := fun f => f == 191
def FX : Tab
 | 158 => (gOf aPs HI)
 | 151 => (gOf Gv EL)
 | 190 => (gOf aRe fRe)
 | _ => gNo
theorem YL : ∀ f, PU f (FX f) := fun f => by
 unfold FX
 split
 ·exact Aai
 ·exact Kn
 ·exact Rk
 ·exact Ao.no
theorem So {L x y n} (h : 0 ≤ (Bo L x).getD (-1)) : Er L x y n = Cw L y ((Bo L x).getD (-1) + n) := by unfold Er; rw [if_pos h]
theorem Wr {L x y n} (h : ¬ 0 ≤ (Bo L x).getD (-1)) : Er L x y n = (L, false) := by unfold Er; rw [if_neg h]
theorem QD {L : AB Int} {f t : List UInt8} {n : Int} {r : AB Int × Bool} (hr : r = Er L f t n) (h : 0 ≤ (Bo L t).getD (-1)) : OQ L f t n = ((Cw r.1 f ((Bo L t).getD (-1) + n)).1, r.2 || (Cw r.1 f ((Bo L t).getD (-1) + n)).2) := by subst hr; unfold OQ; dsimp only; rw [if_pos h]
theorem UX {L : AB Int} {f t : List UInt8} {n : Int} {r : AB Int × Bool} (hr : r = Er L f t n) (h : ¬ 0 ≤ (Bo L t).getD (-1)) : OQ L f t n = (r.1, r.2) := by subst hr; unfold OQ; dsimp only; rw [if_neg h, Bool.or_false]
theorem XG {L : AB Int} (h : ∀ p ∈ L, 0 ≤ p.2 ∧ p.2 ≤ 1000000000) (k : List UInt8) : -1 ≤ (Bo L k).getD (-1) ∧ (Bo L k).getD (-1) ≤ 1000000000 := by
 cases e : Bo L k with
 | none => simp
 | some v => have := h _ (El e); simp only [Option.getD_some]; dsimp only at this; omega
theorem VF : PU 152 (gOf aMi EO) := by
 have hG := YL
 refine AeO.a MI (by simp [aMi]) ?_
 rintro ⟨⟨ps, ds⟩, a, b⟩ hv C hN Q hQ
 have Y := AeO.D EFr hG hN mixed
 have Z := AeO.R EFr hG hN
 obtain ⟨hl, hd⟩ : MOk ⟨ps, ds⟩ := hv
 dsimp only at hd
 generalize hcf : CH ps a = f
 generalize hct : CH ps b = t
 refine Aa (Z 0 rfl ?_)
 simp only [go_sem, simprocAttr, aMi, Places.enc, FX, EFr]
 refine Aa (Y 1 rfl (by kernel_rfl) ?_)
 simp only [go_sem, simprocAttr, NU, hl, hcf, hct, FX, EFr]
 and_intros <;> try exact sdA
 refine Aa (Aa (Z 2 rfl ?_))
 simp only [go_sem, simprocAttr, FX, EFr]
 and_intros <;> try exact sdA
 refine Ab rfl (fun hb2 => ?_) fun hb2 => ?_
 ·refine Aa (Z 3 rfl ?_)
  simp only [go_sem, simprocAttr, FX, EFr]
  refine Ae (hQ _ _ (.inl rfl) ?_ ?_ ?_) <;> simp only [go_sem, simprocAttr, EO]
  rw [FD hcf hct hb2]
 refine Ac ?_
 refine Aa (PG (EF := EFr) hG (by rw [hN]; exact Zc) ?_)
 simp only [Yr, go_sem, simprocAttr, QG, FX, EFr]
 refine Aa (Z 5 rfl ?_)
 simp only [go_sem, simprocAttr, FX, EFr]
 refine Aa (Ad ?_)
 refine Aj (α := (AB Int) × Bool × Nat) (fun γ => (InvL ds f γ.1) ∧ (γ.2.1 = true → mu (ends f ds) γ.1 < γ.2.2 ∧ AaZ ds f = Uo ds γ.2.2 γ.1) ∧ (γ.2.1 = false → AaZ ds f = γ.1)) (fun γ => ⟨mkE [(3, V.ptr 3 0), (9, V.str t), (10, .own 32 γ.1.length), (11, .bool γ.2.1)], mkH [(3, Ob.box 25 [V.list (List.map Airport.enc ps) false, V.list (List.map Distance.enc ds) false]), (32, .arr 256 2 (Df γ.1))]⟩) (fun γ => γ.2.2) ([(f, 0)], true, mu (ends f ds) [(f, 0)] + 1) ⟨InvL.first ds f, fun _ => ⟨Nat.lt_succ_self _, rfl⟩, fun h => by cases h⟩ ?_ ?_
 ·refine Le.mk _ _ ?_ ?_ rfl <;> simp only [go_sem, simprocAttr, List.length_cons, List.length_nil] <;> and_intros <;> try exact leA
 rintro ⟨L, more, m⟩ ⟨hI, hm, hs⟩ KL0 hKL0
 try dsimp only at *
 refine Aa (Aa (Z 6 rfl ?_))
 simp only [go_sem, simprocAttr, FX, EFr]
 refine Ab rfl (fun hb6 => ?_) fun hb6 => ?_
 ·refine Ac ?_
  refine Ad (Aa (Z 7 rfl ?_))
  simp only [go_sem, simprocAttr, FX, EFr]
  refine Aa (Z 8 rfl ?_)
  simp only [go_sem, simprocAttr, FX, EFr]
  refine Ad ?_
  refine Aj (α := Nat × (AB Int) × Bool) (fun γ => (γ.1 ≤ ds.length) ∧ (rnd ds L false = rnd (ds.drop γ.1) γ.2.1 γ.2.2) ∧ (InvL ds f γ.2.1)) (fun γ => ⟨mkE [(3, V.ptr 3 0), (9, V.str t), (10, .own 32 γ.2.1.length), (11, .bool γ.2.2), (12, .int .i64 γ.1)], mkH [(3, Ob.box 25 [V.list (List.map Airport.enc ps) false, V.list (List.map Distance.enc ds) false]), (32, .arr 256 2 (Df γ.2.1))]⟩) (fun γ => ds.length - γ.1) (0, L, false) ⟨Nat.zero_le _, by rw [List.drop_zero], hI⟩ ?_ ?_
  ·exact leM
  rintro ⟨i, L2, b2⟩ ⟨hi, hr, hI2⟩ KL2 hKL2
  try dsimp only at *
  refine Aa (Aa (Z 9 rfl ?_))
  simp only [go_sem, simprocAttr, FX, EFr]
  refine Ab rfl (fun hc9 => ?_) fun hc9 => ?_
  ·simp only [hcL] at hc9
   refine Ac ?_
   refine BD (α := (AB Int) × Bool) (fun γ => (rnd ds L false = rnd (ds.drop (i + 1)) γ.1 γ.2) ∧ (InvL ds f γ.1)) (fun γ => ⟨mkE [(3, V.ptr 3 0), (9, V.str t), (10, .own 32 γ.1.length), (11, .bool γ.2), (12, V.int IntKind.i64 ↑i)], mkH [(3, Ob.box 25 [V.list (List.map Airport.enc ps) false, V.list (List.map Distance.enc ds) false]), (32, .arr 256 2 (Df γ.1))]⟩) ?_ ?_
   ·intro KCb3 hKCb3
    refine Ad (Aa (Z 11 rfl ?_))
    simp only [go_sem, simprocAttr, Af _ _ _ _ hc9, hc9, Distance.enc, FX, EFr]
    and_intros <;> try exact sdA
    refine Aa (Aa (Z 12 rfl ?_))
    simp only [go_sem, simprocAttr, Gl, FX, EFr]
    and_intros <;> try exact sdA
    refine Ab rfl (fun hb12 => ?_) fun hb12 => ?_
    ·refine Ai ?_
     simp only [go_sem, simprocAttr]
     refine hKCb3 (L2, b2) _ ?_ ?_
     ·(try dsimp only); exact ⟨by rw [hr, Xx hc9 (by simpa using hb12)], hI2⟩
     exact leM
    refine Ac ?_
    have hb12' : Cj ds[i] = true := by simpa using hb12
    have hu := (FW ds[i]).1 hb12'
    have hmem := List.getElem_mem hc9
    have hs2 := FC hI2 hd (SC hmem hb12')
    have hs3 := IU hI2 hd hmem hb12'
    have hL2 := hI2.big hd
    have hnn : ∀ p ∈ L2, 0 ≤ p.2 := fun p hp => (hL2.2 p hp).1
    have hlen2 : L2.length ≤ 140737488355328 := by omega
    have hx := XG hL2.2 ds[i].from'
    have hy := XG hL2.2 ds[i].to'
    refine Aa (Y 13 rfl (by kernel_rfl) ?_)
    simp only [go_sem, simprocAttr, XI, hlen2, FX, EFr]
    and_intros <;> try exact sdA
    refine Aa (Z 14 rfl ?_)
    simp only [go_sem, simprocAttr, FX, EFr]
    refine BD (α := (AB Int) × Bool × Bool) (fun γ => ((γ.1, γ.2.1) = Er L2 ds[i].from' ds[i].to' ds[i].miles) ∧ (γ.2.2 = (b2 || γ.2.1))) (fun γ => ⟨mkE [(3, V.ptr 3 0), (9, V.str t), (10, .own 32 γ.1.length), (11, .bool γ.2.2), (12, V.int IntKind.i64 ↑i), (13, V.ptr 13 0), (15, V.int IntKind.i64 ((Bo L2 ds[i].to').getD (-1)))], mkH [(3, Ob.box 25 [V.list (List.map Airport.enc ps) false, V.list (List.map Distance.enc ds) false]), (13, Ob.box 215 [V.str ds[i].from', V.str ds[i].to', V.int IntKind.i64 ds[i].miles]), (32, .arr 256 2 (Df γ.1))]⟩) ?_ ?_
    ·intro KC15 hKC15
     refine Aa (Z 15 rfl ?_)
     simp only [go_sem, simprocAttr, FX, EFr]
     refine Ab rfl (fun hb15 => ?_) fun hb15 => ?_
     ·refine Aa (Z 16 rfl ?_)
      simp only [go_sem, simprocAttr, inI, FX, EFr]
      refine And.intro (by omega) ?_
      refine Kq (Rl L2 _ _ hL2.1) (by rfl) rfl ?_
      simp only [go_sem, simprocAttr, spO]
      refine Z 17 rfl ?_
      simp only [go_sem, simprocAttr, FX, EFr]
      and_intros <;> try exact sdA
      refine hKC15 ((Cw L2 ds[i].to' ((Bo L2 ds[i].from').getD (-1) + ds[i].miles)).1, (Cw L2 ds[i].to' ((Bo L2 ds[i].from').getD (-1) + ds[i].miles)).2, (b2 || (Cw L2 ds[i].to' ((Bo L2 ds[i].from').getD (-1) + ds[i].miles)).2)) _ ?_ ?_
      ·(try dsimp only); exact ⟨by rw [So (of_decide_eq_true hb15)], rfl⟩
      refine Le.mk _ _ ?_ ?_ rfl <;> simp only [go_sem, simprocAttr, spO] <;> and_intros <;> try exact leA
     refine Ac ?_
     refine hKC15 (L2, false, b2) _ ?_ ?_
     ·(try dsimp only); exact ⟨by rw [Wr (of_decide_eq_false hb15)], by rw [Bool.or_false]⟩
     exact leM
    rintro ⟨L4, r4, b4⟩ ⟨h4, hb4⟩
    try dsimp only at *
    have hL4 := (show InvL ds f L4 by rw [show L4 = (Er L2 ds[i].from' ds[i].to' ds[i].miles).1 by rw [← h4], Js hnn]; exact hs2.1).big hd
    refine Aa (Z 18 rfl ?_)
    simp only [go_sem, simprocAttr, FX, EFr]
    refine Ab rfl (fun hb18 => ?_) fun hb18 => ?_
    ·refine Aa (Z 19 rfl ?_)
     simp only [go_sem, simprocAttr, inI, FX, EFr]
     refine And.intro (by omega) ?_
     refine Kq (Rl L4 _ _ hL4.1) (by rfl) rfl ?_
     simp only [go_sem, simprocAttr, spO]
     refine Z 20 rfl ?_
     simp only [go_sem, simprocAttr, FX, EFr]
     and_intros <;> try exact sdA
     refine hKCb3 ((Cw L4 ds[i].from' ((Bo L2 ds[i].to').getD (-1) + ds[i].miles)).1, (b4 || (Cw L4 ds[i].from' ((Bo L2 ds[i].to').getD (-1) + ds[i].miles)).2)) _ ?_ ?_
     ·(try dsimp only); (have e := QD h4 (of_decide_eq_true hb18); rw [QC hnn _ _ (by omega)] at e; exact ⟨by rw [hr, LU hc9 hb12', e, hb4, Bool.or_assoc], by rw [e] at hs3; exact hs3.1⟩)
     refine Le.mk _ _ ?_ ?_ rfl <;> simp only [go_sem, simprocAttr, spO] <;> and_intros <;> try exact leA
    refine Ac ?_
    refine hKCb3 (L4, b4) _ ?_ ?_
    ·(try dsimp only); (have e := UX h4 (of_decide_eq_false hb18); rw [QC hnn _ _ (by omega)] at e; exact ⟨by rw [hr, LU hc9 hb12', e, hb4], by rw [e] at hs3; exact hs3.1⟩)
    exact leM
   rintro ⟨L3, b3⟩ ⟨hr3, hI3⟩
   try dsimp only at *
   refine Z 10 rfl ?_
   simp only [go_sem, simprocAttr, inI, FX, EFr]
   and_intros <;> try exact sdA
   refine hKL2 (i + 1, L3, b3) _ ?_ ?_ ?_
   ·(try dsimp only); exact ⟨hc9, hr3, hI3⟩
   ·(try dsimp only); omega
   exact leM
  simp only [hcL] at hc9
  rw [Rh hc9] at hr
  obtain ⟨hm1, hm2⟩ := hm hb6
  refine Ai ?_
  simp only [go_sem, simprocAttr]
  refine hKL0 (L2, b2, m - 1) _ ?_ ?_ ?_
  ·(try dsimp only); exact ⟨hI2, fun h => (by obtain ⟨k, rfl, h1, h2⟩ := Jr hd hI hm1 (by rw [hr]; exact h); rw [hr] at h1 h2; exact ⟨h1, hm2.trans h2⟩), fun h => (by rw [hm2, Jq hd hI hm1 (by rw [hr]; exact h), hr])⟩
  ·(try dsimp only); omega
  exact leM
 refine Ai ?_
 simp only [go_sem, simprocAttr]
 have hLe := hI.big hd
 have hlenE : L.length ≤ 140737488355328 := by omega
 refine Aa (Z 21 rfl ?_)
 simp only [go_sem, simprocAttr, XI, hlenE, FX, EFr]
 and_intros <;> try exact sdA
 refine Aa (Aa (Z 22 rfl ?_))
 simp only [go_sem, simprocAttr, FX, EFr]
 refine Ab rfl (fun hb22 => ?_) fun hb22 => ?_
 ·refine Aa (Z 23 rfl ?_)
  simp only [go_sem, simprocAttr, FX, EFr]
  refine Ae (hQ _ _ (.inl rfl) ?_ ?_ ?_) <;> simp only [go_sem, simprocAttr, EO]
  cases hag : Bo L t; (rw [DE hcf hct hb2, hs hb6, hag]; rfl); (exfalso; have := hI.get hag; rw [hag] at hb22; simp at hb22; omega)
 refine Ac ?_
 refine Aa (Z 24 rfl ?_)
 simp only [go_sem, simprocAttr, FX, EFr]
 refine Ae (hQ _ _ (.inl rfl) ?_ ?_ ?_) <;> simp only [go_sem, simprocAttr, EO]
 cases hag : Bo L t; (exfalso; rw [hag] at hb22; simp at hb22); (rw [DE hcf hct hb2, hs hb6, hag]; rfl)
theorem RE : ∀ L : List Int, (L.map fun x => -x).sum = -L.sum
 | [] => rfl
 | y :: L => by rw [List.map_cons, List.sum_cons, RE L, List.sum_cons]; omega
theorem Adb {a : Int} {l L : List Int} (h : ShF a l L) : ∀ x ∈ L, -1099511627776 ≤ x ∧ x ≤ 1099511627776 := by
 intro x hx
 obtain ⟨i, hi, rfl⟩ := List.mem_iff_getElem.1 hx
 have hb := h.bd
 have hs := h.sum
 have hg := h.sg
 rcases Int.le_total 0 a with h0 | h0
 ·have hnn : ∀ w ∈ L, 0 ≤ w := fun w hw => by obtain ⟨j, hj, rfl⟩ := List.mem_iff_getElem.1 hw; exact (hg j hj).1 h0
  have := Dl hnn _ hx
  have := hnn _ hx
  omega
 ·have hnn : ∀ w ∈ L.map (fun x => -x), 0 ≤ w := fun w hw => by
   obtain ⟨y, hy, rfl⟩ := List.mem_map.1 hw
   obtain ⟨j, hj, rfl⟩ := List.mem_iff_getElem.1 hy
   have := (hg j hj).2 h0; omega
  have h1 := Dl hnn _ (List.mem_map.2 ⟨_, hx, rfl⟩)
  have h2 := hnn _ (List.mem_map.2 ⟨_, hx, rfl⟩)
  have h3 := RE L
  omega
structure PtF (n at' : Int) (X : List Int) (p : Part) : Prop where
 lo : at' ≤ p.from'
 mid : p.from' < p.to'
 hi : p.to' ≤ n
 sg : 0 ≤ p.amount → ∀ k : Nat, p.from' ≤ at' + k → at' + k < p.to' → 0 ≤ X.getD k 0
 sum : ((X.take (p.to' - at').toNat).drop (p.from' - at').toNat).sum = p.amount
theorem Ol {W : List Int} {n : Int} (hn : n ≤ W.length) : ∀ {parts : List Part} {at' : Int} {X : List Int}, Ds n at' parts = true → 0 ≤ at' → HZ W parts = (0, X) →
  at' + X.length = n ∧ (∀ p ∈ parts, PtF n at' X p) ∧ ∀ x ∈ X, -1099511627776 ≤ x ∧ x ≤ 1099511627776
 | [], at', X, hd, h0, hc => by
  rw [Ds, decide_eq_true_eq] at hd
  rw [HZ] at hc
  injection hc with _ hc
  subst hc
  exact ⟨by simp; exact hd, fun p hp => by simp at hp, fun x hx => by simp at hx⟩
 | p :: parts, at', X, hd, h0, hc => by
  rw [Ds] at hd
  split at hd
  ·cases hd
  rename_i hp
  have hp1 : p.from' = at' ∧ at' < p.to' ∧ p.to' ≤ n := by omega
  rw [HZ] at hc
  dsimp only at hc
  split at hc
  ·rename_i he; injection hc with hc1 hc2; exact absurd hc1 he
  rename_i he
  have he0 : (BE p.amount ((W.take p.to'.toNat).drop p.from'.toNat)).1 = 0 := by simpa using he
  split at hc
  ·rename_i he2; injection hc with hc1 hc2; exact absurd hc1 he2
  rename_i he2
  have he20 : (HZ W parts).1 = 0 := by simpa using he2
  injection hc with _ hc
  obtain ⟨⟨e1, s⟩, hs⟩ : ∃ y, BE p.amount ((W.take p.to'.toNat).drop p.from'.toNat) = y := ⟨_, rfl⟩
  obtain ⟨⟨e2, r⟩, hr⟩ : ∃ y, HZ W parts = y := ⟨_, rfl⟩
  rw [hs] at he0 hc
  rw [hr] at he20 hc
  dsimp only at he0 he20 hc
  subst he0 he20 hc
  have hF := (Hf hs).2 rfl
  have hsl : s.length = (p.to' - p.from').toNat := by rw [hF.len, List.length_drop, List.length_take]; omega
  obtain ⟨g1, g2, g3⟩ := Ol hn hd (by omega) hr
  refine ⟨by rw [List.length_append, hsl]; omega, fun q hq => ?_, fun x hx => ?_⟩
  ·rcases List.mem_cons.1 hq with rfl | hq
   ·refine ⟨by omega, by omega, by omega, fun ha k h1 h2 => ?_, ?_⟩
    ·have hk : k < s.length := by omega
     rw [List.getD_eq_getElem?_getD, List.getElem?_append_left hk, List.getElem?_eq_getElem hk]
     exact (hF.sg k hk).1 ha
    ·rw [show (q.from' - at').toNat = 0 by omega, List.drop_zero, show (q.to' - at').toNat = s.length by omega, List.take_left']
     ·exact hF.sum
     ·rfl
   ·have f := g2 q hq
    have hl := f.lo
    refine ⟨by omega, f.mid, f.hi, fun ha k h1 h2 => ?_, ?_⟩
    ·have hk : s.length ≤ k := by omega
     rw [List.getD_eq_getElem?_getD, List.getElem?_append_right hk, ← List.getD_eq_getElem?_getD]
     exact f.sg ha _ (by omega) (by omega)
    ·have hm := f.mid
     rw [← f.sum, show (q.to' - at').toNat = s.length + (q.to' - p.to').toNat by omega, show (q.from' - at').toNat = s.length + (q.from' - p.to').toNat by omega, List.take_length_add_append, List.drop_length_add_append]
  ·rcases List.mem_append.1 hx with hx | hx
   ·exact Adb hF x hx
   ·exact g3 x hx
theorem VW {p : Places} (hp : MOk p) (a b : List UInt8) : 0 ≤ (Ch p.airports p.distances a b).1 := by
 unfold Ch
 split
 ·simp
 ·exact (KI _ ((NM hp.2 _).inv.big hp.2).2 _).1
theorem Pg : PU 91 (gOf PR Wx) := by
 have hG := AC
 refine AiG.a JQ (by simp [PR]) ?_
 rintro ⟨l, n⟩ hv C hN Q hQ
 have Z := AiG.R EF0 hG hN
 replace hv : l.length ≤ 140737488355328 := hv
 refine Aa (Z 0 rfl ?_)
 simp only [go_sem, simprocAttr, PR]
 refine Aa (Z 1 rfl ?_)
 simp only [go_sem, simprocAttr]
 refine Aa (Aa (Z 2 rfl ?_))
 simp only [go_sem, simprocAttr]
 refine Ad ?_
 refine Aj (α := Nat × Int) (fun γ => (γ.1 ≤ l.length) ∧ (Ds n 0 l = Ds n γ.2 (l.drop γ.1))) (fun γ => ⟨mkE [(0, V.list (List.map Part.enc l) false), (1, V.int IntKind.i64 n), (5, .int .i64 γ.2), (6, .int .i64 γ.1)], mkH []⟩) (fun γ => l.length - γ.1) (0, 0) ⟨Nat.zero_le _, rfl⟩ ?_ ?_
 ·exact leM
 rintro ⟨i, a⟩ ⟨hi, hs⟩ KL0 hKL0
 try dsimp only at *
 refine Aa (Aa (Z 3 rfl ?_))
 simp only [go_sem, simprocAttr, List.length_map]
 refine Ab rfl (fun hc3 => ?_) fun hc3 => ?_
 ·simp only [hcL] at hc3
  refine Ac ?_
  refine Aa (Ad ?_)
  refine Aa ?_
  have hd := List.drop_eq_getElem_cons hc3
  rw [hd, Ds] at hs
  refine Aa (Z 5 rfl ?_)
  simp only [go_sem, simprocAttr, Af _ _ _ _ hc3, hc3, Part.enc, List.length_map]
  and_intros <;> try exact sdA
  refine Ab rfl (fun hb5 => ?_) fun hb5 => ?_
  ·rw [if_pos (by simp only [Bool.or_eq_true, Bool.not_eq_true', decide_eq_true_eq, decide_eq_false_iff_not] at hb5; omega)] at hs
   refine Aa (Z 6 rfl ?_)
   simp only [go_sem, simprocAttr]
   refine Ae (hQ _ _ (.inl rfl) ?_ ?_ ?_) <;> simp only [go_sem, simprocAttr, Wx, hs]
  rw [if_neg (by simp only [Bool.or_eq_false_iff, Bool.not_eq_false', decide_eq_true_eq, decide_eq_false_iff_not] at hb5; omega)] at hs
  refine Ac ?_
  refine Z 7 rfl ?_
  simp only [go_sem, simprocAttr, Af _ _ _ _ hc3, hc3, Part.enc, List.length_map]
  and_intros <;> try exact sdA
  refine Z 4 rfl ?_
  simp only [go_sem, simprocAttr, inI]
  and_intros <;> try exact sdA
  refine hKL0 (i + 1, l[i].to') _ ?_ ?_ ?_
  ·(try dsimp only); exact ⟨hc3, hs⟩
  ·(try dsimp only); omega
  exact leM
 simp only [hcL] at hc3
 rw [List.drop_eq_nil_of_le hc3, Ds] at hs
 refine Ai ?_
 simp only [go_sem, simprocAttr]
 refine Aa (Z 8 rfl ?_)
 simp only [go_sem, simprocAttr]
 refine Ae (hQ _ _ (.inl rfl) ?_ ?_ ?_) <;> simp only [go_sem, simprocAttr, Wx, hs]
def PN : Tab
 | 152 => (gOf aMi EO)
 | _ => gNo
theorem YH : ∀ f, PU f (PN f) := fun f => by
 unfold PN
 split
 ·exact VF
 ·exact Ao.no
theorem Pc : PU 92 (gOf aWe fWe) := by
 have hG := YH
 refine AiF.a ME (by simp [aWe]) ?_
 rintro ⟨⟨ps, ds⟩, l⟩ hv C hN Q hQ
 have Y := AiF.D EF0 hG hN mixed
 have Z := AiF.R EF0 hG hN
 obtain ⟨hm, hl⟩ : MOk ⟨ps, ds⟩ ∧ l.length ≤ 1000000 := hv
 refine Aa (Z 0 rfl ?_)
 simp only [go_sem, simprocAttr, aWe, Places.enc, PN, BA]
 refine Aa (Z 1 rfl ?_)
 simp only [go_sem, simprocAttr, PN, BA]
 refine Aa (Aa (Z 2 rfl ?_))
 simp only [go_sem, simprocAttr, PN, BA]
 refine Ad ?_
 refine Aj (α := Nat × (List Int)) (fun γ => (γ.1 ≤ l.length) ∧ (γ.2 = (l.take γ.1).map (wgt ⟨ps, ds⟩)) ∧ (γ.2.length = γ.1)) (fun γ => ⟨mkE [(1, V.list (List.map Want.enc l) false), (2, V.ptr 2 0), (5, .own 41 γ.2.length), (6, .int .i64 γ.1)], mkH [(2, Ob.box 25 [V.list (List.map Airport.enc ps) false, V.list (List.map Distance.enc ds) false]), (41, .arr 3 1 (AY γ.2))]⟩) (fun γ => l.length - γ.1) (0, []) ⟨Nat.zero_le _, rfl, rfl⟩ ?_ ?_
 ·refine Le.mk _ _ ?_ ?_ rfl <;> simp only [go_sem, simprocAttr, Cy] <;> and_intros <;> try exact leA
 rintro ⟨i, xs⟩ ⟨hi, hx, hxl⟩ KL0 hKL0
 try dsimp only at *
 refine Aa (Aa (Z 3 rfl ?_))
 simp only [go_sem, simprocAttr, List.length_map, PN, BA]
 refine Ab rfl (fun hc3 => ?_) fun hc3 => ?_
 ·simp only [hcL] at hc3
  refine Ac ?_
  refine Aa (Ad ?_)
  obtain ⟨⟨n, e⟩, hne⟩ : ∃ y, Ch ps ds l[i].seg.from' l[i].seg.to' = y := ⟨_, rfl⟩
  have hn0 := VW hm l[i].seg.from' l[i].seg.to'
  have hw : wgt ⟨ps, ds⟩ l[i] = if e ≠ 0 ∨ n = 0 then 1 else n := by unfold wgt; dsimp only; rw [hne]
  dsimp only at hn0
  rw [hne] at hn0
  dsimp only at hn0
  refine Aa (Y 5 rfl (by kernel_rfl) ?_)
  simp only [go_sem, simprocAttr, Af _ _ _ _ hc3, hc3, Want.enc, hm, hne, List.length_map, PN, BA]
  and_intros <;> try exact sdA
  refine BD (α := Int) (fun m => (m = wgt ⟨ps, ds⟩ l[i])) (fun m => ⟨mkE [(1, V.list (List.map Want.enc l) false), (2, V.ptr 2 0), (5, V.own 41 xs.length), (6, V.int IntKind.i64 ↑i), (7, .int .i64 m)], mkH [(2, Ob.box 25 [V.list (List.map Airport.enc ps) false, V.list (List.map Distance.enc ds) false]), (41, Ob.arr 3 1 (AY xs))]⟩) ?_ ?_
  ·intro KC6 hKC6
   refine Aa (Z 6 rfl ?_)
   simp only [go_sem, simprocAttr, PN, BA]
   and_intros <;> try exact sdA
   refine Ab rfl (fun hb6 => ?_) fun hb6 => ?_
   ·refine Z 7 rfl ?_
    simp only [go_sem, simprocAttr, PN, BA]
    refine hKC6 (1) _ ?_ ?_
    ·(try dsimp only); (rw [hw, if_pos (by simp only [Bool.or_eq_true, Bool.not_eq_true', decide_eq_true_eq, decide_eq_false_iff_not] at hb6; omega)])
    exact leM
   refine Ac ?_
   refine hKC6 (n) _ ?_ ?_
   ·(try dsimp only); (rw [hw, if_neg (by simp only [Bool.or_eq_false_iff, Bool.not_eq_false', decide_eq_true_eq, decide_eq_false_iff_not] at hb6; omega)])
   exact leM
  rintro m hmw
  refine Z 8 rfl ?_
  simp only [go_sem, simprocAttr, PN, BA]
  and_intros <;> try exact sdA
  refine Z 4 rfl ?_
  simp only [go_sem, simprocAttr, inI, PN, BA]
  and_intros <;> try exact sdA
  refine hKL0 (i + 1, xs ++ [m]) _ ?_ ?_ ?_
  ·(try dsimp only); exact ⟨hc3, by rw [hx, hmw, AI hc3, List.map_append]; rfl, by simp [hxl]⟩
  ·(try dsimp only); omega
  refine Le.mk _ _ ?_ ?_ rfl <;> simp only [go_sem, simprocAttr, Bm, List.length_append, List.length_cons, List.length_nil] <;> and_intros <;> try exact leA
 simp only [hcL] at hc3
 rw [List.take_of_length_le hc3] at hx
 refine Ai ?_
 simp only [go_sem, simprocAttr]
 refine Aa (Z 9 rfl ?_)
 simp only [go_sem, simprocAttr, PN, BA]
 refine AW.le (s' := ⟨mkE [(4, .list (AY xs) false)], mkH []⟩) (Le.mk _ _ ?_ ?_ rfl) (Ae (hQ _ _ (.inl rfl) ?_ ?_ ?_)) <;> simp only [go_sem, simprocAttr, fWe, ← hx]
 exact Cq rfl (by rw [Bp]) rfl (CV _)
def LA : Tab
 | 91 => (gOf PR Wx)
 | 92 => (gOf aWe fWe)
 | 93 => (gOf aSp EM)
 | _ => gNo
theorem YM : ∀ f, PU f (LA f) := fun f => by
 unfold LA
 split
 ·exact Pg
 ·exact Pc
 ·exact VB
 ·exact Ao.no
theorem Ph : PU 46 (gOf aCo fCo) := by
 have hG := YM
 refine Ai6.a MK (by simp [aCo]) ?_
 rintro ⟨⟨ps, ds⟩, l, q⟩ hv C hN Q hQ
 have Y := Ai6.D EF0 hG hN mixed
 have Z := Ai6.R EF0 hG hN
 obtain ⟨hm, hl, hpl, hpo⟩ : COk ⟨ps, ds⟩ l q := hv
 have hl2 : l.length ≤ 140737488355328 := by omega
 have hpl2 : q.parts.length ≤ 140737488355328 := by omega
 refine Aa (Z 0 rfl ?_)
 simp only [go_sem, simprocAttr, aCo, Places.enc, Quote.enc, LA, Bc, BC, Av]
 refine Aa (Aa (Z 1 rfl ?_))
 simp only [go_sem, simprocAttr, hpl2, List.length_map, LA, Bc, BC, Av]
 and_intros <;> try exact sdA
 refine Ab rfl (fun hb1 => ?_) fun hb1 => ?_
 ·have hcm : DP ⟨ps, ds⟩ l q = (2, []) := by unfold DP; rw [if_neg (by simpa using hb1)]
  refine Aa (Z 2 rfl ?_)
  simp only [go_sem, simprocAttr, LA, Bc, BC, Av]
  refine AW.le (s' := ⟨mkE [(6, .list [] false), (7, .int .i64 2)], mkH []⟩) (Le.mk _ _ ?_ ?_ rfl) (Ae (hQ _ _ (.inl rfl) ?_ ?_ ?_)) <;> simp only [go_sem, simprocAttr, fCo, hcm, Cr, Cy]
 have hdv : Ds l.length 0 q.parts = true := by simpa using hb1
 refine Ac ?_
 obtain ⟨W, hW⟩ : ∃ W, W = l.map (wgt ⟨ps, ds⟩) := ⟨_, rfl⟩
 have hWl : W.length = l.length := by rw [hW, List.length_map]
 have hWi : ∀ w ∈ W, inI w := fun w hw => by rw [hW] at hw; obtain ⟨x, _, rfl⟩ := List.mem_map.1 hw; have := Xl hm x; unfold inI; omega
 have hcm : DP ⟨ps, ds⟩ l q = HZ W q.parts := by unfold DP; rw [if_pos hdv, hW]
 refine Aa (Z 3 rfl ?_)
 simp only [go_sem, simprocAttr, hm, hl, LA, Bc, BC, Av]
 and_intros <;> try exact sdA
 rw [← hW]
 refine Aa (Z 4 rfl ?_)
 simp only [go_sem, simprocAttr, LA, Bc, BC, Av]
 refine Aa (Aa (Z 5 rfl ?_))
 simp only [go_sem, simprocAttr, LA, Bc, BC, Av]
 refine Ad ?_
 refine Aj (α := Nat × (List Int)) (fun γ => (γ.1 ≤ q.parts.length) ∧ (Ds l.length γ.2.length (q.parts.drop γ.1) = true) ∧ (HZ W q.parts = Wj γ.2 (HZ W (q.parts.drop γ.1))) ∧ (γ.2.length ≤ l.length)) (fun γ => ⟨mkE [(5, V.ptr 5 0), (8, V.list (AY W) false), (9, .own 52 γ.2.length), (10, .int .i64 γ.1)], mkH [(5, Ob.box 37 [V.list (List.map Part.enc q.parts) false, V.list (List.map Two.enc q.pairs) false, V.list (List.map Charge.enc q.taxes) false, V.int IntKind.i64 q.fare, V.int IntKind.i64 q.total]), (52, .arr 3 1 (AY γ.2))]⟩) (fun γ => q.parts.length - γ.1) (0, []) ⟨Nat.zero_le _, hdv, (NG _ _), Nat.zero_le _⟩ ?_ ?_
 ·refine Le.mk _ _ ?_ ?_ rfl <;> simp only [go_sem, simprocAttr, Cy] <;> and_intros <;> try exact leA
 rintro ⟨i, xs⟩ ⟨hi, hd, hc, hx⟩ KL0 hKL0
 try dsimp only at *
 refine Aa (Aa (Z 6 rfl ?_))
 simp only [go_sem, simprocAttr, List.length_map, LA, Bc, BC, Av]
 refine Ab rfl (fun hc6 => ?_) fun hc6 => ?_
 ·simp only [hcL] at hc6
  refine Ac ?_
  refine Aa (Ad ?_)
  have hdd := List.drop_eq_getElem_cons hc6
  rw [hdd, Ds] at hd
  obtain ⟨x, hxx⟩ : ∃ x, x = q.parts[i] := ⟨_, rfl⟩
  rw [← hxx] at hd
  have hxo : x.ok := hxx ▸ hpo _ (List.getElem_mem hc6)
  obtain ⟨hdx, hd⟩ : ¬(x.from' ≠ xs.length ∨ x.to' ≤ xs.length ∨ (l.length : Int) < x.to') ∧ Ds l.length x.to' (q.parts.drop (i + 1)) = true := by split at hd; cases hd; exact ⟨‹_›, hd⟩
  have hb1 : 0 ≤ x.from' ∧ x.from' ≤ x.to' ∧ x.to' ≤ W.length := by omega
  obtain ⟨⟨e, s⟩, hsp⟩ : ∃ y, BE x.amount ((W.take x.to'.toNat).drop x.from'.toNat) = y := ⟨_, rfl⟩
  have hsl : ((W.take x.to'.toNat).drop x.from'.toNat).length = (x.to' - x.from').toNat := by rw [List.length_drop, List.length_take]; omega
  have hsi : ∀ w ∈ (W.take x.to'.toNat).drop x.from'.toNat, inI w := fun w hw => hWi w (List.mem_of_mem_take (List.mem_of_mem_drop hw))
  have hsub : ((AY W).take x.to'.toNat).drop x.from'.toNat = AY ((W.take x.to'.toNat).drop x.from'.toNat) := by rw [KM, KN]
  have hstep := SU (l := q.parts.drop (i + 1)) hsp xs
  rw [hdd, ← hxx, hstep] at hc
  have hfa := Hf hsp
  have hsl2 : ((W.take x.to'.toNat).drop x.from'.toNat).length ≤ 1000000 := by omega
  have hxi : inI x.amount := hxo.2.2.2
  refine Aa (Z 8 rfl ?_)
  simp only [go_sem, simprocAttr, Af _ _ _ _ hc6, hc6, ← hxx, Part.enc, List.length_map, LA, Bc, BC, Av]
  and_intros <;> try exact sdA
  refine Aa (Y 9 rfl (by kernel_rfl) ?_)
  simp only [go_sem, simprocAttr, hsub, hsp, Cr, hsl2, hxi, hsi, Bp, hb1.1, hb1.2.1, hb1.2.2, LA, Bc, BC, Av]
  and_intros <;> (try first | exact sdA | exact hsi)
  refine Aa (Aa (Z 10 rfl ?_))
  simp only [go_sem, simprocAttr, LA, Bc, BC, Av]
  refine Ab rfl (fun hb10 => ?_) fun hb10 => ?_
  ·have he : e ≠ 0 := by simpa using hb10
   rw [if_pos he] at hc
   refine Aa (Z 11 rfl ?_)
   simp only [go_sem, simprocAttr, LA, Bc, BC, Av]
   refine AW.le (s' := ⟨mkE [(6, .list [] false), (7, .int .i64 e)], mkH []⟩) (Le.mk _ _ ?_ ?_ rfl) (Ae (hQ _ _ (.inl rfl) ?_ ?_ ?_)) <;> simp only [go_sem, simprocAttr, fCo, Cr, hcm, hc, Cy]
  have he : e = 0 := by simpa using hb10
  rw [if_neg (by simpa using he)] at hc
  have hS := hfa.2 he
  have hsl3 : s.length = (x.to' - x.from').toNat := by rw [hS.len, hsl]
  refine Ac ?_
  refine Z 12 rfl ?_
  simp only [go_sem, simprocAttr, LA, Bc, BC, Av]
  and_intros <;> try exact sdA
  refine Z 7 rfl ?_
  simp only [go_sem, simprocAttr, inI, LA, Bc, BC, Av]
  and_intros <;> try exact sdA
  refine hKL0 (i + 1, xs ++ s) _ ?_ ?_ ?_
  ·(try dsimp only); exact ⟨hc6, by rw [List.length_append, hsl3, show (((xs.length + (x.to' - x.from').toNat : Nat)) : Int) = x.to' by omega]; exact hd, hc, by rw [List.length_append, hsl3]; omega⟩
  ·(try dsimp only); omega
  refine Le.mk _ _ ?_ ?_ rfl <;> simp only [go_sem, simprocAttr, ND, List.length_append] <;> and_intros <;> try exact leA
 simp only [hcL] at hc6
 rw [List.drop_eq_nil_of_le hc6, HZ] at hc
 refine Ai ?_
 simp only [go_sem, simprocAttr]
 refine Aa (Z 13 rfl ?_)
 simp only [go_sem, simprocAttr, LA, Bc, BC, Av]
 refine AW.le (s' := ⟨mkE [(6, .list (AY xs) false), (7, .int .i64 0)], mkH []⟩) (Le.mk _ _ ?_ ?_ rfl) (Ae (hQ _ _ (.inl rfl) ?_ ?_ ?_)) <;> simp only [go_sem, simprocAttr, fCo, Cr, hcm, hc, Wj, List.append_nil, not_true_eq_false, ne_eq]
 exact Cq rfl (by rw [Bp]) rfl (CV _)
theorem Ap (s : List UInt8) (a b : Int) : BS [.str s, .int .i64 a, .int .i64 b] = (s.length ≤ 140737488355328, .bool (Dt s a b)) := rfl
theorem Ut {h : Nat → Option Ob} {hl : List (Nat × Ob)} {n off len m : Nat} {fit : Bool} {rows R : List (List V)} {t : TypeId} {sz : Nat} (hn : h n = some (.arr t sz rows)) (hm : rows.length = m) (h' : mkH hl n = none) (hp : ∀ r ∈ rows, V.purs r = true) (hR : (rows.drop off).take len = R) : Wk h hl (.vw n off len m fit) (.list R fit) := by
 subst hm hR; exact .frzv n off len fit t sz rows hn h' hp
def Eg : List V → Prop × V
 | [.str s, .str [c]] => (True, .int .i64 (Lib.indexByte s c))
 | _ => (False, .any)
theorem Ad6 : PU 206 Eg := by
 refine Ao.leaf Tryz.func206 (by kernel_rfl : Tryz.f206.body = some ((Tryz.f206.body).getD .skip)) (by kernel_rfl) fun vs M w cargs hv hB hs ha => ?_
 match vs, hv, hs, ha with
 | [.str s, .str [c]], hv, hs, ha =>
 have h0 := (ha 0 _ rfl).str_inv
 have h2 := (ha 1 _ rfl).str_inv
 have h1 := GY hs
 rw [h0, h2] at h1
 rw [h1]
 refine (Tryz.strings_Index_one _ c w).mono ?_
 rintro e w' ⟨he, rfl⟩
 exact ⟨_, he, fun M' => .int _ _, Below.refl _ _⟩
def Eh : List V → Prop × V
 | [.str s, .str [c]] => (True, .int .i64 ((s.count c : Nat) : Int))
 | _ => (False, .any)
theorem AfH : PU 205 Eh := by
 refine Ao.leaf Tryz.func205 (by kernel_rfl : Tryz.f205.body = some ((Tryz.f205.body).getD .skip)) (by kernel_rfl) fun vs M w cargs hv hB hs ha => ?_
 match vs, hv, hs, ha with
 | [.str s, .str [c]], hv, hs, ha =>
 have h0 := (ha 0 _ rfl).str_inv
 have h2 := (ha 1 _ rfl).str_inv
 have h1 := GY hs
 rw [h0, h2] at h1
 rw [h1]
 refine (Tryz.strings_Count_one _ c w).mono ?_
 rintro e w' ⟨he, rfl⟩
 exact ⟨_, he, fun M' => .int _ _, Below.refl _ _⟩
def Ah9 : List V → Prop × V
 | [.str s, .int .u8 c] => (True, .int .i64 (Lib.indexByte s c.toNat.toUInt8))
 | _ => (False, .any)
theorem AhZ : PU 171 Ah9 := by
 refine Ao.leaf Tryz.func171 (by kernel_rfl : Tryz.f171.body = some ((Tryz.f171.body).getD .skip)) (by kernel_rfl) fun vs M w cargs hv hB hs ha => ?_
 match vs, hv, hs, ha with
 | [.str s, .int .u8 c], hv, hs, ha =>
 have h0 := (ha 0 _ rfl).str_inv
 have h2 := (ha 1 _ rfl).int_inv
 have h1 := GY hs
 rw [h0, h2] at h1
 rw [h1]
 refine (Tryz.strings_IndexByte _ c w).mono ?_
 rintro e w' ⟨he, rfl⟩
 exact ⟨_, he, fun M' => .int _ _, Below.refl _ _⟩
def AT : List UInt8 → List (List UInt8)
 | [] => [[]]
 | c :: s => if c = 32 then [] :: AT s else match AT s with
  | w :: r => (c :: w) :: r
  | [] => [[c]]
theorem He (s : List UInt8) : AT s ≠ [] := by
 cases s with
 | nil => simp [AT]
 | cons c s => unfold AT; split; (· simp); (· split <;> simp)
theorem Ga : ∀ s : List UInt8, (AT s).length = s.count 32 + 1
 | [] => rfl
 | c :: s => by
  have ih := Ga s
  unfold AT
  by_cases h : c = 32
  ·subst h; rw [if_pos rfl, List.length_cons, ih, List.count_cons_self]
  ·rw [if_neg h, List.count_cons_of_ne (by simpa using h)]
   cases h2 : AT s with
   | nil => exact absurd h2 (He s)
   | cons w r => rw [h2] at ih; simpa using ih
theorem Ad0 (s : List UInt8) (c : UInt8) : Lib.indexByte s c < s.length ∨ Lib.indexByte s c = -1 := by
 induction s with
 | nil => exact .inr rfl
 | cons b l ih =>
  unfold Lib.indexByte
  split
  ·left; simp
  ·split
   ·exact .inr rfl
   ·rename_i h1 h2
    have := Lib.indexByte_ge l c
    left
    rw [List.length_cons]
    rcases ih with ih | ih
    ·omega
    ·rw [ih] at h2; simp at h2
theorem Kg {s : List UInt8} (h : 0 ≤ Lib.indexByte s 32) : AT s = s.take (Lib.indexByte s 32).toNat :: AT (s.drop ((Lib.indexByte s 32).toNat + 1)) := by
 induction s with
 | nil => exact absurd h (by decide)
 | cons b l ih =>
  have hg := Lib.indexByte_ge l 32
  unfold Lib.indexByte at h ⊢
  by_cases hb : b = 32
  ·subst hb
   rw [AT, if_pos rfl]
   simp
  ·have hb2 : (b == 32) = false := by simpa using hb
   rw [hb2] at h ⊢
   simp only [Bool.false_eq_true, if_false] at h ⊢
   by_cases h1 : Lib.indexByte l 32 = -1
   ·rw [h1] at h; exact absurd h (by decide)
   ·have h2 : (Lib.indexByte l 32 == -1) = false := by simpa using h1
    rw [h2] at h ⊢
    simp only [Bool.false_eq_true, if_false] at h ⊢
    have e : (Lib.indexByte l 32 + 1).toNat = (Lib.indexByte l 32).toNat + 1 := by omega
    rw [e, List.take_succ_cons, List.drop_succ_cons, AT, if_neg hb, ih (by omega)]
theorem Kf {s : List UInt8} (h : Lib.indexByte s 32 < 0) : AT s = [s] := by
 induction s with
 | nil => rfl
 | cons b l ih =>
  have hg := Lib.indexByte_ge l 32
  unfold Lib.indexByte at h
  by_cases hb : b = 32
  ·subst hb; simp at h
  ·have hb2 : (b == 32) = false := by simpa using hb
   rw [hb2] at h
   simp only [Bool.false_eq_true, if_false] at h
   by_cases h1 : Lib.indexByte l 32 = -1
   ·rw [AT, if_neg hb, ih (by omega)]
   ·have h2 : (Lib.indexByte l 32 == -1) = false := by simpa using h1
    rw [h2] at h
    simp only [Bool.false_eq_true, if_false] at h
    omega
theorem OT {t : List UInt8} (h : (AT t).length = 1) : AT t = [t] := by
 rcases Int.lt_or_le (Lib.indexByte t 32) 0 with h0 | h0
 ·exact Kf h0
 ·rw [Kg h0, List.length_cons] at h
  have := List.length_pos_iff.2 (He (t.drop ((Lib.indexByte t 32).toNat + 1)))
  omega
def Ff (d : List (List UInt8)) (k : Nat) : List (List V) := strs (d ++ List.replicate k [])
theorem FA (d : List (List UInt8)) (k : Nat) : (Ff d k).length = d.length + k := by unfold Ff; rw [DA, List.length_append, List.length_replicate]
theorem Kl (d : List (List UInt8)) (k : Nat) (hk : 0 < k) (w : List UInt8) : (Ff d k).set d.length [.str w] = Ff (d ++ [w]) (k - 1) := by
 unfold Ff strs
 obtain ⟨k, rfl⟩ : ∃ m, k = m + 1 := ⟨k - 1, by omega⟩
 rw [show ([V.str w] : List V) = (fun s : List UInt8 => [V.str s]) w from rfl, ← List.map_set]
 congr 1
 rw [List.set_append_right _ _ (Nat.le_refl _), Nat.sub_self, List.replicate_succ, List.set_cons_zero, Nat.add_sub_cancel, List.append_assoc]
 rfl
theorem Pb (d : List (List UInt8)) (k : Nat) : (∀ r ∈ Ff d k, r.length = 1) ↔ True := iff_true_intro (MY _)
theorem Pa (d : List (List UInt8)) (k : Nat) : (∀ r ∈ Ff d k, V.purs r = true) ↔ True := iff_true_intro (IS _)
attribute [go_sem] Pb Pa
theorem Km (d : List (List UInt8)) (k : Nat) (hk : 0 < k) (z : List V) : (Ff d k).getD d.length z = [.str []] := by
 unfold Ff
 rw [DS _ _ _ (by rw [List.length_append, List.length_replicate]; omega)]
 simp
theorem LN (k : Nat) : List.replicate k [V.str []] = Ff [] k := by unfold Ff strs; rw [List.nil_append, List.map_replicate]
theorem Gc (d : List (List UInt8)) : Ff d 0 = strs d := by unfold Ff; rw [List.replicate_zero, List.append_nil]
def Ym (s : List UInt8) : List V := [.str s, .str [32], .int .i64 0, .int .i64 (-1)]
theorem OG (a b : List UInt8) (h : Ym a = Ym b) : a = b := by simpa [Ym] using h
def XJ (s : List UInt8) : Prop × V := (s.length ≤ 1000, .list (strs (AT s)) false)
theorem Sw (s : List UInt8) : gOf Ym XJ [.str s, .str [32], .int .i64 0, .int .i64 (-1)] = (s.length ≤ 1000, .list (strs (AT s)) false) := Ar OG s
def IR : Tab
 | 206 => Eg
 | 205 => Eh
 | _ => gNo
theorem Zt : ∀ f, PU f (IR f) := fun f => by
 unfold IR
 split
 ·exact Ad6
 ·exact AfH
 ·exact Ao.no
theorem Ah6 : PU 173 (gOf Ym XJ) := by
 have hG := Zt
 refine AeF.a OG (by simp [Ym]) ?_
 rintro s hv C hN Q hQ
 have Z := AeF.R EF0 hG hN
 replace hv : s.length ≤ 1000 := hv
 have hcn := Ga s
 have hcl : s.count 32 ≤ s.length := List.count_le_length
 generalize hNc : s.count 32 = N at hcn hcl
 have hmin : min ((N : Int) + 1) ((s.length : Int) + 1) = (N : Int) + 1 := by omega
 have hN1 : ((N : Int) + 1).toNat = N + 1 := by omega
 have hN2 : 0 ≤ (N : Int) + 1 := by omega
 have hnn : (N : Int) + 1 - 1 = (N : Int) := by omega
 refine Aa (Z 0 rfl ?_)
 simp only [go_sem, simprocAttr, Ym, IR, Eg, Eh]
 refine Aa (Aa (Z 1 rfl ?_))
 simp only [go_sem, simprocAttr, IR, Eg, Eh]
 refine Be rfl ?_
 refine Ac ?_
 refine Aa (Aa (Z 3 rfl ?_))
 simp only [go_sem, simprocAttr, IR, Eg, Eh]
 refine Be rfl ?_
 refine Ac ?_
 refine Aa (Aa (Z 5 rfl ?_))
 simp only [go_sem, simprocAttr, IR, Eg, Eh]
 refine FQ rfl ?_
 refine Z 6 rfl ?_
 simp only [go_sem, simprocAttr, inI, hNc, IR, Eg, Eh]
 and_intros <;> try exact sdA
 refine Aa (Z 7 rfl ?_)
 simp only [go_sem, simprocAttr, inI, hmin, IR, Eg, Eh]
 and_intros <;> try exact sdA
 refine Aa (Z 8 rfl ?_)
 simp only [go_sem, simprocAttr, LN, hN1, FA, hN2, IR, Eg, Eh]
 and_intros <;> try exact sdA
 refine Aa (Z 9 rfl ?_)
 simp only [go_sem, simprocAttr, inI, hnn, IR, Eg, Eh]
 and_intros <;> try exact sdA
 refine Aa (Z 10 rfl ?_)
 simp only [go_sem, simprocAttr, IR, Eg, Eh]
 refine Aa (Ad ?_)
 refine Aj (α := (List UInt8) × (List (List UInt8))) (fun γ => (AT s = γ.2 ++ AT γ.1) ∧ (γ.2.length ≤ N) ∧ (γ.1.length ≤ s.length)) (fun γ => ⟨mkE [(0, .str γ.1), (1, V.str [32]), (2, V.int IntKind.i64 0), (3, V.int IntKind.i64 ↑N), (9, V.own 31 (N + 1)), (10, .int .i64 γ.2.length)], mkH [(31, .arr 9 1 (Ff γ.2 (N + 1 - γ.2.length)))]⟩) (fun γ => N - γ.2.length) (s, []) ⟨rfl, Nat.zero_le _, Nat.le_refl _⟩ ?_ ?_
 ·exact leM
 rintro ⟨t, d⟩ ⟨hw, hd, ht⟩ KL0 hKL0
 try dsimp only at *
 refine Aa (Aa (Z 11 rfl ?_))
 simp only [go_sem, simprocAttr, IR, Eg, Eh]
 refine Ab rfl (fun hb11 => ?_) fun hb11 => ?_
 ·have hdn : d.length < N := by have := of_decide_eq_true hb11; omega
  refine Ac ?_
  refine Ad ?_
  have hlw : 2 ≤ (AT t).length := by have := congrArg List.length hw; rw [List.length_append] at this; omega
  have hge : 0 ≤ Lib.indexByte t 32 := by rcases Int.lt_or_le (Lib.indexByte t 32) 0 with h | h; (rw [Kf h] at hlw; simp at hlw); exact h
  have hlt : Lib.indexByte t 32 < t.length := by rcases Ad0 t 32 with h | h; exact h; omega
  have hst := Kg hge
  generalize hm : Lib.indexByte t 32 = m at hge hlt hst
  obtain ⟨m, rfl⟩ := Int.eq_ofNat_of_zero_le hge
  rw [Int.toNat_natCast] at hst
  refine Aa (Z 12 rfl ?_)
  simp only [go_sem, simprocAttr, hm, IR, Eg, Eh]
  and_intros <;> try exact sdA
  refine Aa ?_
  have hb13 : decide ((m : Int) < 0) = false := decide_eq_false (by omega)
  refine Aa (Z 13 rfl ?_)
  simp only [go_sem, simprocAttr, hb13, IR, Eg, Eh]
  refine Be rfl ?_
  refine Ac ?_
  have hk0 : 0 < N + 1 - d.length := by omega
  refine Aa (Z 14 rfl ?_)
  simp only [go_sem, simprocAttr, inI, Int.add_zero, Int.toNat_natCast, List.drop_zero, FA, Km _ _ hk0, List.drop_succ_cons, List.drop_nil, Kl _ _ hk0, IR, Eg, Eh]
  and_intros <;> try exact sdA
  refine Aa (Z 15 rfl ?_)
  simp only [go_sem, simprocAttr, inI, show (((m : Nat) : Int) + 1).toNat = m + 1 by omega, List.take_length, IR, Eg, Eh]
  and_intros <;> try exact sdA
  refine Z 16 rfl ?_
  simp only [go_sem, simprocAttr, inI, IR, Eg, Eh]
  and_intros <;> try exact sdA
  refine hKL0 (t.drop (m + 1), d ++ [t.take m]) _ ?_ ?_ ?_
  ·(try dsimp only); exact ⟨by rw [hw, hst, List.append_assoc]; rfl, by rw [List.length_append, List.length_cons, List.length_nil]; omega, by rw [List.length_drop]; omega⟩
  ·(simp only [List.length_append, List.length_cons, List.length_nil]; omega)
  refine Le.mk _ _ ?_ ?_ rfl <;> simp only [go_sem, simprocAttr, List.length_append, List.length_cons, List.length_nil, show N + 1 - (d.length + (0 + 1)) = N + 1 - d.length - 1 by omega] <;> and_intros <;> try exact leA
 refine Ai ?_
 simp only [go_sem, simprocAttr]
 have hdN : d.length = N := by have := of_decide_eq_false hb11; omega
 have hl1 : (AT t).length = 1 := by have := congrArg List.length hw; rw [List.length_append] at this; omega
 have hlast : AT t = [t] := OT hl1
 have hkN : N + 1 - d.length = 1 := by omega
 refine Aa (Z 17 rfl ?_)
 simp only [go_sem, simprocAttr, hkN, FA, Km _ _ Nat.zero_lt_one, List.drop_succ_cons, List.drop_nil, Kl _ _ Nat.zero_lt_one, IR, Eg, Eh]
 and_intros <;> try exact sdA
 have hfin : Ff (d ++ [t]) (1 - 1) = strs (AT s) := by rw [hw, hlast]; exact Gc _
 have hfin2 : strs (d ++ [t]) = strs (AT s) := by rw [hw, hlast]
 refine Aa (Z 18 rfl ?_)
 simp only [go_sem, simprocAttr, inI, hkN, FA, Gc, IR, Eg, Eh]
 and_intros <;> try exact sdA
 refine AW.le (s' := ⟨mkE [(8, .list (strs (AT s)) false)], mkH []⟩) (Le.mk _ _ ?_ ?_ rfl) (Ae (hQ _ _ (.inl rfl) ?_ ?_ ?_)) <;> simp only [go_sem, simprocAttr, XJ]
 (try rw [show 1 - 1 = 0 from rfl]); (try rw [Gc]); (rw [hfin2]; exact Ut rfl (by rw [DA, hcn]) rfl (IS _) (by rw [List.drop_zero, List.take_of_length_le (by rw [DA, hcn]; omega)]))
def Yk (s : List UInt8) : List V := [.str s, .str [32]]
theorem OA (a b : List UInt8) (h : Yk a = Yk b) : a = b := by simpa [Yk] using h
theorem DO (s : List UInt8) : gOf Yk XJ [.str s, .str [32]] = (s.length ≤ 1000, .list (strs (AT s)) false) := Ar OA s
def UQ : Tab
 | 173 => (gOf Ym XJ)
 | _ => gNo
theorem UP : ∀ f, PU f (UQ f) := fun f => by
 unfold UQ
 split
 ·exact Ah6
 ·exact Ao.no
theorem UZ : PU 115 (gOf Yk XJ) := by
 have hG := UP
 refine Afe.a OA (by simp [Yk]) ?_
 rintro s hv C hN Q hQ
 have Z := Afe.R EF0 hG hN
 replace hv : s.length ≤ 1000 := hv
 refine Aa (Z 0 rfl ?_)
 simp only [go_sem, simprocAttr, Yk, UQ, Sw, hv]
 refine Aa (Z 1 rfl ?_)
 simp only [go_sem, simprocAttr, UQ, Sw, hv]
 and_intros <;> try exact sdA
 refine Ae (hQ _ _ (.inl rfl) ?_ ?_ ?_) <;> simp only [go_sem, simprocAttr, XJ]
def okF : Bool → List UInt8 → Bool
 | p, [] => !p
 | p, c :: s => if c = 32 then !p && okF true s else capB (c.toNat : Int) && okF false s
def Md (s : List UInt8) : Bool := decide ((s.length : Int) ≤ 30) && okF true s
def OJ (w : List UInt8) : Bool := !decide (w = []) && HV capB w
theorem MS : ∀ (s : List UInt8), (∀ w r, AT s = w :: r → okF false s = (HV capB w && r.all OJ)) ∧ okF true s = (AT s).all OJ
 | [] => by
  refine ⟨fun w r h => ?_, rfl⟩
  simp only [AT] at h
  injection h with h1 h2
  subst h1 h2
  rfl
 | c :: s => by
  obtain ⟨ih1, ih2⟩ := MS s
  by_cases hc : c = 32
  ·subst hc
   have e : AT (32 :: s) = [] :: AT s := by rw [AT, if_pos rfl]
   refine ⟨fun w r h => ?_, ?_⟩
   ·rw [e] at h
    injection h with h1 h2
    subst h1 h2
    rw [okF, if_pos rfl, ih2]; rfl
   ·rw [e, okF, if_pos rfl]; rfl
  ·cases h2 : AT s with
   | nil => exact absurd h2 (He s)
   | cons w r =>
    have e : AT (c :: s) = (c :: w) :: r := by rw [AT, if_neg hc, h2]
    have a1 : HV capB (c :: w) = (capB (c.toNat : Int) && HV capB w) := rfl
    refine ⟨fun w' r' h => ?_, ?_⟩
    ·rw [e] at h
     injection h with h3 h4
     subst h3 h4
     rw [okF, if_neg hc, ih1 w r h2, a1, Bool.and_assoc]
    ·rw [e, okF, if_neg hc, ih1 w r h2, List.all_cons, OJ, a1]
     simp [Bool.and_assoc]
theorem Fa (s : List UInt8) (h : fOf 117 = some capB) : HD [.str s, .fn 117 []] = (s.length ≤ 140737488355328, .bool (HV capB s)) := by
 simp only [HD, h]
theorem OU {s w : List UInt8} (h : w ∈ AT s) : w.length ≤ s.length := by
 induction s generalizing w with
 | nil => simp [AT] at h; subst h; exact Nat.le_refl _
 | cons c s ih =>
  unfold AT at h
  split at h
  ·rcases List.mem_cons.1 h with rfl | h
   ·simp
   ·have := ih h; rw [List.length_cons]; omega
  ·split at h
   ·rename_i w' r e
    rcases List.mem_cons.1 h with rfl | h
    ·have := ih (w := w') (by rw [e]; exact List.mem_cons_self ..); simp; omega
    ·have := ih (w := w) (by rw [e]; exact List.mem_cons_of_mem _ h); rw [List.length_cons]; omega
   ·simp at h; subst h; simp
def Pv (s : List UInt8) : Prop × V := (s.length ≤ 140737488355328, .bool (Md s))
theorem Bd (s : List UInt8) : gOf Ey Pv [.str s] = (s.length ≤ 140737488355328, .bool (Md s)) := Ar CF s
theorem Up : fOf 117 = some capB := by simp [fOf]
def tNm : Tab
 | 115 => (gOf Yk XJ)
 | 116 => HD
 | _ => gNo
theorem AcS : ∀ f, PU f (tNm f) := fun f => by
 unfold tNm
 split
 ·exact UZ
 ·exact Sx
 ·exact Ao.no
theorem AdR : PU 61 (gOf Ey Pv) := by
 have hG := AcS
 refine AiZ.a CF (by simp [Ey]) ?_
 rintro s hv C hN Q hQ
 have Z := AiZ.R EF0 hG hN
 replace hv : s.length ≤ 140737488355328 := hv
 have hws := (MS s).2
 refine Aa (Z 0 rfl ?_)
 simp only [go_sem, simprocAttr, Ey, tNm, DO, Fa _ Up]
 refine Aa (Aa (Z 1 rfl ?_))
 simp only [go_sem, simprocAttr, tNm, DO, Fa _ Up]
 refine Ab rfl (fun hb1 => ?_) fun hb1 => ?_
 ·refine Aa (Z 2 rfl ?_)
  simp only [go_sem, simprocAttr, tNm, DO, Fa _ Up]
  refine Ae (hQ _ _ (.inl rfl) ?_ ?_ ?_) <;> simp only [go_sem, simprocAttr, Pv, Md]
  rw [decide_eq_false (by have := of_decide_eq_true hb1; omega), Bool.false_and]
 refine Ac ?_
 refine Aa ?_
 have hl : s.length ≤ 30 := by have := of_decide_eq_false hb1; omega
 have hd30 : decide ((s.length : Int) ≤ 30) = true := decide_eq_true (by omega)
 have hl3 : s.length ≤ 1000 := by omega
 have hWl : (AT s).length ≤ 1001 := by rw [Ga]; have := List.count_le_length (a := 32) (l := s); omega
 generalize hW : AT s = W at hws hWl
 refine Aa (Z 3 rfl ?_)
 simp only [go_sem, simprocAttr, hl3, hW, tNm, DO, Fa _ Up]
 and_intros <;> try exact sdA
 refine Ad ?_
 refine Aj (α := Nat) (fun i => (i ≤ W.length) ∧ (∀ w ∈ W.take i, OJ w = true)) (fun i => ⟨mkE [(9, V.list (strs W) false), (10, V.int IntKind.i64 ↑W.length), (11, .int .i64 i)], mkH []⟩) (fun i => W.length - i) 0 (by simp) ?_ ?_
 ·exact leM
 rintro i ⟨hi, hp⟩ KL0 hKL0
 try dsimp only at *
 refine Aa (Z 4 rfl ?_)
 simp only [go_sem, simprocAttr, tNm, DO, Fa _ Up]
 refine Aa ?_
 refine Ab rfl (fun hc4 => ?_) fun hc4 => ?_
 ·simp only [hcL] at hc4
  refine Ac ?_
  refine Aa (Ad ?_)
  refine Aa (Z 5 rfl ?_)
  simp only [go_sem, simprocAttr, DS _ _ _ hc4, hc4, tNm, DO, Fa _ Up]
  and_intros <;> try exact sdA
  have hwl : (W[i]).length ≤ 140737488355328 := by have := OU (s := s) (w := W[i]) (by rw [hW]; exact List.getElem_mem hc4); omega
  refine Aa (Z 6 rfl ?_)
  simp only [go_sem, simprocAttr, hwl, tNm, DO, Fa _ Up]
  and_intros <;> try exact sdA
  refine Ab rfl (fun hb6 => ?_) fun hb6 => ?_
  ·refine Aa (Z 7 rfl ?_)
   simp only [go_sem, simprocAttr, tNm, DO, Fa _ Up]
   refine Ae (hQ _ _ (.inl rfl) ?_ ?_ ?_) <;> simp only [go_sem, simprocAttr, Pv, Md]
   rw [hd30, Bool.true_and, hws, List.all_eq_false.2 ⟨_, List.getElem_mem hc4, by unfold OJ; revert hb6; cases decide (W[i] = []) <;> cases HV capB W[i] <;> simp⟩]
  refine Ac ?_
  refine Z 8 rfl ?_
  simp only [go_sem, simprocAttr, inI, tNm, DO, Fa _ Up]
  and_intros <;> try exact sdA
  refine hKL0 (i + 1) _ ?_ ?_ ?_
  ·(try dsimp only); refine ⟨hc4, fun w hw => ?_⟩; rw [AI hc4, List.mem_append, List.mem_singleton] at hw; rcases hw with hw | rfl; (exact hp w hw); (unfold OJ; revert hb6; cases decide (W[i] = []) <;> cases HV capB W[i] <;> simp)
  ·(try dsimp only); omega
  exact leM
 simp only [hcL] at hc4
 refine Ai ?_
 simp only [go_sem, simprocAttr]
 refine Aa (Z 9 rfl ?_)
 simp only [go_sem, simprocAttr, tNm, DO, Fa _ Up]
 refine Ae (hQ _ _ (.inl rfl) ?_ ?_ ?_) <;> simp only [go_sem, simprocAttr, Pv, Md]
 rw [hd30, Bool.true_and, hws, List.all_eq_true.2 (RD hc4 hp)]
end Go.Proofs.YtjkclhbckfkeeaaGreatDoor
end
