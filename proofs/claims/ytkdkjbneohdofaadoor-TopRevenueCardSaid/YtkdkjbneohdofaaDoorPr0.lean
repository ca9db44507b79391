/- Data of the chapter. -/
import Derived.Test.YtkdkjbneohdofaaDoorT3
namespace Go.Proofs.YtkdkjbneohdofaaDoor
open Go Go.RowKit
set_option linter.unusedSimpArgs false
set_option linter.unusedVariables false
set_option linter.deprecated false
structure Seg where
  carrier : List UInt8
  number : Int
  day : Int
  from' : List UInt8
  to' : List UInt8
  dep : Int
  arr : Int
def Seg.enc (x : Seg) : List V := [.str x.carrier, .int .i64 x.number, .int .i64 x.day, .str x.from', .str x.to', .int .i64 x.dep, .int .i64 x.arr]
theorem Seg.inj (a b : Seg) (h : a.enc = b.enc) : a = b := by
  obtain ⟨a_carrier, a_number, a_day, a_from', a_to', a_dep, a_arr⟩ := a
  obtain ⟨b_carrier, b_number, b_day, b_from', b_to', b_dep, b_arr⟩ := b
  simp only [Seg.enc, List.cons.injEq, V.str.injEq, V.int.injEq, V.bool.injEq, V.agg.injEq, V.list.injEq, and_true, true_and] at h
  obtain ⟨h0, h1, h2, h3, h4, h5, h6⟩ := h
  subst h0
  subst h1
  subst h2
  subst h3
  subst h4
  subst h5
  subst h6
  rfl
def Seg.ok (x : Seg) : Prop := x.carrier.length ≤ 140737488355328 ∧ inI x.number ∧ inI x.day ∧ x.from'.length ≤ 140737488355328 ∧ x.to'.length ≤ 140737488355328 ∧ inI x.dep ∧ inI x.arr
def Seg.zero : Seg := ⟨[], 0, 0, [], [], 0, 0⟩
theorem Seg.rows (l : List Seg) : (∀ r ∈ l.map Seg.enc, r.length = 7) ↔ True := iff_true_intro fun r hr => by obtain ⟨x, _, rfl⟩ := List.mem_map.1 hr; rfl
theorem Seg.purs (l : List Seg) : (∀ r ∈ l.map Seg.enc, V.purs r = true) ↔ True := iff_true_intro fun r hr => by obtain ⟨x, _, rfl⟩ := List.mem_map.1 hr; rfl
attribute [go_sem] Seg.rows Seg.purs
theorem Seg.mapLen (l : List Seg) : (l.map Seg.enc).length = l.length := List.length_map _
structure Want where
  seg : Seg
  cls : List UInt8
def Want.enc (x : Want) : List V := [.str x.seg.carrier, .int .i64 x.seg.number, .int .i64 x.seg.day, .str x.seg.from', .str x.seg.to', .int .i64 x.seg.dep, .int .i64 x.seg.arr, .str x.cls]
theorem Want.inj (a b : Want) (h : a.enc = b.enc) : a = b := by
  obtain ⟨⟨a_seg_carrier, a_seg_number, a_seg_day, a_seg_from', a_seg_to', a_seg_dep, a_seg_arr⟩, a_cls⟩ := a
  obtain ⟨⟨b_seg_carrier, b_seg_number, b_seg_day, b_seg_from', b_seg_to', b_seg_dep, b_seg_arr⟩, b_cls⟩ := b
  simp only [Want.enc, List.cons.injEq, V.str.injEq, V.int.injEq, V.bool.injEq, V.agg.injEq, V.list.injEq, and_true, true_and] at h
  obtain ⟨h0, h1, h2, h3, h4, h5, h6, h7⟩ := h
  subst h0
  subst h1
  subst h2
  subst h3
  subst h4
  subst h5
  subst h6
  subst h7
  rfl
def Want.ok (x : Want) : Prop := x.seg.ok ∧ x.cls.length ≤ 140737488355328
def Want.zero : Want := ⟨Seg.zero, []⟩
theorem Want.rows (l : List Want) : (∀ r ∈ l.map Want.enc, r.length = 8) ↔ True := iff_true_intro fun r hr => by obtain ⟨x, _, rfl⟩ := List.mem_map.1 hr; rfl
theorem Want.purs (l : List Want) : (∀ r ∈ l.map Want.enc, V.purs r = true) ↔ True := iff_true_intro fun r hr => by obtain ⟨x, _, rfl⟩ := List.mem_map.1 hr; rfl
attribute [go_sem] Want.rows Want.purs
theorem Want.mapLen (l : List Want) : (l.map Want.enc).length = l.length := List.length_map _
structure Part where
  from' : Int
  to' : Int
  fare : Int
  amount : Int
def Part.enc (x : Part) : List V := [.int .i64 x.from', .int .i64 x.to', .int .i64 x.fare, .int .i64 x.amount]
theorem Part.inj (a b : Part) (h : a.enc = b.enc) : a = b := by
  obtain ⟨a_from', a_to', a_fare, a_amount⟩ := a
  obtain ⟨b_from', b_to', b_fare, b_amount⟩ := b
  simp only [Part.enc, List.cons.injEq, V.str.injEq, V.int.injEq, V.bool.injEq, V.agg.injEq, V.list.injEq, and_true, true_and] at h
  obtain ⟨h0, h1, h2, h3⟩ := h
  subst h0
  subst h1
  subst h2
  subst h3
  rfl
def Part.ok (x : Part) : Prop := inI x.from' ∧ inI x.to' ∧ inI x.fare ∧ inI x.amount
def Part.zero : Part := ⟨0, 0, 0, 0⟩
theorem Part.rows (l : List Part) : (∀ r ∈ l.map Part.enc, r.length = 4) ↔ True := iff_true_intro fun r hr => by obtain ⟨x, _, rfl⟩ := List.mem_map.1 hr; rfl
theorem Part.purs (l : List Part) : (∀ r ∈ l.map Part.enc, V.purs r = true) ↔ True := iff_true_intro fun r hr => by obtain ⟨x, _, rfl⟩ := List.mem_map.1 hr; rfl
attribute [go_sem] Part.rows Part.purs
theorem Part.mapLen (l : List Part) : (l.map Part.enc).length = l.length := List.length_map _
structure Charge where
  code : List UInt8
  amount : Int
def Charge.enc (x : Charge) : List V := [.str x.code, .int .i64 x.amount]
theorem Charge.inj (a b : Charge) (h : a.enc = b.enc) : a = b := by
  obtain ⟨a_code, a_amount⟩ := a
  obtain ⟨b_code, b_amount⟩ := b
  simp only [Charge.enc, List.cons.injEq, V.str.injEq, V.int.injEq, V.bool.injEq, V.agg.injEq, V.list.injEq, and_true, true_and] at h
  obtain ⟨h0, h1⟩ := h
  subst h0
  subst h1
  rfl
def Charge.ok (x : Charge) : Prop := x.code.length ≤ 140737488355328 ∧ inI x.amount
def Charge.zero : Charge := ⟨[], 0⟩
theorem Charge.rows (l : List Charge) : (∀ r ∈ l.map Charge.enc, r.length = 2) ↔ True := iff_true_intro fun r hr => by obtain ⟨x, _, rfl⟩ := List.mem_map.1 hr; rfl
theorem Charge.purs (l : List Charge) : (∀ r ∈ l.map Charge.enc, V.purs r = true) ↔ True := iff_true_intro fun r hr => by obtain ⟨x, _, rfl⟩ := List.mem_map.1 hr; rfl
attribute [go_sem] Charge.rows Charge.purs
theorem Charge.mapLen (l : List Charge) : (l.map Charge.enc).length = l.length := List.length_map _
structure Two where
  a : Int
  b : Int
def Two.enc (x : Two) : List V := [.int .i64 x.a, .int .i64 x.b]
theorem Two.inj (a b : Two) (h : a.enc = b.enc) : a = b := by
  obtain ⟨a_a, a_b⟩ := a
  obtain ⟨b_a, b_b⟩ := b
  simp only [Two.enc, List.cons.injEq, V.str.injEq, V.int.injEq, V.bool.injEq, V.agg.injEq, V.list.injEq, and_true, true_and] at h
  obtain ⟨h0, h1⟩ := h
  subst h0
  subst h1
  rfl
def Two.ok (x : Two) : Prop := inI x.a ∧ inI x.b
def Two.zero : Two := ⟨0, 0⟩
theorem Two.rows (l : List Two) : (∀ r ∈ l.map Two.enc, r.length = 2) ↔ True := iff_true_intro fun r hr => by obtain ⟨x, _, rfl⟩ := List.mem_map.1 hr; rfl
theorem Two.purs (l : List Two) : (∀ r ∈ l.map Two.enc, V.purs r = true) ↔ True := iff_true_intro fun r hr => by obtain ⟨x, _, rfl⟩ := List.mem_map.1 hr; rfl
attribute [go_sem] Two.rows Two.purs
theorem Two.mapLen (l : List Two) : (l.map Two.enc).length = l.length := List.length_map _
structure Quote where
  parts : List Part
  pairs : List Two
  taxes : List Charge
  fare : Int
  total : Int
def Quote.enc (x : Quote) : List V := [.list (x.parts.map Part.enc) false, .list (x.pairs.map Two.enc) false, .list (x.taxes.map Charge.enc) false, .int .i64 x.fare, .int .i64 x.total]
theorem Quote.inj (a b : Quote) (h : a.enc = b.enc) : a = b := by
  obtain ⟨a_parts, a_pairs, a_taxes, a_fare, a_total⟩ := a
  obtain ⟨b_parts, b_pairs, b_taxes, b_fare, b_total⟩ := b
  simp only [Quote.enc, List.cons.injEq, V.str.injEq, V.int.injEq, V.bool.injEq, V.agg.injEq, V.list.injEq, and_true, true_and] at h
  obtain ⟨h0, h1, h2, h3, h4⟩ := h
  replace h0 := map_inj' Part.inj h0
  subst h0
  replace h1 := map_inj' Two.inj h1
  subst h1
  replace h2 := map_inj' Charge.inj h2
  subst h2
  subst h3
  subst h4
  rfl
def Quote.ok (x : Quote) : Prop := (x.parts.length ≤ 140737488355328 ∧ ∀ z ∈ x.parts, z.ok) ∧ (x.pairs.length ≤ 140737488355328 ∧ ∀ z ∈ x.pairs, z.ok) ∧ (x.taxes.length ≤ 140737488355328 ∧ ∀ z ∈ x.taxes, z.ok) ∧ inI x.fare ∧ inI x.total
def Quote.zero : Quote := ⟨[], [], [], 0, 0⟩
theorem Quote.rows (l : List Quote) : (∀ r ∈ l.map Quote.enc, r.length = 5) ↔ True := iff_true_intro fun r hr => by obtain ⟨x, _, rfl⟩ := List.mem_map.1 hr; rfl
theorem Quote.purs (l : List Quote) : (∀ r ∈ l.map Quote.enc, V.purs r = true) ↔ True := iff_true_intro fun r hr => by obtain ⟨x, _, rfl⟩ := List.mem_map.1 hr; rfl
attribute [go_sem] Quote.rows Quote.purs
theorem Quote.mapLen (l : List Quote) : (l.map Quote.enc).length = l.length := List.length_map _
structure Person where
  last : List UInt8
  first : List UInt8
  type : List UInt8
def Person.enc (x : Person) : List V := [.str x.last, .str x.first, .str x.type]
theorem Person.inj (a b : Person) (h : a.enc = b.enc) : a = b := by
  obtain ⟨a_last, a_first, a_type⟩ := a
  obtain ⟨b_last, b_first, b_type⟩ := b
  simp only [Person.enc, List.cons.injEq, V.str.injEq, V.int.injEq, V.bool.injEq, V.agg.injEq, V.list.injEq, and_true, true_and] at h
  obtain ⟨h0, h1, h2⟩ := h
  subst h0
  subst h1
  subst h2
  rfl
def Person.ok (x : Person) : Prop := x.last.length ≤ 140737488355328 ∧ x.first.length ≤ 140737488355328 ∧ x.type.length ≤ 140737488355328
def Person.zero : Person := ⟨[], [], []⟩
theorem Person.rows (l : List Person) : (∀ r ∈ l.map Person.enc, r.length = 3) ↔ True := iff_true_intro fun r hr => by obtain ⟨x, _, rfl⟩ := List.mem_map.1 hr; rfl
theorem Person.purs (l : List Person) : (∀ r ∈ l.map Person.enc, V.purs r = true) ↔ True := iff_true_intro fun r hr => by obtain ⟨x, _, rfl⟩ := List.mem_map.1 hr; rfl
attribute [go_sem] Person.rows Person.purs
theorem Person.mapLen (l : List Person) : (l.map Person.enc).length = l.length := List.length_map _
structure Coupon where
  want : Want
  basis : List UInt8
  status : Int
  value : Int
def Coupon.enc (x : Coupon) : List V := [.str x.want.seg.carrier, .int .i64 x.want.seg.number, .int .i64 x.want.seg.day, .str x.want.seg.from', .str x.want.seg.to', .int .i64 x.want.seg.dep, .int .i64 x.want.seg.arr, .str x.want.cls, .str x.basis, .int .i64 x.status, .int .i64 x.value]
theorem Coupon.inj (a b : Coupon) (h : a.enc = b.enc) : a = b := by
  obtain ⟨⟨⟨a_want_seg_carrier, a_want_seg_number, a_want_seg_day, a_want_seg_from', a_want_seg_to', a_want_seg_dep, a_want_seg_arr⟩, a_want_cls⟩, a_basis, a_status, a_value⟩ := a
  obtain ⟨⟨⟨b_want_seg_carrier, b_want_seg_number, b_want_seg_day, b_want_seg_from', b_want_seg_to', b_want_seg_dep, b_want_seg_arr⟩, b_want_cls⟩, b_basis, b_status, b_value⟩ := b
  simp only [Coupon.enc, List.cons.injEq, V.str.injEq, V.int.injEq, V.bool.injEq, V.agg.injEq, V.list.injEq, and_true, true_and] at h
  obtain ⟨h0, h1, h2, h3, h4, h5, h6, h7, h8, h9, h10⟩ := h
  subst h0
  subst h1
  subst h2
  subst h3
  subst h4
  subst h5
  subst h6
  subst h7
  subst h8
  subst h9
  subst h10
  rfl
def Coupon.ok (x : Coupon) : Prop := x.want.ok ∧ x.basis.length ≤ 140737488355328 ∧ inI x.status ∧ inI x.value
def Coupon.zero : Coupon := ⟨Want.zero, [], 0, 0⟩
theorem Coupon.rows (l : List Coupon) : (∀ r ∈ l.map Coupon.enc, r.length = 11) ↔ True := iff_true_intro fun r hr => by obtain ⟨x, _, rfl⟩ := List.mem_map.1 hr; rfl
theorem Coupon.purs (l : List Coupon) : (∀ r ∈ l.map Coupon.enc, V.purs r = true) ↔ True := iff_true_intro fun r hr => by obtain ⟨x, _, rfl⟩ := List.mem_map.1 hr; rfl
attribute [go_sem] Coupon.rows Coupon.purs
theorem Coupon.mapLen (l : List Coupon) : (l.map Coupon.enc).length = l.length := List.length_map _
structure Ticket where
  number : Int
  locator : List UInt8
  person : Person
  coupons : List Coupon
  fare : Int
  taxes : List Charge
  total : Int
  issued : Int
def Ticket.enc (x : Ticket) : List V := [.int .i64 x.number, .str x.locator, .str x.person.last, .str x.person.first, .str x.person.type, .list (x.coupons.map Coupon.enc) false, .int .i64 x.fare, .list (x.taxes.map Charge.enc) false, .int .i64 x.total, .int .i64 x.issued]
theorem Ticket.inj (a b : Ticket) (h : a.enc = b.enc) : a = b := by
  obtain ⟨a_number, a_locator, ⟨a_person_last, a_person_first, a_person_type⟩, a_coupons, a_fare, a_taxes, a_total, a_issued⟩ := a
  obtain ⟨b_number, b_locator, ⟨b_person_last, b_person_first, b_person_type⟩, b_coupons, b_fare, b_taxes, b_total, b_issued⟩ := b
  simp only [Ticket.enc, List.cons.injEq, V.str.injEq, V.int.injEq, V.bool.injEq, V.agg.injEq, V.list.injEq, and_true, true_and] at h
  obtain ⟨h0, h1, h2, h3, h4, h5, h6, h7, h8, h9⟩ := h
  subst h0
  subst h1
  subst h2
  subst h3
  subst h4
  replace h5 := map_inj' Coupon.inj h5
  subst h5
  subst h6
  replace h7 := map_inj' Charge.inj h7
  subst h7
  subst h8
  subst h9
  rfl
def Ticket.ok (x : Ticket) : Prop := inI x.number ∧ x.locator.length ≤ 140737488355328 ∧ x.person.ok ∧ (x.coupons.length ≤ 140737488355328 ∧ ∀ z ∈ x.coupons, z.ok) ∧ inI x.fare ∧ (x.taxes.length ≤ 140737488355328 ∧ ∀ z ∈ x.taxes, z.ok) ∧ inI x.total ∧ inI x.issued
def Ticket.zero : Ticket := ⟨0, [], Person.zero, [], 0, [], 0, 0⟩
theorem Ticket.rows (l : List Ticket) : (∀ r ∈ l.map Ticket.enc, r.length = 10) ↔ True := iff_true_intro fun r hr => by obtain ⟨x, _, rfl⟩ := List.mem_map.1 hr; rfl
theorem Ticket.purs (l : List Ticket) : (∀ r ∈ l.map Ticket.enc, V.purs r = true) ↔ True := iff_true_intro fun r hr => by obtain ⟨x, _, rfl⟩ := List.mem_map.1 hr; rfl
attribute [go_sem] Ticket.rows Ticket.purs
theorem Ticket.mapLen (l : List Ticket) : (l.map Ticket.enc).length = l.length := List.length_map _
structure Post where
  account : List UInt8
  amount : Int
def Post.enc (x : Post) : List V := [.str x.account, .int .i64 x.amount]
theorem Post.inj (a b : Post) (h : a.enc = b.enc) : a = b := by
  obtain ⟨a_account, a_amount⟩ := a
  obtain ⟨b_account, b_amount⟩ := b
  simp only [Post.enc, List.cons.injEq, V.str.injEq, V.int.injEq, V.bool.injEq, V.agg.injEq, V.list.injEq, and_true, true_and] at h
  obtain ⟨h0, h1⟩ := h
  subst h0
  subst h1
  rfl
def Post.ok (x : Post) : Prop := x.account.length ≤ 140737488355328 ∧ inI x.amount
def Post.zero : Post := ⟨[], 0⟩
theorem Post.rows (l : List Post) : (∀ r ∈ l.map Post.enc, r.length = 2) ↔ True := iff_true_intro fun r hr => by obtain ⟨x, _, rfl⟩ := List.mem_map.1 hr; rfl
theorem Post.purs (l : List Post) : (∀ r ∈ l.map Post.enc, V.purs r = true) ↔ True := iff_true_intro fun r hr => by obtain ⟨x, _, rfl⟩ := List.mem_map.1 hr; rfl
attribute [go_sem] Post.rows Post.purs
theorem Post.mapLen (l : List Post) : (l.map Post.enc).length = l.length := List.length_map _
end Go.Proofs.YtkdkjbneohdofaaDoor
