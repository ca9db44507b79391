/- The arguments of TopRevenue, opened. -/
import Derived.Test.YtkdkjbneohdofaaDoorTp8
import Derived.Test.YtkdkjbneohdofaaDoorO2
namespace Go.Proofs.YtkdkjbneohdofaaDoor
open Go Go.RowKit
set_option linter.unusedSimpArgs false
set_option linter.unusedVariables false
set_option linter.deprecated false
def shSeg : Sh := .st [.s, .i .i64, .i .i64, .s, .s, .i .i64, .i .i64]
theorem Seg_of (vs : List V) (h : shSeg.fits vs) : ∃ z : Seg, vs = z.enc ∧ z.ok := by
  obtain ⟨a0, b0, rfl, h0, a1, b1, rfl, h1, a2, b2, rfl, h2, a3, b3, rfl, h3, a4, b4, rfl, h4, a5, b5, rfl, h5, a6, b6, rfl, h6, rfl⟩ := h
  obtain ⟨x0, rfl, p0⟩ := fits_s h0
  obtain ⟨x1, rfl, p1⟩ := fits_i h1
  obtain ⟨x2, rfl, p2⟩ := fits_i h2
  obtain ⟨x3, rfl, p3⟩ := fits_s h3
  obtain ⟨x4, rfl, p4⟩ := fits_s h4
  obtain ⟨x5, rfl, p5⟩ := fits_i h5
  obtain ⟨x6, rfl, p6⟩ := fits_i h6
  exact ⟨⟨x0, x1, x2, x3, x4, x5, x6⟩, rfl, ⟨p0, p1, p2, p3, p4, p5, p6⟩⟩
def shWant : Sh := .st [shSeg, .s]
theorem Want_of (vs : List V) (h : shWant.fits vs) : ∃ z : Want, vs = z.enc ∧ z.ok := by
  obtain ⟨a0, b0, rfl, h0, a1, b1, rfl, h1, rfl⟩ := h
  obtain ⟨x0, rfl, p0⟩ := Seg_of _ h0
  obtain ⟨x1, rfl, p1⟩ := fits_s h1
  exact ⟨⟨x0, x1⟩, rfl, ⟨p0, p1⟩⟩
def shCharge : Sh := .st [.s, .i .i64]
theorem Charge_of (vs : List V) (h : shCharge.fits vs) : ∃ z : Charge, vs = z.enc ∧ z.ok := by
  obtain ⟨a0, b0, rfl, h0, a1, b1, rfl, h1, rfl⟩ := h
  obtain ⟨x0, rfl, p0⟩ := fits_s h0
  obtain ⟨x1, rfl, p1⟩ := fits_i h1
  exact ⟨⟨x0, x1⟩, rfl, ⟨p0, p1⟩⟩
def shPerson : Sh := .st [.s, .s, .s]
theorem Person_of (vs : List V) (h : shPerson.fits vs) : ∃ z : Person, vs = z.enc ∧ z.ok := by
  obtain ⟨a0, b0, rfl, h0, a1, b1, rfl, h1, a2, b2, rfl, h2, rfl⟩ := h
  obtain ⟨x0, rfl, p0⟩ := fits_s h0
  obtain ⟨x1, rfl, p1⟩ := fits_s h1
  obtain ⟨x2, rfl, p2⟩ := fits_s h2
  exact ⟨⟨x0, x1, x2⟩, rfl, ⟨p0, p1, p2⟩⟩
def shCoupon : Sh := .st [shWant, .s, .i .i64, .i .i64]
theorem Coupon_of (vs : List V) (h : shCoupon.fits vs) : ∃ z : Coupon, vs = z.enc ∧ z.ok := by
  obtain ⟨a0, b0, rfl, h0, a1, b1, rfl, h1, a2, b2, rfl, h2, a3, b3, rfl, h3, rfl⟩ := h
  obtain ⟨x0, rfl, p0⟩ := Want_of _ h0
  obtain ⟨x1, rfl, p1⟩ := fits_s h1
  obtain ⟨x2, rfl, p2⟩ := fits_i h2
  obtain ⟨x3, rfl, p3⟩ := fits_i h3
  exact ⟨⟨x0, x1, x2, x3⟩, rfl, ⟨p0, p1, p2, p3⟩⟩
def shTicket : Sh := .st [.i .i64, .s, shPerson, .sl shCoupon 128, .i .i64, .sl shCharge 24, .i .i64, .i .i64]
theorem Ticket_of (vs : List V) (h : shTicket.fits vs) : ∃ z : Ticket, vs = z.enc ∧ z.ok := by
  obtain ⟨a0, b0, rfl, h0, a1, b1, rfl, h1, a2, b2, rfl, h2, a3, b3, rfl, h3, a4, b4, rfl, h4, a5, b5, rfl, h5, a6, b6, rfl, h6, a7, b7, rfl, h7, rfl⟩ := h
  obtain ⟨x0, rfl, p0⟩ := fits_i h0
  obtain ⟨x1, rfl, p1⟩ := fits_s h1
  obtain ⟨x2, rfl, p2⟩ := Person_of _ h2
  obtain ⟨x3, rfl, l3, p3⟩ := fits_sl Coupon_of h3
  obtain ⟨x4, rfl, p4⟩ := fits_i h4
  obtain ⟨x5, rfl, l5, p5⟩ := fits_sl Charge_of h5
  obtain ⟨x6, rfl, p6⟩ := fits_i h6
  obtain ⟨x7, rfl, p7⟩ := fits_i h7
  exact ⟨⟨x0, x1, x2, x3, x4, x5, x6, x7⟩, rfl, ⟨p0, p1, p2, ⟨by dsimp only; omega, p3⟩, p4, ⟨by dsimp only; omega, p5⟩, p6, p7⟩⟩
def shOps : Sh := .sl .s 16
theorem Ops_of (vs : List V) (h : shOps.fits vs) : ∃ z : Ops, vs = z.enc ∧ z.ok := by
  obtain ⟨x, rfl, l, p⟩ := fits_sl (fun _ h => fits_s h) h
  exact ⟨⟨x⟩, rfl, by dsimp only; omega, p⟩
end Go.Proofs.YtkdkjbneohdofaaDoor
