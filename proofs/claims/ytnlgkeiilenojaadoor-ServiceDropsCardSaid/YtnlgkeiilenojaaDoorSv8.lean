/- The arguments of the chapter's laws, opened. -/
import Derived.Test.YtnlgkeiilenojaaDoorSv7
import Derived.Test.YtnlgkeiilenojaaDoorO2
namespace Go.Proofs.YtnlgkeiilenojaaDoor
open Go Go.RowKit
set_option linter.unusedSimpArgs false
set_option linter.unusedVariables false
set_option linter.deprecated false
def shOffer : Sh := .st [.s, .i .i64, .sl .s 16]
theorem Offer_of (vs : List V) (h : shOffer.fits vs) : ∃ z : Offer, vs = z.enc ∧ z.ok := by
  obtain ⟨a0, b0, rfl, h0, a1, b1, rfl, h1, a2, b2, rfl, h2, rfl⟩ := h
  obtain ⟨x0, rfl, p0⟩ := fits_s h0
  obtain ⟨x1, rfl, p1⟩ := fits_i h1
  obtain ⟨x2, rfl, l2, p2⟩ := fits_sl (fun _ h => fits_s h) h2
  exact ⟨⟨x0, x1, x2⟩, rfl, ⟨p0, p1, ⟨by dsimp only; omega, p2⟩⟩⟩
def shPerson : Sh := .st [.s, .s, .s]
theorem Person_of (vs : List V) (h : shPerson.fits vs) : ∃ z : Person, vs = z.enc ∧ z.ok := by
  obtain ⟨a0, b0, rfl, h0, a1, b1, rfl, h1, a2, b2, rfl, h2, rfl⟩ := h
  obtain ⟨x0, rfl, p0⟩ := fits_s h0
  obtain ⟨x1, rfl, p1⟩ := fits_s h1
  obtain ⟨x2, rfl, p2⟩ := fits_s h2
  exact ⟨⟨x0, x1, x2⟩, rfl, ⟨p0, p1, p2⟩⟩
def shSeg : Sh := .st [.s, .i .i64, .i .i64, .s, .s, .i .i64, .i .i64]
theorem Seg_of (vs : List V) (h : shSeg.fits vs) : ∃ z : Seg, vs = z.enc ∧ z.ok := by
  obtain ⟨a0, b0, rfl, h0, a1, b1, rfl, h1, a2, b2, rfl, h2, a3, b3, rfl, h3, a4, b4, rfl, h4, a5, b5, rfl, h5, a6, b6, rfl, h6, rfl⟩ := h
  obtain ⟨x0, rfl, p0⟩ := fits_s h0
  obtain ⟨x1, rfl, p1⟩ := fits_i h1
  obtain ⟨x2, rfl, p2⟩ := fits_i h2
  obtain ⟨x3, rfl, p3⟩ := fits_s h3
  obtain ⟨x4, rfl, p4⟩ := fits_s h4
  obtain ⟨x5, rfl, p5⟩ := fits_i h5
  obtain ⟨x6, rfl, p6⟩ := fits_i h6
  exact ⟨⟨x0, x1, x2, x3, x4, x5, x6⟩, rfl, ⟨p0, p1, p2, p3, p4, p5, p6⟩⟩
def shWant : Sh := .st [shSeg, .s]
theorem Want_of (vs : List V) (h : shWant.fits vs) : ∃ z : Want, vs = z.enc ∧ z.ok := by
  obtain ⟨a0, b0, rfl, h0, a1, b1, rfl, h1, rfl⟩ := h
  obtain ⟨x0, rfl, p0⟩ := Seg_of _ h0
  obtain ⟨x1, rfl, p1⟩ := fits_s h1
  exact ⟨⟨x0, x1⟩, rfl, ⟨p0, p1⟩⟩
def shBooked : Sh := .st [shWant, .i .i64, .i .i64]
theorem Booked_of (vs : List V) (h : shBooked.fits vs) : ∃ z : Booked, vs = z.enc ∧ z.ok := by
  obtain ⟨a0, b0, rfl, h0, a1, b1, rfl, h1, a2, b2, rfl, h2, rfl⟩ := h
  obtain ⟨x0, rfl, p0⟩ := Want_of _ h0
  obtain ⟨x1, rfl, p1⟩ := fits_i h1
  obtain ⟨x2, rfl, p2⟩ := fits_i h2
  exact ⟨⟨x0, x1, x2⟩, rfl, ⟨p0, p1, p2⟩⟩
def shService : Sh := .st [.s, .i .i64, .i .i64]
theorem Service_of (vs : List V) (h : shService.fits vs) : ∃ z : Service, vs = z.enc ∧ z.ok := by
  obtain ⟨a0, b0, rfl, h0, a1, b1, rfl, h1, a2, b2, rfl, h2, rfl⟩ := h
  obtain ⟨x0, rfl, p0⟩ := fits_s h0
  obtain ⟨x1, rfl, p1⟩ := fits_i h1
  obtain ⟨x2, rfl, p2⟩ := fits_i h2
  exact ⟨⟨x0, x1, x2⟩, rfl, ⟨p0, p1, p2⟩⟩
def shBooking : Sh := .st [.s, .sl shPerson 48, .i .i64, .sl shBooked 112, .sl shService 32, .i .i64]
theorem Booking_of (vs : List V) (h : shBooking.fits vs) : ∃ z : Booking, vs = z.enc ∧ z.ok := by
  obtain ⟨a0, b0, rfl, h0, a1, b1, rfl, h1, a2, b2, rfl, h2, a3, b3, rfl, h3, a4, b4, rfl, h4, a5, b5, rfl, h5, rfl⟩ := h
  obtain ⟨x0, rfl, p0⟩ := fits_s h0
  obtain ⟨x1, rfl, l1, p1⟩ := fits_sl Person_of h1
  obtain ⟨x2, rfl, p2⟩ := fits_i h2
  obtain ⟨x3, rfl, l3, p3⟩ := fits_sl Booked_of h3
  obtain ⟨x4, rfl, l4, p4⟩ := fits_sl Service_of h4
  obtain ⟨x5, rfl, p5⟩ := fits_i h5
  exact ⟨⟨x0, x1, x2, x3, x4, x5⟩, rfl, ⟨p0, ⟨by dsimp only; omega, p1⟩, p2, ⟨by dsimp only; omega, p3⟩, ⟨by dsimp only; omega, p4⟩, p5⟩⟩
end Go.Proofs.YtnlgkeiilenojaaDoor
