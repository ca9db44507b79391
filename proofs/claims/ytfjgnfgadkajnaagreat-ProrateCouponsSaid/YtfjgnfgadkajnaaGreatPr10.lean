/- The arguments of the chapter's laws, opened. -/
import Derived.Test.YtfjgnfgadkajnaaGreatPr11
import Derived.Test.YtfjgnfgadkajnaaGreatO2
namespace Go.Proofs.YtfjgnfgadkajnaaGreat
open Go Go.RowKit
set_option linter.unusedSimpArgs false
set_option linter.unusedVariables false
set_option linter.deprecated false
def shShift : Sh := .st [.i .i64, .i .i64]
theorem Shift_of (vs : List V) (h : shShift.fits vs) : ∃ z : Shift, vs = z.enc ∧ z.ok := by
  obtain ⟨a0, b0, rfl, h0, a1, b1, rfl, h1, rfl⟩ := h
  obtain ⟨x0, rfl, p0⟩ := fits_i h0
  obtain ⟨x1, rfl, p1⟩ := fits_i h1
  exact ⟨⟨x0, x1⟩, rfl, ⟨p0, p1⟩⟩
def shZone : Sh := .st [.i .i64, .sl shShift 16]
theorem Zone_of (vs : List V) (h : shZone.fits vs) : ∃ z : Zone, vs = z.enc ∧ z.ok := by
  obtain ⟨a0, b0, rfl, h0, a1, b1, rfl, h1, rfl⟩ := h
  obtain ⟨x0, rfl, p0⟩ := fits_i h0
  obtain ⟨x1, rfl, l1, p1⟩ := fits_sl Shift_of h1
  exact ⟨⟨x0, x1⟩, rfl, ⟨p0, ⟨by dsimp only; omega, p1⟩⟩⟩
def shAirport : Sh := .st [.s, .s, .s, shZone]
theorem Airport_of (vs : List V) (h : shAirport.fits vs) : ∃ z : Airport, vs = z.enc ∧ z.ok := by
  obtain ⟨a0, b0, rfl, h0, a1, b1, rfl, h1, a2, b2, rfl, h2, a3, b3, rfl, h3, rfl⟩ := h
  obtain ⟨x0, rfl, p0⟩ := fits_s h0
  obtain ⟨x1, rfl, p1⟩ := fits_s h1
  obtain ⟨x2, rfl, p2⟩ := fits_s h2
  obtain ⟨x3, rfl, p3⟩ := Zone_of _ h3
  exact ⟨⟨x0, x1, x2, x3⟩, rfl, ⟨p0, p1, p2, p3⟩⟩
def shDistance : Sh := .st [.s, .s, .i .i64]
theorem Distance_of (vs : List V) (h : shDistance.fits vs) : ∃ z : Distance, vs = z.enc ∧ z.ok := by
  obtain ⟨a0, b0, rfl, h0, a1, b1, rfl, h1, a2, b2, rfl, h2, rfl⟩ := h
  obtain ⟨x0, rfl, p0⟩ := fits_s h0
  obtain ⟨x1, rfl, p1⟩ := fits_s h1
  obtain ⟨x2, rfl, p2⟩ := fits_i h2
  exact ⟨⟨x0, x1, x2⟩, rfl, ⟨p0, p1, p2⟩⟩
def shPlaces : Sh := .st [.sl shAirport 80, .sl shDistance 40]
theorem Places_of (vs : List V) (h : shPlaces.fits vs) : ∃ z : Places, vs = z.enc ∧ z.ok := by
  obtain ⟨a0, b0, rfl, h0, a1, b1, rfl, h1, rfl⟩ := h
  obtain ⟨x0, rfl, l0, p0⟩ := fits_sl Airport_of h0
  obtain ⟨x1, rfl, l1, p1⟩ := fits_sl Distance_of h1
  exact ⟨⟨x0, x1⟩, rfl, ⟨⟨by dsimp only; omega, p0⟩, ⟨by dsimp only; omega, p1⟩⟩⟩
def shSeg : Sh := .st [.s, .i .i64, .i .i64, .s, .s, .i .i64, .i .i64]
theorem Seg_of (vs : List V) (h : shSeg.fits vs) : ∃ z : Seg, vs = z.enc ∧ z.ok := by
  obtain ⟨a0, b0, rfl, h0, a1, b1, rfl, h1, a2, b2, rfl, h2, a3, b3, rfl, h3, a4, b4, rfl, h4, a5, b5, rfl, h5, a6, b6, rfl, h6, rfl⟩ := h
  obtain ⟨x0, rfl, p0⟩ := fits_s h0
  obtain ⟨x1, rfl, p1⟩ := fits_i h1
  obtain ⟨x2, rfl, p2⟩ := fits_i h2
  obtain ⟨x3, rfl, p3⟩ := fits_s h3
  obtain ⟨x4, rfl, p4⟩ := fits_s h4
  obtain ⟨x5, rfl, p5⟩ := fits_i h5
  obtain ⟨x6, rfl, p6⟩ := fits_i h6
  exact ⟨⟨x0, x1, x2, x3, x4, x5, x6⟩, rfl, ⟨p0, p1, p2, p3, p4, p5, p6⟩⟩
def shWant : Sh := .st [shSeg, .s]
theorem Want_of (vs : List V) (h : shWant.fits vs) : ∃ z : Want, vs = z.enc ∧ z.ok := by
  obtain ⟨a0, b0, rfl, h0, a1, b1, rfl, h1, rfl⟩ := h
  obtain ⟨x0, rfl, p0⟩ := Seg_of _ h0
  obtain ⟨x1, rfl, p1⟩ := fits_s h1
  exact ⟨⟨x0, x1⟩, rfl, ⟨p0, p1⟩⟩
def shPart : Sh := .st [.i .i64, .i .i64, .i .i64, .i .i64]
theorem Part_of (vs : List V) (h : shPart.fits vs) : ∃ z : Part, vs = z.enc ∧ z.ok := by
  obtain ⟨a0, b0, rfl, h0, a1, b1, rfl, h1, a2, b2, rfl, h2, a3, b3, rfl, h3, rfl⟩ := h
  obtain ⟨x0, rfl, p0⟩ := fits_i h0
  obtain ⟨x1, rfl, p1⟩ := fits_i h1
  obtain ⟨x2, rfl, p2⟩ := fits_i h2
  obtain ⟨x3, rfl, p3⟩ := fits_i h3
  exact ⟨⟨x0, x1, x2, x3⟩, rfl, ⟨p0, p1, p2, p3⟩⟩
def shCharge : Sh := .st [.s, .i .i64]
theorem Charge_of (vs : List V) (h : shCharge.fits vs) : ∃ z : Charge, vs = z.enc ∧ z.ok := by
  obtain ⟨a0, b0, rfl, h0, a1, b1, rfl, h1, rfl⟩ := h
  obtain ⟨x0, rfl, p0⟩ := fits_s h0
  obtain ⟨x1, rfl, p1⟩ := fits_i h1
  exact ⟨⟨x0, x1⟩, rfl, ⟨p0, p1⟩⟩
def shTwo : Sh := .st [.i .i64, .i .i64]
theorem Two_of (vs : List V) (h : shTwo.fits vs) : ∃ z : Two, vs = z.enc ∧ z.ok := by
  obtain ⟨a0, b0, rfl, h0, a1, b1, rfl, h1, rfl⟩ := h
  obtain ⟨x0, rfl, p0⟩ := fits_i h0
  obtain ⟨x1, rfl, p1⟩ := fits_i h1
  exact ⟨⟨x0, x1⟩, rfl, ⟨p0, p1⟩⟩
def shQuote : Sh := .st [.sl shPart 32, .sl shTwo 16, .sl shCharge 24, .i .i64, .i .i64]
theorem Quote_of (vs : List V) (h : shQuote.fits vs) : ∃ z : Quote, vs = z.enc ∧ z.ok := by
  obtain ⟨a0, b0, rfl, h0, a1, b1, rfl, h1, a2, b2, rfl, h2, a3, b3, rfl, h3, a4, b4, rfl, h4, rfl⟩ := h
  obtain ⟨x0, rfl, l0, p0⟩ := fits_sl Part_of h0
  obtain ⟨x1, rfl, l1, p1⟩ := fits_sl Two_of h1
  obtain ⟨x2, rfl, l2, p2⟩ := fits_sl Charge_of h2
  obtain ⟨x3, rfl, p3⟩ := fits_i h3
  obtain ⟨x4, rfl, p4⟩ := fits_i h4
  exact ⟨⟨x0, x1, x2, x3, x4⟩, rfl, ⟨⟨by dsimp only; omega, p0⟩, ⟨by dsimp only; omega, p1⟩, ⟨by dsimp only; omega, p2⟩, p3, p4⟩⟩
end Go.Proofs.YtfjgnfgadkajnaaGreat
