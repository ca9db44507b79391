/- The arguments of the chapter's laws, opened. -/
import Derived.Test.YtemeeeomcjdlnaaDoorBa11
import Derived.Test.YtemeeeomcjdlnaaDoorO2
namespace Go.Proofs.YtemeeeomcjdlnaaDoor
open Go Go.RowKit
set_option linter.unusedSimpArgs false
set_option linter.unusedVariables false
set_option linter.deprecated false
def shBay : Sh := .st [.i .i64, .i .i64]
theorem Bay_of (vs : List V) (h : shBay.fits vs) : ∃ z : Bay, vs = z.enc ∧ z.ok := by
  obtain ⟨a0, b0, rfl, h0, a1, b1, rfl, h1, rfl⟩ := h
  obtain ⟨x0, rfl, p0⟩ := fits_i h0
  obtain ⟨x1, rfl, p1⟩ := fits_i h1
  exact ⟨⟨x0, x1⟩, rfl, ⟨p0, p1⟩⟩
def shPoint : Sh := .st [.i .i64, .i .i64]
theorem Point_of (vs : List V) (h : shPoint.fits vs) : ∃ z : Point, vs = z.enc ∧ z.ok := by
  obtain ⟨a0, b0, rfl, h0, a1, b1, rfl, h1, rfl⟩ := h
  obtain ⟨x0, rfl, p0⟩ := fits_i h0
  obtain ⟨x1, rfl, p1⟩ := fits_i h1
  exact ⟨⟨x0, x1⟩, rfl, ⟨p0, p1⟩⟩
def shTrim : Sh := .st [.i .i64, .i .i64, .sl shBay 16, .sl shPoint 16]
theorem Trim_of (vs : List V) (h : shTrim.fits vs) : ∃ z : Trim, vs = z.enc ∧ z.ok := by
  obtain ⟨a0, b0, rfl, h0, a1, b1, rfl, h1, a2, b2, rfl, h2, a3, b3, rfl, h3, rfl⟩ := h
  obtain ⟨x0, rfl, p0⟩ := fits_i h0
  obtain ⟨x1, rfl, p1⟩ := fits_i h1
  obtain ⟨x2, rfl, l2, p2⟩ := fits_sl Bay_of h2
  obtain ⟨x3, rfl, l3, p3⟩ := fits_sl Point_of h3
  exact ⟨⟨x0, x1, x2, x3⟩, rfl, ⟨p0, p1, ⟨by dsimp only; omega, p2⟩, ⟨by dsimp only; omega, p3⟩⟩⟩
end Go.Proofs.YtemeeeomcjdlnaaDoor
