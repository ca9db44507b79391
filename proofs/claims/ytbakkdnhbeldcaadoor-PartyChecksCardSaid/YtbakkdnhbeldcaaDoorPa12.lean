/- The arguments of the chapter's laws, opened. -/
import Derived.Test.YtbakkdnhbeldcaaDoorPa11
import Derived.Test.YtbakkdnhbeldcaaDoorO2
namespace Go.Proofs.YtbakkdnhbeldcaaDoor
open Go Go.RowKit
set_option linter.unusedSimpArgs false
set_option linter.unusedVariables false
set_option linter.deprecated false
def shPerson : Sh := .st [.s, .s, .s]
theorem Person_of (vs : List V) (h : shPerson.fits vs) : ∃ z : Person, vs = z.enc ∧ z.ok := by
  obtain ⟨a0, b0, rfl, h0, a1, b1, rfl, h1, a2, b2, rfl, h2, rfl⟩ := h
  obtain ⟨x0, rfl, p0⟩ := fits_s h0
  obtain ⟨x1, rfl, p1⟩ := fits_s h1
  obtain ⟨x2, rfl, p2⟩ := fits_s h2
  exact ⟨⟨x0, x1, x2⟩, rfl, ⟨p0, p1, p2⟩⟩
end Go.Proofs.YtbakkdnhbeldcaaDoor
