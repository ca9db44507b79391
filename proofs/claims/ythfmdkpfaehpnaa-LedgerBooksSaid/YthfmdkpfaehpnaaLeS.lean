/- The arguments of the chapter's laws, opened. -/
import Derived.Test.YthfmdkpfaehpnaaLe15
import Derived.Test.YthfmdkpfaehpnaaO2
namespace Go.Proofs.Ythfmdkpfaehpnaa
open Go Go.RowKit
set_option linter.unusedSimpArgs false
set_option linter.unusedVariables false
set_option linter.deprecated false
def shPost : Sh := .st [.s, .i .i64]
theorem Post_of (vs : List V) (h : shPost.fits vs) : ∃ z : Post, vs = z.enc ∧ z.ok := by
  obtain ⟨a0, b0, rfl, h0, a1, b1, rfl, h1, rfl⟩ := h
  obtain ⟨x0, rfl, p0⟩ := fits_s h0
  obtain ⟨x1, rfl, p1⟩ := fits_i h1
  exact ⟨⟨x0, x1⟩, rfl, ⟨p0, p1⟩⟩
def shEntry : Sh := .st [.i .i64, .s, .sl shPost 24]
theorem Entry_of (vs : List V) (h : shEntry.fits vs) : ∃ z : Entry, vs = z.enc ∧ z.ok := by
  obtain ⟨a0, b0, rfl, h0, a1, b1, rfl, h1, a2, b2, rfl, h2, rfl⟩ := h
  obtain ⟨x0, rfl, p0⟩ := fits_i h0
  obtain ⟨x1, rfl, p1⟩ := fits_s h1
  obtain ⟨x2, rfl, l2, p2⟩ := fits_sl Post_of h2
  exact ⟨⟨x0, x1, x2⟩, rfl, ⟨p0, p1, ⟨by dsimp only; omega, p2⟩⟩⟩
end Go.Proofs.Ythfmdkpfaehpnaa
