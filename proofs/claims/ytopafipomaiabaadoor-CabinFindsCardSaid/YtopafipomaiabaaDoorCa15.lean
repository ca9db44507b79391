/- The arguments of the chapter's laws, opened. -/
import Derived.Test.YtopafipomaiabaaDoorCa14
import Derived.Test.YtopafipomaiabaaDoorO2
namespace Go.Proofs.YtopafipomaiabaaDoor
open Go Go.RowKit
set_option linter.unusedSimpArgs false
set_option linter.unusedVariables false
set_option linter.deprecated false
def shClass : Sh := .st [.s, .i .i64]
def shCabin : Sh := .st [.s, .i .i64, .i .i64, .sl shClass 24]
def shConf : Sh := .st [.s, .sl shCabin 56]
theorem class_of (vs : List V) (h : shClass.fits vs) : ∃ z : Class, vs = z.enc ∧ z.ok := by
  obtain ⟨a, b, rfl, h1, c, d, rfl, h2, rfl⟩ := h
  obtain ⟨x, rfl, hx⟩ := fits_s h1
  obtain ⟨y, rfl, hy⟩ := fits_i h2
  exact ⟨⟨x, y⟩, rfl, hx, hy⟩
theorem cabin_of (vs : List V) (h : shCabin.fits vs) : ∃ y : Cabin, vs = y.enc ∧ y.ok := by
  obtain ⟨a, b, rfl, h1, c, d, rfl, h2, e, f, rfl, h3, g, i, rfl, h4, rfl⟩ := h
  obtain ⟨x, rfl, hx⟩ := fits_s h1
  obtain ⟨y, rfl, hy⟩ := fits_i h2
  obtain ⟨z, rfl, hz⟩ := fits_i h3
  obtain ⟨l, rfl, hl, hok⟩ := fits_sl class_of h4
  exact ⟨⟨x, y, z, l⟩, rfl, hx, hy, hz, by dsimp only; omega, hok⟩
theorem conf_of (vs : List V) (h : shConf.fits vs) : ∃ c : Config, vs = c.enc ∧ c.ok := by
  obtain ⟨a, b, rfl, h1, c, d, rfl, h2, rfl⟩ := h
  obtain ⟨x, rfl, hx⟩ := fits_s h1
  obtain ⟨l, rfl, hl, hok⟩ := fits_sl cabin_of h2
  exact ⟨⟨x, l⟩, rfl, hx, by dsimp only; omega, hok⟩
theorem confs_of (vs : List V) (h : (Sh.sl shConf 40).fits vs) : ∃ l : List Config, vs = [.list (l.map Config.enc) false] ∧ ConfigsOk l := by
  obtain ⟨l, rfl, hl, hok⟩ := fits_sl conf_of h
  exact ⟨l, rfl, by omega, hok⟩
theorem t1 : shT Tryd.prog 8 22 = some (.sl shConf 40) := by kernel_rfl
theorem t2 : shT Tryd.prog 8 30 = some shConf := by kernel_rfl
theorem t3 : shT Tryd.prog 8 9 = some .s := by kernel_rfl
end Go.Proofs.YtopafipomaiabaaDoor
