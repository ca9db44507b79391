/- One contract for each function, at every argument; the walks of the four statements. -/
import Derived.Test.YtejmfhbnbelklaaDoorA7
namespace Go.Proofs.YtejmfhbnbelklaaDoor
open Go Go.RowKit
def mkB (c s : Int) : Bool := decide (1 ≤ c ∧ c < 1000 ∧ 0 ≤ s ∧ s < 10000000000)
def mkV (c s : Int) : Int := if mkB c s then mk c s else 0
def mkE (c s : Int) : Int := if mkB c s then 0 else 2
theorem mkB_yes {c s : Int} (h : mkB c s = true) : 1 ≤ c ∧ c < 1000 ∧ 0 ≤ s ∧ s < 10000000000 := by simpa [mkB] using h
theorem mkB_no {c s : Int} (h : mkB c s = false) : ¬ (1 ≤ c ∧ c < 1000 ∧ 0 ≤ s ∧ s < 10000000000) := by simpa [mkB] using h
theorem make_any (c s : Int) (w : World) : Calls Tryd.prog 12 #[.int .i64 c, .int .i64 s] w fun e w' => e = .returned (.tuple #[.int .i64 (mkV c s), .int .i64 (mkE c s)]) ∧ w = w' := by
  cases h : mkB c s
  · simp only [mkV, mkE, h]; exact make_bad c s w (mkB_no h)
  · simp only [mkV, mkE, h]; obtain ⟨a, b, d, e⟩ := mkB_yes h; exact make_ok c s w a b d e
theorem rmake_any (c s : Int) (w : World) : Calls Tryd.prog 13 #[.int .i64 c, .int .i64 s] w fun e w' => e = .returned (.tuple #[.int .i64 (mkV c s), .int .i64 (mkE c s)]) ∧ w = w' := by
  cases h : mkB c s
  · simp only [mkV, mkE, h]; exact rmake_bad c s w (mkB_no h)
  · simp only [mkV, mkE, h]; obtain ⟨a, b, d, e⟩ := mkB_yes h; exact rmake_ok c s w a b d e
def nxV (n : Int) : Int := if isT n then (if n / 10 % 10000000000 == 9999999999 then 0 else mk (n / 10 / 10000000000) (n / 10 % 10000000000 + 1)) else 0
def nxE (n : Int) : Int := if isT n then (if n / 10 % 10000000000 == 9999999999 then 9 else 0) else 2
theorem next_any (n : Int) (w : World) (hn : -9223372036854775808 ≤ n) (hn' : n ≤ 9223372036854775807) : Calls Tryd.prog 14 #[.int .i64 n] w fun e w' => e = .returned (.tuple #[.int .i64 (nxV n), .int .i64 (nxE n)]) ∧ w = w' := by
  cases h : isT n
  · simp only [nxV, nxE, h]; exact next_bad n w hn hn' h
  · cases h1 : (n / 10 % 10000000000 == 9999999999)
    · simp only [nxV, nxE, h, h1]; exact next_ok n w h h1
    · simp only [nxV, nxE, h, h1]; exact next_full n w h h1
theorem rnext_any (n : Int) (w : World) (hn : -9223372036854775808 ≤ n) (hn' : n ≤ 9223372036854775807) : Calls Tryd.prog 15 #[.int .i64 n] w fun e w' => e = .returned (.tuple #[.int .i64 (nxV n), .int .i64 (nxE n)]) ∧ w = w' := by
  cases h : isT n
  · simp only [nxV, nxE, h]; exact rnext_bad n w hn hn' h
  · cases h1 : (n / 10 % 10000000000 == 9999999999)
    · simp only [nxV, nxE, h, h1]; exact rnext_ok n w h h1
    · simp only [nxV, nxE, h, h1]; exact rnext_full n w h h1
def ptV (n : Int) : List UInt8 := if isT n then prt n else []
def ptE (n : Int) : Int := if isT n then 0 else 2
theorem print_any (n : Int) (w : World) (hn : -9223372036854775808 ≤ n) (hn' : n ≤ 9223372036854775807) (ht : Tab w) : Calls Tryd.prog 8 #[.int .i64 n] w fun e w' => e = .returned (.tuple #[.string ⟨(ptV n).toArray⟩, .int .i64 (ptE n)]) ∧ Ext w w' := by
  cases h : isT n
  · simp only [ptV, ptE, h]; exact print_no n w hn hn' h
  · simp only [ptV, ptE, h]; exact print_yes n w h ht
theorem rprint_any (n : Int) (w : World) (hn : -9223372036854775808 ≤ n) (hn' : n ≤ 9223372036854775807) : Calls Tryd.prog 9 #[.int .i64 n] w fun e w' => e = .returned (.tuple #[.string ⟨(ptV n).toArray⟩, .int .i64 (ptE n)]) ∧ Ext w w' := by
  cases h : isT n
  · simp only [ptV, ptE, h]; exact rprint_no n w hn hn' h
  · simp only [ptV, ptE, h]; exact rprint_yes n w h
theorem prs_len {s : ByteArray} (h : ((s.size : Int) == 16) = false) : prsB s.data.toList = false := by
  have : ¬ s.data.toList.length = 16 := by
    intro e
    rw [beq_eq_false_iff_ne] at h
    apply h
    have h2 : s.size = s.data.toList.length := by simp
    omega
  simp only [prsB, beq_eq_false_iff_ne.2 this, Bool.false_and]
theorem parse_any (s : ByteArray) (w : World) (hl : s.size ≤ 9223372036854775807) (ht : Tab w) : Calls Tryd.prog 10 #[.string s] w fun e w' => e = .returned (.tuple #[.int .i64 (prsV s.data.toList), .int .i64 (prsE s.data.toList)]) ∧ Ext w w' := by
  cases h : ((s.size : Int) == 16)
  · rw [prsV_no (prs_len h), prsE_no (prs_len h)]; exact parse_len s w hl h
  · exact parse_16 s w (by have := beq_iff_eq.1 h; omega) ht
theorem rparse_any (s : ByteArray) (w : World) (hl : s.size ≤ 9223372036854775807) : Calls Tryd.prog 11 #[.string s] w fun e w' => e = .returned (.tuple #[.int .i64 (prsV s.data.toList), .int .i64 (prsE s.data.toList)]) ∧ Ext w w' := by
  cases h : ((s.size : Int) == 16)
  · rw [prsV_no (prs_len h), prsE_no (prs_len h)]; exact rparse_len s w hl h
  · exact rparse_16 s w (by have := beq_iff_eq.1 h; omega)

set_option maxHeartbeats 400000 in
theorem tells_true (c s n : Int) (w : World) (hn : -9223372036854775808 ≤ n) (hn' : n ≤ 9223372036854775807) (ht : Tab w) :
    Calls Tryd.prog 4 #[.int .i64 c, .int .i64 s, .int .i64 n] w fun e w' => e = .returned (.bool true) ∧ Ext w w' := by
  go_enter Tryd.func4, Tryd.ntmps4
  go_wp2_with (first
    | (go_at_call 12; refine (make_any _ _ _).mono ?_; rintro e w' ⟨rfl, rfl⟩)
    | (go_at_call 13; refine (rmake_any _ _ _).mono ?_; rintro e w' ⟨rfl, rfl⟩)
    | (go_at_call 14; refine (next_any _ _ hn hn').mono ?_; rintro e w' ⟨rfl, rfl⟩)
    | (go_at_call 15; refine (rnext_any _ _ hn hn').mono ?_; rintro e w' ⟨rfl, rfl⟩)
    | (go_at_call 16; refine (right_any _ _ hn hn').mono ?_; rintro e w' ⟨rfl, rfl⟩)
    | (go_at_call 17; refine (rright_any _ _ hn hn').mono ?_; rintro e w' ⟨rfl, rfl⟩)
    | (go_at_call 18; refine (carrier_any _ _ hn hn').mono ?_; rintro e w' ⟨rfl, rfl⟩)
    | (go_at_call 19; refine (rcarrier_any _ _ hn hn').mono ?_; rintro e w' ⟨rfl, rfl⟩)
    | (go_at_call 20; refine (serial_any _ _ hn hn').mono ?_; rintro e w' ⟨rfl, rfl⟩)
    | (go_at_call 21; refine (rserial_any _ _ hn hn').mono ?_; rintro e w' ⟨rfl, rfl⟩)
    | (go_at_call 7; refine (knows_true _ ht).mono ?_; rintro e w' ⟨rfl, he⟩))
  go_ret
  exact ⟨rfl, he⟩
set_option maxHeartbeats 400000 in
theorem texts_true (n : Int) (s : ByteArray) (w : World) (hl : s.size ≤ 9223372036854775807) (hn : -9223372036854775808 ≤ n) (hn' : n ≤ 9223372036854775807) (ht : Tab w) :
    Calls Tryd.prog 3 #[.int .i64 n, .string s] w fun e w' => e = .returned (.bool true) ∧ Ext w w' := by
  by_cases h1000 : (s.size : Int) ≤ 1000
  · go_enter Tryd.func3, Tryd.ntmps3
    go_wp2_with (go_at_call 8; refine (print_any _ _ hn hn' ht).mono ?_; rintro e w1 ⟨rfl, h1⟩)
    have ht1 := ht.ext h1
    go_wp2_with (go_at_call 9; refine (rprint_any _ _ hn hn').mono ?_; rintro e w2 ⟨rfl, h2⟩)
    have ht2 := ht1.ext h2
    go_wp2_with (go_at_call 10; refine (parse_any _ _ hl ht2).mono ?_; rintro e w3 ⟨rfl, h3⟩)
    have ht3 := ht2.ext h3
    go_wp2_with (go_at_call 11; refine (rparse_any _ _ hl).mono ?_; rintro e w4 ⟨rfl, h4⟩)
    have ht4 := ht3.ext h4
    go_wp2_with (go_at_call 7; refine (knows_true _ ht4).mono ?_; rintro e w5 ⟨rfl, h5⟩)
    go_ret
    exact ⟨rfl, (((Ext.trans h1 h2).trans h3).trans h4).trans h5⟩
  · go_enter Tryd.func3, Tryd.ntmps3
    go_wp2_with (go_at_call 7; refine (knows_true _ ht).mono ?_; rintro e w' ⟨rfl, he⟩)
    go_ret
    exact ⟨rfl, he⟩
end Go.Proofs.YtejmfhbnbelklaaDoor
