/- The examples of the chapter: knows returns true. -/
import Derived.Test.YtejmfhbnbelklaaDoorA6
namespace Go.Proofs.YtejmfhbnbelklaaDoor
open Go Go.RowKit
theorem kT : isT 12512345678906 = true := by decide
theorem kP : prt 12512345678906 = [49, 50, 53, 45, 49, 50, 51, 52, 53, 54, 55, 56, 57, 48, 45, 54] := by decide
theorem kMake (w : World) : Calls Tryd.prog 12 #[.int .i64 125, .int .i64 1234567890] w fun e w' => e = .returned (.tuple #[.int .i64 12512345678906, .int .i64 0]) ∧ w = w' :=
  make_ok 125 1234567890 w (by omega) (by omega) (by omega) (by omega)
theorem kNext (w : World) : Calls Tryd.prog 14 #[.int .i64 12512345678906] w fun e w' => e = .returned (.tuple #[.int .i64 12512345678910, .int .i64 0]) ∧ w = w' :=
  next_ok 12512345678906 w kT (by decide)
theorem kPrint (w : World) (ht : Tab w) : Calls Tryd.prog 8 #[.int .i64 12512345678906] w fun e w' => e = .returned (.tuple #[.string ⟨#[49, 50, 53, 45, 49, 50, 51, 52, 53, 54, 55, 56, 57, 48, 45, 54]⟩, .int .i64 0]) ∧ Ext w w' := by
  have h := print_yes 12512345678906 w kT ht
  rw [kP] at h
  exact h
theorem kParse (w : World) (ht : Tab w) : Calls Tryd.prog 10 #[.string ⟨#[49, 50, 53, 45, 49, 50, 51, 52, 53, 54, 55, 56, 57, 48, 45, 54]⟩] w fun e w' => e = .returned (.tuple #[.int .i64 12512345678906, .int .i64 0]) ∧ Ext w w' :=
  parse_16 ⟨#[49, 50, 53, 45, 49, 50, 51, 52, 53, 54, 55, 56, 57, 48, 45, 54]⟩ w rfl ht
theorem kParse4 (w : World) (ht : Tab w) : Calls Tryd.prog 10 #[.string ⟨#[49, 50, 53, 45, 49, 50, 51, 52, 53, 54, 55, 56, 57, 48, 45, 52]⟩] w fun e w' => e = .returned (.tuple #[.int .i64 0, .int .i64 3]) ∧ Ext w w' :=
  parse_16 ⟨#[49, 50, 53, 45, 49, 50, 51, 52, 53, 54, 55, 56, 57, 48, 45, 52]⟩ w rfl ht
theorem kRight (w : World) : Calls Tryd.prog 16 #[.int .i64 12512345678904] w fun e w' => e = .returned (.bool false) ∧ w = w' :=
  right_any 12512345678904 w (by omega) (by omega)
theorem kCarrier (w : World) : Calls Tryd.prog 18 #[.int .i64 12512345678906] w fun e w' => e = .returned (.int .i64 125) ∧ w = w' :=
  carrier_any 12512345678906 w (by omega) (by omega)
set_option maxHeartbeats 400000 in
theorem knows_true (w : World) (ht : Tab w) : Calls Tryd.prog 7 #[] w fun e w' => e = .returned (.bool true) ∧ Ext w w' := by
  go_enter Tryd.func7, Tryd.ntmps7
  go_wp2_with (first
    | (go_at_call 12; refine (kMake _).mono ?_; rintro e w' ⟨rfl, rfl⟩)
    | (go_at_call 14; refine (kNext _).mono ?_; rintro e w' ⟨rfl, rfl⟩)
    | (go_at_call 8; refine (kPrint _ ht).mono ?_; rintro e w' ⟨rfl, he⟩))
  have ht1 := ht.ext he
  refine (kParse _ ht1).mono ?_; rintro e w1 ⟨rfl, h1⟩
  have ht2 := ht1.ext h1
  go_wp2_with fail
  refine (kParse4 _ ht2).mono ?_; rintro e w2 ⟨rfl, h2⟩
  have hx := (Ext.trans he h1).trans h2
  go_wp2_with (first
    | (go_at_call 16; refine (kRight _).mono ?_; rintro e w' ⟨rfl, rfl⟩)
    | (go_at_call 18; refine (kCarrier _).mono ?_; rintro e w' ⟨rfl, rfl⟩))
  go_ret
  exact ⟨rfl, hx⟩
end Go.Proofs.YtejmfhbnbelklaaDoor
