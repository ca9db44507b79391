/- Print of the program and of the reference. -/
import Derived.Test.YtejmfhbnbelklaaDoorA3
namespace Go.Proofs.YtejmfhbnbelklaaDoor
open Go Go.RowKit

theorem len_pad (k : Nat) (l : List UInt8) : l.length ≤ (pad k l).length := by simp [pad]
theorem itoa_len (k : Nat) (n : Int) (h0 : 0 ≤ n) (h : n < 10 ^ (k + 1)) : (Lib.itoa n).length ≤ k + 1 := by
  have h1 := len_pad (k + 1) (Lib.itoa n)
  rw [pad_itoa k n h0 h, dgs_len] at h1
  exact h1
theorem padded_at (k : Nat) (n : Int) (w : World) (h0 : 0 ≤ n) (h : n < 10 ^ (k + 1)) (hk : k ≤ 15) (hn : n ≤ 9223372036854775807) (ht : Tab w) :
    Calls Tryd.prog 23 #[.int .i64 n, .int .i64 ((k + 1 : Nat) : Int)] w fun e w' => e = .returned (.string ⟨(dgs n (k + 1)).toArray⟩) ∧ Ext w w' := by
  have h1 := padded_any n ((k + 1 : Nat) : Int) w h0 hn (by omega) (by omega) ht (Nat.le_trans (itoa_len k n h0 h) (by omega))
  rw [show (((k + 1 : Nat) : Int)).toNat = k + 1 from rfl, pad_itoa k n h0 h] at h1
  exact h1
theorem padded3 (n : Int) (w : World) (h0 : 0 ≤ n) (h : n < 1000) (ht : Tab w) : Calls Tryd.prog 23 #[.int .i64 n, .int .i64 3] w fun e w' => e = .returned (.string ⟨(dgs n 3).toArray⟩) ∧ Ext w w' :=
  padded_at 2 n w h0 h (by omega) (by omega) ht
theorem padded10 (n : Int) (w : World) (h0 : 0 ≤ n) (h : n < 10000000000) (ht : Tab w) : Calls Tryd.prog 23 #[.int .i64 n, .int .i64 10] w fun e w' => e = .returned (.string ⟨(dgs n 10).toArray⟩) ∧ Ext w w' :=
  padded_at 9 n w h0 h (by omega) (by omega) ht
theorem padded1 (n : Int) (w : World) (h0 : 0 ≤ n) (h : n < 10) (ht : Tab w) : Calls Tryd.prog 23 #[.int .i64 n, .int .i64 1] w fun e w' => e = .returned (.string ⟨(dgs n 1).toArray⟩) ∧ Ext w w' :=
  padded_at 0 n w h0 h (by omega) (by omega) ht
/-- the text of a ticket number -/
def prt (n : Int) : List UInt8 := dgs (n / 10 / 10000000000) 3 ++ [45] ++ dgs (n / 10 % 10000000000) 10 ++ [45] ++ dgs (n % 10) 1
theorem prt_app (n : Int) : Value.string ((((⟨(dgs (n / 10 / 10000000000) 3).toArray⟩ : ByteArray) ++ ⟨[45].toArray⟩) ++ ⟨(dgs (n / 10 % 10000000000) 10).toArray⟩ ++ ⟨[45].toArray⟩) ++ ⟨(dgs (n % 10) 1).toArray⟩) = .string ⟨(prt n).toArray⟩ := by
  rw [ba_app, ba_app, ba_app, ba_app]; rfl
theorem print_no (n : Int) (w : World) (hn : -9223372036854775808 ≤ n) (hn' : n ≤ 9223372036854775807) (h : isT n = false) :
    Calls Tryd.prog 8 #[.int .i64 n] w fun e w' => e = .returned (.tuple #[.string ⟨[].toArray⟩, .int .i64 2]) ∧ Ext w w' := by
  go_enter Tryd.func8, Tryd.ntmps8
  go_wp2_with (go_at_call 22; refine (parts_no _ _ hn hn' h).mono ?_; rintro e w' ⟨rfl, rfl⟩)
  go_ret2
  exact ⟨rfl, Ext.refl _⟩
set_option maxHeartbeats 400000 in
theorem print_yes (n : Int) (w : World) (h : isT n = true) (ht : Tab w) :
    Calls Tryd.prog 8 #[.int .i64 n] w fun e w' => e = .returned (.tuple #[.string ⟨(prt n).toArray⟩, .int .i64 0]) ∧ Ext w w' := by
  obtain ⟨g1, g2, g3⟩ := isT_yes h
  clear g3
  have hl3 : (dgs (n / 10 / 10000000000) 3).length ≤ 3 := by rw [dgs_len]; omega
  have hl10 : (dgs (n / 10 % 10000000000) 10).length ≤ 10 := by rw [dgs_len]; omega
  have hl1 : (dgs (n % 10) 1).length ≤ 1 := by rw [dgs_len]; omega
  have hp := prt_app n
  have HP := Lib.hid hp; clear hp
  go_enter Tryd.func8, Tryd.ntmps8
  go_wp2_with (first
    | (go_at_call 22; refine (parts_yes _ _ h).mono ?_; rintro e w' ⟨rfl, rfl⟩)
    | (go_at_call 23; fail))
  refine (padded3 _ _ (by omega) (by omega) ht).mono ?_; rintro e w1 ⟨rfl, e1⟩
  have E1 := Lib.hid e1; clear e1
  go_wp2_with fail
  refine (padded10 _ _ (by omega) (by omega) (ht.ext E1.out)).mono ?_; rintro e w2 ⟨rfl, e2⟩
  have E2 := Lib.hid e2; clear e2
  go_wp2_with fail
  refine (padded1 _ _ (by omega) (by omega) (ht.ext (E1.out.trans E2.out))).mono ?_; rintro e w3 ⟨rfl, e3⟩
  have E3 := Lib.hid e3; clear e3
  go_wp2_with fail
  go_ret2
  exact ⟨ret_two HP.out rfl, (E1.out.trans E2.out).trans E3.out⟩
end Go.Proofs.YtejmfhbnbelklaaDoor
