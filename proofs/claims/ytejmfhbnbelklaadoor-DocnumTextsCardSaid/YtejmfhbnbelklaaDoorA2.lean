/- Contracts of parts, Right, Carrier, Serial, Next and of the reference's. -/
import Derived.Test.YtejmfhbnbelklaaDoorA1
namespace Go.Proofs.YtejmfhbnbelklaaDoor
open Go Go.RowKit

def isT (n : Int) : Bool := decide (100000000000 ≤ n ∧ n < 100000000000000 ∧ n % 10 = n / 10 % 7)
theorem isT_yes {n : Int} (h : isT n = true) : 100000000000 ≤ n ∧ n < 100000000000000 ∧ n % 10 = n / 10 % 7 := by simpa [isT] using h
theorem isT_no {n : Int} (h : isT n = false) : ¬ (100000000000 ≤ n ∧ n < 100000000000000 ∧ n % 10 = n / 10 % 7) := by simpa [isT] using h
theorem neg_q (n : Int) (h : n < 0) (h' : -9223372036854775808 ≤ n) : -922337203685477581 ≤ n.tdiv 10 ∧ n.tdiv 10 ≤ 0 ∧ -922337203685477581 ≤ (n.tdiv 10).tdiv 10000000000 ∧ (n.tdiv 10).tdiv 10000000000 ≤ 0 := by
  obtain ⟨m, rfl⟩ : ∃ m : Int, n = -m := ⟨-n, by omega⟩
  rw [Int.neg_tdiv, Int.neg_tdiv, Int.tdiv_eq_ediv_of_nonneg (by omega : 0 ≤ m), Int.tdiv_eq_ediv_of_nonneg (by omega : 0 ≤ m / 10)]
  omega
set_option maxHeartbeats 400000 in
theorem parts_yes (n : Int) (w : World) (h : isT n = true) :
    Calls Tryd.prog 22 #[.int .i64 n] w fun e w' => e = .returned (.tuple #[.int .i64 (n / 10 / 10000000000), .int .i64 (n / 10 % 10000000000), .bool true]) ∧ w = w' := by
  obtain ⟨h1, h2, h3⟩ := isT_yes h
  have h4 : ((n / 10 / 10000000000 * 10000000000 + n / 10 % 10000000000) * 10 + (n / 10 / 10000000000 * 10000000000 + n / 10 % 10000000000) % 7) = n := by omega
  clear h3 h
  go_enter Tryd.func22, Tryd.ntmps22
  go_wp2_with (go_at_call 12; refine (make_ok _ _ _ (by omega) (by omega) (by omega) (by omega)).mono ?_; rintro e w' ⟨rfl, rfl⟩; rw [h4])
  go_ret3
  exact ⟨rfl, rfl⟩

theorem parts_no_at (n : Int) (w : World) (h0 : 0 ≤ n) (hn : n ≤ 9223372036854775807) (h : ¬ (1 ≤ n / 10 / 10000000000 ∧ n / 10 / 10000000000 < 1000)) :
    Calls Tryd.prog 22 #[.int .i64 n] w fun e w' => e = .returned (.tuple #[.int .i64 0, .int .i64 0, .bool false]) ∧ w = w' := by
  go_enter Tryd.func22, Tryd.ntmps22
  go_wp2_with (go_at_call 12; refine (make_bad _ _ _ (by omega)).mono ?_; rintro e w' ⟨rfl, rfl⟩)
  go_ret3
  exact ⟨rfl, rfl⟩
theorem parts_no_neg (n : Int) (w : World) (h0 : n < 0) (hn : -9223372036854775808 ≤ n) :
    Calls Tryd.prog 22 #[.int .i64 n] w fun e w' => e = .returned (.tuple #[.int .i64 0, .int .i64 0, .bool false]) ∧ w = w' := by
  obtain ⟨q1, q2, q3, q4⟩ := neg_q n h0 hn
  go_enter Tryd.func22, Tryd.ntmps22
  go_wp2_with (go_at_call 12; refine (make_bad _ _ _ (by omega)).mono ?_; rintro e w' ⟨rfl, rfl⟩)
  go_ret3
  exact ⟨rfl, rfl⟩
theorem parts_no_chk (n : Int) (w : World) (h0 : 0 ≤ n) (h : (1 ≤ n / 10 / 10000000000 ∧ n / 10 / 10000000000 < 1000)) (h3 : n % 10 ≠ n / 10 % 7) :
    Calls Tryd.prog 22 #[.int .i64 n] w fun e w' => e = .returned (.tuple #[.int .i64 0, .int .i64 0, .bool false]) ∧ w = w' := by
  obtain ⟨h1, h2⟩ := h
  have h4 : ((n / 10 / 10000000000 * 10000000000 + n / 10 % 10000000000) * 10 + (n / 10 / 10000000000 * 10000000000 + n / 10 % 10000000000) % 7 != n) = true := by simp; omega
  clear h3
  go_enter Tryd.func22, Tryd.ntmps22
  go_wp2_with (go_at_call 12; refine (make_ok _ _ _ (by omega) (by omega) (by omega) (by omega)).mono ?_; rintro e w' ⟨rfl, rfl⟩)
  go_ret3
  exact ⟨rfl, rfl⟩
theorem parts_no (n : Int) (w : World) (hn : -9223372036854775808 ≤ n) (hn' : n ≤ 9223372036854775807) (h : isT n = false) :
    Calls Tryd.prog 22 #[.int .i64 n] w fun e w' => e = .returned (.tuple #[.int .i64 0, .int .i64 0, .bool false]) ∧ w = w' := by
  have h' := isT_no h
  by_cases h0 : n < 0
  · exact parts_no_neg n w h0 hn
  · by_cases h1 : 1 ≤ n / 10 / 10000000000 ∧ n / 10 / 10000000000 < 1000
    · exact parts_no_chk n w (by omega) h1 (by omega)
    · exact parts_no_at n w (by omega) hn' h1

theorem right_any (n : Int) (w : World) (hn : -9223372036854775808 ≤ n) (hn' : n ≤ 9223372036854775807) : Calls Tryd.prog 16 #[.int .i64 n] w fun e w' => e = .returned (.bool (isT n)) ∧ w = w' := by
  cases h : isT n
  all_goals
    go_enter Tryd.func16, Tryd.ntmps16
    go_wp2_with (go_at_call 22; (first | refine (parts_yes _ _ h).mono ?_ | refine (parts_no _ _ hn hn' h).mono ?_); rintro e w' ⟨rfl, rfl⟩)
    go_ret
    exact ⟨rfl, rfl⟩
def car (n : Int) : Int := if isT n then n / 10 / 10000000000 else 0
def ser (n : Int) : Int := if isT n then n / 10 % 10000000000 else 0
theorem ret_int {k : IntKind} {a b : Int} (h : a = b) : Ending.returned (.int k a) = .returned (.int k b) := by rw [h]
theorem ret_two {a b c d : Value} (h : a = c) (h' : b = d) : Ending.returned (.tuple #[a, b]) = .returned (.tuple #[c, d]) := by rw [h, h']
theorem carrier_any (n : Int) (w : World) (hn : -9223372036854775808 ≤ n) (hn' : n ≤ 9223372036854775807) : Calls Tryd.prog 18 #[.int .i64 n] w fun e w' => e = .returned (.int .i64 (car n)) ∧ w = w' := by
  cases h : isT n
  all_goals
    go_enter Tryd.func18, Tryd.ntmps18
    go_wp2_with (go_at_call 22; (first | refine (parts_yes _ _ h).mono ?_ | refine (parts_no _ _ hn hn' h).mono ?_); rintro e w' ⟨rfl, rfl⟩)
    go_ret
    exact ⟨ret_int (by simp [car, h]), rfl⟩
theorem serial_any (n : Int) (w : World) (hn : -9223372036854775808 ≤ n) (hn' : n ≤ 9223372036854775807) : Calls Tryd.prog 20 #[.int .i64 n] w fun e w' => e = .returned (.int .i64 (ser n)) ∧ w = w' := by
  cases h : isT n
  all_goals
    go_enter Tryd.func20, Tryd.ntmps20
    go_wp2_with (go_at_call 22; (first | refine (parts_yes _ _ h).mono ?_ | refine (parts_no _ _ hn hn' h).mono ?_); rintro e w' ⟨rfl, rfl⟩)
    go_ret
    exact ⟨ret_int (by simp [ser, h]), rfl⟩
theorem next_bad (n : Int) (w : World) (hn : -9223372036854775808 ≤ n) (hn' : n ≤ 9223372036854775807) (h : isT n = false) : Calls Tryd.prog 14 #[.int .i64 n] w fun e w' => e = .returned (.tuple #[.int .i64 0, .int .i64 2]) ∧ w = w' := by
  go_enter Tryd.func14, Tryd.ntmps14
  go_wp2_with (go_at_call 22; refine (parts_no _ _ hn hn' h).mono ?_; rintro e w' ⟨rfl, rfl⟩)
  go_ret2
  exact ⟨rfl, rfl⟩
theorem next_full (n : Int) (w : World) (h : isT n = true) (h1 : (n / 10 % 10000000000 == 9999999999) = true) : Calls Tryd.prog 14 #[.int .i64 n] w fun e w' => e = .returned (.tuple #[.int .i64 0, .int .i64 9]) ∧ w = w' := by
  go_enter Tryd.func14, Tryd.ntmps14
  go_wp2_with (go_at_call 22; refine (parts_yes _ _ h).mono ?_; rintro e w' ⟨rfl, rfl⟩)
  go_ret2
  exact ⟨rfl, rfl⟩
def mk (c s : Int) : Int := (c * 10000000000 + s) * 10 + (c * 10000000000 + s) % 7
set_option maxHeartbeats 400000 in
theorem next_ok (n : Int) (w : World) (h : isT n = true) (h1 : (n / 10 % 10000000000 == 9999999999) = false) : Calls Tryd.prog 14 #[.int .i64 n] w fun e w' => e = .returned (.tuple #[.int .i64 (mk (n / 10 / 10000000000) (n / 10 % 10000000000 + 1)), .int .i64 0]) ∧ w = w' := by
  obtain ⟨g1, g2, g3⟩ := isT_yes h
  have h2 : ¬ (n / 10 % 10000000000 = 9999999999) := by simpa using h1
  clear g3
  go_enter Tryd.func14, Tryd.ntmps14
  go_wp2_with (first | (go_at_call 22; refine (parts_yes _ _ h).mono ?_; rintro e w' ⟨rfl, rfl⟩) | (go_at_call 12; refine (make_ok _ _ _ (by omega) (by omega) (by omega) (by omega)).mono ?_; rintro e w' ⟨rfl, rfl⟩))
  go_ret2
  exact ⟨rfl, rfl⟩

-- the reference's
set_option maxHeartbeats 400000 in
theorem rmake_ok (c s : Int) (w : World) (hc : 1 ≤ c) (hc' : c < 1000) (hs : 0 ≤ s) (hs' : s < 10000000000) :
    Calls Tryd.prog 13 #[.int .i64 c, .int .i64 s] w fun e w' => e = .returned (.tuple #[.int .i64 (mk c s), .int .i64 0]) ∧ w = w' := by
  go_enter Tryd.func13, Tryd.ntmps13
  go_wp2
  go_ret2
  exact ⟨ret_two (congrArg (Value.int .i64) (show _ = mk c s by unfold mk; omega)) rfl, rfl⟩
set_option maxHeartbeats 400000 in
theorem rmake_bad (c s : Int) (w : World) (h : ¬ (1 ≤ c ∧ c < 1000 ∧ 0 ≤ s ∧ s < 10000000000)) :
    Calls Tryd.prog 13 #[.int .i64 c, .int .i64 s] w fun e w' => e = .returned (.tuple #[.int .i64 0, .int .i64 2]) ∧ w = w' := by
  go_enter Tryd.func13, Tryd.ntmps13
  go_wp2
  all_goals (go_ret2; exact ⟨rfl, rfl⟩)
theorem rright_yes (n : Int) (w : World) (h : isT n = true) :
    Calls Tryd.prog 17 #[.int .i64 n] w fun e w' => e = .returned (.bool (isT n)) ∧ w = w' := by
  obtain ⟨h1, h2, h3⟩ := isT_yes h
  have h4 : mk (n / 10 / 10000000000) (n / 10 % 10000000000) = n := by unfold mk; omega
  rw [h]
  clear h3 h
  go_enter Tryd.func17, Tryd.ntmps17
  go_wp2_with (go_at_call 13; refine (rmake_ok _ _ _ (by omega) (by omega) (by omega) (by omega)).mono ?_; rintro e w' ⟨rfl, rfl⟩; rw [h4])
  go_ret
  exact ⟨rfl, rfl⟩
theorem rright_no (n : Int) (w : World) (hn : -9223372036854775808 ≤ n) (hn' : n ≤ 9223372036854775807) (h : isT n = false) :
    Calls Tryd.prog 17 #[.int .i64 n] w fun e w' => e = .returned (.bool (isT n)) ∧ w = w' := by
  have h' := isT_no h
  rw [h]
  clear h
  by_cases h0 : n < 0
  · go_enter Tryd.func17, Tryd.ntmps17
    go_wp2
    go_ret
    exact ⟨rfl, rfl⟩
  · by_cases h1 : 1 ≤ n / 10 / 10000000000 ∧ n / 10 / 10000000000 < 1000
    · obtain ⟨h1, h2⟩ := h1
      have h4 : (mk (n / 10 / 10000000000) (n / 10 % 10000000000) == n) = false := by unfold mk; simp; omega
      clear h'
      go_enter Tryd.func17, Tryd.ntmps17
      go_wp2_with (go_at_call 13; refine (rmake_ok _ _ _ (by omega) (by omega) (by omega) (by omega)).mono ?_; rintro e w' ⟨rfl, rfl⟩)
      go_ret
      exact ⟨rfl, rfl⟩
    · clear h'
      go_enter Tryd.func17, Tryd.ntmps17
      go_wp2_with (go_at_call 13; refine (rmake_bad _ _ _ (by omega)).mono ?_; rintro e w' ⟨rfl, rfl⟩)
      go_ret
      exact ⟨rfl, rfl⟩
theorem rright_any (n : Int) (w : World) (hn : -9223372036854775808 ≤ n) (hn' : n ≤ 9223372036854775807) : Calls Tryd.prog 17 #[.int .i64 n] w fun e w' => e = .returned (.bool (isT n)) ∧ w = w' := by
  cases h : isT n
  · rw [← h]; exact rright_no n w hn hn' h
  · rw [← h]; exact rright_yes n w h

theorem rcarrier_any (n : Int) (w : World) (hn : -9223372036854775808 ≤ n) (hn' : n ≤ 9223372036854775807) : Calls Tryd.prog 19 #[.int .i64 n] w fun e w' => e = .returned (.int .i64 (car n)) ∧ w = w' := by
  cases h : isT n
  · have hr := rright_any n w hn hn'
    rw [h] at hr
    have H := Lib.hid hr; clear hr
    go_enter Tryd.func19, Tryd.ntmps19
    go_wp2_with (go_at_call 17; refine (H.out).mono ?_; rintro e w' ⟨rfl, rfl⟩)
    go_ret
    exact ⟨ret_int (by simp [car, h]), rfl⟩
  · have hr := rright_any n w hn hn'
    rw [h] at hr
    have H := Lib.hid hr; clear hr
    obtain ⟨g1, g2, g3⟩ := isT_yes h
    clear g3
    go_enter Tryd.func19, Tryd.ntmps19
    go_wp2_with (go_at_call 17; refine (H.out).mono ?_; rintro e w' ⟨rfl, rfl⟩)
    go_ret
    exact ⟨ret_int (by simp [car, h]), rfl⟩
theorem rserial_any (n : Int) (w : World) (hn : -9223372036854775808 ≤ n) (hn' : n ≤ 9223372036854775807) : Calls Tryd.prog 21 #[.int .i64 n] w fun e w' => e = .returned (.int .i64 (ser n)) ∧ w = w' := by
  cases h : isT n
  · have hr := rright_any n w hn hn'
    rw [h] at hr
    have H := Lib.hid hr; clear hr
    go_enter Tryd.func21, Tryd.ntmps21
    go_wp2_with (go_at_call 17; refine (H.out).mono ?_; rintro e w' ⟨rfl, rfl⟩)
    go_ret
    exact ⟨ret_int (by simp [ser, h]), rfl⟩
  · have hr := rright_any n w hn hn'
    rw [h] at hr
    have H := Lib.hid hr; clear hr
    obtain ⟨g1, g2, g3⟩ := isT_yes h
    clear g3
    go_enter Tryd.func21, Tryd.ntmps21
    go_wp2_with (go_at_call 17; refine (H.out).mono ?_; rintro e w' ⟨rfl, rfl⟩)
    go_ret
    exact ⟨ret_int (by simp [ser, h]), rfl⟩
theorem rcarrier_yes (n : Int) (w : World) (h : isT n = true) : Calls Tryd.prog 19 #[.int .i64 n] w fun e w' => e = .returned (.int .i64 (n / 10 / 10000000000)) ∧ w = w' := by
  obtain ⟨g1, g2, g3⟩ := isT_yes h
  have := rcarrier_any n w (by omega) (by omega)
  simpa [car, h] using this
theorem rserial_yes (n : Int) (w : World) (h : isT n = true) : Calls Tryd.prog 21 #[.int .i64 n] w fun e w' => e = .returned (.int .i64 (n / 10 % 10000000000)) ∧ w = w' := by
  obtain ⟨g1, g2, g3⟩ := isT_yes h
  have := rserial_any n w (by omega) (by omega)
  simpa [ser, h] using this
theorem rright_at (n : Int) (w : World) (hn : -9223372036854775808 ≤ n) (hn' : n ≤ 9223372036854775807) (b : Bool) (h : isT n = b) : Calls Tryd.prog 17 #[.int .i64 n] w fun e w' => e = .returned (.bool b) ∧ w = w' := by
  rw [← h]; exact rright_any n w hn hn'
theorem rnext_bad (n : Int) (w : World) (hn : -9223372036854775808 ≤ n) (hn' : n ≤ 9223372036854775807) (h : isT n = false) : Calls Tryd.prog 15 #[.int .i64 n] w fun e w' => e = .returned (.tuple #[.int .i64 0, .int .i64 2]) ∧ w = w' := by
  go_enter Tryd.func15, Tryd.ntmps15
  go_wp2_with (go_at_call 17; refine (rright_at _ _ hn hn' _ h).mono ?_; rintro e w' ⟨rfl, rfl⟩)
  go_ret2
  exact ⟨rfl, rfl⟩
theorem rnext_full (n : Int) (w : World) (h : isT n = true) (h1 : (n / 10 % 10000000000 == 9999999999) = true) : Calls Tryd.prog 15 #[.int .i64 n] w fun e w' => e = .returned (.tuple #[.int .i64 0, .int .i64 9]) ∧ w = w' := by
  obtain ⟨g1, g2, g3⟩ := isT_yes h
  clear g3
  go_enter Tryd.func15, Tryd.ntmps15
  go_wp2_with (first | (go_at_call 17; refine (rright_at _ _ (by omega) (by omega) _ h).mono ?_; rintro e w' ⟨rfl, rfl⟩) | (go_at_call 21; refine (rserial_yes _ _ h).mono ?_; rintro e w' ⟨rfl, rfl⟩))
  go_ret2
  exact ⟨rfl, rfl⟩
set_option maxHeartbeats 400000 in
theorem rnext_ok (n : Int) (w : World) (h : isT n = true) (h1 : (n / 10 % 10000000000 == 9999999999) = false) : Calls Tryd.prog 15 #[.int .i64 n] w fun e w' => e = .returned (.tuple #[.int .i64 (mk (n / 10 / 10000000000) (n / 10 % 10000000000 + 1)), .int .i64 0]) ∧ w = w' := by
  obtain ⟨g1, g2, g3⟩ := isT_yes h
  have h2 : ¬ (n / 10 % 10000000000 = 9999999999) := by simpa using h1
  clear g3
  go_enter Tryd.func15, Tryd.ntmps15
  go_wp2_with (first | (go_at_call 17; refine (rright_at _ _ (by omega) (by omega) _ h).mono ?_; rintro e w' ⟨rfl, rfl⟩) | (go_at_call 21; refine (rserial_yes _ _ h).mono ?_; rintro e w' ⟨rfl, rfl⟩) | (go_at_call 19; refine (rcarrier_yes _ _ h).mono ?_; rintro e w' ⟨rfl, rfl⟩) | (go_at_call 13; refine (rmake_ok _ _ _ (by omega) (by omega) (by omega) (by omega)).mono ?_; rintro e w' ⟨rfl, rfl⟩))
  go_ret2
  exact ⟨rfl, rfl⟩
end Go.Proofs.YtejmfhbnbelklaaDoor
