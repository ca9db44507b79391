/- The walk of DocnumWrong. -/
import Derived.Test.YtejmfhbnbelklaaDoorA9
namespace Go.Proofs.YtejmfhbnbelklaaDoor
open Go Go.RowKit
def pw : Nat → Int | 0 => 1 | k + 1 => 10 * pw k
theorem pw_pos (k : Nat) : 0 < pw k := by induction k with | zero => decide | succ k ih => rw [pw]; omega
theorem pw_mono (k j : Nat) : pw k ≤ pw (k + j) := by
  induction j with
  | zero => exact Int.le_refl _
  | succ j ih => have := pw_pos (k + j); show pw k ≤ 10 * pw (k + j); omega
theorem pw_le (k : Nat) (h : k ≤ 13) : pw k ≤ 10000000000000 := by
  obtain ⟨j, hj⟩ : ∃ j, k + j = 13 := ⟨13 - k, by omega⟩
  have := pw_mono k j
  rw [hj, show pw 13 = 10000000000000 by decide] at this
  exact this
theorem pw_mod (k : Nat) : pw k % 7 = 1 ∨ pw k % 7 = 2 ∨ pw k % 7 = 3 ∨ pw k % 7 = 4 ∨ pw k % 7 = 5 ∨ pw k % 7 = 6 := by
  induction k with
  | zero => left; decide
  | succ k ih => rw [pw]; omega
theorem pw_form (k : Nat) : pw k = 1 ∨ ∃ P, pw k = P * 10 ∧ 0 < P ∧ (P % 7 = 1 ∨ P % 7 = 2 ∨ P % 7 = 3 ∨ P % 7 = 4 ∨ P % 7 = 5 ∨ P % 7 = 6) := by
  cases k with
  | zero => left; rfl
  | succ k => right; exact ⟨pw k, by rw [pw, Int.mul_comm], pw_pos k, pw_mod k⟩
theorem mul_bd (d p : Int) (hp : 0 < p) (hp' : p ≤ 10000000000000) (hd : -9 ≤ d) (hd' : d ≤ 9) : -90000000000000 ≤ d * p ∧ d * p ≤ 90000000000000 := by
  have h1 := Int.mul_le_mul_of_nonneg_right hd' (Int.le_of_lt hp)
  have h2 := Int.mul_le_mul_of_nonneg_right hd (Int.le_of_lt hp)
  constructor
  · refine Int.le_trans ?_ h2; omega
  · refine Int.le_trans h1 ?_; omega
set_option maxHeartbeats 1000000 in
theorem wrong_true (c s a d : Int) (w : World) (hc0 : 0 ≤ c) (hc1 : c ≤ 65535) (hs0 : 0 ≤ s) (hs1 : s ≤ 18446744073709551615) (ha0 : 0 ≤ a) (ha1 : a ≤ 255) (hd0 : 0 ≤ d) (hd1 : d ≤ 255) (ht : Tab w) :
    Calls Tryd.prog 6 #[.int .u16 c, .int .u64 s, .int .u8 a, .int .u8 d] w fun e w' => e = .returned (.bool true) ∧ Ext w w' := by
  have hB : mkB (1 + c % 999) (s % 10000000000) = true := by simp [mkB]; omega
  have hT := isT_mk hB
  obtain ⟨n1, n2, n3⟩ := isT_yes hT
  have hmk := fun w => make_at (1 + c % 999) (s % 10000000000) w hB
  generalize mk (1 + c % 999) (s % 10000000000) = n at *
  have HM := Lib.hid hmk; clear hmk
  have HT := Lib.hid hT; clear hT
  clear hB n3
  go_enter Tryd.func6, Tryd.ntmps6
  go_wp2_with (go_at_call 12; refine (HM.out _).mono ?_; rintro e w' ⟨rfl, rfl⟩)
  go_loop [11, 12] (fun p i => ∃ k : Nat, (k : Int) ≤ a % 14 ∧ i = .int .i64 k ∧ p = .int .i64 (pw k)) (fun _ i => (a % 14 - intOf i).toNat)
  case atStart => exact ⟨0, by omega, rfl, rfl⟩
  case round =>
    obtain ⟨k, hk, rfl, rfl⟩ := hrel
    have hp0 := pw_pos k
    have hp1 := pw_le k (by omega)
    by_cases hlt : (k : Int) < a % 14
    · go_wp2
      go_round
      case rel => exact ⟨k + 1, by omega, by go_num, rfl⟩
      case measure => simp [intOf]; omega
    · have hf := pw_form k
      generalize pw k = p at *
      have q0 : 0 ≤ n / p := Int.ediv_nonneg (by omega) (by omega)
      have q1 : n / p ≤ n := Int.ediv_le_self _ (by omega)
      have hb := mul_bd (d % 10 - n / p % 10) p hp0 hp1 (by omega) (by omega)
      obtain ⟨b1, b2⟩ := hb
      have hfin : n / p % 10 ≠ d % 10 → (p ≤ 1 ∨ ¬ (d % 10 - n / p % 10 = 7 ∨ n / p % 10 - d % 10 = 7)) → isT (n + (d % 10 - n / p % 10) * p) = false := fun h1 h2 =>
        wrong_digit n p (n / p % 10) (d % 10) HT.out hf rfl (by omega) h1 (by omega)
      have HN := Lib.hid hfin; clear hfin hf
      by_cases heq : n / p % 10 = d % 10
      · have hB : (n / p % 10 == d % 10) = true := by simpa using heq
        have HQ := Lib.hid heq; clear heq
        go_wp2_with (go_at_call 7; refine (knows_true _ ht).mono ?_; rintro e w5 ⟨rfl, h5⟩)
        go_ret
        exact ⟨rfl, h5⟩
      · have hB : (n / p % 10 == d % 10) = false := by simpa using heq
        by_cases h7 : p ≤ 1 ∨ ¬ (d % 10 - n / p % 10 = 7 ∨ n / p % 10 - d % 10 = 7)
        · have hx := HN.out heq h7
          have HX := Lib.hid hx
          have hcar : car (n + (d % 10 - n / p % 10) * p) = 0 := by rw [car, hx]; rfl
          have hser : ser (n + (d % 10 - n / p % 10) * p) = 0 := by rw [ser, hx]; rfl
          have HC := Lib.hid hcar; have HS := Lib.hid hser
          clear hx hcar hser heq
          have h1 : p ≤ 1 ∨ 1 < p := by omega
          rcases h1 with h1 | h1
          · have hz : ¬ 1 < p := by omega
            have H7 := Lib.hid h7; clear h7
            go_wp2_with (first
              | (go_at_call 14; refine (next_bad _ _ (by omega) (by omega) HX.out).mono ?_; rintro e w' ⟨rfl, rfl⟩)
              | (go_at_call 16; refine (right_at _ _ _ HX.out (by omega) (by omega)).mono ?_; rintro e w' ⟨rfl, rfl⟩)
              | (go_at_call 18; refine (carrier_at _ _ _ HC.out (by omega) (by omega)).mono ?_; rintro e w' ⟨rfl, rfl⟩)
              | (go_at_call 20; refine (serial_at _ _ _ HS.out (by omega) (by omega)).mono ?_; rintro e w' ⟨rfl, rfl⟩)
              | (go_at_call 7; refine (knows_true _ ht).mono ?_; rintro e w5 ⟨rfl, h5⟩))
            go_ret
            exact ⟨rfl, h5⟩
          · have g1 : (d % 10 - n / p % 10 == 7) = false := by simp; omega
            have g2 : (n / p % 10 - d % 10 == 7) = false := by simp; omega
            clear h7
            go_wp2_with (first
              | (go_at_call 14; refine (next_bad _ _ (by omega) (by omega) HX.out).mono ?_; rintro e w' ⟨rfl, rfl⟩)
              | (go_at_call 16; refine (right_at _ _ _ HX.out (by omega) (by omega)).mono ?_; rintro e w' ⟨rfl, rfl⟩)
              | (go_at_call 18; refine (carrier_at _ _ _ HC.out (by omega) (by omega)).mono ?_; rintro e w' ⟨rfl, rfl⟩)
              | (go_at_call 20; refine (serial_at _ _ _ HS.out (by omega) (by omega)).mono ?_; rintro e w' ⟨rfl, rfl⟩)
              | (go_at_call 7; refine (knows_true _ ht).mono ?_; rintro e w5 ⟨rfl, h5⟩))
            go_ret
            exact ⟨rfl, h5⟩
        · have h1 : 1 < p := by omega
          by_cases g : d % 10 - n / p % 10 = 7
          · have g1 : (d % 10 - n / p % 10 == 7) = true := by simpa using g
            have HG := Lib.hid g
            have H7 := Lib.hid h7; clear h7 g heq
            go_wp2_with (go_at_call 7; refine (knows_true _ ht).mono ?_; rintro e w5 ⟨rfl, h5⟩)
            go_ret
            exact ⟨rfl, h5⟩
          · have g1 : (d % 10 - n / p % 10 == 7) = false := by simpa using g
            have g2 : (n / p % 10 - d % 10 == 7) = true := by simp; omega
            have H7 := Lib.hid h7; clear h7 g heq
            go_wp2_with (go_at_call 7; refine (knows_true _ ht).mono ?_; rintro e w5 ⟨rfl, h5⟩)
            go_ret
            exact ⟨rfl, h5⟩
end Go.Proofs.YtejmfhbnbelklaaDoor
