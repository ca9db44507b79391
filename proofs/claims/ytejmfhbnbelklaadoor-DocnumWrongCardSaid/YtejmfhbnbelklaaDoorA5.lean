/- Print of the reference, Parse of both. -/
import Derived.Test.YtejmfhbnbelklaaDoorA4
import Derived.Lib.ConvBytes
namespace Go.Proofs.YtejmfhbnbelklaaDoor
open Go Go.RowKit

theorem rprint_no (n : Int) (w : World) (hn : -9223372036854775808 ≤ n) (hn' : n ≤ 9223372036854775807) (h : isT n = false) :
    Calls Tryd.prog 9 #[.int .i64 n] w fun e w' => e = .returned (.tuple #[.string ⟨[].toArray⟩, .int .i64 2]) ∧ Ext w w' := by
  go_enter Tryd.func9, Tryd.ntmps9
  go_wp2_with (go_at_call 17; refine (rright_at _ _ hn hn' _ h).mono ?_; rintro e w' ⟨rfl, rfl⟩)
  go_ret2
  exact ⟨rfl, Ext.refl _⟩
theorem digits3 (n : Int) (w : World) (h0 : 0 ≤ n) (h : n < 1000) : Calls Tryd.prog 24 #[.int .i64 n, .int .i64 3] w fun e w' => e = .returned (.string ⟨(dgs n 3).toArray⟩) ∧ Ext w w' :=
  digits_any n 3 w h0 (by omega) (by omega) (by omega)
theorem digits10 (n : Int) (w : World) (h0 : 0 ≤ n) (h : n < 10000000000) : Calls Tryd.prog 24 #[.int .i64 n, .int .i64 10] w fun e w' => e = .returned (.string ⟨(dgs n 10).toArray⟩) ∧ Ext w w' :=
  digits_any n 10 w h0 (by omega) (by omega) (by omega)
theorem digits1 (n : Int) (w : World) (h0 : 0 ≤ n) (h : n ≤ 9223372036854775807) : Calls Tryd.prog 24 #[.int .i64 n, .int .i64 1] w fun e w' => e = .returned (.string ⟨(dgs (n % 10) 1).toArray⟩) ∧ Ext w w' := by
  have h1 := digits_any n 1 w h0 (by omega) (by omega) (by omega)
  rw [show (1 : Int).toNat = 1 from rfl, show dgs n 1 = dgs (n % 10) 1 by simp [dgs, quo, dgt]] at h1
  exact h1
set_option maxHeartbeats 400000 in
theorem rprint_yes (n : Int) (w : World) (h : isT n = true) :
    Calls Tryd.prog 9 #[.int .i64 n] w fun e w' => e = .returned (.tuple #[.string ⟨(prt n).toArray⟩, .int .i64 0]) ∧ Ext w w' := by
  obtain ⟨g1, g2, g3⟩ := isT_yes h
  clear g3
  have hl3 : (dgs (n / 10 / 10000000000) 3).length ≤ 3 := by rw [dgs_len]; omega
  have hl10 : (dgs (n / 10 % 10000000000) 10).length ≤ 10 := by rw [dgs_len]; omega
  have hl1 : (dgs (n % 10) 1).length ≤ 1 := by rw [dgs_len]; omega
  have hp := prt_app n
  have HP := Lib.hid hp; clear hp
  go_enter Tryd.func9, Tryd.ntmps9
  go_wp2_with (first
    | (go_at_call 17; refine (rright_at _ _ (by omega) (by omega) _ h).mono ?_; rintro e w' ⟨rfl, rfl⟩)
    | (go_at_call 19; refine (rcarrier_yes _ _ h).mono ?_; rintro e w' ⟨rfl, rfl⟩))
  refine (digits3 _ _ (by omega) (by omega)).mono ?_; rintro e w1 ⟨rfl, e1⟩
  have E1 := Lib.hid e1; clear e1
  go_wp2_with (go_at_call 21; refine (rserial_yes _ _ h).mono ?_; rintro e w' ⟨rfl, rfl⟩)
  refine (digits10 _ _ (by omega) (by omega)).mono ?_; rintro e w2 ⟨rfl, e2⟩
  have E2 := Lib.hid e2; clear e2
  go_wp2_with fail
  refine (digits1 _ _ (by omega) (by omega)).mono ?_; rintro e w3 ⟨rfl, e3⟩
  have E3 := Lib.hid e3; clear e3
  go_wp2_with fail
  go_ret2
  exact ⟨ret_two HP.out rfl, (E1.out.trans E2.out).trans E3.out⟩

def prsB (l : List UInt8) : Bool := l.length == 16 && isT (val 0 l) && prt (val 0 l) == l
theorem val_take (s : ByteArray) (k : Nat) (h : k < s.size) : val 0 (s.data.toList.take (k + 1)) = (if 48 ≤ (s[k].toNat : Int) ∧ (s[k].toNat : Int) ≤ 57 then 10 * val 0 (s.data.toList.take k) + (s[k].toNat - 48 : Int) else val 0 (s.data.toList.take k)) := by
  rw [List.take_succ_eq_append_getElem (by simpa using h), val_append]
  have e : (48 ≤ s[k] ∧ s[k] ≤ 57) ↔ (48 ≤ (s[k].toNat : Int) ∧ (s[k].toNat : Int) ≤ 57) := by
    rw [UInt8.le_iff_toNat_le, UInt8.le_iff_toNat_le]
    show (48 ≤ s[k].toNat ∧ s[k].toNat ≤ 57) ↔ _
    omega
  show val (val 0 (s.data.toList.take k)) [s[k]] = _
  simp only [val, List.foldl_cons, List.foldl_nil]
  split <;> split <;> simp_all
theorem val_bd (l : List UInt8) (h : l.length ≤ 16) : 0 ≤ val 0 l ∧ val 0 l < 10000000000000000 := by
  obtain ⟨a, b⟩ := val_bounds l 0 (by omega)
  refine ⟨a, Int.lt_of_lt_of_le b ?_⟩
  have : (10 : Int) ^ l.length ≤ 10 ^ 16 := by exact_mod_cast Nat.pow_le_pow_right (by omega) h
  omega
set_option maxHeartbeats 400000 in
theorem rparse_len (s : ByteArray) (w : World) (hl : s.size ≤ 9223372036854775807) (h : ((s.size : Int) == 16) = false) :
    Calls Tryd.prog 11 #[.string s] w fun e w' => e = .returned (.tuple #[.int .i64 0, .int .i64 3]) ∧ Ext w w' := by
  go_enter Tryd.func11, Tryd.ntmps11
  go_wp2
  go_ret2
  exact ⟨rfl, Ext.refl _⟩
theorem prsB_of {l : List UInt8} (hl : l.length = 16) : prsB l = (isT (val 0 l) && prt (val 0 l) == l) := by simp [prsB, hl]
theorem ba_ne {s : ByteArray} {l : List UInt8} (h : (l == s.data.toList) = false) : (l == s.toList) = false := by
  rw [ByteArray.toList_eq]; exact h
theorem ba_eq {s : ByteArray} {l : List UInt8} (h : (l == s.data.toList) = true) : (l == s.toList) = true := by
  rw [ByteArray.toList_eq]; exact h
def prsV (l : List UInt8) : Int := if prsB l then val 0 l else 0
def prsE (l : List UInt8) : Int := if prsB l then 0 else 3
theorem prsV_no {l : List UInt8} (h : prsB l = false) : prsV l = 0 := by simp [prsV, h]
theorem prsE_no {l : List UInt8} (h : prsB l = false) : prsE l = 3 := by simp [prsE, h]
theorem prsV_yes {l : List UInt8} (h : prsB l = true) : prsV l = val 0 l := by simp [prsV, h]
theorem prsE_yes {l : List UInt8} (h : prsB l = true) : prsE l = 0 := by simp [prsE, h]
theorem ret_ii {a b c d : Int} (h : a = c) (h' : b = d) : Ending.returned (.tuple #[.int .i64 a, .int .i64 b]) = .returned (.tuple #[.int .i64 c, .int .i64 d]) := by rw [h, h']
set_option maxHeartbeats 400000 in
theorem rparse_16 (s : ByteArray) (w : World) (hl : s.size = 16) :
    Calls Tryd.prog 11 #[.string s] w fun e w' => e = .returned (.tuple #[.int .i64 (prsV s.data.toList), .int .i64 (prsE s.data.toList)]) ∧ Ext w w' := by
  have hl1 : s.size ≤ 16 := by omega
  have hl2 : 16 ≤ s.size := by omega
  have hb : ((s.size : Int) == 16) = true := by simp [hl]
  have hp := prsB_of (l := s.data.toList) (by simpa using hl)
  have HL := Lib.hid hl; clear hl
  have HP := Lib.hid hp; clear hp
  go_enter Tryd.func11, Tryd.ntmps11
  go_wp2
  go_loop [4, 5] (fun n i => ∃ k : Nat, k ≤ s.size ∧ i = .int .i64 k ∧ n = .int .i64 (val 0 (s.data.toList.take k))) (fun _ i => s.size - (intOf i).toNat)
  case atStart => exact ⟨0, Nat.zero_le _, rfl, rfl⟩
  case round =>
    obtain ⟨k, hk, rfl, rfl⟩ := hrel
    obtain ⟨hd0, hd1⟩ := val_bd (s.data.toList.take k) (by have := List.length_take_le k s.data.toList; omega)
    by_cases hlt : k < s.size
    · have hsn := val_take s k hlt
      have hc : s[k].toNat < 256 := s[k].toNat_lt
      have HS := Lib.hid hsn
      clear hsn
      by_cases hdg : 48 ≤ (s[k].toNat : Int) ∧ (s[k].toNat : Int) ≤ 57
      · obtain ⟨hdg1, hdg2⟩ := hdg
        go_wp2
        go_round
        case rel => exact ⟨k + 1, by omega, by go_num, by rw [HS.out, if_pos ⟨hdg1, hdg2⟩]⟩
        case measure => simp [intOf]; omega
      · by_cases hd48 : 48 ≤ (s[k].toNat : Int)
        · have hd57 : ¬ (s[k].toNat : Int) ≤ 57 := by omega
          have HD := Lib.hid hdg; clear hdg
          go_wp2
          go_round
          case rel => exact ⟨k + 1, by omega, by go_num, by rw [HS.out, if_neg HD.out]⟩
          case measure => simp [intOf]; omega
        · have HD := Lib.hid hdg; clear hdg
          go_wp2
          go_round
          case rel => exact ⟨k + 1, by omega, by go_num, by rw [HS.out, if_neg HD.out]⟩
          case measure => simp [intOf]; omega
    · have hkl : s.data.toList.take k = s.data.toList := List.take_of_length_le (by simp; omega)
      rw [hkl] at hd0 hd1 ⊢
      clear hkl
      generalize hv : val 0 s.data.toList = v at hd0 hd1 HP ⊢
      have HV := Lib.hid hv; clear hv
      cases hT : isT v
      · have HX : Hid (prsB s.data.toList = false) := by show _ = _; rw [HP.out, hT]; rfl
        clear HP
        go_wp2_with (go_at_call 9; refine (rprint_no _ _ (by omega) (by omega) hT).mono ?_; rintro e w' ⟨rfl, he⟩)
        go_ret2
        exact ⟨ret_ii (prsV_no HX.out).symm (prsE_no HX.out).symm, he⟩
      · cases hq : prt v == s.data.toList
        · have HX : Hid (prsB s.data.toList = false) := by show _ = _; rw [HP.out, hT, hq]; rfl
          have hne := ba_ne hq
          have HQ := Lib.hid hq
          clear HP hq
          go_wp2_with (go_at_call 9; refine (rprint_yes _ _ hT).mono ?_; rintro e w' ⟨rfl, he⟩)
          go_ret2
          exact ⟨ret_ii (prsV_no HX.out).symm (prsE_no HX.out).symm, he⟩
        · have HX : Hid (prsB s.data.toList = true) := by show _ = _; rw [HP.out, hT, hq]; rfl
          have hne := ba_eq hq
          have HQ := Lib.hid hq
          clear HP hq
          go_wp2_with (go_at_call 9; refine (rprint_yes _ _ hT).mono ?_; rintro e w' ⟨rfl, he⟩)
          go_ret2
          exact ⟨ret_ii (by rw [prsV_yes HX.out, HV.out]) (prsE_yes HX.out).symm, he⟩
end Go.Proofs.YtejmfhbnbelklaaDoor
