/- Parse of the program. -/
import Derived.Test.YtejmfhbnbelklaaDoorA5
import Derived.Lib.ConvBytes
namespace Go.Proofs.YtejmfhbnbelklaaDoor
open Go Go.RowKit
set_option maxHeartbeats 400000 in
theorem parse_len (s : ByteArray) (w : World) (hl : s.size ≤ 9223372036854775807) (h : ((s.size : Int) == 16) = false) :
    Calls Tryd.prog 10 #[.string s] w fun e w' => e = .returned (.tuple #[.int .i64 0, .int .i64 3]) ∧ Ext w w' := by
  go_enter Tryd.func10, Tryd.ntmps10
  go_wp2
  go_ret2
  exact ⟨rfl, Ext.refl _⟩
theorem bytes_below (w : World) (e : TypeId) (s : ByteArray) : Ext w (Lib.bytesWorld w e s) :=
  ⟨rfl, rfl, rfl, by rw [Lib.bytesWorld_size]; omega, fun i hi => Lib.bytesWorld_at_old w e s i hi⟩
set_option maxHeartbeats 400000 in
theorem parse_16 (s : ByteArray) (w : World) (hl : s.size = 16) (ht : Tab w) :
    Calls Tryd.prog 10 #[.string s] w fun e w' => e = .returned (.tuple #[.int .i64 (prsV s.data.toList), .int .i64 (prsE s.data.toList)]) ∧ Ext w w' := by
  have hl1 : s.size ≤ 16 := by omega
  have hl2 : 16 ≤ s.size := by omega
  have hb : ((s.size : Int) == 16) = true := by simp [hl]
  have hp := prsB_of (l := s.data.toList) (by simpa using hl)
  have HL := Lib.hid hl; clear hl
  have HP := Lib.hid hp; clear hp
  have hcv := Lib.run_convert_string_bytes (P := Tryd.prog) w 9 41 5 s Tryd.underlying9 Tryd.underlying41 Tryd.underlying5
  have hcell : ∀ k, (h : k < s.size) → (Lib.bytesWorld w 5 s).cell? ⟨w.heap.size, k, none⟩ = some (.int .u8 s[k].toNat) := fun k h => by
    rw [Lib.bytesWorld_cell w 5 s k h, List.getD, List.getElem?_eq_getElem (by simpa using h)]; rfl
  have hx : Ext w (Lib.bytesWorld w 5 s) := bytes_below w 5 s
  have HC := Lib.hid hcell; clear hcell
  have HX := Lib.hid hx; clear hx
  go_enter Tryd.func10, Tryd.ntmps10
  go_wp2
  clear hcv
  generalize Lib.bytesWorld w 5 s = wb at HC HX
  go_loop [4, 15] (fun n i => ∃ k : Nat, k ≤ s.size ∧ i = .int .i64 k ∧ n = .int .i64 (val 0 (s.data.toList.take k))) (fun _ i => s.size - (intOf i).toNat)
  case atStart => exact ⟨0, Nat.zero_le _, rfl, rfl⟩
  case round =>
    obtain ⟨k, hk, rfl, rfl⟩ := hrel
    obtain ⟨hd0, hd1⟩ := val_bd (s.data.toList.take k) (by have := List.length_take_le k s.data.toList; omega)
    by_cases hlt : k < s.size
    · have hsn := val_take s k hlt
      have hcell := HC.out k hlt
      have hc : s[k].toNat < 256 := s[k].toNat_lt
      have HS := Lib.hid hsn
      clear hsn
      by_cases hdg : 48 ≤ (s[k].toNat : Int) ∧ (s[k].toNat : Int) ≤ 57
      · obtain ⟨hdg1, hdg2⟩ := hdg
        go_wp2
        go_round
        case rel => exact ⟨k + 1, by omega, by go_num, by rw [HS.out, if_pos ⟨hdg1, hdg2⟩]⟩
        case measure => simp [intOf]; omega
      · by_cases hd48 : 48 ≤ (s[k].toNat : Int)
        · have hd57 : ¬ (s[k].toNat : Int) ≤ 57 := by omega
          have HD := Lib.hid hdg; clear hdg
          go_wp2
          go_round
          case rel => exact ⟨k + 1, by omega, by go_num, by rw [HS.out, if_neg HD.out]⟩
          case measure => simp [intOf]; omega
        · have HD := Lib.hid hdg; clear hdg
          go_wp2
          go_round
          case rel => exact ⟨k + 1, by omega, by go_num, by rw [HS.out, if_neg HD.out]⟩
          case measure => simp [intOf]; omega
    · have hkl : s.data.toList.take k = s.data.toList := List.take_of_length_le (by simp; omega)
      rw [hkl] at hd0 hd1 ⊢
      clear hkl
      generalize hv : val 0 s.data.toList = v at hd0 hd1 HP ⊢
      have HV := Lib.hid hv; clear hv
      have htb := Tab.ext ht HX.out
      cases hT : isT v
      · have HX1 : Hid (prsB s.data.toList = false) := by show _ = _; rw [HP.out, hT]; rfl
        clear HP
        go_wp2_with (go_at_call 8; refine (print_no _ _ (by omega) (by omega) hT).mono ?_; rintro e w' ⟨rfl, he⟩)
        go_ret2
        exact ⟨ret_ii (prsV_no HX1.out).symm (prsE_no HX1.out).symm, HX.out.trans he⟩
      · cases hq : prt v == s.data.toList
        · have HX1 : Hid (prsB s.data.toList = false) := by show _ = _; rw [HP.out, hT, hq]; rfl
          have hne := ba_ne hq
          have HQ := Lib.hid hq
          clear HP hq
          go_wp2_with (go_at_call 8; refine (print_yes _ _ hT htb).mono ?_; rintro e w' ⟨rfl, he⟩)
          go_ret2
          exact ⟨ret_ii (prsV_no HX1.out).symm (prsE_no HX1.out).symm, HX.out.trans he⟩
        · have HX1 : Hid (prsB s.data.toList = true) := by show _ = _; rw [HP.out, hT, hq]; rfl
          have hne := ba_eq hq
          have HQ := Lib.hid hq
          clear HP hq
          go_wp2_with (go_at_call 8; refine (print_yes _ _ hT htb).mono ?_; rintro e w' ⟨rfl, he⟩)
          go_ret2
          exact ⟨ret_ii (by rw [prsV_yes HX1.out, HV.out]) (prsE_yes HX1.out).symm, HX.out.trans he⟩
end Go.Proofs.YtejmfhbnbelklaaDoor
