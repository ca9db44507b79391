/- The walks of DocnumBack and DocnumWrong. -/
import Derived.Test.YtejmfhbnbelklaaDoorB2
namespace Go.Proofs.YtejmfhbnbelklaaDoor
open Go Go.RowKit
theorem ret_bool {a b : Bool} (h : a = b) : Ending.returned (.bool a) = .returned (.bool b) := by rw [h]
theorem back_big (c s : Int) (t : ByteArray) (w : World) (h1000 : ¬ (t.size : Int) ≤ 1000) (ht : Tab w) (hl : t.size ≤ 9223372036854775807) :
    Calls Tryd.prog 5 #[.int .i64 c, .int .i64 s, .string t] w fun e w' => e = .returned (.bool true) ∧ Ext w w' := by
  go_enter Tryd.func5, Tryd.ntmps5
  go_wp2_with (go_at_call 7; refine (knows_true _ ht).mono ?_; rintro e w' ⟨rfl, he⟩)
  go_ret
  exact ⟨rfl, he⟩
theorem right_at (n : Int) (w : World) (b : Bool) (h : isT n = b) (hn : -9223372036854775808 ≤ n) (hn' : n ≤ 9223372036854775807) : Calls Tryd.prog 16 #[.int .i64 n] w fun e w' => e = .returned (.bool b) ∧ w = w' := by
  rw [← h]; exact right_any n w hn hn'
theorem carrier_at (n c : Int) (w : World) (h : car n = c) (hn : -9223372036854775808 ≤ n) (hn' : n ≤ 9223372036854775807) : Calls Tryd.prog 18 #[.int .i64 n] w fun e w' => e = .returned (.int .i64 c) ∧ w = w' := by
  rw [← h]; exact carrier_any n w hn hn'
theorem serial_at (n c : Int) (w : World) (h : ser n = c) (hn : -9223372036854775808 ≤ n) (hn' : n ≤ 9223372036854775807) : Calls Tryd.prog 20 #[.int .i64 n] w fun e w' => e = .returned (.int .i64 c) ∧ w = w' := by
  rw [← h]; exact serial_any n w hn hn'
theorem parse_prt (n : Int) (w : World) (h : isT n = true) (ht : Tab w) : Calls Tryd.prog 10 #[.string ⟨(prt n).toArray⟩] w fun e w' => e = .returned (.tuple #[.int .i64 n, .int .i64 0]) ∧ Ext w w' := by
  have h1 := parse_16 ⟨(prt n).toArray⟩ w (by rw [ba_size, prt_len]) ht
  have hp := prs_prt h
  simp only [prsV_yes hp, prsE_yes hp, val_prt h] at h1
  exact h1
theorem parse_no (s : ByteArray) (w : World) (h : prsB s.data.toList = false) (hl : s.size ≤ 9223372036854775807) (ht : Tab w) : Calls Tryd.prog 10 #[.string s] w fun e w' => e = .returned (.tuple #[.int .i64 0, .int .i64 3]) ∧ Ext w w' := by
  have h1 := parse_any s w hl ht
  rw [prsV_no h, prsE_no h] at h1
  exact h1
theorem parse_yes (s : ByteArray) (w : World) (h : prsB s.data.toList = true) (hl : s.size ≤ 9223372036854775807) (ht : Tab w) : Calls Tryd.prog 10 #[.string s] w fun e w' => e = .returned (.tuple #[.int .i64 (val 0 s.data.toList), .int .i64 0]) ∧ Ext w w' := by
  have h1 := parse_any s w hl ht
  rw [prsV_yes h, prsE_yes h] at h1
  exact h1
theorem prsB_parts {s : ByteArray} (h : prsB s.data.toList = true) : isT (val 0 s.data.toList) = true ∧ (⟨(prt (val 0 s.data.toList)).toArray⟩ : ByteArray) = s := by
  simp only [prsB, Bool.and_eq_true, beq_iff_eq] at h
  exact ⟨h.1.2, by rw [h.2]⟩
theorem print_of (s : ByteArray) (w : World) (h : prsB s.data.toList = true) (ht : Tab w) : Calls Tryd.prog 8 #[.int .i64 (val 0 s.data.toList)] w fun e w' => e = .returned (.tuple #[.string s, .int .i64 0]) ∧ Ext w w' := by
  obtain ⟨a, b⟩ := prsB_parts h
  have h1 := print_yes _ w a ht
  rw [b] at h1
  exact h1
theorem print_0 (w : World) : Calls Tryd.prog 8 #[.int .i64 0] w fun e w' => e = .returned (.tuple #[.string ⟨[].toArray⟩, .int .i64 2]) ∧ Ext w w' :=
  print_no 0 w (by omega) (by omega) (by decide)
theorem make_at (c s : Int) (w : World) (h : mkB c s = true) : Calls Tryd.prog 12 #[.int .i64 c, .int .i64 s] w fun e w' => e = .returned (.tuple #[.int .i64 (mk c s), .int .i64 0]) ∧ w = w' := by
  obtain ⟨a, b, d, e⟩ := mkB_yes h; exact make_ok c s w a b d e
set_option maxHeartbeats 1000000 in
theorem back_made_no (c s : Int) (t : ByteArray) (w : World) (h1000 : (t.size : Int) ≤ 1000) (h : mkB c s = true) (hp : prsB t.data.toList = false) (ht : Tab w) :
    Calls Tryd.prog 5 #[.int .i64 c, .int .i64 s, .string t] w fun e w' => e = .returned (.bool true) ∧ Ext w w' := by
  obtain ⟨g1, g2, g3, g4⟩ := mkB_yes h
  have hT := isT_mk h
  obtain ⟨b1, b2, b3⟩ := isT_yes hT
  have hc := car_mk h
  have hs := ser_mk h
  have hlen : (prt (mk c s)).length ≤ 16 := by rw [prt_len]; omega
  have hl : t.size ≤ 9223372036854775807 := by omega
  have hlen2 : 16 ≤ (prt (mk c s)).length := by rw [prt_len]; omega
  have hmk : ∀ w, Calls Tryd.prog 12 #[.int .i64 c, .int .i64 s] w fun e w' => e = .returned (.tuple #[.int .i64 (mk c s), .int .i64 0]) ∧ w = w' := fun w => make_at c s w h
  have hpr : ∀ w, Tab w → Calls Tryd.prog 10 #[.string ⟨(prt (mk c s)).toArray⟩] w fun e w' => e = .returned (.tuple #[.int .i64 (mk c s), .int .i64 0]) ∧ Ext w w' := fun w ht => parse_prt _ w hT ht
  have hpt : ∀ w, Tab w → Calls Tryd.prog 8 #[.int .i64 (mk c s)] w fun e w' => e = .returned (.tuple #[.string ⟨(prt (mk c s)).toArray⟩, .int .i64 0]) ∧ Ext w w' := fun w ht => print_yes _ w hT ht
  generalize mk c s = n at *
  have H1 := Lib.hid hmk; clear hmk
  have H2 := Lib.hid hpr; clear hpr
  have H3 := Lib.hid hpt; clear hpt
  have HT := Lib.hid hT; clear hT
  have HC := Lib.hid hc; clear hc
  have HS := Lib.hid hs; clear hs
  clear b3 h
  have HP := Lib.hid hp; clear hp
  go_enter Tryd.func5, Tryd.ntmps5
  go_wp2_with (first
    | (go_at_call 12; refine (H1.out _).mono ?_; rintro e w' ⟨rfl, rfl⟩)
    | (go_at_call 8; refine (H3.out _ ht).mono ?_; rintro e w1 ⟨rfl, h1⟩))
  have ht1 := ht.ext h1
  refine (H2.out _ ht1).mono ?_; rintro e w2 ⟨rfl, h2⟩
  have ht2 := ht1.ext h2
  have hx := Ext.trans h1 h2
  go_wp2_with (first
    | (go_at_call 16; refine (right_at _ _ _ HT.out (by omega) (by omega)).mono ?_; rintro e w' ⟨rfl, rfl⟩)
    | (go_at_call 18; refine (carrier_at _ _ _ HC.out (by omega) (by omega)).mono ?_; rintro e w' ⟨rfl, rfl⟩)
    | (go_at_call 20; refine (serial_at _ _ _ HS.out (by omega) (by omega)).mono ?_; rintro e w' ⟨rfl, rfl⟩))
  refine (parse_no _ _ HP.out hl ht2).mono ?_; rintro e w3 ⟨rfl, h3⟩
  have ht3 := ht2.ext h3
  go_wp2_with fail
  refine (print_0 _).mono ?_; rintro e w4 ⟨rfl, h4⟩
  have ht4 := ht3.ext h4
  go_wp2_with (go_at_call 7; refine (knows_true _ ht4).mono ?_; rintro e w5 ⟨rfl, h5⟩)
  go_ret
  exact ⟨rfl, ((hx.trans h3).trans h4).trans h5⟩
set_option maxHeartbeats 1000000 in
theorem back_made_yes (c s : Int) (t : ByteArray) (w : World) (h1000 : (t.size : Int) ≤ 1000) (h : mkB c s = true) (hp : prsB t.data.toList = true) (ht : Tab w) :
    Calls Tryd.prog 5 #[.int .i64 c, .int .i64 s, .string t] w fun e w' => e = .returned (.bool true) ∧ Ext w w' := by
  obtain ⟨g1, g2, g3, g4⟩ := mkB_yes h
  have hT := isT_mk h
  obtain ⟨b1, b2, b3⟩ := isT_yes hT
  have hc := car_mk h
  have hs := ser_mk h
  have hlen : (prt (mk c s)).length ≤ 16 := by rw [prt_len]; omega
  have hl : t.size ≤ 9223372036854775807 := by omega
  have hlen2 : 16 ≤ (prt (mk c s)).length := by rw [prt_len]; omega
  have hmk : ∀ w, Calls Tryd.prog 12 #[.int .i64 c, .int .i64 s] w fun e w' => e = .returned (.tuple #[.int .i64 (mk c s), .int .i64 0]) ∧ w = w' := fun w => make_at c s w h
  have hpr : ∀ w, Tab w → Calls Tryd.prog 10 #[.string ⟨(prt (mk c s)).toArray⟩] w fun e w' => e = .returned (.tuple #[.int .i64 (mk c s), .int .i64 0]) ∧ Ext w w' := fun w ht => parse_prt _ w hT ht
  have hpt : ∀ w, Tab w → Calls Tryd.prog 8 #[.int .i64 (mk c s)] w fun e w' => e = .returned (.tuple #[.string ⟨(prt (mk c s)).toArray⟩, .int .i64 0]) ∧ Ext w w' := fun w ht => print_yes _ w hT ht
  generalize mk c s = n at *
  have H1 := Lib.hid hmk; clear hmk
  have H2 := Lib.hid hpr; clear hpr
  have H3 := Lib.hid hpt; clear hpt
  have HT := Lib.hid hT; clear hT
  have HC := Lib.hid hc; clear hc
  have HS := Lib.hid hs; clear hs
  clear b3 h
  have HP := Lib.hid hp; clear hp
  go_enter Tryd.func5, Tryd.ntmps5
  go_wp2_with (first
    | (go_at_call 12; refine (H1.out _).mono ?_; rintro e w' ⟨rfl, rfl⟩)
    | (go_at_call 8; refine (H3.out _ ht).mono ?_; rintro e w1 ⟨rfl, h1⟩))
  have ht1 := ht.ext h1
  refine (H2.out _ ht1).mono ?_; rintro e w2 ⟨rfl, h2⟩
  have ht2 := ht1.ext h2
  have hx := Ext.trans h1 h2
  go_wp2_with (first
    | (go_at_call 16; refine (right_at _ _ _ HT.out (by omega) (by omega)).mono ?_; rintro e w' ⟨rfl, rfl⟩)
    | (go_at_call 18; refine (carrier_at _ _ _ HC.out (by omega) (by omega)).mono ?_; rintro e w' ⟨rfl, rfl⟩)
    | (go_at_call 20; refine (serial_at _ _ _ HS.out (by omega) (by omega)).mono ?_; rintro e w' ⟨rfl, rfl⟩))
  refine (parse_yes _ _ HP.out hl ht2).mono ?_; rintro e w3 ⟨rfl, h3⟩
  have ht3 := ht2.ext h3
  go_wp2_with fail
  refine (print_of _ _ HP.out ht3).mono ?_; rintro e w4 ⟨rfl, h4⟩
  have ht4 := ht3.ext h4
  go_wp2_with (go_at_call 7; refine (knows_true _ ht4).mono ?_; rintro e w5 ⟨rfl, h5⟩)
  go_ret
  exact ⟨rfl, ((hx.trans h3).trans h4).trans h5⟩
set_option maxHeartbeats 1000000 in
theorem back_not_no (c s : Int) (t : ByteArray) (w : World) (h1000 : (t.size : Int) ≤ 1000) (h : mkB c s = false) (hp : prsB t.data.toList = false) (ht : Tab w) :
    Calls Tryd.prog 5 #[.int .i64 c, .int .i64 s, .string t] w fun e w' => e = .returned (.bool true) ∧ Ext w w' := by
  have g := mkB_no h
  have hl : t.size ≤ 9223372036854775807 := by omega
  have HP := Lib.hid hp; clear hp
  have HM := Lib.hid h; clear h
  go_enter Tryd.func5, Tryd.ntmps5
  go_wp2_with (go_at_call 12; refine (make_bad _ _ _ (mkB_no HM.out)).mono ?_; rintro e w' ⟨rfl, rfl⟩)
  refine (parse_no _ _ HP.out hl ht).mono ?_; rintro e w3 ⟨rfl, h3⟩
  have ht3 := ht.ext h3
  go_wp2_with fail
  refine (print_0 _).mono ?_; rintro e w4 ⟨rfl, h4⟩
  have ht4 := ht3.ext h4
  by_cases c1 : 0 < c
  · by_cases c2 : c < 1000
    · by_cases c3 : 0 ≤ s
      · have c4 : ¬ s < 10000000000 := by omega
        go_wp2_with (go_at_call 7; refine (knows_true _ ht4).mono ?_; rintro e w5 ⟨rfl, h5⟩)
        go_ret
        exact ⟨ret_bool (show (!decide (s < 10000000000)) = true by simp; omega), (Ext.trans h3 h4).trans h5⟩
      · go_wp2_with (go_at_call 7; refine (knows_true _ ht4).mono ?_; rintro e w5 ⟨rfl, h5⟩)
        go_ret
        exact ⟨rfl, (Ext.trans h3 h4).trans h5⟩
    · go_wp2_with (go_at_call 7; refine (knows_true _ ht4).mono ?_; rintro e w5 ⟨rfl, h5⟩)
      go_ret
      exact ⟨rfl, (Ext.trans h3 h4).trans h5⟩
  · go_wp2_with (go_at_call 7; refine (knows_true _ ht4).mono ?_; rintro e w5 ⟨rfl, h5⟩)
    go_ret
    exact ⟨rfl, (Ext.trans h3 h4).trans h5⟩
set_option maxHeartbeats 1000000 in
theorem back_not_yes (c s : Int) (t : ByteArray) (w : World) (h1000 : (t.size : Int) ≤ 1000) (h : mkB c s = false) (hp : prsB t.data.toList = true) (ht : Tab w) :
    Calls Tryd.prog 5 #[.int .i64 c, .int .i64 s, .string t] w fun e w' => e = .returned (.bool true) ∧ Ext w w' := by
  have g := mkB_no h
  have hl : t.size ≤ 9223372036854775807 := by omega
  have HP := Lib.hid hp; clear hp
  have HM := Lib.hid h; clear h
  go_enter Tryd.func5, Tryd.ntmps5
  go_wp2_with (go_at_call 12; refine (make_bad _ _ _ (mkB_no HM.out)).mono ?_; rintro e w' ⟨rfl, rfl⟩)
  refine (parse_yes _ _ HP.out hl ht).mono ?_; rintro e w3 ⟨rfl, h3⟩
  have ht3 := ht.ext h3
  go_wp2_with fail
  refine (print_of _ _ HP.out ht3).mono ?_; rintro e w4 ⟨rfl, h4⟩
  have ht4 := ht3.ext h4
  by_cases c1 : 0 < c
  · by_cases c2 : c < 1000
    · by_cases c3 : 0 ≤ s
      · have c4 : ¬ s < 10000000000 := by omega
        go_wp2_with (go_at_call 7; refine (knows_true _ ht4).mono ?_; rintro e w5 ⟨rfl, h5⟩)
        go_ret
        exact ⟨ret_bool (show (!decide (s < 10000000000)) = true by simp; omega), (Ext.trans h3 h4).trans h5⟩
      · go_wp2_with (go_at_call 7; refine (knows_true _ ht4).mono ?_; rintro e w5 ⟨rfl, h5⟩)
        go_ret
        exact ⟨rfl, (Ext.trans h3 h4).trans h5⟩
    · go_wp2_with (go_at_call 7; refine (knows_true _ ht4).mono ?_; rintro e w5 ⟨rfl, h5⟩)
      go_ret
      exact ⟨rfl, (Ext.trans h3 h4).trans h5⟩
  · go_wp2_with (go_at_call 7; refine (knows_true _ ht4).mono ?_; rintro e w5 ⟨rfl, h5⟩)
    go_ret
    exact ⟨rfl, (Ext.trans h3 h4).trans h5⟩
theorem back_true (c s : Int) (t : ByteArray) (w : World) (hl : t.size ≤ 9223372036854775807) (ht : Tab w) :
    Calls Tryd.prog 5 #[.int .i64 c, .int .i64 s, .string t] w fun e w' => e = .returned (.bool true) ∧ Ext w w' := by
  by_cases h1000 : (t.size : Int) ≤ 1000
  · cases h : mkB c s
    · cases hp : prsB t.data.toList
      · exact back_not_no c s t w h1000 h hp ht
      · exact back_not_yes c s t w h1000 h hp ht
    · cases hp : prsB t.data.toList
      · exact back_made_no c s t w h1000 h hp ht
      · exact back_made_yes c s t w h1000 h hp ht
  · exact back_big c s t w h1000 ht hl
end Go.Proofs.YtejmfhbnbelklaaDoor
