/- The reference's errors of an airport. -/
import Derived.Test.YtfjgnfgadkajnaaGreatPl8
namespace Go.Proofs.YtfjgnfgadkajnaaGreat
open Go Go.RowKit
set_option linter.unusedSimpArgs false
set_option linter.unusedVariables false
set_option linter.deprecated false
def aTwice (a x : Airport) : Bool := decide (x.code = a.code)
def aMoved (a x : Airport) : Bool := decide (x.city = a.city) && !decide (x.country = a.country)
def airErrs (ps : List Airport) (i : Nat) (a : Airport) : List Int :=
  iIf (!capsB 3 a.code || !capsB 3 a.city || !capsB 2 a.country) 5 ++ iIf ((ps.take i).any (aTwice a)) 6 ++ iIf ((ps.take i).any (aMoved a)) 8 ++ iIf (!decide (zErr a.zone = 0)) (zErr a.zone)
def fAir (x : Places × Int) : Prop × V := (0 ≤ x.2 ∧ x.2.toNat < x.1.airports.length ∧ x.1.airports.length ≤ 1000000 ∧ (∀ a ∈ x.1.airports, a.ok), .list (ints (airErrs x.1.airports x.2.toNat (x.1.airports.getD x.2.toNat Airport.zero))) false)
theorem fZone_eq (zo : Int) (sh : List Shift) : gOf aZone fZone [.agg [.int .i64 zo, .list (sh.map Shift.enc) false]] = ((⟨zo, sh⟩ : Zone).ok, .int .i64 (zErr ⟨zo, sh⟩)) := gOf_eq aZone_inj (⟨zo, sh⟩ : Zone)
noncomputable def tAir : Tab
  | 42 => (gOf aStr (fCaps 3))
  | 43 => (gOf aStr (fCaps 2))
  | 44 => (gOf aZone fZone)
  | _ => gNo
theorem tAir_ok : ∀ f, PureC Tryz.prog UT f (tAir f) := fun f => by
  unfold tAir
  split
  · exact rairport_p
  · exact rtcountry_p
  · exact rzone_p
  · exact PureC.no
set_option maxHeartbeats 4000000 in
theorem rairErr_p : PureC Tryz.prog UT 19 (gOf aPi fAir) := by
  have hG := tAir_ok
  refine PureC.ofArgs aPi_inj Tryz.func19 body19 nm19 res19 ?_
  rintro ⟨⟨ps, ds⟩, ii⟩ hv
  refine ⟨by rw [nt19]; simp [aPi], fun C hN Q hQ => ?_⟩
  rw [nt19] at hN
  unfold c19
  obtain ⟨hi0, hin, hpl, hpo⟩ : 0 ≤ ii ∧ ii.toNat < ps.length ∧ ps.length ≤ 1000000 ∧ ∀ a ∈ ps, a.ok := hv
  obtain ⟨i, rfl⟩ : ∃ i : Nat, ii = (i : Int) := ⟨ii.toNat, by omega⟩
  rw [Int.toNat_natCast] at hin
  obtain ⟨h1, h2, h3, h4⟩ := hpo _ (List.getElem_mem hin)
  generalize haa : ps[i] = a at h1 h2 h3 h4
  obtain ⟨ac, at', an, ⟨zo, sh⟩⟩ := a
  dsimp only at h1 h2 h3 h4
  refine aw_seq (aw_region (EF := EF0) hG (by rw [hN]; exact tr19_0) ?_)
  simp only [a19_0, go_sem, simprocAttr, aPi, Places.enc, tAir, fCaps_eq]
  refine aw_seq (aw_region (EF := EF0) hG (by rw [hN]; exact tr19_1) ?_)
  simp only [a19_1, go_sem, simprocAttr, tAir, fCaps_eq]
  refine AW.le (s' := ⟨mkE [(1, .int .i64 i), (2, .ptr 2 0), (5, .own 999 0)], mkH ([(2, .box 25 [.list (ps.map Airport.enc) false, .list (ds.map Distance.enc) false]), (999, .arr 35 1 (ints []))])⟩) (Le.mk _ _ (by (simp only [go_sem, simprocAttr]) <;> (repeat' apply And.intro) <;> (try first | exact wk_frzb rfl rfl rfl | rfl | exact wk_fn rfl | exact .nill _ | exact .nilo _ _ _ rfl rfl | exact wk_frz rfl (by simp only [ints_len, nats_len]) rfl (ints_pur _) | exact wk_frzm rfl rfl (fun kv hk => by obtain ⟨_, _, rfl⟩ := List.mem_map.1 hk; rfl))) (by (simp only [go_sem, simprocAttr]) <;> (repeat' apply And.intro) <;> (try first | exact wk_frzb rfl rfl rfl | rfl | exact wk_fn rfl | exact .nill _ | exact .nilo _ _ _ rfl rfl | exact wk_frz rfl (by simp only [ints_len, nats_len]) rfl (ints_pur _) | exact wk_frzm rfl rfl (fun kv hk => by obtain ⟨_, _, rfl⟩ := List.mem_map.1 hk; rfl))) rfl) ?_
  refine aw_seq (aw_region (EF := EF0) hG (by rw [hN]; exact tr19_2) ?_)
  simp only [a19_2, go_sem, simprocAttr, getD_mapd _ _ _ _ hin, hin, haa, Airport.enc, tAir, fCaps_eq]
  (repeat' apply And.intro) <;> (try first | omega | ((fail_if_success refine idW ?_); (fail_if_success refine idS ?_); intros; (repeat' apply And.intro) <;> first | assumption | omega | (simp_all; done)))
  refine aw_cut (α := (List Int)) (fun g1 => (g1 = ([] : List Int) ++ iIf (!capsB 3 ac || !capsB 3 at' || !capsB 2 an) (5)) ∧ (g1.length ≤ ([] : List Int).length + 1)) (fun g1 => ⟨mkE [(1, V.int IntKind.i64 ↑i), (2, V.ptr 2 0), (5, .own 999 g1.length), (6, V.ptr 6 0)], mkH [(2, Ob.box 25 [V.list (List.map Airport.enc ps) false, V.list (List.map Distance.enc ds) false]), (6, Ob.box 46 [V.str ac, V.str at', V.str an, V.int IntKind.i64 zo, V.list (List.map Shift.enc sh) false]), (999, .arr 35 1 (ints g1))]⟩) ?_ ?_
  · intro KC3 hKC3
    refine aw_seq (aw_region (EF := EF0) hG (by rw [hN]; exact tr19_3) ?_)
    simp only [a19_3, go_sem, simprocAttr, h1, h2, h3, tAir, fCaps_eq]
    (repeat' apply And.intro) <;> (try first | omega | ((fail_if_success refine idW ?_); (fail_if_success refine idS ?_); intros; (repeat' apply And.intro) <;> first | assumption | omega | (simp_all; done)))
    refine aw_cond (b := _) rfl (fun hb3 => ?_) (fun hb3 => ?_)
    · skip
      refine aw_region (EF := EF0) hG (by rw [hN]; exact tr19_4) ?_
      simp only [a19_4, go_sem, simprocAttr, tAir, fCaps_eq]
      (repeat' apply And.intro) <;> (try first | omega | ((fail_if_success refine idW ?_); (fail_if_success refine idS ?_); intros; (repeat' apply And.intro) <;> first | assumption | omega | (simp_all; done)))
      refine hKC3 (([] : List Int) ++ [5]) _ ?_ ?_
      · (try dsimp only); exact ⟨by rw [iIf_t (show (!capsB 3 ac || !capsB 3 at' || !capsB 2 an) = true from hb3)], by simp⟩
      · refine Le.mk _ _ ?_ ?_ rfl <;> simp only [go_sem, simprocAttr, ints_snoc, List.length_append, List.length_cons, List.length_nil] <;> (repeat' apply And.intro) <;> (try first | rfl | exact wk_frzb rfl rfl rfl | exact wk_fn rfl | exact .nilo _ _ _ rfl rfl)
    · skip
      refine aw_skip ?_
      try simp only [go_sem, simprocAttr]
      refine hKC3 (([] : List Int)) _ ?_ ?_
      · (try dsimp only); exact ⟨by rw [iIf_f (show (!capsB 3 ac || !capsB 3 at' || !capsB 2 an) = false from hb3), List.append_nil], by omega⟩
      · refine Le.mk _ _ ?_ ?_ rfl <;> simp only [go_sem, simprocAttr] <;> (repeat' apply And.intro) <;> (try first | rfl | exact wk_frzb rfl rfl rfl | exact wk_fn rfl | exact .nilo _ _ _ rfl rfl)
  · rintro g1 ⟨hg1, lg1⟩
    simp only [List.length_nil] at lg1
    refine aw_seq (aw_region (EF := EF0) hG (by rw [hN]; exact tr19_5) ?_)
    simp only [a19_5, go_sem, simprocAttr, tAir, fCaps_eq]
    refine aw_seq ?_
    refine aw_seq (aw_region (EF := EF0) hG (by rw [hN]; exact tr19_6) ?_)
    simp only [a19_6, go_sem, simprocAttr, tAir, fCaps_eq]
    refine aw_block ?_
    refine aw_loop (α := Nat × Bool × Bool) (fun γ => (γ.1 ≤ i) ∧ (γ.2.1 = (ps.take γ.1).any (aTwice ⟨ac, at', an, ⟨zo, sh⟩⟩)) ∧ (γ.2.2 = (ps.take γ.1).any (aMoved ⟨ac, at', an, ⟨zo, sh⟩⟩))) (fun γ => ⟨mkE [(1, V.int IntKind.i64 ↑i), (2, V.ptr 2 0), (5, V.own 999 g1.length), (6, V.ptr 6 0), (7, .bool γ.2.1), (8, .bool γ.2.2), (9, .int .i64 γ.1)], mkH [(2, Ob.box 25 [V.list (List.map Airport.enc ps) false, V.list (List.map Distance.enc ds) false]), (6, Ob.box 46 [V.str ac, V.str at', V.str an, V.int IntKind.i64 zo, V.list (List.map Shift.enc sh) false]), (999, Ob.arr 35 1 (ints g1))]⟩) (fun γ => i - γ.1) (0, false, false) ⟨Nat.zero_le _, rfl, rfl⟩ ?_ ?_
    · refine Le.mk _ _ ?_ ?_ rfl <;> simp only [go_sem, simprocAttr] <;> (repeat' apply And.intro) <;> (try first | rfl | exact wk_frzb rfl rfl rfl | exact wk_fn rfl | exact .nilo _ _ _ rfl rfl)
    · rintro ⟨k, tw, mo⟩ ⟨hk, htw, hmo⟩ KL0 hKL0
      try dsimp only at *
      refine aw_seq ?_
      refine aw_seq (aw_region (EF := EF0) hG (by rw [hN]; exact tr19_7) ?_)
      simp only [a19_7, go_sem, simprocAttr, tAir, fCaps_eq]
      refine aw_cond (b := _) rfl (fun hc7 => ?_) (fun hc7 => ?_)
      · simp only [hcL] at hc7
        refine aw_skip ?_
        try simp only [go_sem, simprocAttr]
        refine aw_seq ?_
        refine aw_block ?_
        have hkd : k < ps.length := by omega
        refine aw_seq (aw_regionD (EF := EF0) hG mixed (by rw [hN]; exact tr19_9) ok19_9 ?_)
        simp only [a19_9, d19_9, go_sem, simprocAttr, getD_mapd _ _ _ _ hkd, hkd, Airport.enc, tAir, fCaps_eq]
        (repeat' apply And.intro) <;> (try first | omega | ((fail_if_success refine idW ?_); (fail_if_success refine idS ?_); intros; (repeat' apply And.intro) <;> first | assumption | omega | (simp_all; done)))
        refine aw_regionD (EF := EF0) hG mixed (by rw [hN]; exact tr19_10) ok19_10 ?_
        simp only [a19_10, d19_10, go_sem, simprocAttr, getD_mapd _ _ _ _ hkd, hkd, Airport.enc, tAir, fCaps_eq]
        (repeat' apply And.intro) <;> (try first | omega | ((fail_if_success refine idW ?_); (fail_if_success refine idS ?_); intros; (repeat' apply And.intro) <;> first | assumption | omega | (simp_all; done)) | (intro h; exact ⟨h, fun h2 => by rw [h, h2]; rfl⟩))
        refine aw_region (EF := EF0) hG (by rw [hN]; exact tr19_8) ?_
        simp only [a19_8, go_sem, simprocAttr, inI, tAir, fCaps_eq]
        (repeat' apply And.intro) <;> (try first | omega | ((fail_if_success refine idW ?_); (fail_if_success refine idS ?_); intros; (repeat' apply And.intro) <;> first | assumption | omega | (simp_all; done)))
        refine hKL0 (k + 1, tw || aTwice ⟨ac, at', an, ⟨zo, sh⟩⟩ ps[k], mo || aMoved ⟨ac, at', an, ⟨zo, sh⟩⟩ ps[k]) _ ?_ ?_ ?_
        · (try dsimp only); exact ⟨by omega, by rw [any_step _ hkd, htw], by rw [any_step _ hkd, hmo]⟩
        · (try dsimp only); omega
        · refine Le.mk _ _ ?_ ?_ rfl <;> simp only [go_sem, simprocAttr, aTwice, aMoved] <;> (repeat' apply And.intro) <;> (try first | rfl | exact wk_frzb rfl rfl rfl | exact wk_fn rfl | exact .nilo _ _ _ rfl rfl)
      · simp only [hcL] at hc7
        have hki : k = i := by omega
        refine aw_exit ?_
        simp only [go_sem, simprocAttr]
        refine aw_cut (α := (List Int)) (fun g2 => (g2 = g1 ++ iIf (tw) (6)) ∧ (g2.length ≤ g1.length + 1)) (fun g2 => ⟨mkE [(5, .own 999 g2.length), (6, V.ptr 6 0), (8, V.bool mo)], mkH [(6, Ob.box 46 [V.str ac, V.str at', V.str an, V.int IntKind.i64 zo, V.list (List.map Shift.enc sh) false]), (999, .arr 35 1 (ints g2))]⟩) ?_ ?_
        · intro KC11 hKC11
          refine aw_seq (aw_region (EF := EF0) hG (by rw [hN]; exact tr19_11) ?_)
          simp only [a19_11, go_sem, simprocAttr, tAir, fCaps_eq]
          refine aw_cond (b := _) rfl (fun hb11 => ?_) (fun hb11 => ?_)
          · skip
            refine aw_region (EF := EF0) hG (by rw [hN]; exact tr19_12) ?_
            simp only [a19_12, go_sem, simprocAttr, tAir, fCaps_eq]
            (repeat' apply And.intro) <;> (try first | omega | ((fail_if_success refine idW ?_); (fail_if_success refine idS ?_); intros; (repeat' apply And.intro) <;> first | assumption | omega | (simp_all; done)))
            refine hKC11 (g1 ++ [6]) _ ?_ ?_
            · (try dsimp only); exact ⟨by rw [iIf_t (show (tw) = true from hb11)], by simp⟩
            · refine Le.mk _ _ ?_ ?_ rfl <;> simp only [go_sem, simprocAttr, ints_snoc, List.length_append, List.length_cons, List.length_nil] <;> (repeat' apply And.intro) <;> (try first | rfl | exact wk_frzb rfl rfl rfl | exact wk_fn rfl | exact .nilo _ _ _ rfl rfl)
          · skip
            refine aw_skip ?_
            try simp only [go_sem, simprocAttr]
            refine hKC11 (g1) _ ?_ ?_
            · (try dsimp only); exact ⟨by rw [iIf_f (show (tw) = false from hb11), List.append_nil], by omega⟩
            · refine Le.mk _ _ ?_ ?_ rfl <;> simp only [go_sem, simprocAttr] <;> (repeat' apply And.intro) <;> (try first | rfl | exact wk_frzb rfl rfl rfl | exact wk_fn rfl | exact .nilo _ _ _ rfl rfl)
        · rintro g2 ⟨hg2, lg2⟩
          refine aw_cut (α := (List Int)) (fun g3 => (g3 = g2 ++ iIf (mo) (8)) ∧ (g3.length ≤ g2.length + 1)) (fun g3 => ⟨mkE [(5, .own 999 g3.length), (6, V.ptr 6 0)], mkH [(6, Ob.box 46 [V.str ac, V.str at', V.str an, V.int IntKind.i64 zo, V.list (List.map Shift.enc sh) false]), (999, .arr 35 1 (ints g3))]⟩) ?_ ?_
          · intro KC13 hKC13
            refine aw_seq (aw_region (EF := EF0) hG (by rw [hN]; exact tr19_13) ?_)
            simp only [a19_13, go_sem, simprocAttr, tAir, fCaps_eq]
            refine aw_cond (b := _) rfl (fun hb13 => ?_) (fun hb13 => ?_)
            · skip
              refine aw_region (EF := EF0) hG (by rw [hN]; exact tr19_14) ?_
              simp only [a19_14, go_sem, simprocAttr, tAir, fCaps_eq]
              (repeat' apply And.intro) <;> (try first | omega | ((fail_if_success refine idW ?_); (fail_if_success refine idS ?_); intros; (repeat' apply And.intro) <;> first | assumption | omega | (simp_all; done)))
              refine hKC13 (g2 ++ [8]) _ ?_ ?_
              · (try dsimp only); exact ⟨by rw [iIf_t (show (mo) = true from hb13)], by simp⟩
              · refine Le.mk _ _ ?_ ?_ rfl <;> simp only [go_sem, simprocAttr, ints_snoc, List.length_append, List.length_cons, List.length_nil] <;> (repeat' apply And.intro) <;> (try first | rfl | exact wk_frzb rfl rfl rfl | exact wk_fn rfl | exact .nilo _ _ _ rfl rfl)
            · skip
              refine aw_skip ?_
              try simp only [go_sem, simprocAttr]
              refine hKC13 (g2) _ ?_ ?_
              · (try dsimp only); exact ⟨by rw [iIf_f (show (mo) = false from hb13), List.append_nil], by omega⟩
              · refine Le.mk _ _ ?_ ?_ rfl <;> simp only [go_sem, simprocAttr] <;> (repeat' apply And.intro) <;> (try first | rfl | exact wk_frzb rfl rfl rfl | exact wk_fn rfl | exact .nilo _ _ _ rfl rfl)
          · rintro g3 ⟨hg3, lg3⟩
            refine aw_seq (aw_region (EF := EF0) hG (by rw [hN]; exact tr19_15) ?_)
            simp only [a19_15, go_sem, simprocAttr, fZone_eq, h4, tAir, fCaps_eq]
            (repeat' apply And.intro) <;> (try first | omega | ((fail_if_success refine idW ?_); (fail_if_success refine idS ?_); intros; (repeat' apply And.intro) <;> first | assumption | omega | (simp_all; done)))
            refine aw_cut (α := (List Int)) (fun g4 => (g4 = g3 ++ iIf (!decide (zErr ⟨zo, sh⟩ = 0)) (zErr ⟨zo, sh⟩)) ∧ (g4.length ≤ g3.length + 1)) (fun g4 => ⟨mkE [(5, .own 999 g4.length)], mkH [(999, .arr 35 1 (ints g4))]⟩) ?_ ?_
            · intro KC16 hKC16
              refine aw_seq (aw_region (EF := EF0) hG (by rw [hN]; exact tr19_16) ?_)
              simp only [a19_16, go_sem, simprocAttr, tAir, fCaps_eq]
              refine aw_cond (b := _) rfl (fun hb16 => ?_) (fun hb16 => ?_)
              · skip
                refine aw_region (EF := EF0) hG (by rw [hN]; exact tr19_17) ?_
                simp only [a19_17, go_sem, simprocAttr, tAir, fCaps_eq]
                (repeat' apply And.intro) <;> (try first | omega | ((fail_if_success refine idW ?_); (fail_if_success refine idS ?_); intros; (repeat' apply And.intro) <;> first | assumption | omega | (simp_all; done)))
                refine hKC16 (g3 ++ [zErr ⟨zo, sh⟩]) _ ?_ ?_
                · (try dsimp only); exact ⟨by rw [iIf_t (show (!decide (zErr ⟨zo, sh⟩ = 0)) = true from hb16)], by simp⟩
                · refine Le.mk _ _ ?_ ?_ rfl <;> simp only [go_sem, simprocAttr, ints_snoc, List.length_append, List.length_cons, List.length_nil] <;> (repeat' apply And.intro) <;> (try first | rfl | exact wk_frzb rfl rfl rfl | exact wk_fn rfl | exact .nilo _ _ _ rfl rfl)
              · skip
                refine aw_skip ?_
                try simp only [go_sem, simprocAttr]
                refine hKC16 (g3) _ ?_ ?_
                · (try dsimp only); exact ⟨by rw [iIf_f (show (!decide (zErr ⟨zo, sh⟩ = 0)) = false from hb16), List.append_nil], by omega⟩
                · refine Le.mk _ _ ?_ ?_ rfl <;> simp only [go_sem, simprocAttr] <;> (repeat' apply And.intro) <;> (try first | rfl | exact wk_frzb rfl rfl rfl | exact wk_fn rfl | exact .nilo _ _ _ rfl rfl)
            · rintro g4 ⟨hg4, lg4⟩
              refine aw_seq (aw_region (EF := EF0) hG (by rw [hN]; exact tr19_18) ?_)
              simp only [a19_18, go_sem, simprocAttr, tAir, fCaps_eq]
              refine AW.le (s' := ⟨mkE [(4, .list (ints g4) false)], mkH []⟩) (Le.mk _ _ ?_ ?_ rfl) (aw_ret (hQ _ _ (.inl rfl) ?_ ?_ ?_)) <;> simp only [outφ, outV, AR.res, go_sem, simprocAttr, fAir, Int.toNat_natCast]
              · exact wk_frz rfl (by rw [ints_len]) rfl (ints_pur _)
              · rw [getD_lt _ _ _ hin, haa, hg4, hg3, hg2, hg1, htw, hmo, hki]; rfl
end Go.Proofs.YtfjgnfgadkajnaaGreat
