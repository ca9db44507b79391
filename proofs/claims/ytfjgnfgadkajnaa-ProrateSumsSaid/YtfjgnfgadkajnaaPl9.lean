/- The reference's errors of an airport. -/
import Derived.Test.YtfjgnfgadkajnaaPl8
namespace Go.Proofs.Ytfjgnfgadkajnaa
open Go Go.RowKit
set_option linter.unusedSimpArgs false
set_option linter.unusedVariables false
set_option linter.deprecated false
def aTwice (a x : Airport) : Bool := decide (x.code = a.code)
def aMoved (a x : Airport) : Bool := decide (x.city = a.city) && !decide (x.country = a.country)
def airErrs (ps : List Airport) (i : Nat) (a : Airport) : List Int :=
  iIf (!capsB 3 a.code || !capsB 3 a.city || !capsB 2 a.country) 5 ++ iIf ((ps.take i).any (aTwice a)) 6 ++ iIf ((ps.take i).any (aMoved a)) 8 ++ iIf (!decide (zErr a.zone = 0)) (zErr a.zone)
def fAir (x : Places × Int) : Prop × V := (0 ≤ x.2 ∧ x.2.toNat < x.1.airports.length ∧ x.1.airports.length ≤ 1000000 ∧ (∀ a ∈ x.1.airports, a.ok), .list (ints (airErrs x.1.airports x.2.toNat (x.1.airports.getD x.2.toNat Airport.zero))) false)
theorem fZone_eq (zo : Int) (sh : List Shift) : gOf aZone fZone [.agg [.int .i64 zo, .list (sh.map Shift.enc) false]] = ((⟨zo, sh⟩ : Zone).ok, .int .i64 (zErr ⟨zo, sh⟩)) := gOf_eq aZone_inj (⟨zo, sh⟩ : Zone)
noncomputable def tAir : Tab
  | 37 => (gOf aStr (fCaps 3))
  | 38 => (gOf aStr (fCaps 2))
  | 39 => (gOf aZone fZone)
  | _ => gNo
theorem tAir_ok : ∀ f, PureC Try.prog UT f (tAir f) := fun f => by
  unfold tAir
  split
  · exact rairport_p
  · exact rtcountry_p
  · exact rzone_p
  · exact PureC.no
set_option maxHeartbeats 4000000 in
theorem rairErr_p : PureC Try.prog UT 22 (gOf aPi fAir) := by
  have hG := tAir_ok
  refine PureC.ofArgs aPi_inj Try.func22 body22 nm22 res22 ?_
  rintro ⟨⟨ps, ds⟩, ii⟩ hv
  refine ⟨by rw [nt22]; simp [aPi], fun C hN Q hQ => ?_⟩
  rw [nt22] at hN
  unfold c22
  obtain ⟨hi0, hin, hpl, hpo⟩ : 0 ≤ ii ∧ ii.toNat < ps.length ∧ ps.length ≤ 1000000 ∧ ∀ a ∈ ps, a.ok := hv
  obtain ⟨i, rfl⟩ : ∃ i : Nat, ii = (i : Int) := ⟨ii.toNat, by omega⟩
  rw [Int.toNat_natCast] at hin
  obtain ⟨h1, h2, h3, h4⟩ := hpo _ (List.getElem_mem hin)
  generalize haa : ps[i] = a at h1 h2 h3 h4
  obtain ⟨ac, at', an, ⟨zo, sh⟩⟩ := a
  dsimp only at h1 h2 h3 h4
  refine aw_seq (aw_region (EF := EF0) hG (by rw [hN]; exact tr22_0) ?_)
  simp only [a22_0, go_sem, ↓reduceIte, Nat.reduceEqDiff, reduceCtorEq, Nat.reduceAdd, Nat.reduceLT, Nat.reduceLeDiff, Nat.reduceBNe, Nat.reduceBEq, Int.reduceToNat, aPi, Places.enc, tAir, fCaps_eq]
  refine aw_seq (aw_region (EF := EF0) hG (by rw [hN]; exact tr22_1) ?_)
  simp only [a22_1, go_sem, ↓reduceIte, Nat.reduceEqDiff, reduceCtorEq, Nat.reduceAdd, Nat.reduceLT, Nat.reduceLeDiff, Nat.reduceBNe, Nat.reduceBEq, Int.reduceToNat, tAir, fCaps_eq]
  refine AW.le (s' := ⟨mkE [(1, .int .i64 i), (2, .ptr 2 0), (5, .own 999 0)], mkH ([(2, .box 25 [.list (ps.map Airport.enc) false, .list (ds.map Distance.enc) false]), (999, .arr 35 1 (ints []))])⟩) (Le.mk _ _ (by (simp only [go_sem, ↓reduceIte, Nat.reduceEqDiff, reduceCtorEq, Nat.reduceAdd, Nat.reduceLT, Nat.reduceLeDiff, Nat.reduceBNe, Nat.reduceBEq, Int.reduceToNat]) <;> (repeat' apply And.intro) <;> (try first | exact wk_frzb rfl rfl rfl | rfl | exact wk_fn rfl | exact .nill _ | exact .nilo _ _ _ rfl rfl | exact wk_frz rfl (by simp only [ints_len, nats_len]) rfl (ints_pur _) | exact wk_frzm rfl rfl (fun kv hk => by obtain ⟨_, _, rfl⟩ := List.mem_map.1 hk; rfl))) (by (simp only [go_sem, ↓reduceIte, Nat.reduceEqDiff, reduceCtorEq, Nat.reduceAdd, Nat.reduceLT, Nat.reduceLeDiff, Nat.reduceBNe, Nat.reduceBEq, Int.reduceToNat]) <;> (repeat' apply And.intro) <;> (try first | exact wk_frzb rfl rfl rfl | rfl | exact wk_fn rfl | exact .nill _ | exact .nilo _ _ _ rfl rfl | exact wk_frz rfl (by simp only [ints_len, nats_len]) rfl (ints_pur _) | exact wk_frzm rfl rfl (fun kv hk => by obtain ⟨_, _, rfl⟩ := List.mem_map.1 hk; rfl))) rfl) ?_
  refine aw_seq (aw_region (EF := EF0) hG (by rw [hN]; exact tr22_2) ?_)
  simp only [a22_2, go_sem, ↓reduceIte, Nat.reduceEqDiff, reduceCtorEq, Nat.reduceAdd, Nat.reduceLT, Nat.reduceLeDiff, Nat.reduceBNe, Nat.reduceBEq, Int.reduceToNat, getD_mapd _ _ _ _ hin, hin, haa, Airport.enc, tAir, fCaps_eq]
  (repeat' apply And.intro) <;> (try first | omega | ((fail_if_success refine idW ?_); (fail_if_success refine idS ?_); intros; (repeat' apply And.intro) <;> first | assumption | omega | (simp_all; done)))
  refine aw_cut (α := (List Int)) (fun g1 => (g1 = ([] : List Int) ++ iIf (!capsB 3 ac || !capsB 3 at' || !capsB 2 an) (5)) ∧ (g1.length ≤ ([] : List Int).length + 1)) (fun g1 => ⟨mkE [(1, V.int IntKind.i64 ↑i), (2, V.ptr 2 0), (5, .own 999 g1.length), (6, V.ptr 6 0)], mkH [(2, Ob.box 25 [V.list (List.map Airport.enc ps) false, V.list (List.map Distance.enc ds) false]), (6, Ob.box 70 [V.str ac, V.str at', V.str an, V.int IntKind.i64 zo, V.list (List.map Shift.enc sh) false]), (999, .arr 35 1 (ints g1))]⟩) ?_ ?_
  · intro KC3 hKC3
    refine aw_seq (aw_region (EF := EF0) hG (by rw [hN]; exact tr22_3) ?_)
    simp only [a22_3, go_sem, ↓reduceIte, Nat.reduceEqDiff, reduceCtorEq, Nat.reduceAdd, Nat.reduceLT, Nat.reduceLeDiff, Nat.reduceBNe, Nat.reduceBEq, Int.reduceToNat, h1, h2, h3, tAir, fCaps_eq]
    (repeat' apply And.intro) <;> (try first | omega | ((fail_if_success refine idW ?_); (fail_if_success refine idS ?_); intros; (repeat' apply And.intro) <;> first | assumption | omega | (simp_all; done)))
    refine aw_cond (b := _) rfl (fun hb3 => ?_) (fun hb3 => ?_)
    · skip
      refine aw_region (EF := EF0) hG (by rw [hN]; exact tr22_4) ?_
      simp only [a22_4, go_sem, ↓reduceIte, Nat.reduceEqDiff, reduceCtorEq, Nat.reduceAdd, Nat.reduceLT, Nat.reduceLeDiff, Nat.reduceBNe, Nat.reduceBEq, Int.reduceToNat, tAir, fCaps_eq]
      (repeat' apply And.intro) <;> (try first | omega | ((fail_if_success refine idW ?_); (fail_if_success refine idS ?_); intros; (repeat' apply And.intro) <;> first | assumption | omega | (simp_all; done)))
      refine hKC3 (([] : List Int) ++ [5]) _ ?_ ?_
      · (try dsimp only); exact ⟨by rw [iIf_t (show (!capsB 3 ac || !capsB 3 at' || !capsB 2 an) = true from hb3)], by simp⟩
      · refine Le.mk _ _ ?_ ?_ rfl <;> simp only [go_sem, ↓reduceIte, Nat.reduceEqDiff, reduceCtorEq, Nat.reduceAdd, Nat.reduceLT, Nat.reduceLeDiff, Nat.reduceBNe, Nat.reduceBEq, Int.reduceToNat, ints_snoc, List.length_append, List.length_cons, List.length_nil] <;> (repeat' apply And.intro) <;> (try first | rfl | exact wk_frzb rfl rfl rfl | exact wk_fn rfl | exact .nilo _ _ _ rfl rfl | exact wk_frzm rfl rfl (fun kv hk => by obtain ⟨_, _, rfl⟩ := List.mem_map.1 hk; rfl))
    · skip
      refine aw_skip ?_
      try simp only [go_sem, ↓reduceIte, Nat.reduceEqDiff, reduceCtorEq, Nat.reduceAdd, Nat.reduceLT, Nat.reduceLeDiff, Nat.reduceBNe, Nat.reduceBEq, Int.reduceToNat]
      refine hKC3 (([] : List Int)) _ ?_ ?_
      · (try dsimp only); exact ⟨by rw [iIf_f (show (!capsB 3 ac || !capsB 3 at' || !capsB 2 an) = false from hb3), List.append_nil], by omega⟩
      · refine Le.mk _ _ ?_ ?_ rfl <;> simp only [go_sem, ↓reduceIte, Nat.reduceEqDiff, reduceCtorEq, Nat.reduceAdd, Nat.reduceLT, Nat.reduceLeDiff, Nat.reduceBNe, Nat.reduceBEq, Int.reduceToNat] <;> (repeat' apply And.intro) <;> (try first | rfl | exact wk_frzb rfl rfl rfl | exact wk_fn rfl | exact .nilo _ _ _ rfl rfl | exact wk_frzm rfl rfl (fun kv hk => by obtain ⟨_, _, rfl⟩ := List.mem_map.1 hk; rfl))
  · rintro g1 ⟨hg1, lg1⟩
    simp only [List.length_nil] at lg1
    refine aw_seq (aw_region (EF := EF0) hG (by rw [hN]; exact tr22_5) ?_)
    simp only [a22_5, go_sem, ↓reduceIte, Nat.reduceEqDiff, reduceCtorEq, Nat.reduceAdd, Nat.reduceLT, Nat.reduceLeDiff, Nat.reduceBNe, Nat.reduceBEq, Int.reduceToNat, tAir, fCaps_eq]
    refine aw_seq ?_
    refine aw_seq (aw_region (EF := EF0) hG (by rw [hN]; exact tr22_6) ?_)
    simp only [a22_6, go_sem, ↓reduceIte, Nat.reduceEqDiff, reduceCtorEq, Nat.reduceAdd, Nat.reduceLT, Nat.reduceLeDiff, Nat.reduceBNe, Nat.reduceBEq, Int.reduceToNat, tAir, fCaps_eq]
    refine aw_block ?_
    refine aw_loop (α := Nat × Bool × Bool) (fun γ => (γ.1 ≤ i) ∧ (γ.2.1 = (ps.take γ.1).any (aTwice ⟨ac, at', an, ⟨zo, sh⟩⟩)) ∧ (γ.2.2 = (ps.take γ.1).any (aMoved ⟨ac, at', an, ⟨zo, sh⟩⟩))) (fun γ => ⟨mkE [(1, V.int IntKind.i64 ↑i), (2, V.ptr 2 0), (5, V.own 999 g1.length), (6, V.ptr 6 0), (7, .bool γ.2.1), (8, .bool γ.2.2), (9, .int .i64 γ.1)], mkH [(2, Ob.box 25 [V.list (List.map Airport.enc ps) false, V.list (List.map Distance.enc ds) false]), (6, Ob.box 70 [V.str ac, V.str at', V.str an, V.int IntKind.i64 zo, V.list (List.map Shift.enc sh) false]), (999, Ob.arr 35 1 (ints g1))]⟩) (fun γ => i - γ.1) (0, false, false) ⟨Nat.zero_le _, rfl, rfl⟩ ?_ ?_
    · refine Le.mk _ _ ?_ ?_ rfl <;> simp only [go_sem, ↓reduceIte, Nat.reduceEqDiff, reduceCtorEq, Nat.reduceAdd, Nat.reduceLT, Nat.reduceLeDiff, Nat.reduceBNe, Nat.reduceBEq, Int.reduceToNat] <;> (repeat' apply And.intro) <;> (try first | rfl | exact wk_frzb rfl rfl rfl | exact wk_fn rfl | exact .nilo _ _ _ rfl rfl | exact wk_frzm rfl rfl (fun kv hk => by obtain ⟨_, _, rfl⟩ := List.mem_map.1 hk; rfl))
    · rintro ⟨k, tw, mo⟩ ⟨hk, htw, hmo⟩ KL0 hKL0
      try dsimp only at *
      refine aw_seq ?_
      refine aw_seq (aw_region (EF := EF0) hG (by rw [hN]; exact tr22_7) ?_)
      simp only [a22_7, go_sem, ↓reduceIte, Nat.reduceEqDiff, reduceCtorEq, Nat.reduceAdd, Nat.reduceLT, Nat.reduceLeDiff, Nat.reduceBNe, Nat.reduceBEq, Int.reduceToNat, tAir, fCaps_eq]
      refine aw_cond (b := _) rfl (fun hc7 => ?_) (fun hc7 => ?_)
      · simp only [decide_eq_true_eq, decide_eq_false_iff_not, Bool.and_eq_true, Bool.or_eq_true, Bool.not_eq_true', Bool.not_eq_false', Bool.and_eq_false_iff, Bool.or_eq_false_iff, Int.ofNat_lt, Int.ofNat_le, Nat.not_lt, Nat.not_le, Int.not_lt, Int.not_le] at hc7
        refine aw_skip ?_
        try simp only [go_sem, ↓reduceIte, Nat.reduceEqDiff, reduceCtorEq, Nat.reduceAdd, Nat.reduceLT, Nat.reduceLeDiff, Nat.reduceBNe, Nat.reduceBEq, Int.reduceToNat]
        refine aw_seq ?_
        refine aw_block ?_
        have hkd : k < ps.length := by omega
        refine aw_seq (aw_regionD (EF := EF0) hG mixed (by rw [hN]; exact tr22_9) ok22_9 ?_)
        simp only [a22_9, d22_9, go_sem, ↓reduceIte, Nat.reduceEqDiff, reduceCtorEq, Nat.reduceAdd, Nat.reduceLT, Nat.reduceLeDiff, Nat.reduceBNe, Nat.reduceBEq, Int.reduceToNat, getD_mapd _ _ _ _ hkd, hkd, Airport.enc, tAir, fCaps_eq]
        (repeat' apply And.intro) <;> (try first | omega | ((fail_if_success refine idW ?_); (fail_if_success refine idS ?_); intros; (repeat' apply And.intro) <;> first | assumption | omega | (simp_all; done)))
        refine aw_regionD (EF := EF0) hG mixed (by rw [hN]; exact tr22_10) ok22_10 ?_
        simp only [a22_10, d22_10, go_sem, ↓reduceIte, Nat.reduceEqDiff, reduceCtorEq, Nat.reduceAdd, Nat.reduceLT, Nat.reduceLeDiff, Nat.reduceBNe, Nat.reduceBEq, Int.reduceToNat, getD_mapd _ _ _ _ hkd, hkd, Airport.enc, tAir, fCaps_eq]
        (repeat' apply And.intro) <;> (try first | omega | ((fail_if_success refine idW ?_); (fail_if_success refine idS ?_); intros; (repeat' apply And.intro) <;> first | assumption | omega | (simp_all; done)) | (intro h; exact ⟨h, fun h2 => by rw [h, h2]; rfl⟩))
        refine aw_region (EF := EF0) hG (by rw [hN]; exact tr22_8) ?_
        simp only [a22_8, go_sem, ↓reduceIte, Nat.reduceEqDiff, reduceCtorEq, Nat.reduceAdd, Nat.reduceLT, Nat.reduceLeDiff, Nat.reduceBNe, Nat.reduceBEq, Int.reduceToNat, inI, tAir, fCaps_eq]
        (repeat' apply And.intro) <;> (try first | omega | ((fail_if_success refine idW ?_); (fail_if_success refine idS ?_); intros; (repeat' apply And.intro) <;> first | assumption | omega | (simp_all; done)))
        refine hKL0 (k + 1, tw || aTwice ⟨ac, at', an, ⟨zo, sh⟩⟩ ps[k], mo || aMoved ⟨ac, at', an, ⟨zo, sh⟩⟩ ps[k]) _ ?_ ?_ ?_
        · (try dsimp only); exact ⟨by omega, by rw [any_step _ hkd, htw], by rw [any_step _ hkd, hmo]⟩
        · (try dsimp only); omega
        · refine Le.mk _ _ ?_ ?_ rfl <;> simp only [go_sem, ↓reduceIte, Nat.reduceEqDiff, reduceCtorEq, Nat.reduceAdd, Nat.reduceLT, Nat.reduceLeDiff, Nat.reduceBNe, Nat.reduceBEq, Int.reduceToNat, aTwice, aMoved] <;> (repeat' apply And.intro) <;> (try first | rfl | exact wk_frzb rfl rfl rfl | exact wk_fn rfl | exact .nilo _ _ _ rfl rfl | exact wk_frzm rfl rfl (fun kv hk => by obtain ⟨_, _, rfl⟩ := List.mem_map.1 hk; rfl))
      · simp only [decide_eq_true_eq, decide_eq_false_iff_not, Bool.and_eq_true, Bool.or_eq_true, Bool.not_eq_true', Bool.not_eq_false', Bool.and_eq_false_iff, Bool.or_eq_false_iff, Int.ofNat_lt, Int.ofNat_le, Nat.not_lt, Nat.not_le, Int.not_lt, Int.not_le] at hc7
        have hki : k = i := by omega
        refine aw_exit ?_
        simp only [go_sem, ↓reduceIte, Nat.reduceEqDiff, reduceCtorEq, Nat.reduceAdd, Nat.reduceLT, Nat.reduceLeDiff, Nat.reduceBNe, Nat.reduceBEq, Int.reduceToNat]
        refine aw_cut (α := (List Int)) (fun g2 => (g2 = g1 ++ iIf (tw) (6)) ∧ (g2.length ≤ g1.length + 1)) (fun g2 => ⟨mkE [(5, .own 999 g2.length), (6, V.ptr 6 0), (8, V.bool mo)], mkH [(6, Ob.box 70 [V.str ac, V.str at', V.str an, V.int IntKind.i64 zo, V.list (List.map Shift.enc sh) false]), (999, .arr 35 1 (ints g2))]⟩) ?_ ?_
        · intro KC11 hKC11
          refine aw_seq (aw_region (EF := EF0) hG (by rw [hN]; exact tr22_11) ?_)
          simp only [a22_11, go_sem, ↓reduceIte, Nat.reduceEqDiff, reduceCtorEq, Nat.reduceAdd, Nat.reduceLT, Nat.reduceLeDiff, Nat.reduceBNe, Nat.reduceBEq, Int.reduceToNat, tAir, fCaps_eq]
          refine aw_cond (b := _) rfl (fun hb11 => ?_) (fun hb11 => ?_)
          · skip
            refine aw_region (EF := EF0) hG (by rw [hN]; exact tr22_12) ?_
            simp only [a22_12, go_sem, ↓reduceIte, Nat.reduceEqDiff, reduceCtorEq, Nat.reduceAdd, Nat.reduceLT, Nat.reduceLeDiff, Nat.reduceBNe, Nat.reduceBEq, Int.reduceToNat, tAir, fCaps_eq]
            (repeat' apply And.intro) <;> (try first | omega | ((fail_if_success refine idW ?_); (fail_if_success refine idS ?_); intros; (repeat' apply And.intro) <;> first | assumption | omega | (simp_all; done)))
            refine hKC11 (g1 ++ [6]) _ ?_ ?_
            · (try dsimp only); exact ⟨by rw [iIf_t (show (tw) = true from hb11)], by simp⟩
            · refine Le.mk _ _ ?_ ?_ rfl <;> simp only [go_sem, ↓reduceIte, Nat.reduceEqDiff, reduceCtorEq, Nat.reduceAdd, Nat.reduceLT, Nat.reduceLeDiff, Nat.reduceBNe, Nat.reduceBEq, Int.reduceToNat, ints_snoc, List.length_append, List.length_cons, List.length_nil] <;> (repeat' apply And.intro) <;> (try first | rfl | exact wk_frzb rfl rfl rfl | exact wk_fn rfl | exact .nilo _ _ _ rfl rfl | exact wk_frzm rfl rfl (fun kv hk => by obtain ⟨_, _, rfl⟩ := List.mem_map.1 hk; rfl))
          · skip
            refine aw_skip ?_
            try simp only [go_sem, ↓reduceIte, Nat.reduceEqDiff, reduceCtorEq, Nat.reduceAdd, Nat.reduceLT, Nat.reduceLeDiff, Nat.reduceBNe, Nat.reduceBEq, Int.reduceToNat]
            refine hKC11 (g1) _ ?_ ?_
            · (try dsimp only); exact ⟨by rw [iIf_f (show (tw) = false from hb11), List.append_nil], by omega⟩
            · refine Le.mk _ _ ?_ ?_ rfl <;> simp only [go_sem, ↓reduceIte, Nat.reduceEqDiff, reduceCtorEq, Nat.reduceAdd, Nat.reduceLT, Nat.reduceLeDiff, Nat.reduceBNe, Nat.reduceBEq, Int.reduceToNat] <;> (repeat' apply And.intro) <;> (try first | rfl | exact wk_frzb rfl rfl rfl | exact wk_fn rfl | exact .nilo _ _ _ rfl rfl | exact wk_frzm rfl rfl (fun kv hk => by obtain ⟨_, _, rfl⟩ := List.mem_map.1 hk; rfl))
        · rintro g2 ⟨hg2, lg2⟩
          refine aw_cut (α := (List Int)) (fun g3 => (g3 = g2 ++ iIf (mo) (8)) ∧ (g3.length ≤ g2.length + 1)) (fun g3 => ⟨mkE [(5, .own 999 g3.length), (6, V.ptr 6 0)], mkH [(6, Ob.box 70 [V.str ac, V.str at', V.str an, V.int IntKind.i64 zo, V.list (List.map Shift.enc sh) false]), (999, .arr 35 1 (ints g3))]⟩) ?_ ?_
          · intro KC13 hKC13
            refine aw_seq (aw_region (EF := EF0) hG (by rw [hN]; exact tr22_13) ?_)
            simp only [a22_13, go_sem, ↓reduceIte, Nat.reduceEqDiff, reduceCtorEq, Nat.reduceAdd, Nat.reduceLT, Nat.reduceLeDiff, Nat.reduceBNe, Nat.reduceBEq, Int.reduceToNat, tAir, fCaps_eq]
            refine aw_cond (b := _) rfl (fun hb13 => ?_) (fun hb13 => ?_)
            · skip
              refine aw_region (EF := EF0) hG (by rw [hN]; exact tr22_14) ?_
              simp only [a22_14, go_sem, ↓reduceIte, Nat.reduceEqDiff, reduceCtorEq, Nat.reduceAdd, Nat.reduceLT, Nat.reduceLeDiff, Nat.reduceBNe, Nat.reduceBEq, Int.reduceToNat, tAir, fCaps_eq]
              (repeat' apply And.intro) <;> (try first | omega | ((fail_if_success refine idW ?_); (fail_if_success refine idS ?_); intros; (repeat' apply And.intro) <;> first | assumption | omega | (simp_all; done)))
              refine hKC13 (g2 ++ [8]) _ ?_ ?_
              · (try dsimp only); exact ⟨by rw [iIf_t (show (mo) = true from hb13)], by simp⟩
              · refine Le.mk _ _ ?_ ?_ rfl <;> simp only [go_sem, ↓reduceIte, Nat.reduceEqDiff, reduceCtorEq, Nat.reduceAdd, Nat.reduceLT, Nat.reduceLeDiff, Nat.reduceBNe, Nat.reduceBEq, Int.reduceToNat, ints_snoc, List.length_append, List.length_cons, List.length_nil] <;> (repeat' apply And.intro) <;> (try first | rfl | exact wk_frzb rfl rfl rfl | exact wk_fn rfl | exact .nilo _ _ _ rfl rfl | exact wk_frzm rfl rfl (fun kv hk => by obtain ⟨_, _, rfl⟩ := List.mem_map.1 hk; rfl))
            · skip
              refine aw_skip ?_
              try simp only [go_sem, ↓reduceIte, Nat.reduceEqDiff, reduceCtorEq, Nat.reduceAdd, Nat.reduceLT, Nat.reduceLeDiff, Nat.reduceBNe, Nat.reduceBEq, Int.reduceToNat]
              refine hKC13 (g2) _ ?_ ?_
              · (try dsimp only); exact ⟨by rw [iIf_f (show (mo) = false from hb13), List.append_nil], by omega⟩
              · refine Le.mk _ _ ?_ ?_ rfl <;> simp only [go_sem, ↓reduceIte, Nat.reduceEqDiff, reduceCtorEq, Nat.reduceAdd, Nat.reduceLT, Nat.reduceLeDiff, Nat.reduceBNe, Nat.reduceBEq, Int.reduceToNat] <;> (repeat' apply And.intro) <;> (try first | rfl | exact wk_frzb rfl rfl rfl | exact wk_fn rfl | exact .nilo _ _ _ rfl rfl | exact wk_frzm rfl rfl (fun kv hk => by obtain ⟨_, _, rfl⟩ := List.mem_map.1 hk; rfl))
          · rintro g3 ⟨hg3, lg3⟩
            refine aw_seq (aw_region (EF := EF0) hG (by rw [hN]; exact tr22_15) ?_)
            simp only [a22_15, go_sem, ↓reduceIte, Nat.reduceEqDiff, reduceCtorEq, Nat.reduceAdd, Nat.reduceLT, Nat.reduceLeDiff, Nat.reduceBNe, Nat.reduceBEq, Int.reduceToNat, fZone_eq, h4, tAir, fCaps_eq]
            (repeat' apply And.intro) <;> (try first | omega | ((fail_if_success refine idW ?_); (fail_if_success refine idS ?_); intros; (repeat' apply And.intro) <;> first | assumption | omega | (simp_all; done)))
            refine aw_cut (α := (List Int)) (fun g4 => (g4 = g3 ++ iIf (!decide (zErr ⟨zo, sh⟩ = 0)) (zErr ⟨zo, sh⟩)) ∧ (g4.length ≤ g3.length + 1)) (fun g4 => ⟨mkE [(5, .own 999 g4.length)], mkH [(999, .arr 35 1 (ints g4))]⟩) ?_ ?_
            · intro KC16 hKC16
              refine aw_seq (aw_region (EF := EF0) hG (by rw [hN]; exact tr22_16) ?_)
              simp only [a22_16, go_sem, ↓reduceIte, Nat.reduceEqDiff, reduceCtorEq, Nat.reduceAdd, Nat.reduceLT, Nat.reduceLeDiff, Nat.reduceBNe, Nat.reduceBEq, Int.reduceToNat, tAir, fCaps_eq]
              refine aw_cond (b := _) rfl (fun hb16 => ?_) (fun hb16 => ?_)
              · skip
                refine aw_region (EF := EF0) hG (by rw [hN]; exact tr22_17) ?_
                simp only [a22_17, go_sem, ↓reduceIte, Nat.reduceEqDiff, reduceCtorEq, Nat.reduceAdd, Nat.reduceLT, Nat.reduceLeDiff, Nat.reduceBNe, Nat.reduceBEq, Int.reduceToNat, tAir, fCaps_eq]
                (repeat' apply And.intro) <;> (try first | omega | ((fail_if_success refine idW ?_); (fail_if_success refine idS ?_); intros; (repeat' apply And.intro) <;> first | assumption | omega | (simp_all; done)))
                refine hKC16 (g3 ++ [zErr ⟨zo, sh⟩]) _ ?_ ?_
                · (try dsimp only); exact ⟨by rw [iIf_t (show (!decide (zErr ⟨zo, sh⟩ = 0)) = true from hb16)], by simp⟩
                · refine Le.mk _ _ ?_ ?_ rfl <;> simp only [go_sem, ↓reduceIte, Nat.reduceEqDiff, reduceCtorEq, Nat.reduceAdd, Nat.reduceLT, Nat.reduceLeDiff, Nat.reduceBNe, Nat.reduceBEq, Int.reduceToNat, ints_snoc, List.length_append, List.length_cons, List.length_nil] <;> (repeat' apply And.intro) <;> (try first | rfl | exact wk_frzb rfl rfl rfl | exact wk_fn rfl | exact .nilo _ _ _ rfl rfl | exact wk_frzm rfl rfl (fun kv hk => by obtain ⟨_, _, rfl⟩ := List.mem_map.1 hk; rfl))
              · skip
                refine aw_skip ?_
                try simp only [go_sem, ↓reduceIte, Nat.reduceEqDiff, reduceCtorEq, Nat.reduceAdd, Nat.reduceLT, Nat.reduceLeDiff, Nat.reduceBNe, Nat.reduceBEq, Int.reduceToNat]
                refine hKC16 (g3) _ ?_ ?_
                · (try dsimp only); exact ⟨by rw [iIf_f (show (!decide (zErr ⟨zo, sh⟩ = 0)) = false from hb16), List.append_nil], by omega⟩
                · refine Le.mk _ _ ?_ ?_ rfl <;> simp only [go_sem, ↓reduceIte, Nat.reduceEqDiff, reduceCtorEq, Nat.reduceAdd, Nat.reduceLT, Nat.reduceLeDiff, Nat.reduceBNe, Nat.reduceBEq, Int.reduceToNat] <;> (repeat' apply And.intro) <;> (try first | rfl | exact wk_frzb rfl rfl rfl | exact wk_fn rfl | exact .nilo _ _ _ rfl rfl | exact wk_frzm rfl rfl (fun kv hk => by obtain ⟨_, _, rfl⟩ := List.mem_map.1 hk; rfl))
            · rintro g4 ⟨hg4, lg4⟩
              refine aw_seq (aw_region (EF := EF0) hG (by rw [hN]; exact tr22_18) ?_)
              simp only [a22_18, go_sem, ↓reduceIte, Nat.reduceEqDiff, reduceCtorEq, Nat.reduceAdd, Nat.reduceLT, Nat.reduceLeDiff, Nat.reduceBNe, Nat.reduceBEq, Int.reduceToNat, tAir, fCaps_eq]
              refine AW.le (s' := ⟨mkE [(4, .list (ints g4) false)], mkH []⟩) (Le.mk _ _ ?_ ?_ rfl) (aw_ret (hQ _ _ (.inl rfl) ?_ ?_ ?_)) <;> simp only [outφ, outV, AR.res, go_sem, ↓reduceIte, Nat.reduceEqDiff, reduceCtorEq, Nat.reduceAdd, Nat.reduceLT, Nat.reduceLeDiff, Nat.reduceBNe, Nat.reduceBEq, Int.reduceToNat, fAir, Int.toNat_natCast]
              · exact wk_frz rfl (by rw [ints_len]) rfl (ints_pur _)
              · rw [getD_lt _ _ _ hin, haa, hg4, hg3, hg2, hg1, htw, hmo, hki]; rfl
end Go.Proofs.Ytfjgnfgadkajnaa
