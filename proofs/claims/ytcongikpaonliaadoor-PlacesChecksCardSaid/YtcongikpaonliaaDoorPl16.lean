/- The program's Check of places. -/
import Derived.Test.YtcongikpaonliaaDoorPl15
namespace Go.Proofs.YtcongikpaonliaaDoor
open Go Go.RowKit
set_option linter.unusedSimpArgs false
set_option linter.unusedVariables false
set_option linter.deprecated false
def EFa : Nat → Bool := fun f => f == 25
noncomputable def tCk : Tab
  | 27 => (gOf aStr (fCaps 3))
  | 28 => (gOf aStr (fCaps 2))
  | 29 => (gOf aZone fZone)
  | 30 => (gOf aDist fUsable)
  | _ => gNo
theorem tCk_ok : ∀ f, PureC Tryd.prog UT f (tCk f) := fun f => by
  unfold tCk
  split
  · exact airport_p
  · exact tcountry_p
  · exact zone_p
  · exact usable_p
  · exact PureC.no
set_option maxHeartbeats 8000000 in
theorem check_p : PureC Tryd.prog UT 11 (gOf aP1 fChk) := by
  have hG := tCk_ok
  refine PureC.ofArgs aP1_inj Tryd.func11 body11 nm11 res11 ?_
  rintro ⟨ps, ds⟩ hv
  refine ⟨by rw [nt11]; simp [aP1], fun C hN Q hQ => ?_⟩
  rw [nt11] at hN
  unfold c11
  obtain ⟨hpl, hdl, hok⟩ : ps.length ≤ 1000 ∧ ds.length ≤ 1000 ∧ ∀ a ∈ ps, a.ok := hv
  refine aw_seq (aw_region (EF := EFa) hG (by rw [hN]; exact tr11_0) ?_)
  simp only [a11_0, go_sem, ↓reduceIte, Nat.reduceEqDiff, reduceCtorEq, Nat.reduceAdd, Nat.reduceLT, Nat.reduceLeDiff, Nat.reduceBNe, Nat.reduceBEq, Int.reduceToNat, aP1, Places.enc, EFa, tCk, fCaps_eq]
  refine aw_seq (aw_region (EF := EFa) hG (by rw [hN]; exact tr11_1) ?_)
  simp only [a11_1, go_sem, ↓reduceIte, Nat.reduceEqDiff, reduceCtorEq, Nat.reduceAdd, Nat.reduceLT, Nat.reduceLeDiff, Nat.reduceBNe, Nat.reduceBEq, Int.reduceToNat, EFa, tCk, fCaps_eq]
  refine aw_seq (aw_region (EF := EFa) hG (by rw [hN]; exact tr11_2) ?_)
  simp only [a11_2, go_sem, ↓reduceIte, Nat.reduceEqDiff, reduceCtorEq, Nat.reduceAdd, Nat.reduceLT, Nat.reduceLeDiff, Nat.reduceBNe, Nat.reduceBEq, Int.reduceToNat, EFa, tCk, fCaps_eq]
  refine aw_seq (aw_region (EF := EFa) hG (by rw [hN]; exact tr11_3) ?_)
  simp only [a11_3, go_sem, ↓reduceIte, Nat.reduceEqDiff, reduceCtorEq, Nat.reduceAdd, Nat.reduceLT, Nat.reduceLeDiff, Nat.reduceBNe, Nat.reduceBEq, Int.reduceToNat, EFa, tCk, fCaps_eq]
  refine aw_seq (aw_region (EF := EFa) hG (by rw [hN]; exact tr11_4) ?_)
  simp only [a11_4, go_sem, ↓reduceIte, Nat.reduceEqDiff, reduceCtorEq, Nat.reduceAdd, Nat.reduceLT, Nat.reduceLeDiff, Nat.reduceBNe, Nat.reduceBEq, Int.reduceToNat, EFa, tCk, fCaps_eq]
  refine AW.le (s' := ⟨mkE [(1, .ptr 1 0), (3, .ptr 3 0), (4, .fn 25 [.ptr 3 0]), (5, .map 21), (6, .map 22), (7, .map 23)], mkH ([(1, .box 25 [.list (ps.map Airport.enc) false, .list (ds.map Distance.enc) false]), (3, .box 29 [.own 999 0]), (999, .arr 53 2 (faults [])), (21, .mp (smap [])), (22, .mp (kmap fS8 [])), (23, .mp (smap []))])⟩) (Le.mk _ _ (by (simp only [go_sem, ↓reduceIte, Nat.reduceEqDiff, reduceCtorEq, Nat.reduceAdd, Nat.reduceLT, Nat.reduceLeDiff, Nat.reduceBNe, Nat.reduceBEq, Int.reduceToNat]) <;> (repeat' apply And.intro) <;> (try first | exact wk_frzb rfl rfl rfl | rfl | exact wk_fn rfl | exact .nill _ | exact .nilo _ _ _ rfl rfl | exact wk_frz rfl (by simp only [ints_len, nats_len]) rfl (ints_pur _))) (by (simp only [go_sem, ↓reduceIte, Nat.reduceEqDiff, reduceCtorEq, Nat.reduceAdd, Nat.reduceLT, Nat.reduceLeDiff, Nat.reduceBNe, Nat.reduceBEq, Int.reduceToNat]) <;> (repeat' apply And.intro) <;> (try first | exact wk_frzb rfl rfl rfl | rfl | exact wk_fn rfl | exact .nill _ | exact .nilo _ _ _ rfl rfl | exact wk_frz rfl (by simp only [ints_len, nats_len]) rfl (ints_pur _))) rfl) ?_
  refine aw_seq ?_
  refine aw_seq (aw_region (EF := EFa) hG (by rw [hN]; exact tr11_5) ?_)
  simp only [a11_5, go_sem, ↓reduceIte, Nat.reduceEqDiff, reduceCtorEq, Nat.reduceAdd, Nat.reduceLT, Nat.reduceLeDiff, Nat.reduceBNe, Nat.reduceBEq, Int.reduceToNat, EFa, tCk, fCaps_eq]
  refine aw_block ?_
  refine aw_loop (α := Nat × (List Fault) × (Assoc (List UInt8)) × (List (List UInt8))) (fun γ => (γ.1 ≤ ps.length) ∧ (γ.2.1 = airTo ps γ.1) ∧ (γ.2.1.length ≤ 4 * γ.1) ∧ (MapsOk (ps.take γ.1) γ.2.2.1 γ.2.2.2)) (fun γ => ⟨mkE [(1, V.ptr 1 0), (3, V.ptr 3 0), (4, V.fn 25 [V.ptr 3 0]), (5, V.map 21), (6, V.map 22), (7, V.map 23), (25, V.list (List.map Airport.enc ps) false), (26, V.int IntKind.i64 ↑ps.length), (27, .int .i64 γ.1)], mkH [(1, Ob.box 25 [V.list (List.map Airport.enc ps) false, V.list (List.map Distance.enc ds) false]), (3, .box 29 [.own 999 γ.2.1.length]), (21, .mp (smap ((ps.take γ.1).map (·.code)))), (22, .mp (kmap fS8 γ.2.2.1)), (23, .mp (smap γ.2.2.2)), (999, .arr 53 2 (faults γ.2.1))]⟩) (fun γ => ps.length - γ.1) (0, [], [], []) ⟨Nat.zero_le _, rfl, Nat.le_refl _, MapsOk.nil⟩ ?_ ?_
  · refine Le.mk _ _ ?_ ?_ rfl <;> simp only [go_sem, ↓reduceIte, Nat.reduceEqDiff, reduceCtorEq, Nat.reduceAdd, Nat.reduceLT, Nat.reduceLeDiff, Nat.reduceBNe, Nat.reduceBEq, Int.reduceToNat] <;> (repeat' apply And.intro) <;> (try first | rfl | exact wk_frzb rfl rfl rfl | exact wk_fn rfl | exact .nilo _ _ _ rfl rfl)
  · rintro ⟨i, g, L, M⟩ ⟨hi, hg, hgl, hLM⟩ KL0 hKL0
    try dsimp only at *
    refine aw_seq (aw_region (EF := EFa) hG (by rw [hN]; exact tr11_6) ?_)
    simp only [a11_6, go_sem, ↓reduceIte, Nat.reduceEqDiff, reduceCtorEq, Nat.reduceAdd, Nat.reduceLT, Nat.reduceLeDiff, Nat.reduceBNe, Nat.reduceBEq, Int.reduceToNat, EFa, tCk, fCaps_eq]
    refine aw_seq ?_
    refine aw_cond (b := _) rfl (fun hc6 => ?_) (fun hc6 => ?_)
    · simp only [decide_eq_true_eq, decide_eq_false_iff_not, Bool.and_eq_true, Bool.or_eq_true, Bool.not_eq_true', Bool.not_eq_false', Bool.and_eq_false_iff, Bool.or_eq_false_iff, Int.ofNat_lt, Int.ofNat_le, Nat.not_lt, Nat.not_le, Int.not_lt, Int.not_le] at hc6
      refine aw_skip ?_
      simp only [go_sem, ↓reduceIte, Nat.reduceEqDiff, reduceCtorEq, Nat.reduceAdd, Nat.reduceLT, Nat.reduceLeDiff, Nat.reduceBNe, Nat.reduceBEq, Int.reduceToNat]
      refine aw_seq ?_
      refine aw_block ?_
      obtain ⟨h1, h2, h3, h4⟩ := hok _ (List.getElem_mem hc6)
      generalize haa : ps[i] = a at h1 h2 h3 h4
      obtain ⟨ac, at', an, ⟨zo, sh⟩⟩ := a
      dsimp only at h1 h2 h3 h4
      have hca : seen ((ps.take i).map (·.code)) ac = (ps.take i).any (aTwice ⟨ac, at', an, ⟨zo, sh⟩⟩) := codes_any _ ⟨ac, at', an, ⟨zo, sh⟩⟩
      have hst : airTo ps (i + 1) = g ++ fIf (!capsB 3 ac || !capsB 3 at' || !capsB 2 an) 5 (sAir ++ dec i) ++ fIf (seen ((ps.take i).map (·.code)) ac) 6 (sAir ++ dec i) ++ fIf ((ps.take i).any (aMoved ⟨ac, at', an, ⟨zo, sh⟩⟩)) 8 (sAir ++ dec i) ++ fIf (!decide (zErr ⟨zo, sh⟩ = 0)) (zErr ⟨zo, sh⟩) (sAir ++ dec i) := by rw [hca, airTo, getD_lt _ _ _ hc6, haa, hg]; unfold airErrs; simp only [errF_app, errF_iIf, List.append_assoc]
      refine aw_seq (aw_region (EF := EFa) hG (by rw [hN]; exact tr11_7) ?_)
      simp only [a11_7, go_sem, ↓reduceIte, Nat.reduceEqDiff, reduceCtorEq, Nat.reduceAdd, Nat.reduceLT, Nat.reduceLeDiff, Nat.reduceBNe, Nat.reduceBEq, Int.reduceToNat, getD_mapd _ _ _ _ hc6, hc6, haa, Airport.enc, EFa, tCk, fCaps_eq]
      (repeat' apply And.intro) <;> (try first | omega | (intros; (repeat' apply And.intro) <;> first | assumption | omega | (simp_all; done)))
      refine aw_cut (α := (List Fault)) (fun g1 => (g1 = g ++ fIf (!capsB 3 ac || !capsB 3 at' || !capsB 2 an) 5 (sAir ++ dec i)) ∧ (g1.length ≤ g.length + 1)) (fun g1 => ⟨mkE [(1, V.ptr 1 0), (3, V.ptr 3 0), (4, V.fn 25 [V.ptr 3 0]), (5, V.map 21), (6, V.map 22), (7, V.map 23), (8, V.int IntKind.i64 ↑i), (9, V.ptr 9 0), (25, V.list (List.map Airport.enc ps) false), (26, V.int IntKind.i64 ↑ps.length), (27, V.int IntKind.i64 ↑i)], mkH [(1, Ob.box 25 [V.list (List.map Airport.enc ps) false, V.list (List.map Distance.enc ds) false]), (3, .box 29 [.own 999 g1.length]), (9, Ob.box 35 [V.str ac, V.str at', V.str an, V.int IntKind.i64 zo, V.list (List.map Shift.enc sh) false]), (21, Ob.mp (smap (List.map (fun x => x.code) (List.take i ps)))), (22, Ob.mp (kmap fS8 L)), (23, Ob.mp (smap M)), (999, .arr 53 2 (faults g1))]⟩) ?_ ?_
      · intro KC8 hKC8
        refine aw_seq (aw_region (EF := EFa) hG (by rw [hN]; exact tr11_8) ?_)
        simp only [a11_8, go_sem, ↓reduceIte, Nat.reduceEqDiff, reduceCtorEq, Nat.reduceAdd, Nat.reduceLT, Nat.reduceLeDiff, Nat.reduceBNe, Nat.reduceBEq, Int.reduceToNat, h1, h2, h3, EFa, tCk, fCaps_eq]
        (repeat' apply And.intro) <;> (try first | omega | (intros; (repeat' apply And.intro) <;> first | assumption | omega | (simp_all; done)))
        refine aw_cond (b := _) rfl (fun hb8 => ?_) (fun hb8 => ?_)
        · skip
          refine aw_region (EF := EFa) hG (by rw [hN]; exact tr11_9) ?_
          simp only [a11_9, go_sem, ↓reduceIte, Nat.reduceEqDiff, reduceCtorEq, Nat.reduceAdd, Nat.reduceLT, Nat.reduceLeDiff, Nat.reduceBNe, Nat.reduceBEq, Int.reduceToNat, EFa, tCk, fCaps_eq]
          refine bx_use (nb := 3) (na := 999) (g := g) (add_e _ _ _ i ?_ (by decide) (by omega)) (by simp [V.rens, V.ren]) (by simp [V.nins, V.nin]) (by rfl) (by rfl) (by decide) ?_
          · first | omega | simp
          simp only [go_sem, ↓reduceIte, Nat.reduceEqDiff, reduceCtorEq, Nat.reduceAdd, Nat.reduceLT, Nat.reduceLeDiff, Nat.reduceBNe, Nat.reduceBEq, Int.reduceToNat, bxF]
          refine hKC8 (g ++ [⟨5, sAir ++ dec i⟩]) _ ?_ ?_
          · (try dsimp only); exact ⟨by rw [fIf_t (show (!capsB 3 ac || !capsB 3 at' || !capsB 2 an) = true from hb8)], by simp⟩
          · refine Le.mk _ _ ?_ ?_ rfl <;> simp only [go_sem, ↓reduceIte, Nat.reduceEqDiff, reduceCtorEq, Nat.reduceAdd, Nat.reduceLT, Nat.reduceLeDiff, Nat.reduceBNe, Nat.reduceBEq, Int.reduceToNat, List.length_append, List.length_cons, List.length_nil, bxF] <;> (repeat' apply And.intro) <;> (try first | rfl | exact wk_frzb rfl rfl rfl | exact wk_fn rfl | exact .nilo _ _ _ rfl rfl)
        · skip
          refine aw_skip ?_
          simp only [go_sem, ↓reduceIte, Nat.reduceEqDiff, reduceCtorEq, Nat.reduceAdd, Nat.reduceLT, Nat.reduceLeDiff, Nat.reduceBNe, Nat.reduceBEq, Int.reduceToNat]
          refine hKC8 (g) _ ?_ ?_
          · (try dsimp only); exact ⟨by rw [fIf_f (show (!capsB 3 ac || !capsB 3 at' || !capsB 2 an) = false from hb8), List.append_nil], by omega⟩
          · refine Le.mk _ _ ?_ ?_ rfl <;> simp only [go_sem, ↓reduceIte, Nat.reduceEqDiff, reduceCtorEq, Nat.reduceAdd, Nat.reduceLT, Nat.reduceLeDiff, Nat.reduceBNe, Nat.reduceBEq, Int.reduceToNat] <;> (repeat' apply And.intro) <;> (try first | rfl | exact wk_frzb rfl rfl rfl | exact wk_fn rfl | exact .nilo _ _ _ rfl rfl)
      · rintro g1 ⟨hg1, lg1⟩
        refine aw_cut (α := (List Fault)) (fun g2 => (g2 = g1 ++ fIf (seen ((ps.take i).map (·.code)) ac) 6 (sAir ++ dec i)) ∧ (g2.length ≤ g1.length + 1)) (fun g2 => ⟨mkE [(1, V.ptr 1 0), (3, V.ptr 3 0), (4, V.fn 25 [V.ptr 3 0]), (5, V.map 21), (6, V.map 22), (7, V.map 23), (8, V.int IntKind.i64 ↑i), (9, V.ptr 9 0), (25, V.list (List.map Airport.enc ps) false), (26, V.int IntKind.i64 ↑ps.length), (27, V.int IntKind.i64 ↑i)], mkH [(1, Ob.box 25 [V.list (List.map Airport.enc ps) false, V.list (List.map Distance.enc ds) false]), (3, .box 29 [.own 999 g2.length]), (9, Ob.box 35 [V.str ac, V.str at', V.str an, V.int IntKind.i64 zo, V.list (List.map Shift.enc sh) false]), (21, Ob.mp (smap (List.map (fun x => x.code) (List.take i ps)))), (22, Ob.mp (kmap fS8 L)), (23, Ob.mp (smap M)), (999, .arr 53 2 (faults g2))]⟩) ?_ ?_
        · intro KC10 hKC10
          refine aw_seq (aw_region (EF := EFa) hG (by rw [hN]; exact tr11_10) ?_)
          simp only [a11_10, go_sem, ↓reduceIte, Nat.reduceEqDiff, reduceCtorEq, Nat.reduceAdd, Nat.reduceLT, Nat.reduceLeDiff, Nat.reduceBNe, Nat.reduceBEq, Int.reduceToNat, EFa, tCk, fCaps_eq]
          (repeat' apply And.intro) <;> (try first | omega | (intros; (repeat' apply And.intro) <;> first | assumption | omega | (simp_all; done)))
          refine aw_cond (b := _) rfl (fun hb10 => ?_) (fun hb10 => ?_)
          · skip
            refine aw_region (EF := EFa) hG (by rw [hN]; exact tr11_11) ?_
            simp only [a11_11, go_sem, ↓reduceIte, Nat.reduceEqDiff, reduceCtorEq, Nat.reduceAdd, Nat.reduceLT, Nat.reduceLeDiff, Nat.reduceBNe, Nat.reduceBEq, Int.reduceToNat, EFa, tCk, fCaps_eq]
            refine bx_use (nb := 3) (na := 999) (g := g1) (add_e _ _ _ i ?_ (by decide) (by omega)) (by simp [V.rens, V.ren]) (by simp [V.nins, V.nin]) (by rfl) (by rfl) (by decide) ?_
            · first | omega | simp
            simp only [go_sem, ↓reduceIte, Nat.reduceEqDiff, reduceCtorEq, Nat.reduceAdd, Nat.reduceLT, Nat.reduceLeDiff, Nat.reduceBNe, Nat.reduceBEq, Int.reduceToNat, bxF]
            refine hKC10 (g1 ++ [⟨6, sAir ++ dec i⟩]) _ ?_ ?_
            · (try dsimp only); exact ⟨by rw [fIf_t (show (seen ((ps.take i).map (·.code)) ac) = true from hb10)], by simp⟩
            · refine Le.mk _ _ ?_ ?_ rfl <;> simp only [go_sem, ↓reduceIte, Nat.reduceEqDiff, reduceCtorEq, Nat.reduceAdd, Nat.reduceLT, Nat.reduceLeDiff, Nat.reduceBNe, Nat.reduceBEq, Int.reduceToNat, List.length_append, List.length_cons, List.length_nil, bxF] <;> (repeat' apply And.intro) <;> (try first | rfl | exact wk_frzb rfl rfl rfl | exact wk_fn rfl | exact .nilo _ _ _ rfl rfl)
          · skip
            refine aw_skip ?_
            simp only [go_sem, ↓reduceIte, Nat.reduceEqDiff, reduceCtorEq, Nat.reduceAdd, Nat.reduceLT, Nat.reduceLeDiff, Nat.reduceBNe, Nat.reduceBEq, Int.reduceToNat]
            refine hKC10 (g1) _ ?_ ?_
            · (try dsimp only); exact ⟨by rw [fIf_f (show (seen ((ps.take i).map (·.code)) ac) = false from hb10), List.append_nil], by omega⟩
            · refine Le.mk _ _ ?_ ?_ rfl <;> simp only [go_sem, ↓reduceIte, Nat.reduceEqDiff, reduceCtorEq, Nat.reduceAdd, Nat.reduceLT, Nat.reduceLeDiff, Nat.reduceBNe, Nat.reduceBEq, Int.reduceToNat] <;> (repeat' apply And.intro) <;> (try first | rfl | exact wk_frzb rfl rfl rfl | exact wk_fn rfl | exact .nilo _ _ _ rfl rfl)
        · rintro g2 ⟨hg2, lg2⟩
          refine aw_seq (aw_region (EF := EFa) hG (by rw [hN]; exact tr11_12) ?_)
          simp only [a11_12, go_sem, ↓reduceIte, Nat.reduceEqDiff, reduceCtorEq, Nat.reduceAdd, Nat.reduceLT, Nat.reduceLeDiff, Nat.reduceBNe, Nat.reduceBEq, Int.reduceToNat, EFa, tCk, fCaps_eq]
          (repeat' apply And.intro) <;> (try first | omega | (intros; (repeat' apply And.intro) <;> first | assumption | omega | (simp_all; done)))
          refine aw_seq (aw_region (EF := EFa) hG (by rw [hN]; exact tr11_13) ?_)
          simp only [a11_13, go_sem, ↓reduceIte, Nat.reduceEqDiff, reduceCtorEq, Nat.reduceAdd, Nat.reduceLT, Nat.reduceLeDiff, Nat.reduceBNe, Nat.reduceBEq, Int.reduceToNat, EFa, tCk, fCaps_eq]
          (repeat' apply And.intro) <;> (try first | omega | (intros; (repeat' apply And.intro) <;> first | assumption | omega | (simp_all; done)))
          refine aw_cut (α := (List Fault) × (Assoc (List UInt8)) × (List (List UInt8))) (fun γ => (γ.1 = g2 ++ fIf ((ps.take i).any (aMoved ⟨ac, at', an, ⟨zo, sh⟩⟩)) 8 (sAir ++ dec i)) ∧ (γ.1.length ≤ g2.length + 1) ∧ (MapsOk (ps.take i ++ [⟨ac, at', an, ⟨zo, sh⟩⟩]) γ.2.1 γ.2.2)) (fun γ => ⟨mkE [(1, V.ptr 1 0), (3, V.ptr 3 0), (4, V.fn 25 [V.ptr 3 0]), (5, V.map 21), (6, V.map 22), (7, V.map 23), (8, V.int IntKind.i64 ↑i), (9, V.ptr 9 0), (25, V.list (List.map Airport.enc ps) false), (26, V.int IntKind.i64 ↑ps.length), (27, V.int IntKind.i64 ↑i)], mkH [(1, Ob.box 25 [V.list (List.map Airport.enc ps) false, V.list (List.map Distance.enc ds) false]), (3, .box 29 [.own 999 γ.1.length]), (9, Ob.box 35 [V.str ac, V.str at', V.str an, V.int IntKind.i64 zo, V.list (List.map Shift.enc sh) false]), (21, Ob.mp (smap (List.map (fun x => x.code) (List.take i ps) ++ [ac]))), (22, .mp (kmap fS8 γ.2.1)), (23, .mp (smap γ.2.2)), (999, .arr 53 2 (faults γ.1))]⟩) ?_ ?_
          · intro KCb2 hKCb2
            refine aw_block ?_
            refine aw_seq (aw_region (EF := EFa) hG (by rw [hN]; exact tr11_14) ?_)
            simp only [a11_14, go_sem, ↓reduceIte, Nat.reduceEqDiff, reduceCtorEq, Nat.reduceAdd, Nat.reduceLT, Nat.reduceLeDiff, Nat.reduceBNe, Nat.reduceBEq, Int.reduceToNat, EFa, tCk, fCaps_eq]
            refine aw_cond (b := _) rfl (fun hb14 => ?_) (fun hb14 => ?_)
            · skip
              have hn : aget L at' = none := isSome_no (by simpa using hb14)
              refine aw_region (EF := EFa) hG (by rw [hN]; exact tr11_15) ?_
              simp only [a11_15, go_sem, ↓reduceIte, Nat.reduceEqDiff, reduceCtorEq, Nat.reduceAdd, Nat.reduceLT, Nat.reduceLeDiff, Nat.reduceBNe, Nat.reduceBEq, Int.reduceToNat, EFa, tCk, fCaps_eq]
              (repeat' apply And.intro) <;> (try first | omega | (intros; (repeat' apply And.intro) <;> first | assumption | omega | (simp_all; done)))
              refine hKCb2 (g2, aput L at' an, M) _ ?_ ?_
              · (try dsimp only); (have hnw := hLM.new (a := ⟨ac, at', an, ⟨zo, sh⟩⟩) hn; exact ⟨by rw [fIf_f hnw.2, List.append_nil], by omega, hnw.1⟩)
              · refine Le.mk _ _ ?_ ?_ rfl <;> simp only [go_sem, ↓reduceIte, Nat.reduceEqDiff, reduceCtorEq, Nat.reduceAdd, Nat.reduceLT, Nat.reduceLeDiff, Nat.reduceBNe, Nat.reduceBEq, Int.reduceToNat] <;> (repeat' apply And.intro) <;> (try first | rfl | exact wk_frzb rfl rfl rfl | exact wk_fn rfl | exact .nilo _ _ _ rfl rfl)
            · skip
              obtain ⟨c0, hn⟩ := Option.isSome_iff_exists.1 (show (aget L at').isSome = true by simpa using hb14)
              refine aw_seq (aw_region (EF := EFa) hG (by rw [hN]; exact tr11_16) ?_)
              simp only [a11_16, go_sem, ↓reduceIte, Nat.reduceEqDiff, reduceCtorEq, Nat.reduceAdd, Nat.reduceLT, Nat.reduceLeDiff, Nat.reduceBNe, Nat.reduceBEq, Int.reduceToNat, hn, EFa, tCk, fCaps_eq]
              (repeat' apply And.intro) <;> (try first | omega | (intros; (repeat' apply And.intro) <;> first | assumption | omega | (simp_all; done)))
              refine aw_cond (b := _) rfl (fun hb16 => ?_) (fun hb16 => ?_)
              · skip
                refine aw_seq (aw_region (EF := EFa) hG (by rw [hN]; exact tr11_17) ?_)
                simp only [a11_17, go_sem, ↓reduceIte, Nat.reduceEqDiff, reduceCtorEq, Nat.reduceAdd, Nat.reduceLT, Nat.reduceLeDiff, Nat.reduceBNe, Nat.reduceBEq, Int.reduceToNat, EFa, tCk, fCaps_eq]
                (repeat' apply And.intro) <;> (try first | omega | (intros; (repeat' apply And.intro) <;> first | assumption | omega | (simp_all; done)))
                refine aw_region (EF := EFa) hG (by rw [hN]; exact tr11_18) ?_
                simp only [a11_18, go_sem, ↓reduceIte, Nat.reduceEqDiff, reduceCtorEq, Nat.reduceAdd, Nat.reduceLT, Nat.reduceLeDiff, Nat.reduceBNe, Nat.reduceBEq, Int.reduceToNat, EFa, tCk, fCaps_eq]
                refine bx_use (nb := 3) (na := 999) (g := g2) (add_e _ _ _ i ?_ (by decide) (by omega)) (by simp [V.rens, V.ren]) (by simp [V.nins, V.nin]) (by rfl) (by rfl) (by decide) ?_
                · omega
                simp only [go_sem, ↓reduceIte, Nat.reduceEqDiff, reduceCtorEq, Nat.reduceAdd, Nat.reduceLT, Nat.reduceLeDiff, Nat.reduceBNe, Nat.reduceBEq, Int.reduceToNat, bxF]
                refine hKCb2 (g2 ++ [⟨8, sAir ++ dec i⟩], L, M ++ [at']) _ ?_ ?_
                · (try dsimp only); (have ho := hLM.old (a := ⟨ac, at', an, ⟨zo, sh⟩⟩) hn; exact ⟨by rw [fIf_t (ho.1.trans hb16)], by simp, by have := ho.2; rwa [if_pos hb16] at this⟩)
                · refine Le.mk _ _ ?_ ?_ rfl <;> simp only [go_sem, ↓reduceIte, Nat.reduceEqDiff, reduceCtorEq, Nat.reduceAdd, Nat.reduceLT, Nat.reduceLeDiff, Nat.reduceBNe, Nat.reduceBEq, Int.reduceToNat, List.length_append, List.length_cons, List.length_nil, bxF] <;> (repeat' apply And.intro) <;> (try first | rfl | exact wk_frzb rfl rfl rfl | exact wk_fn rfl | exact .nilo _ _ _ rfl rfl)
              · skip
                refine aw_skip ?_
                simp only [go_sem, ↓reduceIte, Nat.reduceEqDiff, reduceCtorEq, Nat.reduceAdd, Nat.reduceLT, Nat.reduceLeDiff, Nat.reduceBNe, Nat.reduceBEq, Int.reduceToNat]
                refine hKCb2 (g2, L, M) _ ?_ ?_
                · (try dsimp only); (have ho := hLM.old (a := ⟨ac, at', an, ⟨zo, sh⟩⟩) hn; exact ⟨by rw [fIf_f (ho.1.trans hb16), List.append_nil], by omega, by have := ho.2; rwa [if_neg (by rw [hb16]; decide)] at this⟩)
                · refine Le.mk _ _ ?_ ?_ rfl <;> simp only [go_sem, ↓reduceIte, Nat.reduceEqDiff, reduceCtorEq, Nat.reduceAdd, Nat.reduceLT, Nat.reduceLeDiff, Nat.reduceBNe, Nat.reduceBEq, Int.reduceToNat] <;> (repeat' apply And.intro) <;> (try first | rfl | exact wk_frzb rfl rfl rfl | exact wk_fn rfl | exact .nilo _ _ _ rfl rfl)
          · rintro ⟨g3, L2, M2⟩ ⟨hg3, lg3, hLM2⟩
            try dsimp only at *
            refine aw_seq (aw_region (EF := EFa) hG (by rw [hN]; exact tr11_19) ?_)
            simp only [a11_19, go_sem, ↓reduceIte, Nat.reduceEqDiff, reduceCtorEq, Nat.reduceAdd, Nat.reduceLT, Nat.reduceLeDiff, Nat.reduceBNe, Nat.reduceBEq, Int.reduceToNat, fZone_eq, h4, EFa, tCk, fCaps_eq]
            (repeat' apply And.intro) <;> (try first | omega | (intros; (repeat' apply And.intro) <;> first | assumption | omega | (simp_all; done)))
            refine aw_seq (aw_region (EF := EFa) hG (by rw [hN]; exact tr11_20) ?_)
            simp only [a11_20, go_sem, ↓reduceIte, Nat.reduceEqDiff, reduceCtorEq, Nat.reduceAdd, Nat.reduceLT, Nat.reduceLeDiff, Nat.reduceBNe, Nat.reduceBEq, Int.reduceToNat, EFa, tCk, fCaps_eq]
            refine aw_cond (b := _) rfl (fun hb20 => ?_) (fun hb20 => ?_)
            · skip
              refine aw_region (EF := EFa) hG (by rw [hN]; exact tr11_21) ?_
              simp only [a11_21, go_sem, ↓reduceIte, Nat.reduceEqDiff, reduceCtorEq, Nat.reduceAdd, Nat.reduceLT, Nat.reduceLeDiff, Nat.reduceBNe, Nat.reduceBEq, Int.reduceToNat, EFa, tCk, fCaps_eq]
              refine bx_use (nb := 3) (na := 999) (g := g3) (add_e _ _ _ i ?_ (by decide) (by omega)) (by simp [V.rens, V.ren]) (by simp [V.nins, V.nin]) (by rfl) (by rfl) (by decide) ?_
              · omega
              simp only [go_sem, ↓reduceIte, Nat.reduceEqDiff, reduceCtorEq, Nat.reduceAdd, Nat.reduceLT, Nat.reduceLeDiff, Nat.reduceBNe, Nat.reduceBEq, Int.reduceToNat, bxF]
              refine aw_region (EF := EFa) hG (by rw [hN]; exact tr11_22) ?_
              simp only [a11_22, go_sem, ↓reduceIte, Nat.reduceEqDiff, reduceCtorEq, Nat.reduceAdd, Nat.reduceLT, Nat.reduceLeDiff, Nat.reduceBNe, Nat.reduceBEq, Int.reduceToNat, inI, EFa, tCk, fCaps_eq]
              (repeat' apply And.intro) <;> (try first | omega | (intros; (repeat' apply And.intro) <;> first | assumption | omega | (simp_all; done)))
              refine hKL0 (i + 1, g3 ++ [⟨zErr ⟨zo, sh⟩, sAir ++ dec i⟩], L2, M2) _ ?_ ?_ ?_
              · (try dsimp only); exact ⟨hc6, by rw [hst, fIf_t hb20, hg3, hg2, hg1], by simp only [List.length_append, List.length_cons, List.length_nil]; omega, by rw [take_succ' hc6, haa]; exact hLM2⟩
              · (try dsimp only); omega
              · refine Le.mk _ _ ?_ ?_ rfl <;> simp only [go_sem, ↓reduceIte, Nat.reduceEqDiff, reduceCtorEq, Nat.reduceAdd, Nat.reduceLT, Nat.reduceLeDiff, Nat.reduceBNe, Nat.reduceBEq, Int.reduceToNat, List.length_append, List.length_cons, List.length_nil, bxF, take_succ' hc6, haa, List.map_append] <;> (repeat' apply And.intro) <;> (try first | rfl | exact wk_frzb rfl rfl rfl | exact wk_fn rfl | exact .nilo _ _ _ rfl rfl)
            · skip
              refine aw_skip ?_
              simp only [go_sem, ↓reduceIte, Nat.reduceEqDiff, reduceCtorEq, Nat.reduceAdd, Nat.reduceLT, Nat.reduceLeDiff, Nat.reduceBNe, Nat.reduceBEq, Int.reduceToNat]
              refine aw_region (EF := EFa) hG (by rw [hN]; exact tr11_22) ?_
              simp only [a11_22, go_sem, ↓reduceIte, Nat.reduceEqDiff, reduceCtorEq, Nat.reduceAdd, Nat.reduceLT, Nat.reduceLeDiff, Nat.reduceBNe, Nat.reduceBEq, Int.reduceToNat, inI, EFa, tCk, fCaps_eq]
              (repeat' apply And.intro) <;> (try first | omega | (intros; (repeat' apply And.intro) <;> first | assumption | omega | (simp_all; done)))
              refine hKL0 (i + 1, g3, L2, M2) _ ?_ ?_ ?_
              · (try dsimp only); exact ⟨hc6, by rw [hst, fIf_f hb20, hg3, hg2, hg1, List.append_nil], by omega, by rw [take_succ' hc6, haa]; exact hLM2⟩
              · (try dsimp only); omega
              · refine Le.mk _ _ ?_ ?_ rfl <;> simp only [go_sem, ↓reduceIte, Nat.reduceEqDiff, reduceCtorEq, Nat.reduceAdd, Nat.reduceLT, Nat.reduceLeDiff, Nat.reduceBNe, Nat.reduceBEq, Int.reduceToNat, take_succ' hc6, haa, List.map_append] <;> (repeat' apply And.intro) <;> (try first | rfl | exact wk_frzb rfl rfl rfl | exact wk_fn rfl | exact .nilo _ _ _ rfl rfl)
    · simp only [decide_eq_true_eq, decide_eq_false_iff_not, Bool.and_eq_true, Bool.or_eq_true, Bool.not_eq_true', Bool.not_eq_false', Bool.and_eq_false_iff, Bool.or_eq_false_iff, Int.ofNat_lt, Int.ofNat_le, Nat.not_lt, Nat.not_le, Int.not_lt, Int.not_le] at hc6
      rw [List.take_of_length_le hc6] at hLM
      have hisS : ∀ c, (aget L c).isSome = (findBy (byCity c) ps).isSome := fun c => by rw [hLM.first]; cases findBy (byCity c) ps <;> rfl
      refine aw_exit ?_
      simp only [go_sem, ↓reduceIte, Nat.reduceEqDiff, reduceCtorEq, Nat.reduceAdd, Nat.reduceLT, Nat.reduceLeDiff, Nat.reduceBNe, Nat.reduceBEq, Int.reduceToNat]
      refine aw_seq (aw_region (EF := EFa) hG (by rw [hN]; exact tr11_23) ?_)
      simp only [a11_23, go_sem, ↓reduceIte, Nat.reduceEqDiff, reduceCtorEq, Nat.reduceAdd, Nat.reduceLT, Nat.reduceLeDiff, Nat.reduceBNe, Nat.reduceBEq, Int.reduceToNat, EFa, tCk, fCaps_eq]
      refine aw_seq ?_
      refine aw_seq (aw_region (EF := EFa) hG (by rw [hN]; exact tr11_24) ?_)
      simp only [a11_24, go_sem, ↓reduceIte, Nat.reduceEqDiff, reduceCtorEq, Nat.reduceAdd, Nat.reduceLT, Nat.reduceLeDiff, Nat.reduceBNe, Nat.reduceBEq, Int.reduceToNat, EFa, tCk, fCaps_eq]
      refine aw_block ?_
      refine aw_loop (α := Nat × (List Fault)) (fun γ => (γ.1 ≤ ds.length) ∧ (γ.2 = g ++ disTo ps ds γ.1) ∧ (γ.2.length ≤ g.length + 3 * γ.1)) (fun γ => ⟨mkE [(3, V.ptr 3 0), (4, V.fn 25 [V.ptr 3 0]), (6, V.map 22), (13, V.map 103), (105, V.list (List.map Distance.enc ds) false), (106, V.int IntKind.i64 ↑ds.length), (107, .int .i64 γ.1)], mkH [(3, .box 29 [.own 999 γ.2.length]), (22, Ob.mp (kmap fS8 L)), (103, .mp (smap2 (bothP (ds.take γ.1)))), (999, .arr 53 2 (faults γ.2))]⟩) (fun γ => ds.length - γ.1) (0, g) ⟨Nat.zero_le _, by rw [disTo, List.append_nil], Nat.le_refl _⟩ ?_ ?_
      · refine Le.mk _ _ ?_ ?_ rfl <;> simp only [go_sem, ↓reduceIte, Nat.reduceEqDiff, reduceCtorEq, Nat.reduceAdd, Nat.reduceLT, Nat.reduceLeDiff, Nat.reduceBNe, Nat.reduceBEq, Int.reduceToNat] <;> (repeat' apply And.intro) <;> (try first | rfl | exact wk_frzb rfl rfl rfl | exact wk_fn rfl | exact .nilo _ _ _ rfl rfl)
      · rintro ⟨j, f⟩ ⟨hj, hf, hfl⟩ KL3 hKL3
        try dsimp only at *
        refine aw_seq (aw_region (EF := EFa) hG (by rw [hN]; exact tr11_25) ?_)
        simp only [a11_25, go_sem, ↓reduceIte, Nat.reduceEqDiff, reduceCtorEq, Nat.reduceAdd, Nat.reduceLT, Nat.reduceLeDiff, Nat.reduceBNe, Nat.reduceBEq, Int.reduceToNat, EFa, tCk, fCaps_eq]
        refine aw_seq ?_
        refine aw_cond (b := _) rfl (fun hc25 => ?_) (fun hc25 => ?_)
        · simp only [decide_eq_true_eq, decide_eq_false_iff_not, Bool.and_eq_true, Bool.or_eq_true, Bool.not_eq_true', Bool.not_eq_false', Bool.and_eq_false_iff, Bool.or_eq_false_iff, Int.ofNat_lt, Int.ofNat_le, Nat.not_lt, Nat.not_le, Int.not_lt, Int.not_le] at hc25
          refine aw_skip ?_
          simp only [go_sem, ↓reduceIte, Nat.reduceEqDiff, reduceCtorEq, Nat.reduceAdd, Nat.reduceLT, Nat.reduceLeDiff, Nat.reduceBNe, Nat.reduceBEq, Int.reduceToNat]
          refine aw_seq ?_
          refine aw_block ?_
          generalize hdd : ds[j] = d
          obtain ⟨df, dt, dm⟩ := d
          have hpa : seen2 (bothP (ds.take j)) df dt = (ds.take j).any (dTwice ⟨df, dt, dm⟩) := pairs_any _ ⟨df, dt, dm⟩
          have hbs := (bothP_snoc (ds.take j) ⟨df, dt, dm⟩).symm
          have hst : disTo ps ds (j + 1) = disTo ps ds j ++ fIf (!(aget L df).isSome || !(aget L dt).isSome) 14 (sDis ++ dec j) ++ fIf (seen2 (bothP (ds.take j)) df dt) 6 (sDis ++ dec j) ++ fIf (!usable ⟨df, dt, dm⟩ || decide (df = dt)) 2 (sDis ++ dec j) := by rw [hpa, disTo, getD_lt _ _ _ hc25, hdd, hisS, hisS]; unfold disErrs; simp only [errF_app, errF_iIf, List.append_assoc]
          refine aw_seq (aw_region (EF := EFa) hG (by rw [hN]; exact tr11_26) ?_)
          simp only [a11_26, go_sem, ↓reduceIte, Nat.reduceEqDiff, reduceCtorEq, Nat.reduceAdd, Nat.reduceLT, Nat.reduceLeDiff, Nat.reduceBNe, Nat.reduceBEq, Int.reduceToNat, getD_mapd _ _ _ _ hc25, hc25, hdd, Distance.enc, EFa, tCk, fCaps_eq]
          (repeat' apply And.intro) <;> (try first | omega | (intros; (repeat' apply And.intro) <;> first | assumption | omega | (simp_all; done)))
          refine aw_seq (aw_region (EF := EFa) hG (by rw [hN]; exact tr11_27) ?_)
          simp only [a11_27, go_sem, ↓reduceIte, Nat.reduceEqDiff, reduceCtorEq, Nat.reduceAdd, Nat.reduceLT, Nat.reduceLeDiff, Nat.reduceBNe, Nat.reduceBEq, Int.reduceToNat, EFa, tCk, fCaps_eq]
          (repeat' apply And.intro) <;> (try first | omega | (intros; (repeat' apply And.intro) <;> first | assumption | omega | (simp_all; done)))
          refine aw_seq (aw_region (EF := EFa) hG (by rw [hN]; exact tr11_28) ?_)
          simp only [a11_28, go_sem, ↓reduceIte, Nat.reduceEqDiff, reduceCtorEq, Nat.reduceAdd, Nat.reduceLT, Nat.reduceLeDiff, Nat.reduceBNe, Nat.reduceBEq, Int.reduceToNat, EFa, tCk, fCaps_eq]
          (repeat' apply And.intro) <;> (try first | omega | (intros; (repeat' apply And.intro) <;> first | assumption | omega | (simp_all; done)))
          refine aw_cut (α := (List Fault)) (fun f1 => (f1 = f ++ fIf (!(aget L df).isSome || !(aget L dt).isSome) 14 (sDis ++ dec j)) ∧ (f1.length ≤ f.length + 1)) (fun f1 => ⟨mkE [(3, V.ptr 3 0), (4, V.fn 25 [V.ptr 3 0]), (6, V.map 22), (13, V.map 103), (14, V.int IntKind.i64 ↑j), (15, V.ptr 15 0), (105, V.list (List.map Distance.enc ds) false), (106, V.int IntKind.i64 ↑ds.length), (107, V.int IntKind.i64 ↑j)], mkH [(3, .box 29 [.own 999 f1.length]), (15, Ob.box 63 [V.str df, V.str dt, V.int IntKind.i64 dm]), (22, Ob.mp (kmap fS8 L)), (103, Ob.mp (smap2 (bothP (List.take j ds)))), (999, .arr 53 2 (faults f1))]⟩) ?_ ?_
          · intro KC29 hKC29
            refine aw_seq (aw_region (EF := EFa) hG (by rw [hN]; exact tr11_29) ?_)
            simp only [a11_29, go_sem, ↓reduceIte, Nat.reduceEqDiff, reduceCtorEq, Nat.reduceAdd, Nat.reduceLT, Nat.reduceLeDiff, Nat.reduceBNe, Nat.reduceBEq, Int.reduceToNat, EFa, tCk, fCaps_eq]
            (repeat' apply And.intro) <;> (try first | omega | (intros; (repeat' apply And.intro) <;> first | assumption | omega | (simp_all; done)))
            refine aw_cond (b := _) rfl (fun hb29 => ?_) (fun hb29 => ?_)
            · skip
              refine aw_region (EF := EFa) hG (by rw [hN]; exact tr11_30) ?_
              simp only [a11_30, go_sem, ↓reduceIte, Nat.reduceEqDiff, reduceCtorEq, Nat.reduceAdd, Nat.reduceLT, Nat.reduceLeDiff, Nat.reduceBNe, Nat.reduceBEq, Int.reduceToNat, EFa, tCk, fCaps_eq]
              refine bx_use (nb := 3) (na := 999) (g := f) (add_e _ _ _ j ?_ (by decide) (by omega)) (by simp [V.rens, V.ren]) (by simp [V.nins, V.nin]) (by rfl) (by rfl) (by decide) ?_
              · first | omega | simp
              simp only [go_sem, ↓reduceIte, Nat.reduceEqDiff, reduceCtorEq, Nat.reduceAdd, Nat.reduceLT, Nat.reduceLeDiff, Nat.reduceBNe, Nat.reduceBEq, Int.reduceToNat, bxF]
              refine hKC29 (f ++ [⟨14, sDis ++ dec j⟩]) _ ?_ ?_
              · (try dsimp only); exact ⟨by rw [fIf_t (show (!(aget L df).isSome || !(aget L dt).isSome) = true from hb29)], by simp⟩
              · refine Le.mk _ _ ?_ ?_ rfl <;> simp only [go_sem, ↓reduceIte, Nat.reduceEqDiff, reduceCtorEq, Nat.reduceAdd, Nat.reduceLT, Nat.reduceLeDiff, Nat.reduceBNe, Nat.reduceBEq, Int.reduceToNat, List.length_append, List.length_cons, List.length_nil, bxF] <;> (repeat' apply And.intro) <;> (try first | rfl | exact wk_frzb rfl rfl rfl | exact wk_fn rfl | exact .nilo _ _ _ rfl rfl)
            · skip
              refine aw_skip ?_
              simp only [go_sem, ↓reduceIte, Nat.reduceEqDiff, reduceCtorEq, Nat.reduceAdd, Nat.reduceLT, Nat.reduceLeDiff, Nat.reduceBNe, Nat.reduceBEq, Int.reduceToNat]
              refine hKC29 (f) _ ?_ ?_
              · (try dsimp only); exact ⟨by rw [fIf_f (show (!(aget L df).isSome || !(aget L dt).isSome) = false from hb29), List.append_nil], by omega⟩
              · refine Le.mk _ _ ?_ ?_ rfl <;> simp only [go_sem, ↓reduceIte, Nat.reduceEqDiff, reduceCtorEq, Nat.reduceAdd, Nat.reduceLT, Nat.reduceLeDiff, Nat.reduceBNe, Nat.reduceBEq, Int.reduceToNat] <;> (repeat' apply And.intro) <;> (try first | rfl | exact wk_frzb rfl rfl rfl | exact wk_fn rfl | exact .nilo _ _ _ rfl rfl)
          · rintro f1 ⟨hf1, lf1⟩
            refine aw_cut (α := (List Fault)) (fun f2 => (f2 = f1 ++ fIf (seen2 (bothP (ds.take j)) df dt) 6 (sDis ++ dec j)) ∧ (f2.length ≤ f1.length + 1)) (fun f2 => ⟨mkE [(3, V.ptr 3 0), (4, V.fn 25 [V.ptr 3 0]), (6, V.map 22), (13, V.map 103), (14, V.int IntKind.i64 ↑j), (15, V.ptr 15 0), (105, V.list (List.map Distance.enc ds) false), (106, V.int IntKind.i64 ↑ds.length), (107, V.int IntKind.i64 ↑j)], mkH [(3, .box 29 [.own 999 f2.length]), (15, Ob.box 63 [V.str df, V.str dt, V.int IntKind.i64 dm]), (22, Ob.mp (kmap fS8 L)), (103, Ob.mp (smap2 (bothP (List.take j ds)))), (999, .arr 53 2 (faults f2))]⟩) ?_ ?_
            · intro KC31 hKC31
              refine aw_seq (aw_region (EF := EFa) hG (by rw [hN]; exact tr11_31) ?_)
              simp only [a11_31, go_sem, ↓reduceIte, Nat.reduceEqDiff, reduceCtorEq, Nat.reduceAdd, Nat.reduceLT, Nat.reduceLeDiff, Nat.reduceBNe, Nat.reduceBEq, Int.reduceToNat, EFa, tCk, fCaps_eq]
              (repeat' apply And.intro) <;> (try first | omega | (intros; (repeat' apply And.intro) <;> first | assumption | omega | (simp_all; done)))
              refine aw_cond (b := _) rfl (fun hb31 => ?_) (fun hb31 => ?_)
              · skip
                refine aw_region (EF := EFa) hG (by rw [hN]; exact tr11_32) ?_
                simp only [a11_32, go_sem, ↓reduceIte, Nat.reduceEqDiff, reduceCtorEq, Nat.reduceAdd, Nat.reduceLT, Nat.reduceLeDiff, Nat.reduceBNe, Nat.reduceBEq, Int.reduceToNat, EFa, tCk, fCaps_eq]
                refine bx_use (nb := 3) (na := 999) (g := f1) (add_e _ _ _ j ?_ (by decide) (by omega)) (by simp [V.rens, V.ren]) (by simp [V.nins, V.nin]) (by rfl) (by rfl) (by decide) ?_
                · first | omega | simp
                simp only [go_sem, ↓reduceIte, Nat.reduceEqDiff, reduceCtorEq, Nat.reduceAdd, Nat.reduceLT, Nat.reduceLeDiff, Nat.reduceBNe, Nat.reduceBEq, Int.reduceToNat, bxF]
                refine hKC31 (f1 ++ [⟨6, sDis ++ dec j⟩]) _ ?_ ?_
                · (try dsimp only); exact ⟨by rw [fIf_t (show (seen2 (bothP (ds.take j)) df dt) = true from hb31)], by simp⟩
                · refine Le.mk _ _ ?_ ?_ rfl <;> simp only [go_sem, ↓reduceIte, Nat.reduceEqDiff, reduceCtorEq, Nat.reduceAdd, Nat.reduceLT, Nat.reduceLeDiff, Nat.reduceBNe, Nat.reduceBEq, Int.reduceToNat, List.length_append, List.length_cons, List.length_nil, bxF] <;> (repeat' apply And.intro) <;> (try first | rfl | exact wk_frzb rfl rfl rfl | exact wk_fn rfl | exact .nilo _ _ _ rfl rfl)
              · skip
                refine aw_skip ?_
                simp only [go_sem, ↓reduceIte, Nat.reduceEqDiff, reduceCtorEq, Nat.reduceAdd, Nat.reduceLT, Nat.reduceLeDiff, Nat.reduceBNe, Nat.reduceBEq, Int.reduceToNat]
                refine hKC31 (f1) _ ?_ ?_
                · (try dsimp only); exact ⟨by rw [fIf_f (show (seen2 (bothP (ds.take j)) df dt) = false from hb31), List.append_nil], by omega⟩
                · refine Le.mk _ _ ?_ ?_ rfl <;> simp only [go_sem, ↓reduceIte, Nat.reduceEqDiff, reduceCtorEq, Nat.reduceAdd, Nat.reduceLT, Nat.reduceLeDiff, Nat.reduceBNe, Nat.reduceBEq, Int.reduceToNat] <;> (repeat' apply And.intro) <;> (try first | rfl | exact wk_frzb rfl rfl rfl | exact wk_fn rfl | exact .nilo _ _ _ rfl rfl)
            · rintro f2 ⟨hf2, lf2⟩
              refine aw_seq (aw_regionD (EF := EFa) hG mixed (by rw [hN]; exact tr11_33) ok11_33 ?_)
              simp only [a11_33, d11_33, go_sem, ↓reduceIte, Nat.reduceEqDiff, reduceCtorEq, Nat.reduceAdd, Nat.reduceLT, Nat.reduceLeDiff, Nat.reduceBNe, Nat.reduceBEq, Int.reduceToNat, EFa, tCk, fCaps_eq]
              (repeat' apply And.intro) <;> (try first | omega | (intros; (repeat' apply And.intro) <;> first | assumption | omega | (simp_all; done)))
              refine aw_seq (aw_region (EF := EFa) hG (by rw [hN]; exact tr11_34) ?_)
              simp only [a11_34, go_sem, ↓reduceIte, Nat.reduceEqDiff, reduceCtorEq, Nat.reduceAdd, Nat.reduceLT, Nat.reduceLeDiff, Nat.reduceBNe, Nat.reduceBEq, Int.reduceToNat, fUsable_eq, EFa, tCk, fCaps_eq]
              (repeat' apply And.intro) <;> (try first | omega | (intros; (repeat' apply And.intro) <;> first | assumption | omega | (simp_all; done)))
              refine aw_cond (b := _) rfl (fun hb34 => ?_) (fun hb34 => ?_)
              · skip
                refine aw_region (EF := EFa) hG (by rw [hN]; exact tr11_35) ?_
                simp only [a11_35, go_sem, ↓reduceIte, Nat.reduceEqDiff, reduceCtorEq, Nat.reduceAdd, Nat.reduceLT, Nat.reduceLeDiff, Nat.reduceBNe, Nat.reduceBEq, Int.reduceToNat, EFa, tCk, fCaps_eq]
                refine bx_use (nb := 3) (na := 999) (g := f2) (add_e _ _ _ j ?_ (by decide) (by omega)) (by simp [V.rens, V.ren]) (by simp [V.nins, V.nin]) (by rfl) (by rfl) (by decide) ?_
                · omega
                simp only [go_sem, ↓reduceIte, Nat.reduceEqDiff, reduceCtorEq, Nat.reduceAdd, Nat.reduceLT, Nat.reduceLeDiff, Nat.reduceBNe, Nat.reduceBEq, Int.reduceToNat, bxF]
                refine aw_region (EF := EFa) hG (by rw [hN]; exact tr11_36) ?_
                simp only [a11_36, go_sem, ↓reduceIte, Nat.reduceEqDiff, reduceCtorEq, Nat.reduceAdd, Nat.reduceLT, Nat.reduceLeDiff, Nat.reduceBNe, Nat.reduceBEq, Int.reduceToNat, inI, EFa, tCk, fCaps_eq]
                (repeat' apply And.intro) <;> (try first | omega | (intros; (repeat' apply And.intro) <;> first | assumption | omega | (simp_all; done)))
                refine hKL3 (j + 1, f2 ++ [⟨2, sDis ++ dec j⟩]) _ ?_ ?_ ?_
                · (try dsimp only); exact ⟨hc25, by rw [hst, fIf_t hb34, hf2, hf1, hf]; simp only [List.append_assoc], by simp only [List.length_append, List.length_cons, List.length_nil]; omega⟩
                · (try dsimp only); omega
                · refine Le.mk _ _ ?_ ?_ rfl <;> simp only [go_sem, ↓reduceIte, Nat.reduceEqDiff, reduceCtorEq, Nat.reduceAdd, Nat.reduceLT, Nat.reduceLeDiff, Nat.reduceBNe, Nat.reduceBEq, Int.reduceToNat, List.length_append, List.length_cons, List.length_nil, bxF, take_succ' hc25, hdd, hbs] <;> (repeat' apply And.intro) <;> (try first | rfl | exact wk_frzb rfl rfl rfl | exact wk_fn rfl | exact .nilo _ _ _ rfl rfl)
              · skip
                refine aw_skip ?_
                simp only [go_sem, ↓reduceIte, Nat.reduceEqDiff, reduceCtorEq, Nat.reduceAdd, Nat.reduceLT, Nat.reduceLeDiff, Nat.reduceBNe, Nat.reduceBEq, Int.reduceToNat]
                refine aw_region (EF := EFa) hG (by rw [hN]; exact tr11_36) ?_
                simp only [a11_36, go_sem, ↓reduceIte, Nat.reduceEqDiff, reduceCtorEq, Nat.reduceAdd, Nat.reduceLT, Nat.reduceLeDiff, Nat.reduceBNe, Nat.reduceBEq, Int.reduceToNat, inI, EFa, tCk, fCaps_eq]
                (repeat' apply And.intro) <;> (try first | omega | (intros; (repeat' apply And.intro) <;> first | assumption | omega | (simp_all; done)))
                refine hKL3 (j + 1, f2) _ ?_ ?_ ?_
                · (try dsimp only); exact ⟨hc25, by rw [hst, fIf_f hb34, hf2, hf1, hf, List.append_nil]; simp only [List.append_assoc], by omega⟩
                · (try dsimp only); omega
                · refine Le.mk _ _ ?_ ?_ rfl <;> simp only [go_sem, ↓reduceIte, Nat.reduceEqDiff, reduceCtorEq, Nat.reduceAdd, Nat.reduceLT, Nat.reduceLeDiff, Nat.reduceBNe, Nat.reduceBEq, Int.reduceToNat, take_succ' hc25, hdd, hbs] <;> (repeat' apply And.intro) <;> (try first | rfl | exact wk_frzb rfl rfl rfl | exact wk_fn rfl | exact .nilo _ _ _ rfl rfl)
        · simp only [decide_eq_true_eq, decide_eq_false_iff_not, Bool.and_eq_true, Bool.or_eq_true, Bool.not_eq_true', Bool.not_eq_false', Bool.and_eq_false_iff, Bool.or_eq_false_iff, Int.ofNat_lt, Int.ofNat_le, Nat.not_lt, Nat.not_le, Int.not_lt, Int.not_le] at hc25
          refine aw_exit ?_
          simp only [go_sem, ↓reduceIte, Nat.reduceEqDiff, reduceCtorEq, Nat.reduceAdd, Nat.reduceLT, Nat.reduceLeDiff, Nat.reduceBNe, Nat.reduceBEq, Int.reduceToNat]
          refine aw_seq (aw_region (EF := EFa) hG (by rw [hN]; exact tr11_37) ?_)
          simp only [a11_37, go_sem, ↓reduceIte, Nat.reduceEqDiff, reduceCtorEq, Nat.reduceAdd, Nat.reduceLT, Nat.reduceLeDiff, Nat.reduceBNe, Nat.reduceBEq, Int.reduceToNat, EFa, tCk, fCaps_eq]
          refine AW.le (s' := ⟨mkE [(2, .list (faults f) false)], mkH []⟩) (Le.mk _ _ ?_ ?_ rfl) (aw_ret (hQ _ _ (.inl rfl) ?_ ?_ ?_)) <;> simp only [outφ, outV, AR.res, go_sem, ↓reduceIte, Nat.reduceEqDiff, reduceCtorEq, Nat.reduceAdd, Nat.reduceLT, Nat.reduceLeDiff, Nat.reduceBNe, Nat.reduceBEq, Int.reduceToNat, fChk, chkF]
          · exact wk_frz rfl (by rw [faults_len]) rfl (faults_pur _)
          · rw [hf, hg, Nat.le_antisymm hi hc6, Nat.le_antisymm hj hc25]
end Go.Proofs.YtcongikpaonliaaDoor
