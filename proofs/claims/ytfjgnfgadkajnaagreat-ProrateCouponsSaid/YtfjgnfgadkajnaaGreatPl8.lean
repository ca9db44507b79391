/- The reference's errors of an airport and of a distance. -/
import Derived.Test.YtfjgnfgadkajnaaGreatPl4
namespace Go.Proofs.YtfjgnfgadkajnaaGreat
open Go Go.RowKit
set_option linter.unusedSimpArgs false
set_option linter.unusedVariables false
set_option linter.deprecated false
def iIf (b : Bool) (e : Int) : List Int := if b then [e] else []
theorem iIf_t {b : Bool} {e : Int} (h : b = true) : iIf b e = [e] := by rw [h]; rfl
theorem iIf_f {b : Bool} {e : Int} (h : b = false) : iIf b e = [] := by rw [h]; rfl
theorem any_step {α : Type} (p : α → Bool) {l : List α} {k : Nat} (h : k < l.length) : (l.take (k + 1)).any p = ((l.take k).any p || p l[k]) := by rw [take_succ' h, List.any_append]; simp
def dTwice (d x : Distance) : Bool := (decide (x.from' = d.from') && decide (x.to' = d.to')) || (decide (x.from' = d.to') && decide (x.to' = d.from'))
def disErrs (ps : List Airport) (ds : List Distance) (i : Nat) (d : Distance) : List Int :=
  iIf (!(findBy (byCity d.from') ps).isSome || !(findBy (byCity d.to') ps).isSome) 14 ++ iIf ((ds.take i).any (dTwice d)) 6 ++ iIf (!usable d || decide (d.from' = d.to')) 2
def aPi (x : Places × Int) : List V := [.agg x.1.enc, .int .i64 x.2]
theorem aPi_inj (a b : Places × Int) (h : aPi a = aPi b) : a = b := by
  obtain ⟨a_p, a_i⟩ := a
  obtain ⟨b_p, b_i⟩ := b
  simp only [aPi, List.cons.injEq, V.str.injEq, V.int.injEq, V.bool.injEq, V.agg.injEq, V.list.injEq, and_true, true_and] at h
  obtain ⟨h0, h1⟩ := h
  replace h0 := Places.inj _ _ h0
  subst h0
  subst h1
  rfl
def fDis (x : Places × Int) : Prop × V := (LenP x.1 ∧ 0 ≤ x.2 ∧ x.2.toNat < x.1.distances.length ∧ x.1.distances.length ≤ 1000000, .list (ints (disErrs x.1.airports x.1.distances x.2.toNat (x.1.distances.getD x.2.toNat Distance.zero))) false)
noncomputable def tDis : Tab
  | 46 => (gOf aPs fTown)
  | 39 => (gOf aDist fUsable)
  | _ => gNo
theorem tDis_ok : ∀ f, PureC Tryz.prog UT f (tDis f) := fun f => by
  unfold tDis
  split
  · exact rtown_p
  · exact rusable_p
  · exact PureC.no
set_option maxHeartbeats 4000000 in
theorem rdistance_p : PureC Tryz.prog UT 21 (gOf aPi fDis) := by
  have hG := tDis_ok
  refine PureC.ofArgs aPi_inj Tryz.func21 body21 nm21 res21 ?_
  rintro ⟨⟨ps, ds⟩, ii⟩ hv
  refine ⟨by rw [nt21]; simp [aPi], fun C hN Q hQ => ?_⟩
  rw [nt21] at hN
  unfold c21
  obtain ⟨hlp, hi0, hin, hdl⟩ : LenP ⟨ps, ds⟩ ∧ 0 ≤ ii ∧ ii.toNat < ds.length ∧ ds.length ≤ 1000000 := hv
  obtain ⟨i, rfl⟩ : ∃ i : Nat, ii = (i : Int) := ⟨ii.toNat, by omega⟩
  rw [Int.toNat_natCast] at hin
  generalize hdd : ds[i] = d
  obtain ⟨df, dt, dm⟩ := d
  refine aw_seq (aw_region (EF := EF0) hG (by rw [hN]; exact tr21_0) ?_)
  simp only [a21_0, go_sem, simprocAttr, aPi, Places.enc, tDis]
  refine aw_seq (aw_region (EF := EF0) hG (by rw [hN]; exact tr21_1) ?_)
  simp only [a21_1, go_sem, simprocAttr, tDis]
  refine AW.le (s' := ⟨mkE [(1, .int .i64 i), (2, .ptr 2 0), (5, .own 999 0)], mkH ([(2, .box 25 [.list (ps.map Airport.enc) false, .list (ds.map Distance.enc) false]), (999, .arr 35 1 (ints []))])⟩) (Le.mk _ _ (by (simp only [go_sem, simprocAttr]) <;> (repeat' apply And.intro) <;> (try first | exact wk_frzb rfl rfl rfl | rfl | exact wk_fn rfl | exact .nill _ | exact .nilo _ _ _ rfl rfl | exact wk_frz rfl (by simp only [ints_len, nats_len]) rfl (ints_pur _) | exact wk_frzm rfl rfl (fun kv hk => by obtain ⟨_, _, rfl⟩ := List.mem_map.1 hk; rfl))) (by (simp only [go_sem, simprocAttr]) <;> (repeat' apply And.intro) <;> (try first | exact wk_frzb rfl rfl rfl | rfl | exact wk_fn rfl | exact .nill _ | exact .nilo _ _ _ rfl rfl | exact wk_frz rfl (by simp only [ints_len, nats_len]) rfl (ints_pur _) | exact wk_frzm rfl rfl (fun kv hk => by obtain ⟨_, _, rfl⟩ := List.mem_map.1 hk; rfl))) rfl) ?_
  refine aw_seq (aw_region (EF := EF0) hG (by rw [hN]; exact tr21_2) ?_)
  simp only [a21_2, go_sem, simprocAttr, getD_mapd _ _ _ _ hin, hin, hdd, Distance.enc, tDis]
  (repeat' apply And.intro) <;> (try first | omega | ((fail_if_success refine idW ?_); (fail_if_success refine idS ?_); intros; (repeat' apply And.intro) <;> first | assumption | omega | (simp_all; done)))
  refine aw_seq (aw_region (EF := EF0) hG (by rw [hN]; exact tr21_3) ?_)
  simp only [a21_3, go_sem, simprocAttr, fTown_eq, hlp, airV, Airport.enc, tDis]
  (repeat' apply And.intro) <;> (try first | omega | ((fail_if_success refine idW ?_); (fail_if_success refine idS ?_); intros; (repeat' apply And.intro) <;> first | assumption | omega | (simp_all; done)))
  refine aw_seq (aw_region (EF := EF0) hG (by rw [hN]; exact tr21_4) ?_)
  simp only [a21_4, go_sem, simprocAttr, fTown_eq, hlp, airV, Airport.enc, tDis]
  (repeat' apply And.intro) <;> (try first | omega | ((fail_if_success refine idW ?_); (fail_if_success refine idS ?_); intros; (repeat' apply And.intro) <;> first | assumption | omega | (simp_all; done)))
  refine aw_cut (α := (List Int)) (fun g1 => (g1 = ([] : List Int) ++ iIf (!(findBy (byCity df) ps).isSome || !(findBy (byCity dt) ps).isSome) (14)) ∧ (g1.length ≤ ([] : List Int).length + 1)) (fun g1 => ⟨mkE [(1, V.int IntKind.i64 ↑i), (2, V.ptr 2 0), (5, .own 999 g1.length), (6, V.ptr 6 0)], mkH [(2, Ob.box 25 [V.list (List.map Airport.enc ps) false, V.list (List.map Distance.enc ds) false]), (6, Ob.box 48 [V.str df, V.str dt, V.int IntKind.i64 dm]), (999, .arr 35 1 (ints g1))]⟩) ?_ ?_
  · intro KC5 hKC5
    refine aw_seq (aw_region (EF := EF0) hG (by rw [hN]; exact tr21_5) ?_)
    simp only [a21_5, go_sem, simprocAttr, tDis]
    (repeat' apply And.intro) <;> (try first | omega | ((fail_if_success refine idW ?_); (fail_if_success refine idS ?_); intros; (repeat' apply And.intro) <;> first | assumption | omega | (simp_all; done)))
    refine aw_cond (b := _) rfl (fun hb5 => ?_) (fun hb5 => ?_)
    · skip
      refine aw_region (EF := EF0) hG (by rw [hN]; exact tr21_6) ?_
      simp only [a21_6, go_sem, simprocAttr, tDis]
      (repeat' apply And.intro) <;> (try first | omega | ((fail_if_success refine idW ?_); (fail_if_success refine idS ?_); intros; (repeat' apply And.intro) <;> first | assumption | omega | (simp_all; done)))
      refine hKC5 (([] : List Int) ++ [14]) _ ?_ ?_
      · (try dsimp only); exact ⟨by rw [iIf_t (show (!(findBy (byCity df) ps).isSome || !(findBy (byCity dt) ps).isSome) = true from hb5)], by simp⟩
      · refine Le.mk _ _ ?_ ?_ rfl <;> simp only [go_sem, simprocAttr, ints_snoc, List.length_append, List.length_cons, List.length_nil] <;> (repeat' apply And.intro) <;> (try first | rfl | exact wk_frzb rfl rfl rfl | exact wk_fn rfl | exact .nilo _ _ _ rfl rfl)
    · skip
      refine aw_skip ?_
      try simp only [go_sem, simprocAttr]
      refine hKC5 (([] : List Int)) _ ?_ ?_
      · (try dsimp only); exact ⟨by rw [iIf_f (show (!(findBy (byCity df) ps).isSome || !(findBy (byCity dt) ps).isSome) = false from hb5), List.append_nil], by omega⟩
      · refine Le.mk _ _ ?_ ?_ rfl <;> simp only [go_sem, simprocAttr] <;> (repeat' apply And.intro) <;> (try first | rfl | exact wk_frzb rfl rfl rfl | exact wk_fn rfl | exact .nilo _ _ _ rfl rfl)
  · rintro g1 ⟨hg1, lg1⟩
    simp only [List.length_nil] at lg1
    refine aw_seq (aw_region (EF := EF0) hG (by rw [hN]; exact tr21_7) ?_)
    simp only [a21_7, go_sem, simprocAttr, tDis]
    refine aw_seq ?_
    refine aw_seq (aw_region (EF := EF0) hG (by rw [hN]; exact tr21_8) ?_)
    simp only [a21_8, go_sem, simprocAttr, tDis]
    refine aw_block ?_
    refine aw_loop (α := Nat × Bool) (fun γ => (γ.1 ≤ i) ∧ (γ.2 = (ds.take γ.1).any (dTwice ⟨df, dt, dm⟩))) (fun γ => ⟨mkE [(1, V.int IntKind.i64 ↑i), (2, V.ptr 2 0), (5, V.own 999 g1.length), (6, V.ptr 6 0), (11, .bool γ.2), (12, .int .i64 γ.1)], mkH [(2, Ob.box 25 [V.list (List.map Airport.enc ps) false, V.list (List.map Distance.enc ds) false]), (6, Ob.box 48 [V.str df, V.str dt, V.int IntKind.i64 dm]), (999, Ob.arr 35 1 (ints g1))]⟩) (fun γ => i - γ.1) (0, false) ⟨Nat.zero_le _, rfl⟩ ?_ ?_
    · refine Le.mk _ _ ?_ ?_ rfl <;> simp only [go_sem, simprocAttr] <;> (repeat' apply And.intro) <;> (try first | rfl | exact wk_frzb rfl rfl rfl | exact wk_fn rfl | exact .nilo _ _ _ rfl rfl)
    · rintro ⟨k, tw⟩ ⟨hk, htw⟩ KL0 hKL0
      try dsimp only at *
      refine aw_seq ?_
      refine aw_seq (aw_region (EF := EF0) hG (by rw [hN]; exact tr21_9) ?_)
      simp only [a21_9, go_sem, simprocAttr, tDis]
      refine aw_cond (b := _) rfl (fun hc9 => ?_) (fun hc9 => ?_)
      · simp only [hcL] at hc9
        refine aw_skip ?_
        try simp only [go_sem, simprocAttr]
        refine aw_seq ?_
        refine aw_block ?_
        have hkd : k < ds.length := by omega
        refine aw_seq (aw_region (EF := EF0) hG (by rw [hN]; exact tr21_11) ?_)
        simp only [a21_11, go_sem, simprocAttr, getD_mapd _ _ _ _ hkd, hkd, Distance.enc, tDis]
        (repeat' apply And.intro) <;> (try first | omega | ((fail_if_success refine idW ?_); (fail_if_success refine idS ?_); intros; (repeat' apply And.intro) <;> first | assumption | omega | (simp_all; done)))
        refine aw_region (EF := EF0) hG (by rw [hN]; exact tr21_12) ?_
        simp only [a21_12, go_sem, simprocAttr, tDis]
        (repeat' apply And.intro) <;> (try first | omega | ((fail_if_success refine idW ?_); (fail_if_success refine idS ?_); intros; (repeat' apply And.intro) <;> first | assumption | omega | (simp_all; done)) | (intro h; exact ⟨h, fun h2 => by rw [h, h2]; rfl⟩))
        refine aw_region (EF := EF0) hG (by rw [hN]; exact tr21_10) ?_
        simp only [a21_10, go_sem, simprocAttr, inI, tDis]
        (repeat' apply And.intro) <;> (try first | omega | ((fail_if_success refine idW ?_); (fail_if_success refine idS ?_); intros; (repeat' apply And.intro) <;> first | assumption | omega | (simp_all; done)))
        refine hKL0 (k + 1, tw || dTwice ⟨df, dt, dm⟩ ds[k]) _ ?_ ?_ ?_
        · (try dsimp only); exact ⟨by omega, by rw [any_step _ hkd, htw]⟩
        · (try dsimp only); omega
        · refine Le.mk _ _ ?_ ?_ rfl <;> simp only [go_sem, simprocAttr, dTwice, Bool.or_assoc] <;> (repeat' apply And.intro) <;> (try first | rfl | exact wk_frzb rfl rfl rfl | exact wk_fn rfl | exact .nilo _ _ _ rfl rfl)
      · simp only [hcL] at hc9
        have hki : k = i := by omega
        refine aw_exit ?_
        simp only [go_sem, simprocAttr]
        refine aw_cut (α := (List Int)) (fun g2 => (g2 = g1 ++ iIf (tw) (6)) ∧ (g2.length ≤ g1.length + 1)) (fun g2 => ⟨mkE [(5, .own 999 g2.length), (6, V.ptr 6 0)], mkH [(6, Ob.box 48 [V.str df, V.str dt, V.int IntKind.i64 dm]), (999, .arr 35 1 (ints g2))]⟩) ?_ ?_
        · intro KC13 hKC13
          refine aw_seq (aw_region (EF := EF0) hG (by rw [hN]; exact tr21_13) ?_)
          simp only [a21_13, go_sem, simprocAttr, tDis]
          refine aw_cond (b := _) rfl (fun hb13 => ?_) (fun hb13 => ?_)
          · skip
            refine aw_region (EF := EF0) hG (by rw [hN]; exact tr21_14) ?_
            simp only [a21_14, go_sem, simprocAttr, tDis]
            (repeat' apply And.intro) <;> (try first | omega | ((fail_if_success refine idW ?_); (fail_if_success refine idS ?_); intros; (repeat' apply And.intro) <;> first | assumption | omega | (simp_all; done)))
            refine hKC13 (g1 ++ [6]) _ ?_ ?_
            · (try dsimp only); exact ⟨by rw [iIf_t (show (tw) = true from hb13)], by simp⟩
            · refine Le.mk _ _ ?_ ?_ rfl <;> simp only [go_sem, simprocAttr, ints_snoc, List.length_append, List.length_cons, List.length_nil] <;> (repeat' apply And.intro) <;> (try first | rfl | exact wk_frzb rfl rfl rfl | exact wk_fn rfl | exact .nilo _ _ _ rfl rfl)
          · skip
            refine aw_skip ?_
            try simp only [go_sem, simprocAttr]
            refine hKC13 (g1) _ ?_ ?_
            · (try dsimp only); exact ⟨by rw [iIf_f (show (tw) = false from hb13), List.append_nil], by omega⟩
            · refine Le.mk _ _ ?_ ?_ rfl <;> simp only [go_sem, simprocAttr] <;> (repeat' apply And.intro) <;> (try first | rfl | exact wk_frzb rfl rfl rfl | exact wk_fn rfl | exact .nilo _ _ _ rfl rfl)
        · rintro g2 ⟨hg2, lg2⟩
          refine aw_cut (α := (List Int)) (fun g3 => (g3 = g2 ++ iIf (!usable ⟨df, dt, dm⟩ || decide (df = dt)) (2)) ∧ (g3.length ≤ g2.length + 1)) (fun g3 => ⟨mkE [(5, .own 999 g3.length)], mkH [(999, .arr 35 1 (ints g3))]⟩) ?_ ?_
          · intro KC15 hKC15
            refine aw_seq (aw_region (EF := EF0) hG (by rw [hN]; exact tr21_15) ?_)
            simp only [a21_15, go_sem, simprocAttr, fUsable_eq, tDis]
            (repeat' apply And.intro) <;> (try first | omega | ((fail_if_success refine idW ?_); (fail_if_success refine idS ?_); intros; (repeat' apply And.intro) <;> first | assumption | omega | (simp_all; done)))
            refine aw_cond (b := _) rfl (fun hb15 => ?_) (fun hb15 => ?_)
            · skip
              refine aw_region (EF := EF0) hG (by rw [hN]; exact tr21_16) ?_
              simp only [a21_16, go_sem, simprocAttr, tDis]
              (repeat' apply And.intro) <;> (try first | omega | ((fail_if_success refine idW ?_); (fail_if_success refine idS ?_); intros; (repeat' apply And.intro) <;> first | assumption | omega | (simp_all; done)))
              refine hKC15 (g2 ++ [2]) _ ?_ ?_
              · (try dsimp only); exact ⟨by rw [iIf_t (show (!usable ⟨df, dt, dm⟩ || decide (df = dt)) = true from hb15)], by simp⟩
              · refine Le.mk _ _ ?_ ?_ rfl <;> simp only [go_sem, simprocAttr, ints_snoc, List.length_append, List.length_cons, List.length_nil] <;> (repeat' apply And.intro) <;> (try first | rfl | exact wk_frzb rfl rfl rfl | exact wk_fn rfl | exact .nilo _ _ _ rfl rfl)
            · skip
              refine aw_skip ?_
              try simp only [go_sem, simprocAttr]
              refine hKC15 (g2) _ ?_ ?_
              · (try dsimp only); exact ⟨by rw [iIf_f (show (!usable ⟨df, dt, dm⟩ || decide (df = dt)) = false from hb15), List.append_nil], by omega⟩
              · refine Le.mk _ _ ?_ ?_ rfl <;> simp only [go_sem, simprocAttr] <;> (repeat' apply And.intro) <;> (try first | rfl | exact wk_frzb rfl rfl rfl | exact wk_fn rfl | exact .nilo _ _ _ rfl rfl)
          · rintro g3 ⟨hg3, lg3⟩
            refine aw_seq (aw_region (EF := EF0) hG (by rw [hN]; exact tr21_17) ?_)
            simp only [a21_17, go_sem, simprocAttr, tDis]
            refine AW.le (s' := ⟨mkE [(4, .list (ints g3) false)], mkH []⟩) (Le.mk _ _ ?_ ?_ rfl) (aw_ret (hQ _ _ (.inl rfl) ?_ ?_ ?_)) <;> simp only [outφ, outV, AR.res, go_sem, simprocAttr, fDis, Int.toNat_natCast]
            · exact wk_frz rfl (by rw [ints_len]) rfl (ints_pur _)
            · rw [getD_lt _ _ _ hin, hdd, hg3, hg2, hg1, htw, hki]; rfl
end Go.Proofs.YtfjgnfgadkajnaaGreat
