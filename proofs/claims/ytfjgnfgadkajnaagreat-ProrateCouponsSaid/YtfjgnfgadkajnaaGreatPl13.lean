/- Miles, of the reference. -/
import Derived.Test.YtfjgnfgadkajnaaGreatPl12
namespace Go.Proofs.YtfjgnfgadkajnaaGreat
open Go Go.RowKit
set_option linter.unusedSimpArgs false
set_option linter.unusedVariables false
set_option linter.deprecated false
theorem reach_use {d : Option Nat} {s : St} {K : St → Prop} {na q : Nat} {L L' : Assoc Int} {c : List UInt8} {m : Int} {ok : Bool} (he : Eff Tryz.prog UT 41 [.own 1000 L.length, .str c, .int .i64 m] (spO 1000 L) (.tup [.own 1000 L'.length, .bool ok]) (spO 1000 L'))
    (ha : s.h na = some (.arr 100 2 (spots L))) (hq : q = L.length)
    (hK : K ⟨setE d (.tup [.own na L'.length, .bool ok]) s.e, hov (spO na L') s.h⟩) : EStep Tryz.prog UT d 41 [.own na q, .str c, .int .i64 m] s K := by
  subst hq
  refine ⟨[(1000, na)], [], _, _, _, _, he, ⟨by simp [okL], rfl, rfl, by simp, by simp, ?_, by simp [V.rens, V.ren, rni], by simp [V.nins, V.nin], by simp [V.nin, V.nins, spO], ?_, ?_⟩, ?_⟩
  · intro p hp
    simp only [List.mem_cons, List.not_mem_nil, or_false] at hp
    subst hp
    exact ⟨_, ha, by simp [spO, mkH, Ob.ren], by simp only [Ob.nin, spots_purT]⟩
  · intro q hq
    simp only [spO, List.mem_cons, List.not_mem_nil, or_false] at hq
    subst hq
    simp only [Ob.nin, spots_purT]
  · intro p hp o o' h1 h2
    simp only [List.mem_cons, List.not_mem_nil, or_false] at hp
    subst hp; simp [spO, mkH] at h1 h2; subst h1 h2; simp [Ob.kind]
  · have e1 : (V.tup [.own 1000 L'.length, .bool ok]).ren (rn ([(1000, na)] ++ [])) = .tup [.own na L'.length, .bool ok] := by simp [V.ren, V.rens, rn]
    have e2 : (spO 1000 L').map (fun q : Nat × Ob => (rn ([(1000, na)] ++ []) q.1, q.2.ren (rn ([(1000, na)] ++ [])))) = spO na L' := by
      simp [spO, rn, Ob.ren, V.rens, V.ren]
    rw [e1, e2]
    exact hK
theorem fRe_eq (L : Assoc Int) (c : List UInt8) : gOf aRe fRe [.list (spots L) false, .str c] = (L.length ≤ 140737488355328, .int .i64 ((aget L c).getD (-1))) := gOf_eq aRe_inj (L, c)
theorem spots_one (c : List UInt8) (v : Int) : [[.str c, .int .i64 v]] = spots [(c, v)] := rfl
def EFr : Nat → Bool := fun f => f == 41
noncomputable def trMi : Tab
  | 38 => (gOf aPs fCity)
  | 39 => (gOf aDist fUsable)
  | 40 => (gOf aRe fRe)
  | _ => gNo
theorem trMi_ok : ∀ f, PureC Tryz.prog UT f (trMi f) := fun f => by
  unfold trMi
  split
  · exact rcity_p
  · exact rusable_p
  · exact reached_p
  · exact PureC.no
theorem first_yes {L x y n} (h : 0 ≤ (aget L x).getD (-1)) : firstR L x y n = reachR L y ((aget L x).getD (-1) + n) := by unfold firstR; rw [if_pos h]
theorem first_no {L x y n} (h : ¬ 0 ≤ (aget L x).getD (-1)) : firstR L x y n = (L, false) := by unfold firstR; rw [if_neg h]
theorem stepR_yes {L : Assoc Int} {f t : List UInt8} {n : Int} {r : Assoc Int × Bool} (hr : r = firstR L f t n) (h : 0 ≤ (aget L t).getD (-1)) : stepR L f t n = ((reachR r.1 f ((aget L t).getD (-1) + n)).1, r.2 || (reachR r.1 f ((aget L t).getD (-1) + n)).2) := by subst hr; unfold stepR; dsimp only; rw [if_pos h]
theorem stepR_no {L : Assoc Int} {f t : List UInt8} {n : Int} {r : Assoc Int × Bool} (hr : r = firstR L f t n) (h : ¬ 0 ≤ (aget L t).getD (-1)) : stepR L f t n = (r.1, r.2) := by subst hr; unfold stepR; dsimp only; rw [if_neg h, Bool.or_false]
theorem get_bd {L : Assoc Int} (h : ∀ p ∈ L, 0 ≤ p.2 ∧ p.2 ≤ 1000000000) (k : List UInt8) : -1 ≤ (aget L k).getD (-1) ∧ (aget L k).getD (-1) ≤ 1000000000 := by
  cases e : aget L k with
  | none => simp
  | some v => have := h _ (aget_mem e); simp only [Option.getD_some]; dsimp only at this; omega
set_option maxHeartbeats 4000000 in
theorem rmiles_p : PureC Tryz.prog UT 18 (gOf aMi fMiles) := by
  have hG := trMi_ok
  refine PureC.ofArgs aMi_inj Tryz.func18 body18 nm18 res18 ?_
  rintro ⟨⟨ps, ds⟩, a, b⟩ hv
  refine ⟨by rw [nt18]; simp [aMi], fun C hN Q hQ => ?_⟩
  rw [nt18] at hN
  unfold c18
  obtain ⟨hl, hd⟩ : MOk ⟨ps, ds⟩ := hv
  dsimp only at hd
  generalize hcf : cityOf ps a = f
  generalize hct : cityOf ps b = t
  refine aw_seq (aw_region (EF := EFr) hG (by rw [hN]; exact tr18_0) ?_)
  simp only [a18_0, go_sem, simprocAttr, aMi, Places.enc, trMi, EFr]
  refine aw_seq (aw_regionD (EF := EFr) hG mixed (by rw [hN]; exact tr18_1) ok18_1 ?_)
  simp only [a18_1, d18_1, go_sem, simprocAttr, fCity_eq, hl, hcf, hct, trMi, EFr]
  (repeat' apply And.intro) <;> (try first | omega | ((fail_if_success refine idW ?_); (fail_if_success refine idS ?_); intros; (repeat' apply And.intro) <;> first | assumption | omega | (simp_all; done)))
  refine aw_seq ?_
  refine aw_seq (aw_region (EF := EFr) hG (by rw [hN]; exact tr18_2) ?_)
  simp only [a18_2, go_sem, simprocAttr, trMi, EFr]
  (repeat' apply And.intro) <;> (try first | omega | ((fail_if_success refine idW ?_); (fail_if_success refine idS ?_); intros; (repeat' apply And.intro) <;> first | assumption | omega | (simp_all; done)))
  refine aw_cond (b := _) rfl (fun hb2 => ?_) (fun hb2 => ?_)
  · skip
    refine aw_seq (aw_region (EF := EFr) hG (by rw [hN]; exact tr18_3) ?_)
    simp only [a18_3, go_sem, simprocAttr, trMi, EFr]
    refine aw_ret ?_
    show Q _ _
    refine hQ _ _ (.inl rfl) ?_ ?_ ?_ <;> simp only [outφ, outV, AR.res, go_sem, simprocAttr, fMiles]
    rw [milesOf_empty hcf hct hb2]
  · skip
    refine aw_skip ?_
    try simp only [go_sem, simprocAttr]
    refine aw_seq (aw_regionO (EF := EFr) hG (by rw [hN]; exact tr18_4) ?_)
    simp only [a18_4, go_sem, simprocAttr, spots_one, trMi, EFr]
    refine aw_seq (aw_region (EF := EFr) hG (by rw [hN]; exact tr18_5) ?_)
    simp only [a18_5, go_sem, simprocAttr, trMi, EFr]
    refine aw_seq ?_
    refine aw_block ?_
    refine aw_loop (α := (Assoc Int) × Bool × Nat) (fun γ => (InvL ds f γ.1) ∧ (γ.2.1 = true → mu (ends f ds) γ.1 < γ.2.2 ∧ fixL ds f = fixN ds γ.2.2 γ.1) ∧ (γ.2.1 = false → fixL ds f = γ.1)) (fun γ => ⟨mkE [(3, V.ptr 3 0), (9, V.str t), (10, .own 32 γ.1.length), (11, .bool γ.2.1)], mkH [(3, Ob.box 25 [V.list (List.map Airport.enc ps) false, V.list (List.map Distance.enc ds) false]), (32, .arr 100 2 (spots γ.1))]⟩) (fun γ => γ.2.2) ([(f, 0)], true, mu (ends f ds) [(f, 0)] + 1) ⟨InvL.first ds f, fun _ => ⟨Nat.lt_succ_self _, rfl⟩, fun h => by cases h⟩ ?_ ?_
    · refine Le.mk _ _ ?_ ?_ rfl <;> simp only [go_sem, simprocAttr, List.length_cons, List.length_nil] <;> (repeat' apply And.intro) <;> (try first | rfl | exact wk_frzb rfl rfl rfl | exact wk_fn rfl | exact .nilo _ _ _ rfl rfl)
    · rintro ⟨L, more, m⟩ ⟨hI, hm, hs⟩ KL0 hKL0
      try dsimp only at *
      refine aw_seq ?_
      refine aw_seq (aw_region (EF := EFr) hG (by rw [hN]; exact tr18_6) ?_)
      simp only [a18_6, go_sem, simprocAttr, trMi, EFr]
      refine aw_cond (b := _) rfl (fun hb6 => ?_) (fun hb6 => ?_)
      · skip
        refine aw_skip ?_
        try simp only [go_sem, simprocAttr]
        refine aw_block ?_
        refine aw_seq (aw_region (EF := EFr) hG (by rw [hN]; exact tr18_7) ?_)
        simp only [a18_7, go_sem, simprocAttr, trMi, EFr]
        refine aw_seq (aw_region (EF := EFr) hG (by rw [hN]; exact tr18_8) ?_)
        simp only [a18_8, go_sem, simprocAttr, trMi, EFr]
        refine aw_block ?_
        refine aw_loop (α := Nat × (Assoc Int) × Bool) (fun γ => (γ.1 ≤ ds.length) ∧ (rnd ds L false = rnd (ds.drop γ.1) γ.2.1 γ.2.2) ∧ (InvL ds f γ.2.1)) (fun γ => ⟨mkE [(3, V.ptr 3 0), (9, V.str t), (10, .own 32 γ.2.1.length), (11, .bool γ.2.2), (12, .int .i64 γ.1)], mkH [(3, Ob.box 25 [V.list (List.map Airport.enc ps) false, V.list (List.map Distance.enc ds) false]), (32, .arr 100 2 (spots γ.2.1))]⟩) (fun γ => ds.length - γ.1) (0, L, false) ⟨Nat.zero_le _, by rw [List.drop_zero], hI⟩ ?_ ?_
        · refine Le.mk _ _ ?_ ?_ rfl <;> simp only [go_sem, simprocAttr] <;> (repeat' apply And.intro) <;> (try first | rfl | exact wk_frzb rfl rfl rfl | exact wk_fn rfl | exact .nilo _ _ _ rfl rfl)
        · rintro ⟨i, L2, b2⟩ ⟨hi, hr, hI2⟩ KL2 hKL2
          try dsimp only at *
          refine aw_seq ?_
          refine aw_seq (aw_region (EF := EFr) hG (by rw [hN]; exact tr18_9) ?_)
          simp only [a18_9, go_sem, simprocAttr, trMi, EFr]
          refine aw_cond (b := _) rfl (fun hc9 => ?_) (fun hc9 => ?_)
          · simp only [hcL] at hc9
            refine aw_skip ?_
            try simp only [go_sem, simprocAttr]
            refine aw_cut (α := (Assoc Int) × Bool) (fun γ => (rnd ds L false = rnd (ds.drop (i + 1)) γ.1 γ.2) ∧ (InvL ds f γ.1)) (fun γ => ⟨mkE [(3, V.ptr 3 0), (9, V.str t), (10, .own 32 γ.1.length), (11, .bool γ.2), (12, V.int IntKind.i64 ↑i)], mkH [(3, Ob.box 25 [V.list (List.map Airport.enc ps) false, V.list (List.map Distance.enc ds) false]), (32, .arr 100 2 (spots γ.1))]⟩) ?_ ?_
            · intro KCb3 hKCb3
              refine aw_block ?_
              refine aw_seq (aw_region (EF := EFr) hG (by rw [hN]; exact tr18_11) ?_)
              simp only [a18_11, go_sem, simprocAttr, getD_mapd _ _ _ _ hc9, hc9, Distance.enc, trMi, EFr]
              (repeat' apply And.intro) <;> (try first | omega | ((fail_if_success refine idW ?_); (fail_if_success refine idS ?_); intros; (repeat' apply And.intro) <;> first | assumption | omega | (simp_all; done)))
              refine aw_seq ?_
              refine aw_seq (aw_region (EF := EFr) hG (by rw [hN]; exact tr18_12) ?_)
              simp only [a18_12, go_sem, simprocAttr, fUsable_eq, trMi, EFr]
              (repeat' apply And.intro) <;> (try first | omega | ((fail_if_success refine idW ?_); (fail_if_success refine idS ?_); intros; (repeat' apply And.intro) <;> first | assumption | omega | (simp_all; done)))
              refine aw_cond (b := _) rfl (fun hb12 => ?_) (fun hb12 => ?_)
              · skip
                refine aw_exit ?_
                simp only [go_sem, simprocAttr]
                refine hKCb3 (L2, b2) _ ?_ ?_
                · (try dsimp only); exact ⟨by rw [hr, rnd_no hc9 (by simpa using hb12)], hI2⟩
                · refine Le.mk _ _ ?_ ?_ rfl <;> simp only [go_sem, simprocAttr] <;> (repeat' apply And.intro) <;> (try first | rfl | exact wk_frzb rfl rfl rfl | exact wk_fn rfl | exact .nilo _ _ _ rfl rfl)
              · skip
                refine aw_skip ?_
                try simp only [go_sem, simprocAttr]
                have hb12' : usable ds[i] = true := by simpa using hb12
                have hu := (usable_iff ds[i]).1 hb12'
                have hmem := List.getElem_mem hc9
                have hs2 := relax_inv hI2 hd (edge_f hmem hb12')
                have hs3 := step_inv hI2 hd hmem hb12'
                have hL2 := hI2.big hd
                have hnn : ∀ p ∈ L2, 0 ≤ p.2 := fun p hp => (hL2.2 p hp).1
                have hlen2 : L2.length ≤ 140737488355328 := by omega
                have hx := get_bd hL2.2 ds[i].from'
                have hy := get_bd hL2.2 ds[i].to'
                refine aw_seq (aw_regionD (EF := EFr) hG mixed (by rw [hN]; exact tr18_13) ok18_13 ?_)
                simp only [a18_13, d18_13, go_sem, simprocAttr, fRe_eq, hlen2, trMi, EFr]
                (repeat' apply And.intro) <;> (try first | omega | ((fail_if_success refine idW ?_); (fail_if_success refine idS ?_); intros; (repeat' apply And.intro) <;> first | assumption | omega | (simp_all; done)))
                refine aw_seq (aw_region (EF := EFr) hG (by rw [hN]; exact tr18_14) ?_)
                simp only [a18_14, go_sem, simprocAttr, trMi, EFr]
                refine aw_cut (α := (Assoc Int) × Bool × Bool) (fun γ => ((γ.1, γ.2.1) = firstR L2 ds[i].from' ds[i].to' ds[i].miles) ∧ (γ.2.2 = (b2 || γ.2.1))) (fun γ => ⟨mkE [(3, V.ptr 3 0), (9, V.str t), (10, .own 32 γ.1.length), (11, .bool γ.2.2), (12, V.int IntKind.i64 ↑i), (13, V.ptr 13 0), (15, V.int IntKind.i64 ((aget L2 ds[i].to').getD (-1)))], mkH [(3, Ob.box 25 [V.list (List.map Airport.enc ps) false, V.list (List.map Distance.enc ds) false]), (13, Ob.box 48 [V.str ds[i].from', V.str ds[i].to', V.int IntKind.i64 ds[i].miles]), (32, .arr 100 2 (spots γ.1))]⟩) ?_ ?_
                · intro KC15 hKC15
                  refine aw_seq (aw_region (EF := EFr) hG (by rw [hN]; exact tr18_15) ?_)
                  simp only [a18_15, go_sem, simprocAttr, trMi, EFr]
                  refine aw_cond (b := _) rfl (fun hb15 => ?_) (fun hb15 => ?_)
                  · skip
                    refine aw_seq (aw_region (EF := EFr) hG (by rw [hN]; exact tr18_16) ?_)
                    simp only [a18_16, go_sem, simprocAttr, inI, trMi, EFr]
                    refine And.intro (by omega) ?_
                    refine reach_use (reach_e L2 _ _ hL2.1) (by rfl) rfl ?_
                    simp only [go_sem, simprocAttr, spO]
                    refine aw_region (EF := EFr) hG (by rw [hN]; exact tr18_17) ?_
                    simp only [a18_17, go_sem, simprocAttr, trMi, EFr]
                    (repeat' apply And.intro) <;> (try first | omega | ((fail_if_success refine idW ?_); (fail_if_success refine idS ?_); intros; (repeat' apply And.intro) <;> first | assumption | omega | (simp_all; done)))
                    refine hKC15 ((reachR L2 ds[i].to' ((aget L2 ds[i].from').getD (-1) + ds[i].miles)).1, (reachR L2 ds[i].to' ((aget L2 ds[i].from').getD (-1) + ds[i].miles)).2, (b2 || (reachR L2 ds[i].to' ((aget L2 ds[i].from').getD (-1) + ds[i].miles)).2)) _ ?_ ?_
                    · (try dsimp only); exact ⟨by rw [first_yes (of_decide_eq_true hb15)], rfl⟩
                    · refine Le.mk _ _ ?_ ?_ rfl <;> simp only [go_sem, simprocAttr, spO] <;> (repeat' apply And.intro) <;> (try first | rfl | exact wk_frzb rfl rfl rfl | exact wk_fn rfl | exact .nilo _ _ _ rfl rfl)
                  · skip
                    refine aw_skip ?_
                    try simp only [go_sem, simprocAttr]
                    refine hKC15 (L2, false, b2) _ ?_ ?_
                    · (try dsimp only); exact ⟨by rw [first_no (of_decide_eq_false hb15)], by rw [Bool.or_false]⟩
                    · refine Le.mk _ _ ?_ ?_ rfl <;> simp only [go_sem, simprocAttr] <;> (repeat' apply And.intro) <;> (try first | rfl | exact wk_frzb rfl rfl rfl | exact wk_fn rfl | exact .nilo _ _ _ rfl rfl)
                · rintro ⟨L4, r4, b4⟩ ⟨h4, hb4⟩
                  try dsimp only at *
                  have hL4 := (show InvL ds f L4 by rw [show L4 = (firstR L2 ds[i].from' ds[i].to' ds[i].miles).1 by rw [← h4], first_eq hnn]; exact hs2.1).big hd
                  refine aw_seq (aw_region (EF := EFr) hG (by rw [hN]; exact tr18_18) ?_)
                  simp only [a18_18, go_sem, simprocAttr, trMi, EFr]
                  refine aw_cond (b := _) rfl (fun hb18 => ?_) (fun hb18 => ?_)
                  · skip
                    refine aw_seq (aw_region (EF := EFr) hG (by rw [hN]; exact tr18_19) ?_)
                    simp only [a18_19, go_sem, simprocAttr, inI, trMi, EFr]
                    refine And.intro (by omega) ?_
                    refine reach_use (reach_e L4 _ _ hL4.1) (by rfl) rfl ?_
                    simp only [go_sem, simprocAttr, spO]
                    refine aw_region (EF := EFr) hG (by rw [hN]; exact tr18_20) ?_
                    simp only [a18_20, go_sem, simprocAttr, trMi, EFr]
                    (repeat' apply And.intro) <;> (try first | omega | ((fail_if_success refine idW ?_); (fail_if_success refine idS ?_); intros; (repeat' apply And.intro) <;> first | assumption | omega | (simp_all; done)))
                    refine hKCb3 ((reachR L4 ds[i].from' ((aget L2 ds[i].to').getD (-1) + ds[i].miles)).1, (b4 || (reachR L4 ds[i].from' ((aget L2 ds[i].to').getD (-1) + ds[i].miles)).2)) _ ?_ ?_
                    · (try dsimp only); (have e := stepR_yes h4 (of_decide_eq_true hb18); rw [step_eq hnn _ _ (by omega)] at e; exact ⟨by rw [hr, rnd_yes hc9 hb12', e, hb4, Bool.or_assoc], by rw [e] at hs3; exact hs3.1⟩)
                    · refine Le.mk _ _ ?_ ?_ rfl <;> simp only [go_sem, simprocAttr, spO] <;> (repeat' apply And.intro) <;> (try first | rfl | exact wk_frzb rfl rfl rfl | exact wk_fn rfl | exact .nilo _ _ _ rfl rfl)
                  · skip
                    refine aw_skip ?_
                    try simp only [go_sem, simprocAttr]
                    refine hKCb3 (L4, b4) _ ?_ ?_
                    · (try dsimp only); (have e := stepR_no h4 (of_decide_eq_false hb18); rw [step_eq hnn _ _ (by omega)] at e; exact ⟨by rw [hr, rnd_yes hc9 hb12', e, hb4], by rw [e] at hs3; exact hs3.1⟩)
                    · refine Le.mk _ _ ?_ ?_ rfl <;> simp only [go_sem, simprocAttr] <;> (repeat' apply And.intro) <;> (try first | rfl | exact wk_frzb rfl rfl rfl | exact wk_fn rfl | exact .nilo _ _ _ rfl rfl)
            · rintro ⟨L3, b3⟩ ⟨hr3, hI3⟩
              try dsimp only at *
              refine aw_region (EF := EFr) hG (by rw [hN]; exact tr18_10) ?_
              simp only [a18_10, go_sem, simprocAttr, inI, trMi, EFr]
              (repeat' apply And.intro) <;> (try first | omega | ((fail_if_success refine idW ?_); (fail_if_success refine idS ?_); intros; (repeat' apply And.intro) <;> first | assumption | omega | (simp_all; done)))
              refine hKL2 (i + 1, L3, b3) _ ?_ ?_ ?_
              · (try dsimp only); exact ⟨hc9, hr3, hI3⟩
              · (try dsimp only); omega
              · refine Le.mk _ _ ?_ ?_ rfl <;> simp only [go_sem, simprocAttr] <;> (repeat' apply And.intro) <;> (try first | rfl | exact wk_frzb rfl rfl rfl | exact wk_fn rfl | exact .nilo _ _ _ rfl rfl)
          · simp only [hcL] at hc9
            rw [rnd_end hc9] at hr
            obtain ⟨hm1, hm2⟩ := hm hb6
            refine aw_exit ?_
            simp only [go_sem, simprocAttr]
            refine hKL0 (L2, b2, m - 1) _ ?_ ?_ ?_
            · (try dsimp only); exact ⟨hI2, fun h => (by obtain ⟨k, rfl, h1, h2⟩ := fix_more hd hI hm1 (by rw [hr]; exact h); rw [hr] at h1 h2; exact ⟨h1, hm2.trans h2⟩), fun h => (by rw [hm2, fix_stop hd hI hm1 (by rw [hr]; exact h), hr])⟩
            · (try dsimp only); omega
            · refine Le.mk _ _ ?_ ?_ rfl <;> simp only [go_sem, simprocAttr] <;> (repeat' apply And.intro) <;> (try first | rfl | exact wk_frzb rfl rfl rfl | exact wk_fn rfl | exact .nilo _ _ _ rfl rfl)
      · skip
        refine aw_exit ?_
        simp only [go_sem, simprocAttr]
        have hLe := hI.big hd
        have hlenE : L.length ≤ 140737488355328 := by omega
        refine aw_seq (aw_region (EF := EFr) hG (by rw [hN]; exact tr18_21) ?_)
        simp only [a18_21, go_sem, simprocAttr, fRe_eq, hlenE, trMi, EFr]
        (repeat' apply And.intro) <;> (try first | omega | ((fail_if_success refine idW ?_); (fail_if_success refine idS ?_); intros; (repeat' apply And.intro) <;> first | assumption | omega | (simp_all; done)))
        refine aw_seq ?_
        refine aw_seq (aw_region (EF := EFr) hG (by rw [hN]; exact tr18_22) ?_)
        simp only [a18_22, go_sem, simprocAttr, trMi, EFr]
        refine aw_cond (b := _) rfl (fun hb22 => ?_) (fun hb22 => ?_)
        · skip
          refine aw_seq (aw_region (EF := EFr) hG (by rw [hN]; exact tr18_23) ?_)
          simp only [a18_23, go_sem, simprocAttr, trMi, EFr]
          refine aw_ret ?_
          show Q _ _
          refine hQ _ _ (.inl rfl) ?_ ?_ ?_ <;> simp only [outφ, outV, AR.res, go_sem, simprocAttr, fMiles]
          cases hag : aget L t; (rw [milesOf_full hcf hct hb2, hs hb6, hag]; rfl); (exfalso; have := hI.get hag; rw [hag] at hb22; simp at hb22; omega)
        · skip
          refine aw_skip ?_
          try simp only [go_sem, simprocAttr]
          refine aw_seq (aw_region (EF := EFr) hG (by rw [hN]; exact tr18_24) ?_)
          simp only [a18_24, go_sem, simprocAttr, trMi, EFr]
          refine aw_ret ?_
          show Q _ _
          refine hQ _ _ (.inl rfl) ?_ ?_ ?_ <;> simp only [outφ, outV, AR.res, go_sem, simprocAttr, fMiles]
          cases hag : aget L t; (exfalso; rw [hag] at hb22; simp at hb22); (rw [milesOf_full hcf hct hb2, hs hb6, hag]; rfl)
end Go.Proofs.YtfjgnfgadkajnaaGreat
