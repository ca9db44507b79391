/- Miles, of the program. -/
import Derived.Test.YtfjgnfgadkajnaaGreatPl11
namespace Go.Proofs.YtfjgnfgadkajnaaGreat
open Go Go.RowKit
set_option linter.unusedSimpArgs false
set_option linter.unusedVariables false
set_option linter.deprecated false
theorem relax_use {d : Option Nat} {s : St} {K : St → Prop} {nb nm : Nat} {L L' : Assoc Int} {x y : List UInt8} {n : Int} {ok : Bool} (he : Eff Tryz.prog UT 36 [.str x, .str y, .int .i64 n, .ptr 1000 0] (mpO 1000 1001 L) (.bool ok) (mpO 1000 1001 L'))
    (hb : s.h nb = some (.box 95 [.map nm])) (ha : s.h nm = some (.mp (kmap fI8 L))) (hne : nb ≠ nm)
    (hK : K ⟨setE d (.bool ok) s.e, hov (mpO nb nm L') s.h⟩) : EStep Tryz.prog UT d 36 [.str x, .str y, .int .i64 n, .ptr nb 0] s K := by
  have hne2 : nm ≠ nb := Ne.symm hne
  refine ⟨[(1000, nb), (1001, nm)], [], _, _, _, _, he, ⟨by simp [okL, hne], rfl, rfl, by simp, by simp, ?_, by simp [V.rens, V.ren, rni, hne2], by simp [V.nins, V.nin], by simp [V.nin, V.nins], ?_, ?_⟩, ?_⟩
  · intro p hp
    simp only [List.mem_cons, List.not_mem_nil, or_false] at hp
    rcases hp with rfl | rfl
    · exact ⟨_, hb, by simp [mpO, mkH, Ob.ren, V.rens, V.ren, rni, hne2], by simp [Ob.nin, V.nins, V.nin]⟩
    · exact ⟨_, ha, by simp only [mpO, mkH, Ob.ren]; simp [kmap_renI], by simp only [Ob.nin, kmap_ninI]⟩
  · intro q hq
    simp only [mpO, List.mem_cons, List.not_mem_nil, or_false] at hq
    rcases hq with rfl | rfl
    · simp [Ob.nin, V.nins, V.nin, mpO]
    · simp only [Ob.nin, kmap_ninI]
  · intro p hp o o' h1 h2
    simp only [List.mem_cons, List.not_mem_nil, or_false] at hp
    rcases hp with rfl | rfl <;> simp [mpO, mkH] at h1 h2 <;> subst h1 h2 <;> simp [Ob.kind]
  · have e1 : (V.bool ok).ren (rn ([(1000, nb), (1001, nm)] ++ [])) = .bool ok := by simp [V.ren]
    have e2 : (mpO 1000 1001 L').map (fun q : Nat × Ob => (rn ([(1000, nb), (1001, nm)] ++ []) q.1, q.2.ren (rn ([(1000, nb), (1001, nm)] ++ [])))) = mpO nb nm L' := by
      simp [mpO, rn, Ob.ren, V.rens, V.ren, kmap_renI]
    rw [e1, e2]
    exact hK
def MOk (p : Places) : Prop := LenP p ∧ p.distances.length ≤ 1000
def aMi (x : Places × List UInt8 × List UInt8) : List V := [.agg x.1.enc, .str x.2.1, .str x.2.2]
theorem aMi_inj (a b : Places × List UInt8 × List UInt8) (h : aMi a = aMi b) : a = b := by
  obtain ⟨a_p, a_a, a_b⟩ := a
  obtain ⟨b_p, b_a, b_b⟩ := b
  simp only [aMi, List.cons.injEq, V.str.injEq, V.int.injEq, V.bool.injEq, V.agg.injEq, V.list.injEq, and_true, true_and] at h
  obtain ⟨h0, h1, h2⟩ := h
  replace h0 := Places.inj _ _ h0
  subst h0
  subst h1
  subst h2
  rfl
def fMiles (x : Places × List UInt8 × List UInt8) : Prop × V := (MOk x.1, .tup [.int .i64 (milesOf x.1.airports x.1.distances x.2.1 x.2.2).1, .int .i64 (milesOf x.1.airports x.1.distances x.2.1 x.2.2).2])
theorem fCity_eq (ps : List Airport) (ds : List Distance) (c : List UInt8) : gOf aPs fCity [.agg [.list (ps.map Airport.enc) false, .list (ds.map Distance.enc) false], .str c] = (LenP ⟨ps, ds⟩, .str (cityOf ps c)) := gOf_eq aPs_inj (⟨ps, ds⟩, c)
def EFm : Nat → Bool := fun f => f == 36
noncomputable def tMi : Tab
  | 35 => (gOf aPs fCity)
  | 37 => (gOf aDist fUsable)
  | _ => gNo
theorem tMi_ok : ∀ f, PureC Tryz.prog UT f (tMi f) := fun f => by
  unfold tMi
  split
  · exact city_p
  · exact usable_p
  · exact PureC.no
theorem putI_nil (k : List UInt8) (v : Int) : mput [] (.s k) (.int .i64 v) = kmap fI8 [(k, v)] := putI [] k v
theorem milesOf_empty {ps ds a b f t} (hcf : cityOf ps a = f) (hct : cityOf ps b = t) (h : (decide (f = []) || decide (t = [])) = true) : milesOf ps ds a b = (0, 14) := by
  subst hcf hct; unfold milesOf; rw [if_pos (by simpa using h)]
theorem milesOf_full {ps ds a b f t} (hcf : cityOf ps a = f) (hct : cityOf ps b = t) (h : (decide (f = []) || decide (t = [])) = false) : milesOf ps ds a b = milesV (aget (fixL ds f) t) := by
  subst hcf hct; unfold milesOf; rw [if_neg (by simpa using h)]
set_option maxHeartbeats 4000000 in
theorem miles_p : PureC Tryz.prog UT 17 (gOf aMi fMiles) := by
  have hG := tMi_ok
  refine PureC.ofArgs aMi_inj Tryz.func17 body17 nm17 res17 ?_
  rintro ⟨⟨ps, ds⟩, a, b⟩ hv
  refine ⟨by rw [nt17]; simp [aMi], fun C hN Q hQ => ?_⟩
  rw [nt17] at hN
  unfold c17
  obtain ⟨hl, hd⟩ : MOk ⟨ps, ds⟩ := hv
  dsimp only at hd
  generalize hcf : cityOf ps a = f
  generalize hct : cityOf ps b = t
  refine aw_seq (aw_region (EF := EFm) hG (by rw [hN]; exact tr17_0) ?_)
  simp only [a17_0, go_sem, simprocAttr, aMi, Places.enc, tMi, EFm]
  refine aw_seq (aw_regionD (EF := EFm) hG mixed (by rw [hN]; exact tr17_1) ok17_1 ?_)
  simp only [a17_1, d17_1, go_sem, simprocAttr, fCity_eq, hl, hcf, hct, tMi, EFm]
  (repeat' apply And.intro) <;> (try first | omega | ((fail_if_success refine idW ?_); (fail_if_success refine idS ?_); intros; (repeat' apply And.intro) <;> first | assumption | omega | (simp_all; done)))
  refine aw_seq ?_
  refine aw_seq (aw_region (EF := EFm) hG (by rw [hN]; exact tr17_2) ?_)
  simp only [a17_2, go_sem, simprocAttr, tMi, EFm]
  (repeat' apply And.intro) <;> (try first | omega | ((fail_if_success refine idW ?_); (fail_if_success refine idS ?_); intros; (repeat' apply And.intro) <;> first | assumption | omega | (simp_all; done)))
  refine aw_cond (b := _) rfl (fun hb2 => ?_) (fun hb2 => ?_)
  · skip
    refine aw_seq (aw_region (EF := EFm) hG (by rw [hN]; exact tr17_3) ?_)
    simp only [a17_3, go_sem, simprocAttr, tMi, EFm]
    refine aw_ret ?_
    show Q _ _
    refine hQ _ _ (.inl rfl) ?_ ?_ ?_ <;> simp only [outφ, outV, AR.res, go_sem, simprocAttr, fMiles]
    rw [milesOf_empty hcf hct hb2]
  · skip
    refine aw_skip ?_
    try simp only [go_sem, simprocAttr]
    refine aw_seq (aw_region (EF := EFm) hG (by rw [hN]; exact tr17_4) ?_)
    simp only [a17_4, go_sem, simprocAttr, mpO, putI_nil, tMi, EFm]
    (repeat' apply And.intro) <;> (try first | omega | ((fail_if_success refine idW ?_); (fail_if_success refine idS ?_); intros; (repeat' apply And.intro) <;> first | assumption | omega | (simp_all; done)))
    refine aw_seq (aw_region (EF := EFm) hG (by rw [hN]; exact tr17_5) ?_)
    simp only [a17_5, go_sem, simprocAttr, tMi, EFm]
    refine aw_seq ?_
    refine aw_seq (aw_region (EF := EFm) hG (by rw [hN]; exact tr17_6) ?_)
    simp only [a17_6, go_sem, simprocAttr, tMi, EFm]
    refine aw_block ?_
    refine aw_loop (α := (Assoc Int) × Bool × Nat) (fun γ => (InvL ds f γ.1) ∧ (γ.2.1 = true → mu (ends f ds) γ.1 < γ.2.2 ∧ fixL ds f = fixN ds γ.2.2 γ.1) ∧ (γ.2.1 = false → fixL ds f = γ.1)) (fun γ => ⟨mkE [(3, V.ptr 3 0), (9, V.str t), (10, V.ptr 10 0), (11, V.fn 36 [V.ptr 10 0]), (12, .bool γ.2.1)], mkH [(3, Ob.box 25 [V.list (List.map Airport.enc ps) false, V.list (List.map Distance.enc ds) false]), (10, Ob.box 95 [V.map 31]), (31, .mp (kmap fI8 γ.1))]⟩) (fun γ => γ.2.2) ([(f, 0)], true, mu (ends f ds) [(f, 0)] + 1) ⟨InvL.first ds f, fun _ => ⟨Nat.lt_succ_self _, rfl⟩, fun h => by cases h⟩ ?_ ?_
    · refine Le.mk _ _ ?_ ?_ rfl <;> simp only [go_sem, simprocAttr, putI_nil] <;> (repeat' apply And.intro) <;> (try first | rfl | exact wk_frzb rfl rfl rfl | exact wk_fn rfl | exact .nilo _ _ _ rfl rfl)
    · rintro ⟨L, more, m⟩ ⟨hI, hm, hs⟩ KL0 hKL0
      try dsimp only at *
      refine aw_seq ?_
      refine aw_seq (aw_region (EF := EFm) hG (by rw [hN]; exact tr17_7) ?_)
      simp only [a17_7, go_sem, simprocAttr, tMi, EFm]
      refine aw_cond (b := _) rfl (fun hb7 => ?_) (fun hb7 => ?_)
      · skip
        refine aw_skip ?_
        try simp only [go_sem, simprocAttr]
        refine aw_block ?_
        refine aw_seq (aw_region (EF := EFm) hG (by rw [hN]; exact tr17_8) ?_)
        simp only [a17_8, go_sem, simprocAttr, tMi, EFm]
        refine aw_seq (aw_region (EF := EFm) hG (by rw [hN]; exact tr17_9) ?_)
        simp only [a17_9, go_sem, simprocAttr, tMi, EFm]
        refine aw_block ?_
        refine aw_loop (α := Nat × (Assoc Int) × Bool) (fun γ => (γ.1 ≤ ds.length) ∧ (rnd ds L false = rnd (ds.drop γ.1) γ.2.1 γ.2.2) ∧ (InvL ds f γ.2.1)) (fun γ => ⟨mkE [(3, V.ptr 3 0), (9, V.str t), (10, V.ptr 10 0), (11, V.fn 36 [V.ptr 10 0]), (12, .bool γ.2.2), (37, V.list (List.map Distance.enc ds) false), (38, V.int IntKind.i64 ↑ds.length), (39, .int .i64 γ.1)], mkH [(3, Ob.box 25 [V.list (List.map Airport.enc ps) false, V.list (List.map Distance.enc ds) false]), (10, Ob.box 95 [V.map 31]), (31, .mp (kmap fI8 γ.2.1))]⟩) (fun γ => ds.length - γ.1) (0, L, false) ⟨Nat.zero_le _, by rw [List.drop_zero], hI⟩ ?_ ?_
        · refine Le.mk _ _ ?_ ?_ rfl <;> simp only [go_sem, simprocAttr] <;> (repeat' apply And.intro) <;> (try first | rfl | exact wk_frzb rfl rfl rfl | exact wk_fn rfl | exact .nilo _ _ _ rfl rfl)
        · rintro ⟨i, L2, b2⟩ ⟨hi, hr, hI2⟩ KL2 hKL2
          try dsimp only at *
          refine aw_seq (aw_region (EF := EFm) hG (by rw [hN]; exact tr17_10) ?_)
          simp only [a17_10, go_sem, simprocAttr, tMi, EFm]
          refine aw_seq ?_
          refine aw_cond (b := _) rfl (fun hc10 => ?_) (fun hc10 => ?_)
          · simp only [hcL] at hc10
            refine aw_skip ?_
            try simp only [go_sem, simprocAttr]
            refine aw_cut (α := (Assoc Int) × Bool) (fun γ => (rnd ds L false = rnd (ds.drop (i + 1)) γ.1 γ.2) ∧ (InvL ds f γ.1)) (fun γ => ⟨mkE [(3, V.ptr 3 0), (9, V.str t), (10, V.ptr 10 0), (11, V.fn 36 [V.ptr 10 0]), (12, .bool γ.2), (37, V.list (List.map Distance.enc ds) false), (38, V.int IntKind.i64 ↑ds.length), (39, V.int IntKind.i64 ↑i)], mkH [(3, Ob.box 25 [V.list (List.map Airport.enc ps) false, V.list (List.map Distance.enc ds) false]), (10, Ob.box 95 [V.map 31]), (31, .mp (kmap fI8 γ.1))]⟩) ?_ ?_
            · intro KCb3 hKCb3
              refine aw_block ?_
              refine aw_seq (aw_region (EF := EFm) hG (by rw [hN]; exact tr17_11) ?_)
              simp only [a17_11, go_sem, simprocAttr, getD_mapd _ _ _ _ hc10, hc10, Distance.enc, tMi, EFm]
              (repeat' apply And.intro) <;> (try first | omega | ((fail_if_success refine idW ?_); (fail_if_success refine idS ?_); intros; (repeat' apply And.intro) <;> first | assumption | omega | (simp_all; done)))
              refine aw_seq (aw_region (EF := EFm) hG (by rw [hN]; exact tr17_12) ?_)
              simp only [a17_12, go_sem, simprocAttr, fUsable_eq, tMi, EFm]
              (repeat' apply And.intro) <;> (try first | omega | ((fail_if_success refine idW ?_); (fail_if_success refine idS ?_); intros; (repeat' apply And.intro) <;> first | assumption | omega | (simp_all; done)))
              refine aw_cond (b := _) rfl (fun hb12 => ?_) (fun hb12 => ?_)
              · skip
                have hu := (usable_iff ds[i]).1 hb12
                have hmem := List.getElem_mem hc10
                have hs2 := relax_inv hI2 hd (edge_f hmem hb12)
                have hs3 := step_inv hI2 hd hmem hb12
                refine aw_seq (aw_region (EF := EFm) hG (by rw [hN]; exact tr17_13) ?_)
                simp only [a17_13, go_sem, simprocAttr, tMi, EFm]
                refine relax_use (relax_e L2 _ _ _ (hI2.big hd).2 ⟨by omega, by omega⟩) (by rfl) (by rfl) (by decide) ?_
                simp only [go_sem, simprocAttr, mpO]
                refine aw_seq (aw_region (EF := EFm) hG (by rw [hN]; exact tr17_14) ?_)
                simp only [a17_14, go_sem, simprocAttr, tMi, EFm]
                refine relax_use (relax_e _ _ _ _ (hs2.1.big hd).2 ⟨by omega, by omega⟩) (by rfl) (by rfl) (by decide) ?_
                simp only [go_sem, simprocAttr, mpO]
                refine aw_region (EF := EFm) hG (by rw [hN]; exact tr17_15) ?_
                simp only [a17_15, go_sem, simprocAttr, tMi, EFm]
                (repeat' apply And.intro) <;> (try first | omega | ((fail_if_success refine idW ?_); (fail_if_success refine idS ?_); intros; (repeat' apply And.intro) <;> first | assumption | omega | (simp_all; done)))
                refine hKCb3 ((stepP L2 ds[i].from' ds[i].to' ds[i].miles).1, (b2 || (stepP L2 ds[i].from' ds[i].to' ds[i].miles).2)) _ ?_ ?_
                · (try dsimp only); exact ⟨by rw [hr, rnd_yes hc10 hb12], hs3.1⟩
                · refine Le.mk _ _ ?_ ?_ rfl <;> simp only [go_sem, simprocAttr, stepP, mpO, Bool.or_assoc] <;> (repeat' apply And.intro) <;> (try first | rfl | exact wk_frzb rfl rfl rfl | exact wk_fn rfl | exact .nilo _ _ _ rfl rfl)
              · skip
                refine aw_skip ?_
                try simp only [go_sem, simprocAttr]
                refine hKCb3 (L2, b2) _ ?_ ?_
                · (try dsimp only); exact ⟨by rw [hr, rnd_no hc10 hb12], hI2⟩
                · refine Le.mk _ _ ?_ ?_ rfl <;> simp only [go_sem, simprocAttr] <;> (repeat' apply And.intro) <;> (try first | rfl | exact wk_frzb rfl rfl rfl | exact wk_fn rfl | exact .nilo _ _ _ rfl rfl)
            · rintro ⟨L3, b3⟩ ⟨hr3, hI3⟩
              try dsimp only at *
              refine aw_region (EF := EFm) hG (by rw [hN]; exact tr17_16) ?_
              simp only [a17_16, go_sem, simprocAttr, inI, tMi, EFm]
              (repeat' apply And.intro) <;> (try first | omega | ((fail_if_success refine idW ?_); (fail_if_success refine idS ?_); intros; (repeat' apply And.intro) <;> first | assumption | omega | (simp_all; done)))
              refine hKL2 (i + 1, L3, b3) _ ?_ ?_ ?_
              · (try dsimp only); exact ⟨hc10, hr3, hI3⟩
              · (try dsimp only); omega
              · refine Le.mk _ _ ?_ ?_ rfl <;> simp only [go_sem, simprocAttr] <;> (repeat' apply And.intro) <;> (try first | rfl | exact wk_frzb rfl rfl rfl | exact wk_fn rfl | exact .nilo _ _ _ rfl rfl)
          · simp only [hcL] at hc10
            rw [rnd_end hc10] at hr
            obtain ⟨hm1, hm2⟩ := hm hb7
            refine aw_exit ?_
            simp only [go_sem, simprocAttr]
            refine hKL0 (L2, b2, m - 1) _ ?_ ?_ ?_
            · (try dsimp only); exact ⟨hI2, fun h => (by obtain ⟨k, rfl, h1, h2⟩ := fix_more hd hI hm1 (by rw [hr]; exact h); rw [hr] at h1 h2; exact ⟨h1, hm2.trans h2⟩), fun h => (by rw [hm2, fix_stop hd hI hm1 (by rw [hr]; exact h), hr])⟩
            · (try dsimp only); omega
            · refine Le.mk _ _ ?_ ?_ rfl <;> simp only [go_sem, simprocAttr] <;> (repeat' apply And.intro) <;> (try first | rfl | exact wk_frzb rfl rfl rfl | exact wk_fn rfl | exact .nilo _ _ _ rfl rfl)
      · skip
        refine aw_exit ?_
        simp only [go_sem, simprocAttr]
        refine aw_seq (aw_region (EF := EFm) hG (by rw [hN]; exact tr17_17) ?_)
        simp only [a17_17, go_sem, simprocAttr, tMi, EFm]
        (repeat' apply And.intro) <;> (try first | omega | ((fail_if_success refine idW ?_); (fail_if_success refine idS ?_); intros; (repeat' apply And.intro) <;> first | assumption | omega | (simp_all; done)))
        refine aw_seq ?_
        refine aw_seq (aw_region (EF := EFm) hG (by rw [hN]; exact tr17_18) ?_)
        simp only [a17_18, go_sem, simprocAttr, tMi, EFm]
        refine aw_cond (b := _) rfl (fun hc18 => ?_) (fun hc18 => ?_)
        · simp only [hcL] at hc18
          refine aw_seq (aw_region (EF := EFm) hG (by rw [hN]; exact tr17_19) ?_)
          simp only [a17_19, go_sem, simprocAttr, tMi, EFm]
          refine aw_ret ?_
          show Q _ _
          refine hQ _ _ (.inl rfl) ?_ ?_ ?_ <;> simp only [outφ, outV, AR.res, go_sem, simprocAttr, fMiles]
          rw [milesOf_full hcf hct hb2, hs hb7, isSome_no hc18]; rfl
        · simp only [hcL] at hc18
          refine aw_skip ?_
          try simp only [go_sem, simprocAttr]
          refine aw_seq (aw_region (EF := EFm) hG (by rw [hN]; exact tr17_20) ?_)
          simp only [a17_20, go_sem, simprocAttr, tMi, EFm]
          refine aw_ret ?_
          show Q _ _
          refine hQ _ _ (.inl rfl) ?_ ?_ ?_ <;> simp only [outφ, outV, AR.res, go_sem, simprocAttr, fMiles]
          obtain ⟨v, hv2⟩ := Option.isSome_iff_exists.1 hc18; rw [milesOf_full hcf hct hb2, hs hb7, hv2]; rfl
end Go.Proofs.YtfjgnfgadkajnaaGreat
