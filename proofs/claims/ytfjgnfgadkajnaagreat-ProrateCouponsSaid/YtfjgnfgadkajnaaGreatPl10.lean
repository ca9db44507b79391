/- The reference's Check of places. -/
import Derived.Test.YtfjgnfgadkajnaaGreatPl9
namespace Go.Proofs.YtfjgnfgadkajnaaGreat
open Go Go.RowKit
set_option linter.unusedSimpArgs false
set_option linter.unusedVariables false
set_option linter.deprecated false
def sAir : List UInt8 := [97, 105, 114, 112, 111, 114, 116, 32]
def sDis : List UInt8 := [100, 105, 115, 116, 97, 110, 99, 101, 32]
def errF (path : List UInt8) (es : List Int) : List Fault := es.map fun e => ⟨e, path⟩
theorem errF_step (path : List UInt8) {es : List Int} {k : Nat} (h : k < es.length) : errF path (es.take (k + 1)) = errF path (es.take k) ++ [⟨es[k], path⟩] := by unfold errF; rw [take_succ' h, List.map_append]; rfl
def airTo (ps : List Airport) : Nat → List Fault
  | 0 => []
  | i + 1 => airTo ps i ++ errF (sAir ++ dec i) (airErrs ps i (ps.getD i Airport.zero))
def disTo (ps : List Airport) (ds : List Distance) : Nat → List Fault
  | 0 => []
  | i + 1 => disTo ps ds i ++ errF (sDis ++ dec i) (disErrs ps ds i (ds.getD i Distance.zero))
def chkF (p : Places) : List Fault := airTo p.airports p.airports.length ++ disTo p.airports p.distances p.distances.length
theorem iIf_len (b : Bool) (e : Int) : (iIf b e).length ≤ 1 := by unfold iIf; split <;> simp
theorem airErrs_len (ps i a) : (airErrs ps i a).length ≤ 4 := by
  unfold airErrs
  have a1 := iIf_len (!capsB 3 a.code || !capsB 3 a.city || !capsB 2 a.country) 5
  have a2 := iIf_len ((ps.take i).any (aTwice a)) 6
  have a3 := iIf_len ((ps.take i).any (aMoved a)) 8
  have a4 := iIf_len (!decide (zErr a.zone = 0)) (zErr a.zone)
  simp only [List.length_append]; omega
theorem disErrs_len (ps ds i d) : (disErrs ps ds i d).length ≤ 3 := by
  unfold disErrs
  have a1 := iIf_len (!(findBy (byCity d.from') ps).isSome || !(findBy (byCity d.to') ps).isSome) 14
  have a2 := iIf_len ((ds.take i).any (dTwice d)) 6
  have a3 := iIf_len (!usable d || decide (d.from' = d.to')) 2
  simp only [List.length_append]; omega
theorem fAir_eq (ps : List Airport) (ds : List Distance) (i : Nat) : gOf aPi fAir [.agg [.list (ps.map Airport.enc) false, .list (ds.map Distance.enc) false], .int .i64 (i : Int)] = (0 ≤ (i : Int) ∧ i < ps.length ∧ ps.length ≤ 1000000 ∧ (∀ a ∈ ps, a.ok), .list (ints (airErrs ps i (ps.getD i Airport.zero))) false) := gOf_eq aPi_inj (⟨ps, ds⟩, (i : Int))
theorem fDis_eq (ps : List Airport) (ds : List Distance) (i : Nat) : gOf aPi fDis [.agg [.list (ps.map Airport.enc) false, .list (ds.map Distance.enc) false], .int .i64 (i : Int)] = (LenP ⟨ps, ds⟩ ∧ 0 ≤ (i : Int) ∧ i < ds.length ∧ ds.length ≤ 1000000, .list (ints (disErrs ps ds i (ds.getD i Distance.zero))) false) := gOf_eq aPi_inj (⟨ps, ds⟩, (i : Int))
theorem fRDec_eq (n) : gRDec [.int .i64 n] = (inI n, .str (dec n)) := rfl
theorem inI_of {i : Nat} (h : i ≤ 1000000) : inI (i : Int) := ⟨by omega, by omega⟩
def Sm (p : Places) : Prop := p.airports.length ≤ 1000 ∧ p.distances.length ≤ 1000 ∧ ∀ a ∈ p.airports, a.ok
def fChk (p : Places) : Prop × V := (Sm p, .list (faults (chkF p)) false)
noncomputable def trCk : Tab
  | 19 => (gOf aPi fAir)
  | 21 => (gOf aPi fDis)
  | 20 => gRDec
  | _ => gNo
theorem trCk_ok : ∀ f, PureC Tryz.prog UT f (trCk f) := fun f => by
  unfold trCk
  split
  · exact rairErr_p
  · exact rdistance_p
  · exact rdecimal_p
  · exact PureC.no
set_option maxHeartbeats 4000000 in
theorem rcheck_p : PureC Tryz.prog UT 11 (gOf aP1 fChk) := by
  have hG := trCk_ok
  refine PureC.ofArgs aP1_inj Tryz.func11 body11 nm11 res11 ?_
  rintro ⟨ps, ds⟩ hv
  refine ⟨by rw [nt11]; simp [aP1], fun C hN Q hQ => ?_⟩
  rw [nt11] at hN
  unfold c11
  obtain ⟨hpl, hdl, hok⟩ : ps.length ≤ 1000 ∧ ds.length ≤ 1000 ∧ ∀ a ∈ ps, a.ok := hv
  have hlp : LenP ⟨ps, ds⟩ := ⟨by dsimp only; omega, by dsimp only; omega⟩
  have hpm : ps.length ≤ 1000000 := by omega
  have hdm : ds.length ≤ 1000000 := by omega
  refine aw_seq (aw_region (EF := EF0) hG (by rw [hN]; exact tr11_0) ?_)
  simp only [a11_0, go_sem, simprocAttr, aP1, Places.enc, trCk]
  refine aw_seq (aw_region (EF := EF0) hG (by rw [hN]; exact tr11_1) ?_)
  simp only [a11_1, go_sem, simprocAttr, trCk]
  refine aw_seq ?_
  refine aw_seq (aw_region (EF := EF0) hG (by rw [hN]; exact tr11_2) ?_)
  simp only [a11_2, go_sem, simprocAttr, trCk]
  refine aw_block ?_
  refine aw_loop (α := Nat × (List Fault)) (fun γ => (γ.1 ≤ ps.length) ∧ (γ.2 = airTo ps γ.1) ∧ (γ.2.length ≤ 4 * γ.1)) (fun γ => ⟨mkE [(1, V.ptr 1 0), (3, .own 999 γ.2.length), (4, .int .i64 γ.1)], mkH [(1, Ob.box 25 [V.list (List.map Airport.enc ps) false, V.list (List.map Distance.enc ds) false]), (999, .arr 76 2 (faults γ.2))]⟩) (fun γ => ps.length - γ.1) (0, []) ⟨Nat.zero_le _, rfl, Nat.le_refl _⟩ ?_ ?_
  · refine Le.mk _ _ ?_ ?_ rfl <;> simp only [go_sem, simprocAttr] <;> (repeat' apply And.intro) <;> (try first | rfl | exact wk_frzb rfl rfl rfl | exact wk_fn rfl | exact .nilo _ _ _ rfl rfl)
  · rintro ⟨i, g⟩ ⟨hi, hg, hgl⟩ KL0 hKL0
    try dsimp only at *
    refine aw_seq ?_
    refine aw_seq (aw_region (EF := EF0) hG (by rw [hN]; exact tr11_3) ?_)
    simp only [a11_3, go_sem, simprocAttr, trCk]
    refine aw_cond (b := _) rfl (fun hc3 => ?_) (fun hc3 => ?_)
    · simp only [hcL] at hc3
      refine aw_skip ?_
      try simp only [go_sem, simprocAttr]
      refine aw_seq ?_
      refine aw_block ?_
      have hd := dec_lenN (i := i) (by omega)
      have hi2 := inI_of (i := i) (by omega)
      have hi0 : (0 : Int) ≤ (i : Int) := by omega
      have e1 := fAir_eq ps ds i
      have hst : airTo ps (i + 1) = airTo ps i ++ errF (sAir ++ dec i) (airErrs ps i (ps.getD i Airport.zero)) := rfl
      have hel := airErrs_len ps i (ps.getD i Airport.zero)
      generalize airErrs ps i (ps.getD i Airport.zero) = es at e1 hst hel
      refine aw_seq (aw_region (EF := EF0) hG (by rw [hN]; exact tr11_5) ?_)
      simp only [a11_5, go_sem, simprocAttr, e1, hi0, hc3, hpm, hok, trCk]
      (repeat' apply And.intro) <;> (try first | omega | ((fail_if_success refine idW ?_); (fail_if_success refine idS ?_); intros; (repeat' apply And.intro) <;> first | assumption | omega | (simp_all; done)))
      refine aw_seq (aw_region (EF := EF0) hG (by rw [hN]; exact tr11_6) ?_)
      simp only [a11_6, go_sem, simprocAttr, trCk]
      refine aw_block ?_
      refine aw_loop (α := Nat × (List Fault)) (fun γ => (γ.1 ≤ es.length) ∧ (γ.2 = g ++ errF (sAir ++ dec i) (es.take γ.1)) ∧ (γ.2.length ≤ g.length + γ.1)) (fun γ => ⟨mkE [(1, V.ptr 1 0), (3, .own 999 γ.2.length), (4, V.int IntKind.i64 ↑i), (5, V.list (ints es) false), (6, .int .i64 γ.1)], mkH [(1, Ob.box 25 [V.list (List.map Airport.enc ps) false, V.list (List.map Distance.enc ds) false]), (999, .arr 76 2 (faults γ.2))]⟩) (fun γ => es.length - γ.1) (0, g) ⟨Nat.zero_le _, by simp [errF], Nat.le_refl _⟩ ?_ ?_
      · refine Le.mk _ _ ?_ ?_ rfl <;> simp only [go_sem, simprocAttr] <;> (repeat' apply And.intro) <;> (try first | rfl | exact wk_frzb rfl rfl rfl | exact wk_fn rfl | exact .nilo _ _ _ rfl rfl)
      · rintro ⟨k, f⟩ ⟨hk, hf, hfl⟩ KL2 hKL2
        try dsimp only at *
        refine aw_seq ?_
        refine aw_seq (aw_region (EF := EF0) hG (by rw [hN]; exact tr11_7) ?_)
        simp only [a11_7, go_sem, simprocAttr, trCk]
        refine aw_cond (b := _) rfl (fun hc7 => ?_) (fun hc7 => ?_)
        · simp only [hcL] at hc7
          refine aw_skip ?_
          try simp only [go_sem, simprocAttr]
          refine aw_seq ?_
          refine aw_block ?_
          refine aw_regionD (EF := EF0) hG mixed (by rw [hN]; exact tr11_9) ok11_9 ?_
          simp only [a11_9, d11_9, go_sem, simprocAttr, inI, ints_getD _ _ _ hc7, hc7, fRDec_eq, hi2, trCk]
          (repeat' apply And.intro) <;> (try first | omega | ((fail_if_success refine idW ?_); (fail_if_success refine idS ?_); intros; (repeat' apply And.intro) <;> first | assumption | omega | (simp_all; done)) | (simp only [List.length_append, List.length_cons, List.length_nil]; omega))
          refine aw_region (EF := EF0) hG (by rw [hN]; exact tr11_8) ?_
          simp only [a11_8, go_sem, simprocAttr, inI, trCk]
          (repeat' apply And.intro) <;> (try first | omega | ((fail_if_success refine idW ?_); (fail_if_success refine idS ?_); intros; (repeat' apply And.intro) <;> first | assumption | omega | (simp_all; done)))
          refine hKL2 (k + 1, f ++ [⟨es[k], sAir ++ dec i⟩]) _ ?_ ?_ ?_
          · (try dsimp only); refine ⟨hc7, ?_, by simp only [List.length_append, List.length_cons, List.length_nil]; omega⟩; rw [hf, errF_step _ hc7, List.append_assoc]
          · (try dsimp only); omega
          · refine Le.mk _ _ ?_ ?_ rfl <;> simp only [go_sem, simprocAttr, List.length_append, List.length_cons, List.length_nil] <;> (repeat' apply And.intro) <;> (try first | rfl | exact wk_frzb rfl rfl rfl | exact wk_fn rfl | exact .nilo _ _ _ rfl rfl)
        · simp only [hcL] at hc7
          refine aw_exit ?_
          simp only [go_sem, simprocAttr]
          refine aw_region (EF := EF0) hG (by rw [hN]; exact tr11_4) ?_
          simp only [a11_4, go_sem, simprocAttr, inI, trCk]
          (repeat' apply And.intro) <;> (try first | omega | ((fail_if_success refine idW ?_); (fail_if_success refine idS ?_); intros; (repeat' apply And.intro) <;> first | assumption | omega | (simp_all; done)))
          refine hKL0 (i + 1, f) _ ?_ ?_ ?_
          · (try dsimp only); refine ⟨hc3, ?_, by omega⟩; rw [hst, hf, hg, List.take_of_length_le hc7]
          · (try dsimp only); omega
          · refine Le.mk _ _ ?_ ?_ rfl <;> simp only [go_sem, simprocAttr] <;> (repeat' apply And.intro) <;> (try first | rfl | exact wk_frzb rfl rfl rfl | exact wk_fn rfl | exact .nilo _ _ _ rfl rfl)
    · simp only [hcL] at hc3
      refine aw_exit ?_
      simp only [go_sem, simprocAttr]
      refine aw_seq ?_
      refine aw_seq (aw_region (EF := EF0) hG (by rw [hN]; exact tr11_10) ?_)
      simp only [a11_10, go_sem, simprocAttr, trCk]
      refine aw_block ?_
      refine aw_loop (α := Nat × (List Fault)) (fun γ => (γ.1 ≤ ds.length) ∧ (γ.2 = g ++ disTo ps ds γ.1) ∧ (γ.2.length ≤ g.length + 3 * γ.1)) (fun γ => ⟨mkE [(1, V.ptr 1 0), (3, .own 999 γ.2.length), (7, .int .i64 γ.1)], mkH [(1, Ob.box 25 [V.list (List.map Airport.enc ps) false, V.list (List.map Distance.enc ds) false]), (999, .arr 76 2 (faults γ.2))]⟩) (fun γ => ds.length - γ.1) (0, g) ⟨Nat.zero_le _, by rw [disTo, List.append_nil], Nat.le_refl _⟩ ?_ ?_
      · refine Le.mk _ _ ?_ ?_ rfl <;> simp only [go_sem, simprocAttr] <;> (repeat' apply And.intro) <;> (try first | rfl | exact wk_frzb rfl rfl rfl | exact wk_fn rfl | exact .nilo _ _ _ rfl rfl)
      · rintro ⟨j, g2⟩ ⟨hj, hg2, hgl2⟩ KL4 hKL4
        try dsimp only at *
        refine aw_seq ?_
        refine aw_seq (aw_region (EF := EF0) hG (by rw [hN]; exact tr11_11) ?_)
        simp only [a11_11, go_sem, simprocAttr, trCk]
        refine aw_cond (b := _) rfl (fun hc11 => ?_) (fun hc11 => ?_)
        · simp only [hcL] at hc11
          refine aw_skip ?_
          try simp only [go_sem, simprocAttr]
          refine aw_seq ?_
          refine aw_block ?_
          have hd := dec_lenN (i := j) (by omega)
          have hi2 := inI_of (i := j) (by omega)
          have hj0 : (0 : Int) ≤ (j : Int) := by omega
          have e1 := fDis_eq ps ds j
          have hst : disTo ps ds (j + 1) = disTo ps ds j ++ errF (sDis ++ dec j) (disErrs ps ds j (ds.getD j Distance.zero)) := rfl
          have hel := disErrs_len ps ds j (ds.getD j Distance.zero)
          generalize disErrs ps ds j (ds.getD j Distance.zero) = es at e1 hst hel
          refine aw_seq (aw_region (EF := EF0) hG (by rw [hN]; exact tr11_13) ?_)
          simp only [a11_13, go_sem, simprocAttr, e1, hj0, hc11, hdm, hlp, trCk]
          (repeat' apply And.intro) <;> (try first | omega | ((fail_if_success refine idW ?_); (fail_if_success refine idS ?_); intros; (repeat' apply And.intro) <;> first | assumption | omega | (simp_all; done)))
          refine aw_seq (aw_region (EF := EF0) hG (by rw [hN]; exact tr11_14) ?_)
          simp only [a11_14, go_sem, simprocAttr, trCk]
          refine aw_block ?_
          refine aw_loop (α := Nat × (List Fault)) (fun γ => (γ.1 ≤ es.length) ∧ (γ.2 = g2 ++ errF (sDis ++ dec j) (es.take γ.1)) ∧ (γ.2.length ≤ g2.length + γ.1)) (fun γ => ⟨mkE [(1, V.ptr 1 0), (3, .own 999 γ.2.length), (7, V.int IntKind.i64 ↑j), (8, V.list (ints es) false), (9, .int .i64 γ.1)], mkH [(1, Ob.box 25 [V.list (List.map Airport.enc ps) false, V.list (List.map Distance.enc ds) false]), (999, .arr 76 2 (faults γ.2))]⟩) (fun γ => es.length - γ.1) (0, g2) ⟨Nat.zero_le _, by simp [errF], Nat.le_refl _⟩ ?_ ?_
          · refine Le.mk _ _ ?_ ?_ rfl <;> simp only [go_sem, simprocAttr] <;> (repeat' apply And.intro) <;> (try first | rfl | exact wk_frzb rfl rfl rfl | exact wk_fn rfl | exact .nilo _ _ _ rfl rfl)
          · rintro ⟨k, f⟩ ⟨hk, hf, hfl⟩ KL6 hKL6
            try dsimp only at *
            refine aw_seq ?_
            refine aw_seq (aw_region (EF := EF0) hG (by rw [hN]; exact tr11_15) ?_)
            simp only [a11_15, go_sem, simprocAttr, trCk]
            refine aw_cond (b := _) rfl (fun hc15 => ?_) (fun hc15 => ?_)
            · simp only [hcL] at hc15
              refine aw_skip ?_
              try simp only [go_sem, simprocAttr]
              refine aw_seq ?_
              refine aw_block ?_
              refine aw_regionD (EF := EF0) hG mixed (by rw [hN]; exact tr11_17) ok11_17 ?_
              simp only [a11_17, d11_17, go_sem, simprocAttr, inI, ints_getD _ _ _ hc15, hc15, fRDec_eq, hi2, trCk]
              (repeat' apply And.intro) <;> (try first | omega | ((fail_if_success refine idW ?_); (fail_if_success refine idS ?_); intros; (repeat' apply And.intro) <;> first | assumption | omega | (simp_all; done)) | (simp only [List.length_append, List.length_cons, List.length_nil]; omega))
              refine aw_region (EF := EF0) hG (by rw [hN]; exact tr11_16) ?_
              simp only [a11_16, go_sem, simprocAttr, inI, trCk]
              (repeat' apply And.intro) <;> (try first | omega | ((fail_if_success refine idW ?_); (fail_if_success refine idS ?_); intros; (repeat' apply And.intro) <;> first | assumption | omega | (simp_all; done)))
              refine hKL6 (k + 1, f ++ [⟨es[k], sDis ++ dec j⟩]) _ ?_ ?_ ?_
              · (try dsimp only); refine ⟨hc15, ?_, by simp only [List.length_append, List.length_cons, List.length_nil]; omega⟩; rw [hf, errF_step _ hc15, List.append_assoc]
              · (try dsimp only); omega
              · refine Le.mk _ _ ?_ ?_ rfl <;> simp only [go_sem, simprocAttr, List.length_append, List.length_cons, List.length_nil] <;> (repeat' apply And.intro) <;> (try first | rfl | exact wk_frzb rfl rfl rfl | exact wk_fn rfl | exact .nilo _ _ _ rfl rfl)
            · simp only [hcL] at hc15
              refine aw_exit ?_
              simp only [go_sem, simprocAttr]
              refine aw_region (EF := EF0) hG (by rw [hN]; exact tr11_12) ?_
              simp only [a11_12, go_sem, simprocAttr, inI, trCk]
              (repeat' apply And.intro) <;> (try first | omega | ((fail_if_success refine idW ?_); (fail_if_success refine idS ?_); intros; (repeat' apply And.intro) <;> first | assumption | omega | (simp_all; done)))
              refine hKL4 (j + 1, f) _ ?_ ?_ ?_
              · (try dsimp only); refine ⟨hc11, ?_, by omega⟩; rw [hst, hf, hg2, List.take_of_length_le hc15, List.append_assoc]
              · (try dsimp only); omega
              · refine Le.mk _ _ ?_ ?_ rfl <;> simp only [go_sem, simprocAttr] <;> (repeat' apply And.intro) <;> (try first | rfl | exact wk_frzb rfl rfl rfl | exact wk_fn rfl | exact .nilo _ _ _ rfl rfl)
        · simp only [hcL] at hc11
          refine aw_exit ?_
          simp only [go_sem, simprocAttr]
          refine aw_seq (aw_region (EF := EF0) hG (by rw [hN]; exact tr11_18) ?_)
          simp only [a11_18, go_sem, simprocAttr, trCk]
          refine AW.le (s' := ⟨mkE [(2, .list (faults g2) false)], mkH []⟩) (Le.mk _ _ ?_ ?_ rfl) (aw_ret (hQ _ _ (.inl rfl) ?_ ?_ ?_)) <;> simp only [outφ, outV, AR.res, go_sem, simprocAttr, fChk, chkF]
          · exact wk_frz rfl (by rw [faults_len]) rfl (faults_pur _)
          · rw [hg2, hg, Nat.le_antisymm hi hc3, Nat.le_antisymm hj hc11]
end Go.Proofs.YtfjgnfgadkajnaaGreat
