/- The reference's classes, cabins and Check. -/
import Derived.Test.YtopafipomaiabaaDoorCa5
namespace Go.Proofs.YtopafipomaiabaaDoor
open Go Go.RowKit
set_option linter.unusedSimpArgs false
set_option linter.unusedVariables false
set_option linter.deprecated false
theorem clsOne_len (y : Cabin) (path : List UInt8) (prev : List (List UInt8)) (k : Nat) : (clsOne y path prev k).length ≤ 3 := by
  unfold clsOne
  simp only [List.length_append]
  have := fIf_len (!classB (y.cl.getD k zClass).code) 16 (at1 path sClass k)
  have := fIf_len (seen (prev ++ codes (y.cl.take k)) (y.cl.getD k zClass).code) 6 (at1 path sClass k)
  have := fIf_len (protBad y k) 2 (at1 path sClass k)
  omega
theorem clsTo_len (y : Cabin) (path : List UInt8) (prev : List (List UInt8)) (k : Nat) : (clsTo y path prev k).length ≤ 3 * k := by
  induction k with
  | zero => simp [clsTo]
  | succ k ih => rw [clsTo, List.length_append]; have := clsOne_len y path prev k; omega
theorem fPl_eq (p w : List UInt8) (i : Nat) : gOf aPl fPl [.str p, .str w, .int .i64 i] = (p.length ≤ 1000000 ∧ w.length ≤ 1000000 ∧ i ≤ 1000000, .str (at1 p w i)) := gOf_eq aPl_inj (p, w, i)
theorem fOcc_eq (q : List UInt8) (l : List Cabin) (c k : Nat) : gOf aOcc fOcc [.agg [.str q, .list (l.map Cabin.enc) false], .int .i64 c, .int .i64 k] = (Config.ok ⟨q, l⟩ ∧ c < l.length ∧ k < (l.getD c zCabin).cl.length, .bool (occ l c k)) := gOf_eq aOcc_inj ((⟨q, l⟩, c, k) : Config × Nat × Nat)
theorem fInR_eq (nm : List UInt8) (se ov : Int) (cl : List Class) : gOf aCab fInR [.agg [.str nm, .int .i64 se, .int .i64 ov, .list (cl.map Class.enc) false]] = (True, .bool (inR ⟨nm, se, ov, cl⟩)) := gOf_eq aCab_inj (⟨nm, se, ov, cl⟩ : Cabin)
/-- Small enough to be looked at. -/
def smallY (y : Cabin) : Prop := y.cl.length ≤ 1000
def aCls (x : Config × Nat × List UInt8) : List V := [.agg x.1.enc, .int .i64 x.2.1, .str x.2.2]
theorem aCls_inj (a b : Config × Nat × List UInt8) (h : aCls a = aCls b) : a = b := by
  obtain ⟨a1, a2, a3⟩ := a; obtain ⟨b1, b2, b3⟩ := b
  simp only [aCls, List.cons.injEq, V.agg.injEq, V.int.injEq, V.str.injEq, and_true, true_and] at h
  obtain ⟨h1, h2, rfl⟩ := h
  rw [Config.inj _ _ h1, show a2 = b2 by omega]
def fCls (x : Config × Nat × List UInt8) : Prop × V := (x.1.ok ∧ x.2.1 < x.1.cabs.length ∧ (x.1.cabs.getD x.2.1 zCabin).cl.length ≤ 1000 ∧ x.2.2.length ≤ 100000,
  .list (faults (let y := x.1.cabs.getD x.2.1 zCabin; clsTo y x.2.2 (prevCodes x.1.cabs x.2.1) y.cl.length)) false)
theorem inR_auth {y : Cabin} (h : inR y = true) : inI (auth y) := by
  simp only [inR, Bool.and_eq_true, decide_eq_true_eq] at h
  unfold auth inI; omega
def stCls (q : List UInt8) (l : List Cabin) (c : Nat) (path nm : List UInt8) (se ov : Int) (cl : List Class) (i : Nat) (pos : List UInt8) (z : Class) (g : List Fault) : St :=
  ⟨mkE [(1, .int .i64 c), (2, .str path), (3, .ptr 3 0), (7, .own 40 g.length), (8, .ptr 8 0), (9, .int .i64 i), (10, .str pos), (11, .ptr 11 0)], mkH [(3, .box 30 [.str q, .list (l.map Cabin.enc) false]), (8, .box 38 [.str nm, .int .i64 se, .int .i64 ov, .list (cl.map Class.enc) false]), (11, .box 40 [.str z.code, .int .i64 z.prot]), (40, .arr 51 2 (faults g))]⟩
noncomputable def trCls : Tab
  | 29 => (gOf aPl fPl)
  | 45 => gClass
  | 46 => (gOf aOcc fOcc)
  | 41 => (gOf aCab fInR)
  | 20 => (gOf aCab fAuth)
  | _ => gNo
theorem trCls_ok : ∀ f, PureC Tryd.prog UT f (trCls f) := fun f => by
  unfold trCls
  split
  · exact rpl_p
  · exact rclass_p
  · exact rocc_p
  · exact inRange_p
  · exact rauth_p
  · exact PureC.no
set_option maxHeartbeats 2000000 in
theorem rcls_p : PureC Tryd.prog UT 42 (gOf aCls fCls) := by
  have hG := trCls_ok
  refine PureC.ofArgs aCls_inj Tryd.func42 body42 nm42 res42 ?_
  rintro ⟨⟨q, l⟩, c, path⟩ hv
  refine ⟨by rw [nt42]; simp [aCls], fun C hN Q hQ => ?_⟩
  rw [nt42] at hN
  unfold c42
  obtain ⟨hok, hc, hcl, hpa⟩ : Config.ok ⟨q, l⟩ ∧ c < l.length ∧ (l.getD c zCabin).cl.length ≤ 1000 ∧ path.length ≤ 100000 := hv
  have hy := hok.2.2 _ (List.getElem_mem hc)
  have eR : fCls (⟨q, l⟩, c, path) = (Config.ok ⟨q, l⟩ ∧ c < l.length ∧ (l.getD c zCabin).cl.length ≤ 1000 ∧ path.length ≤ 100000, .list (faults (clsTo (l.getD c zCabin) path (prevCodes l c) (l.getD c zCabin).cl.length)) false) := rfl
  have hocc : ∀ k, occ l c k = seen (prevCodes l c ++ codes ((l.getD c zCabin).cl.take k)) ((l.getD c zCabin).cl.getD k zClass).code := fun k => rfl
  have hF := fOcc_eq q l c
  rw [getD_lt _ _ _ hc] at hcl eR hF
  simp only [getD_lt _ _ _ hc] at hocc
  generalize prevCodes l c = prev at eR hocc
  generalize hyy : l[c] = y at hcl eR hF hocc hy
  obtain ⟨nm, se, ov, cl⟩ := y
  dsimp only at hcl eR hF hocc
  refine aw_seq (aw_region (EF := EF0) hG (by rw [hN]; exact tr42_0) ?_)
  simp only [a42_0, go_sem, ↓reduceIte, Nat.reduceEqDiff, reduceCtorEq, Nat.reduceAdd, Nat.reduceLT, Nat.reduceLeDiff, Nat.reduceBNe, Nat.reduceBEq, Int.reduceToNat, aCls, Config.enc]
  refine aw_seq (aw_region (EF := EF0) hG (by rw [hN]; exact tr42_1) ?_)
  simp only [a42_1, go_sem, ↓reduceIte, Nat.reduceEqDiff, reduceCtorEq, Nat.reduceAdd, Nat.reduceLT, Nat.reduceLeDiff, Nat.reduceBNe, Nat.reduceBEq, Int.reduceToNat]
  refine aw_seq (aw_region (EF := EF0) hG (by rw [hN]; exact tr42_2) ?_)
  simp only [a42_2, go_sem, ↓reduceIte, Nat.reduceEqDiff, reduceCtorEq, Nat.reduceAdd, Nat.reduceLT, Nat.reduceLeDiff, Nat.reduceBNe, Nat.reduceBEq, Int.reduceToNat, getD_map _ _ _ hc, hc, hyy, Cabin.enc]
  refine aw_seq ?_
  refine aw_seq ?_
  refine aw_region (EF := EF0) hG (by rw [hN]; exact tr42_3) ?_
  simp only [a42_3, go_sem, ↓reduceIte, Nat.reduceEqDiff, reduceCtorEq, Nat.reduceAdd, Nat.reduceLT, Nat.reduceLeDiff, Nat.reduceBNe, Nat.reduceBEq, Int.reduceToNat]
  refine aw_block ?_
  refine aw_loop (α := Nat) (fun i => i ≤ cl.length) (fun i => ⟨mkE [(1, .int .i64 c), (2, .str path), (3, .ptr 3 0), (7, .own 40 (clsTo ⟨nm, se, ov, cl⟩ path prev i).length), (8, .ptr 8 0), (9, .int .i64 i)], mkH [(3, .box 30 [.str q, .list (l.map Cabin.enc) false]), (8, .box 38 [.str nm, .int .i64 se, .int .i64 ov, .list (cl.map Class.enc) false]), (40, .arr 51 2 (faults (clsTo ⟨nm, se, ov, cl⟩ path prev i)))]⟩) (fun i => cl.length - i) 0 (Nat.zero_le _) ?_ ?_
  · refine Le.mk _ _ ?_ ?_ rfl <;> simp only [go_sem, ↓reduceIte, Nat.reduceEqDiff, reduceCtorEq, Nat.reduceAdd, Nat.reduceLT, Nat.reduceLeDiff, Nat.reduceBNe, Nat.reduceBEq, Int.reduceToNat]
    · exact .nilo 40 51 2 rfl rfl
    · rfl
  · rintro i hi K hK
    refine aw_seq ?_
    refine aw_seq ?_
    refine aw_region (EF := EF0) hG (by rw [hN]; exact tr42_4) ?_
    simp only [a42_4, go_sem, ↓reduceIte, Nat.reduceEqDiff, reduceCtorEq, Nat.reduceAdd, Nat.reduceLT, Nat.reduceLeDiff, Nat.reduceBNe, Nat.reduceBEq, Int.reduceToNat]
    refine aw_cond (b := _) rfl (fun hci => ?_) (fun hci => ?_)
    · simp only [decide_eq_true_eq, decide_eq_false_iff_not, Bool.and_eq_true, Bool.or_eq_true, Bool.not_eq_true', Bool.not_eq_false', Bool.and_eq_false_iff, Bool.or_eq_false_iff, Int.ofNat_lt, Int.ofNat_le, Nat.not_lt, Nat.not_le, Int.not_lt, Int.not_le] at hci
      have hz := hy.2.2.2.2 _ (List.getElem_mem hci)
      have hat := at1_len path sClass (i := i) (by omega)
      have hlen := clsTo_len ⟨nm, se, ov, cl⟩ path prev i
      have hstep : clsTo ⟨nm, se, ov, cl⟩ path prev (i + 1) = clsTo ⟨nm, se, ov, cl⟩ path prev i ++ (fIf (!classB cl[i].code) 16 (at1 path sClass i) ++ fIf (seen (prev ++ codes (cl.take i)) cl[i].code) 6 (at1 path sClass i) ++ fIf (protBad ⟨nm, se, ov, cl⟩ i) 2 (at1 path sClass i)) := by
        rw [clsTo, clsOne]; simp only [getD_lt _ _ _ hci]
      have ho := hocc i
      rw [getD_lt _ _ _ hci] at ho
      generalize clsTo ⟨nm, se, ov, cl⟩ path prev i = fl at hlen hstep
      have hw : sClass.length = 5 := rfl
      refine aw_skip ?_
      simp only [go_sem, ↓reduceIte, Nat.reduceEqDiff, reduceCtorEq, Nat.reduceAdd, Nat.reduceLT, Nat.reduceLeDiff, Nat.reduceBNe, Nat.reduceBEq, Int.reduceToNat]
      refine aw_seq ?_
      refine aw_block ?_
      refine aw_seq (aw_regionD (EF := EF0) hG mixed (by rw [hN]; exact tr42_6) ok42_6 ?_)
      simp only [a42_6, d42_6, go_sem, ↓reduceIte, Nat.reduceEqDiff, reduceCtorEq, Nat.reduceAdd, Nat.reduceLT, Nat.reduceLeDiff, Nat.reduceBNe, Nat.reduceBEq, Int.reduceToNat, trCls, fPl_eq, getD_map _ _ _ hci, hci, Class.enc, (show [99, 108, 97, 115, 115] = sClass from rfl)]
      (repeat' apply And.intro) <;> (try first | omega)
      generalize at1 path sClass i = pos at hat hstep
      refine aw_cut (α := List Fault) (fun g => g = fl ++ fIf (!classB cl[i].code) 16 pos) (fun g => stCls q l c path nm se ov cl i pos cl[i] g) ?_ ?_
      · intro K2 hK2
        refine aw_seq (aw_region (EF := EF0) hG (by rw [hN]; exact tr42_7) ?_)
        simp only [a42_7, go_sem, ↓reduceIte, Nat.reduceEqDiff, reduceCtorEq, Nat.reduceAdd, Nat.reduceLT, Nat.reduceLeDiff, Nat.reduceBNe, Nat.reduceBEq, Int.reduceToNat, trCls, gClass, hz.1]
        refine aw_cond (b := _) rfl (fun hb => ?_) (fun hb => ?_)
        · refine aw_region (EF := EF0) hG (by rw [hN]; exact tr42_8) ?_
          simp only [a42_8, go_sem, ↓reduceIte, Nat.reduceEqDiff, reduceCtorEq, Nat.reduceAdd, Nat.reduceLT, Nat.reduceLeDiff, Nat.reduceBNe, Nat.reduceBEq, Int.reduceToNat]
          (repeat' apply And.intro) <;> (try first | omega)
          refine hK2 _ _ rfl ?_
          refine Le.mk _ _ ?_ ?_ rfl <;> simp only [go_sem, ↓reduceIte, Nat.reduceEqDiff, reduceCtorEq, Nat.reduceAdd, Nat.reduceLT, Nat.reduceLeDiff, Nat.reduceBNe, Nat.reduceBEq, Int.reduceToNat, fIf_t hb, List.length_append]
        · refine aw_skip ?_
          simp only [go_sem, ↓reduceIte, Nat.reduceEqDiff, reduceCtorEq, Nat.reduceAdd, Nat.reduceLT, Nat.reduceLeDiff, Nat.reduceBNe, Nat.reduceBEq, Int.reduceToNat]
          refine hK2 _ _ rfl ?_
          refine Le.mk _ _ ?_ ?_ rfl <;> simp only [go_sem, ↓reduceIte, Nat.reduceEqDiff, reduceCtorEq, Nat.reduceAdd, Nat.reduceLT, Nat.reduceLeDiff, Nat.reduceBNe, Nat.reduceBEq, Int.reduceToNat, fIf_f hb, List.append_nil]
      rintro fl1 h1
      have l1 : fl1.length ≤ fl.length + 1 := by have := fIf_len (!classB cl[i].code) 16 pos; rw [h1, List.length_append]; omega
      refine aw_cut (α := List Fault) (fun g => g = fl1 ++ fIf (seen (prev ++ codes (cl.take i)) cl[i].code) 6 pos) (fun g => stCls q l c path nm se ov cl i pos cl[i] g) ?_ ?_
      · intro K2 hK2
        refine aw_seq (aw_region (EF := EF0) hG (by rw [hN]; exact tr42_9) ?_)
        simp only [a42_9, go_sem, ↓reduceIte, Nat.reduceEqDiff, reduceCtorEq, Nat.reduceAdd, Nat.reduceLT, Nat.reduceLeDiff, Nat.reduceBNe, Nat.reduceBEq, Int.reduceToNat, stCls, trCls, hF, hok, hc, hci, ho]
        refine aw_cond (b := _) rfl (fun hb => ?_) (fun hb => ?_)
        · refine aw_region (EF := EF0) hG (by rw [hN]; exact tr42_10) ?_
          simp only [a42_10, go_sem, ↓reduceIte, Nat.reduceEqDiff, reduceCtorEq, Nat.reduceAdd, Nat.reduceLT, Nat.reduceLeDiff, Nat.reduceBNe, Nat.reduceBEq, Int.reduceToNat]
          (repeat' apply And.intro) <;> (try first | omega)
          refine hK2 _ _ rfl ?_
          refine Le.mk _ _ ?_ ?_ rfl <;> simp only [go_sem, ↓reduceIte, Nat.reduceEqDiff, reduceCtorEq, Nat.reduceAdd, Nat.reduceLT, Nat.reduceLeDiff, Nat.reduceBNe, Nat.reduceBEq, Int.reduceToNat, fIf_t hb, List.length_append]
        · refine aw_skip ?_
          simp only [go_sem, ↓reduceIte, Nat.reduceEqDiff, reduceCtorEq, Nat.reduceAdd, Nat.reduceLT, Nat.reduceLeDiff, Nat.reduceBNe, Nat.reduceBEq, Int.reduceToNat]
          refine hK2 _ _ rfl ?_
          refine Le.mk _ _ ?_ ?_ rfl <;> simp only [go_sem, ↓reduceIte, Nat.reduceEqDiff, reduceCtorEq, Nat.reduceAdd, Nat.reduceLT, Nat.reduceLeDiff, Nat.reduceBNe, Nat.reduceBEq, Int.reduceToNat, fIf_f hb, List.append_nil]
      rintro fl2 h2
      have l2 : fl2.length ≤ fl1.length + 1 := by have := fIf_len (seen (prev ++ codes (cl.take i)) cl[i].code) 6 pos; rw [h2, List.length_append]; omega
      have hi1 : i - 1 < cl.length := by omega
      have e1 : ((i : Int) - 1).toNat = i - 1 := by omega
      have e2 : inI ((i : Int) - 1) := ⟨by omega, by omega⟩
      have hau : inR ⟨nm, se, ov, cl⟩ = true → inI (se + ov) := inR_auth
      refine aw_seq (aw_regionD (EF := EF0) hG mixed (by rw [hN]; exact tr42_11) ok42_11 ?_)
      simp only [a42_11, d42_11, go_sem, ↓reduceIte, Nat.reduceEqDiff, reduceCtorEq, Nat.reduceAdd, Nat.reduceLT, Nat.reduceLeDiff, Nat.reduceBNe, Nat.reduceBEq, Int.reduceToNat, stCls, trCls, fInR_eq, fAuth_eq, e1, e2, getD_map _ _ _ hi1, hi1, Class.enc]
      (repeat' apply And.intro) <;> (try first | omega | (intro h; simp_all; done) | (intro h; simp_all; omega))
      have hpb : protBad ⟨nm, se, ov, cl⟩ i = (decide (cl[i].prot < 0) || decide (0 < i) && decide (cl[i].prot < cl[i - 1].prot) || inR ⟨nm, se, ov, cl⟩ && decide (se + ov < cl[i].prot)) := by
        unfold protBad auth; simp only [getD_lt _ _ _ hci, getD_lt _ _ _ hi1]
      have hcast : decide (0 < (i : Int)) = decide (0 < i) := by simp
      rw [hcast]
      refine aw_cond (b := _) rfl (fun hb => ?_) (fun hb => ?_)
      · rw [← hpb] at hb
        have hf : clsTo ⟨nm, se, ov, cl⟩ path prev (i + 1) = fl2 ++ [⟨2, pos⟩] := by rw [hstep, h2, h1, fIf_t hb]; simp
        refine aw_region (EF := EF0) hG (by rw [hN]; exact tr42_12) ?_
        simp only [a42_12, go_sem, ↓reduceIte, Nat.reduceEqDiff, reduceCtorEq, Nat.reduceAdd, Nat.reduceLT, Nat.reduceLeDiff, Nat.reduceBNe, Nat.reduceBEq, Int.reduceToNat]
        (repeat' apply And.intro) <;> (try first | omega)
        refine aw_region (EF := EF0) hG (by rw [hN]; exact tr42_5) ?_
        simp only [a42_5, go_sem, ↓reduceIte, Nat.reduceEqDiff, reduceCtorEq, Nat.reduceAdd, Nat.reduceLT, Nat.reduceLeDiff, Nat.reduceBNe, Nat.reduceBEq, Int.reduceToNat, inI]
        (repeat' apply And.intro) <;> (try first | omega)
        refine hK (i + 1) _ ?_ ?_ ?_
        · omega
        · omega
        · refine Le.mk _ _ ?_ ?_ rfl <;> simp only [go_sem, ↓reduceIte, Nat.reduceEqDiff, reduceCtorEq, Nat.reduceAdd, Nat.reduceLT, Nat.reduceLeDiff, Nat.reduceBNe, Nat.reduceBEq, Int.reduceToNat, hf, List.length_append]
      · rw [← hpb] at hb
        have hf : clsTo ⟨nm, se, ov, cl⟩ path prev (i + 1) = fl2 := by rw [hstep, h2, h1, fIf_f hb]; simp
        refine aw_skip ?_
        simp only [go_sem, ↓reduceIte, Nat.reduceEqDiff, reduceCtorEq, Nat.reduceAdd, Nat.reduceLT, Nat.reduceLeDiff, Nat.reduceBNe, Nat.reduceBEq, Int.reduceToNat]
        refine aw_region (EF := EF0) hG (by rw [hN]; exact tr42_5) ?_
        simp only [a42_5, go_sem, ↓reduceIte, Nat.reduceEqDiff, reduceCtorEq, Nat.reduceAdd, Nat.reduceLT, Nat.reduceLeDiff, Nat.reduceBNe, Nat.reduceBEq, Int.reduceToNat, inI]
        (repeat' apply And.intro) <;> (try first | omega)
        refine hK (i + 1) _ ?_ ?_ ?_
        · omega
        · omega
        · refine Le.mk _ _ ?_ ?_ rfl <;> simp only [go_sem, ↓reduceIte, Nat.reduceEqDiff, reduceCtorEq, Nat.reduceAdd, Nat.reduceLT, Nat.reduceLeDiff, Nat.reduceBNe, Nat.reduceBEq, Int.reduceToNat, hf, List.length_append]
    · simp only [decide_eq_true_eq, decide_eq_false_iff_not, Bool.and_eq_true, Bool.or_eq_true, Bool.not_eq_true', Bool.not_eq_false', Bool.and_eq_false_iff, Bool.or_eq_false_iff, Int.ofNat_lt, Int.ofNat_le, Nat.not_lt, Nat.not_le, Int.not_lt, Int.not_le] at hci
      refine aw_exit ?_
      simp only [go_sem, ↓reduceIte, Nat.reduceEqDiff, reduceCtorEq, Nat.reduceAdd, Nat.reduceLT, Nat.reduceLeDiff, Nat.reduceBNe, Nat.reduceBEq, Int.reduceToNat]
      refine aw_seq (aw_region (EF := EF0) hG (by rw [hN]; exact tr42_13) ?_)
      simp only [a42_13, go_sem, ↓reduceIte, Nat.reduceEqDiff, reduceCtorEq, Nat.reduceAdd, Nat.reduceLT, Nat.reduceLeDiff, Nat.reduceBNe, Nat.reduceBEq, Int.reduceToNat]
      have hie : i = cl.length := by omega
      subst hie
      refine AW.le (s' := ⟨mkE [(6, .list (faults (clsTo ⟨nm, se, ov, cl⟩ path prev cl.length)) false)], mkH []⟩) (Le.mk _ _ ?_ ?_ rfl) (aw_ret (hQ _ _ (.inl rfl) ?_ ?_ ?_)) <;> simp only [outφ, outV, AR.res, go_sem, ↓reduceIte, Nat.reduceEqDiff, reduceCtorEq, Nat.reduceAdd, Nat.reduceLT, Nat.reduceLeDiff, Nat.reduceBNe, Nat.reduceBEq, Int.reduceToNat, eR]
      exact wk_frz rfl (by rw [faults_len]) rfl (faults_pur _)
end Go.Proofs.YtopafipomaiabaaDoor
