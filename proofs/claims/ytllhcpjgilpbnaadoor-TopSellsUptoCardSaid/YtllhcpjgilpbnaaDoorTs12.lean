import Derived.Test.YtllhcpjgilpbnaaDoorCa5
import Derived.Test.YtllhcpjgilpbnaaDoorTs11
namespace Go.Proofs.YtllhcpjgilpbnaaDoor
open Go Go.RowKit
set_option linter.unusedSimpArgs false
set_option linter.unusedVariables false
set_option linter.deprecated false
theorem clsOne_len (y : Cabin) (path : List UInt8) (prev : List (List UInt8)) (k : Nat) : (clsOne y path prev k).length ≤ 3 := by
  unfold clsOne
  simp only [List.length_append]
  have := fIf_len (!classB (y.cl.getD k zClass).code) 16 (at1 path sClass k)
  have := fIf_len (seen (prev ++ codes (y.cl.take k)) (y.cl.getD k zClass).code) 6 (at1 path sClass k)
  have := fIf_len (protBad y k) 2 (at1 path sClass k)
  omega
theorem clsTo_len (y : Cabin) (path : List UInt8) (prev : List (List UInt8)) (k : Nat) : (clsTo y path prev k).length ≤ 3 * k := by
  induction k with
  | zero => simp [clsTo]
  | succ k ih => rw [clsTo, List.length_append]; have := clsOne_len y path prev k; omega
theorem fPl_eq (p w : List UInt8) (i : Nat) : gOf aPl fPl [.str p, .str w, .int .i64 i] = (p.length ≤ 1000000 ∧ w.length ≤ 1000000 ∧ i ≤ 1000000, .str (at1 p w i)) := gOf_eq aPl_inj (p, w, i)
theorem fOcc_eq (q : List UInt8) (l : List Cabin) (c k : Nat) : gOf aOcc fOcc [.agg [.str q, .list (l.map Cabin.enc) false], .int .i64 c, .int .i64 k] = (Config.ok ⟨q, l⟩ ∧ c < l.length ∧ k < (l.getD c zCabin).cl.length, .bool (occ l c k)) := gOf_eq aOcc_inj ((⟨q, l⟩, c, k) : Config × Nat × Nat)
theorem fInR_eq (nm : List UInt8) (se ov : Int) (cl : List Class) : gOf aCab fInR [.agg [.str nm, .int .i64 se, .int .i64 ov, .list (cl.map Class.enc) false]] = (True, .bool (inR ⟨nm, se, ov, cl⟩)) := gOf_eq aCab_inj (⟨nm, se, ov, cl⟩ : Cabin)
def aCls (x : Config × Nat × List UInt8) : List V := [.agg x.1.enc, .int .i64 x.2.1, .str x.2.2]
theorem aCls_inj (a b : Config × Nat × List UInt8) (h : aCls a = aCls b) : a = b := by
  obtain ⟨a1, a2, a3⟩ := a; obtain ⟨b1, b2, b3⟩ := b
  simp only [aCls, List.cons.injEq, V.agg.injEq, V.int.injEq, V.str.injEq, and_true, true_and] at h
  obtain ⟨h1, h2, rfl⟩ := h
  rw [Config.inj _ _ h1, show a2 = b2 by omega]
def fCls (x : Config × Nat × List UInt8) : Prop × V := (x.1.ok ∧ x.2.1 < x.1.cabs.length ∧ (x.1.cabs.getD x.2.1 zCabin).cl.length ≤ 600000 ∧ x.2.2.length ≤ 100000,
  .list (faults (let y := x.1.cabs.getD x.2.1 zCabin; clsTo y x.2.2 (prevCodes x.1.cabs x.2.1) y.cl.length)) false)
theorem inR_auth {y : Cabin} (h : inR y = true) : inI (auth y) := by
  simp only [inR, Bool.and_eq_true, decide_eq_true_eq] at h
  unfold auth inI; omega
def stCls (q : List UInt8) (l : List Cabin) (c : Nat) (path nm : List UInt8) (se ov : Int) (cl : List Class) (i : Nat) (pos : List UInt8) (z : Class) (g : List Fault) : St :=
  ⟨mkE [(1, .int .i64 c), (2, .str path), (3, .ptr 3 0), (7, .own 40 g.length), (8, .ptr 8 0), (9, .int .i64 i), (10, .str pos), (11, .ptr 11 0)], mkH [(3, .box 48 [.str q, .list (l.map Cabin.enc) false]), (8, .box 89 [.str nm, .int .i64 se, .int .i64 ov, .list (cl.map Class.enc) false]), (11, .box 105 [.str z.code, .int .i64 z.prot]), (40, .arr 51 2 (faults g))]⟩
noncomputable def trCls : Tab
  | 13 => (gOf aPl fPl)
  | 50 => gClass
  | 51 => (gOf aOcc fOcc)
  | 34 => (gOf aCab fInR)
  | 52 => (gOf aCab fAuth)
  | _ => gNo
theorem trCls_ok : ∀ f, PureC Tryd.prog UT f (trCls f) := fun f => by
  unfold trCls
  split
  · exact rpl_p
  · exact rclass_p
  · exact rocc_p
  · exact inRange_p
  · exact rauth_p
  · exact PureC.no
set_option maxHeartbeats 2000000 in
theorem rcls_p : PureC Tryd.prog UT 35 (gOf aCls fCls) := by
  have hG := trCls_ok
  refine PureC.ofArgs aCls_inj Tryd.func35 body35 nm35 res35 ?_
  rintro ⟨⟨q, l⟩, c, path⟩ hv
  refine ⟨by rw [nt35]; simp [aCls], fun C hN Q hQ => ?_⟩
  rw [nt35] at hN
  unfold c35
  obtain ⟨hok, hc, hcl, hpa⟩ : Config.ok ⟨q, l⟩ ∧ c < l.length ∧ (l.getD c zCabin).cl.length ≤ 600000 ∧ path.length ≤ 100000 := hv
  have hy := hok.2.2 _ (List.getElem_mem hc)
  have eR : fCls (⟨q, l⟩, c, path) = (Config.ok ⟨q, l⟩ ∧ c < l.length ∧ (l.getD c zCabin).cl.length ≤ 600000 ∧ path.length ≤ 100000, .list (faults (clsTo (l.getD c zCabin) path (prevCodes l c) (l.getD c zCabin).cl.length)) false) := rfl
  have hocc : ∀ k, occ l c k = seen (prevCodes l c ++ codes ((l.getD c zCabin).cl.take k)) ((l.getD c zCabin).cl.getD k zClass).code := fun k => rfl
  have hF := fOcc_eq q l c
  rw [getD_lt _ _ _ hc] at hcl eR hF
  simp only [getD_lt _ _ _ hc] at hocc
  generalize prevCodes l c = prev at eR hocc
  generalize hyy : l[c] = y at hcl eR hF hocc hy
  obtain ⟨nm, se, ov, cl⟩ := y
  dsimp only at hcl eR hF hocc
  refine aw_seq (aw_region (EF := EF0) hG (by rw [hN]; exact tr35_0) ?_)
  simp only [a35_0, go_sem, simprocAttr, aCls, Config.enc]
  refine aw_seq (aw_region (EF := EF0) hG (by rw [hN]; exact tr35_1) ?_)
  simp only [a35_1, go_sem, simprocAttr]
  refine aw_seq (aw_region (EF := EF0) hG (by rw [hN]; exact tr35_2) ?_)
  simp only [a35_2, go_sem, simprocAttr, getD_map _ _ _ hc, hc, hyy, Cabin.enc]
  refine aw_seq ?_
  refine aw_seq ?_
  refine aw_region (EF := EF0) hG (by rw [hN]; exact tr35_3) ?_
  simp only [a35_3, go_sem, simprocAttr]
  refine aw_block ?_
  refine aw_loop (α := Nat) (fun i => i ≤ cl.length) (fun i => ⟨mkE [(1, .int .i64 c), (2, .str path), (3, .ptr 3 0), (7, .own 40 (clsTo ⟨nm, se, ov, cl⟩ path prev i).length), (8, .ptr 8 0), (9, .int .i64 i)], mkH [(3, .box 48 [.str q, .list (l.map Cabin.enc) false]), (8, .box 89 [.str nm, .int .i64 se, .int .i64 ov, .list (cl.map Class.enc) false]), (40, .arr 51 2 (faults (clsTo ⟨nm, se, ov, cl⟩ path prev i)))]⟩) (fun i => cl.length - i) 0 (Nat.zero_le _) ?_ ?_
  · refine Le.mk _ _ ?_ ?_ rfl <;> simp only [go_sem, simprocAttr] <;> (repeat' apply And.intro) <;> try exact leA
  · rintro i hi K hK
    refine aw_seq ?_
    refine aw_seq ?_
    refine aw_region (EF := EF0) hG (by rw [hN]; exact tr35_4) ?_
    simp only [a35_4, go_sem, simprocAttr]
    refine aw_cond (b := _) rfl (fun hci => ?_) (fun hci => ?_)
    · simp only [decide_eq_true_eq, decide_eq_false_iff_not, Bool.and_eq_true, Bool.or_eq_true, Bool.not_eq_true', Bool.not_eq_false', Bool.and_eq_false_iff, Bool.or_eq_false_iff, Int.ofNat_lt, Int.ofNat_le, Nat.not_lt, Nat.not_le, Int.not_lt, Int.not_le] at hci
      have hz := hy.2.2.2.2 _ (List.getElem_mem hci)
      have hat := at1_len path sClass (i := i) (by omega)
      have hlen := clsTo_len ⟨nm, se, ov, cl⟩ path prev i
      have hstep : clsTo ⟨nm, se, ov, cl⟩ path prev (i + 1) = clsTo ⟨nm, se, ov, cl⟩ path prev i ++ (fIf (!classB cl[i].code) 16 (at1 path sClass i) ++ fIf (seen (prev ++ codes (cl.take i)) cl[i].code) 6 (at1 path sClass i) ++ fIf (protBad ⟨nm, se, ov, cl⟩ i) 2 (at1 path sClass i)) := by
        rw [clsTo, clsOne]; simp only [getD_lt _ _ _ hci]
      have ho := hocc i
      rw [getD_lt _ _ _ hci] at ho
      generalize clsTo ⟨nm, se, ov, cl⟩ path prev i = fl at hlen hstep
      have hw : sClass.length = 5 := rfl
      refine aw_skip ?_
      simp only [go_sem, simprocAttr]
      refine aw_seq ?_
      refine aw_block ?_
      refine aw_seq (aw_regionD (EF := EF0) hG mixed (by rw [hN]; exact tr35_6) ok35_6 ?_)
      simp only [a35_6, d35_6, go_sem, simprocAttr, trCls, fPl_eq, getD_map _ _ _ hci, hci, Class.enc, (show [99, 108, 97, 115, 115] = sClass from rfl)]
      (repeat' apply And.intro) <;> try exact sdA
      generalize at1 path sClass i = pos at hat hstep
      refine aw_cut (α := List Fault) (fun g => g = fl ++ fIf (!classB cl[i].code) 16 pos) (fun g => stCls q l c path nm se ov cl i pos cl[i] g) ?_ ?_
      · intro K2 hK2
        refine aw_seq (aw_region (EF := EF0) hG (by rw [hN]; exact tr35_7) ?_)
        simp only [a35_7, go_sem, simprocAttr, trCls, gClass, hz.1]
        refine aw_cond (b := _) rfl (fun hb => ?_) (fun hb => ?_)
        · refine aw_region (EF := EF0) hG (by rw [hN]; exact tr35_8) ?_
          simp only [a35_8, go_sem, simprocAttr]
          (repeat' apply And.intro) <;> try exact sdA
          refine hK2 _ _ rfl ?_
          refine Le.mk _ _ ?_ ?_ rfl <;> simp only [go_sem, simprocAttr, fIf_t hb, List.length_append] <;> (repeat' apply And.intro) <;> try exact leA
        · refine aw_skip ?_
          simp only [go_sem, simprocAttr]
          refine hK2 _ _ rfl ?_
          refine Le.mk _ _ ?_ ?_ rfl <;> simp only [go_sem, simprocAttr, fIf_f hb, List.append_nil] <;> (repeat' apply And.intro) <;> try exact leA
      rintro fl1 h1
      have l1 : fl1.length ≤ fl.length + 1 := by have := fIf_len (!classB cl[i].code) 16 pos; rw [h1, List.length_append]; omega
      refine aw_cut (α := List Fault) (fun g => g = fl1 ++ fIf (seen (prev ++ codes (cl.take i)) cl[i].code) 6 pos) (fun g => stCls q l c path nm se ov cl i pos cl[i] g) ?_ ?_
      · intro K2 hK2
        refine aw_seq (aw_region (EF := EF0) hG (by rw [hN]; exact tr35_9) ?_)
        simp only [a35_9, go_sem, simprocAttr, stCls, trCls, hF, hok, hc, hci, ho]
        refine aw_cond (b := _) rfl (fun hb => ?_) (fun hb => ?_)
        · refine aw_region (EF := EF0) hG (by rw [hN]; exact tr35_10) ?_
          simp only [a35_10, go_sem, simprocAttr]
          (repeat' apply And.intro) <;> try exact sdA
          refine hK2 _ _ rfl ?_
          refine Le.mk _ _ ?_ ?_ rfl <;> simp only [go_sem, simprocAttr, fIf_t hb, List.length_append] <;> (repeat' apply And.intro) <;> try exact leA
        · refine aw_skip ?_
          simp only [go_sem, simprocAttr]
          refine hK2 _ _ rfl ?_
          refine Le.mk _ _ ?_ ?_ rfl <;> simp only [go_sem, simprocAttr, fIf_f hb, List.append_nil] <;> (repeat' apply And.intro) <;> try exact leA
      rintro fl2 h2
      have l2 : fl2.length ≤ fl1.length + 1 := by have := fIf_len (seen (prev ++ codes (cl.take i)) cl[i].code) 6 pos; rw [h2, List.length_append]; omega
      have hi1 : i - 1 < cl.length := by omega
      have e1 : ((i : Int) - 1).toNat = i - 1 := by omega
      have e2 : inI ((i : Int) - 1) := ⟨by omega, by omega⟩
      have hau : inR ⟨nm, se, ov, cl⟩ = true → inI (se + ov) := inR_auth
      refine aw_seq (aw_regionD (EF := EF0) hG mixed (by rw [hN]; exact tr35_11) ok35_11 ?_)
      simp only [a35_11, d35_11, go_sem, simprocAttr, stCls, trCls, fInR_eq, fAuth_eq, e1, e2, getD_map _ _ _ hi1, hi1, Class.enc]
      (repeat' apply And.intro) <;> (try first | omega | ((fail_if_success refine idW ?_); (fail_if_success refine idS ?_); intros; (repeat' apply And.intro) <;> first | assumption | omega | (simp_all; done)) | (intro h; simp_all; done) | (intro h; simp_all; omega))
      have hpb : protBad ⟨nm, se, ov, cl⟩ i = (decide (cl[i].prot < 0) || decide (0 < i) && decide (cl[i].prot < cl[i - 1].prot) || inR ⟨nm, se, ov, cl⟩ && decide (se + ov < cl[i].prot)) := by
        unfold protBad auth; simp only [getD_lt _ _ _ hci, getD_lt _ _ _ hi1]
      have hcast : decide (0 < (i : Int)) = decide (0 < i) := by simp
      rw [hcast]
      refine aw_cond (b := _) rfl (fun hb => ?_) (fun hb => ?_)
      · rw [← hpb] at hb
        have hf : clsTo ⟨nm, se, ov, cl⟩ path prev (i + 1) = fl2 ++ [⟨2, pos⟩] := by rw [hstep, h2, h1, fIf_t hb]; simp
        refine aw_region (EF := EF0) hG (by rw [hN]; exact tr35_12) ?_
        simp only [a35_12, go_sem, simprocAttr]
        (repeat' apply And.intro) <;> try exact sdA
        refine aw_region (EF := EF0) hG (by rw [hN]; exact tr35_5) ?_
        simp only [a35_5, go_sem, simprocAttr, inI]
        (repeat' apply And.intro) <;> try exact sdA
        refine hK (i + 1) _ ?_ ?_ ?_
        · omega
        · omega
        · refine Le.mk _ _ ?_ ?_ rfl <;> simp only [go_sem, simprocAttr, hf, List.length_append] <;> (repeat' apply And.intro) <;> try exact leA
      · rw [← hpb] at hb
        have hf : clsTo ⟨nm, se, ov, cl⟩ path prev (i + 1) = fl2 := by rw [hstep, h2, h1, fIf_f hb]; simp
        refine aw_skip ?_
        simp only [go_sem, simprocAttr]
        refine aw_region (EF := EF0) hG (by rw [hN]; exact tr35_5) ?_
        simp only [a35_5, go_sem, simprocAttr, inI]
        (repeat' apply And.intro) <;> try exact sdA
        refine hK (i + 1) _ ?_ ?_ ?_
        · omega
        · omega
        · refine Le.mk _ _ ?_ ?_ rfl <;> simp only [go_sem, simprocAttr, hf, List.length_append] <;> (repeat' apply And.intro) <;> try exact leA
    · simp only [decide_eq_true_eq, decide_eq_false_iff_not, Bool.and_eq_true, Bool.or_eq_true, Bool.not_eq_true', Bool.not_eq_false', Bool.and_eq_false_iff, Bool.or_eq_false_iff, Int.ofNat_lt, Int.ofNat_le, Nat.not_lt, Nat.not_le, Int.not_lt, Int.not_le] at hci
      refine aw_exit ?_
      simp only [go_sem, simprocAttr]
      refine aw_seq (aw_region (EF := EF0) hG (by rw [hN]; exact tr35_13) ?_)
      simp only [a35_13, go_sem, simprocAttr]
      have hie : i = cl.length := by omega
      subst hie
      refine AW.le (s' := ⟨mkE [(6, .list (faults (clsTo ⟨nm, se, ov, cl⟩ path prev cl.length)) false)], mkH []⟩) (Le.mk _ _ ?_ ?_ rfl) (aw_ret (hQ _ _ (.inl rfl) ?_ ?_ ?_)) <;> simp only [outφ, outV, AR.res, go_sem, simprocAttr, eR]
      exact wk_frz rfl (by rw [faults_len]) rfl (faults_pur _)
set_option linter.unusedSimpArgs false
set_option linter.unusedVariables false
set_option linter.deprecated false
theorem names_succ (l : List Cabin) (k : Nat) (h : k < l.length) : (l.take (k + 1)).map Cabin.name = (l.take k).map Cabin.name ++ [l[k].name] := by rw [List.take_succ_eq_append_getElem h, List.map_append]; rfl
theorem equips_succ (l : List Config) (k : Nat) (h : k < l.length) : (l.take (k + 1)).map Config.equip = (l.take k).map Config.equip ++ [l[k].equip] := by rw [List.take_succ_eq_append_getElem h, List.map_append]; rfl
theorem cabTail_len (y : Cabin) (path : List UInt8) (prev : List (List UInt8)) : (cabTail y path prev).length ≤ 3 * y.cl.length + 2 := by
  unfold cabTail
  simp only [List.length_append]
  have := fIf_len (!inR y) 2 path
  have := fIf_len (sizeBad y.cl.length 1 26) 4 path
  have := clsTo_len y path prev y.cl.length
  omega
theorem cabOne_len (l : List Cabin) (path : List UInt8) (k : Nat) (h : (l.getD k zCabin).cl.length ≤ 600000) : (cabOne l path k).length ≤ 1800004 := by
  unfold cabOne
  simp only [List.length_append]
  have := fIf_len (!codeB (l.getD k zCabin).name 1 8) 5 (at1 path sCabin k)
  have := fIf_len (seen ((l.take k).map Cabin.name) (l.getD k zCabin).name) 6 (at1 path sCabin k)
  have := cabTail_len (l.getD k zCabin) (at1 path sCabin k) (prevCodes l k)
  omega
theorem cabTo_len (l : List Cabin) (path : List UInt8) (k : Nat) (h : ∀ y ∈ l, y.cl.length ≤ 600000) : (cabTo l path k).length ≤ 1800004 * k := by
  induction k with
  | zero => simp [cabTo]
  | succ k ih => rw [cabTo, List.length_append]; have := cabOne_len l path k (getD_mem l k zCabin (fun y => y.cl.length ≤ 600000) (by simp [zCabin]) h); omega
theorem confOne_len (l : List Config) (k : Nat) (h8 : (l.getD k zConf).cabs.length ≤ 600000) (h : ∀ y ∈ (l.getD k zConf).cabs, y.cl.length ≤ 600000) : (confOne l k).length ≤ 1080002400003 := by
  unfold confOne
  simp only [List.length_append]
  have := fIf_len (!codeB (l.getD k zConf).equip 3 3) 5 (at1 [] sConfig k)
  have := fIf_len (seen ((l.take k).map Config.equip) (l.getD k zConf).equip) 6 (at1 [] sConfig k)
  have := fIf_len (sizeBad (l.getD k zConf).cabs.length 1 4) 4 (at1 [] sConfig k)
  have := cabTo_len (l.getD k zConf).cabs (at1 [] sConfig k) (l.getD k zConf).cabs.length h
  omega
theorem confTo_len (l : List Config) (k : Nat) (h8 : ∀ x ∈ l, x.cabs.length ≤ 600000) (h : ∀ x ∈ l, ∀ y ∈ x.cabs, y.cl.length ≤ 600000) : (confTo l k).length ≤ 1080002400003 * k := by
  induction k with
  | zero => simp [confTo]
  | succ k ih =>
    rw [confTo, List.length_append]
    have := confOne_len l k (getD_mem l k zConf (fun x => x.cabs.length ≤ 600000) (by simp [zConf]) h8) (getD_mem l k zConf (fun x => ∀ y ∈ x.cabs, y.cl.length ≤ 600000) (by simp [zConf]) h)
    omega
theorem fCode_eq (s : List UInt8) (lo hi : Int) : gCode [.str s, .int .i64 lo, .int .i64 hi] = (s.length ≤ 140737488355328, .bool (codeB s lo hi)) := rfl
theorem fCls_eq (q : List UInt8) (l : List Cabin) (c : Nat) (p : List UInt8) : gOf aCls fCls [.agg [.str q, .list (l.map Cabin.enc) false], .int .i64 c, .str p] = (Config.ok ⟨q, l⟩ ∧ c < l.length ∧ (l.getD c zCabin).cl.length ≤ 600000 ∧ p.length ≤ 100000, .list (faults (clsTo (l.getD c zCabin) p (prevCodes l c) (l.getD c zCabin).cl.length)) false) := gOf_eq aCls_inj ((⟨q, l⟩, c, p) : Config × Nat × List UInt8)
def fCabs (x : Config × List UInt8) : Prop × V := (x.1.ok ∧ x.1.cabs.length ≤ 600000 ∧ (∀ y ∈ x.1.cabs, y.cl.length ≤ 600000) ∧ x.2.length ≤ 1000, .list (faults (cabTo x.1.cabs x.2 x.1.cabs.length)) false)
def stCab (q : List UInt8) (l : List Cabin) (path : List UInt8) (i : Nat) (pos : List UInt8) (tw : Bool) (nm : List UInt8) (se ov : Int) (cl : List Class) (g : List Fault) : St :=
  ⟨mkE [(1, .str path), (2, .ptr 2 0), (5, .own 51 g.length), (6, .int .i64 i), (7, .str pos), (8, .ptr 8 0), (9, .bool tw)], mkH [(2, .box 48 [.str q, .list (l.map Cabin.enc) false]), (8, .box 89 [.str nm, .int .i64 se, .int .i64 ov, .list (cl.map Class.enc) false]), (51, .arr 51 2 (faults g))]⟩
noncomputable def trCabs : Tab
  | 13 => (gOf aPl fPl)
  | 14 => gCode
  | 34 => (gOf aCab fInR)
  | 35 => (gOf aCls fCls)
  | _ => gNo
theorem trCabs_ok : ∀ f, PureC Tryd.prog UT f (trCabs f) := fun f => by
  unfold trCabs
  split
  · exact rpl_p
  · exact rcode_p
  · exact inRange_p
  · exact rcls_p
  · exact PureC.no
set_option maxHeartbeats 2000000 in
theorem rcabs_p : PureC Tryd.prog UT 15 (gOf aPlace fCabs) := by
  have hG := trCabs_ok
  refine PureC.ofArgs aPlace_inj Tryd.func15 body15 nm15 res15 ?_
  rintro ⟨⟨q, l⟩, path⟩ hv
  refine ⟨by rw [nt15]; simp [aPlace], fun C hN Q hQ => ?_⟩
  rw [nt15] at hN
  unfold c15
  obtain ⟨hok, hl, hcl, hpa⟩ : Config.ok ⟨q, l⟩ ∧ l.length ≤ 600000 ∧ (∀ y ∈ l, y.cl.length ≤ 600000) ∧ path.length ≤ 1000 := hv
  have hw : sCabin.length = 5 := rfl
  refine aw_seq (aw_region (EF := EF0) hG (by rw [hN]; exact tr15_0) ?_)
  simp only [a15_0, go_sem, simprocAttr, aPlace, Config.enc]
  refine aw_seq (aw_region (EF := EF0) hG (by rw [hN]; exact tr15_1) ?_)
  simp only [a15_1, go_sem, simprocAttr]
  refine aw_seq ?_
  refine aw_seq ?_
  refine aw_region (EF := EF0) hG (by rw [hN]; exact tr15_2) ?_
  simp only [a15_2, go_sem, simprocAttr]
  refine aw_block ?_
  refine aw_loop (α := Nat) (fun i => i ≤ l.length) (fun i => ⟨mkE [(1, .str path), (2, .ptr 2 0), (5, .own 51 (cabTo l path i).length), (6, .int .i64 i)], mkH [(2, .box 48 [.str q, .list (l.map Cabin.enc) false]), (51, .arr 51 2 (faults (cabTo l path i)))]⟩) (fun i => l.length - i) 0 (Nat.zero_le _) ?_ ?_
  · refine Le.mk _ _ ?_ ?_ rfl <;> simp only [go_sem, simprocAttr] <;> (repeat' apply And.intro) <;> try exact leA
  · rintro i hi K hK
    refine aw_seq ?_
    refine aw_seq ?_
    refine aw_region (EF := EF0) hG (by rw [hN]; exact tr15_3) ?_
    simp only [a15_3, go_sem, simprocAttr]
    refine aw_cond (b := _) rfl (fun hci => ?_) (fun hci => ?_)
    · simp only [decide_eq_true_eq, decide_eq_false_iff_not, Bool.and_eq_true, Bool.or_eq_true, Bool.not_eq_true', Bool.not_eq_false', Bool.and_eq_false_iff, Bool.or_eq_false_iff, Int.ofNat_lt, Int.ofNat_le, Nat.not_lt, Nat.not_le, Int.not_lt, Int.not_le] at hci
      have hy := hok.2.2 _ (List.getElem_mem hci)
      have hyl := hcl _ (List.getElem_mem hci)
      have hat := at1_len path sCabin (i := i) (by omega)
      have hlen := cabTo_len l path i hcl
      have hstep : cabTo l path (i + 1) = cabTo l path i ++ (fIf (!codeB l[i].name 1 8) 5 (at1 path sCabin i) ++ fIf (seen ((l.take i).map Cabin.name) l[i].name) 6 (at1 path sCabin i) ++ (fIf (!inR l[i]) 2 (at1 path sCabin i) ++ fIf (sizeBad l[i].cl.length 1 26) 4 (at1 path sCabin i) ++ clsTo l[i] (at1 path sCabin i) (prevCodes l i) l[i].cl.length)) := by
        rw [cabTo, cabOne]; simp only [getD_lt _ _ _ hci, cabTail]
      have hcls := fCls_eq q l i (at1 path sCabin i)
      rw [getD_lt _ _ _ hci] at hcls
      have hcln := clsTo_len l[i] (at1 path sCabin i) (prevCodes l i) l[i].cl.length
      generalize cabTo l path i = fl at hlen hstep
      generalize clsTo l[i] (at1 path sCabin i) (prevCodes l i) l[i].cl.length = flc at hstep hcls hcln
      refine aw_skip ?_
      simp only [go_sem, simprocAttr]
      refine aw_seq ?_
      refine aw_block ?_
      refine aw_seq (aw_regionD (EF := EF0) hG mixed (by rw [hN]; exact tr15_5) ok15_5 ?_)
      simp only [a15_5, d15_5, go_sem, simprocAttr, trCabs, fPl_eq, getD_map _ _ _ hci, hci, Cabin.enc, (show [99, 97, 98, 105, 110] = sCabin from rfl)]
      (repeat' apply And.intro) <;> try exact sdA
      generalize at1 path sCabin i = pos at hat hstep hcls
      generalize hyy : l[i] = y at hstep hcls hy hyl hcln
      obtain ⟨nm, se, ov, cl⟩ := y
      dsimp only at hstep hcls hyl hcln
      have hnm : nm.length ≤ 140737488355328 := hy.1
      refine aw_cut (α := Unit) (fun _ => True) (fun _ => stCab q l path i pos (seen ((l.take i).map Cabin.name) nm) nm se ov cl fl) ?_ ?_
      · intro K2 hK2
        refine aw_seq (aw_region (EF := EF0) hG (by rw [hN]; exact tr15_6) ?_)
        simp only [a15_6, go_sem, simprocAttr]
        refine aw_block ?_
        refine aw_loop (α := Nat) (fun k => k ≤ i) (fun k => ⟨mkE [(1, .str path), (2, .ptr 2 0), (5, .own 51 fl.length), (6, .int .i64 i), (7, .str pos), (8, .ptr 8 0), (9, .bool (seen ((l.take k).map Cabin.name) nm)), (10, .int .i64 k)], mkH [(2, .box 48 [.str q, .list (l.map Cabin.enc) false]), (8, .box 89 [.str nm, .int .i64 se, .int .i64 ov, .list (cl.map Class.enc) false]), (51, .arr 51 2 (faults fl))]⟩) (fun k => i - k) 0 (Nat.zero_le _) ?_ ?_
        · refine Le.mk _ _ ?_ ?_ rfl <;> simp only [go_sem, simprocAttr] <;> (repeat' apply And.intro) <;> try exact leA
          try rfl
        · rintro k hk K3 hK3
          refine aw_seq ?_
          refine aw_seq ?_
          refine aw_region (EF := EF0) hG (by rw [hN]; exact tr15_7) ?_
          simp only [a15_7, go_sem, simprocAttr]
          refine aw_cond (b := _) rfl (fun hck => ?_) (fun hck => ?_)
          · simp only [decide_eq_true_eq, decide_eq_false_iff_not, Bool.and_eq_true, Bool.or_eq_true, Bool.not_eq_true', Bool.not_eq_false', Bool.and_eq_false_iff, Bool.or_eq_false_iff, Int.ofNat_lt, Int.ofNat_le, Nat.not_lt, Nat.not_le, Int.not_lt, Int.not_le] at hck
            have hkl : k < l.length := by omega
            refine aw_skip ?_
            simp only [go_sem, simprocAttr]
            refine aw_seq ?_
            refine aw_block ?_
            refine aw_regionD (EF := EF0) hG mixed (by rw [hN]; exact tr15_9) ok15_9 ?_
            simp only [a15_9, d15_9, go_sem, simprocAttr, getD_map _ _ _ hkl, hkl, Cabin.enc]
            refine aw_region (EF := EF0) hG (by rw [hN]; exact tr15_8) ?_
            simp only [a15_8, go_sem, simprocAttr, inI]
            (repeat' apply And.intro) <;> try exact sdA
            refine hK3 (k + 1) _ ?_ ?_ ?_
            · omega
            · omega
            · refine Le.mk _ _ ?_ ?_ rfl <;> simp only [go_sem, simprocAttr, names_succ _ _ hkl, seen_snoc] <;> (repeat' apply And.intro) <;> try exact leA
          · simp only [decide_eq_true_eq, decide_eq_false_iff_not, Bool.and_eq_true, Bool.or_eq_true, Bool.not_eq_true', Bool.not_eq_false', Bool.and_eq_false_iff, Bool.or_eq_false_iff, Int.ofNat_lt, Int.ofNat_le, Nat.not_lt, Nat.not_le, Int.not_lt, Int.not_le] at hck
            refine aw_exit ?_
            simp only [go_sem, simprocAttr]
            refine hK2 () _ trivial ?_
            refine Le.mk _ _ ?_ ?_ rfl <;> simp only [go_sem, simprocAttr] <;> (repeat' apply And.intro) <;> try exact leA
            rw [Nat.le_antisymm hk hck]
      rintro _ -
      refine aw_cut (α := List Fault) (fun g => g = fl ++ fIf (!codeB nm 1 8) 5 pos) (fun g => stCab q l path i pos (seen ((l.take i).map Cabin.name) nm) nm se ov cl g) ?_ ?_
      · intro K2 hK2
        refine aw_seq (aw_region (EF := EF0) hG (by rw [hN]; exact tr15_10) ?_)
        simp only [a15_10, go_sem, simprocAttr, stCab, trCabs, fCode_eq, hnm]
        refine aw_cond (b := _) rfl (fun hb => ?_) (fun hb => ?_)
        · refine aw_region (EF := EF0) hG (by rw [hN]; exact tr15_11) ?_
          simp only [a15_11, go_sem, simprocAttr]
          (repeat' apply And.intro) <;> try exact sdA
          refine hK2 _ _ rfl ?_
          refine Le.mk _ _ ?_ ?_ rfl <;> simp only [go_sem, simprocAttr, fIf_t hb, List.length_append] <;> (repeat' apply And.intro) <;> try exact leA
        · refine aw_skip ?_
          simp only [go_sem, simprocAttr]
          refine hK2 _ _ rfl ?_
          refine Le.mk _ _ ?_ ?_ rfl <;> simp only [go_sem, simprocAttr, fIf_f hb, List.append_nil] <;> (repeat' apply And.intro) <;> try exact leA
      rintro fl1 h1
      have l1 : fl1.length ≤ fl.length + 1 := by have := fIf_len (!codeB nm 1 8) 5 pos; rw [h1, List.length_append]; omega
      refine aw_cut (α := List Fault) (fun g => g = fl1 ++ fIf (seen ((l.take i).map Cabin.name) nm) 6 pos) (fun g => stCab q l path i pos (seen ((l.take i).map Cabin.name) nm) nm se ov cl g) ?_ ?_
      · intro K2 hK2
        refine aw_seq (aw_region (EF := EF0) hG (by rw [hN]; exact tr15_12) ?_)
        simp only [a15_12, go_sem, simprocAttr, stCab]
        refine aw_cond (b := _) rfl (fun hb => ?_) (fun hb => ?_)
        · refine aw_region (EF := EF0) hG (by rw [hN]; exact tr15_13) ?_
          simp only [a15_13, go_sem, simprocAttr]
          (repeat' apply And.intro) <;> try exact sdA
          refine hK2 _ _ rfl ?_
          refine Le.mk _ _ ?_ ?_ rfl <;> simp only [go_sem, simprocAttr, fIf_t hb, List.length_append] <;> (repeat' apply And.intro) <;> try exact leA
        · refine aw_skip ?_
          simp only [go_sem, simprocAttr]
          refine hK2 _ _ rfl ?_
          refine Le.mk _ _ ?_ ?_ rfl <;> simp only [go_sem, simprocAttr, fIf_f hb, List.append_nil] <;> (repeat' apply And.intro) <;> try exact leA
      rintro fl2 h2
      have l2 : fl2.length ≤ fl1.length + 1 := by have := fIf_len (seen ((l.take i).map Cabin.name) nm) 6 pos; rw [h2, List.length_append]; omega
      refine aw_cut (α := List Fault) (fun g => g = fl2 ++ fIf (!inR ⟨nm, se, ov, cl⟩) 2 pos) (fun g => stCab q l path i pos (seen ((l.take i).map Cabin.name) nm) nm se ov cl g) ?_ ?_
      · intro K2 hK2
        refine aw_seq (aw_region (EF := EF0) hG (by rw [hN]; exact tr15_14) ?_)
        simp only [a15_14, go_sem, simprocAttr, stCab, trCabs, fInR_eq]
        refine aw_cond (b := _) rfl (fun hb => ?_) (fun hb => ?_)
        · refine aw_region (EF := EF0) hG (by rw [hN]; exact tr15_15) ?_
          simp only [a15_15, go_sem, simprocAttr]
          (repeat' apply And.intro) <;> try exact sdA
          refine hK2 _ _ rfl ?_
          refine Le.mk _ _ ?_ ?_ rfl <;> simp only [go_sem, simprocAttr, fIf_t hb, List.length_append] <;> (repeat' apply And.intro) <;> try exact leA
        · refine aw_skip ?_
          simp only [go_sem, simprocAttr]
          refine hK2 _ _ rfl ?_
          refine Le.mk _ _ ?_ ?_ rfl <;> simp only [go_sem, simprocAttr, fIf_f hb, List.append_nil] <;> (repeat' apply And.intro) <;> try exact leA
      rintro fl3 h3
      have l3 : fl3.length ≤ fl2.length + 1 := by have := fIf_len (!inR ⟨nm, se, ov, cl⟩) 2 pos; rw [h3, List.length_append]; omega
      refine aw_cut (α := List Fault) (fun g => g = fl3 ++ fIf (decide ((cl.length : Int) < 1) || decide (26 < (cl.length : Int))) 4 pos) (fun g => stCab q l path i pos (seen ((l.take i).map Cabin.name) nm) nm se ov cl g) ?_ ?_
      · intro K2 hK2
        refine aw_seq (aw_region (EF := EF0) hG (by rw [hN]; exact tr15_16) ?_)
        simp only [a15_16, go_sem, simprocAttr, stCab]
        refine aw_cond (b := _) rfl (fun hb => ?_) (fun hb => ?_)
        · refine aw_region (EF := EF0) hG (by rw [hN]; exact tr15_17) ?_
          simp only [a15_17, go_sem, simprocAttr]
          (repeat' apply And.intro) <;> try exact sdA
          refine hK2 _ _ rfl ?_
          refine Le.mk _ _ ?_ ?_ rfl <;> simp only [go_sem, simprocAttr, fIf_t hb, List.length_append] <;> (repeat' apply And.intro) <;> try exact leA
        · refine aw_skip ?_
          simp only [go_sem, simprocAttr]
          refine hK2 _ _ rfl ?_
          refine Le.mk _ _ ?_ ?_ rfl <;> simp only [go_sem, simprocAttr, fIf_f hb, List.append_nil] <;> (repeat' apply And.intro) <;> try exact leA
      rintro fl4 h4
      have l4 : fl4.length ≤ fl3.length + 1 := by have := fIf_len (decide ((cl.length : Int) < 1) || decide (26 < (cl.length : Int))) 4 pos; rw [h4, List.length_append]; omega
      have hf : cabTo l path (i + 1) = fl4 ++ flc := by rw [hstep, h4, h3, h2, h1]; simp [sizeBad]
      refine aw_region (EF := EF0) hG (by rw [hN]; exact tr15_18) ?_
      simp only [a15_18, go_sem, simprocAttr, stCab, trCabs, hcls, hok, hci, hyl]
      (repeat' apply And.intro) <;> try exact sdA
      refine aw_region (EF := EF0) hG (by rw [hN]; exact tr15_4) ?_
      simp only [a15_4, go_sem, simprocAttr, inI]
      (repeat' apply And.intro) <;> try exact sdA
      refine hK (i + 1) _ ?_ ?_ ?_
      · omega
      · omega
      · refine Le.mk _ _ ?_ ?_ rfl <;> simp only [go_sem, simprocAttr, hf, List.length_append] <;> (repeat' apply And.intro) <;> try exact leA
    · simp only [decide_eq_true_eq, decide_eq_false_iff_not, Bool.and_eq_true, Bool.or_eq_true, Bool.not_eq_true', Bool.not_eq_false', Bool.and_eq_false_iff, Bool.or_eq_false_iff, Int.ofNat_lt, Int.ofNat_le, Nat.not_lt, Nat.not_le, Int.not_lt, Int.not_le] at hci
      refine aw_exit ?_
      simp only [go_sem, simprocAttr]
      refine aw_seq (aw_region (EF := EF0) hG (by rw [hN]; exact tr15_19) ?_)
      simp only [a15_19, go_sem, simprocAttr]
      have hie : i = l.length := by omega
      subst hie
      refine AW.le (s' := ⟨mkE [(4, .list (faults (cabTo l path l.length)) false)], mkH []⟩) (Le.mk _ _ ?_ ?_ rfl) (aw_ret (hQ _ _ (.inl rfl) ?_ ?_ ?_)) <;> simp only [outφ, outV, AR.res, go_sem, simprocAttr, fCabs]
      exact wk_frz rfl (by rw [faults_len]) rfl (faults_pur _)
theorem fCabs_eq (q : List UInt8) (l : List Cabin) (p : List UInt8) : gOf aPlace fCabs [.agg [.str q, .list (l.map Cabin.enc) false], .str p] = (Config.ok ⟨q, l⟩ ∧ l.length ≤ 600000 ∧ (∀ y ∈ l, y.cl.length ≤ 600000) ∧ p.length ≤ 1000, .list (faults (cabTo l p l.length)) false) := gOf_eq aPlace_inj ((⟨q, l⟩, p) : Config × List UInt8)
def SmallL (l : List Config) : Prop := l.length ≤ 4 ∧ (∀ x ∈ l, x.ok) ∧ (∀ x ∈ l, x.cabs.length ≤ 600000) ∧ ∀ x ∈ l, ∀ y ∈ x.cabs, y.cl.length ≤ 600000
def aCheck (l : List Config) : List V := [.list (l.map Config.enc) false]
theorem aCheck_inj (a b : List Config) (h : aCheck a = aCheck b) : a = b := by
  simp only [aCheck, List.cons.injEq, V.list.injEq, and_true] at h
  exact map_inj' Config.inj h
def fCheck (l : List Config) : Prop × V := (SmallL l, .list (faults (confFaults l)) false)
def stChk (l : List Config) (i : Nat) (pos : List UInt8) (tw : Bool) (g : List Fault) : St :=
  ⟨mkE [(0, .list (l.map Config.enc) false), (3, .own 46 g.length), (4, .int .i64 i), (5, .str pos), (6, .bool tw)], mkH [(46, .arr 51 2 (faults g))]⟩
noncomputable def trCheck : Tab
  | 13 => (gOf aPl fPl)
  | 14 => gCode
  | 15 => (gOf aPlace fCabs)
  | _ => gNo
theorem trCheck_ok : ∀ f, PureC Tryd.prog UT f (trCheck f) := fun f => by
  unfold trCheck
  split
  · exact rpl_p
  · exact rcode_p
  · exact rcabs_p
  · exact PureC.no
set_option maxHeartbeats 2000000 in
theorem rcheck_p : PureC Tryd.prog UT 4 (gOf aCheck fCheck) := by
  have hG := trCheck_ok
  refine PureC.ofArgs aCheck_inj Tryd.func4 body4 nm4 res4 ?_
  rintro l hv
  refine ⟨by rw [nt4]; simp [aCheck], fun C hN Q hQ => ?_⟩
  rw [nt4] at hN
  unfold c4
  obtain ⟨hl, hok, hcb, hcl⟩ : SmallL l := hv
  have hw : sConfig.length = 6 := rfl
  refine aw_seq (aw_region (EF := EF0) hG (by rw [hN]; exact tr4_0) ?_)
  simp only [a4_0, go_sem, simprocAttr, aCheck]
  refine aw_seq (aw_region (EF := EF0) hG (by rw [hN]; exact tr4_1) ?_)
  simp only [a4_1, go_sem, simprocAttr]
  refine aw_seq ?_
  refine aw_seq ?_
  refine aw_region (EF := EF0) hG (by rw [hN]; exact tr4_2) ?_
  simp only [a4_2, go_sem, simprocAttr]
  refine aw_block ?_
  refine aw_loop (α := Nat) (fun i => i ≤ l.length) (fun i => ⟨mkE [(0, .list (l.map Config.enc) false), (3, .own 46 (confTo l i).length), (4, .int .i64 i)], mkH [(46, .arr 51 2 (faults (confTo l i)))]⟩) (fun i => l.length - i) 0 (Nat.zero_le _) ?_ ?_
  · refine Le.mk _ _ ?_ ?_ rfl <;> simp only [go_sem, simprocAttr] <;> (repeat' apply And.intro) <;> try exact leA
  · rintro i hi K hK
    refine aw_seq ?_
    refine aw_seq ?_
    refine aw_region (EF := EF0) hG (by rw [hN]; exact tr4_3) ?_
    simp only [a4_3, go_sem, simprocAttr]
    refine aw_cond (b := _) rfl (fun hci => ?_) (fun hci => ?_)
    · simp only [decide_eq_true_eq, decide_eq_false_iff_not, Bool.and_eq_true, Bool.or_eq_true, Bool.not_eq_true', Bool.not_eq_false', Bool.and_eq_false_iff, Bool.or_eq_false_iff, Int.ofNat_lt, Int.ofNat_le, Nat.not_lt, Nat.not_le, Int.not_lt, Int.not_le] at hci
      have hx := hok _ (List.getElem_mem hci)
      have hx2 : Config.ok ⟨l[i].equip, l[i].cabs⟩ := hx
      have hxl := hcb _ (List.getElem_mem hci)
      have hxc := hcl _ (List.getElem_mem hci)
      have hat := at1_len [] sConfig (i := i) (by omega)
      rw [hw, List.length_nil] at hat
      have hlen := confTo_len l i hcb hcl
      have hstep : confTo l (i + 1) = confTo l i ++ (fIf (!codeB l[i].equip 3 3) 5 (at1 [] sConfig i) ++ fIf (seen ((l.take i).map Config.equip) l[i].equip) 6 (at1 [] sConfig i) ++ fIf (sizeBad l[i].cabs.length 1 4) 4 (at1 [] sConfig i) ++ cabTo l[i].cabs (at1 [] sConfig i) l[i].cabs.length) := by
        rw [confTo, confOne]; simp only [getD_lt _ _ _ hci]
      have hcbl := cabTo_len l[i].cabs (at1 [] sConfig i) l[i].cabs.length hxc
      have hcb2 := fCabs_eq l[i].equip l[i].cabs (at1 [] sConfig i)
      generalize confTo l i = fl at hlen hstep
      generalize cabTo l[i].cabs (at1 [] sConfig i) l[i].cabs.length = flc at hstep hcb2 hcbl
      refine aw_skip ?_
      simp only [go_sem, simprocAttr]
      refine aw_seq ?_
      refine aw_block ?_
      refine aw_seq (aw_region (EF := EF0) hG (by rw [hN]; exact tr4_5) ?_)
      simp only [a4_5, go_sem, simprocAttr, trCheck, fPl_eq, (show [99, 111, 110, 102, 105, 103] = sConfig from rfl)]
      (repeat' apply And.intro) <;> try exact sdA
      generalize at1 [] sConfig i = pos at hat hstep hcb2
      have hnm : l[i].equip.length ≤ 140737488355328 := hx.1
      refine aw_cut (α := Unit) (fun _ => True) (fun _ => stChk l i pos (seen ((l.take i).map Config.equip) l[i].equip) fl) ?_ ?_
      · intro K2 hK2
        refine aw_seq (aw_region (EF := EF0) hG (by rw [hN]; exact tr4_6) ?_)
        simp only [a4_6, go_sem, simprocAttr]
        refine aw_block ?_
        refine aw_loop (α := Nat) (fun k => k ≤ i) (fun k => ⟨mkE [(0, .list (l.map Config.enc) false), (3, .own 46 fl.length), (4, .int .i64 i), (5, .str pos), (6, .bool (seen ((l.take k).map Config.equip) l[i].equip)), (7, .int .i64 k)], mkH [(46, .arr 51 2 (faults fl))]⟩) (fun k => i - k) 0 (Nat.zero_le _) ?_ ?_
        · refine Le.mk _ _ ?_ ?_ rfl <;> simp only [go_sem, simprocAttr] <;> (repeat' apply And.intro) <;> try exact leA
          try rfl
        · rintro k hk K3 hK3
          refine aw_seq ?_
          refine aw_seq ?_
          refine aw_region (EF := EF0) hG (by rw [hN]; exact tr4_7) ?_
          simp only [a4_7, go_sem, simprocAttr]
          refine aw_cond (b := _) rfl (fun hck => ?_) (fun hck => ?_)
          · simp only [decide_eq_true_eq, decide_eq_false_iff_not, Bool.and_eq_true, Bool.or_eq_true, Bool.not_eq_true', Bool.not_eq_false', Bool.and_eq_false_iff, Bool.or_eq_false_iff, Int.ofNat_lt, Int.ofNat_le, Nat.not_lt, Nat.not_le, Int.not_lt, Int.not_le] at hck
            have hkl : k < l.length := by omega
            refine aw_skip ?_
            simp only [go_sem, simprocAttr]
            refine aw_seq ?_
            refine aw_block ?_
            refine aw_regionD (EF := EF0) hG mixed (by rw [hN]; exact tr4_9) ok4_9 ?_
            simp only [a4_9, d4_9, go_sem, simprocAttr, getD_map _ _ _ hkl, hkl, getD_map _ _ _ hci, hci, Config.enc]
            refine aw_region (EF := EF0) hG (by rw [hN]; exact tr4_8) ?_
            simp only [a4_8, go_sem, simprocAttr, inI]
            (repeat' apply And.intro) <;> try exact sdA
            refine hK3 (k + 1) _ ?_ ?_ ?_
            · omega
            · omega
            · refine Le.mk _ _ ?_ ?_ rfl <;> simp only [go_sem, simprocAttr, equips_succ _ _ hkl, seen_snoc] <;> (repeat' apply And.intro) <;> try exact leA
          · simp only [decide_eq_true_eq, decide_eq_false_iff_not, Bool.and_eq_true, Bool.or_eq_true, Bool.not_eq_true', Bool.not_eq_false', Bool.and_eq_false_iff, Bool.or_eq_false_iff, Int.ofNat_lt, Int.ofNat_le, Nat.not_lt, Nat.not_le, Int.not_lt, Int.not_le] at hck
            refine aw_exit ?_
            simp only [go_sem, simprocAttr]
            refine hK2 () _ trivial ?_
            refine Le.mk _ _ ?_ ?_ rfl <;> simp only [go_sem, simprocAttr] <;> (repeat' apply And.intro) <;> try exact leA
            rw [Nat.le_antisymm hk hck]
      rintro _ -
      refine aw_cut (α := List Fault) (fun g => g = fl ++ fIf (!codeB l[i].equip 3 3) 5 pos) (fun g => stChk l i pos (seen ((l.take i).map Config.equip) l[i].equip) g) ?_ ?_
      · intro K2 hK2
        refine aw_seq (aw_region (EF := EF0) hG (by rw [hN]; exact tr4_10) ?_)
        simp only [a4_10, go_sem, simprocAttr, stChk, trCheck, fCode_eq, hnm, getD_map _ _ _ hci, hci, Config.enc]
        refine aw_cond (b := _) rfl (fun hb => ?_) (fun hb => ?_)
        · refine aw_region (EF := EF0) hG (by rw [hN]; exact tr4_11) ?_
          simp only [a4_11, go_sem, simprocAttr]
          (repeat' apply And.intro) <;> try exact sdA
          refine hK2 _ _ rfl ?_
          refine Le.mk _ _ ?_ ?_ rfl <;> simp only [go_sem, simprocAttr, fIf_t hb, List.length_append] <;> (repeat' apply And.intro) <;> try exact leA
        · refine aw_skip ?_
          simp only [go_sem, simprocAttr]
          refine hK2 _ _ rfl ?_
          refine Le.mk _ _ ?_ ?_ rfl <;> simp only [go_sem, simprocAttr, fIf_f hb, List.append_nil] <;> (repeat' apply And.intro) <;> try exact leA
      rintro fl1 h1
      have l1 : fl1.length ≤ fl.length + 1 := by have := fIf_len (!codeB l[i].equip 3 3) 5 pos; rw [h1, List.length_append]; omega
      refine aw_cut (α := List Fault) (fun g => g = fl1 ++ fIf (seen ((l.take i).map Config.equip) l[i].equip) 6 pos) (fun g => stChk l i pos (seen ((l.take i).map Config.equip) l[i].equip) g) ?_ ?_
      · intro K2 hK2
        refine aw_seq (aw_region (EF := EF0) hG (by rw [hN]; exact tr4_12) ?_)
        simp only [a4_12, go_sem, simprocAttr, stChk]
        refine aw_cond (b := _) rfl (fun hb => ?_) (fun hb => ?_)
        · refine aw_region (EF := EF0) hG (by rw [hN]; exact tr4_13) ?_
          simp only [a4_13, go_sem, simprocAttr]
          (repeat' apply And.intro) <;> try exact sdA
          refine hK2 _ _ rfl ?_
          refine Le.mk _ _ ?_ ?_ rfl <;> simp only [go_sem, simprocAttr, fIf_t hb, List.length_append] <;> (repeat' apply And.intro) <;> try exact leA
        · refine aw_skip ?_
          simp only [go_sem, simprocAttr]
          refine hK2 _ _ rfl ?_
          refine Le.mk _ _ ?_ ?_ rfl <;> simp only [go_sem, simprocAttr, fIf_f hb, List.append_nil] <;> (repeat' apply And.intro) <;> try exact leA
      rintro fl2 h2
      have l2 : fl2.length ≤ fl1.length + 1 := by have := fIf_len (seen ((l.take i).map Config.equip) l[i].equip) 6 pos; rw [h2, List.length_append]; omega
      refine aw_cut (α := List Fault) (fun g => g = fl2 ++ fIf (decide ((l[i].cabs.length : Int) < 1) || decide (4 < (l[i].cabs.length : Int))) 4 pos) (fun g => stChk l i pos (seen ((l.take i).map Config.equip) l[i].equip) g) ?_ ?_
      · intro K2 hK2
        refine aw_seq (aw_region (EF := EF0) hG (by rw [hN]; exact tr4_14) ?_)
        simp only [a4_14, go_sem, simprocAttr, stChk, getD_map _ _ _ hci, hci, Config.enc]
        refine aw_cond (b := _) rfl (fun hb => ?_) (fun hb => ?_)
        · refine aw_region (EF := EF0) hG (by rw [hN]; exact tr4_15) ?_
          simp only [a4_15, go_sem, simprocAttr]
          (repeat' apply And.intro) <;> try exact sdA
          refine hK2 _ _ rfl ?_
          refine Le.mk _ _ ?_ ?_ rfl <;> simp only [go_sem, simprocAttr, fIf_t hb, List.length_append] <;> (repeat' apply And.intro) <;> try exact leA
        · refine aw_skip ?_
          simp only [go_sem, simprocAttr]
          refine hK2 _ _ rfl ?_
          refine Le.mk _ _ ?_ ?_ rfl <;> simp only [go_sem, simprocAttr, fIf_f hb, List.append_nil] <;> (repeat' apply And.intro) <;> try exact leA
      rintro fl3 h3
      have l3 : fl3.length ≤ fl2.length + 1 := by have := fIf_len (decide ((l[i].cabs.length : Int) < 1) || decide (4 < (l[i].cabs.length : Int))) 4 pos; rw [h3, List.length_append]; omega
      have hf : confTo l (i + 1) = fl3 ++ flc := by rw [hstep, h3, h2, h1]; simp [sizeBad]
      refine aw_region (EF := EF0) hG (by rw [hN]; exact tr4_16) ?_
      simp only [a4_16, go_sem, simprocAttr, stChk, trCheck, getD_map _ _ _ hci, hci, Config.enc, hcb2, hx2]
      (repeat' apply And.intro) <;> (try first | omega | ((fail_if_success refine idW ?_); (fail_if_success refine idS ?_); intros; (repeat' apply And.intro) <;> first | assumption | omega | (simp_all; done)) | (exact hxc))
      refine aw_region (EF := EF0) hG (by rw [hN]; exact tr4_4) ?_
      simp only [a4_4, go_sem, simprocAttr, inI]
      (repeat' apply And.intro) <;> try exact sdA
      refine hK (i + 1) _ ?_ ?_ ?_
      · omega
      · omega
      · refine Le.mk _ _ ?_ ?_ rfl <;> simp only [go_sem, simprocAttr, hf, List.length_append] <;> (repeat' apply And.intro) <;> try exact leA
    · simp only [decide_eq_true_eq, decide_eq_false_iff_not, Bool.and_eq_true, Bool.or_eq_true, Bool.not_eq_true', Bool.not_eq_false', Bool.and_eq_false_iff, Bool.or_eq_false_iff, Int.ofNat_lt, Int.ofNat_le, Nat.not_lt, Nat.not_le, Int.not_lt, Int.not_le] at hci
      refine aw_exit ?_
      simp only [go_sem, simprocAttr]
      refine aw_seq (aw_region (EF := EF0) hG (by rw [hN]; exact tr4_17) ?_)
      simp only [a4_17, go_sem, simprocAttr]
      have hie : i = l.length := by omega
      subst hie
      refine AW.le (s' := ⟨mkE [(2, .list (faults (confTo l l.length)) false)], mkH []⟩) (Le.mk _ _ ?_ ?_ rfl) (aw_ret (hQ _ _ (.inl rfl) ?_ ?_ ?_)) <;> simp only [outφ, outV, AR.res, go_sem, simprocAttr, fCheck, confFaults]
      exact wk_frz rfl (by rw [faults_len]) rfl (faults_pur _)
set_option linter.unusedSimpArgs false
set_option linter.unusedVariables false
set_option linter.deprecated false
def chk (nb na : Nat) (g : List Fault) (pos : List UInt8) : List (Nat × Ob) := [(nb, .box 98 [.own na g.length, .str pos]), (na, .arr 51 2 (faults g))]
set_option maxHeartbeats 1000000 in
theorem add_e (g : List Fault) (pos : List UInt8) (b : Bool) (e : Int) (hg : g.length ≤ 5000000000000) :
    Eff Tryd.prog UT 41 [.ptr 1000 0, .bool b, .int .i64 e] (chk 1000 1001 g pos) (.tup []) (chk 1000 1001 (g ++ fIf b e pos) pos) := by
  have hG := tNo_ok
  refine Eff.of_aw Tryd.func41 body41 nm41 res41 (by rw [nt41]; simp) fun C hN Q hQ => ?_
  rw [nt41] at hN
  unfold c41
  refine aw_seq (aw_region (EF := EF0) hG (by rw [hN]; exact tr41_0) ?_)
  simp only [a41_0, go_sem, simprocAttr, chk]
  refine aw_cond (b := _) rfl (fun hb => ?_) (fun hb => ?_)
  · refine aw_regionD (EF := EF0) hG mixed (by rw [hN]; exact tr41_1) ok41_1 ?_
    simp only [a41_1, d41_1, go_sem, simprocAttr]
    (repeat' apply And.intro) <;> try exact sdA
    show Q _ _
    refine hQ _ _ ⟨mkE [], mkH (chk 1000 1001 (g ++ fIf b e pos) pos)⟩ (.inr rfl) (Le.mk _ _ ?_ ?_ rfl) rfl ?_ ?_ <;> simp only [outφ, outV, AR.res, go_sem, simprocAttr, chk, hb, fIf, List.length_append]
  · refine aw_skip ?_
    show Q _ _
    refine hQ _ _ ⟨mkE [], mkH (chk 1000 1001 (g ++ fIf b e pos) pos)⟩ (.inr rfl) (Le.mk _ _ ?_ ?_ rfl) rfl ?_ ?_ <;> simp only [outφ, outV, AR.res, go_sem, simprocAttr, chk, hb, fIf, Bool.false_eq_true, if_false, List.append_nil]
theorem add_use {d : Option Nat} {s : St} {K : St → Prop} {nb na : Nat} {g : List Fault} {pos : List UInt8} {b : Bool} {e : Int} (hb : s.h nb = some (.box 98 [.own na g.length, .str pos])) (ha : s.h na = some (.arr 51 2 (faults g))) (hne : nb ≠ na) (hg : g.length ≤ 5000000000000)
    (hK : K ⟨setE d (.tup []) s.e, hov (chk nb na (g ++ fIf b e pos) pos) s.h⟩) : EStep Tryd.prog UT d 41 [.ptr nb 0, .bool b, .int .i64 e] s K := by
  have hne2 : na ≠ nb := Ne.symm hne
  refine ⟨[(1000, nb), (1001, na)], [], _, _, _, _, add_e g pos b e hg, ⟨by simp [okL, hne], rfl, rfl, by simp, by simp, ?_, by simp [V.rens, V.ren, rni], by simp [V.nins, V.nin], by simp [V.nin, V.nins], ?_, ?_⟩, ?_⟩
  · intro p hp
    simp only [List.mem_cons, List.not_mem_nil, or_false] at hp
    rcases hp with rfl | rfl
    · exact ⟨_, hb, by simp [chk, mkH, Ob.ren, renR_pure (faults_pur _), V.rens, V.ren, rni, hne2], by simp [Ob.nin, true_or, V.nins, V.nin]⟩
    · exact ⟨_, ha, by simp [chk, mkH, Ob.ren, renR_pure (faults_pur _)], by simp only [Ob.nin, true_or, faults_purT]⟩
  · intro q hq
    simp only [chk, List.mem_cons, List.not_mem_nil, or_false] at hq
    rcases hq with rfl | rfl
    · simp [Ob.nin, true_or, V.nins, V.nin, chk]
    · simp only [Ob.nin, true_or, faults_purT]
  · intro p hp o o' h1 h2
    simp only [List.mem_cons, List.not_mem_nil, or_false] at hp
    rcases hp with rfl | rfl <;> simp [chk, mkH] at h1 h2 <;> subst h1 h2 <;> simp [Ob.kind]
  · have e1 : (V.tup []).ren (rn ([(1000, nb), (1001, na)] ++ [])) = .tup [] := by simp [V.ren, V.rens]
    have e2 : (chk 1000 1001 (g ++ fIf b e pos) pos).map (fun q => (rn ([(1000, nb), (1001, na)] ++ []) q.1, q.2.ren (rn ([(1000, nb), (1001, na)] ++ [])))) = chk nb na (g ++ fIf b e pos) pos := by
      simp [chk, rn, Ob.ren, renR_pure (faults_pur _), V.rens, V.ren]
    rw [e1, e2]
    exact hK
set_option linter.unusedSimpArgs false
set_option linter.unusedVariables false
set_option linter.deprecated false
def EFc : Nat → Bool := fun f => f == 41
def posTo (path : List UInt8) : Nat → List UInt8
  | 0 => path
  | k + 1 => at1 path sClass k
theorem inR_or (y : Cabin) : (!inR y) = (decide (y.seats < 1) || decide (999 < y.seats) || decide (y.over < 0) || decide (999 < y.over)) := by
  unfold inR
  rw [Bool.eq_iff_iff]
  simp only [Bool.not_eq_true', Bool.and_eq_false_iff, decide_eq_false_iff_not, Bool.or_eq_true, decide_eq_true_eq]
  omega
def stCm (y : Cabin) (path : List UInt8) (g : List Fault) (pos : List UInt8) (prev : List (List UInt8)) (more : List (Nat × V)) (moreH : List (Nat × Ob)) : St :=
  ⟨mkE ([(0, .ptr 1000 0), (2, .map 1002), (4, .ptr 4 0), (6, .str path), (7, .bool (!inR y))] ++ more), mkH (chk 1000 1001 g pos ++ [(1002, .mp (smap prev)), (4, .box 89 y.enc)] ++ moreH)⟩
noncomputable def tCm : Tab
  | 64 => (gOf aCab fAuth)
  | 40 => gDec
  | 63 => gClass
  | _ => gNo
theorem tCm_ok : ∀ f, PureC Tryd.prog UT f (tCm f) := fun f => by
  unfold tCm
  split
  · exact auth_p
  · exact decimal_p
  · exact class_p
  · exact PureC.no
set_option maxHeartbeats 2000000 in
theorem cab_e (y : Cabin) (g : List Fault) (path : List UInt8) (prev : List (List UInt8)) (hy : y.ok) (hsm : y.cl.length ≤ 600000) (hg : g.length ≤ 4900000000000) (hp : path ≠ []) (hpl : path.length ≤ 10000) :
    Eff Tryd.prog UT 43 [.ptr 1000 0, .agg y.enc, .map 1002] (chk 1000 1001 g path ++ [(1002, .mp (smap prev))]) (.tup []) (chk 1000 1001 (g ++ cabTail y path prev) (posTo path y.cl.length) ++ [(1002, .mp (smap (prev ++ codes y.cl)))]) := by
  have hG := tCm_ok
  obtain ⟨nm, se, ov, cl⟩ := y
  dsimp only at hsm
  have hin := inR_or ⟨nm, se, ov, cl⟩
  dsimp only at hin
  refine Eff.of_aw Tryd.func43 body43 nm43 res43 (by rw [nt43]; simp) fun C hN Q hQ => ?_
  rw [nt43] at hN
  unfold c43
  refine aw_seq (aw_region (EF := EFc) hG (by rw [hN]; exact tr43_0) ?_)
  simp only [a43_0, go_sem, simprocAttr, EFc, chk, Cabin.enc]
  refine aw_seq (aw_region (EF := EFc) hG (by rw [hN]; exact tr43_1) ?_)
  simp only [a43_1, go_sem, simprocAttr, EFc]
  refine aw_seq (aw_region (EF := EFc) hG (by rw [hN]; exact tr43_2) ?_)
  simp only [a43_2, go_sem, simprocAttr, EFc]
  rw [← hin]
  refine aw_seq (aw_region (EF := EFc) hG (by rw [hN]; exact tr43_3) ?_)
  simp only [a43_3, go_sem, simprocAttr, EFc]
  refine add_use (nb := 1000) (na := 1001) (by rfl) (by rfl) (by decide) ?_ ?_
  · omega
  have l1 := fIf_len (!inR ⟨nm, se, ov, cl⟩) 2 path
  simp only [go_sem, simprocAttr, chk]
  generalize hg1 : g ++ fIf (!inR ⟨nm, se, ov, cl⟩) 2 path = g1
  have lg1 : g1.length ≤ g.length + 1 := by rw [← hg1, List.length_append]; omega
  refine aw_seq (aw_region (EF := EFc) hG (by rw [hN]; exact tr43_4) ?_)
  simp only [a43_4, go_sem, simprocAttr, EFc]
  refine add_use (nb := 1000) (na := 1001) (by rfl) (by rfl) (by decide) ?_ ?_
  · omega
  have l2 := fIf_len (sizeBad cl.length 1 26) 4 path
  rw [← show sizeBad cl.length 1 26 = (decide ((cl.length : Int) < 1) || decide (26 < (cl.length : Int))) from rfl]
  simp only [go_sem, simprocAttr, chk]
  generalize hg2 : g1 ++ fIf (sizeBad cl.length 1 26) 4 path = g2
  have lg2 : g2.length ≤ g1.length + 1 := by rw [← hg2, List.length_append]; omega
  have hend : ∀ k, g ++ (fIf (!inR ⟨nm, se, ov, cl⟩) 2 path ++ fIf (sizeBad cl.length 1 26) 4 path ++ clsTo ⟨nm, se, ov, cl⟩ path prev k) = g2 ++ clsTo ⟨nm, se, ov, cl⟩ path prev k := by
    intro k; rw [← hg2, ← hg1]; simp only [List.append_assoc]
  refine aw_seq (aw_region (EF := EFc) hG (by rw [hN]; exact tr43_5) ?_)
  simp only [a43_5, go_sem, simprocAttr, EFc]
  refine aw_block ?_
  refine aw_loop (α := Nat) (fun k => k ≤ cl.length) (fun k => stCm ⟨nm, se, ov, cl⟩ path (g2 ++ clsTo ⟨nm, se, ov, cl⟩ path prev k) (posTo path k) (prev ++ codes (cl.take k)) [(48, .list (cl.map Class.enc) false), (49, .int .i64 cl.length), (50, .int .i64 k)] []) (fun k => cl.length - k) 0 (Nat.zero_le _) ?_ ?_
  · have e1 : g2 ++ clsTo ⟨nm, se, ov, cl⟩ path prev 0 = g2 := List.append_nil _
    have e2 : prev ++ codes (cl.take 0) = prev := List.append_nil _
    simp only [e1, e2, posTo]
    refine Le.mk _ _ ?_ ?_ rfl <;> simp only [go_sem, simprocAttr, chk, Cabin.enc] <;> (repeat' apply And.intro) <;> try exact leA
  · rintro i hi K hK
    refine aw_seq ?_
    refine aw_region (EF := EFc) hG (by rw [hN]; exact tr43_6) ?_
    simp only [a43_6, go_sem, simprocAttr, EFc, stCm, chk, Cabin.enc]
    refine aw_seq ?_
    refine aw_cond (b := _) rfl (fun hci => ?_) (fun hci => ?_)
    · simp only [decide_eq_true_eq, decide_eq_false_iff_not, Bool.and_eq_true, Bool.or_eq_true, Bool.not_eq_true', Bool.not_eq_false', Bool.and_eq_false_iff, Bool.or_eq_false_iff, Int.ofNat_lt, Int.ofNat_le, Nat.not_lt, Nat.not_le, Int.not_lt, Int.not_le] at hci
      have hz := hy.2.2.2.2 _ (List.getElem_mem hci)
      have hlen := clsTo_len ⟨nm, se, ov, cl⟩ path prev i
      have hstep : clsTo ⟨nm, se, ov, cl⟩ path prev (i + 1) = clsTo ⟨nm, se, ov, cl⟩ path prev i ++ (fIf (!classB cl[i].code) 16 (at1 path sClass i) ++ fIf (seen (prev ++ codes (cl.take i)) cl[i].code) 6 (at1 path sClass i) ++ fIf (protBad ⟨nm, se, ov, cl⟩ i) 2 (at1 path sClass i)) := by
        rw [clsTo, clsOne]; simp only [getD_lt _ _ _ hci]
      generalize clsTo ⟨nm, se, ov, cl⟩ path prev i = fl at hlen hstep
      have hpr1 : prev ++ codes (cl.take (i + 1)) = (prev ++ codes (cl.take i)) ++ [cl[i].code] := by rw [codes_take_succ _ _ hci, List.append_assoc]
      have hpos : posTo path (i + 1) = at1 path sClass i := rfl
      generalize prev ++ codes (cl.take i) = pr at hstep hpr1
      generalize posTo path i = pos0
      have hd := dec_lenN (i := i) (by omega)
      have hat : path ++ [32, 99, 108, 97, 115, 115, 32] ++ dec i = at1 path sClass i := by
        unfold at1 sClass; rw [if_neg hp]; simp
      have hatl := at1_len path sClass (i := i) (by omega)
      have hw : sClass.length = 5 := rfl
      have hi2 : inI (i : Int) := ⟨by omega, by omega⟩
      refine aw_skip ?_
      simp only [go_sem, simprocAttr]
      refine aw_seq ?_
      refine aw_block ?_
      refine aw_seq (aw_region (EF := EFc) hG (by rw [hN]; exact tr43_7) ?_)
      simp only [a43_7, go_sem, simprocAttr, EFc, getD_map _ _ _ hci, hci, Class.enc]
      refine aw_seq (aw_region (EF := EFc) hG (by rw [hN]; exact tr43_8) ?_)
      simp only [a43_8, go_sem, simprocAttr, EFc, tCm, gDec, hi2, hat]
      (repeat' apply And.intro) <;> (try first | omega | ((fail_if_success refine idW ?_); (fail_if_success refine idS ?_); intros; (repeat' apply And.intro) <;> first | assumption | omega | (simp_all; done)) | (simp only [List.length_append, List.length_cons, List.length_nil]; omega))
      generalize at1 path sClass i = pos at hstep hatl hpos
      refine aw_seq (aw_region (EF := EFc) hG (by rw [hN]; exact tr43_9) ?_)
      simp only [a43_9, go_sem, simprocAttr, EFc, tCm, gClass, hz.1]
      refine add_use (nb := 1000) (na := 1001) (by rfl) (by rfl) (by decide) ?_ ?_
      · rw [List.length_append]; omega
      have l3 := fIf_len (!classB cl[i].code) 16 pos
      simp only [go_sem, simprocAttr, chk]
      generalize hg3 : (g2 ++ fl) ++ fIf (!classB cl[i].code) 16 pos = g3
      have lg3 : g3.length ≤ g2.length + fl.length + 1 := by rw [← hg3, List.length_append, List.length_append]; omega
      refine aw_seq (aw_region (EF := EFc) hG (by rw [hN]; exact tr43_10) ?_)
      simp only [a43_10, go_sem, simprocAttr, EFc]
      refine add_use (nb := 1000) (na := 1001) (by rfl) (by rfl) (by decide) ?_ ?_
      · omega
      have l4 := fIf_len (seen pr cl[i].code) 6 pos
      simp only [go_sem, simprocAttr, chk]
      generalize hg4 : g3 ++ fIf (seen pr cl[i].code) 6 pos = g4
      have lg4 : g4.length ≤ g3.length + 1 := by rw [← hg4, List.length_append]; omega
      refine aw_seq (aw_region (EF := EFc) hG (by rw [hN]; exact tr43_11) ?_)
      simp only [a43_11, go_sem, simprocAttr, EFc]
      have hi1 : i - 1 < cl.length := by omega
      have e1 : ((i : Int) - 1).toNat = i - 1 := by omega
      have e2 : inI ((i : Int) - 1) := ⟨by omega, by omega⟩
      have hau : inR ⟨nm, se, ov, cl⟩ = true → inI (se + ov) := inR_auth
      refine aw_regionD (EF := EFc) hG mixed (by rw [hN]; exact tr43_12) ok43_12 ?_
      simp only [a43_12, d43_12, go_sem, simprocAttr, EFc, tCm, fAuth_eq, e1, e2, getD_map _ _ _ hi1, hi1, Class.enc, Bool.not_not]
      (repeat' apply And.intro) <;> (try first | omega | ((fail_if_success refine idW ?_); (fail_if_success refine idS ?_); intros; (repeat' apply And.intro) <;> first | assumption | omega | (simp_all; done)) | (intro h; simp_all; done) | (intro h; simp_all; omega))
      have hpb : protBad ⟨nm, se, ov, cl⟩ i = (decide (cl[i].prot < 0) || decide (0 < i) && decide (cl[i].prot < cl[i - 1].prot) || inR ⟨nm, se, ov, cl⟩ && decide (se + ov < cl[i].prot)) := by
        unfold protBad auth; simp only [getD_lt _ _ _ hci, getD_lt _ _ _ hi1]
      have hcast : decide (0 < (i : Int)) = decide (0 < i) := by simp
      rw [hcast, ← hpb]
      refine add_use (nb := 1000) (na := 1001) (by rfl) (by rfl) (by decide) ?_ ?_
      · omega
      have hf : g2 ++ clsTo ⟨nm, se, ov, cl⟩ path prev (i + 1) = g4 ++ fIf (protBad ⟨nm, se, ov, cl⟩ i) 2 pos := by rw [hstep, ← hg4, ← hg3]; simp only [List.append_assoc]
      simp only [go_sem, simprocAttr, chk]
      refine aw_region (EF := EFc) hG (by rw [hN]; exact tr43_13) ?_
      simp only [a43_13, go_sem, simprocAttr, EFc, inI]
      (repeat' apply And.intro) <;> try exact sdA
      refine hK (i + 1) _ ?_ ?_ ?_
      · omega
      · omega
      · refine Le.mk _ _ ?_ ?_ rfl <;> simp only [go_sem, simprocAttr, hf, hpr1, hpos, chk, Cabin.enc] <;> (repeat' apply And.intro) <;> try exact leA
    · simp only [decide_eq_true_eq, decide_eq_false_iff_not, Bool.and_eq_true, Bool.or_eq_true, Bool.not_eq_true', Bool.not_eq_false', Bool.and_eq_false_iff, Bool.or_eq_false_iff, Int.ofNat_lt, Int.ofNat_le, Nat.not_lt, Nat.not_le, Int.not_lt, Int.not_le] at hci
      refine aw_exit ?_
      simp only [go_sem, simprocAttr]
      have hie : i = cl.length := by omega
      subst hie
      show Q _ _
      refine hQ _ _ ⟨mkE [], mkH (chk 1000 1001 (g ++ cabTail ⟨nm, se, ov, cl⟩ path prev) (posTo path cl.length) ++ [(1002, .mp (smap (prev ++ codes cl)))])⟩ (.inr rfl) (Le.mk _ _ ?_ ?_ rfl) rfl ?_ ?_ <;> simp only [outφ, outV, AR.res, go_sem, simprocAttr, chk, cabTail, hend, List.take_length]
set_option linter.unusedSimpArgs false
set_option linter.unusedVariables false
set_option linter.deprecated false
theorem cab_use {d : Option Nat} {s : St} {K : St → Prop} {nb na nm : Nat} (y : Cabin) (prev : List (List UInt8)) {g : List Fault} {path : List UInt8} (hb : s.h nb = some (.box 98 [.own na g.length, .str path])) (ha : s.h na = some (.arr 51 2 (faults g))) (hm : s.h nm = some (.mp (smap prev))) (h1 : nb ≠ na) (h2 : nb ≠ nm) (h3 : na ≠ nm)
    (hc : y.ok ∧ y.cl.length ≤ 600000 ∧ g.length ≤ 4900000000000 ∧ path ≠ [] ∧ path.length ≤ 10000)
    (hK : K ⟨setE d (.tup []) s.e, hov (chk nb na (g ++ cabTail y path prev) (posTo path y.cl.length) ++ [(nm, .mp (smap (prev ++ codes y.cl)))]) s.h⟩) : EStep Tryd.prog UT d 43 [.ptr nb 0, .agg y.enc, .map nm] s K := by
  obtain ⟨hy, hsm, hg, hp, hpl⟩ := hc
  have h1' := Ne.symm h1
  have h2' := Ne.symm h2
  have h3' := Ne.symm h3
  refine ⟨[(1000, nb), (1001, na), (1002, nm)], [], _, _, _, _, cab_e y g path prev hy hsm hg hp hpl, ⟨by simp [okL, h1, h2, h3], rfl, rfl, by simp, by simp, ?_, by simp [V.rens, V.ren, rni, Cabin.enc, h2', h3', h1'], by simp [V.nins, V.nin, Cabin.enc], by simp [V.nin, V.nins], ?_, ?_⟩, ?_⟩
  · intro p hp
    simp only [List.mem_cons, List.not_mem_nil, or_false] at hp
    rcases hp with rfl | rfl | rfl
    · exact ⟨_, hb, by simp [chk, mkH, Ob.ren, renR_pure (faults_pur _), V.rens, V.ren, rni, h1'], by simp [Ob.nin, true_or, V.nins, V.nin]⟩
    · exact ⟨_, ha, by simp [chk, mkH, Ob.ren, renR_pure (faults_pur _)], by simp only [Ob.nin, true_or, faults_purT]⟩
    · exact ⟨_, hm, by simp [chk, mkH, Ob.ren, renR_pure (faults_pur _), smap_ren], by simp only [Ob.nin, true_or, smap_ninT]⟩
  · intro q hq
    simp only [chk, List.mem_append, List.mem_cons, List.not_mem_nil, or_false] at hq
    rcases hq with (rfl | rfl) | rfl
    · simp [Ob.nin, true_or, V.nins, V.nin, chk]
    · simp only [Ob.nin, true_or, faults_purT]
    · simp only [Ob.nin, true_or, smap_ninT]
  · intro p hp o o' h1 h2
    simp only [List.mem_cons, List.not_mem_nil, or_false] at hp
    rcases hp with rfl | rfl | rfl <;> simp [chk, mkH] at h1 h2 <;> subst h1 h2 <;> simp [Ob.kind]
  · have e1 : (V.tup []).ren (rn ([(1000, nb), (1001, na), (1002, nm)] ++ [])) = .tup [] := by simp [V.ren, V.rens]
    have e2 : (chk 1000 1001 (g ++ cabTail y path prev) (posTo path y.cl.length) ++ [(1002, Ob.mp (smap (prev ++ codes y.cl)))]).map (fun q : Nat × Ob => (rn ([(1000, nb), (1001, na), (1002, nm)] ++ []) q.1, q.2.ren (rn ([(1000, nb), (1001, na), (1002, nm)] ++ [])))) = chk nb na (g ++ cabTail y path prev) (posTo path y.cl.length) ++ [(nm, .mp (smap (prev ++ codes y.cl)))] := by
      simp [chk, rn, Ob.ren, renR_pure (faults_pur _), V.rens, V.ren, smap_ren]
    rw [e1, e2]
    exact hK
def EFk : Nat → Bool := fun f => f == 41 || f == 43
def stKc (l : List Config) (i : Nat) (g : List Fault) (pos : List UInt8) (more : List (Nat × V)) (moreH : List (Nat × Ob)) : St :=
  ⟨mkE ([(3, .ptr 3 0), (4, .map 12), (13, .list (l.map Config.enc) false), (14, .int .i64 l.length), (15, .int .i64 i)] ++ more), mkH (chk 3 900 g pos ++ [(12, .mp (smap ((l.take i).map Config.equip)))] ++ moreH)⟩
def stKc2 (l : List Config) (i : Nat) (pv : List (List UInt8)) (nm path : List UInt8) (cabs : List Cabin) (k : Nat) (g : List Fault) (pos : List UInt8) (moreH : List (Nat × Ob)) : St :=
  ⟨mkE [(3, .ptr 3 0), (4, .map 12), (7, .str path), (8, .map 49), (9, .map 50), (13, .list (l.map Config.enc) false), (14, .int .i64 l.length), (15, .int .i64 i), (52, .list (cabs.map Cabin.enc) false), (53, .int .i64 cabs.length), (54, .int .i64 k)],
   mkH (chk 3 900 g pos ++ [(12, .mp (smap (pv ++ [nm]))), (49, .mp (smap ((cabs.take k).map Cabin.name))), (50, .mp (smap (prevCodes cabs k)))] ++ moreH)⟩
noncomputable def tCk : Tab
  | 40 => gDec
  | 42 => gCode
  | _ => gNo
theorem tCk_ok : ∀ f, PureC Tryd.prog UT f (tCk f) := fun f => by
  unfold tCk
  split
  · exact decimal_p
  · exact code_p
  · exact PureC.no
set_option maxHeartbeats 2000000 in
theorem check_p : PureC Tryd.prog UT 19 (gOf aCheck fCheck) := by
  have hG := tCk_ok
  refine PureC.ofArgs aCheck_inj Tryd.func19 body19 nm19 res19 ?_
  rintro l hv
  refine ⟨by rw [nt19]; simp [aCheck], fun C hN Q hQ => ?_⟩
  rw [nt19] at hN
  unfold c19
  obtain ⟨hl, hok, hcb, hcl⟩ : SmallL l := hv
  have hw : sConfig.length = 6 := rfl
  have hw2 : sCabin.length = 5 := rfl
  refine aw_seq (aw_region (EF := EFk) hG (by rw [hN]; exact tr19_0) ?_)
  simp only [a19_0, go_sem, simprocAttr, EFk, aCheck]
  refine aw_seq (aw_region (EF := EFk) hG (by rw [hN]; exact tr19_1) ?_)
  simp only [a19_1, go_sem, simprocAttr, EFk]
  refine aw_seq (aw_region (EF := EFk) hG (by rw [hN]; exact tr19_2) ?_)
  simp only [a19_2, go_sem, simprocAttr, EFk]
  refine aw_seq ?_
  refine aw_seq (aw_region (EF := EFk) hG (by rw [hN]; exact tr19_3) ?_)
  simp only [a19_3, go_sem, simprocAttr, EFk]
  refine aw_block ?_
  refine aw_loop (α := Nat × List UInt8) (fun i => i.1 ≤ l.length) (fun i => stKc l i.1 (confTo l i.1) i.2 [] []) (fun i => l.length - i.1) (0, []) (Nat.zero_le _) ?_ ?_
  · refine Le.mk _ _ ?_ ?_ rfl <;> simp only [go_sem, simprocAttr, stKc, chk] <;> (repeat' apply And.intro) <;> try exact leA
    try exact ⟨.nilo 900 51 2 rfl rfl, rfl, rfl⟩
  · rintro ⟨i, pos0⟩ hi K hK
    dsimp only at hi
    refine aw_seq ?_
    refine aw_region (EF := EFk) hG (by rw [hN]; exact tr19_4) ?_
    simp only [a19_4, go_sem, simprocAttr, EFk, stKc, chk]
    refine aw_seq ?_
    refine aw_cond (b := _) rfl (fun hci => ?_) (fun hci => ?_)
    · simp only [decide_eq_true_eq, decide_eq_false_iff_not, Bool.and_eq_true, Bool.or_eq_true, Bool.not_eq_true', Bool.not_eq_false', Bool.and_eq_false_iff, Bool.or_eq_false_iff, Int.ofNat_lt, Int.ofNat_le, Nat.not_lt, Nat.not_le, Int.not_lt, Int.not_le] at hci
      have hx := hok _ (List.getElem_mem hci)
      have hxl := hcb _ (List.getElem_mem hci)
      have hxc := hcl _ (List.getElem_mem hci)
      have hat := at1_len [] sConfig (i := i) (by omega)
      rw [hw, List.length_nil] at hat
      have hlen := confTo_len l i hcb hcl
      have hstep : confTo l (i + 1) = confTo l i ++ (fIf (!codeB l[i].equip 3 3) 5 (at1 [] sConfig i) ++ fIf (seen ((l.take i).map Config.equip) l[i].equip) 6 (at1 [] sConfig i) ++ fIf (sizeBad l[i].cabs.length 1 4) 4 (at1 [] sConfig i) ++ cabTo l[i].cabs (at1 [] sConfig i) l[i].cabs.length) := by
        rw [confTo, confOne]; simp only [getD_lt _ _ _ hci]
      generalize confTo l i = fl at hlen hstep
      have hd := dec_lenN (i := i) (by omega)
      have hi2 : inI (i : Int) := ⟨by omega, by omega⟩
      have hath : [99, 111, 110, 102, 105, 103, 32] ++ dec i = at1 [] sConfig i := rfl
      have hpe := equips_succ l i hci
      generalize hyy : l[i] = x at hstep hx hxl hxc hpe
      obtain ⟨nm, cabs⟩ := x
      dsimp only at hstep hxl hxc hpe
      have hnm : nm.length ≤ 140737488355328 := hx.1
      generalize hpv : (l.take i).map Config.equip = pv at hpe hstep
      refine aw_skip ?_
      simp only [go_sem, simprocAttr]
      refine aw_seq ?_
      refine aw_block ?_
      refine aw_seq (aw_region (EF := EFk) hG (by rw [hN]; exact tr19_5) ?_)
      simp only [a19_5, go_sem, simprocAttr, EFk, getD_map _ _ _ hci, hci, hyy, Config.enc]
      refine aw_seq (aw_region (EF := EFk) hG (by rw [hN]; exact tr19_6) ?_)
      simp only [a19_6, go_sem, simprocAttr, EFk, tCk, gDec, hi2, hath]
      (repeat' apply And.intro) <;> (try first | omega | ((fail_if_success refine idW ?_); (fail_if_success refine idS ?_); intros; (repeat' apply And.intro) <;> first | assumption | omega | (simp_all; done)) | (simp only [List.length_append, List.length_cons, List.length_nil]; omega))
      have hpn : at1 [] sConfig i ≠ [] := by unfold at1 sConfig; simp
      generalize at1 [] sConfig i = path at hstep hat hpn
      refine aw_seq (aw_region (EF := EFk) hG (by rw [hN]; exact tr19_7) ?_)
      simp only [a19_7, go_sem, simprocAttr, EFk]
      refine aw_seq (aw_region (EF := EFk) hG (by rw [hN]; exact tr19_8) ?_)
      simp only [a19_8, go_sem, simprocAttr, EFk, tCk, fCode_eq, hnm]
      refine add_use (nb := 3) (na := 900) (by rfl) (by rfl) (by decide) ?_ ?_
      · omega
      have l1 := fIf_len (!codeB nm 3 3) 5 path
      simp only [go_sem, simprocAttr, chk]
      generalize hg1 : fl ++ fIf (!codeB nm 3 3) 5 path = g1
      have lg1 : g1.length ≤ fl.length + 1 := by rw [← hg1, List.length_append]; omega
      refine aw_seq (aw_region (EF := EFk) hG (by rw [hN]; exact tr19_9) ?_)
      simp only [a19_9, go_sem, simprocAttr, EFk]
      refine add_use (nb := 3) (na := 900) (by rfl) (by rfl) (by decide) ?_ ?_
      · omega
      have l2 := fIf_len (seen pv nm) 6 path
      simp only [go_sem, simprocAttr, chk]
      generalize hg2 : g1 ++ fIf (seen pv nm) 6 path = g2
      have lg2 : g2.length ≤ g1.length + 1 := by rw [← hg2, List.length_append]; omega
      refine aw_seq (aw_region (EF := EFk) hG (by rw [hN]; exact tr19_10) ?_)
      simp only [a19_10, go_sem, simprocAttr, EFk]
      rw [← show sizeBad cabs.length 1 4 = (decide ((cabs.length : Int) < 1) || decide (4 < (cabs.length : Int))) from rfl]
      refine add_use (nb := 3) (na := 900) (by rfl) (by rfl) (by decide) ?_ ?_
      · omega
      have l3 := fIf_len (sizeBad cabs.length 1 4) 4 path
      simp only [go_sem, simprocAttr, chk]
      generalize hg3 : g2 ++ fIf (sizeBad cabs.length 1 4) 4 path = g3
      have lg3 : g3.length ≤ g2.length + 1 := by rw [← hg3, List.length_append]; omega
      refine aw_seq (aw_region (EF := EFk) hG (by rw [hN]; exact tr19_11) ?_)
      simp only [a19_11, go_sem, simprocAttr, EFk]
      refine aw_seq (aw_region (EF := EFk) hG (by rw [hN]; exact tr19_12) ?_)
      simp only [a19_12, go_sem, simprocAttr, EFk]
      refine aw_seq (aw_region (EF := EFk) hG (by rw [hN]; exact tr19_13) ?_)
      simp only [a19_13, go_sem, simprocAttr, EFk]
      refine aw_block ?_
      refine aw_loop (α := Nat × List UInt8) (fun k => k.1 ≤ cabs.length) (fun k => stKc2 l i pv nm path cabs k.1 (g3 ++ cabTo cabs path k.1) k.2 []) (fun k => cabs.length - k.1) (0, path) (Nat.zero_le _) ?_ ?_
      · refine Le.mk _ _ ?_ ?_ rfl <;> simp only [go_sem, simprocAttr, stKc2, chk, cabTo, prevCodes, List.append_nil] <;> (repeat' apply And.intro) <;> try exact leA
        try rfl
      · rintro ⟨k, pos1⟩ hk K2 hK2
        dsimp only at hk
        refine aw_seq ?_
        refine aw_region (EF := EFk) hG (by rw [hN]; exact tr19_14) ?_
        simp only [a19_14, go_sem, simprocAttr, EFk, stKc2, chk]
        refine aw_seq ?_
        refine aw_cond (b := _) rfl (fun hck => ?_) (fun hck => ?_)
        · simp only [decide_eq_true_eq, decide_eq_false_iff_not, Bool.and_eq_true, Bool.or_eq_true, Bool.not_eq_true', Bool.not_eq_false', Bool.and_eq_false_iff, Bool.or_eq_false_iff, Int.ofNat_lt, Int.ofNat_le, Nat.not_lt, Nat.not_le, Int.not_lt, Int.not_le] at hck
          have hy := hx.2.2 _ (List.getElem_mem hck)
          have hyl := hxc _ (List.getElem_mem hck)
          have hlen2 := cabTo_len cabs path k hxc
          have hat2 := at1_len path sCabin (i := k) (by omega)
          have hatn : at1 path sCabin k ≠ [] := by unfold at1 sCabin; simp
          have hstep2 : cabTo cabs path (k + 1) = cabTo cabs path k ++ (fIf (!codeB cabs[k].name 1 8) 5 (at1 path sCabin k) ++ fIf (seen ((cabs.take k).map Cabin.name) cabs[k].name) 6 (at1 path sCabin k) ++ cabTail cabs[k] (at1 path sCabin k) (prevCodes cabs k)) := by
            rw [cabTo, cabOne]; simp only [getD_lt _ _ _ hck]
          generalize cabTo cabs path k = fc at hlen2 hstep2
          have hd2 := dec_lenN (i := k) (by omega)
          have hk2 : inI (k : Int) := ⟨by omega, by omega⟩
          have hatk : path ++ [32, 99, 97, 98, 105, 110, 32] ++ dec k = at1 path sCabin k := by
            unfold at1 sCabin; rw [if_neg hpn]; simp
          have hpe2 := names_succ cabs k hck
          have hpc2 := prevCodes_succ cabs k hck
          generalize hyy2 : cabs[k] = y at hstep2 hy hyl hpe2 hpc2
          have hynm : y.name.length ≤ 140737488355328 := hy.1
          generalize hpv2 : (cabs.take k).map Cabin.name = pv2 at hpe2 hstep2
          generalize hpc : prevCodes cabs k = pc at hpc2 hstep2
          refine aw_skip ?_
          simp only [go_sem, simprocAttr]
          refine aw_seq ?_
          refine aw_block ?_
          refine aw_seq (aw_region (EF := EFk) hG (by rw [hN]; exact tr19_15) ?_)
          simp only [a19_15, go_sem, simprocAttr, EFk, getD_map _ _ _ hck, hck, hyy2, Cabin.enc]
          refine aw_seq (aw_region (EF := EFk) hG (by rw [hN]; exact tr19_16) ?_)
          simp only [a19_16, go_sem, simprocAttr, EFk, tCk, gDec, hk2, hatk]
          (repeat' apply And.intro) <;> (try first | omega | ((fail_if_success refine idW ?_); (fail_if_success refine idS ?_); intros; (repeat' apply And.intro) <;> first | assumption | omega | (simp_all; done)) | (simp only [List.length_append, List.length_cons, List.length_nil]; omega))
          generalize at1 path sCabin k = pos at hstep2 hat2 hatn
          refine aw_seq (aw_region (EF := EFk) hG (by rw [hN]; exact tr19_17) ?_)
          simp only [a19_17, go_sem, simprocAttr, EFk, tCk, fCode_eq, hynm]
          refine add_use (nb := 3) (na := 900) (by rfl) (by rfl) (by decide) ?_ ?_
          · rw [List.length_append]; omega
          have l4 := fIf_len (!codeB y.name 1 8) 5 pos
          simp only [go_sem, simprocAttr, chk]
          generalize hg4 : (g3 ++ fc) ++ fIf (!codeB y.name 1 8) 5 pos = g4
          have lg4 : g4.length ≤ g3.length + fc.length + 1 := by rw [← hg4, List.length_append, List.length_append]; omega
          refine aw_seq (aw_region (EF := EFk) hG (by rw [hN]; exact tr19_18) ?_)
          simp only [a19_18, go_sem, simprocAttr, EFk]
          refine add_use (nb := 3) (na := 900) (by rfl) (by rfl) (by decide) ?_ ?_
          · omega
          have l5 := fIf_len (seen pv2 y.name) 6 pos
          simp only [go_sem, simprocAttr, chk]
          generalize hg5 : g4 ++ fIf (seen pv2 y.name) 6 pos = g5
          have lg5 : g5.length ≤ g4.length + 1 := by rw [← hg5, List.length_append]; omega
          refine aw_seq (aw_region (EF := EFk) hG (by rw [hN]; exact tr19_19) ?_)
          simp only [a19_19, go_sem, simprocAttr, EFk]
          refine aw_region (EF := EFk) hG (by rw [hN]; exact tr19_20) ?_
          simp only [a19_20, go_sem, simprocAttr, EFk]
          refine cab_use (nb := 3) (na := 900) (nm := 50) y pc (by rfl) (by rfl) (by rfl) (by decide) (by decide) (by decide) ?_ ?_
          · exact ⟨hy, hyl, by omega, hatn, by omega⟩
          have hf : g3 ++ cabTo cabs path (k + 1) = g5 ++ cabTail y pos pc := by rw [hstep2, ← hg5, ← hg4]; simp only [List.append_assoc]
          simp only [go_sem, simprocAttr, chk]
          refine aw_region (EF := EFk) hG (by rw [hN]; exact tr19_21) ?_
          simp only [a19_21, go_sem, simprocAttr, EFk, inI]
          (repeat' apply And.intro) <;> try exact sdA
          refine hK2 (k + 1, posTo pos y.cl.length) _ ?_ ?_ ?_
          · exact hck
          · show cabs.length - (k + 1) < cabs.length - k; omega
          · refine Le.mk _ _ ?_ ?_ rfl <;> simp only [go_sem, simprocAttr, stKc2, hf, hpe2, hpc2, chk, List.append_assoc] <;> (repeat' apply And.intro) <;> try exact leA
        · simp only [decide_eq_true_eq, decide_eq_false_iff_not, Bool.and_eq_true, Bool.or_eq_true, Bool.not_eq_true', Bool.not_eq_false', Bool.and_eq_false_iff, Bool.or_eq_false_iff, Int.ofNat_lt, Int.ofNat_le, Nat.not_lt, Nat.not_le, Int.not_lt, Int.not_le] at hck
          refine aw_exit ?_
          simp only [go_sem, simprocAttr]
          have hie : k = cabs.length := by omega
          subst hie
          have hf : confTo l (i + 1) = g3 ++ cabTo cabs path cabs.length := by rw [hstep, ← hg3, ← hg2, ← hg1]; simp only [List.append_assoc]
          refine aw_region (EF := EFk) hG (by rw [hN]; exact tr19_22) ?_
          simp only [a19_22, go_sem, simprocAttr, EFk, inI]
          (repeat' apply And.intro) <;> try exact sdA
          refine hK (i + 1, pos1) _ ?_ ?_ ?_
          · exact hci
          · show l.length - (i + 1) < l.length - i; omega
          · refine Le.mk _ _ ?_ ?_ rfl <;> simp only [go_sem, simprocAttr, stKc, hf, hpe, chk] <;> (repeat' apply And.intro) <;> try exact leA
    · simp only [decide_eq_true_eq, decide_eq_false_iff_not, Bool.and_eq_true, Bool.or_eq_true, Bool.not_eq_true', Bool.not_eq_false', Bool.and_eq_false_iff, Bool.or_eq_false_iff, Int.ofNat_lt, Int.ofNat_le, Nat.not_lt, Nat.not_le, Int.not_lt, Int.not_le] at hci
      refine aw_exit ?_
      simp only [go_sem, simprocAttr]
      have hie : i = l.length := by omega
      subst hie
      refine aw_seq (aw_region (EF := EFk) hG (by rw [hN]; exact tr19_23) ?_)
      simp only [a19_23, go_sem, simprocAttr, EFk]
      refine AW.le (s' := ⟨mkE [(2, .list (faults (confTo l l.length)) false)], mkH []⟩) (Le.mk _ _ ?_ ?_ rfl) (aw_ret (hQ _ _ (.inl rfl) ?_ ?_ ?_)) <;> simp only [outφ, outV, AR.res, go_sem, simprocAttr, fCheck, confFaults]
      exact wk_frz rfl (by rw [faults_len]) rfl (faults_pur _)
set_option linter.unusedSimpArgs false
set_option linter.unusedVariables false
set_option linter.deprecated false
theorem Eff.obs {P : Program} {U : Tbl} {f : Nat} {vs : List V} {hl : List (Nat × Ob)} {v : V} {hl' hl'' : List (Nat × Ob)} (h : Eff P U f vs hl v hl') (e : mkH hl' = mkH hl'') : Eff P U f vs hl v hl'' := by
  unfold Eff EffN EffX at h ⊢
  rw [← e]; exact h
theorem mkH_swap {a b : List (Nat × Ob)} (h : ∀ q ∈ a, q.1 ∉ b.map (·.1)) : mkH (a ++ b) = mkH (b ++ a) := by
  funext n
  rw [mkH_app, mkH_app]
  cases ha : mkH a n with
  | none => cases mkH b n <;> rfl
  | some o =>
    rw [mkH_none (l := b) (n := n) (h _ (mkH_mem ha))]
theorem Fam.congr {K : List Nat} {hl : (Nat → Nat) → List (Nat × Ob)} (hF : Fam K K hl) {ν ν' : Nat → Nat} (h : ∀ k ∈ K, ν k = ν' k) : hl ν = hl ν' := by
  have := hF.rn (ν := ν) (ν' := ν') (σ := fun n => n) h
  rw [← this]
  conv => lhs; rw [← List.map_id (hl ν)]
  exact List.map_congr_left fun q _ => by rw [Ob.ren_same]; rfl
def nm1 (r M : Nat) (ν : Nat → Nat) (k : Nat) : Nat := if k = M then r else ν k
theorem nm1_at (r M : Nat) (ν : Nat → Nat) : nm1 r M ν M = r := if_pos rfl
theorem nm1_ne {r M : Nat} {ν : Nat → Nat} {k : Nat} (h : k ≠ M) : nm1 r M ν k = ν k := if_neg h
theorem stK_M {L : List Leg} (h : LgsB L) {k : Nat} (hk : k ∈ stK L) : k ≠ 10 * L.length + 2 := by have := stK_lt h hk; omega
theorem nm1_inj {r M : Nat} {ν : Nat → Nat} (hν : Inj ν) (hr : ∀ k, ν k ≠ r) : Inj (nm1 r M ν) := fun a b e => by
  unfold nm1 at e
  split at e <;> split at e
  · rename_i h1 h2; rw [h1, h2]
  · exact absurd e.symm (hr b)
  · exact absurd e (hr a)
  · exact hν _ _ e
theorem stO_nm1 {r : Nat} {ν : Nat → Nat} {cs : List Config} {L : List Leg} (h : LgsB L) : stO (nm1 r (10 * L.length + 2) ν) cs L = stO ν cs L := (stO_fam cs L).congr fun k hk => nm1_ne (stK_M h hk)
theorem find_bad {d : Option Nat} {s : St} {K : St → Prop} {cs : List Config} {L : List Leg} {ids : List Lid} {cls : List UInt8} {n : Int} {sale : Bool} {ν : Nat → Nat} (hok : LgsOk L) (hlen : ids.length ≤ 1000000) (hE : findE L ids cls n ≠ 0) (hν : Inj ν) (hat : ∀ q ∈ stO ν cs L, s.h q.1 = some q.2)
    (hK : K ⟨setE d (.tup [.nils, .int .i64 (findE L ids cls n)]) s.e, s.h⟩) : EStep Tryd.prog UT d 23 [.ptr (ν 0) 0, .list (ids.map Lid.enc) false, .str cls, .int .i64 n, .bool sale] s K := by
  have he := find_e cs L ids cls n sale hok hlen
  rw [show findV (findE L ids cls n) 70 (jsOf L ids) = .tup [.nils, .int .i64 (findE L ids cls n)] by unfold findV; rw [if_neg hE], show findO (findE L ids cls n) 70 nu (jsOf L ids) = [] by unfold findO; rw [if_neg hE], List.nil_append] at he
  exact st_use0 he hok.b rfl (fun _ => by simp [V.nins, V.nin]) rfl (fun _ => by simp [V.nins, V.nin]) hν hat hK
theorem find_good {d : Option Nat} {s : St} {K : St → Prop} {cs : List Config} {L : List Leg} {ids : List Lid} {cls : List UInt8} {n : Int} {sale : Bool} {ν : Nat → Nat} {r : Nat} (hok : LgsOk L) (hlen : ids.length ≤ 1000000) (hE : findE L ids cls n = 0) (hν : Inj ν) (hr : ∀ k, ν k ≠ r) (hrn : s.h r = none) (hr1 : r < 1000) (hat : ∀ q ∈ stO ν cs L, s.h q.1 = some q.2)
    (hK : K ⟨setE d (.tup [.own r (jsOf L ids).length, .int .i64 0]) s.e, hupd s.h r (.arr 67 1 (ptR ν (jsOf L ids)))⟩) : EStep Tryd.prog UT d 23 [.ptr (ν 0) 0, .list (ids.map Lid.enc) false, .str cls, .int .i64 n, .bool sale] s K := by
  have hB := hok.b
  have he := find_e cs L ids cls n sale hok hlen
  rw [show findV (findE L ids cls n) 70 (jsOf L ids) = .tup [.own 70 (jsOf L ids).length, .int .i64 0] by unfold findV; rw [if_pos hE], show findO (findE L ids cls n) 70 nu (jsOf L ids) = [(70, .arr 67 1 (ptR nu (jsOf L ids)))] by unfold findO; rw [if_pos hE]] at he
  have he2 := he.obs (mkH_swap (fun q hq hm => by
    rw [List.mem_singleton.1 hq] at hm
    obtain ⟨q2, hq2, e⟩ := List.mem_map.1 hm
    have := stO_ge q2 hq2
    dsimp only at e
    omega))
  obtain ⟨M, hM⟩ : ∃ M, M = 10 * L.length + 2 := ⟨_, rfl⟩
  have hjl := jsOf_lt (L := L) (ids := ids)
  have jM : ∀ k ∈ stK L, k ≠ M := fun k hk => by rw [hM]; exact stK_M hB hk
  have e1 : ∀ (r : Nat) (ν : Nat → Nat), stO (nm1 r M ν) cs L = stO ν cs L := fun r ν => by rw [hM]; exact stO_nm1 hB
  have e2 : ∀ (r : Nat) (ν : Nat → Nat), ptR (nm1 r M ν) (jsOf L ids) = ptR ν (jsOf L ids) := fun r ν => by
    unfold ptR
    exact List.map_congr_left fun j hj => by rw [nm1_ne (jM _ (stK_leg (hjl j hj)))]
  have kin : ∀ k ∈ stK L, k ∈ stK L ++ [M] := fun k hk => List.mem_append_left _ hk
  have hMin : M ∈ stK L ++ [M] := List.mem_append_right _ (List.mem_cons_self ..)
  have hF' : Fam (stK L ++ [M]) (stK L ++ [M]) (fun ν' => stO ν' cs L ++ [(ν' M, .arr 67 1 (ptR ν' (jsOf L ids)))]) :=
    ((stO_fam cs L).mono kin).app (Fam.one (o := fun ν' => .arr 67 1 (ptR ν' (jsOf L ids))) hMin (fun hs => by rw [Ob.ren, ptR_ren hjl fun k hk => hs k (kin k hk)]) (fun hs => .inr (ptR_nin hjl fun k hk => hs k (kin k hk))))
  have hV : FamV (stK L ++ [M]) (fun ν' => [.tup [.own (ν' M) (jsOf L ids).length, .int .i64 0]]) := ⟨fun hs => by simp only [V.rens, V.ren, hs M hMin], fun hs => by simp only [V.nins, V.nin, Bool.and_true, List.contains_iff_mem, hs M hMin, decide_true]⟩
  have nd : (stK L ++ [M]).Nodup := List.nodup_append.2 ⟨stK_nd hB, by simp, fun a ha b hb e => by rw [List.mem_singleton.1 hb] at e; exact jM a ha e⟩
  have nr : ∀ k, nu k ≠ 70 := fun k => by unfold nu; omega
  refine use_fam (K := stK L) (K1 := [M]) (hl := fun ν' => stO ν' cs L) (hl' := fun ν' => stO ν' cs L ++ [(ν' M, .arr 67 1 (ptR ν' (jsOf L ids)))]) (ar := fun ν' => [.ptr (ν' 0) 0, .list (ids.map Lid.enc) false, .str cls, .int .i64 n, .bool sale]) (vf := fun ν' => [.tup [.own (ν' M) (jsOf L ids).length, .int .i64 0]]) (nm1 70 M nu) (nm1 r M ν) (stO_fam cs L) hF'
    ((FamV.ptr 0 (stK_0 L)).cons (FamV.pure (vs := [.list (ids.map Lid.enc) false, .str cls, .int .i64 n, .bool sale]) rfl fun _ => by simp [V.nins, V.nin])) hV (v := .tup [.own 70 (jsOf L ids).length, .int .i64 0]) ?_ ?_ ?_ (fun k hk => by rw [nm1_ne (jM k hk)]; unfold nu; omega) ((nm1_inj nu_inj nr).nd nd) ((nm1_inj hν hr).nd nd) ?_ ?_ ?_ ?_
  · rw [e1, e2, nm1_at, nm1_ne (jM 0 (stK_0 L))]; exact he2
  · rw [nm1_at]
  · rw [nm1_ne (jM 0 (stK_0 L))]
  · intro k hk
    rw [List.mem_singleton.1 hk, nm1_at]; exact ⟨hrn, hr1⟩
  · rw [e1]; exact hat
  · exact ⟨[_], by rw [List.map_append]; rfl⟩
  · intro v' hv'
    injection hv' with hv' _
    subst hv'
    rw [e1, e2, nm1_at]
    have e3 : hov (stO ν cs L ++ [(r, .arr 67 1 (ptR ν (jsOf L ids)))]) s.h = hupd s.h r (.arr 67 1 (ptR ν (jsOf L ids))) := by
      funext m
      rw [hov_eq, mkH_app]
      unfold hupd
      cases hm : mkH (stO ν cs L) m with
      | none =>
        dsimp only [mkH]
        by_cases e : m = r
        · rw [if_pos e, if_pos e]
        · rw [if_neg e, if_neg e]
      | some o =>
        have hs := hat _ (mkH_mem hm)
        dsimp only at hs ⊢
        rw [if_neg (fun e => by rw [e, hrn] at hs; cases hs)]
        exact hs.symm
    rw [e3]; exact hK
end Go.Proofs.YtllhcpjgilpbnaaDoor
