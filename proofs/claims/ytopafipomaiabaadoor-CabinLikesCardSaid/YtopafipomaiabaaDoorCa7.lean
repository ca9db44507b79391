/- The reference's cabins and Check. -/
import Derived.Test.YtopafipomaiabaaDoorCa6
namespace Go.Proofs.YtopafipomaiabaaDoor
open Go Go.RowKit
set_option linter.unusedSimpArgs false
set_option linter.unusedVariables false
set_option linter.deprecated false
theorem names_succ (l : List Cabin) (k : Nat) (h : k < l.length) : (l.take (k + 1)).map Cabin.name = (l.take k).map Cabin.name ++ [l[k].name] := by rw [List.take_succ_eq_append_getElem h, List.map_append]; rfl
theorem equips_succ (l : List Config) (k : Nat) (h : k < l.length) : (l.take (k + 1)).map Config.equip = (l.take k).map Config.equip ++ [l[k].equip] := by rw [List.take_succ_eq_append_getElem h, List.map_append]; rfl
theorem cabTail_len (y : Cabin) (path : List UInt8) (prev : List (List UInt8)) : (cabTail y path prev).length ≤ 3 * y.cl.length + 2 := by
  unfold cabTail
  simp only [List.length_append]
  have := fIf_len (!inR y) 2 path
  have := fIf_len (sizeBad y.cl.length 1 26) 4 path
  have := clsTo_len y path prev y.cl.length
  omega
theorem cabOne_len (l : List Cabin) (path : List UInt8) (k : Nat) (h : (l.getD k zCabin).cl.length ≤ 1000) : (cabOne l path k).length ≤ 3004 := by
  unfold cabOne
  simp only [List.length_append]
  have := fIf_len (!codeB (l.getD k zCabin).name 1 8) 5 (at1 path sCabin k)
  have := fIf_len (seen ((l.take k).map Cabin.name) (l.getD k zCabin).name) 6 (at1 path sCabin k)
  have := cabTail_len (l.getD k zCabin) (at1 path sCabin k) (prevCodes l k)
  omega
theorem cabTo_len (l : List Cabin) (path : List UInt8) (k : Nat) (h : ∀ y ∈ l, y.cl.length ≤ 1000) : (cabTo l path k).length ≤ 3004 * k := by
  induction k with
  | zero => simp [cabTo]
  | succ k ih => rw [cabTo, List.length_append]; have := cabOne_len l path k (getD_mem l k zCabin (fun y => y.cl.length ≤ 1000) (by simp [zCabin]) h); omega
theorem confOne_len (l : List Config) (k : Nat) (h8 : (l.getD k zConf).cabs.length ≤ 1000) (h : ∀ y ∈ (l.getD k zConf).cabs, y.cl.length ≤ 1000) : (confOne l k).length ≤ 3004003 := by
  unfold confOne
  simp only [List.length_append]
  have := fIf_len (!codeB (l.getD k zConf).equip 3 3) 5 (at1 [] sConfig k)
  have := fIf_len (seen ((l.take k).map Config.equip) (l.getD k zConf).equip) 6 (at1 [] sConfig k)
  have := fIf_len (sizeBad (l.getD k zConf).cabs.length 1 4) 4 (at1 [] sConfig k)
  have := cabTo_len (l.getD k zConf).cabs (at1 [] sConfig k) (l.getD k zConf).cabs.length h
  omega
theorem confTo_len (l : List Config) (k : Nat) (h8 : ∀ x ∈ l, x.cabs.length ≤ 1000) (h : ∀ x ∈ l, ∀ y ∈ x.cabs, y.cl.length ≤ 1000) : (confTo l k).length ≤ 3004003 * k := by
  induction k with
  | zero => simp [confTo]
  | succ k ih =>
    rw [confTo, List.length_append]
    have := confOne_len l k (getD_mem l k zConf (fun x => x.cabs.length ≤ 1000) (by simp [zConf]) h8) (getD_mem l k zConf (fun x => ∀ y ∈ x.cabs, y.cl.length ≤ 1000) (by simp [zConf]) h)
    omega
theorem fCode_eq (s : List UInt8) (lo hi : Int) : gCode [.str s, .int .i64 lo, .int .i64 hi] = (s.length ≤ 140737488355328, .bool (codeB s lo hi)) := rfl
theorem fCls_eq (q : List UInt8) (l : List Cabin) (c : Nat) (p : List UInt8) : gOf aCls fCls [.agg [.str q, .list (l.map Cabin.enc) false], .int .i64 c, .str p] = (Config.ok ⟨q, l⟩ ∧ c < l.length ∧ (l.getD c zCabin).cl.length ≤ 1000 ∧ p.length ≤ 100000, .list (faults (clsTo (l.getD c zCabin) p (prevCodes l c) (l.getD c zCabin).cl.length)) false) := gOf_eq aCls_inj ((⟨q, l⟩, c, p) : Config × Nat × List UInt8)
def fCabs (x : Config × List UInt8) : Prop × V := (x.1.ok ∧ x.1.cabs.length ≤ 1000 ∧ (∀ y ∈ x.1.cabs, y.cl.length ≤ 1000) ∧ x.2.length ≤ 1000, .list (faults (cabTo x.1.cabs x.2 x.1.cabs.length)) false)
def stCab (q : List UInt8) (l : List Cabin) (path : List UInt8) (i : Nat) (pos : List UInt8) (tw : Bool) (nm : List UInt8) (se ov : Int) (cl : List Class) (g : List Fault) : St :=
  ⟨mkE [(1, .str path), (2, .ptr 2 0), (5, .own 51 g.length), (6, .int .i64 i), (7, .str pos), (8, .ptr 8 0), (9, .bool tw)], mkH [(2, .box 30 [.str q, .list (l.map Cabin.enc) false]), (8, .box 38 [.str nm, .int .i64 se, .int .i64 ov, .list (cl.map Class.enc) false]), (51, .arr 51 2 (faults g))]⟩
noncomputable def trCabs : Tab
  | 29 => (gOf aPl fPl)
  | 30 => gCode
  | 41 => (gOf aCab fInR)
  | 42 => (gOf aCls fCls)
  | _ => gNo
theorem trCabs_ok : ∀ f, PureC Tryd.prog UT f (trCabs f) := fun f => by
  unfold trCabs
  split
  · exact rpl_p
  · exact rcode_p
  · exact inRange_p
  · exact rcls_p
  · exact PureC.no
set_option maxHeartbeats 2000000 in
theorem rcabs_p : PureC Tryd.prog UT 31 (gOf aPlace fCabs) := by
  have hG := trCabs_ok
  refine PureC.ofArgs aPlace_inj Tryd.func31 body31 nm31 res31 ?_
  rintro ⟨⟨q, l⟩, path⟩ hv
  refine ⟨by rw [nt31]; simp [aPlace], fun C hN Q hQ => ?_⟩
  rw [nt31] at hN
  unfold c31
  obtain ⟨hok, hl, hcl, hpa⟩ : Config.ok ⟨q, l⟩ ∧ l.length ≤ 1000 ∧ (∀ y ∈ l, y.cl.length ≤ 1000) ∧ path.length ≤ 1000 := hv
  have hw : sCabin.length = 5 := rfl
  refine aw_seq (aw_region (EF := EF0) hG (by rw [hN]; exact tr31_0) ?_)
  simp only [a31_0, go_sem, ↓reduceIte, Nat.reduceEqDiff, reduceCtorEq, Nat.reduceAdd, Nat.reduceLT, Nat.reduceLeDiff, Nat.reduceBNe, Nat.reduceBEq, Int.reduceToNat, aPlace, Config.enc]
  refine aw_seq (aw_region (EF := EF0) hG (by rw [hN]; exact tr31_1) ?_)
  simp only [a31_1, go_sem, ↓reduceIte, Nat.reduceEqDiff, reduceCtorEq, Nat.reduceAdd, Nat.reduceLT, Nat.reduceLeDiff, Nat.reduceBNe, Nat.reduceBEq, Int.reduceToNat]
  refine aw_seq ?_
  refine aw_seq ?_
  refine aw_region (EF := EF0) hG (by rw [hN]; exact tr31_2) ?_
  simp only [a31_2, go_sem, ↓reduceIte, Nat.reduceEqDiff, reduceCtorEq, Nat.reduceAdd, Nat.reduceLT, Nat.reduceLeDiff, Nat.reduceBNe, Nat.reduceBEq, Int.reduceToNat]
  refine aw_block ?_
  refine aw_loop (α := Nat) (fun i => i ≤ l.length) (fun i => ⟨mkE [(1, .str path), (2, .ptr 2 0), (5, .own 51 (cabTo l path i).length), (6, .int .i64 i)], mkH [(2, .box 30 [.str q, .list (l.map Cabin.enc) false]), (51, .arr 51 2 (faults (cabTo l path i)))]⟩) (fun i => l.length - i) 0 (Nat.zero_le _) ?_ ?_
  · refine Le.mk _ _ ?_ ?_ rfl <;> simp only [go_sem, ↓reduceIte, Nat.reduceEqDiff, reduceCtorEq, Nat.reduceAdd, Nat.reduceLT, Nat.reduceLeDiff, Nat.reduceBNe, Nat.reduceBEq, Int.reduceToNat]
    · exact .nilo 51 51 2 rfl rfl
    · rfl
  · rintro i hi K hK
    refine aw_seq ?_
    refine aw_seq ?_
    refine aw_region (EF := EF0) hG (by rw [hN]; exact tr31_3) ?_
    simp only [a31_3, go_sem, ↓reduceIte, Nat.reduceEqDiff, reduceCtorEq, Nat.reduceAdd, Nat.reduceLT, Nat.reduceLeDiff, Nat.reduceBNe, Nat.reduceBEq, Int.reduceToNat]
    refine aw_cond (b := _) rfl (fun hci => ?_) (fun hci => ?_)
    · simp only [decide_eq_true_eq, decide_eq_false_iff_not, Bool.and_eq_true, Bool.or_eq_true, Bool.not_eq_true', Bool.not_eq_false', Bool.and_eq_false_iff, Bool.or_eq_false_iff, Int.ofNat_lt, Int.ofNat_le, Nat.not_lt, Nat.not_le, Int.not_lt, Int.not_le] at hci
      have hy := hok.2.2 _ (List.getElem_mem hci)
      have hyl := hcl _ (List.getElem_mem hci)
      have hat := at1_len path sCabin (i := i) (by omega)
      have hlen := cabTo_len l path i hcl
      have hstep : cabTo l path (i + 1) = cabTo l path i ++ (fIf (!codeB l[i].name 1 8) 5 (at1 path sCabin i) ++ fIf (seen ((l.take i).map Cabin.name) l[i].name) 6 (at1 path sCabin i) ++ (fIf (!inR l[i]) 2 (at1 path sCabin i) ++ fIf (sizeBad l[i].cl.length 1 26) 4 (at1 path sCabin i) ++ clsTo l[i] (at1 path sCabin i) (prevCodes l i) l[i].cl.length)) := by
        rw [cabTo, cabOne]; simp only [getD_lt _ _ _ hci, cabTail]
      have hcls := fCls_eq q l i (at1 path sCabin i)
      rw [getD_lt _ _ _ hci] at hcls
      have hcln := clsTo_len l[i] (at1 path sCabin i) (prevCodes l i) l[i].cl.length
      generalize cabTo l path i = fl at hlen hstep
      generalize clsTo l[i] (at1 path sCabin i) (prevCodes l i) l[i].cl.length = flc at hstep hcls hcln
      refine aw_skip ?_
      simp only [go_sem, ↓reduceIte, Nat.reduceEqDiff, reduceCtorEq, Nat.reduceAdd, Nat.reduceLT, Nat.reduceLeDiff, Nat.reduceBNe, Nat.reduceBEq, Int.reduceToNat]
      refine aw_seq ?_
      refine aw_block ?_
      refine aw_seq (aw_regionD (EF := EF0) hG mixed (by rw [hN]; exact tr31_5) ok31_5 ?_)
      simp only [a31_5, d31_5, go_sem, ↓reduceIte, Nat.reduceEqDiff, reduceCtorEq, Nat.reduceAdd, Nat.reduceLT, Nat.reduceLeDiff, Nat.reduceBNe, Nat.reduceBEq, Int.reduceToNat, trCabs, fPl_eq, getD_map _ _ _ hci, hci, Cabin.enc, (show [99, 97, 98, 105, 110] = sCabin from rfl)]
      (repeat' apply And.intro) <;> (try first | omega)
      generalize at1 path sCabin i = pos at hat hstep hcls
      generalize hyy : l[i] = y at hstep hcls hy hyl hcln
      obtain ⟨nm, se, ov, cl⟩ := y
      dsimp only at hstep hcls hyl hcln
      have hnm : nm.length ≤ 140737488355328 := hy.1
      refine aw_cut (α := Unit) (fun _ => True) (fun _ => stCab q l path i pos (seen ((l.take i).map Cabin.name) nm) nm se ov cl fl) ?_ ?_
      · intro K2 hK2
        refine aw_seq (aw_region (EF := EF0) hG (by rw [hN]; exact tr31_6) ?_)
        simp only [a31_6, go_sem, ↓reduceIte, Nat.reduceEqDiff, reduceCtorEq, Nat.reduceAdd, Nat.reduceLT, Nat.reduceLeDiff, Nat.reduceBNe, Nat.reduceBEq, Int.reduceToNat]
        refine aw_block ?_
        refine aw_loop (α := Nat) (fun k => k ≤ i) (fun k => ⟨mkE [(1, .str path), (2, .ptr 2 0), (5, .own 51 fl.length), (6, .int .i64 i), (7, .str pos), (8, .ptr 8 0), (9, .bool (seen ((l.take k).map Cabin.name) nm)), (10, .int .i64 k)], mkH [(2, .box 30 [.str q, .list (l.map Cabin.enc) false]), (8, .box 38 [.str nm, .int .i64 se, .int .i64 ov, .list (cl.map Class.enc) false]), (51, .arr 51 2 (faults fl))]⟩) (fun k => i - k) 0 (Nat.zero_le _) ?_ ?_
        · refine Le.mk _ _ ?_ ?_ rfl <;> simp only [go_sem, ↓reduceIte, Nat.reduceEqDiff, reduceCtorEq, Nat.reduceAdd, Nat.reduceLT, Nat.reduceLeDiff, Nat.reduceBNe, Nat.reduceBEq, Int.reduceToNat]
          rfl
        · rintro k hk K3 hK3
          refine aw_seq ?_
          refine aw_seq ?_
          refine aw_region (EF := EF0) hG (by rw [hN]; exact tr31_7) ?_
          simp only [a31_7, go_sem, ↓reduceIte, Nat.reduceEqDiff, reduceCtorEq, Nat.reduceAdd, Nat.reduceLT, Nat.reduceLeDiff, Nat.reduceBNe, Nat.reduceBEq, Int.reduceToNat]
          refine aw_cond (b := _) rfl (fun hck => ?_) (fun hck => ?_)
          · simp only [decide_eq_true_eq, decide_eq_false_iff_not, Bool.and_eq_true, Bool.or_eq_true, Bool.not_eq_true', Bool.not_eq_false', Bool.and_eq_false_iff, Bool.or_eq_false_iff, Int.ofNat_lt, Int.ofNat_le, Nat.not_lt, Nat.not_le, Int.not_lt, Int.not_le] at hck
            have hkl : k < l.length := by omega
            refine aw_skip ?_
            simp only [go_sem, ↓reduceIte, Nat.reduceEqDiff, reduceCtorEq, Nat.reduceAdd, Nat.reduceLT, Nat.reduceLeDiff, Nat.reduceBNe, Nat.reduceBEq, Int.reduceToNat]
            refine aw_seq ?_
            refine aw_block ?_
            refine aw_regionD (EF := EF0) hG mixed (by rw [hN]; exact tr31_9) ok31_9 ?_
            simp only [a31_9, d31_9, go_sem, ↓reduceIte, Nat.reduceEqDiff, reduceCtorEq, Nat.reduceAdd, Nat.reduceLT, Nat.reduceLeDiff, Nat.reduceBNe, Nat.reduceBEq, Int.reduceToNat, getD_map _ _ _ hkl, hkl, Cabin.enc]
            refine aw_region (EF := EF0) hG (by rw [hN]; exact tr31_8) ?_
            simp only [a31_8, go_sem, ↓reduceIte, Nat.reduceEqDiff, reduceCtorEq, Nat.reduceAdd, Nat.reduceLT, Nat.reduceLeDiff, Nat.reduceBNe, Nat.reduceBEq, Int.reduceToNat, inI]
            (repeat' apply And.intro) <;> (try first | omega)
            refine hK3 (k + 1) _ ?_ ?_ ?_
            · omega
            · omega
            · refine Le.mk _ _ ?_ ?_ rfl <;> simp only [go_sem, ↓reduceIte, Nat.reduceEqDiff, reduceCtorEq, Nat.reduceAdd, Nat.reduceLT, Nat.reduceLeDiff, Nat.reduceBNe, Nat.reduceBEq, Int.reduceToNat, names_succ _ _ hkl, seen_snoc]
          · simp only [decide_eq_true_eq, decide_eq_false_iff_not, Bool.and_eq_true, Bool.or_eq_true, Bool.not_eq_true', Bool.not_eq_false', Bool.and_eq_false_iff, Bool.or_eq_false_iff, Int.ofNat_lt, Int.ofNat_le, Nat.not_lt, Nat.not_le, Int.not_lt, Int.not_le] at hck
            refine aw_exit ?_
            simp only [go_sem, ↓reduceIte, Nat.reduceEqDiff, reduceCtorEq, Nat.reduceAdd, Nat.reduceLT, Nat.reduceLeDiff, Nat.reduceBNe, Nat.reduceBEq, Int.reduceToNat]
            refine hK2 () _ trivial ?_
            refine Le.mk _ _ ?_ ?_ rfl <;> simp only [go_sem, ↓reduceIte, Nat.reduceEqDiff, reduceCtorEq, Nat.reduceAdd, Nat.reduceLT, Nat.reduceLeDiff, Nat.reduceBNe, Nat.reduceBEq, Int.reduceToNat]
            rw [Nat.le_antisymm hk hck]
      rintro _ -
      refine aw_cut (α := List Fault) (fun g => g = fl ++ fIf (!codeB nm 1 8) 5 pos) (fun g => stCab q l path i pos (seen ((l.take i).map Cabin.name) nm) nm se ov cl g) ?_ ?_
      · intro K2 hK2
        refine aw_seq (aw_region (EF := EF0) hG (by rw [hN]; exact tr31_10) ?_)
        simp only [a31_10, go_sem, ↓reduceIte, Nat.reduceEqDiff, reduceCtorEq, Nat.reduceAdd, Nat.reduceLT, Nat.reduceLeDiff, Nat.reduceBNe, Nat.reduceBEq, Int.reduceToNat, stCab, trCabs, fCode_eq, hnm]
        refine aw_cond (b := _) rfl (fun hb => ?_) (fun hb => ?_)
        · refine aw_region (EF := EF0) hG (by rw [hN]; exact tr31_11) ?_
          simp only [a31_11, go_sem, ↓reduceIte, Nat.reduceEqDiff, reduceCtorEq, Nat.reduceAdd, Nat.reduceLT, Nat.reduceLeDiff, Nat.reduceBNe, Nat.reduceBEq, Int.reduceToNat]
          (repeat' apply And.intro) <;> (try first | omega)
          refine hK2 _ _ rfl ?_
          refine Le.mk _ _ ?_ ?_ rfl <;> simp only [go_sem, ↓reduceIte, Nat.reduceEqDiff, reduceCtorEq, Nat.reduceAdd, Nat.reduceLT, Nat.reduceLeDiff, Nat.reduceBNe, Nat.reduceBEq, Int.reduceToNat, fIf_t hb, List.length_append]
        · refine aw_skip ?_
          simp only [go_sem, ↓reduceIte, Nat.reduceEqDiff, reduceCtorEq, Nat.reduceAdd, Nat.reduceLT, Nat.reduceLeDiff, Nat.reduceBNe, Nat.reduceBEq, Int.reduceToNat]
          refine hK2 _ _ rfl ?_
          refine Le.mk _ _ ?_ ?_ rfl <;> simp only [go_sem, ↓reduceIte, Nat.reduceEqDiff, reduceCtorEq, Nat.reduceAdd, Nat.reduceLT, Nat.reduceLeDiff, Nat.reduceBNe, Nat.reduceBEq, Int.reduceToNat, fIf_f hb, List.append_nil]
      rintro fl1 h1
      have l1 : fl1.length ≤ fl.length + 1 := by have := fIf_len (!codeB nm 1 8) 5 pos; rw [h1, List.length_append]; omega
      refine aw_cut (α := List Fault) (fun g => g = fl1 ++ fIf (seen ((l.take i).map Cabin.name) nm) 6 pos) (fun g => stCab q l path i pos (seen ((l.take i).map Cabin.name) nm) nm se ov cl g) ?_ ?_
      · intro K2 hK2
        refine aw_seq (aw_region (EF := EF0) hG (by rw [hN]; exact tr31_12) ?_)
        simp only [a31_12, go_sem, ↓reduceIte, Nat.reduceEqDiff, reduceCtorEq, Nat.reduceAdd, Nat.reduceLT, Nat.reduceLeDiff, Nat.reduceBNe, Nat.reduceBEq, Int.reduceToNat, stCab]
        refine aw_cond (b := _) rfl (fun hb => ?_) (fun hb => ?_)
        · refine aw_region (EF := EF0) hG (by rw [hN]; exact tr31_13) ?_
          simp only [a31_13, go_sem, ↓reduceIte, Nat.reduceEqDiff, reduceCtorEq, Nat.reduceAdd, Nat.reduceLT, Nat.reduceLeDiff, Nat.reduceBNe, Nat.reduceBEq, Int.reduceToNat]
          (repeat' apply And.intro) <;> (try first | omega)
          refine hK2 _ _ rfl ?_
          refine Le.mk _ _ ?_ ?_ rfl <;> simp only [go_sem, ↓reduceIte, Nat.reduceEqDiff, reduceCtorEq, Nat.reduceAdd, Nat.reduceLT, Nat.reduceLeDiff, Nat.reduceBNe, Nat.reduceBEq, Int.reduceToNat, fIf_t hb, List.length_append]
        · refine aw_skip ?_
          simp only [go_sem, ↓reduceIte, Nat.reduceEqDiff, reduceCtorEq, Nat.reduceAdd, Nat.reduceLT, Nat.reduceLeDiff, Nat.reduceBNe, Nat.reduceBEq, Int.reduceToNat]
          refine hK2 _ _ rfl ?_
          refine Le.mk _ _ ?_ ?_ rfl <;> simp only [go_sem, ↓reduceIte, Nat.reduceEqDiff, reduceCtorEq, Nat.reduceAdd, Nat.reduceLT, Nat.reduceLeDiff, Nat.reduceBNe, Nat.reduceBEq, Int.reduceToNat, fIf_f hb, List.append_nil]
      rintro fl2 h2
      have l2 : fl2.length ≤ fl1.length + 1 := by have := fIf_len (seen ((l.take i).map Cabin.name) nm) 6 pos; rw [h2, List.length_append]; omega
      refine aw_cut (α := List Fault) (fun g => g = fl2 ++ fIf (!inR ⟨nm, se, ov, cl⟩) 2 pos) (fun g => stCab q l path i pos (seen ((l.take i).map Cabin.name) nm) nm se ov cl g) ?_ ?_
      · intro K2 hK2
        refine aw_seq (aw_region (EF := EF0) hG (by rw [hN]; exact tr31_14) ?_)
        simp only [a31_14, go_sem, ↓reduceIte, Nat.reduceEqDiff, reduceCtorEq, Nat.reduceAdd, Nat.reduceLT, Nat.reduceLeDiff, Nat.reduceBNe, Nat.reduceBEq, Int.reduceToNat, stCab, trCabs, fInR_eq]
        refine aw_cond (b := _) rfl (fun hb => ?_) (fun hb => ?_)
        · refine aw_region (EF := EF0) hG (by rw [hN]; exact tr31_15) ?_
          simp only [a31_15, go_sem, ↓reduceIte, Nat.reduceEqDiff, reduceCtorEq, Nat.reduceAdd, Nat.reduceLT, Nat.reduceLeDiff, Nat.reduceBNe, Nat.reduceBEq, Int.reduceToNat]
          (repeat' apply And.intro) <;> (try first | omega)
          refine hK2 _ _ rfl ?_
          refine Le.mk _ _ ?_ ?_ rfl <;> simp only [go_sem, ↓reduceIte, Nat.reduceEqDiff, reduceCtorEq, Nat.reduceAdd, Nat.reduceLT, Nat.reduceLeDiff, Nat.reduceBNe, Nat.reduceBEq, Int.reduceToNat, fIf_t hb, List.length_append]
        · refine aw_skip ?_
          simp only [go_sem, ↓reduceIte, Nat.reduceEqDiff, reduceCtorEq, Nat.reduceAdd, Nat.reduceLT, Nat.reduceLeDiff, Nat.reduceBNe, Nat.reduceBEq, Int.reduceToNat]
          refine hK2 _ _ rfl ?_
          refine Le.mk _ _ ?_ ?_ rfl <;> simp only [go_sem, ↓reduceIte, Nat.reduceEqDiff, reduceCtorEq, Nat.reduceAdd, Nat.reduceLT, Nat.reduceLeDiff, Nat.reduceBNe, Nat.reduceBEq, Int.reduceToNat, fIf_f hb, List.append_nil]
      rintro fl3 h3
      have l3 : fl3.length ≤ fl2.length + 1 := by have := fIf_len (!inR ⟨nm, se, ov, cl⟩) 2 pos; rw [h3, List.length_append]; omega
      refine aw_cut (α := List Fault) (fun g => g = fl3 ++ fIf (decide ((cl.length : Int) < 1) || decide (26 < (cl.length : Int))) 4 pos) (fun g => stCab q l path i pos (seen ((l.take i).map Cabin.name) nm) nm se ov cl g) ?_ ?_
      · intro K2 hK2
        refine aw_seq (aw_region (EF := EF0) hG (by rw [hN]; exact tr31_16) ?_)
        simp only [a31_16, go_sem, ↓reduceIte, Nat.reduceEqDiff, reduceCtorEq, Nat.reduceAdd, Nat.reduceLT, Nat.reduceLeDiff, Nat.reduceBNe, Nat.reduceBEq, Int.reduceToNat, stCab]
        refine aw_cond (b := _) rfl (fun hb => ?_) (fun hb => ?_)
        · refine aw_region (EF := EF0) hG (by rw [hN]; exact tr31_17) ?_
          simp only [a31_17, go_sem, ↓reduceIte, Nat.reduceEqDiff, reduceCtorEq, Nat.reduceAdd, Nat.reduceLT, Nat.reduceLeDiff, Nat.reduceBNe, Nat.reduceBEq, Int.reduceToNat]
          (repeat' apply And.intro) <;> (try first | omega)
          refine hK2 _ _ rfl ?_
          refine Le.mk _ _ ?_ ?_ rfl <;> simp only [go_sem, ↓reduceIte, Nat.reduceEqDiff, reduceCtorEq, Nat.reduceAdd, Nat.reduceLT, Nat.reduceLeDiff, Nat.reduceBNe, Nat.reduceBEq, Int.reduceToNat, fIf_t hb, List.length_append]
        · refine aw_skip ?_
          simp only [go_sem, ↓reduceIte, Nat.reduceEqDiff, reduceCtorEq, Nat.reduceAdd, Nat.reduceLT, Nat.reduceLeDiff, Nat.reduceBNe, Nat.reduceBEq, Int.reduceToNat]
          refine hK2 _ _ rfl ?_
          refine Le.mk _ _ ?_ ?_ rfl <;> simp only [go_sem, ↓reduceIte, Nat.reduceEqDiff, reduceCtorEq, Nat.reduceAdd, Nat.reduceLT, Nat.reduceLeDiff, Nat.reduceBNe, Nat.reduceBEq, Int.reduceToNat, fIf_f hb, List.append_nil]
      rintro fl4 h4
      have l4 : fl4.length ≤ fl3.length + 1 := by have := fIf_len (decide ((cl.length : Int) < 1) || decide (26 < (cl.length : Int))) 4 pos; rw [h4, List.length_append]; omega
      have hf : cabTo l path (i + 1) = fl4 ++ flc := by rw [hstep, h4, h3, h2, h1]; simp [sizeBad]
      refine aw_region (EF := EF0) hG (by rw [hN]; exact tr31_18) ?_
      simp only [a31_18, go_sem, ↓reduceIte, Nat.reduceEqDiff, reduceCtorEq, Nat.reduceAdd, Nat.reduceLT, Nat.reduceLeDiff, Nat.reduceBNe, Nat.reduceBEq, Int.reduceToNat, stCab, trCabs, hcls, hok, hci, hyl]
      (repeat' apply And.intro) <;> (try first | omega)
      refine aw_region (EF := EF0) hG (by rw [hN]; exact tr31_4) ?_
      simp only [a31_4, go_sem, ↓reduceIte, Nat.reduceEqDiff, reduceCtorEq, Nat.reduceAdd, Nat.reduceLT, Nat.reduceLeDiff, Nat.reduceBNe, Nat.reduceBEq, Int.reduceToNat, inI]
      (repeat' apply And.intro) <;> (try first | omega)
      refine hK (i + 1) _ ?_ ?_ ?_
      · omega
      · omega
      · refine Le.mk _ _ ?_ ?_ rfl <;> simp only [go_sem, ↓reduceIte, Nat.reduceEqDiff, reduceCtorEq, Nat.reduceAdd, Nat.reduceLT, Nat.reduceLeDiff, Nat.reduceBNe, Nat.reduceBEq, Int.reduceToNat, hf, List.length_append]
    · simp only [decide_eq_true_eq, decide_eq_false_iff_not, Bool.and_eq_true, Bool.or_eq_true, Bool.not_eq_true', Bool.not_eq_false', Bool.and_eq_false_iff, Bool.or_eq_false_iff, Int.ofNat_lt, Int.ofNat_le, Nat.not_lt, Nat.not_le, Int.not_lt, Int.not_le] at hci
      refine aw_exit ?_
      simp only [go_sem, ↓reduceIte, Nat.reduceEqDiff, reduceCtorEq, Nat.reduceAdd, Nat.reduceLT, Nat.reduceLeDiff, Nat.reduceBNe, Nat.reduceBEq, Int.reduceToNat]
      refine aw_seq (aw_region (EF := EF0) hG (by rw [hN]; exact tr31_19) ?_)
      simp only [a31_19, go_sem, ↓reduceIte, Nat.reduceEqDiff, reduceCtorEq, Nat.reduceAdd, Nat.reduceLT, Nat.reduceLeDiff, Nat.reduceBNe, Nat.reduceBEq, Int.reduceToNat]
      have hie : i = l.length := by omega
      subst hie
      refine AW.le (s' := ⟨mkE [(4, .list (faults (cabTo l path l.length)) false)], mkH []⟩) (Le.mk _ _ ?_ ?_ rfl) (aw_ret (hQ _ _ (.inl rfl) ?_ ?_ ?_)) <;> simp only [outφ, outV, AR.res, go_sem, ↓reduceIte, Nat.reduceEqDiff, reduceCtorEq, Nat.reduceAdd, Nat.reduceLT, Nat.reduceLeDiff, Nat.reduceBNe, Nat.reduceBEq, Int.reduceToNat, fCabs]
      exact wk_frz rfl (by rw [faults_len]) rfl (faults_pur _)
theorem fCabs_eq (q : List UInt8) (l : List Cabin) (p : List UInt8) : gOf aPlace fCabs [.agg [.str q, .list (l.map Cabin.enc) false], .str p] = (Config.ok ⟨q, l⟩ ∧ l.length ≤ 1000 ∧ (∀ y ∈ l, y.cl.length ≤ 1000) ∧ p.length ≤ 1000, .list (faults (cabTo l p l.length)) false) := gOf_eq aPlace_inj ((⟨q, l⟩, p) : Config × List UInt8)
def SmallL (l : List Config) : Prop := l.length ≤ 1000 ∧ (∀ x ∈ l, x.ok) ∧ (∀ x ∈ l, x.cabs.length ≤ 1000) ∧ ∀ x ∈ l, ∀ y ∈ x.cabs, y.cl.length ≤ 1000
def aCheck (l : List Config) : List V := [.list (l.map Config.enc) false]
theorem aCheck_inj (a b : List Config) (h : aCheck a = aCheck b) : a = b := by
  simp only [aCheck, List.cons.injEq, V.list.injEq, and_true] at h
  exact map_inj' Config.inj h
def fCheck (l : List Config) : Prop × V := (SmallL l, .list (faults (confFaults l)) false)
def stChk (l : List Config) (i : Nat) (pos : List UInt8) (tw : Bool) (g : List Fault) : St :=
  ⟨mkE [(0, .list (l.map Config.enc) false), (3, .own 46 g.length), (4, .int .i64 i), (5, .str pos), (6, .bool tw)], mkH [(46, .arr 51 2 (faults g))]⟩
noncomputable def trCheck : Tab
  | 29 => (gOf aPl fPl)
  | 30 => gCode
  | 31 => (gOf aPlace fCabs)
  | _ => gNo
theorem trCheck_ok : ∀ f, PureC Tryd.prog UT f (trCheck f) := fun f => by
  unfold trCheck
  split
  · exact rpl_p
  · exact rcode_p
  · exact rcabs_p
  · exact PureC.no
set_option maxHeartbeats 2000000 in
theorem rcheck_p : PureC Tryd.prog UT 11 (gOf aCheck fCheck) := by
  have hG := trCheck_ok
  refine PureC.ofArgs aCheck_inj Tryd.func11 body11 nm11 res11 ?_
  rintro l hv
  refine ⟨by rw [nt11]; simp [aCheck], fun C hN Q hQ => ?_⟩
  rw [nt11] at hN
  unfold c11
  obtain ⟨hl, hok, hcb, hcl⟩ : SmallL l := hv
  have hw : sConfig.length = 6 := rfl
  refine aw_seq (aw_region (EF := EF0) hG (by rw [hN]; exact tr11_0) ?_)
  simp only [a11_0, go_sem, ↓reduceIte, Nat.reduceEqDiff, reduceCtorEq, Nat.reduceAdd, Nat.reduceLT, Nat.reduceLeDiff, Nat.reduceBNe, Nat.reduceBEq, Int.reduceToNat, aCheck]
  refine aw_seq (aw_region (EF := EF0) hG (by rw [hN]; exact tr11_1) ?_)
  simp only [a11_1, go_sem, ↓reduceIte, Nat.reduceEqDiff, reduceCtorEq, Nat.reduceAdd, Nat.reduceLT, Nat.reduceLeDiff, Nat.reduceBNe, Nat.reduceBEq, Int.reduceToNat]
  refine aw_seq ?_
  refine aw_seq ?_
  refine aw_region (EF := EF0) hG (by rw [hN]; exact tr11_2) ?_
  simp only [a11_2, go_sem, ↓reduceIte, Nat.reduceEqDiff, reduceCtorEq, Nat.reduceAdd, Nat.reduceLT, Nat.reduceLeDiff, Nat.reduceBNe, Nat.reduceBEq, Int.reduceToNat]
  refine aw_block ?_
  refine aw_loop (α := Nat) (fun i => i ≤ l.length) (fun i => ⟨mkE [(0, .list (l.map Config.enc) false), (3, .own 46 (confTo l i).length), (4, .int .i64 i)], mkH [(46, .arr 51 2 (faults (confTo l i)))]⟩) (fun i => l.length - i) 0 (Nat.zero_le _) ?_ ?_
  · refine Le.mk _ _ ?_ ?_ rfl <;> simp only [go_sem, ↓reduceIte, Nat.reduceEqDiff, reduceCtorEq, Nat.reduceAdd, Nat.reduceLT, Nat.reduceLeDiff, Nat.reduceBNe, Nat.reduceBEq, Int.reduceToNat]
    · exact .nilo 46 51 2 rfl rfl
    · rfl
  · rintro i hi K hK
    refine aw_seq ?_
    refine aw_seq ?_
    refine aw_region (EF := EF0) hG (by rw [hN]; exact tr11_3) ?_
    simp only [a11_3, go_sem, ↓reduceIte, Nat.reduceEqDiff, reduceCtorEq, Nat.reduceAdd, Nat.reduceLT, Nat.reduceLeDiff, Nat.reduceBNe, Nat.reduceBEq, Int.reduceToNat]
    refine aw_cond (b := _) rfl (fun hci => ?_) (fun hci => ?_)
    · simp only [decide_eq_true_eq, decide_eq_false_iff_not, Bool.and_eq_true, Bool.or_eq_true, Bool.not_eq_true', Bool.not_eq_false', Bool.and_eq_false_iff, Bool.or_eq_false_iff, Int.ofNat_lt, Int.ofNat_le, Nat.not_lt, Nat.not_le, Int.not_lt, Int.not_le] at hci
      have hx := hok _ (List.getElem_mem hci)
      have hx2 : Config.ok ⟨l[i].equip, l[i].cabs⟩ := hx
      have hxl := hcb _ (List.getElem_mem hci)
      have hxc := hcl _ (List.getElem_mem hci)
      have hat := at1_len [] sConfig (i := i) (by omega)
      rw [hw, List.length_nil] at hat
      have hlen := confTo_len l i hcb hcl
      have hstep : confTo l (i + 1) = confTo l i ++ (fIf (!codeB l[i].equip 3 3) 5 (at1 [] sConfig i) ++ fIf (seen ((l.take i).map Config.equip) l[i].equip) 6 (at1 [] sConfig i) ++ fIf (sizeBad l[i].cabs.length 1 4) 4 (at1 [] sConfig i) ++ cabTo l[i].cabs (at1 [] sConfig i) l[i].cabs.length) := by
        rw [confTo, confOne]; simp only [getD_lt _ _ _ hci]
      have hcbl := cabTo_len l[i].cabs (at1 [] sConfig i) l[i].cabs.length hxc
      have hcb2 := fCabs_eq l[i].equip l[i].cabs (at1 [] sConfig i)
      generalize confTo l i = fl at hlen hstep
      generalize cabTo l[i].cabs (at1 [] sConfig i) l[i].cabs.length = flc at hstep hcb2 hcbl
      refine aw_skip ?_
      simp only [go_sem, ↓reduceIte, Nat.reduceEqDiff, reduceCtorEq, Nat.reduceAdd, Nat.reduceLT, Nat.reduceLeDiff, Nat.reduceBNe, Nat.reduceBEq, Int.reduceToNat]
      refine aw_seq ?_
      refine aw_block ?_
      refine aw_seq (aw_region (EF := EF0) hG (by rw [hN]; exact tr11_5) ?_)
      simp only [a11_5, go_sem, ↓reduceIte, Nat.reduceEqDiff, reduceCtorEq, Nat.reduceAdd, Nat.reduceLT, Nat.reduceLeDiff, Nat.reduceBNe, Nat.reduceBEq, Int.reduceToNat, trCheck, fPl_eq, (show [99, 111, 110, 102, 105, 103] = sConfig from rfl)]
      (repeat' apply And.intro) <;> (try first | omega)
      generalize at1 [] sConfig i = pos at hat hstep hcb2
      have hnm : l[i].equip.length ≤ 140737488355328 := hx.1
      refine aw_cut (α := Unit) (fun _ => True) (fun _ => stChk l i pos (seen ((l.take i).map Config.equip) l[i].equip) fl) ?_ ?_
      · intro K2 hK2
        refine aw_seq (aw_region (EF := EF0) hG (by rw [hN]; exact tr11_6) ?_)
        simp only [a11_6, go_sem, ↓reduceIte, Nat.reduceEqDiff, reduceCtorEq, Nat.reduceAdd, Nat.reduceLT, Nat.reduceLeDiff, Nat.reduceBNe, Nat.reduceBEq, Int.reduceToNat]
        refine aw_block ?_
        refine aw_loop (α := Nat) (fun k => k ≤ i) (fun k => ⟨mkE [(0, .list (l.map Config.enc) false), (3, .own 46 fl.length), (4, .int .i64 i), (5, .str pos), (6, .bool (seen ((l.take k).map Config.equip) l[i].equip)), (7, .int .i64 k)], mkH [(46, .arr 51 2 (faults fl))]⟩) (fun k => i - k) 0 (Nat.zero_le _) ?_ ?_
        · refine Le.mk _ _ ?_ ?_ rfl <;> simp only [go_sem, ↓reduceIte, Nat.reduceEqDiff, reduceCtorEq, Nat.reduceAdd, Nat.reduceLT, Nat.reduceLeDiff, Nat.reduceBNe, Nat.reduceBEq, Int.reduceToNat]
          rfl
        · rintro k hk K3 hK3
          refine aw_seq ?_
          refine aw_seq ?_
          refine aw_region (EF := EF0) hG (by rw [hN]; exact tr11_7) ?_
          simp only [a11_7, go_sem, ↓reduceIte, Nat.reduceEqDiff, reduceCtorEq, Nat.reduceAdd, Nat.reduceLT, Nat.reduceLeDiff, Nat.reduceBNe, Nat.reduceBEq, Int.reduceToNat]
          refine aw_cond (b := _) rfl (fun hck => ?_) (fun hck => ?_)
          · simp only [decide_eq_true_eq, decide_eq_false_iff_not, Bool.and_eq_true, Bool.or_eq_true, Bool.not_eq_true', Bool.not_eq_false', Bool.and_eq_false_iff, Bool.or_eq_false_iff, Int.ofNat_lt, Int.ofNat_le, Nat.not_lt, Nat.not_le, Int.not_lt, Int.not_le] at hck
            have hkl : k < l.length := by omega
            refine aw_skip ?_
            simp only [go_sem, ↓reduceIte, Nat.reduceEqDiff, reduceCtorEq, Nat.reduceAdd, Nat.reduceLT, Nat.reduceLeDiff, Nat.reduceBNe, Nat.reduceBEq, Int.reduceToNat]
            refine aw_seq ?_
            refine aw_block ?_
            refine aw_regionD (EF := EF0) hG mixed (by rw [hN]; exact tr11_9) ok11_9 ?_
            simp only [a11_9, d11_9, go_sem, ↓reduceIte, Nat.reduceEqDiff, reduceCtorEq, Nat.reduceAdd, Nat.reduceLT, Nat.reduceLeDiff, Nat.reduceBNe, Nat.reduceBEq, Int.reduceToNat, getD_map _ _ _ hkl, hkl, getD_map _ _ _ hci, hci, Config.enc]
            refine aw_region (EF := EF0) hG (by rw [hN]; exact tr11_8) ?_
            simp only [a11_8, go_sem, ↓reduceIte, Nat.reduceEqDiff, reduceCtorEq, Nat.reduceAdd, Nat.reduceLT, Nat.reduceLeDiff, Nat.reduceBNe, Nat.reduceBEq, Int.reduceToNat, inI]
            (repeat' apply And.intro) <;> (try first | omega)
            refine hK3 (k + 1) _ ?_ ?_ ?_
            · omega
            · omega
            · refine Le.mk _ _ ?_ ?_ rfl <;> simp only [go_sem, ↓reduceIte, Nat.reduceEqDiff, reduceCtorEq, Nat.reduceAdd, Nat.reduceLT, Nat.reduceLeDiff, Nat.reduceBNe, Nat.reduceBEq, Int.reduceToNat, equips_succ _ _ hkl, seen_snoc]
          · simp only [decide_eq_true_eq, decide_eq_false_iff_not, Bool.and_eq_true, Bool.or_eq_true, Bool.not_eq_true', Bool.not_eq_false', Bool.and_eq_false_iff, Bool.or_eq_false_iff, Int.ofNat_lt, Int.ofNat_le, Nat.not_lt, Nat.not_le, Int.not_lt, Int.not_le] at hck
            refine aw_exit ?_
            simp only [go_sem, ↓reduceIte, Nat.reduceEqDiff, reduceCtorEq, Nat.reduceAdd, Nat.reduceLT, Nat.reduceLeDiff, Nat.reduceBNe, Nat.reduceBEq, Int.reduceToNat]
            refine hK2 () _ trivial ?_
            refine Le.mk _ _ ?_ ?_ rfl <;> simp only [go_sem, ↓reduceIte, Nat.reduceEqDiff, reduceCtorEq, Nat.reduceAdd, Nat.reduceLT, Nat.reduceLeDiff, Nat.reduceBNe, Nat.reduceBEq, Int.reduceToNat]
            rw [Nat.le_antisymm hk hck]
      rintro _ -
      refine aw_cut (α := List Fault) (fun g => g = fl ++ fIf (!codeB l[i].equip 3 3) 5 pos) (fun g => stChk l i pos (seen ((l.take i).map Config.equip) l[i].equip) g) ?_ ?_
      · intro K2 hK2
        refine aw_seq (aw_region (EF := EF0) hG (by rw [hN]; exact tr11_10) ?_)
        simp only [a11_10, go_sem, ↓reduceIte, Nat.reduceEqDiff, reduceCtorEq, Nat.reduceAdd, Nat.reduceLT, Nat.reduceLeDiff, Nat.reduceBNe, Nat.reduceBEq, Int.reduceToNat, stChk, trCheck, fCode_eq, hnm, getD_map _ _ _ hci, hci, Config.enc]
        refine aw_cond (b := _) rfl (fun hb => ?_) (fun hb => ?_)
        · refine aw_region (EF := EF0) hG (by rw [hN]; exact tr11_11) ?_
          simp only [a11_11, go_sem, ↓reduceIte, Nat.reduceEqDiff, reduceCtorEq, Nat.reduceAdd, Nat.reduceLT, Nat.reduceLeDiff, Nat.reduceBNe, Nat.reduceBEq, Int.reduceToNat]
          (repeat' apply And.intro) <;> (try first | omega)
          refine hK2 _ _ rfl ?_
          refine Le.mk _ _ ?_ ?_ rfl <;> simp only [go_sem, ↓reduceIte, Nat.reduceEqDiff, reduceCtorEq, Nat.reduceAdd, Nat.reduceLT, Nat.reduceLeDiff, Nat.reduceBNe, Nat.reduceBEq, Int.reduceToNat, fIf_t hb, List.length_append]
        · refine aw_skip ?_
          simp only [go_sem, ↓reduceIte, Nat.reduceEqDiff, reduceCtorEq, Nat.reduceAdd, Nat.reduceLT, Nat.reduceLeDiff, Nat.reduceBNe, Nat.reduceBEq, Int.reduceToNat]
          refine hK2 _ _ rfl ?_
          refine Le.mk _ _ ?_ ?_ rfl <;> simp only [go_sem, ↓reduceIte, Nat.reduceEqDiff, reduceCtorEq, Nat.reduceAdd, Nat.reduceLT, Nat.reduceLeDiff, Nat.reduceBNe, Nat.reduceBEq, Int.reduceToNat, fIf_f hb, List.append_nil]
      rintro fl1 h1
      have l1 : fl1.length ≤ fl.length + 1 := by have := fIf_len (!codeB l[i].equip 3 3) 5 pos; rw [h1, List.length_append]; omega
      refine aw_cut (α := List Fault) (fun g => g = fl1 ++ fIf (seen ((l.take i).map Config.equip) l[i].equip) 6 pos) (fun g => stChk l i pos (seen ((l.take i).map Config.equip) l[i].equip) g) ?_ ?_
      · intro K2 hK2
        refine aw_seq (aw_region (EF := EF0) hG (by rw [hN]; exact tr11_12) ?_)
        simp only [a11_12, go_sem, ↓reduceIte, Nat.reduceEqDiff, reduceCtorEq, Nat.reduceAdd, Nat.reduceLT, Nat.reduceLeDiff, Nat.reduceBNe, Nat.reduceBEq, Int.reduceToNat, stChk]
        refine aw_cond (b := _) rfl (fun hb => ?_) (fun hb => ?_)
        · refine aw_region (EF := EF0) hG (by rw [hN]; exact tr11_13) ?_
          simp only [a11_13, go_sem, ↓reduceIte, Nat.reduceEqDiff, reduceCtorEq, Nat.reduceAdd, Nat.reduceLT, Nat.reduceLeDiff, Nat.reduceBNe, Nat.reduceBEq, Int.reduceToNat]
          (repeat' apply And.intro) <;> (try first | omega)
          refine hK2 _ _ rfl ?_
          refine Le.mk _ _ ?_ ?_ rfl <;> simp only [go_sem, ↓reduceIte, Nat.reduceEqDiff, reduceCtorEq, Nat.reduceAdd, Nat.reduceLT, Nat.reduceLeDiff, Nat.reduceBNe, Nat.reduceBEq, Int.reduceToNat, fIf_t hb, List.length_append]
        · refine aw_skip ?_
          simp only [go_sem, ↓reduceIte, Nat.reduceEqDiff, reduceCtorEq, Nat.reduceAdd, Nat.reduceLT, Nat.reduceLeDiff, Nat.reduceBNe, Nat.reduceBEq, Int.reduceToNat]
          refine hK2 _ _ rfl ?_
          refine Le.mk _ _ ?_ ?_ rfl <;> simp only [go_sem, ↓reduceIte, Nat.reduceEqDiff, reduceCtorEq, Nat.reduceAdd, Nat.reduceLT, Nat.reduceLeDiff, Nat.reduceBNe, Nat.reduceBEq, Int.reduceToNat, fIf_f hb, List.append_nil]
      rintro fl2 h2
      have l2 : fl2.length ≤ fl1.length + 1 := by have := fIf_len (seen ((l.take i).map Config.equip) l[i].equip) 6 pos; rw [h2, List.length_append]; omega
      refine aw_cut (α := List Fault) (fun g => g = fl2 ++ fIf (decide ((l[i].cabs.length : Int) < 1) || decide (4 < (l[i].cabs.length : Int))) 4 pos) (fun g => stChk l i pos (seen ((l.take i).map Config.equip) l[i].equip) g) ?_ ?_
      · intro K2 hK2
        refine aw_seq (aw_region (EF := EF0) hG (by rw [hN]; exact tr11_14) ?_)
        simp only [a11_14, go_sem, ↓reduceIte, Nat.reduceEqDiff, reduceCtorEq, Nat.reduceAdd, Nat.reduceLT, Nat.reduceLeDiff, Nat.reduceBNe, Nat.reduceBEq, Int.reduceToNat, stChk, getD_map _ _ _ hci, hci, Config.enc]
        refine aw_cond (b := _) rfl (fun hb => ?_) (fun hb => ?_)
        · refine aw_region (EF := EF0) hG (by rw [hN]; exact tr11_15) ?_
          simp only [a11_15, go_sem, ↓reduceIte, Nat.reduceEqDiff, reduceCtorEq, Nat.reduceAdd, Nat.reduceLT, Nat.reduceLeDiff, Nat.reduceBNe, Nat.reduceBEq, Int.reduceToNat]
          (repeat' apply And.intro) <;> (try first | omega)
          refine hK2 _ _ rfl ?_
          refine Le.mk _ _ ?_ ?_ rfl <;> simp only [go_sem, ↓reduceIte, Nat.reduceEqDiff, reduceCtorEq, Nat.reduceAdd, Nat.reduceLT, Nat.reduceLeDiff, Nat.reduceBNe, Nat.reduceBEq, Int.reduceToNat, fIf_t hb, List.length_append]
        · refine aw_skip ?_
          simp only [go_sem, ↓reduceIte, Nat.reduceEqDiff, reduceCtorEq, Nat.reduceAdd, Nat.reduceLT, Nat.reduceLeDiff, Nat.reduceBNe, Nat.reduceBEq, Int.reduceToNat]
          refine hK2 _ _ rfl ?_
          refine Le.mk _ _ ?_ ?_ rfl <;> simp only [go_sem, ↓reduceIte, Nat.reduceEqDiff, reduceCtorEq, Nat.reduceAdd, Nat.reduceLT, Nat.reduceLeDiff, Nat.reduceBNe, Nat.reduceBEq, Int.reduceToNat, fIf_f hb, List.append_nil]
      rintro fl3 h3
      have l3 : fl3.length ≤ fl2.length + 1 := by have := fIf_len (decide ((l[i].cabs.length : Int) < 1) || decide (4 < (l[i].cabs.length : Int))) 4 pos; rw [h3, List.length_append]; omega
      have hf : confTo l (i + 1) = fl3 ++ flc := by rw [hstep, h3, h2, h1]; simp [sizeBad]
      refine aw_region (EF := EF0) hG (by rw [hN]; exact tr11_16) ?_
      simp only [a11_16, go_sem, ↓reduceIte, Nat.reduceEqDiff, reduceCtorEq, Nat.reduceAdd, Nat.reduceLT, Nat.reduceLeDiff, Nat.reduceBNe, Nat.reduceBEq, Int.reduceToNat, stChk, trCheck, getD_map _ _ _ hci, hci, Config.enc, hcb2, hx2]
      (repeat' apply And.intro) <;> (try first | omega | (exact hxc))
      refine aw_region (EF := EF0) hG (by rw [hN]; exact tr11_4) ?_
      simp only [a11_4, go_sem, ↓reduceIte, Nat.reduceEqDiff, reduceCtorEq, Nat.reduceAdd, Nat.reduceLT, Nat.reduceLeDiff, Nat.reduceBNe, Nat.reduceBEq, Int.reduceToNat, inI]
      (repeat' apply And.intro) <;> (try first | omega)
      refine hK (i + 1) _ ?_ ?_ ?_
      · omega
      · omega
      · refine Le.mk _ _ ?_ ?_ rfl <;> simp only [go_sem, ↓reduceIte, Nat.reduceEqDiff, reduceCtorEq, Nat.reduceAdd, Nat.reduceLT, Nat.reduceLeDiff, Nat.reduceBNe, Nat.reduceBEq, Int.reduceToNat, hf, List.length_append]
    · simp only [decide_eq_true_eq, decide_eq_false_iff_not, Bool.and_eq_true, Bool.or_eq_true, Bool.not_eq_true', Bool.not_eq_false', Bool.and_eq_false_iff, Bool.or_eq_false_iff, Int.ofNat_lt, Int.ofNat_le, Nat.not_lt, Nat.not_le, Int.not_lt, Int.not_le] at hci
      refine aw_exit ?_
      simp only [go_sem, ↓reduceIte, Nat.reduceEqDiff, reduceCtorEq, Nat.reduceAdd, Nat.reduceLT, Nat.reduceLeDiff, Nat.reduceBNe, Nat.reduceBEq, Int.reduceToNat]
      refine aw_seq (aw_region (EF := EF0) hG (by rw [hN]; exact tr11_17) ?_)
      simp only [a11_17, go_sem, ↓reduceIte, Nat.reduceEqDiff, reduceCtorEq, Nat.reduceAdd, Nat.reduceLT, Nat.reduceLeDiff, Nat.reduceBNe, Nat.reduceBEq, Int.reduceToNat]
      have hie : i = l.length := by omega
      subst hie
      refine AW.le (s' := ⟨mkE [(2, .list (faults (confTo l l.length)) false)], mkH []⟩) (Le.mk _ _ ?_ ?_ rfl) (aw_ret (hQ _ _ (.inl rfl) ?_ ?_ ?_)) <;> simp only [outφ, outV, AR.res, go_sem, ↓reduceIte, Nat.reduceEqDiff, reduceCtorEq, Nat.reduceAdd, Nat.reduceLT, Nat.reduceLeDiff, Nat.reduceBNe, Nat.reduceBEq, Int.reduceToNat, fCheck, confFaults]
      exact wk_frz rfl (by rw [faults_len]) rfl (faults_pur _)
end Go.Proofs.YtopafipomaiabaaDoor
