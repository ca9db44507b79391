/- The program's Check of configurations. -/
import Derived.Test.YtopafipomaiabaaDoorCa9
namespace Go.Proofs.YtopafipomaiabaaDoor
open Go Go.RowKit
set_option linter.unusedSimpArgs false
set_option linter.unusedVariables false
set_option linter.deprecated false
/-- (*checker).cabin, as a caller uses it. -/
theorem cab_use {d : Option Nat} {s : St} {K : St → Prop} {nb na nm : Nat} (y : Cabin) (prev : List (List UInt8)) {g : List Fault} {path : List UInt8} (hb : s.h nb = some (.box 53 [.own na g.length, .str path])) (ha : s.h na = some (.arr 51 2 (faults g))) (hm : s.h nm = some (.mp (smap prev))) (h1 : nb ≠ na) (h2 : nb ≠ nm) (h3 : na ≠ nm)
    (hc : y.ok ∧ y.cl.length ≤ 1000 ∧ g.length ≤ 100000000000 ∧ path ≠ [] ∧ path.length ≤ 10000)
    (hK : K ⟨setE d (.tup []) s.e, hov (chk nb na (g ++ cabTail y path prev) (posTo path y.cl.length) ++ [(nm, .mp (smap (prev ++ codes y.cl)))]) s.h⟩) : EStep Tryd.prog UT d 28 [.ptr nb 0, .agg y.enc, .map nm] s K := by
  obtain ⟨hy, hsm, hg, hp, hpl⟩ := hc
  have h1' := Ne.symm h1
  have h2' := Ne.symm h2
  have h3' := Ne.symm h3
  refine ⟨[(1000, nb), (1001, na), (1002, nm)], [], _, _, _, _, cab_e y g path prev hy hsm hg hp hpl, ⟨by simp [okL, h1, h2, h3], rfl, rfl, by simp, by simp, ?_, by simp [V.rens, V.ren, rni, Cabin.enc, h2', h3', h1'], by simp [V.nins, V.nin, Cabin.enc], by simp [V.nin, V.nins], ?_, ?_⟩, ?_⟩
  · intro p hp
    simp only [List.mem_cons, List.not_mem_nil, or_false] at hp
    rcases hp with rfl | rfl | rfl
    · exact ⟨_, hb, by simp [chk, mkH, Ob.ren, V.rens, V.ren, rni, h1'], by simp [Ob.nin, V.nins, V.nin]⟩
    · exact ⟨_, ha, by simp [chk, mkH, Ob.ren], by simp only [Ob.nin, faults_purT]⟩
    · exact ⟨_, hm, by simp [chk, mkH, Ob.ren, smap_ren], by simp only [Ob.nin, smap_ninT]⟩
  · intro q hq
    simp only [chk, List.mem_append, List.mem_cons, List.not_mem_nil, or_false] at hq
    rcases hq with (rfl | rfl) | rfl
    · simp [Ob.nin, V.nins, V.nin, chk]
    · simp only [Ob.nin, faults_purT]
    · simp only [Ob.nin, smap_ninT]
  · intro p hp o o' h1 h2
    simp only [List.mem_cons, List.not_mem_nil, or_false] at hp
    rcases hp with rfl | rfl | rfl <;> simp [chk, mkH] at h1 h2 <;> subst h1 h2 <;> simp [Ob.kind]
  · have e1 : (V.tup []).ren (rn ([(1000, nb), (1001, na), (1002, nm)] ++ [])) = .tup [] := by simp [V.ren, V.rens]
    have e2 : (chk 1000 1001 (g ++ cabTail y path prev) (posTo path y.cl.length) ++ [(1002, Ob.mp (smap (prev ++ codes y.cl)))]).map (fun q : Nat × Ob => (rn ([(1000, nb), (1001, na), (1002, nm)] ++ []) q.1, q.2.ren (rn ([(1000, nb), (1001, na), (1002, nm)] ++ [])))) = chk nb na (g ++ cabTail y path prev) (posTo path y.cl.length) ++ [(nm, .mp (smap (prev ++ codes y.cl)))] := by
      simp [chk, rn, Ob.ren, V.rens, V.ren, smap_ren]
    rw [e1, e2]
    exact hK
def EFk : Nat → Bool := fun f => f == 26 || f == 28
def stK (l : List Config) (i : Nat) (g : List Fault) (pos : List UInt8) (more : List (Nat × V)) (moreH : List (Nat × Ob)) : St :=
  ⟨mkE ([(3, .ptr 3 0), (4, .map 12), (13, .list (l.map Config.enc) false), (14, .int .i64 l.length), (15, .int .i64 i)] ++ more), mkH (chk 3 900 g pos ++ [(12, .mp (smap ((l.take i).map Config.equip)))] ++ moreH)⟩
def stK2 (l : List Config) (i : Nat) (pv : List (List UInt8)) (nm path : List UInt8) (cabs : List Cabin) (k : Nat) (g : List Fault) (pos : List UInt8) (moreH : List (Nat × Ob)) : St :=
  ⟨mkE [(3, .ptr 3 0), (4, .map 12), (7, .str path), (8, .map 49), (9, .map 50), (13, .list (l.map Config.enc) false), (14, .int .i64 l.length), (15, .int .i64 i), (52, .list (cabs.map Cabin.enc) false), (53, .int .i64 cabs.length), (54, .int .i64 k)],
   mkH (chk 3 900 g pos ++ [(12, .mp (smap (pv ++ [nm]))), (49, .mp (smap ((cabs.take k).map Cabin.name))), (50, .mp (smap (prevCodes cabs k)))] ++ moreH)⟩
noncomputable def tCk : Tab
  | 25 => gDec
  | 27 => gCode
  | _ => gNo
theorem tCk_ok : ∀ f, PureC Tryd.prog UT f (tCk f) := fun f => by
  unfold tCk
  split
  · exact decimal_p
  · exact code_p
  · exact PureC.no
set_option maxHeartbeats 2000000 in
theorem check_p : PureC Tryd.prog UT 10 (gOf aCheck fCheck) := by
  have hG := tCk_ok
  refine PureC.ofArgs aCheck_inj Tryd.func10 body10 nm10 res10 ?_
  rintro l hv
  refine ⟨by rw [nt10]; simp [aCheck], fun C hN Q hQ => ?_⟩
  rw [nt10] at hN
  unfold c10
  obtain ⟨hl, hok, hcb, hcl⟩ : SmallL l := hv
  have hw : sConfig.length = 6 := rfl
  have hw2 : sCabin.length = 5 := rfl
  refine aw_seq (aw_region (EF := EFk) hG (by rw [hN]; exact tr10_0) ?_)
  simp only [a10_0, go_sem, ↓reduceIte, Nat.reduceEqDiff, reduceCtorEq, Nat.reduceAdd, Nat.reduceLT, Nat.reduceLeDiff, Nat.reduceBNe, Nat.reduceBEq, Int.reduceToNat, EFk, aCheck]
  refine aw_seq (aw_region (EF := EFk) hG (by rw [hN]; exact tr10_1) ?_)
  simp only [a10_1, go_sem, ↓reduceIte, Nat.reduceEqDiff, reduceCtorEq, Nat.reduceAdd, Nat.reduceLT, Nat.reduceLeDiff, Nat.reduceBNe, Nat.reduceBEq, Int.reduceToNat, EFk]
  refine aw_seq (aw_region (EF := EFk) hG (by rw [hN]; exact tr10_2) ?_)
  simp only [a10_2, go_sem, ↓reduceIte, Nat.reduceEqDiff, reduceCtorEq, Nat.reduceAdd, Nat.reduceLT, Nat.reduceLeDiff, Nat.reduceBNe, Nat.reduceBEq, Int.reduceToNat, EFk]
  refine aw_seq ?_
  refine aw_seq (aw_region (EF := EFk) hG (by rw [hN]; exact tr10_3) ?_)
  simp only [a10_3, go_sem, ↓reduceIte, Nat.reduceEqDiff, reduceCtorEq, Nat.reduceAdd, Nat.reduceLT, Nat.reduceLeDiff, Nat.reduceBNe, Nat.reduceBEq, Int.reduceToNat, EFk]
  refine aw_block ?_
  refine aw_loop (α := Nat × List UInt8) (fun i => i.1 ≤ l.length) (fun i => stK l i.1 (confTo l i.1) i.2 [] []) (fun i => l.length - i.1) (0, []) (Nat.zero_le _) ?_ ?_
  · refine Le.mk _ _ ?_ ?_ rfl <;> simp only [go_sem, ↓reduceIte, Nat.reduceEqDiff, reduceCtorEq, Nat.reduceAdd, Nat.reduceLT, Nat.reduceLeDiff, Nat.reduceBNe, Nat.reduceBEq, Int.reduceToNat, stK, chk]
    exact ⟨.nilo 900 51 2 rfl rfl, rfl, rfl⟩
  · rintro ⟨i, pos0⟩ hi K hK
    dsimp only at hi
    refine aw_seq ?_
    refine aw_region (EF := EFk) hG (by rw [hN]; exact tr10_4) ?_
    simp only [a10_4, go_sem, ↓reduceIte, Nat.reduceEqDiff, reduceCtorEq, Nat.reduceAdd, Nat.reduceLT, Nat.reduceLeDiff, Nat.reduceBNe, Nat.reduceBEq, Int.reduceToNat, EFk, stK, chk]
    refine aw_seq ?_
    refine aw_cond (b := _) rfl (fun hci => ?_) (fun hci => ?_)
    · simp only [decide_eq_true_eq, decide_eq_false_iff_not, Bool.and_eq_true, Bool.or_eq_true, Bool.not_eq_true', Bool.not_eq_false', Bool.and_eq_false_iff, Bool.or_eq_false_iff, Int.ofNat_lt, Int.ofNat_le, Nat.not_lt, Nat.not_le, Int.not_lt, Int.not_le] at hci
      have hx := hok _ (List.getElem_mem hci)
      have hxl := hcb _ (List.getElem_mem hci)
      have hxc := hcl _ (List.getElem_mem hci)
      have hat := at1_len [] sConfig (i := i) (by omega)
      rw [hw, List.length_nil] at hat
      have hlen := confTo_len l i hcb hcl
      have hstep : confTo l (i + 1) = confTo l i ++ (fIf (!codeB l[i].equip 3 3) 5 (at1 [] sConfig i) ++ fIf (seen ((l.take i).map Config.equip) l[i].equip) 6 (at1 [] sConfig i) ++ fIf (sizeBad l[i].cabs.length 1 4) 4 (at1 [] sConfig i) ++ cabTo l[i].cabs (at1 [] sConfig i) l[i].cabs.length) := by
        rw [confTo, confOne]; simp only [getD_lt _ _ _ hci]
      generalize confTo l i = fl at hlen hstep
      have hd := dec_lenN (i := i) (by omega)
      have hi2 : inI (i : Int) := ⟨by omega, by omega⟩
      have hath : [99, 111, 110, 102, 105, 103, 32] ++ dec i = at1 [] sConfig i := rfl
      have hpe := equips_succ l i hci
      generalize hyy : l[i] = x at hstep hx hxl hxc hpe
      obtain ⟨nm, cabs⟩ := x
      dsimp only at hstep hxl hxc hpe
      have hnm : nm.length ≤ 140737488355328 := hx.1
      generalize hpv : (l.take i).map Config.equip = pv at hpe hstep
      refine aw_skip ?_
      simp only [go_sem, ↓reduceIte, Nat.reduceEqDiff, reduceCtorEq, Nat.reduceAdd, Nat.reduceLT, Nat.reduceLeDiff, Nat.reduceBNe, Nat.reduceBEq, Int.reduceToNat]
      refine aw_seq ?_
      refine aw_block ?_
      refine aw_seq (aw_region (EF := EFk) hG (by rw [hN]; exact tr10_5) ?_)
      simp only [a10_5, go_sem, ↓reduceIte, Nat.reduceEqDiff, reduceCtorEq, Nat.reduceAdd, Nat.reduceLT, Nat.reduceLeDiff, Nat.reduceBNe, Nat.reduceBEq, Int.reduceToNat, EFk, getD_map _ _ _ hci, hci, hyy, Config.enc]
      refine aw_seq (aw_region (EF := EFk) hG (by rw [hN]; exact tr10_6) ?_)
      simp only [a10_6, go_sem, ↓reduceIte, Nat.reduceEqDiff, reduceCtorEq, Nat.reduceAdd, Nat.reduceLT, Nat.reduceLeDiff, Nat.reduceBNe, Nat.reduceBEq, Int.reduceToNat, EFk, tCk, gDec, hi2, hath]
      (repeat' apply And.intro) <;> (try first | omega | (simp only [List.length_append, List.length_cons, List.length_nil]; omega))
      have hpn : at1 [] sConfig i ≠ [] := by unfold at1 sConfig; simp
      generalize at1 [] sConfig i = path at hstep hat hpn
      refine aw_seq (aw_region (EF := EFk) hG (by rw [hN]; exact tr10_7) ?_)
      simp only [a10_7, go_sem, ↓reduceIte, Nat.reduceEqDiff, reduceCtorEq, Nat.reduceAdd, Nat.reduceLT, Nat.reduceLeDiff, Nat.reduceBNe, Nat.reduceBEq, Int.reduceToNat, EFk]
      refine aw_seq (aw_region (EF := EFk) hG (by rw [hN]; exact tr10_8) ?_)
      simp only [a10_8, go_sem, ↓reduceIte, Nat.reduceEqDiff, reduceCtorEq, Nat.reduceAdd, Nat.reduceLT, Nat.reduceLeDiff, Nat.reduceBNe, Nat.reduceBEq, Int.reduceToNat, EFk, tCk, fCode_eq, hnm]
      refine add_use (nb := 3) (na := 900) (by rfl) (by rfl) (by decide) ?_ ?_
      · omega
      have l1 := fIf_len (!codeB nm 3 3) 5 path
      simp only [go_sem, ↓reduceIte, Nat.reduceEqDiff, reduceCtorEq, Nat.reduceAdd, Nat.reduceLT, Nat.reduceLeDiff, Nat.reduceBNe, Nat.reduceBEq, Int.reduceToNat, chk]
      generalize hg1 : fl ++ fIf (!codeB nm 3 3) 5 path = g1
      have lg1 : g1.length ≤ fl.length + 1 := by rw [← hg1, List.length_append]; omega
      refine aw_seq (aw_region (EF := EFk) hG (by rw [hN]; exact tr10_9) ?_)
      simp only [a10_9, go_sem, ↓reduceIte, Nat.reduceEqDiff, reduceCtorEq, Nat.reduceAdd, Nat.reduceLT, Nat.reduceLeDiff, Nat.reduceBNe, Nat.reduceBEq, Int.reduceToNat, EFk]
      refine add_use (nb := 3) (na := 900) (by rfl) (by rfl) (by decide) ?_ ?_
      · omega
      have l2 := fIf_len (seen pv nm) 6 path
      simp only [go_sem, ↓reduceIte, Nat.reduceEqDiff, reduceCtorEq, Nat.reduceAdd, Nat.reduceLT, Nat.reduceLeDiff, Nat.reduceBNe, Nat.reduceBEq, Int.reduceToNat, chk]
      generalize hg2 : g1 ++ fIf (seen pv nm) 6 path = g2
      have lg2 : g2.length ≤ g1.length + 1 := by rw [← hg2, List.length_append]; omega
      refine aw_seq (aw_region (EF := EFk) hG (by rw [hN]; exact tr10_10) ?_)
      simp only [a10_10, go_sem, ↓reduceIte, Nat.reduceEqDiff, reduceCtorEq, Nat.reduceAdd, Nat.reduceLT, Nat.reduceLeDiff, Nat.reduceBNe, Nat.reduceBEq, Int.reduceToNat, EFk]
      rw [← show sizeBad cabs.length 1 4 = (decide ((cabs.length : Int) < 1) || decide (4 < (cabs.length : Int))) from rfl]
      refine add_use (nb := 3) (na := 900) (by rfl) (by rfl) (by decide) ?_ ?_
      · omega
      have l3 := fIf_len (sizeBad cabs.length 1 4) 4 path
      simp only [go_sem, ↓reduceIte, Nat.reduceEqDiff, reduceCtorEq, Nat.reduceAdd, Nat.reduceLT, Nat.reduceLeDiff, Nat.reduceBNe, Nat.reduceBEq, Int.reduceToNat, chk]
      generalize hg3 : g2 ++ fIf (sizeBad cabs.length 1 4) 4 path = g3
      have lg3 : g3.length ≤ g2.length + 1 := by rw [← hg3, List.length_append]; omega
      refine aw_seq (aw_region (EF := EFk) hG (by rw [hN]; exact tr10_11) ?_)
      simp only [a10_11, go_sem, ↓reduceIte, Nat.reduceEqDiff, reduceCtorEq, Nat.reduceAdd, Nat.reduceLT, Nat.reduceLeDiff, Nat.reduceBNe, Nat.reduceBEq, Int.reduceToNat, EFk]
      refine aw_seq (aw_region (EF := EFk) hG (by rw [hN]; exact tr10_12) ?_)
      simp only [a10_12, go_sem, ↓reduceIte, Nat.reduceEqDiff, reduceCtorEq, Nat.reduceAdd, Nat.reduceLT, Nat.reduceLeDiff, Nat.reduceBNe, Nat.reduceBEq, Int.reduceToNat, EFk]
      refine aw_seq (aw_region (EF := EFk) hG (by rw [hN]; exact tr10_13) ?_)
      simp only [a10_13, go_sem, ↓reduceIte, Nat.reduceEqDiff, reduceCtorEq, Nat.reduceAdd, Nat.reduceLT, Nat.reduceLeDiff, Nat.reduceBNe, Nat.reduceBEq, Int.reduceToNat, EFk]
      refine aw_block ?_
      refine aw_loop (α := Nat × List UInt8) (fun k => k.1 ≤ cabs.length) (fun k => stK2 l i pv nm path cabs k.1 (g3 ++ cabTo cabs path k.1) k.2 []) (fun k => cabs.length - k.1) (0, path) (Nat.zero_le _) ?_ ?_
      · refine Le.mk _ _ ?_ ?_ rfl <;> simp only [go_sem, ↓reduceIte, Nat.reduceEqDiff, reduceCtorEq, Nat.reduceAdd, Nat.reduceLT, Nat.reduceLeDiff, Nat.reduceBNe, Nat.reduceBEq, Int.reduceToNat, stK2, chk, cabTo, prevCodes, List.append_nil]
        rfl
      · rintro ⟨k, pos1⟩ hk K2 hK2
        dsimp only at hk
        refine aw_seq ?_
        refine aw_region (EF := EFk) hG (by rw [hN]; exact tr10_14) ?_
        simp only [a10_14, go_sem, ↓reduceIte, Nat.reduceEqDiff, reduceCtorEq, Nat.reduceAdd, Nat.reduceLT, Nat.reduceLeDiff, Nat.reduceBNe, Nat.reduceBEq, Int.reduceToNat, EFk, stK2, chk]
        refine aw_seq ?_
        refine aw_cond (b := _) rfl (fun hck => ?_) (fun hck => ?_)
        · simp only [decide_eq_true_eq, decide_eq_false_iff_not, Bool.and_eq_true, Bool.or_eq_true, Bool.not_eq_true', Bool.not_eq_false', Bool.and_eq_false_iff, Bool.or_eq_false_iff, Int.ofNat_lt, Int.ofNat_le, Nat.not_lt, Nat.not_le, Int.not_lt, Int.not_le] at hck
          have hy := hx.2.2 _ (List.getElem_mem hck)
          have hyl := hxc _ (List.getElem_mem hck)
          have hlen2 := cabTo_len cabs path k hxc
          have hat2 := at1_len path sCabin (i := k) (by omega)
          have hatn : at1 path sCabin k ≠ [] := by unfold at1 sCabin; simp
          have hstep2 : cabTo cabs path (k + 1) = cabTo cabs path k ++ (fIf (!codeB cabs[k].name 1 8) 5 (at1 path sCabin k) ++ fIf (seen ((cabs.take k).map Cabin.name) cabs[k].name) 6 (at1 path sCabin k) ++ cabTail cabs[k] (at1 path sCabin k) (prevCodes cabs k)) := by
            rw [cabTo, cabOne]; simp only [getD_lt _ _ _ hck]
          generalize cabTo cabs path k = fc at hlen2 hstep2
          have hd2 := dec_lenN (i := k) (by omega)
          have hk2 : inI (k : Int) := ⟨by omega, by omega⟩
          have hatk : path ++ [32, 99, 97, 98, 105, 110, 32] ++ dec k = at1 path sCabin k := by
            unfold at1 sCabin; rw [if_neg hpn]; simp
          have hpe2 := names_succ cabs k hck
          have hpc2 := prevCodes_succ cabs k hck
          generalize hyy2 : cabs[k] = y at hstep2 hy hyl hpe2 hpc2
          have hynm : y.name.length ≤ 140737488355328 := hy.1
          generalize hpv2 : (cabs.take k).map Cabin.name = pv2 at hpe2 hstep2
          generalize hpc : prevCodes cabs k = pc at hpc2 hstep2
          refine aw_skip ?_
          simp only [go_sem, ↓reduceIte, Nat.reduceEqDiff, reduceCtorEq, Nat.reduceAdd, Nat.reduceLT, Nat.reduceLeDiff, Nat.reduceBNe, Nat.reduceBEq, Int.reduceToNat]
          refine aw_seq ?_
          refine aw_block ?_
          refine aw_seq (aw_region (EF := EFk) hG (by rw [hN]; exact tr10_15) ?_)
          simp only [a10_15, go_sem, ↓reduceIte, Nat.reduceEqDiff, reduceCtorEq, Nat.reduceAdd, Nat.reduceLT, Nat.reduceLeDiff, Nat.reduceBNe, Nat.reduceBEq, Int.reduceToNat, EFk, getD_map _ _ _ hck, hck, hyy2, Cabin.enc]
          refine aw_seq (aw_region (EF := EFk) hG (by rw [hN]; exact tr10_16) ?_)
          simp only [a10_16, go_sem, ↓reduceIte, Nat.reduceEqDiff, reduceCtorEq, Nat.reduceAdd, Nat.reduceLT, Nat.reduceLeDiff, Nat.reduceBNe, Nat.reduceBEq, Int.reduceToNat, EFk, tCk, gDec, hk2, hatk]
          (repeat' apply And.intro) <;> (try first | omega | (simp only [List.length_append, List.length_cons, List.length_nil]; omega))
          generalize at1 path sCabin k = pos at hstep2 hat2 hatn
          refine aw_seq (aw_region (EF := EFk) hG (by rw [hN]; exact tr10_17) ?_)
          simp only [a10_17, go_sem, ↓reduceIte, Nat.reduceEqDiff, reduceCtorEq, Nat.reduceAdd, Nat.reduceLT, Nat.reduceLeDiff, Nat.reduceBNe, Nat.reduceBEq, Int.reduceToNat, EFk, tCk, fCode_eq, hynm]
          refine add_use (nb := 3) (na := 900) (by rfl) (by rfl) (by decide) ?_ ?_
          · rw [List.length_append]; omega
          have l4 := fIf_len (!codeB y.name 1 8) 5 pos
          simp only [go_sem, ↓reduceIte, Nat.reduceEqDiff, reduceCtorEq, Nat.reduceAdd, Nat.reduceLT, Nat.reduceLeDiff, Nat.reduceBNe, Nat.reduceBEq, Int.reduceToNat, chk]
          generalize hg4 : (g3 ++ fc) ++ fIf (!codeB y.name 1 8) 5 pos = g4
          have lg4 : g4.length ≤ g3.length + fc.length + 1 := by rw [← hg4, List.length_append, List.length_append]; omega
          refine aw_seq (aw_region (EF := EFk) hG (by rw [hN]; exact tr10_18) ?_)
          simp only [a10_18, go_sem, ↓reduceIte, Nat.reduceEqDiff, reduceCtorEq, Nat.reduceAdd, Nat.reduceLT, Nat.reduceLeDiff, Nat.reduceBNe, Nat.reduceBEq, Int.reduceToNat, EFk]
          refine add_use (nb := 3) (na := 900) (by rfl) (by rfl) (by decide) ?_ ?_
          · omega
          have l5 := fIf_len (seen pv2 y.name) 6 pos
          simp only [go_sem, ↓reduceIte, Nat.reduceEqDiff, reduceCtorEq, Nat.reduceAdd, Nat.reduceLT, Nat.reduceLeDiff, Nat.reduceBNe, Nat.reduceBEq, Int.reduceToNat, chk]
          generalize hg5 : g4 ++ fIf (seen pv2 y.name) 6 pos = g5
          have lg5 : g5.length ≤ g4.length + 1 := by rw [← hg5, List.length_append]; omega
          refine aw_seq (aw_region (EF := EFk) hG (by rw [hN]; exact tr10_19) ?_)
          simp only [a10_19, go_sem, ↓reduceIte, Nat.reduceEqDiff, reduceCtorEq, Nat.reduceAdd, Nat.reduceLT, Nat.reduceLeDiff, Nat.reduceBNe, Nat.reduceBEq, Int.reduceToNat, EFk]
          refine aw_region (EF := EFk) hG (by rw [hN]; exact tr10_20) ?_
          simp only [a10_20, go_sem, ↓reduceIte, Nat.reduceEqDiff, reduceCtorEq, Nat.reduceAdd, Nat.reduceLT, Nat.reduceLeDiff, Nat.reduceBNe, Nat.reduceBEq, Int.reduceToNat, EFk]
          refine cab_use (nb := 3) (na := 900) (nm := 50) y pc (by rfl) (by rfl) (by rfl) (by decide) (by decide) (by decide) ?_ ?_
          · exact ⟨hy, hyl, by omega, hatn, by omega⟩
          have hf : g3 ++ cabTo cabs path (k + 1) = g5 ++ cabTail y pos pc := by rw [hstep2, ← hg5, ← hg4]; simp only [List.append_assoc]
          simp only [go_sem, ↓reduceIte, Nat.reduceEqDiff, reduceCtorEq, Nat.reduceAdd, Nat.reduceLT, Nat.reduceLeDiff, Nat.reduceBNe, Nat.reduceBEq, Int.reduceToNat, chk]
          refine aw_region (EF := EFk) hG (by rw [hN]; exact tr10_21) ?_
          simp only [a10_21, go_sem, ↓reduceIte, Nat.reduceEqDiff, reduceCtorEq, Nat.reduceAdd, Nat.reduceLT, Nat.reduceLeDiff, Nat.reduceBNe, Nat.reduceBEq, Int.reduceToNat, EFk, inI]
          (repeat' apply And.intro) <;> (try first | omega)
          refine hK2 (k + 1, posTo pos y.cl.length) _ ?_ ?_ ?_
          · exact hck
          · show cabs.length - (k + 1) < cabs.length - k; omega
          · refine Le.mk _ _ ?_ ?_ rfl <;> simp only [go_sem, ↓reduceIte, Nat.reduceEqDiff, reduceCtorEq, Nat.reduceAdd, Nat.reduceLT, Nat.reduceLeDiff, Nat.reduceBNe, Nat.reduceBEq, Int.reduceToNat, stK2, hf, hpe2, hpc2, chk, List.append_assoc]
        · simp only [decide_eq_true_eq, decide_eq_false_iff_not, Bool.and_eq_true, Bool.or_eq_true, Bool.not_eq_true', Bool.not_eq_false', Bool.and_eq_false_iff, Bool.or_eq_false_iff, Int.ofNat_lt, Int.ofNat_le, Nat.not_lt, Nat.not_le, Int.not_lt, Int.not_le] at hck
          refine aw_exit ?_
          simp only [go_sem, ↓reduceIte, Nat.reduceEqDiff, reduceCtorEq, Nat.reduceAdd, Nat.reduceLT, Nat.reduceLeDiff, Nat.reduceBNe, Nat.reduceBEq, Int.reduceToNat]
          have hie : k = cabs.length := by omega
          subst hie
          have hf : confTo l (i + 1) = g3 ++ cabTo cabs path cabs.length := by rw [hstep, ← hg3, ← hg2, ← hg1]; simp only [List.append_assoc]
          refine aw_region (EF := EFk) hG (by rw [hN]; exact tr10_22) ?_
          simp only [a10_22, go_sem, ↓reduceIte, Nat.reduceEqDiff, reduceCtorEq, Nat.reduceAdd, Nat.reduceLT, Nat.reduceLeDiff, Nat.reduceBNe, Nat.reduceBEq, Int.reduceToNat, EFk, inI]
          (repeat' apply And.intro) <;> (try first | omega)
          refine hK (i + 1, pos1) _ ?_ ?_ ?_
          · exact hci
          · show l.length - (i + 1) < l.length - i; omega
          · refine Le.mk _ _ ?_ ?_ rfl <;> simp only [go_sem, ↓reduceIte, Nat.reduceEqDiff, reduceCtorEq, Nat.reduceAdd, Nat.reduceLT, Nat.reduceLeDiff, Nat.reduceBNe, Nat.reduceBEq, Int.reduceToNat, stK, hf, hpe, chk]
    · simp only [decide_eq_true_eq, decide_eq_false_iff_not, Bool.and_eq_true, Bool.or_eq_true, Bool.not_eq_true', Bool.not_eq_false', Bool.and_eq_false_iff, Bool.or_eq_false_iff, Int.ofNat_lt, Int.ofNat_le, Nat.not_lt, Nat.not_le, Int.not_lt, Int.not_le] at hci
      refine aw_exit ?_
      simp only [go_sem, ↓reduceIte, Nat.reduceEqDiff, reduceCtorEq, Nat.reduceAdd, Nat.reduceLT, Nat.reduceLeDiff, Nat.reduceBNe, Nat.reduceBEq, Int.reduceToNat]
      have hie : i = l.length := by omega
      subst hie
      refine aw_seq (aw_region (EF := EFk) hG (by rw [hN]; exact tr10_23) ?_)
      simp only [a10_23, go_sem, ↓reduceIte, Nat.reduceEqDiff, reduceCtorEq, Nat.reduceAdd, Nat.reduceLT, Nat.reduceLeDiff, Nat.reduceBNe, Nat.reduceBEq, Int.reduceToNat, EFk]
      refine AW.le (s' := ⟨mkE [(2, .list (faults (confTo l l.length)) false)], mkH []⟩) (Le.mk _ _ ?_ ?_ rfl) (aw_ret (hQ _ _ (.inl rfl) ?_ ?_ ?_)) <;> simp only [outφ, outV, AR.res, go_sem, ↓reduceIte, Nat.reduceEqDiff, reduceCtorEq, Nat.reduceAdd, Nat.reduceLT, Nat.reduceLeDiff, Nat.reduceBNe, Nat.reduceBEq, Int.reduceToNat, fCheck, confFaults]
      exact wk_frz rfl (by rw [faults_len]) rfl (faults_pur _)
end Go.Proofs.YtopafipomaiabaaDoor
