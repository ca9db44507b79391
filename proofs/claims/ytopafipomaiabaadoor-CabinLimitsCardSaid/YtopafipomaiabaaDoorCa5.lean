/- The violations of configurations, in plain words; the reference's place and occurs. -/
import Derived.Test.YtopafipomaiabaaDoorCa4
namespace Go.Proofs.YtopafipomaiabaaDoor
open Go Go.RowKit
set_option linter.unusedSimpArgs false
set_option linter.unusedVariables false
set_option linter.deprecated false
def codes (l : List Class) : List (List UInt8) := l.map Class.code
def prevCodes (l : List Cabin) (k : Nat) : List (List UInt8) := (l.take k).flatMap fun y => codes y.cl
def protBad (y : Cabin) (k : Nat) : Bool :=
  let z := y.cl.getD k zClass
  decide (z.prot < 0) || (decide (0 < k) && decide (z.prot < (y.cl.getD (k - 1) zClass).prot)) || (inR y && decide (auth y < z.prot))
def sClass : List UInt8 := [99, 108, 97, 115, 115]
def sCabin : List UInt8 := [99, 97, 98, 105, 110]
def sConfig : List UInt8 := [99, 111, 110, 102, 105, 103]
def clsOne (y : Cabin) (path : List UInt8) (prev : List (List UInt8)) (k : Nat) : List Fault :=
  let z := y.cl.getD k zClass
  let pos := at1 path sClass k
  fIf (!classB z.code) 16 pos ++ fIf (seen (prev ++ codes (y.cl.take k)) z.code) 6 pos ++ fIf (protBad y k) 2 pos
def clsTo (y : Cabin) (path : List UInt8) (prev : List (List UInt8)) : Nat → List Fault
  | 0 => []
  | k + 1 => clsTo y path prev k ++ clsOne y path prev k
def sizeBad (n lo hi : Int) : Bool := decide (n < lo) || decide (hi < n)
def cabTail (y : Cabin) (path : List UInt8) (prev : List (List UInt8)) : List Fault :=
  fIf (!inR y) 2 path ++ fIf (sizeBad y.cl.length 1 26) 4 path ++ clsTo y path prev y.cl.length
def cabOne (l : List Cabin) (path : List UInt8) (k : Nat) : List Fault :=
  let y := l.getD k zCabin
  let pos := at1 path sCabin k
  fIf (!codeB y.name 1 8) 5 pos ++ fIf (seen ((l.take k).map Cabin.name) y.name) 6 pos ++ cabTail y pos (prevCodes l k)
def cabTo (l : List Cabin) (path : List UInt8) : Nat → List Fault
  | 0 => []
  | k + 1 => cabTo l path k ++ cabOne l path k
def confOne (l : List Config) (k : Nat) : List Fault :=
  let x := l.getD k zConf
  let pos := at1 [] sConfig k
  fIf (!codeB x.equip 3 3) 5 pos ++ fIf (seen ((l.take k).map Config.equip) x.equip) 6 pos ++ fIf (sizeBad x.cabs.length 1 4) 4 pos ++ cabTo x.cabs pos x.cabs.length
def confTo (l : List Config) : Nat → List Fault
  | 0 => []
  | k + 1 => confTo l k ++ confOne l k
def confFaults (l : List Config) : List Fault := confTo l l.length
/-! place -/
def aPl (x : List UInt8 × List UInt8 × Nat) : List V := [.str x.1, .str x.2.1, .int .i64 x.2.2]
theorem aPl_inj (a b : List UInt8 × List UInt8 × Nat) (h : aPl a = aPl b) : a = b := by
  obtain ⟨a1, a2, a3⟩ := a; obtain ⟨b1, b2, b3⟩ := b
  simp only [aPl, List.cons.injEq, V.str.injEq, V.int.injEq, and_true, true_and] at h
  obtain ⟨rfl, rfl, h⟩ := h
  have : a3 = b3 := by omega
  rw [this]
def fPl (x : List UInt8 × List UInt8 × Nat) : Prop × V := (x.1.length ≤ 1000000 ∧ x.2.1.length ≤ 1000000 ∧ x.2.2 ≤ 1000000, .str (at1 x.1 x.2.1 x.2.2))
noncomputable def trPl : Tab
  | 38 => gRDec
  | _ => gNo
theorem trPl_ok : ∀ f, PureC Tryd.prog UT f (trPl f) := fun f => by
  unfold trPl
  split
  · exact rdecimal_p
  · exact PureC.no
set_option maxHeartbeats 1000000 in
theorem rpl_p : PureC Tryd.prog UT 29 (gOf aPl fPl) := by
  have hG := trPl_ok
  refine PureC.ofArgs aPl_inj Tryd.func29 body29 nm29 res29 ?_
  rintro ⟨p, w, i⟩ hv
  refine ⟨by rw [nt29]; simp [aPl], fun C hN Q hQ => ?_⟩
  rw [nt29] at hN
  unfold c29
  obtain ⟨h1, h2, h3⟩ : p.length ≤ 1000000 ∧ w.length ≤ 1000000 ∧ i ≤ 1000000 := hv
  have hd := dec_lenN h3
  refine aw_seq (aw_region (EF := EF0) hG (by rw [hN]; exact tr29_0) ?_)
  simp only [a29_0, go_sem, ↓reduceIte, Nat.reduceEqDiff, reduceCtorEq, Nat.reduceAdd, Nat.reduceLT, Nat.reduceLeDiff, Nat.reduceBNe, Nat.reduceBEq, Int.reduceToNat, aPl]
  refine aw_seq ?_
  refine aw_seq (aw_region (EF := EF0) hG (by rw [hN]; exact tr29_1) ?_)
  simp only [a29_1, go_sem, ↓reduceIte, Nat.reduceEqDiff, reduceCtorEq, Nat.reduceAdd, Nat.reduceLT, Nat.reduceLeDiff, Nat.reduceBNe, Nat.reduceBEq, Int.reduceToNat]
  refine aw_cond (b := _) rfl (fun hc => ?_) (fun hc => ?_)
  · simp only [decide_eq_true_eq, decide_eq_false_iff_not, Bool.and_eq_true, Bool.or_eq_true, Bool.not_eq_true', Bool.not_eq_false', Bool.and_eq_false_iff, Bool.or_eq_false_iff, Int.ofNat_lt, Int.ofNat_le, Nat.not_lt, Nat.not_le, Int.not_lt, Int.not_le] at hc
    refine aw_region (EF := EF0) hG (by rw [hN]; exact tr29_2) ?_
    simp only [a29_2, go_sem, ↓reduceIte, Nat.reduceEqDiff, reduceCtorEq, Nat.reduceAdd, Nat.reduceLT, Nat.reduceLeDiff, Nat.reduceBNe, Nat.reduceBEq, Int.reduceToNat]
    (repeat' apply And.intro) <;> (try first | omega | (simp only [List.length_append, List.length_cons, List.length_nil]; omega))
    refine aw_seq (aw_region (EF := EF0) hG (by rw [hN]; exact tr29_3) ?_)
    simp only [a29_3, go_sem, ↓reduceIte, Nat.reduceEqDiff, reduceCtorEq, Nat.reduceAdd, Nat.reduceLT, Nat.reduceLeDiff, Nat.reduceBNe, Nat.reduceBEq, Int.reduceToNat, trPl, gRDec, inI]
    (repeat' apply And.intro) <;> (try first | omega | (simp only [List.length_append, List.length_cons, List.length_nil]; omega))
    refine aw_ret ?_
    show Q _ _
    refine hQ _ _ (.inl rfl) ?_ ?_ ?_ <;> simp only [outφ, outV, AR.res, go_sem, ↓reduceIte, Nat.reduceEqDiff, reduceCtorEq, Nat.reduceAdd, Nat.reduceLT, Nat.reduceLeDiff, Nat.reduceBNe, Nat.reduceBEq, Int.reduceToNat, fPl, at1, if_neg hc]
  · simp only [decide_eq_true_eq, decide_eq_false_iff_not, Bool.and_eq_true, Bool.or_eq_true, Bool.not_eq_true', Bool.not_eq_false', Bool.and_eq_false_iff, Bool.or_eq_false_iff, Int.ofNat_lt, Int.ofNat_le, Nat.not_lt, Nat.not_le, Int.not_lt, Int.not_le] at hc
    refine aw_skip ?_
    simp only [go_sem, ↓reduceIte, Nat.reduceEqDiff, reduceCtorEq, Nat.reduceAdd, Nat.reduceLT, Nat.reduceLeDiff, Nat.reduceBNe, Nat.reduceBEq, Int.reduceToNat]
    refine aw_seq (aw_region (EF := EF0) hG (by rw [hN]; exact tr29_3) ?_)
    simp only [a29_3, go_sem, ↓reduceIte, Nat.reduceEqDiff, reduceCtorEq, Nat.reduceAdd, Nat.reduceLT, Nat.reduceLeDiff, Nat.reduceBNe, Nat.reduceBEq, Int.reduceToNat, trPl, gRDec, inI]
    (repeat' apply And.intro) <;> (try first | omega | (simp only [List.length_append, List.length_cons, List.length_nil]; omega))
    refine aw_ret ?_
    show Q _ _
    refine hQ _ _ (.inl rfl) ?_ ?_ ?_ <;> simp only [outφ, outV, AR.res, go_sem, ↓reduceIte, Nat.reduceEqDiff, reduceCtorEq, Nat.reduceAdd, Nat.reduceLT, Nat.reduceLeDiff, Nat.reduceBNe, Nat.reduceBEq, Int.reduceToNat, fPl, at1, if_pos hc, hc]
/-! occurs -/
theorem prevCodes_succ (l : List Cabin) (k : Nat) (h : k < l.length) : prevCodes l (k + 1) = prevCodes l k ++ codes l[k].cl := by
  unfold prevCodes
  rw [List.take_succ_eq_append_getElem h, List.flatMap_append]
  simp
theorem codes_take_succ (l : List Class) (k : Nat) (h : k < l.length) : codes (l.take (k + 1)) = codes (l.take k) ++ [l[k].code] := by
  unfold codes
  rw [List.take_succ_eq_append_getElem h, List.map_append]; rfl
theorem mem_prev {l : List Cabin} {j c : Nat} (hj : j < c) (hl : j < l.length) {x : List UInt8} (hx : x ∈ codes l[j].cl) : x ∈ prevCodes l c := by
  unfold prevCodes
  refine List.mem_flatMap.2 ⟨l[j], ?_, hx⟩
  rw [List.mem_take_iff_getElem]
  exact ⟨j, by omega, rfl⟩
theorem mem_codes {l : List Class} {j k : Nat} (hj : j < k) (hl : j < l.length) : l[j].code ∈ codes (l.take k) := by
  unfold codes
  refine List.mem_map.2 ⟨l[j], ?_, rfl⟩
  rw [List.mem_take_iff_getElem]
  exact ⟨j, by omega, rfl⟩
def occ (l : List Cabin) (c k : Nat) : Bool := seen (prevCodes l c ++ codes ((l.getD c zCabin).cl.take k)) ((l.getD c zCabin).cl.getD k zClass).code
def aOcc (x : Config × Nat × Nat) : List V := [.agg x.1.enc, .int .i64 x.2.1, .int .i64 x.2.2]
theorem aOcc_inj (a b : Config × Nat × Nat) (h : aOcc a = aOcc b) : a = b := by
  obtain ⟨a1, a2, a3⟩ := a; obtain ⟨b1, b2, b3⟩ := b
  simp only [aOcc, List.cons.injEq, V.agg.injEq, V.int.injEq, and_true, true_and] at h
  obtain ⟨h1, h2, h3⟩ := h
  rw [Config.inj _ _ h1, show a2 = b2 by omega, show a3 = b3 by omega]
def fOcc (x : Config × Nat × Nat) : Prop × V := (x.1.ok ∧ x.2.1 < x.1.cabs.length ∧ x.2.2 < (x.1.cabs.getD x.2.1 zCabin).cl.length, .bool (occ x.1.cabs x.2.1 x.2.2))
set_option maxHeartbeats 2000000 in
theorem rocc_p : PureC Tryd.prog UT 46 (gOf aOcc fOcc) := by
  have hG := tNo_ok
  refine PureC.ofArgs aOcc_inj Tryd.func46 body46 nm46 res46 ?_
  rintro ⟨⟨q, l⟩, c, kk⟩ hv
  refine ⟨by rw [nt46]; simp [aOcc], fun C hN Q hQ => ?_⟩
  rw [nt46] at hN
  unfold c46
  obtain ⟨⟨_, hl, hy⟩, hc, hkk⟩ : Config.ok ⟨q, l⟩ ∧ c < l.length ∧ kk < (l.getD c zCabin).cl.length := hv
  dsimp only at hl hy
  rw [getD_lt _ _ _ hc] at hkk
  have hocc : occ l c kk = seen (prevCodes l c ++ codes (l[c].cl.take kk)) l[c].cl[kk].code := by rw [occ, getD_lt _ _ _ hc, getD_lt _ _ _ hkk]
  generalize htc : l[c].cl[kk].code = tc at hocc
  refine aw_seq (aw_region (EF := EF0) hG (by rw [hN]; exact tr46_0) ?_)
  simp only [a46_0, go_sem, ↓reduceIte, Nat.reduceEqDiff, reduceCtorEq, Nat.reduceAdd, Nat.reduceLT, Nat.reduceLeDiff, Nat.reduceBNe, Nat.reduceBEq, Int.reduceToNat, aOcc, Config.enc]
  refine aw_seq ?_
  refine aw_seq (aw_region (EF := EF0) hG (by rw [hN]; exact tr46_1) ?_)
  simp only [a46_1, go_sem, ↓reduceIte, Nat.reduceEqDiff, reduceCtorEq, Nat.reduceAdd, Nat.reduceLT, Nat.reduceLeDiff, Nat.reduceBNe, Nat.reduceBEq, Int.reduceToNat]
  refine aw_block ?_
  refine aw_loop (α := Nat) (fun i => i ≤ c ∧ tc ∉ prevCodes l i) (fun i => ⟨mkE [(1, .int .i64 c), (2, .int .i64 kk), (3, .ptr 3 0), (7, .int .i64 i)], mkH [(3, .box 30 [.str q, .list (l.map Cabin.enc) false])]⟩) (fun i => c - i) 0 ⟨Nat.zero_le _, by simp [prevCodes]⟩ ?_ ?_
  · refine Le.mk _ _ ?_ ?_ rfl <;> simp only [go_sem, ↓reduceIte, Nat.reduceEqDiff, reduceCtorEq, Nat.reduceAdd, Nat.reduceLT, Nat.reduceLeDiff, Nat.reduceBNe, Nat.reduceBEq, Int.reduceToNat]
  · rintro i ⟨hi, hp⟩ K hK
    refine aw_seq ?_
    refine aw_seq ?_
    refine aw_region (EF := EF0) hG (by rw [hN]; exact tr46_2) ?_
    simp only [a46_2, go_sem, ↓reduceIte, Nat.reduceEqDiff, reduceCtorEq, Nat.reduceAdd, Nat.reduceLT, Nat.reduceLeDiff, Nat.reduceBNe, Nat.reduceBEq, Int.reduceToNat]
    refine aw_cond (b := _) rfl (fun hci => ?_) (fun hci => ?_)
    · simp only [decide_eq_true_eq, decide_eq_false_iff_not, Bool.and_eq_true, Bool.or_eq_true, Bool.not_eq_true', Bool.not_eq_false', Bool.and_eq_false_iff, Bool.or_eq_false_iff, Int.ofNat_lt, Int.ofNat_le, Nat.not_lt, Nat.not_le, Int.not_lt, Int.not_le] at hci
      refine aw_skip ?_
      simp only [go_sem, ↓reduceIte, Nat.reduceEqDiff, reduceCtorEq, Nat.reduceAdd, Nat.reduceLT, Nat.reduceLeDiff, Nat.reduceBNe, Nat.reduceBEq, Int.reduceToNat]
      refine aw_seq ?_
      refine aw_block ?_
      have hil : i < l.length := by omega
      have hyi := (hy _ (List.getElem_mem hil)).2.2.2.1
      refine aw_seq (aw_region (EF := EF0) hG (by rw [hN]; exact tr46_4) ?_)
      simp only [a46_4, go_sem, ↓reduceIte, Nat.reduceEqDiff, reduceCtorEq, Nat.reduceAdd, Nat.reduceLT, Nat.reduceLeDiff, Nat.reduceBNe, Nat.reduceBEq, Int.reduceToNat]
      refine aw_block ?_
      refine aw_loop (α := Nat) (fun k => k ≤ l[i].cl.length ∧ tc ∉ codes (l[i].cl.take k) ∧ (i = c → k ≤ kk)) (fun k => ⟨mkE [(1, .int .i64 c), (2, .int .i64 kk), (3, .ptr 3 0), (7, .int .i64 i), (8, .int .i64 k)], mkH [(3, .box 30 [.str q, .list (l.map Cabin.enc) false])]⟩) (fun k => l[i].cl.length - k) 0 ⟨Nat.zero_le _, by simp [codes], fun _ => Nat.zero_le _⟩ ?_ ?_
      · refine Le.mk _ _ ?_ ?_ rfl <;> simp only [go_sem, ↓reduceIte, Nat.reduceEqDiff, reduceCtorEq, Nat.reduceAdd, Nat.reduceLT, Nat.reduceLeDiff, Nat.reduceBNe, Nat.reduceBEq, Int.reduceToNat]
      · rintro k ⟨hk, hp2, hkc⟩ K2 hK2
        refine aw_seq ?_
        refine aw_seq ?_
        refine aw_region (EF := EF0) hG (by rw [hN]; exact tr46_5) ?_
        simp only [a46_5, go_sem, ↓reduceIte, Nat.reduceEqDiff, reduceCtorEq, Nat.reduceAdd, Nat.reduceLT, Nat.reduceLeDiff, Nat.reduceBNe, Nat.reduceBEq, Int.reduceToNat, getD_map _ _ _ hil, hil, Cabin.enc]
        refine aw_cond (b := _) rfl (fun hck => ?_) (fun hck => ?_)
        · simp only [decide_eq_true_eq, decide_eq_false_iff_not, Bool.and_eq_true, Bool.or_eq_true, Bool.not_eq_true', Bool.not_eq_false', Bool.and_eq_false_iff, Bool.or_eq_false_iff, Int.ofNat_lt, Int.ofNat_le, Nat.not_lt, Nat.not_le, Int.not_lt, Int.not_le] at hck
          refine aw_skip ?_
          simp only [go_sem, ↓reduceIte, Nat.reduceEqDiff, reduceCtorEq, Nat.reduceAdd, Nat.reduceLT, Nat.reduceLeDiff, Nat.reduceBNe, Nat.reduceBEq, Int.reduceToNat]
          refine aw_seq ?_
          refine aw_block ?_
          refine aw_seq ?_
          refine aw_seq (aw_region (EF := EF0) hG (by rw [hN]; exact tr46_7) ?_)
          simp only [a46_7, go_sem, ↓reduceIte, Nat.reduceEqDiff, reduceCtorEq, Nat.reduceAdd, Nat.reduceLT, Nat.reduceLeDiff, Nat.reduceBNe, Nat.reduceBEq, Int.reduceToNat]
          refine aw_cond (b := _) rfl (fun he => ?_) (fun he => ?_)
          · simp only [decide_eq_true_eq, decide_eq_false_iff_not, Bool.and_eq_true, Bool.or_eq_true, Bool.not_eq_true', Bool.not_eq_false', Bool.and_eq_false_iff, Bool.or_eq_false_iff, Int.ofNat_lt, Int.ofNat_le, Nat.not_lt, Nat.not_le, Int.not_lt, Int.not_le] at he
            obtain ⟨e1, e2⟩ := he
            have e1 : i = c := by omega
            have e2 : k = kk := by omega
            subst e1 e2
            refine aw_seq (aw_region (EF := EF0) hG (by rw [hN]; exact tr46_8) ?_)
            simp only [a46_8, go_sem, ↓reduceIte, Nat.reduceEqDiff, reduceCtorEq, Nat.reduceAdd, Nat.reduceLT, Nat.reduceLeDiff, Nat.reduceBNe, Nat.reduceBEq, Int.reduceToNat]
            refine aw_ret ?_
            show Q _ _
            refine hQ _ _ (.inl rfl) ?_ ?_ ?_ <;> simp only [outφ, outV, AR.res, go_sem, ↓reduceIte, Nat.reduceEqDiff, reduceCtorEq, Nat.reduceAdd, Nat.reduceLT, Nat.reduceLeDiff, Nat.reduceBNe, Nat.reduceBEq, Int.reduceToNat, fOcc, hocc]
            rw [seen, decide_eq_false]
            intro hm
            rcases List.mem_append.1 hm with hm | hm
            · exact hp hm
            · exact hp2 hm
          · simp only [decide_eq_true_eq, decide_eq_false_iff_not, Bool.and_eq_true, Bool.or_eq_true, Bool.not_eq_true', Bool.not_eq_false', Bool.and_eq_false_iff, Bool.or_eq_false_iff, Int.ofNat_lt, Int.ofNat_le, Nat.not_lt, Nat.not_le, Int.not_lt, Int.not_le] at he
            refine aw_skip ?_
            simp only [go_sem, ↓reduceIte, Nat.reduceEqDiff, reduceCtorEq, Nat.reduceAdd, Nat.reduceLT, Nat.reduceLeDiff, Nat.reduceBNe, Nat.reduceBEq, Int.reduceToNat]
            refine aw_seq (aw_regionD (EF := EF0) hG mixed (by rw [hN]; exact tr46_9) ok46_9 ?_)
            simp only [a46_9, d46_9, go_sem, ↓reduceIte, Nat.reduceEqDiff, reduceCtorEq, Nat.reduceAdd, Nat.reduceLT, Nat.reduceLeDiff, Nat.reduceBNe, Nat.reduceBEq, Int.reduceToNat, getD_map _ _ _ hil, hil, getD_map _ _ _ hck, hck, getD_map _ _ _ hc, hc, getD_map _ _ _ hkk, hkk, Cabin.enc, Class.enc, htc]
            have hne : ¬ (i = c ∧ k = kk) := by omega
            refine aw_cond (b := _) rfl (fun hd => ?_) (fun hd => ?_)
            · simp only [decide_eq_true_eq, decide_eq_false_iff_not, Bool.and_eq_true, Bool.or_eq_true, Bool.not_eq_true', Bool.not_eq_false', Bool.and_eq_false_iff, Bool.or_eq_false_iff, Int.ofNat_lt, Int.ofNat_le, Nat.not_lt, Nat.not_le, Int.not_lt, Int.not_le] at hd
              refine aw_seq (aw_region (EF := EF0) hG (by rw [hN]; exact tr46_10) ?_)
              simp only [a46_10, go_sem, ↓reduceIte, Nat.reduceEqDiff, reduceCtorEq, Nat.reduceAdd, Nat.reduceLT, Nat.reduceLeDiff, Nat.reduceBNe, Nat.reduceBEq, Int.reduceToNat]
              refine aw_ret ?_
              show Q _ _
              refine hQ _ _ (.inl rfl) ?_ ?_ ?_ <;> simp only [outφ, outV, AR.res, go_sem, ↓reduceIte, Nat.reduceEqDiff, reduceCtorEq, Nat.reduceAdd, Nat.reduceLT, Nat.reduceLeDiff, Nat.reduceBNe, Nat.reduceBEq, Int.reduceToNat, fOcc, hocc]
              rw [seen, decide_eq_true]
              rw [← hd]
              refine List.mem_append.2 ?_
              by_cases e : i = c
              · subst e
                exact .inr (mem_codes (by have := hkc rfl; omega) hck)
              · exact .inl (mem_prev (by omega) hil (List.mem_map.2 ⟨_, List.getElem_mem hck, rfl⟩))
            · simp only [decide_eq_true_eq, decide_eq_false_iff_not, Bool.and_eq_true, Bool.or_eq_true, Bool.not_eq_true', Bool.not_eq_false', Bool.and_eq_false_iff, Bool.or_eq_false_iff, Int.ofNat_lt, Int.ofNat_le, Nat.not_lt, Nat.not_le, Int.not_lt, Int.not_le] at hd
              refine aw_skip ?_
              simp only [go_sem, ↓reduceIte, Nat.reduceEqDiff, reduceCtorEq, Nat.reduceAdd, Nat.reduceLT, Nat.reduceLeDiff, Nat.reduceBNe, Nat.reduceBEq, Int.reduceToNat]
              refine aw_region (EF := EF0) hG (by rw [hN]; exact tr46_6) ?_
              simp only [a46_6, go_sem, ↓reduceIte, Nat.reduceEqDiff, reduceCtorEq, Nat.reduceAdd, Nat.reduceLT, Nat.reduceLeDiff, Nat.reduceBNe, Nat.reduceBEq, Int.reduceToNat, inI]
              (repeat' apply And.intro) <;> (try first | omega)
              refine hK2 (k + 1) _ ?_ ?_ ?_
              · refine ⟨hck, ?_, fun e => ?_⟩
                · rw [codes_take_succ _ _ hck, List.mem_append, List.mem_singleton]
                  rintro (h | h)
                  · exact hp2 h
                  · exact hd h.symm
                · have := hkc e; omega
              · omega
              · refine Le.mk _ _ ?_ ?_ rfl <;> simp only [go_sem, ↓reduceIte, Nat.reduceEqDiff, reduceCtorEq, Nat.reduceAdd, Nat.reduceLT, Nat.reduceLeDiff, Nat.reduceBNe, Nat.reduceBEq, Int.reduceToNat]
        · simp only [decide_eq_true_eq, decide_eq_false_iff_not, Bool.and_eq_true, Bool.or_eq_true, Bool.not_eq_true', Bool.not_eq_false', Bool.and_eq_false_iff, Bool.or_eq_false_iff, Int.ofNat_lt, Int.ofNat_le, Nat.not_lt, Nat.not_le, Int.not_lt, Int.not_le] at hck
          refine aw_exit ?_
          simp only [go_sem, ↓reduceIte, Nat.reduceEqDiff, reduceCtorEq, Nat.reduceAdd, Nat.reduceLT, Nat.reduceLeDiff, Nat.reduceBNe, Nat.reduceBEq, Int.reduceToNat]
          have hne : i ≠ c := by rintro rfl; have := hkc rfl; omega
          refine aw_region (EF := EF0) hG (by rw [hN]; exact tr46_3) ?_
          simp only [a46_3, go_sem, ↓reduceIte, Nat.reduceEqDiff, reduceCtorEq, Nat.reduceAdd, Nat.reduceLT, Nat.reduceLeDiff, Nat.reduceBNe, Nat.reduceBEq, Int.reduceToNat, inI]
          (repeat' apply And.intro) <;> (try first | omega)
          refine hK (i + 1) _ ?_ ?_ ?_
          · refine ⟨by omega, ?_⟩
            rw [prevCodes_succ _ _ hil, List.mem_append]
            rintro (h | h)
            · exact hp h
            · rw [List.take_of_length_le hck] at hp2; exact hp2 h
          · omega
          · refine Le.mk _ _ ?_ ?_ rfl <;> simp only [go_sem, ↓reduceIte, Nat.reduceEqDiff, reduceCtorEq, Nat.reduceAdd, Nat.reduceLT, Nat.reduceLeDiff, Nat.reduceBNe, Nat.reduceBEq, Int.reduceToNat]
    · simp only [decide_eq_true_eq, decide_eq_false_iff_not, Bool.and_eq_true, Bool.or_eq_true, Bool.not_eq_true', Bool.not_eq_false', Bool.and_eq_false_iff, Bool.or_eq_false_iff, Int.ofNat_lt, Int.ofNat_le, Nat.not_lt, Nat.not_le, Int.not_lt, Int.not_le] at hci
      exfalso; omega
end Go.Proofs.YtopafipomaiabaaDoor
