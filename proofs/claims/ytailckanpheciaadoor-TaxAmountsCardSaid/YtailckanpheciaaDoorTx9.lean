/- The taxes of a journey, both. -/
import Derived.Test.YtailckanpheciaaDoorTx8
namespace Go.Proofs.YtailckanpheciaaDoor
open Go Go.RowKit
set_option linter.unusedSimpArgs false
set_option linter.unusedVariables false
set_option linter.deprecated false
def amtM (n : Int) (x : Tax) (fare : Int) : Int × Int := if x.kind = 4 ∧ n = 1 then perM fare x.amount else (n * x.amount, 0)
def chg (c : List UInt8) (a : Int) : List Charge := if a = 0 then [] else [⟨c, a⟩]
def ofM (t : Tax → Int) (fare : Int) : List Tax → List Charge → List Charge × Int
  | [], out => (out, 0)
  | x :: l, out => if (amtM (t x) x fare).2 ≠ 0 then ([], (amtM (t x) x fare).2) else if 1099511627776 < (amtM (t x) x fare).1 then ([], 11) else ofM t fare l (out ++ chg x.code (amtM (t x) x fare).1)
theorem ofM_step {l : List Tax} {i : Nat} (hi : i < l.length) {x : Tax} (hx : l[i] = x) {a : Int × Int} (t : Tax → Int) (fare : Int) (ha : amtM (t x) x fare = a) (out : List Charge) : ofM t fare (l.drop i) out = if a.2 ≠ 0 then ([], a.2) else if 1099511627776 < a.1 then ([], 11) else ofM t fare (l.drop (i + 1)) (out ++ chg x.code a.1) := by
  subst ha; subst hx
  rw [List.drop_eq_getElem_cons hi, ofM]
theorem ofM_end {l : List Tax} {i : Nat} (hi : l.length ≤ i) (t : Tax → Int) (fare : Int) (out : List Charge) : ofM t fare (l.drop i) out = (out, 0) := by rw [List.drop_eq_nil_of_le hi, ofM]
theorem amt_0 {n : Int} {x : Tax} {fare : Int} (h : n = 0) : amtM n x fare = (0, 0) := by unfold amtM; rw [if_neg (by omega), h, Int.zero_mul]
theorem amt_ne {n : Int} {x : Tax} {fare : Int} (h : x.kind ≠ 4) : amtM n x fare = (n * x.amount, 0) := by unfold amtM; rw [if_neg (by omega)]
theorem amt_4 {n : Int} {x : Tax} {fare : Int} (h : x.kind = 4) (hn : n = 1) : amtM n x fare = perM fare x.amount := by unfold amtM; rw [if_pos ⟨h, hn⟩]
def RightT (x : Tax) : Prop := Right1 x ∧ 0 ≤ x.amount ∧ x.amount ≤ (if x.kind = 4 then 100000 else 1099511627776)
theorem tm_bd {ps x l q} (h : Right1 x) : 0 ≤ timesP ps x l q ∧ timesP ps x l q ≤ l.length ∧ (x.kind = 4 → timesP ps x l q ≤ 1) := by
  have h1 := timesTo_bd ps x l l.length
  have h2 := times_4 (ps := ps) (l := l) h
  unfold timesP
  split
  · exact ⟨by omega, by omega, fun _ => by omega⟩
  · exact ⟨h1.1, h1.2, fun h4 => by rw [h2 h4]; omega⟩
theorem perM_2 (a h : Int) : (perM a h).2 = 0 ∨ (perM a h).2 = 11 := by unfold perM; split <;> simp
theorem perM_bd (a h : Int) : -1099511627776 ≤ (perM a h).1 ∧ (perM a h).1 ≤ 1099511627776 := by
  unfold perM; split
  · rename_i h1; exact (fits_iff _).1 (Bool.and_eq_true_iff.1 h1).2
  · decide
theorem perOk_of {a h : Int} (h1 : inI a) (h2 : 0 ≤ h) (h3 : h ≤ 100000) : PerOk a h := by
  refine ⟨h1, by unfold inI; omega, fun hf _ => ?_⟩
  have hb := (fits_iff _).1 hf
  have h4 : (a.natAbs : Int) * h.natAbs ≤ 1099511627776 * 100000 := Int.mul_le_mul (by omega) (by omega) (by omega) (by decide)
  unfold u64m
  omega
theorem mul_bd {n a : Int} (h1 : 0 ≤ n) (h2 : n ≤ 1000) (h3 : 0 ≤ a) (h4 : a ≤ 1099511627776) : 0 ≤ n * a ∧ n * a ≤ 1099511627776000 :=
  ⟨Int.mul_nonneg h1 h3, by have := Int.mul_le_mul h2 h4 h3 (by decide); omega⟩
def aOf (x : Places × List Tax × List Seg × List UInt8 × Int) : List V := [.agg x.1.enc, .list (x.2.1.map Tax.enc) false, .list (x.2.2.1.map Seg.enc) false, .str x.2.2.2.1, .int .i64 x.2.2.2.2]
theorem aOf_inj (a b : Places × List Tax × List Seg × List UInt8 × Int) (h : aOf a = aOf b) : a = b := by
  obtain ⟨a_p, a_l, a_s, a_q, a_f⟩ := a
  obtain ⟨b_p, b_l, b_s, b_q, b_f⟩ := b
  simp only [aOf, List.cons.injEq, V.str.injEq, V.int.injEq, V.bool.injEq, V.agg.injEq, V.list.injEq, and_true, true_and] at h
  obtain ⟨h0, h1, h2, h3, h4⟩ := h
  replace h0 := Places.inj _ _ h0
  subst h0
  replace h1 := map_inj' Tax.inj h1
  subst h1
  replace h2 := map_inj' Seg.inj h2
  subst h2
  subst h3
  subst h4
  rfl
def OkO (p : Places) (l : List Tax) (s : List Seg) (f : Int) : Prop := LenP p ∧ l.length ≤ 1000 ∧ s.length ≤ 1000 ∧ (∀ x ∈ s, SegOk x) ∧ (∀ x ∈ l, x.ok ∧ RightT x) ∧ inI f
def ofV (y : List Charge × Int) : V := .tup [.list (y.1.map Charge.enc) false, .int .i64 y.2]
def fTof (x : Places × List Tax × List Seg × List UInt8 × Int) : Prop × V := (OkO x.1 x.2.1 x.2.2.1 x.2.2.2.2, ofV (ofM (fun y => timesP x.1.airports y x.2.2.1 x.2.2.2.1) x.2.2.2.2 x.2.1 []))
theorem fTimes_eq (ps : List Airport) (ds : List Distance) (a b c d e f fr) (l : List Seg) (q : List UInt8) : gOf aTimes fTimes [.agg [.list (ps.map Airport.enc) false, .list (ds.map Distance.enc) false], .agg [.str a, .int .i64 b, .str c, .int .i64 d, .int .i64 e, .int .i64 f, .list (strs fr) false], .list (l.map Seg.enc) false, .str q] = (TimesOk ⟨ps, ds⟩ ⟨a, b, c, d, e, f, fr⟩ l, .int .i64 (timesP ps ⟨a, b, c, d, e, f, fr⟩ l q)) := gOf_eq aTimes_inj ((⟨ps, ds⟩ : Places), (⟨a, b, c, d, e, f, fr⟩ : Tax), l, q)
theorem ch_snoc (out : List Charge) (c a) : out.map Charge.enc ++ [[.str c, .int .i64 a]] = (out ++ [(⟨c, a⟩ : Charge)]).map Charge.enc := by rw [List.map_append]; rfl
theorem ofV_nil (e : Int) : ofV (([] : List Charge), e) = .tup [.list [] false, .int .i64 e] := rfl
noncomputable def tOf : Tab
  | 14 => (gOf aTimes fTimes)
  | 37 => (gOf aII fPer)
  | _ => gNo
theorem tOf_ok : ∀ f, PureC Tryd.prog UT f (tOf f) := fun f => by
  unfold tOf
  split
  · exact times_p
  · exact percent_p
  · exact PureC.no
set_option maxHeartbeats 4000000 in
theorem of_p : PureC Tryd.prog UT 16 (gOf aOf fTof) := by
  have hG := tOf_ok
  refine PureC.ofArgs aOf_inj Tryd.func16 body16 nm16 res16 ?_
  rintro ⟨⟨ps, ds⟩, l, sg, q, fare⟩ hv
  refine ⟨by rw [nt16]; simp [aOf], fun C hN Q hQ => ?_⟩
  rw [nt16] at hN
  unfold c16
  obtain ⟨hlp, hl, hsl, hso, hlx, hif⟩ : OkO ⟨ps, ds⟩ l sg fare := hv
  refine aw_seq (aw_region (EF := EF0) hG (by rw [hN]; exact tr16_0) ?_)
  simp only [a16_0, go_sem, ↓reduceIte, Nat.reduceEqDiff, reduceCtorEq, Nat.reduceAdd, Nat.reduceLT, Nat.reduceLeDiff, Nat.reduceBNe, Nat.reduceBEq, Int.reduceToNat, aOf, Places.enc, tOf, fTimes_eq, fPer_eq, pairI]
  refine aw_seq (aw_region (EF := EF0) hG (by rw [hN]; exact tr16_1) ?_)
  simp only [a16_1, go_sem, ↓reduceIte, Nat.reduceEqDiff, reduceCtorEq, Nat.reduceAdd, Nat.reduceLT, Nat.reduceLeDiff, Nat.reduceBNe, Nat.reduceBEq, Int.reduceToNat, tOf, fTimes_eq, fPer_eq, pairI]
  refine AW.le (s' := ⟨mkE [(1, .list (l.map Tax.enc) false), (2, .list (sg.map Seg.enc) false), (3, .str q), (4, .int .i64 fare), (5, .ptr 5 0), (12, .own 999 0)], mkH ([(5, .box 31 [.list (ps.map Airport.enc) false, .list (ds.map Distance.enc) false]), (999, .arr 62 2 (([] : List Charge).map Charge.enc))])⟩) (Le.mk _ _ (by (simp only [go_sem, ↓reduceIte, Nat.reduceEqDiff, reduceCtorEq, Nat.reduceAdd, Nat.reduceLT, Nat.reduceLeDiff, Nat.reduceBNe, Nat.reduceBEq, Int.reduceToNat]) <;> (repeat' apply And.intro) <;> (try first | exact wk_frzb rfl rfl rfl | rfl | exact wk_fn rfl | exact .nill _ | exact .nilo _ _ _ rfl rfl | exact wk_frz rfl (by simp only [ints_len, nats_len]) rfl (ints_pur _))) (by (simp only [go_sem, ↓reduceIte, Nat.reduceEqDiff, reduceCtorEq, Nat.reduceAdd, Nat.reduceLT, Nat.reduceLeDiff, Nat.reduceBNe, Nat.reduceBEq, Int.reduceToNat]) <;> (repeat' apply And.intro) <;> (try first | exact wk_frzb rfl rfl rfl | rfl | exact wk_fn rfl | exact .nill _ | exact .nilo _ _ _ rfl rfl | exact wk_frz rfl (by simp only [ints_len, nats_len]) rfl (ints_pur _))) rfl) ?_
  refine aw_seq ?_
  refine aw_seq (aw_region (EF := EF0) hG (by rw [hN]; exact tr16_2) ?_)
  simp only [a16_2, go_sem, ↓reduceIte, Nat.reduceEqDiff, reduceCtorEq, Nat.reduceAdd, Nat.reduceLT, Nat.reduceLeDiff, Nat.reduceBNe, Nat.reduceBEq, Int.reduceToNat, tOf, fTimes_eq, fPer_eq, pairI]
  refine aw_block ?_
  refine aw_loop (α := Nat × (List Charge)) (fun γ => (γ.1 ≤ l.length) ∧ (ofM (fun y => timesP ps y sg q) fare l [] = ofM (fun y => timesP ps y sg q) fare (l.drop γ.1) γ.2) ∧ (γ.2.length ≤ γ.1)) (fun γ => ⟨mkE [(2, V.list (List.map Seg.enc sg) false), (3, V.str q), (4, V.int IntKind.i64 fare), (5, V.ptr 5 0), (12, .own 999 γ.2.length), (19, V.list (List.map Tax.enc l) false), (20, V.int IntKind.i64 ↑l.length), (21, .int .i64 γ.1)], mkH [(5, Ob.box 31 [V.list (List.map Airport.enc ps) false, V.list (List.map Distance.enc ds) false]), (999, .arr 62 2 (γ.2.map Charge.enc))]⟩) (fun γ => l.length - γ.1) (0, []) ⟨Nat.zero_le _, rfl, Nat.le_refl _⟩ ?_ ?_
  · refine Le.mk _ _ ?_ ?_ rfl <;> simp only [go_sem, ↓reduceIte, Nat.reduceEqDiff, reduceCtorEq, Nat.reduceAdd, Nat.reduceLT, Nat.reduceLeDiff, Nat.reduceBNe, Nat.reduceBEq, Int.reduceToNat] <;> (repeat' apply And.intro) <;> (try first | rfl | exact wk_frzb rfl rfl rfl | exact wk_fn rfl | exact .nilo _ _ _ rfl rfl)
  · rintro ⟨i, out⟩ ⟨hi, hout, hol⟩ KL0 hKL0
    try dsimp only at *
    refine aw_seq (aw_region (EF := EF0) hG (by rw [hN]; exact tr16_3) ?_)
    simp only [a16_3, go_sem, ↓reduceIte, Nat.reduceEqDiff, reduceCtorEq, Nat.reduceAdd, Nat.reduceLT, Nat.reduceLeDiff, Nat.reduceBNe, Nat.reduceBEq, Int.reduceToNat, tOf, fTimes_eq, fPer_eq, pairI]
    refine aw_seq ?_
    refine aw_cond (b := _) rfl (fun hc3 => ?_) (fun hc3 => ?_)
    · simp only [decide_eq_true_eq, decide_eq_false_iff_not, Bool.and_eq_true, Bool.or_eq_true, Bool.not_eq_true', Bool.not_eq_false', Bool.and_eq_false_iff, Bool.or_eq_false_iff, Int.ofNat_lt, Int.ofNat_le, Nat.not_lt, Nat.not_le, Int.not_lt, Int.not_le] at hc3
      refine aw_skip ?_
      try simp only [go_sem, ↓reduceIte, Nat.reduceEqDiff, reduceCtorEq, Nat.reduceAdd, Nat.reduceLT, Nat.reduceLeDiff, Nat.reduceBNe, Nat.reduceBEq, Int.reduceToNat]
      refine aw_seq ?_
      refine aw_block ?_
      obtain ⟨hxo, hxr⟩ := hlx _ (List.getElem_mem hc3)
      generalize hxx : l[i] = x at hxo hxr
      obtain ⟨a, b, c, d, e, f, fr⟩ := x
      obtain ⟨h1, h2, h3, h4, h5, h6, h7, h8⟩ := hxo
      obtain ⟨hr1, ha0, ha1⟩ := hxr
      have htb := tm_bd (ps := ps) (l := sg) (q := q) hr1
      have hst := fun z h => ofM_step hc3 hxx (fun y => timesP ps y sg q) fare (a := z) h out
      have hto : TimesOk ⟨ps, ds⟩ ⟨a, b, c, d, e, f, fr⟩ sg := ⟨hlp, h7, hsl, hso⟩
      dsimp only at ha0 ha1 htb hst
      generalize hn : timesP ps ⟨a, b, c, d, e, f, fr⟩ sg q = n at htb hst
      have hd : d ≤ 1099511627776 := by split at ha1 <;> omega
      have hmb := mul_bd htb.1 (by omega : n ≤ 1000) ha0 hd
      refine aw_seq (aw_region (EF := EF0) hG (by rw [hN]; exact tr16_4) ?_)
      simp only [a16_4, go_sem, ↓reduceIte, Nat.reduceEqDiff, reduceCtorEq, Nat.reduceAdd, Nat.reduceLT, Nat.reduceLeDiff, Nat.reduceBNe, Nat.reduceBEq, Int.reduceToNat, getD_mapd _ _ _ _ hc3, hc3, hxx, Tax.enc, tOf, fTimes_eq, fPer_eq, pairI]
      (repeat' apply And.intro) <;> (try first | omega | (intros; (repeat' apply And.intro) <;> first | assumption | omega | (simp_all; done)))
      refine aw_seq (aw_region (EF := EF0) hG (by rw [hN]; exact tr16_5) ?_)
      simp only [a16_5, go_sem, ↓reduceIte, Nat.reduceEqDiff, reduceCtorEq, Nat.reduceAdd, Nat.reduceLT, Nat.reduceLeDiff, Nat.reduceBNe, Nat.reduceBEq, Int.reduceToNat, hto, hn, tOf, fTimes_eq, fPer_eq, pairI]
      (repeat' apply And.intro) <;> (try first | omega | (intros; (repeat' apply And.intro) <;> first | assumption | omega | (simp_all; done)))
      refine aw_seq ?_
      refine aw_seq (aw_region (EF := EF0) hG (by rw [hN]; exact tr16_6) ?_)
      simp only [a16_6, go_sem, ↓reduceIte, Nat.reduceEqDiff, reduceCtorEq, Nat.reduceAdd, Nat.reduceLT, Nat.reduceLeDiff, Nat.reduceBNe, Nat.reduceBEq, Int.reduceToNat, tOf, fTimes_eq, fPer_eq, pairI]
      refine aw_cond (b := _) rfl (fun hb6 => ?_) (fun hb6 => ?_)
      · skip
        refine aw_exit ?_
        simp only [go_sem, ↓reduceIte, Nat.reduceEqDiff, reduceCtorEq, Nat.reduceAdd, Nat.reduceLT, Nat.reduceLeDiff, Nat.reduceBNe, Nat.reduceBEq, Int.reduceToNat]
        refine aw_region (EF := EF0) hG (by rw [hN]; exact tr16_17) ?_
        simp only [a16_17, go_sem, ↓reduceIte, Nat.reduceEqDiff, reduceCtorEq, Nat.reduceAdd, Nat.reduceLT, Nat.reduceLeDiff, Nat.reduceBNe, Nat.reduceBEq, Int.reduceToNat, inI, tOf, fTimes_eq, fPer_eq, pairI]
        (repeat' apply And.intro) <;> (try first | omega | (intros; (repeat' apply And.intro) <;> first | assumption | omega | (simp_all; done)))
        refine hKL0 (i + 1, out) _ ?_ ?_ ?_
        · (try dsimp only); exact ⟨hc3, by rw [hout, hst _ (amt_0 (of_decide_eq_true hb6)), if_neg (by simp), if_neg (by simp)]; simp [chg], by omega⟩
        · (try dsimp only); omega
        · refine Le.mk _ _ ?_ ?_ rfl <;> simp only [go_sem, ↓reduceIte, Nat.reduceEqDiff, reduceCtorEq, Nat.reduceAdd, Nat.reduceLT, Nat.reduceLeDiff, Nat.reduceBNe, Nat.reduceBEq, Int.reduceToNat] <;> (repeat' apply And.intro) <;> (try first | rfl | exact wk_frzb rfl rfl rfl | exact wk_fn rfl | exact .nilo _ _ _ rfl rfl)
      · skip
        refine aw_skip ?_
        try simp only [go_sem, ↓reduceIte, Nat.reduceEqDiff, reduceCtorEq, Nat.reduceAdd, Nat.reduceLT, Nat.reduceLeDiff, Nat.reduceBNe, Nat.reduceBEq, Int.reduceToNat]
        refine aw_seq (aw_region (EF := EF0) hG (by rw [hN]; exact tr16_7) ?_)
        simp only [a16_7, go_sem, ↓reduceIte, Nat.reduceEqDiff, reduceCtorEq, Nat.reduceAdd, Nat.reduceLT, Nat.reduceLeDiff, Nat.reduceBNe, Nat.reduceBEq, Int.reduceToNat, inI, tOf, fTimes_eq, fPer_eq, pairI]
        (repeat' apply And.intro) <;> (try first | omega | (intros; (repeat' apply And.intro) <;> first | assumption | omega | (simp_all; done)))
        refine aw_cut (α := Int) (fun v => (amtM n ⟨a, b, c, d, e, f, fr⟩ fare = (v, 0)) ∧ (-1099511627776 ≤ v ∧ v ≤ 1099511627776000)) (fun v => ⟨mkE [(2, V.list (List.map Seg.enc sg) false), (3, V.str q), (4, V.int IntKind.i64 fare), (5, V.ptr 5 0), (12, V.own 999 out.length), (14, V.ptr 14 0), (16, .int .i64 v), (19, V.list (List.map Tax.enc l) false), (20, V.int IntKind.i64 ↑l.length), (21, V.int IntKind.i64 ↑i)], mkH [(5, Ob.box 31 [V.list (List.map Airport.enc ps) false, V.list (List.map Distance.enc ds) false]), (14, Ob.box 34 [V.str a, V.int IntKind.i64 b, V.str c, V.int IntKind.i64 d, V.int IntKind.i64 e, V.int IntKind.i64 f, V.list (strs fr) false]), (999, Ob.arr 62 2 (List.map Charge.enc out))]⟩) ?_ ?_
        · intro KC8 hKC8
          refine aw_seq (aw_region (EF := EF0) hG (by rw [hN]; exact tr16_8) ?_)
          simp only [a16_8, go_sem, ↓reduceIte, Nat.reduceEqDiff, reduceCtorEq, Nat.reduceAdd, Nat.reduceLT, Nat.reduceLeDiff, Nat.reduceBNe, Nat.reduceBEq, Int.reduceToNat, tOf, fTimes_eq, fPer_eq, pairI]
          refine aw_cond (b := _) rfl (fun hb8 => ?_) (fun hb8 => ?_)
          · skip
            have hpo := perOk_of (a := fare) (h := d) hif ha0 (by rw [if_pos (of_decide_eq_true hb8)] at ha1; exact ha1)
            have hn1 : n = 1 := by have := htb.2.2 (of_decide_eq_true hb8); have := htb.1; have := of_decide_eq_false hb6; omega
            have ham : amtM n ⟨a, b, c, d, e, f, fr⟩ fare = perM fare d := amt_4 (of_decide_eq_true hb8) hn1
            have hp2 := perM_bd fare d
            refine aw_seq (aw_region (EF := EF0) hG (by rw [hN]; exact tr16_9) ?_)
            simp only [a16_9, go_sem, ↓reduceIte, Nat.reduceEqDiff, reduceCtorEq, Nat.reduceAdd, Nat.reduceLT, Nat.reduceLeDiff, Nat.reduceBNe, Nat.reduceBEq, Int.reduceToNat, hpo, tOf, fTimes_eq, fPer_eq, pairI]
            (repeat' apply And.intro) <;> (try first | omega | (intros; (repeat' apply And.intro) <;> first | assumption | omega | (simp_all; done)))
            refine aw_seq ?_
            refine aw_seq (aw_region (EF := EF0) hG (by rw [hN]; exact tr16_10) ?_)
            simp only [a16_10, go_sem, ↓reduceIte, Nat.reduceEqDiff, reduceCtorEq, Nat.reduceAdd, Nat.reduceLT, Nat.reduceLeDiff, Nat.reduceBNe, Nat.reduceBEq, Int.reduceToNat, tOf, fTimes_eq, fPer_eq, pairI]
            refine aw_cond (b := _) rfl (fun hb10 => ?_) (fun hb10 => ?_)
            · skip
              refine aw_seq (aw_region (EF := EF0) hG (by rw [hN]; exact tr16_11) ?_)
              simp only [a16_11, go_sem, ↓reduceIte, Nat.reduceEqDiff, reduceCtorEq, Nat.reduceAdd, Nat.reduceLT, Nat.reduceLeDiff, Nat.reduceBNe, Nat.reduceBEq, Int.reduceToNat, tOf, fTimes_eq, fPer_eq, pairI]
              refine AW.le (s' := ⟨mkE [(10, .list [] false), (11, .int .i64 (perM fare d).2)], mkH []⟩) (Le.mk _ _ ?_ ?_ rfl) (aw_ret (hQ _ _ (.inl rfl) ?_ ?_ ?_)) <;> simp only [outφ, outV, AR.res, go_sem, ↓reduceIte, Nat.reduceEqDiff, reduceCtorEq, Nat.reduceAdd, Nat.reduceLT, Nat.reduceLeDiff, Nat.reduceBNe, Nat.reduceBEq, Int.reduceToNat, fTof, ofV]
              · rw [hout, hst _ ham, if_pos (by simpa using hb10)]; rfl
            · skip
              refine aw_skip ?_
              try simp only [go_sem, ↓reduceIte, Nat.reduceEqDiff, reduceCtorEq, Nat.reduceAdd, Nat.reduceLT, Nat.reduceLeDiff, Nat.reduceBNe, Nat.reduceBEq, Int.reduceToNat]
              refine aw_region (EF := EF0) hG (by rw [hN]; exact tr16_12) ?_
              simp only [a16_12, go_sem, ↓reduceIte, Nat.reduceEqDiff, reduceCtorEq, Nat.reduceAdd, Nat.reduceLT, Nat.reduceLeDiff, Nat.reduceBNe, Nat.reduceBEq, Int.reduceToNat, tOf, fTimes_eq, fPer_eq, pairI]
              refine hKC8 ((perM fare d).1) _ ?_ ?_
              · (try dsimp only); exact ⟨by rw [ham]; exact Prod.ext rfl (by simpa using hb10), by omega⟩
              · refine Le.mk _ _ ?_ ?_ rfl <;> simp only [go_sem, ↓reduceIte, Nat.reduceEqDiff, reduceCtorEq, Nat.reduceAdd, Nat.reduceLT, Nat.reduceLeDiff, Nat.reduceBNe, Nat.reduceBEq, Int.reduceToNat] <;> (repeat' apply And.intro) <;> (try first | rfl | exact wk_frzb rfl rfl rfl | exact wk_fn rfl | exact .nilo _ _ _ rfl rfl)
          · skip
            refine aw_skip ?_
            try simp only [go_sem, ↓reduceIte, Nat.reduceEqDiff, reduceCtorEq, Nat.reduceAdd, Nat.reduceLT, Nat.reduceLeDiff, Nat.reduceBNe, Nat.reduceBEq, Int.reduceToNat]
            refine hKC8 (n * d) _ ?_ ?_
            · (try dsimp only); exact ⟨amt_ne (of_decide_eq_false hb8), by omega⟩
            · refine Le.mk _ _ ?_ ?_ rfl <;> simp only [go_sem, ↓reduceIte, Nat.reduceEqDiff, reduceCtorEq, Nat.reduceAdd, Nat.reduceLT, Nat.reduceLeDiff, Nat.reduceBNe, Nat.reduceBEq, Int.reduceToNat] <;> (repeat' apply And.intro) <;> (try first | rfl | exact wk_frzb rfl rfl rfl | exact wk_fn rfl | exact .nilo _ _ _ rfl rfl)
        · rintro v ⟨hv, hvb⟩
          refine aw_seq ?_
          refine aw_seq (aw_region (EF := EF0) hG (by rw [hN]; exact tr16_13) ?_)
          simp only [a16_13, go_sem, ↓reduceIte, Nat.reduceEqDiff, reduceCtorEq, Nat.reduceAdd, Nat.reduceLT, Nat.reduceLeDiff, Nat.reduceBNe, Nat.reduceBEq, Int.reduceToNat, tOf, fTimes_eq, fPer_eq, pairI]
          refine aw_cond (b := _) rfl (fun hb13 => ?_) (fun hb13 => ?_)
          · skip
            refine aw_seq (aw_region (EF := EF0) hG (by rw [hN]; exact tr16_14) ?_)
            simp only [a16_14, go_sem, ↓reduceIte, Nat.reduceEqDiff, reduceCtorEq, Nat.reduceAdd, Nat.reduceLT, Nat.reduceLeDiff, Nat.reduceBNe, Nat.reduceBEq, Int.reduceToNat, tOf, fTimes_eq, fPer_eq, pairI]
            refine AW.le (s' := ⟨mkE [(10, .list [] false), (11, .int .i64 11)], mkH []⟩) (Le.mk _ _ ?_ ?_ rfl) (aw_ret (hQ _ _ (.inl rfl) ?_ ?_ ?_)) <;> simp only [outφ, outV, AR.res, go_sem, ↓reduceIte, Nat.reduceEqDiff, reduceCtorEq, Nat.reduceAdd, Nat.reduceLT, Nat.reduceLeDiff, Nat.reduceBNe, Nat.reduceBEq, Int.reduceToNat, fTof, ofV]
            · rw [hout, hst _ hv, if_neg (by simp), if_pos (of_decide_eq_true hb13)]; rfl
          · skip
            refine aw_skip ?_
            try simp only [go_sem, ↓reduceIte, Nat.reduceEqDiff, reduceCtorEq, Nat.reduceAdd, Nat.reduceLT, Nat.reduceLeDiff, Nat.reduceBNe, Nat.reduceBEq, Int.reduceToNat]
            refine aw_seq (aw_region (EF := EF0) hG (by rw [hN]; exact tr16_15) ?_)
            simp only [a16_15, go_sem, ↓reduceIte, Nat.reduceEqDiff, reduceCtorEq, Nat.reduceAdd, Nat.reduceLT, Nat.reduceLeDiff, Nat.reduceBNe, Nat.reduceBEq, Int.reduceToNat, tOf, fTimes_eq, fPer_eq, pairI]
            refine aw_cond (b := _) rfl (fun hb15 => ?_) (fun hb15 => ?_)
            · skip
              refine aw_region (EF := EF0) hG (by rw [hN]; exact tr16_16) ?_
              simp only [a16_16, go_sem, ↓reduceIte, Nat.reduceEqDiff, reduceCtorEq, Nat.reduceAdd, Nat.reduceLT, Nat.reduceLeDiff, Nat.reduceBNe, Nat.reduceBEq, Int.reduceToNat, List.length_map, tOf, fTimes_eq, fPer_eq, pairI]
              (repeat' apply And.intro) <;> (try first | omega | (intros; (repeat' apply And.intro) <;> first | assumption | omega | (simp_all; done)))
              refine aw_region (EF := EF0) hG (by rw [hN]; exact tr16_17) ?_
              simp only [a16_17, go_sem, ↓reduceIte, Nat.reduceEqDiff, reduceCtorEq, Nat.reduceAdd, Nat.reduceLT, Nat.reduceLeDiff, Nat.reduceBNe, Nat.reduceBEq, Int.reduceToNat, inI, tOf, fTimes_eq, fPer_eq, pairI]
              (repeat' apply And.intro) <;> (try first | omega | (intros; (repeat' apply And.intro) <;> first | assumption | omega | (simp_all; done)))
              refine hKL0 (i + 1, out ++ [⟨a, v⟩]) _ ?_ ?_ ?_
              · (try dsimp only); exact ⟨hc3, by rw [hout, hst _ hv, if_neg (by simp), if_neg (of_decide_eq_false hb13)]; simp only [chg]; rw [if_neg (by simpa using hb15)], by rw [List.length_append]; simp; omega⟩
              · (try dsimp only); omega
              · refine Le.mk _ _ ?_ ?_ rfl <;> simp only [go_sem, ↓reduceIte, Nat.reduceEqDiff, reduceCtorEq, Nat.reduceAdd, Nat.reduceLT, Nat.reduceLeDiff, Nat.reduceBNe, Nat.reduceBEq, Int.reduceToNat, ch_snoc, List.length_append, List.length_cons, List.length_nil] <;> (repeat' apply And.intro) <;> (try first | rfl | exact wk_frzb rfl rfl rfl | exact wk_fn rfl | exact .nilo _ _ _ rfl rfl)
            · skip
              refine aw_skip ?_
              try simp only [go_sem, ↓reduceIte, Nat.reduceEqDiff, reduceCtorEq, Nat.reduceAdd, Nat.reduceLT, Nat.reduceLeDiff, Nat.reduceBNe, Nat.reduceBEq, Int.reduceToNat]
              refine aw_region (EF := EF0) hG (by rw [hN]; exact tr16_17) ?_
              simp only [a16_17, go_sem, ↓reduceIte, Nat.reduceEqDiff, reduceCtorEq, Nat.reduceAdd, Nat.reduceLT, Nat.reduceLeDiff, Nat.reduceBNe, Nat.reduceBEq, Int.reduceToNat, inI, tOf, fTimes_eq, fPer_eq, pairI]
              (repeat' apply And.intro) <;> (try first | omega | (intros; (repeat' apply And.intro) <;> first | assumption | omega | (simp_all; done)))
              refine hKL0 (i + 1, out) _ ?_ ?_ ?_
              · (try dsimp only); exact ⟨hc3, by rw [hout, hst _ hv, if_neg (by simp), if_neg (of_decide_eq_false hb13)]; simp only [chg]; rw [if_pos (by simpa using hb15), List.append_nil], by omega⟩
              · (try dsimp only); omega
              · refine Le.mk _ _ ?_ ?_ rfl <;> simp only [go_sem, ↓reduceIte, Nat.reduceEqDiff, reduceCtorEq, Nat.reduceAdd, Nat.reduceLT, Nat.reduceLeDiff, Nat.reduceBNe, Nat.reduceBEq, Int.reduceToNat] <;> (repeat' apply And.intro) <;> (try first | rfl | exact wk_frzb rfl rfl rfl | exact wk_fn rfl | exact .nilo _ _ _ rfl rfl)
    · simp only [decide_eq_true_eq, decide_eq_false_iff_not, Bool.and_eq_true, Bool.or_eq_true, Bool.not_eq_true', Bool.not_eq_false', Bool.and_eq_false_iff, Bool.or_eq_false_iff, Int.ofNat_lt, Int.ofNat_le, Nat.not_lt, Nat.not_le, Int.not_lt, Int.not_le] at hc3
      refine aw_exit ?_
      simp only [go_sem, ↓reduceIte, Nat.reduceEqDiff, reduceCtorEq, Nat.reduceAdd, Nat.reduceLT, Nat.reduceLeDiff, Nat.reduceBNe, Nat.reduceBEq, Int.reduceToNat]
      refine aw_seq (aw_region (EF := EF0) hG (by rw [hN]; exact tr16_18) ?_)
      simp only [a16_18, go_sem, ↓reduceIte, Nat.reduceEqDiff, reduceCtorEq, Nat.reduceAdd, Nat.reduceLT, Nat.reduceLeDiff, Nat.reduceBNe, Nat.reduceBEq, Int.reduceToNat, tOf, fTimes_eq, fPer_eq, pairI]
      refine AW.le (s' := ⟨mkE [(10, .list (out.map Charge.enc) false), (11, .int .i64 0)], mkH []⟩) (Le.mk _ _ ?_ ?_ rfl) (aw_ret (hQ _ _ (.inl rfl) ?_ ?_ ?_)) <;> simp only [outφ, outV, AR.res, go_sem, ↓reduceIte, Nat.reduceEqDiff, reduceCtorEq, Nat.reduceAdd, Nat.reduceLT, Nat.reduceLeDiff, Nat.reduceBNe, Nat.reduceBEq, Int.reduceToNat, fTof, ofV]
      · exact wk_frz rfl (by rw [List.length_map]) rfl ((Charge.purs _).2 trivial)
      · rw [hout, ofM_end hc3]
theorem fTimesR_eq (ps : List Airport) (ds : List Distance) (a b c d e f fr) (l : List Seg) (q : List UInt8) : gOf aTimes fTimesR [.agg [.list (ps.map Airport.enc) false, .list (ds.map Distance.enc) false], .agg [.str a, .int .i64 b, .str c, .int .i64 d, .int .i64 e, .int .i64 f, .list (strs fr) false], .list (l.map Seg.enc) false, .str q] = (TimesOk ⟨ps, ds⟩ ⟨a, b, c, d, e, f, fr⟩ l, .int .i64 (timesR ps ⟨a, b, c, d, e, f, fr⟩ l q)) := gOf_eq aTimes_inj ((⟨ps, ds⟩ : Places), (⟨a, b, c, d, e, f, fr⟩ : Tax), l, q)
noncomputable def trOf : Tab
  | 15 => (gOf aTimes fTimesR)
  | 38 => (gOf aII fPerR)
  | _ => gNo
theorem trOf_ok : ∀ f, PureC Tryd.prog UT f (trOf f) := fun f => by
  unfold trOf
  split
  · exact rtimes_p
  · exact rpercent_p
  · exact PureC.no
set_option maxHeartbeats 4000000 in
theorem rof_p : PureC Tryd.prog UT 17 (gOf aOf fTof) := by
  have hG := trOf_ok
  refine PureC.ofArgs aOf_inj Tryd.func17 body17 nm17 res17 ?_
  rintro ⟨⟨ps, ds⟩, l, sg, q, fare⟩ hv
  refine ⟨by rw [nt17]; simp [aOf], fun C hN Q hQ => ?_⟩
  rw [nt17] at hN
  unfold c17
  obtain ⟨hlp, hl, hsl, hso, hlx, hif⟩ : OkO ⟨ps, ds⟩ l sg fare := hv
  refine aw_seq (aw_region (EF := EF0) hG (by rw [hN]; exact tr17_0) ?_)
  simp only [a17_0, go_sem, ↓reduceIte, Nat.reduceEqDiff, reduceCtorEq, Nat.reduceAdd, Nat.reduceLT, Nat.reduceLeDiff, Nat.reduceBNe, Nat.reduceBEq, Int.reduceToNat, aOf, Places.enc, trOf, fTimesR_eq, fPerR_eq, pairI]
  refine aw_seq (aw_region (EF := EF0) hG (by rw [hN]; exact tr17_1) ?_)
  simp only [a17_1, go_sem, ↓reduceIte, Nat.reduceEqDiff, reduceCtorEq, Nat.reduceAdd, Nat.reduceLT, Nat.reduceLeDiff, Nat.reduceBNe, Nat.reduceBEq, Int.reduceToNat, trOf, fTimesR_eq, fPerR_eq, pairI]
  refine AW.le (s' := ⟨mkE [(1, .list (l.map Tax.enc) false), (2, .list (sg.map Seg.enc) false), (3, .str q), (4, .int .i64 fare), (5, .ptr 5 0), (12, .own 999 0)], mkH ([(5, .box 31 [.list (ps.map Airport.enc) false, .list (ds.map Distance.enc) false]), (999, .arr 62 2 (([] : List Charge).map Charge.enc))])⟩) (Le.mk _ _ (by (simp only [go_sem, ↓reduceIte, Nat.reduceEqDiff, reduceCtorEq, Nat.reduceAdd, Nat.reduceLT, Nat.reduceLeDiff, Nat.reduceBNe, Nat.reduceBEq, Int.reduceToNat]) <;> (repeat' apply And.intro) <;> (try first | exact wk_frzb rfl rfl rfl | rfl | exact wk_fn rfl | exact .nill _ | exact .nilo _ _ _ rfl rfl | exact wk_frz rfl (by simp only [ints_len, nats_len]) rfl (ints_pur _))) (by (simp only [go_sem, ↓reduceIte, Nat.reduceEqDiff, reduceCtorEq, Nat.reduceAdd, Nat.reduceLT, Nat.reduceLeDiff, Nat.reduceBNe, Nat.reduceBEq, Int.reduceToNat]) <;> (repeat' apply And.intro) <;> (try first | exact wk_frzb rfl rfl rfl | rfl | exact wk_fn rfl | exact .nill _ | exact .nilo _ _ _ rfl rfl | exact wk_frz rfl (by simp only [ints_len, nats_len]) rfl (ints_pur _))) rfl) ?_
  refine aw_seq ?_
  refine aw_seq (aw_region (EF := EF0) hG (by rw [hN]; exact tr17_2) ?_)
  simp only [a17_2, go_sem, ↓reduceIte, Nat.reduceEqDiff, reduceCtorEq, Nat.reduceAdd, Nat.reduceLT, Nat.reduceLeDiff, Nat.reduceBNe, Nat.reduceBEq, Int.reduceToNat, trOf, fTimesR_eq, fPerR_eq, pairI]
  refine aw_block ?_
  refine aw_loop (α := Nat × (List Charge)) (fun γ => (γ.1 ≤ l.length) ∧ (ofM (fun y => timesP ps y sg q) fare l [] = ofM (fun y => timesP ps y sg q) fare (l.drop γ.1) γ.2) ∧ (γ.2.length ≤ γ.1)) (fun γ => ⟨mkE [(1, V.list (List.map Tax.enc l) false), (2, V.list (List.map Seg.enc sg) false), (3, V.str q), (4, V.int IntKind.i64 fare), (5, V.ptr 5 0), (12, .own 999 γ.2.length), (13, .int .i64 γ.1)], mkH [(5, Ob.box 31 [V.list (List.map Airport.enc ps) false, V.list (List.map Distance.enc ds) false]), (999, .arr 62 2 (γ.2.map Charge.enc))]⟩) (fun γ => l.length - γ.1) (0, []) ⟨Nat.zero_le _, rfl, Nat.le_refl _⟩ ?_ ?_
  · refine Le.mk _ _ ?_ ?_ rfl <;> simp only [go_sem, ↓reduceIte, Nat.reduceEqDiff, reduceCtorEq, Nat.reduceAdd, Nat.reduceLT, Nat.reduceLeDiff, Nat.reduceBNe, Nat.reduceBEq, Int.reduceToNat] <;> (repeat' apply And.intro) <;> (try first | rfl | exact wk_frzb rfl rfl rfl | exact wk_fn rfl | exact .nilo _ _ _ rfl rfl)
  · rintro ⟨i, out⟩ ⟨hi, hout, hol⟩ KL0 hKL0
    try dsimp only at *
    refine aw_seq ?_
    refine aw_seq (aw_region (EF := EF0) hG (by rw [hN]; exact tr17_3) ?_)
    simp only [a17_3, go_sem, ↓reduceIte, Nat.reduceEqDiff, reduceCtorEq, Nat.reduceAdd, Nat.reduceLT, Nat.reduceLeDiff, Nat.reduceBNe, Nat.reduceBEq, Int.reduceToNat, trOf, fTimesR_eq, fPerR_eq, pairI]
    refine aw_cond (b := _) rfl (fun hc3 => ?_) (fun hc3 => ?_)
    · simp only [decide_eq_true_eq, decide_eq_false_iff_not, Bool.and_eq_true, Bool.or_eq_true, Bool.not_eq_true', Bool.not_eq_false', Bool.and_eq_false_iff, Bool.or_eq_false_iff, Int.ofNat_lt, Int.ofNat_le, Nat.not_lt, Nat.not_le, Int.not_lt, Int.not_le] at hc3
      refine aw_skip ?_
      try simp only [go_sem, ↓reduceIte, Nat.reduceEqDiff, reduceCtorEq, Nat.reduceAdd, Nat.reduceLT, Nat.reduceLeDiff, Nat.reduceBNe, Nat.reduceBEq, Int.reduceToNat]
      refine aw_seq ?_
      refine aw_block ?_
      obtain ⟨hxo, hxr⟩ := hlx _ (List.getElem_mem hc3)
      generalize hxx : l[i] = x at hxo hxr
      obtain ⟨a, b, c, d, e, f, fr⟩ := x
      obtain ⟨h1, h2, h3, h4, h5, h6, h7, h8⟩ := hxo
      obtain ⟨hr1, ha0, ha1⟩ := hxr
      have htb := tm_bd (ps := ps) (l := sg) (q := q) hr1
      have hst := fun z h => ofM_step hc3 hxx (fun y => timesP ps y sg q) fare (a := z) h out
      have hto : TimesOk ⟨ps, ds⟩ ⟨a, b, c, d, e, f, fr⟩ sg := ⟨hlp, h7, hsl, hso⟩
      have hte := times_eq (ps := ps) (l := sg) (q := q) hr1
      dsimp only at ha0 ha1 htb hst
      generalize hn : timesP ps ⟨a, b, c, d, e, f, fr⟩ sg q = n at htb hst hte
      have hd : d ≤ 1099511627776 := by split at ha1 <;> omega
      have hmb := mul_bd htb.1 (by omega : n ≤ 1000) ha0 hd
      refine aw_seq (aw_regionD (EF := EF0) hG mixed (by rw [hN]; exact tr17_5) ok17_5 ?_)
      simp only [a17_5, d17_5, go_sem, ↓reduceIte, Nat.reduceEqDiff, reduceCtorEq, Nat.reduceAdd, Nat.reduceLT, Nat.reduceLeDiff, Nat.reduceBNe, Nat.reduceBEq, Int.reduceToNat, getD_mapd _ _ _ _ hc3, hc3, hxx, Tax.enc, hto, ← hte, trOf, fTimesR_eq, fPerR_eq, pairI]
      (repeat' apply And.intro) <;> (try first | omega | (intros; (repeat' apply And.intro) <;> first | assumption | omega | (simp_all; done)))
      refine aw_seq (aw_region (EF := EF0) hG (by rw [hN]; exact tr17_6) ?_)
      simp only [a17_6, go_sem, ↓reduceIte, Nat.reduceEqDiff, reduceCtorEq, Nat.reduceAdd, Nat.reduceLT, Nat.reduceLeDiff, Nat.reduceBNe, Nat.reduceBEq, Int.reduceToNat, inI, getD_mapd _ _ _ _ hc3, hc3, hxx, Tax.enc, trOf, fTimesR_eq, fPerR_eq, pairI]
      (repeat' apply And.intro) <;> (try first | omega | (intros; (repeat' apply And.intro) <;> first | assumption | omega | (simp_all; done)))
      refine aw_cut (α := (Int × Int)) (fun v => (amtM n ⟨a, b, c, d, e, f, fr⟩ fare = v) ∧ (-1099511627776 ≤ v.1 ∧ v.1 ≤ 1099511627776000)) (fun v => ⟨mkE [(1, V.list (List.map Tax.enc l) false), (2, V.list (List.map Seg.enc sg) false), (3, V.str q), (4, V.int IntKind.i64 fare), (5, V.ptr 5 0), (12, V.own 999 out.length), (13, V.int IntKind.i64 ↑i), (15, .int .i64 v.1), (16, .int .i64 v.2)], mkH [(5, Ob.box 31 [V.list (List.map Airport.enc ps) false, V.list (List.map Distance.enc ds) false]), (999, Ob.arr 62 2 (List.map Charge.enc out))]⟩) ?_ ?_
      · intro KC7 hKC7
        refine aw_seq (aw_region (EF := EF0) hG (by rw [hN]; exact tr17_7) ?_)
        simp only [a17_7, go_sem, ↓reduceIte, Nat.reduceEqDiff, reduceCtorEq, Nat.reduceAdd, Nat.reduceLT, Nat.reduceLeDiff, Nat.reduceBNe, Nat.reduceBEq, Int.reduceToNat, getD_mapd _ _ _ _ hc3, hc3, hxx, Tax.enc, trOf, fTimesR_eq, fPerR_eq, pairI]
        (repeat' apply And.intro) <;> (try first | omega | (intros; (repeat' apply And.intro) <;> first | assumption | omega | (simp_all; done)))
        refine aw_cond (b := _) rfl (fun hb7 => ?_) (fun hb7 => ?_)
        · skip
          simp only [Bool.and_eq_true, decide_eq_true_eq] at hb7
          have hp2 := perM_bd fare d
          refine aw_region (EF := EF0) hG (by rw [hN]; exact tr17_8) ?_
          simp only [a17_8, go_sem, ↓reduceIte, Nat.reduceEqDiff, reduceCtorEq, Nat.reduceAdd, Nat.reduceLT, Nat.reduceLeDiff, Nat.reduceBNe, Nat.reduceBEq, Int.reduceToNat, getD_mapd _ _ _ _ hc3, hc3, hxx, Tax.enc, trOf, fTimesR_eq, fPerR_eq, pairI]
          (repeat' apply And.intro) <;> (try first | omega | (intros; (repeat' apply And.intro) <;> first | assumption | omega | (simp_all; done)))
          refine hKC7 (perM fare d) _ ?_ ?_
          · (try dsimp only); exact ⟨amt_4 hb7.1 hb7.2, by omega⟩
          · refine Le.mk _ _ ?_ ?_ rfl <;> simp only [go_sem, ↓reduceIte, Nat.reduceEqDiff, reduceCtorEq, Nat.reduceAdd, Nat.reduceLT, Nat.reduceLeDiff, Nat.reduceBNe, Nat.reduceBEq, Int.reduceToNat] <;> (repeat' apply And.intro) <;> (try first | rfl | exact wk_frzb rfl rfl rfl | exact wk_fn rfl | exact .nilo _ _ _ rfl rfl)
        · skip
          simp only [Bool.and_eq_false_iff, decide_eq_false_iff_not] at hb7
          refine aw_skip ?_
          try simp only [go_sem, ↓reduceIte, Nat.reduceEqDiff, reduceCtorEq, Nat.reduceAdd, Nat.reduceLT, Nat.reduceLeDiff, Nat.reduceBNe, Nat.reduceBEq, Int.reduceToNat]
          refine hKC7 ((n * d, 0)) _ ?_ ?_
          · (try dsimp only); exact ⟨by unfold amtM; rw [if_neg (by dsimp only; omega)], by omega⟩
          · refine Le.mk _ _ ?_ ?_ rfl <;> simp only [go_sem, ↓reduceIte, Nat.reduceEqDiff, reduceCtorEq, Nat.reduceAdd, Nat.reduceLT, Nat.reduceLeDiff, Nat.reduceBNe, Nat.reduceBEq, Int.reduceToNat] <;> (repeat' apply And.intro) <;> (try first | rfl | exact wk_frzb rfl rfl rfl | exact wk_fn rfl | exact .nilo _ _ _ rfl rfl)
      · rintro v ⟨hv, hvb⟩
        refine aw_seq ?_
        refine aw_seq (aw_region (EF := EF0) hG (by rw [hN]; exact tr17_9) ?_)
        simp only [a17_9, go_sem, ↓reduceIte, Nat.reduceEqDiff, reduceCtorEq, Nat.reduceAdd, Nat.reduceLT, Nat.reduceLeDiff, Nat.reduceBNe, Nat.reduceBEq, Int.reduceToNat, trOf, fTimesR_eq, fPerR_eq, pairI]
        refine aw_cond (b := _) rfl (fun hb9 => ?_) (fun hb9 => ?_)
        · skip
          refine aw_seq (aw_region (EF := EF0) hG (by rw [hN]; exact tr17_10) ?_)
          simp only [a17_10, go_sem, ↓reduceIte, Nat.reduceEqDiff, reduceCtorEq, Nat.reduceAdd, Nat.reduceLT, Nat.reduceLeDiff, Nat.reduceBNe, Nat.reduceBEq, Int.reduceToNat, trOf, fTimesR_eq, fPerR_eq, pairI]
          refine AW.le (s' := ⟨mkE [(10, .list [] false), (11, .int .i64 v.2)], mkH []⟩) (Le.mk _ _ ?_ ?_ rfl) (aw_ret (hQ _ _ (.inl rfl) ?_ ?_ ?_)) <;> simp only [outφ, outV, AR.res, go_sem, ↓reduceIte, Nat.reduceEqDiff, reduceCtorEq, Nat.reduceAdd, Nat.reduceLT, Nat.reduceLeDiff, Nat.reduceBNe, Nat.reduceBEq, Int.reduceToNat, fTof, ofV]
          · rw [hout, hst _ hv, if_pos (by simpa using hb9)]; rfl
        · skip
          refine aw_skip ?_
          try simp only [go_sem, ↓reduceIte, Nat.reduceEqDiff, reduceCtorEq, Nat.reduceAdd, Nat.reduceLT, Nat.reduceLeDiff, Nat.reduceBNe, Nat.reduceBEq, Int.reduceToNat]
          refine aw_seq ?_
          refine aw_seq (aw_region (EF := EF0) hG (by rw [hN]; exact tr17_11) ?_)
          simp only [a17_11, go_sem, ↓reduceIte, Nat.reduceEqDiff, reduceCtorEq, Nat.reduceAdd, Nat.reduceLT, Nat.reduceLeDiff, Nat.reduceBNe, Nat.reduceBEq, Int.reduceToNat, trOf, fTimesR_eq, fPerR_eq, pairI]
          refine aw_cond (b := _) rfl (fun hb11 => ?_) (fun hb11 => ?_)
          · skip
            refine aw_seq (aw_region (EF := EF0) hG (by rw [hN]; exact tr17_12) ?_)
            simp only [a17_12, go_sem, ↓reduceIte, Nat.reduceEqDiff, reduceCtorEq, Nat.reduceAdd, Nat.reduceLT, Nat.reduceLeDiff, Nat.reduceBNe, Nat.reduceBEq, Int.reduceToNat, trOf, fTimesR_eq, fPerR_eq, pairI]
            refine AW.le (s' := ⟨mkE [(10, .list [] false), (11, .int .i64 11)], mkH []⟩) (Le.mk _ _ ?_ ?_ rfl) (aw_ret (hQ _ _ (.inl rfl) ?_ ?_ ?_)) <;> simp only [outφ, outV, AR.res, go_sem, ↓reduceIte, Nat.reduceEqDiff, reduceCtorEq, Nat.reduceAdd, Nat.reduceLT, Nat.reduceLeDiff, Nat.reduceBNe, Nat.reduceBEq, Int.reduceToNat, fTof, ofV]
            · rw [hout, hst _ hv, if_neg (by simpa using hb9), if_pos (of_decide_eq_true hb11)]; rfl
          · skip
            refine aw_skip ?_
            try simp only [go_sem, ↓reduceIte, Nat.reduceEqDiff, reduceCtorEq, Nat.reduceAdd, Nat.reduceLT, Nat.reduceLeDiff, Nat.reduceBNe, Nat.reduceBEq, Int.reduceToNat]
            refine aw_seq (aw_region (EF := EF0) hG (by rw [hN]; exact tr17_13) ?_)
            simp only [a17_13, go_sem, ↓reduceIte, Nat.reduceEqDiff, reduceCtorEq, Nat.reduceAdd, Nat.reduceLT, Nat.reduceLeDiff, Nat.reduceBNe, Nat.reduceBEq, Int.reduceToNat, trOf, fTimesR_eq, fPerR_eq, pairI]
            refine aw_cond (b := _) rfl (fun hb13 => ?_) (fun hb13 => ?_)
            · skip
              refine aw_region (EF := EF0) hG (by rw [hN]; exact tr17_14) ?_
              simp only [a17_14, go_sem, ↓reduceIte, Nat.reduceEqDiff, reduceCtorEq, Nat.reduceAdd, Nat.reduceLT, Nat.reduceLeDiff, Nat.reduceBNe, Nat.reduceBEq, Int.reduceToNat, getD_mapd _ _ _ _ hc3, hc3, hxx, Tax.enc, List.length_map, trOf, fTimesR_eq, fPerR_eq, pairI]
              (repeat' apply And.intro) <;> (try first | omega | (intros; (repeat' apply And.intro) <;> first | assumption | omega | (simp_all; done)))
              refine aw_region (EF := EF0) hG (by rw [hN]; exact tr17_4) ?_
              simp only [a17_4, go_sem, ↓reduceIte, Nat.reduceEqDiff, reduceCtorEq, Nat.reduceAdd, Nat.reduceLT, Nat.reduceLeDiff, Nat.reduceBNe, Nat.reduceBEq, Int.reduceToNat, inI, trOf, fTimesR_eq, fPerR_eq, pairI]
              (repeat' apply And.intro) <;> (try first | omega | (intros; (repeat' apply And.intro) <;> first | assumption | omega | (simp_all; done)))
              refine hKL0 (i + 1, out ++ [⟨a, v.1⟩]) _ ?_ ?_ ?_
              · (try dsimp only); exact ⟨hc3, by rw [hout, hst _ hv, if_neg (by simpa using hb9), if_neg (of_decide_eq_false hb11)]; simp only [chg]; rw [if_neg (by simpa using hb13)], by rw [List.length_append]; simp; omega⟩
              · (try dsimp only); omega
              · refine Le.mk _ _ ?_ ?_ rfl <;> simp only [go_sem, ↓reduceIte, Nat.reduceEqDiff, reduceCtorEq, Nat.reduceAdd, Nat.reduceLT, Nat.reduceLeDiff, Nat.reduceBNe, Nat.reduceBEq, Int.reduceToNat, ch_snoc, List.length_append, List.length_cons, List.length_nil] <;> (repeat' apply And.intro) <;> (try first | rfl | exact wk_frzb rfl rfl rfl | exact wk_fn rfl | exact .nilo _ _ _ rfl rfl)
            · skip
              refine aw_skip ?_
              try simp only [go_sem, ↓reduceIte, Nat.reduceEqDiff, reduceCtorEq, Nat.reduceAdd, Nat.reduceLT, Nat.reduceLeDiff, Nat.reduceBNe, Nat.reduceBEq, Int.reduceToNat]
              refine aw_region (EF := EF0) hG (by rw [hN]; exact tr17_4) ?_
              simp only [a17_4, go_sem, ↓reduceIte, Nat.reduceEqDiff, reduceCtorEq, Nat.reduceAdd, Nat.reduceLT, Nat.reduceLeDiff, Nat.reduceBNe, Nat.reduceBEq, Int.reduceToNat, inI, trOf, fTimesR_eq, fPerR_eq, pairI]
              (repeat' apply And.intro) <;> (try first | omega | (intros; (repeat' apply And.intro) <;> first | assumption | omega | (simp_all; done)))
              refine hKL0 (i + 1, out) _ ?_ ?_ ?_
              · (try dsimp only); exact ⟨hc3, by rw [hout, hst _ hv, if_neg (by simpa using hb9), if_neg (of_decide_eq_false hb11)]; simp only [chg]; rw [if_pos (by simpa using hb13), List.append_nil], by omega⟩
              · (try dsimp only); omega
              · refine Le.mk _ _ ?_ ?_ rfl <;> simp only [go_sem, ↓reduceIte, Nat.reduceEqDiff, reduceCtorEq, Nat.reduceAdd, Nat.reduceLT, Nat.reduceLeDiff, Nat.reduceBNe, Nat.reduceBEq, Int.reduceToNat] <;> (repeat' apply And.intro) <;> (try first | rfl | exact wk_frzb rfl rfl rfl | exact wk_fn rfl | exact .nilo _ _ _ rfl rfl)
    · simp only [decide_eq_true_eq, decide_eq_false_iff_not, Bool.and_eq_true, Bool.or_eq_true, Bool.not_eq_true', Bool.not_eq_false', Bool.and_eq_false_iff, Bool.or_eq_false_iff, Int.ofNat_lt, Int.ofNat_le, Nat.not_lt, Nat.not_le, Int.not_lt, Int.not_le] at hc3
      refine aw_exit ?_
      simp only [go_sem, ↓reduceIte, Nat.reduceEqDiff, reduceCtorEq, Nat.reduceAdd, Nat.reduceLT, Nat.reduceLeDiff, Nat.reduceBNe, Nat.reduceBEq, Int.reduceToNat]
      refine aw_seq (aw_region (EF := EF0) hG (by rw [hN]; exact tr17_15) ?_)
      simp only [a17_15, go_sem, ↓reduceIte, Nat.reduceEqDiff, reduceCtorEq, Nat.reduceAdd, Nat.reduceLT, Nat.reduceLeDiff, Nat.reduceBNe, Nat.reduceBEq, Int.reduceToNat, trOf, fTimesR_eq, fPerR_eq, pairI]
      refine AW.le (s' := ⟨mkE [(10, .list (out.map Charge.enc) false), (11, .int .i64 0)], mkH []⟩) (Le.mk _ _ ?_ ?_ rfl) (aw_ret (hQ _ _ (.inl rfl) ?_ ?_ ?_)) <;> simp only [outφ, outV, AR.res, go_sem, ↓reduceIte, Nat.reduceEqDiff, reduceCtorEq, Nat.reduceAdd, Nat.reduceLT, Nat.reduceLeDiff, Nat.reduceBNe, Nat.reduceBEq, Int.reduceToNat, fTof, ofV]
      · exact wk_frz rfl (by rw [List.length_map]) rfl ((Charge.purs _).2 trivial)
      · rw [hout, ofM_end hc3]
end Go.Proofs.YtailckanpheciaaDoor
