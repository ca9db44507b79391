/- Name, both. -/
import Derived.Test.YtbakkdnhbeldcaaDoorPa4
namespace Go.Proofs.YtbakkdnhbeldcaaDoor
open Go Go.RowKit
set_option linter.unusedSimpArgs false
set_option linter.unusedVariables false
set_option linter.deprecated false
theorem wk_vw {h : Nat → Option Ob} {hl : List (Nat × Ob)} (n m a b c d e f : Nat) (x y : Bool) : Wk h hl (.vw n a c e x) (.vw m b d f y) ↔ n = m ∧ a = b ∧ c = d ∧ e = f ∧ x = y ∧ (hl.map (·.1)).contains n = true :=
  ⟨fun w => by cases w; exact ⟨rfl, rfl, rfl, rfl, rfl, by simpa only [V.nin] using (by assumption)⟩, by rintro ⟨rfl, rfl, rfl, rfl, rfl, hc⟩; exact .same _ (by simpa only [V.nin] using hc)⟩
attribute [go_sem] wk_vw
def aNam (x : List Person × Int × Int × Person) : List V := [.list (x.1.map Person.enc) false, .int .i64 x.2.1, .int .i64 x.2.2.1, .agg x.2.2.2.enc]
theorem aNam_inj (a b : List Person × Int × Int × Person) (h : aNam a = aNam b) : a = b := by
  obtain ⟨a_l, a_g, a_at', a_x⟩ := a
  obtain ⟨b_l, b_g, b_at', b_x⟩ := b
  simp only [aNam, List.cons.injEq, V.str.injEq, V.int.injEq, V.bool.injEq, V.agg.injEq, V.list.injEq, and_true, true_and] at h
  obtain ⟨h0, h1, h2, h3⟩ := h
  replace h0 := map_inj' Person.inj h0
  subst h0
  subst h1
  subst h2
  replace h3 := Person.inj _ _ h3
  subst h3
  rfl
def nmA (n : Nat) (g at' : Int) : Bool := decide (at' < 0) || decide ((n : Int) < at') || (decide (at' = (n : Int)) && decide (g < 1))
def nmWas (l : List Person) (at' : Int) : Bool := decide (at' < (l.length : Int)) && infB (l.getD at'.toNat Person.zero)
def nmPut (l : List Person) (at' : Int) (x : Person) : List Person := if at' = (l.length : Int) then l ++ [x] else l.set at'.toNat x
def nmG (l : List Person) (g at' : Int) : Int := if at' = (l.length : Int) then g - 1 else g
def nmF (l : List Person) (g at' : Int) : Bool := decide (at' = (l.length : Int)) && decide (nmG l g at' = 0) && decide (9 < (l.length : Int) + 1)
def nameP (l : List Person) (g at' : Int) (x : Person) : List Person × Int × Int :=
  if nmA l.length g at' = true then ([], 0, 7) else if namB x = false then ([], 0, 5) else if typB x = false then ([], 0, 8) else if (nmWas l at' != infB x) = true then ([], 0, 2) else if aloneB (nmPut l at' x) = true then ([], 0, 25) else if nmF l g at' = true then ([], 0, 4) else (nmPut l at' x, nmG l g at', 0)
def nmV (y : List Person × Int × Int) : V := .tup [.list (y.1.map Person.enc) false, .int .i64 y.2.1, .int .i64 y.2.2]
def OkN (l : List Person) (g : Int) (x : Person) : Prop := l.length ≤ 1000 ∧ x.ok ∧ inI g
def fNm (z : List Person × Int × Int × Person) : Prop × V := (OkN z.1 z.2.1 z.2.2.2, nmV (nameP z.1 z.2.1 z.2.2.1 z.2.2.2))
theorem fNm_eq (l : List Person) (g at' : Int) (a b c) : gOf aNam fNm [.list (l.map Person.enc) false, .int .i64 g, .int .i64 at', .agg [.str a, .str b, .str c]] = (OkN l g ⟨a, b, c⟩, nmV (nameP l g at' ⟨a, b, c⟩)) := gOf_eq aNam_inj (l, g, at', (⟨a, b, c⟩ : Person))
theorem cp_one (l : List Person) : List.map Person.enc l ++ List.drop l.length (List.replicate (l.length + 1) [V.str [], V.str [], V.str []]) = (l ++ [Person.zero]).map Person.enc := by
  rw [List.drop_replicate, Nat.add_sub_cancel_left, List.map_append]
  rfl
theorem put_end (l : List Person) (z : Person) (a b c : List UInt8) : List.take l.length ((l ++ [z]).map Person.enc) ++ [[V.str a, V.str b, V.str c]] ++ List.drop (l.length + 1) ((l ++ [z]).map Person.enc) = (l ++ [(⟨a, b, c⟩ : Person)]).map Person.enc := by
  rw [List.map_append, List.take_left' (List.length_map _), List.drop_of_length_le (by simp), List.append_nil, List.map_append]
  rfl
theorem set_map (l : List Person) (k : Nat) (a b c : List UInt8) : (l.map Person.enc).set k [V.str a, V.str b, V.str c] = (l.set k (⟨a, b, c⟩ : Person)).map Person.enc := by
  rw [List.map_set]; rfl
theorem gOf_none {α : Type} {args : α → List V} {F : α → Prop × V} {vs : List V} (h : ∀ a, args a ≠ vs) : gOf args F vs = (False, .any) := by
  unfold gOf
  exact dif_neg fun ⟨a, e⟩ => h a e
theorem inf_none (l : List Person) (k : Nat) (h : l.length ≤ k) : gOf aPer fInf [V.agg (List.take 3 ((List.map Person.enc l).getD k []))] = (False, .any) := by
  refine gOf_none fun a => ?_
  rw [List.getD_eq_getElem?_getD, List.getElem?_eq_none (by rw [List.length_map]; exact h)]
  simp [aPer, Person.enc]
theorem bne_comm (a b : Bool) : (a != b) = (b != a) := by cases a <;> cases b <;> rfl
noncomputable def tNme : Tab
  | 26 => (gOf aPer fNam)
  | 27 => (gOf aPer fTyp)
  | 33 => (gOf aPer fInf)
  | 28 => (gOf aPers fAlone)
  | _ => gNo
theorem tNme_ok : ∀ f, PureC Tryd.prog UT f (tNme f) := fun f => by
  unfold tNme
  split
  · exact named_p
  · exact typed_p
  · exact infant_p
  · exact alone_p
  · exact PureC.no
set_option maxHeartbeats 4000000 in
theorem nme_p : PureC Tryd.prog UT 15 (gOf aNam fNm) := by
  have hG := tNme_ok
  refine PureC.ofArgs aNam_inj Tryd.func15 body15 nm15 res15 ?_
  rintro ⟨l, g, at', ⟨a, b, c⟩⟩ hv
  refine ⟨by rw [nt15]; simp [aNam], fun C hN Q hQ => ?_⟩
  rw [nt15] at hN
  unfold c15
  obtain ⟨hl, hxo, hgi⟩ : OkN l g ⟨a, b, c⟩ := hv
  refine aw_seq (aw_region (EF := EF0) hG (by rw [hN]; exact tr15_0) ?_)
  simp only [a15_0, go_sem, ↓reduceIte, Nat.reduceEqDiff, reduceCtorEq, Nat.reduceAdd, Nat.reduceLT, Nat.reduceLeDiff, Nat.reduceBNe, Nat.reduceBEq, Int.reduceToNat, aNam, Person.enc, tNme, fNam_eq, fTyp_eq, fInf_eq, fAlone_eq, hxo]
  refine aw_seq (aw_region (EF := EF0) hG (by rw [hN]; exact tr15_1) ?_)
  simp only [a15_1, go_sem, ↓reduceIte, Nat.reduceEqDiff, reduceCtorEq, Nat.reduceAdd, Nat.reduceLT, Nat.reduceLeDiff, Nat.reduceBNe, Nat.reduceBEq, Int.reduceToNat, tNme, fNam_eq, fTyp_eq, fInf_eq, fAlone_eq, hxo]
  refine aw_seq (aw_region (EF := EF0) hG (by rw [hN]; exact tr15_2) ?_)
  simp only [a15_2, go_sem, ↓reduceIte, Nat.reduceEqDiff, reduceCtorEq, Nat.reduceAdd, Nat.reduceLT, Nat.reduceLeDiff, Nat.reduceBNe, Nat.reduceBEq, Int.reduceToNat, tNme, fNam_eq, fTyp_eq, fInf_eq, fAlone_eq, hxo]
  refine aw_seq ?_
  have e1 : (decide (at' < 0) || decide ((l.length : Int) < at') || (decide (at' = (l.length : Int)) && decide (g < 1))) = nmA l.length g at' := rfl
  refine aw_seq (aw_region (EF := EF0) hG (by rw [hN]; exact tr15_3) ?_)
  simp only [a15_3, go_sem, ↓reduceIte, Nat.reduceEqDiff, reduceCtorEq, Nat.reduceAdd, Nat.reduceLT, Nat.reduceLeDiff, Nat.reduceBNe, Nat.reduceBEq, Int.reduceToNat, tNme, fNam_eq, fTyp_eq, fInf_eq, fAlone_eq, hxo]
  (repeat' apply And.intro) <;> (try first | omega | (intros; (repeat' apply And.intro) <;> first | assumption | omega | (simp_all; done)) | (intro h1; exact ⟨h1, fun h2 => by rw [h1, h2]; rfl⟩))
  rw [e1]
  refine aw_cond (b := _) rfl (fun hb3 => ?_) (fun hb3 => ?_)
  · skip
    refine aw_seq (aw_region (EF := EF0) hG (by rw [hN]; exact tr15_4) ?_)
    simp only [a15_4, go_sem, ↓reduceIte, Nat.reduceEqDiff, reduceCtorEq, Nat.reduceAdd, Nat.reduceLT, Nat.reduceLeDiff, Nat.reduceBNe, Nat.reduceBEq, Int.reduceToNat, tNme, fNam_eq, fTyp_eq, fInf_eq, fAlone_eq, hxo]
    refine AW.le (s' := ⟨mkE [(8, .list [] false), (9, .int .i64 0), (10, .int .i64 7)], mkH []⟩) (Le.mk _ _ ?_ ?_ rfl) (aw_ret (hQ _ _ (.inl rfl) ?_ ?_ ?_)) <;> simp only [outφ, outV, AR.res, go_sem, ↓reduceIte, Nat.reduceEqDiff, reduceCtorEq, Nat.reduceAdd, Nat.reduceLT, Nat.reduceLeDiff, Nat.reduceBNe, Nat.reduceBEq, Int.reduceToNat, fNm, nmV]
    · rw [nameP, if_pos hb3]; rfl
  · skip
    have hn3 : ¬ (nmA l.length g at' = true) := by rw [hb3]; decide
    have hb3' := hb3
    unfold nmA at hb3'
    simp only [Bool.or_eq_false_iff, decide_eq_false_iff_not] at hb3'
    obtain ⟨⟨g1, g2⟩, g3⟩ := hb3'
    obtain ⟨k, rfl⟩ := Int.eq_ofNat_of_zero_le (show 0 ≤ at' by omega)
    have hkn : k ≤ l.length := by omega
    refine aw_skip ?_
    try simp only [go_sem, ↓reduceIte, Nat.reduceEqDiff, reduceCtorEq, Nat.reduceAdd, Nat.reduceLT, Nat.reduceLeDiff, Nat.reduceBNe, Nat.reduceBEq, Int.reduceToNat]
    refine aw_seq ?_
    refine aw_seq (aw_region (EF := EF0) hG (by rw [hN]; exact tr15_5) ?_)
    simp only [a15_5, go_sem, ↓reduceIte, Nat.reduceEqDiff, reduceCtorEq, Nat.reduceAdd, Nat.reduceLT, Nat.reduceLeDiff, Nat.reduceBNe, Nat.reduceBEq, Int.reduceToNat, tNme, fNam_eq, fTyp_eq, fInf_eq, fAlone_eq, hxo]
    (repeat' apply And.intro) <;> (try first | omega | (intros; (repeat' apply And.intro) <;> first | assumption | omega | (simp_all; done)))
    refine aw_cond (b := _) rfl (fun hb5 => ?_) (fun hb5 => ?_)
    · skip
      refine aw_seq (aw_region (EF := EF0) hG (by rw [hN]; exact tr15_6) ?_)
      simp only [a15_6, go_sem, ↓reduceIte, Nat.reduceEqDiff, reduceCtorEq, Nat.reduceAdd, Nat.reduceLT, Nat.reduceLeDiff, Nat.reduceBNe, Nat.reduceBEq, Int.reduceToNat, tNme, fNam_eq, fTyp_eq, fInf_eq, fAlone_eq, hxo]
      refine AW.le (s' := ⟨mkE [(8, .list [] false), (9, .int .i64 0), (10, .int .i64 5)], mkH []⟩) (Le.mk _ _ ?_ ?_ rfl) (aw_ret (hQ _ _ (.inl rfl) ?_ ?_ ?_)) <;> simp only [outφ, outV, AR.res, go_sem, ↓reduceIte, Nat.reduceEqDiff, reduceCtorEq, Nat.reduceAdd, Nat.reduceLT, Nat.reduceLeDiff, Nat.reduceBNe, Nat.reduceBEq, Int.reduceToNat, fNm, nmV]
      · rw [nameP, if_neg hn3, if_pos (by simpa using hb5)]; rfl
    · skip
      have hn5 : ¬ (namB ⟨a, b, c⟩ = false) := by simpa using hb5
      refine aw_skip ?_
      try simp only [go_sem, ↓reduceIte, Nat.reduceEqDiff, reduceCtorEq, Nat.reduceAdd, Nat.reduceLT, Nat.reduceLeDiff, Nat.reduceBNe, Nat.reduceBEq, Int.reduceToNat]
      refine aw_seq ?_
      refine aw_seq (aw_region (EF := EF0) hG (by rw [hN]; exact tr15_7) ?_)
      simp only [a15_7, go_sem, ↓reduceIte, Nat.reduceEqDiff, reduceCtorEq, Nat.reduceAdd, Nat.reduceLT, Nat.reduceLeDiff, Nat.reduceBNe, Nat.reduceBEq, Int.reduceToNat, tNme, fNam_eq, fTyp_eq, fInf_eq, fAlone_eq, hxo]
      (repeat' apply And.intro) <;> (try first | omega | (intros; (repeat' apply And.intro) <;> first | assumption | omega | (simp_all; done)))
      refine aw_cond (b := _) rfl (fun hb7 => ?_) (fun hb7 => ?_)
      · skip
        refine aw_seq (aw_region (EF := EF0) hG (by rw [hN]; exact tr15_8) ?_)
        simp only [a15_8, go_sem, ↓reduceIte, Nat.reduceEqDiff, reduceCtorEq, Nat.reduceAdd, Nat.reduceLT, Nat.reduceLeDiff, Nat.reduceBNe, Nat.reduceBEq, Int.reduceToNat, tNme, fNam_eq, fTyp_eq, fInf_eq, fAlone_eq, hxo]
        refine AW.le (s' := ⟨mkE [(8, .list [] false), (9, .int .i64 0), (10, .int .i64 8)], mkH []⟩) (Le.mk _ _ ?_ ?_ rfl) (aw_ret (hQ _ _ (.inl rfl) ?_ ?_ ?_)) <;> simp only [outφ, outV, AR.res, go_sem, ↓reduceIte, Nat.reduceEqDiff, reduceCtorEq, Nat.reduceAdd, Nat.reduceLT, Nat.reduceLeDiff, Nat.reduceBNe, Nat.reduceBEq, Int.reduceToNat, fNm, nmV]
        · rw [nameP, if_neg hn3, if_neg hn5, if_pos (by simpa using hb7)]; rfl
      · skip
        have hn7 : ¬ (typB ⟨a, b, c⟩ = false) := by simpa using hb7
        refine aw_skip ?_
        try simp only [go_sem, ↓reduceIte, Nat.reduceEqDiff, reduceCtorEq, Nat.reduceAdd, Nat.reduceLT, Nat.reduceLeDiff, Nat.reduceBNe, Nat.reduceBEq, Int.reduceToNat]
        refine aw_cut (α := Unit) (fun _ => (¬ ((nmWas l (k : Int) != infB ⟨a, b, c⟩) = true))) (fun _ => ⟨mkE [(0, V.list (List.map Person.enc l) false), (1, V.int IntKind.i64 g), (2, V.int IntKind.i64 ↑k), (7, V.ptr 7 0), (11, V.int IntKind.i64 ↑l.length), (12, .bool (decide (k = l.length)))], mkH [(7, Ob.box 30 [V.str a, V.str b, V.str c])]⟩) ?_ ?_
        · intro KC9 hKC9
          have ekn : ((k : Int) = (l.length : Int)) ↔ k = l.length := by omega
          by_cases hm : k = l.length
          · skip
            have hw : nmWas l (k : Int) = false := by unfold nmWas; rw [decide_eq_false (by omega), Bool.false_and]
            have hd : decide (k = l.length) = true := decide_eq_true hm
            have hput : nmPut l (k : Int) ⟨a, b, c⟩ = l ++ [⟨a, b, c⟩] := by unfold nmPut; rw [if_pos (by omega)]
            have hgg : nmG l g (k : Int) = g - 1 := by unfold nmG; rw [if_pos (by omega)]
            have hno := inf_none l k (by omega)
            refine aw_seq (aw_regionD (EF := EF0) hG mixed (by rw [hN]; exact tr15_9) ok15_9 ?_)
            simp only [a15_9, d15_9, go_sem, ↓reduceIte, Nat.reduceEqDiff, reduceCtorEq, Nat.reduceAdd, Nat.reduceLT, Nat.reduceLeDiff, Nat.reduceBNe, Nat.reduceBEq, Int.reduceToNat, ekn, hd, Person.enc, hkn, tNme, fNam_eq, fTyp_eq, fInf_eq, fAlone_eq, hxo, hno]
            (repeat' apply And.intro) <;> (try first | omega | (intros; (repeat' apply And.intro) <;> first | assumption | omega | (simp_all; done)))
            refine aw_cond (b := _) rfl (fun hb9 => ?_) (fun hb9 => ?_)
            · skip
              refine aw_seq (aw_region (EF := EF0) hG (by rw [hN]; exact tr15_10) ?_)
              simp only [a15_10, go_sem, ↓reduceIte, Nat.reduceEqDiff, reduceCtorEq, Nat.reduceAdd, Nat.reduceLT, Nat.reduceLeDiff, Nat.reduceBNe, Nat.reduceBEq, Int.reduceToNat, tNme, fNam_eq, fTyp_eq, fInf_eq, fAlone_eq, hxo]
              refine AW.le (s' := ⟨mkE [(8, .list [] false), (9, .int .i64 0), (10, .int .i64 2)], mkH []⟩) (Le.mk _ _ ?_ ?_ rfl) (aw_ret (hQ _ _ (.inl rfl) ?_ ?_ ?_)) <;> simp only [outφ, outV, AR.res, go_sem, ↓reduceIte, Nat.reduceEqDiff, reduceCtorEq, Nat.reduceAdd, Nat.reduceLT, Nat.reduceLeDiff, Nat.reduceBNe, Nat.reduceBEq, Int.reduceToNat, fNm, nmV]
              · rw [nameP, if_neg hn3, if_neg hn5, if_neg hn7, if_pos (by rw [hw]; simpa using hb9)]; rfl
            · skip
              refine aw_skip ?_
              try simp only [go_sem, ↓reduceIte, Nat.reduceEqDiff, reduceCtorEq, Nat.reduceAdd, Nat.reduceLT, Nat.reduceLeDiff, Nat.reduceBNe, Nat.reduceBEq, Int.reduceToNat]
              refine hKC9 (()) _ ?_ ?_
              · (try dsimp only); rw [hw]; simpa using hb9
              · refine Le.mk _ _ ?_ ?_ rfl <;> simp only [go_sem, ↓reduceIte, Nat.reduceEqDiff, reduceCtorEq, Nat.reduceAdd, Nat.reduceLT, Nat.reduceLeDiff, Nat.reduceBNe, Nat.reduceBEq, Int.reduceToNat, hd] <;> (repeat' apply And.intro) <;> (try first | rfl | exact wk_frzb rfl rfl rfl | exact wk_fn rfl | exact .nilo _ _ _ rfl rfl)
          · skip
            have hkl : k < l.length := by omega
            have hd : decide (k = l.length) = false := decide_eq_false hm
            have hput : nmPut l (k : Int) ⟨a, b, c⟩ = l.set k ⟨a, b, c⟩ := by unfold nmPut; rw [if_neg (by omega)]; rfl
            have hgg : nmG l g (k : Int) = g := by unfold nmG; rw [if_neg (by omega)]
            generalize hyy : l[k] = y
            obtain ⟨y1, y2, y3⟩ := y
            have hw : nmWas l (k : Int) = infB ⟨y1, y2, y3⟩ := by unfold nmWas; rw [decide_eq_true (by omega), Bool.true_and, Int.toNat_natCast, getD_lt _ _ _ hkl, hyy]
            refine aw_seq (aw_regionD (EF := EF0) hG mixed (by rw [hN]; exact tr15_9) ok15_9 ?_)
            simp only [a15_9, d15_9, go_sem, ↓reduceIte, Nat.reduceEqDiff, reduceCtorEq, Nat.reduceAdd, Nat.reduceLT, Nat.reduceLeDiff, Nat.reduceBNe, Nat.reduceBEq, Int.reduceToNat, ekn, hd, Person.enc, hkn, tNme, fNam_eq, fTyp_eq, fInf_eq, fAlone_eq, hxo, getD_mapd _ _ _ _ hkl, hkl, hyy]
            (repeat' apply And.intro) <;> (try first | omega | (intros; (repeat' apply And.intro) <;> first | assumption | omega | (simp_all; done)))
            refine aw_cond (b := _) rfl (fun hb9 => ?_) (fun hb9 => ?_)
            · skip
              refine aw_seq (aw_region (EF := EF0) hG (by rw [hN]; exact tr15_10) ?_)
              simp only [a15_10, go_sem, ↓reduceIte, Nat.reduceEqDiff, reduceCtorEq, Nat.reduceAdd, Nat.reduceLT, Nat.reduceLeDiff, Nat.reduceBNe, Nat.reduceBEq, Int.reduceToNat, tNme, fNam_eq, fTyp_eq, fInf_eq, fAlone_eq, hxo]
              refine AW.le (s' := ⟨mkE [(8, .list [] false), (9, .int .i64 0), (10, .int .i64 2)], mkH []⟩) (Le.mk _ _ ?_ ?_ rfl) (aw_ret (hQ _ _ (.inl rfl) ?_ ?_ ?_)) <;> simp only [outφ, outV, AR.res, go_sem, ↓reduceIte, Nat.reduceEqDiff, reduceCtorEq, Nat.reduceAdd, Nat.reduceLT, Nat.reduceLeDiff, Nat.reduceBNe, Nat.reduceBEq, Int.reduceToNat, fNm, nmV]
              · rw [nameP, if_neg hn3, if_neg hn5, if_neg hn7, if_pos (by rw [hw, bne_comm]; exact hb9)]; rfl
            · skip
              refine aw_skip ?_
              try simp only [go_sem, ↓reduceIte, Nat.reduceEqDiff, reduceCtorEq, Nat.reduceAdd, Nat.reduceLT, Nat.reduceLeDiff, Nat.reduceBNe, Nat.reduceBEq, Int.reduceToNat]
              refine hKC9 (()) _ ?_ ?_
              · (try dsimp only); rw [hw, bne_comm, hb9]; decide
              · refine Le.mk _ _ ?_ ?_ rfl <;> simp only [go_sem, ↓reduceIte, Nat.reduceEqDiff, reduceCtorEq, Nat.reduceAdd, Nat.reduceLT, Nat.reduceLeDiff, Nat.reduceBNe, Nat.reduceBEq, Int.reduceToNat, hd] <;> (repeat' apply And.intro) <;> (try first | rfl | exact wk_frzb rfl rfl rfl | exact wk_fn rfl | exact .nilo _ _ _ rfl rfl)
        · rintro _ hn9
          have hn1 : ((l.length : Int) + 1).toNat = l.length + 1 := by omega
          have hn0 : 0 ≤ (l.length : Int) + 1 := by omega
          have hnd : decide ((l.length : Int) = (l.length : Int) + 1) = false := decide_eq_false (by omega)
          refine aw_seq (aw_regionO (EF := EF0) hG (by rw [hN]; exact tr15_11) ?_)
          simp only [a15_11, go_sem, ↓reduceIte, Nat.reduceEqDiff, reduceCtorEq, Nat.reduceAdd, Nat.reduceLT, Nat.reduceLeDiff, Nat.reduceBNe, Nat.reduceBEq, Int.reduceToNat, inI, hn1, hn0, tNme, fNam_eq, fTyp_eq, fInf_eq, fAlone_eq, hxo]
          (repeat' apply And.intro) <;> (try first | omega | (intros; (repeat' apply And.intro) <;> first | assumption | omega | (simp_all; done)))
          refine aw_seq (aw_region (EF := EF0) hG (by rw [hN]; exact tr15_12) ?_)
          simp only [a15_12, go_sem, ↓reduceIte, Nat.reduceEqDiff, reduceCtorEq, Nat.reduceAdd, Nat.reduceLT, Nat.reduceLeDiff, Nat.reduceBNe, Nat.reduceBEq, Int.reduceToNat, cp_one, tNme, fNam_eq, fTyp_eq, fInf_eq, fAlone_eq, hxo]
          (repeat' apply And.intro) <;> (try first | omega | (intros; (repeat' apply And.intro) <;> first | assumption | omega | (simp_all; done)))
          refine aw_cut (α := (List Person) × (List Person)) (fun γ => (γ.2.take γ.1.length = γ.1) ∧ (γ.2.length = l.length + 1) ∧ (γ.1.length ≤ l.length + 1) ∧ (γ.1 = nmPut l (k : Int) ⟨a, b, c⟩)) (fun γ => ⟨mkE [(1, V.int IntKind.i64 g), (11, V.int IntKind.i64 ↑l.length), (12, V.bool (decide (k = l.length))), (13, .vw 61 0 γ.1.length (l.length + 1) false)], mkH [(61, .arr 30 3 (γ.2.map Person.enc))]⟩) ?_ ?_
          · intro KC13 hKC13
            refine aw_seq (aw_region (EF := EF0) hG (by rw [hN]; exact tr15_13) ?_)
            simp only [a15_13, go_sem, ↓reduceIte, Nat.reduceEqDiff, reduceCtorEq, Nat.reduceAdd, Nat.reduceLT, Nat.reduceLeDiff, Nat.reduceBNe, Nat.reduceBEq, Int.reduceToNat, tNme, fNam_eq, fTyp_eq, fInf_eq, fAlone_eq, hxo]
            refine aw_cond (b := _) rfl (fun hb13 => ?_) (fun hb13 => ?_)
            · skip
              have hm : k = l.length := of_decide_eq_true hb13
              refine aw_regionD (EF := EF0) hG mixed (by rw [hN]; exact tr15_14) ok15_14 ?_
              simp only [a15_14, d15_14, go_sem, ↓reduceIte, Nat.reduceEqDiff, reduceCtorEq, Nat.reduceAdd, Nat.reduceLT, Nat.reduceLeDiff, Nat.reduceBNe, Nat.reduceBEq, Int.reduceToNat, inI, hn1, hn0, hnd, Nat.sub_zero, put_end, tNme, fNam_eq, fTyp_eq, fInf_eq, fAlone_eq, hxo]
              (repeat' apply And.intro) <;> (try first | omega | (intros; (repeat' apply And.intro) <;> first | assumption | omega | (simp_all; done)))
              refine hKC13 (l ++ [⟨a, b, c⟩], l ++ [⟨a, b, c⟩]) _ ?_ ?_
              · (try dsimp only); exact ⟨List.take_length, by simp, by simp, by unfold nmPut; rw [if_pos (by omega)]⟩
              · refine Le.mk _ _ ?_ ?_ rfl <;> simp only [go_sem, ↓reduceIte, Nat.reduceEqDiff, reduceCtorEq, Nat.reduceAdd, Nat.reduceLT, Nat.reduceLeDiff, Nat.reduceBNe, Nat.reduceBEq, Int.reduceToNat, List.length_append, List.length_cons, List.length_nil] <;> (repeat' apply And.intro) <;> (try first | rfl | exact wk_frzb rfl rfl rfl | exact wk_fn rfl | exact .nilo _ _ _ rfl rfl)
            · skip
              have hm : ¬ k = l.length := of_decide_eq_false hb13
              have hkl : k < l.length := by omega
              have hkz : k < (l ++ [Person.zero]).length := by rw [List.length_append]; omega
              generalize hzz : (l ++ [Person.zero])[k] = z
              obtain ⟨z1, z2, z3⟩ := z
              refine aw_region (EF := EF0) hG (by rw [hN]; exact tr15_15) ?_
              simp only [a15_15, go_sem, ↓reduceIte, Nat.reduceEqDiff, reduceCtorEq, Nat.reduceAdd, Nat.reduceLT, Nat.reduceLeDiff, Nat.reduceBNe, Nat.reduceBEq, Int.reduceToNat, getD_mapd _ _ _ _ hkz, hkz, hzz, Person.enc, List.drop_succ_cons, List.drop_zero, set_map, List.length_append, hkl, tNme, fNam_eq, fTyp_eq, fInf_eq, fAlone_eq, hxo]
              (repeat' apply And.intro) <;> (try first | omega | (intros; (repeat' apply And.intro) <;> first | assumption | omega | (simp_all; done)))
              refine hKC13 (l.set k ⟨a, b, c⟩, (l ++ [Person.zero]).set k ⟨a, b, c⟩) _ ?_ ?_
              · (try dsimp only); exact ⟨by rw [List.set_append_left _ _ hkl]; exact List.take_left' (by simp), by simp, by simp, by unfold nmPut; rw [if_neg (by omega)]; rfl⟩
              · refine Le.mk _ _ ?_ ?_ rfl <;> simp only [go_sem, ↓reduceIte, Nat.reduceEqDiff, reduceCtorEq, Nat.reduceAdd, Nat.reduceLT, Nat.reduceLeDiff, Nat.reduceBNe, Nat.reduceBEq, Int.reduceToNat, List.length_set] <;> (repeat' apply And.intro) <;> (try first | rfl | exact wk_frzb rfl rfl rfl | exact wk_fn rfl | exact .nilo _ _ _ rfl rfl)
          · rintro ⟨out, R⟩ ⟨hR, hRl, hol, hout⟩
            try dsimp only at *
            refine aw_seq ?_
            have hol2 : out.length ≤ 140737488355328 := by omega
            refine aw_seq (aw_region (EF := EF0) hG (by rw [hN]; exact tr15_16) ?_)
            simp only [a15_16, go_sem, ↓reduceIte, Nat.reduceEqDiff, reduceCtorEq, Nat.reduceAdd, Nat.reduceLT, Nat.reduceLeDiff, Nat.reduceBNe, Nat.reduceBEq, Int.reduceToNat, ← List.map_take, hR, hRl, hol2, tNme, fNam_eq, fTyp_eq, fInf_eq, fAlone_eq, hxo]
            (repeat' apply And.intro) <;> (try first | omega | (intros; (repeat' apply And.intro) <;> first | assumption | omega | (simp_all; done)))
            refine aw_cond (b := _) rfl (fun hb16 => ?_) (fun hb16 => ?_)
            · skip
              refine aw_seq (aw_region (EF := EF0) hG (by rw [hN]; exact tr15_17) ?_)
              simp only [a15_17, go_sem, ↓reduceIte, Nat.reduceEqDiff, reduceCtorEq, Nat.reduceAdd, Nat.reduceLT, Nat.reduceLeDiff, Nat.reduceBNe, Nat.reduceBEq, Int.reduceToNat, tNme, fNam_eq, fTyp_eq, fInf_eq, fAlone_eq, hxo]
              refine AW.le (s' := ⟨mkE [(8, .list [] false), (9, .int .i64 0), (10, .int .i64 25)], mkH []⟩) (Le.mk _ _ ?_ ?_ rfl) (aw_ret (hQ _ _ (.inl rfl) ?_ ?_ ?_)) <;> simp only [outφ, outV, AR.res, go_sem, ↓reduceIte, Nat.reduceEqDiff, reduceCtorEq, Nat.reduceAdd, Nat.reduceLT, Nat.reduceLeDiff, Nat.reduceBNe, Nat.reduceBEq, Int.reduceToNat, fNm, nmV]
              · rw [nameP, if_neg hn3, if_neg hn5, if_neg hn7, if_neg hn9, if_pos (by rw [← hout]; exact hb16)]; rfl
            · skip
              have hn16 : ¬ (aloneB (nmPut l (k : Int) ⟨a, b, c⟩) = true) := by rw [← hout, hb16]; decide
              refine aw_skip ?_
              try simp only [go_sem, ↓reduceIte, Nat.reduceEqDiff, reduceCtorEq, Nat.reduceAdd, Nat.reduceLT, Nat.reduceLeDiff, Nat.reduceBNe, Nat.reduceBEq, Int.reduceToNat]
              refine aw_cut (α := Int) (fun y => (y = nmG l g (k : Int))) (fun y => ⟨mkE [(1, .int .i64 y), (11, V.int IntKind.i64 ↑l.length), (12, V.bool (decide (k = l.length))), (13, V.vw 61 0 out.length (l.length + 1) false)], mkH [(61, Ob.arr 30 3 (List.map Person.enc R))]⟩) ?_ ?_
              · intro KC18 hKC18
                refine aw_seq (aw_region (EF := EF0) hG (by rw [hN]; exact tr15_18) ?_)
                simp only [a15_18, go_sem, ↓reduceIte, Nat.reduceEqDiff, reduceCtorEq, Nat.reduceAdd, Nat.reduceLT, Nat.reduceLeDiff, Nat.reduceBNe, Nat.reduceBEq, Int.reduceToNat, tNme, fNam_eq, fTyp_eq, fInf_eq, fAlone_eq, hxo]
                refine aw_cond (b := _) rfl (fun hb18 => ?_) (fun hb18 => ?_)
                · skip
                  have hm : k = l.length := of_decide_eq_true hb18
                  have hgi2 := hgi
                  unfold inI at hgi2
                  have hg1 : 1 ≤ g := by simp at g3; have := g3 (by omega); omega
                  refine aw_region (EF := EF0) hG (by rw [hN]; exact tr15_19) ?_
                  simp only [a15_19, go_sem, ↓reduceIte, Nat.reduceEqDiff, reduceCtorEq, Nat.reduceAdd, Nat.reduceLT, Nat.reduceLeDiff, Nat.reduceBNe, Nat.reduceBEq, Int.reduceToNat, inI, tNme, fNam_eq, fTyp_eq, fInf_eq, fAlone_eq, hxo]
                  (repeat' apply And.intro) <;> (try first | omega | (intros; (repeat' apply And.intro) <;> first | assumption | omega | (simp_all; done)))
                  refine hKC18 (g - 1) _ ?_ ?_
                  · (try dsimp only); unfold nmG; rw [if_pos (by have := of_decide_eq_true hb18; omega)]
                  · refine Le.mk _ _ ?_ ?_ rfl <;> simp only [go_sem, ↓reduceIte, Nat.reduceEqDiff, reduceCtorEq, Nat.reduceAdd, Nat.reduceLT, Nat.reduceLeDiff, Nat.reduceBNe, Nat.reduceBEq, Int.reduceToNat] <;> (repeat' apply And.intro) <;> (try first | rfl | exact wk_frzb rfl rfl rfl | exact wk_fn rfl | exact .nilo _ _ _ rfl rfl)
                · skip
                  refine aw_skip ?_
                  try simp only [go_sem, ↓reduceIte, Nat.reduceEqDiff, reduceCtorEq, Nat.reduceAdd, Nat.reduceLT, Nat.reduceLeDiff, Nat.reduceBNe, Nat.reduceBEq, Int.reduceToNat]
                  refine hKC18 (g) _ ?_ ?_
                  · (try dsimp only); unfold nmG; rw [if_neg (by have := of_decide_eq_false hb18; omega)]
                  · refine Le.mk _ _ ?_ ?_ rfl <;> simp only [go_sem, ↓reduceIte, Nat.reduceEqDiff, reduceCtorEq, Nat.reduceAdd, Nat.reduceLT, Nat.reduceLeDiff, Nat.reduceBNe, Nat.reduceBEq, Int.reduceToNat] <;> (repeat' apply And.intro) <;> (try first | rfl | exact wk_frzb rfl rfl rfl | exact wk_fn rfl | exact .nilo _ _ _ rfl rfl)
              · rintro y hy
                refine aw_seq ?_
                have e6 : (decide (k = l.length) && decide (y = 0) && decide (9 < (l.length : Int) + 1)) = nmF l g (k : Int) := by unfold nmF; rw [hy, show decide ((k : Int) = (l.length : Int)) = decide (k = l.length) from decide_eq_decide.2 (by omega)]
                refine aw_seq (aw_region (EF := EF0) hG (by rw [hN]; exact tr15_20) ?_)
                simp only [a15_20, go_sem, ↓reduceIte, Nat.reduceEqDiff, reduceCtorEq, Nat.reduceAdd, Nat.reduceLT, Nat.reduceLeDiff, Nat.reduceBNe, Nat.reduceBEq, Int.reduceToNat, inI, e6, tNme, fNam_eq, fTyp_eq, fInf_eq, fAlone_eq, hxo]
                refine ⟨fun h1 => ⟨h1, by omega, by omega⟩, ?_⟩
                refine aw_cond (b := _) rfl (fun hb20 => ?_) (fun hb20 => ?_)
                · skip
                  refine aw_seq (aw_region (EF := EF0) hG (by rw [hN]; exact tr15_21) ?_)
                  simp only [a15_21, go_sem, ↓reduceIte, Nat.reduceEqDiff, reduceCtorEq, Nat.reduceAdd, Nat.reduceLT, Nat.reduceLeDiff, Nat.reduceBNe, Nat.reduceBEq, Int.reduceToNat, tNme, fNam_eq, fTyp_eq, fInf_eq, fAlone_eq, hxo]
                  refine AW.le (s' := ⟨mkE [(8, .list [] false), (9, .int .i64 0), (10, .int .i64 4)], mkH []⟩) (Le.mk _ _ ?_ ?_ rfl) (aw_ret (hQ _ _ (.inl rfl) ?_ ?_ ?_)) <;> simp only [outφ, outV, AR.res, go_sem, ↓reduceIte, Nat.reduceEqDiff, reduceCtorEq, Nat.reduceAdd, Nat.reduceLT, Nat.reduceLeDiff, Nat.reduceBNe, Nat.reduceBEq, Int.reduceToNat, fNm, nmV]
                  · rw [nameP, if_neg hn3, if_neg hn5, if_neg hn7, if_neg hn9, if_neg hn16, if_pos hb20]; rfl
                · skip
                  refine aw_skip ?_
                  try simp only [go_sem, ↓reduceIte, Nat.reduceEqDiff, reduceCtorEq, Nat.reduceAdd, Nat.reduceLT, Nat.reduceLeDiff, Nat.reduceBNe, Nat.reduceBEq, Int.reduceToNat]
                  refine aw_seq (aw_region (EF := EF0) hG (by rw [hN]; exact tr15_22) ?_)
                  simp only [a15_22, go_sem, ↓reduceIte, Nat.reduceEqDiff, reduceCtorEq, Nat.reduceAdd, Nat.reduceLT, Nat.reduceLeDiff, Nat.reduceBNe, Nat.reduceBEq, Int.reduceToNat, tNme, fNam_eq, fTyp_eq, fInf_eq, fAlone_eq, hxo]
                  refine AW.le (s' := ⟨mkE [(8, .list (out.map Person.enc) false), (9, .int .i64 y), (10, .int .i64 0)], mkH []⟩) (Le.mk _ _ ?_ ?_ rfl) (aw_ret (hQ _ _ (.inl rfl) ?_ ?_ ?_)) <;> simp only [outφ, outV, AR.res, go_sem, ↓reduceIte, Nat.reduceEqDiff, reduceCtorEq, Nat.reduceAdd, Nat.reduceLT, Nat.reduceLeDiff, Nat.reduceBNe, Nat.reduceBEq, Int.reduceToNat, fNm, nmV]
                  · exact wk_frzvE rfl (by rw [List.length_map, hRl]) rfl ((Person.purs _).2 trivial) (by rw [List.drop_zero, ← List.map_take, hR])
                  · rw [nameP, if_neg hn3, if_neg hn5, if_neg hn7, if_neg hn9, if_neg hn16, if_neg (by rw [hb20]; decide), hout, hy]
noncomputable def trNme : Tab
  | 30 => (gOf aPer fNam)
  | 31 => (gOf aPer fTyp)
  | 32 => (gOf aPers fFits)
  | _ => gNo
theorem trNme_ok : ∀ f, PureC Tryd.prog UT f (trNme f) := fun f => by
  unfold trNme
  split
  · exact rnamed_p
  · exact rtyped_p
  · exact rfits_p
  · exact PureC.no
theorem snoc_map (l : List Person) (a b c : List UInt8) : l.map Person.enc ++ [[V.str a, V.str b, V.str c]] = (l ++ [(⟨a, b, c⟩ : Person)]).map Person.enc := by rw [List.map_append]; rfl
set_option maxHeartbeats 4000000 in
theorem rnme_p : PureC Tryd.prog UT 16 (gOf aNam fNm) := by
  have hG := trNme_ok
  refine PureC.ofArgs aNam_inj Tryd.func16 body16 nm16 res16 ?_
  rintro ⟨l, g, at', ⟨a, b, c⟩⟩ hv
  refine ⟨by rw [nt16]; simp [aNam], fun C hN Q hQ => ?_⟩
  rw [nt16] at hN
  unfold c16
  obtain ⟨hl, hxo, hgi⟩ : OkN l g ⟨a, b, c⟩ := hv
  have ei : decide (c = [73, 78, 70]) = infB ⟨a, b, c⟩ := rfl
  refine aw_seq (aw_region (EF := EF0) hG (by rw [hN]; exact tr16_0) ?_)
  simp only [a16_0, go_sem, ↓reduceIte, Nat.reduceEqDiff, reduceCtorEq, Nat.reduceAdd, Nat.reduceLT, Nat.reduceLeDiff, Nat.reduceBNe, Nat.reduceBEq, Int.reduceToNat, aNam, Person.enc, trNme, fNam_eq, fTyp_eq, fFits_eq, hxo]
  refine aw_seq ?_
  have e1 : (decide (at' < 0) || decide ((l.length : Int) < at') || (decide (at' = (l.length : Int)) && decide (g < 1))) = nmA l.length g at' := rfl
  refine aw_seq (aw_region (EF := EF0) hG (by rw [hN]; exact tr16_1) ?_)
  simp only [a16_1, go_sem, ↓reduceIte, Nat.reduceEqDiff, reduceCtorEq, Nat.reduceAdd, Nat.reduceLT, Nat.reduceLeDiff, Nat.reduceBNe, Nat.reduceBEq, Int.reduceToNat, trNme, fNam_eq, fTyp_eq, fFits_eq, hxo]
  (repeat' apply And.intro) <;> (try first | omega | (intros; (repeat' apply And.intro) <;> first | assumption | omega | (simp_all; done)) | (intro h1; exact ⟨h1, fun h2 => by rw [h1, h2]; rfl⟩))
  rw [e1]
  refine aw_cond (b := _) rfl (fun hb3 => ?_) (fun hb3 => ?_)
  · skip
    refine aw_seq (aw_region (EF := EF0) hG (by rw [hN]; exact tr16_2) ?_)
    simp only [a16_2, go_sem, ↓reduceIte, Nat.reduceEqDiff, reduceCtorEq, Nat.reduceAdd, Nat.reduceLT, Nat.reduceLeDiff, Nat.reduceBNe, Nat.reduceBEq, Int.reduceToNat, trNme, fNam_eq, fTyp_eq, fFits_eq, hxo]
    refine AW.le (s' := ⟨mkE [(8, .list [] false), (9, .int .i64 0), (10, .int .i64 7)], mkH []⟩) (Le.mk _ _ ?_ ?_ rfl) (aw_ret (hQ _ _ (.inl rfl) ?_ ?_ ?_)) <;> simp only [outφ, outV, AR.res, go_sem, ↓reduceIte, Nat.reduceEqDiff, reduceCtorEq, Nat.reduceAdd, Nat.reduceLT, Nat.reduceLeDiff, Nat.reduceBNe, Nat.reduceBEq, Int.reduceToNat, fNm, nmV]
    · rw [nameP, if_pos hb3]; rfl
  · skip
    have hn3 : ¬ (nmA l.length g at' = true) := by rw [hb3]; decide
    have hb3' := hb3
    unfold nmA at hb3'
    simp only [Bool.or_eq_false_iff, decide_eq_false_iff_not] at hb3'
    obtain ⟨⟨g1, g2⟩, g3⟩ := hb3'
    obtain ⟨k, rfl⟩ := Int.eq_ofNat_of_zero_le (show 0 ≤ at' by omega)
    have hkn : k ≤ l.length := by omega
    refine aw_skip ?_
    try simp only [go_sem, ↓reduceIte, Nat.reduceEqDiff, reduceCtorEq, Nat.reduceAdd, Nat.reduceLT, Nat.reduceLeDiff, Nat.reduceBNe, Nat.reduceBEq, Int.reduceToNat]
    refine aw_seq ?_
    refine aw_seq (aw_region (EF := EF0) hG (by rw [hN]; exact tr16_3) ?_)
    simp only [a16_3, go_sem, ↓reduceIte, Nat.reduceEqDiff, reduceCtorEq, Nat.reduceAdd, Nat.reduceLT, Nat.reduceLeDiff, Nat.reduceBNe, Nat.reduceBEq, Int.reduceToNat, trNme, fNam_eq, fTyp_eq, fFits_eq, hxo]
    (repeat' apply And.intro) <;> (try first | omega | (intros; (repeat' apply And.intro) <;> first | assumption | omega | (simp_all; done)))
    refine aw_cond (b := _) rfl (fun hb5 => ?_) (fun hb5 => ?_)
    · skip
      refine aw_seq (aw_region (EF := EF0) hG (by rw [hN]; exact tr16_4) ?_)
      simp only [a16_4, go_sem, ↓reduceIte, Nat.reduceEqDiff, reduceCtorEq, Nat.reduceAdd, Nat.reduceLT, Nat.reduceLeDiff, Nat.reduceBNe, Nat.reduceBEq, Int.reduceToNat, trNme, fNam_eq, fTyp_eq, fFits_eq, hxo]
      refine AW.le (s' := ⟨mkE [(8, .list [] false), (9, .int .i64 0), (10, .int .i64 5)], mkH []⟩) (Le.mk _ _ ?_ ?_ rfl) (aw_ret (hQ _ _ (.inl rfl) ?_ ?_ ?_)) <;> simp only [outφ, outV, AR.res, go_sem, ↓reduceIte, Nat.reduceEqDiff, reduceCtorEq, Nat.reduceAdd, Nat.reduceLT, Nat.reduceLeDiff, Nat.reduceBNe, Nat.reduceBEq, Int.reduceToNat, fNm, nmV]
      · rw [nameP, if_neg hn3, if_pos (by simpa using hb5)]; rfl
    · skip
      have hn5 : ¬ (namB ⟨a, b, c⟩ = false) := by simpa using hb5
      refine aw_skip ?_
      try simp only [go_sem, ↓reduceIte, Nat.reduceEqDiff, reduceCtorEq, Nat.reduceAdd, Nat.reduceLT, Nat.reduceLeDiff, Nat.reduceBNe, Nat.reduceBEq, Int.reduceToNat]
      refine aw_seq ?_
      refine aw_seq (aw_region (EF := EF0) hG (by rw [hN]; exact tr16_5) ?_)
      simp only [a16_5, go_sem, ↓reduceIte, Nat.reduceEqDiff, reduceCtorEq, Nat.reduceAdd, Nat.reduceLT, Nat.reduceLeDiff, Nat.reduceBNe, Nat.reduceBEq, Int.reduceToNat, trNme, fNam_eq, fTyp_eq, fFits_eq, hxo]
      (repeat' apply And.intro) <;> (try first | omega | (intros; (repeat' apply And.intro) <;> first | assumption | omega | (simp_all; done)))
      refine aw_cond (b := _) rfl (fun hb7 => ?_) (fun hb7 => ?_)
      · skip
        refine aw_seq (aw_region (EF := EF0) hG (by rw [hN]; exact tr16_6) ?_)
        simp only [a16_6, go_sem, ↓reduceIte, Nat.reduceEqDiff, reduceCtorEq, Nat.reduceAdd, Nat.reduceLT, Nat.reduceLeDiff, Nat.reduceBNe, Nat.reduceBEq, Int.reduceToNat, trNme, fNam_eq, fTyp_eq, fFits_eq, hxo]
        refine AW.le (s' := ⟨mkE [(8, .list [] false), (9, .int .i64 0), (10, .int .i64 8)], mkH []⟩) (Le.mk _ _ ?_ ?_ rfl) (aw_ret (hQ _ _ (.inl rfl) ?_ ?_ ?_)) <;> simp only [outφ, outV, AR.res, go_sem, ↓reduceIte, Nat.reduceEqDiff, reduceCtorEq, Nat.reduceAdd, Nat.reduceLT, Nat.reduceLeDiff, Nat.reduceBNe, Nat.reduceBEq, Int.reduceToNat, fNm, nmV]
        · rw [nameP, if_neg hn3, if_neg hn5, if_pos (by simpa using hb7)]; rfl
      · skip
        have hn7 : ¬ (typB ⟨a, b, c⟩ = false) := by simpa using hb7
        refine aw_skip ?_
        try simp only [go_sem, ↓reduceIte, Nat.reduceEqDiff, reduceCtorEq, Nat.reduceAdd, Nat.reduceLT, Nat.reduceLeDiff, Nat.reduceBNe, Nat.reduceBEq, Int.reduceToNat]
        have ekn : ((k : Int) < (l.length : Int)) ↔ k < l.length := by omega
        by_cases hm : k < l.length
        · skip
          have hd : decide (k < l.length) = true := decide_eq_true hm
          generalize hyy : l[k] = y
          obtain ⟨y1, y2, y3⟩ := y
          have ey : decide (y3 = [73, 78, 70]) = infB ⟨y1, y2, y3⟩ := rfl
          have hw : nmWas l (k : Int) = infB ⟨y1, y2, y3⟩ := by unfold nmWas; rw [decide_eq_true (by omega), Bool.true_and, Int.toNat_natCast, getD_lt _ _ _ hm, hyy]
          have hm2 : ¬ k = l.length := by omega
          have hd2 : decide (k = l.length) = false := decide_eq_false hm2
          have hput : nmPut l (k : Int) ⟨a, b, c⟩ = l.set k ⟨a, b, c⟩ := by unfold nmPut; rw [if_neg (by omega)]; rfl
          have hgg : nmG l g (k : Int) = g := by unfold nmG; rw [if_neg (by omega)]
          refine aw_seq (aw_region (EF := EF0) hG (by rw [hN]; exact tr16_7) ?_)
          simp only [a16_7, go_sem, ↓reduceIte, Nat.reduceEqDiff, reduceCtorEq, Nat.reduceAdd, Nat.reduceLT, Nat.reduceLeDiff, Nat.reduceBNe, Nat.reduceBEq, Int.reduceToNat, ekn, hd, Person.enc, trNme, fNam_eq, fTyp_eq, fFits_eq, hxo, getD_mapd _ _ _ _ hm, hm, hyy, ey]
          (repeat' apply And.intro) <;> (try first | omega | (intros; (repeat' apply And.intro) <;> first | assumption | omega | (simp_all; done)))
          refine aw_seq ?_
          refine aw_seq (aw_region (EF := EF0) hG (by rw [hN]; exact tr16_8) ?_)
          simp only [a16_8, go_sem, ↓reduceIte, Nat.reduceEqDiff, reduceCtorEq, Nat.reduceAdd, Nat.reduceLT, Nat.reduceLeDiff, Nat.reduceBNe, Nat.reduceBEq, Int.reduceToNat, ei, trNme, fNam_eq, fTyp_eq, fFits_eq, hxo]
          (repeat' apply And.intro) <;> (try first | omega | (intros; (repeat' apply And.intro) <;> first | assumption | omega | (simp_all; done)))
          refine aw_cond (b := _) rfl (fun hb9 => ?_) (fun hb9 => ?_)
          · skip
            refine aw_seq (aw_region (EF := EF0) hG (by rw [hN]; exact tr16_9) ?_)
            simp only [a16_9, go_sem, ↓reduceIte, Nat.reduceEqDiff, reduceCtorEq, Nat.reduceAdd, Nat.reduceLT, Nat.reduceLeDiff, Nat.reduceBNe, Nat.reduceBEq, Int.reduceToNat, trNme, fNam_eq, fTyp_eq, fFits_eq, hxo]
            refine AW.le (s' := ⟨mkE [(8, .list [] false), (9, .int .i64 0), (10, .int .i64 2)], mkH []⟩) (Le.mk _ _ ?_ ?_ rfl) (aw_ret (hQ _ _ (.inl rfl) ?_ ?_ ?_)) <;> simp only [outφ, outV, AR.res, go_sem, ↓reduceIte, Nat.reduceEqDiff, reduceCtorEq, Nat.reduceAdd, Nat.reduceLT, Nat.reduceLeDiff, Nat.reduceBNe, Nat.reduceBEq, Int.reduceToNat, fNm, nmV]
            · rw [nameP, if_neg hn3, if_neg hn5, if_neg hn7, if_pos (by rw [hw]; exact hb9)]; rfl
          · skip
            have hn9 : ¬ ((nmWas l (k : Int) != infB ⟨a, b, c⟩) = true) := by rw [hw]; simpa using hb9
            refine aw_skip ?_
            try simp only [go_sem, ↓reduceIte, Nat.reduceEqDiff, reduceCtorEq, Nat.reduceAdd, Nat.reduceLT, Nat.reduceLeDiff, Nat.reduceBNe, Nat.reduceBEq, Int.reduceToNat]
            refine aw_seq (aw_region (EF := EF0) hG (by rw [hN]; exact tr16_10) ?_)
            simp only [a16_10, go_sem, ↓reduceIte, Nat.reduceEqDiff, reduceCtorEq, Nat.reduceAdd, Nat.reduceLT, Nat.reduceLeDiff, Nat.reduceBNe, Nat.reduceBEq, Int.reduceToNat, trNme, fNam_eq, fTyp_eq, fFits_eq, hxo]
            (repeat' apply And.intro) <;> (try first | omega | (intros; (repeat' apply And.intro) <;> first | assumption | omega | (simp_all; done)))
            refine aw_seq ?_
            have ekm : ((k : Int) = (l.length : Int)) ↔ k = l.length := by omega
            refine aw_seq (aw_region (EF := EF0) hG (by rw [hN]; exact tr16_11) ?_)
            simp only [a16_11, go_sem, ↓reduceIte, Nat.reduceEqDiff, reduceCtorEq, Nat.reduceAdd, Nat.reduceLT, Nat.reduceLeDiff, Nat.reduceBNe, Nat.reduceBEq, Int.reduceToNat, ekm, hd2, trNme, fNam_eq, fTyp_eq, fFits_eq, hxo]
            refine aw_condF rfl ?_
            refine aw_region (EF := EF0) hG (by rw [hN]; exact tr16_13) ?_
            simp only [a16_13, go_sem, ↓reduceIte, Nat.reduceEqDiff, reduceCtorEq, Nat.reduceAdd, Nat.reduceLT, Nat.reduceLeDiff, Nat.reduceBNe, Nat.reduceBEq, Int.reduceToNat, getD_mapd _ _ _ _ hm, hm, hyy, Person.enc, List.drop_succ_cons, List.drop_zero, set_map, trNme, fNam_eq, fTyp_eq, fFits_eq, hxo]
            (repeat' apply And.intro) <;> (try first | omega | (intros; (repeat' apply And.intro) <;> first | assumption | omega | (simp_all; done)))
            refine aw_seq ?_
            have hol2 : l.length ≤ 140737488355328 := by omega
            have hol3 : l.length + 1 ≤ 140737488355328 := by omega
            refine aw_seq (aw_region (EF := EF0) hG (by rw [hN]; exact tr16_14) ?_)
            simp only [a16_14, go_sem, ↓reduceIte, Nat.reduceEqDiff, reduceCtorEq, Nat.reduceAdd, Nat.reduceLT, Nat.reduceLeDiff, Nat.reduceBNe, Nat.reduceBEq, Int.reduceToNat, List.length_set, hol2, List.length_append, List.length_cons, List.length_nil, hol3, Bool.not_not, trNme, fNam_eq, fTyp_eq, fFits_eq, hxo]
            (repeat' apply And.intro) <;> (try first | omega | (intros; (repeat' apply And.intro) <;> first | assumption | omega | (simp_all; done)))
            refine aw_cond (b := _) rfl (fun hb14 => ?_) (fun hb14 => ?_)
            · skip
              refine aw_seq (aw_region (EF := EF0) hG (by rw [hN]; exact tr16_15) ?_)
              simp only [a16_15, go_sem, ↓reduceIte, Nat.reduceEqDiff, reduceCtorEq, Nat.reduceAdd, Nat.reduceLT, Nat.reduceLeDiff, Nat.reduceBNe, Nat.reduceBEq, Int.reduceToNat, trNme, fNam_eq, fTyp_eq, fFits_eq, hxo]
              refine AW.le (s' := ⟨mkE [(8, .list [] false), (9, .int .i64 0), (10, .int .i64 25)], mkH []⟩) (Le.mk _ _ ?_ ?_ rfl) (aw_ret (hQ _ _ (.inl rfl) ?_ ?_ ?_)) <;> simp only [outφ, outV, AR.res, go_sem, ↓reduceIte, Nat.reduceEqDiff, reduceCtorEq, Nat.reduceAdd, Nat.reduceLT, Nat.reduceLeDiff, Nat.reduceBNe, Nat.reduceBEq, Int.reduceToNat, fNm, nmV]
              · rw [nameP, if_neg hn3, if_neg hn5, if_neg hn7, if_neg hn9, if_pos (by rw [hput]; exact hb14)]; rfl
            · skip
              have hn14 : ¬ (aloneB (nmPut l (k : Int) ⟨a, b, c⟩) = true) := by rw [hput, hb14]; decide
              refine aw_skip ?_
              try simp only [go_sem, ↓reduceIte, Nat.reduceEqDiff, reduceCtorEq, Nat.reduceAdd, Nat.reduceLT, Nat.reduceLeDiff, Nat.reduceBNe, Nat.reduceBEq, Int.reduceToNat]
              refine aw_seq ?_
              have e6 : nmF l g (k : Int) = (decide (k = l.length) && decide (nmG l g (k : Int) = 0) && decide (9 < (l.length : Int) + 1)) := by unfold nmF; rw [show decide ((k : Int) = (l.length : Int)) = decide (k = l.length) from decide_eq_decide.2 (by omega)]
              rw [hd2, hgg] at e6
              refine aw_seq (aw_region (EF := EF0) hG (by rw [hN]; exact tr16_16) ?_)
              simp only [a16_16, go_sem, ↓reduceIte, Nat.reduceEqDiff, reduceCtorEq, Nat.reduceAdd, Nat.reduceLT, Nat.reduceLeDiff, Nat.reduceBNe, Nat.reduceBEq, Int.reduceToNat, ekm, hd2, trNme, fNam_eq, fTyp_eq, fFits_eq, hxo]
              (repeat' apply And.intro) <;> (try first | omega | (intros; (repeat' apply And.intro) <;> first | assumption | omega | (simp_all; done)))
              refine aw_condF rfl ?_
              refine aw_skip ?_
              try simp only [go_sem, ↓reduceIte, Nat.reduceEqDiff, reduceCtorEq, Nat.reduceAdd, Nat.reduceLT, Nat.reduceLeDiff, Nat.reduceBNe, Nat.reduceBEq, Int.reduceToNat]
              refine aw_seq (aw_region (EF := EF0) hG (by rw [hN]; exact tr16_18) ?_)
              simp only [a16_18, go_sem, ↓reduceIte, Nat.reduceEqDiff, reduceCtorEq, Nat.reduceAdd, Nat.reduceLT, Nat.reduceLeDiff, Nat.reduceBNe, Nat.reduceBEq, Int.reduceToNat, trNme, fNam_eq, fTyp_eq, fFits_eq, hxo]
              refine AW.le (s' := ⟨mkE [(8, .list ((l.set k ⟨a, b, c⟩).map Person.enc) false), (9, .int .i64 g), (10, .int .i64 0)], mkH []⟩) (Le.mk _ _ ?_ ?_ rfl) (aw_ret (hQ _ _ (.inl rfl) ?_ ?_ ?_)) <;> simp only [outφ, outV, AR.res, go_sem, ↓reduceIte, Nat.reduceEqDiff, reduceCtorEq, Nat.reduceAdd, Nat.reduceLT, Nat.reduceLeDiff, Nat.reduceBNe, Nat.reduceBEq, Int.reduceToNat, fNm, nmV]
              · exact wk_frz rfl (by rw [List.length_map, List.length_set]) rfl ((Person.purs _).2 trivial)
              · rw [nameP, if_neg hn3, if_neg hn5, if_neg hn7, if_neg hn9, if_neg hn14, if_neg (by rw [e6]; simp), hput, hgg]
        · skip
          have hd : decide (k < l.length) = false := decide_eq_false hm
          have hw : nmWas l (k : Int) = false := by unfold nmWas; rw [decide_eq_false (by omega), Bool.false_and]
          have hm2 : k = l.length := by omega
          have hd2 : decide (k = l.length) = true := decide_eq_true hm2
          have hput : nmPut l (k : Int) ⟨a, b, c⟩ = l ++ [⟨a, b, c⟩] := by unfold nmPut; rw [if_pos (by omega)]
          have hgg : nmG l g (k : Int) = g - 1 := by unfold nmG; rw [if_pos (by omega)]
          refine aw_seq (aw_region (EF := EF0) hG (by rw [hN]; exact tr16_7) ?_)
          simp only [a16_7, go_sem, ↓reduceIte, Nat.reduceEqDiff, reduceCtorEq, Nat.reduceAdd, Nat.reduceLT, Nat.reduceLeDiff, Nat.reduceBNe, Nat.reduceBEq, Int.reduceToNat, ekn, hd, Person.enc, trNme, fNam_eq, fTyp_eq, fFits_eq, hxo]
          (repeat' apply And.intro) <;> (try first | omega | (intros; (repeat' apply And.intro) <;> first | assumption | omega | (simp_all; done)))
          refine aw_seq ?_
          refine aw_seq (aw_region (EF := EF0) hG (by rw [hN]; exact tr16_8) ?_)
          simp only [a16_8, go_sem, ↓reduceIte, Nat.reduceEqDiff, reduceCtorEq, Nat.reduceAdd, Nat.reduceLT, Nat.reduceLeDiff, Nat.reduceBNe, Nat.reduceBEq, Int.reduceToNat, ei, trNme, fNam_eq, fTyp_eq, fFits_eq, hxo]
          (repeat' apply And.intro) <;> (try first | omega | (intros; (repeat' apply And.intro) <;> first | assumption | omega | (simp_all; done)))
          refine aw_cond (b := _) rfl (fun hb9 => ?_) (fun hb9 => ?_)
          · skip
            refine aw_seq (aw_region (EF := EF0) hG (by rw [hN]; exact tr16_9) ?_)
            simp only [a16_9, go_sem, ↓reduceIte, Nat.reduceEqDiff, reduceCtorEq, Nat.reduceAdd, Nat.reduceLT, Nat.reduceLeDiff, Nat.reduceBNe, Nat.reduceBEq, Int.reduceToNat, trNme, fNam_eq, fTyp_eq, fFits_eq, hxo]
            refine AW.le (s' := ⟨mkE [(8, .list [] false), (9, .int .i64 0), (10, .int .i64 2)], mkH []⟩) (Le.mk _ _ ?_ ?_ rfl) (aw_ret (hQ _ _ (.inl rfl) ?_ ?_ ?_)) <;> simp only [outφ, outV, AR.res, go_sem, ↓reduceIte, Nat.reduceEqDiff, reduceCtorEq, Nat.reduceAdd, Nat.reduceLT, Nat.reduceLeDiff, Nat.reduceBNe, Nat.reduceBEq, Int.reduceToNat, fNm, nmV]
            · rw [nameP, if_neg hn3, if_neg hn5, if_neg hn7, if_pos (by rw [hw]; exact hb9)]; rfl
          · skip
            have hn9 : ¬ ((nmWas l (k : Int) != infB ⟨a, b, c⟩) = true) := by rw [hw]; simpa using hb9
            refine aw_skip ?_
            try simp only [go_sem, ↓reduceIte, Nat.reduceEqDiff, reduceCtorEq, Nat.reduceAdd, Nat.reduceLT, Nat.reduceLeDiff, Nat.reduceBNe, Nat.reduceBEq, Int.reduceToNat]
            refine aw_seq (aw_region (EF := EF0) hG (by rw [hN]; exact tr16_10) ?_)
            simp only [a16_10, go_sem, ↓reduceIte, Nat.reduceEqDiff, reduceCtorEq, Nat.reduceAdd, Nat.reduceLT, Nat.reduceLeDiff, Nat.reduceBNe, Nat.reduceBEq, Int.reduceToNat, trNme, fNam_eq, fTyp_eq, fFits_eq, hxo]
            (repeat' apply And.intro) <;> (try first | omega | (intros; (repeat' apply And.intro) <;> first | assumption | omega | (simp_all; done)))
            refine aw_seq ?_
            have ekm : ((k : Int) = (l.length : Int)) ↔ k = l.length := by omega
            refine aw_seq (aw_region (EF := EF0) hG (by rw [hN]; exact tr16_11) ?_)
            simp only [a16_11, go_sem, ↓reduceIte, Nat.reduceEqDiff, reduceCtorEq, Nat.reduceAdd, Nat.reduceLT, Nat.reduceLeDiff, Nat.reduceBNe, Nat.reduceBEq, Int.reduceToNat, ekm, hd2, trNme, fNam_eq, fTyp_eq, fFits_eq, hxo]
            refine aw_condT rfl ?_
            have hgi2 := hgi
            unfold inI at hgi2
            have hg1 : 1 ≤ g := by simp at g3; have := g3 (by omega); omega
            refine aw_region (EF := EF0) hG (by rw [hN]; exact tr16_12) ?_
            simp only [a16_12, go_sem, ↓reduceIte, Nat.reduceEqDiff, reduceCtorEq, Nat.reduceAdd, Nat.reduceLT, Nat.reduceLeDiff, Nat.reduceBNe, Nat.reduceBEq, Int.reduceToNat, inI, snoc_map, trNme, fNam_eq, fTyp_eq, fFits_eq, hxo]
            (repeat' apply And.intro) <;> (try first | omega | (intros; (repeat' apply And.intro) <;> first | assumption | omega | (simp_all; done)))
            refine aw_seq ?_
            have hol2 : l.length ≤ 140737488355328 := by omega
            have hol3 : l.length + 1 ≤ 140737488355328 := by omega
            refine aw_seq (aw_region (EF := EF0) hG (by rw [hN]; exact tr16_14) ?_)
            simp only [a16_14, go_sem, ↓reduceIte, Nat.reduceEqDiff, reduceCtorEq, Nat.reduceAdd, Nat.reduceLT, Nat.reduceLeDiff, Nat.reduceBNe, Nat.reduceBEq, Int.reduceToNat, List.length_set, hol2, List.length_append, List.length_cons, List.length_nil, hol3, Bool.not_not, trNme, fNam_eq, fTyp_eq, fFits_eq, hxo]
            (repeat' apply And.intro) <;> (try first | omega | (intros; (repeat' apply And.intro) <;> first | assumption | omega | (simp_all; done)))
            refine aw_cond (b := _) rfl (fun hb14 => ?_) (fun hb14 => ?_)
            · skip
              refine aw_seq (aw_region (EF := EF0) hG (by rw [hN]; exact tr16_15) ?_)
              simp only [a16_15, go_sem, ↓reduceIte, Nat.reduceEqDiff, reduceCtorEq, Nat.reduceAdd, Nat.reduceLT, Nat.reduceLeDiff, Nat.reduceBNe, Nat.reduceBEq, Int.reduceToNat, trNme, fNam_eq, fTyp_eq, fFits_eq, hxo]
              refine AW.le (s' := ⟨mkE [(8, .list [] false), (9, .int .i64 0), (10, .int .i64 25)], mkH []⟩) (Le.mk _ _ ?_ ?_ rfl) (aw_ret (hQ _ _ (.inl rfl) ?_ ?_ ?_)) <;> simp only [outφ, outV, AR.res, go_sem, ↓reduceIte, Nat.reduceEqDiff, reduceCtorEq, Nat.reduceAdd, Nat.reduceLT, Nat.reduceLeDiff, Nat.reduceBNe, Nat.reduceBEq, Int.reduceToNat, fNm, nmV]
              · rw [nameP, if_neg hn3, if_neg hn5, if_neg hn7, if_neg hn9, if_pos (by rw [hput]; exact hb14)]; rfl
            · skip
              have hn14 : ¬ (aloneB (nmPut l (k : Int) ⟨a, b, c⟩) = true) := by rw [hput, hb14]; decide
              refine aw_skip ?_
              try simp only [go_sem, ↓reduceIte, Nat.reduceEqDiff, reduceCtorEq, Nat.reduceAdd, Nat.reduceLT, Nat.reduceLeDiff, Nat.reduceBNe, Nat.reduceBEq, Int.reduceToNat]
              refine aw_seq ?_
              have e6 : nmF l g (k : Int) = (decide (k = l.length) && decide (nmG l g (k : Int) = 0) && decide (9 < (l.length : Int) + 1)) := by unfold nmF; rw [show decide ((k : Int) = (l.length : Int)) = decide (k = l.length) from decide_eq_decide.2 (by omega)]
              rw [hd2, hgg] at e6
              refine aw_seq (aw_region (EF := EF0) hG (by rw [hN]; exact tr16_16) ?_)
              simp only [a16_16, go_sem, ↓reduceIte, Nat.reduceEqDiff, reduceCtorEq, Nat.reduceAdd, Nat.reduceLT, Nat.reduceLeDiff, Nat.reduceBNe, Nat.reduceBEq, Int.reduceToNat, ekm, hd2, trNme, fNam_eq, fTyp_eq, fFits_eq, hxo]
              (repeat' apply And.intro) <;> (try first | omega | (intros; (repeat' apply And.intro) <;> first | assumption | omega | (simp_all; done)))
              refine aw_cond (b := _) rfl (fun hb16 => ?_) (fun hb16 => ?_)
              · skip
                refine aw_seq (aw_region (EF := EF0) hG (by rw [hN]; exact tr16_17) ?_)
                simp only [a16_17, go_sem, ↓reduceIte, Nat.reduceEqDiff, reduceCtorEq, Nat.reduceAdd, Nat.reduceLT, Nat.reduceLeDiff, Nat.reduceBNe, Nat.reduceBEq, Int.reduceToNat, trNme, fNam_eq, fTyp_eq, fFits_eq, hxo]
                refine AW.le (s' := ⟨mkE [(8, .list [] false), (9, .int .i64 0), (10, .int .i64 4)], mkH []⟩) (Le.mk _ _ ?_ ?_ rfl) (aw_ret (hQ _ _ (.inl rfl) ?_ ?_ ?_)) <;> simp only [outφ, outV, AR.res, go_sem, ↓reduceIte, Nat.reduceEqDiff, reduceCtorEq, Nat.reduceAdd, Nat.reduceLT, Nat.reduceLeDiff, Nat.reduceBNe, Nat.reduceBEq, Int.reduceToNat, fNm, nmV]
                · rw [nameP, if_neg hn3, if_neg hn5, if_neg hn7, if_neg hn9, if_neg hn14, if_pos (by rw [e6]; exact hb16)]; rfl
              · skip
                refine aw_skip ?_
                try simp only [go_sem, ↓reduceIte, Nat.reduceEqDiff, reduceCtorEq, Nat.reduceAdd, Nat.reduceLT, Nat.reduceLeDiff, Nat.reduceBNe, Nat.reduceBEq, Int.reduceToNat]
                refine aw_seq (aw_region (EF := EF0) hG (by rw [hN]; exact tr16_18) ?_)
                simp only [a16_18, go_sem, ↓reduceIte, Nat.reduceEqDiff, reduceCtorEq, Nat.reduceAdd, Nat.reduceLT, Nat.reduceLeDiff, Nat.reduceBNe, Nat.reduceBEq, Int.reduceToNat, trNme, fNam_eq, fTyp_eq, fFits_eq, hxo]
                refine AW.le (s' := ⟨mkE [(8, .list ((l ++ [(⟨a, b, c⟩ : Person)]).map Person.enc) false), (9, .int .i64 (g - 1)), (10, .int .i64 0)], mkH []⟩) (Le.mk _ _ ?_ ?_ rfl) (aw_ret (hQ _ _ (.inl rfl) ?_ ?_ ?_)) <;> simp only [outφ, outV, AR.res, go_sem, ↓reduceIte, Nat.reduceEqDiff, reduceCtorEq, Nat.reduceAdd, Nat.reduceLT, Nat.reduceLeDiff, Nat.reduceBNe, Nat.reduceBEq, Int.reduceToNat, fNm, nmV]
                · exact wk_frz rfl (by rw [List.length_map, List.length_append]; rfl) rfl ((Person.purs _).2 trivial)
                · rw [nameP, if_neg hn3, if_neg hn5, if_neg hn7, if_neg hn9, if_neg hn14, if_neg (by rw [e6]; simpa using hb16), hput, hgg]
end Go.Proofs.YtbakkdnhbeldcaaDoor
