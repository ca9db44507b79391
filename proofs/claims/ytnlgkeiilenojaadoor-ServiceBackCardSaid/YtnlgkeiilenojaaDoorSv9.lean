/- Clone and Delete of services; Drop. -/
import Derived.Test.YtnlgkeiilenojaaDoorSv7
namespace Go.Proofs.YtnlgkeiilenojaaDoor
open Go Go.RowKit
set_option linter.unusedSimpArgs false
set_option linter.unusedVariables false
set_option linter.deprecated false
theorem ne_nil {sv : List Service} (h : 0 < sv.length) : sv.map Service.enc ≠ [] := fun e => by
  have := congrArg List.length e
  simp at this; subst this; simp at h
theorem del_rows {sv : List Service} {i : Nat} (hi : i < sv.length) {z : List V} (hz : z = Service.zero.enc) : List.take (sv.length - 1) (List.take i (sv.map Service.enc) ++ (sv.drop (i + 1)).map Service.enc ++ List.drop (sv.length - 1) (sv.map Service.enc)) ++ List.replicate 1 z ++ List.drop (sv.length - 1 + (List.replicate 1 z).length) (List.take i (sv.map Service.enc) ++ (sv.drop (i + 1)).map Service.enc ++ List.drop (sv.length - 1) (sv.map Service.enc)) = (sv.eraseIdx i ++ [Service.zero]).map Service.enc := by
  subst hz
  have hA : (List.take i (sv.map Service.enc) ++ (sv.drop (i + 1)).map Service.enc).length = sv.length - 1 := by simp; omega
  have hA2 : List.take i (sv.map Service.enc) ++ (sv.drop (i + 1)).map Service.enc = (sv.eraseIdx i).map Service.enc := by rw [List.eraseIdx_eq_take_drop_succ, List.map_append, List.map_take]
  rw [hA2] at hA ⊢
  have h1 : List.take (sv.length - 1) ((sv.eraseIdx i).map Service.enc ++ List.drop (sv.length - 1) (sv.map Service.enc)) = (sv.eraseIdx i).map Service.enc := by
    rw [← hA]; exact List.take_left
  have h2 : List.drop (sv.length - 1 + (List.replicate 1 Service.zero.enc).length) ((sv.eraseIdx i).map Service.enc ++ List.drop (sv.length - 1) (sv.map Service.enc)) = [] := by
    apply List.drop_eq_nil_of_le
    rw [List.length_append, hA, List.length_drop, List.length_map, List.length_replicate]; omega
  rw [h1, h2, List.append_nil, List.map_append]; rfl
theorem wk_vwE {h : Nat → Option Ob} {hl : List (Nat × Ob)} (n a b c : Nat) (f : Bool) : Wk h hl (.vw n a b c f) (.vw n a b c f) ↔ (hl.map (·.1)).contains n = true :=
  ⟨fun w => by cases w with | same _ hn => simpa only [V.nin] using hn, fun hc => .same _ (by simpa only [V.nin] using hc)⟩
theorem clone_e (sv : List Service) (h0 : 0 < sv.length) (hl : sv.length ≤ 1000000) : Eff Tryd.prog UT 37 [.list (sv.map Service.enc) false] [] (.own 5 sv.length) [(5, .arr 37 3 (sv.map Service.enc))] := by
  have hG := tNo_ok
  have hne := ne_nil h0
  refine Eff.of_aw Tryd.func37 body37 nm37 res37 (by rw [nt37]; simp) fun C hN Q hQ => ?_
  rw [nt37] at hN
  unfold c37
  refine aw_seq (aw_region (EF := EF0) hG (by rw [hN]; exact tr37_0) ?_)
  simp only [a37_0, go_sem, ↓reduceIte, Nat.reduceEqDiff, reduceCtorEq, Nat.reduceAdd, Nat.reduceLT, Nat.reduceLeDiff, Nat.reduceBNe, Nat.reduceBEq, Int.reduceToNat]
  refine aw_seq ?_
  refine aw_seq (aw_region (EF := EF0) hG (by rw [hN]; exact tr37_1) ?_)
  simp only [a37_1, go_sem, ↓reduceIte, Nat.reduceEqDiff, reduceCtorEq, Nat.reduceAdd, Nat.reduceLT, Nat.reduceLeDiff, Nat.reduceBNe, Nat.reduceBEq, Int.reduceToNat, hne]
  refine aw_condF rfl ?_
  refine aw_skip ?_
  simp only [go_sem, ↓reduceIte, Nat.reduceEqDiff, reduceCtorEq, Nat.reduceAdd, Nat.reduceLT, Nat.reduceLeDiff, Nat.reduceBNe, Nat.reduceBEq, Int.reduceToNat]
  refine aw_seq (aw_region (EF := EF0) hG (by rw [hN]; exact tr37_3) ?_)
  simp only [a37_3, go_sem, ↓reduceIte, Nat.reduceEqDiff, reduceCtorEq, Nat.reduceAdd, Nat.reduceLT, Nat.reduceLeDiff, Nat.reduceBNe, Nat.reduceBEq, Int.reduceToNat]
  (repeat' apply And.intro) <;> (try first | omega | (intros; (repeat' apply And.intro) <;> first | assumption | omega | (simp_all; done)))
  refine aw_ret ?_
  show Q _ _
  refine hQ _ _ ⟨mkE [(2, .own 5 sv.length)], mkH ([(5, .arr 37 3 (sv.map Service.enc))])⟩ (.inl rfl) (Le.mk _ _ ?_ ?_ rfl) rfl ?_ ?_ <;> simp only [outφ, outV, AR.res, go_sem, ↓reduceIte, Nat.reduceEqDiff, reduceCtorEq, Nat.reduceAdd, Nat.reduceLT, Nat.reduceLeDiff, Nat.reduceBNe, Nat.reduceBEq, Int.reduceToNat, List.length_map]
theorem delete_e (sv : List Service) (i : Nat) (hi : i < sv.length) (hl : sv.length ≤ 1000000) : Eff Tryd.prog UT 36 [.own 1000 sv.length, .int .i64 i, .int .i64 ((i : Int) + 1)] [(1000, .arr 37 3 (sv.map Service.enc))] (.vw 1000 0 (sv.length - 1) sv.length false) [(1000, .arr 37 3 ((sv.eraseIdx i ++ [Service.zero]).map Service.enc))] := by
  have hG := tNo_ok
  have hne := ne_nil (sv := sv) (by omega)
  have hne2 : ((i : Int) = (i : Int) + 1) = False := eq_false (by omega)
  have e1 : ((i : Int) + 1).toNat = i + 1 := by omega
  have hs1 : List.take (sv.length - (i + 1)) (List.drop (i + 1) (sv.map Service.enc)) = (sv.drop (i + 1)).map Service.enc := by rw [← List.map_drop, List.take_of_length_le (by rw [List.length_map, List.length_drop]; omega)]
  have e2 : i + (sv.length - (i + 1)) = sv.length - 1 := by omega
  have e3 : sv.length - (sv.length - 1) = 1 := by omega
  have hd1 := del_rows hi (z := [V.str [], V.int .i64 0, V.int .i64 0]) rfl
  refine Eff.of_aw Tryd.func36 body36 nm36 res36 (by rw [nt36]; simp) fun C hN Q hQ => ?_
  rw [nt36] at hN
  unfold c36
  refine aw_seq (aw_region (EF := EF0) hG (by rw [hN]; exact tr36_0) ?_)
  simp only [a36_0, go_sem, ↓reduceIte, Nat.reduceEqDiff, reduceCtorEq, Nat.reduceAdd, Nat.reduceLT, Nat.reduceLeDiff, Nat.reduceBNe, Nat.reduceBEq, Int.reduceToNat]
  refine aw_seq (aw_region (EF := EF0) hG (by rw [hN]; exact tr36_1) ?_)
  simp only [a36_1, go_sem, ↓reduceIte, Nat.reduceEqDiff, reduceCtorEq, Nat.reduceAdd, Nat.reduceLT, Nat.reduceLeDiff, Nat.reduceBNe, Nat.reduceBEq, Int.reduceToNat, List.length_map]
  (repeat' apply And.intro) <;> (try first | omega | (intros; (repeat' apply And.intro) <;> first | assumption | omega | (simp_all; done)))
  refine aw_seq ?_
  refine aw_seq (aw_region (EF := EF0) hG (by rw [hN]; exact tr36_2) ?_)
  simp only [a36_2, go_sem, ↓reduceIte, Nat.reduceEqDiff, reduceCtorEq, Nat.reduceAdd, Nat.reduceLT, Nat.reduceLeDiff, Nat.reduceBNe, Nat.reduceBEq, Int.reduceToNat, hne2]
  refine aw_condF rfl ?_
  refine aw_skip ?_
  simp only [go_sem, ↓reduceIte, Nat.reduceEqDiff, reduceCtorEq, Nat.reduceAdd, Nat.reduceLT, Nat.reduceLeDiff, Nat.reduceBNe, Nat.reduceBEq, Int.reduceToNat]
  refine aw_seq (aw_region (EF := EF0) hG (by rw [hN]; exact tr36_4) ?_)
  simp only [a36_4, go_sem, ↓reduceIte, Nat.reduceEqDiff, reduceCtorEq, Nat.reduceAdd, Nat.reduceLT, Nat.reduceLeDiff, Nat.reduceBNe, Nat.reduceBEq, Int.reduceToNat]
  refine aw_seq (aw_regionD (EF := EF0) hG mixed (by rw [hN]; exact tr36_5) ok36_5 ?_)
  simp only [a36_5, d36_5, go_sem, ↓reduceIte, Nat.reduceEqDiff, reduceCtorEq, Nat.reduceAdd, Nat.reduceLT, Nat.reduceLeDiff, Nat.reduceBNe, Nat.reduceBEq, Int.reduceToNat, List.length_map, e1, hs1, Nat.sub_zero, List.length_drop, e2]
  (repeat' apply And.intro) <;> (try first | omega | (intros; (repeat' apply And.intro) <;> first | assumption | omega | (simp_all; done)))
  refine aw_seq (aw_region (EF := EF0) hG (by rw [hN]; exact tr36_6) ?_)
  simp only [a36_6, go_sem, ↓reduceIte, Nat.reduceEqDiff, reduceCtorEq, Nat.reduceAdd, Nat.reduceLT, Nat.reduceLeDiff, Nat.reduceBNe, Nat.reduceBEq, Int.reduceToNat, List.length_map, e1, e2, e3, Nat.sub_zero, List.length_append, List.length_take, List.length_drop]
  (repeat' apply And.intro) <;> (try first | omega | (intros; (repeat' apply And.intro) <;> first | assumption | omega | (simp_all; done)))
  refine aw_seq (aw_region (EF := EF0) hG (by rw [hN]; exact tr36_7) ?_)
  simp only [a36_7, go_sem, ↓reduceIte, Nat.reduceEqDiff, reduceCtorEq, Nat.reduceAdd, Nat.reduceLT, Nat.reduceLeDiff, Nat.reduceBNe, Nat.reduceBEq, Int.reduceToNat]
  refine aw_ret ?_
  show Q _ _
  refine hQ _ _ ⟨mkE [(6, .vw 1000 0 (sv.length - 1) sv.length false)], mkH ([(1000, .arr 37 3 ((sv.eraseIdx i ++ [Service.zero]).map Service.enc))])⟩ (.inl rfl) (Le.mk _ _ ?_ ?_ rfl) rfl ?_ ?_ <;> simp only [outφ, outV, AR.res, go_sem, ↓reduceIte, Nat.reduceEqDiff, reduceCtorEq, Nat.reduceAdd, Nat.reduceLT, Nat.reduceLeDiff, Nat.reduceBNe, Nat.reduceBEq, Int.reduceToNat, hd1, wk_vwE]
theorem clone_use {d : Option Nat} {s : St} {K : St → Prop} {nn : Nat} {sv : List Service} (he : Eff Tryd.prog UT 37 [.list (sv.map Service.enc) false] [] (.own 5 sv.length) [(5, .arr 37 3 (sv.map Service.enc))])
    (hn : s.h nn = none) (h1 : nn < 1000) (hK : K ⟨setE d (.own nn sv.length) s.e, hov [(nn, .arr 37 3 (sv.map Service.enc))] s.h⟩) : EStep Tryd.prog UT d 37 [.list (sv.map Service.enc) false] s K := by
  refine ⟨[], [(5, nn)], _, _, _, _, he, ⟨by simp [okL], rfl, rfl, by simp, ?_, by simp, by simp [V.rens, V.ren], by simp [V.nins, V.nin], by simp [V.nin], ?_, by simp⟩, ?_⟩
  · intro p hp
    simp only [List.mem_cons, List.not_mem_nil, or_false] at hp
    subst hp; exact ⟨hn, h1⟩
  · intro q hq
    simp only [List.mem_cons, List.not_mem_nil, or_false] at hq
    subst hq; simp only [Ob.nin, Service.purs]
  · have e1 : (V.own 5 sv.length).ren (rn ([] ++ [(5, nn)])) = .own nn sv.length := by simp [V.ren, rn]
    have e2 : [((5, .arr 37 3 (sv.map Service.enc)) : Nat × Ob)].map (fun q : Nat × Ob => (rn ([] ++ [(5, nn)]) q.1, q.2.ren (rn ([] ++ [(5, nn)])))) = [(nn, .arr 37 3 (sv.map Service.enc))] := by simp [rn, Ob.ren]
    rw [e1, e2]; exact hK
theorem delete_use {d : Option Nat} {s : St} {K : St → Prop} {na n k m : Nat} {i j : Int} {sv sv' : List Service} (he : Eff Tryd.prog UT 36 [.own 1000 n, .int .i64 i, .int .i64 j] [(1000, .arr 37 3 (sv.map Service.enc))] (.vw 1000 0 k m false) [(1000, .arr 37 3 (sv'.map Service.enc))])
    (ha : s.h na = some (.arr 37 3 (sv.map Service.enc)))
    (hK : K ⟨setE d (.vw na 0 k m false) s.e, hov [(na, .arr 37 3 (sv'.map Service.enc))] s.h⟩) : EStep Tryd.prog UT d 36 [.own na n, .int .i64 i, .int .i64 j] s K := by
  refine ⟨[(1000, na)], [], _, _, _, _, he, ⟨by simp [okL], rfl, rfl, by simp, by simp, ?_, by simp [V.rens, V.ren, rni], by simp [V.nins, V.nin], by simp [V.nin], ?_, ?_⟩, ?_⟩
  · intro p hp
    simp only [List.mem_cons, List.not_mem_nil, or_false] at hp
    subst hp
    exact ⟨_, ha, by simp [mkH, Ob.ren], by simp only [Ob.nin, Service.purs]⟩
  · intro q hq
    simp only [List.mem_cons, List.not_mem_nil, or_false] at hq
    subst hq; simp only [Ob.nin, Service.purs]
  · intro p hp o o' h1 h2
    simp only [List.mem_cons, List.not_mem_nil, or_false] at hp
    subst hp; simp [mkH] at h1 h2; subst h1 h2; simp [Ob.kind]
  · have e1 : (V.vw 1000 0 k m false).ren (rn ([(1000, na)] ++ [])) = .vw na 0 k m false := by simp [V.ren, rn]
    have e2 : [((1000, .arr 37 3 (sv'.map Service.enc)) : Nat × Ob)].map (fun q : Nat × Ob => (rn ([(1000, na)] ++ []) q.1, q.2.ren (rn ([(1000, na)] ++ [])))) = [(na, .arr 37 3 (sv'.map Service.enc))] := by simp [rn, Ob.ren]
    rw [e1, e2]; exact hK
theorem wk_frzvE {h : Nat → Option Ob} {hl : List (Nat × Ob)} {n off len m : Nat} {fit : Bool} {rows R : List (List V)} {t : TypeId} {sz : Nat} (hn : h n = some (.arr t sz rows)) (hm : rows.length = m) (h' : mkH hl n = none) (hp : ∀ r ∈ rows, V.purs r = true) (hR : (rows.drop off).take len = R) : Wk h hl (.vw n off len m fit) (.list R fit) := by
  subst hm hR; exact .frzv n off len fit t sz rows hn h' hp
def dropB (b : Booking) (i : Int) : Booking × Int := if i < 0 ∨ (b.services.length : Int) ≤ i then (Booking.zero, 2) else (⟨b.locator, b.persons, b.group, b.segs, b.services.eraseIdx i.toNat, b.limit⟩, 0)
theorem wk_frzO {h : Nat → Option Ob} {hl : List (Nat × Ob)} {n len : Nat} {rows R : List (List V)} {t : TypeId} {sz : Nat} (hn : h n = some (.arr t sz rows)) (hm : rows.length = len) (h' : mkH hl n = none) (hp : ∀ r ∈ rows, V.purs r = true) (hR : rows = R) : Wk h hl (.own n len) (.list R false) := by
  subst hm hR; exact .frz n t sz rows hn h' hp
theorem dropB_no {b : Booking} {i : Int} (h : (decide (i < 0) || decide ((b.services.length : Int) ≤ i)) = true) : dropB b i = (Booking.zero, 2) := by unfold dropB; rw [if_pos (by simpa using h)]
theorem dropB_yes {b : Booking} {i : Nat} (h : i < b.services.length) : dropB b (i : Int) = (⟨b.locator, b.persons, b.group, b.segs, b.services.eraseIdx i, b.limit⟩, 0) := by unfold dropB; rw [if_neg (by omega), Int.toNat_natCast]
def aDr (x : Booking × Int) : List V := [.agg x.1.enc, .int .i64 x.2]
theorem aDr_inj (a b : Booking × Int) (h : aDr a = aDr b) : a = b := by
  obtain ⟨a_b, a_i⟩ := a
  obtain ⟨b_b, b_i⟩ := b
  simp only [aDr, List.cons.injEq, V.str.injEq, V.int.injEq, V.bool.injEq, V.agg.injEq, V.list.injEq, and_true, true_and] at h
  obtain ⟨h0, h1⟩ := h
  replace h0 := Booking.inj _ _ h0
  subst h0
  subst h1
  rfl
def fDrop (x : Booking × Int) : Prop × V := (x.1.ok ∧ x.1.services.length ≤ 1000000, bkV (dropB x.1 x.2))
def EFd : Nat → Bool := fun f => f == 37 || f == 36
set_option maxHeartbeats 2000000 in
theorem drop_p : PureC Tryd.prog UT 22 (gOf aDr fDrop) := by
  have hG := tNo_ok
  refine PureC.ofArgs aDr_inj Tryd.func22 body22 nm22 res22 ?_
  rintro ⟨⟨lo, ps, gr, sg, sv, lm⟩, ii⟩ hv
  refine ⟨by rw [nt22]; simp [aDr], fun C hN Q hQ => ?_⟩
  rw [nt22] at hN
  unfold c22
  obtain ⟨hok, hl⟩ : (⟨lo, ps, gr, sg, sv, lm⟩ : Booking).ok ∧ sv.length ≤ 1000000 := hv
  refine aw_seq (aw_region (EF := EFd) hG (by rw [hN]; exact tr22_0) ?_)
  simp only [a22_0, go_sem, ↓reduceIte, Nat.reduceEqDiff, reduceCtorEq, Nat.reduceAdd, Nat.reduceLT, Nat.reduceLeDiff, Nat.reduceBNe, Nat.reduceBEq, Int.reduceToNat, aDr, Booking.enc, EFd]
  refine aw_seq ?_
  refine aw_seq (aw_region (EF := EFd) hG (by rw [hN]; exact tr22_1) ?_)
  simp only [a22_1, go_sem, ↓reduceIte, Nat.reduceEqDiff, reduceCtorEq, Nat.reduceAdd, Nat.reduceLT, Nat.reduceLeDiff, Nat.reduceBNe, Nat.reduceBEq, Int.reduceToNat, EFd]
  (repeat' apply And.intro) <;> (try first | omega | (intros; (repeat' apply And.intro) <;> first | assumption | omega | (simp_all; done)))
  refine aw_cond (b := _) rfl (fun hb1 => ?_) (fun hb1 => ?_)
  · skip
    have hd1 := dropB_no (b := (⟨lo, ps, gr, sg, sv, lm⟩ : Booking)) hb1
    refine aw_seq (aw_region (EF := EFd) hG (by rw [hN]; exact tr22_2) ?_)
    simp only [a22_2, go_sem, ↓reduceIte, Nat.reduceEqDiff, reduceCtorEq, Nat.reduceAdd, Nat.reduceLT, Nat.reduceLeDiff, Nat.reduceBNe, Nat.reduceBEq, Int.reduceToNat, EFd]
    refine AW.le (s' := ⟨mkE [(4, .ptr 4 0), (5, .int .i64 2)], mkH [(4, .box 35 Booking.zero.enc)]⟩) (Le.mk _ _ ?_ ?_ rfl) (aw_ret (hQ _ _ (.inl rfl) ?_ ?_ ?_)) <;> simp only [outφ, outV, AR.res, go_sem, ↓reduceIte, Nat.reduceEqDiff, reduceCtorEq, Nat.reduceAdd, Nat.reduceLT, Nat.reduceLeDiff, Nat.reduceBNe, Nat.reduceBEq, Int.reduceToNat, Booking.enc, Booking.zero, fDrop, bkV, hd1]
  · skip
    refine aw_skip ?_
    simp only [go_sem, ↓reduceIte, Nat.reduceEqDiff, reduceCtorEq, Nat.reduceAdd, Nat.reduceLT, Nat.reduceLeDiff, Nat.reduceBNe, Nat.reduceBEq, Int.reduceToNat]
    obtain ⟨hb2, hb3⟩ := Bool.or_eq_false_iff.1 hb1
    replace hb2 := of_decide_eq_false hb2
    replace hb3 := of_decide_eq_false hb3
    obtain ⟨i, rfl⟩ : ∃ i : Nat, ii = (i : Int) := ⟨ii.toNat, by omega⟩
    have hi : i < sv.length := by omega
    have hd2 := dropB_yes (b := (⟨lo, ps, gr, sg, sv, lm⟩ : Booking)) hi
    refine aw_seq (aw_region (EF := EFd) hG (by rw [hN]; exact tr22_3) ?_)
    simp only [a22_3, go_sem, ↓reduceIte, Nat.reduceEqDiff, reduceCtorEq, Nat.reduceAdd, Nat.reduceLT, Nat.reduceLeDiff, Nat.reduceBNe, Nat.reduceBEq, Int.reduceToNat, inI, EFd]
    refine clone_use (nn := 18) (clone_e sv (by omega) hl) rfl (by decide) ?_
    simp only [go_sem, ↓reduceIte, Nat.reduceEqDiff, reduceCtorEq, Nat.reduceAdd, Nat.reduceLT, Nat.reduceLeDiff, Nat.reduceBNe, Nat.reduceBEq, Int.reduceToNat]
    refine ⟨⟨by omega, by omega⟩, delete_use (delete_e sv i hi hl) (by rfl) ?_⟩
    simp only [go_sem, ↓reduceIte, Nat.reduceEqDiff, reduceCtorEq, Nat.reduceAdd, Nat.reduceLT, Nat.reduceLeDiff, Nat.reduceBNe, Nat.reduceBEq, Int.reduceToNat]
    refine aw_seq (aw_region (EF := EFd) hG (by rw [hN]; exact tr22_4) ?_)
    simp only [a22_4, go_sem, ↓reduceIte, Nat.reduceEqDiff, reduceCtorEq, Nat.reduceAdd, Nat.reduceLT, Nat.reduceLeDiff, Nat.reduceBNe, Nat.reduceBEq, Int.reduceToNat, EFd]
    refine AW.le (s' := ⟨mkE [(4, .ptr 4 0), (5, .int .i64 0)], mkH [(4, .box 35 (⟨lo, ps, gr, sg, sv.eraseIdx i, lm⟩ : Booking).enc)]⟩) (Le.mk _ _ ?_ ?_ rfl) (aw_ret (hQ _ _ (.inl rfl) ?_ ?_ ?_)) <;> simp only [outφ, outV, AR.res, go_sem, ↓reduceIte, Nat.reduceEqDiff, reduceCtorEq, Nat.reduceAdd, Nat.reduceLT, Nat.reduceLeDiff, Nat.reduceBNe, Nat.reduceBEq, Int.reduceToNat, Booking.enc, fDrop, bkV, hd2]
    · exact wk_frzvE rfl (by rw [List.length_map, List.length_append, List.length_eraseIdx_of_lt hi]; simp; omega) rfl ((Service.purs _).2 trivial) (by rw [List.drop_zero, List.map_append, List.take_left' (by rw [List.length_map, List.length_eraseIdx_of_lt hi])])
theorem rdrop_rows {sv : List Service} {i : Nat} (hi : i < sv.length) : List.take i (sv.map Service.enc) ++ List.drop (i + 1) (List.take sv.length (sv.map Service.enc)) = (sv.eraseIdx i).map Service.enc := by
  rw [List.eraseIdx_eq_take_drop_succ, List.map_append, List.map_take, List.map_drop, List.take_of_length_le (i := sv.length) (by simp)]
set_option maxHeartbeats 2000000 in
theorem rdrop_p : PureC Tryd.prog UT 23 (gOf aDr fDrop) := by
  have hG := tNo_ok
  refine PureC.ofArgs aDr_inj Tryd.func23 body23 nm23 res23 ?_
  rintro ⟨⟨lo, ps, gr, sg, sv, lm⟩, ii⟩ hv
  refine ⟨by rw [nt23]; simp [aDr], fun C hN Q hQ => ?_⟩
  rw [nt23] at hN
  unfold c23
  obtain ⟨hok, hl⟩ : (⟨lo, ps, gr, sg, sv, lm⟩ : Booking).ok ∧ sv.length ≤ 1000000 := hv
  refine aw_seq (aw_region (EF := EFd) hG (by rw [hN]; exact tr23_0) ?_)
  simp only [a23_0, go_sem, ↓reduceIte, Nat.reduceEqDiff, reduceCtorEq, Nat.reduceAdd, Nat.reduceLT, Nat.reduceLeDiff, Nat.reduceBNe, Nat.reduceBEq, Int.reduceToNat, aDr, Booking.enc]
  refine aw_seq ?_
  refine aw_seq (aw_region (EF := EFd) hG (by rw [hN]; exact tr23_1) ?_)
  simp only [a23_1, go_sem, ↓reduceIte, Nat.reduceEqDiff, reduceCtorEq, Nat.reduceAdd, Nat.reduceLT, Nat.reduceLeDiff, Nat.reduceBNe, Nat.reduceBEq, Int.reduceToNat]
  (repeat' apply And.intro) <;> (try first | omega | (intros; (repeat' apply And.intro) <;> first | assumption | omega | (simp_all; done)))
  refine aw_cond (b := _) rfl (fun hb1 => ?_) (fun hb1 => ?_)
  · skip
    have hd1 := dropB_no (b := (⟨lo, ps, gr, sg, sv, lm⟩ : Booking)) hb1
    refine aw_seq (aw_region (EF := EFd) hG (by rw [hN]; exact tr23_2) ?_)
    simp only [a23_2, go_sem, ↓reduceIte, Nat.reduceEqDiff, reduceCtorEq, Nat.reduceAdd, Nat.reduceLT, Nat.reduceLeDiff, Nat.reduceBNe, Nat.reduceBEq, Int.reduceToNat]
    refine AW.le (s' := ⟨mkE [(4, .ptr 4 0), (5, .int .i64 2)], mkH [(4, .box 35 Booking.zero.enc)]⟩) (Le.mk _ _ ?_ ?_ rfl) (aw_ret (hQ _ _ (.inl rfl) ?_ ?_ ?_)) <;> simp only [outφ, outV, AR.res, go_sem, ↓reduceIte, Nat.reduceEqDiff, reduceCtorEq, Nat.reduceAdd, Nat.reduceLT, Nat.reduceLeDiff, Nat.reduceBNe, Nat.reduceBEq, Int.reduceToNat, Booking.enc, Booking.zero, fDrop, bkV, hd1]
  · skip
    refine aw_skip ?_
    simp only [go_sem, ↓reduceIte, Nat.reduceEqDiff, reduceCtorEq, Nat.reduceAdd, Nat.reduceLT, Nat.reduceLeDiff, Nat.reduceBNe, Nat.reduceBEq, Int.reduceToNat]
    obtain ⟨hb2, hb3⟩ := Bool.or_eq_false_iff.1 hb1
    replace hb2 := of_decide_eq_false hb2
    replace hb3 := of_decide_eq_false hb3
    obtain ⟨i, rfl⟩ : ∃ i : Nat, ii = (i : Int) := ⟨ii.toNat, by omega⟩
    have hi : i < sv.length := by omega
    have hd2 := dropB_yes (b := (⟨lo, ps, gr, sg, sv, lm⟩ : Booking)) hi
    have e1 : ((i : Int) + 1).toNat = i + 1 := by omega
    have hr3 : ∀ r ∈ sv.map Service.enc, r.length = 3 := (Service.rows sv).2 trivial
    refine aw_seq (aw_region (EF := EFd) hG (by rw [hN]; exact tr23_3) ?_)
    simp only [a23_3, go_sem, ↓reduceIte, Nat.reduceEqDiff, reduceCtorEq, Nat.reduceAdd, Nat.reduceLT, Nat.reduceLeDiff, Nat.reduceBNe, Nat.reduceBEq, Int.reduceToNat]
    refine aw_seq (aw_region (EF := EFd) hG (by rw [hN]; exact tr23_4) ?_)
    simp only [a23_4, go_sem, ↓reduceIte, Nat.reduceEqDiff, reduceCtorEq, Nat.reduceAdd, Nat.reduceLT, Nat.reduceLeDiff, Nat.reduceBNe, Nat.reduceBEq, Int.reduceToNat, List.length_map, List.length_take]
    (repeat' apply And.intro) <;> (try first | omega | (intros; (repeat' apply And.intro) <;> first | assumption | omega | (simp_all; done)) | (intro r hr; exact hr3 r (List.mem_of_mem_take hr)))
    refine aw_seq (aw_region (EF := EFd) hG (by rw [hN]; exact tr23_5) ?_)
    simp only [a23_5, go_sem, ↓reduceIte, Nat.reduceEqDiff, reduceCtorEq, Nat.reduceAdd, Nat.reduceLT, Nat.reduceLeDiff, Nat.reduceBNe, Nat.reduceBEq, Int.reduceToNat, inI, List.length_map, e1, List.length_take, List.length_drop]
    (repeat' apply And.intro) <;> (try first | omega | (intros; (repeat' apply And.intro) <;> first | assumption | omega | (simp_all; done)) | (intro r hr; exact hr3 r (List.mem_of_mem_take (List.mem_of_mem_drop hr))))
    refine aw_seq (aw_region (EF := EFd) hG (by rw [hN]; exact tr23_6) ?_)
    simp only [a23_6, go_sem, ↓reduceIte, Nat.reduceEqDiff, reduceCtorEq, Nat.reduceAdd, Nat.reduceLT, Nat.reduceLeDiff, Nat.reduceBNe, Nat.reduceBEq, Int.reduceToNat]
    refine AW.le (s' := ⟨mkE [(4, .ptr 4 0), (5, .int .i64 0)], mkH [(4, .box 35 (⟨lo, ps, gr, sg, sv.eraseIdx i, lm⟩ : Booking).enc)]⟩) (Le.mk _ _ ?_ ?_ rfl) (aw_ret (hQ _ _ (.inl rfl) ?_ ?_ ?_)) <;> simp only [outφ, outV, AR.res, go_sem, ↓reduceIte, Nat.reduceEqDiff, reduceCtorEq, Nat.reduceAdd, Nat.reduceLT, Nat.reduceLeDiff, Nat.reduceBNe, Nat.reduceBEq, Int.reduceToNat, Booking.enc, fDrop, bkV, hd2]
    · exact wk_frzO rfl (by simp <;> omega) rfl (by rw [rdrop_rows hi]; exact (Service.purs _).2 trivial) (rdrop_rows hi)
end Go.Proofs.YtnlgkeiilenojaaDoor
