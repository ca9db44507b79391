/- Void of the program. -/
import Derived.Test.YtffapkiilkeadaaDoorIs11
namespace Go.Proofs.YtffapkiilkeadaaDoor
open Go Go.RowKit
set_option linter.unusedSimpArgs false
set_option linter.unusedVariables false
set_option linter.deprecated false
theorem clone_e (l : List Coupon) (h0 : l ≠ []) (hl : l.length ≤ 1000000) : Eff Tryd.prog UT 30 [.list (l.map Coupon.enc) false] [] (.own 5 l.length) [(5, .arr 43 11 (l.map Coupon.enc))] := by
  have hG := tNo_ok
  have hne : l.map Coupon.enc ≠ [] := fun e => h0 (List.map_eq_nil_iff.1 e)
  refine Eff.of_aw Tryd.func30 body30 nm30 res30 (by rw [nt30]; simp) fun C hN Q hQ => ?_
  rw [nt30] at hN
  unfold c30
  refine aw_seq (aw_region (EF := EF0) hG (by rw [hN]; exact tr30_0) ?_)
  simp only [a30_0, go_sem, ↓reduceIte, Nat.reduceEqDiff, reduceCtorEq, Nat.reduceAdd, Nat.reduceLT, Nat.reduceLeDiff, Nat.reduceBNe, Nat.reduceBEq, Int.reduceToNat]
  refine aw_seq ?_
  refine aw_seq (aw_region (EF := EF0) hG (by rw [hN]; exact tr30_1) ?_)
  simp only [a30_1, go_sem, ↓reduceIte, Nat.reduceEqDiff, reduceCtorEq, Nat.reduceAdd, Nat.reduceLT, Nat.reduceLeDiff, Nat.reduceBNe, Nat.reduceBEq, Int.reduceToNat, hne]
  refine aw_condF rfl ?_
  refine aw_skip ?_
  try simp only [go_sem, ↓reduceIte, Nat.reduceEqDiff, reduceCtorEq, Nat.reduceAdd, Nat.reduceLT, Nat.reduceLeDiff, Nat.reduceBNe, Nat.reduceBEq, Int.reduceToNat]
  refine aw_seq (aw_region (EF := EF0) hG (by rw [hN]; exact tr30_3) ?_)
  simp only [a30_3, go_sem, ↓reduceIte, Nat.reduceEqDiff, reduceCtorEq, Nat.reduceAdd, Nat.reduceLT, Nat.reduceLeDiff, Nat.reduceBNe, Nat.reduceBEq, Int.reduceToNat]
  (repeat' apply And.intro) <;> (try first | omega | ((fail_if_success refine idW ?_); (fail_if_success refine idS ?_); intros; (repeat' apply And.intro) <;> first | assumption | omega | (simp_all; done)))
  refine aw_ret ?_
  show Q _ _
  refine hQ _ _ ⟨mkE [(2, .own 5 l.length)], mkH ([(5, .arr 43 11 (l.map Coupon.enc))])⟩ (.inl rfl) (Le.mk _ _ ?_ ?_ rfl) rfl ?_ ?_ <;> simp only [outφ, outV, AR.res, go_sem, ↓reduceIte, Nat.reduceEqDiff, reduceCtorEq, Nat.reduceAdd, Nat.reduceLT, Nat.reduceLeDiff, Nat.reduceBNe, Nat.reduceBEq, Int.reduceToNat, List.length_map]
theorem clone_use {d : Option Nat} {s : St} {K : St → Prop} (nn : Nat) {l : List Coupon} (h0 : l ≠ []) (hl : l.length ≤ 1000000) (hn : s.h nn = none) (h1 : nn < 1000) (hK : K ⟨setE d (.own nn l.length) s.e, hov [(nn, .arr 43 11 (l.map Coupon.enc))] s.h⟩) : EStep Tryd.prog UT d 30 [.list (l.map Coupon.enc) false] s K := by
  refine ⟨[], [(5, nn)], _, _, _, _, clone_e l h0 hl, ⟨by simp [okL], rfl, rfl, by simp, ?_, by simp, by simp [V.rens, V.ren], by simp [V.nins, V.nin], by simp [V.nin], ?_, by simp⟩, ?_⟩
  · intro p hp
    simp only [List.mem_cons, List.not_mem_nil, or_false] at hp
    subst hp; exact ⟨hn, h1⟩
  · intro q hq
    simp only [List.mem_cons, List.not_mem_nil, or_false] at hq
    subst hq; simp only [Ob.nin, Coupon.purs]
  · have e1 : (V.own 5 l.length).ren (rn ([] ++ [(5, nn)])) = .own nn l.length := by simp [V.ren, rn]
    have e2 : [((5, .arr 43 11 (l.map Coupon.enc)) : Nat × Ob)].map (fun q : Nat × Ob => (rn ([] ++ [(5, nn)]) q.1, q.2.ren (rn ([] ++ [(5, nn)])))) = [(nn, .arr 43 11 (l.map Coupon.enc))] := by simp [rn, Ob.ren]
    rw [e1, e2]; exact hK
theorem wk_frzO {h : Nat → Option Ob} {hl : List (Nat × Ob)} {n len : Nat} {rows R : List (List V)} {t : TypeId} {sz : Nat} (hn : h n = some (.arr t sz rows)) (hm : rows.length = len) (h' : mkH hl n = none) (hp : ∀ r ∈ rows, V.purs r = true) (hR : rows = R) : Wk h hl (.own n len) (.list R false) := by
  subst hm hR; exact .frz n t sz rows hn h' hp
def vErr : List Coupon → Int
  | [] => 0
  | c :: l => if (voidM c.status).2 = 0 then vErr l else (voidM c.status).2
def vUp (c : Coupon) : Coupon := ⟨c.want, c.basis, (voidM c.status).1, c.value⟩
theorem vErr_drop {l : List Coupon} {i : Nat} (h : i < l.length) : vErr (l.drop i) = if (voidM l[i].status).2 = 0 then vErr (l.drop (i + 1)) else (voidM l[i].status).2 := by rw [List.drop_eq_getElem_cons h, vErr]
def vTk (t : Ticket) (l : List Coupon) : Ticket := ⟨t.number, t.locator, t.person, l, t.fare, t.taxes, t.total, t.issued⟩
def voidT (t : Ticket) (d : Int) : Ticket × Int := if t.coupons = [] then (Ticket.zero, 2) else if d ≠ t.issued then (Ticket.zero, 26) else if vErr t.coupons = 0 then (vTk t (t.coupons.map vUp), 0) else (Ticket.zero, vErr t.coupons)
def tkV (y : Ticket × Int) : V := .tup [.agg (tCells y.1), .int .i64 y.2]
def aVd (x : Ticket × Int) : List V := [.agg x.1.enc, .int .i64 x.2]
theorem aVd_inj (a b : Ticket × Int) (h : aVd a = aVd b) : a = b := by
  obtain ⟨a_t, a_i⟩ := a
  obtain ⟨b_t, b_i⟩ := b
  simp only [aVd, List.cons.injEq, V.str.injEq, V.int.injEq, V.bool.injEq, V.agg.injEq, V.list.injEq, and_true, true_and] at h
  obtain ⟨h0, h1⟩ := h
  replace h0 := Ticket.inj _ _ h0
  subst h0
  subst h1
  rfl
def fVd (x : Ticket × Int) : Prop × V := (TkOk x.1, tkV (voidT x.1 x.2))
def vG (l : List Coupon) (i : Nat) : List Coupon := (l.take i).map vUp ++ l.drop i
theorem vG_len (l : List Coupon) (i : Nat) : (vG l i).length = l.length := by unfold vG; simp; omega
theorem vG_get {l : List Coupon} {i : Nat} (h : i < l.length) : (vG l i)[i]'(by rw [vG_len]; exact h) = l[i] := by
  unfold vG
  rw [List.getElem_append_right (by simp; omega)]
  simp [Nat.min_eq_left (Nat.le_of_lt h)]
theorem vG_set {l : List Coupon} {i : Nat} (h : i < l.length) : (vG l i).set i (vUp l[i]) = vG l (i + 1) := by
  unfold vG
  have e : i - ((l.take i).map vUp).length = 0 := by simp; omega
  rw [List.set_append_right _ _ (by simp; omega), e, take_succ' h, List.map_append, List.append_assoc, List.drop_eq_getElem_cons h]; rfl
theorem vG_end (l : List Coupon) : vG l l.length = l.map vUp := by unfold vG; simp
theorem vG_row {l : List Coupon} {i : Nat} (h : i < l.length) (r : List V) (hr : r = (vUp l[i]).enc) : ((vG l i).map Coupon.enc).set i r = (vG l (i + 1)).map Coupon.enc := by
  rw [hr, ← List.map_set, vG_set h]
def EFv : Nat → Bool := fun f => f == 30
noncomputable def tVd : Tab
  | 31 => (gOf aTwoN fVn)
  | _ => gNo
theorem tVd_ok : ∀ f, PureC Tryd.prog UT f (tVd f) := fun f => by
  unfold tVd
  split
  · exact vnext_p
  · exact PureC.no
set_option maxHeartbeats 8000000 in
theorem void_p : PureC Tryd.prog UT 10 (gOf aVd fVd) := by
  have hG := tVd_ok
  refine PureC.ofArgs aVd_inj Tryd.func10 body10 nm10 res10 ?_
  rintro ⟨t, d⟩ hv
  refine ⟨by rw [nt10]; simp [aVd], fun C hN Q hQ => ?_⟩
  rw [nt10] at hN
  unfold c10
  have hTk : TkOk t := hv
  obtain ⟨hok, hcl, htl⟩ := id hTk
  refine aw_seq (aw_region (EF := EFv) hG (by rw [hN]; exact tr10_0) ?_)
  simp only [a10_0, go_sem, ↓reduceIte, Nat.reduceEqDiff, reduceCtorEq, Nat.reduceAdd, Nat.reduceLT, Nat.reduceLeDiff, Nat.reduceBNe, Nat.reduceBEq, Int.reduceToNat, aVd, Ticket.enc, tVd, EFv, fVn_eq, tupI]
  refine aw_seq ?_
  refine aw_block ?_
  refine AW.le (s' := ⟨mkE [(1, .int .i64 d), (2, .ptr 2 0), (4, .ptr 4 0), (5, .int .i64 0)], mkH ([(2, .box 27 (tCells t)), (4, .box 27 (tCells Ticket.zero))])⟩) (Le.mk _ _ (by (simp only [go_sem, ↓reduceIte, Nat.reduceEqDiff, reduceCtorEq, Nat.reduceAdd, Nat.reduceLT, Nat.reduceLeDiff, Nat.reduceBNe, Nat.reduceBEq, Int.reduceToNat, tCells, Ticket.zero, Ticket.enc]) <;> (repeat' apply And.intro) <;> (try first | exact wk_frzb rfl rfl rfl | rfl | exact wk_fn rfl | exact .nill _ | exact .nilo _ _ _ rfl rfl | exact wk_frz rfl (by simp only [ints_len, nats_len]) rfl (ints_pur _) | exact wk_frzm rfl rfl (fun kv hk => by obtain ⟨_, _, rfl⟩ := List.mem_map.1 hk; rfl))) (by (simp only [go_sem, ↓reduceIte, Nat.reduceEqDiff, reduceCtorEq, Nat.reduceAdd, Nat.reduceLT, Nat.reduceLeDiff, Nat.reduceBNe, Nat.reduceBEq, Int.reduceToNat, tCells, Ticket.zero, Ticket.enc]) <;> (repeat' apply And.intro) <;> (try first | exact wk_frzb rfl rfl rfl | rfl | exact wk_fn rfl | exact .nill _ | exact .nilo _ _ _ rfl rfl | exact wk_frz rfl (by simp only [ints_len, nats_len]) rfl (ints_pur _) | exact wk_frzm rfl rfl (fun kv hk => by obtain ⟨_, _, rfl⟩ := List.mem_map.1 hk; rfl))) rfl) ?_
  simp only [tCells]
  refine aw_seq (aw_region (EF := EFv) hG (by rw [hN]; exact tr10_1) ?_)
  simp only [a10_1, go_sem, ↓reduceIte, Nat.reduceEqDiff, reduceCtorEq, Nat.reduceAdd, Nat.reduceLT, Nat.reduceLeDiff, Nat.reduceBNe, Nat.reduceBEq, Int.reduceToNat, List.length_map, tVd, EFv, fVn_eq, tupI]
  refine aw_cond (b := _) rfl (fun hb1 => ?_) (fun hb1 => ?_)
  · skip
    have hm : voidT t d = (Ticket.zero, 2) := by unfold voidT; rw [if_pos (List.length_eq_zero_iff.1 (by simpa using hb1))]
    refine aw_seq (aw_region (EF := EFv) hG (by rw [hN]; exact tr10_2) ?_)
    simp only [a10_2, go_sem, ↓reduceIte, Nat.reduceEqDiff, reduceCtorEq, Nat.reduceAdd, Nat.reduceLT, Nat.reduceLeDiff, Nat.reduceBNe, Nat.reduceBEq, Int.reduceToNat, tVd, EFv, fVn_eq, tupI]
    refine AW.le (s' := ⟨mkE [(4, .ptr 4 0), (5, .int .i64 2)], mkH [(4, .box 27 (tCells Ticket.zero))]⟩) (Le.mk _ _ ?_ ?_ rfl) (aw_ret (hQ _ _ (.inl rfl) ?_ ?_ ?_)) <;> simp only [outφ, outV, AR.res, go_sem, ↓reduceIte, Nat.reduceEqDiff, reduceCtorEq, Nat.reduceAdd, Nat.reduceLT, Nat.reduceLeDiff, Nat.reduceBNe, Nat.reduceBEq, Int.reduceToNat, tCells, Ticket.zero, Person.zero, fVd, tkV, hm]
  · skip
    have hne : t.coupons ≠ [] := fun e => by simp [e] at hb1
    refine aw_seq (aw_region (EF := EFv) hG (by rw [hN]; exact tr10_3) ?_)
    simp only [a10_3, go_sem, ↓reduceIte, Nat.reduceEqDiff, reduceCtorEq, Nat.reduceAdd, Nat.reduceLT, Nat.reduceLeDiff, Nat.reduceBNe, Nat.reduceBEq, Int.reduceToNat, tVd, EFv, fVn_eq, tupI]
    refine aw_cond (b := _) rfl (fun hb3 => ?_) (fun hb3 => ?_)
    · skip
      have hm : voidT t d = (Ticket.zero, 26) := by unfold voidT; rw [if_neg hne, if_pos (by simpa using hb3)]
      refine aw_seq (aw_region (EF := EFv) hG (by rw [hN]; exact tr10_4) ?_)
      simp only [a10_4, go_sem, ↓reduceIte, Nat.reduceEqDiff, reduceCtorEq, Nat.reduceAdd, Nat.reduceLT, Nat.reduceLeDiff, Nat.reduceBNe, Nat.reduceBEq, Int.reduceToNat, tVd, EFv, fVn_eq, tupI]
      refine AW.le (s' := ⟨mkE [(4, .ptr 4 0), (5, .int .i64 26)], mkH [(4, .box 27 (tCells Ticket.zero))]⟩) (Le.mk _ _ ?_ ?_ rfl) (aw_ret (hQ _ _ (.inl rfl) ?_ ?_ ?_)) <;> simp only [outφ, outV, AR.res, go_sem, ↓reduceIte, Nat.reduceEqDiff, reduceCtorEq, Nat.reduceAdd, Nat.reduceLT, Nat.reduceLeDiff, Nat.reduceBNe, Nat.reduceBEq, Int.reduceToNat, tCells, Ticket.zero, Person.zero, fVd, tkV, hm]
    · skip
      have hd : ¬ d ≠ t.issued := by simpa using hb3
      refine aw_skip ?_
      try simp only [go_sem, ↓reduceIte, Nat.reduceEqDiff, reduceCtorEq, Nat.reduceAdd, Nat.reduceLT, Nat.reduceLeDiff, Nat.reduceBNe, Nat.reduceBEq, Int.reduceToNat]
      refine aw_seq (aw_region (EF := EFv) hG (by rw [hN]; exact tr10_5) ?_)
      simp only [a10_5, go_sem, ↓reduceIte, Nat.reduceEqDiff, reduceCtorEq, Nat.reduceAdd, Nat.reduceLT, Nat.reduceLeDiff, Nat.reduceBNe, Nat.reduceBEq, Int.reduceToNat, tVd, EFv, fVn_eq, tupI]
      refine clone_use 18 hne (by omega) rfl (by decide) ?_
      simp only [go_sem, ↓reduceIte, Nat.reduceEqDiff, reduceCtorEq, Nat.reduceAdd, Nat.reduceLT, Nat.reduceLeDiff, Nat.reduceBNe, Nat.reduceBEq, Int.reduceToNat]
      refine aw_seq ?_
      refine aw_seq (aw_region (EF := EFv) hG (by rw [hN]; exact tr10_6) ?_)
      simp only [a10_6, go_sem, ↓reduceIte, Nat.reduceEqDiff, reduceCtorEq, Nat.reduceAdd, Nat.reduceLT, Nat.reduceLeDiff, Nat.reduceBNe, Nat.reduceBEq, Int.reduceToNat, tVd, EFv, fVn_eq, tupI]
      refine aw_block ?_
      refine aw_loop (α := Nat) (fun i => (i ≤ t.coupons.length) ∧ (vErr t.coupons = vErr (t.coupons.drop i))) (fun i => ⟨mkE [(2, V.ptr 2 0), (4, V.ptr 4 0), (27, V.own 18 t.coupons.length), (28, V.int IntKind.i64 ↑t.coupons.length), (29, .int .i64 i)], mkH [(2, Ob.box 27 [V.int IntKind.i64 t.number, V.str t.locator, V.str t.person.last, V.str t.person.first, V.str t.person.type, V.own 18 t.coupons.length, V.int IntKind.i64 t.fare, V.list (List.map Charge.enc t.taxes) false, V.int IntKind.i64 t.total, V.int IntKind.i64 t.issued]), (4, Ob.box 27 [V.int IntKind.i64 Ticket.zero.number, V.str Ticket.zero.locator, V.str Ticket.zero.person.last, V.str Ticket.zero.person.first, V.str Ticket.zero.person.type, V.list (List.map Coupon.enc Ticket.zero.coupons) false, V.int IntKind.i64 Ticket.zero.fare, V.list (List.map Charge.enc Ticket.zero.taxes) false, V.int IntKind.i64 Ticket.zero.total, V.int IntKind.i64 Ticket.zero.issued]), (18, .arr 43 11 ((vG t.coupons i).map Coupon.enc))]⟩) (fun i => t.coupons.length - i) 0 ⟨Nat.zero_le _, rfl⟩ ?_ ?_
      · refine Le.mk _ _ ?_ ?_ rfl <;> simp only [go_sem, ↓reduceIte, Nat.reduceEqDiff, reduceCtorEq, Nat.reduceAdd, Nat.reduceLT, Nat.reduceLeDiff, Nat.reduceBNe, Nat.reduceBEq, Int.reduceToNat, vG, List.take_zero, List.map_nil, List.nil_append, List.drop_zero] <;> (repeat' apply And.intro) <;> (try first | rfl | exact wk_frzb rfl rfl rfl | exact wk_fn rfl | exact .nilo _ _ _ rfl rfl | exact wk_frzm rfl rfl (fun kv hk => by obtain ⟨_, _, rfl⟩ := List.mem_map.1 hk; rfl))
      · rintro i ⟨hi, he⟩ KL1 hKL1
        try dsimp only at *
        refine aw_seq (aw_region (EF := EFv) hG (by rw [hN]; exact tr10_7) ?_)
        simp only [a10_7, go_sem, ↓reduceIte, Nat.reduceEqDiff, reduceCtorEq, Nat.reduceAdd, Nat.reduceLT, Nat.reduceLeDiff, Nat.reduceBNe, Nat.reduceBEq, Int.reduceToNat, tVd, EFv, fVn_eq, tupI]
        refine aw_seq ?_
        refine aw_cond (b := _) rfl (fun hb7 => ?_) (fun hb7 => ?_)
        · skip
          have hc7 : i < t.coupons.length := by simp at hb7; omega
          obtain ⟨c, hcc⟩ : ∃ c, c = t.coupons[i] := ⟨_, rfl⟩
          have hdr := vErr_drop hc7
          rw [← hcc] at hdr
          have hi8 : i < (vG t.coupons i).length := by rw [vG_len]; exact hc7
          have hgv : (vG t.coupons i)[i] = c := by rw [hcc]; exact vG_get hc7
          have hrow : ([.str c.want.seg.carrier, .int .i64 c.want.seg.number, .int .i64 c.want.seg.day, .str c.want.seg.from', .str c.want.seg.to', .int .i64 c.want.seg.dep, .int .i64 c.want.seg.arr, .str c.want.cls, .str c.basis, .int .i64 (voidM c.status).1, .int .i64 c.value] : List V) = (vUp t.coupons[i]).enc := by rw [← hcc]; rfl
          refine aw_skip ?_
          try simp only [go_sem, ↓reduceIte, Nat.reduceEqDiff, reduceCtorEq, Nat.reduceAdd, Nat.reduceLT, Nat.reduceLeDiff, Nat.reduceBNe, Nat.reduceBEq, Int.reduceToNat]
          refine aw_seq ?_
          refine aw_block ?_
          refine aw_seq (aw_region (EF := EFv) hG (by rw [hN]; exact tr10_8) ?_)
          simp only [a10_8, go_sem, ↓reduceIte, Nat.reduceEqDiff, reduceCtorEq, Nat.reduceAdd, Nat.reduceLT, Nat.reduceLeDiff, Nat.reduceBNe, Nat.reduceBEq, Int.reduceToNat, getD_mapd _ _ _ _ hi8, hgv, Coupon.enc, hc7, vG_len, List.length_map, tVd, EFv, fVn_eq, tupI]
          (repeat' apply And.intro) <;> (try first | omega | ((fail_if_success refine idW ?_); (fail_if_success refine idS ?_); intros; (repeat' apply And.intro) <;> first | assumption | omega | (simp_all; done)))
          refine aw_seq (aw_region (EF := EFv) hG (by rw [hN]; exact tr10_9) ?_)
          simp only [a10_9, go_sem, ↓reduceIte, Nat.reduceEqDiff, reduceCtorEq, Nat.reduceAdd, Nat.reduceLT, Nat.reduceLeDiff, Nat.reduceBNe, Nat.reduceBEq, Int.reduceToNat, tVd, EFv, fVn_eq, tupI]
          (repeat' apply And.intro) <;> (try first | omega | ((fail_if_success refine idW ?_); (fail_if_success refine idS ?_); intros; (repeat' apply And.intro) <;> first | assumption | omega | (simp_all; done)))
          refine aw_seq ?_
          refine aw_seq (aw_region (EF := EFv) hG (by rw [hN]; exact tr10_10) ?_)
          simp only [a10_10, go_sem, ↓reduceIte, Nat.reduceEqDiff, reduceCtorEq, Nat.reduceAdd, Nat.reduceLT, Nat.reduceLeDiff, Nat.reduceBNe, Nat.reduceBEq, Int.reduceToNat, tVd, EFv, fVn_eq, tupI]
          refine aw_cond (b := _) rfl (fun hb10 => ?_) (fun hb10 => ?_)
          · skip
            have hne2 : ¬ (voidM c.status).2 = 0 := by simpa using hb10
            have hve : vErr t.coupons = (voidM c.status).2 := by rw [he, hdr, if_neg hne2]
            have hm : voidT t d = (Ticket.zero, (voidM c.status).2) := by unfold voidT; rw [if_neg hne, if_neg hd, hve, if_neg hne2]
            refine aw_seq (aw_region (EF := EFv) hG (by rw [hN]; exact tr10_11) ?_)
            simp only [a10_11, go_sem, ↓reduceIte, Nat.reduceEqDiff, reduceCtorEq, Nat.reduceAdd, Nat.reduceLT, Nat.reduceLeDiff, Nat.reduceBNe, Nat.reduceBEq, Int.reduceToNat, tVd, EFv, fVn_eq, tupI]
            refine AW.le (s' := ⟨mkE [(4, .ptr 4 0), (5, .int .i64 (voidM c.status).2)], mkH [(4, .box 27 (tCells Ticket.zero))]⟩) (Le.mk _ _ ?_ ?_ rfl) (aw_ret (hQ _ _ (.inl rfl) ?_ ?_ ?_)) <;> simp only [outφ, outV, AR.res, go_sem, ↓reduceIte, Nat.reduceEqDiff, reduceCtorEq, Nat.reduceAdd, Nat.reduceLT, Nat.reduceLeDiff, Nat.reduceBNe, Nat.reduceBEq, Int.reduceToNat, tCells, Ticket.zero, Person.zero, fVd, tkV, hm]
          · skip
            have heq2 : (voidM c.status).2 = 0 := by simpa using hb10
            rw [if_pos heq2] at hdr
            refine aw_skip ?_
            try simp only [go_sem, ↓reduceIte, Nat.reduceEqDiff, reduceCtorEq, Nat.reduceAdd, Nat.reduceLT, Nat.reduceLeDiff, Nat.reduceBNe, Nat.reduceBEq, Int.reduceToNat]
            refine aw_region (EF := EFv) hG (by rw [hN]; exact tr10_12) ?_
            simp only [a10_12, go_sem, ↓reduceIte, Nat.reduceEqDiff, reduceCtorEq, Nat.reduceAdd, Nat.reduceLT, Nat.reduceLeDiff, Nat.reduceBNe, Nat.reduceBEq, Int.reduceToNat, getD_mapd _ _ _ _ hi8, hgv, Coupon.enc, hc7, vG_len, List.length_map, tVd, EFv, fVn_eq, tupI]
            (repeat' apply And.intro) <;> (try first | omega | ((fail_if_success refine idW ?_); (fail_if_success refine idS ?_); intros; (repeat' apply And.intro) <;> first | assumption | omega | (simp_all; done)))
            refine aw_region (EF := EFv) hG (by rw [hN]; exact tr10_13) ?_
            simp only [a10_13, go_sem, ↓reduceIte, Nat.reduceEqDiff, reduceCtorEq, Nat.reduceAdd, Nat.reduceLT, Nat.reduceLeDiff, Nat.reduceBNe, Nat.reduceBEq, Int.reduceToNat, inI, tVd, EFv, fVn_eq, tupI]
            (repeat' apply And.intro) <;> (try first | omega | ((fail_if_success refine idW ?_); (fail_if_success refine idS ?_); intros; (repeat' apply And.intro) <;> first | assumption | omega | (simp_all; done)))
            refine hKL1 (i + 1) _ ?_ ?_ ?_
            · (try dsimp only); exact ⟨hc7, by rw [he, hdr]⟩
            · (try dsimp only); omega
            · refine Le.mk _ _ ?_ ?_ rfl <;> simp only [go_sem, ↓reduceIte, Nat.reduceEqDiff, reduceCtorEq, Nat.reduceAdd, Nat.reduceLT, Nat.reduceLeDiff, Nat.reduceBNe, Nat.reduceBEq, Int.reduceToNat, vG_row hc7 _ hrow] <;> (repeat' apply And.intro) <;> (try first | rfl | exact wk_frzb rfl rfl rfl | exact wk_fn rfl | exact .nilo _ _ _ rfl rfl | exact wk_frzm rfl rfl (fun kv hk => by obtain ⟨_, _, rfl⟩ := List.mem_map.1 hk; rfl))
        · skip
          obtain rfl : i = t.coupons.length := by simp at hb7; omega
          have hv0 : vErr t.coupons = 0 := by rw [he, List.drop_length]; rfl
          have hm : voidT t d = (vTk t (t.coupons.map vUp), 0) := by unfold voidT; rw [if_neg hne, if_neg hd, if_pos hv0]
          refine aw_exit ?_
          simp only [go_sem, ↓reduceIte, Nat.reduceEqDiff, reduceCtorEq, Nat.reduceAdd, Nat.reduceLT, Nat.reduceLeDiff, Nat.reduceBNe, Nat.reduceBEq, Int.reduceToNat]
          refine aw_seq (aw_region (EF := EFv) hG (by rw [hN]; exact tr10_14) ?_)
          simp only [a10_14, go_sem, ↓reduceIte, Nat.reduceEqDiff, reduceCtorEq, Nat.reduceAdd, Nat.reduceLT, Nat.reduceLeDiff, Nat.reduceBNe, Nat.reduceBEq, Int.reduceToNat, tVd, EFv, fVn_eq, tupI]
          refine AW.le (s' := ⟨mkE [(4, .ptr 4 0), (5, .int .i64 0)], mkH [(4, .box 27 (tCells (vTk t (t.coupons.map vUp))))]⟩) (Le.mk _ _ ?_ ?_ rfl) (aw_ret (hQ _ _ (.inl rfl) ?_ ?_ ?_)) <;> simp only [outφ, outV, AR.res, go_sem, ↓reduceIte, Nat.reduceEqDiff, reduceCtorEq, Nat.reduceAdd, Nat.reduceLT, Nat.reduceLeDiff, Nat.reduceBNe, Nat.reduceBEq, Int.reduceToNat, tCells, vTk, fVd, tkV, hm]
          · exact wk_frzO rfl (by rw [List.length_map, vG_len]) rfl ((Coupon.purs _).2 trivial) (by rw [vG_end])
end Go.Proofs.YtffapkiilkeadaaDoor
