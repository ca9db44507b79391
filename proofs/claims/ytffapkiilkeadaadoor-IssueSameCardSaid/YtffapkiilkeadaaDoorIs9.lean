/- The reference's Check of a ticket. -/
import Derived.Test.YtffapkiilkeadaaDoorIs8
import Derived.Test.YtffapkiilkeadaaDoorPaN
namespace Go.Proofs.YtffapkiilkeadaaDoor
open Go Go.RowKit
set_option linter.unusedSimpArgs false
set_option linter.unusedVariables false
set_option linter.deprecated false
def aKx (x : List UInt8 × Int) : List V := [.str x.1, .int .i64 x.2]
theorem aKx_inj (a b : List UInt8 × Int) (h : aKx a = aKx b) : a = b := by
  obtain ⟨a_k, a_i⟩ := a
  obtain ⟨b_k, b_i⟩ := b
  simp only [aKx, List.cons.injEq, V.str.injEq, V.int.injEq, V.bool.injEq, V.agg.injEq, V.list.injEq, and_true, true_and] at h
  obtain ⟨h0, h1⟩ := h
  subst h0
  subst h1
  rfl
def fIdx (x : List UInt8 × Int) : Prop × V := (x.1.length ≤ 1000 ∧ inI x.2, .str (x.1 ++ [46] ++ dec x.2))
theorem fIdx_eq (k : List UInt8) (i : Int) : gOf aKx fIdx [.str k, .int .i64 i] = (k.length ≤ 1000 ∧ inI i, .str (k ++ [46] ++ dec i)) := gOf_eq aKx_inj (k, i)
theorem fRDec_eq (n : Int) : gRDec [.int .i64 n] = (inI n, .str (dec n)) := rfl
noncomputable def tIx : Tab
  | 62 => gRDec
  | _ => gNo
theorem tIx_ok : ∀ f, PureC Tryd.prog UT f (tIx f) := fun f => by
  unfold tIx
  split
  · exact rdecimal_p
  · exact PureC.no
theorem index_p : PureC Tryd.prog UT 49 (gOf aKx fIdx) := by
  have hG := tIx_ok
  refine PureC.ofArgs aKx_inj Tryd.func49 body49 nm49 res49 ?_
  rintro ⟨k, i⟩ hv
  refine ⟨by rw [nt49]; simp [aKx], fun C hN Q hQ => ?_⟩
  rw [nt49] at hN
  unfold c49
  obtain ⟨hk, hi⟩ : k.length ≤ 1000 ∧ inI i := hv
  have hd := dec_len hi
  refine aw_seq (aw_region (EF := EF0) hG (by rw [hN]; exact tr49_0) ?_)
  simp only [a49_0, go_sem, ↓reduceIte, Nat.reduceEqDiff, reduceCtorEq, Nat.reduceAdd, Nat.reduceLT, Nat.reduceLeDiff, Nat.reduceBNe, Nat.reduceBEq, Int.reduceToNat, aKx, tIx, fRDec_eq, List.append_assoc]
  have hi2 := hi
  unfold inI at hi2
  refine aw_seq (aw_region (EF := EF0) hG (by rw [hN]; exact tr49_1) ?_)
  simp only [a49_1, go_sem, ↓reduceIte, Nat.reduceEqDiff, reduceCtorEq, Nat.reduceAdd, Nat.reduceLT, Nat.reduceLeDiff, Nat.reduceBNe, Nat.reduceBEq, Int.reduceToNat, inI, tIx, fRDec_eq, List.append_assoc]
  (repeat' apply And.intro) <;> (try first | omega | ((fail_if_success refine idW ?_); (fail_if_success refine idS ?_); intros; (repeat' apply And.intro) <;> first | assumption | omega | (simp_all; done)) | (simp only [List.length_append, List.length_cons, List.length_nil]; omega))
  refine aw_ret ?_
  show Q _ _
  refine hQ _ _ (.inl rfl) ?_ ?_ ?_ <;> simp only [outφ, outV, AR.res, go_sem, ↓reduceIte, Nat.reduceEqDiff, reduceCtorEq, Nat.reduceAdd, Nat.reduceLT, Nat.reduceLeDiff, Nat.reduceBNe, Nat.reduceBEq, Int.reduceToNat, fIdx, List.append_assoc]
def fOv (n : Int) : Prop × V := (True, .bool (!amtB n))
theorem fOv_eq (n : Int) : gOf aInt fOv [.int .i64 n] = (True, .bool (!amtB n)) := gOf_eq aInt_inj n
theorem over_p : PureC Tryd.prog UT 51 (gOf aInt fOv) := by
  have hG := tNo_ok
  refine PureC.ofArgs aInt_inj Tryd.func51 body51 nm51 res51 ?_
  rintro n hv
  refine ⟨by rw [nt51]; simp [aInt], fun C hN Q hQ => ?_⟩
  rw [nt51] at hN
  unfold c51
  refine aw_seq (aw_region (EF := EF0) hG (by rw [hN]; exact tr51_0) ?_)
  simp only [a51_0, go_sem, ↓reduceIte, Nat.reduceEqDiff, reduceCtorEq, Nat.reduceAdd, Nat.reduceLT, Nat.reduceLeDiff, Nat.reduceBNe, Nat.reduceBEq, Int.reduceToNat, aInt]
  refine aw_seq (aw_region (EF := EF0) hG (by rw [hN]; exact tr51_1) ?_)
  simp only [a51_1, go_sem, ↓reduceIte, Nat.reduceEqDiff, reduceCtorEq, Nat.reduceAdd, Nat.reduceLT, Nat.reduceLeDiff, Nat.reduceBNe, Nat.reduceBEq, Int.reduceToNat]
  (repeat' apply And.intro) <;> (try first | omega | ((fail_if_success refine idW ?_); (fail_if_success refine idS ?_); intros; (repeat' apply And.intro) <;> first | assumption | omega | (simp_all; done)))
  refine aw_ret ?_
  show Q _ _
  refine hQ _ _ (.inl rfl) ?_ ?_ ?_ <;> simp only [outφ, outV, AR.res, go_sem, ↓reduceIte, Nat.reduceEqDiff, reduceCtorEq, Nat.reduceAdd, Nat.reduceLT, Nat.reduceLeDiff, Nat.reduceBNe, Nat.reduceBEq, Int.reduceToNat, fOv]
  unfold amtB; rw [Bool.not_and, ← decide_not, ← decide_not]; congr 2 <;> exact decide_eq_decide.2 (by omega)
theorem sz_eq (l : List Coupon) : (decide ((l.length : Int) = 0) || decide (6 < (l.length : Int))) = cSz l := by unfold cSz; congr 1; exact decide_eq_decide.2 (by omega)
def fRCp (l : List Coupon) : Prop × V := (l.length ≤ 1000 ∧ ∀ c ∈ l, c.ok, .list (faults (cupF l)) false)
theorem fRCp_eq (l : List Coupon) : gOf aCps fRCp [.list (l.map Coupon.enc) false] = (l.length ≤ 1000 ∧ ∀ c ∈ l, c.ok, .list (faults (cupF l)) false) := gOf_eq aCps_inj l
noncomputable def trCp : Tab
  | 49 => (gOf aKx fIdx)
  | 51 => (gOf aInt fOv)
  | 50 => gClass
  | _ => gNo
theorem trCp_ok : ∀ f, PureC Tryd.prog UT f (trCp f) := fun f => by
  unfold trCp
  split
  · exact index_p
  · exact over_p
  · exact rclass_p
  · exact PureC.no
set_option maxHeartbeats 4000000 in
theorem rcoupons_p : PureC Tryd.prog UT 28 (gOf aCps fRCp) := by
  have hG := trCp_ok
  refine PureC.ofArgs aCps_inj Tryd.func28 body28 nm28 res28 ?_
  rintro l hv
  refine ⟨by rw [nt28]; simp [aCps], fun C hN Q hQ => ?_⟩
  rw [nt28] at hN
  unfold c28
  obtain ⟨hl, hok⟩ : l.length ≤ 1000 ∧ ∀ c ∈ l, c.ok := hv
  refine aw_seq (aw_region (EF := EF0) hG (by rw [hN]; exact tr28_0) ?_)
  simp only [a28_0, go_sem, ↓reduceIte, Nat.reduceEqDiff, reduceCtorEq, Nat.reduceAdd, Nat.reduceLT, Nat.reduceLeDiff, Nat.reduceBNe, Nat.reduceBEq, Int.reduceToNat, aCps, trCp, fIdx_eq, fCls_eq, fOv_eq]
  refine aw_seq (aw_region (EF := EF0) hG (by rw [hN]; exact tr28_1) ?_)
  simp only [a28_1, go_sem, ↓reduceIte, Nat.reduceEqDiff, reduceCtorEq, Nat.reduceAdd, Nat.reduceLT, Nat.reduceLeDiff, Nat.reduceBNe, Nat.reduceBEq, Int.reduceToNat, trCp, fIdx_eq, fCls_eq, fOv_eq]
  refine AW.le (s' := ⟨mkE [(0, .list (l.map Coupon.enc) false), (3, .own 999 0)], mkH ([(999, .arr 45 2 (faults []))])⟩) (Le.mk _ _ (by (simp only [go_sem, ↓reduceIte, Nat.reduceEqDiff, reduceCtorEq, Nat.reduceAdd, Nat.reduceLT, Nat.reduceLeDiff, Nat.reduceBNe, Nat.reduceBEq, Int.reduceToNat]) <;> (repeat' apply And.intro) <;> (try first | exact wk_frzb rfl rfl rfl | rfl | exact wk_fn rfl | exact .nill _ | exact .nilo _ _ _ rfl rfl | exact wk_frz rfl (by simp only [ints_len, nats_len]) rfl (ints_pur _) | exact wk_frzm rfl rfl (fun kv hk => by obtain ⟨_, _, rfl⟩ := List.mem_map.1 hk; rfl))) (by (simp only [go_sem, ↓reduceIte, Nat.reduceEqDiff, reduceCtorEq, Nat.reduceAdd, Nat.reduceLT, Nat.reduceLeDiff, Nat.reduceBNe, Nat.reduceBEq, Int.reduceToNat]) <;> (repeat' apply And.intro) <;> (try first | exact wk_frzb rfl rfl rfl | rfl | exact wk_fn rfl | exact .nill _ | exact .nilo _ _ _ rfl rfl | exact wk_frz rfl (by simp only [ints_len, nats_len]) rfl (ints_pur _) | exact wk_frzm rfl rfl (fun kv hk => by obtain ⟨_, _, rfl⟩ := List.mem_map.1 hk; rfl))) rfl) ?_
  refine aw_cut (α := (List Fault)) (fun g1 => (g1 = ([] : List Fault) ++ fIf (decide ((l.length : Int) = 0) || decide (6 < (l.length : Int))) 4 (sCps)) ∧ (g1.length ≤ ([] : List Fault).length + 1)) (fun g1 => ⟨mkE [(0, V.list (List.map Coupon.enc l) false), (3, .own 999 g1.length)], mkH [(999, .arr 45 2 (faults g1))]⟩) ?_ ?_
  · intro KC2 hKC2
    refine aw_seq (aw_region (EF := EF0) hG (by rw [hN]; exact tr28_2) ?_)
    simp only [a28_2, go_sem, ↓reduceIte, Nat.reduceEqDiff, reduceCtorEq, Nat.reduceAdd, Nat.reduceLT, Nat.reduceLeDiff, Nat.reduceBNe, Nat.reduceBEq, Int.reduceToNat, List.length_map, trCp, fIdx_eq, fCls_eq, fOv_eq]
    (repeat' apply And.intro) <;> (try first | omega | ((fail_if_success refine idW ?_); (fail_if_success refine idS ?_); intros; (repeat' apply And.intro) <;> first | assumption | omega | (simp_all; done)))
    refine aw_cond (b := _) rfl (fun hb2 => ?_) (fun hb2 => ?_)
    · skip
      refine aw_region (EF := EF0) hG (by rw [hN]; exact tr28_3) ?_
      simp only [a28_3, go_sem, ↓reduceIte, Nat.reduceEqDiff, reduceCtorEq, Nat.reduceAdd, Nat.reduceLT, Nat.reduceLeDiff, Nat.reduceBNe, Nat.reduceBEq, Int.reduceToNat, trCp, fIdx_eq, fCls_eq, fOv_eq]
      (repeat' apply And.intro) <;> (try first | omega | ((fail_if_success refine idW ?_); (fail_if_success refine idS ?_); intros; (repeat' apply And.intro) <;> first | assumption | omega | (simp_all; done)))
      refine hKC2 (([] : List Fault) ++ [⟨4, sCps⟩]) _ ?_ ?_
      · (try dsimp only); exact ⟨by rw [fIf_t (show (decide ((l.length : Int) = 0) || decide (6 < (l.length : Int))) = true from hb2)], by simp⟩
      · refine Le.mk _ _ ?_ ?_ rfl <;> simp only [go_sem, ↓reduceIte, Nat.reduceEqDiff, reduceCtorEq, Nat.reduceAdd, Nat.reduceLT, Nat.reduceLeDiff, Nat.reduceBNe, Nat.reduceBEq, Int.reduceToNat, List.length_append, List.length_cons, List.length_nil] <;> (repeat' apply And.intro) <;> (try first | rfl | exact wk_frzb rfl rfl rfl | exact wk_fn rfl | exact .nilo _ _ _ rfl rfl | exact wk_frzm rfl rfl (fun kv hk => by obtain ⟨_, _, rfl⟩ := List.mem_map.1 hk; rfl))
    · skip
      refine aw_skip ?_
      try simp only [go_sem, ↓reduceIte, Nat.reduceEqDiff, reduceCtorEq, Nat.reduceAdd, Nat.reduceLT, Nat.reduceLeDiff, Nat.reduceBNe, Nat.reduceBEq, Int.reduceToNat]
      refine hKC2 (([] : List Fault)) _ ?_ ?_
      · (try dsimp only); exact ⟨by rw [fIf_f (show (decide ((l.length : Int) = 0) || decide (6 < (l.length : Int))) = false from hb2), List.append_nil], by omega⟩
      · refine Le.mk _ _ ?_ ?_ rfl <;> simp only [go_sem, ↓reduceIte, Nat.reduceEqDiff, reduceCtorEq, Nat.reduceAdd, Nat.reduceLT, Nat.reduceLeDiff, Nat.reduceBNe, Nat.reduceBEq, Int.reduceToNat] <;> (repeat' apply And.intro) <;> (try first | rfl | exact wk_frzb rfl rfl rfl | exact wk_fn rfl | exact .nilo _ _ _ rfl rfl | exact wk_frzm rfl rfl (fun kv hk => by obtain ⟨_, _, rfl⟩ := List.mem_map.1 hk; rfl))
  · rintro g1 ⟨hg1, lg1⟩
    simp only [List.length_nil] at lg1
    refine aw_seq ?_
    refine aw_seq (aw_region (EF := EF0) hG (by rw [hN]; exact tr28_4) ?_)
    simp only [a28_4, go_sem, ↓reduceIte, Nat.reduceEqDiff, reduceCtorEq, Nat.reduceAdd, Nat.reduceLT, Nat.reduceLeDiff, Nat.reduceBNe, Nat.reduceBEq, Int.reduceToNat, trCp, fIdx_eq, fCls_eq, fOv_eq]
    refine aw_block ?_
    refine aw_loop (α := Nat × (List Fault)) (fun γ => (γ.1 ≤ l.length) ∧ (γ.2 = g1 ++ cTo l γ.1) ∧ (γ.2.length ≤ g1.length + 3 * γ.1)) (fun γ => ⟨mkE [(0, V.list (List.map Coupon.enc l) false), (3, .own 999 γ.2.length), (4, .int .i64 γ.1)], mkH [(999, .arr 45 2 (faults γ.2))]⟩) (fun γ => l.length - γ.1) (0, g1) ⟨Nat.zero_le _, by simp [cTo], Nat.le_refl _⟩ ?_ ?_
    · refine Le.mk _ _ ?_ ?_ rfl <;> simp only [go_sem, ↓reduceIte, Nat.reduceEqDiff, reduceCtorEq, Nat.reduceAdd, Nat.reduceLT, Nat.reduceLeDiff, Nat.reduceBNe, Nat.reduceBEq, Int.reduceToNat] <;> (repeat' apply And.intro) <;> (try first | rfl | exact wk_frzb rfl rfl rfl | exact wk_fn rfl | exact .nilo _ _ _ rfl rfl | exact wk_frzm rfl rfl (fun kv hk => by obtain ⟨_, _, rfl⟩ := List.mem_map.1 hk; rfl))
    · rintro ⟨i, f⟩ ⟨hi, hf, hfl⟩ KL0 hKL0
      try dsimp only at *
      refine aw_seq ?_
      refine aw_seq (aw_region (EF := EF0) hG (by rw [hN]; exact tr28_5) ?_)
      simp only [a28_5, go_sem, ↓reduceIte, Nat.reduceEqDiff, reduceCtorEq, Nat.reduceAdd, Nat.reduceLT, Nat.reduceLeDiff, Nat.reduceBNe, Nat.reduceBEq, Int.reduceToNat, List.length_map, trCp, fIdx_eq, fCls_eq, fOv_eq]
      (repeat' apply And.intro) <;> (try first | omega | ((fail_if_success refine idW ?_); (fail_if_success refine idS ?_); intros; (repeat' apply And.intro) <;> first | assumption | omega | (simp_all; done)))
      refine aw_cond (b := _) rfl (fun hb5 => ?_) (fun hb5 => ?_)
      · skip
        have hc5 : i < l.length := by simp at hb5; omega
        obtain ⟨c, hcc⟩ : ∃ c, c = l[i] := ⟨_, rfl⟩
        have hco : c.ok := hcc ▸ hok _ (List.getElem_mem hc5)
        have hcl : c.want.cls.length ≤ 140737488355328 := hco.1.2
        have hgd : l.getD i Coupon.zero = c := by rw [List.getD_eq_getElem?_getD, List.getElem?_eq_getElem hc5, hcc]; rfl
        have hst : cTo l (i + 1) = cTo l i ++ cF i c := by rw [cTo, hgd]
        have hdl := dec_lenN (i := i) (by omega)
        have hii : inI (i : Int) := ⟨by omega, by omega⟩
        obtain ⟨pos, hpos⟩ : ∃ pos, pos = sCpd ++ dec i := ⟨_, rfl⟩
        have hpos2 : 99 :: 111 :: 117 :: 112 :: 111 :: 110 :: 115 :: 46 :: dec (i : Int) = pos := hpos.symm
        refine aw_skip ?_
        try simp only [go_sem, ↓reduceIte, Nat.reduceEqDiff, reduceCtorEq, Nat.reduceAdd, Nat.reduceLT, Nat.reduceLeDiff, Nat.reduceBNe, Nat.reduceBEq, Int.reduceToNat]
        refine aw_seq ?_
        refine aw_block ?_
        refine aw_seq (aw_region (EF := EF0) hG (by rw [hN]; exact tr28_7) ?_)
        simp only [a28_7, go_sem, ↓reduceIte, Nat.reduceEqDiff, reduceCtorEq, Nat.reduceAdd, Nat.reduceLT, Nat.reduceLeDiff, Nat.reduceBNe, Nat.reduceBEq, Int.reduceToNat, hii, hpos2, List.length_cons, List.length_nil, trCp, fIdx_eq, fCls_eq, fOv_eq]
        (repeat' apply And.intro) <;> (try first | omega | ((fail_if_success refine idW ?_); (fail_if_success refine idS ?_); intros; (repeat' apply And.intro) <;> first | assumption | omega | (simp_all; done)))
        refine aw_cut (α := (List Fault)) (fun g3 => (g3 = f ++ fIf (decide (c.status < 1) || decide (8 < c.status)) 8 (pos)) ∧ (g3.length ≤ f.length + 1)) (fun g3 => ⟨mkE [(0, V.list (List.map Coupon.enc l) false), (3, .own 999 g3.length), (4, V.int IntKind.i64 ↑i), (5, V.str pos)], mkH [(999, .arr 45 2 (faults g3))]⟩) ?_ ?_
        · intro KC8 hKC8
          refine aw_seq (aw_region (EF := EF0) hG (by rw [hN]; exact tr28_8) ?_)
          simp only [a28_8, go_sem, ↓reduceIte, Nat.reduceEqDiff, reduceCtorEq, Nat.reduceAdd, Nat.reduceLT, Nat.reduceLeDiff, Nat.reduceBNe, Nat.reduceBEq, Int.reduceToNat, getD_mapd _ _ _ _ hc5, hc5, Coupon.enc, ← hcc, List.length_map, trCp, fIdx_eq, fCls_eq, fOv_eq]
          (repeat' apply And.intro) <;> (try first | omega | ((fail_if_success refine idW ?_); (fail_if_success refine idS ?_); intros; (repeat' apply And.intro) <;> first | assumption | omega | (simp_all; done)))
          refine aw_cond (b := _) rfl (fun hb8 => ?_) (fun hb8 => ?_)
          · skip
            refine aw_region (EF := EF0) hG (by rw [hN]; exact tr28_9) ?_
            simp only [a28_9, go_sem, ↓reduceIte, Nat.reduceEqDiff, reduceCtorEq, Nat.reduceAdd, Nat.reduceLT, Nat.reduceLeDiff, Nat.reduceBNe, Nat.reduceBEq, Int.reduceToNat, trCp, fIdx_eq, fCls_eq, fOv_eq]
            (repeat' apply And.intro) <;> (try first | omega | ((fail_if_success refine idW ?_); (fail_if_success refine idS ?_); intros; (repeat' apply And.intro) <;> first | assumption | omega | (simp_all; done)))
            refine hKC8 (f ++ [⟨8, pos⟩]) _ ?_ ?_
            · (try dsimp only); exact ⟨by rw [fIf_t (show (decide (c.status < 1) || decide (8 < c.status)) = true from hb8)], by simp⟩
            · refine Le.mk _ _ ?_ ?_ rfl <;> simp only [go_sem, ↓reduceIte, Nat.reduceEqDiff, reduceCtorEq, Nat.reduceAdd, Nat.reduceLT, Nat.reduceLeDiff, Nat.reduceBNe, Nat.reduceBEq, Int.reduceToNat, List.length_append, List.length_cons, List.length_nil] <;> (repeat' apply And.intro) <;> (try first | rfl | exact wk_frzb rfl rfl rfl | exact wk_fn rfl | exact .nilo _ _ _ rfl rfl | exact wk_frzm rfl rfl (fun kv hk => by obtain ⟨_, _, rfl⟩ := List.mem_map.1 hk; rfl))
          · skip
            refine aw_skip ?_
            try simp only [go_sem, ↓reduceIte, Nat.reduceEqDiff, reduceCtorEq, Nat.reduceAdd, Nat.reduceLT, Nat.reduceLeDiff, Nat.reduceBNe, Nat.reduceBEq, Int.reduceToNat]
            refine hKC8 (f) _ ?_ ?_
            · (try dsimp only); exact ⟨by rw [fIf_f (show (decide (c.status < 1) || decide (8 < c.status)) = false from hb8), List.append_nil], by omega⟩
            · refine Le.mk _ _ ?_ ?_ rfl <;> simp only [go_sem, ↓reduceIte, Nat.reduceEqDiff, reduceCtorEq, Nat.reduceAdd, Nat.reduceLT, Nat.reduceLeDiff, Nat.reduceBNe, Nat.reduceBEq, Int.reduceToNat] <;> (repeat' apply And.intro) <;> (try first | rfl | exact wk_frzb rfl rfl rfl | exact wk_fn rfl | exact .nilo _ _ _ rfl rfl | exact wk_frzm rfl rfl (fun kv hk => by obtain ⟨_, _, rfl⟩ := List.mem_map.1 hk; rfl))
        · rintro g3 ⟨hg3, lg3⟩
          refine aw_cut (α := (List Fault)) (fun g4 => (g4 = g3 ++ fIf (!classB c.want.cls) 16 (pos)) ∧ (g4.length ≤ g3.length + 1)) (fun g4 => ⟨mkE [(0, V.list (List.map Coupon.enc l) false), (3, .own 999 g4.length), (4, V.int IntKind.i64 ↑i), (5, V.str pos)], mkH [(999, .arr 45 2 (faults g4))]⟩) ?_ ?_
          · intro KC10 hKC10
            refine aw_seq (aw_region (EF := EF0) hG (by rw [hN]; exact tr28_10) ?_)
            simp only [a28_10, go_sem, ↓reduceIte, Nat.reduceEqDiff, reduceCtorEq, Nat.reduceAdd, Nat.reduceLT, Nat.reduceLeDiff, Nat.reduceBNe, Nat.reduceBEq, Int.reduceToNat, getD_mapd _ _ _ _ hc5, hc5, Coupon.enc, ← hcc, List.length_map, hcl, trCp, fIdx_eq, fCls_eq, fOv_eq]
            (repeat' apply And.intro) <;> (try first | omega | ((fail_if_success refine idW ?_); (fail_if_success refine idS ?_); intros; (repeat' apply And.intro) <;> first | assumption | omega | (simp_all; done)))
            refine aw_cond (b := _) rfl (fun hb10 => ?_) (fun hb10 => ?_)
            · skip
              refine aw_region (EF := EF0) hG (by rw [hN]; exact tr28_11) ?_
              simp only [a28_11, go_sem, ↓reduceIte, Nat.reduceEqDiff, reduceCtorEq, Nat.reduceAdd, Nat.reduceLT, Nat.reduceLeDiff, Nat.reduceBNe, Nat.reduceBEq, Int.reduceToNat, trCp, fIdx_eq, fCls_eq, fOv_eq]
              (repeat' apply And.intro) <;> (try first | omega | ((fail_if_success refine idW ?_); (fail_if_success refine idS ?_); intros; (repeat' apply And.intro) <;> first | assumption | omega | (simp_all; done)))
              refine hKC10 (g3 ++ [⟨16, pos⟩]) _ ?_ ?_
              · (try dsimp only); exact ⟨by rw [fIf_t (show (!classB c.want.cls) = true from hb10)], by simp⟩
              · refine Le.mk _ _ ?_ ?_ rfl <;> simp only [go_sem, ↓reduceIte, Nat.reduceEqDiff, reduceCtorEq, Nat.reduceAdd, Nat.reduceLT, Nat.reduceLeDiff, Nat.reduceBNe, Nat.reduceBEq, Int.reduceToNat, List.length_append, List.length_cons, List.length_nil] <;> (repeat' apply And.intro) <;> (try first | rfl | exact wk_frzb rfl rfl rfl | exact wk_fn rfl | exact .nilo _ _ _ rfl rfl | exact wk_frzm rfl rfl (fun kv hk => by obtain ⟨_, _, rfl⟩ := List.mem_map.1 hk; rfl))
            · skip
              refine aw_skip ?_
              try simp only [go_sem, ↓reduceIte, Nat.reduceEqDiff, reduceCtorEq, Nat.reduceAdd, Nat.reduceLT, Nat.reduceLeDiff, Nat.reduceBNe, Nat.reduceBEq, Int.reduceToNat]
              refine hKC10 (g3) _ ?_ ?_
              · (try dsimp only); exact ⟨by rw [fIf_f (show (!classB c.want.cls) = false from hb10), List.append_nil], by omega⟩
              · refine Le.mk _ _ ?_ ?_ rfl <;> simp only [go_sem, ↓reduceIte, Nat.reduceEqDiff, reduceCtorEq, Nat.reduceAdd, Nat.reduceLT, Nat.reduceLeDiff, Nat.reduceBNe, Nat.reduceBEq, Int.reduceToNat] <;> (repeat' apply And.intro) <;> (try first | rfl | exact wk_frzb rfl rfl rfl | exact wk_fn rfl | exact .nilo _ _ _ rfl rfl | exact wk_frzm rfl rfl (fun kv hk => by obtain ⟨_, _, rfl⟩ := List.mem_map.1 hk; rfl))
          · rintro g4 ⟨hg4, lg4⟩
            refine aw_seq (aw_region (EF := EF0) hG (by rw [hN]; exact tr28_12) ?_)
            simp only [a28_12, go_sem, ↓reduceIte, Nat.reduceEqDiff, reduceCtorEq, Nat.reduceAdd, Nat.reduceLT, Nat.reduceLeDiff, Nat.reduceBNe, Nat.reduceBEq, Int.reduceToNat, getD_mapd _ _ _ _ hc5, hc5, Coupon.enc, ← hcc, List.length_map, trCp, fIdx_eq, fCls_eq, fOv_eq]
            (repeat' apply And.intro) <;> (try first | omega | ((fail_if_success refine idW ?_); (fail_if_success refine idS ?_); intros; (repeat' apply And.intro) <;> first | assumption | omega | (simp_all; done)))
            refine aw_cond (b := _) rfl (fun hb12 => ?_) (fun hb12 => ?_)
            · skip
              refine aw_region (EF := EF0) hG (by rw [hN]; exact tr28_13) ?_
              simp only [a28_13, go_sem, ↓reduceIte, Nat.reduceEqDiff, reduceCtorEq, Nat.reduceAdd, Nat.reduceLT, Nat.reduceLeDiff, Nat.reduceBNe, Nat.reduceBEq, Int.reduceToNat, trCp, fIdx_eq, fCls_eq, fOv_eq]
              (repeat' apply And.intro) <;> (try first | omega | ((fail_if_success refine idW ?_); (fail_if_success refine idS ?_); intros; (repeat' apply And.intro) <;> first | assumption | omega | (simp_all; done)))
              refine aw_region (EF := EF0) hG (by rw [hN]; exact tr28_6) ?_
              simp only [a28_6, go_sem, ↓reduceIte, Nat.reduceEqDiff, reduceCtorEq, Nat.reduceAdd, Nat.reduceLT, Nat.reduceLeDiff, Nat.reduceBNe, Nat.reduceBEq, Int.reduceToNat, inI, trCp, fIdx_eq, fCls_eq, fOv_eq]
              (repeat' apply And.intro) <;> (try first | omega | ((fail_if_success refine idW ?_); (fail_if_success refine idS ?_); intros; (repeat' apply And.intro) <;> first | assumption | omega | (simp_all; done)))
              refine hKL0 (i + 1, g4 ++ [⟨11, pos⟩]) _ ?_ ?_ ?_
              · (try dsimp only); refine ⟨hc5, ?_, by simp only [List.length_append, List.length_cons, List.length_nil]; omega⟩; rw [hst, cF, fIf_t (b := !amtB c.value) hb12, ← hpos, hg4, hg3, hf, kdB]; simp only [List.append_assoc]
              · (try dsimp only); omega
              · refine Le.mk _ _ ?_ ?_ rfl <;> simp only [go_sem, ↓reduceIte, Nat.reduceEqDiff, reduceCtorEq, Nat.reduceAdd, Nat.reduceLT, Nat.reduceLeDiff, Nat.reduceBNe, Nat.reduceBEq, Int.reduceToNat, List.length_append, List.length_cons, List.length_nil] <;> (repeat' apply And.intro) <;> (try first | rfl | exact wk_frzb rfl rfl rfl | exact wk_fn rfl | exact .nilo _ _ _ rfl rfl | exact wk_frzm rfl rfl (fun kv hk => by obtain ⟨_, _, rfl⟩ := List.mem_map.1 hk; rfl))
            · skip
              refine aw_skip ?_
              try simp only [go_sem, ↓reduceIte, Nat.reduceEqDiff, reduceCtorEq, Nat.reduceAdd, Nat.reduceLT, Nat.reduceLeDiff, Nat.reduceBNe, Nat.reduceBEq, Int.reduceToNat]
              refine aw_region (EF := EF0) hG (by rw [hN]; exact tr28_6) ?_
              simp only [a28_6, go_sem, ↓reduceIte, Nat.reduceEqDiff, reduceCtorEq, Nat.reduceAdd, Nat.reduceLT, Nat.reduceLeDiff, Nat.reduceBNe, Nat.reduceBEq, Int.reduceToNat, inI, trCp, fIdx_eq, fCls_eq, fOv_eq]
              (repeat' apply And.intro) <;> (try first | omega | ((fail_if_success refine idW ?_); (fail_if_success refine idS ?_); intros; (repeat' apply And.intro) <;> first | assumption | omega | (simp_all; done)))
              refine hKL0 (i + 1, g4) _ ?_ ?_ ?_
              · (try dsimp only); refine ⟨hc5, ?_, by omega⟩; rw [hst, cF, fIf_f (b := !amtB c.value) hb12, ← hpos, hg4, hg3, hf, kdB]; simp only [List.append_assoc, List.append_nil]
              · (try dsimp only); omega
              · refine Le.mk _ _ ?_ ?_ rfl <;> simp only [go_sem, ↓reduceIte, Nat.reduceEqDiff, reduceCtorEq, Nat.reduceAdd, Nat.reduceLT, Nat.reduceLeDiff, Nat.reduceBNe, Nat.reduceBEq, Int.reduceToNat] <;> (repeat' apply And.intro) <;> (try first | rfl | exact wk_frzb rfl rfl rfl | exact wk_fn rfl | exact .nilo _ _ _ rfl rfl | exact wk_frzm rfl rfl (fun kv hk => by obtain ⟨_, _, rfl⟩ := List.mem_map.1 hk; rfl))
      · skip
        obtain rfl : i = l.length := by simp at hb5; omega
        refine aw_exit ?_
        simp only [go_sem, ↓reduceIte, Nat.reduceEqDiff, reduceCtorEq, Nat.reduceAdd, Nat.reduceLT, Nat.reduceLeDiff, Nat.reduceBNe, Nat.reduceBEq, Int.reduceToNat]
        refine aw_seq (aw_region (EF := EF0) hG (by rw [hN]; exact tr28_14) ?_)
        simp only [a28_14, go_sem, ↓reduceIte, Nat.reduceEqDiff, reduceCtorEq, Nat.reduceAdd, Nat.reduceLT, Nat.reduceLeDiff, Nat.reduceBNe, Nat.reduceBEq, Int.reduceToNat, trCp, fIdx_eq, fCls_eq, fOv_eq]
        refine AW.le (s' := ⟨mkE [(2, .list (faults f) false)], mkH []⟩) (Le.mk _ _ ?_ ?_ rfl) (aw_ret (hQ _ _ (.inl rfl) ?_ ?_ ?_)) <;> simp only [outφ, outV, AR.res, go_sem, ↓reduceIte, Nat.reduceEqDiff, reduceCtorEq, Nat.reduceAdd, Nat.reduceLT, Nat.reduceLeDiff, Nat.reduceBNe, Nat.reduceBEq, Int.reduceToNat, fRCp, cupF]
        · exact wk_frz rfl (by rw [faults_len]) rfl (faults_pur _)
        · rw [hf, hg1, ← sz_eq]; rfl
end Go.Proofs.YtffapkiilkeadaaDoor
