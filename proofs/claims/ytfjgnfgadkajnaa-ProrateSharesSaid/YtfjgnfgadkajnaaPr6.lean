/- Shares and Taxes of the reference. -/
import Derived.Test.YtfjgnfgadkajnaaPr4
namespace Go.Proofs.Ytfjgnfgadkajnaa
open Go Go.RowKit
set_option linter.unusedSimpArgs false
set_option linter.unusedVariables false
set_option linter.deprecated false
def aAdS (x : List (List UInt8) × List UInt8) : List V := [.list (strs x.1) false, .str x.2]
theorem aAdS_inj (a b : List (List UInt8) × List UInt8) (h : aAdS a = aAdS b) : a = b := by
  obtain ⟨a_l, a_s⟩ := a
  obtain ⟨b_l, b_s⟩ := b
  simp only [aAdS, List.cons.injEq, V.str.injEq, V.int.injEq, V.bool.injEq, V.agg.injEq, V.list.injEq, and_true, true_and] at h
  obtain ⟨h0, h1⟩ := h
  replace h0 := strs_inj h0
  subst h0
  subst h1
  rfl
def fAdS (x : List (List UInt8) × List UInt8) : Prop × V := (x.1.length ≤ 100000, .list (strs (addS x.1 x.2)) false)
theorem fAdS_eq (l : List (List UInt8)) (s : List UInt8) : gOf aAdS fAdS [.list (strs l) false, .str s] = (l.length ≤ 100000, .list (strs (addS l s)) false) := gOf_eq aAdS_inj (l, s)
def insD (d : Bool) (l : List (List UInt8)) (s : List UInt8) : List (List UInt8) := if d then l else insS l s
def bN (d : Bool) : Nat := if d then 1 else 0
theorem bN_le (d : Bool) : bN d ≤ 1 := by cases d <;> decide
theorem addS_no {l : List (List UInt8)} {s : List UInt8} (h : ∀ x ∈ l, x ≠ s) : addS l s = insS l s := by
  unfold addS; rw [if_neg fun hm => h s hm rfl]
set_option maxHeartbeats 4000000 in
theorem radd39_p : PureC Try.prog UT 20 (gOf aAdS fAdS) := by
  have hG := tNo_ok
  refine PureC.ofArgs aAdS_inj Try.func20 body20 nm20 res20 ?_
  rintro ⟨l, s⟩ hv
  refine ⟨by rw [nt20]; simp [aAdS], fun C hN Q hQ => ?_⟩
  rw [nt20] at hN
  unfold c20
  replace hv : l.length ≤ 100000 := hv
  refine aw_seq (aw_region (EF := EF0) hG (by rw [hN]; exact tr20_0) ?_)
  simp only [a20_0, go_sem, ↓reduceIte, Nat.reduceEqDiff, reduceCtorEq, Nat.reduceAdd, Nat.reduceLT, Nat.reduceLeDiff, Nat.reduceBNe, Nat.reduceBEq, Int.reduceToNat, aAdS]
  refine aw_seq (aw_region (EF := EF0) hG (by rw [hN]; exact tr20_1) ?_)
  simp only [a20_1, go_sem, ↓reduceIte, Nat.reduceEqDiff, reduceCtorEq, Nat.reduceAdd, Nat.reduceLT, Nat.reduceLeDiff, Nat.reduceBNe, Nat.reduceBEq, Int.reduceToNat]
  refine aw_seq (aw_region (EF := EF0) hG (by rw [hN]; exact tr20_2) ?_)
  simp only [a20_2, go_sem, ↓reduceIte, Nat.reduceEqDiff, reduceCtorEq, Nat.reduceAdd, Nat.reduceLT, Nat.reduceLeDiff, Nat.reduceBNe, Nat.reduceBEq, Int.reduceToNat]
  refine aw_seq ?_
  refine aw_seq (aw_region (EF := EF0) hG (by rw [hN]; exact tr20_3) ?_)
  simp only [a20_3, go_sem, ↓reduceIte, Nat.reduceEqDiff, reduceCtorEq, Nat.reduceAdd, Nat.reduceLT, Nat.reduceLeDiff, Nat.reduceBNe, Nat.reduceBEq, Int.reduceToNat]
  refine aw_block ?_
  refine aw_loop (α := Nat × Bool × (List (List UInt8))) (fun γ => (γ.1 ≤ l.length) ∧ (∀ x ∈ l.take γ.1, x ≠ s) ∧ (insS l s = γ.2.2 ++ insD γ.2.1 (l.drop γ.1) s) ∧ (γ.2.2.length = γ.1 + bN γ.2.1)) (fun γ => ⟨mkE [(0, V.list (strs l) false), (1, V.str s), (5, .own 999 γ.2.2.length), (6, .bool γ.2.1), (7, .int .i64 γ.1)], mkH [(999, .arr 9 1 (strs γ.2.2))]⟩) (fun γ => l.length - γ.1) (0, false, []) ⟨Nat.zero_le _, fun x hx => by simp at hx, rfl, rfl⟩ ?_ ?_
  · refine Le.mk _ _ ?_ ?_ rfl <;> simp only [go_sem, ↓reduceIte, Nat.reduceEqDiff, reduceCtorEq, Nat.reduceAdd, Nat.reduceLT, Nat.reduceLeDiff, Nat.reduceBNe, Nat.reduceBEq, Int.reduceToNat] <;> (repeat' apply And.intro) <;> (try first | rfl | exact wk_frzb rfl rfl rfl | exact wk_fn rfl | exact .nilo _ _ _ rfl rfl | exact wk_frzm rfl rfl (fun kv hk => by obtain ⟨_, _, rfl⟩ := List.mem_map.1 hk; rfl))
  · rintro ⟨i, d, xs⟩ ⟨hi, hn, hx, hxl⟩ KL0 hKL0
    try dsimp only at *
    refine aw_seq ?_
    refine aw_seq (aw_region (EF := EF0) hG (by rw [hN]; exact tr20_4) ?_)
    simp only [a20_4, go_sem, ↓reduceIte, Nat.reduceEqDiff, reduceCtorEq, Nat.reduceAdd, Nat.reduceLT, Nat.reduceLeDiff, Nat.reduceBNe, Nat.reduceBEq, Int.reduceToNat]
    refine aw_cond (b := _) rfl (fun hc4 => ?_) (fun hc4 => ?_)
    · simp only [decide_eq_true_eq, decide_eq_false_iff_not, Bool.and_eq_true, Bool.or_eq_true, Bool.not_eq_true', Bool.not_eq_false', Bool.and_eq_false_iff, Bool.or_eq_false_iff, Int.ofNat_lt, Int.ofNat_le, Nat.not_lt, Nat.not_le, Int.not_lt, Int.not_le] at hc4
      refine aw_skip ?_
      try simp only [go_sem, ↓reduceIte, Nat.reduceEqDiff, reduceCtorEq, Nat.reduceAdd, Nat.reduceLT, Nat.reduceLeDiff, Nat.reduceBNe, Nat.reduceBEq, Int.reduceToNat]
      refine aw_seq ?_
      refine aw_block ?_
      refine aw_seq ?_
      have hd := List.drop_eq_getElem_cons hc4
      rw [hd] at hx
      obtain ⟨x, hxx⟩ : ∃ x, x = l[i] := ⟨_, rfl⟩
      rw [← hxx] at hx
      have hbd := bN_le d
      refine aw_seq (aw_region (EF := EF0) hG (by rw [hN]; exact tr20_6) ?_)
      simp only [a20_6, go_sem, ↓reduceIte, Nat.reduceEqDiff, reduceCtorEq, Nat.reduceAdd, Nat.reduceLT, Nat.reduceLeDiff, Nat.reduceBNe, Nat.reduceBEq, Int.reduceToNat, strs_getD _ _ _ hc4, hc4, ← hxx]
      (repeat' apply And.intro) <;> (try first | omega | ((fail_if_success (refine (id : AW _ _ _ _ _ → AW _ _ _ _ _) ?_)); (fail_if_success (refine (id : EStep _ _ _ _ _ _ _ → EStep _ _ _ _ _ _ _) ?_)); intros; (repeat' apply And.intro) <;> first | assumption | omega | (simp_all; done)))
      refine aw_cond (b := _) rfl (fun hb6 => ?_) (fun hb6 => ?_)
      · skip
        have he : addS l s = l := by unfold addS; rw [if_pos]; rw [← (show x = s by simpa using hb6), hxx]; exact List.getElem_mem hc4
        refine aw_seq (aw_region (EF := EF0) hG (by rw [hN]; exact tr20_7) ?_)
        simp only [a20_7, go_sem, ↓reduceIte, Nat.reduceEqDiff, reduceCtorEq, Nat.reduceAdd, Nat.reduceLT, Nat.reduceLeDiff, Nat.reduceBNe, Nat.reduceBEq, Int.reduceToNat]
        refine aw_ret ?_
        show Q _ _
        refine hQ _ _ (.inl rfl) ?_ ?_ ?_ <;> simp only [outφ, outV, AR.res, go_sem, ↓reduceIte, Nat.reduceEqDiff, reduceCtorEq, Nat.reduceAdd, Nat.reduceLT, Nat.reduceLeDiff, Nat.reduceBNe, Nat.reduceBEq, Int.reduceToNat, fAdS, he]
      · skip
        have he : x ≠ s := by simpa using hb6
        have hn2 := take_all (p := fun y => y ≠ s) hc4 hn (hxx ▸ he)
        refine aw_skip ?_
        try simp only [go_sem, ↓reduceIte, Nat.reduceEqDiff, reduceCtorEq, Nat.reduceAdd, Nat.reduceLT, Nat.reduceLeDiff, Nat.reduceBNe, Nat.reduceBEq, Int.reduceToNat]
        refine aw_cut (α := Bool × (List (List UInt8))) (fun γ => (insS l s = γ.2 ++ x :: insD γ.1 (l.drop (i + 1)) s) ∧ (γ.2.length = i + bN γ.1)) (fun γ => ⟨mkE [(0, V.list (strs l) false), (1, V.str s), (5, .own 999 γ.2.length), (6, .bool γ.1), (7, V.int IntKind.i64 ↑i)], mkH [(999, .arr 9 1 (strs γ.2))]⟩) ?_ ?_
        · intro KC8 hKC8
          refine aw_seq (aw_region (EF := EF0) hG (by rw [hN]; exact tr20_8) ?_)
          simp only [a20_8, go_sem, ↓reduceIte, Nat.reduceEqDiff, reduceCtorEq, Nat.reduceAdd, Nat.reduceLT, Nat.reduceLeDiff, Nat.reduceBNe, Nat.reduceBEq, Int.reduceToNat, strs_getD _ _ _ hc4, hc4, ← hxx]
          (repeat' apply And.intro) <;> (try first | omega | ((fail_if_success (refine (id : AW _ _ _ _ _ → AW _ _ _ _ _) ?_)); (fail_if_success (refine (id : EStep _ _ _ _ _ _ _ → EStep _ _ _ _ _ _ _) ?_)); intros; (repeat' apply And.intro) <;> first | assumption | omega | (simp_all; done)))
          refine aw_cond (b := _) rfl (fun hb8 => ?_) (fun hb8 => ?_)
          · skip
            have hb : slt s x = true ∧ d = false := by simpa using hb8
            refine aw_seq (aw_region (EF := EF0) hG (by rw [hN]; exact tr20_9) ?_)
            simp only [a20_9, go_sem, ↓reduceIte, Nat.reduceEqDiff, reduceCtorEq, Nat.reduceAdd, Nat.reduceLT, Nat.reduceLeDiff, Nat.reduceBNe, Nat.reduceBEq, Int.reduceToNat, strs_snoc]
            (repeat' apply And.intro) <;> (try first | omega | ((fail_if_success (refine (id : AW _ _ _ _ _ → AW _ _ _ _ _) ?_)); (fail_if_success (refine (id : EStep _ _ _ _ _ _ _ → EStep _ _ _ _ _ _ _) ?_)); intros; (repeat' apply And.intro) <;> first | assumption | omega | (simp_all; done)))
            refine aw_region (EF := EF0) hG (by rw [hN]; exact tr20_10) ?_
            simp only [a20_10, go_sem, ↓reduceIte, Nat.reduceEqDiff, reduceCtorEq, Nat.reduceAdd, Nat.reduceLT, Nat.reduceLeDiff, Nat.reduceBNe, Nat.reduceBEq, Int.reduceToNat]
            refine hKC8 (true, xs ++ [s]) _ ?_ ?_
            · (try dsimp only); (obtain ⟨h1, rfl⟩ := hb; exact ⟨by rw [hx, insD, if_neg (by decide), insS, if_pos h1, List.append_assoc]; rfl, by rw [List.length_append, hxl]; rfl⟩)
            · refine Le.mk _ _ ?_ ?_ rfl <;> simp only [go_sem, ↓reduceIte, Nat.reduceEqDiff, reduceCtorEq, Nat.reduceAdd, Nat.reduceLT, Nat.reduceLeDiff, Nat.reduceBNe, Nat.reduceBEq, Int.reduceToNat, List.length_append, List.length_cons, List.length_nil] <;> (repeat' apply And.intro) <;> (try first | rfl | exact wk_frzb rfl rfl rfl | exact wk_fn rfl | exact .nilo _ _ _ rfl rfl | exact wk_frzm rfl rfl (fun kv hk => by obtain ⟨_, _, rfl⟩ := List.mem_map.1 hk; rfl))
          · skip
            refine aw_skip ?_
            try simp only [go_sem, ↓reduceIte, Nat.reduceEqDiff, reduceCtorEq, Nat.reduceAdd, Nat.reduceLT, Nat.reduceLeDiff, Nat.reduceBNe, Nat.reduceBEq, Int.reduceToNat]
            refine hKC8 (d, xs) _ ?_ ?_
            · (try dsimp only); exact ⟨by rw [hx]; congr 1; cases d with | true => rfl | false => (have h1 : ¬ slt s x = true := (by simpa using hb8); rw [insD, if_neg (by decide), insS, if_neg h1]; rfl), hxl⟩
            · refine Le.mk _ _ ?_ ?_ rfl <;> simp only [go_sem, ↓reduceIte, Nat.reduceEqDiff, reduceCtorEq, Nat.reduceAdd, Nat.reduceLT, Nat.reduceLeDiff, Nat.reduceBNe, Nat.reduceBEq, Int.reduceToNat] <;> (repeat' apply And.intro) <;> (try first | rfl | exact wk_frzb rfl rfl rfl | exact wk_fn rfl | exact .nilo _ _ _ rfl rfl | exact wk_frzm rfl rfl (fun kv hk => by obtain ⟨_, _, rfl⟩ := List.mem_map.1 hk; rfl))
        · rintro ⟨d2, ys⟩ ⟨hy, hyl⟩
          try dsimp only at *
          have hbd2 := bN_le d2
          refine aw_region (EF := EF0) hG (by rw [hN]; exact tr20_11) ?_
          simp only [a20_11, go_sem, ↓reduceIte, Nat.reduceEqDiff, reduceCtorEq, Nat.reduceAdd, Nat.reduceLT, Nat.reduceLeDiff, Nat.reduceBNe, Nat.reduceBEq, Int.reduceToNat, strs_getD _ _ _ hc4, hc4, ← hxx, strs_snoc]
          refine ⟨by omega, ?_⟩
          refine aw_region (EF := EF0) hG (by rw [hN]; exact tr20_5) ?_
          simp only [a20_5, go_sem, ↓reduceIte, Nat.reduceEqDiff, reduceCtorEq, Nat.reduceAdd, Nat.reduceLT, Nat.reduceLeDiff, Nat.reduceBNe, Nat.reduceBEq, Int.reduceToNat, inI]
          refine ⟨by omega, ?_⟩
          refine hKL0 (i + 1, d2, ys ++ [x]) _ ?_ ?_ ?_
          · (try dsimp only); exact ⟨hc4, hn2, by rw [hy, List.append_assoc]; rfl, by rw [List.length_append, List.length_cons, List.length_nil]; omega⟩
          · (try dsimp only); omega
          · refine Le.mk _ _ ?_ ?_ rfl <;> simp only [go_sem, ↓reduceIte, Nat.reduceEqDiff, reduceCtorEq, Nat.reduceAdd, Nat.reduceLT, Nat.reduceLeDiff, Nat.reduceBNe, Nat.reduceBEq, Int.reduceToNat, List.length_append, List.length_cons, List.length_nil] <;> (repeat' apply And.intro) <;> (try first | rfl | exact wk_frzb rfl rfl rfl | exact wk_fn rfl | exact .nilo _ _ _ rfl rfl | exact wk_frzm rfl rfl (fun kv hk => by obtain ⟨_, _, rfl⟩ := List.mem_map.1 hk; rfl))
    · simp only [decide_eq_true_eq, decide_eq_false_iff_not, Bool.and_eq_true, Bool.or_eq_true, Bool.not_eq_true', Bool.not_eq_false', Bool.and_eq_false_iff, Bool.or_eq_false_iff, Int.ofNat_lt, Int.ofNat_le, Nat.not_lt, Nat.not_le, Int.not_lt, Int.not_le] at hc4
      rw [List.take_of_length_le hc4] at hn
      rw [List.drop_eq_nil_of_le hc4, ← addS_no hn] at hx
      refine aw_exit ?_
      simp only [go_sem, ↓reduceIte, Nat.reduceEqDiff, reduceCtorEq, Nat.reduceAdd, Nat.reduceLT, Nat.reduceLeDiff, Nat.reduceBNe, Nat.reduceBEq, Int.reduceToNat]
      refine aw_cut (α := (List (List UInt8))) (fun zs => (addS l s = zs)) (fun zs => ⟨mkE [(5, .own 999 zs.length)], mkH [(999, .arr 9 1 (strs zs))]⟩) ?_ ?_
      · intro KC12 hKC12
        refine aw_seq (aw_region (EF := EF0) hG (by rw [hN]; exact tr20_12) ?_)
        simp only [a20_12, go_sem, ↓reduceIte, Nat.reduceEqDiff, reduceCtorEq, Nat.reduceAdd, Nat.reduceLT, Nat.reduceLeDiff, Nat.reduceBNe, Nat.reduceBEq, Int.reduceToNat]
        refine aw_cond (b := _) rfl (fun hb12 => ?_) (fun hb12 => ?_)
        · skip
          have hbd := bN_le d
          refine aw_region (EF := EF0) hG (by rw [hN]; exact tr20_13) ?_
          simp only [a20_13, go_sem, ↓reduceIte, Nat.reduceEqDiff, reduceCtorEq, Nat.reduceAdd, Nat.reduceLT, Nat.reduceLeDiff, Nat.reduceBNe, Nat.reduceBEq, Int.reduceToNat]
          refine ⟨by omega, ?_⟩
          refine hKC12 (xs ++ [s]) _ ?_ ?_
          · (try dsimp only); (rw [hx, insD, if_neg (by simpa using hb12)]; rfl)
          · refine Le.mk _ _ ?_ ?_ rfl <;> simp only [go_sem, ↓reduceIte, Nat.reduceEqDiff, reduceCtorEq, Nat.reduceAdd, Nat.reduceLT, Nat.reduceLeDiff, Nat.reduceBNe, Nat.reduceBEq, Int.reduceToNat, strs_snoc, List.length_append, List.length_cons, List.length_nil] <;> (repeat' apply And.intro) <;> (try first | rfl | exact wk_frzb rfl rfl rfl | exact wk_fn rfl | exact .nilo _ _ _ rfl rfl | exact wk_frzm rfl rfl (fun kv hk => by obtain ⟨_, _, rfl⟩ := List.mem_map.1 hk; rfl))
        · skip
          refine aw_skip ?_
          try simp only [go_sem, ↓reduceIte, Nat.reduceEqDiff, reduceCtorEq, Nat.reduceAdd, Nat.reduceLT, Nat.reduceLeDiff, Nat.reduceBNe, Nat.reduceBEq, Int.reduceToNat]
          refine hKC12 (xs) _ ?_ ?_
          · (try dsimp only); (rw [hx, insD, if_pos (by simpa using hb12), List.append_nil])
          · refine Le.mk _ _ ?_ ?_ rfl <;> simp only [go_sem, ↓reduceIte, Nat.reduceEqDiff, reduceCtorEq, Nat.reduceAdd, Nat.reduceLT, Nat.reduceLeDiff, Nat.reduceBNe, Nat.reduceBEq, Int.reduceToNat] <;> (repeat' apply And.intro) <;> (try first | rfl | exact wk_frzb rfl rfl rfl | exact wk_fn rfl | exact .nilo _ _ _ rfl rfl | exact wk_frzm rfl rfl (fun kv hk => by obtain ⟨_, _, rfl⟩ := List.mem_map.1 hk; rfl))
      · rintro zs hz
        refine aw_seq (aw_region (EF := EF0) hG (by rw [hN]; exact tr20_14) ?_)
        simp only [a20_14, go_sem, ↓reduceIte, Nat.reduceEqDiff, reduceCtorEq, Nat.reduceAdd, Nat.reduceLT, Nat.reduceLeDiff, Nat.reduceBNe, Nat.reduceBEq, Int.reduceToNat]
        refine AW.le (s' := ⟨mkE [(4, .list (strs zs) false)], mkH []⟩) (Le.mk _ _ ?_ ?_ rfl) (aw_ret (hQ _ _ (.inl rfl) ?_ ?_ ?_)) <;> simp only [outφ, outV, AR.res, go_sem, ↓reduceIte, Nat.reduceEqDiff, reduceCtorEq, Nat.reduceAdd, Nat.reduceLT, Nat.reduceLeDiff, Nat.reduceBNe, Nat.reduceBEq, Int.reduceToNat, fAdS, hz]
        · exact wk_frz rfl (by rw [strs_len]) rfl (strs_pur _)
theorem zip_sn {α : Type} (f : List UInt8 → Int → α) : ∀ (ns : List (List UInt8)) (xs : List Int) (h : xs.length < ns.length) (n : Int), List.zipWith f ns (xs ++ [n]) = List.zipWith f ns xs ++ [f ns[xs.length] n]
  | a :: ns, [], _, n => by simp
  | a :: ns, x :: xs, h, n => by
    have := zip_sn f ns xs (by simpa using h) n
    simp only [List.cons_append, List.zipWith_cons_cons, this, List.length_cons, List.getElem_cons_succ]
theorem zip_snoc {α : Type} (f : List UInt8 → Int → α) {ns : List (List UInt8)} {xs : List Int} {k : Nat} (h : xs.length = k) (hk : k < ns.length) (n : Int) : List.zipWith f ns (xs ++ [n]) = List.zipWith f ns xs ++ [f ns[k] n] := by
  subst h; exact zip_sn f ns xs hk n
theorem up_step {f : List UInt8 → List Int} {ns : List (List UInt8)} {k : Nat} (hk : k < ns.length) {xs : List Int} {n e : Int} (hs : sumF 0 (f ns[k]) = (n, e)) : (upGo f (ns.drop k)).map (xs ++ ·) = if e ≠ 0 then none else (upGo f (ns.drop (k + 1))).map ((xs ++ [n]) ++ ·) := by
  rw [List.drop_eq_getElem_cons hk, upGo, hs]
  dsimp only
  split
  · rfl
  · rw [Option.map_map]; congr 1; funext z; simp
noncomputable def trSh : Tab
  | 20 => (gOf aAdS fAdS)
  | 21 => (gOf aLi fSum)
  | _ => gNo
theorem trSh_ok : ∀ f, PureC Try.prog UT f (trSh f) := fun f => by
  unfold trSh
  split
  · exact radd39_p
  · exact rsum_p
  · exact PureC.no
set_option maxHeartbeats 8000000 in
theorem rshares_p : PureC Try.prog UT 11 (gOf aShr fShr) := by
  have hG := trSh_ok
  refine PureC.ofArgs aShr_inj Try.func11 body11 nm11 res11 ?_
  rintro ⟨t, o⟩ hv
  refine ⟨by rw [nt11]; simp [aShr], fun C hN Q hQ => ?_⟩
  rw [nt11] at hN
  unfold c11
  obtain ⟨hl, hol, hos⟩ : ShOk t o := hv
  have hsM : shrM t o = if o.length ≠ t.coupons.length then ([], 2) else (postsZ (uR (prS t.coupons o t.coupons.length)), (uR (prS t.coupons o t.coupons.length)).2.2) := rfl
  refine aw_seq (aw_region (EF := EF0) hG (by rw [hN]; exact tr11_0) ?_)
  simp only [a11_0, go_sem, ↓reduceIte, Nat.reduceEqDiff, reduceCtorEq, Nat.reduceAdd, Nat.reduceLT, Nat.reduceLeDiff, Nat.reduceBNe, Nat.reduceBEq, Int.reduceToNat, aShr, Ticket.enc, trSh, fAdS_eq, fSum_eq']
  refine aw_seq ?_
  refine aw_seq (aw_region (EF := EF0) hG (by rw [hN]; exact tr11_1) ?_)
  simp only [a11_1, go_sem, ↓reduceIte, Nat.reduceEqDiff, reduceCtorEq, Nat.reduceAdd, Nat.reduceLT, Nat.reduceLeDiff, Nat.reduceBNe, Nat.reduceBEq, Int.reduceToNat, strs_len, List.length_map, trSh, fAdS_eq, fSum_eq']
  refine aw_cond (b := _) rfl (fun hb1 => ?_) (fun hb1 => ?_)
  · skip
    have hne : o.length ≠ t.coupons.length := fun e => by rw [e] at hb1; simp at hb1
    rw [if_pos hne] at hsM
    refine aw_seq (aw_region (EF := EF0) hG (by rw [hN]; exact tr11_2) ?_)
    simp only [a11_2, go_sem, ↓reduceIte, Nat.reduceEqDiff, reduceCtorEq, Nat.reduceAdd, Nat.reduceLT, Nat.reduceLeDiff, Nat.reduceBNe, Nat.reduceBEq, Int.reduceToNat, trSh, fAdS_eq, fSum_eq']
    refine AW.le (s' := ⟨mkE [(4, .list [] false), (5, .int .i64 2)], mkH []⟩) (Le.mk _ _ ?_ ?_ rfl) (aw_ret (hQ _ _ (.inl rfl) ?_ ?_ ?_)) <;> simp only [outφ, outV, AR.res, go_sem, ↓reduceIte, Nat.reduceEqDiff, reduceCtorEq, Nat.reduceAdd, Nat.reduceLT, Nat.reduceLeDiff, Nat.reduceBNe, Nat.reduceBEq, Int.reduceToNat, fShr, shrV, hsM, List.map_nil]
  · skip
    have hlen : o.length = t.coupons.length := by simp only [Bool.not_eq_false', decide_eq_true_eq] at hb1; omega
    rw [if_neg (by omega)] at hsM
    refine aw_skip ?_
    try simp only [go_sem, ↓reduceIte, Nat.reduceEqDiff, reduceCtorEq, Nat.reduceAdd, Nat.reduceLT, Nat.reduceLeDiff, Nat.reduceBNe, Nat.reduceBEq, Int.reduceToNat]
    refine aw_seq (aw_region (EF := EF0) hG (by rw [hN]; exact tr11_3) ?_)
    simp only [a11_3, go_sem, ↓reduceIte, Nat.reduceEqDiff, reduceCtorEq, Nat.reduceAdd, Nat.reduceLT, Nat.reduceLeDiff, Nat.reduceBNe, Nat.reduceBEq, Int.reduceToNat, trSh, fAdS_eq, fSum_eq']
    refine aw_seq ?_
    refine aw_seq (aw_region (EF := EF0) hG (by rw [hN]; exact tr11_4) ?_)
    simp only [a11_4, go_sem, ↓reduceIte, Nat.reduceEqDiff, reduceCtorEq, Nat.reduceAdd, Nat.reduceLT, Nat.reduceLeDiff, Nat.reduceBNe, Nat.reduceBEq, Int.reduceToNat, trSh, fAdS_eq, fSum_eq']
    refine aw_block ?_
    refine aw_loop (α := Nat × (List (List UInt8))) (fun γ => (γ.1 ≤ o.length) ∧ (γ.2 = namesP (prS t.coupons o γ.1))) (fun γ => ⟨mkE [(1, V.list (strs o) false), (2, V.ptr 2 0), (6, .list (strs γ.2) false), (7, .int .i64 γ.1)], mkH [(2, Ob.box 44 [V.int IntKind.i64 t.number, V.str t.locator, V.str t.person.last, V.str t.person.first, V.str t.person.type, V.list (List.map Coupon.enc t.coupons) false, V.int IntKind.i64 t.fare, V.list (List.map Charge.enc t.taxes) false, V.int IntKind.i64 t.total, V.int IntKind.i64 t.issued])]⟩) (fun γ => o.length - γ.1) (0, []) ⟨Nat.zero_le _, rfl⟩ ?_ ?_
    · refine Le.mk _ _ ?_ ?_ rfl <;> simp only [go_sem, ↓reduceIte, Nat.reduceEqDiff, reduceCtorEq, Nat.reduceAdd, Nat.reduceLT, Nat.reduceLeDiff, Nat.reduceBNe, Nat.reduceBEq, Int.reduceToNat, strs_nil] <;> (repeat' apply And.intro) <;> (try first | rfl | exact wk_frzb rfl rfl rfl | exact wk_fn rfl | exact .nilo _ _ _ rfl rfl | exact wk_frzm rfl rfl (fun kv hk => by obtain ⟨_, _, rfl⟩ := List.mem_map.1 hk; rfl))
    · rintro ⟨i, ns⟩ ⟨hi, hn⟩ KL0 hKL0
      try dsimp only at *
      refine aw_seq ?_
      refine aw_seq (aw_region (EF := EF0) hG (by rw [hN]; exact tr11_5) ?_)
      simp only [a11_5, go_sem, ↓reduceIte, Nat.reduceEqDiff, reduceCtorEq, Nat.reduceAdd, Nat.reduceLT, Nat.reduceLeDiff, Nat.reduceBNe, Nat.reduceBEq, Int.reduceToNat, trSh, fAdS_eq, fSum_eq']
      refine aw_cond (b := _) rfl (fun hc5 => ?_) (fun hc5 => ?_)
      · simp only [decide_eq_true_eq, decide_eq_false_iff_not, Bool.and_eq_true, Bool.or_eq_true, Bool.not_eq_true', Bool.not_eq_false', Bool.and_eq_false_iff, Bool.or_eq_false_iff, Int.ofNat_lt, Int.ofNat_le, Nat.not_lt, Nat.not_le, Int.not_lt, Int.not_le] at hc5
        refine aw_skip ?_
        try simp only [go_sem, ↓reduceIte, Nat.reduceEqDiff, reduceCtorEq, Nat.reduceAdd, Nat.reduceLT, Nat.reduceLeDiff, Nat.reduceBNe, Nat.reduceBEq, Int.reduceToNat]
        refine aw_cut (α := (List (List UInt8))) (fun ms => (ms = namesP (prS t.coupons o (i + 1)))) (fun ms => ⟨mkE [(1, V.list (strs o) false), (2, V.ptr 2 0), (6, .list (strs ms) false), (7, V.int IntKind.i64 ↑i)], mkH [(2, Ob.box 44 [V.int IntKind.i64 t.number, V.str t.locator, V.str t.person.last, V.str t.person.first, V.str t.person.type, V.list (List.map Coupon.enc t.coupons) false, V.int IntKind.i64 t.fare, V.list (List.map Charge.enc t.taxes) false, V.int IntKind.i64 t.total, V.int IntKind.i64 t.issued])]⟩) ?_ ?_
        · intro KCb1 hKCb1
          refine aw_block ?_
          have hic : i < t.coupons.length := by omega
          have hst : prS t.coupons o (i + 1) = if t.coupons[i].status = 5 then prS t.coupons o i ++ [(o[i], t.coupons[i].value)] else prS t.coupons o i := by rw [prS, List.getD_eq_getElem?_getD, List.getElem?_eq_getElem hic, List.getD_eq_getElem?_getD, List.getElem?_eq_getElem hc5]; rfl
          have hnl : ns.length ≤ 100000 := by rw [hn]; have := (namesP_inv (prS t.coupons o i)).2.2; have := prS_len t.coupons o i; omega
          refine aw_seq (aw_region (EF := EF0) hG (by rw [hN]; exact tr11_7) ?_)
          simp only [a11_7, go_sem, ↓reduceIte, Nat.reduceEqDiff, reduceCtorEq, Nat.reduceAdd, Nat.reduceLT, Nat.reduceLeDiff, Nat.reduceBNe, Nat.reduceBEq, Int.reduceToNat, getD_mapd _ _ _ _ hic, hic, Coupon.enc, List.length_map, trSh, fAdS_eq, fSum_eq']
          (repeat' apply And.intro) <;> (try first | omega | ((fail_if_success (refine (id : AW _ _ _ _ _ → AW _ _ _ _ _) ?_)); (fail_if_success (refine (id : EStep _ _ _ _ _ _ _ → EStep _ _ _ _ _ _ _) ?_)); intros; (repeat' apply And.intro) <;> first | assumption | omega | (simp_all; done)))
          refine aw_cond (b := _) rfl (fun hc7 => ?_) (fun hc7 => ?_)
          · simp only [decide_eq_true_eq, decide_eq_false_iff_not, Bool.and_eq_true, Bool.or_eq_true, Bool.not_eq_true', Bool.not_eq_false', Bool.and_eq_false_iff, Bool.or_eq_false_iff, Int.ofNat_lt, Int.ofNat_le, Nat.not_lt, Nat.not_le, Int.not_lt, Int.not_le] at hc7
            refine aw_region (EF := EF0) hG (by rw [hN]; exact tr11_8) ?_
            simp only [a11_8, go_sem, ↓reduceIte, Nat.reduceEqDiff, reduceCtorEq, Nat.reduceAdd, Nat.reduceLT, Nat.reduceLeDiff, Nat.reduceBNe, Nat.reduceBEq, Int.reduceToNat, strs_getD _ _ _ hc5, hc5, hnl, trSh, fAdS_eq, fSum_eq']
            (repeat' apply And.intro) <;> (try first | omega | ((fail_if_success (refine (id : AW _ _ _ _ _ → AW _ _ _ _ _) ?_)); (fail_if_success (refine (id : EStep _ _ _ _ _ _ _ → EStep _ _ _ _ _ _ _) ?_)); intros; (repeat' apply And.intro) <;> first | assumption | omega | (simp_all; done)))
            refine hKCb1 (addS ns o[i]) _ ?_ ?_
            · (try dsimp only); (rw [hst, if_pos hc7, namesP_snoc, hn])
            · refine Le.mk _ _ ?_ ?_ rfl <;> simp only [go_sem, ↓reduceIte, Nat.reduceEqDiff, reduceCtorEq, Nat.reduceAdd, Nat.reduceLT, Nat.reduceLeDiff, Nat.reduceBNe, Nat.reduceBEq, Int.reduceToNat] <;> (repeat' apply And.intro) <;> (try first | rfl | exact wk_frzb rfl rfl rfl | exact wk_fn rfl | exact .nilo _ _ _ rfl rfl | exact wk_frzm rfl rfl (fun kv hk => by obtain ⟨_, _, rfl⟩ := List.mem_map.1 hk; rfl))
          · simp only [decide_eq_true_eq, decide_eq_false_iff_not, Bool.and_eq_true, Bool.or_eq_true, Bool.not_eq_true', Bool.not_eq_false', Bool.and_eq_false_iff, Bool.or_eq_false_iff, Int.ofNat_lt, Int.ofNat_le, Nat.not_lt, Nat.not_le, Int.not_lt, Int.not_le] at hc7
            refine aw_skip ?_
            try simp only [go_sem, ↓reduceIte, Nat.reduceEqDiff, reduceCtorEq, Nat.reduceAdd, Nat.reduceLT, Nat.reduceLeDiff, Nat.reduceBNe, Nat.reduceBEq, Int.reduceToNat]
            refine hKCb1 (ns) _ ?_ ?_
            · (try dsimp only); (rw [hst, if_neg hc7, hn])
            · refine Le.mk _ _ ?_ ?_ rfl <;> simp only [go_sem, ↓reduceIte, Nat.reduceEqDiff, reduceCtorEq, Nat.reduceAdd, Nat.reduceLT, Nat.reduceLeDiff, Nat.reduceBNe, Nat.reduceBEq, Int.reduceToNat] <;> (repeat' apply And.intro) <;> (try first | rfl | exact wk_frzb rfl rfl rfl | exact wk_fn rfl | exact .nilo _ _ _ rfl rfl | exact wk_frzm rfl rfl (fun kv hk => by obtain ⟨_, _, rfl⟩ := List.mem_map.1 hk; rfl))
        · rintro ms hm
          refine aw_region (EF := EF0) hG (by rw [hN]; exact tr11_6) ?_
          simp only [a11_6, go_sem, ↓reduceIte, Nat.reduceEqDiff, reduceCtorEq, Nat.reduceAdd, Nat.reduceLT, Nat.reduceLeDiff, Nat.reduceBNe, Nat.reduceBEq, Int.reduceToNat, inI, trSh, fAdS_eq, fSum_eq']
          (repeat' apply And.intro) <;> (try first | omega | ((fail_if_success (refine (id : AW _ _ _ _ _ → AW _ _ _ _ _) ?_)); (fail_if_success (refine (id : EStep _ _ _ _ _ _ _ → EStep _ _ _ _ _ _ _) ?_)); intros; (repeat' apply And.intro) <;> first | assumption | omega | (simp_all; done)))
          refine hKL0 (i + 1, ms) _ ?_ ?_ ?_
          · (try dsimp only); exact ⟨hc5, hm⟩
          · (try dsimp only); omega
          · refine Le.mk _ _ ?_ ?_ rfl <;> simp only [go_sem, ↓reduceIte, Nat.reduceEqDiff, reduceCtorEq, Nat.reduceAdd, Nat.reduceLT, Nat.reduceLeDiff, Nat.reduceBNe, Nat.reduceBEq, Int.reduceToNat] <;> (repeat' apply And.intro) <;> (try first | rfl | exact wk_frzb rfl rfl rfl | exact wk_fn rfl | exact .nilo _ _ _ rfl rfl | exact wk_frzm rfl rfl (fun kv hk => by obtain ⟨_, _, rfl⟩ := List.mem_map.1 hk; rfl))
      · simp only [decide_eq_true_eq, decide_eq_false_iff_not, Bool.and_eq_true, Bool.or_eq_true, Bool.not_eq_true', Bool.not_eq_false', Bool.and_eq_false_iff, Bool.or_eq_false_iff, Int.ofNat_lt, Int.ofNat_le, Nat.not_lt, Nat.not_le, Int.not_lt, Int.not_le] at hc5
        obtain rfl : i = o.length := by omega
        obtain ⟨P, hP⟩ : ∃ P, P = prS t.coupons o o.length := ⟨_, rfl⟩
        rw [← hlen, ← hP] at hsM
        rw [← hP] at hn
        have hPl : P.length ≤ o.length := by rw [hP]; exact prS_len _ _ _
        have hnl : ns.length ≤ P.length := by rw [hn]; exact (namesP_inv P).2.2
        have huR : uR P = uRes ns (upGo (vals P) ns) := by unfold uR upP; rw [← hn]
        refine aw_exit ?_
        simp only [go_sem, ↓reduceIte, Nat.reduceEqDiff, reduceCtorEq, Nat.reduceAdd, Nat.reduceLT, Nat.reduceLeDiff, Nat.reduceBNe, Nat.reduceBEq, Int.reduceToNat]
        refine aw_seq (aw_region (EF := EF0) hG (by rw [hN]; exact tr11_9) ?_)
        simp only [a11_9, go_sem, ↓reduceIte, Nat.reduceEqDiff, reduceCtorEq, Nat.reduceAdd, Nat.reduceLT, Nat.reduceLeDiff, Nat.reduceBNe, Nat.reduceBEq, Int.reduceToNat, trSh, fAdS_eq, fSum_eq']
        refine aw_seq ?_
        refine aw_seq (aw_region (EF := EF0) hG (by rw [hN]; exact tr11_10) ?_)
        simp only [a11_10, go_sem, ↓reduceIte, Nat.reduceEqDiff, reduceCtorEq, Nat.reduceAdd, Nat.reduceLT, Nat.reduceLeDiff, Nat.reduceBNe, Nat.reduceBEq, Int.reduceToNat, trSh, fAdS_eq, fSum_eq']
        refine aw_block ?_
        refine aw_loop (α := Nat × (List Int)) (fun γ => (γ.1 ≤ ns.length) ∧ (upGo (vals P) ns = (upGo (vals P) (ns.drop γ.1)).map (γ.2 ++ ·)) ∧ (γ.2.length = γ.1)) (fun γ => ⟨mkE [(1, V.list (strs o) false), (2, V.ptr 2 0), (6, V.list (strs ns) false), (8, .own 94 γ.1), (9, .int .i64 γ.1)], mkH [(2, Ob.box 44 [V.int IntKind.i64 t.number, V.str t.locator, V.str t.person.last, V.str t.person.first, V.str t.person.type, V.list (List.map Coupon.enc t.coupons) false, V.int IntKind.i64 t.fare, V.list (List.map Charge.enc t.taxes) false, V.int IntKind.i64 t.total, V.int IntKind.i64 t.issued]), (94, .arr 51 2 ((List.zipWith Post.mk ns γ.2).map Post.enc))]⟩) (fun γ => ns.length - γ.1) (0, []) ⟨Nat.zero_le _, by simp, rfl⟩ ?_ ?_
        · refine Le.mk _ _ ?_ ?_ rfl <;> simp only [go_sem, ↓reduceIte, Nat.reduceEqDiff, reduceCtorEq, Nat.reduceAdd, Nat.reduceLT, Nat.reduceLeDiff, Nat.reduceBNe, Nat.reduceBEq, Int.reduceToNat, List.zipWith_nil_right, List.map_nil] <;> (repeat' apply And.intro) <;> (try first | rfl | exact wk_frzb rfl rfl rfl | exact wk_fn rfl | exact .nilo _ _ _ rfl rfl | exact wk_frzm rfl rfl (fun kv hk => by obtain ⟨_, _, rfl⟩ := List.mem_map.1 hk; rfl))
        · rintro ⟨k, xs⟩ ⟨hk, hu, hxl⟩ KL2 hKL2
          try dsimp only at *
          refine aw_seq ?_
          refine aw_seq (aw_region (EF := EF0) hG (by rw [hN]; exact tr11_11) ?_)
          simp only [a11_11, go_sem, ↓reduceIte, Nat.reduceEqDiff, reduceCtorEq, Nat.reduceAdd, Nat.reduceLT, Nat.reduceLeDiff, Nat.reduceBNe, Nat.reduceBEq, Int.reduceToNat, trSh, fAdS_eq, fSum_eq']
          refine aw_cond (b := _) rfl (fun hc11 => ?_) (fun hc11 => ?_)
          · simp only [decide_eq_true_eq, decide_eq_false_iff_not, Bool.and_eq_true, Bool.or_eq_true, Bool.not_eq_true', Bool.not_eq_false', Bool.and_eq_false_iff, Bool.or_eq_false_iff, Int.ofNat_lt, Int.ofNat_le, Nat.not_lt, Nat.not_le, Int.not_lt, Int.not_le] at hc11
            refine aw_skip ?_
            try simp only [go_sem, ↓reduceIte, Nat.reduceEqDiff, reduceCtorEq, Nat.reduceAdd, Nat.reduceLT, Nat.reduceLeDiff, Nat.reduceBNe, Nat.reduceBEq, Int.reduceToNat]
            refine aw_seq ?_
            refine aw_block ?_
            refine aw_seq (aw_region (EF := EF0) hG (by rw [hN]; exact tr11_13) ?_)
            simp only [a11_13, go_sem, ↓reduceIte, Nat.reduceEqDiff, reduceCtorEq, Nat.reduceAdd, Nat.reduceLT, Nat.reduceLeDiff, Nat.reduceBNe, Nat.reduceBEq, Int.reduceToNat, trSh, fAdS_eq, fSum_eq']
            refine aw_seq ?_
            refine aw_seq (aw_region (EF := EF0) hG (by rw [hN]; exact tr11_14) ?_)
            simp only [a11_14, go_sem, ↓reduceIte, Nat.reduceEqDiff, reduceCtorEq, Nat.reduceAdd, Nat.reduceLT, Nat.reduceLeDiff, Nat.reduceBNe, Nat.reduceBEq, Int.reduceToNat, trSh, fAdS_eq, fSum_eq']
            refine aw_block ?_
            refine aw_loop (α := Nat × (List Int)) (fun γ => (γ.1 ≤ o.length) ∧ (γ.2 = vals (prS t.coupons o γ.1) ns[k]) ∧ (γ.2.length ≤ γ.1)) (fun γ => ⟨mkE [(1, V.list (strs o) false), (2, V.ptr 2 0), (6, V.list (strs ns) false), (8, V.own 94 k), (9, V.int IntKind.i64 ↑k), (10, .own 77 γ.2.length), (11, .int .i64 γ.1)], mkH [(2, Ob.box 44 [V.int IntKind.i64 t.number, V.str t.locator, V.str t.person.last, V.str t.person.first, V.str t.person.type, V.list (List.map Coupon.enc t.coupons) false, V.int IntKind.i64 t.fare, V.list (List.map Charge.enc t.taxes) false, V.int IntKind.i64 t.total, V.int IntKind.i64 t.issued]), (77, .arr 3 1 (ints γ.2)), (94, Ob.arr 51 2 (List.map Post.enc (List.zipWith Post.mk ns xs)))]⟩) (fun γ => o.length - γ.1) (0, []) ⟨Nat.zero_le _, rfl, Nat.zero_le _⟩ ?_ ?_
            · refine Le.mk _ _ ?_ ?_ rfl <;> simp only [go_sem, ↓reduceIte, Nat.reduceEqDiff, reduceCtorEq, Nat.reduceAdd, Nat.reduceLT, Nat.reduceLeDiff, Nat.reduceBNe, Nat.reduceBEq, Int.reduceToNat, ints_nil] <;> (repeat' apply And.intro) <;> (try first | rfl | exact wk_frzb rfl rfl rfl | exact wk_fn rfl | exact .nilo _ _ _ rfl rfl | exact wk_frzm rfl rfl (fun kv hk => by obtain ⟨_, _, rfl⟩ := List.mem_map.1 hk; rfl))
            · rintro ⟨i, ys⟩ ⟨hi, hy, hyl⟩ KL4 hKL4
              try dsimp only at *
              refine aw_seq ?_
              refine aw_seq (aw_region (EF := EF0) hG (by rw [hN]; exact tr11_15) ?_)
              simp only [a11_15, go_sem, ↓reduceIte, Nat.reduceEqDiff, reduceCtorEq, Nat.reduceAdd, Nat.reduceLT, Nat.reduceLeDiff, Nat.reduceBNe, Nat.reduceBEq, Int.reduceToNat, trSh, fAdS_eq, fSum_eq']
              refine aw_cond (b := _) rfl (fun hc15 => ?_) (fun hc15 => ?_)
              · simp only [decide_eq_true_eq, decide_eq_false_iff_not, Bool.and_eq_true, Bool.or_eq_true, Bool.not_eq_true', Bool.not_eq_false', Bool.and_eq_false_iff, Bool.or_eq_false_iff, Int.ofNat_lt, Int.ofNat_le, Nat.not_lt, Nat.not_le, Int.not_lt, Int.not_le] at hc15
                refine aw_skip ?_
                try simp only [go_sem, ↓reduceIte, Nat.reduceEqDiff, reduceCtorEq, Nat.reduceAdd, Nat.reduceLT, Nat.reduceLeDiff, Nat.reduceBNe, Nat.reduceBEq, Int.reduceToNat]
                refine aw_seq ?_
                refine aw_block ?_
                have hic : i < t.coupons.length := by omega
                have hst : prS t.coupons o (i + 1) = if t.coupons[i].status = 5 then prS t.coupons o i ++ [(o[i], t.coupons[i].value)] else prS t.coupons o i := by rw [prS, List.getD_eq_getElem?_getD, List.getElem?_eq_getElem hic, List.getD_eq_getElem?_getD, List.getElem?_eq_getElem hc15]; rfl
                refine aw_seq (aw_regionD (EF := EF0) hG mixed (by rw [hN]; exact tr11_17) ok11_17 ?_)
                simp only [a11_17, d11_17, go_sem, ↓reduceIte, Nat.reduceEqDiff, reduceCtorEq, Nat.reduceAdd, Nat.reduceLT, Nat.reduceLeDiff, Nat.reduceBNe, Nat.reduceBEq, Int.reduceToNat, getD_mapd _ _ _ _ hic, hic, Coupon.enc, List.length_map, strs_getD _ _ _ hc15, hc15, strs_getD _ _ _ hc11, hc11, trSh, fAdS_eq, fSum_eq']
                (repeat' apply And.intro) <;> (try first | omega | ((fail_if_success (refine (id : AW _ _ _ _ _ → AW _ _ _ _ _) ?_)); (fail_if_success (refine (id : EStep _ _ _ _ _ _ _ → EStep _ _ _ _ _ _ _) ?_)); intros; (repeat' apply And.intro) <;> first | assumption | omega | (simp_all; done)))
                refine aw_cond (b := _) rfl (fun hb17 => ?_) (fun hb17 => ?_)
                · skip
                  have hb : t.coupons[i].status = 5 ∧ o[i] = ns[k] := by simpa using hb17
                  refine aw_region (EF := EF0) hG (by rw [hN]; exact tr11_18) ?_
                  simp only [a11_18, go_sem, ↓reduceIte, Nat.reduceEqDiff, reduceCtorEq, Nat.reduceAdd, Nat.reduceLT, Nat.reduceLeDiff, Nat.reduceBNe, Nat.reduceBEq, Int.reduceToNat, getD_mapd _ _ _ _ hic, hic, Coupon.enc, List.length_map, trSh, fAdS_eq, fSum_eq']
                  (repeat' apply And.intro) <;> (try first | omega | ((fail_if_success (refine (id : AW _ _ _ _ _ → AW _ _ _ _ _) ?_)); (fail_if_success (refine (id : EStep _ _ _ _ _ _ _ → EStep _ _ _ _ _ _ _) ?_)); intros; (repeat' apply And.intro) <;> first | assumption | omega | (simp_all; done)))
                  refine aw_region (EF := EF0) hG (by rw [hN]; exact tr11_16) ?_
                  simp only [a11_16, go_sem, ↓reduceIte, Nat.reduceEqDiff, reduceCtorEq, Nat.reduceAdd, Nat.reduceLT, Nat.reduceLeDiff, Nat.reduceBNe, Nat.reduceBEq, Int.reduceToNat, inI, trSh, fAdS_eq, fSum_eq']
                  (repeat' apply And.intro) <;> (try first | omega | ((fail_if_success (refine (id : AW _ _ _ _ _ → AW _ _ _ _ _) ?_)); (fail_if_success (refine (id : EStep _ _ _ _ _ _ _ → EStep _ _ _ _ _ _ _) ?_)); intros; (repeat' apply And.intro) <;> first | assumption | omega | (simp_all; done)))
                  refine hKL4 (i + 1, ys ++ [t.coupons[i].value]) _ ?_ ?_ ?_
                  · (try dsimp only); exact ⟨hc15, by rw [hst, if_pos hb.1, vals_app, if_pos hb.2, hy], by rw [List.length_append]; simp; omega⟩
                  · (try dsimp only); omega
                  · refine Le.mk _ _ ?_ ?_ rfl <;> simp only [go_sem, ↓reduceIte, Nat.reduceEqDiff, reduceCtorEq, Nat.reduceAdd, Nat.reduceLT, Nat.reduceLeDiff, Nat.reduceBNe, Nat.reduceBEq, Int.reduceToNat, ints_snoc, List.length_append, List.length_cons, List.length_nil] <;> (repeat' apply And.intro) <;> (try first | rfl | exact wk_frzb rfl rfl rfl | exact wk_fn rfl | exact .nilo _ _ _ rfl rfl | exact wk_frzm rfl rfl (fun kv hk => by obtain ⟨_, _, rfl⟩ := List.mem_map.1 hk; rfl))
                · skip
                  have hb : ¬(t.coupons[i].status = 5 ∧ o[i] = ns[k]) := fun h => by simp [h.1, h.2] at hb17
                  refine aw_skip ?_
                  try simp only [go_sem, ↓reduceIte, Nat.reduceEqDiff, reduceCtorEq, Nat.reduceAdd, Nat.reduceLT, Nat.reduceLeDiff, Nat.reduceBNe, Nat.reduceBEq, Int.reduceToNat]
                  refine aw_region (EF := EF0) hG (by rw [hN]; exact tr11_16) ?_
                  simp only [a11_16, go_sem, ↓reduceIte, Nat.reduceEqDiff, reduceCtorEq, Nat.reduceAdd, Nat.reduceLT, Nat.reduceLeDiff, Nat.reduceBNe, Nat.reduceBEq, Int.reduceToNat, inI, trSh, fAdS_eq, fSum_eq']
                  (repeat' apply And.intro) <;> (try first | omega | ((fail_if_success (refine (id : AW _ _ _ _ _ → AW _ _ _ _ _) ?_)); (fail_if_success (refine (id : EStep _ _ _ _ _ _ _ → EStep _ _ _ _ _ _ _) ?_)); intros; (repeat' apply And.intro) <;> first | assumption | omega | (simp_all; done)))
                  refine hKL4 (i + 1, ys) _ ?_ ?_ ?_
                  · (try dsimp only); exact ⟨hc15, by rw [hst]; split; (rename_i h5; rw [vals_app, if_neg (fun e => hb ⟨h5, e⟩)]; exact hy); exact hy, by omega⟩
                  · (try dsimp only); omega
                  · refine Le.mk _ _ ?_ ?_ rfl <;> simp only [go_sem, ↓reduceIte, Nat.reduceEqDiff, reduceCtorEq, Nat.reduceAdd, Nat.reduceLT, Nat.reduceLeDiff, Nat.reduceBNe, Nat.reduceBEq, Int.reduceToNat] <;> (repeat' apply And.intro) <;> (try first | rfl | exact wk_frzb rfl rfl rfl | exact wk_fn rfl | exact .nilo _ _ _ rfl rfl | exact wk_frzm rfl rfl (fun kv hk => by obtain ⟨_, _, rfl⟩ := List.mem_map.1 hk; rfl))
              · simp only [decide_eq_true_eq, decide_eq_false_iff_not, Bool.and_eq_true, Bool.or_eq_true, Bool.not_eq_true', Bool.not_eq_false', Bool.and_eq_false_iff, Bool.or_eq_false_iff, Int.ofNat_lt, Int.ofNat_le, Nat.not_lt, Nat.not_le, Int.not_lt, Int.not_le] at hc15
                obtain rfl : i = o.length := by omega
                rw [← hP] at hy
                obtain ⟨⟨n, e⟩, hne⟩ : ∃ y, sumF 0 ys = y := ⟨_, rfl⟩
                have hyl2 : ys.length ≤ 140737488355328 := by omega
                have herr := sumF_err ys 0
                have hne2 : sumF 0 (vals P ns[k]) = (n, e) := hy ▸ hne
                have hst := up_step (f := vals P) hc11 (xs := xs) hne2
                rw [hst] at hu
                rw [hne] at herr
                dsimp only at herr
                refine aw_exit ?_
                simp only [go_sem, ↓reduceIte, Nat.reduceEqDiff, reduceCtorEq, Nat.reduceAdd, Nat.reduceLT, Nat.reduceLeDiff, Nat.reduceBNe, Nat.reduceBEq, Int.reduceToNat]
                refine aw_seq (aw_region (EF := EF0) hG (by rw [hN]; exact tr11_19) ?_)
                simp only [a11_19, go_sem, ↓reduceIte, Nat.reduceEqDiff, reduceCtorEq, Nat.reduceAdd, Nat.reduceLT, Nat.reduceLeDiff, Nat.reduceBNe, Nat.reduceBEq, Int.reduceToNat, hne, hyl2, pairV, trSh, fAdS_eq, fSum_eq']
                (repeat' apply And.intro) <;> (try first | omega | ((fail_if_success (refine (id : AW _ _ _ _ _ → AW _ _ _ _ _) ?_)); (fail_if_success (refine (id : EStep _ _ _ _ _ _ _ → EStep _ _ _ _ _ _ _) ?_)); intros; (repeat' apply And.intro) <;> first | assumption | omega | (simp_all; done)))
                refine aw_seq ?_
                refine aw_seq (aw_region (EF := EF0) hG (by rw [hN]; exact tr11_20) ?_)
                simp only [a11_20, go_sem, ↓reduceIte, Nat.reduceEqDiff, reduceCtorEq, Nat.reduceAdd, Nat.reduceLT, Nat.reduceLeDiff, Nat.reduceBNe, Nat.reduceBEq, Int.reduceToNat, trSh, fAdS_eq, fSum_eq']
                refine aw_cond (b := _) rfl (fun hb20 => ?_) (fun hb20 => ?_)
                · skip
                  have he : e ≠ 0 := by simpa using hb20
                  rw [if_pos he] at hu
                  obtain rfl : e = 11 := by rcases herr with h | h; exact absurd h he; injection h
                  refine aw_seq (aw_region (EF := EF0) hG (by rw [hN]; exact tr11_21) ?_)
                  simp only [a11_21, go_sem, ↓reduceIte, Nat.reduceEqDiff, reduceCtorEq, Nat.reduceAdd, Nat.reduceLT, Nat.reduceLeDiff, Nat.reduceBNe, Nat.reduceBEq, Int.reduceToNat, trSh, fAdS_eq, fSum_eq']
                  refine AW.le (s' := ⟨mkE [(4, .list [] false), (5, .int .i64 11)], mkH []⟩) (Le.mk _ _ ?_ ?_ rfl) (aw_ret (hQ _ _ (.inl rfl) ?_ ?_ ?_)) <;> simp only [outφ, outV, AR.res, go_sem, ↓reduceIte, Nat.reduceEqDiff, reduceCtorEq, Nat.reduceAdd, Nat.reduceLT, Nat.reduceLeDiff, Nat.reduceBNe, Nat.reduceBEq, Int.reduceToNat, fShr, shrV, hsM, huR, hu, uRes, postsZ, List.zipWith_nil_left, List.map_nil]
                · skip
                  have he : e = 0 := by simpa using hb20
                  rw [if_neg (by simpa using he)] at hu
                  refine aw_skip ?_
                  try simp only [go_sem, ↓reduceIte, Nat.reduceEqDiff, reduceCtorEq, Nat.reduceAdd, Nat.reduceLT, Nat.reduceLeDiff, Nat.reduceBNe, Nat.reduceBEq, Int.reduceToNat]
                  have hzl : (List.zipWith Post.mk ns xs).length = k := by rw [List.length_zipWith]; omega
                  have hzs := zip_snoc Post.mk hxl hc11 n
                  refine aw_region (EF := EF0) hG (by rw [hN]; exact tr11_22) ?_
                  simp only [a11_22, go_sem, ↓reduceIte, Nat.reduceEqDiff, reduceCtorEq, Nat.reduceAdd, Nat.reduceLT, Nat.reduceLeDiff, Nat.reduceBNe, Nat.reduceBEq, Int.reduceToNat, strs_getD _ _ _ hc11, hc11, List.length_map, hzl, trSh, fAdS_eq, fSum_eq']
                  (repeat' apply And.intro) <;> (try first | omega | ((fail_if_success (refine (id : AW _ _ _ _ _ → AW _ _ _ _ _) ?_)); (fail_if_success (refine (id : EStep _ _ _ _ _ _ _ → EStep _ _ _ _ _ _ _) ?_)); intros; (repeat' apply And.intro) <;> first | assumption | omega | (simp_all; done)))
                  refine aw_region (EF := EF0) hG (by rw [hN]; exact tr11_12) ?_
                  simp only [a11_12, go_sem, ↓reduceIte, Nat.reduceEqDiff, reduceCtorEq, Nat.reduceAdd, Nat.reduceLT, Nat.reduceLeDiff, Nat.reduceBNe, Nat.reduceBEq, Int.reduceToNat, inI, trSh, fAdS_eq, fSum_eq']
                  (repeat' apply And.intro) <;> (try first | omega | ((fail_if_success (refine (id : AW _ _ _ _ _ → AW _ _ _ _ _) ?_)); (fail_if_success (refine (id : EStep _ _ _ _ _ _ _ → EStep _ _ _ _ _ _ _) ?_)); intros; (repeat' apply And.intro) <;> first | assumption | omega | (simp_all; done)))
                  refine hKL2 (k + 1, xs ++ [n]) _ ?_ ?_ ?_
                  · (try dsimp only); exact ⟨hc11, hu, by simp [hxl]⟩
                  · (try dsimp only); omega
                  · refine Le.mk _ _ ?_ ?_ rfl <;> simp only [go_sem, ↓reduceIte, Nat.reduceEqDiff, reduceCtorEq, Nat.reduceAdd, Nat.reduceLT, Nat.reduceLeDiff, Nat.reduceBNe, Nat.reduceBEq, Int.reduceToNat, hzs, List.map_append, List.map_cons, List.map_nil, Post.enc] <;> (repeat' apply And.intro) <;> (try first | rfl | exact wk_frzb rfl rfl rfl | exact wk_fn rfl | exact .nilo _ _ _ rfl rfl | exact wk_frzm rfl rfl (fun kv hk => by obtain ⟨_, _, rfl⟩ := List.mem_map.1 hk; rfl))
          · simp only [decide_eq_true_eq, decide_eq_false_iff_not, Bool.and_eq_true, Bool.or_eq_true, Bool.not_eq_true', Bool.not_eq_false', Bool.and_eq_false_iff, Bool.or_eq_false_iff, Int.ofNat_lt, Int.ofNat_le, Nat.not_lt, Nat.not_le, Int.not_lt, Int.not_le] at hc11
            obtain rfl : k = ns.length := by omega
            rw [List.drop_eq_nil_of_le (Nat.le_refl _), upGo, Option.map_some, List.append_nil] at hu
            have hzl : (List.zipWith Post.mk ns xs).length = ns.length := by rw [List.length_zipWith]; omega
            refine aw_exit ?_
            simp only [go_sem, ↓reduceIte, Nat.reduceEqDiff, reduceCtorEq, Nat.reduceAdd, Nat.reduceLT, Nat.reduceLeDiff, Nat.reduceBNe, Nat.reduceBEq, Int.reduceToNat]
            refine aw_seq (aw_region (EF := EF0) hG (by rw [hN]; exact tr11_23) ?_)
            simp only [a11_23, go_sem, ↓reduceIte, Nat.reduceEqDiff, reduceCtorEq, Nat.reduceAdd, Nat.reduceLT, Nat.reduceLeDiff, Nat.reduceBNe, Nat.reduceBEq, Int.reduceToNat, trSh, fAdS_eq, fSum_eq']
            refine AW.le (s' := ⟨mkE [(4, .list ((List.zipWith Post.mk ns xs).map Post.enc) false), (5, .int .i64 0)], mkH []⟩) (Le.mk _ _ ?_ ?_ rfl) (aw_ret (hQ _ _ (.inl rfl) ?_ ?_ ?_)) <;> simp only [outφ, outV, AR.res, go_sem, ↓reduceIte, Nat.reduceEqDiff, reduceCtorEq, Nat.reduceAdd, Nat.reduceLT, Nat.reduceLeDiff, Nat.reduceBNe, Nat.reduceBEq, Int.reduceToNat, fShr, shrV, hsM, huR, hu, uRes, postsZ]
            · exact wk_frz rfl (by rw [List.length_map]; exact hzl) rfl ((Post.purs _).2 trivial)
end Go.Proofs.Ytfjgnfgadkajnaa
/- Taxes of the reference. -/
namespace Go.Proofs.Ytfjgnfgadkajnaa
open Go Go.RowKit
set_option linter.unusedSimpArgs false
set_option linter.unusedVariables false
set_option linter.deprecated false
end Go.Proofs.Ytfjgnfgadkajnaa
