/- Shares and Taxes of the reference. -/
import Derived.Test.YtfjgnfgadkajnaaPr4
namespace Go.Proofs.Ytfjgnfgadkajnaa
open Go Go.RowKit
set_option linter.unusedSimpArgs false
set_option linter.unusedVariables false
set_option linter.deprecated false
def aAdS (x : List (List UInt8) × List UInt8) : List V := [.list (strs x.1) false, .str x.2]
theorem aAdS_inj (a b : List (List UInt8) × List UInt8) (h : aAdS a = aAdS b) : a = b := by
  obtain ⟨a_l, a_s⟩ := a
  obtain ⟨b_l, b_s⟩ := b
  simp only [aAdS, List.cons.injEq, V.str.injEq, V.int.injEq, V.bool.injEq, V.agg.injEq, V.list.injEq, and_true, true_and] at h
  obtain ⟨h0, h1⟩ := h
  replace h0 := strs_inj h0
  subst h0
  subst h1
  rfl
def fAdS (x : List (List UInt8) × List UInt8) : Prop × V := (x.1.length ≤ 100000, .list (strs (addS x.1 x.2)) false)
theorem fAdS_eq (l : List (List UInt8)) (s : List UInt8) : gOf aAdS fAdS [.list (strs l) false, .str s] = (l.length ≤ 100000, .list (strs (addS l s)) false) := gOf_eq aAdS_inj (l, s)
def insD (d : Bool) (l : List (List UInt8)) (s : List UInt8) : List (List UInt8) := if d then l else insS l s
def bN (d : Bool) : Nat := if d then 1 else 0
theorem bN_le (d : Bool) : bN d ≤ 1 := by cases d <;> decide
theorem addS_no {l : List (List UInt8)} {s : List UInt8} (h : ∀ x ∈ l, x ≠ s) : addS l s = insS l s := by
  unfold addS; rw [if_neg fun hm => h s hm rfl]
set_option maxHeartbeats 4000000 in
theorem radd39_p : PureC Try.prog UT 20 (gOf aAdS fAdS) := by
  have hG := tNo_ok
  refine PureC.ofArgs aAdS_inj Try.func20 body20 nm20 res20 ?_
  rintro ⟨l, s⟩ hv
  refine ⟨by rw [nt20]; simp [aAdS], fun C hN Q hQ => ?_⟩
  rw [nt20] at hN
  unfold c20
  replace hv : l.length ≤ 100000 := hv
  refine aw_seq (aw_region (EF := EF0) hG (by rw [hN]; exact tr20_0) ?_)
  simp only [a20_0, go_sem, ↓reduceIte, Nat.reduceEqDiff, reduceCtorEq, Nat.reduceAdd, Nat.reduceLT, Nat.reduceLeDiff, Nat.reduceBNe, Nat.reduceBEq, Int.reduceToNat, aAdS]
  refine aw_seq (aw_region (EF := EF0) hG (by rw [hN]; exact tr20_1) ?_)
  simp only [a20_1, go_sem, ↓reduceIte, Nat.reduceEqDiff, reduceCtorEq, Nat.reduceAdd, Nat.reduceLT, Nat.reduceLeDiff, Nat.reduceBNe, Nat.reduceBEq, Int.reduceToNat]
  refine aw_seq (aw_region (EF := EF0) hG (by rw [hN]; exact tr20_2) ?_)
  simp only [a20_2, go_sem, ↓reduceIte, Nat.reduceEqDiff, reduceCtorEq, Nat.reduceAdd, Nat.reduceLT, Nat.reduceLeDiff, Nat.reduceBNe, Nat.reduceBEq, Int.reduceToNat]
  refine aw_seq ?_
  refine aw_seq (aw_region (EF := EF0) hG (by rw [hN]; exact tr20_3) ?_)
  simp only [a20_3, go_sem, ↓reduceIte, Nat.reduceEqDiff, reduceCtorEq, Nat.reduceAdd, Nat.reduceLT, Nat.reduceLeDiff, Nat.reduceBNe, Nat.reduceBEq, Int.reduceToNat]
  refine aw_block ?_
  refine aw_loop (α := Nat × Bool × (List (List UInt8))) (fun γ => (γ.1 ≤ l.length) ∧ (∀ x ∈ l.take γ.1, x ≠ s) ∧ (insS l s = γ.2.2 ++ insD γ.2.1 (l.drop γ.1) s) ∧ (γ.2.2.length = γ.1 + bN γ.2.1)) (fun γ => ⟨mkE [(0, V.list (strs l) false), (1, V.str s), (5, .own 999 γ.2.2.length), (6, .bool γ.2.1), (7, .int .i64 γ.1)], mkH [(999, .arr 9 1 (strs γ.2.2))]⟩) (fun γ => l.length - γ.1) (0, false, []) ⟨Nat.zero_le _, fun x hx => by simp at hx, rfl, rfl⟩ ?_ ?_
  · refine Le.mk _ _ ?_ ?_ rfl <;> simp only [go_sem, ↓reduceIte, Nat.reduceEqDiff, reduceCtorEq, Nat.reduceAdd, Nat.reduceLT, Nat.reduceLeDiff, Nat.reduceBNe, Nat.reduceBEq, Int.reduceToNat] <;> (repeat' apply And.intro) <;> (try first | rfl | exact wk_frzb rfl rfl rfl | exact wk_fn rfl | exact .nilo _ _ _ rfl rfl | exact wk_frzm rfl rfl (fun kv hk => by obtain ⟨_, _, rfl⟩ := List.mem_map.1 hk; rfl))
  · rintro ⟨i, d, xs⟩ ⟨hi, hn, hx, hxl⟩ KL0 hKL0
    try dsimp only at *
    refine aw_seq ?_
    refine aw_seq (aw_region (EF := EF0) hG (by rw [hN]; exact tr20_4) ?_)
    simp only [a20_4, go_sem, ↓reduceIte, Nat.reduceEqDiff, reduceCtorEq, Nat.reduceAdd, Nat.reduceLT, Nat.reduceLeDiff, Nat.reduceBNe, Nat.reduceBEq, Int.reduceToNat]
    refine aw_cond (b := _) rfl (fun hc4 => ?_) (fun hc4 => ?_)
    · simp only [decide_eq_true_eq, decide_eq_false_iff_not, Bool.and_eq_true, Bool.or_eq_true, Bool.not_eq_true', Bool.not_eq_false', Bool.and_eq_false_iff, Bool.or_eq_false_iff, Int.ofNat_lt, Int.ofNat_le, Nat.not_lt, Nat.not_le, Int.not_lt, Int.not_le] at hc4
      refine aw_skip ?_
      try simp only [go_sem, ↓reduceIte, Nat.reduceEqDiff, reduceCtorEq, Nat.reduceAdd, Nat.reduceLT, Nat.reduceLeDiff, Nat.reduceBNe, Nat.reduceBEq, Int.reduceToNat]
      refine aw_seq ?_
      refine aw_block ?_
      refine aw_seq ?_
      have hd := List.drop_eq_getElem_cons hc4
      rw [hd] at hx
      obtain ⟨x, hxx⟩ : ∃ x, x = l[i] := ⟨_, rfl⟩
      rw [← hxx] at hx
      have hbd := bN_le d
      refine aw_seq (aw_region (EF := EF0) hG (by rw [hN]; exact tr20_6) ?_)
      simp only [a20_6, go_sem, ↓reduceIte, Nat.reduceEqDiff, reduceCtorEq, Nat.reduceAdd, Nat.reduceLT, Nat.reduceLeDiff, Nat.reduceBNe, Nat.reduceBEq, Int.reduceToNat, strs_getD _ _ _ hc4, hc4, ← hxx]
      (repeat' apply And.intro) <;> (try first | omega | ((fail_if_success (refine (id : AW _ _ _ _ _ → AW _ _ _ _ _) ?_)); (fail_if_success (refine (id : EStep _ _ _ _ _ _ _ → EStep _ _ _ _ _ _ _) ?_)); intros; (repeat' apply And.intro) <;> first | assumption | omega | (simp_all; done)))
      refine aw_cond (b := _) rfl (fun hb6 => ?_) (fun hb6 => ?_)
      · skip
        have he : addS l s = l := by unfold addS; rw [if_pos]; rw [← (show x = s by simpa using hb6), hxx]; exact List.getElem_mem hc4
        refine aw_seq (aw_region (EF := EF0) hG (by rw [hN]; exact tr20_7) ?_)
        simp only [a20_7, go_sem, ↓reduceIte, Nat.reduceEqDiff, reduceCtorEq, Nat.reduceAdd, Nat.reduceLT, Nat.reduceLeDiff, Nat.reduceBNe, Nat.reduceBEq, Int.reduceToNat]
        refine aw_ret ?_
        show Q _ _
        refine hQ _ _ (.inl rfl) ?_ ?_ ?_ <;> simp only [outφ, outV, AR.res, go_sem, ↓reduceIte, Nat.reduceEqDiff, reduceCtorEq, Nat.reduceAdd, Nat.reduceLT, Nat.reduceLeDiff, Nat.reduceBNe, Nat.reduceBEq, Int.reduceToNat, fAdS, he]
      · skip
        have he : x ≠ s := by simpa using hb6
        have hn2 := take_all (p := fun y => y ≠ s) hc4 hn (hxx ▸ he)
        refine aw_skip ?_
        try simp only [go_sem, ↓reduceIte, Nat.reduceEqDiff, reduceCtorEq, Nat.reduceAdd, Nat.reduceLT, Nat.reduceLeDiff, Nat.reduceBNe, Nat.reduceBEq, Int.reduceToNat]
        refine aw_cut (α := Bool × (List (List UInt8))) (fun γ => (insS l s = γ.2 ++ x :: insD γ.1 (l.drop (i + 1)) s) ∧ (γ.2.length = i + bN γ.1)) (fun γ => ⟨mkE [(0, V.list (strs l) false), (1, V.str s), (5, .own 999 γ.2.length), (6, .bool γ.1), (7, V.int IntKind.i64 ↑i)], mkH [(999, .arr 9 1 (strs γ.2))]⟩) ?_ ?_
        · intro KC8 hKC8
          refine aw_seq (aw_region (EF := EF0) hG (by rw [hN]; exact tr20_8) ?_)
          simp only [a20_8, go_sem, ↓reduceIte, Nat.reduceEqDiff, reduceCtorEq, Nat.reduceAdd, Nat.reduceLT, Nat.reduceLeDiff, Nat.reduceBNe, Nat.reduceBEq, Int.reduceToNat, strs_getD _ _ _ hc4, hc4, ← hxx]
          (repeat' apply And.intro) <;> (try first | omega | ((fail_if_success (refine (id : AW _ _ _ _ _ → AW _ _ _ _ _) ?_)); (fail_if_success (refine (id : EStep _ _ _ _ _ _ _ → EStep _ _ _ _ _ _ _) ?_)); intros; (repeat' apply And.intro) <;> first | assumption | omega | (simp_all; done)))
          refine aw_cond (b := _) rfl (fun hb8 => ?_) (fun hb8 => ?_)
          · skip
            have hb : slt s x = true ∧ d = false := by simpa using hb8
            refine aw_seq (aw_region (EF := EF0) hG (by rw [hN]; exact tr20_9) ?_)
            simp only [a20_9, go_sem, ↓reduceIte, Nat.reduceEqDiff, reduceCtorEq, Nat.reduceAdd, Nat.reduceLT, Nat.reduceLeDiff, Nat.reduceBNe, Nat.reduceBEq, Int.reduceToNat, strs_snoc]
            (repeat' apply And.intro) <;> (try first | omega | ((fail_if_success (refine (id : AW _ _ _ _ _ → AW _ _ _ _ _) ?_)); (fail_if_success (refine (id : EStep _ _ _ _ _ _ _ → EStep _ _ _ _ _ _ _) ?_)); intros; (repeat' apply And.intro) <;> first | assumption | omega | (simp_all; done)))
            refine aw_region (EF := EF0) hG (by rw [hN]; exact tr20_10) ?_
            simp only [a20_10, go_sem, ↓reduceIte, Nat.reduceEqDiff, reduceCtorEq, Nat.reduceAdd, Nat.reduceLT, Nat.reduceLeDiff, Nat.reduceBNe, Nat.reduceBEq, Int.reduceToNat]
            refine hKC8 (true, xs ++ [s]) _ ?_ ?_
            · (try dsimp only); (obtain ⟨h1, rfl⟩ := hb; exact ⟨by rw [hx, insD, if_neg (by decide), insS, if_pos h1, List.append_assoc]; rfl, by rw [List.length_append, hxl]; rfl⟩)
            · refine Le.mk _ _ ?_ ?_ rfl <;> simp only [go_sem, ↓reduceIte, Nat.reduceEqDiff, reduceCtorEq, Nat.reduceAdd, Nat.reduceLT, Nat.reduceLeDiff, Nat.reduceBNe, Nat.reduceBEq, Int.reduceToNat, List.length_append, List.length_cons, List.length_nil] <;> (repeat' apply And.intro) <;> (try first | rfl | exact wk_frzb rfl rfl rfl | exact wk_fn rfl | exact .nilo _ _ _ rfl rfl | exact wk_frzm rfl rfl (fun kv hk => by obtain ⟨_, _, rfl⟩ := List.mem_map.1 hk; rfl))
          · skip
            refine aw_skip ?_
            try simp only [go_sem, ↓reduceIte, Nat.reduceEqDiff, reduceCtorEq, Nat.reduceAdd, Nat.reduceLT, Nat.reduceLeDiff, Nat.reduceBNe, Nat.reduceBEq, Int.reduceToNat]
            refine hKC8 (d, xs) _ ?_ ?_
            · (try dsimp only); exact ⟨by rw [hx]; congr 1; cases d with | true => rfl | false => (have h1 : ¬ slt s x = true := (by simpa using hb8); rw [insD, if_neg (by decide), insS, if_neg h1]; rfl), hxl⟩
            · refine Le.mk _ _ ?_ ?_ rfl <;> simp only [go_sem, ↓reduceIte, Nat.reduceEqDiff, reduceCtorEq, Nat.reduceAdd, Nat.reduceLT, Nat.reduceLeDiff, Nat.reduceBNe, Nat.reduceBEq, Int.reduceToNat] <;> (repeat' apply And.intro) <;> (try first | rfl | exact wk_frzb rfl rfl rfl | exact wk_fn rfl | exact .nilo _ _ _ rfl rfl | exact wk_frzm rfl rfl (fun kv hk => by obtain ⟨_, _, rfl⟩ := List.mem_map.1 hk; rfl))
        · rintro ⟨d2, ys⟩ ⟨hy, hyl⟩
          try dsimp only at *
          have hbd2 := bN_le d2
          refine aw_region (EF := EF0) hG (by rw [hN]; exact tr20_11) ?_
          simp only [a20_11, go_sem, ↓reduceIte, Nat.reduceEqDiff, reduceCtorEq, Nat.reduceAdd, Nat.reduceLT, Nat.reduceLeDiff, Nat.reduceBNe, Nat.reduceBEq, Int.reduceToNat, strs_getD _ _ _ hc4, hc4, ← hxx, strs_snoc]
          refine ⟨by omega, ?_⟩
          refine aw_region (EF := EF0) hG (by rw [hN]; exact tr20_5) ?_
          simp only [a20_5, go_sem, ↓reduceIte, Nat.reduceEqDiff, reduceCtorEq, Nat.reduceAdd, Nat.reduceLT, Nat.reduceLeDiff, Nat.reduceBNe, Nat.reduceBEq, Int.reduceToNat, inI]
          refine ⟨by omega, ?_⟩
          refine hKL0 (i + 1, d2, ys ++ [x]) _ ?_ ?_ ?_
          · (try dsimp only); exact ⟨hc4, hn2, by rw [hy, List.append_assoc]; rfl, by rw [List.length_append, List.length_cons, List.length_nil]; omega⟩
          · (try dsimp only); omega
          · refine Le.mk _ _ ?_ ?_ rfl <;> simp only [go_sem, ↓reduceIte, Nat.reduceEqDiff, reduceCtorEq, Nat.reduceAdd, Nat.reduceLT, Nat.reduceLeDiff, Nat.reduceBNe, Nat.reduceBEq, Int.reduceToNat, List.length_append, List.length_cons, List.length_nil] <;> (repeat' apply And.intro) <;> (try first | rfl | exact wk_frzb rfl rfl rfl | exact wk_fn rfl | exact .nilo _ _ _ rfl rfl | exact wk_frzm rfl rfl (fun kv hk => by obtain ⟨_, _, rfl⟩ := List.mem_map.1 hk; rfl))
    · simp only [decide_eq_true_eq, decide_eq_false_iff_not, Bool.and_eq_true, Bool.or_eq_true, Bool.not_eq_true', Bool.not_eq_false', Bool.and_eq_false_iff, Bool.or_eq_false_iff, Int.ofNat_lt, Int.ofNat_le, Nat.not_lt, Nat.not_le, Int.not_lt, Int.not_le] at hc4
      rw [List.take_of_length_le hc4] at hn
      rw [List.drop_eq_nil_of_le hc4, ← addS_no hn] at hx
      refine aw_exit ?_
      simp only [go_sem, ↓reduceIte, Nat.reduceEqDiff, reduceCtorEq, Nat.reduceAdd, Nat.reduceLT, Nat.reduceLeDiff, Nat.reduceBNe, Nat.reduceBEq, Int.reduceToNat]
      refine aw_cut (α := (List (List UInt8))) (fun zs => (addS l s = zs)) (fun zs => ⟨mkE [(5, .own 999 zs.length)], mkH [(999, .arr 9 1 (strs zs))]⟩) ?_ ?_
      · intro KC12 hKC12
        refine aw_seq (aw_region (EF := EF0) hG (by rw [hN]; exact tr20_12) ?_)
        simp only [a20_12, go_sem, ↓reduceIte, Nat.reduceEqDiff, reduceCtorEq, Nat.reduceAdd, Nat.reduceLT, Nat.reduceLeDiff, Nat.reduceBNe, Nat.reduceBEq, Int.reduceToNat]
        refine aw_cond (b := _) rfl (fun hb12 => ?_) (fun hb12 => ?_)
        · skip
          have hbd := bN_le d
          refine aw_region (EF := EF0) hG (by rw [hN]; exact tr20_13) ?_
          simp only [a20_13, go_sem, ↓reduceIte, Nat.reduceEqDiff, reduceCtorEq, Nat.reduceAdd, Nat.reduceLT, Nat.reduceLeDiff, Nat.reduceBNe, Nat.reduceBEq, Int.reduceToNat]
          refine ⟨by omega, ?_⟩
          refine hKC12 (xs ++ [s]) _ ?_ ?_
          · (try dsimp only); (rw [hx, insD, if_neg (by simpa using hb12)]; rfl)
          · refine Le.mk _ _ ?_ ?_ rfl <;> simp only [go_sem, ↓reduceIte, Nat.reduceEqDiff, reduceCtorEq, Nat.reduceAdd, Nat.reduceLT, Nat.reduceLeDiff, Nat.reduceBNe, Nat.reduceBEq, Int.reduceToNat, strs_snoc, List.length_append, List.length_cons, List.length_nil] <;> (repeat' apply And.intro) <;> (try first | rfl | exact wk_frzb rfl rfl rfl | exact wk_fn rfl | exact .nilo _ _ _ rfl rfl | exact wk_frzm rfl rfl (fun kv hk => by obtain ⟨_, _, rfl⟩ := List.mem_map.1 hk; rfl))
        · skip
          refine aw_skip ?_
          try simp only [go_sem, ↓reduceIte, Nat.reduceEqDiff, reduceCtorEq, Nat.reduceAdd, Nat.reduceLT, Nat.reduceLeDiff, Nat.reduceBNe, Nat.reduceBEq, Int.reduceToNat]
          refine hKC12 (xs) _ ?_ ?_
          · (try dsimp only); (rw [hx, insD, if_pos (by simpa using hb12), List.append_nil])
          · refine Le.mk _ _ ?_ ?_ rfl <;> simp only [go_sem, ↓reduceIte, Nat.reduceEqDiff, reduceCtorEq, Nat.reduceAdd, Nat.reduceLT, Nat.reduceLeDiff, Nat.reduceBNe, Nat.reduceBEq, Int.reduceToNat] <;> (repeat' apply And.intro) <;> (try first | rfl | exact wk_frzb rfl rfl rfl | exact wk_fn rfl | exact .nilo _ _ _ rfl rfl | exact wk_frzm rfl rfl (fun kv hk => by obtain ⟨_, _, rfl⟩ := List.mem_map.1 hk; rfl))
      · rintro zs hz
        refine aw_seq (aw_region (EF := EF0) hG (by rw [hN]; exact tr20_14) ?_)
        simp only [a20_14, go_sem, ↓reduceIte, Nat.reduceEqDiff, reduceCtorEq, Nat.reduceAdd, Nat.reduceLT, Nat.reduceLeDiff, Nat.reduceBNe, Nat.reduceBEq, Int.reduceToNat]
        refine AW.le (s' := ⟨mkE [(4, .list (strs zs) false)], mkH []⟩) (Le.mk _ _ ?_ ?_ rfl) (aw_ret (hQ _ _ (.inl rfl) ?_ ?_ ?_)) <;> simp only [outφ, outV, AR.res, go_sem, ↓reduceIte, Nat.reduceEqDiff, reduceCtorEq, Nat.reduceAdd, Nat.reduceLT, Nat.reduceLeDiff, Nat.reduceBNe, Nat.reduceBEq, Int.reduceToNat, fAdS, hz]
        · exact wk_frz rfl (by rw [strs_len]) rfl (strs_pur _)
theorem zip_sn {α : Type} (f : List UInt8 → Int → α) : ∀ (ns : List (List UInt8)) (xs : List Int) (h : xs.length < ns.length) (n : Int), List.zipWith f ns (xs ++ [n]) = List.zipWith f ns xs ++ [f ns[xs.length] n]
  | a :: ns, [], _, n => by simp
  | a :: ns, x :: xs, h, n => by
    have := zip_sn f ns xs (by simpa using h) n
    simp only [List.cons_append, List.zipWith_cons_cons, this, List.length_cons, List.getElem_cons_succ]
theorem zip_snoc {α : Type} (f : List UInt8 → Int → α) {ns : List (List UInt8)} {xs : List Int} {k : Nat} (h : xs.length = k) (hk : k < ns.length) (n : Int) : List.zipWith f ns (xs ++ [n]) = List.zipWith f ns xs ++ [f ns[k] n] := by
  subst h; exact zip_sn f ns xs hk n
theorem up_step {f : List UInt8 → List Int} {ns : List (List UInt8)} {k : Nat} (hk : k < ns.length) {xs : List Int} {n e : Int} (hs : sumF 0 (f ns[k]) = (n, e)) : (upGo f (ns.drop k)).map (xs ++ ·) = if e ≠ 0 then none else (upGo f (ns.drop (k + 1))).map ((xs ++ [n]) ++ ·) := by
  rw [List.drop_eq_getElem_cons hk, upGo, hs]
  dsimp only
  split
  · rfl
  · rw [Option.map_map]; congr 1; funext z; simp
end Go.Proofs.Ytfjgnfgadkajnaa
/- Taxes of the reference. -/
namespace Go.Proofs.Ytfjgnfgadkajnaa
open Go Go.RowKit
set_option linter.unusedSimpArgs false
set_option linter.unusedVariables false
set_option linter.deprecated false
def allC (l : List Ticket) : List Charge := l.flatMap (·.taxes)
theorem allC_tx (l : List Ticket) : (allC l).map chP = txS l := by unfold allC txS; rw [List.map_flatMap]
theorem allC_step {l : List Ticket} {i : Nat} (h : i < l.length) : allC (l.take (i + 1)) = allC (l.take i) ++ l[i].taxes := by unfold allC; rw [take_succ' h, List.flatMap_append]; simp
noncomputable def trTax : Tab
  | 20 => (gOf aAdS fAdS)
  | 21 => (gOf aLi fSum)
  | _ => gNo
theorem trTax_ok : ∀ f, PureC Try.prog UT f (trTax f) := fun f => by
  unfold trTax
  split
  · exact radd39_p
  · exact rsum_p
  · exact PureC.no
set_option maxHeartbeats 8000000 in
theorem rtaxes_p : PureC Try.prog UT 13 (gOf aTax fTax) := by
  have hG := trTax_ok
  refine PureC.ofArgs aTax_inj Try.func13 body13 nm13 res13 ?_
  rintro l hv
  refine ⟨by rw [nt13]; simp [aTax], fun C hN Q hQ => ?_⟩
  rw [nt13] at hN
  unfold c13
  obtain ⟨hl, htx⟩ : TxOk l := hv
  have hsM : taxM l = (chargesZ (uR (txS l)), (uR (txS l)).2.2) := rfl
  refine aw_seq (aw_region (EF := EF0) hG (by rw [hN]; exact tr13_0) ?_)
  simp only [a13_0, go_sem, ↓reduceIte, Nat.reduceEqDiff, reduceCtorEq, Nat.reduceAdd, Nat.reduceLT, Nat.reduceLeDiff, Nat.reduceBNe, Nat.reduceBEq, Int.reduceToNat, aTax, trTax, fAdS_eq, fSum_eq']
  refine aw_seq (aw_region (EF := EF0) hG (by rw [hN]; exact tr13_1) ?_)
  simp only [a13_1, go_sem, ↓reduceIte, Nat.reduceEqDiff, reduceCtorEq, Nat.reduceAdd, Nat.reduceLT, Nat.reduceLeDiff, Nat.reduceBNe, Nat.reduceBEq, Int.reduceToNat, trTax, fAdS_eq, fSum_eq']
  refine aw_seq (aw_region (EF := EF0) hG (by rw [hN]; exact tr13_2) ?_)
  simp only [a13_2, go_sem, ↓reduceIte, Nat.reduceEqDiff, reduceCtorEq, Nat.reduceAdd, Nat.reduceLT, Nat.reduceLeDiff, Nat.reduceBNe, Nat.reduceBEq, Int.reduceToNat, trTax, fAdS_eq, fSum_eq']
  refine aw_seq ?_
  refine aw_seq (aw_region (EF := EF0) hG (by rw [hN]; exact tr13_3) ?_)
  simp only [a13_3, go_sem, ↓reduceIte, Nat.reduceEqDiff, reduceCtorEq, Nat.reduceAdd, Nat.reduceLT, Nat.reduceLeDiff, Nat.reduceBNe, Nat.reduceBEq, Int.reduceToNat, trTax, fAdS_eq, fSum_eq']
  refine aw_block ?_
  refine aw_loop (α := Nat × (List (List UInt8)) × (List Charge)) (fun γ => (γ.1 ≤ l.length) ∧ (γ.2.2 = allC (l.take γ.1)) ∧ (γ.2.1 = namesP (γ.2.2.map chP)) ∧ (γ.2.2.length ≤ 12 * γ.1)) (fun γ => ⟨mkE [(0, V.list (List.map Ticket.enc l) false), (4, .list (strs γ.2.1) false), (5, .own 51 γ.2.2.length), (6, .int .i64 γ.1)], mkH [(51, .arr 62 2 (γ.2.2.map Charge.enc))]⟩) (fun γ => l.length - γ.1) (0, [], []) ⟨Nat.zero_le _, rfl, rfl, Nat.zero_le _⟩ ?_ ?_
  · refine Le.mk _ _ ?_ ?_ rfl <;> simp only [go_sem, ↓reduceIte, Nat.reduceEqDiff, reduceCtorEq, Nat.reduceAdd, Nat.reduceLT, Nat.reduceLeDiff, Nat.reduceBNe, Nat.reduceBEq, Int.reduceToNat, strs_nil, List.map_nil] <;> (repeat' apply And.intro) <;> (try first | rfl | exact wk_frzb rfl rfl rfl | exact wk_fn rfl | exact .nilo _ _ _ rfl rfl | exact wk_frzm rfl rfl (fun kv hk => by obtain ⟨_, _, rfl⟩ := List.mem_map.1 hk; rfl))
  · rintro ⟨i, ns, cs⟩ ⟨hi, hc, hn, hcl⟩ KL0 hKL0
    try dsimp only at *
    skip
    refine aw_seq ?_
    refine aw_seq (aw_region (EF := EF0) hG (by rw [hN]; exact tr13_4) ?_)
    simp only [a13_4, go_sem, ↓reduceIte, Nat.reduceEqDiff, reduceCtorEq, Nat.reduceAdd, Nat.reduceLT, Nat.reduceLeDiff, Nat.reduceBNe, Nat.reduceBEq, Int.reduceToNat, List.length_map, trTax, fAdS_eq, fSum_eq']
    refine aw_cond (b := _) rfl (fun hc4 => ?_) (fun hc4 => ?_)
    · simp only [decide_eq_true_eq, decide_eq_false_iff_not, Bool.and_eq_true, Bool.or_eq_true, Bool.not_eq_true', Bool.not_eq_false', Bool.and_eq_false_iff, Bool.or_eq_false_iff, Int.ofNat_lt, Int.ofNat_le, Nat.not_lt, Nat.not_le, Int.not_lt, Int.not_le] at hc4
      have hst := allC_step hc4
      have hti := htx _ (List.getElem_mem hc4)
      refine aw_skip ?_
      try simp only [go_sem, ↓reduceIte, Nat.reduceEqDiff, reduceCtorEq, Nat.reduceAdd, Nat.reduceLT, Nat.reduceLeDiff, Nat.reduceBNe, Nat.reduceBEq, Int.reduceToNat]
      refine aw_seq ?_
      refine aw_block ?_
      refine aw_seq (aw_region (EF := EF0) hG (by rw [hN]; exact tr13_6) ?_)
      simp only [a13_6, go_sem, ↓reduceIte, Nat.reduceEqDiff, reduceCtorEq, Nat.reduceAdd, Nat.reduceLT, Nat.reduceLeDiff, Nat.reduceBNe, Nat.reduceBEq, Int.reduceToNat, trTax, fAdS_eq, fSum_eq']
      refine aw_block ?_
      refine aw_loop (α := Nat × (List (List UInt8)) × (List Charge)) (fun γ => (γ.1 ≤ l[i].taxes.length) ∧ (γ.2.2 = allC (l.take i) ++ l[i].taxes.take γ.1) ∧ (γ.2.1 = namesP (γ.2.2.map chP)) ∧ (γ.2.2.length ≤ 12 * i + γ.1)) (fun γ => ⟨mkE [(0, V.list (List.map Ticket.enc l) false), (4, .list (strs γ.2.1) false), (5, .own 51 γ.2.2.length), (6, V.int IntKind.i64 ↑i), (7, .int .i64 γ.1)], mkH [(51, .arr 62 2 (γ.2.2.map Charge.enc))]⟩) (fun γ => l[i].taxes.length - γ.1) (0, ns, cs) ⟨Nat.zero_le _, by rw [hc]; simp, hn, by omega⟩ ?_ ?_
      · refine Le.mk _ _ ?_ ?_ rfl <;> simp only [go_sem, ↓reduceIte, Nat.reduceEqDiff, reduceCtorEq, Nat.reduceAdd, Nat.reduceLT, Nat.reduceLeDiff, Nat.reduceBNe, Nat.reduceBEq, Int.reduceToNat] <;> (repeat' apply And.intro) <;> (try first | rfl | exact wk_frzb rfl rfl rfl | exact wk_fn rfl | exact .nilo _ _ _ rfl rfl | exact wk_frzm rfl rfl (fun kv hk => by obtain ⟨_, _, rfl⟩ := List.mem_map.1 hk; rfl))
      · rintro ⟨j, ns, cs⟩ ⟨hj, hc, hn, hcl⟩ KL2 hKL2
        try dsimp only at *
        refine aw_seq ?_
        refine aw_seq (aw_region (EF := EF0) hG (by rw [hN]; exact tr13_7) ?_)
        simp only [a13_7, go_sem, ↓reduceIte, Nat.reduceEqDiff, reduceCtorEq, Nat.reduceAdd, Nat.reduceLT, Nat.reduceLeDiff, Nat.reduceBNe, Nat.reduceBEq, Int.reduceToNat, getD_mapd _ _ _ _ hc4, hc4, Ticket.enc, List.length_map, trTax, fAdS_eq, fSum_eq']
        (repeat' apply And.intro) <;> (try first | omega | ((fail_if_success (refine (id : AW _ _ _ _ _ → AW _ _ _ _ _) ?_)); (fail_if_success (refine (id : EStep _ _ _ _ _ _ _ → EStep _ _ _ _ _ _ _) ?_)); intros; (repeat' apply And.intro) <;> first | assumption | omega | (simp_all; done)))
        refine aw_cond (b := _) rfl (fun hc7 => ?_) (fun hc7 => ?_)
        · simp only [decide_eq_true_eq, decide_eq_false_iff_not, Bool.and_eq_true, Bool.or_eq_true, Bool.not_eq_true', Bool.not_eq_false', Bool.and_eq_false_iff, Bool.or_eq_false_iff, Int.ofNat_lt, Int.ofNat_le, Nat.not_lt, Nat.not_le, Int.not_lt, Int.not_le] at hc7
          refine aw_skip ?_
          try simp only [go_sem, ↓reduceIte, Nat.reduceEqDiff, reduceCtorEq, Nat.reduceAdd, Nat.reduceLT, Nat.reduceLeDiff, Nat.reduceBNe, Nat.reduceBEq, Int.reduceToNat]
          refine aw_seq ?_
          refine aw_block ?_
          obtain ⟨c, hcc⟩ : ∃ c, c = l[i].taxes[j] := ⟨_, rfl⟩
          have hnl : ns.length ≤ 100000 := by rw [hn]; have := (namesP_inv (cs.map chP)).2.2; rw [List.length_map] at this; omega
          refine aw_seq (aw_region (EF := EF0) hG (by rw [hN]; exact tr13_9) ?_)
          simp only [a13_9, go_sem, ↓reduceIte, Nat.reduceEqDiff, reduceCtorEq, Nat.reduceAdd, Nat.reduceLT, Nat.reduceLeDiff, Nat.reduceBNe, Nat.reduceBEq, Int.reduceToNat, getD_mapd _ _ _ _ hc4, hc4, Ticket.enc, getD_mapd _ _ _ _ hc7, hc7, Charge.enc, ← hcc, List.length_map, hnl, trTax, fAdS_eq, fSum_eq']
          (repeat' apply And.intro) <;> (try first | omega | ((fail_if_success (refine (id : AW _ _ _ _ _ → AW _ _ _ _ _) ?_)); (fail_if_success (refine (id : EStep _ _ _ _ _ _ _ → EStep _ _ _ _ _ _ _) ?_)); intros; (repeat' apply And.intro) <;> first | assumption | omega | (simp_all; done)))
          refine aw_region (EF := EF0) hG (by rw [hN]; exact tr13_10) ?_
          simp only [a13_10, go_sem, ↓reduceIte, Nat.reduceEqDiff, reduceCtorEq, Nat.reduceAdd, Nat.reduceLT, Nat.reduceLeDiff, Nat.reduceBNe, Nat.reduceBEq, Int.reduceToNat, getD_mapd _ _ _ _ hc4, hc4, Ticket.enc, getD_mapd _ _ _ _ hc7, hc7, Charge.enc, ← hcc, List.length_map, trTax, fAdS_eq, fSum_eq']
          (repeat' apply And.intro) <;> (try first | omega | ((fail_if_success (refine (id : AW _ _ _ _ _ → AW _ _ _ _ _) ?_)); (fail_if_success (refine (id : EStep _ _ _ _ _ _ _ → EStep _ _ _ _ _ _ _) ?_)); intros; (repeat' apply And.intro) <;> first | assumption | omega | (simp_all; done)))
          refine aw_region (EF := EF0) hG (by rw [hN]; exact tr13_8) ?_
          simp only [a13_8, go_sem, ↓reduceIte, Nat.reduceEqDiff, reduceCtorEq, Nat.reduceAdd, Nat.reduceLT, Nat.reduceLeDiff, Nat.reduceBNe, Nat.reduceBEq, Int.reduceToNat, inI, trTax, fAdS_eq, fSum_eq']
          (repeat' apply And.intro) <;> (try first | omega | ((fail_if_success (refine (id : AW _ _ _ _ _ → AW _ _ _ _ _) ?_)); (fail_if_success (refine (id : EStep _ _ _ _ _ _ _ → EStep _ _ _ _ _ _ _) ?_)); intros; (repeat' apply And.intro) <;> first | assumption | omega | (simp_all; done)))
          refine hKL2 (j + 1, addS ns c.code, cs ++ [c]) _ ?_ ?_ ?_
          · (try dsimp only); exact ⟨hc7, by rw [hc, take_succ' hc7, hcc, List.append_assoc], by rw [List.map_append, List.map_cons, List.map_nil, namesP_snoc, ← hn]; rfl, by rw [List.length_append, List.length_cons, List.length_nil]; omega⟩
          · (try dsimp only); omega
          · refine Le.mk _ _ ?_ ?_ rfl <;> simp only [go_sem, ↓reduceIte, Nat.reduceEqDiff, reduceCtorEq, Nat.reduceAdd, Nat.reduceLT, Nat.reduceLeDiff, Nat.reduceBNe, Nat.reduceBEq, Int.reduceToNat, List.map_append, List.map_cons, List.map_nil, Charge.enc, List.length_append, List.length_cons, List.length_nil] <;> (repeat' apply And.intro) <;> (try first | rfl | exact wk_frzb rfl rfl rfl | exact wk_fn rfl | exact .nilo _ _ _ rfl rfl | exact wk_frzm rfl rfl (fun kv hk => by obtain ⟨_, _, rfl⟩ := List.mem_map.1 hk; rfl))
        · simp only [decide_eq_true_eq, decide_eq_false_iff_not, Bool.and_eq_true, Bool.or_eq_true, Bool.not_eq_true', Bool.not_eq_false', Bool.and_eq_false_iff, Bool.or_eq_false_iff, Int.ofNat_lt, Int.ofNat_le, Nat.not_lt, Nat.not_le, Int.not_lt, Int.not_le] at hc7
          refine aw_exit ?_
          simp only [go_sem, ↓reduceIte, Nat.reduceEqDiff, reduceCtorEq, Nat.reduceAdd, Nat.reduceLT, Nat.reduceLeDiff, Nat.reduceBNe, Nat.reduceBEq, Int.reduceToNat]
          refine aw_region (EF := EF0) hG (by rw [hN]; exact tr13_5) ?_
          simp only [a13_5, go_sem, ↓reduceIte, Nat.reduceEqDiff, reduceCtorEq, Nat.reduceAdd, Nat.reduceLT, Nat.reduceLeDiff, Nat.reduceBNe, Nat.reduceBEq, Int.reduceToNat, inI, trTax, fAdS_eq, fSum_eq']
          (repeat' apply And.intro) <;> (try first | omega | ((fail_if_success (refine (id : AW _ _ _ _ _ → AW _ _ _ _ _) ?_)); (fail_if_success (refine (id : EStep _ _ _ _ _ _ _ → EStep _ _ _ _ _ _ _) ?_)); intros; (repeat' apply And.intro) <;> first | assumption | omega | (simp_all; done)))
          refine hKL0 (i + 1, ns, cs) _ ?_ ?_ ?_
          · (try dsimp only); exact ⟨hc4, by rw [hst, hc, List.take_of_length_le (l := l[i].taxes) hc7], hn, by have := hti.1; omega⟩
          · (try dsimp only); omega
          · refine Le.mk _ _ ?_ ?_ rfl <;> simp only [go_sem, ↓reduceIte, Nat.reduceEqDiff, reduceCtorEq, Nat.reduceAdd, Nat.reduceLT, Nat.reduceLeDiff, Nat.reduceBNe, Nat.reduceBEq, Int.reduceToNat] <;> (repeat' apply And.intro) <;> (try first | rfl | exact wk_frzb rfl rfl rfl | exact wk_fn rfl | exact .nilo _ _ _ rfl rfl | exact wk_frzm rfl rfl (fun kv hk => by obtain ⟨_, _, rfl⟩ := List.mem_map.1 hk; rfl))
    · simp only [decide_eq_true_eq, decide_eq_false_iff_not, Bool.and_eq_true, Bool.or_eq_true, Bool.not_eq_true', Bool.not_eq_false', Bool.and_eq_false_iff, Bool.or_eq_false_iff, Int.ofNat_lt, Int.ofNat_le, Nat.not_lt, Nat.not_le, Int.not_lt, Int.not_le] at hc4
      rw [List.take_of_length_le hc4] at hc
      obtain ⟨P, hP⟩ : ∃ P, P = txS l := ⟨_, rfl⟩
      have hcP : cs.map chP = P := by rw [hc, allC_tx, hP]
      rw [hcP] at hn
      rw [← hP] at hsM
      have hPl : P.length = cs.length := by rw [← hcP, List.length_map]
      have hnl : ns.length ≤ P.length := by rw [hn]; exact (namesP_inv P).2.2
      have huR : uR P = uRes ns (upGo (vals P) ns) := by unfold uR upP; rw [← hn]
      clear hc
      refine aw_exit ?_
      simp only [go_sem, ↓reduceIte, Nat.reduceEqDiff, reduceCtorEq, Nat.reduceAdd, Nat.reduceLT, Nat.reduceLeDiff, Nat.reduceBNe, Nat.reduceBEq, Int.reduceToNat]
      refine aw_seq (aw_region (EF := EF0) hG (by rw [hN]; exact tr13_11) ?_)
      simp only [a13_11, go_sem, ↓reduceIte, Nat.reduceEqDiff, reduceCtorEq, Nat.reduceAdd, Nat.reduceLT, Nat.reduceLeDiff, Nat.reduceBNe, Nat.reduceBEq, Int.reduceToNat, trTax, fAdS_eq, fSum_eq']
      refine aw_seq ?_
      refine aw_seq (aw_region (EF := EF0) hG (by rw [hN]; exact tr13_12) ?_)
      simp only [a13_12, go_sem, ↓reduceIte, Nat.reduceEqDiff, reduceCtorEq, Nat.reduceAdd, Nat.reduceLT, Nat.reduceLeDiff, Nat.reduceBNe, Nat.reduceBEq, Int.reduceToNat, trTax, fAdS_eq, fSum_eq']
      refine aw_block ?_
      refine aw_loop (α := Nat × (List Int)) (fun γ => (γ.1 ≤ ns.length) ∧ (upGo (vals P) ns = (upGo (vals P) (ns.drop γ.1)).map (γ.2 ++ ·)) ∧ (γ.2.length = γ.1)) (fun γ => ⟨mkE [(4, V.list (strs ns) false), (5, V.own 51 cs.length), (8, .own 98 γ.1), (9, .int .i64 γ.1)], mkH [(51, Ob.arr 62 2 (List.map Charge.enc cs)), (98, .arr 62 2 ((List.zipWith Charge.mk ns γ.2).map Charge.enc))]⟩) (fun γ => ns.length - γ.1) (0, []) ⟨Nat.zero_le _, by simp, rfl⟩ ?_ ?_
      · refine Le.mk _ _ ?_ ?_ rfl <;> simp only [go_sem, ↓reduceIte, Nat.reduceEqDiff, reduceCtorEq, Nat.reduceAdd, Nat.reduceLT, Nat.reduceLeDiff, Nat.reduceBNe, Nat.reduceBEq, Int.reduceToNat, List.zipWith_nil_right, List.map_nil] <;> (repeat' apply And.intro) <;> (try first | rfl | exact wk_frzb rfl rfl rfl | exact wk_fn rfl | exact .nilo _ _ _ rfl rfl | exact wk_frzm rfl rfl (fun kv hk => by obtain ⟨_, _, rfl⟩ := List.mem_map.1 hk; rfl))
      · rintro ⟨k, xs⟩ ⟨hk, hu, hxl⟩ KL4 hKL4
        try dsimp only at *
        refine aw_seq ?_
        refine aw_seq (aw_region (EF := EF0) hG (by rw [hN]; exact tr13_13) ?_)
        simp only [a13_13, go_sem, ↓reduceIte, Nat.reduceEqDiff, reduceCtorEq, Nat.reduceAdd, Nat.reduceLT, Nat.reduceLeDiff, Nat.reduceBNe, Nat.reduceBEq, Int.reduceToNat, trTax, fAdS_eq, fSum_eq']
        refine aw_cond (b := _) rfl (fun hc13 => ?_) (fun hc13 => ?_)
        · simp only [decide_eq_true_eq, decide_eq_false_iff_not, Bool.and_eq_true, Bool.or_eq_true, Bool.not_eq_true', Bool.not_eq_false', Bool.and_eq_false_iff, Bool.or_eq_false_iff, Int.ofNat_lt, Int.ofNat_le, Nat.not_lt, Nat.not_le, Int.not_lt, Int.not_le] at hc13
          refine aw_skip ?_
          try simp only [go_sem, ↓reduceIte, Nat.reduceEqDiff, reduceCtorEq, Nat.reduceAdd, Nat.reduceLT, Nat.reduceLeDiff, Nat.reduceBNe, Nat.reduceBEq, Int.reduceToNat]
          refine aw_seq ?_
          refine aw_block ?_
          refine aw_seq (aw_region (EF := EF0) hG (by rw [hN]; exact tr13_15) ?_)
          simp only [a13_15, go_sem, ↓reduceIte, Nat.reduceEqDiff, reduceCtorEq, Nat.reduceAdd, Nat.reduceLT, Nat.reduceLeDiff, Nat.reduceBNe, Nat.reduceBEq, Int.reduceToNat, trTax, fAdS_eq, fSum_eq']
          refine aw_seq ?_
          refine aw_seq (aw_region (EF := EF0) hG (by rw [hN]; exact tr13_16) ?_)
          simp only [a13_16, go_sem, ↓reduceIte, Nat.reduceEqDiff, reduceCtorEq, Nat.reduceAdd, Nat.reduceLT, Nat.reduceLeDiff, Nat.reduceBNe, Nat.reduceBEq, Int.reduceToNat, trTax, fAdS_eq, fSum_eq']
          refine aw_block ?_
          refine aw_loop (α := Nat × (List Int)) (fun γ => (γ.1 ≤ cs.length) ∧ (γ.2 = vals ((cs.take γ.1).map chP) ns[k]) ∧ (γ.2.length ≤ γ.1)) (fun γ => ⟨mkE [(4, V.list (strs ns) false), (5, V.own 51 cs.length), (8, V.own 98 k), (9, V.int IntKind.i64 ↑k), (10, .own 81 γ.2.length), (11, .int .i64 γ.1)], mkH [(51, Ob.arr 62 2 (List.map Charge.enc cs)), (81, .arr 3 1 (ints γ.2)), (98, Ob.arr 62 2 (List.map Charge.enc (List.zipWith Charge.mk ns xs)))]⟩) (fun γ => cs.length - γ.1) (0, []) ⟨Nat.zero_le _, rfl, Nat.zero_le _⟩ ?_ ?_
          · refine Le.mk _ _ ?_ ?_ rfl <;> simp only [go_sem, ↓reduceIte, Nat.reduceEqDiff, reduceCtorEq, Nat.reduceAdd, Nat.reduceLT, Nat.reduceLeDiff, Nat.reduceBNe, Nat.reduceBEq, Int.reduceToNat, ints_nil] <;> (repeat' apply And.intro) <;> (try first | rfl | exact wk_frzb rfl rfl rfl | exact wk_fn rfl | exact .nilo _ _ _ rfl rfl | exact wk_frzm rfl rfl (fun kv hk => by obtain ⟨_, _, rfl⟩ := List.mem_map.1 hk; rfl))
          · rintro ⟨i, ys⟩ ⟨hi, hy, hyl⟩ KL6 hKL6
            try dsimp only at *
            refine aw_seq ?_
            refine aw_seq (aw_region (EF := EF0) hG (by rw [hN]; exact tr13_17) ?_)
            simp only [a13_17, go_sem, ↓reduceIte, Nat.reduceEqDiff, reduceCtorEq, Nat.reduceAdd, Nat.reduceLT, Nat.reduceLeDiff, Nat.reduceBNe, Nat.reduceBEq, Int.reduceToNat, List.length_map, trTax, fAdS_eq, fSum_eq']
            refine aw_cond (b := _) rfl (fun hc17 => ?_) (fun hc17 => ?_)
            · simp only [decide_eq_true_eq, decide_eq_false_iff_not, Bool.and_eq_true, Bool.or_eq_true, Bool.not_eq_true', Bool.not_eq_false', Bool.and_eq_false_iff, Bool.or_eq_false_iff, Int.ofNat_lt, Int.ofNat_le, Nat.not_lt, Nat.not_le, Int.not_lt, Int.not_le] at hc17
              refine aw_skip ?_
              try simp only [go_sem, ↓reduceIte, Nat.reduceEqDiff, reduceCtorEq, Nat.reduceAdd, Nat.reduceLT, Nat.reduceLeDiff, Nat.reduceBNe, Nat.reduceBEq, Int.reduceToNat]
              refine aw_seq ?_
              refine aw_block ?_
              have hst : (cs.take (i + 1)).map chP = (cs.take i).map chP ++ [chP cs[i]] := by rw [take_succ' hc17, List.map_append]; rfl
              refine aw_seq (aw_regionD (EF := EF0) hG mixed (by rw [hN]; exact tr13_19) ok13_19 ?_)
              simp only [a13_19, d13_19, go_sem, ↓reduceIte, Nat.reduceEqDiff, reduceCtorEq, Nat.reduceAdd, Nat.reduceLT, Nat.reduceLeDiff, Nat.reduceBNe, Nat.reduceBEq, Int.reduceToNat, getD_mapd _ _ _ _ hc17, hc17, Charge.enc, List.length_map, strs_getD _ _ _ hc13, hc13, trTax, fAdS_eq, fSum_eq']
              (repeat' apply And.intro) <;> (try first | omega | ((fail_if_success (refine (id : AW _ _ _ _ _ → AW _ _ _ _ _) ?_)); (fail_if_success (refine (id : EStep _ _ _ _ _ _ _ → EStep _ _ _ _ _ _ _) ?_)); intros; (repeat' apply And.intro) <;> first | assumption | omega | (simp_all; done)))
              refine aw_cond (b := _) rfl (fun hb19 => ?_) (fun hb19 => ?_)
              · skip
                have hb : cs[i].code = ns[k] := by simpa using hb19
                refine aw_region (EF := EF0) hG (by rw [hN]; exact tr13_20) ?_
                simp only [a13_20, go_sem, ↓reduceIte, Nat.reduceEqDiff, reduceCtorEq, Nat.reduceAdd, Nat.reduceLT, Nat.reduceLeDiff, Nat.reduceBNe, Nat.reduceBEq, Int.reduceToNat, getD_mapd _ _ _ _ hc17, hc17, Charge.enc, List.length_map, trTax, fAdS_eq, fSum_eq']
                (repeat' apply And.intro) <;> (try first | omega | ((fail_if_success (refine (id : AW _ _ _ _ _ → AW _ _ _ _ _) ?_)); (fail_if_success (refine (id : EStep _ _ _ _ _ _ _ → EStep _ _ _ _ _ _ _) ?_)); intros; (repeat' apply And.intro) <;> first | assumption | omega | (simp_all; done)))
                refine aw_region (EF := EF0) hG (by rw [hN]; exact tr13_18) ?_
                simp only [a13_18, go_sem, ↓reduceIte, Nat.reduceEqDiff, reduceCtorEq, Nat.reduceAdd, Nat.reduceLT, Nat.reduceLeDiff, Nat.reduceBNe, Nat.reduceBEq, Int.reduceToNat, inI, trTax, fAdS_eq, fSum_eq']
                (repeat' apply And.intro) <;> (try first | omega | ((fail_if_success (refine (id : AW _ _ _ _ _ → AW _ _ _ _ _) ?_)); (fail_if_success (refine (id : EStep _ _ _ _ _ _ _ → EStep _ _ _ _ _ _ _) ?_)); intros; (repeat' apply And.intro) <;> first | assumption | omega | (simp_all; done)))
                refine hKL6 (i + 1, ys ++ [cs[i].amount]) _ ?_ ?_ ?_
                · (try dsimp only); exact ⟨hc17, by rw [hst, vals_app, if_pos (show (chP cs[i]).1 = _ from hb), hy]; rfl, by rw [List.length_append]; simp; omega⟩
                · (try dsimp only); omega
                · refine Le.mk _ _ ?_ ?_ rfl <;> simp only [go_sem, ↓reduceIte, Nat.reduceEqDiff, reduceCtorEq, Nat.reduceAdd, Nat.reduceLT, Nat.reduceLeDiff, Nat.reduceBNe, Nat.reduceBEq, Int.reduceToNat, ints_snoc, List.length_append, List.length_cons, List.length_nil] <;> (repeat' apply And.intro) <;> (try first | rfl | exact wk_frzb rfl rfl rfl | exact wk_fn rfl | exact .nilo _ _ _ rfl rfl | exact wk_frzm rfl rfl (fun kv hk => by obtain ⟨_, _, rfl⟩ := List.mem_map.1 hk; rfl))
              · skip
                have hb0 : ¬ cs[i].code = ns[k] := by simpa using hb19
                have hb : ¬ (chP cs[i]).1 = ns[k] := hb0
                refine aw_skip ?_
                try simp only [go_sem, ↓reduceIte, Nat.reduceEqDiff, reduceCtorEq, Nat.reduceAdd, Nat.reduceLT, Nat.reduceLeDiff, Nat.reduceBNe, Nat.reduceBEq, Int.reduceToNat]
                refine aw_region (EF := EF0) hG (by rw [hN]; exact tr13_18) ?_
                simp only [a13_18, go_sem, ↓reduceIte, Nat.reduceEqDiff, reduceCtorEq, Nat.reduceAdd, Nat.reduceLT, Nat.reduceLeDiff, Nat.reduceBNe, Nat.reduceBEq, Int.reduceToNat, inI, trTax, fAdS_eq, fSum_eq']
                (repeat' apply And.intro) <;> (try first | omega | ((fail_if_success (refine (id : AW _ _ _ _ _ → AW _ _ _ _ _) ?_)); (fail_if_success (refine (id : EStep _ _ _ _ _ _ _ → EStep _ _ _ _ _ _ _) ?_)); intros; (repeat' apply And.intro) <;> first | assumption | omega | (simp_all; done)))
                refine hKL6 (i + 1, ys) _ ?_ ?_ ?_
                · (try dsimp only); exact ⟨hc17, by rw [hst, vals_app, if_neg hb]; exact hy, by omega⟩
                · (try dsimp only); omega
                · refine Le.mk _ _ ?_ ?_ rfl <;> simp only [go_sem, ↓reduceIte, Nat.reduceEqDiff, reduceCtorEq, Nat.reduceAdd, Nat.reduceLT, Nat.reduceLeDiff, Nat.reduceBNe, Nat.reduceBEq, Int.reduceToNat] <;> (repeat' apply And.intro) <;> (try first | rfl | exact wk_frzb rfl rfl rfl | exact wk_fn rfl | exact .nilo _ _ _ rfl rfl | exact wk_frzm rfl rfl (fun kv hk => by obtain ⟨_, _, rfl⟩ := List.mem_map.1 hk; rfl))
            · simp only [decide_eq_true_eq, decide_eq_false_iff_not, Bool.and_eq_true, Bool.or_eq_true, Bool.not_eq_true', Bool.not_eq_false', Bool.and_eq_false_iff, Bool.or_eq_false_iff, Int.ofNat_lt, Int.ofNat_le, Nat.not_lt, Nat.not_le, Int.not_lt, Int.not_le] at hc17
              obtain rfl : i = cs.length := by omega
              rw [List.take_length, hcP] at hy
              obtain ⟨⟨n, e⟩, hne⟩ : ∃ y, sumF 0 ys = y := ⟨_, rfl⟩
              have hyl2 : ys.length ≤ 140737488355328 := by omega
              have herr := sumF_err ys 0
              have hne2 : sumF 0 (vals P ns[k]) = (n, e) := hy ▸ hne
              have hst := up_step (f := vals P) hc13 (xs := xs) hne2
              rw [hst] at hu
              rw [hne] at herr
              dsimp only at herr
              refine aw_exit ?_
              simp only [go_sem, ↓reduceIte, Nat.reduceEqDiff, reduceCtorEq, Nat.reduceAdd, Nat.reduceLT, Nat.reduceLeDiff, Nat.reduceBNe, Nat.reduceBEq, Int.reduceToNat]
              refine aw_seq (aw_region (EF := EF0) hG (by rw [hN]; exact tr13_21) ?_)
              simp only [a13_21, go_sem, ↓reduceIte, Nat.reduceEqDiff, reduceCtorEq, Nat.reduceAdd, Nat.reduceLT, Nat.reduceLeDiff, Nat.reduceBNe, Nat.reduceBEq, Int.reduceToNat, hne, hyl2, pairV, trTax, fAdS_eq, fSum_eq']
              (repeat' apply And.intro) <;> (try first | omega | ((fail_if_success (refine (id : AW _ _ _ _ _ → AW _ _ _ _ _) ?_)); (fail_if_success (refine (id : EStep _ _ _ _ _ _ _ → EStep _ _ _ _ _ _ _) ?_)); intros; (repeat' apply And.intro) <;> first | assumption | omega | (simp_all; done)))
              refine aw_seq ?_
              refine aw_seq (aw_region (EF := EF0) hG (by rw [hN]; exact tr13_22) ?_)
              simp only [a13_22, go_sem, ↓reduceIte, Nat.reduceEqDiff, reduceCtorEq, Nat.reduceAdd, Nat.reduceLT, Nat.reduceLeDiff, Nat.reduceBNe, Nat.reduceBEq, Int.reduceToNat, trTax, fAdS_eq, fSum_eq']
              refine aw_cond (b := _) rfl (fun hb22 => ?_) (fun hb22 => ?_)
              · skip
                have he : e ≠ 0 := by simpa using hb22
                rw [if_pos he] at hu
                obtain rfl : e = 11 := by rcases herr with h | h; exact absurd h he; injection h
                refine aw_seq (aw_region (EF := EF0) hG (by rw [hN]; exact tr13_23) ?_)
                simp only [a13_23, go_sem, ↓reduceIte, Nat.reduceEqDiff, reduceCtorEq, Nat.reduceAdd, Nat.reduceLT, Nat.reduceLeDiff, Nat.reduceBNe, Nat.reduceBEq, Int.reduceToNat, trTax, fAdS_eq, fSum_eq']
                refine AW.le (s' := ⟨mkE [(2, .list [] false), (3, .int .i64 11)], mkH []⟩) (Le.mk _ _ ?_ ?_ rfl) (aw_ret (hQ _ _ (.inl rfl) ?_ ?_ ?_)) <;> simp only [outφ, outV, AR.res, go_sem, ↓reduceIte, Nat.reduceEqDiff, reduceCtorEq, Nat.reduceAdd, Nat.reduceLT, Nat.reduceLeDiff, Nat.reduceBNe, Nat.reduceBEq, Int.reduceToNat, fTax, txV, hsM, huR, hu, uRes, chargesZ, List.zipWith_nil_left, List.map_nil]
              · skip
                have he : e = 0 := by simpa using hb22
                rw [if_neg (by simpa using he)] at hu
                refine aw_skip ?_
                try simp only [go_sem, ↓reduceIte, Nat.reduceEqDiff, reduceCtorEq, Nat.reduceAdd, Nat.reduceLT, Nat.reduceLeDiff, Nat.reduceBNe, Nat.reduceBEq, Int.reduceToNat]
                have hzl : (List.zipWith Charge.mk ns xs).length = k := by rw [List.length_zipWith]; omega
                have hzs := zip_snoc Charge.mk hxl hc13 n
                refine aw_region (EF := EF0) hG (by rw [hN]; exact tr13_24) ?_
                simp only [a13_24, go_sem, ↓reduceIte, Nat.reduceEqDiff, reduceCtorEq, Nat.reduceAdd, Nat.reduceLT, Nat.reduceLeDiff, Nat.reduceBNe, Nat.reduceBEq, Int.reduceToNat, strs_getD _ _ _ hc13, hc13, List.length_map, hzl, trTax, fAdS_eq, fSum_eq']
                (repeat' apply And.intro) <;> (try first | omega | ((fail_if_success (refine (id : AW _ _ _ _ _ → AW _ _ _ _ _) ?_)); (fail_if_success (refine (id : EStep _ _ _ _ _ _ _ → EStep _ _ _ _ _ _ _) ?_)); intros; (repeat' apply And.intro) <;> first | assumption | omega | (simp_all; done)))
                refine aw_region (EF := EF0) hG (by rw [hN]; exact tr13_14) ?_
                simp only [a13_14, go_sem, ↓reduceIte, Nat.reduceEqDiff, reduceCtorEq, Nat.reduceAdd, Nat.reduceLT, Nat.reduceLeDiff, Nat.reduceBNe, Nat.reduceBEq, Int.reduceToNat, inI, trTax, fAdS_eq, fSum_eq']
                (repeat' apply And.intro) <;> (try first | omega | ((fail_if_success (refine (id : AW _ _ _ _ _ → AW _ _ _ _ _) ?_)); (fail_if_success (refine (id : EStep _ _ _ _ _ _ _ → EStep _ _ _ _ _ _ _) ?_)); intros; (repeat' apply And.intro) <;> first | assumption | omega | (simp_all; done)))
                refine hKL4 (k + 1, xs ++ [n]) _ ?_ ?_ ?_
                · (try dsimp only); exact ⟨hc13, hu, by simp [hxl]⟩
                · (try dsimp only); omega
                · refine Le.mk _ _ ?_ ?_ rfl <;> simp only [go_sem, ↓reduceIte, Nat.reduceEqDiff, reduceCtorEq, Nat.reduceAdd, Nat.reduceLT, Nat.reduceLeDiff, Nat.reduceBNe, Nat.reduceBEq, Int.reduceToNat, hzs, List.map_append, List.map_cons, List.map_nil, Charge.enc] <;> (repeat' apply And.intro) <;> (try first | rfl | exact wk_frzb rfl rfl rfl | exact wk_fn rfl | exact .nilo _ _ _ rfl rfl | exact wk_frzm rfl rfl (fun kv hk => by obtain ⟨_, _, rfl⟩ := List.mem_map.1 hk; rfl))
        · simp only [decide_eq_true_eq, decide_eq_false_iff_not, Bool.and_eq_true, Bool.or_eq_true, Bool.not_eq_true', Bool.not_eq_false', Bool.and_eq_false_iff, Bool.or_eq_false_iff, Int.ofNat_lt, Int.ofNat_le, Nat.not_lt, Nat.not_le, Int.not_lt, Int.not_le] at hc13
          obtain rfl : k = ns.length := by omega
          rw [List.drop_eq_nil_of_le (Nat.le_refl _), upGo, Option.map_some, List.append_nil] at hu
          have hzl : (List.zipWith Charge.mk ns xs).length = ns.length := by rw [List.length_zipWith]; omega
          refine aw_exit ?_
          simp only [go_sem, ↓reduceIte, Nat.reduceEqDiff, reduceCtorEq, Nat.reduceAdd, Nat.reduceLT, Nat.reduceLeDiff, Nat.reduceBNe, Nat.reduceBEq, Int.reduceToNat]
          refine aw_seq (aw_region (EF := EF0) hG (by rw [hN]; exact tr13_25) ?_)
          simp only [a13_25, go_sem, ↓reduceIte, Nat.reduceEqDiff, reduceCtorEq, Nat.reduceAdd, Nat.reduceLT, Nat.reduceLeDiff, Nat.reduceBNe, Nat.reduceBEq, Int.reduceToNat, trTax, fAdS_eq, fSum_eq']
          refine AW.le (s' := ⟨mkE [(2, .list ((List.zipWith Charge.mk ns xs).map Charge.enc) false), (3, .int .i64 0)], mkH []⟩) (Le.mk _ _ ?_ ?_ rfl) (aw_ret (hQ _ _ (.inl rfl) ?_ ?_ ?_)) <;> simp only [outφ, outV, AR.res, go_sem, ↓reduceIte, Nat.reduceEqDiff, reduceCtorEq, Nat.reduceAdd, Nat.reduceLT, Nat.reduceLeDiff, Nat.reduceBNe, Nat.reduceBEq, Int.reduceToNat, fTax, txV, hsM, huR, hu, uRes, chargesZ]
          · exact wk_frz rfl (by rw [List.length_map]; exact hzl) rfl ((Charge.purs _).2 trivial)
end Go.Proofs.Ytfjgnfgadkajnaa
