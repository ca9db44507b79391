/- Parse of both. -/
import Derived.Test.YtdjeodopibaebaaDoorMo11
namespace Go.Proofs.YtdjeodopibaebaaDoor
open Go Go.RowKit
set_option linter.unusedSimpArgs false
set_option linter.unusedVariables false
set_option linter.deprecated false
/-- The number that digits write, from a number on. -/
def valD (n : Int) : List UInt8 → Int
  | [] => n
  | c :: l => valD (10 * n + ((c.toNat : Int) - 48)) l
def capD (n : Int) : List UInt8 → Int
  | [] => n
  | c :: l => capD (min (10 * n + ((c.toNat : Int) - 48)) 1099511627777) l
theorem digB_iff {c : UInt8} : digB (c.toNat : Int) = true ↔ 48 ≤ (c.toNat : Int) ∧ (c.toNat : Int) ≤ 57 := by unfold digB; simp
theorem valD_mono : ∀ {l : List UInt8} {n : Int}, allB digB l = true → 0 ≤ n → n ≤ valD n l
  | [], n, _, _ => Int.le_refl _
  | c :: l, n, h, h0 => by
    simp only [allB, List.all_cons, Bool.and_eq_true] at h
    have h1 := digB_iff.1 h.1
    rw [valD]
    have := valD_mono (l := l) (n := 10 * n + ((c.toNat : Int) - 48)) h.2 (by omega)
    omega
theorem capD_val : ∀ {l : List UInt8} {n : Int}, allB digB l = true → 0 ≤ n → capD (min n 1099511627777) l = min (valD n l) 1099511627777
  | [], n, _, _ => rfl
  | c :: l, n, h, h0 => by
    simp only [allB, List.all_cons, Bool.and_eq_true] at h
    have h1 := digB_iff.1 h.1
    rw [capD, valD, ← capD_val (l := l) h.2 (by omega)]
    congr 1
    omega
theorem valD_app (n : Int) (a b : List UInt8) : valD n (a ++ b) = valD (valD n a) b := by
  induction a generalizing n with
  | nil => rfl
  | cons c a ih => rw [List.cons_append, valD, valD, ih]
/-- Without its sign. -/
def sgT (s : List UInt8) : Int × List UInt8 :=
  match s with
  | 45 :: t => (-1, t)
  | _ => (1, s)
def dig2 (t : List UInt8) : List UInt8 := t.take (t.length - 3) ++ t.drop (t.length - 2)
def badT (t : List UInt8) : Bool := decide (t.length < 4) || (!decide (((t.getD (t.length - 3) 0).toNat : Int) = 46) || ((decide (4 < t.length) && decide (((t.getD 0 0).toNat : Int) = 48)) || !allB digB (dig2 t)))
def parM (s : List UInt8) : Int × Int :=
  if badT (sgT s).2 || decide (s = [45, 48, 46, 48, 48]) then (0, 3) else if 1099511627776 < valD 0 (dig2 (sgT s).2) then (0, 11) else ((sgT s).1 * valD 0 (dig2 (sgT s).2), 0)
def fPar (s : List UInt8) : Prop × V := (s.length ≤ 140737488355328, pairV (parM s))
theorem fPar_eq (s : List UInt8) : gOf aS fPar [.str s] = (s.length ≤ 140737488355328, pairV (parM s)) := gOf_eq aS_inj s
/-! The program's digits. -/
def digs (s : List UInt8) : Bool := allB digB s && !decide (s = [])
def fDig (s : List UInt8) : Prop × V := (s.length ≤ 140737488355328, .bool (digs s))
theorem fDig_eq (s : List UInt8) : gOf aS fDig [.str s] = (s.length ≤ 140737488355328, .bool (digs s)) := gOf_eq aS_inj s
theorem digits_p : PureC Tryd.prog UT 40 (gOf aS fDig) := by
  have hG := tNo_ok
  refine PureC.ofArgs aS_inj Tryd.func40 body40 nm40 res40 ?_
  rintro s hv
  refine ⟨by rw [nt40]; simp [aS], fun C hN Q hQ => ?_⟩
  rw [nt40] at hN
  unfold c40
  replace hv : s.length ≤ 140737488355328 := hv
  refine aw_seq (aw_region (EF := EF0) hG (by rw [hN]; exact tr40_0) ?_)
  simp only [a40_0, go_sem, ↓reduceIte, Nat.reduceEqDiff, reduceCtorEq, Nat.reduceAdd, Nat.reduceLT, Nat.reduceLeDiff, Nat.reduceBNe, Nat.reduceBEq, Int.reduceToNat, aS, tNo]
  refine aw_seq ?_
  refine aw_seq (aw_region (EF := EF0) hG (by rw [hN]; exact tr40_1) ?_)
  simp only [a40_1, go_sem, ↓reduceIte, Nat.reduceEqDiff, reduceCtorEq, Nat.reduceAdd, Nat.reduceLT, Nat.reduceLeDiff, Nat.reduceBNe, Nat.reduceBEq, Int.reduceToNat, tNo]
  refine aw_block ?_
  refine aw_loop (α := Nat) (fun i => (i ≤ s.length) ∧ (allB digB (s.take i) = true)) (fun i => ⟨mkE [(0, V.str s), (5, V.int IntKind.i64 ↑s.length), (6, .int .i64 i)], mkH []⟩) (fun i => s.length - i) 0 ⟨Nat.zero_le _, rfl⟩ ?_ ?_
  · refine Le.mk _ _ ?_ ?_ rfl <;> simp only [go_sem, ↓reduceIte, Nat.reduceEqDiff, reduceCtorEq, Nat.reduceAdd, Nat.reduceLT, Nat.reduceLeDiff, Nat.reduceBNe, Nat.reduceBEq, Int.reduceToNat] <;> (repeat' apply And.intro) <;> (try first | rfl | exact wk_frzb rfl rfl rfl | exact wk_fn rfl | exact .nilo _ _ _ rfl rfl | exact wk_frzm rfl rfl (fun kv hk => by obtain ⟨_, _, rfl⟩ := List.mem_map.1 hk; rfl))
  · rintro i ⟨hi, hp⟩ KL0 hKL0
    try dsimp only at *
    refine aw_seq (aw_region (EF := EF0) hG (by rw [hN]; exact tr40_2) ?_)
    simp only [a40_2, go_sem, ↓reduceIte, Nat.reduceEqDiff, reduceCtorEq, Nat.reduceAdd, Nat.reduceLT, Nat.reduceLeDiff, Nat.reduceBNe, Nat.reduceBEq, Int.reduceToNat, tNo]
    refine aw_seq ?_
    refine aw_cond (b := _) rfl (fun hc2 => ?_) (fun hc2 => ?_)
    · simp only [decide_eq_true_eq, decide_eq_false_iff_not, Bool.and_eq_true, Bool.or_eq_true, Bool.not_eq_true', Bool.not_eq_false', Bool.and_eq_false_iff, Bool.or_eq_false_iff, Int.ofNat_lt, Int.ofNat_le, Nat.not_lt, Nat.not_le, Int.not_lt, Int.not_le] at hc2
      refine aw_skip ?_
      try simp only [go_sem, ↓reduceIte, Nat.reduceEqDiff, reduceCtorEq, Nat.reduceAdd, Nat.reduceLT, Nat.reduceLeDiff, Nat.reduceBNe, Nat.reduceBEq, Int.reduceToNat]
      refine aw_seq ?_
      refine aw_block ?_
      refine aw_seq (aw_region (EF := EF0) hG (by rw [hN]; exact tr40_3) ?_)
      simp only [a40_3, go_sem, ↓reduceIte, Nat.reduceEqDiff, reduceCtorEq, Nat.reduceAdd, Nat.reduceLT, Nat.reduceLeDiff, Nat.reduceBNe, Nat.reduceBEq, Int.reduceToNat, tNo]
      obtain ⟨c, hc⟩ : ∃ c, c = ((s.getD i 0).toNat : Int) := ⟨_, rfl⟩
      refine aw_seq (aw_region (EF := EF0) hG (by rw [hN]; exact tr40_4) ?_)
      simp only [a40_4, go_sem, ↓reduceIte, Nat.reduceEqDiff, reduceCtorEq, Nat.reduceAdd, Nat.reduceLT, Nat.reduceLeDiff, Nat.reduceBNe, Nat.reduceBEq, Int.reduceToNat, ← hc, tNo]
      (repeat' apply And.intro) <;> (try first | omega | ((fail_if_success (refine (id : AW _ _ _ _ _ → AW _ _ _ _ _) ?_)); (fail_if_success (refine (id : EStep _ _ _ _ _ _ _ → EStep _ _ _ _ _ _ _) ?_)); intros; (repeat' apply And.intro) <;> first | assumption | omega | (simp_all; done)))
      refine aw_cond (b := _) rfl (fun hb4 => ?_) (fun hb4 => ?_)
      · skip
        have hdg : digB ((s.getD i 0).toNat : Int) = false := by rw [← hc]; unfold digB; simp at hb4 ⊢; omega
        refine aw_seq (aw_region (EF := EF0) hG (by rw [hN]; exact tr40_5) ?_)
        simp only [a40_5, go_sem, ↓reduceIte, Nat.reduceEqDiff, reduceCtorEq, Nat.reduceAdd, Nat.reduceLT, Nat.reduceLeDiff, Nat.reduceBNe, Nat.reduceBEq, Int.reduceToNat, tNo]
        refine aw_ret ?_
        show Q _ _
        refine hQ _ _ (.inl rfl) ?_ ?_ ?_ <;> simp only [outφ, outV, AR.res, go_sem, ↓reduceIte, Nat.reduceEqDiff, reduceCtorEq, Nat.reduceAdd, Nat.reduceLT, Nat.reduceLeDiff, Nat.reduceBNe, Nat.reduceBEq, Int.reduceToNat, fDig]
        unfold digs; rw [allB_no hc2 hdg]; rfl
      · skip
        have hdg : digB ((s.getD i 0).toNat : Int) = true := by rw [← hc]; unfold digB; simp at hb4 ⊢; omega
        refine aw_skip ?_
        try simp only [go_sem, ↓reduceIte, Nat.reduceEqDiff, reduceCtorEq, Nat.reduceAdd, Nat.reduceLT, Nat.reduceLeDiff, Nat.reduceBNe, Nat.reduceBEq, Int.reduceToNat]
        refine aw_region (EF := EF0) hG (by rw [hN]; exact tr40_6) ?_
        simp only [a40_6, go_sem, ↓reduceIte, Nat.reduceEqDiff, reduceCtorEq, Nat.reduceAdd, Nat.reduceLT, Nat.reduceLeDiff, Nat.reduceBNe, Nat.reduceBEq, Int.reduceToNat, inI, tNo]
        (repeat' apply And.intro) <;> (try first | omega | ((fail_if_success (refine (id : AW _ _ _ _ _ → AW _ _ _ _ _) ?_)); (fail_if_success (refine (id : EStep _ _ _ _ _ _ _ → EStep _ _ _ _ _ _ _) ?_)); intros; (repeat' apply And.intro) <;> first | assumption | omega | (simp_all; done)))
        refine hKL0 (i + 1) _ ?_ ?_ ?_
        · (try dsimp only); exact ⟨hc2, allB_step hc2 hp hdg⟩
        · (try dsimp only); omega
        · refine Le.mk _ _ ?_ ?_ rfl <;> simp only [go_sem, ↓reduceIte, Nat.reduceEqDiff, reduceCtorEq, Nat.reduceAdd, Nat.reduceLT, Nat.reduceLeDiff, Nat.reduceBNe, Nat.reduceBEq, Int.reduceToNat] <;> (repeat' apply And.intro) <;> (try first | rfl | exact wk_frzb rfl rfl rfl | exact wk_fn rfl | exact .nilo _ _ _ rfl rfl | exact wk_frzm rfl rfl (fun kv hk => by obtain ⟨_, _, rfl⟩ := List.mem_map.1 hk; rfl))
    · simp only [decide_eq_true_eq, decide_eq_false_iff_not, Bool.and_eq_true, Bool.or_eq_true, Bool.not_eq_true', Bool.not_eq_false', Bool.and_eq_false_iff, Bool.or_eq_false_iff, Int.ofNat_lt, Int.ofNat_le, Nat.not_lt, Nat.not_le, Int.not_lt, Int.not_le] at hc2
      refine aw_exit ?_
      simp only [go_sem, ↓reduceIte, Nat.reduceEqDiff, reduceCtorEq, Nat.reduceAdd, Nat.reduceLT, Nat.reduceLeDiff, Nat.reduceBNe, Nat.reduceBEq, Int.reduceToNat]
      refine aw_seq (aw_region (EF := EF0) hG (by rw [hN]; exact tr40_7) ?_)
      simp only [a40_7, go_sem, ↓reduceIte, Nat.reduceEqDiff, reduceCtorEq, Nat.reduceAdd, Nat.reduceLT, Nat.reduceLeDiff, Nat.reduceBNe, Nat.reduceBEq, Int.reduceToNat, tNo]
      refine aw_ret ?_
      show Q _ _
      refine hQ _ _ (.inl rfl) ?_ ?_ ?_ <;> simp only [outφ, outV, AR.res, go_sem, ↓reduceIte, Nat.reduceEqDiff, reduceCtorEq, Nat.reduceAdd, Nat.reduceLT, Nat.reduceLeDiff, Nat.reduceBNe, Nat.reduceBEq, Int.reduceToNat, fDig]
      unfold digs; rw [allB_end (by omega) hp]; rfl
theorem bytesV_getD {l : List UInt8} {i : Nat} {d : List V} (h : i < l.length) : (bytesV l).getD i d = [.int .u8 ((l.getD i 0).toNat : Int)] := by
  unfold bytesV
  rw [List.getD_eq_getElem?_getD, List.getElem?_map, List.getD_eq_getElem?_getD, List.getElem?_eq_getElem h]; rfl
theorem bytesV_oneT (l : List UInt8) : (∀ r ∈ bytesV l, r.length = 1) ↔ True := iff_true_intro fun r hr => by obtain ⟨x, _, rfl⟩ := List.mem_map.1 hr; rfl
attribute [go_sem] bytesV_len bytesV_oneT
theorem sgT_neg {s : List UInt8} (h : s ≠ []) (h2 : ((s.getD 0 0).toNat : Int) = 45) : sgT s = (-1, s.drop 1) := by
  match s, h with
  | c :: t, _ =>
    have e : c = 45 := by
      have : c.toNat = 45 := by have h3 : ((c.toNat : Nat) : Int) = 45 := by simpa using h2
                                omega
      exact UInt8.toNat_inj.1 this
    subst e; rfl
theorem sgT_pos {s : List UInt8} (h : s = [] ∨ ((s.getD 0 0).toNat : Int) ≠ 45) : sgT s = (1, s) := by
  match s, h with
  | [], _ => rfl
  | c :: t, h =>
    unfold sgT
    split
    · rename_i c2 e
      injection e with e1 e2
      subst e1
      rcases h with h | h
      · cases h
      · exact absurd rfl h
    · rfl
theorem allB_app (p : Int → Bool) (a b : List UInt8) : allB p (a ++ b) = (allB p a && allB p b) := by unfold allB; rw [List.all_append]
theorem bad_dig {t : List UInt8} (h : badT t = false) : allB digB (dig2 t) = true := by
  unfold badT at h
  simp only [Bool.or_eq_false_iff, Bool.not_eq_false'] at h
  exact h.2.2.2
theorem bad_code {t : List UInt8} (h4 : 4 ≤ t.length) (s : List UInt8) :
    (!decide (((t.getD (t.length - 3) 0).toNat : Int) = 46) || !digs (t.take (t.length - 3)) || !digs (t.drop (t.length - 2)) || decide (1 < (t.length : Int) - 3) && decide (((t.getD 0 0).toNat : Int) = 48) || decide (s = [45, 48, 46, 48, 48])) = (badT t || decide (s = [45, 48, 46, 48, 48])) := by
  have n1 : decide (t.take (t.length - 3) = []) = false := decide_eq_false fun e => by have := congrArg List.length e; rw [List.length_take, List.length_nil] at this; omega
  have n2 : decide (t.drop (t.length - 2) = []) = false := decide_eq_false fun e => by have := congrArg List.length e; rw [List.length_drop, List.length_nil] at this; omega
  have n3 : decide (1 < (t.length : Int) - 3) = decide (4 < t.length) := decide_eq_decide.2 (by omega)
  unfold badT digs dig2
  rw [allB_app, n1, n2, n3, decide_eq_false (show ¬ t.length < 4 by omega)]
  generalize decide (((t.getD (t.length - 3) 0).toNat : Int) = 46) = p
  generalize allB digB (t.take (t.length - 3)) = x
  generalize allB digB (t.drop (t.length - 2)) = y
  generalize decide (4 < t.length) = q
  generalize decide (((t.getD 0 0).toNat : Int) = 48) = z
  cases p <;> cases x <;> cases y <;> cases q <;> cases z <;> rfl
noncomputable def tPar : Tab
  | 40 => (gOf aS fDig)
  | _ => gNo
theorem tPar_ok : ∀ f, PureC Tryd.prog UT f (tPar f) := fun f => by
  unfold tPar
  split
  · exact digits_p
  · exact PureC.no
set_option maxHeartbeats 4000000 in
theorem parse_p : PureC Tryd.prog UT 23 (gOf aS fPar) := by
  have hG := tPar_ok
  refine PureC.ofArgs aS_inj Tryd.func23 body23 nm23 res23 ?_
  rintro s hv
  refine ⟨by rw [nt23]; simp [aS], fun C hN Q hQ => ?_⟩
  rw [nt23] at hN
  unfold c23
  replace hv : s.length ≤ 140737488355328 := hv
  refine aw_seq (aw_region (EF := EF0) hG (by rw [hN]; exact tr23_0) ?_)
  simp only [a23_0, go_sem, ↓reduceIte, Nat.reduceEqDiff, reduceCtorEq, Nat.reduceAdd, Nat.reduceLT, Nat.reduceLeDiff, Nat.reduceBNe, Nat.reduceBEq, Int.reduceToNat, aS, tPar, fDig_eq]
  refine aw_seq (aw_region (EF := EF0) hG (by rw [hN]; exact tr23_1) ?_)
  simp only [a23_1, go_sem, ↓reduceIte, Nat.reduceEqDiff, reduceCtorEq, Nat.reduceAdd, Nat.reduceLT, Nat.reduceLeDiff, Nat.reduceBNe, Nat.reduceBEq, Int.reduceToNat, tPar, fDig_eq]
  refine aw_cut (α := Int × (List UInt8)) (fun γ => (sgT s = (γ.1, γ.2)) ∧ (γ.2.length ≤ s.length) ∧ (γ.1 = 1 ∨ γ.1 = -1)) (fun γ => ⟨mkE [(0, V.str s), (4, .int .i64 γ.1), (5, .str γ.2)], mkH []⟩) ?_ ?_
  · intro KC2 hKC2
    refine aw_seq (aw_region (EF := EF0) hG (by rw [hN]; exact tr23_2) ?_)
    simp only [a23_2, go_sem, ↓reduceIte, Nat.reduceEqDiff, reduceCtorEq, Nat.reduceAdd, Nat.reduceLT, Nat.reduceLeDiff, Nat.reduceBNe, Nat.reduceBEq, Int.reduceToNat, tPar, fDig_eq]
    (repeat' apply And.intro) <;> (try first | omega | ((fail_if_success (refine (id : AW _ _ _ _ _ → AW _ _ _ _ _) ?_)); (fail_if_success (refine (id : EStep _ _ _ _ _ _ _ → EStep _ _ _ _ _ _ _) ?_)); intros; (repeat' apply And.intro) <;> first | assumption | omega | (simp_all; done)) | (intro h2; refine ⟨h2, Int.le_refl _, ?_⟩; have h3 : s ≠ [] := (by simpa using h2); have h4 := List.length_pos_iff.2 h3; omega))
    refine aw_cond (b := _) rfl (fun hb2 => ?_) (fun hb2 => ?_)
    · skip
      have hb3 : s ≠ [] ∧ ((s.getD 0 0).toNat : Int) = 45 := by simpa using hb2
      have hlen := List.length_pos_iff.2 hb3.1
      refine aw_regionD (EF := EF0) hG mixed (by rw [hN]; exact tr23_3) ok23_3 ?_
      simp only [a23_3, d23_3, go_sem, ↓reduceIte, Nat.reduceEqDiff, reduceCtorEq, Nat.reduceAdd, Nat.reduceLT, Nat.reduceLeDiff, Nat.reduceBNe, Nat.reduceBEq, Int.reduceToNat, List.take_length, tPar, fDig_eq]
      (repeat' apply And.intro) <;> (try first | omega | ((fail_if_success (refine (id : AW _ _ _ _ _ → AW _ _ _ _ _) ?_)); (fail_if_success (refine (id : EStep _ _ _ _ _ _ _ → EStep _ _ _ _ _ _ _) ?_)); intros; (repeat' apply And.intro) <;> first | assumption | omega | (simp_all; done)))
      refine hKC2 (-1, s.drop 1) _ ?_ ?_
      · (try dsimp only); exact ⟨sgT_neg hb3.1 hb3.2, by rw [List.length_drop]; omega, .inr rfl⟩
      · refine Le.mk _ _ ?_ ?_ rfl <;> simp only [go_sem, ↓reduceIte, Nat.reduceEqDiff, reduceCtorEq, Nat.reduceAdd, Nat.reduceLT, Nat.reduceLeDiff, Nat.reduceBNe, Nat.reduceBEq, Int.reduceToNat] <;> (repeat' apply And.intro) <;> (try first | rfl | exact wk_frzb rfl rfl rfl | exact wk_fn rfl | exact .nilo _ _ _ rfl rfl | exact wk_frzm rfl rfl (fun kv hk => by obtain ⟨_, _, rfl⟩ := List.mem_map.1 hk; rfl))
    · skip
      have hb3 : s = [] ∨ ((s.getD 0 0).toNat : Int) ≠ 45 := by simp only [Bool.and_eq_false_iff, Bool.not_eq_false', decide_eq_true_eq, decide_eq_false_iff_not] at hb2; exact hb2
      refine aw_skip ?_
      try simp only [go_sem, ↓reduceIte, Nat.reduceEqDiff, reduceCtorEq, Nat.reduceAdd, Nat.reduceLT, Nat.reduceLeDiff, Nat.reduceBNe, Nat.reduceBEq, Int.reduceToNat]
      refine hKC2 (1, s) _ ?_ ?_
      · (try dsimp only); exact ⟨sgT_pos hb3, Nat.le_refl _, .inl rfl⟩
      · refine Le.mk _ _ ?_ ?_ rfl <;> simp only [go_sem, ↓reduceIte, Nat.reduceEqDiff, reduceCtorEq, Nat.reduceAdd, Nat.reduceLT, Nat.reduceLeDiff, Nat.reduceBNe, Nat.reduceBEq, Int.reduceToNat] <;> (repeat' apply And.intro) <;> (try first | rfl | exact wk_frzb rfl rfl rfl | exact wk_fn rfl | exact .nilo _ _ _ rfl rfl | exact wk_frzm rfl rfl (fun kv hk => by obtain ⟨_, _, rfl⟩ := List.mem_map.1 hk; rfl))
  · rintro ⟨sg, t⟩ ⟨h1, h2, h3⟩
    try dsimp only at *
    refine aw_seq (aw_region (EF := EF0) hG (by rw [hN]; exact tr23_4) ?_)
    simp only [a23_4, go_sem, ↓reduceIte, Nat.reduceEqDiff, reduceCtorEq, Nat.reduceAdd, Nat.reduceLT, Nat.reduceLeDiff, Nat.reduceBNe, Nat.reduceBEq, Int.reduceToNat, inI, tPar, fDig_eq]
    (repeat' apply And.intro) <;> (try first | omega | ((fail_if_success (refine (id : AW _ _ _ _ _ → AW _ _ _ _ _) ?_)); (fail_if_success (refine (id : EStep _ _ _ _ _ _ _ → EStep _ _ _ _ _ _ _) ?_)); intros; (repeat' apply And.intro) <;> first | assumption | omega | (simp_all; done)))
    refine aw_seq ?_
    have e1 : ((t.length : Int) - 3).toNat = t.length - 3 := by omega
    have e2 : ((t.length : Int) - 3 + 1).toNat = t.length - 2 := by omega
    have hl1 : (t.take (t.length - 3)).length ≤ 140737488355328 := by rw [List.length_take]; omega
    have hl2 : (t.drop (t.length - 2)).length ≤ 140737488355328 := by rw [List.length_drop]; omega
    by_cases hk4 : 4 ≤ t.length
    · skip
      have hd : ((t.length : Int) - 3 < 1) = False := eq_false (by omega)
      have hbc := bad_code hk4 s
      refine aw_seq (aw_region (EF := EF0) hG (by rw [hN]; exact tr23_5) ?_)
      simp only [a23_5, go_sem, ↓reduceIte, Nat.reduceEqDiff, reduceCtorEq, Nat.reduceAdd, Nat.reduceLT, Nat.reduceLeDiff, Nat.reduceBNe, Nat.reduceBEq, Int.reduceToNat, inI, tPar, fDig_eq, hd, decide_false, e1, e2, List.take_length, hl1, hl2]
      (repeat' apply And.intro) <;> (try first | omega | ((fail_if_success (refine (id : AW _ _ _ _ _ → AW _ _ _ _ _) ?_)); (fail_if_success (refine (id : EStep _ _ _ _ _ _ _ → EStep _ _ _ _ _ _ _) ?_)); intros; (repeat' apply And.intro) <;> first | assumption | omega | (simp_all; done)))
      refine aw_cond (b := _) rfl (fun hb5 => ?_) (fun hb5 => ?_)
      · skip
        rw [hbc] at hb5
        refine aw_seq (aw_region (EF := EF0) hG (by rw [hN]; exact tr23_6) ?_)
        simp only [a23_6, go_sem, ↓reduceIte, Nat.reduceEqDiff, reduceCtorEq, Nat.reduceAdd, Nat.reduceLT, Nat.reduceLeDiff, Nat.reduceBNe, Nat.reduceBEq, Int.reduceToNat, tPar, fDig_eq]
        refine aw_ret ?_
        show Q _ _
        refine hQ _ _ (.inl rfl) ?_ ?_ ?_ <;> simp only [outφ, outV, AR.res, go_sem, ↓reduceIte, Nat.reduceEqDiff, reduceCtorEq, Nat.reduceAdd, Nat.reduceLT, Nat.reduceLeDiff, Nat.reduceBNe, Nat.reduceBEq, Int.reduceToNat, fPar]
        unfold parM; rw [h1, if_pos hb5]; rfl
      · skip
        rw [hbc] at hb5
        have hnb : badT t = false := (Bool.or_eq_false_iff.1 hb5).1
        have hpm : parM s = if 1099511627776 < valD 0 (dig2 t) then (0, 11) else (sg * valD 0 (dig2 t), 0) := by unfold parM; rw [h1, if_neg (by rw [hb5]; decide)]
        have hdg : allB digB (dig2 t) = true := bad_dig hnb
        have hDl : (dig2 t).length ≤ 140737488355328 := by unfold dig2; rw [List.length_append, List.length_take, List.length_drop]; omega
        have hD : t.take (t.length - 3) ++ t.drop (t.length - 2) = dig2 t := rfl
        refine aw_skip ?_
        try simp only [go_sem, ↓reduceIte, Nat.reduceEqDiff, reduceCtorEq, Nat.reduceAdd, Nat.reduceLT, Nat.reduceLeDiff, Nat.reduceBNe, Nat.reduceBEq, Int.reduceToNat]
        refine aw_seq (aw_region (EF := EF0) hG (by rw [hN]; exact tr23_7) ?_)
        simp only [a23_7, go_sem, ↓reduceIte, Nat.reduceEqDiff, reduceCtorEq, Nat.reduceAdd, Nat.reduceLT, Nat.reduceLeDiff, Nat.reduceBNe, Nat.reduceBEq, Int.reduceToNat, tPar, fDig_eq]
        refine aw_seq ?_
        refine aw_seq (aw_regionD (EF := EF0) hG mixed (by rw [hN]; exact tr23_8) ok23_8 ?_)
        simp only [a23_8, d23_8, go_sem, ↓reduceIte, Nat.reduceEqDiff, reduceCtorEq, Nat.reduceAdd, Nat.reduceLT, Nat.reduceLeDiff, Nat.reduceBNe, Nat.reduceBEq, Int.reduceToNat, inI, e1, e2, List.take_length, hD, hDl, tPar, fDig_eq]
        (repeat' apply And.intro) <;> (try first | omega | ((fail_if_success (refine (id : AW _ _ _ _ _ → AW _ _ _ _ _) ?_)); (fail_if_success (refine (id : EStep _ _ _ _ _ _ _ → EStep _ _ _ _ _ _ _) ?_)); intros; (repeat' apply And.intro) <;> first | assumption | omega | (simp_all; done)))
        refine aw_block ?_
        refine aw_loop (α := Nat × Int) (fun γ => (γ.1 ≤ (dig2 t).length) ∧ (valD 0 (dig2 t) = valD γ.2 ((dig2 t).drop γ.1)) ∧ (0 ≤ γ.2) ∧ (γ.2 ≤ 1099511627776)) (fun γ => ⟨mkE [(4, V.int IntKind.i64 sg), (7, .int .i64 γ.2), (67, V.list (bytesV (dig2 t)) false), (68, V.int IntKind.i64 ↑(dig2 t).length), (69, .int .i64 γ.1)], mkH []⟩) (fun γ => (dig2 t).length - γ.1) (0, 0) ⟨Nat.zero_le _, rfl, Int.le_refl _, by decide⟩ ?_ ?_
        · refine Le.mk _ _ ?_ ?_ rfl <;> simp only [go_sem, ↓reduceIte, Nat.reduceEqDiff, reduceCtorEq, Nat.reduceAdd, Nat.reduceLT, Nat.reduceLeDiff, Nat.reduceBNe, Nat.reduceBEq, Int.reduceToNat, e1, e2, List.take_length, hD] <;> (repeat' apply And.intro) <;> (try first | rfl | exact wk_frzb rfl rfl rfl | exact wk_fn rfl | exact .nilo _ _ _ rfl rfl | exact wk_frzm rfl rfl (fun kv hk => by obtain ⟨_, _, rfl⟩ := List.mem_map.1 hk; rfl))
        · rintro ⟨i, n⟩ ⟨hi, g1, g2, g3⟩ KL0 hKL0
          try dsimp only at *
          refine aw_seq (aw_region (EF := EF0) hG (by rw [hN]; exact tr23_9) ?_)
          simp only [a23_9, go_sem, ↓reduceIte, Nat.reduceEqDiff, reduceCtorEq, Nat.reduceAdd, Nat.reduceLT, Nat.reduceLeDiff, Nat.reduceBNe, Nat.reduceBEq, Int.reduceToNat, tPar, fDig_eq]
          refine aw_seq ?_
          refine aw_cond (b := _) rfl (fun hc9 => ?_) (fun hc9 => ?_)
          · simp only [decide_eq_true_eq, decide_eq_false_iff_not, Bool.and_eq_true, Bool.or_eq_true, Bool.not_eq_true', Bool.not_eq_false', Bool.and_eq_false_iff, Bool.or_eq_false_iff, Int.ofNat_lt, Int.ofNat_le, Nat.not_lt, Nat.not_le, Int.not_lt, Int.not_le] at hc9
            refine aw_skip ?_
            try simp only [go_sem, ↓reduceIte, Nat.reduceEqDiff, reduceCtorEq, Nat.reduceAdd, Nat.reduceLT, Nat.reduceLeDiff, Nat.reduceBNe, Nat.reduceBEq, Int.reduceToNat]
            refine aw_seq ?_
            refine aw_block ?_
            have hdr : (dig2 t).drop i = (dig2 t).getD i 0 :: (dig2 t).drop (i + 1) := by rw [List.drop_eq_getElem_cons hc9, List.getD_eq_getElem?_getD, List.getElem?_eq_getElem hc9]; rfl
            have hdc : digB (((dig2 t).getD i 0).toNat : Int) = true := by rw [List.getD_eq_getElem?_getD, List.getElem?_eq_getElem hc9]; exact List.all_eq_true.1 hdg _ (List.getElem_mem hc9)
            have hdt : allB digB ((dig2 t).drop (i + 1)) = true := List.all_eq_true.2 fun x hx => List.all_eq_true.1 hdg x (List.mem_of_mem_drop hx)
            rw [hdr, valD] at g1
            have hcb := digB_iff.1 hdc
            obtain ⟨c, hc⟩ : ∃ c, c = (((dig2 t).getD i 0).toNat : Int) := ⟨_, rfl⟩
            rw [← hc] at g1 hcb
            have hk1 : inK .u8 (c - 48) := inK_u8.2 (by omega)
            have hk2 : inK .i64 (c - 48) := inK_i64.2 (by unfold inI; omega)
            have hvm := valD_mono (n := 10 * n + (c - 48)) hdt (by omega)
            refine aw_seq (aw_region (EF := EF0) hG (by rw [hN]; exact tr23_10) ?_)
            simp only [a23_10, go_sem, ↓reduceIte, Nat.reduceEqDiff, reduceCtorEq, Nat.reduceAdd, Nat.reduceLT, Nat.reduceLeDiff, Nat.reduceBNe, Nat.reduceBEq, Int.reduceToNat, hc9, bytesV_getD hc9, ← hc, tPar, fDig_eq]
            (repeat' apply And.intro) <;> (try first | omega | ((fail_if_success (refine (id : AW _ _ _ _ _ → AW _ _ _ _ _) ?_)); (fail_if_success (refine (id : EStep _ _ _ _ _ _ _ → EStep _ _ _ _ _ _ _) ?_)); intros; (repeat' apply And.intro) <;> first | assumption | omega | (simp_all; done)))
            refine aw_seq (aw_region (EF := EF0) hG (by rw [hN]; exact tr23_11) ?_)
            simp only [a23_11, go_sem, ↓reduceIte, Nat.reduceEqDiff, reduceCtorEq, Nat.reduceAdd, Nat.reduceLT, Nat.reduceLeDiff, Nat.reduceBNe, Nat.reduceBEq, Int.reduceToNat, inI, hk1, hk2, tPar, fDig_eq]
            (repeat' apply And.intro) <;> (try first | omega | ((fail_if_success (refine (id : AW _ _ _ _ _ → AW _ _ _ _ _) ?_)); (fail_if_success (refine (id : EStep _ _ _ _ _ _ _ → EStep _ _ _ _ _ _ _) ?_)); intros; (repeat' apply And.intro) <;> first | assumption | omega | (simp_all; done)))
            refine aw_seq (aw_region (EF := EF0) hG (by rw [hN]; exact tr23_12) ?_)
            simp only [a23_12, go_sem, ↓reduceIte, Nat.reduceEqDiff, reduceCtorEq, Nat.reduceAdd, Nat.reduceLT, Nat.reduceLeDiff, Nat.reduceBNe, Nat.reduceBEq, Int.reduceToNat, tPar, fDig_eq]
            refine aw_cond (b := _) rfl (fun hc12 => ?_) (fun hc12 => ?_)
            · simp only [decide_eq_true_eq, decide_eq_false_iff_not, Bool.and_eq_true, Bool.or_eq_true, Bool.not_eq_true', Bool.not_eq_false', Bool.and_eq_false_iff, Bool.or_eq_false_iff, Int.ofNat_lt, Int.ofNat_le, Nat.not_lt, Nat.not_le, Int.not_lt, Int.not_le] at hc12
              refine aw_seq (aw_region (EF := EF0) hG (by rw [hN]; exact tr23_13) ?_)
              simp only [a23_13, go_sem, ↓reduceIte, Nat.reduceEqDiff, reduceCtorEq, Nat.reduceAdd, Nat.reduceLT, Nat.reduceLeDiff, Nat.reduceBNe, Nat.reduceBEq, Int.reduceToNat, tPar, fDig_eq]
              refine aw_ret ?_
              show Q _ _
              refine hQ _ _ (.inl rfl) ?_ ?_ ?_ <;> simp only [outφ, outV, AR.res, go_sem, ↓reduceIte, Nat.reduceEqDiff, reduceCtorEq, Nat.reduceAdd, Nat.reduceLT, Nat.reduceLeDiff, Nat.reduceBNe, Nat.reduceBEq, Int.reduceToNat, fPar]
              rw [hpm, if_pos (by omega)]; rfl
            · simp only [decide_eq_true_eq, decide_eq_false_iff_not, Bool.and_eq_true, Bool.or_eq_true, Bool.not_eq_true', Bool.not_eq_false', Bool.and_eq_false_iff, Bool.or_eq_false_iff, Int.ofNat_lt, Int.ofNat_le, Nat.not_lt, Nat.not_le, Int.not_lt, Int.not_le] at hc12
              refine aw_skip ?_
              try simp only [go_sem, ↓reduceIte, Nat.reduceEqDiff, reduceCtorEq, Nat.reduceAdd, Nat.reduceLT, Nat.reduceLeDiff, Nat.reduceBNe, Nat.reduceBEq, Int.reduceToNat]
              refine aw_region (EF := EF0) hG (by rw [hN]; exact tr23_14) ?_
              simp only [a23_14, go_sem, ↓reduceIte, Nat.reduceEqDiff, reduceCtorEq, Nat.reduceAdd, Nat.reduceLT, Nat.reduceLeDiff, Nat.reduceBNe, Nat.reduceBEq, Int.reduceToNat, inI, tPar, fDig_eq]
              (repeat' apply And.intro) <;> (try first | omega | ((fail_if_success (refine (id : AW _ _ _ _ _ → AW _ _ _ _ _) ?_)); (fail_if_success (refine (id : EStep _ _ _ _ _ _ _ → EStep _ _ _ _ _ _ _) ?_)); intros; (repeat' apply And.intro) <;> first | assumption | omega | (simp_all; done)))
              refine hKL0 (i + 1, 10 * n + (c - 48)) _ ?_ ?_ ?_
              · (try dsimp only); exact ⟨hc9, g1, by omega, by omega⟩
              · (try dsimp only); omega
              · refine Le.mk _ _ ?_ ?_ rfl <;> simp only [go_sem, ↓reduceIte, Nat.reduceEqDiff, reduceCtorEq, Nat.reduceAdd, Nat.reduceLT, Nat.reduceLeDiff, Nat.reduceBNe, Nat.reduceBEq, Int.reduceToNat] <;> (repeat' apply And.intro) <;> (try first | rfl | exact wk_frzb rfl rfl rfl | exact wk_fn rfl | exact .nilo _ _ _ rfl rfl | exact wk_frzm rfl rfl (fun kv hk => by obtain ⟨_, _, rfl⟩ := List.mem_map.1 hk; rfl))
          · simp only [decide_eq_true_eq, decide_eq_false_iff_not, Bool.and_eq_true, Bool.or_eq_true, Bool.not_eq_true', Bool.not_eq_false', Bool.and_eq_false_iff, Bool.or_eq_false_iff, Int.ofNat_lt, Int.ofNat_le, Nat.not_lt, Nat.not_le, Int.not_lt, Int.not_le] at hc9
            obtain rfl : i = (dig2 t).length := by omega
            rw [List.drop_length, valD] at g1
            refine aw_exit ?_
            simp only [go_sem, ↓reduceIte, Nat.reduceEqDiff, reduceCtorEq, Nat.reduceAdd, Nat.reduceLT, Nat.reduceLeDiff, Nat.reduceBNe, Nat.reduceBEq, Int.reduceToNat]
            refine aw_seq (aw_region (EF := EF0) hG (by rw [hN]; exact tr23_15) ?_)
            simp only [a23_15, go_sem, ↓reduceIte, Nat.reduceEqDiff, reduceCtorEq, Nat.reduceAdd, Nat.reduceLT, Nat.reduceLeDiff, Nat.reduceBNe, Nat.reduceBEq, Int.reduceToNat, inI, tPar, fDig_eq]
            (repeat' apply And.intro) <;> (try first | omega | ((fail_if_success (refine (id : AW _ _ _ _ _ → AW _ _ _ _ _) ?_)); (fail_if_success (refine (id : EStep _ _ _ _ _ _ _ → EStep _ _ _ _ _ _ _) ?_)); intros; (repeat' apply And.intro) <;> first | assumption | omega | (simp_all; done)) | (rcases h3 with h | h <;> rw [h] <;> omega))
            refine aw_ret ?_
            show Q _ _
            refine hQ _ _ (.inl rfl) ?_ ?_ ?_ <;> simp only [outφ, outV, AR.res, go_sem, ↓reduceIte, Nat.reduceEqDiff, reduceCtorEq, Nat.reduceAdd, Nat.reduceLT, Nat.reduceLeDiff, Nat.reduceBNe, Nat.reduceBEq, Int.reduceToNat, fPar]
            rw [hpm, if_neg (by omega), g1]; rfl
    · skip
      have hd : ((t.length : Int) - 3 < 1) = True := eq_true (by omega)
      have hpm3 : parM s = (0, 3) := by unfold parM badT; rw [h1, decide_eq_true (show t.length < 4 by omega)]; rfl
      refine aw_seq (aw_region (EF := EF0) hG (by rw [hN]; exact tr23_5) ?_)
      simp only [a23_5, go_sem, ↓reduceIte, Nat.reduceEqDiff, reduceCtorEq, Nat.reduceAdd, Nat.reduceLT, Nat.reduceLeDiff, Nat.reduceBNe, Nat.reduceBEq, Int.reduceToNat, inI, tPar, fDig_eq, hd, decide_true, e1, e2]
      (repeat' apply And.intro) <;> (try first | omega | ((fail_if_success (refine (id : AW _ _ _ _ _ → AW _ _ _ _ _) ?_)); (fail_if_success (refine (id : EStep _ _ _ _ _ _ _ → EStep _ _ _ _ _ _ _) ?_)); intros; (repeat' apply And.intro) <;> first | assumption | omega | (simp_all; done)))
      refine aw_condT rfl ?_
      refine aw_seq (aw_region (EF := EF0) hG (by rw [hN]; exact tr23_6) ?_)
      simp only [a23_6, go_sem, ↓reduceIte, Nat.reduceEqDiff, reduceCtorEq, Nat.reduceAdd, Nat.reduceLT, Nat.reduceLeDiff, Nat.reduceBNe, Nat.reduceBEq, Int.reduceToNat, tPar, fDig_eq]
      refine aw_ret ?_
      show Q _ _
      refine hQ _ _ (.inl rfl) ?_ ?_ ?_ <;> simp only [outφ, outV, AR.res, go_sem, ↓reduceIte, Nat.reduceEqDiff, reduceCtorEq, Nat.reduceAdd, Nat.reduceLT, Nat.reduceLeDiff, Nat.reduceBNe, Nat.reduceBEq, Int.reduceToNat, fPar]
      rw [hpm3]; rfl
end Go.Proofs.YtdjeodopibaebaaDoor
