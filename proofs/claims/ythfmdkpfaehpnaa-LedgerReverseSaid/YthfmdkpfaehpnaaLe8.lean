/- The ledger of the reference. -/
import Derived.Test.YthfmdkpfaehpnaaLe7
namespace Go.Proofs.Ythfmdkpfaehpnaa
open Go Go.RowKit
set_option linter.unusedSimpArgs false
set_option linter.unusedVariables false
set_option linter.deprecated false
def lrO (nb : Nat) (es : List Entry) : List (Nat × Ob) := [(nb, .box 55 [.list (es.map Entry.enc) false, .bool true])]
theorem lr_use {d : Option Nat} {s : St} {K : St → Prop} {f nb : Nat} {es es' : List Entry} {xs : List V} {v : V} (he : Eff Try.prog UT f (.ptr 1000 0 :: xs) (lrO 1000 es) v (lrO 1000 es')) (hr : ∀ σ, V.rens σ xs = xs) (hn : ∀ D, V.nins D xs = true) (hv : ∀ σ, v.ren σ = v) (hvn : ∀ D, v.nin D = true)
    (hb : s.h nb = some (.box 55 [.list (es.map Entry.enc) false, .bool true]))
    (hK : K ⟨setE d v s.e, hov (lrO nb es') s.h⟩) : EStep Try.prog UT d f (.ptr nb 0 :: xs) s K := by
  refine ⟨[(1000, nb)], [], _, _, _, _, he, ⟨by simp [okL], rfl, rfl, by simp, by simp, ?_, ?_, ?_, hvn _, ?_, ?_⟩, ?_⟩
  · intro p hp
    simp only [List.mem_cons, List.not_mem_nil, or_false] at hp
    subst hp
    exact ⟨_, hb, by simp [lrO, mkH, Ob.ren, V.rens, V.ren], by simp [Ob.nin, V.nins, V.nin]⟩
  · simp only [V.rens, V.ren, hr]; simp [rni]
  · simp only [V.nins, V.nin, hn]; simp
  · intro q hq
    simp only [lrO, List.mem_cons, List.not_mem_nil, or_false] at hq
    subst hq
    simp [Ob.nin, V.nins, V.nin, lrO]
  · intro p hp o o' h1 h2
    simp only [List.mem_cons, List.not_mem_nil, or_false] at hp
    subst hp; simp [lrO, mkH] at h1 h2; subst h1 h2; simp [Ob.kind]
  · have e2 : (lrO 1000 es').map (fun q => (rn ([(1000, nb)] ++ []) q.1, q.2.ren (rn ([(1000, nb)] ++ [])))) = lrO nb es' := by
      simp [lrO, rn, Ob.ren, V.rens, V.ren]
    rw [hv, e2]
    exact hK
theorem rnew_e : Eff Try.prog UT 16 [] [] (.ptr 2 0) (lrO 2 []) := by
  have hG := tNo_ok
  refine Eff.of_aw Try.func16 body16 nm16 res16 (by rw [nt16]; simp) fun C hN Q hQ => ?_
  rw [nt16] at hN
  unfold c16
  refine aw_seq (aw_region (EF := EF0) hG (by rw [hN]; exact tr16_0) ?_)
  simp only [a16_0, go_sem, ↓reduceIte, Nat.reduceEqDiff, reduceCtorEq, Nat.reduceAdd, Nat.reduceLT, Nat.reduceLeDiff, Nat.reduceBNe, Nat.reduceBEq, Int.reduceToNat]
  refine aw_seq (aw_region (EF := EF0) hG (by rw [hN]; exact tr16_1) ?_)
  simp only [a16_1, go_sem, ↓reduceIte, Nat.reduceEqDiff, reduceCtorEq, Nat.reduceAdd, Nat.reduceLT, Nat.reduceLeDiff, Nat.reduceBNe, Nat.reduceBEq, Int.reduceToNat]
  refine aw_ret ?_
  show Q _ _
  refine hQ _ _ ⟨mkE [(0, .ptr 2 0)], mkH (lrO 2 [])⟩ (.inl rfl) (Le.mk _ _ ?_ ?_ rfl) rfl ?_ ?_ <;> simp only [outφ, outV, AR.res, go_sem, ↓reduceIte, Nat.reduceEqDiff, reduceCtorEq, Nat.reduceAdd, Nat.reduceLT, Nat.reduceLeDiff, Nat.reduceBNe, Nat.reduceBEq, Int.reduceToNat, lrO, List.map_nil]
theorem rnew_use {d : Option Nat} {s : St} {K : St → Prop} (nb : Nat) (h1 : s.h nb = none) (l1 : nb < 1000)
    (hK : K ⟨setE d (.ptr nb 0) s.e, hov (lrO nb []) s.h⟩) : EStep Try.prog UT d 16 [] s K := by
  refine ⟨[], [(2, nb)], _, _, _, _, rnew_e, ⟨by simp [okL], rfl, rfl, by simp, ?_, by simp, rfl, rfl, by simp [V.nin, lrO], ?_, by simp⟩, ?_⟩
  · intro p hp
    simp only [List.mem_cons, List.not_mem_nil, or_false] at hp
    subst hp; exact ⟨h1, l1⟩
  · intro q hq
    simp only [lrO, List.mem_cons, List.not_mem_nil, or_false] at hq
    subst hq; simp [Ob.nin, V.nins, V.nin, lrO]
  · have e2 : (lrO 2 []).map (fun q => (rn ([] ++ [(2, nb)]) q.1, q.2.ren (rn ([] ++ [(2, nb)])))) = lrO nb [] := by
      simp [lrO, rn, Ob.ren, V.rens, V.ren]
    have e1 : (V.ptr 2 0).ren (rn ([] ++ [(2, nb)])) = .ptr nb 0 := by simp [V.ren, rn]
    rw [e1, e2]
    exact hK
noncomputable def tRb : Tab
  | 31 => (gOf aEk fBal)
  | _ => gNo
theorem tRb_ok : ∀ f, PureC Try.prog UT f (tRb f) := fun f => by
  unfold tRb
  split
  · exact balance_p
  · exact PureC.no
theorem rbal_e (es : List Entry) (k : List UInt8) (hb : BalOk es) : Eff Try.prog UT 23 (.ptr 1000 0 :: [.str k]) (lrO 1000 es) (.int .i64 (balL (pst es) k)) (lrO 1000 es) := by
  have hG := tRb_ok
  refine Eff.of_aw Try.func23 body23 nm23 res23 (by rw [nt23]; simp) fun C hN Q hQ => ?_
  rw [nt23] at hN
  unfold c23
  refine aw_seq (aw_region (EF := EF0) hG (by rw [hN]; exact tr23_0) ?_)
  simp only [a23_0, go_sem, ↓reduceIte, Nat.reduceEqDiff, reduceCtorEq, Nat.reduceAdd, Nat.reduceLT, Nat.reduceLeDiff, Nat.reduceBNe, Nat.reduceBEq, Int.reduceToNat, tRb, fBal_eq, lrO]
  refine aw_seq ?_
  refine aw_seq (aw_region (EF := EF0) hG (by rw [hN]; exact tr23_1) ?_)
  simp only [a23_1, go_sem, ↓reduceIte, Nat.reduceEqDiff, reduceCtorEq, Nat.reduceAdd, Nat.reduceLT, Nat.reduceLeDiff, Nat.reduceBNe, Nat.reduceBEq, Int.reduceToNat, tRb, fBal_eq, lrO]
  refine aw_condF rfl ?_
  refine aw_skip ?_
  try simp only [go_sem, ↓reduceIte, Nat.reduceEqDiff, reduceCtorEq, Nat.reduceAdd, Nat.reduceLT, Nat.reduceLeDiff, Nat.reduceBNe, Nat.reduceBEq, Int.reduceToNat]
  refine aw_seq (aw_region (EF := EF0) hG (by rw [hN]; exact tr23_3) ?_)
  simp only [a23_3, go_sem, ↓reduceIte, Nat.reduceEqDiff, reduceCtorEq, Nat.reduceAdd, Nat.reduceLT, Nat.reduceLeDiff, Nat.reduceBNe, Nat.reduceBEq, Int.reduceToNat, hb, tRb, fBal_eq, lrO]
  (repeat' apply And.intro) <;> (try first | omega | ((fail_if_success refine idW ?_); (fail_if_success refine idS ?_); intros; (repeat' apply And.intro) <;> first | assumption | omega | (simp_all; done)))
  refine aw_ret ?_
  show Q _ _
  refine hQ _ _ ⟨mkE [(4, .int .i64 (balL (pst es) k))], mkH (lrO 1000 es)⟩ (.inl rfl) (Le.mk _ _ ?_ ?_ rfl) rfl ?_ ?_ <;> simp only [outφ, outV, AR.res, go_sem, ↓reduceIte, Nat.reduceEqDiff, reduceCtorEq, Nat.reduceAdd, Nat.reduceLT, Nat.reduceLeDiff, Nat.reduceBNe, Nat.reduceBEq, Int.reduceToNat, lrO]
set_option maxHeartbeats 4000000 in
theorem rents_e (es : List Entry) (a b : Int) (hes : es.length ≤ 100000) : Eff Try.prog UT 25 (.ptr 1000 0 :: [.int .i64 a, .int .i64 b]) (lrO 1000 es) (.list ((entF es a b).map Entry.enc) false) (lrO 1000 es) := by
  have hG := tNo_ok
  refine Eff.of_aw Try.func25 body25 nm25 res25 (by rw [nt25]; simp) fun C hN Q hQ => ?_
  rw [nt25] at hN
  unfold c25
  refine aw_seq (aw_region (EF := EF0) hG (by rw [hN]; exact tr25_0) ?_)
  simp only [a25_0, go_sem, ↓reduceIte, Nat.reduceEqDiff, reduceCtorEq, Nat.reduceAdd, Nat.reduceLT, Nat.reduceLeDiff, Nat.reduceBNe, Nat.reduceBEq, Int.reduceToNat, lrO]
  refine aw_seq (aw_region (EF := EF0) hG (by rw [hN]; exact tr25_1) ?_)
  simp only [a25_1, go_sem, ↓reduceIte, Nat.reduceEqDiff, reduceCtorEq, Nat.reduceAdd, Nat.reduceLT, Nat.reduceLeDiff, Nat.reduceBNe, Nat.reduceBEq, Int.reduceToNat, lrO]
  refine aw_seq ?_
  refine aw_seq (aw_region (EF := EF0) hG (by rw [hN]; exact tr25_2) ?_)
  simp only [a25_2, go_sem, ↓reduceIte, Nat.reduceEqDiff, reduceCtorEq, Nat.reduceAdd, Nat.reduceLT, Nat.reduceLeDiff, Nat.reduceBNe, Nat.reduceBEq, Int.reduceToNat, lrO]
  refine AW.le (s' := ⟨mkE [(0, .ptr 1000 0), (1, .int .i64 a), (2, .int .i64 b), (7, .own 999 0), (8, .int .i64 0)], mkH ([(1000, .box 55 [.list (es.map Entry.enc) false, .bool true]), (999, .arr 24 3 [])])⟩) (Le.mk _ _ (by (simp only [go_sem, ↓reduceIte, Nat.reduceEqDiff, reduceCtorEq, Nat.reduceAdd, Nat.reduceLT, Nat.reduceLeDiff, Nat.reduceBNe, Nat.reduceBEq, Int.reduceToNat]) <;> (repeat' apply And.intro) <;> (try first | exact wk_frzb rfl rfl rfl | rfl | exact wk_fn rfl | exact .nill _ | exact .nilo _ _ _ rfl rfl | exact wk_frz rfl (by simp only [ints_len, nats_len]) rfl (ints_pur _) | exact wk_frzm rfl rfl (fun kv hk => by obtain ⟨_, _, rfl⟩ := List.mem_map.1 hk; rfl))) (by (simp only [go_sem, ↓reduceIte, Nat.reduceEqDiff, reduceCtorEq, Nat.reduceAdd, Nat.reduceLT, Nat.reduceLeDiff, Nat.reduceBNe, Nat.reduceBEq, Int.reduceToNat]) <;> (repeat' apply And.intro) <;> (try first | exact wk_frzb rfl rfl rfl | rfl | exact wk_fn rfl | exact .nill _ | exact .nilo _ _ _ rfl rfl | exact wk_frz rfl (by simp only [ints_len, nats_len]) rfl (ints_pur _) | exact wk_frzm rfl rfl (fun kv hk => by obtain ⟨_, _, rfl⟩ := List.mem_map.1 hk; rfl))) rfl) ?_
  refine aw_block ?_
  refine aw_loop (α := Nat × (List Entry)) (fun γ => (γ.1 ≤ es.length) ∧ (γ.2 = entF (es.take γ.1) a b)) (fun γ => ⟨mkE [(0, V.ptr 1000 0), (1, V.int IntKind.i64 a), (2, V.int IntKind.i64 b), (7, .own 999 γ.2.length), (8, .int .i64 γ.1)], mkH [(999, .arr 24 3 (γ.2.map Entry.enc)), (1000, Ob.box 55 [V.list (List.map Entry.enc es) false, V.bool true])]⟩) (fun γ => es.length - γ.1) (0, []) ⟨Nat.zero_le _, rfl⟩ ?_ ?_
  · refine Le.mk _ _ ?_ ?_ rfl <;> simp only [go_sem, ↓reduceIte, Nat.reduceEqDiff, reduceCtorEq, Nat.reduceAdd, Nat.reduceLT, Nat.reduceLeDiff, Nat.reduceBNe, Nat.reduceBEq, Int.reduceToNat, List.map_nil, List.length_nil] <;> (repeat' apply And.intro) <;> (try first | rfl | exact wk_frzb rfl rfl rfl | exact wk_fn rfl | exact .nilo _ _ _ rfl rfl | exact wk_frzm rfl rfl (fun kv hk => by obtain ⟨_, _, rfl⟩ := List.mem_map.1 hk; rfl))
  · rintro ⟨i, o⟩ ⟨hi, ho⟩ KL0 hKL0
    try dsimp only at *
    refine aw_seq ?_
    refine aw_seq (aw_region (EF := EF0) hG (by rw [hN]; exact tr25_3) ?_)
    simp only [a25_3, go_sem, ↓reduceIte, Nat.reduceEqDiff, reduceCtorEq, Nat.reduceAdd, Nat.reduceLT, Nat.reduceLeDiff, Nat.reduceBNe, Nat.reduceBEq, Int.reduceToNat, List.length_map, lrO]
    (repeat' apply And.intro) <;> (try first | omega | ((fail_if_success refine idW ?_); (fail_if_success refine idS ?_); intros; (repeat' apply And.intro) <;> first | assumption | omega | (simp_all; done)))
    refine aw_cond (b := _) rfl (fun hb5 => ?_) (fun hb5 => ?_)
    · skip
      have hc : i < es.length := by simp at hb5; omega
      have hs := ent_step (a := a) (b := b) hc
      have hol := ent_len es a b i
      rw [← ho] at hs hol
      obtain ⟨e, he⟩ : ∃ e, e = es[i] := ⟨_, rfl⟩
      rw [← he] at hs
      refine aw_skip ?_
      try simp only [go_sem, ↓reduceIte, Nat.reduceEqDiff, reduceCtorEq, Nat.reduceAdd, Nat.reduceLT, Nat.reduceLeDiff, Nat.reduceBNe, Nat.reduceBEq, Int.reduceToNat]
      refine aw_seq ?_
      refine aw_block ?_
      refine aw_seq (aw_region (EF := EF0) hG (by rw [hN]; exact tr25_5) ?_)
      simp only [a25_5, go_sem, ↓reduceIte, Nat.reduceEqDiff, reduceCtorEq, Nat.reduceAdd, Nat.reduceLT, Nat.reduceLeDiff, Nat.reduceBNe, Nat.reduceBEq, Int.reduceToNat, getD_mapd _ _ _ _ hc, ← he, Entry.enc, hc, List.length_map, lrO]
      (repeat' apply And.intro) <;> (try first | omega | ((fail_if_success refine idW ?_); (fail_if_success refine idS ?_); intros; (repeat' apply And.intro) <;> first | assumption | omega | (simp_all; done)))
      refine aw_cond (b := _) rfl (fun hb7 => ?_) (fun hb7 => ?_)
      · skip
        have hin : inD a b e = true := hb7
        rw [if_pos hin] at hs
        refine aw_region (EF := EF0) hG (by rw [hN]; exact tr25_6) ?_
        simp only [a25_6, go_sem, ↓reduceIte, Nat.reduceEqDiff, reduceCtorEq, Nat.reduceAdd, Nat.reduceLT, Nat.reduceLeDiff, Nat.reduceBNe, Nat.reduceBEq, Int.reduceToNat, getD_mapd _ _ _ _ hc, ← he, Entry.enc, hc, List.length_map, lrO]
        (repeat' apply And.intro) <;> (try first | omega | ((fail_if_success refine idW ?_); (fail_if_success refine idS ?_); intros; (repeat' apply And.intro) <;> first | assumption | omega | (simp_all; done)))
        refine aw_region (EF := EF0) hG (by rw [hN]; exact tr25_4) ?_
        simp only [a25_4, go_sem, ↓reduceIte, Nat.reduceEqDiff, reduceCtorEq, Nat.reduceAdd, Nat.reduceLT, Nat.reduceLeDiff, Nat.reduceBNe, Nat.reduceBEq, Int.reduceToNat, inI, lrO]
        (repeat' apply And.intro) <;> (try first | omega | ((fail_if_success refine idW ?_); (fail_if_success refine idS ?_); intros; (repeat' apply And.intro) <;> first | assumption | omega | (simp_all; done)))
        refine hKL0 (i + 1, o ++ [e]) _ ?_ ?_ ?_
        · (try dsimp only); exact ⟨hc, hs.symm⟩
        · (try dsimp only); omega
        · refine Le.mk _ _ ?_ ?_ rfl <;> simp only [go_sem, ↓reduceIte, Nat.reduceEqDiff, reduceCtorEq, Nat.reduceAdd, Nat.reduceLT, Nat.reduceLeDiff, Nat.reduceBNe, Nat.reduceBEq, Int.reduceToNat, List.map_append, List.map_cons, List.map_nil, Entry.enc, List.length_append, List.length_cons, List.length_nil] <;> (repeat' apply And.intro) <;> (try first | rfl | exact wk_frzb rfl rfl rfl | exact wk_fn rfl | exact .nilo _ _ _ rfl rfl | exact wk_frzm rfl rfl (fun kv hk => by obtain ⟨_, _, rfl⟩ := List.mem_map.1 hk; rfl))
      · skip
        have hin : ¬ inD a b e = true := by rw [show inD a b e = false from hb7]; decide
        rw [if_neg hin, List.append_nil] at hs
        refine aw_skip ?_
        try simp only [go_sem, ↓reduceIte, Nat.reduceEqDiff, reduceCtorEq, Nat.reduceAdd, Nat.reduceLT, Nat.reduceLeDiff, Nat.reduceBNe, Nat.reduceBEq, Int.reduceToNat]
        refine aw_region (EF := EF0) hG (by rw [hN]; exact tr25_4) ?_
        simp only [a25_4, go_sem, ↓reduceIte, Nat.reduceEqDiff, reduceCtorEq, Nat.reduceAdd, Nat.reduceLT, Nat.reduceLeDiff, Nat.reduceBNe, Nat.reduceBEq, Int.reduceToNat, inI, lrO]
        (repeat' apply And.intro) <;> (try first | omega | ((fail_if_success refine idW ?_); (fail_if_success refine idS ?_); intros; (repeat' apply And.intro) <;> first | assumption | omega | (simp_all; done)))
        refine hKL0 (i + 1, o) _ ?_ ?_ ?_
        · (try dsimp only); exact ⟨hc, hs.symm⟩
        · (try dsimp only); omega
        · refine Le.mk _ _ ?_ ?_ rfl <;> simp only [go_sem, ↓reduceIte, Nat.reduceEqDiff, reduceCtorEq, Nat.reduceAdd, Nat.reduceLT, Nat.reduceLeDiff, Nat.reduceBNe, Nat.reduceBEq, Int.reduceToNat] <;> (repeat' apply And.intro) <;> (try first | rfl | exact wk_frzb rfl rfl rfl | exact wk_fn rfl | exact .nilo _ _ _ rfl rfl | exact wk_frzm rfl rfl (fun kv hk => by obtain ⟨_, _, rfl⟩ := List.mem_map.1 hk; rfl))
    · skip
      obtain rfl : i = es.length := by simp at hb5; omega
      rw [List.take_length] at ho
      refine aw_exit ?_
      simp only [go_sem, ↓reduceIte, Nat.reduceEqDiff, reduceCtorEq, Nat.reduceAdd, Nat.reduceLT, Nat.reduceLeDiff, Nat.reduceBNe, Nat.reduceBEq, Int.reduceToNat]
      refine aw_seq (aw_region (EF := EF0) hG (by rw [hN]; exact tr25_7) ?_)
      simp only [a25_7, go_sem, ↓reduceIte, Nat.reduceEqDiff, reduceCtorEq, Nat.reduceAdd, Nat.reduceLT, Nat.reduceLeDiff, Nat.reduceBNe, Nat.reduceBEq, Int.reduceToNat, lrO]
      refine aw_ret ?_
      show Q _ _
      refine hQ _ _ ⟨mkE [(6, .list ((entF es a b).map Entry.enc) false)], mkH (lrO 1000 es)⟩ (.inl rfl) (Le.mk _ _ ?_ ?_ rfl) rfl ?_ ?_ <;> simp only [outφ, outV, AR.res, go_sem, ↓reduceIte, Nat.reduceEqDiff, reduceCtorEq, Nat.reduceAdd, Nat.reduceLT, Nat.reduceLeDiff, Nat.reduceBNe, Nat.reduceBEq, Int.reduceToNat, lrO]
      · exact wk_frzO rfl (by rw [List.length_map]) rfl ((Entry.purs _).2 trivial) (by rw [ho])
def wideP (ps : List Post) (p : Post) : Bool := wideB (balL ps p.account)
def postR (es : List Entry) (e : Entry) : Int := if chkE e = 0 then (if e.posts.any (wideP (pst (es ++ [e]))) = true then 11 else 0) else chkE e
def postRE (es : List Entry) (e : Entry) : List Entry := if postR es e = 0 then es ++ [e] else es
theorem any_drop {f : Post → Bool} {l : List Post} {i : Nat} (h : i < l.length) : (l.drop i).any f = (f l[i] || (l.drop (i + 1)).any f) := by rw [List.drop_eq_getElem_cons h, List.any_cons]
noncomputable def tRp : Tab
  | 10 => (gOf aEn fChkE)
  | 31 => (gOf aEk fBal)
  | _ => gNo
theorem tRp_ok : ∀ f, PureC Try.prog UT f (tRp f) := fun f => by
  unfold tRp
  split
  · exact rcheck_p
  · exact balance_p
  · exact PureC.no
set_option maxHeartbeats 4000000 in
theorem rpost_e (es : List Entry) (e : Entry) (hb : BalOk es) (hl : (pst es).length ≤ 90000) (hes : es.length ≤ 90000) (hok : e.ok) : Eff Try.prog UT 18 (.ptr 1000 0 :: [.agg [.int .i64 e.day, .str e.text, .list (e.posts.map Post.enc) false]]) (lrO 1000 es) (.int .i64 (postR es e)) (lrO 1000 (postRE es e)) := by
  have hG := tRp_ok
  obtain ⟨C', hC'⟩ : ∃ x, x = postR es e := ⟨_, rfl⟩
  obtain ⟨E', hE'⟩ : ∃ x, x = postRE es e := ⟨_, rfl⟩
  rw [← hC', ← hE']
  obtain ⟨o1, o2, o3, o4⟩ := id hok
  have hbad : C' ≠ 0 → E' = es := fun h => by rw [hE']; unfold postRE; rw [if_neg (by rw [← hC']; exact h)]
  obtain ⟨ck, hck⟩ : ∃ ck, chkE e = ck := ⟨_, rfl⟩
  refine Eff.of_aw Try.func18 body18 nm18 res18 (by rw [nt18]; simp) fun C hN Q hQ => ?_
  rw [nt18] at hN
  unfold c18
  refine aw_seq (aw_region (EF := EF0) hG (by rw [hN]; exact tr18_0) ?_)
  simp only [a18_0, go_sem, ↓reduceIte, Nat.reduceEqDiff, reduceCtorEq, Nat.reduceAdd, Nat.reduceLT, Nat.reduceLeDiff, Nat.reduceBNe, Nat.reduceBEq, Int.reduceToNat, tRp, lrO, fChkE_eq, fBal_eq, hck]
  refine aw_seq ?_
  refine aw_seq (aw_region (EF := EF0) hG (by rw [hN]; exact tr18_1) ?_)
  simp only [a18_1, go_sem, ↓reduceIte, Nat.reduceEqDiff, reduceCtorEq, Nat.reduceAdd, Nat.reduceLT, Nat.reduceLeDiff, Nat.reduceBNe, Nat.reduceBEq, Int.reduceToNat, cond_false, tRp, lrO, fChkE_eq, fBal_eq, hck]
  (repeat' apply And.intro) <;> (try first | omega | ((fail_if_success refine idW ?_); (fail_if_success refine idS ?_); intros; (repeat' apply And.intro) <;> first | assumption | omega | (simp_all; done)))
  refine aw_condF rfl ?_
  refine aw_skip ?_
  try simp only [go_sem, ↓reduceIte, Nat.reduceEqDiff, reduceCtorEq, Nat.reduceAdd, Nat.reduceLT, Nat.reduceLeDiff, Nat.reduceBNe, Nat.reduceBEq, Int.reduceToNat]
  refine aw_seq ?_
  refine aw_seq (aw_region (EF := EF0) hG (by rw [hN]; exact tr18_3) ?_)
  simp only [a18_3, go_sem, ↓reduceIte, Nat.reduceEqDiff, reduceCtorEq, Nat.reduceAdd, Nat.reduceLT, Nat.reduceLeDiff, Nat.reduceBNe, Nat.reduceBEq, Int.reduceToNat, hok, tRp, lrO, fChkE_eq, fBal_eq, hck]
  (repeat' apply And.intro) <;> (try first | omega | ((fail_if_success refine idW ?_); (fail_if_success refine idS ?_); intros; (repeat' apply And.intro) <;> first | assumption | omega | (simp_all; done)))
  refine aw_seq (aw_region (EF := EF0) hG (by rw [hN]; exact tr18_4) ?_)
  simp only [a18_4, go_sem, ↓reduceIte, Nat.reduceEqDiff, reduceCtorEq, Nat.reduceAdd, Nat.reduceLT, Nat.reduceLeDiff, Nat.reduceBNe, Nat.reduceBEq, Int.reduceToNat, tRp, lrO, fChkE_eq, fBal_eq, hck]
  refine aw_cond (b := _) rfl (fun hb4 => ?_) (fun hb4 => ?_)
  · skip
    have hck0 : ¬ chkE e = 0 := by rw [hck]; simpa using hb4
    have hCv : C' = ck := by rw [hC']; unfold postR; rw [if_neg hck0, hck]
    have hE2 := hbad (by rw [hCv, ← hck]; exact hck0)
    subst hE2
    refine aw_seq (aw_region (EF := EF0) hG (by rw [hN]; exact tr18_5) ?_)
    simp only [a18_5, go_sem, ↓reduceIte, Nat.reduceEqDiff, reduceCtorEq, Nat.reduceAdd, Nat.reduceLT, Nat.reduceLeDiff, Nat.reduceBNe, Nat.reduceBEq, Int.reduceToNat, tRp, lrO, fChkE_eq, fBal_eq, hck]
    refine aw_ret ?_
    show Q _ _
    refine hQ _ _ ⟨mkE [(4, .int .i64 ck)], mkH (lrO 1000 E')⟩ (.inl rfl) (Le.mk _ _ ?_ ?_ rfl) rfl ?_ ?_ <;> simp only [outφ, outV, AR.res, go_sem, ↓reduceIte, Nat.reduceEqDiff, reduceCtorEq, Nat.reduceAdd, Nat.reduceLT, Nat.reduceLeDiff, Nat.reduceBNe, Nat.reduceBEq, Int.reduceToNat, lrO, hCv]
  · skip
    have hck0 : chkE e = 0 := by rw [hck]; simpa using hb4
    obtain ⟨q1, q2, q3, q4, q5⟩ := chk_ok hck0
    have hbo : BalOk (es ++ [e]) := ⟨by rw [List.length_append]; simp; omega, by rw [pst_snoc, List.length_append]; omega, fun p hp => by rw [pst_snoc] at hp; rcases List.mem_append.1 hp with h | h; exact hb.2.2 p h; exact q4 p h⟩
    refine aw_skip ?_
    try simp only [go_sem, ↓reduceIte, Nat.reduceEqDiff, reduceCtorEq, Nat.reduceAdd, Nat.reduceLT, Nat.reduceLeDiff, Nat.reduceBNe, Nat.reduceBEq, Int.reduceToNat]
    refine aw_seq (aw_regionD (EF := EF0) hG mixed (by rw [hN]; exact tr18_6) ok18_6 ?_)
    simp only [a18_6, d18_6, go_sem, ↓reduceIte, Nat.reduceEqDiff, reduceCtorEq, Nat.reduceAdd, Nat.reduceLT, Nat.reduceLeDiff, Nat.reduceBNe, Nat.reduceBEq, Int.reduceToNat, List.length_map, tRp, lrO, fChkE_eq, fBal_eq, hck]
    (repeat' apply And.intro) <;> (try first | omega | ((fail_if_success refine idW ?_); (fail_if_success refine idS ?_); intros; (repeat' apply And.intro) <;> first | assumption | omega | (simp_all; done)))
    refine aw_seq ?_
    refine aw_seq (aw_region (EF := EF0) hG (by rw [hN]; exact tr18_7) ?_)
    simp only [a18_7, go_sem, ↓reduceIte, Nat.reduceEqDiff, reduceCtorEq, Nat.reduceAdd, Nat.reduceLT, Nat.reduceLeDiff, Nat.reduceBNe, Nat.reduceBEq, Int.reduceToNat, tRp, lrO, fChkE_eq, fBal_eq, hck]
    refine AW.le (s' := ⟨mkE [(0, .ptr 1000 0), (3, .ptr 3 0), (6, .own 23 (es ++ [e]).length), (7, .int .i64 0)], mkH ([(1000, .box 55 [.list (es.map Entry.enc) false, .bool true]), (3, .box 24 [.int .i64 e.day, .str e.text, .list (e.posts.map Post.enc) false]), (23, .arr 24 3 ((es ++ [e]).map Entry.enc))])⟩) (Le.mk _ _ (by (simp only [go_sem, ↓reduceIte, Nat.reduceEqDiff, reduceCtorEq, Nat.reduceAdd, Nat.reduceLT, Nat.reduceLeDiff, Nat.reduceBNe, Nat.reduceBEq, Int.reduceToNat, List.map_append, List.map_cons, List.map_nil, Entry.enc, List.length_append, List.length_cons, List.length_nil]) <;> (repeat' apply And.intro) <;> (try first | exact wk_frzb rfl rfl rfl | rfl | exact wk_fn rfl | exact .nill _ | exact .nilo _ _ _ rfl rfl | exact wk_frz rfl (by simp only [ints_len, nats_len]) rfl (ints_pur _) | exact wk_frzm rfl rfl (fun kv hk => by obtain ⟨_, _, rfl⟩ := List.mem_map.1 hk; rfl))) (by (simp only [go_sem, ↓reduceIte, Nat.reduceEqDiff, reduceCtorEq, Nat.reduceAdd, Nat.reduceLT, Nat.reduceLeDiff, Nat.reduceBNe, Nat.reduceBEq, Int.reduceToNat, List.map_append, List.map_cons, List.map_nil, Entry.enc, List.length_append, List.length_cons, List.length_nil]) <;> (repeat' apply And.intro) <;> (try first | exact wk_frzb rfl rfl rfl | rfl | exact wk_fn rfl | exact .nill _ | exact .nilo _ _ _ rfl rfl | exact wk_frz rfl (by simp only [ints_len, nats_len]) rfl (ints_pur _) | exact wk_frzm rfl rfl (fun kv hk => by obtain ⟨_, _, rfl⟩ := List.mem_map.1 hk; rfl))) rfl) ?_
    refine aw_block ?_
    refine aw_loop (α := Nat) (fun i => (i ≤ e.posts.length) ∧ (e.posts.any (wideP (pst (es ++ [e]))) = (e.posts.drop i).any (wideP (pst (es ++ [e]))))) (fun i => ⟨mkE [(0, V.ptr 1000 0), (3, V.ptr 3 0), (6, V.own 23 (es ++ [e]).length), (7, .int .i64 i)], mkH [(3, Ob.box 24 [V.int IntKind.i64 e.day, V.str e.text, V.list (List.map Post.enc e.posts) false]), (23, Ob.arr 24 3 (List.map Entry.enc (es ++ [e]))), (1000, Ob.box 55 [V.list (List.map Entry.enc es) false, V.bool true])]⟩) (fun i => e.posts.length - i) 0 ⟨Nat.zero_le _, rfl⟩ ?_ ?_
    · refine Le.mk _ _ ?_ ?_ rfl <;> simp only [go_sem, ↓reduceIte, Nat.reduceEqDiff, reduceCtorEq, Nat.reduceAdd, Nat.reduceLT, Nat.reduceLeDiff, Nat.reduceBNe, Nat.reduceBEq, Int.reduceToNat] <;> (repeat' apply And.intro) <;> (try first | rfl | exact wk_frzb rfl rfl rfl | exact wk_fn rfl | exact .nilo _ _ _ rfl rfl | exact wk_frzm rfl rfl (fun kv hk => by obtain ⟨_, _, rfl⟩ := List.mem_map.1 hk; rfl))
    · rintro i ⟨hi, ha⟩ KL0 hKL0
      try dsimp only at *
      refine aw_seq ?_
      refine aw_seq (aw_region (EF := EF0) hG (by rw [hN]; exact tr18_8) ?_)
      simp only [a18_8, go_sem, ↓reduceIte, Nat.reduceEqDiff, reduceCtorEq, Nat.reduceAdd, Nat.reduceLT, Nat.reduceLeDiff, Nat.reduceBNe, Nat.reduceBEq, Int.reduceToNat, List.length_map, tRp, lrO, fChkE_eq, fBal_eq, hck]
      refine aw_cond (b := _) rfl (fun hb8 => ?_) (fun hb8 => ?_)
      · skip
        have hc : i < e.posts.length := by simp at hb8; omega
        have hd := any_drop (f := wideP (pst (es ++ [e]))) hc
        rw [← ha] at hd
        obtain ⟨p, hp⟩ : ∃ p, p = e.posts[i] := ⟨_, rfl⟩
        rw [← hp] at hd
        refine aw_skip ?_
        try simp only [go_sem, ↓reduceIte, Nat.reduceEqDiff, reduceCtorEq, Nat.reduceAdd, Nat.reduceLT, Nat.reduceLeDiff, Nat.reduceBNe, Nat.reduceBEq, Int.reduceToNat]
        refine aw_seq ?_
        refine aw_block ?_
        refine aw_seq (aw_region (EF := EF0) hG (by rw [hN]; exact tr18_10) ?_)
        simp only [a18_10, go_sem, ↓reduceIte, Nat.reduceEqDiff, reduceCtorEq, Nat.reduceAdd, Nat.reduceLT, Nat.reduceLeDiff, Nat.reduceBNe, Nat.reduceBEq, Int.reduceToNat, getD_mapd _ _ _ _ hc, ← hp, Post.enc, hc, List.length_map, hbo, Entry.purs, tRp, lrO, fChkE_eq, fBal_eq, hck]
        (repeat' apply And.intro) <;> (try first | omega | ((fail_if_success refine idW ?_); (fail_if_success refine idS ?_); intros; (repeat' apply And.intro) <;> first | assumption | omega | (simp_all; done)))
        refine aw_seq (aw_region (EF := EF0) hG (by rw [hN]; exact tr18_11) ?_)
        simp only [a18_11, go_sem, ↓reduceIte, Nat.reduceEqDiff, reduceCtorEq, Nat.reduceAdd, Nat.reduceLT, Nat.reduceLeDiff, Nat.reduceBNe, Nat.reduceBEq, Int.reduceToNat, tRp, lrO, fChkE_eq, fBal_eq, hck]
        (repeat' apply And.intro) <;> (try first | omega | ((fail_if_success refine idW ?_); (fail_if_success refine idS ?_); intros; (repeat' apply And.intro) <;> first | assumption | omega | (simp_all; done)))
        refine aw_cond (b := _) rfl (fun hb11 => ?_) (fun hb11 => ?_)
        · skip
          have hw : wideP (pst (es ++ [e])) p = true := hb11
          have hCv : C' = 11 := by rw [hC']; unfold postR; rw [if_pos hck0, if_pos (by rw [hd, hw]; rfl)]
          have hE2 := hbad (by rw [hCv]; decide)
          subst hE2
          refine aw_seq (aw_region (EF := EF0) hG (by rw [hN]; exact tr18_12) ?_)
          simp only [a18_12, go_sem, ↓reduceIte, Nat.reduceEqDiff, reduceCtorEq, Nat.reduceAdd, Nat.reduceLT, Nat.reduceLeDiff, Nat.reduceBNe, Nat.reduceBEq, Int.reduceToNat, tRp, lrO, fChkE_eq, fBal_eq, hck]
          refine aw_ret ?_
          show Q _ _
          refine hQ _ _ ⟨mkE [(4, .int .i64 11)], mkH (lrO 1000 E')⟩ (.inl rfl) (Le.mk _ _ ?_ ?_ rfl) rfl ?_ ?_ <;> simp only [outφ, outV, AR.res, go_sem, ↓reduceIte, Nat.reduceEqDiff, reduceCtorEq, Nat.reduceAdd, Nat.reduceLT, Nat.reduceLeDiff, Nat.reduceBNe, Nat.reduceBEq, Int.reduceToNat, lrO, hCv]
        · skip
          have hw : wideP (pst (es ++ [e])) p = false := hb11
          rw [hw, Bool.false_or] at hd
          refine aw_skip ?_
          try simp only [go_sem, ↓reduceIte, Nat.reduceEqDiff, reduceCtorEq, Nat.reduceAdd, Nat.reduceLT, Nat.reduceLeDiff, Nat.reduceBNe, Nat.reduceBEq, Int.reduceToNat]
          refine aw_region (EF := EF0) hG (by rw [hN]; exact tr18_9) ?_
          simp only [a18_9, go_sem, ↓reduceIte, Nat.reduceEqDiff, reduceCtorEq, Nat.reduceAdd, Nat.reduceLT, Nat.reduceLeDiff, Nat.reduceBNe, Nat.reduceBEq, Int.reduceToNat, inI, tRp, lrO, fChkE_eq, fBal_eq, hck]
          (repeat' apply And.intro) <;> (try first | omega | ((fail_if_success refine idW ?_); (fail_if_success refine idS ?_); intros; (repeat' apply And.intro) <;> first | assumption | omega | (simp_all; done)))
          refine hKL0 (i + 1) _ ?_ ?_ ?_
          · (try dsimp only); exact ⟨hc, hd⟩
          · (try dsimp only); omega
          · refine Le.mk _ _ ?_ ?_ rfl <;> simp only [go_sem, ↓reduceIte, Nat.reduceEqDiff, reduceCtorEq, Nat.reduceAdd, Nat.reduceLT, Nat.reduceLeDiff, Nat.reduceBNe, Nat.reduceBEq, Int.reduceToNat] <;> (repeat' apply And.intro) <;> (try first | rfl | exact wk_frzb rfl rfl rfl | exact wk_fn rfl | exact .nilo _ _ _ rfl rfl | exact wk_frzm rfl rfl (fun kv hk => by obtain ⟨_, _, rfl⟩ := List.mem_map.1 hk; rfl))
      · skip
        obtain rfl : i = e.posts.length := by simp at hb8; omega
        rw [List.drop_length, List.any_nil] at ha
        have hCv : C' = 0 := by rw [hC']; unfold postR; rw [if_pos hck0, if_neg (by rw [ha]; decide)]
        have hE2 : E' = es ++ [e] := by rw [hE']; unfold postRE; rw [if_pos (by rw [← hC', hCv])]
        refine aw_exit ?_
        simp only [go_sem, ↓reduceIte, Nat.reduceEqDiff, reduceCtorEq, Nat.reduceAdd, Nat.reduceLT, Nat.reduceLeDiff, Nat.reduceBNe, Nat.reduceBEq, Int.reduceToNat]
        refine aw_seq (aw_region (EF := EF0) hG (by rw [hN]; exact tr18_13) ?_)
        simp only [a18_13, go_sem, ↓reduceIte, Nat.reduceEqDiff, reduceCtorEq, Nat.reduceAdd, Nat.reduceLT, Nat.reduceLeDiff, Nat.reduceBNe, Nat.reduceBEq, Int.reduceToNat, tRp, lrO, fChkE_eq, fBal_eq, hck]
        refine aw_seq (aw_region (EF := EF0) hG (by rw [hN]; exact tr18_14) ?_)
        simp only [a18_14, go_sem, ↓reduceIte, Nat.reduceEqDiff, reduceCtorEq, Nat.reduceAdd, Nat.reduceLT, Nat.reduceLeDiff, Nat.reduceBNe, Nat.reduceBEq, Int.reduceToNat, tRp, lrO, fChkE_eq, fBal_eq, hck]
        refine aw_ret ?_
        show Q _ _
        refine hQ _ _ ⟨mkE [(4, .int .i64 0)], mkH (lrO 1000 E')⟩ (.inl rfl) (Le.mk _ _ ?_ ?_ rfl) rfl ?_ ?_ <;> simp only [outφ, outV, AR.res, go_sem, ↓reduceIte, Nat.reduceEqDiff, reduceCtorEq, Nat.reduceAdd, Nat.reduceLT, Nat.reduceLeDiff, Nat.reduceBNe, Nat.reduceBEq, Int.reduceToNat, lrO, hCv]
        · exact wk_frzO rfl (by rw [List.length_map]) rfl ((Entry.purs _).2 trivial) (by rw [hE2])
end Go.Proofs.Ythfmdkpfaehpnaa
