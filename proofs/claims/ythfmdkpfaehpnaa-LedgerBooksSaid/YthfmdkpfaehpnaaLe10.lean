/- The chapter's examples hold. -/
import Derived.Test.YthfmdkpfaehpnaaLeF
namespace Go.Proofs.Ythfmdkpfaehpnaa
open Go Go.RowKit
set_option linter.unusedSimpArgs false
set_option linter.unusedVariables false
set_option linter.deprecated false
def sCash : List UInt8 := [99, 97, 115, 104]
def sFees : List UInt8 := [102, 101, 101, 115]
def sDue : List UInt8 := [100, 117, 101, 32, 66, 65]
theorem two_use {d : Option Nat} {s : St} {K : St → Prop} {y : Int} {a b : List UInt8} {n m : Int} (hn : inI (-n)) (hm : -n = m) (hK : K ⟨setE d (.agg [.int .i64 y, .str [116], .list [[.str a, .int .i64 n], [.str b, .int .i64 m]] false]) s.e, hov [] s.h⟩) : EStep Try.prog UT d 26 [.int .i64 y, .str a, .str b, .int .i64 n] s K := by
  subst hm
  refine ⟨[], [], _, _, _, _, two_e y a b n hn, ⟨by simp [okL], rfl, rfl, by simp, by simp, by simp, by simp [V.rens, V.ren], by simp [V.nins, V.nin], by simp [V.nin, V.nins, entV], by simp, by simp⟩, ?_⟩
  simpa [V.ren, V.rens, entV, twoE, Post.enc] using hK
theorem two_useO {d : Option Nat} {s : St} {K : St → Prop} {y : Int} {a b : List UInt8} {n m : Int} (na nb : Nat) (hn : inI (-n)) (hm : -n = m) (h1 : s.h na = none) (h2 : s.h nb = none) (l1 : na < 1000) (l2 : nb < 1000) (hne : na ≠ nb)
    (hK : K ⟨setE d (.agg [.int .i64 y, .str [116], .own na 2]) s.e, hov [(na, .arr 43 2 [[.str a, .int .i64 n], [.str b, .int .i64 m]]), (nb, .box 24 [.int .i64 y, .str [116], .own na 2])] s.h⟩) : EStep Try.prog UT d 26 [.int .i64 y, .str a, .str b, .int .i64 n] s K := by
  subst hm
  refine ⟨[], [(17, na), (8, nb)], _, _, _, _, two_o y a b n hn, ⟨by simp [okL, hne], rfl, rfl, by simp, ?_, by simp, by simp [V.rens, V.ren], by simp [V.nins, V.nin], by simp [V.nin, V.nins], ?_, by simp⟩, ?_⟩
  · intro p hp
    simp only [List.nil_append, List.mem_cons, List.not_mem_nil, or_false] at hp
    rcases hp with rfl | rfl
    · exact ⟨h1, l1⟩
    · exact ⟨h2, l2⟩
  · intro q hq
    simp only [List.mem_cons, List.not_mem_nil, or_false] at hq
    rcases hq with rfl | rfl
    · simp [Ob.nin, V.purs, V.pur]
    · simp [Ob.nin, V.nins, V.nin]
  · simpa [V.ren, V.rens, rn, Ob.ren] using hK
def aTw (x : Int × List UInt8 × List UInt8 × Int) : List V := [.int .i64 x.1, .str x.2.1, .str x.2.2.1, .int .i64 x.2.2.2]
theorem aTw_inj (a b : Int × List UInt8 × List UInt8 × Int) (h : aTw a = aTw b) : a = b := by
  obtain ⟨a_d, a_a, a_b, a_n⟩ := a
  obtain ⟨b_d, b_a, b_b, b_n⟩ := b
  simp only [aTw, List.cons.injEq, V.str.injEq, V.int.injEq, V.bool.injEq, V.agg.injEq, V.list.injEq, and_true, true_and] at h
  obtain ⟨h0, h1, h2, h3⟩ := h
  subst h0
  subst h1
  subst h2
  subst h3
  rfl
def fTw (x : Int × List UInt8 × List UInt8 × Int) : Prop × V := (inI (-x.2.2.2), entV (twoE x.1 x.2.1 x.2.2.1 x.2.2.2))
theorem two_p : PureC Try.prog UT 26 (gOf aTw fTw) := by
  have hG := tNo_ok
  refine PureC.ofArgs aTw_inj Try.func26 body26 nm26 res26 ?_
  rintro ⟨d, a, b, n⟩ hv
  refine ⟨by rw [nt26]; simp [aTw], fun C hN Q hQ => ?_⟩
  rw [nt26] at hN
  unfold c26
  have hn : inI (-n) := hv
  unfold inI at hn
  refine aw_seq (aw_region (EF := EF0) hG (by rw [hN]; exact tr26_0) ?_)
  simp only [a26_0, go_sem, ↓reduceIte, Nat.reduceEqDiff, reduceCtorEq, Nat.reduceAdd, Nat.reduceLT, Nat.reduceLeDiff, Nat.reduceBNe, Nat.reduceBEq, Int.reduceToNat, aTw]
  refine aw_seq (aw_region (EF := EF0) hG (by rw [hN]; exact tr26_1) ?_)
  simp only [a26_1, go_sem, ↓reduceIte, Nat.reduceEqDiff, reduceCtorEq, Nat.reduceAdd, Nat.reduceLT, Nat.reduceLeDiff, Nat.reduceBNe, Nat.reduceBEq, Int.reduceToNat, inI]
  (repeat' apply And.intro) <;> (try first | omega | ((fail_if_success refine idW ?_); (fail_if_success refine idS ?_); intros; (repeat' apply And.intro) <;> first | assumption | omega | (simp_all; done)))
  refine aw_ret ?_
  show Q _ _
  refine hQ _ _ (.inl rfl) ?_ ?_ ?_ <;> simp only [outφ, outV, AR.res, go_sem, ↓reduceIte, Nat.reduceEqDiff, reduceCtorEq, Nat.reduceAdd, Nat.reduceLT, Nat.reduceLeDiff, Nat.reduceBNe, Nat.reduceBEq, Int.reduceToNat, fTw, entV, twoE, List.map_cons, List.map_nil, Post.enc]
def EFk : Nat → Bool := fun f => f == 15 || f == 17 || f == 20 || f == 22 || f == 24 || f == 26
def ex1 : Entry := twoE 5 sCash sFees 100
def exL : Assoc Int := [(sCash, 100), (sFees, -100)]
theorem ex1_ok : ex1.ok := by
  simp [ex1, twoE, Entry.ok, Post.ok, inI, sCash, sFees]
theorem exC : postC [] ex1 = 0 := by decide
theorem exE : postE [] [] ex1 = [ex1] := by unfold postE; rw [exC]; rfl
theorem exLe : postL [] ex1 = exL := by unfold postL; rw [exC]; rfl
theorem ex_inv : LInv (pst [ex1]) exL := by
  have h := LInv.post (m := ex1.posts) LInv.start (by decide)
  exact h
theorem ex_tri : (triL exL).map Post.enc = [[.str sCash, .int .i64 100], [.str sFees, .int .i64 (-100)]] := by
  rw [tri_eq ex_inv]; rfl
def ex2 : Entry := ⟨5, [116], [⟨sCash, 100⟩, ⟨sFees, -99⟩]⟩
def ex3 : Entry := ⟨6, [116], [⟨sCash, -100⟩, ⟨sFees, 100⟩]⟩
theorem ex2_ok : ex2.ok := by simp [ex2, Entry.ok, Post.ok, inI, sCash, sFees]
theorem exK : gOf aEn fChkE [.agg [.int .i64 5, .str [116], .list [[.str sCash, .int .i64 100], [.str sFees, .int .i64 (-99)]] false]] = (ex2.ok, .int .i64 36) := (fChkE_eq ex2).trans (by rw [show chkE ex2 = 36 by decide])
theorem exAm : AmtOk ex1.posts := by
  refine ⟨by decide, fun p hp => ?_⟩
  have : p = ⟨sCash, 100⟩ ∨ p = ⟨sFees, -100⟩ := by simpa [ex1, twoE] using hp
  rcases this with rfl | rfl <;> (dsimp only; omega)
theorem exR : gOf aEd fRev [.agg [.int .i64 5, .str [116], .list [[.str sCash, .int .i64 100], [.str sFees, .int .i64 (-100)]] false], .int .i64 6] = (AmtOk ex1.posts, .agg [.int .i64 6, .str [116], .list [[.str sCash, .int .i64 (-100)], [.str sFees, .int .i64 100]] false]) := fRev_eq ex1 6
theorem exS : gOf aEE fSmE [.list [[.int .i64 6, .str [116], .list [[.str sCash, .int .i64 (-100)], [.str sFees, .int .i64 100]] false]] false, .list [[.int .i64 6, .str [116], .list [[.str sCash, .int .i64 (-100)], [.str sFees, .int .i64 100]] false]] false] = (SmOk [ex3] ∧ [ex3] = [ex3], .bool true) := fSmE_eq [ex3] [ex3]
theorem exSm : SmOk [ex3] := ⟨by decide, fun e he => by rw [List.mem_singleton.1 he]; decide⟩
theorem exEn : (entF [ex1] 0 36525).map Entry.enc = [[.int .i64 5, .str [116], .list [[.str sCash, .int .i64 100], [.str sFees, .int .i64 (-100)]] false]] := rfl
theorem exEp : ∀ e ∈ [ex1], e.posts ≠ [] ∧ e.posts.length ≤ 1000000000 := fun e he => by rw [List.mem_singleton.1 he]; exact ⟨by decide, by decide⟩
theorem exLB (k : List UInt8) : gOf aLB fLB [.row [.list [ex1.enc] false, .fmap (kmap fI8 exL)] 0, .str k] = (True, .int .i64 (getA exL k)) := fLB_eq [ex1] exL k
theorem exLE : gOf aLE fLE [.row [.list [ex1.enc] false, .fmap (kmap fI8 exL)] 0, .int .i64 0, .int .i64 36525] = (EntOk [ex1], .list [[.int .i64 5, .str [116], .list [[.str sCash, .int .i64 100], [.str sFees, .int .i64 (-100)]] false]] false) := fLE_eq [ex1] exL 0 36525
theorem exT6 : gOf aTw fTw [.int .i64 6, .str sCash, .str sFees, .int .i64 (-100)] = (inI (- -100), .agg [.int .i64 6, .str [116], .list [[.str sCash, .int .i64 (-100)], [.str sFees, .int .i64 100]] false]) := gOf_eq aTw_inj (6, sCash, sFees, -100)
theorem exB1 : getA exL sFees = -100 := by decide
theorem exB2 : getA exL sDue = 0 := by decide
theorem exEo : EntOk [ex1] := ⟨by decide, exEp⟩
theorem inI6 : inI (- -100) := by unfold inI; omega
noncomputable def tKn : Tab
  | 22 => (gOf aLB fLB)
  | 24 => (gOf aLE fLE)
  | 26 => (gOf aTw fTw)
  | 11 => (gOf aEn fChkE)
  | 13 => (gOf aEd fRev)
  | 12 => (gOf aEE fSmE)
  | _ => gNo
theorem tKn_ok : ∀ f, PureC Try.prog UT f (tKn f) := fun f => by
  unfold tKn
  split
  · exact balF_p
  · exact entsF_p
  · exact two_p
  · exact check_p
  · exact reverse_p
  · exact sameE_p
  · exact PureC.no
set_option maxRecDepth 100000 in
set_option maxHeartbeats 8000000 in
theorem knows_p : PureC Try.prog UT 9 (gOf aUnit fTrue) := by
  have hG := tKn_ok
  refine PureC.ofArgs aUnit_inj Try.func9 body9 nm9 res9 ?_
  rintro ⟨⟩ hv
  refine ⟨by rw [nt9]; simp [aUnit], fun C hN Q hQ => ?_⟩
  rw [nt9] at hN
  unfold c9
  refine aw_seq (aw_region (EF := EFk) hG (by rw [hN]; exact tr9_0) ?_)
  simp only [a9_0, go_sem, ↓reduceIte, Nat.reduceEqDiff, reduceCtorEq, Nat.reduceAdd, Nat.reduceLT, Nat.reduceLeDiff, Nat.reduceBNe, Nat.reduceBEq, Int.reduceToNat, aUnit, tKn, EFk, show ([99, 97, 115, 104] : List UInt8) = sCash from rfl, show ([102, 101, 101, 115] : List UInt8) = sFees from rfl, show ([100, 117, 101, 32, 66, 65] : List UInt8) = sDue from rfl]
  refine aw_seq (aw_region (EF := EFk) hG (by rw [hN]; exact tr9_1) ?_)
  simp only [a9_1, go_sem, ↓reduceIte, Nat.reduceEqDiff, reduceCtorEq, Nat.reduceAdd, Nat.reduceLT, Nat.reduceLeDiff, Nat.reduceBNe, Nat.reduceBEq, Int.reduceToNat, tKn, EFk, show ([99, 97, 115, 104] : List UInt8) = sCash from rfl, show ([102, 101, 101, 115] : List UInt8) = sFees from rfl, show ([100, 117, 101, 32, 66, 65] : List UInt8) = sDue from rfl]
  refine new_use 500 501 502 (by decide) (by decide) (by decide) rfl rfl rfl (by decide) (by decide) (by decide) ?_
  simp only [go_sem, ↓reduceIte, Nat.reduceEqDiff, reduceCtorEq, Nat.reduceAdd, Nat.reduceLT, Nat.reduceLeDiff, Nat.reduceBNe, Nat.reduceBEq, Int.reduceToNat]
  refine AW.le (s' := ⟨mkE [(1, .ptr 500 0)], mkH (lgO 500 501 502 [] [])⟩) (Le.mk _ _ (by (simp only [go_sem, ↓reduceIte, Nat.reduceEqDiff, reduceCtorEq, Nat.reduceAdd, Nat.reduceLT, Nat.reduceLeDiff, Nat.reduceBNe, Nat.reduceBEq, Int.reduceToNat, lgO]) <;> (repeat' apply And.intro) <;> (try first | exact wk_frzb rfl rfl rfl | rfl | exact wk_fn rfl | exact .nill _ | exact .nilo _ _ _ rfl rfl | exact wk_frz rfl (by simp only [ints_len, nats_len]) rfl (ints_pur _) | exact wk_frzm rfl rfl (fun kv hk => by obtain ⟨_, _, rfl⟩ := List.mem_map.1 hk; rfl))) (by (simp only [go_sem, ↓reduceIte, Nat.reduceEqDiff, reduceCtorEq, Nat.reduceAdd, Nat.reduceLT, Nat.reduceLeDiff, Nat.reduceBNe, Nat.reduceBEq, Int.reduceToNat, lgO]) <;> (repeat' apply And.intro) <;> (try first | exact wk_frzb rfl rfl rfl | rfl | exact wk_fn rfl | exact .nill _ | exact .nilo _ _ _ rfl rfl | exact wk_frz rfl (by simp only [ints_len, nats_len]) rfl (ints_pur _) | exact wk_frzm rfl rfl (fun kv hk => by obtain ⟨_, _, rfl⟩ := List.mem_map.1 hk; rfl))) rfl) ?_
  refine aw_seq ?_
  refine aw_seq (aw_region (EF := EFk) hG (by rw [hN]; exact tr9_2) ?_)
  simp only [a9_2, go_sem, ↓reduceIte, Nat.reduceEqDiff, reduceCtorEq, Nat.reduceAdd, Nat.reduceLT, Nat.reduceLeDiff, Nat.reduceBNe, Nat.reduceBEq, Int.reduceToNat, lgO, tKn, EFk, show ([99, 97, 115, 104] : List UInt8) = sCash from rfl, show ([102, 101, 101, 115] : List UInt8) = sFees from rfl, show ([100, 117, 101, 32, 66, 65] : List UInt8) = sDue from rfl]
  refine aw_condF rfl ?_
  refine aw_skip ?_
  try simp only [go_sem, ↓reduceIte, Nat.reduceEqDiff, reduceCtorEq, Nat.reduceAdd, Nat.reduceLT, Nat.reduceLeDiff, Nat.reduceBNe, Nat.reduceBEq, Int.reduceToNat]
  refine aw_seq (aw_region (EF := EFk) hG (by rw [hN]; exact tr9_4) ?_)
  simp only [a9_4, go_sem, ↓reduceIte, Nat.reduceEqDiff, reduceCtorEq, Nat.reduceAdd, Nat.reduceLT, Nat.reduceLeDiff, Nat.reduceBNe, Nat.reduceBEq, Int.reduceToNat, tKn, EFk, show ([99, 97, 115, 104] : List UInt8) = sCash from rfl, show ([102, 101, 101, 115] : List UInt8) = sFees from rfl, show ([100, 117, 101, 32, 66, 65] : List UInt8) = sDue from rfl]
  refine two_use (m := -100) (by unfold inI; omega) rfl ?_
  simp only [go_sem, ↓reduceIte, Nat.reduceEqDiff, reduceCtorEq, Nat.reduceAdd, Nat.reduceLT, Nat.reduceLeDiff, Nat.reduceBNe, Nat.reduceBEq, Int.reduceToNat, EFk]
  refine lg_use (post_e [] [] ex1 LInv.start ex1_ok (by simp)) (fun σ => by simp [V.rens, V.ren]) (fun D => by simp [V.nins, V.nin]) (fun σ => by simp [V.ren]) (fun D => by simp [V.nin]) rfl rfl rfl (by decide) (by decide) (by decide) ?_
  rw [exC, exE, exLe]
  simp only [go_sem, ↓reduceIte, Nat.reduceEqDiff, reduceCtorEq, Nat.reduceAdd, Nat.reduceLT, Nat.reduceLeDiff, Nat.reduceBNe, Nat.reduceBEq, Int.reduceToNat]
  refine AW.le (s' := ⟨mkE [(1, .ptr 500 0), (2, .int .i64 0)], mkH (lgO 500 501 502 [ex1] exL)⟩) (Le.mk _ _ (by (simp only [go_sem, ↓reduceIte, Nat.reduceEqDiff, reduceCtorEq, Nat.reduceAdd, Nat.reduceLT, Nat.reduceLeDiff, Nat.reduceBNe, Nat.reduceBEq, Int.reduceToNat, lgO]) <;> (repeat' apply And.intro) <;> (try first | exact wk_frzb rfl rfl rfl | rfl | exact wk_fn rfl | exact .nill _ | exact .nilo _ _ _ rfl rfl | exact wk_frz rfl (by simp only [ints_len, nats_len]) rfl (ints_pur _) | exact wk_frzm rfl rfl (fun kv hk => by obtain ⟨_, _, rfl⟩ := List.mem_map.1 hk; rfl))) (by (simp only [go_sem, ↓reduceIte, Nat.reduceEqDiff, reduceCtorEq, Nat.reduceAdd, Nat.reduceLT, Nat.reduceLeDiff, Nat.reduceBNe, Nat.reduceBEq, Int.reduceToNat, lgO]) <;> (repeat' apply And.intro) <;> (try first | exact wk_frzb rfl rfl rfl | rfl | exact wk_fn rfl | exact .nill _ | exact .nilo _ _ _ rfl rfl | exact wk_frz rfl (by simp only [ints_len, nats_len]) rfl (ints_pur _) | exact wk_frzm rfl rfl (fun kv hk => by obtain ⟨_, _, rfl⟩ := List.mem_map.1 hk; rfl))) rfl) ?_
  refine aw_seq (aw_region (EF := EFk) hG (by rw [hN]; exact tr9_5) ?_)
  simp only [a9_5, go_sem, ↓reduceIte, Nat.reduceEqDiff, reduceCtorEq, Nat.reduceAdd, Nat.reduceLT, Nat.reduceLeDiff, Nat.reduceBNe, Nat.reduceBEq, Int.reduceToNat, tKn, EFk, show ([99, 97, 115, 104] : List UInt8) = sCash from rfl, show ([102, 101, 101, 115] : List UInt8) = sFees from rfl, show ([100, 117, 101, 32, 66, 65] : List UInt8) = sDue from rfl]
  refine lg_use (trial_e [ex1] exL (by decide) (by decide)) (fun σ => by simp [V.rens]) (fun D => by simp [V.nins]) (fun σ => by simp [V.ren]) (fun D => by simp [V.nin]) rfl rfl rfl (by decide) (by decide) (by decide) ?_
  rw [ex_tri]
  simp only [go_sem, ↓reduceIte, Nat.reduceEqDiff, reduceCtorEq, Nat.reduceAdd, Nat.reduceLT, Nat.reduceLeDiff, Nat.reduceBNe, Nat.reduceBEq, Int.reduceToNat]
  refine AW.le (s' := ⟨mkE [(1, .ptr 500 0), (2, .int .i64 0), (3, .list [[.str sCash, .int .i64 100], [.str sFees, .int .i64 (-100)]] false)], mkH (lgO 500 501 502 [ex1] exL)⟩) (Le.mk _ _ (by (simp only [go_sem, ↓reduceIte, Nat.reduceEqDiff, reduceCtorEq, Nat.reduceAdd, Nat.reduceLT, Nat.reduceLeDiff, Nat.reduceBNe, Nat.reduceBEq, Int.reduceToNat, lgO]) <;> (repeat' apply And.intro) <;> (try first | exact wk_frzb rfl rfl rfl | rfl | exact wk_fn rfl | exact .nill _ | exact .nilo _ _ _ rfl rfl | exact wk_frz rfl (by simp only [ints_len, nats_len]) rfl (ints_pur _) | exact wk_frzm rfl rfl (fun kv hk => by obtain ⟨_, _, rfl⟩ := List.mem_map.1 hk; rfl))) (by (simp only [go_sem, ↓reduceIte, Nat.reduceEqDiff, reduceCtorEq, Nat.reduceAdd, Nat.reduceLT, Nat.reduceLeDiff, Nat.reduceBNe, Nat.reduceBEq, Int.reduceToNat, lgO]) <;> (repeat' apply And.intro) <;> (try first | exact wk_frzb rfl rfl rfl | rfl | exact wk_fn rfl | exact .nill _ | exact .nilo _ _ _ rfl rfl | exact wk_frz rfl (by simp only [ints_len, nats_len]) rfl (ints_pur _) | exact wk_frzm rfl rfl (fun kv hk => by obtain ⟨_, _, rfl⟩ := List.mem_map.1 hk; rfl))) rfl) ?_
  refine aw_seq (aw_region (EF := EFk) hG (by rw [hN]; exact tr9_6) ?_)
  simp only [a9_6, go_sem, ↓reduceIte, Nat.reduceEqDiff, reduceCtorEq, Nat.reduceAdd, Nat.reduceLT, Nat.reduceLeDiff, Nat.reduceBNe, Nat.reduceBEq, Int.reduceToNat, tKn, EFk, show ([99, 97, 115, 104] : List UInt8) = sCash from rfl, show ([102, 101, 101, 115] : List UInt8) = sFees from rfl, show ([100, 117, 101, 32, 66, 65] : List UInt8) = sDue from rfl]
  refine two_useO (m := -100) 510 511 (by unfold inI; omega) rfl rfl rfl (by decide) (by decide) (by decide) ?_
  simp only [go_sem, ↓reduceIte, Nat.reduceEqDiff, reduceCtorEq, Nat.reduceAdd, Nat.reduceLT, Nat.reduceLeDiff, Nat.reduceBNe, Nat.reduceBEq, Int.reduceToNat]
  refine ⟨by simp [lgO, mkH], ?_⟩
  refine AW.le (s' := ⟨mkE [(1, .ptr 500 0), (2, .int .i64 0), (3, .list [[.str sCash, .int .i64 100], [.str sFees, .int .i64 (-100)]] false), (4, .ptr 4 0)], mkH ((4, .box 24 [.int .i64 5, .str [116], .own 510 2]) :: (510, .arr 43 2 [[.str sCash, .int .i64 100], [.str sFees, .int .i64 (-100)]]) :: lgO 500 501 502 [ex1] exL)⟩) (Le.mk _ _ (by (simp only [go_sem, ↓reduceIte, Nat.reduceEqDiff, reduceCtorEq, Nat.reduceAdd, Nat.reduceLT, Nat.reduceLeDiff, Nat.reduceBNe, Nat.reduceBEq, Int.reduceToNat, lgO]) <;> (repeat' apply And.intro) <;> (try first | exact wk_frzb rfl rfl rfl | rfl | exact wk_fn rfl | exact .nill _ | exact .nilo _ _ _ rfl rfl | exact wk_frz rfl (by simp only [ints_len, nats_len]) rfl (ints_pur _) | exact wk_frzm rfl rfl (fun kv hk => by obtain ⟨_, _, rfl⟩ := List.mem_map.1 hk; rfl))) (by (simp only [go_sem, ↓reduceIte, Nat.reduceEqDiff, reduceCtorEq, Nat.reduceAdd, Nat.reduceLT, Nat.reduceLeDiff, Nat.reduceBNe, Nat.reduceBEq, Int.reduceToNat, lgO]) <;> (repeat' apply And.intro) <;> (try first | exact wk_frzb rfl rfl rfl | rfl | exact wk_fn rfl | exact .nill _ | exact .nilo _ _ _ rfl rfl | exact wk_frz rfl (by simp only [ints_len, nats_len]) rfl (ints_pur _) | exact wk_frzm rfl rfl (fun kv hk => by obtain ⟨_, _, rfl⟩ := List.mem_map.1 hk; rfl))) rfl) ?_
  refine aw_seq (aw_region (EF := EFk) hG (by rw [hN]; exact tr9_7) ?_)
  simp only [a9_7, go_sem, ↓reduceIte, Nat.reduceEqDiff, reduceCtorEq, Nat.reduceAdd, Nat.reduceLT, Nat.reduceLeDiff, Nat.reduceBNe, Nat.reduceBEq, Int.reduceToNat, tKn, EFk, show ([99, 97, 115, 104] : List UInt8) = sCash from rfl, show ([102, 101, 101, 115] : List UInt8) = sFees from rfl, show ([100, 117, 101, 32, 66, 65] : List UInt8) = sDue from rfl]
  (repeat' apply And.intro) <;> (try first | omega | ((fail_if_success refine idW ?_); (fail_if_success refine idS ?_); intros; (repeat' apply And.intro) <;> first | assumption | omega | (simp_all; done)))
  refine AW.le (s' := ⟨mkE [(1, .ptr 500 0), (2, .int .i64 0), (3, .list [[.str sCash, .int .i64 100], [.str sFees, .int .i64 (-100)]] false), (4, .ptr 4 0)], mkH ((4, .box 24 [.int .i64 5, .str [116], .list [[.str sCash, .int .i64 100], [.str sFees, .int .i64 (-99)]] false]) :: lgO 500 501 502 [ex1] exL)⟩) ?_ ?_
  · refine Le.mk _ _ ?_ ?_ rfl <;> simp only [go_sem, ↓reduceIte, Nat.reduceEqDiff, reduceCtorEq, Nat.reduceAdd, Nat.reduceLT, Nat.reduceLeDiff, Nat.reduceBNe, Nat.reduceBEq, Int.reduceToNat, lgO] <;> (repeat' apply And.intro) <;> (try first | rfl | exact wk_frzb rfl rfl rfl | exact wk_fn rfl | exact .nilo _ _ _ rfl rfl | exact wk_frzm rfl rfl (fun kv hk => by obtain ⟨_, _, rfl⟩ := List.mem_map.1 hk; rfl))
    exact wk_frzO rfl rfl rfl (by simp [V.purs, V.pur]) rfl
  refine aw_seq (aw_region (EF := EFk) hG (by rw [hN]; exact tr9_8) ?_)
  simp only [a9_8, go_sem, ↓reduceIte, Nat.reduceEqDiff, reduceCtorEq, Nat.reduceAdd, Nat.reduceLT, Nat.reduceLeDiff, Nat.reduceBNe, Nat.reduceBEq, Int.reduceToNat, tKn, EFk, show ([99, 97, 115, 104] : List UInt8) = sCash from rfl, show ([102, 101, 101, 115] : List UInt8) = sFees from rfl, show ([100, 117, 101, 32, 66, 65] : List UInt8) = sDue from rfl]
  refine two_use (m := -100) (by unfold inI; omega) rfl ?_
  simp only [go_sem, ↓reduceIte, Nat.reduceEqDiff, reduceCtorEq, Nat.reduceAdd, Nat.reduceLT, Nat.reduceLeDiff, Nat.reduceBNe, Nat.reduceBEq, Int.reduceToNat, exR, exAm]
  refine ⟨by simp [lgO, mkH], ?_⟩
  refine AW.le (s' := ⟨mkE [(1, .ptr 500 0), (2, .int .i64 0), (3, .list [[.str sCash, .int .i64 100], [.str sFees, .int .i64 (-100)]] false), (4, .ptr 4 0), (5, .ptr 5 0)], mkH [(5, .box 24 [.int .i64 6, .str [116], .list [[.str sCash, .int .i64 (-100)], [.str sFees, .int .i64 100]] false]), (4, .box 24 [.int .i64 5, .str [116], .list [[.str sCash, .int .i64 100], [.str sFees, .int .i64 (-99)]] false]), (500, .box 49 [.list [ex1.enc] false, .fmap (kmap fI8 exL)])]⟩) ?_ ?_
  · refine Le.mk _ _ ?_ ?_ rfl <;> simp only [go_sem, ↓reduceIte, Nat.reduceEqDiff, reduceCtorEq, Nat.reduceAdd, Nat.reduceLT, Nat.reduceLeDiff, Nat.reduceBNe, Nat.reduceBEq, Int.reduceToNat, lgO] <;> (repeat' apply And.intro) <;> (try first | rfl | exact wk_frzb rfl rfl rfl | exact wk_fn rfl | exact .nilo _ _ _ rfl rfl | exact wk_frzm rfl rfl (fun kv hk => by obtain ⟨_, _, rfl⟩ := List.mem_map.1 hk; rfl))
    · exact wk_frzO rfl rfl rfl ((Entry.purs [ex1]).2 trivial) rfl
  refine AW.le (s' := ⟨mkE [(1, .row [.list [ex1.enc] false, .fmap (kmap fI8 exL)] 0), (2, .int .i64 0), (3, .list [[.str sCash, .int .i64 100], [.str sFees, .int .i64 (-100)]] false), (4, .ptr 4 0), (5, .ptr 5 0)], mkH ([(5, .box 24 [.int .i64 6, .str [116], .list [[.str sCash, .int .i64 (-100)], [.str sFees, .int .i64 100]] false]), (4, .box 24 [.int .i64 5, .str [116], .list [[.str sCash, .int .i64 100], [.str sFees, .int .i64 (-99)]] false])])⟩) (Le.mk _ _ (by (simp only [go_sem, ↓reduceIte, Nat.reduceEqDiff, reduceCtorEq, Nat.reduceAdd, Nat.reduceLT, Nat.reduceLeDiff, Nat.reduceBNe, Nat.reduceBEq, Int.reduceToNat]) <;> (repeat' apply And.intro) <;> (try first | exact wk_frzb rfl rfl rfl | rfl | exact wk_fn rfl | exact .nill _ | exact .nilo _ _ _ rfl rfl | exact wk_frz rfl (by simp only [ints_len, nats_len]) rfl (ints_pur _) | exact wk_frzm rfl rfl (fun kv hk => by obtain ⟨_, _, rfl⟩ := List.mem_map.1 hk; rfl))) (by (simp only [go_sem, ↓reduceIte, Nat.reduceEqDiff, reduceCtorEq, Nat.reduceAdd, Nat.reduceLT, Nat.reduceLeDiff, Nat.reduceBNe, Nat.reduceBEq, Int.reduceToNat]) <;> (repeat' apply And.intro) <;> (try first | exact wk_frzb rfl rfl rfl | rfl | exact wk_fn rfl | exact .nill _ | exact .nilo _ _ _ rfl rfl | exact wk_frz rfl (by simp only [ints_len, nats_len]) rfl (ints_pur _) | exact wk_frzm rfl rfl (fun kv hk => by obtain ⟨_, _, rfl⟩ := List.mem_map.1 hk; rfl))) rfl) ?_
  refine aw_seq (aw_regionD (EF := EF0) hG mixed (by rw [hN]; exact tr9_9) ok9_9 ?_)
  simp (maxSteps := 2000000) only [a9_9, d9_9, go_sem, ↓reduceIte, Nat.reduceEqDiff, reduceCtorEq, Nat.reduceAdd, Nat.reduceLT, Nat.reduceLeDiff, Nat.reduceBNe, Nat.reduceBEq, Int.reduceToNat, exLB, exLE, exK, ex2_ok, exS, exSm, exT6, exB1, exB2, exEn, exEo, decide_true, inI6, tKn, EFk, show ([99, 97, 115, 104] : List UInt8) = sCash from rfl, show ([102, 101, 101, 115] : List UInt8) = sFees from rfl, show ([100, 117, 101, 32, 66, 65] : List UInt8) = sDue from rfl]
  refine ⟨by omega, ?_⟩
  refine aw_ret ?_
  show Q _ _
  refine hQ _ _ (.inl rfl) ?_ ?_ ?_ <;> simp only [outφ, outV, AR.res, go_sem, ↓reduceIte, Nat.reduceEqDiff, reduceCtorEq, Nat.reduceAdd, Nat.reduceLT, Nat.reduceLeDiff, Nat.reduceBNe, Nat.reduceBEq, Int.reduceToNat, fTrue]
end Go.Proofs.Ythfmdkpfaehpnaa
