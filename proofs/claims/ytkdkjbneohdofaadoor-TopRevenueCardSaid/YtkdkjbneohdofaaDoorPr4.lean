/- Sums by name in the program: sums, Shares, Taxes. -/
import Derived.Test.YtkdkjbneohdofaaDoorPr2
import Derived.Test.YtkdkjbneohdofaaDoorPr0
namespace Go.Proofs.YtkdkjbneohdofaaDoor
open Go Go.RowKit
set_option linter.unusedSimpArgs false
set_option linter.unusedVariables false
set_option linter.deprecated false
def aSu (L : Assoc (List Int)) : List V := [.fmap (glF L)]
theorem glF_inj : ∀ {a b : Assoc (List Int)}, glF a = glF b → a = b
  | [], [], _ => rfl
  | [], p :: b, h => by cases h
  | p :: a, [], h => by cases h
  | (k, l) :: a, (k2, l2) :: b, h => by
    unfold glF kmap at h
    rw [List.map_cons, List.map_cons] at h
    injection h with h1 h2
    simp only [Prod.mk.injEq, Ky.s.injEq, V.list.injEq, and_true] at h1
    obtain ⟨h3, h4⟩ := h1
    subst h3
    rw [ints_inj h4, glF_inj (a := a) (b := b) h2]
theorem aSu_inj (a b : Assoc (List Int)) (h : aSu a = aSu b) : a = b := by
  unfold aSu at h
  simp only [List.cons.injEq, V.fmap.injEq, and_true] at h
  exact glF_inj h
/-- The names, their sums, the error. -/
def uRes (ns : List (List UInt8)) : Option (List Int) → List (List UInt8) × List Int × Int
  | some a => (ns, a, 0)
  | none => ([], [], 11)
def uResV (y : List (List UInt8) × List Int × Int) : V := .tup [.list (strs y.1) false, .list (ints y.2.1) false, .int .i64 y.2.2]
def sumsM (L : Assoc (List Int)) : List (List UInt8) × List Int × Int := uRes (sortS (L.map (·.1))) (upGo (fun k => (aget L k).getD []) (sortS (L.map (·.1))))
def SuOk (L : Assoc (List Int)) : Prop := L.length ≤ 1000000 ∧ (∀ p ∈ L, p.1.length ≤ 140737488355328) ∧ ∀ p ∈ L, p.2.length ≤ 1000000
def fSu (L : Assoc (List Int)) : Prop × V := (SuOk L, uResV (sumsM L))
theorem fSu_eq (L : Assoc (List Int)) : gOf aSu fSu [.fmap (glF L)] = (SuOk L, uResV (sumsM L)) := gOf_eq aSu_inj L
theorem fSum_eq' (l : List Int) : gOf aLi fSum [.list (ints l) false] = (l.length ≤ 140737488355328, pairV (sumF 0 l)) := gOf_eq aLi_inj l
theorem glF_get {L : Assoc (List Int)} {k : List UInt8} (h : k ∈ L.map (·.1)) : mget (glF L) (.s k) .nils = .list (ints ((aget L k).getD [])) false := by
  unfold glF
  rw [kmap_get]
  obtain ⟨p, hp, rfl⟩ := List.mem_map.1 h
  have : (aget L p.1).isSome = true := by
    unfold aget
    rw [Option.isSome_map, List.find?_isSome]
    exact ⟨p, hp, by simp⟩
  obtain ⟨l, hl⟩ := Option.isSome_iff_exists.1 this
  rw [hl]; rfl
theorem glF_row {L : Assoc (List Int)} (h : ∀ p ∈ L, p.2.length ≤ 1000000) (k : List UInt8) : ((aget L k).getD []).length ≤ 1000000 := by
  cases ha : aget L k with
  | none => simp
  | some l =>
    unfold aget at ha
    obtain ⟨p, hp, rfl⟩ := Option.map_eq_some_iff.1 ha
    exact h p (List.mem_of_find?_eq_some hp)
theorem glF_kd (L : Assoc (List Int)) : (∀ q ∈ glF L, q.1.kd = 0) ↔ True := kmap_key _ L
theorem glF_ko {L : Assoc (List Int)} (h : SuOk L) : KeyOk (glF L) := by
  refine ⟨by unfold glF kmap; rw [List.length_map]; exact h.1, fun p hp => ?_⟩
  obtain ⟨q, hq, rfl⟩ := List.mem_map.1 hp
  exact ⟨rfl, h.2.1 q hq⟩
def EFl : Nat → Bool := fun f => f == fKeysL || f == 15
noncomputable def tSu : Tab
  | 25 => (gOf aLi fSum)
  | _ => gNo
theorem tSu_ok : ∀ f, PureC Tryd.prog UT f (tSu f) := fun f => by
  unfold tSu
  split
  · exact sum_p
  · exact PureC.no
set_option maxHeartbeats 4000000 in
theorem sums_p : PureC Tryd.prog UT 13 (gOf aSu fSu) := by
  have hG := tSu_ok
  refine PureC.ofArgs aSu_inj Tryd.func13 body13 nm13 res13 ?_
  rintro L hv
  refine ⟨by rw [nt13]; simp [aSu], fun C hN Q hQ => ?_⟩
  rw [nt13] at hN
  unfold c13
  obtain ⟨hl, hk, hr⟩ : SuOk L := hv
  have hko := glF_ko ⟨hl, hk, hr⟩
  have hrow := glF_row hr
  have hsm : sumsM L = uRes (sortS (L.map (·.1))) (upGo (fun k => (aget L k).getD []) (sortS (L.map (·.1)))) := rfl
  have hget : ∀ k ∈ sortS (L.map (·.1)), mget (glF L) (.s k) .nils = .list (ints ((aget L k).getD [])) false := fun k hk => glF_get ((sortS_perm _).mem_iff.1 hk)
  have hksl : (sortS (L.map (·.1))).length ≤ 1000000 := by rw [(sortS_perm _).length_eq, List.length_map]; exact hl
  refine aw_seq (aw_region (EF := EFl) hG (by rw [hN]; exact tr13_0) ?_)
  simp only [a13_0, go_sem, ↓reduceIte, Nat.reduceEqDiff, reduceCtorEq, Nat.reduceAdd, Nat.reduceLT, Nat.reduceLeDiff, Nat.reduceBNe, Nat.reduceBEq, Int.reduceToNat, aSu, EFl, tSu, fSum_eq']
  refine aw_seq (aw_region (EF := EFl) hG (by rw [hN]; exact tr13_1) ?_)
  simp only [a13_1, go_sem, ↓reduceIte, Nat.reduceEqDiff, reduceCtorEq, Nat.reduceAdd, Nat.reduceLT, Nat.reduceLeDiff, Nat.reduceBNe, Nat.reduceBEq, Int.reduceToNat, EFl, tSu, fSum_eq']
  refine keysL_use 12 rfl (by decide) ?_
  simp only [go_sem, ↓reduceIte, Nat.reduceEqDiff, reduceCtorEq, Nat.reduceAdd, Nat.reduceLT, Nat.reduceLeDiff, Nat.reduceBNe, Nat.reduceBEq, Int.reduceToNat]
  refine sortedL_use hko rfl ?_
  have hkk : keysS (glF L) = L.map (·.1) := keysS_kmap _ _
  simp only [go_sem, ↓reduceIte, Nat.reduceEqDiff, reduceCtorEq, Nat.reduceAdd, Nat.reduceLT, Nat.reduceLeDiff, Nat.reduceBNe, Nat.reduceBEq, Int.reduceToNat, hkk]
  generalize sortS (L.map (·.1)) = ks at hsm hget hksl ⊢
  refine aw_seq (aw_region (EF := EFl) hG (by rw [hN]; exact tr13_2) ?_)
  simp only [a13_2, go_sem, ↓reduceIte, Nat.reduceEqDiff, reduceCtorEq, Nat.reduceAdd, Nat.reduceLT, Nat.reduceLeDiff, Nat.reduceBNe, Nat.reduceBEq, Int.reduceToNat, EFl, tSu, fSum_eq']
  refine aw_seq ?_
  refine aw_seq (aw_region (EF := EFl) hG (by rw [hN]; exact tr13_3) ?_)
  simp only [a13_3, go_sem, ↓reduceIte, Nat.reduceEqDiff, reduceCtorEq, Nat.reduceAdd, Nat.reduceLT, Nat.reduceLeDiff, Nat.reduceBNe, Nat.reduceBEq, Int.reduceToNat, strs_len, EFl, tSu, fSum_eq']
  refine aw_block ?_
  refine aw_loop (α := Nat × (List Int)) (fun γ => (γ.1 ≤ ks.length) ∧ (upGo (fun k => (aget L k).getD []) ks = (upGo (fun k => (aget L k).getD []) (ks.drop γ.1)).map (γ.2 ++ ·)) ∧ (γ.2.length = γ.1)) (fun γ => ⟨mkE [(0, V.fmap (glF L)), (5, V.list (strs ks) false), (6, .own 33 γ.2.length), (14, V.list (strs ks) false), (15, V.int IntKind.i64 ↑ks.length), (16, .int .i64 γ.1)], mkH [(33, .arr 3 1 (ints γ.2))]⟩) (fun γ => ks.length - γ.1) (0, []) ⟨Nat.zero_le _, by simp, rfl⟩ ?_ ?_
  · refine Le.mk _ _ ?_ ?_ rfl <;> simp only [go_sem, ↓reduceIte, Nat.reduceEqDiff, reduceCtorEq, Nat.reduceAdd, Nat.reduceLT, Nat.reduceLeDiff, Nat.reduceBNe, Nat.reduceBEq, Int.reduceToNat] <;> (repeat' apply And.intro) <;> (try first | rfl | exact wk_frzb rfl rfl rfl | exact wk_fn rfl | exact .nilo _ _ _ rfl rfl | exact wk_frzm rfl rfl (fun kv hk => by obtain ⟨_, _, rfl⟩ := List.mem_map.1 hk; rfl))
  · rintro ⟨i, xs⟩ ⟨hi, hx, hl⟩ KL0 hKL0
    try dsimp only at *
    refine aw_seq (aw_region (EF := EFl) hG (by rw [hN]; exact tr13_4) ?_)
    simp only [a13_4, go_sem, ↓reduceIte, Nat.reduceEqDiff, reduceCtorEq, Nat.reduceAdd, Nat.reduceLT, Nat.reduceLeDiff, Nat.reduceBNe, Nat.reduceBEq, Int.reduceToNat, EFl, tSu, fSum_eq']
    refine aw_seq ?_
    refine aw_cond (b := _) rfl (fun hc4 => ?_) (fun hc4 => ?_)
    · simp only [decide_eq_true_eq, decide_eq_false_iff_not, Bool.and_eq_true, Bool.or_eq_true, Bool.not_eq_true', Bool.not_eq_false', Bool.and_eq_false_iff, Bool.or_eq_false_iff, Int.ofNat_lt, Int.ofNat_le, Nat.not_lt, Nat.not_le, Int.not_lt, Int.not_le] at hc4
      refine aw_skip ?_
      try simp only [go_sem, ↓reduceIte, Nat.reduceEqDiff, reduceCtorEq, Nat.reduceAdd, Nat.reduceLT, Nat.reduceLeDiff, Nat.reduceBNe, Nat.reduceBEq, Int.reduceToNat]
      refine aw_seq ?_
      refine aw_block ?_
      have hd := List.drop_eq_getElem_cons hc4
      rw [hd, upGo] at hx
      have hgk := hget _ (List.getElem_mem hc4)
      have hrk : ((aget L ks[i]).getD []).length ≤ 140737488355328 := by have := hrow ks[i]; omega
      obtain ⟨⟨n, e⟩, hne⟩ : ∃ y, sumF 0 ((aget L ks[i]).getD []) = y := ⟨_, rfl⟩
      have herr := sumF_err ((aget L ks[i]).getD []) 0
      rw [hne] at hx herr
      dsimp only at hx herr
      refine aw_seq (aw_region (EF := EFl) hG (by rw [hN]; exact tr13_5) ?_)
      simp only [a13_5, go_sem, ↓reduceIte, Nat.reduceEqDiff, reduceCtorEq, Nat.reduceAdd, Nat.reduceLT, Nat.reduceLeDiff, Nat.reduceBNe, Nat.reduceBEq, Int.reduceToNat, strs_getD _ _ _ hc4, hc4, EFl, tSu, fSum_eq']
      (repeat' apply And.intro) <;> (try first | omega | ((fail_if_success refine idW ?_); (fail_if_success refine idS ?_); intros; (repeat' apply And.intro) <;> first | assumption | omega | (simp_all; done)))
      refine aw_seq (aw_region (EF := EFl) hG (by rw [hN]; exact tr13_6) ?_)
      simp only [a13_6, go_sem, ↓reduceIte, Nat.reduceEqDiff, reduceCtorEq, Nat.reduceAdd, Nat.reduceLT, Nat.reduceLeDiff, Nat.reduceBNe, Nat.reduceBEq, Int.reduceToNat, glF_kd, hgk, hrk, hne, pairV, EFl, tSu, fSum_eq']
      (repeat' apply And.intro) <;> (try first | omega | ((fail_if_success refine idW ?_); (fail_if_success refine idS ?_); intros; (repeat' apply And.intro) <;> first | assumption | omega | (simp_all; done)))
      refine aw_seq ?_
      refine aw_seq (aw_region (EF := EFl) hG (by rw [hN]; exact tr13_7) ?_)
      simp only [a13_7, go_sem, ↓reduceIte, Nat.reduceEqDiff, reduceCtorEq, Nat.reduceAdd, Nat.reduceLT, Nat.reduceLeDiff, Nat.reduceBNe, Nat.reduceBEq, Int.reduceToNat, EFl, tSu, fSum_eq']
      refine aw_cond (b := _) rfl (fun hb7 => ?_) (fun hb7 => ?_)
      · skip
        have he : e ≠ 0 := by simpa using hb7
        rw [if_pos he, Option.map_none] at hx
        obtain rfl : e = 11 := by rcases herr with h | h; exact absurd h he; injection h
        refine aw_seq (aw_region (EF := EFl) hG (by rw [hN]; exact tr13_8) ?_)
        simp only [a13_8, go_sem, ↓reduceIte, Nat.reduceEqDiff, reduceCtorEq, Nat.reduceAdd, Nat.reduceLT, Nat.reduceLeDiff, Nat.reduceBNe, Nat.reduceBEq, Int.reduceToNat, EFl, tSu, fSum_eq']
        refine AW.le (s' := ⟨mkE [(2, .list [] false), (3, .list [] false), (4, .int .i64 11)], mkH []⟩) (Le.mk _ _ ?_ ?_ rfl) (aw_ret (hQ _ _ (.inl rfl) ?_ ?_ ?_)) <;> simp only [outφ, outV, AR.res, go_sem, ↓reduceIte, Nat.reduceEqDiff, reduceCtorEq, Nat.reduceAdd, Nat.reduceLT, Nat.reduceLeDiff, Nat.reduceBNe, Nat.reduceBEq, Int.reduceToNat, fSu, uResV, hsm, hx, uRes, strs_nil, ints_nil]
      · skip
        have he : e = 0 := by simpa using hb7
        rw [if_neg (by simpa using he)] at hx
        refine aw_skip ?_
        try simp only [go_sem, ↓reduceIte, Nat.reduceEqDiff, reduceCtorEq, Nat.reduceAdd, Nat.reduceLT, Nat.reduceLeDiff, Nat.reduceBNe, Nat.reduceBEq, Int.reduceToNat]
        refine aw_region (EF := EFl) hG (by rw [hN]; exact tr13_9) ?_
        simp only [a13_9, go_sem, ↓reduceIte, Nat.reduceEqDiff, reduceCtorEq, Nat.reduceAdd, Nat.reduceLT, Nat.reduceLeDiff, Nat.reduceBNe, Nat.reduceBEq, Int.reduceToNat, EFl, tSu, fSum_eq']
        (repeat' apply And.intro) <;> (try first | omega | ((fail_if_success refine idW ?_); (fail_if_success refine idS ?_); intros; (repeat' apply And.intro) <;> first | assumption | omega | (simp_all; done)))
        refine aw_region (EF := EFl) hG (by rw [hN]; exact tr13_10) ?_
        simp only [a13_10, go_sem, ↓reduceIte, Nat.reduceEqDiff, reduceCtorEq, Nat.reduceAdd, Nat.reduceLT, Nat.reduceLeDiff, Nat.reduceBNe, Nat.reduceBEq, Int.reduceToNat, inI, EFl, tSu, fSum_eq']
        (repeat' apply And.intro) <;> (try first | omega | ((fail_if_success refine idW ?_); (fail_if_success refine idS ?_); intros; (repeat' apply And.intro) <;> first | assumption | omega | (simp_all; done)))
        refine hKL0 (i + 1, xs ++ [n]) _ ?_ ?_ ?_
        · (try dsimp only); exact ⟨hc4, by rw [hx, Option.map_map]; congr 1; funext z; simp, by simp [hl]⟩
        · (try dsimp only); omega
        · refine Le.mk _ _ ?_ ?_ rfl <;> simp only [go_sem, ↓reduceIte, Nat.reduceEqDiff, reduceCtorEq, Nat.reduceAdd, Nat.reduceLT, Nat.reduceLeDiff, Nat.reduceBNe, Nat.reduceBEq, Int.reduceToNat, ints_snoc, List.length_append, List.length_cons, List.length_nil] <;> (repeat' apply And.intro) <;> (try first | rfl | exact wk_frzb rfl rfl rfl | exact wk_fn rfl | exact .nilo _ _ _ rfl rfl | exact wk_frzm rfl rfl (fun kv hk => by obtain ⟨_, _, rfl⟩ := List.mem_map.1 hk; rfl))
    · simp only [decide_eq_true_eq, decide_eq_false_iff_not, Bool.and_eq_true, Bool.or_eq_true, Bool.not_eq_true', Bool.not_eq_false', Bool.and_eq_false_iff, Bool.or_eq_false_iff, Int.ofNat_lt, Int.ofNat_le, Nat.not_lt, Nat.not_le, Int.not_lt, Int.not_le] at hc4
      rw [List.drop_eq_nil_of_le hc4, upGo, Option.map_some, List.append_nil] at hx
      refine aw_exit ?_
      simp only [go_sem, ↓reduceIte, Nat.reduceEqDiff, reduceCtorEq, Nat.reduceAdd, Nat.reduceLT, Nat.reduceLeDiff, Nat.reduceBNe, Nat.reduceBEq, Int.reduceToNat]
      refine aw_seq (aw_region (EF := EFl) hG (by rw [hN]; exact tr13_11) ?_)
      simp only [a13_11, go_sem, ↓reduceIte, Nat.reduceEqDiff, reduceCtorEq, Nat.reduceAdd, Nat.reduceLT, Nat.reduceLeDiff, Nat.reduceBNe, Nat.reduceBEq, Int.reduceToNat, EFl, tSu, fSum_eq']
      refine AW.le (s' := ⟨mkE [(2, .list (strs ks) false), (3, .list (ints xs) false), (4, .int .i64 0)], mkH []⟩) (Le.mk _ _ ?_ ?_ rfl) (aw_ret (hQ _ _ (.inl rfl) ?_ ?_ ?_)) <;> simp only [outφ, outV, AR.res, go_sem, ↓reduceIte, Nat.reduceEqDiff, reduceCtorEq, Nat.reduceAdd, Nat.reduceLT, Nat.reduceLeDiff, Nat.reduceBNe, Nat.reduceBEq, Int.reduceToNat, fSu, uResV, hsm, hx, uRes]
      · exact wk_frz rfl (by rw [ints_len]) rfl (ints_pur _)
end Go.Proofs.YtkdkjbneohdofaaDoor
/- Shares and Taxes of the program. -/
namespace Go.Proofs.YtkdkjbneohdofaaDoor
open Go Go.RowKit
set_option linter.unusedSimpArgs false
set_option linter.unusedVariables false
set_option linter.deprecated false
/-- The flown coupons with their carriers. -/
def prS (cs : List Coupon) (o : List (List UInt8)) : Nat → NA
  | 0 => []
  | i + 1 => if (cs.getD i Coupon.zero).status = 5 then prS cs o i ++ [(o.getD i [], (cs.getD i Coupon.zero).value)] else prS cs o i
theorem prS_len (cs : List Coupon) (o : List (List UInt8)) : ∀ i, (prS cs o i).length ≤ i
  | 0 => Nat.le_refl _
  | i + 1 => by
    have := prS_len cs o i
    rw [prS]; split
    · rw [List.length_append]; simp; omega
    · omega
theorem prS_key {cs : List Coupon} {o : List (List UInt8)} (h : ∀ x ∈ o, x.length ≤ 140737488355328) : ∀ i, ∀ p ∈ prS cs o i, p.1.length ≤ 140737488355328
  | 0, p, hp => by cases hp
  | i + 1, p, hp => by
    rw [prS] at hp
    split at hp
    · rcases List.mem_append.1 hp with hp | hp
      · exact prS_key h i p hp
      · obtain rfl := List.mem_singleton.1 hp
        dsimp only
        rw [List.getD_eq_getElem?_getD]
        cases hx : o[i]? with
        | none => simp
        | some x => exact h x (List.mem_of_getElem? hx)
    · exact prS_key h i p hp
def uR (P : NA) : List (List UInt8) × List Int × Int := uRes (namesP P) (upP P)
theorem sums_uR (P : NA) : sumsM (gOfP P) = uR P := by
  unfold sumsM uR upP
  rw [names_sort, upGo_congr fun k _ => (gOfP_inv P).val k]
theorem uR_len (P : NA) : (uR P).2.1.length = (uR P).1.length ∧ (uR P).1.length ≤ P.length := by
  unfold uR
  cases h : upP P with
  | none => simp [uRes]
  | some a => exact ⟨upGo_len h, (namesP_inv P).2.2⟩
theorem su_ok {P : NA} (hl : P.length ≤ 1000) (hk : ∀ p ∈ P, p.1.length ≤ 140737488355328) : SuOk (gOfP P) := by
  have h := gOfP_inv P
  refine ⟨by have := h.len; omega, fun p hp => ?_, fun p hp => by have := h.row p hp; omega⟩
  obtain ⟨q, hq, e⟩ := List.mem_map.1 ((h.mem p.1).1 (List.mem_map.2 ⟨p, hp, rfl⟩))
  rw [← e]; exact hk q hq
def ShOk (t : Ticket) (o : List (List UInt8)) : Prop := t.coupons.length ≤ 400 ∧ o.length ≤ 140737488355328 ∧ ∀ x ∈ o, x.length ≤ 140737488355328
def postsZ (y : List (List UInt8) × List Int × Int) : List Post := List.zipWith Post.mk y.1 y.2.1
def chargesZ (y : List (List UInt8) × List Int × Int) : List Charge := List.zipWith Charge.mk y.1 y.2.1
def shrM (t : Ticket) (o : List (List UInt8)) : List Post × Int := if o.length ≠ t.coupons.length then ([], 2) else (postsZ (uR (prS t.coupons o t.coupons.length)), (uR (prS t.coupons o t.coupons.length)).2.2)
def shrV (y : List Post × Int) : V := .tup [.list (y.1.map Post.enc) false, .int .i64 y.2]
def txV (y : List Charge × Int) : V := .tup [.list (y.1.map Charge.enc) false, .int .i64 y.2]
def aShr (x : Ticket × List (List UInt8)) : List V := [.agg x.1.enc, .list (strs x.2) false]
theorem aShr_inj (a b : Ticket × List (List UInt8)) (h : aShr a = aShr b) : a = b := by
  obtain ⟨a_t, a_o⟩ := a
  obtain ⟨b_t, b_o⟩ := b
  simp only [aShr, List.cons.injEq, V.str.injEq, V.int.injEq, V.bool.injEq, V.agg.injEq, V.list.injEq, and_true, true_and] at h
  obtain ⟨h0, h1⟩ := h
  replace h0 := Ticket.inj _ _ h0
  subst h0
  replace h1 := strs_inj h1
  subst h1
  rfl
def fShr (x : Ticket × List (List UInt8)) : Prop × V := (ShOk x.1 x.2, shrV (shrM x.1 x.2))
theorem zip_take {α : Type} (f : List UInt8 → Int → α) {ns : List (List UInt8)} {av : List Int} {i : Nat} (h1 : i < ns.length) (h2 : i < av.length) : (List.zipWith f ns av).take (i + 1) = (List.zipWith f ns av).take i ++ [f ns[i] av[i]] := by
  rw [take_succ' (by rw [List.length_zipWith]; omega), List.getElem_zipWith]
theorem gFind_mem : ∀ {L : Assoc (List Int)} {k : List UInt8} {i : Nat} {l : List Int}, gFind L k = some (i, l) → (k, l) ∈ L
  | [], _, _, _, h => by cases h
  | (k', l') :: L, k, i, l, h => by
    rw [gFind] at h
    by_cases e : k' = k
    · rw [if_pos e] at h; injection h with h; injection h with h1 h2; subst e h2; exact List.mem_cons_self ..
    · rw [if_neg e] at h
      obtain ⟨⟨i', l2⟩, h1, h2⟩ := Option.map_eq_some_iff.1 h
      injection h2 with h2 h3; subst h3
      exact List.mem_cons_of_mem _ (gFind_mem h1)
theorem gl_ne {m : Nat} {L : Assoc (List Int)} {x n : Nat} {oo : Ob} (h0 : gH m L x = none) (hn : mkH (glO m L) n = some oo) : n ≠ x := fun e => by
  subst e
  change gH m L n = _ at hn
  rw [h0] at hn; cases hn
noncomputable def tShr : Tab
  | 13 => (gOf aSu fSu)
  | _ => gNo
theorem tShr_ok : ∀ f, PureC Tryd.prog UT f (tShr f) := fun f => by
  unfold tShr
  split
  · exact sums_p
  · exact PureC.no
set_option maxHeartbeats 8000000 in
theorem shares_p : PureC Tryd.prog UT 5 (gOf aShr fShr) := by
  have hG := tShr_ok
  refine PureC.ofArgs aShr_inj Tryd.func5 body5 nm5 res5 ?_
  rintro ⟨t, o⟩ hv
  refine ⟨by rw [nt5]; simp [aShr], fun C hN Q hQ => ?_⟩
  rw [nt5] at hN
  unfold c5
  obtain ⟨hl, hol, hos⟩ : ShOk t o := hv
  have hsM : shrM t o = if o.length ≠ t.coupons.length then ([], 2) else (postsZ (uR (prS t.coupons o t.coupons.length)), (uR (prS t.coupons o t.coupons.length)).2.2) := rfl
  refine aw_seq (aw_region (EF := EFl) hG (by rw [hN]; exact tr5_0) ?_)
  simp only [a5_0, go_sem, ↓reduceIte, Nat.reduceEqDiff, reduceCtorEq, Nat.reduceAdd, Nat.reduceLT, Nat.reduceLeDiff, Nat.reduceBNe, Nat.reduceBEq, Int.reduceToNat, aShr, Ticket.enc, tShr, fSu_eq]
  refine aw_seq ?_
  refine aw_seq (aw_region (EF := EFl) hG (by rw [hN]; exact tr5_1) ?_)
  simp only [a5_1, go_sem, ↓reduceIte, Nat.reduceEqDiff, reduceCtorEq, Nat.reduceAdd, Nat.reduceLT, Nat.reduceLeDiff, Nat.reduceBNe, Nat.reduceBEq, Int.reduceToNat, strs_len, List.length_map, tShr, fSu_eq]
  refine aw_cond (b := _) rfl (fun hb1 => ?_) (fun hb1 => ?_)
  · skip
    have hne : o.length ≠ t.coupons.length := fun e => by rw [e] at hb1; simp at hb1
    rw [if_pos hne] at hsM
    refine aw_seq (aw_region (EF := EFl) hG (by rw [hN]; exact tr5_2) ?_)
    simp only [a5_2, go_sem, ↓reduceIte, Nat.reduceEqDiff, reduceCtorEq, Nat.reduceAdd, Nat.reduceLT, Nat.reduceLeDiff, Nat.reduceBNe, Nat.reduceBEq, Int.reduceToNat, tShr, fSu_eq]
    refine AW.le (s' := ⟨mkE [(4, .list [] false), (5, .int .i64 2)], mkH []⟩) (Le.mk _ _ ?_ ?_ rfl) (aw_ret (hQ _ _ (.inl rfl) ?_ ?_ ?_)) <;> simp only [outφ, outV, AR.res, go_sem, ↓reduceIte, Nat.reduceEqDiff, reduceCtorEq, Nat.reduceAdd, Nat.reduceLT, Nat.reduceLeDiff, Nat.reduceBNe, Nat.reduceBEq, Int.reduceToNat, fShr, shrV, hsM, List.map_nil]
  · skip
    have hlen : o.length = t.coupons.length := by simp only [Bool.not_eq_false', decide_eq_true_eq] at hb1; omega
    rw [if_neg (by omega)] at hsM
    refine aw_skip ?_
    try simp only [go_sem, ↓reduceIte, Nat.reduceEqDiff, reduceCtorEq, Nat.reduceAdd, Nat.reduceLT, Nat.reduceLeDiff, Nat.reduceBNe, Nat.reduceBEq, Int.reduceToNat]
    refine aw_seq (aw_region (EF := EFl) hG (by rw [hN]; exact tr5_3) ?_)
    simp only [a5_3, go_sem, ↓reduceIte, Nat.reduceEqDiff, reduceCtorEq, Nat.reduceAdd, Nat.reduceLT, Nat.reduceLeDiff, Nat.reduceBNe, Nat.reduceBEq, Int.reduceToNat, tShr, fSu_eq]
    refine aw_seq ?_
    refine aw_seq (aw_region (EF := EFl) hG (by rw [hN]; exact tr5_4) ?_)
    simp only [a5_4, go_sem, ↓reduceIte, Nat.reduceEqDiff, reduceCtorEq, Nat.reduceAdd, Nat.reduceLT, Nat.reduceLeDiff, Nat.reduceBNe, Nat.reduceBEq, Int.reduceToNat, List.length_map, tShr, fSu_eq]
    refine aw_block ?_
    refine aw_loop (α := Nat × NA) (fun γ => (γ.1 ≤ t.coupons.length) ∧ (γ.2 = prS t.coupons o γ.1)) (fun γ => ⟨mkE [(1, V.list (strs o) false), (6, .map 21), (23, V.list (List.map Coupon.enc t.coupons) false), (24, V.int IntKind.i64 ↑t.coupons.length), (25, .int .i64 γ.1)], gH 21 (gOfP γ.2)⟩) (fun γ => t.coupons.length - γ.1) (0, []) ⟨Nat.zero_le _, rfl⟩ ?_ ?_
    · show Le _ ⟨mkE _, mkH [(21, Ob.mp [])]⟩
      refine Le.mk _ _ ?_ ?_ rfl <;> simp only [go_sem, ↓reduceIte, Nat.reduceEqDiff, reduceCtorEq, Nat.reduceAdd, Nat.reduceLT, Nat.reduceLeDiff, Nat.reduceBNe, Nat.reduceBEq, Int.reduceToNat] <;> (repeat' apply And.intro) <;> (try first | rfl | exact wk_frzb rfl rfl rfl | exact wk_fn rfl | exact .nilo _ _ _ rfl rfl | exact wk_frzm rfl rfl (fun kv hk => by obtain ⟨_, _, rfl⟩ := List.mem_map.1 hk; rfl))
    · rintro ⟨i, P⟩ ⟨hi, hP⟩ KL0 hKL0
      try dsimp only at *
      have hPl : P.length ≤ i := by rw [hP]; exact prS_len _ _ _
      have hgl := (gOfP_inv P).len
      have gl8 : gH 21 (gOfP P) 8 = none := gH_lo _ (by decide) (by decide)
      have gl47 : gH 21 (gOfP P) 47 = none := gH_lo _ (by decide) (by decide)
      refine aw_seq (aw_region (EF := EFl) hG (by rw [hN]; exact tr5_5) ?_)
      simp only [a5_5, go_sem, ↓reduceIte, Nat.reduceEqDiff, reduceCtorEq, Nat.reduceAdd, Nat.reduceLT, Nat.reduceLeDiff, Nat.reduceBNe, Nat.reduceBEq, Int.reduceToNat, tShr, fSu_eq]
      refine aw_seq ?_
      refine aw_cond (b := _) rfl (fun hc5 => ?_) (fun hc5 => ?_)
      · simp only [decide_eq_true_eq, decide_eq_false_iff_not, Bool.and_eq_true, Bool.or_eq_true, Bool.not_eq_true', Bool.not_eq_false', Bool.and_eq_false_iff, Bool.or_eq_false_iff, Int.ofNat_lt, Int.ofNat_le, Nat.not_lt, Nat.not_le, Int.not_lt, Int.not_le] at hc5
        refine aw_skip ?_
        try simp only [go_sem, ↓reduceIte, Nat.reduceEqDiff, reduceCtorEq, Nat.reduceAdd, Nat.reduceLT, Nat.reduceLeDiff, Nat.reduceBNe, Nat.reduceBEq, Int.reduceToNat]
        refine aw_seq ?_
        refine aw_block ?_
        refine aw_seq (aw_region (EF := EFl) hG (by rw [hN]; exact tr5_6) ?_)
        simp only [a5_6, go_sem, ↓reduceIte, Nat.reduceEqDiff, reduceCtorEq, Nat.reduceAdd, Nat.reduceLT, Nat.reduceLeDiff, Nat.reduceBNe, Nat.reduceBEq, Int.reduceToNat, getD_mapd _ _ _ _ hc5, hc5, Coupon.enc, gl8, tShr, fSu_eq]
        (repeat' apply And.intro) <;> (try first | omega | ((fail_if_success refine idW ?_); (fail_if_success refine idS ?_); intros; (repeat' apply And.intro) <;> first | assumption | omega | (simp_all; done)))
        have hio : i < o.length := by omega
        have hst : prS t.coupons o (i + 1) = if t.coupons[i].status = 5 then P ++ [(o[i], t.coupons[i].value)] else P := by rw [prS, hP, List.getD_eq_getElem?_getD, List.getElem?_eq_getElem hc5, List.getD_eq_getElem?_getD, List.getElem?_eq_getElem hio]; rfl
        refine aw_seq (aw_region (EF := EFl) hG (by rw [hN]; exact tr5_7) ?_)
        simp only [a5_7, go_sem, ↓reduceIte, Nat.reduceEqDiff, reduceCtorEq, Nat.reduceAdd, Nat.reduceLT, Nat.reduceLeDiff, Nat.reduceBNe, Nat.reduceBEq, Int.reduceToNat, gl8, tShr, fSu_eq]
        refine aw_cond (b := _) rfl (fun hc7 => ?_) (fun hc7 => ?_)
        · simp only [decide_eq_true_eq, decide_eq_false_iff_not, Bool.and_eq_true, Bool.or_eq_true, Bool.not_eq_true', Bool.not_eq_false', Bool.and_eq_false_iff, Bool.or_eq_false_iff, Int.ofNat_lt, Int.ofNat_le, Nat.not_lt, Nat.not_le, Int.not_lt, Int.not_le] at hc7
          by_cases hk : (gFind (gOfP P) o[i]).isSome = true
          · skip
            obtain ⟨⟨gi, ls⟩, hg⟩ := Option.isSome_iff_exists.1 hk
            obtain ⟨a1, a2, a3, _⟩ := gH_old (m := 21) t.coupons[i].value hg (by decide)
            have hlr := (gOfP_inv P).row _ (gFind_mem hg)
            dsimp only at hlr
            refine aw_regionD (EF := EFl) hG mixed (by rw [hN]; exact tr5_8) ok5_8 ?_
            simp only [a5_8, d5_8, go_sem, ↓reduceIte, Nat.reduceEqDiff, reduceCtorEq, Nat.reduceAdd, Nat.reduceLT, Nat.reduceLeDiff, Nat.reduceBNe, Nat.reduceBEq, Int.reduceToNat, tShr, fSu_eq, strs_getD _ _ _ hio, hio, gl8, gl47, gH_m, glE_kd, a1, a2, a3, ints_snoc, List.length_cons, List.length_nil, Nat.zero_add]
            (repeat' apply And.intro) <;> (try first | omega | ((fail_if_success refine idW ?_); (fail_if_success refine idS ?_); intros; (repeat' apply And.intro) <;> first | assumption | omega | (simp_all; done)))
            refine aw_region (EF := EFl) hG (by rw [hN]; exact tr5_9) ?_
            simp only [a5_9, go_sem, ↓reduceIte, Nat.reduceEqDiff, reduceCtorEq, Nat.reduceAdd, Nat.reduceLT, Nat.reduceLeDiff, Nat.reduceBNe, Nat.reduceBEq, Int.reduceToNat, inI, tShr, fSu_eq]
            (repeat' apply And.intro) <;> (try first | omega | ((fail_if_success refine idW ?_); (fail_if_success refine idS ?_); intros; (repeat' apply And.intro) <;> first | assumption | omega | (simp_all; done)))
            refine hKL0 (i + 1, P ++ [(o[i], t.coupons[i].value)]) _ ?_ ?_ ?_
            · (try dsimp only); exact ⟨hc5, by rw [hst, if_pos hc7]⟩
            · (try dsimp only); omega
            · show Le _ ⟨mkE _, gH 21 (gOfP (P ++ [(o[i], t.coupons[i].value)]))⟩
              rw [gOfP_snoc]
              refine Le.glold 21 _ _ _ _ (by decide) hg ?_ ?_ ?_ ?_
              · simp only [List.forall_mem_cons, List.not_mem_nil, false_implies, implies_true, and_true, V.nin, or_true, true_or, go_sem, ↓reduceIte, Nat.reduceEqDiff, reduceCtorEq, Nat.reduceAdd, Nat.reduceLT, Nat.reduceLeDiff, Nat.reduceBNe, Nat.reduceBEq, Int.reduceToNat]
              · simp only [go_sem, ↓reduceIte, Nat.reduceEqDiff, reduceCtorEq, Nat.reduceAdd, Nat.reduceLT, Nat.reduceLeDiff, Nat.reduceBNe, Nat.reduceBEq, Int.reduceToNat]
              · simp only [go_sem, ↓reduceIte, Nat.reduceEqDiff, reduceCtorEq, Nat.reduceAdd, Nat.reduceLT, Nat.reduceLeDiff, Nat.reduceBNe, Nat.reduceBEq, Int.reduceToNat]
              · intro n h5 h6; simp only [go_sem, ↓reduceIte, Nat.reduceEqDiff, reduceCtorEq, Nat.reduceAdd, Nat.reduceLT, Nat.reduceLeDiff, Nat.reduceBNe, Nat.reduceBEq, Int.reduceToNat, h6, show n ≠ 21 by omega, show n ≠ 8 by omega, show n ≠ 47 by omega]
          · skip
            have hg : gFind (gOfP P) o[i] = none := by cases h : gFind (gOfP P) o[i] with | none => rfl | some z => rw [h] at hk; simp at hk
            obtain ⟨a1, a2, _⟩ := gl_none 0 t.coupons[i].value (.own 47 1) .nils hg
            refine aw_regionD (EF := EFl) hG mixed (by rw [hN]; exact tr5_8) ok5_8 ?_
            simp only [a5_8, d5_8, go_sem, ↓reduceIte, Nat.reduceEqDiff, reduceCtorEq, Nat.reduceAdd, Nat.reduceLT, Nat.reduceLeDiff, Nat.reduceBNe, Nat.reduceBEq, Int.reduceToNat, tShr, fSu_eq, strs_getD _ _ _ hio, hio, gl8, gl47, gH_m, glE_kd, a1, a2, List.length_cons, List.length_nil, Nat.zero_add]
            (repeat' apply And.intro) <;> (try first | omega | ((fail_if_success refine idW ?_); (fail_if_success refine idS ?_); intros; (repeat' apply And.intro) <;> first | assumption | omega | (simp_all; done)))
            refine aw_region (EF := EFl) hG (by rw [hN]; exact tr5_9) ?_
            simp only [a5_9, go_sem, ↓reduceIte, Nat.reduceEqDiff, reduceCtorEq, Nat.reduceAdd, Nat.reduceLT, Nat.reduceLeDiff, Nat.reduceBNe, Nat.reduceBEq, Int.reduceToNat, inI, tShr, fSu_eq]
            (repeat' apply And.intro) <;> (try first | omega | ((fail_if_success refine idW ?_); (fail_if_success refine idS ?_); intros; (repeat' apply And.intro) <;> first | assumption | omega | (simp_all; done)))
            refine hKL0 (i + 1, P ++ [(o[i], t.coupons[i].value)]) _ ?_ ?_ ?_
            · (try dsimp only); exact ⟨hc5, by rw [hst, if_pos hc7]⟩
            · (try dsimp only); omega
            · show Le _ ⟨mkE _, gH 21 (gOfP (P ++ [(o[i], t.coupons[i].value)]))⟩
              rw [gOfP_snoc]
              refine Le.glnew 21 47 _ _ _ _ (by decide) (by decide) (by decide) (by omega) hg ?_ ?_ ?_ ?_
              · simp only [List.forall_mem_cons, List.not_mem_nil, false_implies, implies_true, and_true, V.nin, V.ren, or_true, true_or, and_self, go_sem, ↓reduceIte, Nat.reduceEqDiff, reduceCtorEq, Nat.reduceAdd, Nat.reduceLT, Nat.reduceLeDiff, Nat.reduceBNe, Nat.reduceBEq, Int.reduceToNat]
              · simp only [go_sem, ↓reduceIte, Nat.reduceEqDiff, reduceCtorEq, Nat.reduceAdd, Nat.reduceLT, Nat.reduceLeDiff, Nat.reduceBNe, Nat.reduceBEq, Int.reduceToNat]
              · simp only [go_sem, ↓reduceIte, Nat.reduceEqDiff, reduceCtorEq, Nat.reduceAdd, Nat.reduceLT, Nat.reduceLeDiff, Nat.reduceBNe, Nat.reduceBEq, Int.reduceToNat, ints, List.map_cons, List.map_nil]
              · intro n h5; simp only [go_sem, ↓reduceIte, Nat.reduceEqDiff, reduceCtorEq, Nat.reduceAdd, Nat.reduceLT, Nat.reduceLeDiff, Nat.reduceBNe, Nat.reduceBEq, Int.reduceToNat, show n ≠ 21 by omega, show n ≠ 8 by omega, show n ≠ 47 by omega]
        · simp only [decide_eq_true_eq, decide_eq_false_iff_not, Bool.and_eq_true, Bool.or_eq_true, Bool.not_eq_true', Bool.not_eq_false', Bool.and_eq_false_iff, Bool.or_eq_false_iff, Int.ofNat_lt, Int.ofNat_le, Nat.not_lt, Nat.not_le, Int.not_lt, Int.not_le] at hc7
          refine aw_skip ?_
          try simp only [go_sem, ↓reduceIte, Nat.reduceEqDiff, reduceCtorEq, Nat.reduceAdd, Nat.reduceLT, Nat.reduceLeDiff, Nat.reduceBNe, Nat.reduceBEq, Int.reduceToNat]
          refine aw_region (EF := EFl) hG (by rw [hN]; exact tr5_9) ?_
          simp only [a5_9, go_sem, ↓reduceIte, Nat.reduceEqDiff, reduceCtorEq, Nat.reduceAdd, Nat.reduceLT, Nat.reduceLeDiff, Nat.reduceBNe, Nat.reduceBEq, Int.reduceToNat, inI, tShr, fSu_eq]
          (repeat' apply And.intro) <;> (try first | omega | ((fail_if_success refine idW ?_); (fail_if_success refine idS ?_); intros; (repeat' apply And.intro) <;> first | assumption | omega | (simp_all; done)))
          refine hKL0 (i + 1, P) _ ?_ ?_ ?_
          · (try dsimp only); exact ⟨hc5, by rw [hst, if_neg hc7]⟩
          · (try dsimp only); omega
          · refine Le.dropH _ (glO 21 (gOfP P)) ?_ ?_ gl_nin
            · simp only [List.forall_mem_cons, List.not_mem_nil, false_implies, implies_true, and_true, V.nin, true_and, glO, List.map_cons, List.contains_cons, BEq.rfl, Bool.true_or, go_sem, ↓reduceIte, Nat.reduceEqDiff, reduceCtorEq, Nat.reduceAdd, Nat.reduceLT, Nat.reduceLeDiff, Nat.reduceBNe, Nat.reduceBEq, Int.reduceToNat]
            · intro n oo hn; simp only [go_sem, ↓reduceIte, Nat.reduceEqDiff, reduceCtorEq, Nat.reduceAdd, Nat.reduceLT, Nat.reduceLeDiff, Nat.reduceBNe, Nat.reduceBEq, Int.reduceToNat, gl_ne gl8 hn]; exact hn
      · simp only [decide_eq_true_eq, decide_eq_false_iff_not, Bool.and_eq_true, Bool.or_eq_true, Bool.not_eq_true', Bool.not_eq_false', Bool.and_eq_false_iff, Bool.or_eq_false_iff, Int.ofNat_lt, Int.ofNat_le, Nat.not_lt, Nat.not_le, Int.not_lt, Int.not_le] at hc5
        obtain rfl : i = t.coupons.length := by omega
        rw [← hP] at hsM
        refine aw_exit ?_
        simp only [go_sem, ↓reduceIte, Nat.reduceEqDiff, reduceCtorEq, Nat.reduceAdd, Nat.reduceLT, Nat.reduceLeDiff, Nat.reduceBNe, Nat.reduceBEq, Int.reduceToNat]
        have hPl : P.length ≤ t.coupons.length := by rw [hP]; exact prS_len _ _ _
        have hPk : ∀ p ∈ P, p.1.length ≤ 140737488355328 := by rw [hP]; exact prS_key hos _
        have hso := su_ok (P := P) (by omega) hPk
        refine AW.le (Le.glfrz 21 (gOfP P) [(6, .fmap (glF (gOfP P)))] (by decide) ?_) ?_
        · intro p hp; obtain rfl := List.mem_singleton.1 hp; exact .inr ⟨by simp only [go_sem, ↓reduceIte, Nat.reduceEqDiff, reduceCtorEq, Nat.reduceAdd, Nat.reduceLT, Nat.reduceLeDiff, Nat.reduceBNe, Nat.reduceBEq, Int.reduceToNat], rfl⟩
        obtain ⟨hu1, hu2⟩ := uR_len P
        have hsu := sums_uR P
        obtain ⟨⟨ns, av, e⟩, hu⟩ : ∃ y, uR P = y := ⟨_, rfl⟩
        rw [hu] at hu1 hu2 hsu hsM
        dsimp only at hu1 hu2
        have hzl : (List.zipWith Post.mk ns av).length = ns.length := by rw [List.length_zipWith]; omega
        refine aw_seq (aw_region (EF := EFl) hG (by rw [hN]; exact tr5_10) ?_)
        simp only [a5_10, go_sem, ↓reduceIte, Nat.reduceEqDiff, reduceCtorEq, Nat.reduceAdd, Nat.reduceLT, Nat.reduceLeDiff, Nat.reduceBNe, Nat.reduceBEq, Int.reduceToNat, hso, hsu, uResV, tShr, fSu_eq]
        (repeat' apply And.intro) <;> (try first | omega | ((fail_if_success refine idW ?_); (fail_if_success refine idS ?_); intros; (repeat' apply And.intro) <;> first | assumption | omega | (simp_all; done)))
        refine aw_seq (aw_region (EF := EFl) hG (by rw [hN]; exact tr5_11) ?_)
        simp only [a5_11, go_sem, ↓reduceIte, Nat.reduceEqDiff, reduceCtorEq, Nat.reduceAdd, Nat.reduceLT, Nat.reduceLeDiff, Nat.reduceBNe, Nat.reduceBEq, Int.reduceToNat, tShr, fSu_eq]
        refine aw_seq ?_
        refine aw_seq (aw_region (EF := EFl) hG (by rw [hN]; exact tr5_12) ?_)
        simp only [a5_12, go_sem, ↓reduceIte, Nat.reduceEqDiff, reduceCtorEq, Nat.reduceAdd, Nat.reduceLT, Nat.reduceLeDiff, Nat.reduceBNe, Nat.reduceBEq, Int.reduceToNat, strs_len, tShr, fSu_eq]
        refine aw_block ?_
        refine aw_loop (α := Nat) (fun j => (j ≤ ns.length)) (fun j => ⟨mkE [(10, V.list (ints av) false), (11, V.int IntKind.i64 e), (12, .own 70 j), (55, V.list (strs ns) false), (56, V.int IntKind.i64 ↑ns.length), (57, .int .i64 j)], mkH [(70, .arr 64 2 (((List.zipWith Post.mk ns av).take j).map Post.enc))]⟩) (fun j => ns.length - j) 0 (by simp) ?_ ?_
        · refine Le.mk _ _ ?_ ?_ rfl <;> simp only [go_sem, ↓reduceIte, Nat.reduceEqDiff, reduceCtorEq, Nat.reduceAdd, Nat.reduceLT, Nat.reduceLeDiff, Nat.reduceBNe, Nat.reduceBEq, Int.reduceToNat] <;> (repeat' apply And.intro) <;> (try first | rfl | exact wk_frzb rfl rfl rfl | exact wk_fn rfl | exact .nilo _ _ _ rfl rfl | exact wk_frzm rfl rfl (fun kv hk => by obtain ⟨_, _, rfl⟩ := List.mem_map.1 hk; rfl))
        · rintro j hj KL2 hKL2
          try dsimp only at *
          refine aw_seq (aw_region (EF := EFl) hG (by rw [hN]; exact tr5_13) ?_)
          simp only [a5_13, go_sem, ↓reduceIte, Nat.reduceEqDiff, reduceCtorEq, Nat.reduceAdd, Nat.reduceLT, Nat.reduceLeDiff, Nat.reduceBNe, Nat.reduceBEq, Int.reduceToNat, tShr, fSu_eq]
          refine aw_seq ?_
          refine aw_cond (b := _) rfl (fun hc13 => ?_) (fun hc13 => ?_)
          · simp only [decide_eq_true_eq, decide_eq_false_iff_not, Bool.and_eq_true, Bool.or_eq_true, Bool.not_eq_true', Bool.not_eq_false', Bool.and_eq_false_iff, Bool.or_eq_false_iff, Int.ofNat_lt, Int.ofNat_le, Nat.not_lt, Nat.not_le, Int.not_lt, Int.not_le] at hc13
            refine aw_skip ?_
            try simp only [go_sem, ↓reduceIte, Nat.reduceEqDiff, reduceCtorEq, Nat.reduceAdd, Nat.reduceLT, Nat.reduceLeDiff, Nat.reduceBNe, Nat.reduceBEq, Int.reduceToNat]
            refine aw_seq ?_
            refine aw_block ?_
            have hja : j < av.length := by omega
            have hzt := zip_take Post.mk hc13 hja
            have hzj : ((List.zipWith Post.mk ns av).take j).length = j := by rw [List.length_take]; omega
            refine aw_seq (aw_region (EF := EFl) hG (by rw [hN]; exact tr5_14) ?_)
            simp only [a5_14, go_sem, ↓reduceIte, Nat.reduceEqDiff, reduceCtorEq, Nat.reduceAdd, Nat.reduceLT, Nat.reduceLeDiff, Nat.reduceBNe, Nat.reduceBEq, Int.reduceToNat, strs_getD _ _ _ hc13, hc13, tShr, fSu_eq]
            (repeat' apply And.intro) <;> (try first | omega | ((fail_if_success refine idW ?_); (fail_if_success refine idS ?_); intros; (repeat' apply And.intro) <;> first | assumption | omega | (simp_all; done)))
            refine aw_region (EF := EFl) hG (by rw [hN]; exact tr5_15) ?_
            simp only [a5_15, go_sem, ↓reduceIte, Nat.reduceEqDiff, reduceCtorEq, Nat.reduceAdd, Nat.reduceLT, Nat.reduceLeDiff, Nat.reduceBNe, Nat.reduceBEq, Int.reduceToNat, ints_getD _ _ _ hja, hja, List.length_map, hzj, tShr, fSu_eq]
            (repeat' apply And.intro) <;> (try first | omega | ((fail_if_success refine idW ?_); (fail_if_success refine idS ?_); intros; (repeat' apply And.intro) <;> first | assumption | omega | (simp_all; done)))
            refine aw_region (EF := EFl) hG (by rw [hN]; exact tr5_16) ?_
            simp only [a5_16, go_sem, ↓reduceIte, Nat.reduceEqDiff, reduceCtorEq, Nat.reduceAdd, Nat.reduceLT, Nat.reduceLeDiff, Nat.reduceBNe, Nat.reduceBEq, Int.reduceToNat, inI, tShr, fSu_eq]
            (repeat' apply And.intro) <;> (try first | omega | ((fail_if_success refine idW ?_); (fail_if_success refine idS ?_); intros; (repeat' apply And.intro) <;> first | assumption | omega | (simp_all; done)))
            refine hKL2 (j + 1) _ ?_ ?_ ?_
            · (try dsimp only); exact hc13
            · (try dsimp only); omega
            · refine Le.mk _ _ ?_ ?_ rfl <;> simp only [go_sem, ↓reduceIte, Nat.reduceEqDiff, reduceCtorEq, Nat.reduceAdd, Nat.reduceLT, Nat.reduceLeDiff, Nat.reduceBNe, Nat.reduceBEq, Int.reduceToNat, hzt, List.map_append, List.map_cons, List.map_nil, Post.enc] <;> (repeat' apply And.intro) <;> (try first | rfl | exact wk_frzb rfl rfl rfl | exact wk_fn rfl | exact .nilo _ _ _ rfl rfl | exact wk_frzm rfl rfl (fun kv hk => by obtain ⟨_, _, rfl⟩ := List.mem_map.1 hk; rfl))
          · simp only [decide_eq_true_eq, decide_eq_false_iff_not, Bool.and_eq_true, Bool.or_eq_true, Bool.not_eq_true', Bool.not_eq_false', Bool.and_eq_false_iff, Bool.or_eq_false_iff, Int.ofNat_lt, Int.ofNat_le, Nat.not_lt, Nat.not_le, Int.not_lt, Int.not_le] at hc13
            obtain rfl : j = ns.length := by omega
            have hzf : (List.zipWith Post.mk ns av).take ns.length = List.zipWith Post.mk ns av := List.take_of_length_le (by omega)
            refine aw_exit ?_
            simp only [go_sem, ↓reduceIte, Nat.reduceEqDiff, reduceCtorEq, Nat.reduceAdd, Nat.reduceLT, Nat.reduceLeDiff, Nat.reduceBNe, Nat.reduceBEq, Int.reduceToNat]
            refine aw_seq (aw_region (EF := EFl) hG (by rw [hN]; exact tr5_17) ?_)
            simp only [a5_17, go_sem, ↓reduceIte, Nat.reduceEqDiff, reduceCtorEq, Nat.reduceAdd, Nat.reduceLT, Nat.reduceLeDiff, Nat.reduceBNe, Nat.reduceBEq, Int.reduceToNat, tShr, fSu_eq]
            refine AW.le (s' := ⟨mkE [(4, .list ((List.zipWith Post.mk ns av).map Post.enc) false), (5, .int .i64 e)], mkH []⟩) (Le.mk _ _ ?_ ?_ rfl) (aw_ret (hQ _ _ (.inl rfl) ?_ ?_ ?_)) <;> simp only [outφ, outV, AR.res, go_sem, ↓reduceIte, Nat.reduceEqDiff, reduceCtorEq, Nat.reduceAdd, Nat.reduceLT, Nat.reduceLeDiff, Nat.reduceBNe, Nat.reduceBEq, Int.reduceToNat, fShr, shrV, hsM, postsZ, hzf]
            · exact wk_frz rfl (by rw [List.length_map]; exact hzl) rfl ((Post.purs _).2 trivial)
def chP (c : Charge) : List UInt8 × Int := (c.code, c.amount)
/-- All taxes of tickets. -/
def txS (l : List Ticket) : NA := l.flatMap fun t => t.taxes.map chP
def TxOk (l : List Ticket) : Prop := l.length ≤ 30 ∧ ∀ t ∈ l, t.taxes.length ≤ 12 ∧ ∀ c ∈ t.taxes, c.code.length ≤ 140737488355328
theorem txS_step {l : List Ticket} {i : Nat} (h : i < l.length) : txS (l.take (i + 1)) = txS (l.take i) ++ l[i].taxes.map chP := by
  unfold txS
  rw [take_succ' h, List.flatMap_append]; simp
theorem txS_len {l : List Ticket} (h : ∀ t ∈ l, t.taxes.length ≤ 12) : (txS l).length ≤ 12 * l.length := by
  unfold txS
  induction l with
  | nil => simp
  | cons t l ih =>
    have := ih fun x hx => h x (List.mem_cons_of_mem _ hx)
    have := h t (List.mem_cons_self ..)
    rw [List.flatMap_cons, List.length_append, List.length_map, List.length_cons]; omega
theorem txS_key {l : List Ticket} (h : ∀ t ∈ l, t.taxes.length ≤ 12 ∧ ∀ c ∈ t.taxes, c.code.length ≤ 140737488355328) : ∀ p ∈ txS l, p.1.length ≤ 140737488355328 := by
  intro p hp
  unfold txS at hp
  obtain ⟨t, ht, hp⟩ := List.mem_flatMap.1 hp
  obtain ⟨c, hc, rfl⟩ := List.mem_map.1 hp
  exact (h t ht).2 c hc
def taxM (l : List Ticket) : List Charge × Int := (chargesZ (uR (txS l)), (uR (txS l)).2.2)
def aTax (x : List Ticket) : List V := [.list (x.map Ticket.enc) false]
theorem aTax_inj (a b : List Ticket) (h : aTax a = aTax b) : a = b := by
  simp only [aTax, List.cons.injEq, V.str.injEq, V.int.injEq, V.bool.injEq, V.agg.injEq, V.list.injEq, and_true, true_and] at h
  have h0 := h
  replace h0 := map_inj' Ticket.inj h0
  subst h0
  rfl
def fTax (l : List Ticket) : Prop × V := (TxOk l, txV (taxM l))
end Go.Proofs.YtkdkjbneohdofaaDoor
