/- Split of the program. -/
import Derived.Test.YtfjgnfgadkajnaaGreatMo5
namespace Go.Proofs.YtfjgnfgadkajnaaGreat
open Go Go.RowKit
set_option linter.unusedSimpArgs false
set_option linter.unusedVariables false
set_option linter.deprecated false
def aSp (x : Int × List Int) : List V := [.int .i64 x.1, .list (ints x.2) false]
theorem aSp_inj (a b : Int × List Int) (h : aSp a = aSp b) : a = b := by
  obtain ⟨a_a, a_l⟩ := a
  obtain ⟨b_a, b_l⟩ := b
  simp only [aSp, List.cons.injEq, V.str.injEq, V.int.injEq, V.bool.injEq, V.agg.injEq, V.list.injEq, and_true, true_and] at h
  obtain ⟨h0, h1⟩ := h
  subst h0
  replace h1 := ints_inj h1
  subst h1
  rfl
theorem sum_nn : ∀ {l : List Int}, (∀ w ∈ l, 0 ≤ w) → 0 ≤ l.sum
  | [], _ => by simp
  | x :: l, h => by rw [List.sum_cons]; have := h x (List.mem_cons_self ..); have := sum_nn (l := l) fun w hw => h w (List.mem_cons_of_mem _ hw); omega
theorem tot_ok : ∀ {l : List Int} {s S : Int}, totR s l = (S, 0) → S ≤ 1099511627776 → 0 ≤ s → (∀ w ∈ l, 0 ≤ w) ∧ s + l.sum = S ∧ 0 < S
  | [], s, S, h, hS, h0 => by
    rw [totR] at h
    split at h
    · cases h
    · injection h with h; subst h; exact ⟨by simp, by simp, by omega⟩
  | w :: l, s, S, h, hS, h0 => by
    rw [totR] at h
    split at h
    · cases h
    · rename_i hw
      have h1 : 0 ≤ stepT s w := by unfold stepT; split <;> omega
      obtain ⟨a1, a2, a3⟩ := tot_ok h hS h1
      have h2 : 0 ≤ l.sum := sum_nn a1
      refine ⟨fun x hx => by rcases List.mem_cons.1 hx with rfl | hx; omega; exact a1 x hx, ?_, a3⟩
      rw [List.sum_cons]
      unfold stepT at a2
      split at a2 <;> omega
theorem mem_le_sum : ∀ {l : List Int}, (∀ w ∈ l, 0 ≤ w) → ∀ w ∈ l, w ≤ l.sum
  | x :: l, h, w, hw => by
    have h1 : 0 ≤ l.sum := sum_nn fun w hw => h w (List.mem_cons_of_mem _ hw)
    rw [List.sum_cons]
    rcases List.mem_cons.1 hw with rfl | hw
    · omega
    · have := mem_le_sum (fun w hw => h w (List.mem_cons_of_mem _ hw)) w hw
      have := h x (List.mem_cons_self ..)
      omega
theorem tot_err : ∀ {l : List Int} {s : Int}, (totR s l).2 ≠ 0 → (totR s l).2 = 2
  | [], s, h => by rw [totR] at h ⊢; split at h <;> simp_all
  | w :: l, s, h => by
    rw [totR] at h ⊢
    split
    · rfl
    · rename_i hw; rw [if_neg hw] at h; exact tot_err h
def qsP (A S : Int) (l : List Int) : List Int := l.map fun w => A * w / S
def rsP (A S : Int) (l : List Int) : List Int := l.map fun w => A * w % S
def giveAll (sg : Int) : List Nat → Int → List Int → List Int
  | [], _, xs => xs
  | i :: os, left, xs => if 0 < left then giveAll sg os (left - 1) (xs.set i (xs.getD i 0 + sg * 1)) else giveAll sg os left xs
def sgn (a : Int) : Int := if a < 0 then -1 else 1
/-- The shares that Split makes. -/
def sharesM (a S : Int) (l : List Int) : List Int :=
  giveAll (sgn a) (msT (fr (rsP a.natAbs S l)) (List.range' 0 l.length)) (a.natAbs - (qsP a.natAbs S l).sum) ((qsP a.natAbs S l).map fun q => sgn a * q)
/-- What Split returns. -/
def splitM (a : Int) (l : List Int) : Int × List Int :=
  if (totR 0 l).2 ≠ 0 then (2, []) else if fitB a = false ∨ 1099511627776 < (totR 0 l).1 then (11, []) else (0, sharesM a (totR 0 l).1 l)
def shareV (y : Int × List Int) : V := .tup [.list (ints y.2) false, .int .i64 y.1]
def fSplit (x : Int × List Int) : Prop × V := (x.2.length ≤ 1000000 ∧ inI x.1 ∧ ∀ w ∈ x.2, inI w, shareV (splitM x.1 x.2))
theorem fill_step {α : Type} (L : List α) (z : α) {i n : Nat} (hn : L.length = n) (hi : i < n) : (L.take i ++ List.replicate (n - i) z).set i (L[i]'(by omega)) = L.take (i + 1) ++ List.replicate (n - (i + 1)) z := by
  have h1 : (L.take i).length = i := by rw [List.length_take]; omega
  rw [List.set_append_right _ _ (by omega), h1, Nat.sub_self, show n - i = n - (i + 1) + 1 by omega, List.replicate_succ, List.set_cons_zero, List.take_succ_eq_append_getElem (show i < L.length by omega), List.append_assoc]
  rfl
theorem fill_at {α : Type} (L : List α) (z : α) {i n : Nat} (hn : L.length = n) (hi : i < n) (h : i < (L.take i ++ List.replicate (n - i) z).length) : (L.take i ++ List.replicate (n - i) z)[i] = z := by
  have h1 : (L.take i).length = i := by rw [List.length_take]; omega
  rw [List.getElem_append_right (by omega)]
  simp
theorem fill_len {α : Type} (L : List α) (z : α) {i n : Nat} (hn : L.length = n) (hi : i ≤ n) : (L.take i ++ List.replicate (n - i) z).length = n := by
  rw [List.length_append, List.length_take, List.length_replicate]; omega
theorem sum_step' (L : List Int) {i : Nat} (hi : i < L.length) : (L.take (i + 1)).sum = (L.take i).sum + L[i] := by
  rw [List.take_succ_eq_append_getElem hi, List.sum_append]; simp
theorem q_bd {A S w : Int} (hA : 0 ≤ A) (h0 : 0 ≤ w) (h1 : w ≤ S) (hS : 0 < S) : 0 ≤ A * w / S ∧ A * w / S ≤ A :=
  ⟨Int.ediv_nonneg (Int.mul_nonneg hA h0) (by omega), Int.ediv_le_of_le_mul hS (Int.mul_le_mul_of_nonneg_left h1 hA)⟩
theorem sum_take_bd {L : List Int} {B : Int} (h : ∀ x ∈ L, 0 ≤ x ∧ x ≤ B) : ∀ i : Nat, i ≤ L.length → 0 ≤ (L.take i).sum ∧ (L.take i).sum ≤ B * i
  | 0, _ => by simp
  | i + 1, hi => by
    obtain ⟨h1, h2⟩ := sum_take_bd h i (by omega)
    obtain ⟨h3, h4⟩ := h L[i] (List.getElem_mem (by omega))
    rw [sum_step' L (by omega)]
    have : B * ((i + 1 : Nat) : Int) = B * i + B := by rw [Int.natCast_add, Int.mul_add]; simp
    omega
theorem urow_zero (n : Nat) : List.replicate n [V.int .u64 0] = urow (List.replicate n 0) := by unfold urow; rw [List.map_replicate]
theorem nrow_zero (n : Nat) : List.replicate n [V.int .i64 0] = nrow (List.replicate n 0) := by unfold nrow; rw [List.map_replicate]; rfl
theorem fill_end {α : Type} (L : List α) (z : α) {n : Nat} (hn : L.length = n) : L.take n ++ List.replicate (n - n) z = L := by subst hn; simp
theorem list_mem_getD {O : List Nat} {n i : Nat} (hO : O.Perm (List.range' 0 n)) (hi : i < O.length) : O.getD i 0 < n := by
  have := rng_mem (hO.mem_iff.1 (getD_memN hi)); omega
noncomputable def tSpl : Tab
  | 23 => (gOf aLi fTot)
  | 24 => (gOf aI fFit)
  | 25 => gSize
  | 27 => gScale
  | _ => gNo
theorem tSpl_ok : ∀ f, PureC Tryz.prog UT f (tSpl f) := fun f => by
  unfold tSpl
  split
  · exact total_p
  · exact fits_p
  · exact size_p
  · exact scale_p
  · exact PureC.no
def EFq : Nat → Bool := fun f => f == 26 || f == 28
set_option maxHeartbeats 4000000 in
theorem split_p : PureC Tryz.prog UT 14 (gOf aSp fSplit) := by
  have hG := tSpl_ok
  refine PureC.ofArgs aSp_inj Tryz.func14 body14 nm14 res14 ?_
  rintro ⟨a, l⟩ hv
  refine ⟨by rw [nt14]; simp [aSp], fun C hN Q hQ => ?_⟩
  rw [nt14] at hN
  unfold c14
  obtain ⟨hl, hia, hil⟩ : l.length ≤ 1000000 ∧ inI a ∧ ∀ w ∈ l, inI w := hv
  have hl2 : l.length ≤ 140737488355328 := by omega
  obtain ⟨⟨S, e⟩, htr⟩ : ∃ y, totR 0 l = y := ⟨_, rfl⟩
  refine aw_seq (aw_region (EF := EFq) hG (by rw [hN]; exact tr14_0) ?_)
  simp only [a14_0, go_sem, simprocAttr, aSp, tSpl, EFq, fTot_eq, fFit_eq]
  refine aw_seq (aw_region (EF := EFq) hG (by rw [hN]; exact tr14_1) ?_)
  simp only [a14_1, go_sem, simprocAttr, hl2, htr, pairV, tSpl, EFq, fTot_eq, fFit_eq]
  (repeat' apply And.intro) <;> (try first | omega | ((fail_if_success refine idW ?_); (fail_if_success refine idS ?_); intros; (repeat' apply And.intro) <;> first | assumption | omega | (simp_all; done)))
  refine aw_seq ?_
  refine aw_seq (aw_region (EF := EFq) hG (by rw [hN]; exact tr14_2) ?_)
  simp only [a14_2, go_sem, simprocAttr, tSpl, EFq, fTot_eq, fFit_eq]
  refine aw_cond (b := _) rfl (fun hb2 => ?_) (fun hb2 => ?_)
  · skip
    have he : e ≠ 0 := by simpa using hb2
    obtain rfl : e = 2 := by have := tot_err (l := l) (s := 0); rw [htr] at this; exact this he
    have hsp : splitM a l = (2, []) := by unfold splitM; rw [htr]; rfl
    refine aw_seq (aw_region (EF := EFq) hG (by rw [hN]; exact tr14_3) ?_)
    simp only [a14_3, go_sem, simprocAttr, tSpl, EFq, fTot_eq, fFit_eq]
    refine AW.le (s' := ⟨mkE [(4, .list [] false), (5, .int .i64 2)], mkH []⟩) (Le.mk _ _ ?_ ?_ rfl) (aw_ret (hQ _ _ (.inl rfl) ?_ ?_ ?_)) <;> simp only [outφ, outV, AR.res, go_sem, simprocAttr, fSplit, shareV, hsp, ints_nil]
  · skip
    have he : e = 0 := by simpa using hb2
    subst he
    refine aw_skip ?_
    try simp only [go_sem, simprocAttr]
    refine aw_seq ?_
    refine aw_seq (aw_region (EF := EFq) hG (by rw [hN]; exact tr14_4) ?_)
    simp only [a14_4, go_sem, simprocAttr, tSpl, EFq, fTot_eq, fFit_eq]
    (repeat' apply And.intro) <;> (try first | omega | ((fail_if_success refine idW ?_); (fail_if_success refine idS ?_); intros; (repeat' apply And.intro) <;> first | assumption | omega | (simp_all; done)))
    refine aw_cond (b := _) rfl (fun hc4 => ?_) (fun hc4 => ?_)
    · simp only [hcL] at hc4
      have hsp : splitM a l = (11, []) := by unfold splitM; rw [htr, if_neg (by simp), if_pos hc4]
      refine aw_seq (aw_region (EF := EFq) hG (by rw [hN]; exact tr14_5) ?_)
      simp only [a14_5, go_sem, simprocAttr, tSpl, EFq, fTot_eq, fFit_eq]
      refine AW.le (s' := ⟨mkE [(4, .list [] false), (5, .int .i64 11)], mkH []⟩) (Le.mk _ _ ?_ ?_ rfl) (aw_ret (hQ _ _ (.inl rfl) ?_ ?_ ?_)) <;> simp only [outφ, outV, AR.res, go_sem, simprocAttr, fSplit, shareV, hsp, ints_nil]
    · simp only [hcL] at hc4
      obtain ⟨hnn, hsum, hS0⟩ := tot_ok htr hc4.2 (Int.le_refl 0)
      rw [Int.zero_add] at hsum
      have hle : ∀ w ∈ l, w ≤ S := fun w hw => hsum ▸ mem_le_sum hnn w hw
      have hsp : splitM a l = (0, sharesM a S l) := by unfold splitM; rw [htr, if_neg (by simp), if_neg (by rw [hc4.1]; simp; omega)]
      obtain ⟨A, hA⟩ : ∃ A, A = (a.natAbs : Int) := ⟨_, rfl⟩
      have hfb := fitB_bd hc4.1
      have hA0 : 0 ≤ A ∧ A ≤ 1099511627776 := by omega
      have hkA : inK .i64 A := inK_i64.2 (by unfold inI; omega)
      have hlen0 : 0 < l.length := by cases l with | nil => (simp at hsum; omega) | cons x l => simp
      refine aw_skip ?_
      try simp only [go_sem, simprocAttr]
      refine aw_seq (aw_region (EF := EFq) hG (by rw [hN]; exact tr14_6) ?_)
      simp only [a14_6, go_sem, simprocAttr, gSize, hia, ← hA, hkA, tSpl, EFq, fTot_eq, fFit_eq]
      (repeat' apply And.intro) <;> (try first | omega | ((fail_if_success refine idW ?_); (fail_if_success refine idS ?_); intros; (repeat' apply And.intro) <;> first | assumption | omega | (simp_all; done)))
      refine aw_cut (α := Unit) (fun u => (True)) (fun u => ⟨mkE [(0, V.int IntKind.i64 a), (1, V.list (ints l) false), (6, V.int IntKind.i64 S), (8, V.ptr 8 0), (9, V.ptr 9 0)], mkH [(8, Ob.box 3 [V.int IntKind.i64 A]), (9, .box 3 [.int .i64 (sgn a)])]⟩) ?_ ?_
      · intro KC7 hKC7
        refine aw_seq (aw_region (EF := EFq) hG (by rw [hN]; exact tr14_7) ?_)
        simp only [a14_7, go_sem, simprocAttr, tSpl, EFq, fTot_eq, fFit_eq]
        refine aw_cond (b := _) rfl (fun hc7 => ?_) (fun hc7 => ?_)
        · simp only [hcL] at hc7
          have hsg : sgn a = -1 := by unfold sgn; rw [if_pos (by omega)]
          refine aw_region (EF := EFq) hG (by rw [hN]; exact tr14_8) ?_
          simp only [a14_8, go_sem, simprocAttr, tSpl, EFq, fTot_eq, fFit_eq]
          refine hKC7 (()) _ ?_ ?_
          · (try dsimp only); try trivial
          · refine Le.mk _ _ ?_ ?_ rfl <;> simp only [go_sem, simprocAttr, hsg] <;> (repeat' apply And.intro) <;> (try first | rfl | exact wk_frzb rfl rfl rfl | exact wk_fn rfl | exact .nilo _ _ _ rfl rfl)
        · simp only [hcL] at hc7
          have hsg : sgn a = 1 := by unfold sgn; rw [if_neg (by omega)]
          refine aw_skip ?_
          try simp only [go_sem, simprocAttr]
          refine hKC7 (()) _ ?_ ?_
          · (try dsimp only); try trivial
          · refine Le.mk _ _ ?_ ?_ rfl <;> simp only [go_sem, simprocAttr, hsg] <;> (repeat' apply And.intro) <;> (try first | rfl | exact wk_frzb rfl rfl rfl | exact wk_fn rfl | exact .nilo _ _ _ rfl rfl)
      · rintro u k0
        have hsg2 : sgn a = 1 ∨ sgn a = -1 := by unfold sgn; split <;> simp
        obtain ⟨qs1, hqs1⟩ : ∃ qs1, qs1 = qsP A S l := ⟨_, rfl⟩
        obtain ⟨rs1, hrs1⟩ : ∃ rs1, rs1 = rsP A S l := ⟨_, rfl⟩
        obtain ⟨xs1, hxs1⟩ : ∃ xs1, xs1 = qs1.map fun q => sgn a * q := ⟨_, rfl⟩
        have lqs1 : qs1.length = l.length := by rw [hqs1]; exact List.length_map _
        have lrs1 : rs1.length = l.length := by rw [hrs1]; exact List.length_map _
        have lxs1 : xs1.length = l.length := by rw [hxs1, List.length_map, lqs1]
        have bqs1 : ∀ x ∈ qs1, 0 ≤ x ∧ x ≤ 1099511627776 := fun x hx => by rw [hqs1] at hx; obtain ⟨w, hw, rfl⟩ := List.mem_map.1 hx; have := q_bd hA0.1 (hnn w hw) (hle w hw) hS0; exact ⟨this.1, by omega⟩
        have hsm : sharesM a S l = giveAll (sgn a) (msT (fr rs1) (List.range' 0 l.length)) (A - qs1.sum) xs1 := by unfold sharesM; rw [← hA, ← hrs1, ← hqs1, ← hxs1]
        refine aw_seq (aw_regionD (EF := EFq) hG mixed (by rw [hN]; exact tr14_9) ok14_9 ?_)
        simp only [a14_9, d14_9, go_sem, simprocAttr, ints_zero, urow_zero, tSpl, EFq, fTot_eq, fFit_eq]
        (repeat' apply And.intro) <;> (try first | omega | ((fail_if_success refine idW ?_); (fail_if_success refine idS ?_); intros; (repeat' apply And.intro) <;> first | assumption | omega | (simp_all; done)))
        refine aw_seq (aw_region (EF := EFq) hG (by rw [hN]; exact tr14_10) ?_)
        simp only [a14_10, go_sem, simprocAttr, tSpl, EFq, fTot_eq, fFit_eq]
        refine aw_seq ?_
        refine aw_seq (aw_region (EF := EFq) hG (by rw [hN]; exact tr14_11) ?_)
        simp only [a14_11, go_sem, simprocAttr, tSpl, EFq, fTot_eq, fFit_eq]
        refine aw_block ?_
        refine aw_loop (α := Nat) (fun i => (i ≤ l.length)) (fun i => ⟨mkE [(0, V.int IntKind.i64 a), (1, V.list (ints l) false), (6, V.int IntKind.i64 S), (8, V.ptr 8 0), (10, V.ptr 10 0), (11, V.ptr 11 0), (12, V.fn 26 [V.ptr 10 0, V.ptr 9 0, V.ptr 8 0]), (49, V.list (ints l) false), (50, V.int IntKind.i64 ↑l.length), (51, .int .i64 i)], mkH [(8, .box 3 [.int .i64 (A - (qs1.take i).sum)]), (9, Ob.box 3 [V.int IntKind.i64 (sgn a)]), (10, Ob.box 34 [V.own 44 l.length]), (11, Ob.box 84 [V.own 47 l.length]), (44, .arr 3 1 (ints (xs1.take i ++ List.replicate (l.length - i) 0))), (47, .arr 82 1 (urow (rs1.take i ++ List.replicate (l.length - i) 0)))]⟩) (fun i => l.length - i) 0 (Nat.zero_le _) ?_ ?_
        · refine Le.mk _ _ ?_ ?_ rfl <;> simp only [go_sem, simprocAttr, List.take_zero, List.nil_append, Nat.sub_zero, List.sum_nil, Int.sub_zero, ints_zero, urow_zero] <;> (repeat' apply And.intro) <;> (try first | rfl | exact wk_frzb rfl rfl rfl | exact wk_fn rfl | exact .nilo _ _ _ rfl rfl)
        · rintro i hi KL0 hKL0
          try dsimp only at *
          have hQs := sum_take_bd bqs1 i (by omega)
          refine aw_seq (aw_region (EF := EFq) hG (by rw [hN]; exact tr14_12) ?_)
          simp only [a14_12, go_sem, simprocAttr, tSpl, EFq, fTot_eq, fFit_eq]
          refine aw_seq ?_
          refine aw_cond (b := _) rfl (fun hc12 => ?_) (fun hc12 => ?_)
          · simp only [hcL] at hc12
            refine aw_skip ?_
            try simp only [go_sem, simprocAttr]
            refine aw_seq ?_
            refine aw_block ?_
            refine aw_seq (aw_region (EF := EFq) hG (by rw [hN]; exact tr14_13) ?_)
            simp only [a14_13, go_sem, simprocAttr, ints_getD _ _ _ hc12, hc12, tSpl, EFq, fTot_eq, fFit_eq]
            (repeat' apply And.intro) <;> (try first | omega | ((fail_if_success refine idW ?_); (fail_if_success refine idS ?_); intros; (repeat' apply And.intro) <;> first | assumption | omega | (simp_all; done)))
            obtain ⟨w, hw⟩ : ∃ w, w = l[i] := ⟨_, rfl⟩
            have hwm : w ∈ l := hw ▸ List.getElem_mem _
            have hw0 := hnn w hwm
            have hwS := hle w hwm
            have hku : inK .u64 w := inK_u64.2 (by omega)
            have hkS : inK .u64 S := inK_u64.2 (by omega)
            have qb := q_bd hA0.1 hw0 hwS hS0
            have hsc : A * w / u64m < S := (Int.ediv_lt_iff_lt_mul (by decide)).2 (by have h1 : A * w ≤ A * S := Int.mul_le_mul_of_nonneg_left hwS hA0.1; have h2 : A * S < u64m * S := Int.mul_lt_mul_of_pos_right (by unfold u64m; omega) hS0; rw [Int.mul_comm S]; omega)
            have hAu : A < u64m := by unfold u64m; omega
            have hwu : w < u64m := by unfold u64m; omega
            have hSu : S < u64m := by unfold u64m; omega
            have hkq : inK .i64 (A * w / S) := inK_i64.2 (by unfold inI; omega)
            refine aw_seq (aw_region (EF := EFq) hG (by rw [hN]; exact tr14_14) ?_)
            simp only [a14_14, go_sem, simprocAttr, ← hw, gSize, hia, ← hA, gScale, hA0.1, hAu, hw0, hwu, hS0, hSu, hsc, hku, hkS, tSpl, EFq, fTot_eq, fFit_eq]
            have hRi : rs1[i]'(by omega) = A * w % S := by simp only [hrs1, rsP, List.getElem_map, ← hw]
            have hQi : qs1[i]'(by omega) = A * w / S := by simp only [hqs1, qsP, List.getElem_map, ← hw]
            have hXi : xs1[i]'(by omega) = sgn a * (A * w / S) := by simp only [hxs1, List.getElem_map, hQi]
            have hfl := fill_len rs1 0 lrs1 hi
            have hfR := fill_step rs1 0 lrs1 hc12
            rw [hRi] at hfR
            have hil2 : i < (rs1.take i ++ List.replicate (l.length - i) 0).length := by rw [hfl]; exact hc12
            refine aw_seq (aw_region (EF := EFq) hG (by rw [hN]; exact tr14_15) ?_)
            simp only [a14_15, go_sem, simprocAttr, hfl, hc12, urow_set, hfR, urow_getD _ _ _ hil2, tSpl, EFq, fTot_eq, fFit_eq]
            (repeat' apply And.intro) <;> (try first | omega | ((fail_if_success refine idW ?_); (fail_if_success refine idS ?_); intros; (repeat' apply And.intro) <;> first | assumption | omega | (simp_all; done)))
            have hfx := fill_len xs1 0 lxs1 hi
            have hqs : sgn a * (A * w / S) ≤ 1099511627776 ∧ -1099511627776 ≤ sgn a * (A * w / S) := by rcases hsg2 with h | h <;> rw [h] <;> omega
            refine aw_region (EF := EFq) hG (by rw [hN]; exact tr14_16) ?_
            simp only [a14_16, go_sem, simprocAttr, hkq, tSpl, EFq, fTot_eq, fFit_eq]
            refine give_use (xs := xs1.take i ++ List.replicate (l.length - i) 0) (xs' := xs1.take (i + 1) ++ List.replicate (l.length - (i + 1)) 0) (left' := A - (qs1.take (i + 1)).sum) i rfl hfx (by omega) (by unfold inI; omega) (by rw [fill_at xs1 0 lxs1 hc12]; unfold inI; omega) (by unfold inI; omega) (by rw [fill_at xs1 0 lxs1 hc12, Int.zero_add, ← hXi]; exact fill_step xs1 0 lxs1 hc12) (by rw [sum_step' qs1 (by omega), hQi]; omega) rfl rfl rfl rfl ?_
            simp only [go_sem, simprocAttr, EFq, GO]
            refine aw_region (EF := EFq) hG (by rw [hN]; exact tr14_17) ?_
            simp only [a14_17, go_sem, simprocAttr, inI, tSpl, EFq, fTot_eq, fFit_eq]
            (repeat' apply And.intro) <;> (try first | omega | ((fail_if_success refine idW ?_); (fail_if_success refine idS ?_); intros; (repeat' apply And.intro) <;> first | assumption | omega | (simp_all; done)))
            refine hKL0 (i + 1) _ ?_ ?_ ?_
            · (try dsimp only); exact hc12
            · (try dsimp only); omega
            · refine Le.mk _ _ ?_ ?_ rfl <;> simp only [go_sem, simprocAttr] <;> (repeat' apply And.intro) <;> (try first | rfl | exact wk_frzb rfl rfl rfl | exact wk_fn rfl | exact .nilo _ _ _ rfl rfl)
          · simp only [hcL] at hc12
            obtain rfl : i = l.length := by omega
            have hXe := fill_end xs1 0 lxs1
            have hRe := fill_end rs1 0 lrs1
            have hQe : qs1.take l.length = qs1 := List.take_of_length_le (by omega)
            refine aw_exit ?_
            simp only [go_sem, simprocAttr]
            rw [hXe, hRe, hQe]
            refine aw_seq (aw_region (EF := EFq) hG (by rw [hN]; exact tr14_18) ?_)
            simp only [a14_18, go_sem, simprocAttr, nrow_zero, hXe, hRe, hQe, tSpl, EFq, fTot_eq, fFit_eq]
            (repeat' apply And.intro) <;> (try first | omega | ((fail_if_success refine idW ?_); (fail_if_success refine idS ?_); intros; (repeat' apply And.intro) <;> first | assumption | omega | (simp_all; done)))
            refine aw_seq ?_
            refine aw_seq (aw_region (EF := EFq) hG (by rw [hN]; exact tr14_19) ?_)
            simp only [a14_19, go_sem, simprocAttr, List.length_replicate, tSpl, EFq, fTot_eq, fFit_eq]
            refine aw_block ?_
            refine aw_loop (α := Nat) (fun i => (i ≤ l.length)) (fun i => ⟨mkE [(8, V.ptr 8 0), (10, V.ptr 10 0), (11, V.ptr 11 0), (12, V.fn 26 [V.ptr 10 0, V.ptr 9 0, V.ptr 8 0]), (18, V.ptr 18 0), (81, V.int IntKind.i64 ↑l.length), (82, .int .i64 i)], mkH [(8, Ob.box 3 [V.int IntKind.i64 (A - qs1.sum)]), (9, Ob.box 3 [V.int IntKind.i64 (sgn a)]), (10, Ob.box 34 [V.own 44 l.length]), (11, Ob.box 84 [V.own 47 l.length]), (18, Ob.box 34 [V.own 79 l.length]), (44, Ob.arr 3 1 (ints xs1)), (47, Ob.arr 82 1 (urow rs1)), (79, .arr 3 1 (nrow ((List.range' 0 l.length).take i ++ List.replicate (l.length - i) 0)))]⟩) (fun i => l.length - i) 0 (Nat.zero_le _) ?_ ?_
            · refine Le.mk _ _ ?_ ?_ rfl <;> simp only [go_sem, simprocAttr, List.take_zero, List.nil_append, Nat.sub_zero, nrow_zero] <;> (repeat' apply And.intro) <;> (try first | rfl | exact wk_frzb rfl rfl rfl | exact wk_fn rfl | exact .nilo _ _ _ rfl rfl)
            · rintro i hi KL2 hKL2
              try dsimp only at *
              refine aw_seq (aw_region (EF := EFq) hG (by rw [hN]; exact tr14_20) ?_)
              simp only [a14_20, go_sem, simprocAttr, tSpl, EFq, fTot_eq, fFit_eq]
              refine aw_seq ?_
              refine aw_cond (b := _) rfl (fun hc20 => ?_) (fun hc20 => ?_)
              · simp only [hcL] at hc20
                refine aw_skip ?_
                try simp only [go_sem, simprocAttr]
                refine aw_seq ?_
                refine aw_block ?_
                refine aw_seq (aw_region (EF := EFq) hG (by rw [hN]; exact tr14_21) ?_)
                simp only [a14_21, go_sem, simprocAttr, tSpl, EFq, fTot_eq, fFit_eq]
                have hfo := fill_len (List.range' 0 l.length) 0 List.length_range' hi
                have hfs := fill_step (List.range' 0 l.length) 0 List.length_range' hc20
                rw [show (List.range' 0 l.length)[i]'(by rw [List.length_range']; exact hc20) = i by simp] at hfs
                have hil2 : i < ((List.range' 0 l.length).take i ++ List.replicate (l.length - i) 0).length := by rw [hfo]; exact hc20
                refine aw_region (EF := EFq) hG (by rw [hN]; exact tr14_22) ?_
                simp only [a14_22, go_sem, simprocAttr, hfo, hc20, nrow_set, hfs, nrow_getD _ _ _ hil2, tSpl, EFq, fTot_eq, fFit_eq]
                (repeat' apply And.intro) <;> (try first | omega | ((fail_if_success refine idW ?_); (fail_if_success refine idS ?_); intros; (repeat' apply And.intro) <;> first | assumption | omega | (simp_all; done)))
                refine aw_region (EF := EFq) hG (by rw [hN]; exact tr14_23) ?_
                simp only [a14_23, go_sem, simprocAttr, inI, tSpl, EFq, fTot_eq, fFit_eq]
                (repeat' apply And.intro) <;> (try first | omega | ((fail_if_success refine idW ?_); (fail_if_success refine idS ?_); intros; (repeat' apply And.intro) <;> first | assumption | omega | (simp_all; done)))
                refine hKL2 (i + 1) _ ?_ ?_ ?_
                · (try dsimp only); exact hc20
                · (try dsimp only); omega
                · refine Le.mk _ _ ?_ ?_ rfl <;> simp only [go_sem, simprocAttr] <;> (repeat' apply And.intro) <;> (try first | rfl | exact wk_frzb rfl rfl rfl | exact wk_fn rfl | exact .nilo _ _ _ rfl rfl)
              · simp only [hcL] at hc20
                obtain rfl : i = l.length := by omega
                have hOe := fill_end (List.range' 0 l.length) 0 List.length_range'
                rw [hOe]
                refine aw_exit ?_
                simp only [go_sem, simprocAttr]
                refine aw_seq (aw_region (EF := EFq) hG (by rw [hN]; exact tr14_24) ?_)
                simp only [a14_24, go_sem, simprocAttr, tSpl, EFq, fTot_eq, fFit_eq]
                (repeat' apply And.intro) <;> (try first | omega | ((fail_if_success refine idW ?_); (fail_if_success refine idS ?_); intros; (repeat' apply And.intro) <;> first | assumption | omega | (simp_all; done)))
                refine sort_use (r := rs1) lrs1 (by omega) hl rfl rfl rfl rfl ?_
                simp only [go_sem, simprocAttr, EFq, SP, lrs1]
                refine aw_seq ?_
                obtain ⟨O, hO⟩ : ∃ O, O = msT (fr rs1) (List.range' 0 l.length) := ⟨_, rfl⟩
                have hOp : O.Perm (List.range' 0 l.length) := hO ▸ msT_perm _
                have hOl : O.length = l.length := by rw [hOp.length_eq, List.length_range']
                rw [← hO] at hsm ⊢
                have hs0 := sum_take_bd bqs1 l.length (by omega)
                rw [List.take_of_length_le (by omega)] at hs0
                replace hs0 : A - qs1.sum ≤ 2199023255552 ∧ -(4611686018427387904) ≤ A - qs1.sum := by omega
                have hx0 : ∀ x ∈ xs1, -(2199023255552 + ((0 : Nat) : Int)) ≤ x ∧ x ≤ 2199023255552 + ((0 : Nat) : Int) := fun x hx => by rw [hxs1] at hx; obtain ⟨q, hq, rfl⟩ := List.mem_map.1 hx; have := bqs1 q hq; rcases hsg2 with h | h <;> rw [h] <;> omega
                refine aw_seq (aw_region (EF := EFq) hG (by rw [hN]; exact tr14_25) ?_)
                simp only [a14_25, go_sem, simprocAttr, hOl, tSpl, EFq, fTot_eq, fFit_eq]
                refine aw_block ?_
                refine aw_loop (α := Nat × Int × (List Int)) (fun γ => (γ.1 ≤ l.length) ∧ (giveAll (sgn a) O (A - qs1.sum) xs1 = giveAll (sgn a) (O.drop γ.1) γ.2.1 γ.2.2) ∧ (γ.2.2.length = l.length) ∧ ((∀ x ∈ γ.2.2, -(2199023255552 + (γ.1 : Int)) ≤ x ∧ x ≤ 2199023255552 + (γ.1 : Int))) ∧ (γ.2.1 ≤ 2199023255552) ∧ (-(4611686018427387904) ≤ γ.2.1)) (fun γ => ⟨mkE [(8, V.ptr 8 0), (10, V.ptr 10 0), (12, V.fn 26 [V.ptr 10 0, V.ptr 9 0, V.ptr 8 0]), (94, V.own 79 l.length), (95, V.int IntKind.i64 ↑l.length), (96, .int .i64 γ.1)], mkH [(8, .box 3 [.int .i64 γ.2.1]), (9, Ob.box 3 [V.int IntKind.i64 (sgn a)]), (10, Ob.box 34 [V.own 44 l.length]), (44, .arr 3 1 (ints γ.2.2)), (79, Ob.arr 3 1 (nrow O))]⟩) (fun γ => l.length - γ.1) (0, A - qs1.sum, xs1) ⟨Nat.zero_le _, rfl, lxs1, hx0, hs0.1, hs0.2⟩ ?_ ?_
                · refine Le.mk _ _ ?_ ?_ rfl <;> simp only [go_sem, simprocAttr] <;> (repeat' apply And.intro) <;> (try first | rfl | exact wk_frzb rfl rfl rfl | exact wk_fn rfl | exact .nilo _ _ _ rfl rfl)
                · rintro ⟨i, lf, xs⟩ ⟨hi, g1, g2, g3, g4, g5⟩ KL4 hKL4
                  try dsimp only at *
                  refine aw_seq (aw_region (EF := EFq) hG (by rw [hN]; exact tr14_26) ?_)
                  simp only [a14_26, go_sem, simprocAttr, tSpl, EFq, fTot_eq, fFit_eq]
                  refine aw_seq ?_
                  refine aw_cond (b := _) rfl (fun hc26 => ?_) (fun hc26 => ?_)
                  · simp only [hcL] at hc26
                    refine aw_skip ?_
                    try simp only [go_sem, simprocAttr]
                    refine aw_seq ?_
                    refine aw_block ?_
                    have hOi : i < O.length := by omega
                    have hkn := list_mem_getD hOp hOi
                    have hdr : O.drop i = O.getD i 0 :: O.drop (i + 1) := by rw [List.drop_eq_getElem_cons hOi, List.getD_eq_getElem?_getD, List.getElem?_eq_getElem hOi]; rfl
                    obtain ⟨k, hk⟩ : ∃ k, k = O.getD i 0 := ⟨_, rfl⟩
                    rw [← hk] at hkn hdr
                    refine aw_seq (aw_region (EF := EFq) hG (by rw [hN]; exact tr14_27) ?_)
                    simp only [a14_27, go_sem, simprocAttr, hOl, hc26, nrow_getD _ _ _ hOi, ← hk, tSpl, EFq, fTot_eq, fFit_eq]
                    (repeat' apply And.intro) <;> (try first | omega | ((fail_if_success refine idW ?_); (fail_if_success refine idS ?_); intros; (repeat' apply And.intro) <;> first | assumption | omega | (simp_all; done)))
                    refine aw_seq (aw_region (EF := EFq) hG (by rw [hN]; exact tr14_28) ?_)
                    simp only [a14_28, go_sem, simprocAttr, tSpl, EFq, fTot_eq, fFit_eq]
                    refine aw_cond (b := _) rfl (fun hc28 => ?_) (fun hc28 => ?_)
                    · simp only [hcL] at hc28
                      have hxk : k < xs.length := by omega
                      have hb3 := g3 xs[k] (List.getElem_mem hxk)
                      have hs1 : sgn a * 1 = 1 ∨ sgn a * 1 = -1 := by rw [Int.mul_one]; exact hsg2
                      refine aw_region (EF := EFq) hG (by rw [hN]; exact tr14_29) ?_
                      simp only [a14_29, go_sem, simprocAttr, tSpl, EFq, fTot_eq, fFit_eq]
                      (repeat' apply And.intro) <;> (try first | omega | ((fail_if_success refine idW ?_); (fail_if_success refine idS ?_); intros; (repeat' apply And.intro) <;> first | assumption | omega | (simp_all; done)))
                      refine give_use (xs := xs) (xs' := xs.set k (xs[k] + sgn a * 1)) (left' := lf - 1) k rfl g2 hxk (by unfold inI; omega) (by unfold inI; omega) (by unfold inI; omega) rfl rfl rfl rfl rfl rfl ?_
                      simp only [go_sem, simprocAttr, EFq, GO]
                      refine aw_region (EF := EFq) hG (by rw [hN]; exact tr14_30) ?_
                      simp only [a14_30, go_sem, simprocAttr, inI, tSpl, EFq, fTot_eq, fFit_eq]
                      (repeat' apply And.intro) <;> (try first | omega | ((fail_if_success refine idW ?_); (fail_if_success refine idS ?_); intros; (repeat' apply And.intro) <;> first | assumption | omega | (simp_all; done)))
                      refine hKL4 (i + 1, lf - 1, xs.set k (xs[k] + sgn a * 1)) _ ?_ ?_ ?_
                      · (try dsimp only); exact ⟨hc26, by rw [g1, hdr, giveAll, if_pos (by omega), List.getD_eq_getElem?_getD, List.getElem?_eq_getElem hxk]; rfl, by rw [List.length_set]; exact g2, fun x hx => by rcases List.mem_or_eq_of_mem_set hx with hx | rfl; have := g3 x hx; omega; omega, by omega, by omega⟩
                      · (try dsimp only); omega
                      · refine Le.mk _ _ ?_ ?_ rfl <;> simp only [go_sem, simprocAttr] <;> (repeat' apply And.intro) <;> (try first | rfl | exact wk_frzb rfl rfl rfl | exact wk_fn rfl | exact .nilo _ _ _ rfl rfl)
                    · simp only [hcL] at hc28
                      refine aw_skip ?_
                      try simp only [go_sem, simprocAttr]
                      refine aw_region (EF := EFq) hG (by rw [hN]; exact tr14_30) ?_
                      simp only [a14_30, go_sem, simprocAttr, inI, tSpl, EFq, fTot_eq, fFit_eq]
                      (repeat' apply And.intro) <;> (try first | omega | ((fail_if_success refine idW ?_); (fail_if_success refine idS ?_); intros; (repeat' apply And.intro) <;> first | assumption | omega | (simp_all; done)))
                      refine hKL4 (i + 1, lf, xs) _ ?_ ?_ ?_
                      · (try dsimp only); exact ⟨hc26, by rw [g1, hdr, giveAll, if_neg (by omega)], g2, fun x hx => by have := g3 x hx; omega, g4, g5⟩
                      · (try dsimp only); omega
                      · refine Le.mk _ _ ?_ ?_ rfl <;> simp only [go_sem, simprocAttr] <;> (repeat' apply And.intro) <;> (try first | rfl | exact wk_frzb rfl rfl rfl | exact wk_fn rfl | exact .nilo _ _ _ rfl rfl)
                  · simp only [hcL] at hc26
                    obtain rfl : i = l.length := by omega
                    rw [← hOl, List.drop_length, giveAll] at g1
                    rw [g1] at hsm
                    refine aw_exit ?_
                    simp only [go_sem, simprocAttr]
                    refine aw_seq (aw_region (EF := EFq) hG (by rw [hN]; exact tr14_31) ?_)
                    simp only [a14_31, go_sem, simprocAttr, tSpl, EFq, fTot_eq, fFit_eq]
                    refine AW.le (s' := ⟨mkE [(4, .list (ints xs) false), (5, .int .i64 0)], mkH []⟩) (Le.mk _ _ ?_ ?_ rfl) (aw_ret (hQ _ _ (.inl rfl) ?_ ?_ ?_)) <;> simp only [outφ, outV, AR.res, go_sem, simprocAttr, fSplit, shareV, hsp, hsm]
                    · exact wk_frz rfl (by rw [ints_len, g2]) rfl (ints_pur _)
end Go.Proofs.YtfjgnfgadkajnaaGreat
