/- Names: words between blanks. -/
import Derived.Test.YtffapkiilkeadaaDoorT3
import Derived.Lib.Bytealg
namespace Go.Proofs.YtffapkiilkeadaaDoor
open Go Go.RowKit
set_option linter.unusedSimpArgs false
set_option linter.unusedVariables false
set_option linter.deprecated false
def aStr (x : List UInt8) : List V := [.str x]
theorem aStr_inj (a b : List UInt8) (h : aStr a = aStr b) : a = b := by
  simp only [aStr, List.cons.injEq, V.str.injEq, V.int.injEq, V.bool.injEq, V.agg.injEq, V.list.injEq, and_true, true_and] at h
  have h0 := h
  subst h0
  rfl
def aInt (x : Int) : List V := [.int .i64 x]
theorem aInt_inj (a b : Int) (h : aInt a = aInt b) : a = b := by
  simp only [aInt, List.cons.injEq, V.str.injEq, V.int.injEq, V.bool.injEq, V.agg.injEq, V.list.injEq, and_true, true_and] at h
  have h0 := h
  subst h0
  rfl
theorem fCode_eq (s : List UInt8) (a b : Int) : gCode [.str s, .int .i64 a, .int .i64 b] = (s.length ≤ 140737488355328, .bool (codeB s a b)) := rfl
theorem wk_frzvE {h : Nat → Option Ob} {hl : List (Nat × Ob)} {n off len m : Nat} {fit : Bool} {rows R : List (List V)} {t : TypeId} {sz : Nat} (hn : h n = some (.arr t sz rows)) (hm : rows.length = m) (h' : mkH hl n = none) (hp : ∀ r ∈ rows, V.purs r = true) (hR : (rows.drop off).take len = R) : Wk h hl (.vw n off len m fit) (.list R fit) := by
  subst hm hR; exact .frzv n off len fit t sz rows hn h' hp
/-! What the library computes. -/
def gIdx1 : List V → Prop × V
  | [.str s, .str [c]] => (True, .int .i64 (Lib.indexByte s c))
  | _ => (False, .any)
theorem idx1_p : PureC Tryd.prog UT 68 gIdx1 := by
  refine PureC.leaf Tryd.func68 (by kernel_rfl : Tryd.f68.body = some ((Tryd.f68.body).getD .skip)) (by kernel_rfl) fun vs M w cargs hv hB hs ha => ?_
  match vs, hv, hs, ha with
  | [.str s, .str [c]], hv, hs, ha =>
  have h0 := (ha 0 _ rfl).str_inv
  have h2 := (ha 1 _ rfl).str_inv
  have h1 := args_two hs
  rw [h0, h2] at h1
  rw [h1]
  refine (Tryd.strings_Index_one _ c w).mono ?_
  rintro e w' ⟨he, rfl⟩
  exact ⟨_, he, fun M' => .int _ _, Below.refl _ _⟩
def gCnt1 : List V → Prop × V
  | [.str s, .str [c]] => (True, .int .i64 ((s.count c : Nat) : Int))
  | _ => (False, .any)
theorem cnt1_p : PureC Tryd.prog UT 67 gCnt1 := by
  refine PureC.leaf Tryd.func67 (by kernel_rfl : Tryd.f67.body = some ((Tryd.f67.body).getD .skip)) (by kernel_rfl) fun vs M w cargs hv hB hs ha => ?_
  match vs, hv, hs, ha with
  | [.str s, .str [c]], hv, hs, ha =>
  have h0 := (ha 0 _ rfl).str_inv
  have h2 := (ha 1 _ rfl).str_inv
  have h1 := args_two hs
  rw [h0, h2] at h1
  rw [h1]
  refine (Tryd.strings_Count_one _ c w).mono ?_
  rintro e w' ⟨he, rfl⟩
  exact ⟨_, he, fun M' => .int _ _, Below.refl _ _⟩
def gIxB : List V → Prop × V
  | [.str s, .int .u8 c] => (True, .int .i64 (Lib.indexByte s c.toNat.toUInt8))
  | _ => (False, .any)
theorem ixB_p : PureC Tryd.prog UT 56 gIxB := by
  refine PureC.leaf Tryd.func56 (by kernel_rfl : Tryd.f56.body = some ((Tryd.f56.body).getD .skip)) (by kernel_rfl) fun vs M w cargs hv hB hs ha => ?_
  match vs, hv, hs, ha with
  | [.str s, .int .u8 c], hv, hs, ha =>
  have h0 := (ha 0 _ rfl).str_inv
  have h2 := (ha 1 _ rfl).int_inv
  have h1 := args_two hs
  rw [h0, h2] at h1
  rw [h1]
  refine (Tryd.strings_IndexByte _ c w).mono ?_
  rintro e w' ⟨he, rfl⟩
  exact ⟨_, he, fun M' => .int _ _, Below.refl _ _⟩
/-! Words between blanks. -/
def splitW : List UInt8 → List (List UInt8)
  | [] => [[]]
  | c :: s => if c = 32 then [] :: splitW s else match splitW s with
    | w :: r => (c :: w) :: r
    | [] => [[c]]
theorem splitW_ne (s : List UInt8) : splitW s ≠ [] := by
  cases s with
  | nil => simp [splitW]
  | cons c s => unfold splitW; split; (· simp); (· split <;> simp)
theorem splitW_cnt : ∀ s : List UInt8, (splitW s).length = s.count 32 + 1
  | [] => rfl
  | c :: s => by
    have ih := splitW_cnt s
    unfold splitW
    by_cases h : c = 32
    · subst h; rw [if_pos rfl, List.length_cons, ih, List.count_cons_self]
    · rw [if_neg h, List.count_cons_of_ne (by simpa using h)]
      cases h2 : splitW s with
      | nil => exact absurd h2 (splitW_ne s)
      | cons w r => rw [h2] at ih; simpa using ih
theorem ix_ge (s : List UInt8) (c : UInt8) : -1 ≤ Lib.indexByte s c := Lib.indexByte_ge s c
theorem ix_lt (s : List UInt8) (c : UInt8) : Lib.indexByte s c < s.length ∨ Lib.indexByte s c = -1 := by
  induction s with
  | nil => exact .inr rfl
  | cons b l ih =>
    unfold Lib.indexByte
    split
    · left; simp
    · split
      · exact .inr rfl
      · rename_i h1 h2
        have := Lib.indexByte_ge l c
        left
        rw [List.length_cons]
        rcases ih with ih | ih
        · omega
        · rw [ih] at h2; simp at h2
theorem splitW_at {s : List UInt8} (h : 0 ≤ Lib.indexByte s 32) : splitW s = s.take (Lib.indexByte s 32).toNat :: splitW (s.drop ((Lib.indexByte s 32).toNat + 1)) := by
  induction s with
  | nil => exact absurd h (by decide)
  | cons b l ih =>
    have hg := Lib.indexByte_ge l 32
    unfold Lib.indexByte at h ⊢
    by_cases hb : b = 32
    · subst hb
      rw [splitW, if_pos rfl]
      simp
    · have hb2 : (b == 32) = false := by simpa using hb
      rw [hb2] at h ⊢
      simp only [Bool.false_eq_true, if_false] at h ⊢
      by_cases h1 : Lib.indexByte l 32 = -1
      · rw [h1] at h; exact absurd h (by decide)
      · have h2 : (Lib.indexByte l 32 == -1) = false := by simpa using h1
        rw [h2] at h ⊢
        simp only [Bool.false_eq_true, if_false] at h ⊢
        have e : (Lib.indexByte l 32 + 1).toNat = (Lib.indexByte l 32).toNat + 1 := by omega
        rw [e, List.take_succ_cons, List.drop_succ_cons, splitW, if_neg hb, ih (by omega)]
theorem splitW_no {s : List UInt8} (h : Lib.indexByte s 32 < 0) : splitW s = [s] := by
  induction s with
  | nil => rfl
  | cons b l ih =>
    have hg := Lib.indexByte_ge l 32
    unfold Lib.indexByte at h
    by_cases hb : b = 32
    · subst hb; simp at h
    · have hb2 : (b == 32) = false := by simpa using hb
      rw [hb2] at h
      simp only [Bool.false_eq_true, if_false] at h
      by_cases h1 : Lib.indexByte l 32 = -1
      · rw [splitW, if_neg hb, ih (by omega)]
      · have h2 : (Lib.indexByte l 32 == -1) = false := by simpa using h1
        rw [h2] at h
        simp only [Bool.false_eq_true, if_false] at h
        omega
theorem splitW_one {t : List UInt8} (h : (splitW t).length = 1) : splitW t = [t] := by
  rcases Int.lt_or_le (Lib.indexByte t 32) 0 with h0 | h0
  · exact splitW_no h0
  · rw [splitW_at h0, List.length_cons] at h
    have := List.length_pos_iff.2 (splitW_ne (t.drop ((Lib.indexByte t 32).toNat + 1)))
    omega
/-- What the loop has made: the words so far, then empty ones. -/
def sRows (d : List (List UInt8)) (k : Nat) : List (List V) := strs (d ++ List.replicate k [])
theorem sRows_len (d : List (List UInt8)) (k : Nat) : (sRows d k).length = d.length + k := by unfold sRows; rw [strs_len, List.length_append, List.length_replicate]
theorem sRows_set (d : List (List UInt8)) (k : Nat) (hk : 0 < k) (w : List UInt8) : (sRows d k).set d.length [.str w] = sRows (d ++ [w]) (k - 1) := by
  unfold sRows strs
  obtain ⟨k, rfl⟩ : ∃ m, k = m + 1 := ⟨k - 1, by omega⟩
  rw [show ([V.str w] : List V) = (fun s : List UInt8 => [V.str s]) w from rfl, ← List.map_set]
  congr 1
  rw [List.set_append_right _ _ (Nat.le_refl _), Nat.sub_self, List.replicate_succ, List.set_cons_zero, Nat.add_sub_cancel, List.append_assoc]
  rfl
theorem sRows_one (d : List (List UInt8)) (k : Nat) : ∀ r ∈ sRows d k, r.length = 1 := strs_one _
theorem sRows_oneT (d : List (List UInt8)) (k : Nat) : (∀ r ∈ sRows d k, r.length = 1) ↔ True := iff_true_intro (strs_one _)
theorem sRows_purT (d : List (List UInt8)) (k : Nat) : (∀ r ∈ sRows d k, V.purs r = true) ↔ True := iff_true_intro (strs_pur _)
attribute [go_sem] sRows_oneT sRows_purT
theorem sRows_get (d : List (List UInt8)) (k : Nat) (hk : 0 < k) (z : List V) : (sRows d k).getD d.length z = [.str []] := by
  unfold sRows
  rw [strs_getD _ _ _ (by rw [List.length_append, List.length_replicate]; omega)]
  simp
theorem sRows_start (k : Nat) : List.replicate k [V.str []] = sRows [] k := by unfold sRows strs; rw [List.nil_append, List.map_replicate]
theorem sRows_done (d : List (List UInt8)) : sRows d 0 = strs d := by unfold sRows; rw [List.replicate_zero, List.append_nil]
def aGen (s : List UInt8) : List V := [.str s, .str [32], .int .i64 0, .int .i64 (-1)]
theorem aGen_inj (a b : List UInt8) (h : aGen a = aGen b) : a = b := by simpa [aGen] using h
def fGen (s : List UInt8) : Prop × V := (s.length ≤ 1000, .list (strs (splitW s)) false)
theorem fGen_eq (s : List UInt8) : gOf aGen fGen [.str s, .str [32], .int .i64 0, .int .i64 (-1)] = (s.length ≤ 1000, .list (strs (splitW s)) false) := gOf_eq aGen_inj s
noncomputable def tGen : Tab
  | 68 => gIdx1
  | 67 => gCnt1
  | _ => gNo
theorem tGen_ok : ∀ f, PureC Tryd.prog UT f (tGen f) := fun f => by
  unfold tGen
  split
  · exact idx1_p
  · exact cnt1_p
  · exact PureC.no
set_option maxHeartbeats 4000000 in
theorem gen_p : PureC Tryd.prog UT 58 (gOf aGen fGen) := by
  have hG := tGen_ok
  refine PureC.ofArgs aGen_inj Tryd.func58 body58 nm58 res58 ?_
  rintro s hv
  refine ⟨by rw [nt58]; simp [aGen], fun C hN Q hQ => ?_⟩
  rw [nt58] at hN
  unfold c58
  replace hv : s.length ≤ 1000 := hv
  have hcn := splitW_cnt s
  have hcl : s.count 32 ≤ s.length := List.count_le_length
  generalize hNc : s.count 32 = N at hcn hcl
  have hmin : min ((N : Int) + 1) ((s.length : Int) + 1) = (N : Int) + 1 := by omega
  have hN1 : ((N : Int) + 1).toNat = N + 1 := by omega
  have hN2 : 0 ≤ (N : Int) + 1 := by omega
  have hnn : (N : Int) + 1 - 1 = (N : Int) := by omega
  refine aw_seq (aw_region (EF := EF0) hG (by rw [hN]; exact tr58_0) ?_)
  simp only [a58_0, go_sem, ↓reduceIte, Nat.reduceEqDiff, reduceCtorEq, Nat.reduceAdd, Nat.reduceLT, Nat.reduceLeDiff, Nat.reduceBNe, Nat.reduceBEq, Int.reduceToNat, aGen, tGen, gIdx1, gCnt1]
  refine aw_seq ?_
  refine aw_seq (aw_region (EF := EF0) hG (by rw [hN]; exact tr58_1) ?_)
  simp only [a58_1, go_sem, ↓reduceIte, Nat.reduceEqDiff, reduceCtorEq, Nat.reduceAdd, Nat.reduceLT, Nat.reduceLeDiff, Nat.reduceBNe, Nat.reduceBEq, Int.reduceToNat, tGen, gIdx1, gCnt1]
  refine aw_condF rfl ?_
  refine aw_skip ?_
  try simp only [go_sem, ↓reduceIte, Nat.reduceEqDiff, reduceCtorEq, Nat.reduceAdd, Nat.reduceLT, Nat.reduceLeDiff, Nat.reduceBNe, Nat.reduceBEq, Int.reduceToNat]
  refine aw_seq ?_
  refine aw_seq (aw_region (EF := EF0) hG (by rw [hN]; exact tr58_3) ?_)
  simp only [a58_3, go_sem, ↓reduceIte, Nat.reduceEqDiff, reduceCtorEq, Nat.reduceAdd, Nat.reduceLT, Nat.reduceLeDiff, Nat.reduceBNe, Nat.reduceBEq, Int.reduceToNat, tGen, gIdx1, gCnt1]
  refine aw_condF rfl ?_
  refine aw_skip ?_
  try simp only [go_sem, ↓reduceIte, Nat.reduceEqDiff, reduceCtorEq, Nat.reduceAdd, Nat.reduceLT, Nat.reduceLeDiff, Nat.reduceBNe, Nat.reduceBEq, Int.reduceToNat]
  refine aw_seq ?_
  refine aw_seq (aw_region (EF := EF0) hG (by rw [hN]; exact tr58_5) ?_)
  simp only [a58_5, go_sem, ↓reduceIte, Nat.reduceEqDiff, reduceCtorEq, Nat.reduceAdd, Nat.reduceLT, Nat.reduceLeDiff, Nat.reduceBNe, Nat.reduceBEq, Int.reduceToNat, tGen, gIdx1, gCnt1]
  refine aw_condT rfl ?_
  refine aw_region (EF := EF0) hG (by rw [hN]; exact tr58_6) ?_
  simp only [a58_6, go_sem, ↓reduceIte, Nat.reduceEqDiff, reduceCtorEq, Nat.reduceAdd, Nat.reduceLT, Nat.reduceLeDiff, Nat.reduceBNe, Nat.reduceBEq, Int.reduceToNat, inI, hNc, tGen, gIdx1, gCnt1]
  (repeat' apply And.intro) <;> (try first | omega | ((fail_if_success refine idW ?_); (fail_if_success refine idS ?_); intros; (repeat' apply And.intro) <;> first | assumption | omega | (simp_all; done)))
  refine aw_seq (aw_region (EF := EF0) hG (by rw [hN]; exact tr58_7) ?_)
  simp only [a58_7, go_sem, ↓reduceIte, Nat.reduceEqDiff, reduceCtorEq, Nat.reduceAdd, Nat.reduceLT, Nat.reduceLeDiff, Nat.reduceBNe, Nat.reduceBEq, Int.reduceToNat, inI, hmin, tGen, gIdx1, gCnt1]
  (repeat' apply And.intro) <;> (try first | omega | ((fail_if_success refine idW ?_); (fail_if_success refine idS ?_); intros; (repeat' apply And.intro) <;> first | assumption | omega | (simp_all; done)))
  refine aw_seq (aw_region (EF := EF0) hG (by rw [hN]; exact tr58_8) ?_)
  simp only [a58_8, go_sem, ↓reduceIte, Nat.reduceEqDiff, reduceCtorEq, Nat.reduceAdd, Nat.reduceLT, Nat.reduceLeDiff, Nat.reduceBNe, Nat.reduceBEq, Int.reduceToNat, sRows_start, hN1, sRows_len, hN2, tGen, gIdx1, gCnt1]
  (repeat' apply And.intro) <;> (try first | omega | ((fail_if_success refine idW ?_); (fail_if_success refine idS ?_); intros; (repeat' apply And.intro) <;> first | assumption | omega | (simp_all; done)))
  refine aw_seq (aw_region (EF := EF0) hG (by rw [hN]; exact tr58_9) ?_)
  simp only [a58_9, go_sem, ↓reduceIte, Nat.reduceEqDiff, reduceCtorEq, Nat.reduceAdd, Nat.reduceLT, Nat.reduceLeDiff, Nat.reduceBNe, Nat.reduceBEq, Int.reduceToNat, inI, hnn, tGen, gIdx1, gCnt1]
  (repeat' apply And.intro) <;> (try first | omega | ((fail_if_success refine idW ?_); (fail_if_success refine idS ?_); intros; (repeat' apply And.intro) <;> first | assumption | omega | (simp_all; done)))
  refine aw_seq (aw_region (EF := EF0) hG (by rw [hN]; exact tr58_10) ?_)
  simp only [a58_10, go_sem, ↓reduceIte, Nat.reduceEqDiff, reduceCtorEq, Nat.reduceAdd, Nat.reduceLT, Nat.reduceLeDiff, Nat.reduceBNe, Nat.reduceBEq, Int.reduceToNat, tGen, gIdx1, gCnt1]
  refine aw_seq ?_
  refine aw_block ?_
  refine aw_loop (α := (List UInt8) × (List (List UInt8))) (fun γ => (splitW s = γ.2 ++ splitW γ.1) ∧ (γ.2.length ≤ N) ∧ (γ.1.length ≤ s.length)) (fun γ => ⟨mkE [(0, .str γ.1), (1, V.str [32]), (2, V.int IntKind.i64 0), (3, V.int IntKind.i64 ↑N), (9, V.own 31 (N + 1)), (10, .int .i64 γ.2.length)], mkH [(31, .arr 9 1 (sRows γ.2 (N + 1 - γ.2.length)))]⟩) (fun γ => N - γ.2.length) (s, []) ⟨rfl, Nat.zero_le _, Nat.le_refl _⟩ ?_ ?_
  · refine Le.mk _ _ ?_ ?_ rfl <;> simp only [go_sem, ↓reduceIte, Nat.reduceEqDiff, reduceCtorEq, Nat.reduceAdd, Nat.reduceLT, Nat.reduceLeDiff, Nat.reduceBNe, Nat.reduceBEq, Int.reduceToNat] <;> (repeat' apply And.intro) <;> (try first | rfl | exact wk_frzb rfl rfl rfl | exact wk_fn rfl | exact .nilo _ _ _ rfl rfl | exact wk_frzm rfl rfl (fun kv hk => by obtain ⟨_, _, rfl⟩ := List.mem_map.1 hk; rfl))
  · rintro ⟨t, d⟩ ⟨hw, hd, ht⟩ KL0 hKL0
    try dsimp only at *
    refine aw_seq ?_
    refine aw_seq (aw_region (EF := EF0) hG (by rw [hN]; exact tr58_11) ?_)
    simp only [a58_11, go_sem, ↓reduceIte, Nat.reduceEqDiff, reduceCtorEq, Nat.reduceAdd, Nat.reduceLT, Nat.reduceLeDiff, Nat.reduceBNe, Nat.reduceBEq, Int.reduceToNat, tGen, gIdx1, gCnt1]
    refine aw_cond (b := _) rfl (fun hb11 => ?_) (fun hb11 => ?_)
    · skip
      have hdn : d.length < N := by have := of_decide_eq_true hb11; omega
      refine aw_skip ?_
      try simp only [go_sem, ↓reduceIte, Nat.reduceEqDiff, reduceCtorEq, Nat.reduceAdd, Nat.reduceLT, Nat.reduceLeDiff, Nat.reduceBNe, Nat.reduceBEq, Int.reduceToNat]
      refine aw_block ?_
      have hlw : 2 ≤ (splitW t).length := by have := congrArg List.length hw; rw [List.length_append] at this; omega
      have hge : 0 ≤ Lib.indexByte t 32 := by rcases Int.lt_or_le (Lib.indexByte t 32) 0 with h | h; (rw [splitW_no h] at hlw; simp at hlw); exact h
      have hlt : Lib.indexByte t 32 < t.length := by rcases ix_lt t 32 with h | h; exact h; omega
      have hst := splitW_at hge
      generalize hm : Lib.indexByte t 32 = m at hge hlt hst
      obtain ⟨m, rfl⟩ := Int.eq_ofNat_of_zero_le hge
      rw [Int.toNat_natCast] at hst
      refine aw_seq (aw_region (EF := EF0) hG (by rw [hN]; exact tr58_12) ?_)
      simp only [a58_12, go_sem, ↓reduceIte, Nat.reduceEqDiff, reduceCtorEq, Nat.reduceAdd, Nat.reduceLT, Nat.reduceLeDiff, Nat.reduceBNe, Nat.reduceBEq, Int.reduceToNat, hm, tGen, gIdx1, gCnt1]
      (repeat' apply And.intro) <;> (try first | omega | ((fail_if_success refine idW ?_); (fail_if_success refine idS ?_); intros; (repeat' apply And.intro) <;> first | assumption | omega | (simp_all; done)))
      refine aw_seq ?_
      have hb13 : decide ((m : Int) < 0) = false := decide_eq_false (by omega)
      refine aw_seq (aw_region (EF := EF0) hG (by rw [hN]; exact tr58_13) ?_)
      simp only [a58_13, go_sem, ↓reduceIte, Nat.reduceEqDiff, reduceCtorEq, Nat.reduceAdd, Nat.reduceLT, Nat.reduceLeDiff, Nat.reduceBNe, Nat.reduceBEq, Int.reduceToNat, hb13, tGen, gIdx1, gCnt1]
      refine aw_condF rfl ?_
      refine aw_skip ?_
      try simp only [go_sem, ↓reduceIte, Nat.reduceEqDiff, reduceCtorEq, Nat.reduceAdd, Nat.reduceLT, Nat.reduceLeDiff, Nat.reduceBNe, Nat.reduceBEq, Int.reduceToNat]
      have hk0 : 0 < N + 1 - d.length := by omega
      refine aw_seq (aw_region (EF := EF0) hG (by rw [hN]; exact tr58_14) ?_)
      simp only [a58_14, go_sem, ↓reduceIte, Nat.reduceEqDiff, reduceCtorEq, Nat.reduceAdd, Nat.reduceLT, Nat.reduceLeDiff, Nat.reduceBNe, Nat.reduceBEq, Int.reduceToNat, inI, Int.add_zero, Int.toNat_natCast, List.drop_zero, sRows_len, sRows_get _ _ hk0, List.drop_succ_cons, List.drop_nil, sRows_set _ _ hk0, tGen, gIdx1, gCnt1]
      (repeat' apply And.intro) <;> (try first | omega | ((fail_if_success refine idW ?_); (fail_if_success refine idS ?_); intros; (repeat' apply And.intro) <;> first | assumption | omega | (simp_all; done)))
      refine aw_seq (aw_region (EF := EF0) hG (by rw [hN]; exact tr58_15) ?_)
      simp only [a58_15, go_sem, ↓reduceIte, Nat.reduceEqDiff, reduceCtorEq, Nat.reduceAdd, Nat.reduceLT, Nat.reduceLeDiff, Nat.reduceBNe, Nat.reduceBEq, Int.reduceToNat, inI, show (((m : Nat) : Int) + 1).toNat = m + 1 by omega, List.take_length, tGen, gIdx1, gCnt1]
      (repeat' apply And.intro) <;> (try first | omega | ((fail_if_success refine idW ?_); (fail_if_success refine idS ?_); intros; (repeat' apply And.intro) <;> first | assumption | omega | (simp_all; done)))
      refine aw_region (EF := EF0) hG (by rw [hN]; exact tr58_16) ?_
      simp only [a58_16, go_sem, ↓reduceIte, Nat.reduceEqDiff, reduceCtorEq, Nat.reduceAdd, Nat.reduceLT, Nat.reduceLeDiff, Nat.reduceBNe, Nat.reduceBEq, Int.reduceToNat, inI, tGen, gIdx1, gCnt1]
      (repeat' apply And.intro) <;> (try first | omega | ((fail_if_success refine idW ?_); (fail_if_success refine idS ?_); intros; (repeat' apply And.intro) <;> first | assumption | omega | (simp_all; done)))
      refine hKL0 (t.drop (m + 1), d ++ [t.take m]) _ ?_ ?_ ?_
      · (try dsimp only); exact ⟨by rw [hw, hst, List.append_assoc]; rfl, by rw [List.length_append, List.length_cons, List.length_nil]; omega, by rw [List.length_drop]; omega⟩
      · (simp only [List.length_append, List.length_cons, List.length_nil]; omega)
      · refine Le.mk _ _ ?_ ?_ rfl <;> simp only [go_sem, ↓reduceIte, Nat.reduceEqDiff, reduceCtorEq, Nat.reduceAdd, Nat.reduceLT, Nat.reduceLeDiff, Nat.reduceBNe, Nat.reduceBEq, Int.reduceToNat, List.length_append, List.length_cons, List.length_nil, show N + 1 - (d.length + (0 + 1)) = N + 1 - d.length - 1 by omega] <;> (repeat' apply And.intro) <;> (try first | rfl | exact wk_frzb rfl rfl rfl | exact wk_fn rfl | exact .nilo _ _ _ rfl rfl | exact wk_frzm rfl rfl (fun kv hk => by obtain ⟨_, _, rfl⟩ := List.mem_map.1 hk; rfl))
    · skip
      refine aw_exit ?_
      simp only [go_sem, ↓reduceIte, Nat.reduceEqDiff, reduceCtorEq, Nat.reduceAdd, Nat.reduceLT, Nat.reduceLeDiff, Nat.reduceBNe, Nat.reduceBEq, Int.reduceToNat]
      have hdN : d.length = N := by have := of_decide_eq_false hb11; omega
      have hl1 : (splitW t).length = 1 := by have := congrArg List.length hw; rw [List.length_append] at this; omega
      have hlast : splitW t = [t] := splitW_one hl1
      have hkN : N + 1 - d.length = 1 := by omega
      refine aw_seq (aw_region (EF := EF0) hG (by rw [hN]; exact tr58_17) ?_)
      simp only [a58_17, go_sem, ↓reduceIte, Nat.reduceEqDiff, reduceCtorEq, Nat.reduceAdd, Nat.reduceLT, Nat.reduceLeDiff, Nat.reduceBNe, Nat.reduceBEq, Int.reduceToNat, hkN, sRows_len, sRows_get _ _ Nat.zero_lt_one, List.drop_succ_cons, List.drop_nil, sRows_set _ _ Nat.zero_lt_one, tGen, gIdx1, gCnt1]
      (repeat' apply And.intro) <;> (try first | omega | ((fail_if_success refine idW ?_); (fail_if_success refine idS ?_); intros; (repeat' apply And.intro) <;> first | assumption | omega | (simp_all; done)))
      have hfin : sRows (d ++ [t]) (1 - 1) = strs (splitW s) := by rw [hw, hlast]; exact sRows_done _
      refine aw_seq (aw_region (EF := EF0) hG (by rw [hN]; exact tr58_18) ?_)
      simp only [a58_18, go_sem, ↓reduceIte, Nat.reduceEqDiff, reduceCtorEq, Nat.reduceAdd, Nat.reduceLT, Nat.reduceLeDiff, Nat.reduceBNe, Nat.reduceBEq, Int.reduceToNat, inI, hkN, sRows_len, sRows_done, tGen, gIdx1, gCnt1]
      (repeat' apply And.intro) <;> (try first | omega | ((fail_if_success refine idW ?_); (fail_if_success refine idS ?_); intros; (repeat' apply And.intro) <;> first | assumption | omega | (simp_all; done)))
      refine AW.le (s' := ⟨mkE [(8, .list (strs (splitW s)) false)], mkH []⟩) (Le.mk _ _ ?_ ?_ rfl) (aw_ret (hQ _ _ (.inl rfl) ?_ ?_ ?_)) <;> simp only [outφ, outV, AR.res, go_sem, ↓reduceIte, Nat.reduceEqDiff, reduceCtorEq, Nat.reduceAdd, Nat.reduceLT, Nat.reduceLeDiff, Nat.reduceBNe, Nat.reduceBEq, Int.reduceToNat, fGen]
      · exact wk_frzvE rfl (by rw [hfin, strs_len, hcn]) rfl (by rw [hfin]; exact strs_pur _) (by rw [hfin, List.drop_zero, List.take_of_length_le (by rw [strs_len, hcn]; omega)])
def aSpl (s : List UInt8) : List V := [.str s, .str [32]]
theorem aSpl_inj (a b : List UInt8) (h : aSpl a = aSpl b) : a = b := by simpa [aSpl] using h
theorem fSpl_eq (s : List UInt8) : gOf aSpl fGen [.str s, .str [32]] = (s.length ≤ 1000, .list (strs (splitW s)) false) := gOf_eq aSpl_inj s
noncomputable def tSpl : Tab
  | 58 => (gOf aGen fGen)
  | _ => gNo
theorem tSpl_ok : ∀ f, PureC Tryd.prog UT f (tSpl f) := fun f => by
  unfold tSpl
  split
  · exact gen_p
  · exact PureC.no
theorem split_p : PureC Tryd.prog UT 37 (gOf aSpl fGen) := by
  have hG := tSpl_ok
  refine PureC.ofArgs aSpl_inj Tryd.func37 body37 nm37 res37 ?_
  rintro s hv
  refine ⟨by rw [nt37]; simp [aSpl], fun C hN Q hQ => ?_⟩
  rw [nt37] at hN
  unfold c37
  replace hv : s.length ≤ 1000 := hv
  refine aw_seq (aw_region (EF := EF0) hG (by rw [hN]; exact tr37_0) ?_)
  simp only [a37_0, go_sem, ↓reduceIte, Nat.reduceEqDiff, reduceCtorEq, Nat.reduceAdd, Nat.reduceLT, Nat.reduceLeDiff, Nat.reduceBNe, Nat.reduceBEq, Int.reduceToNat, aSpl, tSpl, fGen_eq, hv]
  refine aw_seq (aw_region (EF := EF0) hG (by rw [hN]; exact tr37_1) ?_)
  simp only [a37_1, go_sem, ↓reduceIte, Nat.reduceEqDiff, reduceCtorEq, Nat.reduceAdd, Nat.reduceLT, Nat.reduceLeDiff, Nat.reduceBNe, Nat.reduceBEq, Int.reduceToNat, tSpl, fGen_eq, hv]
  (repeat' apply And.intro) <;> (try first | omega | ((fail_if_success refine idW ?_); (fail_if_success refine idS ?_); intros; (repeat' apply And.intro) <;> first | assumption | omega | (simp_all; done)))
  refine aw_ret ?_
  show Q _ _
  refine hQ _ _ (.inl rfl) ?_ ?_ ?_ <;> simp only [outφ, outV, AR.res, go_sem, ↓reduceIte, Nat.reduceEqDiff, reduceCtorEq, Nat.reduceAdd, Nat.reduceLT, Nat.reduceLeDiff, Nat.reduceBNe, Nat.reduceBEq, Int.reduceToNat, fGen]
/-! A name: words of capital letters, single blanks between them. -/
def okF : Bool → List UInt8 → Bool
  | p, [] => !p
  | p, c :: s => if c = 32 then !p && okF true s else capB (c.toNat : Int) && okF false s
def nameB (s : List UInt8) : Bool := decide ((s.length : Int) ≤ 30) && okF true s
def wordB (w : List UInt8) : Bool := !decide (w = []) && allB capB w
theorem words_ok : ∀ (s : List UInt8), (∀ w r, splitW s = w :: r → okF false s = (allB capB w && r.all wordB)) ∧ okF true s = (splitW s).all wordB
  | [] => by
    refine ⟨fun w r h => ?_, rfl⟩
    simp only [splitW] at h
    injection h with h1 h2
    subst h1 h2
    rfl
  | c :: s => by
    obtain ⟨ih1, ih2⟩ := words_ok s
    by_cases hc : c = 32
    · subst hc
      have e : splitW (32 :: s) = [] :: splitW s := by rw [splitW, if_pos rfl]
      refine ⟨fun w r h => ?_, ?_⟩
      · rw [e] at h
        injection h with h1 h2
        subst h1 h2
        rw [okF, if_pos rfl, ih2]; rfl
      · rw [e, okF, if_pos rfl]; rfl
    · cases h2 : splitW s with
      | nil => exact absurd h2 (splitW_ne s)
      | cons w r =>
        have e : splitW (c :: s) = (c :: w) :: r := by rw [splitW, if_neg hc, h2]
        have a1 : allB capB (c :: w) = (capB (c.toNat : Int) && allB capB w) := rfl
        refine ⟨fun w' r' h => ?_, ?_⟩
        · rw [e] at h
          injection h with h3 h4
          subst h3 h4
          rw [okF, if_neg hc, ih1 w r h2, a1, Bool.and_assoc]
        · rw [e, okF, if_neg hc, ih1 w r h2, List.all_cons, wordB, a1]
          simp [Bool.and_assoc]
theorem fEv_eq (s : List UInt8) (h : fOf 39 = some capB) : gEvery [.str s, .fn 39 []] = (s.length ≤ 140737488355328, .bool (allB capB s)) := by
  simp only [gEvery, h]
theorem splitW_len {s w : List UInt8} (h : w ∈ splitW s) : w.length ≤ s.length := by
  induction s generalizing w with
  | nil => simp [splitW] at h; subst h; exact Nat.le_refl _
  | cons c s ih =>
    unfold splitW at h
    split at h
    · rcases List.mem_cons.1 h with rfl | h
      · simp
      · have := ih h; rw [List.length_cons]; omega
    · split at h
      · rename_i w' r e
        rcases List.mem_cons.1 h with rfl | h
        · have := ih (w := w') (by rw [e]; exact List.mem_cons_self ..); simp; omega
        · have := ih (w := w) (by rw [e]; exact List.mem_cons_of_mem _ h); rw [List.length_cons]; omega
      · simp at h; subst h; simp
def fName (s : List UInt8) : Prop × V := (s.length ≤ 140737488355328, .bool (nameB s))
theorem fName_eq (s : List UInt8) : gOf aStr fName [.str s] = (s.length ≤ 140737488355328, .bool (nameB s)) := gOf_eq aStr_inj s
theorem fcap : fOf 39 = some capB := by simp [fOf]
noncomputable def tNm : Tab
  | 37 => (gOf aSpl fGen)
  | 38 => gEvery
  | _ => gNo
theorem tNm_ok : ∀ f, PureC Tryd.prog UT f (tNm f) := fun f => by
  unfold tNm
  split
  · exact split_p
  · exact every_p
  · exact PureC.no
set_option maxHeartbeats 2000000 in
theorem name_p : PureC Tryd.prog UT 17 (gOf aStr fName) := by
  have hG := tNm_ok
  refine PureC.ofArgs aStr_inj Tryd.func17 body17 nm17 res17 ?_
  rintro s hv
  refine ⟨by rw [nt17]; simp [aStr], fun C hN Q hQ => ?_⟩
  rw [nt17] at hN
  unfold c17
  replace hv : s.length ≤ 140737488355328 := hv
  have hws := (words_ok s).2
  refine aw_seq (aw_region (EF := EF0) hG (by rw [hN]; exact tr17_0) ?_)
  simp only [a17_0, go_sem, ↓reduceIte, Nat.reduceEqDiff, reduceCtorEq, Nat.reduceAdd, Nat.reduceLT, Nat.reduceLeDiff, Nat.reduceBNe, Nat.reduceBEq, Int.reduceToNat, aStr, tNm, fSpl_eq, fEv_eq _ fcap]
  refine aw_seq ?_
  refine aw_seq (aw_region (EF := EF0) hG (by rw [hN]; exact tr17_1) ?_)
  simp only [a17_1, go_sem, ↓reduceIte, Nat.reduceEqDiff, reduceCtorEq, Nat.reduceAdd, Nat.reduceLT, Nat.reduceLeDiff, Nat.reduceBNe, Nat.reduceBEq, Int.reduceToNat, tNm, fSpl_eq, fEv_eq _ fcap]
  refine aw_cond (b := _) rfl (fun hb1 => ?_) (fun hb1 => ?_)
  · skip
    refine aw_seq (aw_region (EF := EF0) hG (by rw [hN]; exact tr17_2) ?_)
    simp only [a17_2, go_sem, ↓reduceIte, Nat.reduceEqDiff, reduceCtorEq, Nat.reduceAdd, Nat.reduceLT, Nat.reduceLeDiff, Nat.reduceBNe, Nat.reduceBEq, Int.reduceToNat, tNm, fSpl_eq, fEv_eq _ fcap]
    refine aw_ret ?_
    show Q _ _
    refine hQ _ _ (.inl rfl) ?_ ?_ ?_ <;> simp only [outφ, outV, AR.res, go_sem, ↓reduceIte, Nat.reduceEqDiff, reduceCtorEq, Nat.reduceAdd, Nat.reduceLT, Nat.reduceLeDiff, Nat.reduceBNe, Nat.reduceBEq, Int.reduceToNat, fName, nameB]
    rw [decide_eq_false (by have := of_decide_eq_true hb1; omega), Bool.false_and]
  · skip
    refine aw_skip ?_
    try simp only [go_sem, ↓reduceIte, Nat.reduceEqDiff, reduceCtorEq, Nat.reduceAdd, Nat.reduceLT, Nat.reduceLeDiff, Nat.reduceBNe, Nat.reduceBEq, Int.reduceToNat]
    refine aw_seq ?_
    have hl : s.length ≤ 30 := by have := of_decide_eq_false hb1; omega
    have hd30 : decide ((s.length : Int) ≤ 30) = true := decide_eq_true (by omega)
    have hl3 : s.length ≤ 1000 := by omega
    have hWl : (splitW s).length ≤ 1001 := by rw [splitW_cnt]; have := List.count_le_length (a := 32) (l := s); omega
    generalize hW : splitW s = W at hws hWl
    refine aw_seq (aw_region (EF := EF0) hG (by rw [hN]; exact tr17_3) ?_)
    simp only [a17_3, go_sem, ↓reduceIte, Nat.reduceEqDiff, reduceCtorEq, Nat.reduceAdd, Nat.reduceLT, Nat.reduceLeDiff, Nat.reduceBNe, Nat.reduceBEq, Int.reduceToNat, hl3, hW, tNm, fSpl_eq, fEv_eq _ fcap]
    (repeat' apply And.intro) <;> (try first | omega | ((fail_if_success refine idW ?_); (fail_if_success refine idS ?_); intros; (repeat' apply And.intro) <;> first | assumption | omega | (simp_all; done)))
    refine aw_block ?_
    refine aw_loop (α := Nat) (fun i => (i ≤ W.length) ∧ (∀ w ∈ W.take i, wordB w = true)) (fun i => ⟨mkE [(9, V.list (strs W) false), (10, V.int IntKind.i64 ↑W.length), (11, .int .i64 i)], mkH []⟩) (fun i => W.length - i) 0 (by simp) ?_ ?_
    · refine Le.mk _ _ ?_ ?_ rfl <;> simp only [go_sem, ↓reduceIte, Nat.reduceEqDiff, reduceCtorEq, Nat.reduceAdd, Nat.reduceLT, Nat.reduceLeDiff, Nat.reduceBNe, Nat.reduceBEq, Int.reduceToNat] <;> (repeat' apply And.intro) <;> (try first | rfl | exact wk_frzb rfl rfl rfl | exact wk_fn rfl | exact .nilo _ _ _ rfl rfl | exact wk_frzm rfl rfl (fun kv hk => by obtain ⟨_, _, rfl⟩ := List.mem_map.1 hk; rfl))
    · rintro i ⟨hi, hp⟩ KL0 hKL0
      try dsimp only at *
      refine aw_seq (aw_region (EF := EF0) hG (by rw [hN]; exact tr17_4) ?_)
      simp only [a17_4, go_sem, ↓reduceIte, Nat.reduceEqDiff, reduceCtorEq, Nat.reduceAdd, Nat.reduceLT, Nat.reduceLeDiff, Nat.reduceBNe, Nat.reduceBEq, Int.reduceToNat, tNm, fSpl_eq, fEv_eq _ fcap]
      refine aw_seq ?_
      refine aw_cond (b := _) rfl (fun hc4 => ?_) (fun hc4 => ?_)
      · simp only [decide_eq_true_eq, decide_eq_false_iff_not, Bool.and_eq_true, Bool.or_eq_true, Bool.not_eq_true', Bool.not_eq_false', Bool.and_eq_false_iff, Bool.or_eq_false_iff, Int.ofNat_lt, Int.ofNat_le, Nat.not_lt, Nat.not_le, Int.not_lt, Int.not_le] at hc4
        refine aw_skip ?_
        try simp only [go_sem, ↓reduceIte, Nat.reduceEqDiff, reduceCtorEq, Nat.reduceAdd, Nat.reduceLT, Nat.reduceLeDiff, Nat.reduceBNe, Nat.reduceBEq, Int.reduceToNat]
        refine aw_seq ?_
        refine aw_block ?_
        refine aw_seq (aw_region (EF := EF0) hG (by rw [hN]; exact tr17_5) ?_)
        simp only [a17_5, go_sem, ↓reduceIte, Nat.reduceEqDiff, reduceCtorEq, Nat.reduceAdd, Nat.reduceLT, Nat.reduceLeDiff, Nat.reduceBNe, Nat.reduceBEq, Int.reduceToNat, strs_getD _ _ _ hc4, hc4, tNm, fSpl_eq, fEv_eq _ fcap]
        (repeat' apply And.intro) <;> (try first | omega | ((fail_if_success refine idW ?_); (fail_if_success refine idS ?_); intros; (repeat' apply And.intro) <;> first | assumption | omega | (simp_all; done)))
        have hwl : (W[i]).length ≤ 140737488355328 := by have := splitW_len (s := s) (w := W[i]) (by rw [hW]; exact List.getElem_mem hc4); omega
        refine aw_seq (aw_region (EF := EF0) hG (by rw [hN]; exact tr17_6) ?_)
        simp only [a17_6, go_sem, ↓reduceIte, Nat.reduceEqDiff, reduceCtorEq, Nat.reduceAdd, Nat.reduceLT, Nat.reduceLeDiff, Nat.reduceBNe, Nat.reduceBEq, Int.reduceToNat, hwl, tNm, fSpl_eq, fEv_eq _ fcap]
        (repeat' apply And.intro) <;> (try first | omega | ((fail_if_success refine idW ?_); (fail_if_success refine idS ?_); intros; (repeat' apply And.intro) <;> first | assumption | omega | (simp_all; done)))
        refine aw_cond (b := _) rfl (fun hb6 => ?_) (fun hb6 => ?_)
        · skip
          refine aw_seq (aw_region (EF := EF0) hG (by rw [hN]; exact tr17_7) ?_)
          simp only [a17_7, go_sem, ↓reduceIte, Nat.reduceEqDiff, reduceCtorEq, Nat.reduceAdd, Nat.reduceLT, Nat.reduceLeDiff, Nat.reduceBNe, Nat.reduceBEq, Int.reduceToNat, tNm, fSpl_eq, fEv_eq _ fcap]
          refine aw_ret ?_
          show Q _ _
          refine hQ _ _ (.inl rfl) ?_ ?_ ?_ <;> simp only [outφ, outV, AR.res, go_sem, ↓reduceIte, Nat.reduceEqDiff, reduceCtorEq, Nat.reduceAdd, Nat.reduceLT, Nat.reduceLeDiff, Nat.reduceBNe, Nat.reduceBEq, Int.reduceToNat, fName, nameB]
          rw [hd30, Bool.true_and, hws, List.all_eq_false.2 ⟨_, List.getElem_mem hc4, by unfold wordB; revert hb6; cases decide (W[i] = []) <;> cases allB capB W[i] <;> simp⟩]
        · skip
          refine aw_skip ?_
          try simp only [go_sem, ↓reduceIte, Nat.reduceEqDiff, reduceCtorEq, Nat.reduceAdd, Nat.reduceLT, Nat.reduceLeDiff, Nat.reduceBNe, Nat.reduceBEq, Int.reduceToNat]
          refine aw_region (EF := EF0) hG (by rw [hN]; exact tr17_8) ?_
          simp only [a17_8, go_sem, ↓reduceIte, Nat.reduceEqDiff, reduceCtorEq, Nat.reduceAdd, Nat.reduceLT, Nat.reduceLeDiff, Nat.reduceBNe, Nat.reduceBEq, Int.reduceToNat, inI, tNm, fSpl_eq, fEv_eq _ fcap]
          (repeat' apply And.intro) <;> (try first | omega | ((fail_if_success refine idW ?_); (fail_if_success refine idS ?_); intros; (repeat' apply And.intro) <;> first | assumption | omega | (simp_all; done)))
          refine hKL0 (i + 1) _ ?_ ?_ ?_
          · (try dsimp only); refine ⟨hc4, fun w hw => ?_⟩; rw [take_succ' hc4, List.mem_append, List.mem_singleton] at hw; rcases hw with hw | rfl; (exact hp w hw); (unfold wordB; revert hb6; cases decide (W[i] = []) <;> cases allB capB W[i] <;> simp)
          · (try dsimp only); omega
          · refine Le.mk _ _ ?_ ?_ rfl <;> simp only [go_sem, ↓reduceIte, Nat.reduceEqDiff, reduceCtorEq, Nat.reduceAdd, Nat.reduceLT, Nat.reduceLeDiff, Nat.reduceBNe, Nat.reduceBEq, Int.reduceToNat] <;> (repeat' apply And.intro) <;> (try first | rfl | exact wk_frzb rfl rfl rfl | exact wk_fn rfl | exact .nilo _ _ _ rfl rfl | exact wk_frzm rfl rfl (fun kv hk => by obtain ⟨_, _, rfl⟩ := List.mem_map.1 hk; rfl))
      · simp only [decide_eq_true_eq, decide_eq_false_iff_not, Bool.and_eq_true, Bool.or_eq_true, Bool.not_eq_true', Bool.not_eq_false', Bool.and_eq_false_iff, Bool.or_eq_false_iff, Int.ofNat_lt, Int.ofNat_le, Nat.not_lt, Nat.not_le, Int.not_lt, Int.not_le] at hc4
        refine aw_exit ?_
        simp only [go_sem, ↓reduceIte, Nat.reduceEqDiff, reduceCtorEq, Nat.reduceAdd, Nat.reduceLT, Nat.reduceLeDiff, Nat.reduceBNe, Nat.reduceBEq, Int.reduceToNat]
        refine aw_seq (aw_region (EF := EF0) hG (by rw [hN]; exact tr17_9) ?_)
        simp only [a17_9, go_sem, ↓reduceIte, Nat.reduceEqDiff, reduceCtorEq, Nat.reduceAdd, Nat.reduceLT, Nat.reduceLeDiff, Nat.reduceBNe, Nat.reduceBEq, Int.reduceToNat, tNm, fSpl_eq, fEv_eq _ fcap]
        refine aw_ret ?_
        show Q _ _
        refine hQ _ _ (.inl rfl) ?_ ?_ ?_ <;> simp only [outφ, outV, AR.res, go_sem, ↓reduceIte, Nat.reduceEqDiff, reduceCtorEq, Nat.reduceAdd, Nat.reduceLT, Nat.reduceLeDiff, Nat.reduceBNe, Nat.reduceBEq, Int.reduceToNat, fName, nameB]
        rw [hd30, Bool.true_and, hws, List.all_eq_true.2 (none_at hc4 hp)]
end Go.Proofs.YtffapkiilkeadaaDoor
