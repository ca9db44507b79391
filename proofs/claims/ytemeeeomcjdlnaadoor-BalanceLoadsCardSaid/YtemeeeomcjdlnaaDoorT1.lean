/- Functions on texts, of the program and of the reference: what each computes. -/
import Derived.Test.YtemeeeomcjdlnaaDoorCo
import Derived.Test.YtemeeeomcjdlnaaDoorShelf
import Derived.Lib.LaidTab
import Derived.Lib.ItoaNum
import Derived.Lib.ItoaLen
namespace Go.Proofs.YtemeeeomcjdlnaaDoor
open Go Go.RowKit
set_option linter.unusedSimpArgs false
set_option linter.unusedVariables false
set_option linter.deprecated false
abbrev TabW (w : World) : Prop := Lib.TabIs Tryd.prog w "internal/strconv.uint64pow10" .u64 Lib.pow10Tab
theorem gTab : Tryd.prog.globalNamed "internal/strconv.uint64pow10" = some 0 := by kernel_rfl
def UT : Tbl := ⟨TabW, fun b => b = 0, fun w w' h hB => by
  unfold TabW Lib.TabIs World.var? at hB ⊢
  rw [gTab] at hB ⊢
  simp only [Option.bind_some] at hB ⊢
  rw [h _ rfl]
  exact hB⟩
/-! What they compute. -/
def capB (c : Int) : Bool := decide (65 ≤ c) && decide (c ≤ 90)
def digB (c : Int) : Bool := decide (48 ≤ c) && decide (c ≤ 57)
def codB (c : Int) : Bool := capB c || digB c
/-- All bytes have a property. -/
def allB (p : Int → Bool) (l : List UInt8) : Bool := l.all fun c => p (c.toNat : Int)
def codeB (l : List UInt8) (lo hi : Int) : Bool := decide (lo ≤ (l.length : Int)) && decide ((l.length : Int) ≤ hi) && allB codB l
def classB (l : List UInt8) : Bool := decide ((l.length : Int) = 1) && allB capB l
/-- A number in decimal digits. -/
def dec (n : Int) : List UInt8 := Lib.itoa n
theorem allB_step {p : Int → Bool} {s : List UInt8} {i : Nat} (h : i < s.length) (ht : allB p (s.take i) = true) (hp : p ((s.getD i 0).toNat : Int) = true) : allB p (s.take (i + 1)) = true := by
  rw [List.take_succ_eq_append_getElem h]
  rw [List.getD_eq_getElem?_getD, List.getElem?_eq_getElem h] at hp
  simp only [allB, List.all_append, List.all_cons, List.all_nil, Bool.and_true, Bool.and_eq_true] at ht ⊢
  exact ⟨ht, hp⟩
theorem allB_no {p : Int → Bool} {s : List UInt8} {i : Nat} (h : i < s.length) (hp : p ((s.getD i 0).toNat : Int) = false) : allB p s = false := by
  rw [List.getD_eq_getElem?_getD, List.getElem?_eq_getElem h] at hp
  unfold allB
  rw [List.all_eq_false]
  exact ⟨s[i], List.getElem_mem h, by simpa using hp⟩
theorem allB_end {p : Int → Bool} {s : List UInt8} {i : Nat} (h : ¬ i < s.length) (ht : allB p (s.take i) = true) : allB p s = true := by
  rwa [List.take_of_length_le (by omega)] at ht
theorem classB_at (s : List UInt8) : (decide ((s.length : Int) = 1) && capB ((s.getD 0 0).toNat : Int)) = classB s := by
  unfold classB allB
  match s with
  | [] => rfl
  | [x] => simp
  | x :: y :: l =>
    have h : ¬ (((x :: y :: l).length : Int) = 1) := by simp only [List.length_cons]; omega
    rw [decide_eq_false h, Bool.false_and, Bool.false_and]
def dch (d : Nat) : UInt8 := UInt8.ofNat (48 + d)
def tens : List UInt8 := [48, 49, 50, 51, 52, 53, 54, 55, 56, 57]
theorem digit_cut {d : Int} (h0 : 0 ≤ d) (h : d < 10) : (tens.take (d + 1).toNat).drop d.toNat = [dch d.toNat] := by
  have : d = 0 ∨ d = 1 ∨ d = 2 ∨ d = 3 ∨ d = 4 ∨ d = 5 ∨ d = 6 ∨ d = 7 ∨ d = 8 ∨ d = 9 := by omega
  rcases this with rfl | rfl | rfl | rfl | rfl | rfl | rfl | rfl | rfl | rfl <;> rfl
theorem dd_small {n : Int} (h : n < 10) : Lib.decDigits n.toNat = [dch n.toNat] := by rw [Lib.decDigits, dif_pos (by omega)]; rfl
theorem dd_big {n : Int} (h : 10 ≤ n) : Lib.decDigits n.toNat = Lib.decDigits (n / 10).toNat ++ [dch (n % 10).toNat] := by
  rw [Lib.decDigits, dif_neg (by omega), show n.toNat / 10 = (n / 10).toNat by omega, show n.toNat % 10 = (n % 10).toNat by omega]; rfl
theorem dd_len {n : Int} (h : n ≤ 18446744073709551615) : (Lib.decDigits n.toNat).length ≤ 20 := by
  rw [Lib.decDigits_length]; exact Lib.nDigits_le20 _ (by omega)
theorem dec_len {n : Int} (h : inI n) : (dec n).length ≤ 21 := Lib.itoa_length_le n h.1 h.2
/-! The functions. -/
def gByte (p : Int → Bool) : List V → Prop × V
  | [.int .u8 n] => (True, .bool (p n))
  | _ => (False, .any)
noncomputable def tNo : Tab
  | _ => gNo
theorem tNo_ok : ∀ f, PureC Tryd.prog UT f (tNo f) := fun f => by
  unfold tNo
  split
  · exact PureC.no

def fOf (f : Nat) : Option (Int → Bool) :=
  none
def gByteOf (f : Nat) : List V → Prop × V := match fOf f with
  | some p => gByte p
  | none => gNo
theorem byteOf_ok : ∀ f, PureC Tryd.prog UT f (gByteOf f) := fun f => by
  unfold gByteOf fOf
  exact PureC.no
def gEvery : List V → Prop × V
  | [.str s, .fn f []] => match fOf f with
    | some p => (s.length ≤ 140737488355328, .bool (allB p s))
    | none => (False, .any)
  | _ => (False, .any)
/-- A code of capital letters and digits. -/
def gCode : List V → Prop × V
  | [.str s, .int .i64 lo, .int .i64 hi] => (s.length ≤ 140737488355328, .bool (codeB s lo hi))
  | _ => (False, .any)
def gClass : List V → Prop × V
  | [.str s] => (s.length ≤ 140737488355328, .bool (classB s))
  | _ => (False, .any)
theorem below_growDrew {w : World} {k : Nat} {os : Array Obj} : Below w.heap.size w (Sort.grow (w.drewN k) os) := by
  refine ⟨rfl, rfl, rfl, ?_, fun i hi => ?_⟩
  · show w.heap.size ≤ (w.heap ++ os).size; simp
  · show (w.heap ++ os)[i]? = w.heap[i]?
    exact Array.getElem?_append_left hi
def gDec : List V → Prop × V
  | [.int .i64 n] => (inI n, .str (dec n))
  | _ => (False, .any)
theorem itoa_p : PureC Tryd.prog UT 33 gDec := by
  refine PureC.leaf Tryd.func33 (by kernel_rfl : Tryd.f33.body = some ((Tryd.f33.body).getD .skip)) (by kernel_rfl) fun vs M w cargs hv hB hs ha => ?_
  match vs, hv, hs, ha with
  | [.int .i64 n], hv, hs, ha =>
  have h0 := (ha 0 _ rfl).int_inv
  have h1 := args_one hs
  rw [h0] at h1
  rw [h1]
  refine (Tryd.strconv_Itoa n hv.1 hv.2 w hB).mono ?_
  rintro e w' ⟨he, k, os, hw⟩
  exact ⟨_, he, fun M' => .str _, by rw [hw]; exact below_growDrew⟩
noncomputable def tDec : Tab
  | 33 => gDec
  | _ => gNo
theorem tDec_ok : ∀ f, PureC Tryd.prog UT f (tDec f) := fun f => by
  unfold tDec
  split
  · exact itoa_p
  · exact PureC.no
set_option maxHeartbeats 1000000 in
theorem decimal_p : PureC Tryd.prog UT 24 gDec := by
  have hG := tDec_ok
  refine PureC.of_awQ Tryd.func24 body24 nm24 res24 fun vs hv => ?_
  match vs, hv with
  | [.int .i64 n], hv =>
  replace hv : inI n := hv
  refine ⟨by rw [nt24]; simp, fun C hN Q hQ => ?_⟩
  rw [nt24] at hN
  unfold c24
  refine aw_seq (aw_region (EF := EF0) hG (by rw [hN]; exact tr24_0) ?_)
  simp only [a24_0, go_sem, ↓reduceIte, Nat.reduceEqDiff, reduceCtorEq, Nat.reduceAdd, Nat.reduceLT, Nat.reduceLeDiff, Nat.reduceBNe, Nat.reduceBEq, Int.reduceToNat]
  refine aw_seq (aw_region (EF := EF0) hG (by rw [hN]; exact tr24_1) ?_)
  simp only [a24_1, go_sem, ↓reduceIte, Nat.reduceEqDiff, reduceCtorEq, Nat.reduceAdd, Nat.reduceLT, Nat.reduceLeDiff, Nat.reduceBNe, Nat.reduceBEq, Int.reduceToNat, tDec, gDec, hv]
  refine aw_ret ?_
  show Q _ _
  refine hQ _ _ (.inl rfl) ?_ ?_ ?_ <;> simp only [outφ, outV, AR.res, go_sem, ↓reduceIte, Nat.reduceEqDiff, reduceCtorEq, Nat.reduceAdd, Nat.reduceLT, Nat.reduceLeDiff, Nat.reduceBNe, Nat.reduceBEq, Int.reduceToNat, gDec]
def gDigK (k : Nat) : List V → Prop × V
  | [.int .u64 n] => (0 ≤ n ∧ n < 10 ^ k ∧ n ≤ 18446744073709551615, .str (Lib.decDigits n.toNat))
  | _ => (False, .any)
def tDigK : Nat → Tab
  | 0 => fun _ => gNo
  | k + 1 => fun f => if f = 34 then gDigK k else gNo
set_option maxHeartbeats 1000000 in
theorem rdigits_k (k : Nat) (hG : ∀ f, PureC Tryd.prog UT f (tDigK k f)) : PureC Tryd.prog UT 34 (gDigK k) := by
  refine PureC.of_awQ Tryd.func34 body34 nm34 res34 fun vs hv => ?_
  match vs, hv with
  | [.int .u64 n], hv =>
  replace hv : 0 ≤ n ∧ n < 10 ^ k ∧ n ≤ 18446744073709551615 := hv
  obtain ⟨h0, h1, h2⟩ := hv
  refine ⟨by rw [nt34]; simp, fun C hN Q hQ => ?_⟩
  rw [nt34] at hN
  unfold c34
  refine aw_seq (aw_region (EF := EF0) hG (by rw [hN]; exact tr34_0) ?_)
  simp only [a34_0, go_sem, ↓reduceIte, Nat.reduceEqDiff, reduceCtorEq, Nat.reduceAdd, Nat.reduceLT, Nat.reduceLeDiff, Nat.reduceBNe, Nat.reduceBEq, Int.reduceToNat]
  refine aw_seq ?_
  refine aw_seq (aw_region (EF := EF0) hG (by rw [hN]; exact tr34_1) ?_)
  simp only [a34_1, go_sem, ↓reduceIte, Nat.reduceEqDiff, reduceCtorEq, Nat.reduceAdd, Nat.reduceLT, Nat.reduceLeDiff, Nat.reduceBNe, Nat.reduceBEq, Int.reduceToNat]
  refine aw_cond (b := _) rfl (fun hc => ?_) (fun hc => ?_)
  · simp only [decide_eq_true_eq, decide_eq_false_iff_not, Bool.and_eq_true, Bool.or_eq_true, Bool.not_eq_true', Bool.not_eq_false', Bool.and_eq_false_iff, Bool.or_eq_false_iff, Int.ofNat_lt, Int.ofNat_le, Nat.not_lt, Nat.not_le, Int.not_lt, Int.not_le] at hc
    refine aw_seq (aw_region (EF := EF0) hG (by rw [hN]; exact tr34_2) ?_)
    simp only [a34_2, go_sem, ↓reduceIte, Nat.reduceEqDiff, reduceCtorEq, Nat.reduceAdd, Nat.reduceLT, Nat.reduceLeDiff, Nat.reduceBNe, Nat.reduceBEq, Int.reduceToNat, inK_u64]
    (repeat' apply And.intro) <;> (try first | omega | (intros; (repeat' apply And.intro) <;> first | assumption | omega | (simp_all; done)))
    refine aw_ret ?_
    show Q _ _
    refine hQ _ _ (.inl rfl) ?_ ?_ ?_ <;> simp only [outφ, outV, AR.res, go_sem, ↓reduceIte, Nat.reduceEqDiff, reduceCtorEq, Nat.reduceAdd, Nat.reduceLT, Nat.reduceLeDiff, Nat.reduceBNe, Nat.reduceBEq, Int.reduceToNat, gDigK]
    rw [show [48, 49, 50, 51, 52, 53, 54, 55, 56, 57] = tens from rfl, digit_cut h0 (by omega), dd_small hc]
  · simp only [decide_eq_true_eq, decide_eq_false_iff_not, Bool.and_eq_true, Bool.or_eq_true, Bool.not_eq_true', Bool.not_eq_false', Bool.and_eq_false_iff, Bool.or_eq_false_iff, Int.ofNat_lt, Int.ofNat_le, Nat.not_lt, Nat.not_le, Int.not_lt, Int.not_le] at hc
    refine aw_skip ?_
    simp only [go_sem, ↓reduceIte, Nat.reduceEqDiff, reduceCtorEq, Nat.reduceAdd, Nat.reduceLT, Nat.reduceLeDiff, Nat.reduceBNe, Nat.reduceBEq, Int.reduceToNat]
    have hq : (tDigK k 34 [.int .u64 (n / 10)]).1 ∧ (tDigK k 34 [.int .u64 (n / 10)]).2 = .str (Lib.decDigits (n / 10).toNat) := by
      cases k with
      | zero => exfalso; simp at h1; omega
      | succ k =>
        refine ⟨⟨by omega, ?_, by omega⟩, rfl⟩
        rw [Int.pow_succ] at h1
        omega
    have hl := dd_len (n := n / 10) (by omega)
    refine aw_seq (aw_regionD (EF := EF0) hG mixed (by rw [hN]; exact tr34_3) ok34_3 ?_)
    simp only [a34_3, d34_3, go_sem, ↓reduceIte, Nat.reduceEqDiff, reduceCtorEq, Nat.reduceAdd, Nat.reduceLT, Nat.reduceLeDiff, Nat.reduceBNe, Nat.reduceBEq, Int.reduceToNat, inK_u64, hq.1, hq.2]
    rw [show [48, 49, 50, 51, 52, 53, 54, 55, 56, 57] = tens from rfl, digit_cut (by omega : 0 ≤ n % 10) (by omega)]
    (repeat' apply And.intro) <;> (try first | omega | (intros; (repeat' apply And.intro) <;> first | assumption | omega | (simp_all; done)) | (rw [List.length_append]; simp only [List.length_cons, List.length_nil]; omega))
    refine aw_ret ?_
    show Q _ _
    refine hQ _ _ (.inl rfl) ?_ ?_ ?_ <;> simp only [outφ, outV, AR.res, go_sem, ↓reduceIte, Nat.reduceEqDiff, reduceCtorEq, Nat.reduceAdd, Nat.reduceLT, Nat.reduceLeDiff, Nat.reduceBNe, Nat.reduceBEq, Int.reduceToNat, gDigK]
    rw [dd_big hc]
theorem rdigits_all : ∀ k, PureC Tryd.prog UT 34 (gDigK k)
  | 0 => rdigits_k 0 fun _ => PureC.no
  | k + 1 => rdigits_k (k + 1) fun f => by
    show PureC Tryd.prog UT f (if f = 34 then gDigK k else gNo)
    by_cases h : f = 34
    · subst h; rw [if_pos rfl]; exact rdigits_all k
    · rw [if_neg h]; exact PureC.no
def gDigits : List V → Prop × V
  | [.int .u64 n] => (0 ≤ n ∧ n ≤ 18446744073709551615, .str (Lib.decDigits n.toNat))
  | _ => (False, .any)
theorem rdigits_p : PureC Tryd.prog UT 34 gDigits := (rdigits_all 20).sub fun vs hv => by
  match vs, hv with
  | [.int .u64 n], hv => exact ⟨⟨hv.1, Int.lt_of_le_of_lt hv.2 (by decide), hv.2⟩, rfl⟩
def gRDec : List V → Prop × V
  | [.int .i64 n] => (inI n, .str (dec n))
  | _ => (False, .any)
noncomputable def trDec : Tab
  | 34 => gDigits
  | _ => gNo
theorem trDec_ok : ∀ f, PureC Tryd.prog UT f (trDec f) := fun f => by
  unfold trDec
  split
  · exact rdigits_p
  · exact PureC.no
set_option maxHeartbeats 1000000 in
theorem rdecimal_p : PureC Tryd.prog UT 27 gRDec := by
  have hG := trDec_ok
  refine PureC.of_awQ Tryd.func27 body27 nm27 res27 fun vs hv => ?_
  match vs, hv with
  | [.int .i64 n], hv =>
  replace hv : inI n := hv
  obtain ⟨h0, h1⟩ := hv
  refine ⟨by rw [nt27]; simp, fun C hN Q hQ => ?_⟩
  rw [nt27] at hN
  unfold c27
  refine aw_seq (aw_region (EF := EF0) hG (by rw [hN]; exact tr27_0) ?_)
  simp only [a27_0, go_sem, ↓reduceIte, Nat.reduceEqDiff, reduceCtorEq, Nat.reduceAdd, Nat.reduceLT, Nat.reduceLeDiff, Nat.reduceBNe, Nat.reduceBEq, Int.reduceToNat]
  refine aw_seq ?_
  refine aw_seq (aw_region (EF := EF0) hG (by rw [hN]; exact tr27_1) ?_)
  simp only [a27_1, go_sem, ↓reduceIte, Nat.reduceEqDiff, reduceCtorEq, Nat.reduceAdd, Nat.reduceLT, Nat.reduceLeDiff, Nat.reduceBNe, Nat.reduceBEq, Int.reduceToNat]
  refine aw_cond (b := _) rfl (fun hc => ?_) (fun hc => ?_)
  · simp only [decide_eq_true_eq, decide_eq_false_iff_not, Bool.and_eq_true, Bool.or_eq_true, Bool.not_eq_true', Bool.not_eq_false', Bool.and_eq_false_iff, Bool.or_eq_false_iff, Int.ofNat_lt, Int.ofNat_le, Nat.not_lt, Nat.not_le, Int.not_lt, Int.not_le] at hc
    have hl := dd_len (n := -(n + 1) + 1) (by omega)
    refine aw_seq (aw_region (EF := EF0) hG (by rw [hN]; exact tr27_2) ?_)
    simp only [a27_2, go_sem, ↓reduceIte, Nat.reduceEqDiff, reduceCtorEq, Nat.reduceAdd, Nat.reduceLT, Nat.reduceLeDiff, Nat.reduceBNe, Nat.reduceBEq, Int.reduceToNat, inK_u64, inI, trDec, gDigits]
    (repeat' apply And.intro) <;> (try first | omega | (intros; (repeat' apply And.intro) <;> first | assumption | omega | (simp_all; done)))
    refine aw_ret ?_
    show Q _ _
    refine hQ _ _ (.inl rfl) ?_ ?_ ?_ <;> simp only [outφ, outV, AR.res, go_sem, ↓reduceIte, Nat.reduceEqDiff, reduceCtorEq, Nat.reduceAdd, Nat.reduceLT, Nat.reduceLeDiff, Nat.reduceBNe, Nat.reduceBEq, Int.reduceToNat, gRDec, dec, Lib.itoa]
    rw [if_pos hc, show (-(n + 1) + 1).toNat = n.natAbs by omega]
  · simp only [decide_eq_true_eq, decide_eq_false_iff_not, Bool.and_eq_true, Bool.or_eq_true, Bool.not_eq_true', Bool.not_eq_false', Bool.and_eq_false_iff, Bool.or_eq_false_iff, Int.ofNat_lt, Int.ofNat_le, Nat.not_lt, Nat.not_le, Int.not_lt, Int.not_le] at hc
    refine aw_skip ?_
    simp only [go_sem, ↓reduceIte, Nat.reduceEqDiff, reduceCtorEq, Nat.reduceAdd, Nat.reduceLT, Nat.reduceLeDiff, Nat.reduceBNe, Nat.reduceBEq, Int.reduceToNat]
    refine aw_seq (aw_region (EF := EF0) hG (by rw [hN]; exact tr27_3) ?_)
    simp only [a27_3, go_sem, ↓reduceIte, Nat.reduceEqDiff, reduceCtorEq, Nat.reduceAdd, Nat.reduceLT, Nat.reduceLeDiff, Nat.reduceBNe, Nat.reduceBEq, Int.reduceToNat, inK_u64, trDec, gDigits]
    (repeat' apply And.intro) <;> (try first | omega | (intros; (repeat' apply And.intro) <;> first | assumption | omega | (simp_all; done)))
    refine aw_ret ?_
    show Q _ _
    refine hQ _ _ (.inl rfl) ?_ ?_ ?_ <;> simp only [outφ, outV, AR.res, go_sem, ↓reduceIte, Nat.reduceEqDiff, reduceCtorEq, Nat.reduceAdd, Nat.reduceLT, Nat.reduceLeDiff, Nat.reduceBNe, Nat.reduceBEq, Int.reduceToNat, gRDec, dec, Lib.itoa]
    rw [if_neg (by omega)]
end Go.Proofs.YtemeeeomcjdlnaaDoor
