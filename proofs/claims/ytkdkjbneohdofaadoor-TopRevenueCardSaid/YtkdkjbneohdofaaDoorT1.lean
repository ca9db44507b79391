/- Functions on texts, of the program and of the reference: what each computes. -/
import Derived.Test.YtkdkjbneohdofaaDoorCo
import Derived.Test.YtkdkjbneohdofaaDoorAv22
import Derived.Lib.LaidTab
import Derived.Lib.ItoaNum
import Derived.Lib.ItoaLen
namespace Go.Proofs.YtkdkjbneohdofaaDoor
open Go Go.RowKit
set_option linter.unusedSimpArgs false
set_option linter.unusedVariables false
set_option linter.deprecated false
def lenTab : List Int := [31, 28, 31, 30, 31, 30, 31, 31, 30, 31, 30, 31]
abbrev TabW (w : World) : Prop := Lib.TabIs Tryd.prog w "airline/calendar.lengths" .i64 lenTab
theorem gTab : Tryd.prog.globalNamed "airline/calendar.lengths" = some 0 := by kernel_rfl
def UT : Tbl := ⟨TabW, fun b => b = 0, fun w w' h hB => by
  unfold TabW Lib.TabIs World.var? at hB ⊢
  rw [gTab] at hB ⊢
  simp only [Option.bind_some] at hB ⊢
  rw [h _ rfl]
  exact hB⟩
/-! What they compute. -/
def capB (c : Int) : Bool := decide (65 ≤ c) && decide (c ≤ 90)
def digB (c : Int) : Bool := decide (48 ≤ c) && decide (c ≤ 57)
def codB (c : Int) : Bool := capB c || digB c
/-- All bytes have a property. -/
def allB (p : Int → Bool) (l : List UInt8) : Bool := l.all fun c => p (c.toNat : Int)
def codeB (l : List UInt8) (lo hi : Int) : Bool := decide (lo ≤ (l.length : Int)) && decide ((l.length : Int) ≤ hi) && allB codB l
def classB (l : List UInt8) : Bool := decide ((l.length : Int) = 1) && allB capB l
/-- A number in decimal digits. -/
def dec (n : Int) : List UInt8 := Lib.itoa n
theorem allB_step {p : Int → Bool} {s : List UInt8} {i : Nat} (h : i < s.length) (ht : allB p (s.take i) = true) (hp : p ((s.getD i 0).toNat : Int) = true) : allB p (s.take (i + 1)) = true := by
  rw [List.take_succ_eq_append_getElem h]
  rw [List.getD_eq_getElem?_getD, List.getElem?_eq_getElem h] at hp
  simp only [allB, List.all_append, List.all_cons, List.all_nil, Bool.and_true, Bool.and_eq_true] at ht ⊢
  exact ⟨ht, hp⟩
theorem allB_no {p : Int → Bool} {s : List UInt8} {i : Nat} (h : i < s.length) (hp : p ((s.getD i 0).toNat : Int) = false) : allB p s = false := by
  rw [List.getD_eq_getElem?_getD, List.getElem?_eq_getElem h] at hp
  unfold allB
  rw [List.all_eq_false]
  exact ⟨s[i], List.getElem_mem h, by simpa using hp⟩
theorem allB_end {p : Int → Bool} {s : List UInt8} {i : Nat} (h : ¬ i < s.length) (ht : allB p (s.take i) = true) : allB p s = true := by
  rwa [List.take_of_length_le (by omega)] at ht
theorem classB_at (s : List UInt8) : (decide ((s.length : Int) = 1) && capB ((s.getD 0 0).toNat : Int)) = classB s := by
  unfold classB allB
  match s with
  | [] => rfl
  | [x] => simp
  | x :: y :: l =>
    have h : ¬ (((x :: y :: l).length : Int) = 1) := by simp only [List.length_cons]; omega
    rw [decide_eq_false h, Bool.false_and, Bool.false_and]
def dch (d : Nat) : UInt8 := UInt8.ofNat (48 + d)
def tens : List UInt8 := [48, 49, 50, 51, 52, 53, 54, 55, 56, 57]
theorem digit_cut {d : Int} (h0 : 0 ≤ d) (h : d < 10) : (tens.take (d + 1).toNat).drop d.toNat = [dch d.toNat] := by
  have : d = 0 ∨ d = 1 ∨ d = 2 ∨ d = 3 ∨ d = 4 ∨ d = 5 ∨ d = 6 ∨ d = 7 ∨ d = 8 ∨ d = 9 := by omega
  rcases this with rfl | rfl | rfl | rfl | rfl | rfl | rfl | rfl | rfl | rfl <;> rfl
theorem dd_small {n : Int} (h : n < 10) : Lib.decDigits n.toNat = [dch n.toNat] := by rw [Lib.decDigits, dif_pos (by omega)]; rfl
theorem dd_big {n : Int} (h : 10 ≤ n) : Lib.decDigits n.toNat = Lib.decDigits (n / 10).toNat ++ [dch (n % 10).toNat] := by
  rw [Lib.decDigits, dif_neg (by omega), show n.toNat / 10 = (n / 10).toNat by omega, show n.toNat % 10 = (n % 10).toNat by omega]; rfl
theorem dd_len {n : Int} (h : n ≤ 18446744073709551615) : (Lib.decDigits n.toNat).length ≤ 20 := by
  rw [Lib.decDigits_length]; exact Lib.nDigits_le20 _ (by omega)
theorem dec_len {n : Int} (h : inI n) : (dec n).length ≤ 21 := Lib.itoa_length_le n h.1 h.2
/-! The functions. -/
def gByte (p : Int → Bool) : List V → Prop × V
  | [.int .u8 n] => (True, .bool (p n))
  | _ => (False, .any)
noncomputable def tNo : Tab
  | _ => gNo
theorem tNo_ok : ∀ f, PureC Tryd.prog UT f (tNo f) := fun f => by
  unfold tNo
  split
  · exact PureC.no

def fOf (f : Nat) : Option (Int → Bool) :=
  none
def gByteOf (f : Nat) : List V → Prop × V := match fOf f with
  | some p => gByte p
  | none => gNo
theorem byteOf_ok : ∀ f, PureC Tryd.prog UT f (gByteOf f) := fun f => by
  unfold gByteOf fOf
  exact PureC.no
def gEvery : List V → Prop × V
  | [.str s, .fn f []] => match fOf f with
    | some p => (s.length ≤ 140737488355328, .bool (allB p s))
    | none => (False, .any)
  | _ => (False, .any)
/-- A code of capital letters and digits. -/
def gCode : List V → Prop × V
  | [.str s, .int .i64 lo, .int .i64 hi] => (s.length ≤ 140737488355328, .bool (codeB s lo hi))
  | _ => (False, .any)
def gClass : List V → Prop × V
  | [.str s] => (s.length ≤ 140737488355328, .bool (classB s))
  | _ => (False, .any)
end Go.Proofs.YtkdkjbneohdofaaDoor
