/- The code of the functions, region by region, as abstract operations. -/
import Derived.Test.YthfmdkpfaehpnaaProg
import Derived.Test.YthfmdkpfaehpnaaAv21
namespace Go.Proofs.Ythfmdkpfaehpnaa
open Go Go.RowKit
def findR : Code → Nat → Option (Array Oper)
  | .region i ops _, k => if i = k then some ops else none
  | .seq a b, k => (findR a k).or (findR b k)
  | .cond _ a b, k => (findR a k).or (findR b k)
  | .block _ c, k => findR c k
  | .loop c, k => findR c k
  | .scope c, k => findR c k
  | _, _ => none
def ro (f : Func) (k : Nat) : Array Oper := ((f.body.bind fun c => findR c k).getD #[])
noncomputable abbrev TR (f : Func) (n k : Nat) : Option (List AO) := (ro f k).toList.mapM (trO Try.prog n (ro f k))
theorem mixed : Try.prog.follows .mixedOrders = true := by kernel_rfl
/-- airline/airlinelaw53.LedgerChecks -/
noncomputable def c3 : Code := .seq (.region 0 (ro Try.f3 0) false) (.seq (.seq (.region 1 (ro Try.f3 1) false) (.cond (.tmp 7) (.seq (.region 2 (ro Try.f3 2) false) (.ret)) (.skip))) (.seq (.region 3 (ro Try.f3 3) false) (.seq (.seq (.region 4 (ro Try.f3 4) false) (.cond (.tmp 14) (.seq (.region 5 (ro Try.f3 5) false) (.ret)) (.skip))) (.seq (.region 6 (ro Try.f3 6) true) (.ret)))))
theorem body3 : Try.f3.body = some c3 := by kernel_rfl
theorem res3 : Try.f3.results.toList.mapM (trR Try.prog) = some [.t 4] := by kernel_rfl
theorem nt3 : Try.f3.ntmps = 31 := by kernel_rfl
theorem nm3 : (Try.f3.name == "runtime.NumGoroutine") = false := by kernel_rfl
def a3_0 : List AO := [⟨(some 2), none, .box 24 (.t 0)⟩,
  ⟨(some 4), none, .mv (.v (.bool false))⟩]
theorem tr3_0 : TR Try.f3 31 0 = some a3_0 := by kernel_rfl
def a3_1 : List AO := [⟨(some 6), none, .load (some 3) (.t 2)⟩,
  ⟨(some 7), none, .call 8 [(.t 6)]⟩]
theorem tr3_1 : TR Try.f3 31 1 = some a3_1 := by kernel_rfl
def a3_2 : List AO := [⟨(some 8), none, .call 9 []⟩,
  ⟨(some 4), none, .mv (.t 8)⟩]
theorem tr3_2 : TR Try.f3 31 2 = some a3_2 := by kernel_rfl
def a3_3 : List AO := [⟨(some 9), none, .load (some 3) (.t 2)⟩,
  ⟨(some 10), none, .call 10 [(.t 9)]⟩,
  ⟨(some 5), none, .mv (.t 10)⟩]
theorem tr3_3 : TR Try.f3 31 3 = some a3_3 := by kernel_rfl
def a3_4 : List AO := [⟨(some 11), none, .load (some 3) (.t 2)⟩,
  ⟨(some 12), none, .call 11 [(.t 11)]⟩,
  ⟨(some 13), none, .mv (.t 5)⟩,
  ⟨(some 14), none, .bin .neq (.t 12) (.t 13)⟩]
theorem tr3_4 : TR Try.f3 31 4 = some a3_4 := by kernel_rfl
def a3_5 : List AO := [⟨(some 4), none, .mv (.v (.bool false))⟩]
theorem tr3_5 : TR Try.f3 31 5 = some a3_5 := by kernel_rfl
def a3_6 : List AO := [⟨(some 15), none, .mv (.t 5)⟩,
  ⟨(some 16), none, .bin .neq (.t 15) (.v (.int .i64 0))⟩,
  ⟨(some 17), none, .mv (.t 16)⟩,
  ⟨(some 18), some (17, false), .load (some 3) (.t 2)⟩,
  ⟨(some 19), some (17, false), .mv (.t 1)⟩,
  ⟨(some 20), some (17, false), .call 13 [(.t 18), (.t 19)]⟩,
  ⟨(some 21), some (17, false), .slc 24 3 false [(.t 20)]⟩,
  ⟨(some 22), some (17, false), .load (some 3) (.t 2)⟩,
  ⟨(some 23), some (17, false), .mv (.t 1)⟩,
  ⟨(some 24), some (17, false), .call 14 [(.t 22), (.t 23)]⟩,
  ⟨(some 25), some (17, false), .slc 24 3 false [(.t 24)]⟩,
  ⟨(some 26), some (17, false), .call 12 [(.t 21), (.t 25)]⟩,
  ⟨(some 27), none, .pick (.t 17) (.v (.bool true)) (.t 26)⟩,
  ⟨(some 28), none, .mv (.t 27)⟩,
  ⟨(some 29), some (28, true), .call 9 []⟩,
  ⟨(some 30), none, .pick (.t 28) (.t 29) (.v (.bool false))⟩,
  ⟨(some 4), none, .mv (.t 30)⟩]
theorem tr3_6 : TR Try.f3 31 6 = some a3_6 := by kernel_rfl
def d3_6 : List (List Nat) := [[], [0], [0, 1], [0, 1, 2], [0, 1, 2], [0, 1, 2, 3, 4], [0, 1, 2, 3, 4, 5], [0, 1, 2], [0, 1, 2], [0, 1, 2, 3, 4, 5, 7, 8], [0, 1, 2, 3, 4, 5, 7, 8, 9], [0, 1, 2, 3, 4, 5, 6, 7, 8, 9, 10], [0, 1, 2, 3, 4, 5, 6, 7, 8, 9, 10, 11], [0, 1, 2, 3, 4, 5, 6, 7, 8, 9, 10, 11, 12], [0, 1, 2, 3, 4, 5, 6, 7, 8, 9, 10, 11, 12, 13], [0, 1, 2, 3, 4, 5, 6, 7, 8, 9, 10, 11, 12, 13, 14], [0, 1, 2, 3, 4, 5, 6, 7, 8, 9, 10, 11, 12, 13, 14, 15]]
theorem ok3_6 : okReg (ro Try.f3 6) a3_6 d3_6 = true := by kernel_rfl
/-- airline/airlinelaw53.LedgerRuns -/
noncomputable def c4 : Code := .seq (.region 0 (ro Try.f4 0) false) (.seq (.region 1 (ro Try.f4 1) false) (.seq (.seq (.region 2 (ro Try.f4 2) false) (.cond (.tmp 15) (.seq (.region 3 (ro Try.f4 3) false) (.ret)) (.skip))) (.seq (.seq (.region 4 (ro Try.f4 4) false) (.block 0 (.loop (.seq (.seq (.region 5 (ro Try.f4 5) false) (.cond (.tmp 23) (.skip) (.exit 0))) (.seq (.block 1 (.seq (.seq (.region 7 (ro Try.f4 7) false) (.cond (.tmp 39) (.seq (.region 8 (ro Try.f4 8) false) (.ret)) (.skip))) (.seq (.seq (.region 9 (ro Try.f4 9) true) (.cond (.tmp 53) (.seq (.region 10 (ro Try.f4 10) false) (.ret)) (.skip))) (.seq (.region 11 (ro Try.f4 11) false) (.cond (.tmp 59) (.seq (.region 12 (ro Try.f4 12) false) (.ret)) (.skip)))))) (.region 6 (ro Try.f4 6) false)))))) (.seq (.region 13 (ro Try.f4 13) false) (.ret)))))
theorem body4 : Try.f4.body = some c4 := by kernel_rfl
theorem res4 : Try.f4.results.toList.mapM (trR Try.prog) = some [.t 8] := by kernel_rfl
theorem nt4 : Try.f4.ntmps = 81 := by kernel_rfl
theorem nm4 : (Try.f4.name == "runtime.NumGoroutine") = false := by kernel_rfl
def a4_0 : List AO := [⟨(some 8), none, .mv (.v (.bool false))⟩]
theorem tr4_0 : TR Try.f4 81 0 = some a4_0 := by kernel_rfl
def a4_1 : List AO := [⟨(some 12), none, .call 15 []⟩,
  ⟨(some 13), none, .call 16 []⟩,
  ⟨(some 9), none, .mv (.t 12)⟩,
  ⟨(some 10), none, .mv (.t 13)⟩]
theorem tr4_1 : TR Try.f4 81 1 = some a4_1 := by kernel_rfl
def a4_2 : List AO := [⟨(some 14), none, .mv (.t 9)⟩,
  ⟨(some 15), none, .binp false .eql (.t 14) (.v .nilp)⟩]
theorem tr4_2 : TR Try.f4 81 2 = some a4_2 := by kernel_rfl
def a4_3 : List AO := [⟨(some 8), none, .mv (.v (.bool false))⟩]
theorem tr4_3 : TR Try.f4 81 3 = some a4_3 := by kernel_rfl
def a4_4 : List AO := [⟨(some 11), none, .mv (.v (.int .i64 0))⟩]
theorem tr4_4 : TR Try.f4 81 4 = some a4_4 := by kernel_rfl
def a4_5 : List AO := [⟨(some 16), none, .mv (.t 11)⟩,
  ⟨(some 17), none, .mv (.t 0)⟩,
  ⟨(some 18), none, .len (.t 17)⟩,
  ⟨(some 19), none, .bin .lss (.t 16) (.t 18)⟩,
  ⟨(some 20), none, .mv (.t 19)⟩,
  ⟨(some 21), some (20, true), .mv (.t 11)⟩,
  ⟨(some 22), some (20, true), .bin .lss (.t 21) (.v (.int .i64 30))⟩,
  ⟨(some 23), none, .pick (.t 20) (.t 22) (.v (.bool false))⟩]
theorem tr4_5 : TR Try.f4 81 5 = some a4_5 := by kernel_rfl
def a4_7 : List AO := [⟨(some 26), none, .mv (.t 0)⟩,
  ⟨(some 27), none, .mv (.t 11)⟩,
  ⟨(some 28), none, .idx 3 (.t 26) (.t 27)⟩,
  ⟨(some 29), none, .load (some 3) (.t 28)⟩,
  ⟨(some 30), none, .call 8 [(.t 29)]⟩,
  ⟨(some 31), none, .mv (.t 30)⟩,
  ⟨(some 32), some (31, false), .mv (.t 0)⟩,
  ⟨(some 33), some (31, false), .mv (.t 11)⟩,
  ⟨(some 34), some (31, false), .idx 3 (.t 32) (.t 33)⟩,
  ⟨(some 35), some (31, false), .fld 2 (.t 34)⟩,
  ⟨(some 36), some (31, false), .load none (.t 35)⟩,
  ⟨(some 37), some (31, false), .len (.t 36)⟩,
  ⟨(some 38), some (31, false), .bin .gtr (.t 37) (.v (.int .i64 10))⟩,
  ⟨(some 39), none, .pick (.t 31) (.v (.bool true)) (.t 38)⟩]
theorem tr4_7 : TR Try.f4 81 7 = some a4_7 := by kernel_rfl
def a4_8 : List AO := [⟨(some 40), none, .call 9 []⟩,
  ⟨(some 8), none, .mv (.t 40)⟩]
theorem tr4_8 : TR Try.f4 81 8 = some a4_8 := by kernel_rfl
def a4_9 : List AO := [⟨(some 41), none, .mv (.t 9)⟩,
  ⟨(some 42), none, .mv (.t 0)⟩,
  ⟨(some 43), none, .mv (.t 11)⟩,
  ⟨(some 44), none, .idx 3 (.t 42) (.t 43)⟩,
  ⟨(some 45), none, .load (some 3) (.t 44)⟩,
  ⟨(some 46), none, .call 17 [(.t 41), (.t 45)]⟩,
  ⟨(some 47), none, .mv (.t 10)⟩,
  ⟨(some 48), none, .mv (.t 0)⟩,
  ⟨(some 49), none, .mv (.t 11)⟩,
  ⟨(some 50), none, .idx 3 (.t 48) (.t 49)⟩,
  ⟨(some 51), none, .load (some 3) (.t 50)⟩,
  ⟨(some 52), none, .call 18 [(.t 47), (.t 51)]⟩,
  ⟨(some 53), none, .bin .neq (.t 46) (.t 52)⟩]
theorem tr4_9 : TR Try.f4 81 9 = some a4_9 := by kernel_rfl
def d4_9 : List (List Nat) := [[], [], [], [1, 2], [1, 2, 3], [0, 1, 2, 3, 4], [], [], [], [7, 8], [7, 8, 9], [0, 1, 2, 3, 4, 5, 6, 7, 8, 9, 10], [0, 1, 2, 3, 4, 5, 6, 7, 8, 9, 10, 11]]
theorem ok4_9 : okReg (ro Try.f4 9) a4_9 d4_9 = true := by kernel_rfl
def a4_10 : List AO := [⟨(some 8), none, .mv (.v (.bool false))⟩]
theorem tr4_10 : TR Try.f4 81 10 = some a4_10 := by kernel_rfl
def a4_11 : List AO := [⟨(some 54), none, .mv (.t 9)⟩,
  ⟨(some 55), none, .call 20 [(.t 54)]⟩,
  ⟨(some 56), none, .mv (.t 10)⟩,
  ⟨(some 57), none, .call 21 [(.t 56)]⟩,
  ⟨(some 58), none, .call 19 [(.t 55), (.t 57)]⟩,
  ⟨(some 59), none, .un .not (.t 58)⟩]
theorem tr4_11 : TR Try.f4 81 11 = some a4_11 := by kernel_rfl
def a4_12 : List AO := [⟨(some 8), none, .mv (.v (.bool false))⟩]
theorem tr4_12 : TR Try.f4 81 12 = some a4_12 := by kernel_rfl
def a4_6 : List AO := [⟨(some 24), none, .mv (.t 11)⟩,
  ⟨(some 25), none, .bin .add (.t 24) (.v (.int .i64 1))⟩,
  ⟨(some 11), none, .mv (.t 25)⟩]
theorem tr4_6 : TR Try.f4 81 6 = some a4_6 := by kernel_rfl
def a4_13 : List AO := [⟨(some 60), none, .mv (.t 9)⟩,
  ⟨(some 61), none, .mv (.t 1)⟩,
  ⟨(some 62), none, .call 22 [(.t 60), (.t 61)]⟩,
  ⟨(some 63), none, .mv (.t 10)⟩,
  ⟨(some 64), none, .mv (.t 1)⟩,
  ⟨(some 65), none, .call 23 [(.t 63), (.t 64)]⟩,
  ⟨(some 66), none, .bin .eql (.t 62) (.t 65)⟩,
  ⟨(some 67), none, .mv (.t 66)⟩,
  ⟨(some 68), some (67, true), .mv (.t 9)⟩,
  ⟨(some 69), some (67, true), .mv (.t 2)⟩,
  ⟨(some 70), some (67, true), .mv (.t 3)⟩,
  ⟨(some 71), some (67, true), .call 24 [(.t 68), (.t 69), (.t 70)]⟩,
  ⟨(some 72), some (67, true), .mv (.t 10)⟩,
  ⟨(some 73), some (67, true), .mv (.t 2)⟩,
  ⟨(some 74), some (67, true), .mv (.t 3)⟩,
  ⟨(some 75), some (67, true), .call 25 [(.t 72), (.t 73), (.t 74)]⟩,
  ⟨(some 76), some (67, true), .call 12 [(.t 71), (.t 75)]⟩,
  ⟨(some 77), none, .pick (.t 67) (.t 76) (.v (.bool false))⟩,
  ⟨(some 78), none, .mv (.t 77)⟩,
  ⟨(some 79), some (78, true), .call 9 []⟩,
  ⟨(some 80), none, .pick (.t 78) (.t 79) (.v (.bool false))⟩,
  ⟨(some 8), none, .mv (.t 80)⟩]
theorem tr4_13 : TR Try.f4 81 13 = some a4_13 := by kernel_rfl
/-- airline/airlinelaw53.LedgerBooks -/
noncomputable def c5 : Code := .seq (.region 0 (ro Try.f5 0) false) (.seq (.region 1 (ro Try.f5 1) false) (.seq (.seq (.region 2 (ro Try.f5 2) false) (.cond (.tmp 16) (.seq (.region 3 (ro Try.f5 3) false) (.ret)) (.skip))) (.seq (.region 4 (ro Try.f5 4) false) (.seq (.seq (.region 5 (ro Try.f5 5) false) (.block 0 (.loop (.seq (.seq (.region 6 (ro Try.f5 6) false) (.cond (.tmp 24) (.skip) (.exit 0))) (.seq (.block 1 (.seq (.seq (.region 8 (ro Try.f5 8) false) (.cond (.tmp 33) (.seq (.region 9 (ro Try.f5 9) false) (.ret)) (.skip))) (.seq (.region 10 (ro Try.f5 10) false) (.seq (.region 11 (ro Try.f5 11) false) (.cond (.tmp 42) (.region 12 (ro Try.f5 12) false) (.seq (.region 13 (ro Try.f5 13) false) (.cond (.tmp 55) (.seq (.region 14 (ro Try.f5 14) false) (.ret)) (.skip)))))))) (.region 7 (ro Try.f5 7) false)))))) (.seq (.region 15 (ro Try.f5 15) false) (.seq (.region 16 (ro Try.f5 16) false) (.seq (.region 17 (ro Try.f5 17) false) (.seq (.seq (.region 18 (ro Try.f5 18) false) (.block 2 (.loop (.seq (.seq (.region 19 (ro Try.f5 19) false) (.cond (.tmp 63) (.skip) (.exit 2))) (.seq (.block 3 (.seq (.region 21 (ro Try.f5 21) false) (.seq (.seq (.region 22 (ro Try.f5 22) false) (.block 4 (.loop (.seq (.seq (.region 23 (ro Try.f5 23) false) (.cond (.tmp 69) (.skip) (.exit 4))) (.seq (.block 5 (.seq (.region 25 (ro Try.f5 25) false) (.block 6 (.loop (.seq (.seq (.region 26 (ro Try.f5 26) false) (.cond (.tmp 79) (.skip) (.exit 6))) (.seq (.block 7 (.seq (.region 28 (ro Try.f5 28) true) (.cond (.tmp 96) (.region 29 (ro Try.f5 29) false) (.skip)))) (.region 27 (ro Try.f5 27) false))))))) (.region 24 (ro Try.f5 24) false)))))) (.seq (.seq (.region 30 (ro Try.f5 30) true) (.cond (.tmp 143) (.seq (.region 31 (ro Try.f5 31) false) (.ret)) (.skip))) (.region 32 (ro Try.f5 32) false))))) (.region 20 (ro Try.f5 20) false)))))) (.seq (.region 33 (ro Try.f5 33) false) (.ret))))))))))
theorem body5 : Try.f5.body = some c5 := by kernel_rfl
theorem res5 : Try.f5.results.toList.mapM (trR Try.prog) = some [.t 2] := by kernel_rfl
theorem nt5 : Try.f5.ntmps = 158 := by kernel_rfl
theorem nm5 : (Try.f5.name == "runtime.NumGoroutine") = false := by kernel_rfl
def a5_0 : List AO := [⟨(some 2), none, .mv (.v (.bool false))⟩]
theorem tr5_0 : TR Try.f5 158 0 = some a5_0 := by kernel_rfl
def a5_1 : List AO := [⟨(some 14), none, .call 15 []⟩,
  ⟨(some 3), none, .mv (.t 14)⟩]
theorem tr5_1 : TR Try.f5 158 1 = some a5_1 := by kernel_rfl
def a5_2 : List AO := [⟨(some 15), none, .mv (.t 3)⟩,
  ⟨(some 16), none, .binp false .eql (.t 15) (.v .nilp)⟩]
theorem tr5_2 : TR Try.f5 158 2 = some a5_2 := by kernel_rfl
def a5_3 : List AO := [⟨(some 2), none, .mv (.v (.bool false))⟩]
theorem tr5_3 : TR Try.f5 158 3 = some a5_3 := by kernel_rfl
def a5_4 : List AO := [⟨(some 4), none, .mv (.v (.int .i64 0))⟩]
theorem tr5_4 : TR Try.f5 158 4 = some a5_4 := by kernel_rfl
def a5_5 : List AO := [⟨(some 5), none, .mv (.v (.int .i64 0))⟩]
theorem tr5_5 : TR Try.f5 158 5 = some a5_5 := by kernel_rfl
def a5_6 : List AO := [⟨(some 17), none, .mv (.t 5)⟩,
  ⟨(some 18), none, .mv (.t 0)⟩,
  ⟨(some 19), none, .len (.t 18)⟩,
  ⟨(some 20), none, .bin .lss (.t 17) (.t 19)⟩,
  ⟨(some 21), none, .mv (.t 20)⟩,
  ⟨(some 22), some (21, true), .mv (.t 5)⟩,
  ⟨(some 23), some (21, true), .bin .lss (.t 22) (.v (.int .i64 60))⟩,
  ⟨(some 24), none, .pick (.t 21) (.t 23) (.v (.bool false))⟩]
theorem tr5_6 : TR Try.f5 158 6 = some a5_6 := by kernel_rfl
def a5_8 : List AO := [⟨(some 27), none, .mv (.t 0)⟩,
  ⟨(some 28), none, .mv (.t 5)⟩,
  ⟨(some 29), none, .idx 3 (.t 27) (.t 28)⟩,
  ⟨(some 30), none, .fld 2 (.t 29)⟩,
  ⟨(some 31), none, .load none (.t 30)⟩,
  ⟨(some 32), none, .len (.t 31)⟩,
  ⟨(some 33), none, .bin .gtr (.t 32) (.v (.int .i64 10))⟩]
theorem tr5_8 : TR Try.f5 158 8 = some a5_8 := by kernel_rfl
def a5_9 : List AO := [⟨(some 34), none, .call 9 []⟩,
  ⟨(some 2), none, .mv (.t 34)⟩]
theorem tr5_9 : TR Try.f5 158 9 = some a5_9 := by kernel_rfl
def a5_10 : List AO := [⟨(some 35), none, .mv (.t 3)⟩,
  ⟨(some 36), none, .mv (.t 0)⟩,
  ⟨(some 37), none, .mv (.t 5)⟩,
  ⟨(some 38), none, .idx 3 (.t 36) (.t 37)⟩,
  ⟨(some 39), none, .load (some 3) (.t 38)⟩,
  ⟨(some 40), none, .call 17 [(.t 35), (.t 39)]⟩,
  ⟨(some 6), none, .mv (.t 40)⟩]
theorem tr5_10 : TR Try.f5 158 10 = some a5_10 := by kernel_rfl
def a5_11 : List AO := [⟨(some 41), none, .mv (.t 6)⟩,
  ⟨(some 42), none, .bin .eql (.t 41) (.v (.int .i64 0))⟩]
theorem tr5_11 : TR Try.f5 158 11 = some a5_11 := by kernel_rfl
def a5_12 : List AO := [⟨(some 43), none, .mv (.t 4)⟩,
  ⟨(some 44), none, .bin .add (.t 43) (.v (.int .i64 1))⟩,
  ⟨(some 4), none, .mv (.t 44)⟩]
theorem tr5_12 : TR Try.f5 158 12 = some a5_12 := by kernel_rfl
def a5_13 : List AO := [⟨(some 45), none, .mv (.t 6)⟩,
  ⟨(some 46), none, .mv (.t 0)⟩,
  ⟨(some 47), none, .mv (.t 5)⟩,
  ⟨(some 48), none, .idx 3 (.t 46) (.t 47)⟩,
  ⟨(some 49), none, .load (some 3) (.t 48)⟩,
  ⟨(some 50), none, .call 11 [(.t 49)]⟩,
  ⟨(some 51), none, .bin .neq (.t 45) (.t 50)⟩,
  ⟨(some 52), none, .mv (.t 51)⟩,
  ⟨(some 53), some (52, true), .mv (.t 6)⟩,
  ⟨(some 54), some (52, true), .bin .neq (.t 53) (.v (.int .i64 11))⟩,
  ⟨(some 55), none, .pick (.t 52) (.t 54) (.v (.bool false))⟩]
theorem tr5_13 : TR Try.f5 158 13 = some a5_13 := by kernel_rfl
def a5_14 : List AO := [⟨(some 2), none, .mv (.v (.bool false))⟩]
theorem tr5_14 : TR Try.f5 158 14 = some a5_14 := by kernel_rfl
def a5_7 : List AO := [⟨(some 25), none, .mv (.t 5)⟩,
  ⟨(some 26), none, .bin .add (.t 25) (.v (.int .i64 1))⟩,
  ⟨(some 5), none, .mv (.t 26)⟩]
theorem tr5_7 : TR Try.f5 158 7 = some a5_7 := by kernel_rfl
def a5_15 : List AO := [⟨(some 56), none, .mv (.t 3)⟩,
  ⟨(some 57), none, .call 24 [(.t 56), (.v (.int .i64 (-1))), (.v (.int .i64 36525))]⟩,
  ⟨(some 7), none, .mv (.t 57)⟩]
theorem tr5_15 : TR Try.f5 158 15 = some a5_15 := by kernel_rfl
def a5_16 : List AO := [⟨(some 58), none, .mv (.t 3)⟩,
  ⟨(some 59), none, .call 20 [(.t 58)]⟩,
  ⟨(some 8), none, .mv (.t 59)⟩]
theorem tr5_16 : TR Try.f5 158 16 = some a5_16 := by kernel_rfl
def a5_17 : List AO := [⟨(some 9), none, .mv (.v (.int .i64 0))⟩]
theorem tr5_17 : TR Try.f5 158 17 = some a5_17 := by kernel_rfl
def a5_18 : List AO := [⟨(some 10), none, .mv (.v (.int .i64 0))⟩]
theorem tr5_18 : TR Try.f5 158 18 = some a5_18 := by kernel_rfl
def a5_19 : List AO := [⟨(some 60), none, .mv (.t 10)⟩,
  ⟨(some 61), none, .mv (.t 8)⟩,
  ⟨(some 62), none, .len (.t 61)⟩,
  ⟨(some 63), none, .bin .lss (.t 60) (.t 62)⟩]
theorem tr5_19 : TR Try.f5 158 19 = some a5_19 := by kernel_rfl
def a5_21 : List AO := [⟨(some 11), none, .mv (.v (.int .i64 0))⟩]
theorem tr5_21 : TR Try.f5 158 21 = some a5_21 := by kernel_rfl
def a5_22 : List AO := [⟨(some 12), none, .mv (.v (.int .i64 0))⟩]
theorem tr5_22 : TR Try.f5 158 22 = some a5_22 := by kernel_rfl
def a5_23 : List AO := [⟨(some 66), none, .mv (.t 12)⟩,
  ⟨(some 67), none, .mv (.t 7)⟩,
  ⟨(some 68), none, .len (.t 67)⟩,
  ⟨(some 69), none, .bin .lss (.t 66) (.t 68)⟩]
theorem tr5_23 : TR Try.f5 158 23 = some a5_23 := by kernel_rfl
def a5_25 : List AO := [⟨(some 13), none, .mv (.v (.int .i64 0))⟩]
theorem tr5_25 : TR Try.f5 158 25 = some a5_25 := by kernel_rfl
def a5_26 : List AO := [⟨(some 72), none, .mv (.t 13)⟩,
  ⟨(some 73), none, .mv (.t 7)⟩,
  ⟨(some 74), none, .mv (.t 12)⟩,
  ⟨(some 75), none, .idx 3 (.t 73) (.t 74)⟩,
  ⟨(some 76), none, .fld 2 (.t 75)⟩,
  ⟨(some 77), none, .load none (.t 76)⟩,
  ⟨(some 78), none, .len (.t 77)⟩,
  ⟨(some 79), none, .bin .lss (.t 72) (.t 78)⟩]
theorem tr5_26 : TR Try.f5 158 26 = some a5_26 := by kernel_rfl
def a5_28 : List AO := [⟨(some 82), none, .mv (.t 7)⟩,
  ⟨(some 83), none, .mv (.t 12)⟩,
  ⟨(some 84), none, .idx 3 (.t 82) (.t 83)⟩,
  ⟨(some 85), none, .fld 2 (.t 84)⟩,
  ⟨(some 86), none, .load none (.t 85)⟩,
  ⟨(some 87), none, .mv (.t 13)⟩,
  ⟨(some 88), none, .idx 2 (.t 86) (.t 87)⟩,
  ⟨(some 89), none, .fld 0 (.t 88)⟩,
  ⟨(some 90), none, .load none (.t 89)⟩,
  ⟨(some 91), none, .mv (.t 8)⟩,
  ⟨(some 92), none, .mv (.t 10)⟩,
  ⟨(some 93), none, .idx 2 (.t 91) (.t 92)⟩,
  ⟨(some 94), none, .fld 0 (.t 93)⟩,
  ⟨(some 95), none, .load none (.t 94)⟩,
  ⟨(some 96), none, .bin .eql (.t 90) (.t 95)⟩]
theorem tr5_28 : TR Try.f5 158 28 = some a5_28 := by kernel_rfl
def d5_28 : List (List Nat) := [[], [], [0, 1], [0, 1, 2], [0, 1, 2, 3], [], [0, 1, 2, 3, 4, 5], [0, 1, 2, 3, 4, 5, 6], [0, 1, 2, 3, 4, 5, 6, 7], [], [], [9, 10], [9, 10, 11], [9, 10, 11, 12], [0, 1, 2, 3, 4, 5, 6, 7, 8, 9, 10, 11, 12, 13]]
theorem ok5_28 : okReg (ro Try.f5 28) a5_28 d5_28 = true := by kernel_rfl
def a5_29 : List AO := [⟨(some 97), none, .mv (.t 11)⟩,
  ⟨(some 98), none, .mv (.t 7)⟩,
  ⟨(some 99), none, .mv (.t 12)⟩,
  ⟨(some 100), none, .idx 3 (.t 98) (.t 99)⟩,
  ⟨(some 101), none, .fld 2 (.t 100)⟩,
  ⟨(some 102), none, .load none (.t 101)⟩,
  ⟨(some 103), none, .mv (.t 13)⟩,
  ⟨(some 104), none, .idx 2 (.t 102) (.t 103)⟩,
  ⟨(some 105), none, .fld 1 (.t 104)⟩,
  ⟨(some 106), none, .load none (.t 105)⟩,
  ⟨(some 107), none, .bin .add (.t 97) (.t 106)⟩,
  ⟨(some 11), none, .mv (.t 107)⟩]
theorem tr5_29 : TR Try.f5 158 29 = some a5_29 := by kernel_rfl
def a5_27 : List AO := [⟨(some 80), none, .mv (.t 13)⟩,
  ⟨(some 81), none, .bin .add (.t 80) (.v (.int .i64 1))⟩,
  ⟨(some 13), none, .mv (.t 81)⟩]
theorem tr5_27 : TR Try.f5 158 27 = some a5_27 := by kernel_rfl
def a5_24 : List AO := [⟨(some 70), none, .mv (.t 12)⟩,
  ⟨(some 71), none, .bin .add (.t 70) (.v (.int .i64 1))⟩,
  ⟨(some 12), none, .mv (.t 71)⟩]
theorem tr5_24 : TR Try.f5 158 24 = some a5_24 := by kernel_rfl
def a5_30 : List AO := [⟨(some 108), none, .mv (.t 8)⟩,
  ⟨(some 109), none, .mv (.t 10)⟩,
  ⟨(some 110), none, .idx 2 (.t 108) (.t 109)⟩,
  ⟨(some 111), none, .fld 1 (.t 110)⟩,
  ⟨(some 112), none, .load none (.t 111)⟩,
  ⟨(some 113), none, .mv (.t 11)⟩,
  ⟨(some 114), none, .bin .neq (.t 112) (.t 113)⟩,
  ⟨(some 115), none, .mv (.t 114)⟩,
  ⟨(some 116), some (115, false), .mv (.t 3)⟩,
  ⟨(some 117), some (115, false), .mv (.t 8)⟩,
  ⟨(some 118), some (115, false), .mv (.t 10)⟩,
  ⟨(some 119), some (115, false), .idx 2 (.t 117) (.t 118)⟩,
  ⟨(some 120), some (115, false), .fld 0 (.t 119)⟩,
  ⟨(some 121), some (115, false), .load none (.t 120)⟩,
  ⟨(some 122), some (115, false), .call 22 [(.t 116), (.t 121)]⟩,
  ⟨(some 123), some (115, false), .mv (.t 11)⟩,
  ⟨(some 124), some (115, false), .bin .neq (.t 122) (.t 123)⟩,
  ⟨(some 125), none, .pick (.t 115) (.v (.bool true)) (.t 124)⟩,
  ⟨(some 126), none, .mv (.t 125)⟩,
  ⟨(some 127), some (126, false), .mv (.t 10)⟩,
  ⟨(some 128), some (126, false), .bin .gtr (.t 127) (.v (.int .i64 0))⟩,
  ⟨(some 129), some (126, false), .mv (.t 128)⟩,
  ⟨(some 130), some (129, true), .mv (.t 8)⟩,
  ⟨(some 131), some (129, true), .mv (.t 10)⟩,
  ⟨(some 132), some (129, true), .bin .sub (.t 131) (.v (.int .i64 1))⟩,
  ⟨(some 133), some (129, true), .idx 2 (.t 130) (.t 132)⟩,
  ⟨(some 134), some (129, true), .fld 0 (.t 133)⟩,
  ⟨(some 135), some (129, true), .load none (.t 134)⟩,
  ⟨(some 136), some (129, true), .mv (.t 8)⟩,
  ⟨(some 137), some (129, true), .mv (.t 10)⟩,
  ⟨(some 138), some (129, true), .idx 2 (.t 136) (.t 137)⟩,
  ⟨(some 139), some (129, true), .fld 0 (.t 138)⟩,
  ⟨(some 140), some (129, true), .load none (.t 139)⟩,
  ⟨(some 141), some (129, true), .bin .geq (.t 135) (.t 140)⟩,
  ⟨(some 142), some (126, false), .pick (.t 129) (.t 141) (.v (.bool false))⟩,
  ⟨(some 143), none, .pick (.t 126) (.v (.bool true)) (.t 142)⟩]
theorem tr5_30 : TR Try.f5 158 30 = some a5_30 := by kernel_rfl
def d5_30 : List (List Nat) := [[], [], [0, 1], [0, 1, 2], [0, 1, 2, 3], [], [0, 1, 2, 3, 4, 5], [0, 1, 2, 3, 4, 5, 6], [0, 1, 2, 3, 4, 5, 6, 7], [0, 1, 2, 3, 4, 5, 6, 7], [0, 1, 2, 3, 4, 5, 6, 7], [0, 1, 2, 3, 4, 5, 6, 7, 9, 10], [0, 1, 2, 3, 4, 5, 6, 7, 9, 10, 11], [0, 1, 2, 3, 4, 5, 6, 7, 9, 10, 11, 12], [0, 1, 2, 3, 4, 5, 6, 7, 8, 9, 10, 11, 12, 13], [0, 1, 2, 3, 4, 5, 6, 7], [0, 1, 2, 3, 4, 5, 6, 7, 8, 9, 10, 11, 12, 13, 14, 15], [0, 1, 2, 3, 4, 5, 6, 7, 8, 9, 10, 11, 12, 13, 14, 15, 16], [0, 1, 2, 3, 4, 5, 6, 7, 8, 9, 10, 11, 12, 13, 14, 15, 16, 17], [0, 1, 2, 3, 4, 5, 6, 7, 8, 9, 10, 11, 12, 13, 14, 15, 16, 17, 18], [0, 1, 2, 3, 4, 5, 6, 7, 8, 9, 10, 11, 12, 13, 14, 15, 16, 17, 18, 19], [0, 1, 2, 3, 4, 5, 6, 7, 8, 9, 10, 11, 12, 13, 14, 15, 16, 17, 18, 19, 20], [0, 1, 2, 3, 4, 5, 6, 7, 8, 9, 10, 11, 12, 13, 14, 15, 16, 17, 18, 19, 20, 21], [0, 1, 2, 3, 4, 5, 6, 7, 8, 9, 10, 11, 12, 13, 14, 15, 16, 17, 18, 19, 20, 21], [0, 1, 2, 3, 4, 5, 6, 7, 8, 9, 10, 11, 12, 13, 14, 15, 16, 17, 18, 19, 20, 21, 23], [0, 1, 2, 3, 4, 5, 6, 7, 8, 9, 10, 11, 12, 13, 14, 15, 16, 17, 18, 19, 20, 21, 22, 23, 24], [0, 1, 2, 3, 4, 5, 6, 7, 8, 9, 10, 11, 12, 13, 14, 15, 16, 17, 18, 19, 20, 21, 22, 23, 24, 25], [0, 1, 2, 3, 4, 5, 6, 7, 8, 9, 10, 11, 12, 13, 14, 15, 16, 17, 18, 19, 20, 21, 22, 23, 24, 25, 26], [0, 1, 2, 3, 4, 5, 6, 7, 8, 9, 10, 11, 12, 13, 14, 15, 16, 17, 18, 19, 20, 21], [0, 1, 2, 3, 4, 5, 6, 7, 8, 9, 10, 11, 12, 13, 14, 15, 16, 17, 18, 19, 20, 21], [0, 1, 2, 3, 4, 5, 6, 7, 8, 9, 10, 11, 12, 13, 14, 15, 16, 17, 18, 19, 20, 21, 28, 29], [0, 1, 2, 3, 4, 5, 6, 7, 8, 9, 10, 11, 12, 13, 14, 15, 16, 17, 18, 19, 20, 21, 28, 29, 30], [0, 1, 2, 3, 4, 5, 6, 7, 8, 9, 10, 11, 12, 13, 14, 15, 16, 17, 18, 19, 20, 21, 28, 29, 30, 31], [0, 1, 2, 3, 4, 5, 6, 7, 8, 9, 10, 11, 12, 13, 14, 15, 16, 17, 18, 19, 20, 21, 22, 23, 24, 25, 26, 27, 28, 29, 30, 31, 32], [0, 1, 2, 3, 4, 5, 6, 7, 8, 9, 10, 11, 12, 13, 14, 15, 16, 17, 18, 19, 20, 21, 22, 23, 24, 25, 26, 27, 28, 29, 30, 31, 32, 33], [0, 1, 2, 3, 4, 5, 6, 7, 8, 9, 10, 11, 12, 13, 14, 15, 16, 17, 18, 19, 20, 21, 22, 23, 24, 25, 26, 27, 28, 29, 30, 31, 32, 33, 34]]
theorem ok5_30 : okReg (ro Try.f5 30) a5_30 d5_30 = true := by kernel_rfl
def a5_31 : List AO := [⟨(some 2), none, .mv (.v (.bool false))⟩]
theorem tr5_31 : TR Try.f5 158 31 = some a5_31 := by kernel_rfl
def a5_32 : List AO := [⟨(some 144), none, .mv (.t 9)⟩,
  ⟨(some 145), none, .mv (.t 11)⟩,
  ⟨(some 146), none, .bin .add (.t 144) (.t 145)⟩,
  ⟨(some 9), none, .mv (.t 146)⟩]
theorem tr5_32 : TR Try.f5 158 32 = some a5_32 := by kernel_rfl
def a5_20 : List AO := [⟨(some 64), none, .mv (.t 10)⟩,
  ⟨(some 65), none, .bin .add (.t 64) (.v (.int .i64 1))⟩,
  ⟨(some 10), none, .mv (.t 65)⟩]
theorem tr5_20 : TR Try.f5 158 20 = some a5_20 := by kernel_rfl
def a5_33 : List AO := [⟨(some 147), none, .mv (.t 9)⟩,
  ⟨(some 148), none, .bin .eql (.t 147) (.v (.int .i64 0))⟩,
  ⟨(some 149), none, .mv (.t 148)⟩,
  ⟨(some 150), some (149, true), .mv (.t 7)⟩,
  ⟨(some 151), some (149, true), .len (.t 150)⟩,
  ⟨(some 152), some (149, true), .mv (.t 4)⟩,
  ⟨(some 153), some (149, true), .bin .eql (.t 151) (.t 152)⟩,
  ⟨(some 154), none, .pick (.t 149) (.t 153) (.v (.bool false))⟩,
  ⟨(some 155), none, .mv (.t 154)⟩,
  ⟨(some 156), some (155, true), .call 9 []⟩,
  ⟨(some 157), none, .pick (.t 155) (.t 156) (.v (.bool false))⟩,
  ⟨(some 2), none, .mv (.t 157)⟩]
theorem tr5_33 : TR Try.f5 158 33 = some a5_33 := by kernel_rfl
/-- airline/airlinelaw53.LedgerReverse -/
noncomputable def c6 : Code := .seq (.region 0 (ro Try.f6 0) false) (.seq (.region 1 (ro Try.f6 1) false) (.seq (.seq (.region 2 (ro Try.f6 2) false) (.cond (.tmp 21) (.seq (.region 3 (ro Try.f6 3) false) (.ret)) (.skip))) (.seq (.seq (.region 4 (ro Try.f6 4) false) (.block 0 (.loop (.seq (.seq (.region 5 (ro Try.f6 5) false) (.cond (.tmp 34) (.skip) (.exit 0))) (.seq (.block 1 (.seq (.seq (.region 7 (ro Try.f6 7) false) (.cond (.tmp 43) (.seq (.region 8 (ro Try.f6 8) false) (.ret)) (.skip))) (.region 9 (ro Try.f6 9) false))) (.region 6 (ro Try.f6 6) false)))))) (.seq (.seq (.region 10 (ro Try.f6 10) false) (.cond (.tmp 61) (.seq (.region 11 (ro Try.f6 11) false) (.ret)) (.skip))) (.seq (.region 12 (ro Try.f6 12) false) (.seq (.seq (.region 13 (ro Try.f6 13) true) (.cond (.tmp 79) (.seq (.region 14 (ro Try.f6 14) false) (.ret)) (.skip))) (.seq (.region 15 (ro Try.f6 15) false) (.seq (.seq (.region 16 (ro Try.f6 16) false) (.block 2 (.loop (.seq (.seq (.region 17 (ro Try.f6 17) false) (.cond (.tmp 84) (.skip) (.exit 2))) (.seq (.block 3 (.region 19 (ro Try.f6 19) false)) (.region 18 (ro Try.f6 18) false)))))) (.seq (.seq (.region 20 (ro Try.f6 20) false) (.cond (.tmp 101) (.seq (.region 21 (ro Try.f6 21) false) (.ret)) (.skip))) (.seq (.seq (.region 22 (ro Try.f6 22) false) (.cond (.tmp 106) (.seq (.region 23 (ro Try.f6 23) false) (.ret)) (.skip))) (.seq (.seq (.region 24 (ro Try.f6 24) false) (.block 4 (.loop (.seq (.seq (.region 25 (ro Try.f6 25) false) (.cond (.tmp 111) (.skip) (.exit 4))) (.seq (.block 5 (.seq (.region 27 (ro Try.f6 27) true) (.cond (.tmp 126) (.seq (.region 28 (ro Try.f6 28) false) (.ret)) (.skip)))) (.region 26 (ro Try.f6 26) false)))))) (.seq (.region 29 (ro Try.f6 29) false) (.ret)))))))))))))
theorem body6 : Try.f6.body = some c6 := by kernel_rfl
theorem res6 : Try.f6.results.toList.mapM (trR Try.prog) = some [.t 6] := by kernel_rfl
theorem nt6 : Try.f6.ntmps = 128 := by kernel_rfl
theorem nm6 : (Try.f6.name == "runtime.NumGoroutine") = false := by kernel_rfl
def a6_0 : List AO := [⟨(some 4), none, .box 24 (.t 1)⟩,
  ⟨(some 6), none, .mv (.v (.bool false))⟩]
theorem tr6_0 : TR Try.f6 128 0 = some a6_0 := by kernel_rfl
def a6_1 : List AO := [⟨(some 13), none, .call 15 []⟩,
  ⟨(some 7), none, .mv (.t 13)⟩]
theorem tr6_1 : TR Try.f6 128 1 = some a6_1 := by kernel_rfl
def a6_2 : List AO := [⟨(some 14), none, .mv (.t 7)⟩,
  ⟨(some 15), none, .binp false .eql (.t 14) (.v .nilp)⟩,
  ⟨(some 16), none, .mv (.t 15)⟩,
  ⟨(some 17), some (16, false), .fld 2 (.t 4)⟩,
  ⟨(some 18), some (16, false), .load none (.t 17)⟩,
  ⟨(some 19), some (16, false), .len (.t 18)⟩,
  ⟨(some 20), some (16, false), .bin .gtr (.t 19) (.v (.int .i64 10))⟩,
  ⟨(some 21), none, .pick (.t 16) (.v (.bool true)) (.t 20)⟩]
theorem tr6_2 : TR Try.f6 128 2 = some a6_2 := by kernel_rfl
def a6_3 : List AO := [⟨(some 22), none, .mv (.t 7)⟩,
  ⟨(some 23), none, .binp false .neq (.t 22) (.v .nilp)⟩,
  ⟨(some 24), none, .mv (.t 23)⟩,
  ⟨(some 25), some (24, true), .call 9 []⟩,
  ⟨(some 26), none, .pick (.t 24) (.t 25) (.v (.bool false))⟩,
  ⟨(some 6), none, .mv (.t 26)⟩]
theorem tr6_3 : TR Try.f6 128 3 = some a6_3 := by kernel_rfl
def a6_4 : List AO := [⟨(some 8), none, .mv (.v (.int .i64 0))⟩]
theorem tr6_4 : TR Try.f6 128 4 = some a6_4 := by kernel_rfl
def a6_5 : List AO := [⟨(some 27), none, .mv (.t 8)⟩,
  ⟨(some 28), none, .mv (.t 0)⟩,
  ⟨(some 29), none, .len (.t 28)⟩,
  ⟨(some 30), none, .bin .lss (.t 27) (.t 29)⟩,
  ⟨(some 31), none, .mv (.t 30)⟩,
  ⟨(some 32), some (31, true), .mv (.t 8)⟩,
  ⟨(some 33), some (31, true), .bin .lss (.t 32) (.v (.int .i64 20))⟩,
  ⟨(some 34), none, .pick (.t 31) (.t 33) (.v (.bool false))⟩]
theorem tr6_5 : TR Try.f6 128 5 = some a6_5 := by kernel_rfl
def a6_7 : List AO := [⟨(some 37), none, .mv (.t 0)⟩,
  ⟨(some 38), none, .mv (.t 8)⟩,
  ⟨(some 39), none, .idx 3 (.t 37) (.t 38)⟩,
  ⟨(some 40), none, .fld 2 (.t 39)⟩,
  ⟨(some 41), none, .load none (.t 40)⟩,
  ⟨(some 42), none, .len (.t 41)⟩,
  ⟨(some 43), none, .bin .gtr (.t 42) (.v (.int .i64 10))⟩]
theorem tr6_7 : TR Try.f6 128 7 = some a6_7 := by kernel_rfl
def a6_8 : List AO := [⟨(some 44), none, .call 9 []⟩,
  ⟨(some 6), none, .mv (.t 44)⟩]
theorem tr6_8 : TR Try.f6 128 8 = some a6_8 := by kernel_rfl
def a6_9 : List AO := [⟨(some 45), none, .mv (.t 7)⟩,
  ⟨(some 46), none, .mv (.t 0)⟩,
  ⟨(some 47), none, .mv (.t 8)⟩,
  ⟨(some 48), none, .idx 3 (.t 46) (.t 47)⟩,
  ⟨(some 49), none, .load (some 3) (.t 48)⟩,
  ⟨(some 50), none, .call 17 [(.t 45), (.t 49)]⟩]
theorem tr6_9 : TR Try.f6 128 9 = some a6_9 := by kernel_rfl
def a6_6 : List AO := [⟨(some 35), none, .mv (.t 8)⟩,
  ⟨(some 36), none, .bin .add (.t 35) (.v (.int .i64 1))⟩,
  ⟨(some 8), none, .mv (.t 36)⟩]
theorem tr6_6 : TR Try.f6 128 6 = some a6_6 := by kernel_rfl
def a6_10 : List AO := [⟨(some 51), none, .load (some 3) (.t 4)⟩,
  ⟨(some 52), none, .call 11 [(.t 51)]⟩,
  ⟨(some 53), none, .bin .neq (.t 52) (.v (.int .i64 0))⟩,
  ⟨(some 54), none, .mv (.t 53)⟩,
  ⟨(some 55), some (54, false), .mv (.t 2)⟩,
  ⟨(some 56), some (54, false), .bin .lss (.t 55) (.v (.int .i64 0))⟩,
  ⟨(some 57), none, .pick (.t 54) (.v (.bool true)) (.t 56)⟩,
  ⟨(some 58), none, .mv (.t 57)⟩,
  ⟨(some 59), some (58, false), .mv (.t 2)⟩,
  ⟨(some 60), some (58, false), .bin .geq (.t 59) (.v (.int .i64 36525))⟩,
  ⟨(some 61), none, .pick (.t 58) (.v (.bool true)) (.t 60)⟩]
theorem tr6_10 : TR Try.f6 128 10 = some a6_10 := by kernel_rfl
def a6_11 : List AO := [⟨(some 62), none, .call 9 []⟩,
  ⟨(some 6), none, .mv (.t 62)⟩]
theorem tr6_11 : TR Try.f6 128 11 = some a6_11 := by kernel_rfl
def a6_12 : List AO := [⟨(some 63), none, .load (some 3) (.t 4)⟩,
  ⟨(some 64), none, .mv (.t 2)⟩,
  ⟨(some 65), none, .call 13 [(.t 63), (.t 64)]⟩,
  ⟨(some 9), none, .alloc 24 [(.int .i64 0), (.str []), .nils]⟩,
  ⟨none, none, .store 3 (.t 9) (.t 65)⟩]
theorem tr6_12 : TR Try.f6 128 12 = some a6_12 := by kernel_rfl
def a6_13 : List AO := [⟨(some 66), none, .load (some 3) (.t 9)⟩,
  ⟨(some 67), none, .call 11 [(.t 66)]⟩,
  ⟨(some 68), none, .bin .neq (.t 67) (.v (.int .i64 0))⟩,
  ⟨(some 69), none, .mv (.t 68)⟩,
  ⟨(some 70), some (69, false), .load (some 3) (.t 9)⟩,
  ⟨(some 71), some (69, false), .fld 0 (.t 4)⟩,
  ⟨(some 72), some (69, false), .load none (.t 71)⟩,
  ⟨(some 73), some (69, false), .call 13 [(.t 70), (.t 72)]⟩,
  ⟨(some 74), some (69, false), .slc 24 3 false [(.t 73)]⟩,
  ⟨(some 75), some (69, false), .load (some 3) (.t 4)⟩,
  ⟨(some 76), some (69, false), .slc 24 3 false [(.t 75)]⟩,
  ⟨(some 77), some (69, false), .call 12 [(.t 74), (.t 76)]⟩,
  ⟨(some 78), some (69, false), .un .not (.t 77)⟩,
  ⟨(some 79), none, .pick (.t 69) (.v (.bool true)) (.t 78)⟩]
theorem tr6_13 : TR Try.f6 128 13 = some a6_13 := by kernel_rfl
def d6_13 : List (List Nat) := [[], [0], [0, 1], [0, 1, 2], [0, 1, 2, 3], [0, 1, 2, 3], [0, 1, 2, 3, 5], [0, 1, 2, 3, 4, 5, 6], [0, 1, 2, 3, 4, 5, 6, 7], [0, 1, 2, 3], [0, 1, 2, 3, 9], [0, 1, 2, 3, 4, 5, 6, 7, 8, 9, 10], [0, 1, 2, 3, 4, 5, 6, 7, 8, 9, 10, 11], [0, 1, 2, 3, 4, 5, 6, 7, 8, 9, 10, 11, 12]]
theorem ok6_13 : okReg (ro Try.f6 13) a6_13 d6_13 = true := by kernel_rfl
def a6_14 : List AO := [⟨(some 6), none, .mv (.v (.bool false))⟩]
theorem tr6_14 : TR Try.f6 128 14 = some a6_14 := by kernel_rfl
def a6_15 : List AO := [⟨(some 10), none, .mv (.v .nils)⟩]
theorem tr6_15 : TR Try.f6 128 15 = some a6_15 := by kernel_rfl
def a6_16 : List AO := [⟨(some 11), none, .mv (.v (.int .i64 0))⟩]
theorem tr6_16 : TR Try.f6 128 16 = some a6_16 := by kernel_rfl
def a6_17 : List AO := [⟨(some 80), none, .mv (.t 11)⟩,
  ⟨(some 81), none, .fld 2 (.t 4)⟩,
  ⟨(some 82), none, .load none (.t 81)⟩,
  ⟨(some 83), none, .len (.t 82)⟩,
  ⟨(some 84), none, .bin .lss (.t 80) (.t 83)⟩]
theorem tr6_17 : TR Try.f6 128 17 = some a6_17 := by kernel_rfl
def a6_19 : List AO := [⟨(some 87), none, .mv (.t 10)⟩,
  ⟨(some 88), none, .mv (.t 7)⟩,
  ⟨(some 89), none, .fld 2 (.t 4)⟩,
  ⟨(some 90), none, .load none (.t 89)⟩,
  ⟨(some 91), none, .mv (.t 11)⟩,
  ⟨(some 92), none, .idx 2 (.t 90) (.t 91)⟩,
  ⟨(some 93), none, .fld 0 (.t 92)⟩,
  ⟨(some 94), none, .load none (.t 93)⟩,
  ⟨(some 95), none, .call 22 [(.t 88), (.t 94)]⟩,
  ⟨(some 96), none, .slc 3 1 false [(.t 95)]⟩,
  ⟨(some 97), none, .app 3 1 8 (.t 87) (.t 96)⟩,
  ⟨(some 10), none, .mv (.t 97)⟩]
theorem tr6_19 : TR Try.f6 128 19 = some a6_19 := by kernel_rfl
def a6_18 : List AO := [⟨(some 85), none, .mv (.t 11)⟩,
  ⟨(some 86), none, .bin .add (.t 85) (.v (.int .i64 1))⟩,
  ⟨(some 11), none, .mv (.t 86)⟩]
theorem tr6_18 : TR Try.f6 128 18 = some a6_18 := by kernel_rfl
def a6_20 : List AO := [⟨(some 98), none, .mv (.t 7)⟩,
  ⟨(some 99), none, .load (some 3) (.t 4)⟩,
  ⟨(some 100), none, .call 17 [(.t 98), (.t 99)]⟩,
  ⟨(some 101), none, .bin .neq (.t 100) (.v (.int .i64 0))⟩]
theorem tr6_20 : TR Try.f6 128 20 = some a6_20 := by kernel_rfl
def a6_21 : List AO := [⟨(some 102), none, .call 9 []⟩,
  ⟨(some 6), none, .mv (.t 102)⟩]
theorem tr6_21 : TR Try.f6 128 21 = some a6_21 := by kernel_rfl
def a6_22 : List AO := [⟨(some 103), none, .mv (.t 7)⟩,
  ⟨(some 104), none, .load (some 3) (.t 9)⟩,
  ⟨(some 105), none, .call 17 [(.t 103), (.t 104)]⟩,
  ⟨(some 106), none, .bin .neq (.t 105) (.v (.int .i64 0))⟩]
theorem tr6_22 : TR Try.f6 128 22 = some a6_22 := by kernel_rfl
def a6_23 : List AO := [⟨(some 6), none, .mv (.v (.bool false))⟩]
theorem tr6_23 : TR Try.f6 128 23 = some a6_23 := by kernel_rfl
def a6_24 : List AO := [⟨(some 12), none, .mv (.v (.int .i64 0))⟩]
theorem tr6_24 : TR Try.f6 128 24 = some a6_24 := by kernel_rfl
def a6_25 : List AO := [⟨(some 107), none, .mv (.t 12)⟩,
  ⟨(some 108), none, .fld 2 (.t 4)⟩,
  ⟨(some 109), none, .load none (.t 108)⟩,
  ⟨(some 110), none, .len (.t 109)⟩,
  ⟨(some 111), none, .bin .lss (.t 107) (.t 110)⟩]
theorem tr6_25 : TR Try.f6 128 25 = some a6_25 := by kernel_rfl
def a6_27 : List AO := [⟨(some 114), none, .mv (.t 7)⟩,
  ⟨(some 115), none, .fld 2 (.t 4)⟩,
  ⟨(some 116), none, .load none (.t 115)⟩,
  ⟨(some 117), none, .mv (.t 12)⟩,
  ⟨(some 118), none, .idx 2 (.t 116) (.t 117)⟩,
  ⟨(some 119), none, .fld 0 (.t 118)⟩,
  ⟨(some 120), none, .load none (.t 119)⟩,
  ⟨(some 121), none, .call 22 [(.t 114), (.t 120)]⟩,
  ⟨(some 122), none, .mv (.t 10)⟩,
  ⟨(some 123), none, .mv (.t 12)⟩,
  ⟨(some 124), none, .idx 1 (.t 122) (.t 123)⟩,
  ⟨(some 125), none, .load none (.t 124)⟩,
  ⟨(some 126), none, .bin .neq (.t 121) (.t 125)⟩]
theorem tr6_27 : TR Try.f6 128 27 = some a6_27 := by kernel_rfl
def d6_27 : List (List Nat) := [[], [], [1], [], [1, 2, 3], [1, 2, 3, 4], [1, 2, 3, 4, 5], [0, 1, 2, 3, 4, 5, 6], [], [], [8, 9], [8, 9, 10], [0, 1, 2, 3, 4, 5, 6, 7, 8, 9, 10, 11]]
theorem ok6_27 : okReg (ro Try.f6 27) a6_27 d6_27 = true := by kernel_rfl
def a6_28 : List AO := [⟨(some 6), none, .mv (.v (.bool false))⟩]
theorem tr6_28 : TR Try.f6 128 28 = some a6_28 := by kernel_rfl
def a6_26 : List AO := [⟨(some 112), none, .mv (.t 12)⟩,
  ⟨(some 113), none, .bin .add (.t 112) (.v (.int .i64 1))⟩,
  ⟨(some 12), none, .mv (.t 113)⟩]
theorem tr6_26 : TR Try.f6 128 26 = some a6_26 := by kernel_rfl
def a6_29 : List AO := [⟨(some 127), none, .call 9 []⟩,
  ⟨(some 6), none, .mv (.t 127)⟩]
theorem tr6_29 : TR Try.f6 128 29 = some a6_29 := by kernel_rfl
/-- airline/airlinelaw53.LedgerNil -/
noncomputable def c7 : Code := .seq (.region 0 (ro Try.f7 0) false) (.seq (.region 1 (ro Try.f7 1) false) (.seq (.seq (.region 2 (ro Try.f7 2) false) (.block 0 (.loop (.seq (.region 3 (ro Try.f7 3) false) (.seq (.cond (.tmp 13) (.skip) (.exit 0)) (.seq (.block 1 (.seq (.region 4 (ro Try.f7 4) false) (.seq (.region 5 (ro Try.f7 5) false) (.cond (.tmp 37) (.seq (.region 6 (ro Try.f7 6) false) (.ret)) (.skip))))) (.region 7 (ro Try.f7 7) false))))))) (.seq (.region 8 (ro Try.f7 8) false) (.ret))))
theorem body7 : Try.f7.body = some c7 := by kernel_rfl
theorem res7 : Try.f7.results.toList.mapM (trR Try.prog) = some [.t 4] := by kernel_rfl
theorem nt7 : Try.f7.ntmps = 40 := by kernel_rfl
theorem nm7 : (Try.f7.name == "runtime.NumGoroutine") = false := by kernel_rfl
def a7_0 : List AO := [⟨(some 2), none, .box 24 (.t 0)⟩,
  ⟨(some 4), none, .mv (.v (.bool false))⟩]
theorem tr7_0 : TR Try.f7 40 0 = some a7_0 := by kernel_rfl
def a7_1 : List AO := [⟨(some 5), none, .mv (.v .nilp)⟩]
theorem tr7_1 : TR Try.f7 40 1 = some a7_1 := by kernel_rfl
def a7_2 : List AO := [⟨(some 8), none, .mv (.t 5)⟩,
  ⟨(some 9), none, .alloc 49 [.nils, .nilm]⟩,
  ⟨(some 10), none, .slc 33 1 false [(.t 8), (.t 9)]⟩,
  ⟨(some 11), none, .len (.t 10)⟩,
  ⟨(some 12), none, .mv (.v (.int .i64 0))⟩]
theorem tr7_2 : TR Try.f7 40 2 = some a7_2 := by kernel_rfl
def a7_3 : List AO := [⟨(some 13), none, .bin .lss (.t 12) (.t 11)⟩]
theorem tr7_3 : TR Try.f7 40 3 = some a7_3 := by kernel_rfl
def a7_4 : List AO := [⟨(some 14), none, .idx 1 (.t 10) (.t 12)⟩,
  ⟨(some 15), none, .load none (.t 14)⟩,
  ⟨(some 7), none, .mv (.t 15)⟩]
theorem tr7_4 : TR Try.f7 40 4 = some a7_4 := by kernel_rfl
def a7_5 : List AO := [⟨(some 16), none, .mv (.t 7)⟩,
  ⟨(some 17), none, .load (some 3) (.t 2)⟩,
  ⟨(some 18), none, .call 17 [(.t 16), (.t 17)]⟩,
  ⟨(some 19), none, .bin .neq (.t 18) (.v (.int .i64 1))⟩,
  ⟨(some 20), none, .mv (.t 19)⟩,
  ⟨(some 21), some (20, false), .mv (.t 7)⟩,
  ⟨(some 22), some (20, false), .mv (.t 1)⟩,
  ⟨(some 23), some (20, false), .call 22 [(.t 21), (.t 22)]⟩,
  ⟨(some 24), some (20, false), .bin .neq (.t 23) (.v (.int .i64 0))⟩,
  ⟨(some 25), none, .pick (.t 20) (.v (.bool true)) (.t 24)⟩,
  ⟨(some 26), none, .mv (.t 25)⟩,
  ⟨(some 27), some (26, false), .mv (.t 7)⟩,
  ⟨(some 28), some (26, false), .call 20 [(.t 27)]⟩,
  ⟨(some 29), some (26, false), .len (.t 28)⟩,
  ⟨(some 30), some (26, false), .bin .gtr (.t 29) (.v (.int .i64 0))⟩,
  ⟨(some 31), none, .pick (.t 26) (.v (.bool true)) (.t 30)⟩,
  ⟨(some 32), none, .mv (.t 31)⟩,
  ⟨(some 33), some (32, false), .mv (.t 7)⟩,
  ⟨(some 34), some (32, false), .call 24 [(.t 33), (.v (.int .i64 0)), (.v (.int .i64 36525))]⟩,
  ⟨(some 35), some (32, false), .len (.t 34)⟩,
  ⟨(some 36), some (32, false), .bin .gtr (.t 35) (.v (.int .i64 0))⟩,
  ⟨(some 37), none, .pick (.t 32) (.v (.bool true)) (.t 36)⟩]
theorem tr7_5 : TR Try.f7 40 5 = some a7_5 := by kernel_rfl
def a7_6 : List AO := [⟨(some 4), none, .mv (.v (.bool false))⟩]
theorem tr7_6 : TR Try.f7 40 6 = some a7_6 := by kernel_rfl
def a7_7 : List AO := [⟨(some 38), none, .bin .add (.t 12) (.v (.int .i64 1))⟩,
  ⟨(some 12), none, .mv (.t 38)⟩]
theorem tr7_7 : TR Try.f7 40 7 = some a7_7 := by kernel_rfl
def a7_8 : List AO := [⟨(some 39), none, .call 9 []⟩,
  ⟨(some 4), none, .mv (.t 39)⟩]
theorem tr7_8 : TR Try.f7 40 8 = some a7_8 := by kernel_rfl
/-- airline/airlineref53.Large -/
noncomputable def c8 : Code := .seq (.region 0 (ro Try.f8 0) false) (.seq (.region 1 (ro Try.f8 1) false) (.seq (.seq (.region 2 (ro Try.f8 2) false) (.block 0 (.loop (.seq (.seq (.region 3 (ro Try.f8 3) false) (.cond (.tmp 16) (.skip) (.exit 0))) (.seq (.block 1 (.region 5 (ro Try.f8 5) false)) (.region 4 (ro Try.f8 4) false)))))) (.seq (.region 6 (ro Try.f8 6) false) (.ret))))
theorem body8 : Try.f8.body = some c8 := by kernel_rfl
theorem res8 : Try.f8.results.toList.mapM (trR Try.prog) = some [.t 2] := by kernel_rfl
theorem nt8 : Try.f8.ntmps = 36 := by kernel_rfl
theorem nm8 : (Try.f8.name == "runtime.NumGoroutine") = false := by kernel_rfl
def a8_0 : List AO := [⟨(some 1), none, .box 24 (.t 0)⟩,
  ⟨(some 2), none, .mv (.v (.bool false))⟩]
theorem tr8_0 : TR Try.f8 36 0 = some a8_0 := by kernel_rfl
def a8_1 : List AO := [⟨(some 5), none, .fld 2 (.t 1)⟩,
  ⟨(some 6), none, .load none (.t 5)⟩,
  ⟨(some 7), none, .len (.t 6)⟩,
  ⟨(some 3), none, .mv (.t 7)⟩]
theorem tr8_1 : TR Try.f8 36 1 = some a8_1 := by kernel_rfl
def a8_2 : List AO := [⟨(some 4), none, .mv (.v (.int .i64 0))⟩]
theorem tr8_2 : TR Try.f8 36 2 = some a8_2 := by kernel_rfl
def a8_3 : List AO := [⟨(some 8), none, .mv (.t 4)⟩,
  ⟨(some 9), none, .fld 2 (.t 1)⟩,
  ⟨(some 10), none, .load none (.t 9)⟩,
  ⟨(some 11), none, .len (.t 10)⟩,
  ⟨(some 12), none, .bin .lss (.t 8) (.t 11)⟩,
  ⟨(some 13), none, .mv (.t 12)⟩,
  ⟨(some 14), some (13, true), .mv (.t 4)⟩,
  ⟨(some 15), some (13, true), .bin .lss (.t 14) (.v (.int .i64 100))⟩,
  ⟨(some 16), none, .pick (.t 13) (.t 15) (.v (.bool false))⟩]
theorem tr8_3 : TR Try.f8 36 3 = some a8_3 := by kernel_rfl
def a8_5 : List AO := [⟨(some 19), none, .mv (.t 3)⟩,
  ⟨(some 20), none, .fld 2 (.t 1)⟩,
  ⟨(some 21), none, .load none (.t 20)⟩,
  ⟨(some 22), none, .mv (.t 4)⟩,
  ⟨(some 23), none, .idx 2 (.t 21) (.t 22)⟩,
  ⟨(some 24), none, .fld 0 (.t 23)⟩,
  ⟨(some 25), none, .load none (.t 24)⟩,
  ⟨(some 26), none, .slen (.t 25)⟩,
  ⟨(some 27), none, .bin .add (.t 19) (.t 26)⟩,
  ⟨(some 3), none, .mv (.t 27)⟩]
theorem tr8_5 : TR Try.f8 36 5 = some a8_5 := by kernel_rfl
def a8_4 : List AO := [⟨(some 17), none, .mv (.t 4)⟩,
  ⟨(some 18), none, .bin .add (.t 17) (.v (.int .i64 1))⟩,
  ⟨(some 4), none, .mv (.t 18)⟩]
theorem tr8_4 : TR Try.f8 36 4 = some a8_4 := by kernel_rfl
def a8_6 : List AO := [⟨(some 28), none, .mv (.t 3)⟩,
  ⟨(some 29), none, .bin .gtr (.t 28) (.v (.int .i64 3000))⟩,
  ⟨(some 30), none, .mv (.t 29)⟩,
  ⟨(some 31), some (30, true), .fld 2 (.t 1)⟩,
  ⟨(some 32), some (30, true), .load none (.t 31)⟩,
  ⟨(some 33), some (30, true), .len (.t 32)⟩,
  ⟨(some 34), some (30, true), .bin .leq (.t 33) (.v (.int .i64 2048))⟩,
  ⟨(some 35), none, .pick (.t 30) (.t 34) (.v (.bool false))⟩,
  ⟨(some 2), none, .mv (.t 35)⟩]
theorem tr8_6 : TR Try.f8 36 6 = some a8_6 := by kernel_rfl
/-- airline/airlinelaw53.knows -/
noncomputable def c9 : Code := .seq (.region 0 (ro Try.f9 0) false) (.seq (.region 1 (ro Try.f9 1) false) (.seq (.seq (.region 2 (ro Try.f9 2) false) (.cond (.tmp 8) (.seq (.region 3 (ro Try.f9 3) false) (.ret)) (.skip))) (.seq (.region 4 (ro Try.f9 4) false) (.seq (.region 5 (ro Try.f9 5) false) (.seq (.region 6 (ro Try.f9 6) false) (.seq (.region 7 (ro Try.f9 7) false) (.seq (.region 8 (ro Try.f9 8) false) (.seq (.region 9 (ro Try.f9 9) true) (.ret)))))))))
theorem body9 : Try.f9.body = some c9 := by kernel_rfl
theorem res9 : Try.f9.results.toList.mapM (trR Try.prog) = some [.t 0] := by kernel_rfl
theorem nt9 : Try.f9.ntmps = 63 := by kernel_rfl
theorem nm9 : (Try.f9.name == "runtime.NumGoroutine") = false := by kernel_rfl
def a9_0 : List AO := [⟨(some 0), none, .mv (.v (.bool false))⟩]
theorem tr9_0 : TR Try.f9 63 0 = some a9_0 := by kernel_rfl
def a9_1 : List AO := [⟨(some 6), none, .call 15 []⟩,
  ⟨(some 1), none, .mv (.t 6)⟩]
theorem tr9_1 : TR Try.f9 63 1 = some a9_1 := by kernel_rfl
def a9_2 : List AO := [⟨(some 7), none, .mv (.t 1)⟩,
  ⟨(some 8), none, .binp false .eql (.t 7) (.v .nilp)⟩]
theorem tr9_2 : TR Try.f9 63 2 = some a9_2 := by kernel_rfl
def a9_3 : List AO := [⟨(some 0), none, .mv (.v (.bool false))⟩]
theorem tr9_3 : TR Try.f9 63 3 = some a9_3 := by kernel_rfl
def a9_4 : List AO := [⟨(some 9), none, .mv (.t 1)⟩,
  ⟨(some 10), none, .call 26 [(.v (.int .i64 5)), (.v (.str [99, 97, 115, 104])), (.v (.str [102, 101, 101, 115])), (.v (.int .i64 100))]⟩,
  ⟨(some 11), none, .call 17 [(.t 9), (.t 10)]⟩,
  ⟨(some 2), none, .mv (.t 11)⟩]
theorem tr9_4 : TR Try.f9 63 4 = some a9_4 := by kernel_rfl
def a9_5 : List AO := [⟨(some 12), none, .mv (.t 1)⟩,
  ⟨(some 13), none, .call 20 [(.t 12)]⟩,
  ⟨(some 3), none, .mv (.t 13)⟩]
theorem tr9_5 : TR Try.f9 63 5 = some a9_5 := by kernel_rfl
def a9_6 : List AO := [⟨(some 14), none, .call 26 [(.v (.int .i64 5)), (.v (.str [99, 97, 115, 104])), (.v (.str [102, 101, 101, 115])), (.v (.int .i64 100))]⟩,
  ⟨(some 4), none, .alloc 24 [(.int .i64 0), (.str []), .nils]⟩,
  ⟨none, none, .store 3 (.t 4) (.t 14)⟩]
theorem tr9_6 : TR Try.f9 63 6 = some a9_6 := by kernel_rfl
def a9_7 : List AO := [⟨(some 15), none, .fld 2 (.t 4)⟩,
  ⟨(some 16), none, .load none (.t 15)⟩,
  ⟨(some 17), none, .idx 2 (.t 16) (.v (.int .i64 1))⟩,
  ⟨(some 18), none, .fld 1 (.t 17)⟩,
  ⟨none, none, .store 1 (.t 18) (.v (.int .i64 (-99)))⟩]
theorem tr9_7 : TR Try.f9 63 7 = some a9_7 := by kernel_rfl
def a9_8 : List AO := [⟨(some 19), none, .call 26 [(.v (.int .i64 5)), (.v (.str [99, 97, 115, 104])), (.v (.str [102, 101, 101, 115])), (.v (.int .i64 100))]⟩,
  ⟨(some 20), none, .call 13 [(.t 19), (.v (.int .i64 6))]⟩,
  ⟨(some 5), none, .alloc 24 [(.int .i64 0), (.str []), .nils]⟩,
  ⟨none, none, .store 3 (.t 5) (.t 20)⟩]
theorem tr9_8 : TR Try.f9 63 8 = some a9_8 := by kernel_rfl
def a9_9 : List AO := [⟨(some 21), none, .mv (.t 2)⟩,
  ⟨(some 22), none, .bin .eql (.t 21) (.v (.int .i64 0))⟩,
  ⟨(some 23), none, .mv (.t 22)⟩,
  ⟨(some 24), some (23, true), .mv (.t 1)⟩,
  ⟨(some 25), some (23, true), .call 22 [(.t 24), (.v (.str [102, 101, 101, 115]))]⟩,
  ⟨(some 26), some (23, true), .bin .eql (.t 25) (.v (.int .i64 (-100)))⟩,
  ⟨(some 27), none, .pick (.t 23) (.t 26) (.v (.bool false))⟩,
  ⟨(some 28), none, .mv (.t 27)⟩,
  ⟨(some 29), some (28, true), .mv (.t 1)⟩,
  ⟨(some 30), some (28, true), .call 22 [(.t 29), (.v (.str [100, 117, 101, 32, 66, 65]))]⟩,
  ⟨(some 31), some (28, true), .bin .eql (.t 30) (.v (.int .i64 0))⟩,
  ⟨(some 32), none, .pick (.t 28) (.t 31) (.v (.bool false))⟩,
  ⟨(some 33), none, .mv (.t 32)⟩,
  ⟨(some 34), some (33, true), .mv (.t 3)⟩,
  ⟨(some 35), some (33, true), .len (.t 34)⟩,
  ⟨(some 36), some (33, true), .bin .eql (.t 35) (.v (.int .i64 2))⟩,
  ⟨(some 37), none, .pick (.t 33) (.t 36) (.v (.bool false))⟩,
  ⟨(some 38), none, .mv (.t 37)⟩,
  ⟨(some 39), some (38, true), .mv (.t 3)⟩,
  ⟨(some 40), some (38, true), .idx 2 (.t 39) (.v (.int .i64 0))⟩,
  ⟨(some 41), some (38, true), .load (some 2) (.t 40)⟩,
  ⟨(some 42), some (38, true), .build [(.str []), (.int .i64 0)] [(0, 1, (.v (.str [99, 97, 115, 104]))), (1, 1, (.v (.int .i64 100)))]⟩,
  ⟨(some 43), some (38, true), .bina [.s, .i .i64] .eql (.t 41) (.t 42)⟩,
  ⟨(some 44), none, .pick (.t 38) (.t 43) (.v (.bool false))⟩,
  ⟨(some 45), none, .mv (.t 44)⟩,
  ⟨(some 46), some (45, true), .load (some 3) (.t 4)⟩,
  ⟨(some 47), some (45, true), .call 11 [(.t 46)]⟩,
  ⟨(some 48), some (45, true), .bin .eql (.t 47) (.v (.int .i64 36))⟩,
  ⟨(some 49), none, .pick (.t 45) (.t 48) (.v (.bool false))⟩,
  ⟨(some 50), none, .mv (.t 49)⟩,
  ⟨(some 51), some (50, true), .mv (.t 1)⟩,
  ⟨(some 52), some (50, true), .call 24 [(.t 51), (.v (.int .i64 0)), (.v (.int .i64 36525))]⟩,
  ⟨(some 53), some (50, true), .len (.t 52)⟩,
  ⟨(some 54), some (50, true), .bin .eql (.t 53) (.v (.int .i64 1))⟩,
  ⟨(some 55), none, .pick (.t 50) (.t 54) (.v (.bool false))⟩,
  ⟨(some 56), none, .mv (.t 55)⟩,
  ⟨(some 57), some (56, true), .load (some 3) (.t 5)⟩,
  ⟨(some 58), some (56, true), .slc 24 3 false [(.t 57)]⟩,
  ⟨(some 59), some (56, true), .call 26 [(.v (.int .i64 6)), (.v (.str [99, 97, 115, 104])), (.v (.str [102, 101, 101, 115])), (.v (.int .i64 (-100)))]⟩,
  ⟨(some 60), some (56, true), .slc 24 3 false [(.t 59)]⟩,
  ⟨(some 61), some (56, true), .call 12 [(.t 58), (.t 60)]⟩,
  ⟨(some 62), none, .pick (.t 56) (.t 61) (.v (.bool false))⟩,
  ⟨(some 0), none, .mv (.t 62)⟩]
theorem tr9_9 : TR Try.f9 63 9 = some a9_9 := by kernel_rfl
def d9_9 : List (List Nat) := [[], [0], [0, 1], [0, 1, 2], [0, 1, 2, 3], [0, 1, 2, 3, 4], [0, 1, 2, 3, 4, 5], [0, 1, 2, 3, 4, 5, 6], [0, 1, 2, 3, 4, 5, 6, 7], [0, 1, 2, 3, 4, 5, 6, 7, 8], [0, 1, 2, 3, 4, 5, 6, 7, 8, 9], [0, 1, 2, 3, 4, 5, 6, 7, 8, 9, 10], [0, 1, 2, 3, 4, 5, 6, 7, 8, 9, 10, 11], [0, 1, 2, 3, 4, 5, 6, 7, 8, 9, 10, 11, 12], [0, 1, 2, 3, 4, 5, 6, 7, 8, 9, 10, 11, 12, 13], [0, 1, 2, 3, 4, 5, 6, 7, 8, 9, 10, 11, 12, 13, 14], [0, 1, 2, 3, 4, 5, 6, 7, 8, 9, 10, 11, 12, 13, 14, 15], [0, 1, 2, 3, 4, 5, 6, 7, 8, 9, 10, 11, 12, 13, 14, 15, 16], [0, 1, 2, 3, 4, 5, 6, 7, 8, 9, 10, 11, 12, 13, 14, 15, 16, 17], [0, 1, 2, 3, 4, 5, 6, 7, 8, 9, 10, 11, 12, 13, 14, 15, 16, 17, 18], [0, 1, 2, 3, 4, 5, 6, 7, 8, 9, 10, 11, 12, 13, 14, 15, 16, 17, 18, 19], [0, 1, 2, 3, 4, 5, 6, 7, 8, 9, 10, 11, 12, 13, 14, 15, 16, 17], [0, 1, 2, 3, 4, 5, 6, 7, 8, 9, 10, 11, 12, 13, 14, 15, 16, 17, 18, 19, 20, 21], [0, 1, 2, 3, 4, 5, 6, 7, 8, 9, 10, 11, 12, 13, 14, 15, 16, 17, 18, 19, 20, 21, 22], [0, 1, 2, 3, 4, 5, 6, 7, 8, 9, 10, 11, 12, 13, 14, 15, 16, 17, 18, 19, 20, 21, 22, 23], [0, 1, 2, 3, 4, 5, 6, 7, 8, 9, 10, 11, 12, 13, 14, 15, 16, 17, 18, 19, 20, 21, 22, 23, 24], [0, 1, 2, 3, 4, 5, 6, 7, 8, 9, 10, 11, 12, 13, 14, 15, 16, 17, 18, 19, 20, 21, 22, 23, 24, 25], [0, 1, 2, 3, 4, 5, 6, 7, 8, 9, 10, 11, 12, 13, 14, 15, 16, 17, 18, 19, 20, 21, 22, 23, 24, 25, 26], [0, 1, 2, 3, 4, 5, 6, 7, 8, 9, 10, 11, 12, 13, 14, 15, 16, 17, 18, 19, 20, 21, 22, 23, 24, 25, 26, 27], [0, 1, 2, 3, 4, 5, 6, 7, 8, 9, 10, 11, 12, 13, 14, 15, 16, 17, 18, 19, 20, 21, 22, 23, 24, 25, 26, 27, 28], [0, 1, 2, 3, 4, 5, 6, 7, 8, 9, 10, 11, 12, 13, 14, 15, 16, 17, 18, 19, 20, 21, 22, 23, 24, 25, 26, 27, 28, 29], [0, 1, 2, 3, 4, 5, 6, 7, 8, 9, 10, 11, 12, 13, 14, 15, 16, 17, 18, 19, 20, 21, 22, 23, 24, 25, 26, 27, 28, 29, 30], [0, 1, 2, 3, 4, 5, 6, 7, 8, 9, 10, 11, 12, 13, 14, 15, 16, 17, 18, 19, 20, 21, 22, 23, 24, 25, 26, 27, 28, 29, 30, 31], [0, 1, 2, 3, 4, 5, 6, 7, 8, 9, 10, 11, 12, 13, 14, 15, 16, 17, 18, 19, 20, 21, 22, 23, 24, 25, 26, 27, 28, 29, 30, 31, 32], [0, 1, 2, 3, 4, 5, 6, 7, 8, 9, 10, 11, 12, 13, 14, 15, 16, 17, 18, 19, 20, 21, 22, 23, 24, 25, 26, 27, 28, 29, 30, 31, 32, 33], [0, 1, 2, 3, 4, 5, 6, 7, 8, 9, 10, 11, 12, 13, 14, 15, 16, 17, 18, 19, 20, 21, 22, 23, 24, 25, 26, 27, 28, 29, 30, 31, 32, 33, 34], [0, 1, 2, 3, 4, 5, 6, 7, 8, 9, 10, 11, 12, 13, 14, 15, 16, 17, 18, 19, 20, 21, 22, 23, 24, 25, 26, 27, 28, 29, 30, 31, 32, 33, 34, 35], [0, 1, 2, 3, 4, 5, 6, 7, 8, 9, 10, 11, 12, 13, 14, 15, 16, 17, 18, 19, 20, 21, 22, 23, 24, 25, 26, 27, 28, 29, 30, 31, 32, 33, 34, 35, 36], [0, 1, 2, 3, 4, 5, 6, 7, 8, 9, 10, 11, 12, 13, 14, 15, 16, 17, 18, 19, 20, 21, 22, 23, 24, 25, 26, 27, 28, 29, 30, 31, 32, 33, 34, 35], [0, 1, 2, 3, 4, 5, 6, 7, 8, 9, 10, 11, 12, 13, 14, 15, 16, 17, 18, 19, 20, 21, 22, 23, 24, 25, 26, 27, 28, 29, 30, 31, 32, 33, 34, 35, 38], [0, 1, 2, 3, 4, 5, 6, 7, 8, 9, 10, 11, 12, 13, 14, 15, 16, 17, 18, 19, 20, 21, 22, 23, 24, 25, 26, 27, 28, 29, 30, 31, 32, 33, 34, 35, 36, 37, 38, 39], [0, 1, 2, 3, 4, 5, 6, 7, 8, 9, 10, 11, 12, 13, 14, 15, 16, 17, 18, 19, 20, 21, 22, 23, 24, 25, 26, 27, 28, 29, 30, 31, 32, 33, 34, 35, 36, 37, 38, 39, 40], [0, 1, 2, 3, 4, 5, 6, 7, 8, 9, 10, 11, 12, 13, 14, 15, 16, 17, 18, 19, 20, 21, 22, 23, 24, 25, 26, 27, 28, 29, 30, 31, 32, 33, 34, 35, 36, 37, 38, 39, 40, 41]]
theorem ok9_9 : okReg (ro Try.f9 9) a9_9 d9_9 = true := by kernel_rfl
/-- airline/airlineref53.Check -/
noncomputable def c10 : Code := .seq (.region 0 (ro Try.f10 0) false) (.seq (.seq (.region 1 (ro Try.f10 1) false) (.cond (.tmp 12) (.seq (.region 2 (ro Try.f10 2) false) (.ret)) (.skip))) (.seq (.seq (.region 3 (ro Try.f10 3) false) (.cond (.tmp 22) (.seq (.region 4 (ro Try.f10 4) false) (.ret)) (.skip))) (.seq (.seq (.region 5 (ro Try.f10 5) false) (.cond (.tmp 26) (.seq (.region 6 (ro Try.f10 6) false) (.ret)) (.skip))) (.seq (.region 7 (ro Try.f10 7) false) (.seq (.seq (.region 8 (ro Try.f10 8) false) (.block 0 (.loop (.seq (.seq (.region 9 (ro Try.f10 9) false) (.cond (.tmp 31) (.skip) (.exit 0))) (.seq (.block 1 (.seq (.seq (.region 11 (ro Try.f10 11) false) (.cond (.tmp 41) (.seq (.region 12 (ro Try.f10 12) false) (.ret)) (.skip))) (.seq (.seq (.region 13 (ro Try.f10 13) false) (.cond (.tmp 57) (.seq (.region 14 (ro Try.f10 14) false) (.ret)) (.skip))) (.region 15 (ro Try.f10 15) false)))) (.region 10 (ro Try.f10 10) false)))))) (.seq (.seq (.region 16 (ro Try.f10 16) false) (.cond (.tmp 67) (.seq (.region 17 (ro Try.f10 17) false) (.ret)) (.skip))) (.seq (.region 18 (ro Try.f10 18) false) (.ret))))))))
theorem body10 : Try.f10.body = some c10 := by kernel_rfl
theorem res10 : Try.f10.results.toList.mapM (trR Try.prog) = some [.t 2] := by kernel_rfl
theorem nt10 : Try.f10.ntmps = 68 := by kernel_rfl
theorem nm10 : (Try.f10.name == "runtime.NumGoroutine") = false := by kernel_rfl
def a10_0 : List AO := [⟨(some 1), none, .box 24 (.t 0)⟩,
  ⟨(some 2), none, .mv (.v (.int .i64 0))⟩]
theorem tr10_0 : TR Try.f10 68 0 = some a10_0 := by kernel_rfl
def a10_1 : List AO := [⟨(some 5), none, .fld 0 (.t 1)⟩,
  ⟨(some 6), none, .load none (.t 5)⟩,
  ⟨(some 7), none, .bin .lss (.t 6) (.v (.int .i64 0))⟩,
  ⟨(some 8), none, .mv (.t 7)⟩,
  ⟨(some 9), some (8, false), .fld 0 (.t 1)⟩,
  ⟨(some 10), some (8, false), .load none (.t 9)⟩,
  ⟨(some 11), some (8, false), .bin .geq (.t 10) (.v (.int .i64 36525))⟩,
  ⟨(some 12), none, .pick (.t 8) (.v (.bool true)) (.t 11)⟩]
theorem tr10_1 : TR Try.f10 68 1 = some a10_1 := by kernel_rfl
def a10_2 : List AO := [⟨(some 2), none, .mv (.v (.int .i64 12))⟩]
theorem tr10_2 : TR Try.f10 68 2 = some a10_2 := by kernel_rfl
def a10_3 : List AO := [⟨(some 13), none, .fld 1 (.t 1)⟩,
  ⟨(some 14), none, .load none (.t 13)⟩,
  ⟨(some 15), none, .slen (.t 14)⟩,
  ⟨(some 16), none, .bin .gtr (.t 15) (.v (.int .i64 65536))⟩,
  ⟨(some 17), none, .mv (.t 16)⟩,
  ⟨(some 18), some (17, false), .fld 2 (.t 1)⟩,
  ⟨(some 19), some (17, false), .load none (.t 18)⟩,
  ⟨(some 20), some (17, false), .len (.t 19)⟩,
  ⟨(some 21), some (17, false), .bin .gtr (.t 20) (.v (.int .i64 2048))⟩,
  ⟨(some 22), none, .pick (.t 17) (.v (.bool true)) (.t 21)⟩]
theorem tr10_3 : TR Try.f10 68 3 = some a10_3 := by kernel_rfl
def a10_4 : List AO := [⟨(some 2), none, .mv (.v (.int .i64 4))⟩]
theorem tr10_4 : TR Try.f10 68 4 = some a10_4 := by kernel_rfl
def a10_5 : List AO := [⟨(some 23), none, .fld 2 (.t 1)⟩,
  ⟨(some 24), none, .load none (.t 23)⟩,
  ⟨(some 25), none, .len (.t 24)⟩,
  ⟨(some 26), none, .bin .eql (.t 25) (.v (.int .i64 0))⟩]
theorem tr10_5 : TR Try.f10 68 5 = some a10_5 := by kernel_rfl
def a10_6 : List AO := [⟨(some 2), none, .mv (.v (.int .i64 2))⟩]
theorem tr10_6 : TR Try.f10 68 6 = some a10_6 := by kernel_rfl
def a10_7 : List AO := [⟨(some 3), none, .mv (.v (.int .i64 0))⟩]
theorem tr10_7 : TR Try.f10 68 7 = some a10_7 := by kernel_rfl
def a10_8 : List AO := [⟨(some 4), none, .mv (.v (.int .i64 0))⟩]
theorem tr10_8 : TR Try.f10 68 8 = some a10_8 := by kernel_rfl
def a10_9 : List AO := [⟨(some 27), none, .mv (.t 4)⟩,
  ⟨(some 28), none, .fld 2 (.t 1)⟩,
  ⟨(some 29), none, .load none (.t 28)⟩,
  ⟨(some 30), none, .len (.t 29)⟩,
  ⟨(some 31), none, .bin .lss (.t 27) (.t 30)⟩]
theorem tr10_9 : TR Try.f10 68 9 = some a10_9 := by kernel_rfl
def a10_11 : List AO := [⟨(some 34), none, .fld 2 (.t 1)⟩,
  ⟨(some 35), none, .load none (.t 34)⟩,
  ⟨(some 36), none, .mv (.t 4)⟩,
  ⟨(some 37), none, .idx 2 (.t 35) (.t 36)⟩,
  ⟨(some 38), none, .fld 0 (.t 37)⟩,
  ⟨(some 39), none, .load none (.t 38)⟩,
  ⟨(some 40), none, .call 27 [(.t 39)]⟩,
  ⟨(some 41), none, .un .not (.t 40)⟩]
theorem tr10_11 : TR Try.f10 68 11 = some a10_11 := by kernel_rfl
def a10_12 : List AO := [⟨(some 2), none, .mv (.v (.int .i64 5))⟩]
theorem tr10_12 : TR Try.f10 68 12 = some a10_12 := by kernel_rfl
def a10_13 : List AO := [⟨(some 42), none, .fld 2 (.t 1)⟩,
  ⟨(some 43), none, .load none (.t 42)⟩,
  ⟨(some 44), none, .mv (.t 4)⟩,
  ⟨(some 45), none, .idx 2 (.t 43) (.t 44)⟩,
  ⟨(some 46), none, .fld 1 (.t 45)⟩,
  ⟨(some 47), none, .load none (.t 46)⟩,
  ⟨(some 48), none, .bin .lss (.t 47) (.v (.int .i64 (-1099511627776)))⟩,
  ⟨(some 49), none, .mv (.t 48)⟩,
  ⟨(some 50), some (49, false), .fld 2 (.t 1)⟩,
  ⟨(some 51), some (49, false), .load none (.t 50)⟩,
  ⟨(some 52), some (49, false), .mv (.t 4)⟩,
  ⟨(some 53), some (49, false), .idx 2 (.t 51) (.t 52)⟩,
  ⟨(some 54), some (49, false), .fld 1 (.t 53)⟩,
  ⟨(some 55), some (49, false), .load none (.t 54)⟩,
  ⟨(some 56), some (49, false), .bin .gtr (.t 55) (.v (.int .i64 1099511627776))⟩,
  ⟨(some 57), none, .pick (.t 49) (.v (.bool true)) (.t 56)⟩]
theorem tr10_13 : TR Try.f10 68 13 = some a10_13 := by kernel_rfl
def a10_14 : List AO := [⟨(some 2), none, .mv (.v (.int .i64 11))⟩]
theorem tr10_14 : TR Try.f10 68 14 = some a10_14 := by kernel_rfl
def a10_15 : List AO := [⟨(some 58), none, .mv (.t 3)⟩,
  ⟨(some 59), none, .fld 2 (.t 1)⟩,
  ⟨(some 60), none, .load none (.t 59)⟩,
  ⟨(some 61), none, .mv (.t 4)⟩,
  ⟨(some 62), none, .idx 2 (.t 60) (.t 61)⟩,
  ⟨(some 63), none, .fld 1 (.t 62)⟩,
  ⟨(some 64), none, .load none (.t 63)⟩,
  ⟨(some 65), none, .bin .add (.t 58) (.t 64)⟩,
  ⟨(some 3), none, .mv (.t 65)⟩]
theorem tr10_15 : TR Try.f10 68 15 = some a10_15 := by kernel_rfl
def a10_10 : List AO := [⟨(some 32), none, .mv (.t 4)⟩,
  ⟨(some 33), none, .bin .add (.t 32) (.v (.int .i64 1))⟩,
  ⟨(some 4), none, .mv (.t 33)⟩]
theorem tr10_10 : TR Try.f10 68 10 = some a10_10 := by kernel_rfl
def a10_16 : List AO := [⟨(some 66), none, .mv (.t 3)⟩,
  ⟨(some 67), none, .bin .neq (.t 66) (.v (.int .i64 0))⟩]
theorem tr10_16 : TR Try.f10 68 16 = some a10_16 := by kernel_rfl
def a10_17 : List AO := [⟨(some 2), none, .mv (.v (.int .i64 36))⟩]
theorem tr10_17 : TR Try.f10 68 17 = some a10_17 := by kernel_rfl
def a10_18 : List AO := [⟨(some 2), none, .mv (.v (.int .i64 0))⟩]
theorem tr10_18 : TR Try.f10 68 18 = some a10_18 := by kernel_rfl
/-- airline/ledger.Check -/
noncomputable def c11 : Code := .seq (.region 0 (ro Try.f11 0) false) (.seq (.seq (.region 1 (ro Try.f11 1) false) (.cond (.tmp 13) (.seq (.region 2 (ro Try.f11 2) false) (.ret)) (.skip))) (.seq (.seq (.region 3 (ro Try.f11 3) false) (.cond (.tmp 23) (.seq (.region 4 (ro Try.f11 4) false) (.ret)) (.skip))) (.seq (.seq (.region 5 (ro Try.f11 5) false) (.cond (.tmp 27) (.seq (.region 6 (ro Try.f11 6) false) (.ret)) (.skip))) (.seq (.region 7 (ro Try.f11 7) false) (.seq (.seq (.region 8 (ro Try.f11 8) false) (.block 0 (.loop (.seq (.region 9 (ro Try.f11 9) false) (.seq (.cond (.tmp 32) (.skip) (.exit 0)) (.seq (.block 1 (.seq (.region 10 (ro Try.f11 10) false) (.seq (.seq (.region 11 (ro Try.f11 11) false) (.cond (.tmp 38) (.seq (.region 12 (ro Try.f11 12) false) (.ret)) (.skip))) (.seq (.seq (.region 13 (ro Try.f11 13) false) (.cond (.tmp 46) (.seq (.region 14 (ro Try.f11 14) false) (.ret)) (.skip))) (.region 15 (ro Try.f11 15) false))))) (.region 16 (ro Try.f11 16) false))))))) (.seq (.seq (.region 17 (ro Try.f11 17) false) (.cond (.tmp 53) (.seq (.region 18 (ro Try.f11 18) false) (.ret)) (.skip))) (.seq (.region 19 (ro Try.f11 19) false) (.ret))))))))
theorem body11 : Try.f11.body = some c11 := by kernel_rfl
theorem res11 : Try.f11.results.toList.mapM (trR Try.prog) = some [.t 2] := by kernel_rfl
theorem nt11 : Try.f11.ntmps = 54 := by kernel_rfl
theorem nm11 : (Try.f11.name == "runtime.NumGoroutine") = false := by kernel_rfl
def a11_0 : List AO := [⟨(some 1), none, .box 24 (.t 0)⟩,
  ⟨(some 2), none, .mv (.v (.int .i64 0))⟩]
theorem tr11_0 : TR Try.f11 54 0 = some a11_0 := by kernel_rfl
def a11_1 : List AO := [⟨(some 6), none, .fld 0 (.t 1)⟩,
  ⟨(some 7), none, .load none (.t 6)⟩,
  ⟨(some 8), none, .bin .lss (.t 7) (.v (.int .i64 0))⟩,
  ⟨(some 9), none, .mv (.t 8)⟩,
  ⟨(some 10), some (9, false), .fld 0 (.t 1)⟩,
  ⟨(some 11), some (9, false), .load none (.t 10)⟩,
  ⟨(some 12), some (9, false), .bin .geq (.t 11) (.v (.int .i64 36525))⟩,
  ⟨(some 13), none, .pick (.t 9) (.v (.bool true)) (.t 12)⟩]
theorem tr11_1 : TR Try.f11 54 1 = some a11_1 := by kernel_rfl
def a11_2 : List AO := [⟨(some 2), none, .mv (.v (.int .i64 12))⟩]
theorem tr11_2 : TR Try.f11 54 2 = some a11_2 := by kernel_rfl
def a11_3 : List AO := [⟨(some 14), none, .fld 1 (.t 1)⟩,
  ⟨(some 15), none, .load none (.t 14)⟩,
  ⟨(some 16), none, .slen (.t 15)⟩,
  ⟨(some 17), none, .bin .gtr (.t 16) (.v (.int .i64 65536))⟩,
  ⟨(some 18), none, .mv (.t 17)⟩,
  ⟨(some 19), some (18, false), .fld 2 (.t 1)⟩,
  ⟨(some 20), some (18, false), .load none (.t 19)⟩,
  ⟨(some 21), some (18, false), .len (.t 20)⟩,
  ⟨(some 22), some (18, false), .bin .gtr (.t 21) (.v (.int .i64 2048))⟩,
  ⟨(some 23), none, .pick (.t 18) (.v (.bool true)) (.t 22)⟩]
theorem tr11_3 : TR Try.f11 54 3 = some a11_3 := by kernel_rfl
def a11_4 : List AO := [⟨(some 2), none, .mv (.v (.int .i64 4))⟩]
theorem tr11_4 : TR Try.f11 54 4 = some a11_4 := by kernel_rfl
def a11_5 : List AO := [⟨(some 24), none, .fld 2 (.t 1)⟩,
  ⟨(some 25), none, .load none (.t 24)⟩,
  ⟨(some 26), none, .len (.t 25)⟩,
  ⟨(some 27), none, .bin .eql (.t 26) (.v (.int .i64 0))⟩]
theorem tr11_5 : TR Try.f11 54 5 = some a11_5 := by kernel_rfl
def a11_6 : List AO := [⟨(some 2), none, .mv (.v (.int .i64 2))⟩]
theorem tr11_6 : TR Try.f11 54 6 = some a11_6 := by kernel_rfl
def a11_7 : List AO := [⟨(some 3), none, .mv (.v (.int .i64 0))⟩]
theorem tr11_7 : TR Try.f11 54 7 = some a11_7 := by kernel_rfl
def a11_8 : List AO := [⟨(some 28), none, .fld 2 (.t 1)⟩,
  ⟨(some 29), none, .load none (.t 28)⟩,
  ⟨(some 30), none, .len (.t 29)⟩,
  ⟨(some 31), none, .mv (.v (.int .i64 0))⟩]
theorem tr11_8 : TR Try.f11 54 8 = some a11_8 := by kernel_rfl
def a11_9 : List AO := [⟨(some 32), none, .bin .lss (.t 31) (.t 30)⟩]
theorem tr11_9 : TR Try.f11 54 9 = some a11_9 := by kernel_rfl
def a11_10 : List AO := [⟨(some 33), none, .idx 2 (.t 29) (.t 31)⟩,
  ⟨(some 34), none, .load (some 2) (.t 33)⟩,
  ⟨(some 5), none, .alloc 43 [(.str []), (.int .i64 0)]⟩,
  ⟨none, none, .store 2 (.t 5) (.t 34)⟩]
theorem tr11_10 : TR Try.f11 54 10 = some a11_10 := by kernel_rfl
def a11_11 : List AO := [⟨(some 35), none, .fld 0 (.t 5)⟩,
  ⟨(some 36), none, .load none (.t 35)⟩,
  ⟨(some 37), none, .call 28 [(.t 36)]⟩,
  ⟨(some 38), none, .un .not (.t 37)⟩]
theorem tr11_11 : TR Try.f11 54 11 = some a11_11 := by kernel_rfl
def a11_12 : List AO := [⟨(some 2), none, .mv (.v (.int .i64 5))⟩]
theorem tr11_12 : TR Try.f11 54 12 = some a11_12 := by kernel_rfl
def a11_13 : List AO := [⟨(some 39), none, .fld 1 (.t 5)⟩,
  ⟨(some 40), none, .load none (.t 39)⟩,
  ⟨(some 41), none, .bin .lss (.t 40) (.v (.int .i64 (-1099511627776)))⟩,
  ⟨(some 42), none, .mv (.t 41)⟩,
  ⟨(some 43), some (42, false), .fld 1 (.t 5)⟩,
  ⟨(some 44), some (42, false), .load none (.t 43)⟩,
  ⟨(some 45), some (42, false), .bin .gtr (.t 44) (.v (.int .i64 1099511627776))⟩,
  ⟨(some 46), none, .pick (.t 42) (.v (.bool true)) (.t 45)⟩]
theorem tr11_13 : TR Try.f11 54 13 = some a11_13 := by kernel_rfl
def a11_14 : List AO := [⟨(some 2), none, .mv (.v (.int .i64 11))⟩]
theorem tr11_14 : TR Try.f11 54 14 = some a11_14 := by kernel_rfl
def a11_15 : List AO := [⟨(some 47), none, .mv (.t 3)⟩,
  ⟨(some 48), none, .fld 1 (.t 5)⟩,
  ⟨(some 49), none, .load none (.t 48)⟩,
  ⟨(some 50), none, .bin .add (.t 47) (.t 49)⟩,
  ⟨(some 3), none, .mv (.t 50)⟩]
theorem tr11_15 : TR Try.f11 54 15 = some a11_15 := by kernel_rfl
def a11_16 : List AO := [⟨(some 51), none, .bin .add (.t 31) (.v (.int .i64 1))⟩,
  ⟨(some 31), none, .mv (.t 51)⟩]
theorem tr11_16 : TR Try.f11 54 16 = some a11_16 := by kernel_rfl
def a11_17 : List AO := [⟨(some 52), none, .mv (.t 3)⟩,
  ⟨(some 53), none, .bin .neq (.t 52) (.v (.int .i64 0))⟩]
theorem tr11_17 : TR Try.f11 54 17 = some a11_17 := by kernel_rfl
def a11_18 : List AO := [⟨(some 2), none, .mv (.v (.int .i64 36))⟩]
theorem tr11_18 : TR Try.f11 54 18 = some a11_18 := by kernel_rfl
def a11_19 : List AO := [⟨(some 2), none, .mv (.v (.int .i64 0))⟩]
theorem tr11_19 : TR Try.f11 54 19 = some a11_19 := by kernel_rfl
/-- airline/airlineref53.Same -/
noncomputable def c12 : Code := .seq (.region 0 (ro Try.f12 0) false) (.seq (.seq (.region 1 (ro Try.f12 1) false) (.cond (.tmp 10) (.seq (.region 2 (ro Try.f12 2) false) (.ret)) (.skip))) (.seq (.seq (.region 3 (ro Try.f12 3) false) (.block 0 (.loop (.seq (.seq (.region 4 (ro Try.f12 4) false) (.cond (.tmp 14) (.skip) (.exit 0))) (.seq (.block 1 (.seq (.region 6 (ro Try.f12 6) true) (.cond (.tmp 54) (.seq (.region 7 (ro Try.f12 7) false) (.ret)) (.skip)))) (.region 5 (ro Try.f12 5) false)))))) (.seq (.region 8 (ro Try.f12 8) false) (.ret))))
theorem body12 : Try.f12.body = some c12 := by kernel_rfl
theorem res12 : Try.f12.results.toList.mapM (trR Try.prog) = some [.t 4] := by kernel_rfl
theorem nt12 : Try.f12.ntmps = 55 := by kernel_rfl
theorem nm12 : (Try.f12.name == "runtime.NumGoroutine") = false := by kernel_rfl
def a12_0 : List AO := [⟨(some 4), none, .mv (.v (.bool false))⟩]
theorem tr12_0 : TR Try.f12 55 0 = some a12_0 := by kernel_rfl
def a12_1 : List AO := [⟨(some 6), none, .mv (.t 0)⟩,
  ⟨(some 7), none, .len (.t 6)⟩,
  ⟨(some 8), none, .mv (.t 1)⟩,
  ⟨(some 9), none, .len (.t 8)⟩,
  ⟨(some 10), none, .bin .neq (.t 7) (.t 9)⟩]
theorem tr12_1 : TR Try.f12 55 1 = some a12_1 := by kernel_rfl
def a12_2 : List AO := [⟨(some 4), none, .mv (.v (.bool false))⟩]
theorem tr12_2 : TR Try.f12 55 2 = some a12_2 := by kernel_rfl
def a12_3 : List AO := [⟨(some 5), none, .mv (.v (.int .i64 0))⟩]
theorem tr12_3 : TR Try.f12 55 3 = some a12_3 := by kernel_rfl
def a12_4 : List AO := [⟨(some 11), none, .mv (.t 5)⟩,
  ⟨(some 12), none, .mv (.t 0)⟩,
  ⟨(some 13), none, .len (.t 12)⟩,
  ⟨(some 14), none, .bin .lss (.t 11) (.t 13)⟩]
theorem tr12_4 : TR Try.f12 55 4 = some a12_4 := by kernel_rfl
def a12_6 : List AO := [⟨(some 17), none, .mv (.t 0)⟩,
  ⟨(some 18), none, .mv (.t 5)⟩,
  ⟨(some 19), none, .idx 3 (.t 17) (.t 18)⟩,
  ⟨(some 20), none, .fld 0 (.t 19)⟩,
  ⟨(some 21), none, .load none (.t 20)⟩,
  ⟨(some 22), none, .mv (.t 1)⟩,
  ⟨(some 23), none, .mv (.t 5)⟩,
  ⟨(some 24), none, .idx 3 (.t 22) (.t 23)⟩,
  ⟨(some 25), none, .fld 0 (.t 24)⟩,
  ⟨(some 26), none, .load none (.t 25)⟩,
  ⟨(some 27), none, .bin .neq (.t 21) (.t 26)⟩,
  ⟨(some 28), none, .mv (.t 27)⟩,
  ⟨(some 29), some (28, false), .mv (.t 0)⟩,
  ⟨(some 30), some (28, false), .mv (.t 5)⟩,
  ⟨(some 31), some (28, false), .idx 3 (.t 29) (.t 30)⟩,
  ⟨(some 32), some (28, false), .fld 1 (.t 31)⟩,
  ⟨(some 33), some (28, false), .load none (.t 32)⟩,
  ⟨(some 34), some (28, false), .mv (.t 1)⟩,
  ⟨(some 35), some (28, false), .mv (.t 5)⟩,
  ⟨(some 36), some (28, false), .idx 3 (.t 34) (.t 35)⟩,
  ⟨(some 37), some (28, false), .fld 1 (.t 36)⟩,
  ⟨(some 38), some (28, false), .load none (.t 37)⟩,
  ⟨(some 39), some (28, false), .bin .neq (.t 33) (.t 38)⟩,
  ⟨(some 40), none, .pick (.t 28) (.v (.bool true)) (.t 39)⟩,
  ⟨(some 41), none, .mv (.t 40)⟩,
  ⟨(some 42), some (41, false), .mv (.t 0)⟩,
  ⟨(some 43), some (41, false), .mv (.t 5)⟩,
  ⟨(some 44), some (41, false), .idx 3 (.t 42) (.t 43)⟩,
  ⟨(some 45), some (41, false), .fld 2 (.t 44)⟩,
  ⟨(some 46), some (41, false), .load none (.t 45)⟩,
  ⟨(some 47), some (41, false), .mv (.t 1)⟩,
  ⟨(some 48), some (41, false), .mv (.t 5)⟩,
  ⟨(some 49), some (41, false), .idx 3 (.t 47) (.t 48)⟩,
  ⟨(some 50), some (41, false), .fld 2 (.t 49)⟩,
  ⟨(some 51), some (41, false), .load none (.t 50)⟩,
  ⟨(some 52), some (41, false), .call 19 [(.t 46), (.t 51)]⟩,
  ⟨(some 53), some (41, false), .un .not (.t 52)⟩,
  ⟨(some 54), none, .pick (.t 41) (.v (.bool true)) (.t 53)⟩]
theorem tr12_6 : TR Try.f12 55 6 = some a12_6 := by kernel_rfl
def d12_6 : List (List Nat) := [[], [], [0, 1], [0, 1, 2], [0, 1, 2, 3], [], [], [5, 6], [5, 6, 7], [5, 6, 7, 8], [0, 1, 2, 3, 4, 5, 6, 7, 8, 9], [0, 1, 2, 3, 4, 5, 6, 7, 8, 9, 10], [0, 1, 2, 3, 4, 5, 6, 7, 8, 9, 10, 11], [0, 1, 2, 3, 4, 5, 6, 7, 8, 9, 10, 11], [0, 1, 2, 3, 4, 5, 6, 7, 8, 9, 10, 11, 12, 13], [0, 1, 2, 3, 4, 5, 6, 7, 8, 9, 10, 11, 12, 13, 14], [0, 1, 2, 3, 4, 5, 6, 7, 8, 9, 10, 11, 12, 13, 14, 15], [0, 1, 2, 3, 4, 5, 6, 7, 8, 9, 10, 11], [0, 1, 2, 3, 4, 5, 6, 7, 8, 9, 10, 11], [0, 1, 2, 3, 4, 5, 6, 7, 8, 9, 10, 11, 17, 18], [0, 1, 2, 3, 4, 5, 6, 7, 8, 9, 10, 11, 17, 18, 19], [0, 1, 2, 3, 4, 5, 6, 7, 8, 9, 10, 11, 17, 18, 19, 20], [0, 1, 2, 3, 4, 5, 6, 7, 8, 9, 10, 11, 12, 13, 14, 15, 16, 17, 18, 19, 20, 21], [0, 1, 2, 3, 4, 5, 6, 7, 8, 9, 10, 11, 12, 13, 14, 15, 16, 17, 18, 19, 20, 21, 22], [0, 1, 2, 3, 4, 5, 6, 7, 8, 9, 10, 11, 12, 13, 14, 15, 16, 17, 18, 19, 20, 21, 22, 23], [0, 1, 2, 3, 4, 5, 6, 7, 8, 9, 10, 11, 12, 13, 14, 15, 16, 17, 18, 19, 20, 21, 22, 23, 24], [0, 1, 2, 3, 4, 5, 6, 7, 8, 9, 10, 11, 12, 13, 14, 15, 16, 17, 18, 19, 20, 21, 22, 23, 24], [0, 1, 2, 3, 4, 5, 6, 7, 8, 9, 10, 11, 12, 13, 14, 15, 16, 17, 18, 19, 20, 21, 22, 23, 24, 25, 26], [0, 1, 2, 3, 4, 5, 6, 7, 8, 9, 10, 11, 12, 13, 14, 15, 16, 17, 18, 19, 20, 21, 22, 23, 24, 25, 26, 27], [0, 1, 2, 3, 4, 5, 6, 7, 8, 9, 10, 11, 12, 13, 14, 15, 16, 17, 18, 19, 20, 21, 22, 23, 24, 25, 26, 27, 28], [0, 1, 2, 3, 4, 5, 6, 7, 8, 9, 10, 11, 12, 13, 14, 15, 16, 17, 18, 19, 20, 21, 22, 23, 24], [0, 1, 2, 3, 4, 5, 6, 7, 8, 9, 10, 11, 12, 13, 14, 15, 16, 17, 18, 19, 20, 21, 22, 23, 24], [0, 1, 2, 3, 4, 5, 6, 7, 8, 9, 10, 11, 12, 13, 14, 15, 16, 17, 18, 19, 20, 21, 22, 23, 24, 30, 31], [0, 1, 2, 3, 4, 5, 6, 7, 8, 9, 10, 11, 12, 13, 14, 15, 16, 17, 18, 19, 20, 21, 22, 23, 24, 30, 31, 32], [0, 1, 2, 3, 4, 5, 6, 7, 8, 9, 10, 11, 12, 13, 14, 15, 16, 17, 18, 19, 20, 21, 22, 23, 24, 30, 31, 32, 33], [0, 1, 2, 3, 4, 5, 6, 7, 8, 9, 10, 11, 12, 13, 14, 15, 16, 17, 18, 19, 20, 21, 22, 23, 24, 25, 26, 27, 28, 29, 30, 31, 32, 33, 34], [0, 1, 2, 3, 4, 5, 6, 7, 8, 9, 10, 11, 12, 13, 14, 15, 16, 17, 18, 19, 20, 21, 22, 23, 24, 25, 26, 27, 28, 29, 30, 31, 32, 33, 34, 35], [0, 1, 2, 3, 4, 5, 6, 7, 8, 9, 10, 11, 12, 13, 14, 15, 16, 17, 18, 19, 20, 21, 22, 23, 24, 25, 26, 27, 28, 29, 30, 31, 32, 33, 34, 35, 36]]
theorem ok12_6 : okReg (ro Try.f12 6) a12_6 d12_6 = true := by kernel_rfl
def a12_7 : List AO := [⟨(some 4), none, .mv (.v (.bool false))⟩]
theorem tr12_7 : TR Try.f12 55 7 = some a12_7 := by kernel_rfl
def a12_5 : List AO := [⟨(some 15), none, .mv (.t 5)⟩,
  ⟨(some 16), none, .bin .add (.t 15) (.v (.int .i64 1))⟩,
  ⟨(some 5), none, .mv (.t 16)⟩]
theorem tr12_5 : TR Try.f12 55 5 = some a12_5 := by kernel_rfl
def a12_8 : List AO := [⟨(some 4), none, .mv (.v (.bool true))⟩]
theorem tr12_8 : TR Try.f12 55 8 = some a12_8 := by kernel_rfl
/-- airline/ledger.Reverse -/
noncomputable def c13 : Code := .seq (.region 0 (ro Try.f13 0) false) (.seq (.region 1 (ro Try.f13 1) false) (.seq (.seq (.region 2 (ro Try.f13 2) false) (.block 0 (.loop (.seq (.region 3 (ro Try.f13 3) false) (.seq (.cond (.tmp 16) (.skip) (.exit 0)) (.seq (.block 1 (.seq (.region 4 (ro Try.f13 4) false) (.region 5 (ro Try.f13 5) false))) (.region 6 (ro Try.f13 6) false))))))) (.seq (.region 7 (ro Try.f13 7) false) (.ret))))
theorem body13 : Try.f13.body = some c13 := by kernel_rfl
theorem res13 : Try.f13.results.toList.mapM (trR Try.prog) = some [.c (some 3) 4] := by kernel_rfl
theorem nt13 : Try.f13.ntmps = 32 := by kernel_rfl
theorem nm13 : (Try.f13.name == "runtime.NumGoroutine") = false := by kernel_rfl
def a13_0 : List AO := [⟨(some 2), none, .box 24 (.t 0)⟩,
  ⟨(some 4), none, .alloc 24 [(.int .i64 0), (.str []), .nils]⟩]
theorem tr13_0 : TR Try.f13 32 0 = some a13_0 := by kernel_rfl
def a13_1 : List AO := [⟨(some 8), none, .mv (.t 1)⟩,
  ⟨(some 9), none, .fld 1 (.t 2)⟩,
  ⟨(some 10), none, .load none (.t 9)⟩,
  ⟨(some 11), none, .build [(.int .i64 0), (.str []), .nils] [(0, 1, (.t 8)), (1, 1, (.t 10))]⟩,
  ⟨(some 5), none, .alloc 24 [(.int .i64 0), (.str []), .nils]⟩,
  ⟨none, none, .store 3 (.t 5) (.t 11)⟩]
theorem tr13_1 : TR Try.f13 32 1 = some a13_1 := by kernel_rfl
def a13_2 : List AO := [⟨(some 12), none, .fld 2 (.t 2)⟩,
  ⟨(some 13), none, .load none (.t 12)⟩,
  ⟨(some 14), none, .len (.t 13)⟩,
  ⟨(some 15), none, .mv (.v (.int .i64 0))⟩]
theorem tr13_2 : TR Try.f13 32 2 = some a13_2 := by kernel_rfl
def a13_3 : List AO := [⟨(some 16), none, .bin .lss (.t 15) (.t 14)⟩]
theorem tr13_3 : TR Try.f13 32 3 = some a13_3 := by kernel_rfl
def a13_4 : List AO := [⟨(some 17), none, .idx 2 (.t 13) (.t 15)⟩,
  ⟨(some 18), none, .load (some 2) (.t 17)⟩,
  ⟨(some 7), none, .alloc 43 [(.str []), (.int .i64 0)]⟩,
  ⟨none, none, .store 2 (.t 7) (.t 18)⟩]
theorem tr13_4 : TR Try.f13 32 4 = some a13_4 := by kernel_rfl
def a13_5 : List AO := [⟨(some 19), none, .fld 2 (.t 5)⟩,
  ⟨(some 20), none, .load none (.t 19)⟩,
  ⟨(some 21), none, .fld 0 (.t 7)⟩,
  ⟨(some 22), none, .load none (.t 21)⟩,
  ⟨(some 23), none, .fld 1 (.t 7)⟩,
  ⟨(some 24), none, .load none (.t 23)⟩,
  ⟨(some 25), none, .un .neg (.t 24)⟩,
  ⟨(some 26), none, .build [(.str []), (.int .i64 0)] [(0, 1, (.t 22)), (1, 1, (.t 25))]⟩,
  ⟨(some 27), none, .slc 43 2 false [(.t 26)]⟩,
  ⟨(some 28), none, .app 43 2 24 (.t 20) (.t 27)⟩,
  ⟨(some 29), none, .fld 2 (.t 5)⟩,
  ⟨none, none, .store 1 (.t 29) (.t 28)⟩]
theorem tr13_5 : TR Try.f13 32 5 = some a13_5 := by kernel_rfl
def a13_6 : List AO := [⟨(some 30), none, .bin .add (.t 15) (.v (.int .i64 1))⟩,
  ⟨(some 15), none, .mv (.t 30)⟩]
theorem tr13_6 : TR Try.f13 32 6 = some a13_6 := by kernel_rfl
def a13_7 : List AO := [⟨(some 31), none, .load (some 3) (.t 5)⟩,
  ⟨none, none, .store 3 (.t 4) (.t 31)⟩]
theorem tr13_7 : TR Try.f13 32 7 = some a13_7 := by kernel_rfl
/-- airline/airlineref53.Reverse -/
noncomputable def c14 : Code := .seq (.region 0 (ro Try.f14 0) false) (.seq (.region 1 (ro Try.f14 1) false) (.seq (.seq (.region 2 (ro Try.f14 2) false) (.block 0 (.loop (.seq (.seq (.region 3 (ro Try.f14 3) false) (.cond (.tmp 15) (.skip) (.exit 0))) (.seq (.block 1 (.region 5 (ro Try.f14 5) true)) (.region 4 (ro Try.f14 4) false)))))) (.seq (.region 6 (ro Try.f14 6) false) (.ret))))
theorem body14 : Try.f14.body = some c14 := by kernel_rfl
theorem res14 : Try.f14.results.toList.mapM (trR Try.prog) = some [.c (some 3) 4] := by kernel_rfl
theorem nt14 : Try.f14.ntmps = 38 := by kernel_rfl
theorem nm14 : (Try.f14.name == "runtime.NumGoroutine") = false := by kernel_rfl
def a14_0 : List AO := [⟨(some 2), none, .box 24 (.t 0)⟩,
  ⟨(some 4), none, .alloc 24 [(.int .i64 0), (.str []), .nils]⟩]
theorem tr14_0 : TR Try.f14 38 0 = some a14_0 := by kernel_rfl
def a14_1 : List AO := [⟨(some 7), none, .mv (.t 1)⟩,
  ⟨(some 8), none, .fld 1 (.t 2)⟩,
  ⟨(some 9), none, .load none (.t 8)⟩,
  ⟨(some 10), none, .build [(.int .i64 0), (.str []), .nils] [(0, 1, (.t 7)), (1, 1, (.t 9))]⟩,
  ⟨(some 5), none, .alloc 24 [(.int .i64 0), (.str []), .nils]⟩,
  ⟨none, none, .store 3 (.t 5) (.t 10)⟩]
theorem tr14_1 : TR Try.f14 38 1 = some a14_1 := by kernel_rfl
def a14_2 : List AO := [⟨(some 6), none, .mv (.v (.int .i64 0))⟩]
theorem tr14_2 : TR Try.f14 38 2 = some a14_2 := by kernel_rfl
def a14_3 : List AO := [⟨(some 11), none, .mv (.t 6)⟩,
  ⟨(some 12), none, .fld 2 (.t 2)⟩,
  ⟨(some 13), none, .load none (.t 12)⟩,
  ⟨(some 14), none, .len (.t 13)⟩,
  ⟨(some 15), none, .bin .lss (.t 11) (.t 14)⟩]
theorem tr14_3 : TR Try.f14 38 3 = some a14_3 := by kernel_rfl
def a14_5 : List AO := [⟨(some 18), none, .fld 2 (.t 5)⟩,
  ⟨(some 19), none, .load none (.t 18)⟩,
  ⟨(some 20), none, .fld 2 (.t 2)⟩,
  ⟨(some 21), none, .load none (.t 20)⟩,
  ⟨(some 22), none, .mv (.t 6)⟩,
  ⟨(some 23), none, .idx 2 (.t 21) (.t 22)⟩,
  ⟨(some 24), none, .fld 0 (.t 23)⟩,
  ⟨(some 25), none, .load none (.t 24)⟩,
  ⟨(some 26), none, .fld 2 (.t 2)⟩,
  ⟨(some 27), none, .load none (.t 26)⟩,
  ⟨(some 28), none, .mv (.t 6)⟩,
  ⟨(some 29), none, .idx 2 (.t 27) (.t 28)⟩,
  ⟨(some 30), none, .fld 1 (.t 29)⟩,
  ⟨(some 31), none, .load none (.t 30)⟩,
  ⟨(some 32), none, .un .neg (.t 31)⟩,
  ⟨(some 33), none, .build [(.str []), (.int .i64 0)] [(0, 1, (.t 25)), (1, 1, (.t 32))]⟩,
  ⟨(some 34), none, .slc 43 2 false [(.t 33)]⟩,
  ⟨(some 35), none, .app 43 2 24 (.t 19) (.t 34)⟩,
  ⟨(some 36), none, .fld 2 (.t 5)⟩,
  ⟨none, none, .store 1 (.t 36) (.t 35)⟩]
theorem tr14_5 : TR Try.f14 38 5 = some a14_5 := by kernel_rfl
def d14_5 : List (List Nat) := [[], [0], [], [2], [], [2, 3, 4], [2, 3, 4, 5], [2, 3, 4, 5, 6], [], [8], [], [8, 9, 10], [8, 9, 10, 11], [8, 9, 10, 11, 12], [8, 9, 10, 11, 12, 13], [2, 3, 4, 5, 6, 7, 8, 9, 10, 11, 12, 13, 14], [2, 3, 4, 5, 6, 7, 8, 9, 10, 11, 12, 13, 14, 15], [0, 1, 2, 3, 4, 5, 6, 7, 8, 9, 10, 11, 12, 13, 14, 15, 16], [0, 1, 2, 3, 4, 5, 6, 7, 8, 9, 10, 11, 12, 13, 14, 15, 16, 17], [0, 1, 2, 3, 4, 5, 6, 7, 8, 9, 10, 11, 12, 13, 14, 15, 16, 17, 18]]
theorem ok14_5 : okReg (ro Try.f14 5) a14_5 d14_5 = true := by kernel_rfl
def a14_4 : List AO := [⟨(some 16), none, .mv (.t 6)⟩,
  ⟨(some 17), none, .bin .add (.t 16) (.v (.int .i64 1))⟩,
  ⟨(some 6), none, .mv (.t 17)⟩]
theorem tr14_4 : TR Try.f14 38 4 = some a14_4 := by kernel_rfl
def a14_6 : List AO := [⟨(some 37), none, .load (some 3) (.t 5)⟩,
  ⟨none, none, .store 3 (.t 4) (.t 37)⟩]
theorem tr14_6 : TR Try.f14 38 6 = some a14_6 := by kernel_rfl
/-- airline/ledger.New -/
noncomputable def c15 : Code := .seq (.region 0 (ro Try.f15 0) false) (.seq (.region 1 (ro Try.f15 1) false) (.ret))
theorem body15 : Try.f15.body = some c15 := by kernel_rfl
theorem res15 : Try.f15.results.toList.mapM (trR Try.prog) = some [.t 0] := by kernel_rfl
theorem nt15 : Try.f15.ntmps = 4 := by kernel_rfl
theorem nm15 : (Try.f15.name == "runtime.NumGoroutine") = false := by kernel_rfl
def a15_0 : List AO := [⟨(some 0), none, .mv (.v .nilp)⟩]
theorem tr15_0 : TR Try.f15 4 0 = some a15_0 := by kernel_rfl
def a15_1 : List AO := [⟨(some 1), none, .mkmap⟩,
  ⟨(some 2), none, .build [.nils, .nilm] [(1, 1, (.t 1))]⟩,
  ⟨(some 3), none, .box 49 (.t 2)⟩,
  ⟨(some 0), none, .mv (.t 3)⟩]
theorem tr15_1 : TR Try.f15 4 1 = some a15_1 := by kernel_rfl
/-- airline/airlineref53.New -/
noncomputable def c16 : Code := .seq (.region 0 (ro Try.f16 0) false) (.seq (.region 1 (ro Try.f16 1) false) (.ret))
theorem body16 : Try.f16.body = some c16 := by kernel_rfl
theorem res16 : Try.f16.results.toList.mapM (trR Try.prog) = some [.t 0] := by kernel_rfl
theorem nt16 : Try.f16.ntmps = 3 := by kernel_rfl
theorem nm16 : (Try.f16.name == "runtime.NumGoroutine") = false := by kernel_rfl
def a16_0 : List AO := [⟨(some 0), none, .mv (.v .nilp)⟩]
theorem tr16_0 : TR Try.f16 3 0 = some a16_0 := by kernel_rfl
def a16_1 : List AO := [⟨(some 1), none, .build [.nils, (.bool false)] [(1, 1, (.v (.bool true)))]⟩,
  ⟨(some 2), none, .box 55 (.t 1)⟩,
  ⟨(some 0), none, .mv (.t 2)⟩]
theorem tr16_1 : TR Try.f16 3 1 = some a16_1 := by kernel_rfl
/-- (*airline/ledger.Ledger).Post -/
noncomputable def c17 : Code := .seq (.region 0 (ro Try.f17 0) false) (.seq (.seq (.region 1 (ro Try.f17 1) false) (.cond (.tmp 21) (.seq (.region 2 (ro Try.f17 2) false) (.ret)) (.skip))) (.seq (.seq (.region 3 (ro Try.f17 3) false) (.seq (.region 4 (ro Try.f17 4) false) (.cond (.tmp 25) (.seq (.region 5 (ro Try.f17 5) false) (.ret)) (.skip)))) (.seq (.region 6 (ro Try.f17 6) false) (.seq (.seq (.region 7 (ro Try.f17 7) false) (.block 0 (.loop (.seq (.region 8 (ro Try.f17 8) false) (.seq (.cond (.tmp 32) (.skip) (.exit 0)) (.seq (.block 1 (.seq (.region 9 (ro Try.f17 9) false) (.seq (.seq (.region 10 (ro Try.f17 10) false) (.seq (.region 11 (ro Try.f17 11) false) (.cond (.tmp 43) (.region 12 (ro Try.f17 12) true) (.skip)))) (.region 13 (ro Try.f17 13) false)))) (.region 14 (ro Try.f17 14) false))))))) (.seq (.seq (.region 15 (ro Try.f17 15) false) (.block 2 (.loop (.seq (.region 16 (ro Try.f17 16) false) (.seq (.cond (.tmp 65) (.skip) (.exit 2)) (.block 3 (.seq (.region 17 (ro Try.f17 17) false) (.seq (.region 18 (ro Try.f17 18) false) (.cond (.tmp 73) (.seq (.region 19 (ro Try.f17 19) false) (.ret)) (.skip)))))))))) (.seq (.region 20 (ro Try.f17 20) false) (.seq (.region 21 (ro Try.f17 21) false) (.seq (.region 22 (ro Try.f17 22) true) (.seq (.region 23 (ro Try.f17 23) false) (.ret))))))))))
theorem body17 : Try.f17.body = some c17 := by kernel_rfl
theorem res17 : Try.f17.results.toList.mapM (trR Try.prog) = some [.t 4] := by kernel_rfl
theorem nt17 : Try.f17.ntmps = 94 := by kernel_rfl
theorem nm17 : (Try.f17.name == "runtime.NumGoroutine") = false := by kernel_rfl
def a17_0 : List AO := [⟨(some 3), none, .box 24 (.t 1)⟩,
  ⟨(some 4), none, .mv (.v (.int .i64 0))⟩]
theorem tr17_0 : TR Try.f17 94 0 = some a17_0 := by kernel_rfl
def a17_1 : List AO := [⟨(some 13), none, .mv (.t 0)⟩,
  ⟨(some 14), none, .binp false .eql (.t 13) (.v .nilp)⟩,
  ⟨(some 15), none, .mv (.t 14)⟩,
  ⟨(some 16), some (15, false), .mv (.t 0)⟩,
  ⟨(some 17), some (15, false), .nchk (.t 16)⟩,
  ⟨(some 18), some (15, false), .fld 1 (.t 17)⟩,
  ⟨(some 19), some (15, false), .load none (.t 18)⟩,
  ⟨(some 20), some (15, false), .binp true .eql (.t 19) (.v .nilm)⟩,
  ⟨(some 21), none, .pick (.t 15) (.v (.bool true)) (.t 20)⟩]
theorem tr17_1 : TR Try.f17 94 1 = some a17_1 := by kernel_rfl
def a17_2 : List AO := [⟨(some 4), none, .mv (.v (.int .i64 1))⟩]
theorem tr17_2 : TR Try.f17 94 2 = some a17_2 := by kernel_rfl
def a17_3 : List AO := [⟨(some 22), none, .load (some 3) (.t 3)⟩,
  ⟨(some 23), none, .call 11 [(.t 22)]⟩,
  ⟨(some 5), none, .mv (.t 23)⟩]
theorem tr17_3 : TR Try.f17 94 3 = some a17_3 := by kernel_rfl
def a17_4 : List AO := [⟨(some 24), none, .mv (.t 5)⟩,
  ⟨(some 25), none, .bin .neq (.t 24) (.v (.int .i64 0))⟩]
theorem tr17_4 : TR Try.f17 94 4 = some a17_4 := by kernel_rfl
def a17_5 : List AO := [⟨(some 26), none, .mv (.t 5)⟩,
  ⟨(some 4), none, .mv (.t 26)⟩]
theorem tr17_5 : TR Try.f17 94 5 = some a17_5 := by kernel_rfl
def a17_6 : List AO := [⟨(some 27), none, .mkmap⟩,
  ⟨(some 6), none, .mv (.t 27)⟩]
theorem tr17_6 : TR Try.f17 94 6 = some a17_6 := by kernel_rfl
def a17_7 : List AO := [⟨(some 28), none, .fld 2 (.t 3)⟩,
  ⟨(some 29), none, .load none (.t 28)⟩,
  ⟨(some 30), none, .len (.t 29)⟩,
  ⟨(some 31), none, .mv (.v (.int .i64 0))⟩]
theorem tr17_7 : TR Try.f17 94 7 = some a17_7 := by kernel_rfl
def a17_8 : List AO := [⟨(some 32), none, .bin .lss (.t 31) (.t 30)⟩]
theorem tr17_8 : TR Try.f17 94 8 = some a17_8 := by kernel_rfl
def a17_9 : List AO := [⟨(some 33), none, .idx 2 (.t 29) (.t 31)⟩,
  ⟨(some 34), none, .load (some 2) (.t 33)⟩,
  ⟨(some 8), none, .alloc 43 [(.str []), (.int .i64 0)]⟩,
  ⟨none, none, .store 2 (.t 8) (.t 34)⟩]
theorem tr17_9 : TR Try.f17 94 9 = some a17_9 := by kernel_rfl
def a17_10 : List AO := [⟨(some 36), none, .mv (.t 6)⟩,
  ⟨(some 37), none, .fld 0 (.t 8)⟩,
  ⟨(some 38), none, .load none (.t 37)⟩,
  ⟨(some 39), none, .look 0 true (.int .i64 0) (.t 36) (.t 38)⟩,
  ⟨(some 35), none, .mv (.t 39)⟩,
  ⟨(some 40), none, .ext 0 (.t 35)⟩,
  ⟨(some 41), none, .ext 1 (.t 35)⟩,
  ⟨(some 9), none, .mv (.t 40)⟩,
  ⟨(some 10), none, .mv (.t 41)⟩]
theorem tr17_10 : TR Try.f17 94 10 = some a17_10 := by kernel_rfl
def a17_11 : List AO := [⟨(some 42), none, .mv (.t 10)⟩,
  ⟨(some 43), none, .un .not (.t 42)⟩]
theorem tr17_11 : TR Try.f17 94 11 = some a17_11 := by kernel_rfl
def a17_12 : List AO := [⟨(some 44), none, .mv (.t 6)⟩,
  ⟨(some 45), none, .fld 0 (.t 8)⟩,
  ⟨(some 46), none, .load none (.t 45)⟩,
  ⟨(some 47), none, .mv (.t 0)⟩,
  ⟨(some 48), none, .nchk (.t 47)⟩,
  ⟨(some 49), none, .fld 1 (.t 48)⟩,
  ⟨(some 50), none, .load none (.t 49)⟩,
  ⟨(some 51), none, .fld 0 (.t 8)⟩,
  ⟨(some 52), none, .load none (.t 51)⟩,
  ⟨(some 53), none, .look 0 false (.int .i64 0) (.t 50) (.t 52)⟩,
  ⟨none, none, .mset 0 (.t 44) (.t 46) (.t 53)⟩]
theorem tr17_12 : TR Try.f17 94 12 = some a17_12 := by kernel_rfl
def d17_12 : List (List Nat) := [[], [], [1], [], [3], [3, 4], [3, 4, 5], [], [7], [3, 4, 5, 6, 7, 8], [0, 1, 2, 3, 4, 5, 6, 7, 8, 9]]
theorem ok17_12 : okReg (ro Try.f17 12) a17_12 d17_12 = true := by kernel_rfl
def a17_13 : List AO := [⟨(some 54), none, .mv (.t 6)⟩,
  ⟨(some 55), none, .fld 0 (.t 8)⟩,
  ⟨(some 56), none, .load none (.t 55)⟩,
  ⟨(some 57), none, .look 0 false (.int .i64 0) (.t 54) (.t 56)⟩,
  ⟨(some 58), none, .fld 1 (.t 8)⟩,
  ⟨(some 59), none, .load none (.t 58)⟩,
  ⟨(some 60), none, .bin .add (.t 57) (.t 59)⟩,
  ⟨none, none, .mset 0 (.t 54) (.t 56) (.t 60)⟩]
theorem tr17_13 : TR Try.f17 94 13 = some a17_13 := by kernel_rfl
def a17_14 : List AO := [⟨(some 61), none, .bin .add (.t 31) (.v (.int .i64 1))⟩,
  ⟨(some 31), none, .mv (.t 61)⟩]
theorem tr17_14 : TR Try.f17 94 14 = some a17_14 := by kernel_rfl
-- region 15: not translated: !! range 47 t62
def a17_15p : List AO := [⟨(some 62), none, .mv (.t 6)⟩]
theorem tr17_15p : (ro Try.f17 15).toList.dropLast.mapM (trO Try.prog 94 (ro Try.f17 15)) = some a17_15p := by kernel_rfl
-- region 16: not translated: !! next false t63
-- region 17: not translated: !! entry t63
def a17_17s : List AO := [⟨(some 67), none, .ext 1 (.t 66)⟩,
  ⟨(some 12), none, .mv (.t 67)⟩]
theorem tr17_17s : (ro Try.f17 17).toList.tail.mapM (trO Try.prog 94 (ro Try.f17 17)) = some a17_17s := by kernel_rfl
def a17_18 : List AO := [⟨(some 68), none, .mv (.t 12)⟩,
  ⟨(some 69), none, .bin .lss (.t 68) (.v (.int .i64 (-1125899906842624)))⟩,
  ⟨(some 70), none, .mv (.t 69)⟩,
  ⟨(some 71), some (70, false), .mv (.t 12)⟩,
  ⟨(some 72), some (70, false), .bin .gtr (.t 71) (.v (.int .i64 1125899906842624))⟩,
  ⟨(some 73), none, .pick (.t 70) (.v (.bool true)) (.t 72)⟩]
theorem tr17_18 : TR Try.f17 94 18 = some a17_18 := by kernel_rfl
def a17_19 : List AO := [⟨(some 4), none, .mv (.v (.int .i64 11))⟩]
theorem tr17_19 : TR Try.f17 94 19 = some a17_19 := by kernel_rfl
def a17_20 : List AO := [⟨(some 74), none, .mv (.t 0)⟩,
  ⟨(some 75), none, .nchk (.t 74)⟩,
  ⟨(some 76), none, .fld 1 (.t 75)⟩,
  ⟨(some 77), none, .load none (.t 76)⟩,
  ⟨(some 78), none, .mv (.t 6)⟩,
  ⟨(some 79), none, .call 29 [(.t 77), (.t 78)]⟩]
theorem tr17_20 : TR Try.f17 94 20 = some a17_20 := by kernel_rfl
def a17_21 : List AO := [⟨(some 80), none, .fld 2 (.t 3)⟩,
  ⟨(some 81), none, .load none (.t 80)⟩,
  ⟨(some 82), none, .call 30 [(.t 81)]⟩,
  ⟨(some 83), none, .fld 2 (.t 3)⟩,
  ⟨none, none, .store 1 (.t 83) (.t 82)⟩]
theorem tr17_21 : TR Try.f17 94 21 = some a17_21 := by kernel_rfl
def a17_22 : List AO := [⟨(some 84), none, .mv (.t 0)⟩,
  ⟨(some 85), none, .mv (.t 0)⟩,
  ⟨(some 86), none, .nchk (.t 85)⟩,
  ⟨(some 87), none, .fld 0 (.t 86)⟩,
  ⟨(some 88), none, .load none (.t 87)⟩,
  ⟨(some 89), none, .load (some 3) (.t 3)⟩,
  ⟨(some 90), none, .slc 24 3 false [(.t 89)]⟩,
  ⟨(some 91), none, .app 24 3 48 (.t 88) (.t 90)⟩,
  ⟨(some 92), none, .nchk (.t 84)⟩,
  ⟨(some 93), none, .fld 0 (.t 92)⟩,
  ⟨none, none, .store 1 (.t 93) (.t 91)⟩]
theorem tr17_22 : TR Try.f17 94 22 = some a17_22 := by kernel_rfl
def d17_22 : List (List Nat) := [[], [], [1], [1, 2], [1, 2, 3], [], [5], [1, 2, 3, 4, 5, 6], [0, 1, 2, 3, 4, 5, 6, 7], [0, 1, 2, 3, 4, 5, 6, 7, 8], [0, 1, 2, 3, 4, 5, 6, 7, 8, 9]]
theorem ok17_22 : okReg (ro Try.f17 22) a17_22 d17_22 = true := by kernel_rfl
def a17_23 : List AO := [⟨(some 4), none, .mv (.v (.int .i64 0))⟩]
theorem tr17_23 : TR Try.f17 94 23 = some a17_23 := by kernel_rfl
/-- (*airline/airlineref53.Ledger).Post -/
noncomputable def c18 : Code := .seq (.region 0 (ro Try.f18 0) false) (.seq (.seq (.region 1 (ro Try.f18 1) false) (.cond (.tmp 17) (.seq (.region 2 (ro Try.f18 2) false) (.ret)) (.skip))) (.seq (.seq (.region 3 (ro Try.f18 3) false) (.seq (.region 4 (ro Try.f18 4) false) (.cond (.tmp 21) (.seq (.region 5 (ro Try.f18 5) false) (.ret)) (.skip)))) (.seq (.region 6 (ro Try.f18 6) true) (.seq (.seq (.region 7 (ro Try.f18 7) false) (.block 0 (.loop (.seq (.seq (.region 8 (ro Try.f18 8) false) (.cond (.tmp 36) (.skip) (.exit 0))) (.seq (.block 1 (.seq (.region 10 (ro Try.f18 10) false) (.seq (.region 11 (ro Try.f18 11) false) (.cond (.tmp 52) (.seq (.region 12 (ro Try.f18 12) false) (.ret)) (.skip))))) (.region 9 (ro Try.f18 9) false)))))) (.seq (.region 13 (ro Try.f18 13) false) (.seq (.region 14 (ro Try.f18 14) false) (.ret)))))))
theorem body18 : Try.f18.body = some c18 := by kernel_rfl
theorem res18 : Try.f18.results.toList.mapM (trR Try.prog) = some [.t 4] := by kernel_rfl
theorem nt18 : Try.f18.ntmps = 57 := by kernel_rfl
theorem nm18 : (Try.f18.name == "runtime.NumGoroutine") = false := by kernel_rfl
def a18_0 : List AO := [⟨(some 3), none, .box 24 (.t 1)⟩,
  ⟨(some 4), none, .mv (.v (.int .i64 0))⟩]
theorem tr18_0 : TR Try.f18 57 0 = some a18_0 := by kernel_rfl
def a18_1 : List AO := [⟨(some 9), none, .mv (.t 0)⟩,
  ⟨(some 10), none, .binp false .eql (.t 9) (.v .nilp)⟩,
  ⟨(some 11), none, .mv (.t 10)⟩,
  ⟨(some 12), some (11, false), .mv (.t 0)⟩,
  ⟨(some 13), some (11, false), .nchk (.t 12)⟩,
  ⟨(some 14), some (11, false), .fld 1 (.t 13)⟩,
  ⟨(some 15), some (11, false), .load none (.t 14)⟩,
  ⟨(some 16), some (11, false), .un .not (.t 15)⟩,
  ⟨(some 17), none, .pick (.t 11) (.v (.bool true)) (.t 16)⟩]
theorem tr18_1 : TR Try.f18 57 1 = some a18_1 := by kernel_rfl
def a18_2 : List AO := [⟨(some 4), none, .mv (.v (.int .i64 1))⟩]
theorem tr18_2 : TR Try.f18 57 2 = some a18_2 := by kernel_rfl
def a18_3 : List AO := [⟨(some 18), none, .load (some 3) (.t 3)⟩,
  ⟨(some 19), none, .call 10 [(.t 18)]⟩,
  ⟨(some 5), none, .mv (.t 19)⟩]
theorem tr18_3 : TR Try.f18 57 3 = some a18_3 := by kernel_rfl
def a18_4 : List AO := [⟨(some 20), none, .mv (.t 5)⟩,
  ⟨(some 21), none, .bin .neq (.t 20) (.v (.int .i64 0))⟩]
theorem tr18_4 : TR Try.f18 57 4 = some a18_4 := by kernel_rfl
def a18_5 : List AO := [⟨(some 22), none, .mv (.t 5)⟩,
  ⟨(some 4), none, .mv (.t 22)⟩]
theorem tr18_5 : TR Try.f18 57 5 = some a18_5 := by kernel_rfl
def a18_6 : List AO := [⟨(some 23), none, .slc 24 3 false []⟩,
  ⟨(some 24), none, .mv (.t 0)⟩,
  ⟨(some 25), none, .nchk (.t 24)⟩,
  ⟨(some 26), none, .fld 0 (.t 25)⟩,
  ⟨(some 27), none, .load none (.t 26)⟩,
  ⟨(some 28), none, .app 24 3 48 (.t 23) (.t 27)⟩,
  ⟨(some 29), none, .load (some 3) (.t 3)⟩,
  ⟨(some 30), none, .slc 24 3 false [(.t 29)]⟩,
  ⟨(some 31), none, .app 24 3 48 (.t 28) (.t 30)⟩,
  ⟨(some 6), none, .mv (.t 31)⟩]
theorem tr18_6 : TR Try.f18 57 6 = some a18_6 := by kernel_rfl
def d18_6 : List (List Nat) := [[], [], [1], [1, 2], [1, 2, 3], [0, 1, 2, 3, 4], [], [6], [0, 1, 2, 3, 4, 5, 6, 7], [0, 1, 2, 3, 4, 5, 6, 7, 8]]
theorem ok18_6 : okReg (ro Try.f18 6) a18_6 d18_6 = true := by kernel_rfl
def a18_7 : List AO := [⟨(some 7), none, .mv (.v (.int .i64 0))⟩]
theorem tr18_7 : TR Try.f18 57 7 = some a18_7 := by kernel_rfl
def a18_8 : List AO := [⟨(some 32), none, .mv (.t 7)⟩,
  ⟨(some 33), none, .fld 2 (.t 3)⟩,
  ⟨(some 34), none, .load none (.t 33)⟩,
  ⟨(some 35), none, .len (.t 34)⟩,
  ⟨(some 36), none, .bin .lss (.t 32) (.t 35)⟩]
theorem tr18_8 : TR Try.f18 57 8 = some a18_8 := by kernel_rfl
def a18_10 : List AO := [⟨(some 39), none, .mv (.t 6)⟩,
  ⟨(some 40), none, .fld 2 (.t 3)⟩,
  ⟨(some 41), none, .load none (.t 40)⟩,
  ⟨(some 42), none, .mv (.t 7)⟩,
  ⟨(some 43), none, .idx 2 (.t 41) (.t 42)⟩,
  ⟨(some 44), none, .fld 0 (.t 43)⟩,
  ⟨(some 45), none, .load none (.t 44)⟩,
  ⟨(some 46), none, .call 31 [(.t 39), (.t 45)]⟩,
  ⟨(some 8), none, .mv (.t 46)⟩]
theorem tr18_10 : TR Try.f18 57 10 = some a18_10 := by kernel_rfl
def a18_11 : List AO := [⟨(some 47), none, .mv (.t 8)⟩,
  ⟨(some 48), none, .bin .lss (.t 47) (.v (.int .i64 (-1125899906842624)))⟩,
  ⟨(some 49), none, .mv (.t 48)⟩,
  ⟨(some 50), some (49, false), .mv (.t 8)⟩,
  ⟨(some 51), some (49, false), .bin .gtr (.t 50) (.v (.int .i64 1125899906842624))⟩,
  ⟨(some 52), none, .pick (.t 49) (.v (.bool true)) (.t 51)⟩]
theorem tr18_11 : TR Try.f18 57 11 = some a18_11 := by kernel_rfl
def a18_12 : List AO := [⟨(some 4), none, .mv (.v (.int .i64 11))⟩]
theorem tr18_12 : TR Try.f18 57 12 = some a18_12 := by kernel_rfl
def a18_9 : List AO := [⟨(some 37), none, .mv (.t 7)⟩,
  ⟨(some 38), none, .bin .add (.t 37) (.v (.int .i64 1))⟩,
  ⟨(some 7), none, .mv (.t 38)⟩]
theorem tr18_9 : TR Try.f18 57 9 = some a18_9 := by kernel_rfl
def a18_13 : List AO := [⟨(some 53), none, .mv (.t 0)⟩,
  ⟨(some 54), none, .mv (.t 6)⟩,
  ⟨(some 55), none, .nchk (.t 53)⟩,
  ⟨(some 56), none, .fld 0 (.t 55)⟩,
  ⟨none, none, .store 1 (.t 56) (.t 54)⟩]
theorem tr18_13 : TR Try.f18 57 13 = some a18_13 := by kernel_rfl
def a18_14 : List AO := [⟨(some 4), none, .mv (.v (.int .i64 0))⟩]
theorem tr18_14 : TR Try.f18 57 14 = some a18_14 := by kernel_rfl
/-- airline/airlineref53.SamePosts -/
noncomputable def c19 : Code := .seq (.region 0 (ro Try.f19 0) false) (.seq (.seq (.region 1 (ro Try.f19 1) false) (.cond (.tmp 10) (.seq (.region 2 (ro Try.f19 2) false) (.ret)) (.skip))) (.seq (.seq (.region 3 (ro Try.f19 3) false) (.block 0 (.loop (.seq (.seq (.region 4 (ro Try.f19 4) false) (.cond (.tmp 14) (.skip) (.exit 0))) (.seq (.block 1 (.seq (.region 6 (ro Try.f19 6) true) (.cond (.tmp 25) (.seq (.region 7 (ro Try.f19 7) false) (.ret)) (.skip)))) (.region 5 (ro Try.f19 5) false)))))) (.seq (.region 8 (ro Try.f19 8) false) (.ret))))
theorem body19 : Try.f19.body = some c19 := by kernel_rfl
theorem res19 : Try.f19.results.toList.mapM (trR Try.prog) = some [.t 4] := by kernel_rfl
theorem nt19 : Try.f19.ntmps = 26 := by kernel_rfl
theorem nm19 : (Try.f19.name == "runtime.NumGoroutine") = false := by kernel_rfl
def a19_0 : List AO := [⟨(some 4), none, .mv (.v (.bool false))⟩]
theorem tr19_0 : TR Try.f19 26 0 = some a19_0 := by kernel_rfl
def a19_1 : List AO := [⟨(some 6), none, .mv (.t 0)⟩,
  ⟨(some 7), none, .len (.t 6)⟩,
  ⟨(some 8), none, .mv (.t 1)⟩,
  ⟨(some 9), none, .len (.t 8)⟩,
  ⟨(some 10), none, .bin .neq (.t 7) (.t 9)⟩]
theorem tr19_1 : TR Try.f19 26 1 = some a19_1 := by kernel_rfl
def a19_2 : List AO := [⟨(some 4), none, .mv (.v (.bool false))⟩]
theorem tr19_2 : TR Try.f19 26 2 = some a19_2 := by kernel_rfl
def a19_3 : List AO := [⟨(some 5), none, .mv (.v (.int .i64 0))⟩]
theorem tr19_3 : TR Try.f19 26 3 = some a19_3 := by kernel_rfl
def a19_4 : List AO := [⟨(some 11), none, .mv (.t 5)⟩,
  ⟨(some 12), none, .mv (.t 0)⟩,
  ⟨(some 13), none, .len (.t 12)⟩,
  ⟨(some 14), none, .bin .lss (.t 11) (.t 13)⟩]
theorem tr19_4 : TR Try.f19 26 4 = some a19_4 := by kernel_rfl
def a19_6 : List AO := [⟨(some 17), none, .mv (.t 0)⟩,
  ⟨(some 18), none, .mv (.t 5)⟩,
  ⟨(some 19), none, .idx 2 (.t 17) (.t 18)⟩,
  ⟨(some 20), none, .load (some 2) (.t 19)⟩,
  ⟨(some 21), none, .mv (.t 1)⟩,
  ⟨(some 22), none, .mv (.t 5)⟩,
  ⟨(some 23), none, .idx 2 (.t 21) (.t 22)⟩,
  ⟨(some 24), none, .load (some 2) (.t 23)⟩,
  ⟨(some 25), none, .bina [.s, .i .i64] .neq (.t 20) (.t 24)⟩]
theorem tr19_6 : TR Try.f19 26 6 = some a19_6 := by kernel_rfl
def d19_6 : List (List Nat) := [[], [], [0, 1], [0, 1, 2], [], [], [4, 5], [4, 5, 6], [0, 1, 2, 3, 4, 5, 6, 7]]
theorem ok19_6 : okReg (ro Try.f19 6) a19_6 d19_6 = true := by kernel_rfl
def a19_7 : List AO := [⟨(some 4), none, .mv (.v (.bool false))⟩]
theorem tr19_7 : TR Try.f19 26 7 = some a19_7 := by kernel_rfl
def a19_5 : List AO := [⟨(some 15), none, .mv (.t 5)⟩,
  ⟨(some 16), none, .bin .add (.t 15) (.v (.int .i64 1))⟩,
  ⟨(some 5), none, .mv (.t 16)⟩]
theorem tr19_5 : TR Try.f19 26 5 = some a19_5 := by kernel_rfl
def a19_8 : List AO := [⟨(some 4), none, .mv (.v (.bool true))⟩]
theorem tr19_8 : TR Try.f19 26 8 = some a19_8 := by kernel_rfl
/-- (*airline/ledger.Ledger).Trial -/
noncomputable def c20 : Code := .seq (.region 0 (ro Try.f20 0) false) (.seq (.seq (.region 1 (ro Try.f20 1) false) (.cond (.tmp 7) (.seq (.region 2 (ro Try.f20 2) false) (.ret)) (.skip))) (.seq (.region 3 (ro Try.f20 3) false) (.seq (.seq (.region 4 (ro Try.f20 4) false) (.block 0 (.loop (.seq (.region 5 (ro Try.f20 5) false) (.seq (.cond (.tmp 16) (.skip) (.exit 0)) (.seq (.block 1 (.seq (.region 6 (ro Try.f20 6) false) (.region 7 (ro Try.f20 7) false))) (.region 8 (ro Try.f20 8) false))))))) (.seq (.region 9 (ro Try.f20 9) false) (.ret)))))
theorem body20 : Try.f20.body = some c20 := by kernel_rfl
theorem res20 : Try.f20.results.toList.mapM (trR Try.prog) = some [.t 2] := by kernel_rfl
theorem nt20 : Try.f20.ntmps = 32 := by kernel_rfl
theorem nm20 : (Try.f20.name == "runtime.NumGoroutine") = false := by kernel_rfl
def a20_0 : List AO := [⟨(some 2), none, .mv (.v .nils)⟩]
theorem tr20_0 : TR Try.f20 32 0 = some a20_0 := by kernel_rfl
def a20_1 : List AO := [⟨(some 6), none, .mv (.t 0)⟩,
  ⟨(some 7), none, .binp false .eql (.t 6) (.v .nilp)⟩]
theorem tr20_1 : TR Try.f20 32 1 = some a20_1 := by kernel_rfl
def a20_2 : List AO := [⟨(some 2), none, .mv (.v .nils)⟩]
theorem tr20_2 : TR Try.f20 32 2 = some a20_2 := by kernel_rfl
def a20_3 : List AO := [⟨(some 3), none, .mv (.v .nils)⟩]
theorem tr20_3 : TR Try.f20 32 3 = some a20_3 := by kernel_rfl
def a20_4 : List AO := [⟨(some 8), none, .mv (.t 0)⟩,
  ⟨(some 9), none, .nchk (.t 8)⟩,
  ⟨(some 10), none, .fld 1 (.t 9)⟩,
  ⟨(some 11), none, .load none (.t 10)⟩,
  ⟨(some 12), none, .call 33 [(.t 11)]⟩,
  ⟨(some 13), none, .call 32 [(.t 12)]⟩,
  ⟨(some 14), none, .len (.t 13)⟩,
  ⟨(some 15), none, .mv (.v (.int .i64 0))⟩]
theorem tr20_4 : TR Try.f20 32 4 = some a20_4 := by kernel_rfl
def a20_5 : List AO := [⟨(some 16), none, .bin .lss (.t 15) (.t 14)⟩]
theorem tr20_5 : TR Try.f20 32 5 = some a20_5 := by kernel_rfl
def a20_6 : List AO := [⟨(some 17), none, .idx 1 (.t 13) (.t 15)⟩,
  ⟨(some 18), none, .load none (.t 17)⟩,
  ⟨(some 5), none, .mv (.t 18)⟩]
theorem tr20_6 : TR Try.f20 32 6 = some a20_6 := by kernel_rfl
def a20_7 : List AO := [⟨(some 19), none, .mv (.t 3)⟩,
  ⟨(some 20), none, .mv (.t 5)⟩,
  ⟨(some 21), none, .mv (.t 0)⟩,
  ⟨(some 22), none, .nchk (.t 21)⟩,
  ⟨(some 23), none, .fld 1 (.t 22)⟩,
  ⟨(some 24), none, .load none (.t 23)⟩,
  ⟨(some 25), none, .mv (.t 5)⟩,
  ⟨(some 26), none, .look 0 false (.int .i64 0) (.t 24) (.t 25)⟩,
  ⟨(some 27), none, .build [(.str []), (.int .i64 0)] [(0, 1, (.t 20)), (1, 1, (.t 26))]⟩,
  ⟨(some 28), none, .slc 43 2 false [(.t 27)]⟩,
  ⟨(some 29), none, .app 43 2 24 (.t 19) (.t 28)⟩,
  ⟨(some 3), none, .mv (.t 29)⟩]
theorem tr20_7 : TR Try.f20 32 7 = some a20_7 := by kernel_rfl
def a20_8 : List AO := [⟨(some 30), none, .bin .add (.t 15) (.v (.int .i64 1))⟩,
  ⟨(some 15), none, .mv (.t 30)⟩]
theorem tr20_8 : TR Try.f20 32 8 = some a20_8 := by kernel_rfl
def a20_9 : List AO := [⟨(some 31), none, .mv (.t 3)⟩,
  ⟨(some 2), none, .mv (.t 31)⟩]
theorem tr20_9 : TR Try.f20 32 9 = some a20_9 := by kernel_rfl
/-- (*airline/airlineref53.Ledger).Trial -/
noncomputable def c21 : Code := .seq (.region 0 (ro Try.f21 0) false) (.seq (.region 1 (ro Try.f21 1) false) (.seq (.seq (.region 2 (ro Try.f21 2) false) (.block 0 (.loop (.seq (.seq (.region 3 (ro Try.f21 3) false) (.cond (.tmp 17) (.skip) (.exit 0))) (.seq (.block 1 (.seq (.region 5 (ro Try.f21 5) false) (.block 2 (.loop (.seq (.seq (.region 6 (ro Try.f21 6) false) (.cond (.tmp 30) (.skip) (.exit 2))) (.seq (.block 3 (.seq (.region 8 (ro Try.f21 8) false) (.region 9 (ro Try.f21 9) false))) (.region 7 (ro Try.f21 7) false))))))) (.region 4 (ro Try.f21 4) false)))))) (.seq (.region 10 (ro Try.f21 10) false) (.ret))))
theorem body21 : Try.f21.body = some c21 := by kernel_rfl
theorem res21 : Try.f21.results.toList.mapM (trR Try.prog) = some [.t 2] := by kernel_rfl
theorem nt21 : Try.f21.ntmps = 53 := by kernel_rfl
theorem nm21 : (Try.f21.name == "runtime.NumGoroutine") = false := by kernel_rfl
def a21_0 : List AO := [⟨(some 2), none, .mv (.v .nils)⟩]
theorem tr21_0 : TR Try.f21 53 0 = some a21_0 := by kernel_rfl
def a21_1 : List AO := [⟨(some 3), none, .mv (.v .nils)⟩]
theorem tr21_1 : TR Try.f21 53 1 = some a21_1 := by kernel_rfl
def a21_2 : List AO := [⟨(some 4), none, .mv (.v (.int .i64 0))⟩]
theorem tr21_2 : TR Try.f21 53 2 = some a21_2 := by kernel_rfl
def a21_3 : List AO := [⟨(some 7), none, .mv (.t 0)⟩,
  ⟨(some 8), none, .binp false .neq (.t 7) (.v .nilp)⟩,
  ⟨(some 9), none, .mv (.t 8)⟩,
  ⟨(some 10), some (9, true), .mv (.t 4)⟩,
  ⟨(some 11), some (9, true), .mv (.t 0)⟩,
  ⟨(some 12), some (9, true), .nchk (.t 11)⟩,
  ⟨(some 13), some (9, true), .fld 0 (.t 12)⟩,
  ⟨(some 14), some (9, true), .load none (.t 13)⟩,
  ⟨(some 15), some (9, true), .len (.t 14)⟩,
  ⟨(some 16), some (9, true), .bin .lss (.t 10) (.t 15)⟩,
  ⟨(some 17), none, .pick (.t 9) (.t 16) (.v (.bool false))⟩]
theorem tr21_3 : TR Try.f21 53 3 = some a21_3 := by kernel_rfl
def a21_5 : List AO := [⟨(some 5), none, .mv (.v (.int .i64 0))⟩]
theorem tr21_5 : TR Try.f21 53 5 = some a21_5 := by kernel_rfl
def a21_6 : List AO := [⟨(some 20), none, .mv (.t 5)⟩,
  ⟨(some 21), none, .mv (.t 0)⟩,
  ⟨(some 22), none, .nchk (.t 21)⟩,
  ⟨(some 23), none, .fld 0 (.t 22)⟩,
  ⟨(some 24), none, .load none (.t 23)⟩,
  ⟨(some 25), none, .mv (.t 4)⟩,
  ⟨(some 26), none, .idx 3 (.t 24) (.t 25)⟩,
  ⟨(some 27), none, .fld 2 (.t 26)⟩,
  ⟨(some 28), none, .load none (.t 27)⟩,
  ⟨(some 29), none, .len (.t 28)⟩,
  ⟨(some 30), none, .bin .lss (.t 20) (.t 29)⟩]
theorem tr21_6 : TR Try.f21 53 6 = some a21_6 := by kernel_rfl
def a21_8 : List AO := [⟨(some 33), none, .mv (.t 0)⟩,
  ⟨(some 34), none, .nchk (.t 33)⟩,
  ⟨(some 35), none, .fld 0 (.t 34)⟩,
  ⟨(some 36), none, .load none (.t 35)⟩,
  ⟨(some 37), none, .mv (.t 4)⟩,
  ⟨(some 38), none, .idx 3 (.t 36) (.t 37)⟩,
  ⟨(some 39), none, .fld 2 (.t 38)⟩,
  ⟨(some 40), none, .load none (.t 39)⟩,
  ⟨(some 41), none, .mv (.t 5)⟩,
  ⟨(some 42), none, .idx 2 (.t 40) (.t 41)⟩,
  ⟨(some 43), none, .fld 0 (.t 42)⟩,
  ⟨(some 44), none, .load none (.t 43)⟩,
  ⟨(some 6), none, .mv (.t 44)⟩]
theorem tr21_8 : TR Try.f21 53 8 = some a21_8 := by kernel_rfl
def a21_9 : List AO := [⟨(some 45), none, .mv (.t 3)⟩,
  ⟨(some 46), none, .mv (.t 6)⟩,
  ⟨(some 47), none, .mv (.t 0)⟩,
  ⟨(some 48), none, .mv (.t 6)⟩,
  ⟨(some 49), none, .call 23 [(.t 47), (.t 48)]⟩,
  ⟨(some 50), none, .build [(.str []), (.int .i64 0)] [(0, 1, (.t 46)), (1, 1, (.t 49))]⟩,
  ⟨(some 51), none, .call 34 [(.t 45), (.t 50)]⟩,
  ⟨(some 3), none, .mv (.t 51)⟩]
theorem tr21_9 : TR Try.f21 53 9 = some a21_9 := by kernel_rfl
def a21_7 : List AO := [⟨(some 31), none, .mv (.t 5)⟩,
  ⟨(some 32), none, .bin .add (.t 31) (.v (.int .i64 1))⟩,
  ⟨(some 5), none, .mv (.t 32)⟩]
theorem tr21_7 : TR Try.f21 53 7 = some a21_7 := by kernel_rfl
def a21_4 : List AO := [⟨(some 18), none, .mv (.t 4)⟩,
  ⟨(some 19), none, .bin .add (.t 18) (.v (.int .i64 1))⟩,
  ⟨(some 4), none, .mv (.t 19)⟩]
theorem tr21_4 : TR Try.f21 53 4 = some a21_4 := by kernel_rfl
def a21_10 : List AO := [⟨(some 52), none, .mv (.t 3)⟩,
  ⟨(some 2), none, .mv (.t 52)⟩]
theorem tr21_10 : TR Try.f21 53 10 = some a21_10 := by kernel_rfl
/-- (*airline/ledger.Ledger).Balance -/
noncomputable def c22 : Code := .seq (.region 0 (ro Try.f22 0) false) (.seq (.seq (.region 1 (ro Try.f22 1) false) (.cond (.tmp 6) (.seq (.region 2 (ro Try.f22 2) false) (.ret)) (.skip))) (.seq (.region 3 (ro Try.f22 3) false) (.ret)))
theorem body22 : Try.f22.body = some c22 := by kernel_rfl
theorem res22 : Try.f22.results.toList.mapM (trR Try.prog) = some [.t 4] := by kernel_rfl
theorem nt22 : Try.f22.ntmps = 13 := by kernel_rfl
theorem nm22 : (Try.f22.name == "runtime.NumGoroutine") = false := by kernel_rfl
def a22_0 : List AO := [⟨(some 4), none, .mv (.v (.int .i64 0))⟩]
theorem tr22_0 : TR Try.f22 13 0 = some a22_0 := by kernel_rfl
def a22_1 : List AO := [⟨(some 5), none, .mv (.t 0)⟩,
  ⟨(some 6), none, .binp false .eql (.t 5) (.v .nilp)⟩]
theorem tr22_1 : TR Try.f22 13 1 = some a22_1 := by kernel_rfl
def a22_2 : List AO := [⟨(some 4), none, .mv (.v (.int .i64 0))⟩]
theorem tr22_2 : TR Try.f22 13 2 = some a22_2 := by kernel_rfl
def a22_3 : List AO := [⟨(some 7), none, .mv (.t 0)⟩,
  ⟨(some 8), none, .nchk (.t 7)⟩,
  ⟨(some 9), none, .fld 1 (.t 8)⟩,
  ⟨(some 10), none, .load none (.t 9)⟩,
  ⟨(some 11), none, .mv (.t 1)⟩,
  ⟨(some 12), none, .look 0 false (.int .i64 0) (.t 10) (.t 11)⟩,
  ⟨(some 4), none, .mv (.t 12)⟩]
theorem tr22_3 : TR Try.f22 13 3 = some a22_3 := by kernel_rfl
/-- (*airline/airlineref53.Ledger).Balance -/
noncomputable def c23 : Code := .seq (.region 0 (ro Try.f23 0) false) (.seq (.seq (.region 1 (ro Try.f23 1) false) (.cond (.tmp 6) (.seq (.region 2 (ro Try.f23 2) false) (.ret)) (.skip))) (.seq (.region 3 (ro Try.f23 3) false) (.ret)))
theorem body23 : Try.f23.body = some c23 := by kernel_rfl
theorem res23 : Try.f23.results.toList.mapM (trR Try.prog) = some [.t 4] := by kernel_rfl
theorem nt23 : Try.f23.ntmps = 13 := by kernel_rfl
theorem nm23 : (Try.f23.name == "runtime.NumGoroutine") = false := by kernel_rfl
def a23_0 : List AO := [⟨(some 4), none, .mv (.v (.int .i64 0))⟩]
theorem tr23_0 : TR Try.f23 13 0 = some a23_0 := by kernel_rfl
def a23_1 : List AO := [⟨(some 5), none, .mv (.t 0)⟩,
  ⟨(some 6), none, .binp false .eql (.t 5) (.v .nilp)⟩]
theorem tr23_1 : TR Try.f23 13 1 = some a23_1 := by kernel_rfl
def a23_2 : List AO := [⟨(some 4), none, .mv (.v (.int .i64 0))⟩]
theorem tr23_2 : TR Try.f23 13 2 = some a23_2 := by kernel_rfl
def a23_3 : List AO := [⟨(some 7), none, .mv (.t 0)⟩,
  ⟨(some 8), none, .nchk (.t 7)⟩,
  ⟨(some 9), none, .fld 0 (.t 8)⟩,
  ⟨(some 10), none, .load none (.t 9)⟩,
  ⟨(some 11), none, .mv (.t 1)⟩,
  ⟨(some 12), none, .call 31 [(.t 10), (.t 11)]⟩,
  ⟨(some 4), none, .mv (.t 12)⟩]
theorem tr23_3 : TR Try.f23 13 3 = some a23_3 := by kernel_rfl
/-- (*airline/ledger.Ledger).Entries -/
noncomputable def c24 : Code := .seq (.region 0 (ro Try.f24 0) false) (.seq (.seq (.region 1 (ro Try.f24 1) false) (.cond (.tmp 11) (.seq (.region 2 (ro Try.f24 2) false) (.ret)) (.skip))) (.seq (.region 3 (ro Try.f24 3) false) (.seq (.seq (.region 4 (ro Try.f24 4) false) (.block 0 (.loop (.seq (.region 5 (ro Try.f24 5) false) (.seq (.cond (.tmp 18) (.skip) (.exit 0)) (.seq (.block 1 (.seq (.region 6 (ro Try.f24 6) false) (.seq (.region 7 (ro Try.f24 7) false) (.cond (.tmp 30) (.seq (.region 8 (ro Try.f24 8) false) (.region 9 (ro Try.f24 9) false)) (.skip))))) (.region 10 (ro Try.f24 10) false))))))) (.seq (.region 11 (ro Try.f24 11) false) (.ret)))))
theorem body24 : Try.f24.body = some c24 := by kernel_rfl
theorem res24 : Try.f24.results.toList.mapM (trR Try.prog) = some [.t 6] := by kernel_rfl
theorem nt24 : Try.f24.ntmps = 41 := by kernel_rfl
theorem nm24 : (Try.f24.name == "runtime.NumGoroutine") = false := by kernel_rfl
def a24_0 : List AO := [⟨(some 6), none, .mv (.v .nils)⟩]
theorem tr24_0 : TR Try.f24 41 0 = some a24_0 := by kernel_rfl
def a24_1 : List AO := [⟨(some 10), none, .mv (.t 0)⟩,
  ⟨(some 11), none, .binp false .eql (.t 10) (.v .nilp)⟩]
theorem tr24_1 : TR Try.f24 41 1 = some a24_1 := by kernel_rfl
def a24_2 : List AO := [⟨(some 6), none, .mv (.v .nils)⟩]
theorem tr24_2 : TR Try.f24 41 2 = some a24_2 := by kernel_rfl
def a24_3 : List AO := [⟨(some 7), none, .mv (.v .nils)⟩]
theorem tr24_3 : TR Try.f24 41 3 = some a24_3 := by kernel_rfl
def a24_4 : List AO := [⟨(some 12), none, .mv (.t 0)⟩,
  ⟨(some 13), none, .nchk (.t 12)⟩,
  ⟨(some 14), none, .fld 0 (.t 13)⟩,
  ⟨(some 15), none, .load none (.t 14)⟩,
  ⟨(some 16), none, .len (.t 15)⟩,
  ⟨(some 17), none, .mv (.v (.int .i64 0))⟩]
theorem tr24_4 : TR Try.f24 41 4 = some a24_4 := by kernel_rfl
def a24_5 : List AO := [⟨(some 18), none, .bin .lss (.t 17) (.t 16)⟩]
theorem tr24_5 : TR Try.f24 41 5 = some a24_5 := by kernel_rfl
def a24_6 : List AO := [⟨(some 19), none, .idx 3 (.t 15) (.t 17)⟩,
  ⟨(some 20), none, .load (some 3) (.t 19)⟩,
  ⟨(some 9), none, .alloc 24 [(.int .i64 0), (.str []), .nils]⟩,
  ⟨none, none, .store 3 (.t 9) (.t 20)⟩]
theorem tr24_6 : TR Try.f24 41 6 = some a24_6 := by kernel_rfl
def a24_7 : List AO := [⟨(some 21), none, .fld 0 (.t 9)⟩,
  ⟨(some 22), none, .load none (.t 21)⟩,
  ⟨(some 23), none, .mv (.t 1)⟩,
  ⟨(some 24), none, .bin .geq (.t 22) (.t 23)⟩,
  ⟨(some 25), none, .mv (.t 24)⟩,
  ⟨(some 26), some (25, true), .fld 0 (.t 9)⟩,
  ⟨(some 27), some (25, true), .load none (.t 26)⟩,
  ⟨(some 28), some (25, true), .mv (.t 2)⟩,
  ⟨(some 29), some (25, true), .bin .leq (.t 27) (.t 28)⟩,
  ⟨(some 30), none, .pick (.t 25) (.t 29) (.v (.bool false))⟩]
theorem tr24_7 : TR Try.f24 41 7 = some a24_7 := by kernel_rfl
def a24_8 : List AO := [⟨(some 31), none, .fld 2 (.t 9)⟩,
  ⟨(some 32), none, .load none (.t 31)⟩,
  ⟨(some 33), none, .call 30 [(.t 32)]⟩,
  ⟨(some 34), none, .fld 2 (.t 9)⟩,
  ⟨none, none, .store 1 (.t 34) (.t 33)⟩]
theorem tr24_8 : TR Try.f24 41 8 = some a24_8 := by kernel_rfl
def a24_9 : List AO := [⟨(some 35), none, .mv (.t 7)⟩,
  ⟨(some 36), none, .load (some 3) (.t 9)⟩,
  ⟨(some 37), none, .slc 24 3 false [(.t 36)]⟩,
  ⟨(some 38), none, .app 24 3 48 (.t 35) (.t 37)⟩,
  ⟨(some 7), none, .mv (.t 38)⟩]
theorem tr24_9 : TR Try.f24 41 9 = some a24_9 := by kernel_rfl
def a24_10 : List AO := [⟨(some 39), none, .bin .add (.t 17) (.v (.int .i64 1))⟩,
  ⟨(some 17), none, .mv (.t 39)⟩]
theorem tr24_10 : TR Try.f24 41 10 = some a24_10 := by kernel_rfl
def a24_11 : List AO := [⟨(some 40), none, .mv (.t 7)⟩,
  ⟨(some 6), none, .mv (.t 40)⟩]
theorem tr24_11 : TR Try.f24 41 11 = some a24_11 := by kernel_rfl
/-- (*airline/airlineref53.Ledger).Entries -/
noncomputable def c25 : Code := .seq (.region 0 (ro Try.f25 0) false) (.seq (.region 1 (ro Try.f25 1) false) (.seq (.seq (.region 2 (ro Try.f25 2) false) (.block 0 (.loop (.seq (.seq (.region 3 (ro Try.f25 3) false) (.cond (.tmp 19) (.skip) (.exit 0))) (.seq (.block 1 (.seq (.region 5 (ro Try.f25 5) false) (.cond (.tmp 43) (.region 6 (ro Try.f25 6) false) (.skip)))) (.region 4 (ro Try.f25 4) false)))))) (.seq (.region 7 (ro Try.f25 7) false) (.ret))))
theorem body25 : Try.f25.body = some c25 := by kernel_rfl
theorem res25 : Try.f25.results.toList.mapM (trR Try.prog) = some [.t 6] := by kernel_rfl
theorem nt25 : Try.f25.ntmps = 55 := by kernel_rfl
theorem nm25 : (Try.f25.name == "runtime.NumGoroutine") = false := by kernel_rfl
def a25_0 : List AO := [⟨(some 6), none, .mv (.v .nils)⟩]
theorem tr25_0 : TR Try.f25 55 0 = some a25_0 := by kernel_rfl
def a25_1 : List AO := [⟨(some 7), none, .mv (.v .nils)⟩]
theorem tr25_1 : TR Try.f25 55 1 = some a25_1 := by kernel_rfl
def a25_2 : List AO := [⟨(some 8), none, .mv (.v (.int .i64 0))⟩]
theorem tr25_2 : TR Try.f25 55 2 = some a25_2 := by kernel_rfl
def a25_3 : List AO := [⟨(some 9), none, .mv (.t 0)⟩,
  ⟨(some 10), none, .binp false .neq (.t 9) (.v .nilp)⟩,
  ⟨(some 11), none, .mv (.t 10)⟩,
  ⟨(some 12), some (11, true), .mv (.t 8)⟩,
  ⟨(some 13), some (11, true), .mv (.t 0)⟩,
  ⟨(some 14), some (11, true), .nchk (.t 13)⟩,
  ⟨(some 15), some (11, true), .fld 0 (.t 14)⟩,
  ⟨(some 16), some (11, true), .load none (.t 15)⟩,
  ⟨(some 17), some (11, true), .len (.t 16)⟩,
  ⟨(some 18), some (11, true), .bin .lss (.t 12) (.t 17)⟩,
  ⟨(some 19), none, .pick (.t 11) (.t 18) (.v (.bool false))⟩]
theorem tr25_3 : TR Try.f25 55 3 = some a25_3 := by kernel_rfl
def a25_5 : List AO := [⟨(some 22), none, .mv (.t 0)⟩,
  ⟨(some 23), none, .nchk (.t 22)⟩,
  ⟨(some 24), none, .fld 0 (.t 23)⟩,
  ⟨(some 25), none, .load none (.t 24)⟩,
  ⟨(some 26), none, .mv (.t 8)⟩,
  ⟨(some 27), none, .idx 3 (.t 25) (.t 26)⟩,
  ⟨(some 28), none, .fld 0 (.t 27)⟩,
  ⟨(some 29), none, .load none (.t 28)⟩,
  ⟨(some 30), none, .mv (.t 1)⟩,
  ⟨(some 31), none, .bin .geq (.t 29) (.t 30)⟩,
  ⟨(some 32), none, .mv (.t 31)⟩,
  ⟨(some 33), some (32, true), .mv (.t 0)⟩,
  ⟨(some 34), some (32, true), .nchk (.t 33)⟩,
  ⟨(some 35), some (32, true), .fld 0 (.t 34)⟩,
  ⟨(some 36), some (32, true), .load none (.t 35)⟩,
  ⟨(some 37), some (32, true), .mv (.t 8)⟩,
  ⟨(some 38), some (32, true), .idx 3 (.t 36) (.t 37)⟩,
  ⟨(some 39), some (32, true), .fld 0 (.t 38)⟩,
  ⟨(some 40), some (32, true), .load none (.t 39)⟩,
  ⟨(some 41), some (32, true), .mv (.t 2)⟩,
  ⟨(some 42), some (32, true), .bin .leq (.t 40) (.t 41)⟩,
  ⟨(some 43), none, .pick (.t 32) (.t 42) (.v (.bool false))⟩]
theorem tr25_5 : TR Try.f25 55 5 = some a25_5 := by kernel_rfl
def a25_6 : List AO := [⟨(some 44), none, .mv (.t 7)⟩,
  ⟨(some 45), none, .mv (.t 0)⟩,
  ⟨(some 46), none, .nchk (.t 45)⟩,
  ⟨(some 47), none, .fld 0 (.t 46)⟩,
  ⟨(some 48), none, .load none (.t 47)⟩,
  ⟨(some 49), none, .mv (.t 8)⟩,
  ⟨(some 50), none, .idx 3 (.t 48) (.t 49)⟩,
  ⟨(some 51), none, .load (some 3) (.t 50)⟩,
  ⟨(some 52), none, .slc 24 3 false [(.t 51)]⟩,
  ⟨(some 53), none, .app 24 3 48 (.t 44) (.t 52)⟩,
  ⟨(some 7), none, .mv (.t 53)⟩]
theorem tr25_6 : TR Try.f25 55 6 = some a25_6 := by kernel_rfl
def a25_4 : List AO := [⟨(some 20), none, .mv (.t 8)⟩,
  ⟨(some 21), none, .bin .add (.t 20) (.v (.int .i64 1))⟩,
  ⟨(some 8), none, .mv (.t 21)⟩]
theorem tr25_4 : TR Try.f25 55 4 = some a25_4 := by kernel_rfl
def a25_7 : List AO := [⟨(some 54), none, .mv (.t 7)⟩,
  ⟨(some 6), none, .mv (.t 54)⟩]
theorem tr25_7 : TR Try.f25 55 7 = some a25_7 := by kernel_rfl
/-- airline/airlinelaw53.two -/
noncomputable def c26 : Code := .seq (.region 0 (ro Try.f26 0) false) (.seq (.region 1 (ro Try.f26 1) false) (.ret))
theorem body26 : Try.f26.body = some c26 := by kernel_rfl
theorem res26 : Try.f26.results.toList.mapM (trR Try.prog) = some [.c (some 3) 8] := by kernel_rfl
theorem nt26 : Try.f26.ntmps = 19 := by kernel_rfl
theorem nm26 : (Try.f26.name == "runtime.NumGoroutine") = false := by kernel_rfl
def a26_0 : List AO := [⟨(some 8), none, .alloc 24 [(.int .i64 0), (.str []), .nils]⟩]
theorem tr26_0 : TR Try.f26 19 0 = some a26_0 := by kernel_rfl
def a26_1 : List AO := [⟨(some 9), none, .mv (.t 0)⟩,
  ⟨(some 10), none, .mv (.t 1)⟩,
  ⟨(some 11), none, .mv (.t 3)⟩,
  ⟨(some 12), none, .build [(.str []), (.int .i64 0)] [(0, 1, (.t 10)), (1, 1, (.t 11))]⟩,
  ⟨(some 13), none, .mv (.t 2)⟩,
  ⟨(some 14), none, .mv (.t 3)⟩,
  ⟨(some 15), none, .un .neg (.t 14)⟩,
  ⟨(some 16), none, .build [(.str []), (.int .i64 0)] [(0, 1, (.t 13)), (1, 1, (.t 15))]⟩,
  ⟨(some 17), none, .slc 43 2 false [(.t 12), (.t 16)]⟩,
  ⟨(some 18), none, .build [(.int .i64 0), (.str []), .nils] [(0, 1, (.t 9)), (1, 1, (.v (.str [116]))), (2, 1, (.t 17))]⟩,
  ⟨none, none, .store 3 (.t 8) (.t 18)⟩]
theorem tr26_1 : TR Try.f26 19 1 = some a26_1 := by kernel_rfl
/-- airline/airlineref53.account -/
noncomputable def c27 : Code := .seq (.region 0 (ro Try.f27 0) false) (.seq (.seq (.region 1 (ro Try.f27 1) false) (.cond (.tmp 11) (.seq (.region 2 (ro Try.f27 2) false) (.ret)) (.skip))) (.seq (.seq (.region 3 (ro Try.f27 3) false) (.block 0 (.loop (.seq (.seq (.region 4 (ro Try.f27 4) false) (.cond (.tmp 15) (.skip) (.exit 0))) (.seq (.block 1 (.seq (.region 6 (ro Try.f27 6) false) (.cond (.tmp 46) (.seq (.region 7 (ro Try.f27 7) false) (.ret)) (.skip)))) (.region 5 (ro Try.f27 5) false)))))) (.seq (.region 8 (ro Try.f27 8) false) (.ret))))
theorem body27 : Try.f27.body = some c27 := by kernel_rfl
theorem res27 : Try.f27.results.toList.mapM (trR Try.prog) = some [.t 2] := by kernel_rfl
theorem nt27 : Try.f27.ntmps = 47 := by kernel_rfl
theorem nm27 : (Try.f27.name == "runtime.NumGoroutine") = false := by kernel_rfl
def a27_0 : List AO := [⟨(some 2), none, .mv (.v (.bool false))⟩]
theorem tr27_0 : TR Try.f27 47 0 = some a27_0 := by kernel_rfl
def a27_1 : List AO := [⟨(some 4), none, .mv (.t 0)⟩,
  ⟨(some 5), none, .slen (.t 4)⟩,
  ⟨(some 6), none, .bin .lss (.t 5) (.v (.int .i64 1))⟩,
  ⟨(some 7), none, .mv (.t 6)⟩,
  ⟨(some 8), some (7, false), .mv (.t 0)⟩,
  ⟨(some 9), some (7, false), .slen (.t 8)⟩,
  ⟨(some 10), some (7, false), .bin .gtr (.t 9) (.v (.int .i64 30))⟩,
  ⟨(some 11), none, .pick (.t 7) (.v (.bool true)) (.t 10)⟩]
theorem tr27_1 : TR Try.f27 47 1 = some a27_1 := by kernel_rfl
def a27_2 : List AO := [⟨(some 2), none, .mv (.v (.bool false))⟩]
theorem tr27_2 : TR Try.f27 47 2 = some a27_2 := by kernel_rfl
def a27_3 : List AO := [⟨(some 3), none, .mv (.v (.int .i64 0))⟩]
theorem tr27_3 : TR Try.f27 47 3 = some a27_3 := by kernel_rfl
def a27_4 : List AO := [⟨(some 12), none, .mv (.t 3)⟩,
  ⟨(some 13), none, .mv (.t 0)⟩,
  ⟨(some 14), none, .slen (.t 13)⟩,
  ⟨(some 15), none, .bin .lss (.t 12) (.t 14)⟩]
theorem tr27_4 : TR Try.f27 47 4 = some a27_4 := by kernel_rfl
def a27_6 : List AO := [⟨(some 18), none, .mv (.t 0)⟩,
  ⟨(some 19), none, .mv (.t 3)⟩,
  ⟨(some 20), none, .sidx (.t 18) (.t 19)⟩,
  ⟨(some 21), none, .call 35 [(.t 20)]⟩,
  ⟨(some 22), none, .un .not (.t 21)⟩,
  ⟨(some 23), none, .mv (.t 22)⟩,
  ⟨(some 24), some (23, true), .mv (.t 0)⟩,
  ⟨(some 25), some (23, true), .mv (.t 3)⟩,
  ⟨(some 26), some (23, true), .sidx (.t 24) (.t 25)⟩,
  ⟨(some 27), some (23, true), .bin .neq (.t 26) (.v (.int .u8 32))⟩,
  ⟨(some 28), some (23, true), .mv (.t 27)⟩,
  ⟨(some 29), some (28, false), .mv (.t 3)⟩,
  ⟨(some 30), some (28, false), .bin .eql (.t 29) (.v (.int .i64 0))⟩,
  ⟨(some 31), some (23, true), .pick (.t 28) (.v (.bool true)) (.t 30)⟩,
  ⟨(some 32), some (23, true), .mv (.t 31)⟩,
  ⟨(some 33), some (32, false), .mv (.t 3)⟩,
  ⟨(some 34), some (32, false), .mv (.t 0)⟩,
  ⟨(some 35), some (32, false), .slen (.t 34)⟩,
  ⟨(some 36), some (32, false), .bin .sub (.t 35) (.v (.int .i64 1))⟩,
  ⟨(some 37), some (32, false), .bin .eql (.t 33) (.t 36)⟩,
  ⟨(some 38), some (23, true), .pick (.t 32) (.v (.bool true)) (.t 37)⟩,
  ⟨(some 39), some (23, true), .mv (.t 38)⟩,
  ⟨(some 40), some (39, false), .mv (.t 0)⟩,
  ⟨(some 41), some (39, false), .mv (.t 3)⟩,
  ⟨(some 42), some (39, false), .bin .sub (.t 41) (.v (.int .i64 1))⟩,
  ⟨(some 43), some (39, false), .sidx (.t 40) (.t 42)⟩,
  ⟨(some 44), some (39, false), .bin .eql (.t 43) (.v (.int .u8 32))⟩,
  ⟨(some 45), some (23, true), .pick (.t 39) (.v (.bool true)) (.t 44)⟩,
  ⟨(some 46), none, .pick (.t 23) (.t 45) (.v (.bool false))⟩]
theorem tr27_6 : TR Try.f27 47 6 = some a27_6 := by kernel_rfl
def a27_7 : List AO := [⟨(some 2), none, .mv (.v (.bool false))⟩]
theorem tr27_7 : TR Try.f27 47 7 = some a27_7 := by kernel_rfl
def a27_5 : List AO := [⟨(some 16), none, .mv (.t 3)⟩,
  ⟨(some 17), none, .bin .add (.t 16) (.v (.int .i64 1))⟩,
  ⟨(some 3), none, .mv (.t 17)⟩]
theorem tr27_5 : TR Try.f27 47 5 = some a27_5 := by kernel_rfl
def a27_8 : List AO := [⟨(some 2), none, .mv (.v (.bool true))⟩]
theorem tr27_8 : TR Try.f27 47 8 = some a27_8 := by kernel_rfl
/-- airline/ledger.named -/
noncomputable def c28 : Code := .seq (.region 0 (ro Try.f28 0) false) (.seq (.seq (.region 1 (ro Try.f28 1) false) (.cond (.tmp 14) (.seq (.region 2 (ro Try.f28 2) false) (.ret)) (.skip))) (.seq (.region 3 (ro Try.f28 3) false) (.seq (.seq (.region 4 (ro Try.f28 4) false) (.block 0 (.loop (.seq (.region 5 (ro Try.f28 5) false) (.seq (.cond (.tmp 18) (.skip) (.exit 0)) (.seq (.block 1 (.seq (.region 6 (ro Try.f28 6) false) (.seq (.region 7 (ro Try.f28 7) false) (.seq (.region 8 (ro Try.f28 8) false) (.seq (.seq (.region 9 (ro Try.f28 9) false) (.cond (.tmp 54) (.seq (.region 10 (ro Try.f28 10) false) (.ret)) (.skip))) (.region 11 (ro Try.f28 11) false)))))) (.region 12 (ro Try.f28 12) false))))))) (.seq (.region 13 (ro Try.f28 13) false) (.ret)))))
theorem body28 : Try.f28.body = some c28 := by kernel_rfl
theorem res28 : Try.f28.results.toList.mapM (trR Try.prog) = some [.t 2] := by kernel_rfl
theorem nt28 : Try.f28.ntmps = 58 := by kernel_rfl
theorem nm28 : (Try.f28.name == "runtime.NumGoroutine") = false := by kernel_rfl
def a28_0 : List AO := [⟨(some 2), none, .mv (.v (.bool false))⟩]
theorem tr28_0 : TR Try.f28 58 0 = some a28_0 := by kernel_rfl
def a28_1 : List AO := [⟨(some 7), none, .mv (.t 0)⟩,
  ⟨(some 8), none, .slen (.t 7)⟩,
  ⟨(some 9), none, .bin .lss (.t 8) (.v (.int .i64 1))⟩,
  ⟨(some 10), none, .mv (.t 9)⟩,
  ⟨(some 11), some (10, false), .mv (.t 0)⟩,
  ⟨(some 12), some (10, false), .slen (.t 11)⟩,
  ⟨(some 13), some (10, false), .bin .gtr (.t 12) (.v (.int .i64 30))⟩,
  ⟨(some 14), none, .pick (.t 10) (.v (.bool true)) (.t 13)⟩]
theorem tr28_1 : TR Try.f28 58 1 = some a28_1 := by kernel_rfl
def a28_2 : List AO := [⟨(some 2), none, .mv (.v (.bool false))⟩]
theorem tr28_2 : TR Try.f28 58 2 = some a28_2 := by kernel_rfl
def a28_3 : List AO := [⟨(some 3), none, .mv (.v (.bool false))⟩]
theorem tr28_3 : TR Try.f28 58 3 = some a28_3 := by kernel_rfl
def a28_4 : List AO := [⟨(some 15), none, .mv (.t 0)⟩,
  ⟨(some 16), none, .slen (.t 15)⟩,
  ⟨(some 17), none, .mv (.v (.int .i64 0))⟩]
theorem tr28_4 : TR Try.f28 58 4 = some a28_4 := by kernel_rfl
def a28_5 : List AO := [⟨(some 18), none, .bin .lss (.t 17) (.t 16)⟩]
theorem tr28_5 : TR Try.f28 58 5 = some a28_5 := by kernel_rfl
def a28_6 : List AO := [⟨(some 19), none, .mv (.t 17)⟩,
  ⟨(some 4), none, .mv (.t 19)⟩]
theorem tr28_6 : TR Try.f28 58 6 = some a28_6 := by kernel_rfl
def a28_7 : List AO := [⟨(some 20), none, .mv (.t 0)⟩,
  ⟨(some 21), none, .mv (.t 4)⟩,
  ⟨(some 22), none, .sidx (.t 20) (.t 21)⟩,
  ⟨(some 5), none, .mv (.t 22)⟩]
theorem tr28_7 : TR Try.f28 58 7 = some a28_7 := by kernel_rfl
def a28_8 : List AO := [⟨(some 23), none, .mv (.t 5)⟩,
  ⟨(some 24), none, .bin .geq (.t 23) (.v (.int .u8 65))⟩,
  ⟨(some 25), none, .mv (.t 24)⟩,
  ⟨(some 26), some (25, true), .mv (.t 5)⟩,
  ⟨(some 27), some (25, true), .bin .leq (.t 26) (.v (.int .u8 90))⟩,
  ⟨(some 28), none, .pick (.t 25) (.t 27) (.v (.bool false))⟩,
  ⟨(some 29), none, .mv (.t 28)⟩,
  ⟨(some 30), some (29, false), .mv (.t 5)⟩,
  ⟨(some 31), some (29, false), .bin .geq (.t 30) (.v (.int .u8 97))⟩,
  ⟨(some 32), some (29, false), .mv (.t 31)⟩,
  ⟨(some 33), some (32, true), .mv (.t 5)⟩,
  ⟨(some 34), some (32, true), .bin .leq (.t 33) (.v (.int .u8 122))⟩,
  ⟨(some 35), some (29, false), .pick (.t 32) (.t 34) (.v (.bool false))⟩,
  ⟨(some 36), none, .pick (.t 29) (.v (.bool true)) (.t 35)⟩,
  ⟨(some 37), none, .mv (.t 36)⟩,
  ⟨(some 38), some (37, false), .mv (.t 5)⟩,
  ⟨(some 39), some (37, false), .bin .geq (.t 38) (.v (.int .u8 48))⟩,
  ⟨(some 40), some (37, false), .mv (.t 39)⟩,
  ⟨(some 41), some (40, true), .mv (.t 5)⟩,
  ⟨(some 42), some (40, true), .bin .leq (.t 41) (.v (.int .u8 57))⟩,
  ⟨(some 43), some (37, false), .pick (.t 40) (.t 42) (.v (.bool false))⟩,
  ⟨(some 44), none, .pick (.t 37) (.v (.bool true)) (.t 43)⟩,
  ⟨(some 6), none, .mv (.t 44)⟩]
theorem tr28_8 : TR Try.f28 58 8 = some a28_8 := by kernel_rfl
def a28_9 : List AO := [⟨(some 45), none, .mv (.t 6)⟩,
  ⟨(some 46), none, .un .not (.t 45)⟩,
  ⟨(some 47), none, .mv (.t 46)⟩,
  ⟨(some 48), some (47, true), .mv (.t 5)⟩,
  ⟨(some 49), some (47, true), .bin .neq (.t 48) (.v (.int .u8 32))⟩,
  ⟨(some 50), some (47, true), .mv (.t 49)⟩,
  ⟨(some 51), some (50, false), .mv (.t 3)⟩,
  ⟨(some 52), some (50, false), .un .not (.t 51)⟩,
  ⟨(some 53), some (47, true), .pick (.t 50) (.v (.bool true)) (.t 52)⟩,
  ⟨(some 54), none, .pick (.t 47) (.t 53) (.v (.bool false))⟩]
theorem tr28_9 : TR Try.f28 58 9 = some a28_9 := by kernel_rfl
def a28_10 : List AO := [⟨(some 2), none, .mv (.v (.bool false))⟩]
theorem tr28_10 : TR Try.f28 58 10 = some a28_10 := by kernel_rfl
def a28_11 : List AO := [⟨(some 55), none, .mv (.t 6)⟩,
  ⟨(some 3), none, .mv (.t 55)⟩]
theorem tr28_11 : TR Try.f28 58 11 = some a28_11 := by kernel_rfl
def a28_12 : List AO := [⟨(some 56), none, .bin .add (.t 17) (.v (.int .i64 1))⟩,
  ⟨(some 17), none, .mv (.t 56)⟩]
theorem tr28_12 : TR Try.f28 58 12 = some a28_12 := by kernel_rfl
def a28_13 : List AO := [⟨(some 57), none, .mv (.t 3)⟩,
  ⟨(some 2), none, .mv (.t 57)⟩]
theorem tr28_13 : TR Try.f28 58 13 = some a28_13 := by kernel_rfl
/-- maps.Copy[map[string]int,map[string]int,string,int] -/
noncomputable def c29 : Code := .seq (.region 0 (ro Try.f29 0) false) (.block 0 (.loop (.seq (.region 1 (ro Try.f29 1) false) (.seq (.cond (.tmp 9) (.skip) (.exit 0)) (.block 1 (.seq (.region 2 (ro Try.f29 2) false) (.region 3 (ro Try.f29 3) false)))))))
theorem body29 : Try.f29.body = some c29 := by kernel_rfl
theorem res29 : Try.f29.results.toList.mapM (trR Try.prog) = some [] := by kernel_rfl
theorem nt29 : Try.f29.ntmps = 16 := by kernel_rfl
theorem nm29 : (Try.f29.name == "runtime.NumGoroutine") = false := by kernel_rfl
-- region 0: not translated: !! range 47 t6
def a29_0p : List AO := [⟨(some 6), none, .mv (.t 1)⟩]
theorem tr29_0p : (ro Try.f29 0).toList.dropLast.mapM (trO Try.prog 16 (ro Try.f29 0)) = some a29_0p := by kernel_rfl
-- region 1: not translated: !! next false t7
-- region 2: not translated: !! entry t7
def a29_2s : List AO := [⟨(some 11), none, .ext 0 (.t 10)⟩,
  ⟨(some 12), none, .ext 1 (.t 10)⟩,
  ⟨(some 4), none, .mv (.t 11)⟩,
  ⟨(some 5), none, .mv (.t 12)⟩]
theorem tr29_2s : (ro Try.f29 2).toList.tail.mapM (trO Try.prog 16 (ro Try.f29 2)) = some a29_2s := by kernel_rfl
def a29_3 : List AO := [⟨(some 13), none, .mv (.t 0)⟩,
  ⟨(some 14), none, .mv (.t 4)⟩,
  ⟨(some 15), none, .mv (.t 5)⟩,
  ⟨none, none, .mset 0 (.t 13) (.t 14) (.t 15)⟩]
theorem tr29_3 : TR Try.f29 16 3 = some a29_3 := by kernel_rfl
/-- slices.Clone[[]airline/api.Post,airline/api.Post] -/
noncomputable def c30 : Code := .seq (.region 0 (ro Try.f30 0) false) (.seq (.seq (.region 1 (ro Try.f30 1) false) (.cond (.tmp 4) (.seq (.region 2 (ro Try.f30 2) false) (.ret)) (.skip))) (.seq (.region 3 (ro Try.f30 3) false) (.ret)))
theorem body30 : Try.f30.body = some c30 := by kernel_rfl
theorem res30 : Try.f30.results.toList.mapM (trR Try.prog) = some [.t 2] := by kernel_rfl
theorem nt30 : Try.f30.ntmps = 8 := by kernel_rfl
theorem nm30 : (Try.f30.name == "runtime.NumGoroutine") = false := by kernel_rfl
def a30_0 : List AO := [⟨(some 2), none, .mv (.v .nils)⟩]
theorem tr30_0 : TR Try.f30 8 0 = some a30_0 := by kernel_rfl
def a30_1 : List AO := [⟨(some 3), none, .mv (.t 0)⟩,
  ⟨(some 4), none, .binn .eql (.t 3) (.v .nils)⟩]
theorem tr30_1 : TR Try.f30 8 1 = some a30_1 := by kernel_rfl
def a30_2 : List AO := [⟨(some 2), none, .mv (.v .nils)⟩]
theorem tr30_2 : TR Try.f30 8 2 = some a30_2 := by kernel_rfl
def a30_3 : List AO := [⟨(some 5), none, .slc 43 2 false []⟩,
  ⟨(some 6), none, .mv (.t 0)⟩,
  ⟨(some 7), none, .app 43 2 24 (.t 5) (.t 6)⟩,
  ⟨(some 2), none, .mv (.t 7)⟩]
theorem tr30_3 : TR Try.f30 8 3 = some a30_3 := by kernel_rfl
/-- airline/airlineref53.balance -/
noncomputable def c31 : Code := .seq (.region 0 (ro Try.f31 0) false) (.seq (.region 1 (ro Try.f31 1) false) (.seq (.seq (.region 2 (ro Try.f31 2) false) (.block 0 (.loop (.seq (.seq (.region 3 (ro Try.f31 3) false) (.cond (.tmp 11) (.skip) (.exit 0))) (.seq (.block 1 (.seq (.region 5 (ro Try.f31 5) false) (.block 2 (.loop (.seq (.seq (.region 6 (ro Try.f31 6) false) (.cond (.tmp 21) (.skip) (.exit 2))) (.seq (.block 3 (.seq (.region 8 (ro Try.f31 8) false) (.cond (.tmp 34) (.region 9 (ro Try.f31 9) false) (.skip)))) (.region 7 (ro Try.f31 7) false))))))) (.region 4 (ro Try.f31 4) false)))))) (.seq (.region 10 (ro Try.f31 10) false) (.ret))))
theorem body31 : Try.f31.body = some c31 := by kernel_rfl
theorem res31 : Try.f31.results.toList.mapM (trR Try.prog) = some [.t 4] := by kernel_rfl
theorem nt31 : Try.f31.ntmps = 47 := by kernel_rfl
theorem nm31 : (Try.f31.name == "runtime.NumGoroutine") = false := by kernel_rfl
def a31_0 : List AO := [⟨(some 4), none, .mv (.v (.int .i64 0))⟩]
theorem tr31_0 : TR Try.f31 47 0 = some a31_0 := by kernel_rfl
def a31_1 : List AO := [⟨(some 5), none, .mv (.v (.int .i64 0))⟩]
theorem tr31_1 : TR Try.f31 47 1 = some a31_1 := by kernel_rfl
def a31_2 : List AO := [⟨(some 6), none, .mv (.v (.int .i64 0))⟩]
theorem tr31_2 : TR Try.f31 47 2 = some a31_2 := by kernel_rfl
def a31_3 : List AO := [⟨(some 8), none, .mv (.t 6)⟩,
  ⟨(some 9), none, .mv (.t 0)⟩,
  ⟨(some 10), none, .len (.t 9)⟩,
  ⟨(some 11), none, .bin .lss (.t 8) (.t 10)⟩]
theorem tr31_3 : TR Try.f31 47 3 = some a31_3 := by kernel_rfl
def a31_5 : List AO := [⟨(some 7), none, .mv (.v (.int .i64 0))⟩]
theorem tr31_5 : TR Try.f31 47 5 = some a31_5 := by kernel_rfl
def a31_6 : List AO := [⟨(some 14), none, .mv (.t 7)⟩,
  ⟨(some 15), none, .mv (.t 0)⟩,
  ⟨(some 16), none, .mv (.t 6)⟩,
  ⟨(some 17), none, .idx 3 (.t 15) (.t 16)⟩,
  ⟨(some 18), none, .fld 2 (.t 17)⟩,
  ⟨(some 19), none, .load none (.t 18)⟩,
  ⟨(some 20), none, .len (.t 19)⟩,
  ⟨(some 21), none, .bin .lss (.t 14) (.t 20)⟩]
theorem tr31_6 : TR Try.f31 47 6 = some a31_6 := by kernel_rfl
def a31_8 : List AO := [⟨(some 24), none, .mv (.t 0)⟩,
  ⟨(some 25), none, .mv (.t 6)⟩,
  ⟨(some 26), none, .idx 3 (.t 24) (.t 25)⟩,
  ⟨(some 27), none, .fld 2 (.t 26)⟩,
  ⟨(some 28), none, .load none (.t 27)⟩,
  ⟨(some 29), none, .mv (.t 7)⟩,
  ⟨(some 30), none, .idx 2 (.t 28) (.t 29)⟩,
  ⟨(some 31), none, .fld 0 (.t 30)⟩,
  ⟨(some 32), none, .load none (.t 31)⟩,
  ⟨(some 33), none, .mv (.t 1)⟩,
  ⟨(some 34), none, .bin .eql (.t 32) (.t 33)⟩]
theorem tr31_8 : TR Try.f31 47 8 = some a31_8 := by kernel_rfl
def a31_9 : List AO := [⟨(some 35), none, .mv (.t 5)⟩,
  ⟨(some 36), none, .mv (.t 0)⟩,
  ⟨(some 37), none, .mv (.t 6)⟩,
  ⟨(some 38), none, .idx 3 (.t 36) (.t 37)⟩,
  ⟨(some 39), none, .fld 2 (.t 38)⟩,
  ⟨(some 40), none, .load none (.t 39)⟩,
  ⟨(some 41), none, .mv (.t 7)⟩,
  ⟨(some 42), none, .idx 2 (.t 40) (.t 41)⟩,
  ⟨(some 43), none, .fld 1 (.t 42)⟩,
  ⟨(some 44), none, .load none (.t 43)⟩,
  ⟨(some 45), none, .bin .add (.t 35) (.t 44)⟩,
  ⟨(some 5), none, .mv (.t 45)⟩]
theorem tr31_9 : TR Try.f31 47 9 = some a31_9 := by kernel_rfl
def a31_7 : List AO := [⟨(some 22), none, .mv (.t 7)⟩,
  ⟨(some 23), none, .bin .add (.t 22) (.v (.int .i64 1))⟩,
  ⟨(some 7), none, .mv (.t 23)⟩]
theorem tr31_7 : TR Try.f31 47 7 = some a31_7 := by kernel_rfl
def a31_4 : List AO := [⟨(some 12), none, .mv (.t 6)⟩,
  ⟨(some 13), none, .bin .add (.t 12) (.v (.int .i64 1))⟩,
  ⟨(some 6), none, .mv (.t 13)⟩]
theorem tr31_4 : TR Try.f31 47 4 = some a31_4 := by kernel_rfl
def a31_10 : List AO := [⟨(some 46), none, .mv (.t 5)⟩,
  ⟨(some 4), none, .mv (.t 46)⟩]
theorem tr31_10 : TR Try.f31 47 10 = some a31_10 := by kernel_rfl
/-- slices.Sorted[string] -/
noncomputable def c32 : Code := .seq (.region 0 (ro Try.f32 0) false) (.seq (.region 1 (ro Try.f32 1) false) (.seq (.region 2 (ro Try.f32 2) false) (.seq (.region 3 (ro Try.f32 3) false) (.ret))))
theorem body32 : Try.f32.body = some c32 := by kernel_rfl
theorem res32 : Try.f32.results.toList.mapM (trR Try.prog) = some [.t 2] := by kernel_rfl
theorem nt32 : Try.f32.ntmps = 9 := by kernel_rfl
theorem nm32 : (Try.f32.name == "runtime.NumGoroutine") = false := by kernel_rfl
def a32_0 : List AO := [⟨(some 2), none, .mv (.v .nils)⟩]
theorem tr32_0 : TR Try.f32 9 0 = some a32_0 := by kernel_rfl
def a32_1 : List AO := [⟨(some 4), none, .mv (.t 0)⟩,
  ⟨(some 5), none, .call 36 [(.t 4)]⟩,
  ⟨(some 3), none, .mv (.t 5)⟩]
theorem tr32_1 : TR Try.f32 9 1 = some a32_1 := by kernel_rfl
def a32_2 : List AO := [⟨(some 6), none, .mv (.t 3)⟩,
  ⟨(some 7), none, .call 37 [(.t 6)]⟩]
theorem tr32_2 : TR Try.f32 9 2 = some a32_2 := by kernel_rfl
def a32_3 : List AO := [⟨(some 8), none, .mv (.t 3)⟩,
  ⟨(some 2), none, .mv (.t 8)⟩]
theorem tr32_3 : TR Try.f32 9 3 = some a32_3 := by kernel_rfl
/-- maps.Keys[map[string]int,string,int] -/
noncomputable def c33 : Code := .seq (.region 0 (ro Try.f33 0) false) (.seq (.region 1 (ro Try.f33 1) false) (.ret))
theorem body33 : Try.f33.body = some c33 := by kernel_rfl
theorem res33 : Try.f33.results.toList.mapM (trR Try.prog) = some [.t 2] := by kernel_rfl
theorem nt33 : Try.f33.ntmps = 4 := by kernel_rfl
theorem nm33 : (Try.f33.name == "runtime.NumGoroutine") = false := by kernel_rfl
def a33_0 : List AO := [⟨(some 1), none, .box 47 (.t 0)⟩,
  ⟨(some 2), none, .mv (.v .any)⟩]
theorem tr33_0 : TR Try.f33 4 0 = some a33_0 := by kernel_rfl
def a33_1 : List AO := [⟨(some 3), none, .mkfn 38 [(.t 1)]⟩,
  ⟨(some 2), none, .mv (.t 3)⟩]
theorem tr33_1 : TR Try.f33 4 1 = some a33_1 := by kernel_rfl
/-- airline/airlineref53.insert -/
noncomputable def c34 : Code := .seq (.region 0 (ro Try.f34 0) false) (.seq (.region 1 (ro Try.f34 1) false) (.seq (.region 2 (ro Try.f34 2) false) (.seq (.seq (.region 3 (ro Try.f34 3) false) (.block 0 (.loop (.seq (.seq (.region 4 (ro Try.f34 4) false) (.cond (.tmp 11) (.skip) (.exit 0))) (.seq (.block 1 (.seq (.seq (.region 6 (ro Try.f34 6) true) (.cond (.tmp 25) (.seq (.region 7 (ro Try.f34 7) false) (.seq (.region 8 (ro Try.f34 8) true) (.cond (.tmp 33) (.region 9 (ro Try.f34 9) false) (.skip)))) (.skip))) (.region 10 (ro Try.f34 10) false))) (.region 5 (ro Try.f34 5) false)))))) (.seq (.seq (.region 11 (ro Try.f34 11) false) (.cond (.tmp 46) (.region 12 (ro Try.f34 12) false) (.skip))) (.seq (.region 13 (ro Try.f34 13) false) (.ret))))))
theorem body34 : Try.f34.body = some c34 := by kernel_rfl
theorem res34 : Try.f34.results.toList.mapM (trR Try.prog) = some [.t 4] := by kernel_rfl
theorem nt34 : Try.f34.ntmps = 52 := by kernel_rfl
theorem nm34 : (Try.f34.name == "runtime.NumGoroutine") = false := by kernel_rfl
def a34_0 : List AO := [⟨(some 3), none, .box 43 (.t 1)⟩,
  ⟨(some 4), none, .mv (.v .nils)⟩]
theorem tr34_0 : TR Try.f34 52 0 = some a34_0 := by kernel_rfl
def a34_1 : List AO := [⟨(some 5), none, .mv (.v .nils)⟩]
theorem tr34_1 : TR Try.f34 52 1 = some a34_1 := by kernel_rfl
def a34_2 : List AO := [⟨(some 6), none, .mv (.v (.bool false))⟩]
theorem tr34_2 : TR Try.f34 52 2 = some a34_2 := by kernel_rfl
def a34_3 : List AO := [⟨(some 7), none, .mv (.v (.int .i64 0))⟩]
theorem tr34_3 : TR Try.f34 52 3 = some a34_3 := by kernel_rfl
def a34_4 : List AO := [⟨(some 8), none, .mv (.t 7)⟩,
  ⟨(some 9), none, .mv (.t 0)⟩,
  ⟨(some 10), none, .len (.t 9)⟩,
  ⟨(some 11), none, .bin .lss (.t 8) (.t 10)⟩]
theorem tr34_4 : TR Try.f34 52 4 = some a34_4 := by kernel_rfl
def a34_6 : List AO := [⟨(some 14), none, .mv (.t 6)⟩,
  ⟨(some 15), none, .un .not (.t 14)⟩,
  ⟨(some 16), none, .mv (.t 15)⟩,
  ⟨(some 17), some (16, true), .mv (.t 0)⟩,
  ⟨(some 18), some (16, true), .mv (.t 7)⟩,
  ⟨(some 19), some (16, true), .idx 2 (.t 17) (.t 18)⟩,
  ⟨(some 20), some (16, true), .fld 0 (.t 19)⟩,
  ⟨(some 21), some (16, true), .load none (.t 20)⟩,
  ⟨(some 22), some (16, true), .fld 0 (.t 3)⟩,
  ⟨(some 23), some (16, true), .load none (.t 22)⟩,
  ⟨(some 24), some (16, true), .bin .geq (.t 21) (.t 23)⟩,
  ⟨(some 25), none, .pick (.t 16) (.t 24) (.v (.bool false))⟩]
theorem tr34_6 : TR Try.f34 52 6 = some a34_6 := by kernel_rfl
def d34_6 : List (List Nat) := [[], [0], [0, 1], [0, 1, 2], [0, 1, 2], [0, 1, 2, 3, 4], [0, 1, 2, 3, 4, 5], [0, 1, 2, 3, 4, 5, 6], [0, 1, 2], [0, 1, 2, 8], [0, 1, 2, 3, 4, 5, 6, 7, 8, 9], [0, 1, 2, 3, 4, 5, 6, 7, 8, 9, 10]]
theorem ok34_6 : okReg (ro Try.f34 6) a34_6 d34_6 = true := by kernel_rfl
def a34_7 : List AO := [⟨(some 6), none, .mv (.v (.bool true))⟩]
theorem tr34_7 : TR Try.f34 52 7 = some a34_7 := by kernel_rfl
def a34_8 : List AO := [⟨(some 26), none, .mv (.t 0)⟩,
  ⟨(some 27), none, .mv (.t 7)⟩,
  ⟨(some 28), none, .idx 2 (.t 26) (.t 27)⟩,
  ⟨(some 29), none, .fld 0 (.t 28)⟩,
  ⟨(some 30), none, .load none (.t 29)⟩,
  ⟨(some 31), none, .fld 0 (.t 3)⟩,
  ⟨(some 32), none, .load none (.t 31)⟩,
  ⟨(some 33), none, .bin .gtr (.t 30) (.t 32)⟩]
theorem tr34_8 : TR Try.f34 52 8 = some a34_8 := by kernel_rfl
def d34_8 : List (List Nat) := [[], [], [0, 1], [0, 1, 2], [0, 1, 2, 3], [], [5], [0, 1, 2, 3, 4, 5, 6]]
theorem ok34_8 : okReg (ro Try.f34 8) a34_8 d34_8 = true := by kernel_rfl
def a34_9 : List AO := [⟨(some 34), none, .mv (.t 5)⟩,
  ⟨(some 35), none, .load (some 2) (.t 3)⟩,
  ⟨(some 36), none, .slc 43 2 false [(.t 35)]⟩,
  ⟨(some 37), none, .app 43 2 24 (.t 34) (.t 36)⟩,
  ⟨(some 5), none, .mv (.t 37)⟩]
theorem tr34_9 : TR Try.f34 52 9 = some a34_9 := by kernel_rfl
def a34_10 : List AO := [⟨(some 38), none, .mv (.t 5)⟩,
  ⟨(some 39), none, .mv (.t 0)⟩,
  ⟨(some 40), none, .mv (.t 7)⟩,
  ⟨(some 41), none, .idx 2 (.t 39) (.t 40)⟩,
  ⟨(some 42), none, .load (some 2) (.t 41)⟩,
  ⟨(some 43), none, .slc 43 2 false [(.t 42)]⟩,
  ⟨(some 44), none, .app 43 2 24 (.t 38) (.t 43)⟩,
  ⟨(some 5), none, .mv (.t 44)⟩]
theorem tr34_10 : TR Try.f34 52 10 = some a34_10 := by kernel_rfl
def a34_5 : List AO := [⟨(some 12), none, .mv (.t 7)⟩,
  ⟨(some 13), none, .bin .add (.t 12) (.v (.int .i64 1))⟩,
  ⟨(some 7), none, .mv (.t 13)⟩]
theorem tr34_5 : TR Try.f34 52 5 = some a34_5 := by kernel_rfl
def a34_11 : List AO := [⟨(some 45), none, .mv (.t 6)⟩,
  ⟨(some 46), none, .un .not (.t 45)⟩]
theorem tr34_11 : TR Try.f34 52 11 = some a34_11 := by kernel_rfl
def a34_12 : List AO := [⟨(some 47), none, .mv (.t 5)⟩,
  ⟨(some 48), none, .load (some 2) (.t 3)⟩,
  ⟨(some 49), none, .slc 43 2 false [(.t 48)]⟩,
  ⟨(some 50), none, .app 43 2 24 (.t 47) (.t 49)⟩,
  ⟨(some 5), none, .mv (.t 50)⟩]
theorem tr34_12 : TR Try.f34 52 12 = some a34_12 := by kernel_rfl
def a34_13 : List AO := [⟨(some 51), none, .mv (.t 5)⟩,
  ⟨(some 4), none, .mv (.t 51)⟩]
theorem tr34_13 : TR Try.f34 52 13 = some a34_13 := by kernel_rfl
/-- airline/airlineref53.letter -/
noncomputable def c35 : Code := .seq (.region 0 (ro Try.f35 0) false) (.seq (.region 1 (ro Try.f35 1) false) (.ret))
theorem body35 : Try.f35.body = some c35 := by kernel_rfl
theorem res35 : Try.f35.results.toList.mapM (trR Try.prog) = some [.t 2] := by kernel_rfl
theorem nt35 : Try.f35.ntmps = 25 := by kernel_rfl
theorem nm35 : (Try.f35.name == "runtime.NumGoroutine") = false := by kernel_rfl
def a35_0 : List AO := [⟨(some 2), none, .mv (.v (.bool false))⟩]
theorem tr35_0 : TR Try.f35 25 0 = some a35_0 := by kernel_rfl
def a35_1 : List AO := [⟨(some 3), none, .mv (.t 0)⟩,
  ⟨(some 4), none, .bin .geq (.t 3) (.v (.int .u8 65))⟩,
  ⟨(some 5), none, .mv (.t 4)⟩,
  ⟨(some 6), some (5, true), .mv (.t 0)⟩,
  ⟨(some 7), some (5, true), .bin .leq (.t 6) (.v (.int .u8 90))⟩,
  ⟨(some 8), none, .pick (.t 5) (.t 7) (.v (.bool false))⟩,
  ⟨(some 9), none, .mv (.t 8)⟩,
  ⟨(some 10), some (9, false), .mv (.t 0)⟩,
  ⟨(some 11), some (9, false), .bin .geq (.t 10) (.v (.int .u8 97))⟩,
  ⟨(some 12), some (9, false), .mv (.t 11)⟩,
  ⟨(some 13), some (12, true), .mv (.t 0)⟩,
  ⟨(some 14), some (12, true), .bin .leq (.t 13) (.v (.int .u8 122))⟩,
  ⟨(some 15), some (9, false), .pick (.t 12) (.t 14) (.v (.bool false))⟩,
  ⟨(some 16), none, .pick (.t 9) (.v (.bool true)) (.t 15)⟩,
  ⟨(some 17), none, .mv (.t 16)⟩,
  ⟨(some 18), some (17, false), .mv (.t 0)⟩,
  ⟨(some 19), some (17, false), .bin .geq (.t 18) (.v (.int .u8 48))⟩,
  ⟨(some 20), some (17, false), .mv (.t 19)⟩,
  ⟨(some 21), some (20, true), .mv (.t 0)⟩,
  ⟨(some 22), some (20, true), .bin .leq (.t 21) (.v (.int .u8 57))⟩,
  ⟨(some 23), some (17, false), .pick (.t 20) (.t 22) (.v (.bool false))⟩,
  ⟨(some 24), none, .pick (.t 17) (.v (.bool true)) (.t 23)⟩,
  ⟨(some 2), none, .mv (.t 24)⟩]
theorem tr35_1 : TR Try.f35 25 1 = some a35_1 := by kernel_rfl
/-- slices.Collect[string] -/
noncomputable def c36 : Code := .seq (.region 0 (ro Try.f36 0) false) (.seq (.region 1 (ro Try.f36 1) false) (.ret))
theorem body36 : Try.f36.body = some c36 := by kernel_rfl
theorem res36 : Try.f36.results.toList.mapM (trR Try.prog) = some [.t 2] := by kernel_rfl
theorem nt36 : Try.f36.ntmps = 5 := by kernel_rfl
theorem nm36 : (Try.f36.name == "runtime.NumGoroutine") = false := by kernel_rfl
def a36_0 : List AO := [⟨(some 2), none, .mv (.v .nils)⟩]
theorem tr36_0 : TR Try.f36 5 0 = some a36_0 := by kernel_rfl
def a36_1 : List AO := [⟨(some 3), none, .mv (.t 0)⟩,
  ⟨(some 4), none, .call 39 [(.v .nils), (.t 3)]⟩,
  ⟨(some 2), none, .mv (.t 4)⟩]
theorem tr36_1 : TR Try.f36 5 1 = some a36_1 := by kernel_rfl
/-- slices.Sort[[]string,string] -/
noncomputable def c37 : Code := .seq (.region 0 (ro Try.f37 0) false) (.region 1 (ro Try.f37 1) false)
theorem body37 : Try.f37.body = some c37 := by kernel_rfl
theorem res37 : Try.f37.results.toList.mapM (trR Try.prog) = some [] := by kernel_rfl
theorem nt37 : Try.f37.ntmps = 11 := by kernel_rfl
theorem nm37 : (Try.f37.name == "runtime.NumGoroutine") = false := by kernel_rfl
def a37_0 : List AO := [⟨(some 3), none, .mv (.t 0)⟩,
  ⟨(some 4), none, .len (.t 3)⟩,
  ⟨(some 2), none, .mv (.t 4)⟩]
theorem tr37_0 : TR Try.f37 11 0 = some a37_0 := by kernel_rfl
def a37_1 : List AO := [⟨(some 5), none, .mv (.t 0)⟩,
  ⟨(some 6), none, .mv (.t 2)⟩,
  ⟨(some 7), none, .mv (.t 2)⟩,
  ⟨(some 8), none, .conv .u64 (.t 7)⟩,
  ⟨(some 9), none, .call 41 [(.t 8)]⟩,
  ⟨(some 10), none, .call 40 [(.t 5), (.v (.int .i64 0)), (.t 6), (.t 9)]⟩]
theorem tr37_1 : TR Try.f37 11 1 = some a37_1 := by kernel_rfl
/-- maps.Keys[map[string]int,string,int] 1 -/
noncomputable def c38 : Code := .seq (.region 0 (ro Try.f38 0) false) (.block 0 (.loop (.seq (.region 1 (ro Try.f38 1) false) (.seq (.cond (.tmp 7) (.skip) (.exit 0)) (.block 1 (.seq (.region 2 (ro Try.f38 2) false) (.seq (.region 3 (ro Try.f38 3) false) (.cond (.tmp 13) (.ret) (.skip)))))))))
theorem body38 : Try.f38.body = some c38 := by kernel_rfl
theorem res38 : Try.f38.results.toList.mapM (trR Try.prog) = some [] := by kernel_rfl
theorem nt38 : Try.f38.ntmps = 14 := by kernel_rfl
theorem nm38 : (Try.f38.name == "runtime.NumGoroutine") = false := by kernel_rfl
-- region 0: not translated: !! range 47 t4
def a38_0p : List AO := [⟨(some 4), none, .load none (.t 1)⟩]
theorem tr38_0p : (ro Try.f38 0).toList.dropLast.mapM (trO Try.prog 14 (ro Try.f38 0)) = some a38_0p := by kernel_rfl
-- region 1: not translated: !! next false t5
-- region 2: not translated: !! entry t5
def a38_2s : List AO := [⟨(some 9), none, .ext 0 (.t 8)⟩,
  ⟨(some 3), none, .mv (.t 9)⟩]
theorem tr38_2s : (ro Try.f38 2).toList.tail.mapM (trO Try.prog 14 (ro Try.f38 2)) = some a38_2s := by kernel_rfl
def a38_3 : List AO := [⟨(some 10), none, .mv (.t 0)⟩,
  ⟨(some 11), none, .mv (.t 3)⟩,
  ⟨(some 12), none, .callv (.t 10) [(.t 11)]⟩,
  ⟨(some 13), none, .un .not (.t 12)⟩]
theorem tr38_3 : TR Try.f38 14 3 = some a38_3 := by kernel_rfl
/-- cmp.Less[string] -/
noncomputable def c48 : Code := .seq (.region 0 (ro Try.f48 0) false) (.seq (.region 1 (ro Try.f48 1) false) (.ret))
theorem body48 : Try.f48.body = some c48 := by kernel_rfl
theorem res48 : Try.f48.results.toList.mapM (trR Try.prog) = some [.t 4] := by kernel_rfl
theorem nt48 : Try.f48.ntmps = 17 := by kernel_rfl
theorem nm48 : (Try.f48.name == "runtime.NumGoroutine") = false := by kernel_rfl
def a48_0 : List AO := [⟨(some 4), none, .mv (.v (.bool false))⟩]
theorem tr48_0 : TR Try.f48 17 0 = some a48_0 := by kernel_rfl
def a48_1 : List AO := [⟨(some 5), none, .mv (.t 0)⟩,
  ⟨(some 6), none, .call 58 [(.t 5)]⟩,
  ⟨(some 7), none, .mv (.t 6)⟩,
  ⟨(some 8), some (7, true), .mv (.t 1)⟩,
  ⟨(some 9), some (7, true), .call 58 [(.t 8)]⟩,
  ⟨(some 10), some (7, true), .un .not (.t 9)⟩,
  ⟨(some 11), none, .pick (.t 7) (.t 10) (.v (.bool false))⟩,
  ⟨(some 12), none, .mv (.t 11)⟩,
  ⟨(some 13), some (12, false), .mv (.t 0)⟩,
  ⟨(some 14), some (12, false), .mv (.t 1)⟩,
  ⟨(some 15), some (12, false), .bin .lss (.t 13) (.t 14)⟩,
  ⟨(some 16), none, .pick (.t 12) (.v (.bool true)) (.t 15)⟩,
  ⟨(some 4), none, .mv (.t 16)⟩]
theorem tr48_1 : TR Try.f48 17 1 = some a48_1 := by kernel_rfl
/-- cmp.isNaN[string] -/
noncomputable def c58 : Code := .seq (.region 0 (ro Try.f58 0) false) (.seq (.region 1 (ro Try.f58 1) false) (.ret))
theorem body58 : Try.f58.body = some c58 := by kernel_rfl
theorem res58 : Try.f58.results.toList.mapM (trR Try.prog) = some [.t 2] := by kernel_rfl
theorem nt58 : Try.f58.ntmps = 6 := by kernel_rfl
theorem nm58 : (Try.f58.name == "runtime.NumGoroutine") = false := by kernel_rfl
def a58_0 : List AO := [⟨(some 2), none, .mv (.v (.bool false))⟩]
theorem tr58_0 : TR Try.f58 6 0 = some a58_0 := by kernel_rfl
def a58_1 : List AO := [⟨(some 3), none, .mv (.t 0)⟩,
  ⟨(some 4), none, .mv (.t 0)⟩,
  ⟨(some 5), none, .bin .neq (.t 3) (.t 4)⟩,
  ⟨(some 2), none, .mv (.t 5)⟩]
theorem tr58_1 : TR Try.f58 6 1 = some a58_1 := by kernel_rfl
end Go.Proofs.Ythfmdkpfaehpnaa
