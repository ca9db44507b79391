/- The code of the functions, region by region, as abstract operations. -/
import Derived.Test.YtfjgnfgadkajnaaProg
import Derived.Test.YtfjgnfgadkajnaaAv21
namespace Go.Proofs.Ytfjgnfgadkajnaa
open Go Go.RowKit
def findR : Code → Nat → Option (Array Oper)
  | .region i ops _, k => if i = k then some ops else none
  | .seq a b, k => (findR a k).or (findR b k)
  | .cond _ a b, k => (findR a k).or (findR b k)
  | .block _ c, k => findR c k
  | .loop c, k => findR c k
  | .scope c, k => findR c k
  | _, _ => none
def ro (f : Func) (k : Nat) : Array Oper := ((f.body.bind fun c => findR c k).getD #[])
noncomputable abbrev TR (f : Func) (n k : Nat) : Option (List AO) := (ro f k).toList.mapM (trO Try.prog n (ro f k))
theorem mixed : Try.prog.follows .mixedOrders = true := by kernel_rfl
/-- airline/airlinelaw39.ProrateSums -/
noncomputable def c3 : Code := .seq (.region 0 (ro Try.f3 0) false) (.seq (.seq (.region 1 (ro Try.f3 1) false) (.cond (.tmp 16) (.seq (.region 2 (ro Try.f3 2) false) (.ret)) (.skip))) (.seq (.region 3 (ro Try.f3 3) false) (.seq (.seq (.region 4 (ro Try.f3 4) false) (.cond (.tmp 26) (.seq (.region 5 (ro Try.f3 5) false) (.ret)) (.skip))) (.seq (.seq (.region 6 (ro Try.f3 6) false) (.cond (.tmp 37) (.seq (.region 7 (ro Try.f3 7) false) (.ret)) (.skip))) (.seq (.seq (.region 8 (ro Try.f3 8) false) (.block 0 (.loop (.seq (.seq (.region 9 (ro Try.f3 9) false) (.cond (.tmp 42) (.skip) (.exit 0))) (.seq (.block 1 (.seq (.seq (.region 11 (ro Try.f3 11) false) (.cond (.tmp 62) (.seq (.region 12 (ro Try.f3 12) false) (.ret)) (.skip))) (.seq (.region 13 (ro Try.f3 13) false) (.seq (.seq (.region 14 (ro Try.f3 14) false) (.block 2 (.loop (.seq (.seq (.region 15 (ro Try.f3 15) false) (.cond (.tmp 76) (.skip) (.exit 2))) (.seq (.block 3 (.seq (.seq (.region 17 (ro Try.f3 17) false) (.cond (.tmp 92) (.seq (.region 18 (ro Try.f3 18) false) (.ret)) (.skip))) (.region 19 (ro Try.f3 19) false))) (.region 16 (ro Try.f3 16) false)))))) (.seq (.region 20 (ro Try.f3 20) false) (.cond (.tmp 106) (.seq (.region 21 (ro Try.f3 21) false) (.ret)) (.skip))))))) (.region 10 (ro Try.f3 10) false)))))) (.seq (.region 22 (ro Try.f3 22) false) (.ret)))))))
theorem body3 : Try.f3.body = some c3 := by kernel_rfl
theorem res3 : Try.f3.results.toList.mapM (trR Try.prog) = some [.t 6] := by kernel_rfl
theorem nt3 : Try.f3.ntmps = 108 := by kernel_rfl
theorem nm3 : (Try.f3.name == "runtime.NumGoroutine") = false := by kernel_rfl
def a3_0 : List AO := [⟨(some 3), none, .box 25 (.t 0)⟩,
  ⟨(some 5), none, .box 31 (.t 2)⟩,
  ⟨(some 6), none, .mv (.v (.bool false))⟩]
theorem tr3_0 : TR Try.f3 108 0 = some a3_0 := by kernel_rfl
def a3_1 : List AO := [⟨(some 12), none, .load (some 2) (.t 3)⟩,
  ⟨(some 13), none, .mv (.t 1)⟩,
  ⟨(some 14), none, .load (some 5) (.t 5)⟩,
  ⟨(some 15), none, .call 6 [(.t 12), (.t 13), (.t 14)]⟩,
  ⟨(some 16), none, .un .not (.t 15)⟩]
theorem tr3_1 : TR Try.f3 108 1 = some a3_1 := by kernel_rfl
def a3_2 : List AO := [⟨(some 17), none, .call 7 []⟩,
  ⟨(some 6), none, .mv (.t 17)⟩]
theorem tr3_2 : TR Try.f3 108 2 = some a3_2 := by kernel_rfl
def a3_3 : List AO := [⟨(some 19), none, .load (some 2) (.t 3)⟩,
  ⟨(some 20), none, .mv (.t 1)⟩,
  ⟨(some 21), none, .load (some 5) (.t 5)⟩,
  ⟨(some 22), none, .call 8 [(.t 19), (.t 20), (.t 21)]⟩,
  ⟨(some 18), none, .mv (.t 22)⟩,
  ⟨(some 23), none, .ext 0 (.t 18)⟩,
  ⟨(some 24), none, .ext 1 (.t 18)⟩,
  ⟨(some 7), none, .mv (.t 23)⟩,
  ⟨(some 8), none, .mv (.t 24)⟩]
theorem tr3_3 : TR Try.f3 108 3 = some a3_3 := by kernel_rfl
def a3_4 : List AO := [⟨(some 25), none, .mv (.t 8)⟩,
  ⟨(some 26), none, .bin .neq (.t 25) (.v (.int .i64 0))⟩]
theorem tr3_4 : TR Try.f3 108 4 = some a3_4 := by kernel_rfl
def a3_5 : List AO := [⟨(some 27), none, .mv (.t 7)⟩,
  ⟨(some 28), none, .len (.t 27)⟩,
  ⟨(some 29), none, .bin .eql (.t 28) (.v (.int .i64 0))⟩,
  ⟨(some 30), none, .mv (.t 29)⟩,
  ⟨(some 31), some (30, true), .call 7 []⟩,
  ⟨(some 32), none, .pick (.t 30) (.t 31) (.v (.bool false))⟩,
  ⟨(some 6), none, .mv (.t 32)⟩]
theorem tr3_5 : TR Try.f3 108 5 = some a3_5 := by kernel_rfl
def a3_6 : List AO := [⟨(some 33), none, .mv (.t 7)⟩,
  ⟨(some 34), none, .len (.t 33)⟩,
  ⟨(some 35), none, .mv (.t 1)⟩,
  ⟨(some 36), none, .len (.t 35)⟩,
  ⟨(some 37), none, .bin .neq (.t 34) (.t 36)⟩]
theorem tr3_6 : TR Try.f3 108 6 = some a3_6 := by kernel_rfl
def a3_8 : List AO := [⟨(some 9), none, .mv (.v (.int .i64 0))⟩]
theorem tr3_8 : TR Try.f3 108 8 = some a3_8 := by kernel_rfl
def a3_9 : List AO := [⟨(some 38), none, .mv (.t 9)⟩,
  ⟨(some 39), none, .fld 0 (.t 5)⟩,
  ⟨(some 40), none, .load none (.t 39)⟩,
  ⟨(some 41), none, .len (.t 40)⟩,
  ⟨(some 42), none, .bin .lss (.t 38) (.t 41)⟩]
theorem tr3_9 : TR Try.f3 108 9 = some a3_9 := by kernel_rfl
def a3_11 : List AO := [⟨(some 45), none, .fld 0 (.t 5)⟩,
  ⟨(some 46), none, .load none (.t 45)⟩,
  ⟨(some 47), none, .mv (.t 9)⟩,
  ⟨(some 48), none, .idx 4 (.t 46) (.t 47)⟩,
  ⟨(some 49), none, .fld 0 (.t 48)⟩,
  ⟨(some 50), none, .load none (.t 49)⟩,
  ⟨(some 51), none, .bin .lss (.t 50) (.v (.int .i64 0))⟩,
  ⟨(some 52), none, .mv (.t 51)⟩,
  ⟨(some 53), some (52, false), .fld 0 (.t 5)⟩,
  ⟨(some 54), some (52, false), .load none (.t 53)⟩,
  ⟨(some 55), some (52, false), .mv (.t 9)⟩,
  ⟨(some 56), some (52, false), .idx 4 (.t 54) (.t 55)⟩,
  ⟨(some 57), some (52, false), .fld 1 (.t 56)⟩,
  ⟨(some 58), some (52, false), .load none (.t 57)⟩,
  ⟨(some 59), some (52, false), .mv (.t 7)⟩,
  ⟨(some 60), some (52, false), .len (.t 59)⟩,
  ⟨(some 61), some (52, false), .bin .gtr (.t 58) (.t 60)⟩,
  ⟨(some 62), none, .pick (.t 52) (.v (.bool true)) (.t 61)⟩]
theorem tr3_11 : TR Try.f3 108 11 = some a3_11 := by kernel_rfl
def a3_13 : List AO := [⟨(some 10), none, .mv (.v (.int .i64 0))⟩]
theorem tr3_13 : TR Try.f3 108 13 = some a3_13 := by kernel_rfl
def a3_14 : List AO := [⟨(some 63), none, .fld 0 (.t 5)⟩,
  ⟨(some 64), none, .load none (.t 63)⟩,
  ⟨(some 65), none, .mv (.t 9)⟩,
  ⟨(some 66), none, .idx 4 (.t 64) (.t 65)⟩,
  ⟨(some 67), none, .fld 0 (.t 66)⟩,
  ⟨(some 68), none, .load none (.t 67)⟩,
  ⟨(some 11), none, .mv (.t 68)⟩]
theorem tr3_14 : TR Try.f3 108 14 = some a3_14 := by kernel_rfl
def a3_15 : List AO := [⟨(some 69), none, .mv (.t 11)⟩,
  ⟨(some 70), none, .fld 0 (.t 5)⟩,
  ⟨(some 71), none, .load none (.t 70)⟩,
  ⟨(some 72), none, .mv (.t 9)⟩,
  ⟨(some 73), none, .idx 4 (.t 71) (.t 72)⟩,
  ⟨(some 74), none, .fld 1 (.t 73)⟩,
  ⟨(some 75), none, .load none (.t 74)⟩,
  ⟨(some 76), none, .bin .lss (.t 69) (.t 75)⟩]
theorem tr3_15 : TR Try.f3 108 15 = some a3_15 := by kernel_rfl
def a3_17 : List AO := [⟨(some 79), none, .fld 0 (.t 5)⟩,
  ⟨(some 80), none, .load none (.t 79)⟩,
  ⟨(some 81), none, .mv (.t 9)⟩,
  ⟨(some 82), none, .idx 4 (.t 80) (.t 81)⟩,
  ⟨(some 83), none, .fld 3 (.t 82)⟩,
  ⟨(some 84), none, .load none (.t 83)⟩,
  ⟨(some 85), none, .bin .geq (.t 84) (.v (.int .i64 0))⟩,
  ⟨(some 86), none, .mv (.t 85)⟩,
  ⟨(some 87), some (86, true), .mv (.t 7)⟩,
  ⟨(some 88), some (86, true), .mv (.t 11)⟩,
  ⟨(some 89), some (86, true), .idx 1 (.t 87) (.t 88)⟩,
  ⟨(some 90), some (86, true), .load none (.t 89)⟩,
  ⟨(some 91), some (86, true), .bin .lss (.t 90) (.v (.int .i64 0))⟩,
  ⟨(some 92), none, .pick (.t 86) (.t 91) (.v (.bool false))⟩]
theorem tr3_17 : TR Try.f3 108 17 = some a3_17 := by kernel_rfl
def a3_19 : List AO := [⟨(some 93), none, .mv (.t 10)⟩,
  ⟨(some 94), none, .mv (.t 7)⟩,
  ⟨(some 95), none, .mv (.t 11)⟩,
  ⟨(some 96), none, .idx 1 (.t 94) (.t 95)⟩,
  ⟨(some 97), none, .load none (.t 96)⟩,
  ⟨(some 98), none, .bin .add (.t 93) (.t 97)⟩,
  ⟨(some 10), none, .mv (.t 98)⟩]
theorem tr3_19 : TR Try.f3 108 19 = some a3_19 := by kernel_rfl
def a3_16 : List AO := [⟨(some 77), none, .mv (.t 11)⟩,
  ⟨(some 78), none, .bin .add (.t 77) (.v (.int .i64 1))⟩,
  ⟨(some 11), none, .mv (.t 78)⟩]
theorem tr3_16 : TR Try.f3 108 16 = some a3_16 := by kernel_rfl
def a3_20 : List AO := [⟨(some 99), none, .mv (.t 10)⟩,
  ⟨(some 100), none, .fld 0 (.t 5)⟩,
  ⟨(some 101), none, .load none (.t 100)⟩,
  ⟨(some 102), none, .mv (.t 9)⟩,
  ⟨(some 103), none, .idx 4 (.t 101) (.t 102)⟩,
  ⟨(some 104), none, .fld 3 (.t 103)⟩,
  ⟨(some 105), none, .load none (.t 104)⟩,
  ⟨(some 106), none, .bin .neq (.t 99) (.t 105)⟩]
theorem tr3_20 : TR Try.f3 108 20 = some a3_20 := by kernel_rfl
def a3_10 : List AO := [⟨(some 43), none, .mv (.t 9)⟩,
  ⟨(some 44), none, .bin .add (.t 43) (.v (.int .i64 1))⟩,
  ⟨(some 9), none, .mv (.t 44)⟩]
theorem tr3_10 : TR Try.f3 108 10 = some a3_10 := by kernel_rfl
def a3_22 : List AO := [⟨(some 107), none, .call 7 []⟩,
  ⟨(some 6), none, .mv (.t 107)⟩]
theorem tr3_22 : TR Try.f3 108 22 = some a3_22 := by kernel_rfl
/-- airline/airlinelaw39.ProrateShares -/
noncomputable def c4 : Code := .seq (.region 0 (ro Try.f4 0) false) (.seq (.seq (.region 1 (ro Try.f4 1) false) (.cond (.tmp 14) (.seq (.region 2 (ro Try.f4 2) false) (.ret)) (.skip))) (.seq (.region 3 (ro Try.f4 3) false) (.seq (.region 4 (ro Try.f4 4) false) (.seq (.seq (.region 5 (ro Try.f4 5) false) (.cond (.tmp 37) (.seq (.region 6 (ro Try.f4 6) false) (.ret)) (.skip))) (.seq (.region 7 (ro Try.f4 7) false) (.seq (.seq (.region 8 (ro Try.f4 8) false) (.block 0 (.loop (.seq (.seq (.region 9 (ro Try.f4 9) false) (.cond (.tmp 41) (.skip) (.exit 0))) (.seq (.block 1 (.seq (.seq (.region 11 (ro Try.f4 11) true) (.cond (.tmp 70) (.seq (.region 12 (ro Try.f4 12) false) (.ret)) (.skip))) (.region 13 (ro Try.f4 13) false))) (.region 10 (ro Try.f4 10) false)))))) (.seq (.seq (.region 14 (ro Try.f4 14) false) (.block 2 (.loop (.seq (.seq (.region 15 (ro Try.f4 15) false) (.cond (.tmp 86) (.skip) (.exit 2))) (.seq (.block 3 (.seq (.region 17 (ro Try.f4 17) false) (.cond (.tmp 95) (.region 18 (ro Try.f4 18) false) (.skip)))) (.region 16 (ro Try.f4 16) false)))))) (.seq (.region 19 (ro Try.f4 19) false) (.ret)))))))))
/-- airline/airlinelaw39.ProrateTaxes -/
noncomputable def c5 : Code := .seq (.region 0 (ro Try.f5 0) false) (.seq (.seq (.region 1 (ro Try.f5 1) false) (.cond (.tmp 14) (.seq (.region 2 (ro Try.f5 2) false) (.ret)) (.skip))) (.seq (.region 3 (ro Try.f5 3) false) (.seq (.seq (.region 4 (ro Try.f5 4) false) (.block 0 (.loop (.seq (.seq (.region 5 (ro Try.f5 5) false) (.cond (.tmp 19) (.skip) (.exit 0))) (.seq (.block 1 (.seq (.region 7 (ro Try.f5 7) false) (.cond (.tmp 26) (.seq (.region 8 (ro Try.f5 8) false) (.ret)) (.skip)))) (.region 6 (ro Try.f5 6) false)))))) (.seq (.region 9 (ro Try.f5 9) false) (.seq (.region 10 (ro Try.f5 10) false) (.seq (.seq (.region 11 (ro Try.f5 11) false) (.cond (.tmp 47) (.seq (.region 12 (ro Try.f5 12) false) (.ret)) (.skip))) (.seq (.seq (.region 13 (ro Try.f5 13) false) (.block 2 (.loop (.seq (.seq (.region 14 (ro Try.f5 14) false) (.cond (.tmp 51) (.skip) (.exit 2))) (.seq (.block 3 (.seq (.seq (.region 16 (ro Try.f5 16) true) (.cond (.tmp 80) (.seq (.region 17 (ro Try.f5 17) false) (.ret)) (.skip))) (.region 18 (ro Try.f5 18) false))) (.region 15 (ro Try.f5 15) false)))))) (.seq (.seq (.region 19 (ro Try.f5 19) false) (.block 4 (.loop (.seq (.seq (.region 20 (ro Try.f5 20) false) (.cond (.tmp 95) (.skip) (.exit 4))) (.seq (.block 5 (.seq (.region 22 (ro Try.f5 22) false) (.block 6 (.loop (.seq (.seq (.region 23 (ro Try.f5 23) false) (.cond (.tmp 105) (.skip) (.exit 6))) (.seq (.block 7 (.region 25 (ro Try.f5 25) false)) (.region 24 (ro Try.f5 24) false))))))) (.region 21 (ro Try.f5 21) false)))))) (.seq (.region 26 (ro Try.f5 26) false) (.ret))))))))))
/-- airline/airlinelaw39.right -/
noncomputable def c6 : Code := .seq (.region 0 (ro Try.f6 0) false) (.seq (.region 1 (ro Try.f6 1) false) (.ret))
theorem body6 : Try.f6.body = some c6 := by kernel_rfl
theorem res6 : Try.f6.results.toList.mapM (trR Try.prog) = some [.t 6] := by kernel_rfl
theorem nt6 : Try.f6.ntmps = 34 := by kernel_rfl
theorem nm6 : (Try.f6.name == "runtime.NumGoroutine") = false := by kernel_rfl
def a6_0 : List AO := [⟨(some 3), none, .box 25 (.t 0)⟩,
  ⟨(some 5), none, .box 31 (.t 2)⟩,
  ⟨(some 6), none, .mv (.v (.bool false))⟩]
theorem tr6_0 : TR Try.f6 34 0 = some a6_0 := by kernel_rfl
def a6_1 : List AO := [⟨(some 7), none, .fld 0 (.t 3)⟩,
  ⟨(some 8), none, .load none (.t 7)⟩,
  ⟨(some 9), none, .len (.t 8)⟩,
  ⟨(some 10), none, .bin .leq (.t 9) (.v (.int .i64 20))⟩,
  ⟨(some 11), none, .mv (.t 10)⟩,
  ⟨(some 12), some (11, true), .fld 1 (.t 3)⟩,
  ⟨(some 13), some (11, true), .load none (.t 12)⟩,
  ⟨(some 14), some (11, true), .len (.t 13)⟩,
  ⟨(some 15), some (11, true), .bin .leq (.t 14) (.v (.int .i64 40))⟩,
  ⟨(some 16), none, .pick (.t 11) (.t 15) (.v (.bool false))⟩,
  ⟨(some 17), none, .mv (.t 16)⟩,
  ⟨(some 18), some (17, true), .mv (.t 1)⟩,
  ⟨(some 19), some (17, true), .len (.t 18)⟩,
  ⟨(some 20), some (17, true), .bin .leq (.t 19) (.v (.int .i64 8))⟩,
  ⟨(some 21), none, .pick (.t 17) (.t 20) (.v (.bool false))⟩,
  ⟨(some 22), none, .mv (.t 21)⟩,
  ⟨(some 23), some (22, true), .fld 0 (.t 5)⟩,
  ⟨(some 24), some (22, true), .load none (.t 23)⟩,
  ⟨(some 25), some (22, true), .len (.t 24)⟩,
  ⟨(some 26), some (22, true), .bin .leq (.t 25) (.v (.int .i64 10))⟩,
  ⟨(some 27), none, .pick (.t 22) (.t 26) (.v (.bool false))⟩,
  ⟨(some 28), none, .mv (.t 27)⟩,
  ⟨(some 29), some (28, true), .load (some 2) (.t 3)⟩,
  ⟨(some 30), some (28, true), .call 14 [(.t 29)]⟩,
  ⟨(some 31), some (28, true), .len (.t 30)⟩,
  ⟨(some 32), some (28, true), .bin .eql (.t 31) (.v (.int .i64 0))⟩,
  ⟨(some 33), none, .pick (.t 28) (.t 32) (.v (.bool false))⟩,
  ⟨(some 6), none, .mv (.t 33)⟩]
theorem tr6_1 : TR Try.f6 34 1 = some a6_1 := by kernel_rfl
/-- airline/airlinelaw39.awake -/
noncomputable def c7 : Code := .seq (.region 0 (ro Try.f7 0) false) (.seq (.region 1 (ro Try.f7 1) false) (.seq (.region 2 (ro Try.f7 2) false) (.seq (.region 3 (ro Try.f7 3) false) (.seq (.region 4 (ro Try.f7 4) false) (.seq (.region 5 (ro Try.f7 5) false) (.seq (.region 6 (ro Try.f7 6) false) (.ret)))))))
theorem body7 : Try.f7.body = some c7 := by kernel_rfl
theorem res7 : Try.f7.results.toList.mapM (trR Try.prog) = some [.t 0] := by kernel_rfl
theorem nt7 : Try.f7.ntmps = 71 := by kernel_rfl
theorem nm7 : (Try.f7.name == "runtime.NumGoroutine") = false := by kernel_rfl
def a7_0 : List AO := [⟨(some 0), none, .mv (.v (.bool false))⟩]
theorem tr7_0 : TR Try.f7 71 0 = some a7_0 := by kernel_rfl
def a7_1 : List AO := [⟨(some 8), none, .build [(.str []), (.str []), (.str []), (.int .i64 0), .nils] [(0, 1, (.v (.str [76, 72, 82]))), (1, 1, (.v (.str [76, 79, 78]))), (2, 1, (.v (.str [71, 66])))]⟩,
  ⟨(some 9), none, .build [(.str []), (.str []), (.str []), (.int .i64 0), .nils] [(0, 1, (.v (.str [74, 70, 75]))), (1, 1, (.v (.str [78, 89, 67]))), (2, 1, (.v (.str [85, 83])))]⟩,
  ⟨(some 10), none, .build [(.str []), (.str []), (.str []), (.int .i64 0), .nils] [(0, 1, (.v (.str [67, 68, 71]))), (1, 1, (.v (.str [80, 65, 82]))), (2, 1, (.v (.str [70, 82])))]⟩,
  ⟨(some 11), none, .slc 70 5 false [(.t 8), (.t 9), (.t 10)]⟩,
  ⟨(some 12), none, .build [(.str []), (.str []), (.int .i64 0)] [(0, 1, (.v (.str [76, 79, 78]))), (1, 1, (.v (.str [78, 89, 67]))), (2, 1, (.v (.int .i64 3458)))]⟩,
  ⟨(some 13), none, .build [(.str []), (.str []), (.int .i64 0)] [(0, 1, (.v (.str [76, 79, 78]))), (1, 1, (.v (.str [80, 65, 82]))), (2, 1, (.v (.int .i64 214)))]⟩,
  ⟨(some 14), none, .slc 72 3 false [(.t 12), (.t 13)]⟩,
  ⟨(some 15), none, .build [.nils, .nils] [(0, 1, (.t 11)), (1, 1, (.t 14))]⟩,
  ⟨(some 1), none, .alloc 25 [.nils, .nils]⟩,
  ⟨none, none, .store 2 (.t 1) (.t 15)⟩]
theorem tr7_1 : TR Try.f7 71 1 = some a7_1 := by kernel_rfl
def a7_2 : List AO := [⟨(some 16), none, .build [(.str []), (.int .i64 0), (.int .i64 0), (.str []), (.str []), (.int .i64 0), (.int .i64 0)] [(3, 1, (.v (.str [74, 70, 75]))), (4, 1, (.v (.str [76, 72, 82])))]⟩,
  ⟨(some 17), none, .build [(.str []), (.int .i64 0), (.int .i64 0), (.str []), (.str []), (.int .i64 0), (.int .i64 0), (.str [])] [(0, 7, (.t 16))]⟩,
  ⟨(some 18), none, .build [(.str []), (.int .i64 0), (.int .i64 0), (.str []), (.str []), (.int .i64 0), (.int .i64 0)] [(3, 1, (.v (.str [76, 72, 82]))), (4, 1, (.v (.str [67, 68, 71])))]⟩,
  ⟨(some 19), none, .build [(.str []), (.int .i64 0), (.int .i64 0), (.str []), (.str []), (.int .i64 0), (.int .i64 0), (.str [])] [(0, 7, (.t 18))]⟩,
  ⟨(some 20), none, .slc 55 8 false [(.t 17), (.t 19)]⟩,
  ⟨(some 2), none, .mv (.t 20)⟩]
theorem tr7_2 : TR Try.f7 71 2 = some a7_2 := by kernel_rfl
def a7_3 : List AO := [⟨(some 22), none, .load (some 2) (.t 1)⟩,
  ⟨(some 23), none, .mv (.t 2)⟩,
  ⟨(some 24), none, .build [(.int .i64 0), (.int .i64 0), (.int .i64 0), (.int .i64 0)] [(1, 1, (.v (.int .i64 2))), (3, 1, (.v (.int .i64 10000)))]⟩,
  ⟨(some 25), none, .slc 39 4 false [(.t 24)]⟩,
  ⟨(some 26), none, .build [.nils, .nils, .nils, (.int .i64 0), (.int .i64 0)] [(0, 1, (.t 25))]⟩,
  ⟨(some 27), none, .call 8 [(.t 22), (.t 23), (.t 26)]⟩,
  ⟨(some 21), none, .mv (.t 27)⟩,
  ⟨(some 28), none, .ext 0 (.t 21)⟩,
  ⟨(some 29), none, .ext 1 (.t 21)⟩,
  ⟨(some 3), none, .mv (.t 28)⟩,
  ⟨(some 4), none, .mv (.t 29)⟩]
theorem tr7_3 : TR Try.f7 71 3 = some a7_3 := by kernel_rfl
def a7_4 : List AO := [⟨(some 30), none, .build [(.str []), (.int .i64 0), (.int .i64 0), (.str []), (.str []), (.int .i64 0), (.int .i64 0), (.str []), (.str []), (.int .i64 0), (.int .i64 0)] [(9, 1, (.v (.int .i64 5))), (10, 1, (.v (.int .i64 1000)))]⟩,
  ⟨(some 31), none, .build [(.str []), (.int .i64 0), (.int .i64 0), (.str []), (.str []), (.int .i64 0), (.int .i64 0), (.str []), (.str []), (.int .i64 0), (.int .i64 0)] [(9, 1, (.v (.int .i64 5))), (10, 1, (.v (.int .i64 2000)))]⟩,
  ⟨(some 32), none, .build [(.str []), (.int .i64 0), (.int .i64 0), (.str []), (.str []), (.int .i64 0), (.int .i64 0), (.str []), (.str []), (.int .i64 0), (.int .i64 0)] [(9, 1, (.v (.int .i64 5))), (10, 1, (.v (.int .i64 500)))]⟩,
  ⟨(some 33), none, .slc 57 11 false [(.t 30), (.t 31), (.t 32)]⟩,
  ⟨(some 34), none, .build [(.int .i64 0), (.str []), (.str []), (.str []), (.str []), .nils, (.int .i64 0), .nils, (.int .i64 0), (.int .i64 0)] [(5, 1, (.t 33))]⟩,
  ⟨(some 5), none, .alloc 44 [(.int .i64 0), (.str []), (.str []), (.str []), (.str []), .nils, (.int .i64 0), .nils, (.int .i64 0), (.int .i64 0)]⟩,
  ⟨none, none, .store 10 (.t 5) (.t 34)⟩]
theorem tr7_4 : TR Try.f7 71 4 = some a7_4 := by kernel_rfl
def a7_5 : List AO := [⟨(some 36), none, .load (some 10) (.t 5)⟩,
  ⟨(some 37), none, .slc 9 1 false [(.v (.str [66, 65])), (.v (.str [65, 70])), (.v (.str [66, 65]))]⟩,
  ⟨(some 38), none, .call 10 [(.t 36), (.t 37)]⟩,
  ⟨(some 35), none, .mv (.t 38)⟩,
  ⟨(some 39), none, .ext 0 (.t 35)⟩,
  ⟨(some 40), none, .ext 1 (.t 35)⟩,
  ⟨(some 6), none, .mv (.t 39)⟩,
  ⟨(some 7), none, .mv (.t 40)⟩]
theorem tr7_5 : TR Try.f7 71 5 = some a7_5 := by kernel_rfl
def a7_6 : List AO := [⟨(some 41), none, .mv (.t 4)⟩,
  ⟨(some 42), none, .bin .eql (.t 41) (.v (.int .i64 0))⟩,
  ⟨(some 43), none, .mv (.t 42)⟩,
  ⟨(some 44), some (43, true), .mv (.t 7)⟩,
  ⟨(some 45), some (43, true), .bin .eql (.t 44) (.v (.int .i64 0))⟩,
  ⟨(some 46), none, .pick (.t 43) (.t 45) (.v (.bool false))⟩,
  ⟨(some 47), none, .mv (.t 46)⟩,
  ⟨(some 48), some (47, true), .mv (.t 3)⟩,
  ⟨(some 49), some (47, true), .slc 3 1 false [(.v (.int .i64 9417)), (.v (.int .i64 583))]⟩,
  ⟨(some 50), some (47, true), .call 15 [(.t 48), (.t 49)]⟩,
  ⟨(some 51), none, .pick (.t 47) (.t 50) (.v (.bool false))⟩,
  ⟨(some 52), none, .mv (.t 51)⟩,
  ⟨(some 53), some (52, true), .mv (.t 6)⟩,
  ⟨(some 54), some (52, true), .len (.t 53)⟩,
  ⟨(some 55), some (52, true), .bin .eql (.t 54) (.v (.int .i64 2))⟩,
  ⟨(some 56), none, .pick (.t 52) (.t 55) (.v (.bool false))⟩,
  ⟨(some 57), none, .mv (.t 56)⟩,
  ⟨(some 58), some (57, true), .mv (.t 6)⟩,
  ⟨(some 59), some (57, true), .idx 2 (.t 58) (.v (.int .i64 0))⟩,
  ⟨(some 60), some (57, true), .load (some 2) (.t 59)⟩,
  ⟨(some 61), some (57, true), .build [(.str []), (.int .i64 0)] [(0, 1, (.v (.str [65, 70]))), (1, 1, (.v (.int .i64 2000)))]⟩,
  ⟨(some 62), some (57, true), .bina [.s, .i .i64] .eql (.t 60) (.t 61)⟩,
  ⟨(some 63), none, .pick (.t 57) (.t 62) (.v (.bool false))⟩,
  ⟨(some 64), none, .mv (.t 63)⟩,
  ⟨(some 65), some (64, true), .mv (.t 6)⟩,
  ⟨(some 66), some (64, true), .idx 2 (.t 65) (.v (.int .i64 1))⟩,
  ⟨(some 67), some (64, true), .load (some 2) (.t 66)⟩,
  ⟨(some 68), some (64, true), .build [(.str []), (.int .i64 0)] [(0, 1, (.v (.str [66, 65]))), (1, 1, (.v (.int .i64 1500)))]⟩,
  ⟨(some 69), some (64, true), .bina [.s, .i .i64] .eql (.t 67) (.t 68)⟩,
  ⟨(some 70), none, .pick (.t 64) (.t 69) (.v (.bool false))⟩,
  ⟨(some 0), none, .mv (.t 70)⟩]
theorem tr7_6 : TR Try.f7 71 6 = some a7_6 := by kernel_rfl
/-- airline/prorate.Coupons -/
noncomputable def c8 : Code := .seq (.region 0 (ro Try.f8 0) false) (.seq (.seq (.region 1 (ro Try.f8 1) false) (.cond (.tmp 19) (.seq (.region 2 (ro Try.f8 2) false) (.ret)) (.skip))) (.seq (.region 3 (ro Try.f8 3) false) (.seq (.region 4 (ro Try.f8 4) false) (.seq (.seq (.region 5 (ro Try.f8 5) false) (.block 0 (.loop (.seq (.region 6 (ro Try.f8 6) false) (.seq (.cond (.tmp 27) (.skip) (.exit 0)) (.seq (.block 1 (.seq (.region 7 (ro Try.f8 7) false) (.seq (.region 8 (ro Try.f8 8) true) (.seq (.seq (.region 9 (ro Try.f8 9) false) (.cond (.tmp 43) (.seq (.region 10 (ro Try.f8 10) false) (.ret)) (.skip))) (.region 11 (ro Try.f8 11) false))))) (.region 12 (ro Try.f8 12) false))))))) (.seq (.region 13 (ro Try.f8 13) false) (.ret))))))
theorem body8 : Try.f8.body = some c8 := by kernel_rfl
theorem res8 : Try.f8.results.toList.mapM (trR Try.prog) = some [.t 6, .t 7] := by kernel_rfl
theorem nt8 : Try.f8.ntmps = 50 := by kernel_rfl
theorem nm8 : (Try.f8.name == "runtime.NumGoroutine") = false := by kernel_rfl
def a8_0 : List AO := [⟨(some 3), none, .box 25 (.t 0)⟩,
  ⟨(some 5), none, .box 31 (.t 2)⟩,
  ⟨(some 6), none, .mv (.v .nils)⟩,
  ⟨(some 7), none, .mv (.v (.int .i64 0))⟩]
theorem tr8_0 : TR Try.f8 50 0 = some a8_0 := by kernel_rfl
def a8_1 : List AO := [⟨(some 14), none, .fld 0 (.t 5)⟩,
  ⟨(some 15), none, .load none (.t 14)⟩,
  ⟨(some 16), none, .mv (.t 1)⟩,
  ⟨(some 17), none, .len (.t 16)⟩,
  ⟨(some 18), none, .call 16 [(.t 15), (.t 17)]⟩,
  ⟨(some 19), none, .un .not (.t 18)⟩]
theorem tr8_1 : TR Try.f8 50 1 = some a8_1 := by kernel_rfl
def a8_2 : List AO := [⟨(some 6), none, .mv (.v .nils)⟩,
  ⟨(some 7), none, .mv (.v (.int .i64 2))⟩]
theorem tr8_2 : TR Try.f8 50 2 = some a8_2 := by kernel_rfl
def a8_3 : List AO := [⟨(some 20), none, .load (some 2) (.t 3)⟩,
  ⟨(some 21), none, .mv (.t 1)⟩,
  ⟨(some 22), none, .call 17 [(.t 20), (.t 21)]⟩,
  ⟨(some 8), none, .mv (.t 22)⟩]
theorem tr8_3 : TR Try.f8 50 3 = some a8_3 := by kernel_rfl
def a8_4 : List AO := [⟨(some 9), none, .mv (.v .nils)⟩]
theorem tr8_4 : TR Try.f8 50 4 = some a8_4 := by kernel_rfl
def a8_5 : List AO := [⟨(some 23), none, .fld 0 (.t 5)⟩,
  ⟨(some 24), none, .load none (.t 23)⟩,
  ⟨(some 25), none, .len (.t 24)⟩,
  ⟨(some 26), none, .mv (.v (.int .i64 0))⟩]
theorem tr8_5 : TR Try.f8 50 5 = some a8_5 := by kernel_rfl
def a8_6 : List AO := [⟨(some 27), none, .bin .lss (.t 26) (.t 25)⟩]
theorem tr8_6 : TR Try.f8 50 6 = some a8_6 := by kernel_rfl
def a8_7 : List AO := [⟨(some 28), none, .idx 4 (.t 24) (.t 26)⟩,
  ⟨(some 29), none, .load (some 4) (.t 28)⟩,
  ⟨(some 11), none, .alloc 39 [(.int .i64 0), (.int .i64 0), (.int .i64 0), (.int .i64 0)]⟩,
  ⟨none, none, .store 4 (.t 11) (.t 29)⟩]
theorem tr8_7 : TR Try.f8 50 7 = some a8_7 := by kernel_rfl
def a8_8 : List AO := [⟨(some 31), none, .fld 3 (.t 11)⟩,
  ⟨(some 32), none, .load none (.t 31)⟩,
  ⟨(some 33), none, .mv (.t 8)⟩,
  ⟨(some 34), none, .fld 0 (.t 11)⟩,
  ⟨(some 35), none, .load none (.t 34)⟩,
  ⟨(some 36), none, .fld 1 (.t 11)⟩,
  ⟨(some 37), none, .load none (.t 36)⟩,
  ⟨(some 38), none, .sub 1 (some (.t 35)) (some (.t 37)) none (.t 33)⟩,
  ⟨(some 39), none, .call 18 [(.t 32), (.t 38)]⟩,
  ⟨(some 30), none, .mv (.t 39)⟩,
  ⟨(some 40), none, .ext 0 (.t 30)⟩,
  ⟨(some 41), none, .ext 1 (.t 30)⟩,
  ⟨(some 12), none, .mv (.t 40)⟩,
  ⟨(some 13), none, .mv (.t 41)⟩]
theorem tr8_8 : TR Try.f8 50 8 = some a8_8 := by kernel_rfl
def d8_8 : List (List Nat) := [[], [0], [], [], [3], [], [5], [2, 3, 4, 5, 6], [0, 1, 2, 3, 4, 5, 6, 7], [0, 1, 2, 3, 4, 5, 6, 7, 8], [0, 1, 2, 3, 4, 5, 6, 7, 8, 9], [0, 1, 2, 3, 4, 5, 6, 7, 8, 9], [0, 1, 2, 3, 4, 5, 6, 7, 8, 9, 10], [0, 1, 2, 3, 4, 5, 6, 7, 8, 9, 10, 11, 12]]
theorem ok8_8 : okReg (ro Try.f8 8) a8_8 d8_8 = true := by kernel_rfl
def a8_9 : List AO := [⟨(some 42), none, .mv (.t 13)⟩,
  ⟨(some 43), none, .bin .neq (.t 42) (.v (.int .i64 0))⟩]
theorem tr8_9 : TR Try.f8 50 9 = some a8_9 := by kernel_rfl
def a8_10 : List AO := [⟨(some 44), none, .mv (.t 13)⟩,
  ⟨(some 6), none, .mv (.v .nils)⟩,
  ⟨(some 7), none, .mv (.t 44)⟩]
theorem tr8_10 : TR Try.f8 50 10 = some a8_10 := by kernel_rfl
def a8_11 : List AO := [⟨(some 45), none, .mv (.t 9)⟩,
  ⟨(some 46), none, .mv (.t 12)⟩,
  ⟨(some 47), none, .app 3 1 8 (.t 45) (.t 46)⟩,
  ⟨(some 9), none, .mv (.t 47)⟩]
theorem tr8_11 : TR Try.f8 50 11 = some a8_11 := by kernel_rfl
def a8_12 : List AO := [⟨(some 48), none, .bin .add (.t 26) (.v (.int .i64 1))⟩,
  ⟨(some 26), none, .mv (.t 48)⟩]
theorem tr8_12 : TR Try.f8 50 12 = some a8_12 := by kernel_rfl
def a8_13 : List AO := [⟨(some 49), none, .mv (.t 9)⟩,
  ⟨(some 6), none, .mv (.t 49)⟩,
  ⟨(some 7), none, .mv (.v (.int .i64 0))⟩]
theorem tr8_13 : TR Try.f8 50 13 = some a8_13 := by kernel_rfl
/-- airline/prorate.Shares -/
noncomputable def c10 : Code := .seq (.region 0 (ro Try.f10 0) false) (.seq (.seq (.region 1 (ro Try.f10 1) false) (.cond (.tmp 20) (.seq (.region 2 (ro Try.f10 2) false) (.ret)) (.skip))) (.seq (.region 3 (ro Try.f10 3) false) (.seq (.seq (.region 4 (ro Try.f10 4) false) (.block 0 (.loop (.seq (.region 5 (ro Try.f10 5) false) (.seq (.cond (.tmp 26) (.skip) (.exit 0)) (.seq (.block 1 (.seq (.region 6 (ro Try.f10 6) false) (.seq (.region 7 (ro Try.f10 7) false) (.cond (.tmp 32) (.region 8 (ro Try.f10 8) true) (.skip))))) (.region 9 (ro Try.f10 9) false))))))) (.seq (.region 10 (ro Try.f10 10) false) (.seq (.region 11 (ro Try.f10 11) false) (.seq (.seq (.region 12 (ro Try.f10 12) false) (.block 2 (.loop (.seq (.region 13 (ro Try.f10 13) false) (.seq (.cond (.tmp 58) (.skip) (.exit 2)) (.seq (.block 3 (.seq (.region 14 (ro Try.f10 14) false) (.region 15 (ro Try.f10 15) false))) (.region 16 (ro Try.f10 16) false))))))) (.seq (.region 17 (ro Try.f10 17) false) (.ret))))))))
theorem body10 : Try.f10.body = some c10 := by kernel_rfl
theorem res10 : Try.f10.results.toList.mapM (trR Try.prog) = some [.t 4, .t 5] := by kernel_rfl
theorem nt10 : Try.f10.ntmps = 74 := by kernel_rfl
theorem nm10 : (Try.f10.name == "runtime.NumGoroutine") = false := by kernel_rfl
def a10_0 : List AO := [⟨(some 2), none, .box 44 (.t 0)⟩,
  ⟨(some 4), none, .mv (.v .nils)⟩,
  ⟨(some 5), none, .mv (.v (.int .i64 0))⟩]
theorem tr10_0 : TR Try.f10 74 0 = some a10_0 := by kernel_rfl
def a10_1 : List AO := [⟨(some 15), none, .mv (.t 1)⟩,
  ⟨(some 16), none, .len (.t 15)⟩,
  ⟨(some 17), none, .fld 5 (.t 2)⟩,
  ⟨(some 18), none, .load none (.t 17)⟩,
  ⟨(some 19), none, .len (.t 18)⟩,
  ⟨(some 20), none, .bin .neq (.t 16) (.t 19)⟩]
theorem tr10_1 : TR Try.f10 74 1 = some a10_1 := by kernel_rfl
def a10_2 : List AO := [⟨(some 4), none, .mv (.v .nils)⟩,
  ⟨(some 5), none, .mv (.v (.int .i64 2))⟩]
theorem tr10_2 : TR Try.f10 74 2 = some a10_2 := by kernel_rfl
def a10_3 : List AO := [⟨(some 21), none, .mkmap⟩,
  ⟨(some 6), none, .mv (.t 21)⟩]
theorem tr10_3 : TR Try.f10 74 3 = some a10_3 := by kernel_rfl
def a10_4 : List AO := [⟨(some 22), none, .fld 5 (.t 2)⟩,
  ⟨(some 23), none, .load none (.t 22)⟩,
  ⟨(some 24), none, .len (.t 23)⟩,
  ⟨(some 25), none, .mv (.v (.int .i64 0))⟩]
theorem tr10_4 : TR Try.f10 74 4 = some a10_4 := by kernel_rfl
def a10_5 : List AO := [⟨(some 26), none, .bin .lss (.t 25) (.t 24)⟩]
theorem tr10_5 : TR Try.f10 74 5 = some a10_5 := by kernel_rfl
def a10_6 : List AO := [⟨(some 27), none, .mv (.t 25)⟩,
  ⟨(some 28), none, .idx 11 (.t 23) (.t 25)⟩,
  ⟨(some 29), none, .load (some 11) (.t 28)⟩,
  ⟨(some 8), none, .alloc 57 [(.str []), (.int .i64 0), (.int .i64 0), (.str []), (.str []), (.int .i64 0), (.int .i64 0), (.str []), (.str []), (.int .i64 0), (.int .i64 0)]⟩,
  ⟨(some 7), none, .mv (.t 27)⟩,
  ⟨none, none, .store 11 (.t 8) (.t 29)⟩]
theorem tr10_6 : TR Try.f10 74 6 = some a10_6 := by kernel_rfl
def a10_7 : List AO := [⟨(some 30), none, .fld 9 (.t 8)⟩,
  ⟨(some 31), none, .load none (.t 30)⟩,
  ⟨(some 32), none, .bin .eql (.t 31) (.v (.int .i64 5))⟩]
theorem tr10_7 : TR Try.f10 74 7 = some a10_7 := by kernel_rfl
def a10_8 : List AO := [⟨(some 33), none, .mv (.t 6)⟩,
  ⟨(some 34), none, .mv (.t 1)⟩,
  ⟨(some 35), none, .mv (.t 7)⟩,
  ⟨(some 36), none, .idx 1 (.t 34) (.t 35)⟩,
  ⟨(some 37), none, .load none (.t 36)⟩,
  ⟨(some 38), none, .mv (.t 6)⟩,
  ⟨(some 39), none, .mv (.t 1)⟩,
  ⟨(some 40), none, .mv (.t 7)⟩,
  ⟨(some 41), none, .idx 1 (.t 39) (.t 40)⟩,
  ⟨(some 42), none, .load none (.t 41)⟩,
  ⟨(some 43), none, .look 0 false .nils (.t 38) (.t 42)⟩,
  ⟨(some 44), none, .fld 10 (.t 8)⟩,
  ⟨(some 45), none, .load none (.t 44)⟩,
  ⟨(some 46), none, .slc 3 1 false [(.t 45)]⟩,
  ⟨(some 47), none, .app 3 1 8 (.t 43) (.t 46)⟩,
  ⟨none, none, .mset 0 (.t 33) (.t 37) (.t 47)⟩]
theorem tr10_8 : TR Try.f10 74 8 = some a10_8 := by kernel_rfl
def d10_8 : List (List Nat) := [[], [], [], [1, 2], [1, 2, 3], [], [], [], [6, 7], [6, 7, 8], [5, 6, 7, 8, 9], [], [11], [11, 12], [5, 6, 7, 8, 9, 10, 11, 12, 13], [0, 1, 2, 3, 4, 5, 6, 7, 8, 9, 10, 11, 12, 13, 14]]
theorem ok10_8 : okReg (ro Try.f10 8) a10_8 d10_8 = true := by kernel_rfl
def a10_9 : List AO := [⟨(some 48), none, .bin .add (.t 25) (.v (.int .i64 1))⟩,
  ⟨(some 25), none, .mv (.t 48)⟩]
theorem tr10_9 : TR Try.f10 74 9 = some a10_9 := by kernel_rfl
def a10_10 : List AO := [⟨(some 50), none, .mv (.t 6)⟩,
  ⟨(some 51), none, .call 19 [(.t 50)]⟩,
  ⟨(some 49), none, .mv (.t 51)⟩,
  ⟨(some 52), none, .ext 0 (.t 49)⟩,
  ⟨(some 53), none, .ext 1 (.t 49)⟩,
  ⟨(some 54), none, .ext 2 (.t 49)⟩,
  ⟨(some 9), none, .mv (.t 52)⟩,
  ⟨(some 10), none, .mv (.t 53)⟩,
  ⟨(some 11), none, .mv (.t 54)⟩]
theorem tr10_10 : TR Try.f10 74 10 = some a10_10 := by kernel_rfl
def a10_11 : List AO := [⟨(some 12), none, .mv (.v .nils)⟩]
theorem tr10_11 : TR Try.f10 74 11 = some a10_11 := by kernel_rfl
def a10_12 : List AO := [⟨(some 55), none, .mv (.t 9)⟩,
  ⟨(some 56), none, .len (.t 55)⟩,
  ⟨(some 57), none, .mv (.v (.int .i64 0))⟩]
theorem tr10_12 : TR Try.f10 74 12 = some a10_12 := by kernel_rfl
def a10_13 : List AO := [⟨(some 58), none, .bin .lss (.t 57) (.t 56)⟩]
theorem tr10_13 : TR Try.f10 74 13 = some a10_13 := by kernel_rfl
def a10_14 : List AO := [⟨(some 59), none, .mv (.t 57)⟩,
  ⟨(some 60), none, .idx 1 (.t 55) (.t 57)⟩,
  ⟨(some 61), none, .load none (.t 60)⟩,
  ⟨(some 13), none, .mv (.t 59)⟩,
  ⟨(some 14), none, .mv (.t 61)⟩]
theorem tr10_14 : TR Try.f10 74 14 = some a10_14 := by kernel_rfl
def a10_15 : List AO := [⟨(some 62), none, .mv (.t 12)⟩,
  ⟨(some 63), none, .mv (.t 14)⟩,
  ⟨(some 64), none, .mv (.t 10)⟩,
  ⟨(some 65), none, .mv (.t 13)⟩,
  ⟨(some 66), none, .idx 1 (.t 64) (.t 65)⟩,
  ⟨(some 67), none, .load none (.t 66)⟩,
  ⟨(some 68), none, .build [(.str []), (.int .i64 0)] [(0, 1, (.t 63)), (1, 1, (.t 67))]⟩,
  ⟨(some 69), none, .slc 51 2 false [(.t 68)]⟩,
  ⟨(some 70), none, .app 51 2 24 (.t 62) (.t 69)⟩,
  ⟨(some 12), none, .mv (.t 70)⟩]
theorem tr10_15 : TR Try.f10 74 15 = some a10_15 := by kernel_rfl
def a10_16 : List AO := [⟨(some 71), none, .bin .add (.t 57) (.v (.int .i64 1))⟩,
  ⟨(some 57), none, .mv (.t 71)⟩]
theorem tr10_16 : TR Try.f10 74 16 = some a10_16 := by kernel_rfl
def a10_17 : List AO := [⟨(some 72), none, .mv (.t 12)⟩,
  ⟨(some 73), none, .mv (.t 11)⟩,
  ⟨(some 4), none, .mv (.t 72)⟩,
  ⟨(some 5), none, .mv (.t 73)⟩]
theorem tr10_17 : TR Try.f10 74 17 = some a10_17 := by kernel_rfl
/-- airline/airlineref06.Check -/
noncomputable def c14 : Code := .seq (.region 0 (ro Try.f14 0) false) (.seq (.region 1 (ro Try.f14 1) false) (.seq (.seq (.region 2 (ro Try.f14 2) false) (.block 0 (.loop (.seq (.seq (.region 3 (ro Try.f14 3) false) (.cond (.tmp 14) (.skip) (.exit 0))) (.seq (.block 1 (.seq (.region 5 (ro Try.f14 5) false) (.seq (.region 6 (ro Try.f14 6) false) (.block 2 (.loop (.seq (.seq (.region 7 (ro Try.f14 7) false) (.cond (.tmp 23) (.skip) (.exit 2))) (.seq (.block 3 (.region 9 (ro Try.f14 9) true)) (.region 8 (ro Try.f14 8) false)))))))) (.region 4 (ro Try.f14 4) false)))))) (.seq (.seq (.region 10 (ro Try.f14 10) false) (.block 4 (.loop (.seq (.seq (.region 11 (ro Try.f14 11) false) (.cond (.tmp 41) (.skip) (.exit 4))) (.seq (.block 5 (.seq (.region 13 (ro Try.f14 13) false) (.seq (.region 14 (ro Try.f14 14) false) (.block 6 (.loop (.seq (.seq (.region 15 (ro Try.f14 15) false) (.cond (.tmp 50) (.skip) (.exit 6))) (.seq (.block 7 (.region 17 (ro Try.f14 17) true)) (.region 16 (ro Try.f14 16) false)))))))) (.region 12 (ro Try.f14 12) false)))))) (.seq (.region 18 (ro Try.f14 18) false) (.ret)))))
theorem body14 : Try.f14.body = some c14 := by kernel_rfl
theorem res14 : Try.f14.results.toList.mapM (trR Try.prog) = some [.t 2] := by kernel_rfl
theorem nt14 : Try.f14.ntmps = 65 := by kernel_rfl
theorem nm14 : (Try.f14.name == "runtime.NumGoroutine") = false := by kernel_rfl
def a14_0 : List AO := [⟨(some 1), none, .box 25 (.t 0)⟩,
  ⟨(some 2), none, .mv (.v .nils)⟩]
theorem tr14_0 : TR Try.f14 65 0 = some a14_0 := by kernel_rfl
def a14_1 : List AO := [⟨(some 3), none, .mv (.v .nils)⟩]
theorem tr14_1 : TR Try.f14 65 1 = some a14_1 := by kernel_rfl
def a14_2 : List AO := [⟨(some 4), none, .mv (.v (.int .i64 0))⟩]
theorem tr14_2 : TR Try.f14 65 2 = some a14_2 := by kernel_rfl
def a14_3 : List AO := [⟨(some 10), none, .mv (.t 4)⟩,
  ⟨(some 11), none, .fld 0 (.t 1)⟩,
  ⟨(some 12), none, .load none (.t 11)⟩,
  ⟨(some 13), none, .len (.t 12)⟩,
  ⟨(some 14), none, .bin .lss (.t 10) (.t 13)⟩]
theorem tr14_3 : TR Try.f14 65 3 = some a14_3 := by kernel_rfl
def a14_5 : List AO := [⟨(some 17), none, .load (some 2) (.t 1)⟩,
  ⟨(some 18), none, .mv (.t 4)⟩,
  ⟨(some 19), none, .call 22 [(.t 17), (.t 18)]⟩,
  ⟨(some 5), none, .mv (.t 19)⟩]
theorem tr14_5 : TR Try.f14 65 5 = some a14_5 := by kernel_rfl
def a14_6 : List AO := [⟨(some 6), none, .mv (.v (.int .i64 0))⟩]
theorem tr14_6 : TR Try.f14 65 6 = some a14_6 := by kernel_rfl
def a14_7 : List AO := [⟨(some 20), none, .mv (.t 6)⟩,
  ⟨(some 21), none, .mv (.t 5)⟩,
  ⟨(some 22), none, .len (.t 21)⟩,
  ⟨(some 23), none, .bin .lss (.t 20) (.t 22)⟩]
theorem tr14_7 : TR Try.f14 65 7 = some a14_7 := by kernel_rfl
def a14_9 : List AO := [⟨(some 26), none, .mv (.t 3)⟩,
  ⟨(some 27), none, .mv (.t 5)⟩,
  ⟨(some 28), none, .mv (.t 6)⟩,
  ⟨(some 29), none, .idx 1 (.t 27) (.t 28)⟩,
  ⟨(some 30), none, .load none (.t 29)⟩,
  ⟨(some 31), none, .mv (.t 4)⟩,
  ⟨(some 32), none, .call 23 [(.t 31)]⟩,
  ⟨(some 33), none, .bin .add (.v (.str [97, 105, 114, 112, 111, 114, 116, 32])) (.t 32)⟩,
  ⟨(some 34), none, .build [(.int .i64 0), (.str [])] [(0, 1, (.t 30)), (1, 1, (.t 33))]⟩,
  ⟨(some 35), none, .slc 87 2 false [(.t 34)]⟩,
  ⟨(some 36), none, .app 87 2 24 (.t 26) (.t 35)⟩,
  ⟨(some 3), none, .mv (.t 36)⟩]
theorem tr14_9 : TR Try.f14 65 9 = some a14_9 := by kernel_rfl
def d14_9 : List (List Nat) := [[], [], [], [1, 2], [1, 2, 3], [], [5], [5, 6], [1, 2, 3, 4, 5, 6, 7], [1, 2, 3, 4, 5, 6, 7, 8], [0, 1, 2, 3, 4, 5, 6, 7, 8, 9], [0, 1, 2, 3, 4, 5, 6, 7, 8, 9, 10]]
theorem ok14_9 : okReg (ro Try.f14 9) a14_9 d14_9 = true := by kernel_rfl
def a14_8 : List AO := [⟨(some 24), none, .mv (.t 6)⟩,
  ⟨(some 25), none, .bin .add (.t 24) (.v (.int .i64 1))⟩,
  ⟨(some 6), none, .mv (.t 25)⟩]
theorem tr14_8 : TR Try.f14 65 8 = some a14_8 := by kernel_rfl
def a14_4 : List AO := [⟨(some 15), none, .mv (.t 4)⟩,
  ⟨(some 16), none, .bin .add (.t 15) (.v (.int .i64 1))⟩,
  ⟨(some 4), none, .mv (.t 16)⟩]
theorem tr14_4 : TR Try.f14 65 4 = some a14_4 := by kernel_rfl
def a14_10 : List AO := [⟨(some 7), none, .mv (.v (.int .i64 0))⟩]
theorem tr14_10 : TR Try.f14 65 10 = some a14_10 := by kernel_rfl
def a14_11 : List AO := [⟨(some 37), none, .mv (.t 7)⟩,
  ⟨(some 38), none, .fld 1 (.t 1)⟩,
  ⟨(some 39), none, .load none (.t 38)⟩,
  ⟨(some 40), none, .len (.t 39)⟩,
  ⟨(some 41), none, .bin .lss (.t 37) (.t 40)⟩]
theorem tr14_11 : TR Try.f14 65 11 = some a14_11 := by kernel_rfl
def a14_13 : List AO := [⟨(some 44), none, .load (some 2) (.t 1)⟩,
  ⟨(some 45), none, .mv (.t 7)⟩,
  ⟨(some 46), none, .call 24 [(.t 44), (.t 45)]⟩,
  ⟨(some 8), none, .mv (.t 46)⟩]
theorem tr14_13 : TR Try.f14 65 13 = some a14_13 := by kernel_rfl
def a14_14 : List AO := [⟨(some 9), none, .mv (.v (.int .i64 0))⟩]
theorem tr14_14 : TR Try.f14 65 14 = some a14_14 := by kernel_rfl
def a14_15 : List AO := [⟨(some 47), none, .mv (.t 9)⟩,
  ⟨(some 48), none, .mv (.t 8)⟩,
  ⟨(some 49), none, .len (.t 48)⟩,
  ⟨(some 50), none, .bin .lss (.t 47) (.t 49)⟩]
theorem tr14_15 : TR Try.f14 65 15 = some a14_15 := by kernel_rfl
def a14_17 : List AO := [⟨(some 53), none, .mv (.t 3)⟩,
  ⟨(some 54), none, .mv (.t 8)⟩,
  ⟨(some 55), none, .mv (.t 9)⟩,
  ⟨(some 56), none, .idx 1 (.t 54) (.t 55)⟩,
  ⟨(some 57), none, .load none (.t 56)⟩,
  ⟨(some 58), none, .mv (.t 7)⟩,
  ⟨(some 59), none, .call 23 [(.t 58)]⟩,
  ⟨(some 60), none, .bin .add (.v (.str [100, 105, 115, 116, 97, 110, 99, 101, 32])) (.t 59)⟩,
  ⟨(some 61), none, .build [(.int .i64 0), (.str [])] [(0, 1, (.t 57)), (1, 1, (.t 60))]⟩,
  ⟨(some 62), none, .slc 87 2 false [(.t 61)]⟩,
  ⟨(some 63), none, .app 87 2 24 (.t 53) (.t 62)⟩,
  ⟨(some 3), none, .mv (.t 63)⟩]
theorem tr14_17 : TR Try.f14 65 17 = some a14_17 := by kernel_rfl
def d14_17 : List (List Nat) := [[], [], [], [1, 2], [1, 2, 3], [], [5], [5, 6], [1, 2, 3, 4, 5, 6, 7], [1, 2, 3, 4, 5, 6, 7, 8], [0, 1, 2, 3, 4, 5, 6, 7, 8, 9], [0, 1, 2, 3, 4, 5, 6, 7, 8, 9, 10]]
theorem ok14_17 : okReg (ro Try.f14 17) a14_17 d14_17 = true := by kernel_rfl
def a14_16 : List AO := [⟨(some 51), none, .mv (.t 9)⟩,
  ⟨(some 52), none, .bin .add (.t 51) (.v (.int .i64 1))⟩,
  ⟨(some 9), none, .mv (.t 52)⟩]
theorem tr14_16 : TR Try.f14 65 16 = some a14_16 := by kernel_rfl
def a14_12 : List AO := [⟨(some 42), none, .mv (.t 7)⟩,
  ⟨(some 43), none, .bin .add (.t 42) (.v (.int .i64 1))⟩,
  ⟨(some 7), none, .mv (.t 43)⟩]
theorem tr14_12 : TR Try.f14 65 12 = some a14_12 := by kernel_rfl
def a14_18 : List AO := [⟨(some 64), none, .mv (.t 3)⟩,
  ⟨(some 2), none, .mv (.t 64)⟩]
theorem tr14_18 : TR Try.f14 65 18 = some a14_18 := by kernel_rfl
/-- airline/airlineref13.Same -/
noncomputable def c15 : Code := .seq (.region 0 (ro Try.f15 0) false) (.seq (.seq (.region 1 (ro Try.f15 1) false) (.cond (.tmp 10) (.seq (.region 2 (ro Try.f15 2) false) (.ret)) (.skip))) (.seq (.seq (.region 3 (ro Try.f15 3) false) (.block 0 (.loop (.seq (.seq (.region 4 (ro Try.f15 4) false) (.cond (.tmp 14) (.skip) (.exit 0))) (.seq (.block 1 (.seq (.region 6 (ro Try.f15 6) true) (.cond (.tmp 25) (.seq (.region 7 (ro Try.f15 7) false) (.ret)) (.skip)))) (.region 5 (ro Try.f15 5) false)))))) (.seq (.region 8 (ro Try.f15 8) false) (.ret))))
theorem body15 : Try.f15.body = some c15 := by kernel_rfl
theorem res15 : Try.f15.results.toList.mapM (trR Try.prog) = some [.t 4] := by kernel_rfl
theorem nt15 : Try.f15.ntmps = 26 := by kernel_rfl
theorem nm15 : (Try.f15.name == "runtime.NumGoroutine") = false := by kernel_rfl
def a15_0 : List AO := [⟨(some 4), none, .mv (.v (.bool false))⟩]
theorem tr15_0 : TR Try.f15 26 0 = some a15_0 := by kernel_rfl
def a15_1 : List AO := [⟨(some 6), none, .mv (.t 0)⟩,
  ⟨(some 7), none, .len (.t 6)⟩,
  ⟨(some 8), none, .mv (.t 1)⟩,
  ⟨(some 9), none, .len (.t 8)⟩,
  ⟨(some 10), none, .bin .neq (.t 7) (.t 9)⟩]
theorem tr15_1 : TR Try.f15 26 1 = some a15_1 := by kernel_rfl
def a15_2 : List AO := [⟨(some 4), none, .mv (.v (.bool false))⟩]
theorem tr15_2 : TR Try.f15 26 2 = some a15_2 := by kernel_rfl
def a15_3 : List AO := [⟨(some 5), none, .mv (.v (.int .i64 0))⟩]
theorem tr15_3 : TR Try.f15 26 3 = some a15_3 := by kernel_rfl
def a15_4 : List AO := [⟨(some 11), none, .mv (.t 5)⟩,
  ⟨(some 12), none, .mv (.t 0)⟩,
  ⟨(some 13), none, .len (.t 12)⟩,
  ⟨(some 14), none, .bin .lss (.t 11) (.t 13)⟩]
theorem tr15_4 : TR Try.f15 26 4 = some a15_4 := by kernel_rfl
def a15_6 : List AO := [⟨(some 17), none, .mv (.t 0)⟩,
  ⟨(some 18), none, .mv (.t 5)⟩,
  ⟨(some 19), none, .idx 1 (.t 17) (.t 18)⟩,
  ⟨(some 20), none, .load none (.t 19)⟩,
  ⟨(some 21), none, .mv (.t 1)⟩,
  ⟨(some 22), none, .mv (.t 5)⟩,
  ⟨(some 23), none, .idx 1 (.t 21) (.t 22)⟩,
  ⟨(some 24), none, .load none (.t 23)⟩,
  ⟨(some 25), none, .bin .neq (.t 20) (.t 24)⟩]
theorem tr15_6 : TR Try.f15 26 6 = some a15_6 := by kernel_rfl
def d15_6 : List (List Nat) := [[], [], [0, 1], [0, 1, 2], [], [], [4, 5], [4, 5, 6], [0, 1, 2, 3, 4, 5, 6, 7]]
theorem ok15_6 : okReg (ro Try.f15 6) a15_6 d15_6 = true := by kernel_rfl
def a15_7 : List AO := [⟨(some 4), none, .mv (.v (.bool false))⟩]
theorem tr15_7 : TR Try.f15 26 7 = some a15_7 := by kernel_rfl
def a15_5 : List AO := [⟨(some 15), none, .mv (.t 5)⟩,
  ⟨(some 16), none, .bin .add (.t 15) (.v (.int .i64 1))⟩,
  ⟨(some 5), none, .mv (.t 16)⟩]
theorem tr15_5 : TR Try.f15 26 5 = some a15_5 := by kernel_rfl
def a15_8 : List AO := [⟨(some 4), none, .mv (.v (.bool true))⟩]
theorem tr15_8 : TR Try.f15 26 8 = some a15_8 := by kernel_rfl
/-- airline/prorate.divides -/
noncomputable def c16 : Code := .seq (.region 0 (ro Try.f16 0) false) (.seq (.region 1 (ro Try.f16 1) false) (.seq (.seq (.region 2 (ro Try.f16 2) false) (.block 0 (.loop (.seq (.region 3 (ro Try.f16 3) false) (.seq (.cond (.tmp 11) (.skip) (.exit 0)) (.seq (.block 1 (.seq (.region 4 (ro Try.f16 4) false) (.seq (.seq (.region 5 (ro Try.f16 5) false) (.cond (.tmp 29) (.seq (.region 6 (ro Try.f16 6) false) (.ret)) (.skip))) (.region 7 (ro Try.f16 7) false)))) (.region 8 (ro Try.f16 8) false))))))) (.seq (.region 9 (ro Try.f16 9) false) (.ret))))
theorem body16 : Try.f16.body = some c16 := by kernel_rfl
theorem res16 : Try.f16.results.toList.mapM (trR Try.prog) = some [.t 4] := by kernel_rfl
theorem nt16 : Try.f16.ntmps = 36 := by kernel_rfl
theorem nm16 : (Try.f16.name == "runtime.NumGoroutine") = false := by kernel_rfl
def a16_0 : List AO := [⟨(some 4), none, .mv (.v (.bool false))⟩]
theorem tr16_0 : TR Try.f16 36 0 = some a16_0 := by kernel_rfl
def a16_1 : List AO := [⟨(some 5), none, .mv (.v (.int .i64 0))⟩]
theorem tr16_1 : TR Try.f16 36 1 = some a16_1 := by kernel_rfl
def a16_2 : List AO := [⟨(some 8), none, .mv (.t 0)⟩,
  ⟨(some 9), none, .len (.t 8)⟩,
  ⟨(some 10), none, .mv (.v (.int .i64 0))⟩]
theorem tr16_2 : TR Try.f16 36 2 = some a16_2 := by kernel_rfl
def a16_3 : List AO := [⟨(some 11), none, .bin .lss (.t 10) (.t 9)⟩]
theorem tr16_3 : TR Try.f16 36 3 = some a16_3 := by kernel_rfl
def a16_4 : List AO := [⟨(some 12), none, .idx 4 (.t 8) (.t 10)⟩,
  ⟨(some 13), none, .load (some 4) (.t 12)⟩,
  ⟨(some 7), none, .alloc 39 [(.int .i64 0), (.int .i64 0), (.int .i64 0), (.int .i64 0)]⟩,
  ⟨none, none, .store 4 (.t 7) (.t 13)⟩]
theorem tr16_4 : TR Try.f16 36 4 = some a16_4 := by kernel_rfl
def a16_5 : List AO := [⟨(some 14), none, .fld 0 (.t 7)⟩,
  ⟨(some 15), none, .load none (.t 14)⟩,
  ⟨(some 16), none, .mv (.t 5)⟩,
  ⟨(some 17), none, .bin .neq (.t 15) (.t 16)⟩,
  ⟨(some 18), none, .mv (.t 17)⟩,
  ⟨(some 19), some (18, false), .fld 1 (.t 7)⟩,
  ⟨(some 20), some (18, false), .load none (.t 19)⟩,
  ⟨(some 21), some (18, false), .mv (.t 5)⟩,
  ⟨(some 22), some (18, false), .bin .leq (.t 20) (.t 21)⟩,
  ⟨(some 23), none, .pick (.t 18) (.v (.bool true)) (.t 22)⟩,
  ⟨(some 24), none, .mv (.t 23)⟩,
  ⟨(some 25), some (24, false), .fld 1 (.t 7)⟩,
  ⟨(some 26), some (24, false), .load none (.t 25)⟩,
  ⟨(some 27), some (24, false), .mv (.t 1)⟩,
  ⟨(some 28), some (24, false), .bin .gtr (.t 26) (.t 27)⟩,
  ⟨(some 29), none, .pick (.t 24) (.v (.bool true)) (.t 28)⟩]
theorem tr16_5 : TR Try.f16 36 5 = some a16_5 := by kernel_rfl
def a16_6 : List AO := [⟨(some 4), none, .mv (.v (.bool false))⟩]
theorem tr16_6 : TR Try.f16 36 6 = some a16_6 := by kernel_rfl
def a16_7 : List AO := [⟨(some 30), none, .fld 1 (.t 7)⟩,
  ⟨(some 31), none, .load none (.t 30)⟩,
  ⟨(some 5), none, .mv (.t 31)⟩]
theorem tr16_7 : TR Try.f16 36 7 = some a16_7 := by kernel_rfl
def a16_8 : List AO := [⟨(some 32), none, .bin .add (.t 10) (.v (.int .i64 1))⟩,
  ⟨(some 10), none, .mv (.t 32)⟩]
theorem tr16_8 : TR Try.f16 36 8 = some a16_8 := by kernel_rfl
def a16_9 : List AO := [⟨(some 33), none, .mv (.t 5)⟩,
  ⟨(some 34), none, .mv (.t 1)⟩,
  ⟨(some 35), none, .bin .eql (.t 33) (.t 34)⟩,
  ⟨(some 4), none, .mv (.t 35)⟩]
theorem tr16_9 : TR Try.f16 36 9 = some a16_9 := by kernel_rfl
/-- airline/prorate.Weights -/
noncomputable def c17 : Code := .seq (.region 0 (ro Try.f17 0) false) (.seq (.region 1 (ro Try.f17 1) false) (.seq (.seq (.region 2 (ro Try.f17 2) false) (.block 0 (.loop (.seq (.region 3 (ro Try.f17 3) false) (.seq (.cond (.tmp 16) (.skip) (.exit 0)) (.seq (.block 1 (.seq (.region 4 (ro Try.f17 4) false) (.seq (.region 5 (ro Try.f17 5) false) (.seq (.seq (.region 6 (ro Try.f17 6) false) (.cond (.tmp 35) (.region 7 (ro Try.f17 7) false) (.skip))) (.region 8 (ro Try.f17 8) false))))) (.region 9 (ro Try.f17 9) false))))))) (.seq (.region 10 (ro Try.f17 10) false) (.ret))))
theorem body17 : Try.f17.body = some c17 := by kernel_rfl
theorem res17 : Try.f17.results.toList.mapM (trR Try.prog) = some [.t 4] := by kernel_rfl
theorem nt17 : Try.f17.ntmps = 42 := by kernel_rfl
theorem nm17 : (Try.f17.name == "runtime.NumGoroutine") = false := by kernel_rfl
def a17_0 : List AO := [⟨(some 2), none, .box 25 (.t 0)⟩,
  ⟨(some 4), none, .mv (.v .nils)⟩]
theorem tr17_0 : TR Try.f17 42 0 = some a17_0 := by kernel_rfl
def a17_1 : List AO := [⟨(some 10), none, .mv (.t 1)⟩,
  ⟨(some 11), none, .len (.t 10)⟩,
  ⟨(some 12), none, .mks 3 1 8 [(.int .i64 0)] (.v (.int .i64 0)) (.t 11)⟩,
  ⟨(some 5), none, .mv (.t 12)⟩]
theorem tr17_1 : TR Try.f17 42 1 = some a17_1 := by kernel_rfl
def a17_2 : List AO := [⟨(some 13), none, .mv (.t 1)⟩,
  ⟨(some 14), none, .len (.t 13)⟩,
  ⟨(some 15), none, .mv (.v (.int .i64 0))⟩]
theorem tr17_2 : TR Try.f17 42 2 = some a17_2 := by kernel_rfl
def a17_3 : List AO := [⟨(some 16), none, .bin .lss (.t 15) (.t 14)⟩]
theorem tr17_3 : TR Try.f17 42 3 = some a17_3 := by kernel_rfl
def a17_4 : List AO := [⟨(some 17), none, .idx 8 (.t 13) (.t 15)⟩,
  ⟨(some 18), none, .load (some 8) (.t 17)⟩,
  ⟨(some 7), none, .alloc 55 [(.str []), (.int .i64 0), (.int .i64 0), (.str []), (.str []), (.int .i64 0), (.int .i64 0), (.str [])]⟩,
  ⟨none, none, .store 8 (.t 7) (.t 18)⟩]
theorem tr17_4 : TR Try.f17 42 4 = some a17_4 := by kernel_rfl
def a17_5 : List AO := [⟨(some 20), none, .load (some 2) (.t 2)⟩,
  ⟨(some 21), none, .fld 0 (.t 7)⟩,
  ⟨(some 22), none, .fld 3 (.t 21)⟩,
  ⟨(some 23), none, .load none (.t 22)⟩,
  ⟨(some 24), none, .fld 0 (.t 7)⟩,
  ⟨(some 25), none, .fld 4 (.t 24)⟩,
  ⟨(some 26), none, .load none (.t 25)⟩,
  ⟨(some 27), none, .call 25 [(.t 20), (.t 23), (.t 26)]⟩,
  ⟨(some 19), none, .mv (.t 27)⟩,
  ⟨(some 28), none, .ext 0 (.t 19)⟩,
  ⟨(some 29), none, .ext 1 (.t 19)⟩,
  ⟨(some 8), none, .mv (.t 28)⟩,
  ⟨(some 9), none, .mv (.t 29)⟩]
theorem tr17_5 : TR Try.f17 42 5 = some a17_5 := by kernel_rfl
def a17_6 : List AO := [⟨(some 30), none, .mv (.t 9)⟩,
  ⟨(some 31), none, .bin .neq (.t 30) (.v (.int .i64 0))⟩,
  ⟨(some 32), none, .mv (.t 31)⟩,
  ⟨(some 33), some (32, false), .mv (.t 8)⟩,
  ⟨(some 34), some (32, false), .bin .eql (.t 33) (.v (.int .i64 0))⟩,
  ⟨(some 35), none, .pick (.t 32) (.v (.bool true)) (.t 34)⟩]
theorem tr17_6 : TR Try.f17 42 6 = some a17_6 := by kernel_rfl
def a17_7 : List AO := [⟨(some 8), none, .mv (.v (.int .i64 1))⟩]
theorem tr17_7 : TR Try.f17 42 7 = some a17_7 := by kernel_rfl
def a17_8 : List AO := [⟨(some 36), none, .mv (.t 5)⟩,
  ⟨(some 37), none, .mv (.t 8)⟩,
  ⟨(some 38), none, .slc 3 1 false [(.t 37)]⟩,
  ⟨(some 39), none, .app 3 1 8 (.t 36) (.t 38)⟩,
  ⟨(some 5), none, .mv (.t 39)⟩]
theorem tr17_8 : TR Try.f17 42 8 = some a17_8 := by kernel_rfl
def a17_9 : List AO := [⟨(some 40), none, .bin .add (.t 15) (.v (.int .i64 1))⟩,
  ⟨(some 15), none, .mv (.t 40)⟩]
theorem tr17_9 : TR Try.f17 42 9 = some a17_9 := by kernel_rfl
def a17_10 : List AO := [⟨(some 41), none, .mv (.t 5)⟩,
  ⟨(some 4), none, .mv (.t 41)⟩]
theorem tr17_10 : TR Try.f17 42 10 = some a17_10 := by kernel_rfl
/-- airline/money.Split -/
noncomputable def c18 : Code := .seq (.region 0 (ro Try.f18 0) false) (.seq (.region 1 (ro Try.f18 1) false) (.seq (.seq (.region 2 (ro Try.f18 2) false) (.cond (.tmp 28) (.seq (.region 3 (ro Try.f18 3) false) (.ret)) (.skip))) (.seq (.seq (.region 4 (ro Try.f18 4) false) (.cond (.tmp 36) (.seq (.region 5 (ro Try.f18 5) false) (.ret)) (.skip))) (.seq (.region 6 (ro Try.f18 6) false) (.seq (.seq (.region 7 (ro Try.f18 7) false) (.cond (.tmp 41) (.region 8 (ro Try.f18 8) false) (.skip))) (.seq (.region 9 (ro Try.f18 9) true) (.seq (.region 10 (ro Try.f18 10) false) (.seq (.seq (.region 11 (ro Try.f18 11) false) (.block 0 (.loop (.seq (.region 12 (ro Try.f18 12) false) (.seq (.cond (.tmp 52) (.skip) (.exit 0)) (.seq (.block 1 (.seq (.region 13 (ro Try.f18 13) false) (.seq (.region 14 (ro Try.f18 14) false) (.seq (.region 15 (ro Try.f18 15) false) (.region 16 (ro Try.f18 16) false))))) (.region 17 (ro Try.f18 17) false))))))) (.seq (.region 18 (ro Try.f18 18) false) (.seq (.seq (.region 19 (ro Try.f18 19) false) (.block 2 (.loop (.seq (.region 20 (ro Try.f18 20) false) (.seq (.cond (.tmp 83) (.skip) (.exit 2)) (.seq (.block 3 (.seq (.region 21 (ro Try.f18 21) false) (.region 22 (ro Try.f18 22) false))) (.region 23 (ro Try.f18 23) false))))))) (.seq (.region 24 (ro Try.f18 24) false) (.seq (.seq (.region 25 (ro Try.f18 25) false) (.block 4 (.loop (.seq (.region 26 (ro Try.f18 26) false) (.seq (.cond (.tmp 97) (.skip) (.exit 4)) (.seq (.block 5 (.seq (.region 27 (ro Try.f18 27) false) (.seq (.region 28 (ro Try.f18 28) false) (.cond (.tmp 101) (.region 29 (ro Try.f18 29) false) (.skip))))) (.region 30 (ro Try.f18 30) false))))))) (.seq (.region 31 (ro Try.f18 31) false) (.ret))))))))))))))
theorem body18 : Try.f18.body = some c18 := by kernel_rfl
theorem res18 : Try.f18.results.toList.mapM (trR Try.prog) = some [.t 4, .t 5] := by kernel_rfl
theorem nt18 : Try.f18.ntmps = 107 := by kernel_rfl
theorem nm18 : (Try.f18.name == "runtime.NumGoroutine") = false := by kernel_rfl
def a18_0 : List AO := [⟨(some 4), none, .mv (.v .nils)⟩,
  ⟨(some 5), none, .mv (.v (.int .i64 0))⟩]
theorem tr18_0 : TR Try.f18 107 0 = some a18_0 := by kernel_rfl
def a18_1 : List AO := [⟨(some 23), none, .mv (.t 1)⟩,
  ⟨(some 24), none, .call 26 [(.t 23)]⟩,
  ⟨(some 22), none, .mv (.t 24)⟩,
  ⟨(some 25), none, .ext 0 (.t 22)⟩,
  ⟨(some 26), none, .ext 1 (.t 22)⟩,
  ⟨(some 6), none, .mv (.t 25)⟩,
  ⟨(some 7), none, .mv (.t 26)⟩]
theorem tr18_1 : TR Try.f18 107 1 = some a18_1 := by kernel_rfl
def a18_2 : List AO := [⟨(some 27), none, .mv (.t 7)⟩,
  ⟨(some 28), none, .bin .neq (.t 27) (.v (.int .i64 0))⟩]
theorem tr18_2 : TR Try.f18 107 2 = some a18_2 := by kernel_rfl
def a18_3 : List AO := [⟨(some 29), none, .mv (.t 7)⟩,
  ⟨(some 4), none, .mv (.v .nils)⟩,
  ⟨(some 5), none, .mv (.t 29)⟩]
theorem tr18_3 : TR Try.f18 107 3 = some a18_3 := by kernel_rfl
def a18_4 : List AO := [⟨(some 30), none, .mv (.t 0)⟩,
  ⟨(some 31), none, .call 27 [(.t 30)]⟩,
  ⟨(some 32), none, .un .not (.t 31)⟩,
  ⟨(some 33), none, .mv (.t 32)⟩,
  ⟨(some 34), some (33, false), .mv (.t 6)⟩,
  ⟨(some 35), some (33, false), .bin .gtr (.t 34) (.v (.int .i64 1099511627776))⟩,
  ⟨(some 36), none, .pick (.t 33) (.v (.bool true)) (.t 35)⟩]
theorem tr18_4 : TR Try.f18 107 4 = some a18_4 := by kernel_rfl
def a18_5 : List AO := [⟨(some 4), none, .mv (.v .nils)⟩,
  ⟨(some 5), none, .mv (.v (.int .i64 11))⟩]
theorem tr18_5 : TR Try.f18 107 5 = some a18_5 := by kernel_rfl
def a18_6 : List AO := [⟨(some 37), none, .mv (.t 0)⟩,
  ⟨(some 38), none, .call 28 [(.t 37)]⟩,
  ⟨(some 39), none, .conv .i64 (.t 38)⟩,
  ⟨(some 8), none, .alloc 3 [(.int .i64 0)]⟩,
  ⟨(some 9), none, .alloc 3 [(.int .i64 0)]⟩,
  ⟨none, none, .store 1 (.t 8) (.t 39)⟩,
  ⟨none, none, .store 1 (.t 9) (.v (.int .i64 1))⟩]
theorem tr18_6 : TR Try.f18 107 6 = some a18_6 := by kernel_rfl
def a18_7 : List AO := [⟨(some 40), none, .mv (.t 0)⟩,
  ⟨(some 41), none, .bin .lss (.t 40) (.v (.int .i64 0))⟩]
theorem tr18_7 : TR Try.f18 107 7 = some a18_7 := by kernel_rfl
def a18_8 : List AO := [⟨none, none, .store 1 (.t 9) (.v (.int .i64 (-1)))⟩]
theorem tr18_8 : TR Try.f18 107 8 = some a18_8 := by kernel_rfl
def a18_9 : List AO := [⟨(some 42), none, .mv (.t 1)⟩,
  ⟨(some 43), none, .len (.t 42)⟩,
  ⟨(some 44), none, .mks 3 1 8 [(.int .i64 0)] (.t 43) (.t 43)⟩,
  ⟨(some 45), none, .mv (.t 1)⟩,
  ⟨(some 46), none, .len (.t 45)⟩,
  ⟨(some 47), none, .mks 91 1 8 [(.int .u64 0)] (.t 46) (.t 46)⟩,
  ⟨(some 10), none, .alloc 34 [.nils]⟩,
  ⟨(some 11), none, .alloc 93 [.nils]⟩,
  ⟨none, none, .store 1 (.t 10) (.t 44)⟩,
  ⟨none, none, .store 1 (.t 11) (.t 47)⟩]
theorem tr18_9 : TR Try.f18 107 9 = some a18_9 := by kernel_rfl
def d18_9 : List (List Nat) := [[], [0], [0, 1], [], [3], [3, 4], [], [], [0, 1, 2, 6, 7], [0, 1, 2, 3, 4, 5, 6, 7, 8]]
theorem ok18_9 : okReg (ro Try.f18 9) a18_9 d18_9 = true := by kernel_rfl
def a18_10 : List AO := [⟨(some 48), none, .mkfn 29 [(.t 10), (.t 9), (.t 8)]⟩,
  ⟨(some 12), none, .mv (.t 48)⟩]
theorem tr18_10 : TR Try.f18 107 10 = some a18_10 := by kernel_rfl
def a18_11 : List AO := [⟨(some 49), none, .mv (.t 1)⟩,
  ⟨(some 50), none, .len (.t 49)⟩,
  ⟨(some 51), none, .mv (.v (.int .i64 0))⟩]
theorem tr18_11 : TR Try.f18 107 11 = some a18_11 := by kernel_rfl
def a18_12 : List AO := [⟨(some 52), none, .bin .lss (.t 51) (.t 50)⟩]
theorem tr18_12 : TR Try.f18 107 12 = some a18_12 := by kernel_rfl
def a18_13 : List AO := [⟨(some 53), none, .mv (.t 51)⟩,
  ⟨(some 54), none, .idx 1 (.t 49) (.t 51)⟩,
  ⟨(some 55), none, .load none (.t 54)⟩,
  ⟨(some 13), none, .mv (.t 53)⟩,
  ⟨(some 14), none, .mv (.t 55)⟩]
theorem tr18_13 : TR Try.f18 107 13 = some a18_13 := by kernel_rfl
def a18_14 : List AO := [⟨(some 57), none, .mv (.t 0)⟩,
  ⟨(some 58), none, .call 28 [(.t 57)]⟩,
  ⟨(some 59), none, .mv (.t 14)⟩,
  ⟨(some 60), none, .conv .u64 (.t 59)⟩,
  ⟨(some 61), none, .mv (.t 6)⟩,
  ⟨(some 62), none, .conv .u64 (.t 61)⟩,
  ⟨(some 63), none, .call 30 [(.t 58), (.t 60), (.t 62)]⟩,
  ⟨(some 56), none, .mv (.t 63)⟩,
  ⟨(some 64), none, .ext 0 (.t 56)⟩,
  ⟨(some 65), none, .ext 1 (.t 56)⟩,
  ⟨(some 66), none, .ext 2 (.t 56)⟩,
  ⟨(some 15), none, .mv (.t 64)⟩,
  ⟨(some 16), none, .mv (.t 65)⟩,
  ⟨(some 17), none, .mv (.t 66)⟩]
theorem tr18_14 : TR Try.f18 107 14 = some a18_14 := by kernel_rfl
def a18_15 : List AO := [⟨(some 67), none, .load none (.t 11)⟩,
  ⟨(some 68), none, .mv (.t 13)⟩,
  ⟨(some 69), none, .mv (.t 16)⟩,
  ⟨(some 70), none, .idx 1 (.t 67) (.t 68)⟩,
  ⟨none, none, .store 1 (.t 70) (.t 69)⟩]
theorem tr18_15 : TR Try.f18 107 15 = some a18_15 := by kernel_rfl
def a18_16 : List AO := [⟨(some 71), none, .mv (.t 12)⟩,
  ⟨(some 72), none, .mv (.t 13)⟩,
  ⟨(some 73), none, .mv (.t 15)⟩,
  ⟨(some 74), none, .conv .i64 (.t 73)⟩,
  ⟨(some 75), none, .callv (.t 71) [(.t 72), (.t 74)]⟩]
theorem tr18_16 : TR Try.f18 107 16 = some a18_16 := by kernel_rfl
def a18_17 : List AO := [⟨(some 76), none, .bin .add (.t 51) (.v (.int .i64 1))⟩,
  ⟨(some 51), none, .mv (.t 76)⟩]
theorem tr18_17 : TR Try.f18 107 17 = some a18_17 := by kernel_rfl
def a18_18 : List AO := [⟨(some 77), none, .mv (.t 1)⟩,
  ⟨(some 78), none, .len (.t 77)⟩,
  ⟨(some 79), none, .mks 3 1 8 [(.int .i64 0)] (.t 78) (.t 78)⟩,
  ⟨(some 18), none, .alloc 34 [.nils]⟩,
  ⟨none, none, .store 1 (.t 18) (.t 79)⟩]
theorem tr18_18 : TR Try.f18 107 18 = some a18_18 := by kernel_rfl
def a18_19 : List AO := [⟨(some 80), none, .load none (.t 18)⟩,
  ⟨(some 81), none, .len (.t 80)⟩,
  ⟨(some 82), none, .mv (.v (.int .i64 0))⟩]
theorem tr18_19 : TR Try.f18 107 19 = some a18_19 := by kernel_rfl
def a18_20 : List AO := [⟨(some 83), none, .bin .lss (.t 82) (.t 81)⟩]
theorem tr18_20 : TR Try.f18 107 20 = some a18_20 := by kernel_rfl
def a18_21 : List AO := [⟨(some 84), none, .mv (.t 82)⟩,
  ⟨(some 19), none, .mv (.t 84)⟩]
theorem tr18_21 : TR Try.f18 107 21 = some a18_21 := by kernel_rfl
def a18_22 : List AO := [⟨(some 85), none, .load none (.t 18)⟩,
  ⟨(some 86), none, .mv (.t 19)⟩,
  ⟨(some 87), none, .mv (.t 19)⟩,
  ⟨(some 88), none, .idx 1 (.t 85) (.t 86)⟩,
  ⟨none, none, .store 1 (.t 88) (.t 87)⟩]
theorem tr18_22 : TR Try.f18 107 22 = some a18_22 := by kernel_rfl
def a18_23 : List AO := [⟨(some 89), none, .bin .add (.t 82) (.v (.int .i64 1))⟩,
  ⟨(some 82), none, .mv (.t 89)⟩]
theorem tr18_23 : TR Try.f18 107 23 = some a18_23 := by kernel_rfl
def a18_24 : List AO := [⟨(some 90), none, .load none (.t 18)⟩,
  ⟨(some 91), none, .mki 34 (.t 90)⟩,
  ⟨(some 92), none, .mkfn 32 [(.t 11), (.t 18)]⟩,
  ⟨(some 93), none, .call 31 [(.t 91), (.t 92)]⟩]
theorem tr18_24 : TR Try.f18 107 24 = some a18_24 := by kernel_rfl
def a18_25 : List AO := [⟨(some 94), none, .load none (.t 18)⟩,
  ⟨(some 95), none, .len (.t 94)⟩,
  ⟨(some 96), none, .mv (.v (.int .i64 0))⟩]
theorem tr18_25 : TR Try.f18 107 25 = some a18_25 := by kernel_rfl
def a18_26 : List AO := [⟨(some 97), none, .bin .lss (.t 96) (.t 95)⟩]
theorem tr18_26 : TR Try.f18 107 26 = some a18_26 := by kernel_rfl
def a18_27 : List AO := [⟨(some 98), none, .idx 1 (.t 94) (.t 96)⟩,
  ⟨(some 99), none, .load none (.t 98)⟩,
  ⟨(some 21), none, .mv (.t 99)⟩]
theorem tr18_27 : TR Try.f18 107 27 = some a18_27 := by kernel_rfl
def a18_28 : List AO := [⟨(some 100), none, .load none (.t 8)⟩,
  ⟨(some 101), none, .bin .gtr (.t 100) (.v (.int .i64 0))⟩]
theorem tr18_28 : TR Try.f18 107 28 = some a18_28 := by kernel_rfl
def a18_29 : List AO := [⟨(some 102), none, .mv (.t 12)⟩,
  ⟨(some 103), none, .mv (.t 21)⟩,
  ⟨(some 104), none, .callv (.t 102) [(.t 103), (.v (.int .i64 1))]⟩]
theorem tr18_29 : TR Try.f18 107 29 = some a18_29 := by kernel_rfl
def a18_30 : List AO := [⟨(some 105), none, .bin .add (.t 96) (.v (.int .i64 1))⟩,
  ⟨(some 96), none, .mv (.t 105)⟩]
theorem tr18_30 : TR Try.f18 107 30 = some a18_30 := by kernel_rfl
def a18_31 : List AO := [⟨(some 106), none, .load none (.t 10)⟩,
  ⟨(some 4), none, .mv (.t 106)⟩,
  ⟨(some 5), none, .mv (.v (.int .i64 0))⟩]
theorem tr18_31 : TR Try.f18 107 31 = some a18_31 := by kernel_rfl
/-- airline/prorate.sums -/
noncomputable def c19 : Code := .seq (.region 0 (ro Try.f19 0) false) (.seq (.region 1 (ro Try.f19 1) false) (.seq (.region 2 (ro Try.f19 2) false) (.seq (.seq (.region 3 (ro Try.f19 3) false) (.block 0 (.loop (.seq (.region 4 (ro Try.f19 4) false) (.seq (.cond (.tmp 17) (.skip) (.exit 0)) (.seq (.block 1 (.seq (.region 5 (ro Try.f19 5) false) (.seq (.region 6 (ro Try.f19 6) false) (.seq (.seq (.region 7 (ro Try.f19 7) false) (.cond (.tmp 28) (.seq (.region 8 (ro Try.f19 8) false) (.ret)) (.skip))) (.region 9 (ro Try.f19 9) false))))) (.region 10 (ro Try.f19 10) false))))))) (.seq (.region 11 (ro Try.f19 11) false) (.ret)))))
theorem body19 : Try.f19.body = some c19 := by kernel_rfl
theorem res19 : Try.f19.results.toList.mapM (trR Try.prog) = some [.t 2, .t 3, .t 4] := by kernel_rfl
theorem nt19 : Try.f19.ntmps = 37 := by kernel_rfl
theorem nm19 : (Try.f19.name == "runtime.NumGoroutine") = false := by kernel_rfl
def a19_0 : List AO := [⟨(some 2), none, .mv (.v .nils)⟩,
  ⟨(some 3), none, .mv (.v .nils)⟩,
  ⟨(some 4), none, .mv (.v (.int .i64 0))⟩]
theorem tr19_0 : TR Try.f19 37 0 = some a19_0 := by kernel_rfl
def a19_1 : List AO := [⟨(some 11), none, .mv (.t 0)⟩,
  ⟨(some 12), none, .call 34 [(.t 11)]⟩,
  ⟨(some 13), none, .call 33 [(.t 12)]⟩,
  ⟨(some 5), none, .mv (.t 13)⟩]
theorem tr19_1 : TR Try.f19 37 1 = some a19_1 := by kernel_rfl
def a19_2 : List AO := [⟨(some 6), none, .mv (.v .nils)⟩]
theorem tr19_2 : TR Try.f19 37 2 = some a19_2 := by kernel_rfl
def a19_3 : List AO := [⟨(some 14), none, .mv (.t 5)⟩,
  ⟨(some 15), none, .len (.t 14)⟩,
  ⟨(some 16), none, .mv (.v (.int .i64 0))⟩]
theorem tr19_3 : TR Try.f19 37 3 = some a19_3 := by kernel_rfl
def a19_4 : List AO := [⟨(some 17), none, .bin .lss (.t 16) (.t 15)⟩]
theorem tr19_4 : TR Try.f19 37 4 = some a19_4 := by kernel_rfl
def a19_5 : List AO := [⟨(some 18), none, .idx 1 (.t 14) (.t 16)⟩,
  ⟨(some 19), none, .load none (.t 18)⟩,
  ⟨(some 8), none, .mv (.t 19)⟩]
theorem tr19_5 : TR Try.f19 37 5 = some a19_5 := by kernel_rfl
def a19_6 : List AO := [⟨(some 21), none, .mv (.t 0)⟩,
  ⟨(some 22), none, .mv (.t 8)⟩,
  ⟨(some 23), none, .look 0 false .nils (.t 21) (.t 22)⟩,
  ⟨(some 24), none, .call 35 [(.t 23)]⟩,
  ⟨(some 20), none, .mv (.t 24)⟩,
  ⟨(some 25), none, .ext 0 (.t 20)⟩,
  ⟨(some 26), none, .ext 1 (.t 20)⟩,
  ⟨(some 9), none, .mv (.t 25)⟩,
  ⟨(some 10), none, .mv (.t 26)⟩]
theorem tr19_6 : TR Try.f19 37 6 = some a19_6 := by kernel_rfl
def a19_7 : List AO := [⟨(some 27), none, .mv (.t 10)⟩,
  ⟨(some 28), none, .bin .neq (.t 27) (.v (.int .i64 0))⟩]
theorem tr19_7 : TR Try.f19 37 7 = some a19_7 := by kernel_rfl
def a19_8 : List AO := [⟨(some 29), none, .mv (.t 10)⟩,
  ⟨(some 2), none, .mv (.v .nils)⟩,
  ⟨(some 3), none, .mv (.v .nils)⟩,
  ⟨(some 4), none, .mv (.t 29)⟩]
theorem tr19_8 : TR Try.f19 37 8 = some a19_8 := by kernel_rfl
def a19_9 : List AO := [⟨(some 30), none, .mv (.t 6)⟩,
  ⟨(some 31), none, .mv (.t 9)⟩,
  ⟨(some 32), none, .slc 3 1 false [(.t 31)]⟩,
  ⟨(some 33), none, .app 3 1 8 (.t 30) (.t 32)⟩,
  ⟨(some 6), none, .mv (.t 33)⟩]
theorem tr19_9 : TR Try.f19 37 9 = some a19_9 := by kernel_rfl
def a19_10 : List AO := [⟨(some 34), none, .bin .add (.t 16) (.v (.int .i64 1))⟩,
  ⟨(some 16), none, .mv (.t 34)⟩]
theorem tr19_10 : TR Try.f19 37 10 = some a19_10 := by kernel_rfl
def a19_11 : List AO := [⟨(some 35), none, .mv (.t 5)⟩,
  ⟨(some 36), none, .mv (.t 6)⟩,
  ⟨(some 2), none, .mv (.t 35)⟩,
  ⟨(some 3), none, .mv (.t 36)⟩,
  ⟨(some 4), none, .mv (.v (.int .i64 0))⟩]
theorem tr19_11 : TR Try.f19 37 11 = some a19_11 := by kernel_rfl
/-- airline/airlineref06.airport -/
noncomputable def c22 : Code := .seq (.region 0 (ro Try.f22 0) false) (.seq (.region 1 (ro Try.f22 1) false) (.seq (.region 2 (ro Try.f22 2) false) (.seq (.seq (.region 3 (ro Try.f22 3) false) (.cond (.tmp 31) (.region 4 (ro Try.f22 4) false) (.skip))) (.seq (.region 5 (ro Try.f22 5) false) (.seq (.seq (.region 6 (ro Try.f22 6) false) (.block 0 (.loop (.seq (.seq (.region 7 (ro Try.f22 7) false) (.cond (.tmp 37) (.skip) (.exit 0))) (.seq (.block 1 (.seq (.region 9 (ro Try.f22 9) true) (.region 10 (ro Try.f22 10) true))) (.region 8 (ro Try.f22 8) false)))))) (.seq (.seq (.region 11 (ro Try.f22 11) false) (.cond (.tmp 75) (.region 12 (ro Try.f22 12) false) (.skip))) (.seq (.seq (.region 13 (ro Try.f22 13) false) (.cond (.tmp 79) (.region 14 (ro Try.f22 14) false) (.skip))) (.seq (.region 15 (ro Try.f22 15) false) (.seq (.seq (.region 16 (ro Try.f22 16) false) (.cond (.tmp 87) (.region 17 (ro Try.f22 17) false) (.skip))) (.seq (.region 18 (ro Try.f22 18) false) (.ret)))))))))))
theorem body22 : Try.f22.body = some c22 := by kernel_rfl
theorem res22 : Try.f22.results.toList.mapM (trR Try.prog) = some [.t 4] := by kernel_rfl
theorem nt22 : Try.f22.ntmps = 93 := by kernel_rfl
theorem nm22 : (Try.f22.name == "runtime.NumGoroutine") = false := by kernel_rfl
def a22_0 : List AO := [⟨(some 2), none, .box 25 (.t 0)⟩,
  ⟨(some 4), none, .mv (.v .nils)⟩]
theorem tr22_0 : TR Try.f22 93 0 = some a22_0 := by kernel_rfl
def a22_1 : List AO := [⟨(some 5), none, .mv (.v .nils)⟩]
theorem tr22_1 : TR Try.f22 93 1 = some a22_1 := by kernel_rfl
def a22_2 : List AO := [⟨(some 11), none, .fld 0 (.t 2)⟩,
  ⟨(some 12), none, .load none (.t 11)⟩,
  ⟨(some 13), none, .mv (.t 1)⟩,
  ⟨(some 14), none, .idx 5 (.t 12) (.t 13)⟩,
  ⟨(some 15), none, .load (some 5) (.t 14)⟩,
  ⟨(some 6), none, .alloc 70 [(.str []), (.str []), (.str []), (.int .i64 0), .nils]⟩,
  ⟨none, none, .store 5 (.t 6) (.t 15)⟩]
theorem tr22_2 : TR Try.f22 93 2 = some a22_2 := by kernel_rfl
def a22_3 : List AO := [⟨(some 16), none, .fld 0 (.t 6)⟩,
  ⟨(some 17), none, .load none (.t 16)⟩,
  ⟨(some 18), none, .call 37 [(.t 17)]⟩,
  ⟨(some 19), none, .un .not (.t 18)⟩,
  ⟨(some 20), none, .mv (.t 19)⟩,
  ⟨(some 21), some (20, false), .fld 1 (.t 6)⟩,
  ⟨(some 22), some (20, false), .load none (.t 21)⟩,
  ⟨(some 23), some (20, false), .call 37 [(.t 22)]⟩,
  ⟨(some 24), some (20, false), .un .not (.t 23)⟩,
  ⟨(some 25), none, .pick (.t 20) (.v (.bool true)) (.t 24)⟩,
  ⟨(some 26), none, .mv (.t 25)⟩,
  ⟨(some 27), some (26, false), .fld 2 (.t 6)⟩,
  ⟨(some 28), some (26, false), .load none (.t 27)⟩,
  ⟨(some 29), some (26, false), .call 38 [(.t 28)]⟩,
  ⟨(some 30), some (26, false), .un .not (.t 29)⟩,
  ⟨(some 31), none, .pick (.t 26) (.v (.bool true)) (.t 30)⟩]
theorem tr22_3 : TR Try.f22 93 3 = some a22_3 := by kernel_rfl
def a22_4 : List AO := [⟨(some 32), none, .mv (.t 5)⟩,
  ⟨(some 33), none, .slc 35 1 false [(.v (.int .i64 5))]⟩,
  ⟨(some 34), none, .app 35 1 8 (.t 32) (.t 33)⟩,
  ⟨(some 5), none, .mv (.t 34)⟩]
theorem tr22_4 : TR Try.f22 93 4 = some a22_4 := by kernel_rfl
def a22_5 : List AO := [⟨(some 7), none, .mv (.v (.bool false))⟩,
  ⟨(some 8), none, .mv (.v (.bool false))⟩]
theorem tr22_5 : TR Try.f22 93 5 = some a22_5 := by kernel_rfl
def a22_6 : List AO := [⟨(some 9), none, .mv (.v (.int .i64 0))⟩]
theorem tr22_6 : TR Try.f22 93 6 = some a22_6 := by kernel_rfl
def a22_7 : List AO := [⟨(some 35), none, .mv (.t 9)⟩,
  ⟨(some 36), none, .mv (.t 1)⟩,
  ⟨(some 37), none, .bin .lss (.t 35) (.t 36)⟩]
theorem tr22_7 : TR Try.f22 93 7 = some a22_7 := by kernel_rfl
def a22_9 : List AO := [⟨(some 40), none, .mv (.t 7)⟩,
  ⟨(some 41), none, .mv (.t 40)⟩,
  ⟨(some 42), some (41, false), .fld 0 (.t 2)⟩,
  ⟨(some 43), some (41, false), .load none (.t 42)⟩,
  ⟨(some 44), some (41, false), .mv (.t 9)⟩,
  ⟨(some 45), some (41, false), .idx 5 (.t 43) (.t 44)⟩,
  ⟨(some 46), some (41, false), .fld 0 (.t 45)⟩,
  ⟨(some 47), some (41, false), .load none (.t 46)⟩,
  ⟨(some 48), some (41, false), .fld 0 (.t 6)⟩,
  ⟨(some 49), some (41, false), .load none (.t 48)⟩,
  ⟨(some 50), some (41, false), .bin .eql (.t 47) (.t 49)⟩,
  ⟨(some 51), none, .pick (.t 41) (.v (.bool true)) (.t 50)⟩,
  ⟨(some 7), none, .mv (.t 51)⟩]
theorem tr22_9 : TR Try.f22 93 9 = some a22_9 := by kernel_rfl
def d22_9 : List (List Nat) := [[], [0], [0, 1], [0, 1, 2], [0, 1], [0, 1, 2, 3, 4], [0, 1, 2, 3, 4, 5], [0, 1, 2, 3, 4, 5, 6], [0, 1], [0, 1, 8], [0, 1, 2, 3, 4, 5, 6, 7, 8, 9], [0, 1, 2, 3, 4, 5, 6, 7, 8, 9, 10], [0, 1, 2, 3, 4, 5, 6, 7, 8, 9, 10, 11]]
theorem ok22_9 : okReg (ro Try.f22 9) a22_9 d22_9 = true := by kernel_rfl
def a22_10 : List AO := [⟨(some 52), none, .mv (.t 8)⟩,
  ⟨(some 53), none, .mv (.t 52)⟩,
  ⟨(some 54), some (53, false), .fld 0 (.t 2)⟩,
  ⟨(some 55), some (53, false), .load none (.t 54)⟩,
  ⟨(some 56), some (53, false), .mv (.t 9)⟩,
  ⟨(some 57), some (53, false), .idx 5 (.t 55) (.t 56)⟩,
  ⟨(some 58), some (53, false), .fld 1 (.t 57)⟩,
  ⟨(some 59), some (53, false), .load none (.t 58)⟩,
  ⟨(some 60), some (53, false), .fld 1 (.t 6)⟩,
  ⟨(some 61), some (53, false), .load none (.t 60)⟩,
  ⟨(some 62), some (53, false), .bin .eql (.t 59) (.t 61)⟩,
  ⟨(some 63), some (53, false), .mv (.t 62)⟩,
  ⟨(some 64), some (63, true), .fld 0 (.t 2)⟩,
  ⟨(some 65), some (63, true), .load none (.t 64)⟩,
  ⟨(some 66), some (63, true), .mv (.t 9)⟩,
  ⟨(some 67), some (63, true), .idx 5 (.t 65) (.t 66)⟩,
  ⟨(some 68), some (63, true), .fld 2 (.t 67)⟩,
  ⟨(some 69), some (63, true), .load none (.t 68)⟩,
  ⟨(some 70), some (63, true), .fld 2 (.t 6)⟩,
  ⟨(some 71), some (63, true), .load none (.t 70)⟩,
  ⟨(some 72), some (63, true), .bin .neq (.t 69) (.t 71)⟩,
  ⟨(some 73), some (53, false), .pick (.t 63) (.t 72) (.v (.bool false))⟩,
  ⟨(some 74), none, .pick (.t 53) (.v (.bool true)) (.t 73)⟩,
  ⟨(some 8), none, .mv (.t 74)⟩]
theorem tr22_10 : TR Try.f22 93 10 = some a22_10 := by kernel_rfl
def d22_10 : List (List Nat) := [[], [0], [0, 1], [0, 1, 2], [0, 1], [0, 1, 2, 3, 4], [0, 1, 2, 3, 4, 5], [0, 1, 2, 3, 4, 5, 6], [0, 1], [0, 1, 8], [0, 1, 2, 3, 4, 5, 6, 7, 8, 9], [0, 1, 2, 3, 4, 5, 6, 7, 8, 9, 10], [0, 1, 2, 3, 4, 5, 6, 7, 8, 9, 10, 11], [0, 1, 2, 3, 4, 5, 6, 7, 8, 9, 10, 11, 12], [0, 1, 2, 3, 4, 5, 6, 7, 8, 9, 10, 11], [0, 1, 2, 3, 4, 5, 6, 7, 8, 9, 10, 11, 12, 13, 14], [0, 1, 2, 3, 4, 5, 6, 7, 8, 9, 10, 11, 12, 13, 14, 15], [0, 1, 2, 3, 4, 5, 6, 7, 8, 9, 10, 11, 12, 13, 14, 15, 16], [0, 1, 2, 3, 4, 5, 6, 7, 8, 9, 10, 11], [0, 1, 2, 3, 4, 5, 6, 7, 8, 9, 10, 11, 18], [0, 1, 2, 3, 4, 5, 6, 7, 8, 9, 10, 11, 12, 13, 14, 15, 16, 17, 18, 19], [0, 1, 2, 3, 4, 5, 6, 7, 8, 9, 10, 11, 12, 13, 14, 15, 16, 17, 18, 19, 20], [0, 1, 2, 3, 4, 5, 6, 7, 8, 9, 10, 11, 12, 13, 14, 15, 16, 17, 18, 19, 20, 21], [0, 1, 2, 3, 4, 5, 6, 7, 8, 9, 10, 11, 12, 13, 14, 15, 16, 17, 18, 19, 20, 21, 22]]
theorem ok22_10 : okReg (ro Try.f22 10) a22_10 d22_10 = true := by kernel_rfl
def a22_8 : List AO := [⟨(some 38), none, .mv (.t 9)⟩,
  ⟨(some 39), none, .bin .add (.t 38) (.v (.int .i64 1))⟩,
  ⟨(some 9), none, .mv (.t 39)⟩]
theorem tr22_8 : TR Try.f22 93 8 = some a22_8 := by kernel_rfl
def a22_11 : List AO := [⟨(some 75), none, .mv (.t 7)⟩]
theorem tr22_11 : TR Try.f22 93 11 = some a22_11 := by kernel_rfl
def a22_12 : List AO := [⟨(some 76), none, .mv (.t 5)⟩,
  ⟨(some 77), none, .slc 35 1 false [(.v (.int .i64 6))]⟩,
  ⟨(some 78), none, .app 35 1 8 (.t 76) (.t 77)⟩,
  ⟨(some 5), none, .mv (.t 78)⟩]
theorem tr22_12 : TR Try.f22 93 12 = some a22_12 := by kernel_rfl
def a22_13 : List AO := [⟨(some 79), none, .mv (.t 8)⟩]
theorem tr22_13 : TR Try.f22 93 13 = some a22_13 := by kernel_rfl
def a22_14 : List AO := [⟨(some 80), none, .mv (.t 5)⟩,
  ⟨(some 81), none, .slc 35 1 false [(.v (.int .i64 8))]⟩,
  ⟨(some 82), none, .app 35 1 8 (.t 80) (.t 81)⟩,
  ⟨(some 5), none, .mv (.t 82)⟩]
theorem tr22_14 : TR Try.f22 93 14 = some a22_14 := by kernel_rfl
def a22_15 : List AO := [⟨(some 83), none, .fld 3 (.t 6)⟩,
  ⟨(some 84), none, .load (some 2) (.t 83)⟩,
  ⟨(some 85), none, .call 39 [(.t 84)]⟩,
  ⟨(some 10), none, .mv (.t 85)⟩]
theorem tr22_15 : TR Try.f22 93 15 = some a22_15 := by kernel_rfl
def a22_16 : List AO := [⟨(some 86), none, .mv (.t 10)⟩,
  ⟨(some 87), none, .bin .neq (.t 86) (.v (.int .i64 0))⟩]
theorem tr22_16 : TR Try.f22 93 16 = some a22_16 := by kernel_rfl
def a22_17 : List AO := [⟨(some 88), none, .mv (.t 5)⟩,
  ⟨(some 89), none, .mv (.t 10)⟩,
  ⟨(some 90), none, .slc 35 1 false [(.t 89)]⟩,
  ⟨(some 91), none, .app 35 1 8 (.t 88) (.t 90)⟩,
  ⟨(some 5), none, .mv (.t 91)⟩]
theorem tr22_17 : TR Try.f22 93 17 = some a22_17 := by kernel_rfl
def a22_18 : List AO := [⟨(some 92), none, .mv (.t 5)⟩,
  ⟨(some 4), none, .mv (.t 92)⟩]
theorem tr22_18 : TR Try.f22 93 18 = some a22_18 := by kernel_rfl
/-- airline/airlineref01.Decimal -/
noncomputable def c23 : Code := .seq (.region 0 (ro Try.f23 0) false) (.seq (.seq (.region 1 (ro Try.f23 1) false) (.cond (.tmp 4) (.seq (.region 2 (ro Try.f23 2) false) (.ret)) (.skip))) (.seq (.region 3 (ro Try.f23 3) false) (.ret)))
theorem body23 : Try.f23.body = some c23 := by kernel_rfl
theorem res23 : Try.f23.results.toList.mapM (trR Try.prog) = some [.t 2] := by kernel_rfl
theorem nt23 : Try.f23.ntmps = 15 := by kernel_rfl
theorem nm23 : (Try.f23.name == "runtime.NumGoroutine") = false := by kernel_rfl
def a23_0 : List AO := [⟨(some 2), none, .mv (.v (.str []))⟩]
theorem tr23_0 : TR Try.f23 15 0 = some a23_0 := by kernel_rfl
def a23_1 : List AO := [⟨(some 3), none, .mv (.t 0)⟩,
  ⟨(some 4), none, .bin .lss (.t 3) (.v (.int .i64 0))⟩]
theorem tr23_1 : TR Try.f23 15 1 = some a23_1 := by kernel_rfl
def a23_2 : List AO := [⟨(some 5), none, .mv (.t 0)⟩,
  ⟨(some 6), none, .bin .add (.t 5) (.v (.int .i64 1))⟩,
  ⟨(some 7), none, .un .neg (.t 6)⟩,
  ⟨(some 8), none, .conv .u64 (.t 7)⟩,
  ⟨(some 9), none, .bin .add (.t 8) (.v (.int .u64 1))⟩,
  ⟨(some 10), none, .call 40 [(.t 9)]⟩,
  ⟨(some 11), none, .bin .add (.v (.str [45])) (.t 10)⟩,
  ⟨(some 2), none, .mv (.t 11)⟩]
theorem tr23_2 : TR Try.f23 15 2 = some a23_2 := by kernel_rfl
def a23_3 : List AO := [⟨(some 12), none, .mv (.t 0)⟩,
  ⟨(some 13), none, .conv .u64 (.t 12)⟩,
  ⟨(some 14), none, .call 40 [(.t 13)]⟩,
  ⟨(some 2), none, .mv (.t 14)⟩]
theorem tr23_3 : TR Try.f23 15 3 = some a23_3 := by kernel_rfl
/-- airline/airlineref06.distance -/
noncomputable def c24 : Code := .seq (.region 0 (ro Try.f24 0) false) (.seq (.region 1 (ro Try.f24 1) false) (.seq (.region 2 (ro Try.f24 2) false) (.seq (.region 3 (ro Try.f24 3) false) (.seq (.region 4 (ro Try.f24 4) false) (.seq (.seq (.region 5 (ro Try.f24 5) false) (.cond (.tmp 38) (.region 6 (ro Try.f24 6) false) (.skip))) (.seq (.region 7 (ro Try.f24 7) false) (.seq (.seq (.region 8 (ro Try.f24 8) false) (.block 0 (.loop (.seq (.seq (.region 9 (ro Try.f24 9) false) (.cond (.tmp 44) (.skip) (.exit 0))) (.seq (.block 1 (.seq (.region 11 (ro Try.f24 11) false) (.region 12 (ro Try.f24 12) false))) (.region 10 (ro Try.f24 10) false)))))) (.seq (.seq (.region 13 (ro Try.f24 13) false) (.cond (.tmp 81) (.region 14 (ro Try.f24 14) false) (.skip))) (.seq (.seq (.region 15 (ro Try.f24 15) false) (.cond (.tmp 94) (.region 16 (ro Try.f24 16) false) (.skip))) (.seq (.region 17 (ro Try.f24 17) false) (.ret)))))))))))
theorem body24 : Try.f24.body = some c24 := by kernel_rfl
theorem res24 : Try.f24.results.toList.mapM (trR Try.prog) = some [.t 4] := by kernel_rfl
theorem nt24 : Try.f24.ntmps = 99 := by kernel_rfl
theorem nm24 : (Try.f24.name == "runtime.NumGoroutine") = false := by kernel_rfl
def a24_0 : List AO := [⟨(some 2), none, .box 25 (.t 0)⟩,
  ⟨(some 4), none, .mv (.v .nils)⟩]
theorem tr24_0 : TR Try.f24 99 0 = some a24_0 := by kernel_rfl
def a24_1 : List AO := [⟨(some 5), none, .mv (.v .nils)⟩]
theorem tr24_1 : TR Try.f24 99 1 = some a24_1 := by kernel_rfl
def a24_2 : List AO := [⟨(some 14), none, .fld 1 (.t 2)⟩,
  ⟨(some 15), none, .load none (.t 14)⟩,
  ⟨(some 16), none, .mv (.t 1)⟩,
  ⟨(some 17), none, .idx 3 (.t 15) (.t 16)⟩,
  ⟨(some 18), none, .load (some 3) (.t 17)⟩,
  ⟨(some 6), none, .alloc 72 [(.str []), (.str []), (.int .i64 0)]⟩,
  ⟨none, none, .store 3 (.t 6) (.t 18)⟩]
theorem tr24_2 : TR Try.f24 99 2 = some a24_2 := by kernel_rfl
def a24_3 : List AO := [⟨(some 20), none, .load (some 2) (.t 2)⟩,
  ⟨(some 21), none, .fld 0 (.t 6)⟩,
  ⟨(some 22), none, .load none (.t 21)⟩,
  ⟨(some 23), none, .call 41 [(.t 20), (.t 22)]⟩,
  ⟨(some 19), none, .mv (.t 23)⟩,
  ⟨(some 24), none, .ext 0 (.t 19)⟩,
  ⟨(some 25), none, .ext 1 (.t 19)⟩,
  ⟨(some 7), none, .alloc 70 [(.str []), (.str []), (.str []), (.int .i64 0), .nils]⟩,
  ⟨none, none, .store 5 (.t 7) (.t 24)⟩,
  ⟨(some 8), none, .mv (.t 25)⟩]
theorem tr24_3 : TR Try.f24 99 3 = some a24_3 := by kernel_rfl
def a24_4 : List AO := [⟨(some 27), none, .load (some 2) (.t 2)⟩,
  ⟨(some 28), none, .fld 1 (.t 6)⟩,
  ⟨(some 29), none, .load none (.t 28)⟩,
  ⟨(some 30), none, .call 41 [(.t 27), (.t 29)]⟩,
  ⟨(some 26), none, .mv (.t 30)⟩,
  ⟨(some 31), none, .ext 0 (.t 26)⟩,
  ⟨(some 32), none, .ext 1 (.t 26)⟩,
  ⟨(some 9), none, .alloc 70 [(.str []), (.str []), (.str []), (.int .i64 0), .nils]⟩,
  ⟨none, none, .store 5 (.t 9) (.t 31)⟩,
  ⟨(some 10), none, .mv (.t 32)⟩]
theorem tr24_4 : TR Try.f24 99 4 = some a24_4 := by kernel_rfl
def a24_5 : List AO := [⟨(some 33), none, .mv (.t 8)⟩,
  ⟨(some 34), none, .un .not (.t 33)⟩,
  ⟨(some 35), none, .mv (.t 34)⟩,
  ⟨(some 36), some (35, false), .mv (.t 10)⟩,
  ⟨(some 37), some (35, false), .un .not (.t 36)⟩,
  ⟨(some 38), none, .pick (.t 35) (.v (.bool true)) (.t 37)⟩]
theorem tr24_5 : TR Try.f24 99 5 = some a24_5 := by kernel_rfl
def a24_6 : List AO := [⟨(some 39), none, .mv (.t 5)⟩,
  ⟨(some 40), none, .slc 35 1 false [(.v (.int .i64 14))]⟩,
  ⟨(some 41), none, .app 35 1 8 (.t 39) (.t 40)⟩,
  ⟨(some 5), none, .mv (.t 41)⟩]
theorem tr24_6 : TR Try.f24 99 6 = some a24_6 := by kernel_rfl
def a24_7 : List AO := [⟨(some 11), none, .mv (.v (.bool false))⟩]
theorem tr24_7 : TR Try.f24 99 7 = some a24_7 := by kernel_rfl
def a24_8 : List AO := [⟨(some 12), none, .mv (.v (.int .i64 0))⟩]
theorem tr24_8 : TR Try.f24 99 8 = some a24_8 := by kernel_rfl
def a24_9 : List AO := [⟨(some 42), none, .mv (.t 12)⟩,
  ⟨(some 43), none, .mv (.t 1)⟩,
  ⟨(some 44), none, .bin .lss (.t 42) (.t 43)⟩]
theorem tr24_9 : TR Try.f24 99 9 = some a24_9 := by kernel_rfl
def a24_11 : List AO := [⟨(some 47), none, .fld 1 (.t 2)⟩,
  ⟨(some 48), none, .load none (.t 47)⟩,
  ⟨(some 49), none, .mv (.t 12)⟩,
  ⟨(some 50), none, .idx 3 (.t 48) (.t 49)⟩,
  ⟨(some 51), none, .load (some 3) (.t 50)⟩,
  ⟨(some 13), none, .alloc 72 [(.str []), (.str []), (.int .i64 0)]⟩,
  ⟨none, none, .store 3 (.t 13) (.t 51)⟩]
theorem tr24_11 : TR Try.f24 99 11 = some a24_11 := by kernel_rfl
def a24_12 : List AO := [⟨(some 52), none, .mv (.t 11)⟩,
  ⟨(some 53), none, .mv (.t 52)⟩,
  ⟨(some 54), some (53, false), .fld 0 (.t 13)⟩,
  ⟨(some 55), some (53, false), .load none (.t 54)⟩,
  ⟨(some 56), some (53, false), .fld 0 (.t 6)⟩,
  ⟨(some 57), some (53, false), .load none (.t 56)⟩,
  ⟨(some 58), some (53, false), .bin .eql (.t 55) (.t 57)⟩,
  ⟨(some 59), some (53, false), .mv (.t 58)⟩,
  ⟨(some 60), some (59, true), .fld 1 (.t 13)⟩,
  ⟨(some 61), some (59, true), .load none (.t 60)⟩,
  ⟨(some 62), some (59, true), .fld 1 (.t 6)⟩,
  ⟨(some 63), some (59, true), .load none (.t 62)⟩,
  ⟨(some 64), some (59, true), .bin .eql (.t 61) (.t 63)⟩,
  ⟨(some 65), some (53, false), .pick (.t 59) (.t 64) (.v (.bool false))⟩,
  ⟨(some 66), none, .pick (.t 53) (.v (.bool true)) (.t 65)⟩,
  ⟨(some 67), none, .mv (.t 66)⟩,
  ⟨(some 68), some (67, false), .fld 0 (.t 13)⟩,
  ⟨(some 69), some (67, false), .load none (.t 68)⟩,
  ⟨(some 70), some (67, false), .fld 1 (.t 6)⟩,
  ⟨(some 71), some (67, false), .load none (.t 70)⟩,
  ⟨(some 72), some (67, false), .bin .eql (.t 69) (.t 71)⟩,
  ⟨(some 73), some (67, false), .mv (.t 72)⟩,
  ⟨(some 74), some (73, true), .fld 1 (.t 13)⟩,
  ⟨(some 75), some (73, true), .load none (.t 74)⟩,
  ⟨(some 76), some (73, true), .fld 0 (.t 6)⟩,
  ⟨(some 77), some (73, true), .load none (.t 76)⟩,
  ⟨(some 78), some (73, true), .bin .eql (.t 75) (.t 77)⟩,
  ⟨(some 79), some (67, false), .pick (.t 73) (.t 78) (.v (.bool false))⟩,
  ⟨(some 80), none, .pick (.t 67) (.v (.bool true)) (.t 79)⟩,
  ⟨(some 11), none, .mv (.t 80)⟩]
theorem tr24_12 : TR Try.f24 99 12 = some a24_12 := by kernel_rfl
def a24_10 : List AO := [⟨(some 45), none, .mv (.t 12)⟩,
  ⟨(some 46), none, .bin .add (.t 45) (.v (.int .i64 1))⟩,
  ⟨(some 12), none, .mv (.t 46)⟩]
theorem tr24_10 : TR Try.f24 99 10 = some a24_10 := by kernel_rfl
def a24_13 : List AO := [⟨(some 81), none, .mv (.t 11)⟩]
theorem tr24_13 : TR Try.f24 99 13 = some a24_13 := by kernel_rfl
def a24_14 : List AO := [⟨(some 82), none, .mv (.t 5)⟩,
  ⟨(some 83), none, .slc 35 1 false [(.v (.int .i64 6))]⟩,
  ⟨(some 84), none, .app 35 1 8 (.t 82) (.t 83)⟩,
  ⟨(some 5), none, .mv (.t 84)⟩]
theorem tr24_14 : TR Try.f24 99 14 = some a24_14 := by kernel_rfl
def a24_15 : List AO := [⟨(some 85), none, .load (some 3) (.t 6)⟩,
  ⟨(some 86), none, .call 42 [(.t 85)]⟩,
  ⟨(some 87), none, .un .not (.t 86)⟩,
  ⟨(some 88), none, .mv (.t 87)⟩,
  ⟨(some 89), some (88, false), .fld 0 (.t 6)⟩,
  ⟨(some 90), some (88, false), .load none (.t 89)⟩,
  ⟨(some 91), some (88, false), .fld 1 (.t 6)⟩,
  ⟨(some 92), some (88, false), .load none (.t 91)⟩,
  ⟨(some 93), some (88, false), .bin .eql (.t 90) (.t 92)⟩,
  ⟨(some 94), none, .pick (.t 88) (.v (.bool true)) (.t 93)⟩]
theorem tr24_15 : TR Try.f24 99 15 = some a24_15 := by kernel_rfl
def a24_16 : List AO := [⟨(some 95), none, .mv (.t 5)⟩,
  ⟨(some 96), none, .slc 35 1 false [(.v (.int .i64 2))]⟩,
  ⟨(some 97), none, .app 35 1 8 (.t 95) (.t 96)⟩,
  ⟨(some 5), none, .mv (.t 97)⟩]
theorem tr24_16 : TR Try.f24 99 16 = some a24_16 := by kernel_rfl
def a24_17 : List AO := [⟨(some 98), none, .mv (.t 5)⟩,
  ⟨(some 4), none, .mv (.t 98)⟩]
theorem tr24_17 : TR Try.f24 99 17 = some a24_17 := by kernel_rfl
/-- airline/places.Miles -/
noncomputable def c25 : Code := .seq (.region 0 (ro Try.f25 0) false) (.seq (.region 1 (ro Try.f25 1) true) (.seq (.seq (.region 2 (ro Try.f25 2) false) (.cond (.tmp 30) (.seq (.region 3 (ro Try.f25 3) false) (.ret)) (.skip))) (.seq (.region 4 (ro Try.f25 4) false) (.seq (.region 5 (ro Try.f25 5) false) (.seq (.seq (.region 6 (ro Try.f25 6) false) (.block 0 (.loop (.seq (.seq (.region 7 (ro Try.f25 7) false) (.cond (.tmp 35) (.skip) (.exit 0))) (.block 1 (.seq (.region 8 (ro Try.f25 8) false) (.seq (.region 9 (ro Try.f25 9) false) (.block 2 (.loop (.seq (.region 10 (ro Try.f25 10) false) (.seq (.cond (.tmp 40) (.skip) (.exit 2)) (.seq (.block 3 (.seq (.region 11 (ro Try.f25 11) false) (.seq (.region 12 (ro Try.f25 12) false) (.cond (.tmp 44) (.seq (.region 13 (ro Try.f25 13) false) (.seq (.region 14 (ro Try.f25 14) false) (.region 15 (ro Try.f25 15) false))) (.skip))))) (.region 16 (ro Try.f25 16) false))))))))))))) (.seq (.region 17 (ro Try.f25 17) false) (.seq (.seq (.region 18 (ro Try.f25 18) false) (.cond (.tmp 76) (.seq (.region 19 (ro Try.f25 19) false) (.ret)) (.skip))) (.seq (.region 20 (ro Try.f25 20) false) (.ret)))))))))
theorem body25 : Try.f25.body = some c25 := by kernel_rfl
theorem res25 : Try.f25.results.toList.mapM (trR Try.prog) = some [.t 6, .t 7] := by kernel_rfl
theorem nt25 : Try.f25.ntmps = 78 := by kernel_rfl
theorem nm25 : (Try.f25.name == "runtime.NumGoroutine") = false := by kernel_rfl
def a25_0 : List AO := [⟨(some 3), none, .box 25 (.t 0)⟩,
  ⟨(some 6), none, .mv (.v (.int .i64 0))⟩,
  ⟨(some 7), none, .mv (.v (.int .i64 0))⟩]
theorem tr25_0 : TR Try.f25 78 0 = some a25_0 := by kernel_rfl
def a25_1 : List AO := [⟨(some 19), none, .load (some 2) (.t 3)⟩,
  ⟨(some 20), none, .mv (.t 1)⟩,
  ⟨(some 21), none, .call 43 [(.t 19), (.t 20)]⟩,
  ⟨(some 22), none, .load (some 2) (.t 3)⟩,
  ⟨(some 23), none, .mv (.t 2)⟩,
  ⟨(some 24), none, .call 43 [(.t 22), (.t 23)]⟩,
  ⟨(some 8), none, .mv (.t 21)⟩,
  ⟨(some 9), none, .mv (.t 24)⟩]
theorem tr25_1 : TR Try.f25 78 1 = some a25_1 := by kernel_rfl
def d25_1 : List (List Nat) := [[], [], [0, 1], [], [], [0, 1, 2, 3, 4], [0, 1, 2, 3, 4, 5], [0, 1, 2, 3, 4, 5, 6]]
theorem ok25_1 : okReg (ro Try.f25 1) a25_1 d25_1 = true := by kernel_rfl
def a25_2 : List AO := [⟨(some 25), none, .mv (.t 8)⟩,
  ⟨(some 26), none, .bin .eql (.t 25) (.v (.str []))⟩,
  ⟨(some 27), none, .mv (.t 26)⟩,
  ⟨(some 28), some (27, false), .mv (.t 9)⟩,
  ⟨(some 29), some (27, false), .bin .eql (.t 28) (.v (.str []))⟩,
  ⟨(some 30), none, .pick (.t 27) (.v (.bool true)) (.t 29)⟩]
theorem tr25_2 : TR Try.f25 78 2 = some a25_2 := by kernel_rfl
def a25_3 : List AO := [⟨(some 6), none, .mv (.v (.int .i64 0))⟩,
  ⟨(some 7), none, .mv (.v (.int .i64 14))⟩]
theorem tr25_3 : TR Try.f25 78 3 = some a25_3 := by kernel_rfl
def a25_4 : List AO := [⟨(some 31), none, .mkmap⟩,
  ⟨(some 32), none, .mv (.t 8)⟩,
  ⟨none, none, .mset 0 (.t 31) (.t 32) (.v (.int .i64 0))⟩,
  ⟨(some 33), none, .mv (.t 31)⟩,
  ⟨(some 10), none, .alloc 111 [.nilm]⟩,
  ⟨none, none, .store 1 (.t 10) (.t 33)⟩]
theorem tr25_4 : TR Try.f25 78 4 = some a25_4 := by kernel_rfl
def a25_5 : List AO := [⟨(some 34), none, .mkfn 44 [(.t 10)]⟩,
  ⟨(some 11), none, .mv (.t 34)⟩]
theorem tr25_5 : TR Try.f25 78 5 = some a25_5 := by kernel_rfl
def a25_6 : List AO := [⟨(some 12), none, .mv (.v (.bool true))⟩]
theorem tr25_6 : TR Try.f25 78 6 = some a25_6 := by kernel_rfl
def a25_7 : List AO := [⟨(some 35), none, .mv (.t 12)⟩]
theorem tr25_7 : TR Try.f25 78 7 = some a25_7 := by kernel_rfl
def a25_8 : List AO := [⟨(some 12), none, .mv (.v (.bool false))⟩]
theorem tr25_8 : TR Try.f25 78 8 = some a25_8 := by kernel_rfl
def a25_9 : List AO := [⟨(some 36), none, .fld 1 (.t 3)⟩,
  ⟨(some 37), none, .load none (.t 36)⟩,
  ⟨(some 38), none, .len (.t 37)⟩,
  ⟨(some 39), none, .mv (.v (.int .i64 0))⟩]
theorem tr25_9 : TR Try.f25 78 9 = some a25_9 := by kernel_rfl
def a25_10 : List AO := [⟨(some 40), none, .bin .lss (.t 39) (.t 38)⟩]
theorem tr25_10 : TR Try.f25 78 10 = some a25_10 := by kernel_rfl
def a25_11 : List AO := [⟨(some 41), none, .idx 3 (.t 37) (.t 39)⟩,
  ⟨(some 42), none, .load (some 3) (.t 41)⟩,
  ⟨(some 14), none, .alloc 72 [(.str []), (.str []), (.int .i64 0)]⟩,
  ⟨none, none, .store 3 (.t 14) (.t 42)⟩]
theorem tr25_11 : TR Try.f25 78 11 = some a25_11 := by kernel_rfl
def a25_12 : List AO := [⟨(some 43), none, .load (some 3) (.t 14)⟩,
  ⟨(some 44), none, .call 45 [(.t 43)]⟩]
theorem tr25_12 : TR Try.f25 78 12 = some a25_12 := by kernel_rfl
def a25_13 : List AO := [⟨(some 45), none, .mv (.t 11)⟩,
  ⟨(some 46), none, .fld 0 (.t 14)⟩,
  ⟨(some 47), none, .load none (.t 46)⟩,
  ⟨(some 48), none, .fld 1 (.t 14)⟩,
  ⟨(some 49), none, .load none (.t 48)⟩,
  ⟨(some 50), none, .fld 2 (.t 14)⟩,
  ⟨(some 51), none, .load none (.t 50)⟩,
  ⟨(some 52), none, .callv (.t 45) [(.t 47), (.t 49), (.t 51)]⟩,
  ⟨(some 15), none, .mv (.t 52)⟩]
theorem tr25_13 : TR Try.f25 78 13 = some a25_13 := by kernel_rfl
def a25_14 : List AO := [⟨(some 53), none, .mv (.t 11)⟩,
  ⟨(some 54), none, .fld 1 (.t 14)⟩,
  ⟨(some 55), none, .load none (.t 54)⟩,
  ⟨(some 56), none, .fld 0 (.t 14)⟩,
  ⟨(some 57), none, .load none (.t 56)⟩,
  ⟨(some 58), none, .fld 2 (.t 14)⟩,
  ⟨(some 59), none, .load none (.t 58)⟩,
  ⟨(some 60), none, .callv (.t 53) [(.t 55), (.t 57), (.t 59)]⟩,
  ⟨(some 16), none, .mv (.t 60)⟩]
theorem tr25_14 : TR Try.f25 78 14 = some a25_14 := by kernel_rfl
def a25_15 : List AO := [⟨(some 61), none, .mv (.t 12)⟩,
  ⟨(some 62), none, .mv (.t 61)⟩,
  ⟨(some 63), some (62, false), .mv (.t 15)⟩,
  ⟨(some 64), none, .pick (.t 62) (.v (.bool true)) (.t 63)⟩,
  ⟨(some 65), none, .mv (.t 64)⟩,
  ⟨(some 66), some (65, false), .mv (.t 16)⟩,
  ⟨(some 67), none, .pick (.t 65) (.v (.bool true)) (.t 66)⟩,
  ⟨(some 12), none, .mv (.t 67)⟩]
theorem tr25_15 : TR Try.f25 78 15 = some a25_15 := by kernel_rfl
def a25_16 : List AO := [⟨(some 68), none, .bin .add (.t 39) (.v (.int .i64 1))⟩,
  ⟨(some 39), none, .mv (.t 68)⟩]
theorem tr25_16 : TR Try.f25 78 16 = some a25_16 := by kernel_rfl
def a25_17 : List AO := [⟨(some 70), none, .load none (.t 10)⟩,
  ⟨(some 71), none, .mv (.t 9)⟩,
  ⟨(some 72), none, .look 0 true (.int .i64 0) (.t 70) (.t 71)⟩,
  ⟨(some 69), none, .mv (.t 72)⟩,
  ⟨(some 73), none, .ext 0 (.t 69)⟩,
  ⟨(some 74), none, .ext 1 (.t 69)⟩,
  ⟨(some 17), none, .mv (.t 73)⟩,
  ⟨(some 18), none, .mv (.t 74)⟩]
theorem tr25_17 : TR Try.f25 78 17 = some a25_17 := by kernel_rfl
def a25_18 : List AO := [⟨(some 75), none, .mv (.t 18)⟩,
  ⟨(some 76), none, .un .not (.t 75)⟩]
theorem tr25_18 : TR Try.f25 78 18 = some a25_18 := by kernel_rfl
def a25_19 : List AO := [⟨(some 6), none, .mv (.v (.int .i64 0))⟩,
  ⟨(some 7), none, .mv (.v (.int .i64 7))⟩]
theorem tr25_19 : TR Try.f25 78 19 = some a25_19 := by kernel_rfl
def a25_20 : List AO := [⟨(some 77), none, .mv (.t 17)⟩,
  ⟨(some 6), none, .mv (.t 77)⟩,
  ⟨(some 7), none, .mv (.v (.int .i64 0))⟩]
theorem tr25_20 : TR Try.f25 78 20 = some a25_20 := by kernel_rfl
/-- airline/money.total -/
noncomputable def c26 : Code := .seq (.region 0 (ro Try.f26 0) false) (.seq (.region 1 (ro Try.f26 1) false) (.seq (.seq (.region 2 (ro Try.f26 2) false) (.block 0 (.loop (.seq (.region 3 (ro Try.f26 3) false) (.seq (.cond (.tmp 10) (.skip) (.exit 0)) (.seq (.block 1 (.seq (.region 4 (ro Try.f26 4) false) (.seq (.seq (.region 5 (ro Try.f26 5) false) (.cond (.tmp 14) (.seq (.region 6 (ro Try.f26 6) false) (.ret)) (.skip))) (.seq (.region 7 (ro Try.f26 7) false) (.cond (.tmp 16) (.region 8 (ro Try.f26 8) false) (.skip)))))) (.region 9 (ro Try.f26 9) false))))))) (.seq (.seq (.region 10 (ro Try.f26 10) false) (.cond (.tmp 23) (.seq (.region 11 (ro Try.f26 11) false) (.ret)) (.skip))) (.seq (.region 12 (ro Try.f26 12) false) (.ret)))))
theorem body26 : Try.f26.body = some c26 := by kernel_rfl
theorem res26 : Try.f26.results.toList.mapM (trR Try.prog) = some [.t 2, .t 3] := by kernel_rfl
theorem nt26 : Try.f26.ntmps = 25 := by kernel_rfl
theorem nm26 : (Try.f26.name == "runtime.NumGoroutine") = false := by kernel_rfl
def a26_0 : List AO := [⟨(some 2), none, .mv (.v (.int .i64 0))⟩,
  ⟨(some 3), none, .mv (.v (.int .i64 0))⟩]
theorem tr26_0 : TR Try.f26 25 0 = some a26_0 := by kernel_rfl
def a26_1 : List AO := [⟨(some 4), none, .mv (.v (.int .i64 0))⟩]
theorem tr26_1 : TR Try.f26 25 1 = some a26_1 := by kernel_rfl
def a26_2 : List AO := [⟨(some 7), none, .mv (.t 0)⟩,
  ⟨(some 8), none, .len (.t 7)⟩,
  ⟨(some 9), none, .mv (.v (.int .i64 0))⟩]
theorem tr26_2 : TR Try.f26 25 2 = some a26_2 := by kernel_rfl
def a26_3 : List AO := [⟨(some 10), none, .bin .lss (.t 9) (.t 8)⟩]
theorem tr26_3 : TR Try.f26 25 3 = some a26_3 := by kernel_rfl
def a26_4 : List AO := [⟨(some 11), none, .idx 1 (.t 7) (.t 9)⟩,
  ⟨(some 12), none, .load none (.t 11)⟩,
  ⟨(some 6), none, .mv (.t 12)⟩]
theorem tr26_4 : TR Try.f26 25 4 = some a26_4 := by kernel_rfl
def a26_5 : List AO := [⟨(some 13), none, .mv (.t 6)⟩,
  ⟨(some 14), none, .bin .lss (.t 13) (.v (.int .i64 0))⟩]
theorem tr26_5 : TR Try.f26 25 5 = some a26_5 := by kernel_rfl
def a26_6 : List AO := [⟨(some 2), none, .mv (.v (.int .i64 0))⟩,
  ⟨(some 3), none, .mv (.v (.int .i64 2))⟩]
theorem tr26_6 : TR Try.f26 25 6 = some a26_6 := by kernel_rfl
def a26_7 : List AO := [⟨(some 15), none, .mv (.t 4)⟩,
  ⟨(some 16), none, .bin .leq (.t 15) (.v (.int .i64 1099511627776))⟩]
theorem tr26_7 : TR Try.f26 25 7 = some a26_7 := by kernel_rfl
def a26_8 : List AO := [⟨(some 17), none, .mv (.t 4)⟩,
  ⟨(some 18), none, .mv (.t 6)⟩,
  ⟨(some 19), none, .mn (.t 18) (.v (.int .i64 1099511627777))⟩,
  ⟨(some 20), none, .bin .add (.t 17) (.t 19)⟩,
  ⟨(some 4), none, .mv (.t 20)⟩]
theorem tr26_8 : TR Try.f26 25 8 = some a26_8 := by kernel_rfl
def a26_9 : List AO := [⟨(some 21), none, .bin .add (.t 9) (.v (.int .i64 1))⟩,
  ⟨(some 9), none, .mv (.t 21)⟩]
theorem tr26_9 : TR Try.f26 25 9 = some a26_9 := by kernel_rfl
def a26_10 : List AO := [⟨(some 22), none, .mv (.t 4)⟩,
  ⟨(some 23), none, .bin .eql (.t 22) (.v (.int .i64 0))⟩]
theorem tr26_10 : TR Try.f26 25 10 = some a26_10 := by kernel_rfl
def a26_11 : List AO := [⟨(some 2), none, .mv (.v (.int .i64 0))⟩,
  ⟨(some 3), none, .mv (.v (.int .i64 2))⟩]
theorem tr26_11 : TR Try.f26 25 11 = some a26_11 := by kernel_rfl
def a26_12 : List AO := [⟨(some 24), none, .mv (.t 4)⟩,
  ⟨(some 2), none, .mv (.t 24)⟩,
  ⟨(some 3), none, .mv (.v (.int .i64 0))⟩]
theorem tr26_12 : TR Try.f26 25 12 = some a26_12 := by kernel_rfl
/-- airline/money.fits -/
noncomputable def c27 : Code := .seq (.region 0 (ro Try.f27 0) false) (.seq (.region 1 (ro Try.f27 1) false) (.ret))
theorem body27 : Try.f27.body = some c27 := by kernel_rfl
theorem res27 : Try.f27.results.toList.mapM (trR Try.prog) = some [.t 2] := by kernel_rfl
theorem nt27 : Try.f27.ntmps = 9 := by kernel_rfl
theorem nm27 : (Try.f27.name == "runtime.NumGoroutine") = false := by kernel_rfl
def a27_0 : List AO := [⟨(some 2), none, .mv (.v (.bool false))⟩]
theorem tr27_0 : TR Try.f27 9 0 = some a27_0 := by kernel_rfl
def a27_1 : List AO := [⟨(some 3), none, .mv (.t 0)⟩,
  ⟨(some 4), none, .bin .geq (.t 3) (.v (.int .i64 (-1099511627776)))⟩,
  ⟨(some 5), none, .mv (.t 4)⟩,
  ⟨(some 6), some (5, true), .mv (.t 0)⟩,
  ⟨(some 7), some (5, true), .bin .leq (.t 6) (.v (.int .i64 1099511627776))⟩,
  ⟨(some 8), none, .pick (.t 5) (.t 7) (.v (.bool false))⟩,
  ⟨(some 2), none, .mv (.t 8)⟩]
theorem tr27_1 : TR Try.f27 9 1 = some a27_1 := by kernel_rfl
/-- airline/money.Split 1 -/
noncomputable def c29 : Code := .seq (.region 0 (ro Try.f29 0) true) (.region 1 (ro Try.f29 1) false)
theorem body29 : Try.f29.body = some c29 := by kernel_rfl
theorem res29 : Try.f29.results.toList.mapM (trR Try.prog) = some [] := by kernel_rfl
theorem nt29 : Try.f29.ntmps = 19 := by kernel_rfl
theorem nm29 : (Try.f29.name == "runtime.NumGoroutine") = false := by kernel_rfl
def a29_0 : List AO := [⟨(some 7), none, .load none (.t 2)⟩,
  ⟨(some 8), none, .mv (.t 0)⟩,
  ⟨(some 9), none, .idx 1 (.t 7) (.t 8)⟩,
  ⟨(some 10), none, .load none (.t 9)⟩,
  ⟨(some 11), none, .load none (.t 3)⟩,
  ⟨(some 12), none, .mv (.t 1)⟩,
  ⟨(some 13), none, .bin .mul (.t 11) (.t 12)⟩,
  ⟨(some 14), none, .bin .add (.t 10) (.t 13)⟩,
  ⟨(some 15), none, .idx 1 (.t 7) (.t 8)⟩,
  ⟨none, none, .store 1 (.t 15) (.t 14)⟩]
theorem tr29_0 : TR Try.f29 19 0 = some a29_0 := by kernel_rfl
def d29_0 : List (List Nat) := [[], [], [0, 1], [0, 1, 2], [], [], [4, 5], [0, 1, 2, 3, 4, 5, 6], [0, 1, 2, 3, 4, 5, 6, 7], [0, 1, 2, 3, 4, 5, 6, 7, 8]]
theorem ok29_0 : okReg (ro Try.f29 0) a29_0 d29_0 = true := by kernel_rfl
def a29_1 : List AO := [⟨(some 16), none, .load none (.t 4)⟩,
  ⟨(some 17), none, .mv (.t 1)⟩,
  ⟨(some 18), none, .bin .sub (.t 16) (.t 17)⟩,
  ⟨none, none, .store 1 (.t 4) (.t 18)⟩]
theorem tr29_1 : TR Try.f29 19 1 = some a29_1 := by kernel_rfl
/-- airline/money.scale -/
noncomputable def c30 : Code := .seq (.region 0 (ro Try.f30 0) false) (.seq (.region 1 (ro Try.f30 1) false) (.seq (.seq (.region 2 (ro Try.f30 2) false) (.cond (.tmp 21) (.seq (.region 3 (ro Try.f30 3) false) (.ret)) (.skip))) (.seq (.region 4 (ro Try.f30 4) false) (.seq (.region 5 (ro Try.f30 5) false) (.ret)))))
theorem body30 : Try.f30.body = some c30 := by kernel_rfl
theorem res30 : Try.f30.results.toList.mapM (trR Try.prog) = some [.t 6, .t 7, .t 8] := by kernel_rfl
theorem nt30 : Try.f30.ntmps = 31 := by kernel_rfl
theorem nm30 : (Try.f30.name == "runtime.NumGoroutine") = false := by kernel_rfl
def a30_0 : List AO := [⟨(some 6), none, .mv (.v (.int .u64 0))⟩,
  ⟨(some 7), none, .mv (.v (.int .u64 0))⟩,
  ⟨(some 8), none, .mv (.v (.bool false))⟩]
theorem tr30_0 : TR Try.f30 31 0 = some a30_0 := by kernel_rfl
def a30_1 : List AO := [⟨(some 14), none, .mv (.t 0)⟩,
  ⟨(some 15), none, .mv (.t 1)⟩,
  ⟨(some 16), none, .call 46 [(.t 14), (.t 15)]⟩,
  ⟨(some 13), none, .mv (.t 16)⟩,
  ⟨(some 17), none, .ext 0 (.t 13)⟩,
  ⟨(some 18), none, .ext 1 (.t 13)⟩,
  ⟨(some 9), none, .mv (.t 17)⟩,
  ⟨(some 10), none, .mv (.t 18)⟩]
theorem tr30_1 : TR Try.f30 31 1 = some a30_1 := by kernel_rfl
def a30_2 : List AO := [⟨(some 19), none, .mv (.t 9)⟩,
  ⟨(some 20), none, .mv (.t 2)⟩,
  ⟨(some 21), none, .bin .geq (.t 19) (.t 20)⟩]
theorem tr30_2 : TR Try.f30 31 2 = some a30_2 := by kernel_rfl
def a30_4 : List AO := [⟨(some 23), none, .mv (.t 9)⟩,
  ⟨(some 24), none, .mv (.t 10)⟩,
  ⟨(some 25), none, .mv (.t 2)⟩,
  ⟨(some 26), none, .call 47 [(.t 23), (.t 24), (.t 25)]⟩,
  ⟨(some 22), none, .mv (.t 26)⟩,
  ⟨(some 27), none, .ext 0 (.t 22)⟩,
  ⟨(some 28), none, .ext 1 (.t 22)⟩,
  ⟨(some 11), none, .mv (.t 27)⟩,
  ⟨(some 12), none, .mv (.t 28)⟩]
theorem tr30_4 : TR Try.f30 31 4 = some a30_4 := by kernel_rfl
def a30_5 : List AO := [⟨(some 29), none, .mv (.t 11)⟩,
  ⟨(some 30), none, .mv (.t 12)⟩,
  ⟨(some 6), none, .mv (.t 29)⟩,
  ⟨(some 7), none, .mv (.t 30)⟩,
  ⟨(some 8), none, .mv (.v (.bool true))⟩]
theorem tr30_5 : TR Try.f30 31 5 = some a30_5 := by kernel_rfl
/-- airline/money.Split 2 -/
noncomputable def c32 : Code := .seq (.region 0 (ro Try.f32 0) false) (.seq (.region 1 (ro Try.f32 1) true) (.ret))
theorem body32 : Try.f32.body = some c32 := by kernel_rfl
theorem res32 : Try.f32.results.toList.mapM (trR Try.prog) = some [.t 6] := by kernel_rfl
theorem nt32 : Try.f32.ntmps = 22 := by kernel_rfl
theorem nm32 : (Try.f32.name == "runtime.NumGoroutine") = false := by kernel_rfl
def a32_0 : List AO := [⟨(some 6), none, .mv (.v (.bool false))⟩]
theorem tr32_0 : TR Try.f32 22 0 = some a32_0 := by kernel_rfl
def a32_1 : List AO := [⟨(some 7), none, .load none (.t 2)⟩,
  ⟨(some 8), none, .load none (.t 3)⟩,
  ⟨(some 9), none, .mv (.t 0)⟩,
  ⟨(some 10), none, .idx 1 (.t 8) (.t 9)⟩,
  ⟨(some 11), none, .load none (.t 10)⟩,
  ⟨(some 12), none, .idx 1 (.t 7) (.t 11)⟩,
  ⟨(some 13), none, .load none (.t 12)⟩,
  ⟨(some 14), none, .load none (.t 2)⟩,
  ⟨(some 15), none, .load none (.t 3)⟩,
  ⟨(some 16), none, .mv (.t 1)⟩,
  ⟨(some 17), none, .idx 1 (.t 15) (.t 16)⟩,
  ⟨(some 18), none, .load none (.t 17)⟩,
  ⟨(some 19), none, .idx 1 (.t 14) (.t 18)⟩,
  ⟨(some 20), none, .load none (.t 19)⟩,
  ⟨(some 21), none, .bin .gtr (.t 13) (.t 20)⟩,
  ⟨(some 6), none, .mv (.t 21)⟩]
theorem tr32_1 : TR Try.f32 22 1 = some a32_1 := by kernel_rfl
def d32_1 : List (List Nat) := [[], [], [], [1, 2], [1, 2, 3], [0, 1, 2, 3, 4], [0, 1, 2, 3, 4, 5], [], [], [], [8, 9], [8, 9, 10], [7, 8, 9, 10, 11], [7, 8, 9, 10, 11, 12], [0, 1, 2, 3, 4, 5, 6, 7, 8, 9, 10, 11, 12, 13], [0, 1, 2, 3, 4, 5, 6, 7, 8, 9, 10, 11, 12, 13, 14]]
theorem ok32_1 : okReg (ro Try.f32 1) a32_1 d32_1 = true := by kernel_rfl
/-- airline/money.Sum -/
noncomputable def c35 : Code := .seq (.region 0 (ro Try.f35 0) false) (.seq (.region 1 (ro Try.f35 1) false) (.seq (.seq (.region 2 (ro Try.f35 2) false) (.block 0 (.loop (.seq (.region 3 (ro Try.f35 3) false) (.seq (.cond (.tmp 10) (.skip) (.exit 0)) (.seq (.block 1 (.seq (.region 4 (ro Try.f35 4) false) (.seq (.seq (.region 5 (ro Try.f35 5) false) (.cond (.tmp 22) (.seq (.region 6 (ro Try.f35 6) false) (.ret)) (.skip))) (.region 7 (ro Try.f35 7) false)))) (.region 8 (ro Try.f35 8) false))))))) (.seq (.region 9 (ro Try.f35 9) false) (.ret))))
theorem body35 : Try.f35.body = some c35 := by kernel_rfl
theorem res35 : Try.f35.results.toList.mapM (trR Try.prog) = some [.t 2, .t 3] := by kernel_rfl
theorem nt35 : Try.f35.ntmps = 28 := by kernel_rfl
theorem nm35 : (Try.f35.name == "runtime.NumGoroutine") = false := by kernel_rfl
def a35_0 : List AO := [⟨(some 2), none, .mv (.v (.int .i64 0))⟩,
  ⟨(some 3), none, .mv (.v (.int .i64 0))⟩]
theorem tr35_0 : TR Try.f35 28 0 = some a35_0 := by kernel_rfl
def a35_1 : List AO := [⟨(some 4), none, .mv (.v (.int .i64 0))⟩]
theorem tr35_1 : TR Try.f35 28 1 = some a35_1 := by kernel_rfl
def a35_2 : List AO := [⟨(some 7), none, .mv (.t 0)⟩,
  ⟨(some 8), none, .len (.t 7)⟩,
  ⟨(some 9), none, .mv (.v (.int .i64 0))⟩]
theorem tr35_2 : TR Try.f35 28 2 = some a35_2 := by kernel_rfl
def a35_3 : List AO := [⟨(some 10), none, .bin .lss (.t 9) (.t 8)⟩]
theorem tr35_3 : TR Try.f35 28 3 = some a35_3 := by kernel_rfl
def a35_4 : List AO := [⟨(some 11), none, .idx 1 (.t 7) (.t 9)⟩,
  ⟨(some 12), none, .load none (.t 11)⟩,
  ⟨(some 6), none, .mv (.t 12)⟩]
theorem tr35_4 : TR Try.f35 28 4 = some a35_4 := by kernel_rfl
def a35_5 : List AO := [⟨(some 13), none, .mv (.t 6)⟩,
  ⟨(some 14), none, .call 27 [(.t 13)]⟩,
  ⟨(some 15), none, .un .not (.t 14)⟩,
  ⟨(some 16), none, .mv (.t 15)⟩,
  ⟨(some 17), some (16, false), .mv (.t 4)⟩,
  ⟨(some 18), some (16, false), .mv (.t 6)⟩,
  ⟨(some 19), some (16, false), .bin .add (.t 17) (.t 18)⟩,
  ⟨(some 20), some (16, false), .call 27 [(.t 19)]⟩,
  ⟨(some 21), some (16, false), .un .not (.t 20)⟩,
  ⟨(some 22), none, .pick (.t 16) (.v (.bool true)) (.t 21)⟩]
theorem tr35_5 : TR Try.f35 28 5 = some a35_5 := by kernel_rfl
def a35_6 : List AO := [⟨(some 2), none, .mv (.v (.int .i64 0))⟩,
  ⟨(some 3), none, .mv (.v (.int .i64 11))⟩]
theorem tr35_6 : TR Try.f35 28 6 = some a35_6 := by kernel_rfl
def a35_7 : List AO := [⟨(some 23), none, .mv (.t 4)⟩,
  ⟨(some 24), none, .mv (.t 6)⟩,
  ⟨(some 25), none, .bin .add (.t 23) (.t 24)⟩,
  ⟨(some 4), none, .mv (.t 25)⟩]
theorem tr35_7 : TR Try.f35 28 7 = some a35_7 := by kernel_rfl
def a35_8 : List AO := [⟨(some 26), none, .bin .add (.t 9) (.v (.int .i64 1))⟩,
  ⟨(some 9), none, .mv (.t 26)⟩]
theorem tr35_8 : TR Try.f35 28 8 = some a35_8 := by kernel_rfl
def a35_9 : List AO := [⟨(some 27), none, .mv (.t 4)⟩,
  ⟨(some 2), none, .mv (.t 27)⟩,
  ⟨(some 3), none, .mv (.v (.int .i64 0))⟩]
theorem tr35_9 : TR Try.f35 28 9 = some a35_9 := by kernel_rfl
/-- airline/airlineref01.Airport -/
noncomputable def c37 : Code := .seq (.region 0 (ro Try.f37 0) false) (.seq (.region 1 (ro Try.f37 1) false) (.ret))
theorem body37 : Try.f37.body = some c37 := by kernel_rfl
theorem res37 : Try.f37.results.toList.mapM (trR Try.prog) = some [.t 2] := by kernel_rfl
theorem nt37 : Try.f37.ntmps = 5 := by kernel_rfl
theorem nm37 : (Try.f37.name == "runtime.NumGoroutine") = false := by kernel_rfl
def a37_0 : List AO := [⟨(some 2), none, .mv (.v (.bool false))⟩]
theorem tr37_0 : TR Try.f37 5 0 = some a37_0 := by kernel_rfl
def a37_1 : List AO := [⟨(some 3), none, .mv (.t 0)⟩,
  ⟨(some 4), none, .call 56 [(.t 3), (.v (.int .i64 3))]⟩,
  ⟨(some 2), none, .mv (.t 4)⟩]
theorem tr37_1 : TR Try.f37 5 1 = some a37_1 := by kernel_rfl
/-- airline/airlineref01.Country -/
noncomputable def c38 : Code := .seq (.region 0 (ro Try.f38 0) false) (.seq (.region 1 (ro Try.f38 1) false) (.ret))
theorem body38 : Try.f38.body = some c38 := by kernel_rfl
theorem res38 : Try.f38.results.toList.mapM (trR Try.prog) = some [.t 2] := by kernel_rfl
theorem nt38 : Try.f38.ntmps = 5 := by kernel_rfl
theorem nm38 : (Try.f38.name == "runtime.NumGoroutine") = false := by kernel_rfl
def a38_0 : List AO := [⟨(some 2), none, .mv (.v (.bool false))⟩]
theorem tr38_0 : TR Try.f38 5 0 = some a38_0 := by kernel_rfl
def a38_1 : List AO := [⟨(some 3), none, .mv (.t 0)⟩,
  ⟨(some 4), none, .call 56 [(.t 3), (.v (.int .i64 2))]⟩,
  ⟨(some 2), none, .mv (.t 4)⟩]
theorem tr38_1 : TR Try.f38 5 1 = some a38_1 := by kernel_rfl
/-- airline/airlineref05.Check -/
noncomputable def c39 : Code := .seq (.region 0 (ro Try.f39 0) false) (.seq (.seq (.region 1 (ro Try.f39 1) false) (.cond (.tmp 8) (.seq (.region 2 (ro Try.f39 2) false) (.ret)) (.skip))) (.seq (.seq (.region 3 (ro Try.f39 3) false) (.cond (.tmp 12) (.seq (.region 4 (ro Try.f39 4) false) (.ret)) (.skip))) (.seq (.seq (.region 5 (ro Try.f39 5) false) (.block 0 (.loop (.seq (.seq (.region 6 (ro Try.f39 6) false) (.cond (.tmp 17) (.skip) (.exit 0))) (.seq (.block 1 (.seq (.region 8 (ro Try.f39 8) false) (.seq (.seq (.region 9 (ro Try.f39 9) true) (.cond (.tmp 49) (.seq (.region 10 (ro Try.f39 10) false) (.ret)) (.skip))) (.seq (.region 11 (ro Try.f39 11) false) (.cond (.tmp 53) (.seq (.region 12 (ro Try.f39 12) false) (.ret)) (.skip)))))) (.region 7 (ro Try.f39 7) false)))))) (.seq (.region 13 (ro Try.f39 13) false) (.ret)))))
theorem body39 : Try.f39.body = some c39 := by kernel_rfl
theorem res39 : Try.f39.results.toList.mapM (trR Try.prog) = some [.t 2] := by kernel_rfl
theorem nt39 : Try.f39.ntmps = 54 := by kernel_rfl
theorem nm39 : (Try.f39.name == "runtime.NumGoroutine") = false := by kernel_rfl
def a39_0 : List AO := [⟨(some 1), none, .box 68 (.t 0)⟩,
  ⟨(some 2), none, .mv (.v (.int .i64 0))⟩]
theorem tr39_0 : TR Try.f39 54 0 = some a39_0 := by kernel_rfl
def a39_1 : List AO := [⟨(some 5), none, .fld 1 (.t 1)⟩,
  ⟨(some 6), none, .load none (.t 5)⟩,
  ⟨(some 7), none, .len (.t 6)⟩,
  ⟨(some 8), none, .bin .gtr (.t 7) (.v (.int .i64 256))⟩]
theorem tr39_1 : TR Try.f39 54 1 = some a39_1 := by kernel_rfl
def a39_2 : List AO := [⟨(some 2), none, .mv (.v (.int .i64 4))⟩]
theorem tr39_2 : TR Try.f39 54 2 = some a39_2 := by kernel_rfl
def a39_3 : List AO := [⟨(some 9), none, .fld 0 (.t 1)⟩,
  ⟨(some 10), none, .load none (.t 9)⟩,
  ⟨(some 11), none, .call 57 [(.t 10)]⟩,
  ⟨(some 12), none, .un .not (.t 11)⟩]
theorem tr39_3 : TR Try.f39 54 3 = some a39_3 := by kernel_rfl
def a39_4 : List AO := [⟨(some 2), none, .mv (.v (.int .i64 2))⟩]
theorem tr39_4 : TR Try.f39 54 4 = some a39_4 := by kernel_rfl
def a39_5 : List AO := [⟨(some 3), none, .mv (.v (.int .i64 0))⟩]
theorem tr39_5 : TR Try.f39 54 5 = some a39_5 := by kernel_rfl
def a39_6 : List AO := [⟨(some 13), none, .mv (.t 3)⟩,
  ⟨(some 14), none, .fld 1 (.t 1)⟩,
  ⟨(some 15), none, .load none (.t 14)⟩,
  ⟨(some 16), none, .len (.t 15)⟩,
  ⟨(some 17), none, .bin .lss (.t 13) (.t 16)⟩]
theorem tr39_6 : TR Try.f39 54 6 = some a39_6 := by kernel_rfl
def a39_8 : List AO := [⟨(some 20), none, .fld 1 (.t 1)⟩,
  ⟨(some 21), none, .load none (.t 20)⟩,
  ⟨(some 22), none, .mv (.t 3)⟩,
  ⟨(some 23), none, .idx 2 (.t 21) (.t 22)⟩,
  ⟨(some 24), none, .load (some 2) (.t 23)⟩,
  ⟨(some 4), none, .alloc 130 [(.int .i64 0), (.int .i64 0)]⟩,
  ⟨none, none, .store 2 (.t 4) (.t 24)⟩]
theorem tr39_8 : TR Try.f39 54 8 = some a39_8 := by kernel_rfl
def a39_9 : List AO := [⟨(some 25), none, .fld 0 (.t 4)⟩,
  ⟨(some 26), none, .load none (.t 25)⟩,
  ⟨(some 27), none, .bin .lss (.t 26) (.v (.int .i64 0))⟩,
  ⟨(some 28), none, .mv (.t 27)⟩,
  ⟨(some 29), some (28, false), .fld 0 (.t 4)⟩,
  ⟨(some 30), some (28, false), .load none (.t 29)⟩,
  ⟨(some 31), some (28, false), .bin .geq (.t 30) (.v (.int .i64 52596000))⟩,
  ⟨(some 32), none, .pick (.t 28) (.v (.bool true)) (.t 31)⟩,
  ⟨(some 33), none, .mv (.t 32)⟩,
  ⟨(some 34), some (33, false), .mv (.t 3)⟩,
  ⟨(some 35), some (33, false), .bin .gtr (.t 34) (.v (.int .i64 0))⟩,
  ⟨(some 36), some (33, false), .mv (.t 35)⟩,
  ⟨(some 37), some (36, true), .fld 0 (.t 4)⟩,
  ⟨(some 38), some (36, true), .load none (.t 37)⟩,
  ⟨(some 39), some (36, true), .fld 1 (.t 1)⟩,
  ⟨(some 40), some (36, true), .load none (.t 39)⟩,
  ⟨(some 41), some (36, true), .mv (.t 3)⟩,
  ⟨(some 42), some (36, true), .bin .sub (.t 41) (.v (.int .i64 1))⟩,
  ⟨(some 43), some (36, true), .idx 2 (.t 40) (.t 42)⟩,
  ⟨(some 44), some (36, true), .fld 0 (.t 43)⟩,
  ⟨(some 45), some (36, true), .load none (.t 44)⟩,
  ⟨(some 46), some (36, true), .bin .sub (.t 38) (.t 45)⟩,
  ⟨(some 47), some (36, true), .bin .lss (.t 46) (.v (.int .i64 2880))⟩,
  ⟨(some 48), some (33, false), .pick (.t 36) (.t 47) (.v (.bool false))⟩,
  ⟨(some 49), none, .pick (.t 33) (.v (.bool true)) (.t 48)⟩]
theorem tr39_9 : TR Try.f39 54 9 = some a39_9 := by kernel_rfl
def d39_9 : List (List Nat) := [[], [0], [0, 1], [0, 1, 2], [0, 1, 2, 3], [0, 1, 2, 3, 4], [0, 1, 2, 3, 4, 5], [0, 1, 2, 3, 4, 5, 6], [0, 1, 2, 3, 4, 5, 6, 7], [0, 1, 2, 3, 4, 5, 6, 7, 8], [0, 1, 2, 3, 4, 5, 6, 7, 8, 9], [0, 1, 2, 3, 4, 5, 6, 7, 8, 9, 10], [0, 1, 2, 3, 4, 5, 6, 7, 8, 9, 10, 11], [0, 1, 2, 3, 4, 5, 6, 7, 8, 9, 10, 11, 12], [0, 1, 2, 3, 4, 5, 6, 7, 8, 9, 10, 11], [0, 1, 2, 3, 4, 5, 6, 7, 8, 9, 10, 11, 14], [0, 1, 2, 3, 4, 5, 6, 7, 8, 9, 10, 11], [0, 1, 2, 3, 4, 5, 6, 7, 8, 9, 10, 11, 16], [0, 1, 2, 3, 4, 5, 6, 7, 8, 9, 10, 11, 14, 15, 16, 17], [0, 1, 2, 3, 4, 5, 6, 7, 8, 9, 10, 11, 14, 15, 16, 17, 18], [0, 1, 2, 3, 4, 5, 6, 7, 8, 9, 10, 11, 14, 15, 16, 17, 18, 19], [0, 1, 2, 3, 4, 5, 6, 7, 8, 9, 10, 11, 12, 13, 14, 15, 16, 17, 18, 19, 20], [0, 1, 2, 3, 4, 5, 6, 7, 8, 9, 10, 11, 12, 13, 14, 15, 16, 17, 18, 19, 20, 21], [0, 1, 2, 3, 4, 5, 6, 7, 8, 9, 10, 11, 12, 13, 14, 15, 16, 17, 18, 19, 20, 21, 22], [0, 1, 2, 3, 4, 5, 6, 7, 8, 9, 10, 11, 12, 13, 14, 15, 16, 17, 18, 19, 20, 21, 22, 23]]
theorem ok39_9 : okReg (ro Try.f39 9) a39_9 d39_9 = true := by kernel_rfl
def a39_10 : List AO := [⟨(some 2), none, .mv (.v (.int .i64 13))⟩]
theorem tr39_10 : TR Try.f39 54 10 = some a39_10 := by kernel_rfl
def a39_11 : List AO := [⟨(some 50), none, .fld 1 (.t 4)⟩,
  ⟨(some 51), none, .load none (.t 50)⟩,
  ⟨(some 52), none, .call 57 [(.t 51)]⟩,
  ⟨(some 53), none, .un .not (.t 52)⟩]
theorem tr39_11 : TR Try.f39 54 11 = some a39_11 := by kernel_rfl
def a39_12 : List AO := [⟨(some 2), none, .mv (.v (.int .i64 2))⟩]
theorem tr39_12 : TR Try.f39 54 12 = some a39_12 := by kernel_rfl
def a39_7 : List AO := [⟨(some 18), none, .mv (.t 3)⟩,
  ⟨(some 19), none, .bin .add (.t 18) (.v (.int .i64 1))⟩,
  ⟨(some 3), none, .mv (.t 19)⟩]
theorem tr39_7 : TR Try.f39 54 7 = some a39_7 := by kernel_rfl
def a39_13 : List AO := [⟨(some 2), none, .mv (.v (.int .i64 0))⟩]
theorem tr39_13 : TR Try.f39 54 13 = some a39_13 := by kernel_rfl
/-- airline/airlineref01.digits -/
noncomputable def c40 : Code := .seq (.region 0 (ro Try.f40 0) false) (.seq (.seq (.region 1 (ro Try.f40 1) false) (.cond (.tmp 4) (.seq (.region 2 (ro Try.f40 2) false) (.ret)) (.skip))) (.seq (.region 3 (ro Try.f40 3) true) (.ret)))
theorem body40 : Try.f40.body = some c40 := by kernel_rfl
theorem res40 : Try.f40.results.toList.mapM (trR Try.prog) = some [.t 2] := by kernel_rfl
theorem nt40 : Try.f40.ntmps = 19 := by kernel_rfl
theorem nm40 : (Try.f40.name == "runtime.NumGoroutine") = false := by kernel_rfl
def a40_0 : List AO := [⟨(some 2), none, .mv (.v (.str []))⟩]
theorem tr40_0 : TR Try.f40 19 0 = some a40_0 := by kernel_rfl
def a40_1 : List AO := [⟨(some 3), none, .mv (.t 0)⟩,
  ⟨(some 4), none, .bin .lss (.t 3) (.v (.int .u64 10))⟩]
theorem tr40_1 : TR Try.f40 19 1 = some a40_1 := by kernel_rfl
def a40_2 : List AO := [⟨(some 5), none, .mv (.t 0)⟩,
  ⟨(some 6), none, .mv (.t 0)⟩,
  ⟨(some 7), none, .bin .add (.t 6) (.v (.int .u64 1))⟩,
  ⟨(some 8), none, .ssub (some (.t 5)) (some (.t 7)) (.v (.str [48, 49, 50, 51, 52, 53, 54, 55, 56, 57]))⟩,
  ⟨(some 2), none, .mv (.t 8)⟩]
theorem tr40_2 : TR Try.f40 19 2 = some a40_2 := by kernel_rfl
def a40_3 : List AO := [⟨(some 9), none, .mv (.t 0)⟩,
  ⟨(some 10), none, .bin .quo (.t 9) (.v (.int .u64 10))⟩,
  ⟨(some 11), none, .call 40 [(.t 10)]⟩,
  ⟨(some 12), none, .mv (.t 0)⟩,
  ⟨(some 13), none, .bin .rem (.t 12) (.v (.int .u64 10))⟩,
  ⟨(some 14), none, .mv (.t 0)⟩,
  ⟨(some 15), none, .bin .rem (.t 14) (.v (.int .u64 10))⟩,
  ⟨(some 16), none, .bin .add (.t 15) (.v (.int .u64 1))⟩,
  ⟨(some 17), none, .ssub (some (.t 13)) (some (.t 16)) (.v (.str [48, 49, 50, 51, 52, 53, 54, 55, 56, 57]))⟩,
  ⟨(some 18), none, .bin .add (.t 11) (.t 17)⟩,
  ⟨(some 2), none, .mv (.t 18)⟩]
theorem tr40_3 : TR Try.f40 19 3 = some a40_3 := by kernel_rfl
def d40_3 : List (List Nat) := [[], [0], [0, 1], [], [3], [], [5], [5, 6], [3, 4, 5, 6, 7], [0, 1, 2, 3, 4, 5, 6, 7, 8], [0, 1, 2, 3, 4, 5, 6, 7, 8, 9]]
theorem ok40_3 : okReg (ro Try.f40 3) a40_3 d40_3 = true := by kernel_rfl
/-- airline/airlineref06.town -/
noncomputable def c41 : Code := .seq (.region 0 (ro Try.f41 0) false) (.seq (.seq (.region 1 (ro Try.f41 1) false) (.block 0 (.loop (.seq (.seq (.region 2 (ro Try.f41 2) false) (.cond (.tmp 11) (.skip) (.exit 0))) (.seq (.block 1 (.seq (.region 4 (ro Try.f41 4) false) (.cond (.tmp 21) (.seq (.region 5 (ro Try.f41 5) false) (.ret)) (.skip)))) (.region 3 (ro Try.f41 3) false)))))) (.seq (.region 6 (ro Try.f41 6) false) (.ret)))
theorem body41 : Try.f41.body = some c41 := by kernel_rfl
theorem res41 : Try.f41.results.toList.mapM (trR Try.prog) = some [.c (some 5) 4, .t 5] := by kernel_rfl
theorem nt41 : Try.f41.ntmps = 28 := by kernel_rfl
theorem nm41 : (Try.f41.name == "runtime.NumGoroutine") = false := by kernel_rfl
def a41_0 : List AO := [⟨(some 2), none, .box 25 (.t 0)⟩,
  ⟨(some 4), none, .alloc 70 [(.str []), (.str []), (.str []), (.int .i64 0), .nils]⟩,
  ⟨(some 5), none, .mv (.v (.bool false))⟩]
theorem tr41_0 : TR Try.f41 28 0 = some a41_0 := by kernel_rfl
def a41_1 : List AO := [⟨(some 6), none, .mv (.v (.int .i64 0))⟩]
theorem tr41_1 : TR Try.f41 28 1 = some a41_1 := by kernel_rfl
def a41_2 : List AO := [⟨(some 7), none, .mv (.t 6)⟩,
  ⟨(some 8), none, .fld 0 (.t 2)⟩,
  ⟨(some 9), none, .load none (.t 8)⟩,
  ⟨(some 10), none, .len (.t 9)⟩,
  ⟨(some 11), none, .bin .lss (.t 7) (.t 10)⟩]
theorem tr41_2 : TR Try.f41 28 2 = some a41_2 := by kernel_rfl
def a41_4 : List AO := [⟨(some 14), none, .fld 0 (.t 2)⟩,
  ⟨(some 15), none, .load none (.t 14)⟩,
  ⟨(some 16), none, .mv (.t 6)⟩,
  ⟨(some 17), none, .idx 5 (.t 15) (.t 16)⟩,
  ⟨(some 18), none, .fld 1 (.t 17)⟩,
  ⟨(some 19), none, .load none (.t 18)⟩,
  ⟨(some 20), none, .mv (.t 1)⟩,
  ⟨(some 21), none, .bin .eql (.t 19) (.t 20)⟩]
theorem tr41_4 : TR Try.f41 28 4 = some a41_4 := by kernel_rfl
def a41_5 : List AO := [⟨(some 22), none, .fld 0 (.t 2)⟩,
  ⟨(some 23), none, .load none (.t 22)⟩,
  ⟨(some 24), none, .mv (.t 6)⟩,
  ⟨(some 25), none, .idx 5 (.t 23) (.t 24)⟩,
  ⟨(some 26), none, .load (some 5) (.t 25)⟩,
  ⟨none, none, .store 5 (.t 4) (.t 26)⟩,
  ⟨(some 5), none, .mv (.v (.bool true))⟩]
theorem tr41_5 : TR Try.f41 28 5 = some a41_5 := by kernel_rfl
def a41_3 : List AO := [⟨(some 12), none, .mv (.t 6)⟩,
  ⟨(some 13), none, .bin .add (.t 12) (.v (.int .i64 1))⟩,
  ⟨(some 6), none, .mv (.t 13)⟩]
theorem tr41_3 : TR Try.f41 28 3 = some a41_3 := by kernel_rfl
def a41_6 : List AO := [⟨(some 27), none, .build [(.str []), (.str []), (.str []), (.int .i64 0), .nils] []⟩,
  ⟨none, none, .store 5 (.t 4) (.t 27)⟩,
  ⟨(some 5), none, .mv (.v (.bool false))⟩]
theorem tr41_6 : TR Try.f41 28 6 = some a41_6 := by kernel_rfl
/-- airline/airlineref06.Usable -/
noncomputable def c42 : Code := .seq (.region 0 (ro Try.f42 0) false) (.seq (.region 1 (ro Try.f42 1) false) (.ret))
theorem body42 : Try.f42.body = some c42 := by kernel_rfl
theorem res42 : Try.f42.results.toList.mapM (trR Try.prog) = some [.t 2] := by kernel_rfl
theorem nt42 : Try.f42.ntmps = 11 := by kernel_rfl
theorem nm42 : (Try.f42.name == "runtime.NumGoroutine") = false := by kernel_rfl
def a42_0 : List AO := [⟨(some 1), none, .box 72 (.t 0)⟩,
  ⟨(some 2), none, .mv (.v (.bool false))⟩]
theorem tr42_0 : TR Try.f42 11 0 = some a42_0 := by kernel_rfl
def a42_1 : List AO := [⟨(some 3), none, .fld 2 (.t 1)⟩,
  ⟨(some 4), none, .load none (.t 3)⟩,
  ⟨(some 5), none, .bin .geq (.t 4) (.v (.int .i64 1))⟩,
  ⟨(some 6), none, .mv (.t 5)⟩,
  ⟨(some 7), some (6, true), .fld 2 (.t 1)⟩,
  ⟨(some 8), some (6, true), .load none (.t 7)⟩,
  ⟨(some 9), some (6, true), .bin .leq (.t 8) (.v (.int .i64 20000))⟩,
  ⟨(some 10), none, .pick (.t 6) (.t 9) (.v (.bool false))⟩,
  ⟨(some 2), none, .mv (.t 10)⟩]
theorem tr42_1 : TR Try.f42 11 1 = some a42_1 := by kernel_rfl
/-- airline/places.City -/
noncomputable def c43 : Code := .seq (.region 0 (ro Try.f43 0) false) (.seq (.seq (.region 1 (ro Try.f43 1) false) (.seq (.region 2 (ro Try.f43 2) false) (.cond (.tmp 15) (.seq (.region 3 (ro Try.f43 3) false) (.ret)) (.skip)))) (.seq (.seq (.region 4 (ro Try.f43 4) false) (.seq (.region 5 (ro Try.f43 5) false) (.cond (.tmp 24) (.seq (.region 6 (ro Try.f43 6) false) (.ret)) (.skip)))) (.seq (.region 7 (ro Try.f43 7) false) (.ret))))
theorem body43 : Try.f43.body = some c43 := by kernel_rfl
theorem res43 : Try.f43.results.toList.mapM (trR Try.prog) = some [.t 4] := by kernel_rfl
theorem nt43 : Try.f43.ntmps = 26 := by kernel_rfl
theorem nm43 : (Try.f43.name == "runtime.NumGoroutine") = false := by kernel_rfl
def a43_0 : List AO := [⟨(some 2), none, .box 25 (.t 0)⟩,
  ⟨(some 4), none, .mv (.v (.str []))⟩]
theorem tr43_0 : TR Try.f43 26 0 = some a43_0 := by kernel_rfl
def a43_1 : List AO := [⟨(some 10), none, .load (some 2) (.t 2)⟩,
  ⟨(some 11), none, .mv (.t 1)⟩,
  ⟨(some 12), none, .call 58 [(.t 10), (.t 11)]⟩,
  ⟨(some 9), none, .mv (.t 12)⟩,
  ⟨(some 13), none, .ext 0 (.t 9)⟩,
  ⟨(some 14), none, .ext 1 (.t 9)⟩,
  ⟨(some 5), none, .alloc 70 [(.str []), (.str []), (.str []), (.int .i64 0), .nils]⟩,
  ⟨none, none, .store 5 (.t 5) (.t 13)⟩,
  ⟨(some 6), none, .mv (.t 14)⟩]
theorem tr43_1 : TR Try.f43 26 1 = some a43_1 := by kernel_rfl
def a43_2 : List AO := [⟨(some 15), none, .mv (.t 6)⟩]
theorem tr43_2 : TR Try.f43 26 2 = some a43_2 := by kernel_rfl
def a43_3 : List AO := [⟨(some 16), none, .fld 1 (.t 5)⟩,
  ⟨(some 17), none, .load none (.t 16)⟩,
  ⟨(some 4), none, .mv (.t 17)⟩]
theorem tr43_3 : TR Try.f43 26 3 = some a43_3 := by kernel_rfl
def a43_4 : List AO := [⟨(some 19), none, .load (some 2) (.t 2)⟩,
  ⟨(some 20), none, .mv (.t 1)⟩,
  ⟨(some 21), none, .call 59 [(.t 19), (.t 20)]⟩,
  ⟨(some 18), none, .mv (.t 21)⟩,
  ⟨(some 22), none, .ext 0 (.t 18)⟩,
  ⟨(some 23), none, .ext 1 (.t 18)⟩,
  ⟨(some 7), none, .alloc 70 [(.str []), (.str []), (.str []), (.int .i64 0), .nils]⟩,
  ⟨none, none, .store 5 (.t 7) (.t 22)⟩,
  ⟨(some 8), none, .mv (.t 23)⟩]
theorem tr43_4 : TR Try.f43 26 4 = some a43_4 := by kernel_rfl
def a43_5 : List AO := [⟨(some 24), none, .mv (.t 8)⟩]
theorem tr43_5 : TR Try.f43 26 5 = some a43_5 := by kernel_rfl
def a43_6 : List AO := [⟨(some 25), none, .mv (.t 1)⟩,
  ⟨(some 4), none, .mv (.t 25)⟩]
theorem tr43_6 : TR Try.f43 26 6 = some a43_6 := by kernel_rfl
def a43_7 : List AO := [⟨(some 4), none, .mv (.v (.str []))⟩]
theorem tr43_7 : TR Try.f43 26 7 = some a43_7 := by kernel_rfl
/-- airline/places.Miles 1 -/
noncomputable def c44 : Code := .seq (.region 0 (ro Try.f44 0) false) (.seq (.region 1 (ro Try.f44 1) false) (.seq (.region 2 (ro Try.f44 2) false) (.seq (.seq (.region 3 (ro Try.f44 3) false) (.cond (.tmp 35) (.seq (.region 4 (ro Try.f44 4) false) (.ret)) (.skip))) (.seq (.region 5 (ro Try.f44 5) false) (.seq (.region 6 (ro Try.f44 6) false) (.ret))))))
theorem body44 : Try.f44.body = some c44 := by kernel_rfl
theorem res44 : Try.f44.results.toList.mapM (trR Try.prog) = some [.t 7] := by kernel_rfl
theorem nt44 : Try.f44.ntmps = 41 := by kernel_rfl
theorem nm44 : (Try.f44.name == "runtime.NumGoroutine") = false := by kernel_rfl
def a44_0 : List AO := [⟨(some 7), none, .mv (.v (.bool false))⟩]
theorem tr44_0 : TR Try.f44 41 0 = some a44_0 := by kernel_rfl
def a44_1 : List AO := [⟨(some 13), none, .load none (.t 3)⟩,
  ⟨(some 14), none, .mv (.t 0)⟩,
  ⟨(some 15), none, .look 0 true (.int .i64 0) (.t 13) (.t 14)⟩,
  ⟨(some 12), none, .mv (.t 15)⟩,
  ⟨(some 16), none, .ext 0 (.t 12)⟩,
  ⟨(some 17), none, .ext 1 (.t 12)⟩,
  ⟨(some 8), none, .mv (.t 16)⟩,
  ⟨(some 9), none, .mv (.t 17)⟩]
theorem tr44_1 : TR Try.f44 41 1 = some a44_1 := by kernel_rfl
def a44_2 : List AO := [⟨(some 19), none, .load none (.t 3)⟩,
  ⟨(some 20), none, .mv (.t 1)⟩,
  ⟨(some 21), none, .look 0 true (.int .i64 0) (.t 19) (.t 20)⟩,
  ⟨(some 18), none, .mv (.t 21)⟩,
  ⟨(some 22), none, .ext 0 (.t 18)⟩,
  ⟨(some 23), none, .ext 1 (.t 18)⟩,
  ⟨(some 10), none, .mv (.t 22)⟩,
  ⟨(some 11), none, .mv (.t 23)⟩]
theorem tr44_2 : TR Try.f44 41 2 = some a44_2 := by kernel_rfl
def a44_3 : List AO := [⟨(some 24), none, .mv (.t 9)⟩,
  ⟨(some 25), none, .un .not (.t 24)⟩,
  ⟨(some 26), none, .mv (.t 25)⟩,
  ⟨(some 27), some (26, false), .mv (.t 11)⟩,
  ⟨(some 28), some (26, false), .mv (.t 27)⟩,
  ⟨(some 29), some (28, true), .mv (.t 10)⟩,
  ⟨(some 30), some (28, true), .mv (.t 8)⟩,
  ⟨(some 31), some (28, true), .mv (.t 2)⟩,
  ⟨(some 32), some (28, true), .bin .add (.t 30) (.t 31)⟩,
  ⟨(some 33), some (28, true), .bin .leq (.t 29) (.t 32)⟩,
  ⟨(some 34), some (26, false), .pick (.t 28) (.t 33) (.v (.bool false))⟩,
  ⟨(some 35), none, .pick (.t 26) (.v (.bool true)) (.t 34)⟩]
theorem tr44_3 : TR Try.f44 41 3 = some a44_3 := by kernel_rfl
def a44_4 : List AO := [⟨(some 7), none, .mv (.v (.bool false))⟩]
theorem tr44_4 : TR Try.f44 41 4 = some a44_4 := by kernel_rfl
def a44_5 : List AO := [⟨(some 36), none, .load none (.t 3)⟩,
  ⟨(some 37), none, .mv (.t 1)⟩,
  ⟨(some 38), none, .mv (.t 8)⟩,
  ⟨(some 39), none, .mv (.t 2)⟩,
  ⟨(some 40), none, .bin .add (.t 38) (.t 39)⟩,
  ⟨none, none, .mset 0 (.t 36) (.t 37) (.t 40)⟩]
theorem tr44_5 : TR Try.f44 41 5 = some a44_5 := by kernel_rfl
def a44_6 : List AO := [⟨(some 7), none, .mv (.v (.bool true))⟩]
theorem tr44_6 : TR Try.f44 41 6 = some a44_6 := by kernel_rfl
/-- airline/places.usable -/
noncomputable def c45 : Code := .seq (.region 0 (ro Try.f45 0) false) (.seq (.region 1 (ro Try.f45 1) false) (.ret))
theorem body45 : Try.f45.body = some c45 := by kernel_rfl
theorem res45 : Try.f45.results.toList.mapM (trR Try.prog) = some [.t 2] := by kernel_rfl
theorem nt45 : Try.f45.ntmps = 11 := by kernel_rfl
theorem nm45 : (Try.f45.name == "runtime.NumGoroutine") = false := by kernel_rfl
def a45_0 : List AO := [⟨(some 1), none, .box 72 (.t 0)⟩,
  ⟨(some 2), none, .mv (.v (.bool false))⟩]
theorem tr45_0 : TR Try.f45 11 0 = some a45_0 := by kernel_rfl
def a45_1 : List AO := [⟨(some 3), none, .fld 2 (.t 1)⟩,
  ⟨(some 4), none, .load none (.t 3)⟩,
  ⟨(some 5), none, .bin .geq (.t 4) (.v (.int .i64 1))⟩,
  ⟨(some 6), none, .mv (.t 5)⟩,
  ⟨(some 7), some (6, true), .fld 2 (.t 1)⟩,
  ⟨(some 8), some (6, true), .load none (.t 7)⟩,
  ⟨(some 9), some (6, true), .bin .leq (.t 8) (.v (.int .i64 20000))⟩,
  ⟨(some 10), none, .pick (.t 6) (.t 9) (.v (.bool false))⟩,
  ⟨(some 2), none, .mv (.t 10)⟩]
theorem tr45_1 : TR Try.f45 11 1 = some a45_1 := by kernel_rfl
/-- math/bits.Div64 -/
noncomputable def c47 : Code := .seq (.region 0 (ro Try.f47 0) false) (.seq (.seq (.region 1 (ro Try.f47 1) false) (.cond (.tmp 20) (.region 2 (ro Try.f47 2) false) (.skip))) (.seq (.seq (.region 3 (ro Try.f47 3) false) (.cond (.tmp 24) (.region 4 (ro Try.f47 4) false) (.skip))) (.seq (.seq (.region 5 (ro Try.f47 5) false) (.cond (.tmp 27) (.seq (.region 6 (ro Try.f47 6) true) (.ret)) (.skip))) (.seq (.region 7 (ro Try.f47 7) false) (.seq (.region 8 (ro Try.f47 8) false) (.seq (.region 9 (ro Try.f47 9) false) (.seq (.region 10 (ro Try.f47 10) false) (.seq (.region 11 (ro Try.f47 11) false) (.seq (.region 12 (ro Try.f47 12) false) (.seq (.region 13 (ro Try.f47 13) false) (.seq (.region 14 (ro Try.f47 14) false) (.seq (.region 15 (ro Try.f47 15) false) (.seq (.region 16 (ro Try.f47 16) false) (.seq (.block 0 (.loop (.seq (.seq (.region 17 (ro Try.f47 17) false) (.cond (.tmp 78) (.skip) (.exit 0))) (.block 1 (.seq (.region 18 (ro Try.f47 18) false) (.seq (.region 19 (ro Try.f47 19) false) (.seq (.region 20 (ro Try.f47 20) false) (.cond (.tmp 85) (.exit 0) (.skip))))))))) (.seq (.region 21 (ro Try.f47 21) false) (.seq (.region 22 (ro Try.f47 22) false) (.seq (.region 23 (ro Try.f47 23) false) (.seq (.block 2 (.loop (.seq (.seq (.region 24 (ro Try.f47 24) false) (.cond (.tmp 113) (.skip) (.exit 2))) (.block 3 (.seq (.region 25 (ro Try.f47 25) false) (.seq (.region 26 (ro Try.f47 26) false) (.seq (.region 27 (ro Try.f47 27) false) (.cond (.tmp 120) (.exit 2) (.skip))))))))) (.seq (.region 28 (ro Try.f47 28) false) (.ret))))))))))))))))))))
theorem body47 : Try.f47.body = some c47 := by kernel_rfl
theorem res47 : Try.f47.results.toList.mapM (trR Try.prog) = some [.t 6, .t 7] := by kernel_rfl
theorem nt47 : Try.f47.ntmps = 135 := by kernel_rfl
theorem nm47 : (Try.f47.name == "runtime.NumGoroutine") = false := by kernel_rfl
def a47_0 : List AO := [⟨(some 6), none, .mv (.v (.int .u64 0))⟩,
  ⟨(some 7), none, .mv (.v (.int .u64 0))⟩]
theorem tr47_0 : TR Try.f47 135 0 = some a47_0 := by kernel_rfl
def a47_1 : List AO := [⟨(some 19), none, .mv (.t 2)⟩,
  ⟨(some 20), none, .bin .eql (.t 19) (.v (.int .u64 0))⟩]
theorem tr47_1 : TR Try.f47 135 1 = some a47_1 := by kernel_rfl
-- region 2: not translated: !! load glob0
def a47_3 : List AO := [⟨(some 22), none, .mv (.t 2)⟩,
  ⟨(some 23), none, .mv (.t 0)⟩,
  ⟨(some 24), none, .bin .leq (.t 22) (.t 23)⟩]
theorem tr47_3 : TR Try.f47 135 3 = some a47_3 := by kernel_rfl
-- region 4: not translated: !! load glob1
def a47_5 : List AO := [⟨(some 26), none, .mv (.t 0)⟩,
  ⟨(some 27), none, .bin .eql (.t 26) (.v (.int .u64 0))⟩]
theorem tr47_5 : TR Try.f47 135 5 = some a47_5 := by kernel_rfl
def a47_6 : List AO := [⟨(some 28), none, .mv (.t 1)⟩,
  ⟨(some 29), none, .mv (.t 2)⟩,
  ⟨(some 30), none, .bin .quo (.t 28) (.t 29)⟩,
  ⟨(some 31), none, .mv (.t 1)⟩,
  ⟨(some 32), none, .mv (.t 2)⟩,
  ⟨(some 33), none, .bin .rem (.t 31) (.t 32)⟩,
  ⟨(some 6), none, .mv (.t 30)⟩,
  ⟨(some 7), none, .mv (.t 33)⟩]
theorem tr47_6 : TR Try.f47 135 6 = some a47_6 := by kernel_rfl
def d47_6 : List (List Nat) := [[], [], [0, 1], [], [], [3, 4], [0, 1, 2], [0, 1, 2, 3, 4, 5, 6]]
theorem ok47_6 : okReg (ro Try.f47 6) a47_6 d47_6 = true := by kernel_rfl
def a47_7 : List AO := [⟨(some 34), none, .mv (.t 2)⟩,
  ⟨(some 35), none, .call 60 [(.t 34)]⟩,
  ⟨(some 36), none, .conv .u64 (.t 35)⟩,
  ⟨(some 8), none, .mv (.t 36)⟩]
theorem tr47_7 : TR Try.f47 135 7 = some a47_7 := by kernel_rfl
def a47_8 : List AO := [⟨(some 37), none, .mv (.t 2)⟩,
  ⟨(some 38), none, .mv (.t 8)⟩,
  ⟨(some 39), none, .bin .shl (.t 37) (.t 38)⟩,
  ⟨(some 2), none, .mv (.t 39)⟩]
theorem tr47_8 : TR Try.f47 135 8 = some a47_8 := by kernel_rfl
def a47_9 : List AO := [⟨(some 40), none, .mv (.t 2)⟩,
  ⟨(some 41), none, .bin .shr (.t 40) (.v (.int .u64 32))⟩,
  ⟨(some 9), none, .mv (.t 41)⟩]
theorem tr47_9 : TR Try.f47 135 9 = some a47_9 := by kernel_rfl
def a47_10 : List AO := [⟨(some 42), none, .mv (.t 2)⟩,
  ⟨(some 43), none, .bin .and (.t 42) (.v (.int .u64 4294967295))⟩,
  ⟨(some 10), none, .mv (.t 43)⟩]
theorem tr47_10 : TR Try.f47 135 10 = some a47_10 := by kernel_rfl
def a47_11 : List AO := [⟨(some 44), none, .mv (.t 0)⟩,
  ⟨(some 45), none, .mv (.t 8)⟩,
  ⟨(some 46), none, .bin .shl (.t 44) (.t 45)⟩,
  ⟨(some 47), none, .mv (.t 1)⟩,
  ⟨(some 48), none, .mv (.t 8)⟩,
  ⟨(some 49), none, .bin .sub (.v (.int .u64 64)) (.t 48)⟩,
  ⟨(some 50), none, .bin .shr (.t 47) (.t 49)⟩,
  ⟨(some 51), none, .bin .or (.t 46) (.t 50)⟩,
  ⟨(some 11), none, .mv (.t 51)⟩]
theorem tr47_11 : TR Try.f47 135 11 = some a47_11 := by kernel_rfl
def a47_12 : List AO := [⟨(some 52), none, .mv (.t 1)⟩,
  ⟨(some 53), none, .mv (.t 8)⟩,
  ⟨(some 54), none, .bin .shl (.t 52) (.t 53)⟩,
  ⟨(some 12), none, .mv (.t 54)⟩]
theorem tr47_12 : TR Try.f47 135 12 = some a47_12 := by kernel_rfl
def a47_13 : List AO := [⟨(some 55), none, .mv (.t 12)⟩,
  ⟨(some 56), none, .bin .shr (.t 55) (.v (.int .u64 32))⟩,
  ⟨(some 13), none, .mv (.t 56)⟩]
theorem tr47_13 : TR Try.f47 135 13 = some a47_13 := by kernel_rfl
def a47_14 : List AO := [⟨(some 57), none, .mv (.t 12)⟩,
  ⟨(some 58), none, .bin .and (.t 57) (.v (.int .u64 4294967295))⟩,
  ⟨(some 14), none, .mv (.t 58)⟩]
theorem tr47_14 : TR Try.f47 135 14 = some a47_14 := by kernel_rfl
def a47_15 : List AO := [⟨(some 59), none, .mv (.t 11)⟩,
  ⟨(some 60), none, .mv (.t 9)⟩,
  ⟨(some 61), none, .bin .quo (.t 59) (.t 60)⟩,
  ⟨(some 15), none, .mv (.t 61)⟩]
theorem tr47_15 : TR Try.f47 135 15 = some a47_15 := by kernel_rfl
def a47_16 : List AO := [⟨(some 62), none, .mv (.t 11)⟩,
  ⟨(some 63), none, .mv (.t 15)⟩,
  ⟨(some 64), none, .mv (.t 9)⟩,
  ⟨(some 65), none, .bin .mul (.t 63) (.t 64)⟩,
  ⟨(some 66), none, .bin .sub (.t 62) (.t 65)⟩,
  ⟨(some 16), none, .mv (.t 66)⟩]
theorem tr47_16 : TR Try.f47 135 16 = some a47_16 := by kernel_rfl
def a47_17 : List AO := [⟨(some 67), none, .mv (.t 15)⟩,
  ⟨(some 68), none, .bin .geq (.t 67) (.v (.int .u64 4294967296))⟩,
  ⟨(some 69), none, .mv (.t 68)⟩,
  ⟨(some 70), some (69, false), .mv (.t 15)⟩,
  ⟨(some 71), some (69, false), .mv (.t 10)⟩,
  ⟨(some 72), some (69, false), .bin .mul (.t 70) (.t 71)⟩,
  ⟨(some 73), some (69, false), .mv (.t 16)⟩,
  ⟨(some 74), some (69, false), .bin .mul (.v (.int .u64 4294967296)) (.t 73)⟩,
  ⟨(some 75), some (69, false), .mv (.t 13)⟩,
  ⟨(some 76), some (69, false), .bin .add (.t 74) (.t 75)⟩,
  ⟨(some 77), some (69, false), .bin .gtr (.t 72) (.t 76)⟩,
  ⟨(some 78), none, .pick (.t 69) (.v (.bool true)) (.t 77)⟩]
theorem tr47_17 : TR Try.f47 135 17 = some a47_17 := by kernel_rfl
def a47_18 : List AO := [⟨(some 79), none, .mv (.t 15)⟩,
  ⟨(some 80), none, .bin .sub (.t 79) (.v (.int .u64 1))⟩,
  ⟨(some 15), none, .mv (.t 80)⟩]
theorem tr47_18 : TR Try.f47 135 18 = some a47_18 := by kernel_rfl
def a47_19 : List AO := [⟨(some 81), none, .mv (.t 16)⟩,
  ⟨(some 82), none, .mv (.t 9)⟩,
  ⟨(some 83), none, .bin .add (.t 81) (.t 82)⟩,
  ⟨(some 16), none, .mv (.t 83)⟩]
theorem tr47_19 : TR Try.f47 135 19 = some a47_19 := by kernel_rfl
def a47_20 : List AO := [⟨(some 84), none, .mv (.t 16)⟩,
  ⟨(some 85), none, .bin .geq (.t 84) (.v (.int .u64 4294967296))⟩]
theorem tr47_20 : TR Try.f47 135 20 = some a47_20 := by kernel_rfl
def a47_21 : List AO := [⟨(some 86), none, .mv (.t 11)⟩,
  ⟨(some 87), none, .bin .mul (.t 86) (.v (.int .u64 4294967296))⟩,
  ⟨(some 88), none, .mv (.t 13)⟩,
  ⟨(some 89), none, .bin .add (.t 87) (.t 88)⟩,
  ⟨(some 90), none, .mv (.t 15)⟩,
  ⟨(some 91), none, .mv (.t 2)⟩,
  ⟨(some 92), none, .bin .mul (.t 90) (.t 91)⟩,
  ⟨(some 93), none, .bin .sub (.t 89) (.t 92)⟩,
  ⟨(some 17), none, .mv (.t 93)⟩]
theorem tr47_21 : TR Try.f47 135 21 = some a47_21 := by kernel_rfl
def a47_22 : List AO := [⟨(some 94), none, .mv (.t 17)⟩,
  ⟨(some 95), none, .mv (.t 9)⟩,
  ⟨(some 96), none, .bin .quo (.t 94) (.t 95)⟩,
  ⟨(some 18), none, .mv (.t 96)⟩]
theorem tr47_22 : TR Try.f47 135 22 = some a47_22 := by kernel_rfl
def a47_23 : List AO := [⟨(some 97), none, .mv (.t 17)⟩,
  ⟨(some 98), none, .mv (.t 18)⟩,
  ⟨(some 99), none, .mv (.t 9)⟩,
  ⟨(some 100), none, .bin .mul (.t 98) (.t 99)⟩,
  ⟨(some 101), none, .bin .sub (.t 97) (.t 100)⟩,
  ⟨(some 16), none, .mv (.t 101)⟩]
theorem tr47_23 : TR Try.f47 135 23 = some a47_23 := by kernel_rfl
def a47_24 : List AO := [⟨(some 102), none, .mv (.t 18)⟩,
  ⟨(some 103), none, .bin .geq (.t 102) (.v (.int .u64 4294967296))⟩,
  ⟨(some 104), none, .mv (.t 103)⟩,
  ⟨(some 105), some (104, false), .mv (.t 18)⟩,
  ⟨(some 106), some (104, false), .mv (.t 10)⟩,
  ⟨(some 107), some (104, false), .bin .mul (.t 105) (.t 106)⟩,
  ⟨(some 108), some (104, false), .mv (.t 16)⟩,
  ⟨(some 109), some (104, false), .bin .mul (.v (.int .u64 4294967296)) (.t 108)⟩,
  ⟨(some 110), some (104, false), .mv (.t 14)⟩,
  ⟨(some 111), some (104, false), .bin .add (.t 109) (.t 110)⟩,
  ⟨(some 112), some (104, false), .bin .gtr (.t 107) (.t 111)⟩,
  ⟨(some 113), none, .pick (.t 104) (.v (.bool true)) (.t 112)⟩]
theorem tr47_24 : TR Try.f47 135 24 = some a47_24 := by kernel_rfl
def a47_25 : List AO := [⟨(some 114), none, .mv (.t 18)⟩,
  ⟨(some 115), none, .bin .sub (.t 114) (.v (.int .u64 1))⟩,
  ⟨(some 18), none, .mv (.t 115)⟩]
theorem tr47_25 : TR Try.f47 135 25 = some a47_25 := by kernel_rfl
def a47_26 : List AO := [⟨(some 116), none, .mv (.t 16)⟩,
  ⟨(some 117), none, .mv (.t 9)⟩,
  ⟨(some 118), none, .bin .add (.t 116) (.t 117)⟩,
  ⟨(some 16), none, .mv (.t 118)⟩]
theorem tr47_26 : TR Try.f47 135 26 = some a47_26 := by kernel_rfl
def a47_27 : List AO := [⟨(some 119), none, .mv (.t 16)⟩,
  ⟨(some 120), none, .bin .geq (.t 119) (.v (.int .u64 4294967296))⟩]
theorem tr47_27 : TR Try.f47 135 27 = some a47_27 := by kernel_rfl
def a47_28 : List AO := [⟨(some 121), none, .mv (.t 15)⟩,
  ⟨(some 122), none, .bin .mul (.t 121) (.v (.int .u64 4294967296))⟩,
  ⟨(some 123), none, .mv (.t 18)⟩,
  ⟨(some 124), none, .bin .add (.t 122) (.t 123)⟩,
  ⟨(some 125), none, .mv (.t 17)⟩,
  ⟨(some 126), none, .bin .mul (.t 125) (.v (.int .u64 4294967296))⟩,
  ⟨(some 127), none, .mv (.t 14)⟩,
  ⟨(some 128), none, .bin .add (.t 126) (.t 127)⟩,
  ⟨(some 129), none, .mv (.t 18)⟩,
  ⟨(some 130), none, .mv (.t 2)⟩,
  ⟨(some 131), none, .bin .mul (.t 129) (.t 130)⟩,
  ⟨(some 132), none, .bin .sub (.t 128) (.t 131)⟩,
  ⟨(some 133), none, .mv (.t 8)⟩,
  ⟨(some 134), none, .bin .shr (.t 132) (.t 133)⟩,
  ⟨(some 6), none, .mv (.t 124)⟩,
  ⟨(some 7), none, .mv (.t 134)⟩]
theorem tr47_28 : TR Try.f47 135 28 = some a47_28 := by kernel_rfl
end Go.Proofs.Ytfjgnfgadkajnaa
