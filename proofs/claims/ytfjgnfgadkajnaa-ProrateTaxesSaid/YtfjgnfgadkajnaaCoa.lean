/- The code of the functions, region by region, as abstract operations. -/
import Derived.Test.YtfjgnfgadkajnaaProg
import Derived.Test.YtfjgnfgadkajnaaAv21
namespace Go.Proofs.Ytfjgnfgadkajnaa
open Go Go.RowKit
def findR : Code → Nat → Option (Array Oper)
  | .region i ops _, k => if i = k then some ops else none
  | .seq a b, k => (findR a k).or (findR b k)
  | .cond _ a b, k => (findR a k).or (findR b k)
  | .block _ c, k => findR c k
  | .loop c, k => findR c k
  | .scope c, k => findR c k
  | _, _ => none
def ro (f : Func) (k : Nat) : Array Oper := ((f.body.bind fun c => findR c k).getD #[])
theorem mixed : Try.prog.follows .mixedOrders = true := by kernel_rfl
/-- airline/airlinelaw39.ProrateSums -/
noncomputable def c3 : Code := .seq (.region 0 (ro Try.f3 0) false) (.seq (.seq (.region 1 (ro Try.f3 1) false) (.cond (.tmp 16) (.seq (.region 2 (ro Try.f3 2) false) (.ret)) (.skip))) (.seq (.region 3 (ro Try.f3 3) false) (.seq (.seq (.region 4 (ro Try.f3 4) false) (.cond (.tmp 26) (.seq (.region 5 (ro Try.f3 5) false) (.ret)) (.skip))) (.seq (.seq (.region 6 (ro Try.f3 6) false) (.cond (.tmp 37) (.seq (.region 7 (ro Try.f3 7) false) (.ret)) (.skip))) (.seq (.seq (.region 8 (ro Try.f3 8) false) (.block 0 (.loop (.seq (.seq (.region 9 (ro Try.f3 9) false) (.cond (.tmp 42) (.skip) (.exit 0))) (.seq (.block 1 (.seq (.seq (.region 11 (ro Try.f3 11) false) (.cond (.tmp 62) (.seq (.region 12 (ro Try.f3 12) false) (.ret)) (.skip))) (.seq (.region 13 (ro Try.f3 13) false) (.seq (.seq (.region 14 (ro Try.f3 14) false) (.block 2 (.loop (.seq (.seq (.region 15 (ro Try.f3 15) false) (.cond (.tmp 76) (.skip) (.exit 2))) (.seq (.block 3 (.seq (.seq (.region 17 (ro Try.f3 17) false) (.cond (.tmp 92) (.seq (.region 18 (ro Try.f3 18) false) (.ret)) (.skip))) (.region 19 (ro Try.f3 19) false))) (.region 16 (ro Try.f3 16) false)))))) (.seq (.region 20 (ro Try.f3 20) false) (.cond (.tmp 106) (.seq (.region 21 (ro Try.f3 21) false) (.ret)) (.skip))))))) (.region 10 (ro Try.f3 10) false)))))) (.seq (.region 22 (ro Try.f3 22) false) (.ret)))))))
/-- airline/airlinelaw39.ProrateShares -/
noncomputable def c4 : Code := .seq (.region 0 (ro Try.f4 0) false) (.seq (.seq (.region 1 (ro Try.f4 1) false) (.cond (.tmp 14) (.seq (.region 2 (ro Try.f4 2) false) (.ret)) (.skip))) (.seq (.region 3 (ro Try.f4 3) false) (.seq (.region 4 (ro Try.f4 4) false) (.seq (.seq (.region 5 (ro Try.f4 5) false) (.cond (.tmp 37) (.seq (.region 6 (ro Try.f4 6) false) (.ret)) (.skip))) (.seq (.region 7 (ro Try.f4 7) false) (.seq (.seq (.region 8 (ro Try.f4 8) false) (.block 0 (.loop (.seq (.seq (.region 9 (ro Try.f4 9) false) (.cond (.tmp 41) (.skip) (.exit 0))) (.seq (.block 1 (.seq (.seq (.region 11 (ro Try.f4 11) true) (.cond (.tmp 70) (.seq (.region 12 (ro Try.f4 12) false) (.ret)) (.skip))) (.region 13 (ro Try.f4 13) false))) (.region 10 (ro Try.f4 10) false)))))) (.seq (.seq (.region 14 (ro Try.f4 14) false) (.block 2 (.loop (.seq (.seq (.region 15 (ro Try.f4 15) false) (.cond (.tmp 86) (.skip) (.exit 2))) (.seq (.block 3 (.seq (.region 17 (ro Try.f4 17) false) (.cond (.tmp 95) (.region 18 (ro Try.f4 18) false) (.skip)))) (.region 16 (ro Try.f4 16) false)))))) (.seq (.region 19 (ro Try.f4 19) false) (.ret)))))))))
/-- airline/airlinelaw39.ProrateTaxes -/
noncomputable def c5 : Code := .seq (.region 0 (ro Try.f5 0) false) (.seq (.seq (.region 1 (ro Try.f5 1) false) (.cond (.tmp 14) (.seq (.region 2 (ro Try.f5 2) false) (.ret)) (.skip))) (.seq (.region 3 (ro Try.f5 3) false) (.seq (.seq (.region 4 (ro Try.f5 4) false) (.block 0 (.loop (.seq (.seq (.region 5 (ro Try.f5 5) false) (.cond (.tmp 19) (.skip) (.exit 0))) (.seq (.block 1 (.seq (.region 7 (ro Try.f5 7) false) (.cond (.tmp 26) (.seq (.region 8 (ro Try.f5 8) false) (.ret)) (.skip)))) (.region 6 (ro Try.f5 6) false)))))) (.seq (.region 9 (ro Try.f5 9) false) (.seq (.region 10 (ro Try.f5 10) false) (.seq (.seq (.region 11 (ro Try.f5 11) false) (.cond (.tmp 47) (.seq (.region 12 (ro Try.f5 12) false) (.ret)) (.skip))) (.seq (.seq (.region 13 (ro Try.f5 13) false) (.block 2 (.loop (.seq (.seq (.region 14 (ro Try.f5 14) false) (.cond (.tmp 51) (.skip) (.exit 2))) (.seq (.block 3 (.seq (.seq (.region 16 (ro Try.f5 16) true) (.cond (.tmp 80) (.seq (.region 17 (ro Try.f5 17) false) (.ret)) (.skip))) (.region 18 (ro Try.f5 18) false))) (.region 15 (ro Try.f5 15) false)))))) (.seq (.seq (.region 19 (ro Try.f5 19) false) (.block 4 (.loop (.seq (.seq (.region 20 (ro Try.f5 20) false) (.cond (.tmp 95) (.skip) (.exit 4))) (.seq (.block 5 (.seq (.region 22 (ro Try.f5 22) false) (.block 6 (.loop (.seq (.seq (.region 23 (ro Try.f5 23) false) (.cond (.tmp 105) (.skip) (.exit 6))) (.seq (.block 7 (.region 25 (ro Try.f5 25) false)) (.region 24 (ro Try.f5 24) false))))))) (.region 21 (ro Try.f5 21) false)))))) (.seq (.region 26 (ro Try.f5 26) false) (.ret))))))))))
theorem body5 : Try.f5.body = some c5 := by kernel_rfl
theorem res5 : Try.f5.results.toList.mapM (trR Try.prog) = some [.t 2] := by kernel_rfl
theorem nt5 : Try.f5.ntmps = 124 := by kernel_rfl
theorem nm5 : (Try.f5.name == "runtime.NumGoroutine") = false := by kernel_rfl
def a5_0 : List AO := [⟨(some 2), none, .mv (.v (.bool false))⟩]
theorem tr5_0 : (ro Try.f5 0).toList.mapM (trO Try.prog 124 (ro Try.f5 0)) = some a5_0 := by kernel_rfl
def a5_1 : List AO := [⟨(some 12), none, .mv (.t 0)⟩,
  ⟨(some 13), none, .len (.t 12)⟩,
  ⟨(some 14), none, .bin .gtr (.t 13) (.v (.int .i64 6))⟩]
theorem tr5_1 : (ro Try.f5 1).toList.mapM (trO Try.prog 124 (ro Try.f5 1)) = some a5_1 := by kernel_rfl
def a5_2 : List AO := [⟨(some 15), none, .call 7 []⟩,
  ⟨(some 2), none, .mv (.t 15)⟩]
theorem tr5_2 : (ro Try.f5 2).toList.mapM (trO Try.prog 124 (ro Try.f5 2)) = some a5_2 := by kernel_rfl
def a5_3 : List AO := [⟨(some 3), none, .mv (.v (.int .i64 0))⟩]
theorem tr5_3 : (ro Try.f5 3).toList.mapM (trO Try.prog 124 (ro Try.f5 3)) = some a5_3 := by kernel_rfl
def a5_4 : List AO := [⟨(some 4), none, .mv (.v (.int .i64 0))⟩]
theorem tr5_4 : (ro Try.f5 4).toList.mapM (trO Try.prog 124 (ro Try.f5 4)) = some a5_4 := by kernel_rfl
def a5_5 : List AO := [⟨(some 16), none, .mv (.t 4)⟩,
  ⟨(some 17), none, .mv (.t 0)⟩,
  ⟨(some 18), none, .len (.t 17)⟩,
  ⟨(some 19), none, .bin .lss (.t 16) (.t 18)⟩]
theorem tr5_5 : (ro Try.f5 5).toList.mapM (trO Try.prog 124 (ro Try.f5 5)) = some a5_5 := by kernel_rfl
def a5_7 : List AO := [⟨(some 22), none, .mv (.t 0)⟩,
  ⟨(some 23), none, .mv (.t 4)⟩,
  ⟨(some 24), none, .idx 10 (.t 22) (.t 23)⟩,
  ⟨(some 25), none, .load (some 10) (.t 24)⟩,
  ⟨(some 26), none, .call 9 [(.t 25), (.v .nils)]⟩]
theorem tr5_7 : (ro Try.f5 7).toList.mapM (trO Try.prog 124 (ro Try.f5 7)) = some a5_7 := by kernel_rfl
def a5_8 : List AO := [⟨(some 27), none, .call 7 []⟩,
  ⟨(some 2), none, .mv (.t 27)⟩]
theorem tr5_8 : (ro Try.f5 8).toList.mapM (trO Try.prog 124 (ro Try.f5 8)) = some a5_8 := by kernel_rfl
def a5_6 : List AO := [⟨(some 20), none, .mv (.t 4)⟩,
  ⟨(some 21), none, .bin .add (.t 20) (.v (.int .i64 1))⟩,
  ⟨(some 4), none, .mv (.t 21)⟩]
theorem tr5_6 : (ro Try.f5 6).toList.mapM (trO Try.prog 124 (ro Try.f5 6)) = some a5_6 := by kernel_rfl
def a5_9 : List AO := [⟨(some 29), none, .mv (.t 0)⟩,
  ⟨(some 30), none, .call 12 [(.t 29)]⟩,
  ⟨(some 28), none, .mv (.t 30)⟩,
  ⟨(some 31), none, .ext 0 (.t 28)⟩,
  ⟨(some 32), none, .ext 1 (.t 28)⟩,
  ⟨(some 5), none, .mv (.t 31)⟩,
  ⟨(some 6), none, .mv (.t 32)⟩]
theorem tr5_9 : (ro Try.f5 9).toList.mapM (trO Try.prog 124 (ro Try.f5 9)) = some a5_9 := by kernel_rfl
def a5_10 : List AO := [⟨(some 34), none, .mv (.t 0)⟩,
  ⟨(some 35), none, .call 13 [(.t 34)]⟩,
  ⟨(some 33), none, .mv (.t 35)⟩,
  ⟨(some 36), none, .ext 0 (.t 33)⟩,
  ⟨(some 37), none, .ext 1 (.t 33)⟩,
  ⟨(some 7), none, .mv (.t 36)⟩,
  ⟨(some 8), none, .mv (.t 37)⟩]
theorem tr5_10 : (ro Try.f5 10).toList.mapM (trO Try.prog 124 (ro Try.f5 10)) = some a5_10 := by kernel_rfl
def a5_11 : List AO := [⟨(some 38), none, .mv (.t 6)⟩,
  ⟨(some 39), none, .mv (.t 8)⟩,
  ⟨(some 40), none, .bin .neq (.t 38) (.t 39)⟩,
  ⟨(some 41), none, .mv (.t 40)⟩,
  ⟨(some 42), some (41, false), .mv (.t 5)⟩,
  ⟨(some 43), some (41, false), .len (.t 42)⟩,
  ⟨(some 44), some (41, false), .mv (.t 7)⟩,
  ⟨(some 45), some (41, false), .len (.t 44)⟩,
  ⟨(some 46), some (41, false), .bin .neq (.t 43) (.t 45)⟩,
  ⟨(some 47), none, .pick (.t 41) (.v (.bool true)) (.t 46)⟩]
theorem tr5_11 : (ro Try.f5 11).toList.mapM (trO Try.prog 124 (ro Try.f5 11)) = some a5_11 := by kernel_rfl
def a5_13 : List AO := [⟨(some 9), none, .mv (.v (.int .i64 0))⟩]
theorem tr5_13 : (ro Try.f5 13).toList.mapM (trO Try.prog 124 (ro Try.f5 13)) = some a5_13 := by kernel_rfl
def a5_14 : List AO := [⟨(some 48), none, .mv (.t 9)⟩,
  ⟨(some 49), none, .mv (.t 5)⟩,
  ⟨(some 50), none, .len (.t 49)⟩,
  ⟨(some 51), none, .bin .lss (.t 48) (.t 50)⟩]
theorem tr5_14 : (ro Try.f5 14).toList.mapM (trO Try.prog 124 (ro Try.f5 14)) = some a5_14 := by kernel_rfl
def a5_16 : List AO := [⟨(some 54), none, .mv (.t 5)⟩,
  ⟨(some 55), none, .mv (.t 9)⟩,
  ⟨(some 56), none, .idx 2 (.t 54) (.t 55)⟩,
  ⟨(some 57), none, .load (some 2) (.t 56)⟩,
  ⟨(some 58), none, .mv (.t 7)⟩,
  ⟨(some 59), none, .mv (.t 9)⟩,
  ⟨(some 60), none, .idx 2 (.t 58) (.t 59)⟩,
  ⟨(some 61), none, .load (some 2) (.t 60)⟩,
  ⟨(some 62), none, .bina [.s, .i .i64] .neq (.t 57) (.t 61)⟩,
  ⟨(some 63), none, .mv (.t 62)⟩,
  ⟨(some 64), some (63, false), .mv (.t 9)⟩,
  ⟨(some 65), some (63, false), .bin .gtr (.t 64) (.v (.int .i64 0))⟩,
  ⟨(some 66), some (63, false), .mv (.t 65)⟩,
  ⟨(some 67), some (66, true), .mv (.t 5)⟩,
  ⟨(some 68), some (66, true), .mv (.t 9)⟩,
  ⟨(some 69), some (66, true), .bin .sub (.t 68) (.v (.int .i64 1))⟩,
  ⟨(some 70), some (66, true), .idx 2 (.t 67) (.t 69)⟩,
  ⟨(some 71), some (66, true), .fld 0 (.t 70)⟩,
  ⟨(some 72), some (66, true), .load none (.t 71)⟩,
  ⟨(some 73), some (66, true), .mv (.t 5)⟩,
  ⟨(some 74), some (66, true), .mv (.t 9)⟩,
  ⟨(some 75), some (66, true), .idx 2 (.t 73) (.t 74)⟩,
  ⟨(some 76), some (66, true), .fld 0 (.t 75)⟩,
  ⟨(some 77), some (66, true), .load none (.t 76)⟩,
  ⟨(some 78), some (66, true), .bin .geq (.t 72) (.t 77)⟩,
  ⟨(some 79), some (63, false), .pick (.t 66) (.t 78) (.v (.bool false))⟩,
  ⟨(some 80), none, .pick (.t 63) (.v (.bool true)) (.t 79)⟩]
theorem tr5_16 : (ro Try.f5 16).toList.mapM (trO Try.prog 124 (ro Try.f5 16)) = some a5_16 := by kernel_rfl
def d5_16 : List (List Nat) := [[], [], [0, 1], [0, 1, 2], [], [], [4, 5], [4, 5, 6], [0, 1, 2, 3, 4, 5, 6, 7], [0, 1, 2, 3, 4, 5, 6, 7, 8], [0, 1, 2, 3, 4, 5, 6, 7, 8, 9], [0, 1, 2, 3, 4, 5, 6, 7, 8, 9, 10], [0, 1, 2, 3, 4, 5, 6, 7, 8, 9, 10, 11], [0, 1, 2, 3, 4, 5, 6, 7, 8, 9, 10, 11, 12], [0, 1, 2, 3, 4, 5, 6, 7, 8, 9, 10, 11, 12], [0, 1, 2, 3, 4, 5, 6, 7, 8, 9, 10, 11, 12, 14], [0, 1, 2, 3, 4, 5, 6, 7, 8, 9, 10, 11, 12, 13, 14, 15], [0, 1, 2, 3, 4, 5, 6, 7, 8, 9, 10, 11, 12, 13, 14, 15, 16], [0, 1, 2, 3, 4, 5, 6, 7, 8, 9, 10, 11, 12, 13, 14, 15, 16, 17], [0, 1, 2, 3, 4, 5, 6, 7, 8, 9, 10, 11, 12], [0, 1, 2, 3, 4, 5, 6, 7, 8, 9, 10, 11, 12], [0, 1, 2, 3, 4, 5, 6, 7, 8, 9, 10, 11, 12, 19, 20], [0, 1, 2, 3, 4, 5, 6, 7, 8, 9, 10, 11, 12, 19, 20, 21], [0, 1, 2, 3, 4, 5, 6, 7, 8, 9, 10, 11, 12, 19, 20, 21, 22], [0, 1, 2, 3, 4, 5, 6, 7, 8, 9, 10, 11, 12, 13, 14, 15, 16, 17, 18, 19, 20, 21, 22, 23], [0, 1, 2, 3, 4, 5, 6, 7, 8, 9, 10, 11, 12, 13, 14, 15, 16, 17, 18, 19, 20, 21, 22, 23, 24], [0, 1, 2, 3, 4, 5, 6, 7, 8, 9, 10, 11, 12, 13, 14, 15, 16, 17, 18, 19, 20, 21, 22, 23, 24, 25]]
theorem ok5_16 : okReg (ro Try.f5 16) a5_16 d5_16 = true := by kernel_rfl
def a5_18 : List AO := [⟨(some 81), none, .mv (.t 3)⟩,
  ⟨(some 82), none, .mv (.t 5)⟩,
  ⟨(some 83), none, .mv (.t 9)⟩,
  ⟨(some 84), none, .idx 2 (.t 82) (.t 83)⟩,
  ⟨(some 85), none, .fld 1 (.t 84)⟩,
  ⟨(some 86), none, .load none (.t 85)⟩,
  ⟨(some 87), none, .bin .sub (.t 81) (.t 86)⟩,
  ⟨(some 3), none, .mv (.t 87)⟩]
theorem tr5_18 : (ro Try.f5 18).toList.mapM (trO Try.prog 124 (ro Try.f5 18)) = some a5_18 := by kernel_rfl
def a5_15 : List AO := [⟨(some 52), none, .mv (.t 9)⟩,
  ⟨(some 53), none, .bin .add (.t 52) (.v (.int .i64 1))⟩,
  ⟨(some 9), none, .mv (.t 53)⟩]
theorem tr5_15 : (ro Try.f5 15).toList.mapM (trO Try.prog 124 (ro Try.f5 15)) = some a5_15 := by kernel_rfl
def a5_19 : List AO := [⟨(some 10), none, .mv (.v (.int .i64 0))⟩]
theorem tr5_19 : (ro Try.f5 19).toList.mapM (trO Try.prog 124 (ro Try.f5 19)) = some a5_19 := by kernel_rfl
def a5_20 : List AO := [⟨(some 88), none, .mv (.t 10)⟩,
  ⟨(some 89), none, .mv (.t 0)⟩,
  ⟨(some 90), none, .len (.t 89)⟩,
  ⟨(some 91), none, .bin .lss (.t 88) (.t 90)⟩,
  ⟨(some 92), none, .mv (.t 91)⟩,
  ⟨(some 93), some (92, true), .mv (.t 6)⟩,
  ⟨(some 94), some (92, true), .bin .eql (.t 93) (.v (.int .i64 0))⟩,
  ⟨(some 95), none, .pick (.t 92) (.t 94) (.v (.bool false))⟩]
theorem tr5_20 : (ro Try.f5 20).toList.mapM (trO Try.prog 124 (ro Try.f5 20)) = some a5_20 := by kernel_rfl
def a5_22 : List AO := [⟨(some 11), none, .mv (.v (.int .i64 0))⟩]
theorem tr5_22 : (ro Try.f5 22).toList.mapM (trO Try.prog 124 (ro Try.f5 22)) = some a5_22 := by kernel_rfl
def a5_23 : List AO := [⟨(some 98), none, .mv (.t 11)⟩,
  ⟨(some 99), none, .mv (.t 0)⟩,
  ⟨(some 100), none, .mv (.t 10)⟩,
  ⟨(some 101), none, .idx 10 (.t 99) (.t 100)⟩,
  ⟨(some 102), none, .fld 7 (.t 101)⟩,
  ⟨(some 103), none, .load none (.t 102)⟩,
  ⟨(some 104), none, .len (.t 103)⟩,
  ⟨(some 105), none, .bin .lss (.t 98) (.t 104)⟩]
theorem tr5_23 : (ro Try.f5 23).toList.mapM (trO Try.prog 124 (ro Try.f5 23)) = some a5_23 := by kernel_rfl
def a5_25 : List AO := [⟨(some 108), none, .mv (.t 3)⟩,
  ⟨(some 109), none, .mv (.t 0)⟩,
  ⟨(some 110), none, .mv (.t 10)⟩,
  ⟨(some 111), none, .idx 10 (.t 109) (.t 110)⟩,
  ⟨(some 112), none, .fld 7 (.t 111)⟩,
  ⟨(some 113), none, .load none (.t 112)⟩,
  ⟨(some 114), none, .mv (.t 11)⟩,
  ⟨(some 115), none, .idx 2 (.t 113) (.t 114)⟩,
  ⟨(some 116), none, .fld 1 (.t 115)⟩,
  ⟨(some 117), none, .load none (.t 116)⟩,
  ⟨(some 118), none, .bin .add (.t 108) (.t 117)⟩,
  ⟨(some 3), none, .mv (.t 118)⟩]
theorem tr5_25 : (ro Try.f5 25).toList.mapM (trO Try.prog 124 (ro Try.f5 25)) = some a5_25 := by kernel_rfl
def a5_24 : List AO := [⟨(some 106), none, .mv (.t 11)⟩,
  ⟨(some 107), none, .bin .add (.t 106) (.v (.int .i64 1))⟩,
  ⟨(some 11), none, .mv (.t 107)⟩]
theorem tr5_24 : (ro Try.f5 24).toList.mapM (trO Try.prog 124 (ro Try.f5 24)) = some a5_24 := by kernel_rfl
def a5_21 : List AO := [⟨(some 96), none, .mv (.t 10)⟩,
  ⟨(some 97), none, .bin .add (.t 96) (.v (.int .i64 1))⟩,
  ⟨(some 10), none, .mv (.t 97)⟩]
theorem tr5_21 : (ro Try.f5 21).toList.mapM (trO Try.prog 124 (ro Try.f5 21)) = some a5_21 := by kernel_rfl
def a5_26 : List AO := [⟨(some 119), none, .mv (.t 3)⟩,
  ⟨(some 120), none, .bin .eql (.t 119) (.v (.int .i64 0))⟩,
  ⟨(some 121), none, .mv (.t 120)⟩,
  ⟨(some 122), some (121, true), .call 7 []⟩,
  ⟨(some 123), none, .pick (.t 121) (.t 122) (.v (.bool false))⟩,
  ⟨(some 2), none, .mv (.t 123)⟩]
theorem tr5_26 : (ro Try.f5 26).toList.mapM (trO Try.prog 124 (ro Try.f5 26)) = some a5_26 := by kernel_rfl
/-- airline/airlinelaw39.awake -/
noncomputable def c7 : Code := .seq (.region 0 (ro Try.f7 0) false) (.seq (.region 1 (ro Try.f7 1) false) (.seq (.region 2 (ro Try.f7 2) false) (.seq (.region 3 (ro Try.f7 3) false) (.seq (.region 4 (ro Try.f7 4) false) (.seq (.region 5 (ro Try.f7 5) false) (.seq (.region 6 (ro Try.f7 6) false) (.ret)))))))
theorem body7 : Try.f7.body = some c7 := by kernel_rfl
theorem res7 : Try.f7.results.toList.mapM (trR Try.prog) = some [.t 0] := by kernel_rfl
theorem nt7 : Try.f7.ntmps = 71 := by kernel_rfl
theorem nm7 : (Try.f7.name == "runtime.NumGoroutine") = false := by kernel_rfl
def a7_0 : List AO := [⟨(some 0), none, .mv (.v (.bool false))⟩]
theorem tr7_0 : (ro Try.f7 0).toList.mapM (trO Try.prog 71 (ro Try.f7 0)) = some a7_0 := by kernel_rfl
def a7_1 : List AO := [⟨(some 8), none, .build [(.str []), (.str []), (.str []), (.int .i64 0), .nils] [(0, 1, (.v (.str [76, 72, 82]))), (1, 1, (.v (.str [76, 79, 78]))), (2, 1, (.v (.str [71, 66])))]⟩,
  ⟨(some 9), none, .build [(.str []), (.str []), (.str []), (.int .i64 0), .nils] [(0, 1, (.v (.str [74, 70, 75]))), (1, 1, (.v (.str [78, 89, 67]))), (2, 1, (.v (.str [85, 83])))]⟩,
  ⟨(some 10), none, .build [(.str []), (.str []), (.str []), (.int .i64 0), .nils] [(0, 1, (.v (.str [67, 68, 71]))), (1, 1, (.v (.str [80, 65, 82]))), (2, 1, (.v (.str [70, 82])))]⟩,
  ⟨(some 11), none, .slc 70 5 false [(.t 8), (.t 9), (.t 10)]⟩,
  ⟨(some 12), none, .build [(.str []), (.str []), (.int .i64 0)] [(0, 1, (.v (.str [76, 79, 78]))), (1, 1, (.v (.str [78, 89, 67]))), (2, 1, (.v (.int .i64 3458)))]⟩,
  ⟨(some 13), none, .build [(.str []), (.str []), (.int .i64 0)] [(0, 1, (.v (.str [76, 79, 78]))), (1, 1, (.v (.str [80, 65, 82]))), (2, 1, (.v (.int .i64 214)))]⟩,
  ⟨(some 14), none, .slc 72 3 false [(.t 12), (.t 13)]⟩,
  ⟨(some 15), none, .build [.nils, .nils] [(0, 1, (.t 11)), (1, 1, (.t 14))]⟩,
  ⟨(some 1), none, .alloc 25 [.nils, .nils]⟩,
  ⟨none, none, .store 2 (.t 1) (.t 15)⟩]
theorem tr7_1 : (ro Try.f7 1).toList.mapM (trO Try.prog 71 (ro Try.f7 1)) = some a7_1 := by kernel_rfl
def a7_2 : List AO := [⟨(some 16), none, .build [(.str []), (.int .i64 0), (.int .i64 0), (.str []), (.str []), (.int .i64 0), (.int .i64 0)] [(3, 1, (.v (.str [74, 70, 75]))), (4, 1, (.v (.str [76, 72, 82])))]⟩,
  ⟨(some 17), none, .build [(.str []), (.int .i64 0), (.int .i64 0), (.str []), (.str []), (.int .i64 0), (.int .i64 0), (.str [])] [(0, 7, (.t 16))]⟩,
  ⟨(some 18), none, .build [(.str []), (.int .i64 0), (.int .i64 0), (.str []), (.str []), (.int .i64 0), (.int .i64 0)] [(3, 1, (.v (.str [76, 72, 82]))), (4, 1, (.v (.str [67, 68, 71])))]⟩,
  ⟨(some 19), none, .build [(.str []), (.int .i64 0), (.int .i64 0), (.str []), (.str []), (.int .i64 0), (.int .i64 0), (.str [])] [(0, 7, (.t 18))]⟩,
  ⟨(some 20), none, .slc 55 8 false [(.t 17), (.t 19)]⟩,
  ⟨(some 2), none, .mv (.t 20)⟩]
theorem tr7_2 : (ro Try.f7 2).toList.mapM (trO Try.prog 71 (ro Try.f7 2)) = some a7_2 := by kernel_rfl
def a7_3 : List AO := [⟨(some 22), none, .load (some 2) (.t 1)⟩,
  ⟨(some 23), none, .mv (.t 2)⟩,
  ⟨(some 24), none, .build [(.int .i64 0), (.int .i64 0), (.int .i64 0), (.int .i64 0)] [(1, 1, (.v (.int .i64 2))), (3, 1, (.v (.int .i64 10000)))]⟩,
  ⟨(some 25), none, .slc 39 4 false [(.t 24)]⟩,
  ⟨(some 26), none, .build [.nils, .nils, .nils, (.int .i64 0), (.int .i64 0)] [(0, 1, (.t 25))]⟩,
  ⟨(some 27), none, .call 8 [(.t 22), (.t 23), (.t 26)]⟩,
  ⟨(some 21), none, .mv (.t 27)⟩,
  ⟨(some 28), none, .ext 0 (.t 21)⟩,
  ⟨(some 29), none, .ext 1 (.t 21)⟩,
  ⟨(some 3), none, .mv (.t 28)⟩,
  ⟨(some 4), none, .mv (.t 29)⟩]
theorem tr7_3 : (ro Try.f7 3).toList.mapM (trO Try.prog 71 (ro Try.f7 3)) = some a7_3 := by kernel_rfl
def a7_4 : List AO := [⟨(some 30), none, .build [(.str []), (.int .i64 0), (.int .i64 0), (.str []), (.str []), (.int .i64 0), (.int .i64 0), (.str []), (.str []), (.int .i64 0), (.int .i64 0)] [(9, 1, (.v (.int .i64 5))), (10, 1, (.v (.int .i64 1000)))]⟩,
  ⟨(some 31), none, .build [(.str []), (.int .i64 0), (.int .i64 0), (.str []), (.str []), (.int .i64 0), (.int .i64 0), (.str []), (.str []), (.int .i64 0), (.int .i64 0)] [(9, 1, (.v (.int .i64 5))), (10, 1, (.v (.int .i64 2000)))]⟩,
  ⟨(some 32), none, .build [(.str []), (.int .i64 0), (.int .i64 0), (.str []), (.str []), (.int .i64 0), (.int .i64 0), (.str []), (.str []), (.int .i64 0), (.int .i64 0)] [(9, 1, (.v (.int .i64 5))), (10, 1, (.v (.int .i64 500)))]⟩,
  ⟨(some 33), none, .slc 57 11 false [(.t 30), (.t 31), (.t 32)]⟩,
  ⟨(some 34), none, .build [(.int .i64 0), (.str []), (.str []), (.str []), (.str []), .nils, (.int .i64 0), .nils, (.int .i64 0), (.int .i64 0)] [(5, 1, (.t 33))]⟩,
  ⟨(some 5), none, .alloc 44 [(.int .i64 0), (.str []), (.str []), (.str []), (.str []), .nils, (.int .i64 0), .nils, (.int .i64 0), (.int .i64 0)]⟩,
  ⟨none, none, .store 10 (.t 5) (.t 34)⟩]
theorem tr7_4 : (ro Try.f7 4).toList.mapM (trO Try.prog 71 (ro Try.f7 4)) = some a7_4 := by kernel_rfl
def a7_5 : List AO := [⟨(some 36), none, .load (some 10) (.t 5)⟩,
  ⟨(some 37), none, .slc 9 1 false [(.v (.str [66, 65])), (.v (.str [65, 70])), (.v (.str [66, 65]))]⟩,
  ⟨(some 38), none, .call 10 [(.t 36), (.t 37)]⟩,
  ⟨(some 35), none, .mv (.t 38)⟩,
  ⟨(some 39), none, .ext 0 (.t 35)⟩,
  ⟨(some 40), none, .ext 1 (.t 35)⟩,
  ⟨(some 6), none, .mv (.t 39)⟩,
  ⟨(some 7), none, .mv (.t 40)⟩]
theorem tr7_5 : (ro Try.f7 5).toList.mapM (trO Try.prog 71 (ro Try.f7 5)) = some a7_5 := by kernel_rfl
def a7_6 : List AO := [⟨(some 41), none, .mv (.t 4)⟩,
  ⟨(some 42), none, .bin .eql (.t 41) (.v (.int .i64 0))⟩,
  ⟨(some 43), none, .mv (.t 42)⟩,
  ⟨(some 44), some (43, true), .mv (.t 7)⟩,
  ⟨(some 45), some (43, true), .bin .eql (.t 44) (.v (.int .i64 0))⟩,
  ⟨(some 46), none, .pick (.t 43) (.t 45) (.v (.bool false))⟩,
  ⟨(some 47), none, .mv (.t 46)⟩,
  ⟨(some 48), some (47, true), .mv (.t 3)⟩,
  ⟨(some 49), some (47, true), .slc 3 1 false [(.v (.int .i64 9417)), (.v (.int .i64 583))]⟩,
  ⟨(some 50), some (47, true), .call 15 [(.t 48), (.t 49)]⟩,
  ⟨(some 51), none, .pick (.t 47) (.t 50) (.v (.bool false))⟩,
  ⟨(some 52), none, .mv (.t 51)⟩,
  ⟨(some 53), some (52, true), .mv (.t 6)⟩,
  ⟨(some 54), some (52, true), .len (.t 53)⟩,
  ⟨(some 55), some (52, true), .bin .eql (.t 54) (.v (.int .i64 2))⟩,
  ⟨(some 56), none, .pick (.t 52) (.t 55) (.v (.bool false))⟩,
  ⟨(some 57), none, .mv (.t 56)⟩,
  ⟨(some 58), some (57, true), .mv (.t 6)⟩,
  ⟨(some 59), some (57, true), .idx 2 (.t 58) (.v (.int .i64 0))⟩,
  ⟨(some 60), some (57, true), .load (some 2) (.t 59)⟩,
  ⟨(some 61), some (57, true), .build [(.str []), (.int .i64 0)] [(0, 1, (.v (.str [65, 70]))), (1, 1, (.v (.int .i64 2000)))]⟩,
  ⟨(some 62), some (57, true), .bina [.s, .i .i64] .eql (.t 60) (.t 61)⟩,
  ⟨(some 63), none, .pick (.t 57) (.t 62) (.v (.bool false))⟩,
  ⟨(some 64), none, .mv (.t 63)⟩,
  ⟨(some 65), some (64, true), .mv (.t 6)⟩,
  ⟨(some 66), some (64, true), .idx 2 (.t 65) (.v (.int .i64 1))⟩,
  ⟨(some 67), some (64, true), .load (some 2) (.t 66)⟩,
  ⟨(some 68), some (64, true), .build [(.str []), (.int .i64 0)] [(0, 1, (.v (.str [66, 65]))), (1, 1, (.v (.int .i64 1500)))]⟩,
  ⟨(some 69), some (64, true), .bina [.s, .i .i64] .eql (.t 67) (.t 68)⟩,
  ⟨(some 70), none, .pick (.t 64) (.t 69) (.v (.bool false))⟩,
  ⟨(some 0), none, .mv (.t 70)⟩]
theorem tr7_6 : (ro Try.f7 6).toList.mapM (trO Try.prog 71 (ro Try.f7 6)) = some a7_6 := by kernel_rfl
/-- airline/prorate.Coupons -/
noncomputable def c8 : Code := .seq (.region 0 (ro Try.f8 0) false) (.seq (.seq (.region 1 (ro Try.f8 1) false) (.cond (.tmp 19) (.seq (.region 2 (ro Try.f8 2) false) (.ret)) (.skip))) (.seq (.region 3 (ro Try.f8 3) false) (.seq (.region 4 (ro Try.f8 4) false) (.seq (.seq (.region 5 (ro Try.f8 5) false) (.block 0 (.loop (.seq (.region 6 (ro Try.f8 6) false) (.seq (.cond (.tmp 27) (.skip) (.exit 0)) (.seq (.block 1 (.seq (.region 7 (ro Try.f8 7) false) (.seq (.region 8 (ro Try.f8 8) true) (.seq (.seq (.region 9 (ro Try.f8 9) false) (.cond (.tmp 43) (.seq (.region 10 (ro Try.f8 10) false) (.ret)) (.skip))) (.region 11 (ro Try.f8 11) false))))) (.region 12 (ro Try.f8 12) false))))))) (.seq (.region 13 (ro Try.f8 13) false) (.ret))))))
theorem body8 : Try.f8.body = some c8 := by kernel_rfl
theorem res8 : Try.f8.results.toList.mapM (trR Try.prog) = some [.t 6, .t 7] := by kernel_rfl
theorem nt8 : Try.f8.ntmps = 50 := by kernel_rfl
theorem nm8 : (Try.f8.name == "runtime.NumGoroutine") = false := by kernel_rfl
def a8_0 : List AO := [⟨(some 3), none, .box 25 (.t 0)⟩,
  ⟨(some 5), none, .box 31 (.t 2)⟩,
  ⟨(some 6), none, .mv (.v .nils)⟩,
  ⟨(some 7), none, .mv (.v (.int .i64 0))⟩]
theorem tr8_0 : (ro Try.f8 0).toList.mapM (trO Try.prog 50 (ro Try.f8 0)) = some a8_0 := by kernel_rfl
def a8_1 : List AO := [⟨(some 14), none, .fld 0 (.t 5)⟩,
  ⟨(some 15), none, .load none (.t 14)⟩,
  ⟨(some 16), none, .mv (.t 1)⟩,
  ⟨(some 17), none, .len (.t 16)⟩,
  ⟨(some 18), none, .call 16 [(.t 15), (.t 17)]⟩,
  ⟨(some 19), none, .un .not (.t 18)⟩]
theorem tr8_1 : (ro Try.f8 1).toList.mapM (trO Try.prog 50 (ro Try.f8 1)) = some a8_1 := by kernel_rfl
def a8_2 : List AO := [⟨(some 6), none, .mv (.v .nils)⟩,
  ⟨(some 7), none, .mv (.v (.int .i64 2))⟩]
theorem tr8_2 : (ro Try.f8 2).toList.mapM (trO Try.prog 50 (ro Try.f8 2)) = some a8_2 := by kernel_rfl
def a8_3 : List AO := [⟨(some 20), none, .load (some 2) (.t 3)⟩,
  ⟨(some 21), none, .mv (.t 1)⟩,
  ⟨(some 22), none, .call 17 [(.t 20), (.t 21)]⟩,
  ⟨(some 8), none, .mv (.t 22)⟩]
theorem tr8_3 : (ro Try.f8 3).toList.mapM (trO Try.prog 50 (ro Try.f8 3)) = some a8_3 := by kernel_rfl
def a8_4 : List AO := [⟨(some 9), none, .mv (.v .nils)⟩]
theorem tr8_4 : (ro Try.f8 4).toList.mapM (trO Try.prog 50 (ro Try.f8 4)) = some a8_4 := by kernel_rfl
def a8_5 : List AO := [⟨(some 23), none, .fld 0 (.t 5)⟩,
  ⟨(some 24), none, .load none (.t 23)⟩,
  ⟨(some 25), none, .len (.t 24)⟩,
  ⟨(some 26), none, .mv (.v (.int .i64 0))⟩]
theorem tr8_5 : (ro Try.f8 5).toList.mapM (trO Try.prog 50 (ro Try.f8 5)) = some a8_5 := by kernel_rfl
def a8_6 : List AO := [⟨(some 27), none, .bin .lss (.t 26) (.t 25)⟩]
theorem tr8_6 : (ro Try.f8 6).toList.mapM (trO Try.prog 50 (ro Try.f8 6)) = some a8_6 := by kernel_rfl
def a8_7 : List AO := [⟨(some 28), none, .idx 4 (.t 24) (.t 26)⟩,
  ⟨(some 29), none, .load (some 4) (.t 28)⟩,
  ⟨(some 11), none, .alloc 39 [(.int .i64 0), (.int .i64 0), (.int .i64 0), (.int .i64 0)]⟩,
  ⟨none, none, .store 4 (.t 11) (.t 29)⟩]
theorem tr8_7 : (ro Try.f8 7).toList.mapM (trO Try.prog 50 (ro Try.f8 7)) = some a8_7 := by kernel_rfl
def a8_8 : List AO := [⟨(some 31), none, .fld 3 (.t 11)⟩,
  ⟨(some 32), none, .load none (.t 31)⟩,
  ⟨(some 33), none, .mv (.t 8)⟩,
  ⟨(some 34), none, .fld 0 (.t 11)⟩,
  ⟨(some 35), none, .load none (.t 34)⟩,
  ⟨(some 36), none, .fld 1 (.t 11)⟩,
  ⟨(some 37), none, .load none (.t 36)⟩,
  ⟨(some 38), none, .sub 1 (some (.t 35)) (some (.t 37)) none (.t 33)⟩,
  ⟨(some 39), none, .call 18 [(.t 32), (.t 38)]⟩,
  ⟨(some 30), none, .mv (.t 39)⟩,
  ⟨(some 40), none, .ext 0 (.t 30)⟩,
  ⟨(some 41), none, .ext 1 (.t 30)⟩,
  ⟨(some 12), none, .mv (.t 40)⟩,
  ⟨(some 13), none, .mv (.t 41)⟩]
theorem tr8_8 : (ro Try.f8 8).toList.mapM (trO Try.prog 50 (ro Try.f8 8)) = some a8_8 := by kernel_rfl
def d8_8 : List (List Nat) := [[], [0], [], [], [3], [], [5], [2, 3, 4, 5, 6], [0, 1, 2, 3, 4, 5, 6, 7], [0, 1, 2, 3, 4, 5, 6, 7, 8], [0, 1, 2, 3, 4, 5, 6, 7, 8, 9], [0, 1, 2, 3, 4, 5, 6, 7, 8, 9], [0, 1, 2, 3, 4, 5, 6, 7, 8, 9, 10], [0, 1, 2, 3, 4, 5, 6, 7, 8, 9, 10, 11, 12]]
theorem ok8_8 : okReg (ro Try.f8 8) a8_8 d8_8 = true := by kernel_rfl
def a8_9 : List AO := [⟨(some 42), none, .mv (.t 13)⟩,
  ⟨(some 43), none, .bin .neq (.t 42) (.v (.int .i64 0))⟩]
theorem tr8_9 : (ro Try.f8 9).toList.mapM (trO Try.prog 50 (ro Try.f8 9)) = some a8_9 := by kernel_rfl
def a8_10 : List AO := [⟨(some 44), none, .mv (.t 13)⟩,
  ⟨(some 6), none, .mv (.v .nils)⟩,
  ⟨(some 7), none, .mv (.t 44)⟩]
theorem tr8_10 : (ro Try.f8 10).toList.mapM (trO Try.prog 50 (ro Try.f8 10)) = some a8_10 := by kernel_rfl
def a8_11 : List AO := [⟨(some 45), none, .mv (.t 9)⟩,
  ⟨(some 46), none, .mv (.t 12)⟩,
  ⟨(some 47), none, .app 3 1 8 (.t 45) (.t 46)⟩,
  ⟨(some 9), none, .mv (.t 47)⟩]
theorem tr8_11 : (ro Try.f8 11).toList.mapM (trO Try.prog 50 (ro Try.f8 11)) = some a8_11 := by kernel_rfl
def a8_12 : List AO := [⟨(some 48), none, .bin .add (.t 26) (.v (.int .i64 1))⟩,
  ⟨(some 26), none, .mv (.t 48)⟩]
theorem tr8_12 : (ro Try.f8 12).toList.mapM (trO Try.prog 50 (ro Try.f8 12)) = some a8_12 := by kernel_rfl
def a8_13 : List AO := [⟨(some 49), none, .mv (.t 9)⟩,
  ⟨(some 6), none, .mv (.t 49)⟩,
  ⟨(some 7), none, .mv (.v (.int .i64 0))⟩]
theorem tr8_13 : (ro Try.f8 13).toList.mapM (trO Try.prog 50 (ro Try.f8 13)) = some a8_13 := by kernel_rfl
/-- airline/airlinelaw39.big -/
noncomputable def c9 : Code := .seq (.region 0 (ro Try.f9 0) false) (.seq (.seq (.region 1 (ro Try.f9 1) false) (.cond (.tmp 21) (.seq (.region 2 (ro Try.f9 2) false) (.ret)) (.skip))) (.seq (.seq (.region 3 (ro Try.f9 3) false) (.block 0 (.loop (.seq (.seq (.region 4 (ro Try.f9 4) false) (.cond (.tmp 25) (.skip) (.exit 0))) (.seq (.block 1 (.seq (.region 6 (ro Try.f9 6) false) (.cond (.tmp 33) (.seq (.region 7 (ro Try.f9 7) false) (.ret)) (.skip)))) (.region 5 (ro Try.f9 5) false)))))) (.seq (.seq (.region 8 (ro Try.f9 8) false) (.block 2 (.loop (.seq (.seq (.region 9 (ro Try.f9 9) false) (.cond (.tmp 38) (.skip) (.exit 2))) (.seq (.block 3 (.seq (.region 11 (ro Try.f9 11) false) (.cond (.tmp 48) (.seq (.region 12 (ro Try.f9 12) false) (.ret)) (.skip)))) (.region 10 (ro Try.f9 10) false)))))) (.seq (.region 13 (ro Try.f9 13) false) (.ret)))))
theorem body9 : Try.f9.body = some c9 := by kernel_rfl
theorem res9 : Try.f9.results.toList.mapM (trR Try.prog) = some [.t 4] := by kernel_rfl
theorem nt9 : Try.f9.ntmps = 49 := by kernel_rfl
theorem nm9 : (Try.f9.name == "runtime.NumGoroutine") = false := by kernel_rfl
def a9_0 : List AO := [⟨(some 2), none, .box 44 (.t 0)⟩,
  ⟨(some 4), none, .mv (.v (.bool false))⟩]
theorem tr9_0 : (ro Try.f9 0).toList.mapM (trO Try.prog 49 (ro Try.f9 0)) = some a9_0 := by kernel_rfl
def a9_1 : List AO := [⟨(some 7), none, .fld 5 (.t 2)⟩,
  ⟨(some 8), none, .load none (.t 7)⟩,
  ⟨(some 9), none, .len (.t 8)⟩,
  ⟨(some 10), none, .bin .gtr (.t 9) (.v (.int .i64 12))⟩,
  ⟨(some 11), none, .mv (.t 10)⟩,
  ⟨(some 12), some (11, false), .fld 7 (.t 2)⟩,
  ⟨(some 13), some (11, false), .load none (.t 12)⟩,
  ⟨(some 14), some (11, false), .len (.t 13)⟩,
  ⟨(some 15), some (11, false), .bin .gtr (.t 14) (.v (.int .i64 12))⟩,
  ⟨(some 16), none, .pick (.t 11) (.v (.bool true)) (.t 15)⟩,
  ⟨(some 17), none, .mv (.t 16)⟩,
  ⟨(some 18), some (17, false), .mv (.t 1)⟩,
  ⟨(some 19), some (17, false), .len (.t 18)⟩,
  ⟨(some 20), some (17, false), .bin .gtr (.t 19) (.v (.int .i64 20))⟩,
  ⟨(some 21), none, .pick (.t 17) (.v (.bool true)) (.t 20)⟩]
theorem tr9_1 : (ro Try.f9 1).toList.mapM (trO Try.prog 49 (ro Try.f9 1)) = some a9_1 := by kernel_rfl
def a9_2 : List AO := [⟨(some 4), none, .mv (.v (.bool true))⟩]
theorem tr9_2 : (ro Try.f9 2).toList.mapM (trO Try.prog 49 (ro Try.f9 2)) = some a9_2 := by kernel_rfl
def a9_3 : List AO := [⟨(some 5), none, .mv (.v (.int .i64 0))⟩]
theorem tr9_3 : (ro Try.f9 3).toList.mapM (trO Try.prog 49 (ro Try.f9 3)) = some a9_3 := by kernel_rfl
def a9_4 : List AO := [⟨(some 22), none, .mv (.t 5)⟩,
  ⟨(some 23), none, .mv (.t 1)⟩,
  ⟨(some 24), none, .len (.t 23)⟩,
  ⟨(some 25), none, .bin .lss (.t 22) (.t 24)⟩]
theorem tr9_4 : (ro Try.f9 4).toList.mapM (trO Try.prog 49 (ro Try.f9 4)) = some a9_4 := by kernel_rfl
def a9_6 : List AO := [⟨(some 28), none, .mv (.t 1)⟩,
  ⟨(some 29), none, .mv (.t 5)⟩,
  ⟨(some 30), none, .idx 1 (.t 28) (.t 29)⟩,
  ⟨(some 31), none, .load none (.t 30)⟩,
  ⟨(some 32), none, .slen (.t 31)⟩,
  ⟨(some 33), none, .bin .gtr (.t 32) (.v (.int .i64 100))⟩]
theorem tr9_6 : (ro Try.f9 6).toList.mapM (trO Try.prog 49 (ro Try.f9 6)) = some a9_6 := by kernel_rfl
def a9_7 : List AO := [⟨(some 4), none, .mv (.v (.bool true))⟩]
theorem tr9_7 : (ro Try.f9 7).toList.mapM (trO Try.prog 49 (ro Try.f9 7)) = some a9_7 := by kernel_rfl
def a9_5 : List AO := [⟨(some 26), none, .mv (.t 5)⟩,
  ⟨(some 27), none, .bin .add (.t 26) (.v (.int .i64 1))⟩,
  ⟨(some 5), none, .mv (.t 27)⟩]
theorem tr9_5 : (ro Try.f9 5).toList.mapM (trO Try.prog 49 (ro Try.f9 5)) = some a9_5 := by kernel_rfl
def a9_8 : List AO := [⟨(some 6), none, .mv (.v (.int .i64 0))⟩]
theorem tr9_8 : (ro Try.f9 8).toList.mapM (trO Try.prog 49 (ro Try.f9 8)) = some a9_8 := by kernel_rfl
def a9_9 : List AO := [⟨(some 34), none, .mv (.t 6)⟩,
  ⟨(some 35), none, .fld 7 (.t 2)⟩,
  ⟨(some 36), none, .load none (.t 35)⟩,
  ⟨(some 37), none, .len (.t 36)⟩,
  ⟨(some 38), none, .bin .lss (.t 34) (.t 37)⟩]
theorem tr9_9 : (ro Try.f9 9).toList.mapM (trO Try.prog 49 (ro Try.f9 9)) = some a9_9 := by kernel_rfl
def a9_11 : List AO := [⟨(some 41), none, .fld 7 (.t 2)⟩,
  ⟨(some 42), none, .load none (.t 41)⟩,
  ⟨(some 43), none, .mv (.t 6)⟩,
  ⟨(some 44), none, .idx 2 (.t 42) (.t 43)⟩,
  ⟨(some 45), none, .fld 0 (.t 44)⟩,
  ⟨(some 46), none, .load none (.t 45)⟩,
  ⟨(some 47), none, .slen (.t 46)⟩,
  ⟨(some 48), none, .bin .gtr (.t 47) (.v (.int .i64 100))⟩]
theorem tr9_11 : (ro Try.f9 11).toList.mapM (trO Try.prog 49 (ro Try.f9 11)) = some a9_11 := by kernel_rfl
def a9_12 : List AO := [⟨(some 4), none, .mv (.v (.bool true))⟩]
theorem tr9_12 : (ro Try.f9 12).toList.mapM (trO Try.prog 49 (ro Try.f9 12)) = some a9_12 := by kernel_rfl
def a9_10 : List AO := [⟨(some 39), none, .mv (.t 6)⟩,
  ⟨(some 40), none, .bin .add (.t 39) (.v (.int .i64 1))⟩,
  ⟨(some 6), none, .mv (.t 40)⟩]
theorem tr9_10 : (ro Try.f9 10).toList.mapM (trO Try.prog 49 (ro Try.f9 10)) = some a9_10 := by kernel_rfl
def a9_13 : List AO := [⟨(some 4), none, .mv (.v (.bool false))⟩]
theorem tr9_13 : (ro Try.f9 13).toList.mapM (trO Try.prog 49 (ro Try.f9 13)) = some a9_13 := by kernel_rfl
/-- airline/prorate.Shares -/
noncomputable def c10 : Code := .seq (.region 0 (ro Try.f10 0) false) (.seq (.seq (.region 1 (ro Try.f10 1) false) (.cond (.tmp 20) (.seq (.region 2 (ro Try.f10 2) false) (.ret)) (.skip))) (.seq (.region 3 (ro Try.f10 3) false) (.seq (.seq (.region 4 (ro Try.f10 4) false) (.block 0 (.loop (.seq (.region 5 (ro Try.f10 5) false) (.seq (.cond (.tmp 26) (.skip) (.exit 0)) (.seq (.block 1 (.seq (.region 6 (ro Try.f10 6) false) (.seq (.region 7 (ro Try.f10 7) false) (.cond (.tmp 32) (.region 8 (ro Try.f10 8) true) (.skip))))) (.region 9 (ro Try.f10 9) false))))))) (.seq (.region 10 (ro Try.f10 10) false) (.seq (.region 11 (ro Try.f10 11) false) (.seq (.seq (.region 12 (ro Try.f10 12) false) (.block 2 (.loop (.seq (.region 13 (ro Try.f10 13) false) (.seq (.cond (.tmp 58) (.skip) (.exit 2)) (.seq (.block 3 (.seq (.region 14 (ro Try.f10 14) false) (.region 15 (ro Try.f10 15) false))) (.region 16 (ro Try.f10 16) false))))))) (.seq (.region 17 (ro Try.f10 17) false) (.ret))))))))
theorem body10 : Try.f10.body = some c10 := by kernel_rfl
theorem res10 : Try.f10.results.toList.mapM (trR Try.prog) = some [.t 4, .t 5] := by kernel_rfl
theorem nt10 : Try.f10.ntmps = 74 := by kernel_rfl
theorem nm10 : (Try.f10.name == "runtime.NumGoroutine") = false := by kernel_rfl
def a10_0 : List AO := [⟨(some 2), none, .box 44 (.t 0)⟩,
  ⟨(some 4), none, .mv (.v .nils)⟩,
  ⟨(some 5), none, .mv (.v (.int .i64 0))⟩]
theorem tr10_0 : (ro Try.f10 0).toList.mapM (trO Try.prog 74 (ro Try.f10 0)) = some a10_0 := by kernel_rfl
def a10_1 : List AO := [⟨(some 15), none, .mv (.t 1)⟩,
  ⟨(some 16), none, .len (.t 15)⟩,
  ⟨(some 17), none, .fld 5 (.t 2)⟩,
  ⟨(some 18), none, .load none (.t 17)⟩,
  ⟨(some 19), none, .len (.t 18)⟩,
  ⟨(some 20), none, .bin .neq (.t 16) (.t 19)⟩]
theorem tr10_1 : (ro Try.f10 1).toList.mapM (trO Try.prog 74 (ro Try.f10 1)) = some a10_1 := by kernel_rfl
def a10_2 : List AO := [⟨(some 4), none, .mv (.v .nils)⟩,
  ⟨(some 5), none, .mv (.v (.int .i64 2))⟩]
theorem tr10_2 : (ro Try.f10 2).toList.mapM (trO Try.prog 74 (ro Try.f10 2)) = some a10_2 := by kernel_rfl
def a10_3 : List AO := [⟨(some 21), none, .mkmap⟩,
  ⟨(some 6), none, .mv (.t 21)⟩]
theorem tr10_3 : (ro Try.f10 3).toList.mapM (trO Try.prog 74 (ro Try.f10 3)) = some a10_3 := by kernel_rfl
def a10_4 : List AO := [⟨(some 22), none, .fld 5 (.t 2)⟩,
  ⟨(some 23), none, .load none (.t 22)⟩,
  ⟨(some 24), none, .len (.t 23)⟩,
  ⟨(some 25), none, .mv (.v (.int .i64 0))⟩]
theorem tr10_4 : (ro Try.f10 4).toList.mapM (trO Try.prog 74 (ro Try.f10 4)) = some a10_4 := by kernel_rfl
def a10_5 : List AO := [⟨(some 26), none, .bin .lss (.t 25) (.t 24)⟩]
theorem tr10_5 : (ro Try.f10 5).toList.mapM (trO Try.prog 74 (ro Try.f10 5)) = some a10_5 := by kernel_rfl
def a10_6 : List AO := [⟨(some 27), none, .mv (.t 25)⟩,
  ⟨(some 28), none, .idx 11 (.t 23) (.t 25)⟩,
  ⟨(some 29), none, .load (some 11) (.t 28)⟩,
  ⟨(some 8), none, .alloc 57 [(.str []), (.int .i64 0), (.int .i64 0), (.str []), (.str []), (.int .i64 0), (.int .i64 0), (.str []), (.str []), (.int .i64 0), (.int .i64 0)]⟩,
  ⟨(some 7), none, .mv (.t 27)⟩,
  ⟨none, none, .store 11 (.t 8) (.t 29)⟩]
theorem tr10_6 : (ro Try.f10 6).toList.mapM (trO Try.prog 74 (ro Try.f10 6)) = some a10_6 := by kernel_rfl
def a10_7 : List AO := [⟨(some 30), none, .fld 9 (.t 8)⟩,
  ⟨(some 31), none, .load none (.t 30)⟩,
  ⟨(some 32), none, .bin .eql (.t 31) (.v (.int .i64 5))⟩]
theorem tr10_7 : (ro Try.f10 7).toList.mapM (trO Try.prog 74 (ro Try.f10 7)) = some a10_7 := by kernel_rfl
def a10_8 : List AO := [⟨(some 33), none, .mv (.t 6)⟩,
  ⟨(some 34), none, .mv (.t 1)⟩,
  ⟨(some 35), none, .mv (.t 7)⟩,
  ⟨(some 36), none, .idx 1 (.t 34) (.t 35)⟩,
  ⟨(some 37), none, .load none (.t 36)⟩,
  ⟨(some 38), none, .mv (.t 6)⟩,
  ⟨(some 39), none, .mv (.t 1)⟩,
  ⟨(some 40), none, .mv (.t 7)⟩,
  ⟨(some 41), none, .idx 1 (.t 39) (.t 40)⟩,
  ⟨(some 42), none, .load none (.t 41)⟩,
  ⟨(some 43), none, .look 0 false .nils (.t 38) (.t 42)⟩,
  ⟨(some 44), none, .fld 10 (.t 8)⟩,
  ⟨(some 45), none, .load none (.t 44)⟩,
  ⟨(some 46), none, .slc 3 1 false [(.t 45)]⟩,
  ⟨(some 47), none, .app 3 1 8 (.t 43) (.t 46)⟩,
  ⟨none, none, .mset 0 (.t 33) (.t 37) (.t 47)⟩]
theorem tr10_8 : (ro Try.f10 8).toList.mapM (trO Try.prog 74 (ro Try.f10 8)) = some a10_8 := by kernel_rfl
def d10_8 : List (List Nat) := [[], [], [], [1, 2], [1, 2, 3], [], [], [], [6, 7], [6, 7, 8], [5, 6, 7, 8, 9], [], [11], [11, 12], [5, 6, 7, 8, 9, 10, 11, 12, 13], [0, 1, 2, 3, 4, 5, 6, 7, 8, 9, 10, 11, 12, 13, 14]]
theorem ok10_8 : okReg (ro Try.f10 8) a10_8 d10_8 = true := by kernel_rfl
def a10_9 : List AO := [⟨(some 48), none, .bin .add (.t 25) (.v (.int .i64 1))⟩,
  ⟨(some 25), none, .mv (.t 48)⟩]
theorem tr10_9 : (ro Try.f10 9).toList.mapM (trO Try.prog 74 (ro Try.f10 9)) = some a10_9 := by kernel_rfl
def a10_10 : List AO := [⟨(some 50), none, .mv (.t 6)⟩,
  ⟨(some 51), none, .call 19 [(.t 50)]⟩,
  ⟨(some 49), none, .mv (.t 51)⟩,
  ⟨(some 52), none, .ext 0 (.t 49)⟩,
  ⟨(some 53), none, .ext 1 (.t 49)⟩,
  ⟨(some 54), none, .ext 2 (.t 49)⟩,
  ⟨(some 9), none, .mv (.t 52)⟩,
  ⟨(some 10), none, .mv (.t 53)⟩,
  ⟨(some 11), none, .mv (.t 54)⟩]
theorem tr10_10 : (ro Try.f10 10).toList.mapM (trO Try.prog 74 (ro Try.f10 10)) = some a10_10 := by kernel_rfl
def a10_11 : List AO := [⟨(some 12), none, .mv (.v .nils)⟩]
theorem tr10_11 : (ro Try.f10 11).toList.mapM (trO Try.prog 74 (ro Try.f10 11)) = some a10_11 := by kernel_rfl
def a10_12 : List AO := [⟨(some 55), none, .mv (.t 9)⟩,
  ⟨(some 56), none, .len (.t 55)⟩,
  ⟨(some 57), none, .mv (.v (.int .i64 0))⟩]
theorem tr10_12 : (ro Try.f10 12).toList.mapM (trO Try.prog 74 (ro Try.f10 12)) = some a10_12 := by kernel_rfl
def a10_13 : List AO := [⟨(some 58), none, .bin .lss (.t 57) (.t 56)⟩]
theorem tr10_13 : (ro Try.f10 13).toList.mapM (trO Try.prog 74 (ro Try.f10 13)) = some a10_13 := by kernel_rfl
def a10_14 : List AO := [⟨(some 59), none, .mv (.t 57)⟩,
  ⟨(some 60), none, .idx 1 (.t 55) (.t 57)⟩,
  ⟨(some 61), none, .load none (.t 60)⟩,
  ⟨(some 13), none, .mv (.t 59)⟩,
  ⟨(some 14), none, .mv (.t 61)⟩]
theorem tr10_14 : (ro Try.f10 14).toList.mapM (trO Try.prog 74 (ro Try.f10 14)) = some a10_14 := by kernel_rfl
def a10_15 : List AO := [⟨(some 62), none, .mv (.t 12)⟩,
  ⟨(some 63), none, .mv (.t 14)⟩,
  ⟨(some 64), none, .mv (.t 10)⟩,
  ⟨(some 65), none, .mv (.t 13)⟩,
  ⟨(some 66), none, .idx 1 (.t 64) (.t 65)⟩,
  ⟨(some 67), none, .load none (.t 66)⟩,
  ⟨(some 68), none, .build [(.str []), (.int .i64 0)] [(0, 1, (.t 63)), (1, 1, (.t 67))]⟩,
  ⟨(some 69), none, .slc 51 2 false [(.t 68)]⟩,
  ⟨(some 70), none, .app 51 2 24 (.t 62) (.t 69)⟩,
  ⟨(some 12), none, .mv (.t 70)⟩]
theorem tr10_15 : (ro Try.f10 15).toList.mapM (trO Try.prog 74 (ro Try.f10 15)) = some a10_15 := by kernel_rfl
def a10_16 : List AO := [⟨(some 71), none, .bin .add (.t 57) (.v (.int .i64 1))⟩,
  ⟨(some 57), none, .mv (.t 71)⟩]
theorem tr10_16 : (ro Try.f10 16).toList.mapM (trO Try.prog 74 (ro Try.f10 16)) = some a10_16 := by kernel_rfl
def a10_17 : List AO := [⟨(some 72), none, .mv (.t 12)⟩,
  ⟨(some 73), none, .mv (.t 11)⟩,
  ⟨(some 4), none, .mv (.t 72)⟩,
  ⟨(some 5), none, .mv (.t 73)⟩]
theorem tr10_17 : (ro Try.f10 17).toList.mapM (trO Try.prog 74 (ro Try.f10 17)) = some a10_17 := by kernel_rfl
/-- airline/prorate.Taxes -/
noncomputable def c12 : Code := .seq (.region 0 (ro Try.f12 0) false) (.seq (.region 1 (ro Try.f12 1) false) (.seq (.seq (.region 2 (ro Try.f12 2) false) (.block 0 (.loop (.seq (.region 3 (ro Try.f12 3) false) (.seq (.cond (.tmp 19) (.skip) (.exit 0)) (.seq (.block 1 (.seq (.region 4 (ro Try.f12 4) false) (.seq (.region 5 (ro Try.f12 5) false) (.block 2 (.loop (.seq (.region 6 (ro Try.f12 6) false) (.seq (.cond (.tmp 26) (.skip) (.exit 2)) (.seq (.block 3 (.seq (.region 7 (ro Try.f12 7) false) (.region 8 (ro Try.f12 8) true))) (.region 9 (ro Try.f12 9) false))))))))) (.region 10 (ro Try.f12 10) false))))))) (.seq (.region 11 (ro Try.f12 11) false) (.seq (.region 12 (ro Try.f12 12) false) (.seq (.seq (.region 13 (ro Try.f12 13) false) (.block 4 (.loop (.seq (.region 14 (ro Try.f12 14) false) (.seq (.cond (.tmp 51) (.skip) (.exit 4)) (.seq (.block 5 (.seq (.region 15 (ro Try.f12 15) false) (.region 16 (ro Try.f12 16) false))) (.region 17 (ro Try.f12 17) false))))))) (.seq (.region 18 (ro Try.f12 18) false) (.ret)))))))
theorem body12 : Try.f12.body = some c12 := by kernel_rfl
theorem res12 : Try.f12.results.toList.mapM (trR Try.prog) = some [.t 2, .t 3] := by kernel_rfl
theorem nt12 : Try.f12.ntmps = 67 := by kernel_rfl
theorem nm12 : (Try.f12.name == "runtime.NumGoroutine") = false := by kernel_rfl
def a12_0 : List AO := [⟨(some 2), none, .mv (.v .nils)⟩,
  ⟨(some 3), none, .mv (.v (.int .i64 0))⟩]
theorem tr12_0 : (ro Try.f12 0).toList.mapM (trO Try.prog 67 (ro Try.f12 0)) = some a12_0 := by kernel_rfl
def a12_1 : List AO := [⟨(some 15), none, .mkmap⟩,
  ⟨(some 4), none, .mv (.t 15)⟩]
theorem tr12_1 : (ro Try.f12 1).toList.mapM (trO Try.prog 67 (ro Try.f12 1)) = some a12_1 := by kernel_rfl
def a12_2 : List AO := [⟨(some 16), none, .mv (.t 0)⟩,
  ⟨(some 17), none, .len (.t 16)⟩,
  ⟨(some 18), none, .mv (.v (.int .i64 0))⟩]
theorem tr12_2 : (ro Try.f12 2).toList.mapM (trO Try.prog 67 (ro Try.f12 2)) = some a12_2 := by kernel_rfl
def a12_3 : List AO := [⟨(some 19), none, .bin .lss (.t 18) (.t 17)⟩]
theorem tr12_3 : (ro Try.f12 3).toList.mapM (trO Try.prog 67 (ro Try.f12 3)) = some a12_3 := by kernel_rfl
def a12_4 : List AO := [⟨(some 20), none, .idx 10 (.t 16) (.t 18)⟩,
  ⟨(some 21), none, .load (some 10) (.t 20)⟩,
  ⟨(some 6), none, .alloc 44 [(.int .i64 0), (.str []), (.str []), (.str []), (.str []), .nils, (.int .i64 0), .nils, (.int .i64 0), (.int .i64 0)]⟩,
  ⟨none, none, .store 10 (.t 6) (.t 21)⟩]
theorem tr12_4 : (ro Try.f12 4).toList.mapM (trO Try.prog 67 (ro Try.f12 4)) = some a12_4 := by kernel_rfl
def a12_5 : List AO := [⟨(some 22), none, .fld 7 (.t 6)⟩,
  ⟨(some 23), none, .load none (.t 22)⟩,
  ⟨(some 24), none, .len (.t 23)⟩,
  ⟨(some 25), none, .mv (.v (.int .i64 0))⟩]
theorem tr12_5 : (ro Try.f12 5).toList.mapM (trO Try.prog 67 (ro Try.f12 5)) = some a12_5 := by kernel_rfl
def a12_6 : List AO := [⟨(some 26), none, .bin .lss (.t 25) (.t 24)⟩]
theorem tr12_6 : (ro Try.f12 6).toList.mapM (trO Try.prog 67 (ro Try.f12 6)) = some a12_6 := by kernel_rfl
def a12_7 : List AO := [⟨(some 27), none, .idx 2 (.t 23) (.t 25)⟩,
  ⟨(some 28), none, .load (some 2) (.t 27)⟩,
  ⟨(some 8), none, .alloc 62 [(.str []), (.int .i64 0)]⟩,
  ⟨none, none, .store 2 (.t 8) (.t 28)⟩]
theorem tr12_7 : (ro Try.f12 7).toList.mapM (trO Try.prog 67 (ro Try.f12 7)) = some a12_7 := by kernel_rfl
def a12_8 : List AO := [⟨(some 29), none, .mv (.t 4)⟩,
  ⟨(some 30), none, .fld 0 (.t 8)⟩,
  ⟨(some 31), none, .load none (.t 30)⟩,
  ⟨(some 32), none, .mv (.t 4)⟩,
  ⟨(some 33), none, .fld 0 (.t 8)⟩,
  ⟨(some 34), none, .load none (.t 33)⟩,
  ⟨(some 35), none, .look 0 false .nils (.t 32) (.t 34)⟩,
  ⟨(some 36), none, .fld 1 (.t 8)⟩,
  ⟨(some 37), none, .load none (.t 36)⟩,
  ⟨(some 38), none, .slc 3 1 false [(.t 37)]⟩,
  ⟨(some 39), none, .app 3 1 8 (.t 35) (.t 38)⟩,
  ⟨none, none, .mset 0 (.t 29) (.t 31) (.t 39)⟩]
theorem tr12_8 : (ro Try.f12 8).toList.mapM (trO Try.prog 67 (ro Try.f12 8)) = some a12_8 := by kernel_rfl
def d12_8 : List (List Nat) := [[], [], [1], [], [], [4], [3, 4, 5], [], [7], [7, 8], [3, 4, 5, 6, 7, 8, 9], [0, 1, 2, 3, 4, 5, 6, 7, 8, 9, 10]]
theorem ok12_8 : okReg (ro Try.f12 8) a12_8 d12_8 = true := by kernel_rfl
def a12_9 : List AO := [⟨(some 40), none, .bin .add (.t 25) (.v (.int .i64 1))⟩,
  ⟨(some 25), none, .mv (.t 40)⟩]
theorem tr12_9 : (ro Try.f12 9).toList.mapM (trO Try.prog 67 (ro Try.f12 9)) = some a12_9 := by kernel_rfl
def a12_10 : List AO := [⟨(some 41), none, .bin .add (.t 18) (.v (.int .i64 1))⟩,
  ⟨(some 18), none, .mv (.t 41)⟩]
theorem tr12_10 : (ro Try.f12 10).toList.mapM (trO Try.prog 67 (ro Try.f12 10)) = some a12_10 := by kernel_rfl
def a12_11 : List AO := [⟨(some 43), none, .mv (.t 4)⟩,
  ⟨(some 44), none, .call 19 [(.t 43)]⟩,
  ⟨(some 42), none, .mv (.t 44)⟩,
  ⟨(some 45), none, .ext 0 (.t 42)⟩,
  ⟨(some 46), none, .ext 1 (.t 42)⟩,
  ⟨(some 47), none, .ext 2 (.t 42)⟩,
  ⟨(some 9), none, .mv (.t 45)⟩,
  ⟨(some 10), none, .mv (.t 46)⟩,
  ⟨(some 11), none, .mv (.t 47)⟩]
theorem tr12_11 : (ro Try.f12 11).toList.mapM (trO Try.prog 67 (ro Try.f12 11)) = some a12_11 := by kernel_rfl
def a12_12 : List AO := [⟨(some 12), none, .mv (.v .nils)⟩]
theorem tr12_12 : (ro Try.f12 12).toList.mapM (trO Try.prog 67 (ro Try.f12 12)) = some a12_12 := by kernel_rfl
def a12_13 : List AO := [⟨(some 48), none, .mv (.t 9)⟩,
  ⟨(some 49), none, .len (.t 48)⟩,
  ⟨(some 50), none, .mv (.v (.int .i64 0))⟩]
theorem tr12_13 : (ro Try.f12 13).toList.mapM (trO Try.prog 67 (ro Try.f12 13)) = some a12_13 := by kernel_rfl
def a12_14 : List AO := [⟨(some 51), none, .bin .lss (.t 50) (.t 49)⟩]
theorem tr12_14 : (ro Try.f12 14).toList.mapM (trO Try.prog 67 (ro Try.f12 14)) = some a12_14 := by kernel_rfl
def a12_15 : List AO := [⟨(some 52), none, .mv (.t 50)⟩,
  ⟨(some 53), none, .idx 1 (.t 48) (.t 50)⟩,
  ⟨(some 54), none, .load none (.t 53)⟩,
  ⟨(some 13), none, .mv (.t 52)⟩,
  ⟨(some 14), none, .mv (.t 54)⟩]
theorem tr12_15 : (ro Try.f12 15).toList.mapM (trO Try.prog 67 (ro Try.f12 15)) = some a12_15 := by kernel_rfl
def a12_16 : List AO := [⟨(some 55), none, .mv (.t 12)⟩,
  ⟨(some 56), none, .mv (.t 14)⟩,
  ⟨(some 57), none, .mv (.t 10)⟩,
  ⟨(some 58), none, .mv (.t 13)⟩,
  ⟨(some 59), none, .idx 1 (.t 57) (.t 58)⟩,
  ⟨(some 60), none, .load none (.t 59)⟩,
  ⟨(some 61), none, .build [(.str []), (.int .i64 0)] [(0, 1, (.t 56)), (1, 1, (.t 60))]⟩,
  ⟨(some 62), none, .slc 62 2 false [(.t 61)]⟩,
  ⟨(some 63), none, .app 62 2 24 (.t 55) (.t 62)⟩,
  ⟨(some 12), none, .mv (.t 63)⟩]
theorem tr12_16 : (ro Try.f12 16).toList.mapM (trO Try.prog 67 (ro Try.f12 16)) = some a12_16 := by kernel_rfl
def a12_17 : List AO := [⟨(some 64), none, .bin .add (.t 50) (.v (.int .i64 1))⟩,
  ⟨(some 50), none, .mv (.t 64)⟩]
theorem tr12_17 : (ro Try.f12 17).toList.mapM (trO Try.prog 67 (ro Try.f12 17)) = some a12_17 := by kernel_rfl
def a12_18 : List AO := [⟨(some 65), none, .mv (.t 12)⟩,
  ⟨(some 66), none, .mv (.t 11)⟩,
  ⟨(some 2), none, .mv (.t 65)⟩,
  ⟨(some 3), none, .mv (.t 66)⟩]
theorem tr12_18 : (ro Try.f12 18).toList.mapM (trO Try.prog 67 (ro Try.f12 18)) = some a12_18 := by kernel_rfl
/-- airline/airlineref39.Taxes -/
noncomputable def c13 : Code := .seq (.region 0 (ro Try.f13 0) false) (.seq (.region 1 (ro Try.f13 1) false) (.seq (.region 2 (ro Try.f13 2) false) (.seq (.seq (.region 3 (ro Try.f13 3) false) (.block 0 (.loop (.seq (.seq (.region 4 (ro Try.f13 4) false) (.cond (.tmp 17) (.skip) (.exit 0))) (.seq (.block 1 (.seq (.region 6 (ro Try.f13 6) false) (.block 2 (.loop (.seq (.seq (.region 7 (ro Try.f13 7) false) (.cond (.tmp 27) (.skip) (.exit 2))) (.seq (.block 3 (.seq (.region 9 (ro Try.f13 9) false) (.region 10 (ro Try.f13 10) false))) (.region 8 (ro Try.f13 8) false))))))) (.region 5 (ro Try.f13 5) false)))))) (.seq (.region 11 (ro Try.f13 11) false) (.seq (.seq (.region 12 (ro Try.f13 12) false) (.block 4 (.loop (.seq (.seq (.region 13 (ro Try.f13 13) false) (.cond (.tmp 55) (.skip) (.exit 4))) (.seq (.block 5 (.seq (.region 15 (ro Try.f13 15) false) (.seq (.seq (.region 16 (ro Try.f13 16) false) (.block 6 (.loop (.seq (.seq (.region 17 (ro Try.f13 17) false) (.cond (.tmp 61) (.skip) (.exit 6))) (.seq (.block 7 (.seq (.region 19 (ro Try.f13 19) true) (.cond (.tmp 73) (.region 20 (ro Try.f13 20) false) (.skip)))) (.region 18 (ro Try.f13 18) false)))))) (.seq (.region 21 (ro Try.f13 21) false) (.seq (.seq (.region 22 (ro Try.f13 22) false) (.cond (.tmp 88) (.seq (.region 23 (ro Try.f13 23) false) (.ret)) (.skip))) (.region 24 (ro Try.f13 24) false)))))) (.region 14 (ro Try.f13 14) false)))))) (.seq (.region 25 (ro Try.f13 25) false) (.ret)))))))
theorem body13 : Try.f13.body = some c13 := by kernel_rfl
theorem res13 : Try.f13.results.toList.mapM (trR Try.prog) = some [.t 2, .t 3] := by kernel_rfl
theorem nt13 : Try.f13.ntmps = 100 := by kernel_rfl
theorem nm13 : (Try.f13.name == "runtime.NumGoroutine") = false := by kernel_rfl
def a13_0 : List AO := [⟨(some 2), none, .mv (.v .nils)⟩,
  ⟨(some 3), none, .mv (.v (.int .i64 0))⟩]
theorem tr13_0 : (ro Try.f13 0).toList.mapM (trO Try.prog 100 (ro Try.f13 0)) = some a13_0 := by kernel_rfl
def a13_1 : List AO := [⟨(some 4), none, .mv (.v .nils)⟩]
theorem tr13_1 : (ro Try.f13 1).toList.mapM (trO Try.prog 100 (ro Try.f13 1)) = some a13_1 := by kernel_rfl
def a13_2 : List AO := [⟨(some 5), none, .mv (.v .nils)⟩]
theorem tr13_2 : (ro Try.f13 2).toList.mapM (trO Try.prog 100 (ro Try.f13 2)) = some a13_2 := by kernel_rfl
def a13_3 : List AO := [⟨(some 6), none, .mv (.v (.int .i64 0))⟩]
theorem tr13_3 : (ro Try.f13 3).toList.mapM (trO Try.prog 100 (ro Try.f13 3)) = some a13_3 := by kernel_rfl
def a13_4 : List AO := [⟨(some 14), none, .mv (.t 6)⟩,
  ⟨(some 15), none, .mv (.t 0)⟩,
  ⟨(some 16), none, .len (.t 15)⟩,
  ⟨(some 17), none, .bin .lss (.t 14) (.t 16)⟩]
theorem tr13_4 : (ro Try.f13 4).toList.mapM (trO Try.prog 100 (ro Try.f13 4)) = some a13_4 := by kernel_rfl
def a13_6 : List AO := [⟨(some 7), none, .mv (.v (.int .i64 0))⟩]
theorem tr13_6 : (ro Try.f13 6).toList.mapM (trO Try.prog 100 (ro Try.f13 6)) = some a13_6 := by kernel_rfl
def a13_7 : List AO := [⟨(some 20), none, .mv (.t 7)⟩,
  ⟨(some 21), none, .mv (.t 0)⟩,
  ⟨(some 22), none, .mv (.t 6)⟩,
  ⟨(some 23), none, .idx 10 (.t 21) (.t 22)⟩,
  ⟨(some 24), none, .fld 7 (.t 23)⟩,
  ⟨(some 25), none, .load none (.t 24)⟩,
  ⟨(some 26), none, .len (.t 25)⟩,
  ⟨(some 27), none, .bin .lss (.t 20) (.t 26)⟩]
theorem tr13_7 : (ro Try.f13 7).toList.mapM (trO Try.prog 100 (ro Try.f13 7)) = some a13_7 := by kernel_rfl
def a13_9 : List AO := [⟨(some 30), none, .mv (.t 4)⟩,
  ⟨(some 31), none, .mv (.t 0)⟩,
  ⟨(some 32), none, .mv (.t 6)⟩,
  ⟨(some 33), none, .idx 10 (.t 31) (.t 32)⟩,
  ⟨(some 34), none, .fld 7 (.t 33)⟩,
  ⟨(some 35), none, .load none (.t 34)⟩,
  ⟨(some 36), none, .mv (.t 7)⟩,
  ⟨(some 37), none, .idx 2 (.t 35) (.t 36)⟩,
  ⟨(some 38), none, .fld 0 (.t 37)⟩,
  ⟨(some 39), none, .load none (.t 38)⟩,
  ⟨(some 40), none, .call 20 [(.t 30), (.t 39)]⟩,
  ⟨(some 4), none, .mv (.t 40)⟩]
theorem tr13_9 : (ro Try.f13 9).toList.mapM (trO Try.prog 100 (ro Try.f13 9)) = some a13_9 := by kernel_rfl
def a13_10 : List AO := [⟨(some 41), none, .mv (.t 5)⟩,
  ⟨(some 42), none, .mv (.t 0)⟩,
  ⟨(some 43), none, .mv (.t 6)⟩,
  ⟨(some 44), none, .idx 10 (.t 42) (.t 43)⟩,
  ⟨(some 45), none, .fld 7 (.t 44)⟩,
  ⟨(some 46), none, .load none (.t 45)⟩,
  ⟨(some 47), none, .mv (.t 7)⟩,
  ⟨(some 48), none, .idx 2 (.t 46) (.t 47)⟩,
  ⟨(some 49), none, .load (some 2) (.t 48)⟩,
  ⟨(some 50), none, .slc 62 2 false [(.t 49)]⟩,
  ⟨(some 51), none, .app 62 2 24 (.t 41) (.t 50)⟩,
  ⟨(some 5), none, .mv (.t 51)⟩]
theorem tr13_10 : (ro Try.f13 10).toList.mapM (trO Try.prog 100 (ro Try.f13 10)) = some a13_10 := by kernel_rfl
def a13_8 : List AO := [⟨(some 28), none, .mv (.t 7)⟩,
  ⟨(some 29), none, .bin .add (.t 28) (.v (.int .i64 1))⟩,
  ⟨(some 7), none, .mv (.t 29)⟩]
theorem tr13_8 : (ro Try.f13 8).toList.mapM (trO Try.prog 100 (ro Try.f13 8)) = some a13_8 := by kernel_rfl
def a13_5 : List AO := [⟨(some 18), none, .mv (.t 6)⟩,
  ⟨(some 19), none, .bin .add (.t 18) (.v (.int .i64 1))⟩,
  ⟨(some 6), none, .mv (.t 19)⟩]
theorem tr13_5 : (ro Try.f13 5).toList.mapM (trO Try.prog 100 (ro Try.f13 5)) = some a13_5 := by kernel_rfl
def a13_11 : List AO := [⟨(some 8), none, .mv (.v .nils)⟩]
theorem tr13_11 : (ro Try.f13 11).toList.mapM (trO Try.prog 100 (ro Try.f13 11)) = some a13_11 := by kernel_rfl
def a13_12 : List AO := [⟨(some 9), none, .mv (.v (.int .i64 0))⟩]
theorem tr13_12 : (ro Try.f13 12).toList.mapM (trO Try.prog 100 (ro Try.f13 12)) = some a13_12 := by kernel_rfl
def a13_13 : List AO := [⟨(some 52), none, .mv (.t 9)⟩,
  ⟨(some 53), none, .mv (.t 4)⟩,
  ⟨(some 54), none, .len (.t 53)⟩,
  ⟨(some 55), none, .bin .lss (.t 52) (.t 54)⟩]
theorem tr13_13 : (ro Try.f13 13).toList.mapM (trO Try.prog 100 (ro Try.f13 13)) = some a13_13 := by kernel_rfl
def a13_15 : List AO := [⟨(some 10), none, .mv (.v .nils)⟩]
theorem tr13_15 : (ro Try.f13 15).toList.mapM (trO Try.prog 100 (ro Try.f13 15)) = some a13_15 := by kernel_rfl
def a13_16 : List AO := [⟨(some 11), none, .mv (.v (.int .i64 0))⟩]
theorem tr13_16 : (ro Try.f13 16).toList.mapM (trO Try.prog 100 (ro Try.f13 16)) = some a13_16 := by kernel_rfl
def a13_17 : List AO := [⟨(some 58), none, .mv (.t 11)⟩,
  ⟨(some 59), none, .mv (.t 5)⟩,
  ⟨(some 60), none, .len (.t 59)⟩,
  ⟨(some 61), none, .bin .lss (.t 58) (.t 60)⟩]
theorem tr13_17 : (ro Try.f13 17).toList.mapM (trO Try.prog 100 (ro Try.f13 17)) = some a13_17 := by kernel_rfl
def a13_19 : List AO := [⟨(some 64), none, .mv (.t 5)⟩,
  ⟨(some 65), none, .mv (.t 11)⟩,
  ⟨(some 66), none, .idx 2 (.t 64) (.t 65)⟩,
  ⟨(some 67), none, .fld 0 (.t 66)⟩,
  ⟨(some 68), none, .load none (.t 67)⟩,
  ⟨(some 69), none, .mv (.t 4)⟩,
  ⟨(some 70), none, .mv (.t 9)⟩,
  ⟨(some 71), none, .idx 1 (.t 69) (.t 70)⟩,
  ⟨(some 72), none, .load none (.t 71)⟩,
  ⟨(some 73), none, .bin .eql (.t 68) (.t 72)⟩]
theorem tr13_19 : (ro Try.f13 19).toList.mapM (trO Try.prog 100 (ro Try.f13 19)) = some a13_19 := by kernel_rfl
def d13_19 : List (List Nat) := [[], [], [0, 1], [0, 1, 2], [0, 1, 2, 3], [], [], [5, 6], [5, 6, 7], [0, 1, 2, 3, 4, 5, 6, 7, 8]]
theorem ok13_19 : okReg (ro Try.f13 19) a13_19 d13_19 = true := by kernel_rfl
def a13_20 : List AO := [⟨(some 74), none, .mv (.t 10)⟩,
  ⟨(some 75), none, .mv (.t 5)⟩,
  ⟨(some 76), none, .mv (.t 11)⟩,
  ⟨(some 77), none, .idx 2 (.t 75) (.t 76)⟩,
  ⟨(some 78), none, .fld 1 (.t 77)⟩,
  ⟨(some 79), none, .load none (.t 78)⟩,
  ⟨(some 80), none, .slc 3 1 false [(.t 79)]⟩,
  ⟨(some 81), none, .app 3 1 8 (.t 74) (.t 80)⟩,
  ⟨(some 10), none, .mv (.t 81)⟩]
theorem tr13_20 : (ro Try.f13 20).toList.mapM (trO Try.prog 100 (ro Try.f13 20)) = some a13_20 := by kernel_rfl
def a13_18 : List AO := [⟨(some 62), none, .mv (.t 11)⟩,
  ⟨(some 63), none, .bin .add (.t 62) (.v (.int .i64 1))⟩,
  ⟨(some 11), none, .mv (.t 63)⟩]
theorem tr13_18 : (ro Try.f13 18).toList.mapM (trO Try.prog 100 (ro Try.f13 18)) = some a13_18 := by kernel_rfl
def a13_21 : List AO := [⟨(some 83), none, .mv (.t 10)⟩,
  ⟨(some 84), none, .call 21 [(.t 83)]⟩,
  ⟨(some 82), none, .mv (.t 84)⟩,
  ⟨(some 85), none, .ext 0 (.t 82)⟩,
  ⟨(some 86), none, .ext 1 (.t 82)⟩,
  ⟨(some 12), none, .mv (.t 85)⟩,
  ⟨(some 13), none, .mv (.t 86)⟩]
theorem tr13_21 : (ro Try.f13 21).toList.mapM (trO Try.prog 100 (ro Try.f13 21)) = some a13_21 := by kernel_rfl
def a13_22 : List AO := [⟨(some 87), none, .mv (.t 13)⟩,
  ⟨(some 88), none, .bin .neq (.t 87) (.v (.int .i64 0))⟩]
theorem tr13_22 : (ro Try.f13 22).toList.mapM (trO Try.prog 100 (ro Try.f13 22)) = some a13_22 := by kernel_rfl
def a13_23 : List AO := [⟨(some 89), none, .mv (.t 13)⟩,
  ⟨(some 2), none, .mv (.v .nils)⟩,
  ⟨(some 3), none, .mv (.t 89)⟩]
theorem tr13_23 : (ro Try.f13 23).toList.mapM (trO Try.prog 100 (ro Try.f13 23)) = some a13_23 := by kernel_rfl
def a13_24 : List AO := [⟨(some 90), none, .mv (.t 8)⟩,
  ⟨(some 91), none, .mv (.t 4)⟩,
  ⟨(some 92), none, .mv (.t 9)⟩,
  ⟨(some 93), none, .idx 1 (.t 91) (.t 92)⟩,
  ⟨(some 94), none, .load none (.t 93)⟩,
  ⟨(some 95), none, .mv (.t 12)⟩,
  ⟨(some 96), none, .build [(.str []), (.int .i64 0)] [(0, 1, (.t 94)), (1, 1, (.t 95))]⟩,
  ⟨(some 97), none, .slc 62 2 false [(.t 96)]⟩,
  ⟨(some 98), none, .app 62 2 24 (.t 90) (.t 97)⟩,
  ⟨(some 8), none, .mv (.t 98)⟩]
theorem tr13_24 : (ro Try.f13 24).toList.mapM (trO Try.prog 100 (ro Try.f13 24)) = some a13_24 := by kernel_rfl
def a13_14 : List AO := [⟨(some 56), none, .mv (.t 9)⟩,
  ⟨(some 57), none, .bin .add (.t 56) (.v (.int .i64 1))⟩,
  ⟨(some 9), none, .mv (.t 57)⟩]
theorem tr13_14 : (ro Try.f13 14).toList.mapM (trO Try.prog 100 (ro Try.f13 14)) = some a13_14 := by kernel_rfl
def a13_25 : List AO := [⟨(some 99), none, .mv (.t 8)⟩,
  ⟨(some 2), none, .mv (.t 99)⟩,
  ⟨(some 3), none, .mv (.v (.int .i64 0))⟩]
theorem tr13_25 : (ro Try.f13 25).toList.mapM (trO Try.prog 100 (ro Try.f13 25)) = some a13_25 := by kernel_rfl
/-- airline/airlineref13.Same -/
noncomputable def c15 : Code := .seq (.region 0 (ro Try.f15 0) false) (.seq (.seq (.region 1 (ro Try.f15 1) false) (.cond (.tmp 10) (.seq (.region 2 (ro Try.f15 2) false) (.ret)) (.skip))) (.seq (.seq (.region 3 (ro Try.f15 3) false) (.block 0 (.loop (.seq (.seq (.region 4 (ro Try.f15 4) false) (.cond (.tmp 14) (.skip) (.exit 0))) (.seq (.block 1 (.seq (.region 6 (ro Try.f15 6) true) (.cond (.tmp 25) (.seq (.region 7 (ro Try.f15 7) false) (.ret)) (.skip)))) (.region 5 (ro Try.f15 5) false)))))) (.seq (.region 8 (ro Try.f15 8) false) (.ret))))
theorem body15 : Try.f15.body = some c15 := by kernel_rfl
theorem res15 : Try.f15.results.toList.mapM (trR Try.prog) = some [.t 4] := by kernel_rfl
theorem nt15 : Try.f15.ntmps = 26 := by kernel_rfl
theorem nm15 : (Try.f15.name == "runtime.NumGoroutine") = false := by kernel_rfl
def a15_0 : List AO := [⟨(some 4), none, .mv (.v (.bool false))⟩]
theorem tr15_0 : (ro Try.f15 0).toList.mapM (trO Try.prog 26 (ro Try.f15 0)) = some a15_0 := by kernel_rfl
def a15_1 : List AO := [⟨(some 6), none, .mv (.t 0)⟩,
  ⟨(some 7), none, .len (.t 6)⟩,
  ⟨(some 8), none, .mv (.t 1)⟩,
  ⟨(some 9), none, .len (.t 8)⟩,
  ⟨(some 10), none, .bin .neq (.t 7) (.t 9)⟩]
theorem tr15_1 : (ro Try.f15 1).toList.mapM (trO Try.prog 26 (ro Try.f15 1)) = some a15_1 := by kernel_rfl
def a15_2 : List AO := [⟨(some 4), none, .mv (.v (.bool false))⟩]
theorem tr15_2 : (ro Try.f15 2).toList.mapM (trO Try.prog 26 (ro Try.f15 2)) = some a15_2 := by kernel_rfl
def a15_3 : List AO := [⟨(some 5), none, .mv (.v (.int .i64 0))⟩]
theorem tr15_3 : (ro Try.f15 3).toList.mapM (trO Try.prog 26 (ro Try.f15 3)) = some a15_3 := by kernel_rfl
def a15_4 : List AO := [⟨(some 11), none, .mv (.t 5)⟩,
  ⟨(some 12), none, .mv (.t 0)⟩,
  ⟨(some 13), none, .len (.t 12)⟩,
  ⟨(some 14), none, .bin .lss (.t 11) (.t 13)⟩]
theorem tr15_4 : (ro Try.f15 4).toList.mapM (trO Try.prog 26 (ro Try.f15 4)) = some a15_4 := by kernel_rfl
def a15_6 : List AO := [⟨(some 17), none, .mv (.t 0)⟩,
  ⟨(some 18), none, .mv (.t 5)⟩,
  ⟨(some 19), none, .idx 1 (.t 17) (.t 18)⟩,
  ⟨(some 20), none, .load none (.t 19)⟩,
  ⟨(some 21), none, .mv (.t 1)⟩,
  ⟨(some 22), none, .mv (.t 5)⟩,
  ⟨(some 23), none, .idx 1 (.t 21) (.t 22)⟩,
  ⟨(some 24), none, .load none (.t 23)⟩,
  ⟨(some 25), none, .bin .neq (.t 20) (.t 24)⟩]
theorem tr15_6 : (ro Try.f15 6).toList.mapM (trO Try.prog 26 (ro Try.f15 6)) = some a15_6 := by kernel_rfl
def d15_6 : List (List Nat) := [[], [], [0, 1], [0, 1, 2], [], [], [4, 5], [4, 5, 6], [0, 1, 2, 3, 4, 5, 6, 7]]
theorem ok15_6 : okReg (ro Try.f15 6) a15_6 d15_6 = true := by kernel_rfl
def a15_7 : List AO := [⟨(some 4), none, .mv (.v (.bool false))⟩]
theorem tr15_7 : (ro Try.f15 7).toList.mapM (trO Try.prog 26 (ro Try.f15 7)) = some a15_7 := by kernel_rfl
def a15_5 : List AO := [⟨(some 15), none, .mv (.t 5)⟩,
  ⟨(some 16), none, .bin .add (.t 15) (.v (.int .i64 1))⟩,
  ⟨(some 5), none, .mv (.t 16)⟩]
theorem tr15_5 : (ro Try.f15 5).toList.mapM (trO Try.prog 26 (ro Try.f15 5)) = some a15_5 := by kernel_rfl
def a15_8 : List AO := [⟨(some 4), none, .mv (.v (.bool true))⟩]
theorem tr15_8 : (ro Try.f15 8).toList.mapM (trO Try.prog 26 (ro Try.f15 8)) = some a15_8 := by kernel_rfl
/-- airline/prorate.divides -/
noncomputable def c16 : Code := .seq (.region 0 (ro Try.f16 0) false) (.seq (.region 1 (ro Try.f16 1) false) (.seq (.seq (.region 2 (ro Try.f16 2) false) (.block 0 (.loop (.seq (.region 3 (ro Try.f16 3) false) (.seq (.cond (.tmp 11) (.skip) (.exit 0)) (.seq (.block 1 (.seq (.region 4 (ro Try.f16 4) false) (.seq (.seq (.region 5 (ro Try.f16 5) false) (.cond (.tmp 29) (.seq (.region 6 (ro Try.f16 6) false) (.ret)) (.skip))) (.region 7 (ro Try.f16 7) false)))) (.region 8 (ro Try.f16 8) false))))))) (.seq (.region 9 (ro Try.f16 9) false) (.ret))))
theorem body16 : Try.f16.body = some c16 := by kernel_rfl
theorem res16 : Try.f16.results.toList.mapM (trR Try.prog) = some [.t 4] := by kernel_rfl
theorem nt16 : Try.f16.ntmps = 36 := by kernel_rfl
theorem nm16 : (Try.f16.name == "runtime.NumGoroutine") = false := by kernel_rfl
def a16_0 : List AO := [⟨(some 4), none, .mv (.v (.bool false))⟩]
theorem tr16_0 : (ro Try.f16 0).toList.mapM (trO Try.prog 36 (ro Try.f16 0)) = some a16_0 := by kernel_rfl
def a16_1 : List AO := [⟨(some 5), none, .mv (.v (.int .i64 0))⟩]
theorem tr16_1 : (ro Try.f16 1).toList.mapM (trO Try.prog 36 (ro Try.f16 1)) = some a16_1 := by kernel_rfl
def a16_2 : List AO := [⟨(some 8), none, .mv (.t 0)⟩,
  ⟨(some 9), none, .len (.t 8)⟩,
  ⟨(some 10), none, .mv (.v (.int .i64 0))⟩]
theorem tr16_2 : (ro Try.f16 2).toList.mapM (trO Try.prog 36 (ro Try.f16 2)) = some a16_2 := by kernel_rfl
def a16_3 : List AO := [⟨(some 11), none, .bin .lss (.t 10) (.t 9)⟩]
theorem tr16_3 : (ro Try.f16 3).toList.mapM (trO Try.prog 36 (ro Try.f16 3)) = some a16_3 := by kernel_rfl
def a16_4 : List AO := [⟨(some 12), none, .idx 4 (.t 8) (.t 10)⟩,
  ⟨(some 13), none, .load (some 4) (.t 12)⟩,
  ⟨(some 7), none, .alloc 39 [(.int .i64 0), (.int .i64 0), (.int .i64 0), (.int .i64 0)]⟩,
  ⟨none, none, .store 4 (.t 7) (.t 13)⟩]
theorem tr16_4 : (ro Try.f16 4).toList.mapM (trO Try.prog 36 (ro Try.f16 4)) = some a16_4 := by kernel_rfl
def a16_5 : List AO := [⟨(some 14), none, .fld 0 (.t 7)⟩,
  ⟨(some 15), none, .load none (.t 14)⟩,
  ⟨(some 16), none, .mv (.t 5)⟩,
  ⟨(some 17), none, .bin .neq (.t 15) (.t 16)⟩,
  ⟨(some 18), none, .mv (.t 17)⟩,
  ⟨(some 19), some (18, false), .fld 1 (.t 7)⟩,
  ⟨(some 20), some (18, false), .load none (.t 19)⟩,
  ⟨(some 21), some (18, false), .mv (.t 5)⟩,
  ⟨(some 22), some (18, false), .bin .leq (.t 20) (.t 21)⟩,
  ⟨(some 23), none, .pick (.t 18) (.v (.bool true)) (.t 22)⟩,
  ⟨(some 24), none, .mv (.t 23)⟩,
  ⟨(some 25), some (24, false), .fld 1 (.t 7)⟩,
  ⟨(some 26), some (24, false), .load none (.t 25)⟩,
  ⟨(some 27), some (24, false), .mv (.t 1)⟩,
  ⟨(some 28), some (24, false), .bin .gtr (.t 26) (.t 27)⟩,
  ⟨(some 29), none, .pick (.t 24) (.v (.bool true)) (.t 28)⟩]
theorem tr16_5 : (ro Try.f16 5).toList.mapM (trO Try.prog 36 (ro Try.f16 5)) = some a16_5 := by kernel_rfl
def a16_6 : List AO := [⟨(some 4), none, .mv (.v (.bool false))⟩]
theorem tr16_6 : (ro Try.f16 6).toList.mapM (trO Try.prog 36 (ro Try.f16 6)) = some a16_6 := by kernel_rfl
def a16_7 : List AO := [⟨(some 30), none, .fld 1 (.t 7)⟩,
  ⟨(some 31), none, .load none (.t 30)⟩,
  ⟨(some 5), none, .mv (.t 31)⟩]
theorem tr16_7 : (ro Try.f16 7).toList.mapM (trO Try.prog 36 (ro Try.f16 7)) = some a16_7 := by kernel_rfl
def a16_8 : List AO := [⟨(some 32), none, .bin .add (.t 10) (.v (.int .i64 1))⟩,
  ⟨(some 10), none, .mv (.t 32)⟩]
theorem tr16_8 : (ro Try.f16 8).toList.mapM (trO Try.prog 36 (ro Try.f16 8)) = some a16_8 := by kernel_rfl
def a16_9 : List AO := [⟨(some 33), none, .mv (.t 5)⟩,
  ⟨(some 34), none, .mv (.t 1)⟩,
  ⟨(some 35), none, .bin .eql (.t 33) (.t 34)⟩,
  ⟨(some 4), none, .mv (.t 35)⟩]
theorem tr16_9 : (ro Try.f16 9).toList.mapM (trO Try.prog 36 (ro Try.f16 9)) = some a16_9 := by kernel_rfl
/-- airline/prorate.Weights -/
noncomputable def c17 : Code := .seq (.region 0 (ro Try.f17 0) false) (.seq (.region 1 (ro Try.f17 1) false) (.seq (.seq (.region 2 (ro Try.f17 2) false) (.block 0 (.loop (.seq (.region 3 (ro Try.f17 3) false) (.seq (.cond (.tmp 16) (.skip) (.exit 0)) (.seq (.block 1 (.seq (.region 4 (ro Try.f17 4) false) (.seq (.region 5 (ro Try.f17 5) false) (.seq (.seq (.region 6 (ro Try.f17 6) false) (.cond (.tmp 35) (.region 7 (ro Try.f17 7) false) (.skip))) (.region 8 (ro Try.f17 8) false))))) (.region 9 (ro Try.f17 9) false))))))) (.seq (.region 10 (ro Try.f17 10) false) (.ret))))
theorem body17 : Try.f17.body = some c17 := by kernel_rfl
theorem res17 : Try.f17.results.toList.mapM (trR Try.prog) = some [.t 4] := by kernel_rfl
theorem nt17 : Try.f17.ntmps = 42 := by kernel_rfl
theorem nm17 : (Try.f17.name == "runtime.NumGoroutine") = false := by kernel_rfl
def a17_0 : List AO := [⟨(some 2), none, .box 25 (.t 0)⟩,
  ⟨(some 4), none, .mv (.v .nils)⟩]
theorem tr17_0 : (ro Try.f17 0).toList.mapM (trO Try.prog 42 (ro Try.f17 0)) = some a17_0 := by kernel_rfl
def a17_1 : List AO := [⟨(some 10), none, .mv (.t 1)⟩,
  ⟨(some 11), none, .len (.t 10)⟩,
  ⟨(some 12), none, .mks 3 1 8 [(.int .i64 0)] (.v (.int .i64 0)) (.t 11)⟩,
  ⟨(some 5), none, .mv (.t 12)⟩]
theorem tr17_1 : (ro Try.f17 1).toList.mapM (trO Try.prog 42 (ro Try.f17 1)) = some a17_1 := by kernel_rfl
def a17_2 : List AO := [⟨(some 13), none, .mv (.t 1)⟩,
  ⟨(some 14), none, .len (.t 13)⟩,
  ⟨(some 15), none, .mv (.v (.int .i64 0))⟩]
theorem tr17_2 : (ro Try.f17 2).toList.mapM (trO Try.prog 42 (ro Try.f17 2)) = some a17_2 := by kernel_rfl
def a17_3 : List AO := [⟨(some 16), none, .bin .lss (.t 15) (.t 14)⟩]
theorem tr17_3 : (ro Try.f17 3).toList.mapM (trO Try.prog 42 (ro Try.f17 3)) = some a17_3 := by kernel_rfl
def a17_4 : List AO := [⟨(some 17), none, .idx 8 (.t 13) (.t 15)⟩,
  ⟨(some 18), none, .load (some 8) (.t 17)⟩,
  ⟨(some 7), none, .alloc 55 [(.str []), (.int .i64 0), (.int .i64 0), (.str []), (.str []), (.int .i64 0), (.int .i64 0), (.str [])]⟩,
  ⟨none, none, .store 8 (.t 7) (.t 18)⟩]
theorem tr17_4 : (ro Try.f17 4).toList.mapM (trO Try.prog 42 (ro Try.f17 4)) = some a17_4 := by kernel_rfl
def a17_5 : List AO := [⟨(some 20), none, .load (some 2) (.t 2)⟩,
  ⟨(some 21), none, .fld 0 (.t 7)⟩,
  ⟨(some 22), none, .fld 3 (.t 21)⟩,
  ⟨(some 23), none, .load none (.t 22)⟩,
  ⟨(some 24), none, .fld 0 (.t 7)⟩,
  ⟨(some 25), none, .fld 4 (.t 24)⟩,
  ⟨(some 26), none, .load none (.t 25)⟩,
  ⟨(some 27), none, .call 25 [(.t 20), (.t 23), (.t 26)]⟩,
  ⟨(some 19), none, .mv (.t 27)⟩,
  ⟨(some 28), none, .ext 0 (.t 19)⟩,
  ⟨(some 29), none, .ext 1 (.t 19)⟩,
  ⟨(some 8), none, .mv (.t 28)⟩,
  ⟨(some 9), none, .mv (.t 29)⟩]
theorem tr17_5 : (ro Try.f17 5).toList.mapM (trO Try.prog 42 (ro Try.f17 5)) = some a17_5 := by kernel_rfl
def a17_6 : List AO := [⟨(some 30), none, .mv (.t 9)⟩,
  ⟨(some 31), none, .bin .neq (.t 30) (.v (.int .i64 0))⟩,
  ⟨(some 32), none, .mv (.t 31)⟩,
  ⟨(some 33), some (32, false), .mv (.t 8)⟩,
  ⟨(some 34), some (32, false), .bin .eql (.t 33) (.v (.int .i64 0))⟩,
  ⟨(some 35), none, .pick (.t 32) (.v (.bool true)) (.t 34)⟩]
theorem tr17_6 : (ro Try.f17 6).toList.mapM (trO Try.prog 42 (ro Try.f17 6)) = some a17_6 := by kernel_rfl
def a17_7 : List AO := [⟨(some 8), none, .mv (.v (.int .i64 1))⟩]
theorem tr17_7 : (ro Try.f17 7).toList.mapM (trO Try.prog 42 (ro Try.f17 7)) = some a17_7 := by kernel_rfl
def a17_8 : List AO := [⟨(some 36), none, .mv (.t 5)⟩,
  ⟨(some 37), none, .mv (.t 8)⟩,
  ⟨(some 38), none, .slc 3 1 false [(.t 37)]⟩,
  ⟨(some 39), none, .app 3 1 8 (.t 36) (.t 38)⟩,
  ⟨(some 5), none, .mv (.t 39)⟩]
theorem tr17_8 : (ro Try.f17 8).toList.mapM (trO Try.prog 42 (ro Try.f17 8)) = some a17_8 := by kernel_rfl
def a17_9 : List AO := [⟨(some 40), none, .bin .add (.t 15) (.v (.int .i64 1))⟩,
  ⟨(some 15), none, .mv (.t 40)⟩]
theorem tr17_9 : (ro Try.f17 9).toList.mapM (trO Try.prog 42 (ro Try.f17 9)) = some a17_9 := by kernel_rfl
def a17_10 : List AO := [⟨(some 41), none, .mv (.t 5)⟩,
  ⟨(some 4), none, .mv (.t 41)⟩]
theorem tr17_10 : (ro Try.f17 10).toList.mapM (trO Try.prog 42 (ro Try.f17 10)) = some a17_10 := by kernel_rfl
/-- airline/money.Split -/
noncomputable def c18 : Code := .seq (.region 0 (ro Try.f18 0) false) (.seq (.region 1 (ro Try.f18 1) false) (.seq (.seq (.region 2 (ro Try.f18 2) false) (.cond (.tmp 28) (.seq (.region 3 (ro Try.f18 3) false) (.ret)) (.skip))) (.seq (.seq (.region 4 (ro Try.f18 4) false) (.cond (.tmp 36) (.seq (.region 5 (ro Try.f18 5) false) (.ret)) (.skip))) (.seq (.region 6 (ro Try.f18 6) false) (.seq (.seq (.region 7 (ro Try.f18 7) false) (.cond (.tmp 41) (.region 8 (ro Try.f18 8) false) (.skip))) (.seq (.region 9 (ro Try.f18 9) true) (.seq (.region 10 (ro Try.f18 10) false) (.seq (.seq (.region 11 (ro Try.f18 11) false) (.block 0 (.loop (.seq (.region 12 (ro Try.f18 12) false) (.seq (.cond (.tmp 52) (.skip) (.exit 0)) (.seq (.block 1 (.seq (.region 13 (ro Try.f18 13) false) (.seq (.region 14 (ro Try.f18 14) false) (.seq (.region 15 (ro Try.f18 15) false) (.region 16 (ro Try.f18 16) false))))) (.region 17 (ro Try.f18 17) false))))))) (.seq (.region 18 (ro Try.f18 18) false) (.seq (.seq (.region 19 (ro Try.f18 19) false) (.block 2 (.loop (.seq (.region 20 (ro Try.f18 20) false) (.seq (.cond (.tmp 83) (.skip) (.exit 2)) (.seq (.block 3 (.seq (.region 21 (ro Try.f18 21) false) (.region 22 (ro Try.f18 22) false))) (.region 23 (ro Try.f18 23) false))))))) (.seq (.region 24 (ro Try.f18 24) false) (.seq (.seq (.region 25 (ro Try.f18 25) false) (.block 4 (.loop (.seq (.region 26 (ro Try.f18 26) false) (.seq (.cond (.tmp 97) (.skip) (.exit 4)) (.seq (.block 5 (.seq (.region 27 (ro Try.f18 27) false) (.seq (.region 28 (ro Try.f18 28) false) (.cond (.tmp 101) (.region 29 (ro Try.f18 29) false) (.skip))))) (.region 30 (ro Try.f18 30) false))))))) (.seq (.region 31 (ro Try.f18 31) false) (.ret))))))))))))))
theorem body18 : Try.f18.body = some c18 := by kernel_rfl
theorem res18 : Try.f18.results.toList.mapM (trR Try.prog) = some [.t 4, .t 5] := by kernel_rfl
theorem nt18 : Try.f18.ntmps = 107 := by kernel_rfl
theorem nm18 : (Try.f18.name == "runtime.NumGoroutine") = false := by kernel_rfl
def a18_0 : List AO := [⟨(some 4), none, .mv (.v .nils)⟩,
  ⟨(some 5), none, .mv (.v (.int .i64 0))⟩]
theorem tr18_0 : (ro Try.f18 0).toList.mapM (trO Try.prog 107 (ro Try.f18 0)) = some a18_0 := by kernel_rfl
def a18_1 : List AO := [⟨(some 23), none, .mv (.t 1)⟩,
  ⟨(some 24), none, .call 26 [(.t 23)]⟩,
  ⟨(some 22), none, .mv (.t 24)⟩,
  ⟨(some 25), none, .ext 0 (.t 22)⟩,
  ⟨(some 26), none, .ext 1 (.t 22)⟩,
  ⟨(some 6), none, .mv (.t 25)⟩,
  ⟨(some 7), none, .mv (.t 26)⟩]
theorem tr18_1 : (ro Try.f18 1).toList.mapM (trO Try.prog 107 (ro Try.f18 1)) = some a18_1 := by kernel_rfl
def a18_2 : List AO := [⟨(some 27), none, .mv (.t 7)⟩,
  ⟨(some 28), none, .bin .neq (.t 27) (.v (.int .i64 0))⟩]
theorem tr18_2 : (ro Try.f18 2).toList.mapM (trO Try.prog 107 (ro Try.f18 2)) = some a18_2 := by kernel_rfl
def a18_3 : List AO := [⟨(some 29), none, .mv (.t 7)⟩,
  ⟨(some 4), none, .mv (.v .nils)⟩,
  ⟨(some 5), none, .mv (.t 29)⟩]
theorem tr18_3 : (ro Try.f18 3).toList.mapM (trO Try.prog 107 (ro Try.f18 3)) = some a18_3 := by kernel_rfl
def a18_4 : List AO := [⟨(some 30), none, .mv (.t 0)⟩,
  ⟨(some 31), none, .call 27 [(.t 30)]⟩,
  ⟨(some 32), none, .un .not (.t 31)⟩,
  ⟨(some 33), none, .mv (.t 32)⟩,
  ⟨(some 34), some (33, false), .mv (.t 6)⟩,
  ⟨(some 35), some (33, false), .bin .gtr (.t 34) (.v (.int .i64 1099511627776))⟩,
  ⟨(some 36), none, .pick (.t 33) (.v (.bool true)) (.t 35)⟩]
theorem tr18_4 : (ro Try.f18 4).toList.mapM (trO Try.prog 107 (ro Try.f18 4)) = some a18_4 := by kernel_rfl
def a18_5 : List AO := [⟨(some 4), none, .mv (.v .nils)⟩,
  ⟨(some 5), none, .mv (.v (.int .i64 11))⟩]
theorem tr18_5 : (ro Try.f18 5).toList.mapM (trO Try.prog 107 (ro Try.f18 5)) = some a18_5 := by kernel_rfl
def a18_6 : List AO := [⟨(some 37), none, .mv (.t 0)⟩,
  ⟨(some 38), none, .call 28 [(.t 37)]⟩,
  ⟨(some 39), none, .conv .i64 (.t 38)⟩,
  ⟨(some 8), none, .alloc 3 [(.int .i64 0)]⟩,
  ⟨(some 9), none, .alloc 3 [(.int .i64 0)]⟩,
  ⟨none, none, .store 1 (.t 8) (.t 39)⟩,
  ⟨none, none, .store 1 (.t 9) (.v (.int .i64 1))⟩]
theorem tr18_6 : (ro Try.f18 6).toList.mapM (trO Try.prog 107 (ro Try.f18 6)) = some a18_6 := by kernel_rfl
def a18_7 : List AO := [⟨(some 40), none, .mv (.t 0)⟩,
  ⟨(some 41), none, .bin .lss (.t 40) (.v (.int .i64 0))⟩]
theorem tr18_7 : (ro Try.f18 7).toList.mapM (trO Try.prog 107 (ro Try.f18 7)) = some a18_7 := by kernel_rfl
def a18_8 : List AO := [⟨none, none, .store 1 (.t 9) (.v (.int .i64 (-1)))⟩]
theorem tr18_8 : (ro Try.f18 8).toList.mapM (trO Try.prog 107 (ro Try.f18 8)) = some a18_8 := by kernel_rfl
def a18_9 : List AO := [⟨(some 42), none, .mv (.t 1)⟩,
  ⟨(some 43), none, .len (.t 42)⟩,
  ⟨(some 44), none, .mks 3 1 8 [(.int .i64 0)] (.t 43) (.t 43)⟩,
  ⟨(some 45), none, .mv (.t 1)⟩,
  ⟨(some 46), none, .len (.t 45)⟩,
  ⟨(some 47), none, .mks 91 1 8 [(.int .u64 0)] (.t 46) (.t 46)⟩,
  ⟨(some 10), none, .alloc 34 [.nils]⟩,
  ⟨(some 11), none, .alloc 93 [.nils]⟩,
  ⟨none, none, .store 1 (.t 10) (.t 44)⟩,
  ⟨none, none, .store 1 (.t 11) (.t 47)⟩]
theorem tr18_9 : (ro Try.f18 9).toList.mapM (trO Try.prog 107 (ro Try.f18 9)) = some a18_9 := by kernel_rfl
def d18_9 : List (List Nat) := [[], [0], [0, 1], [], [3], [3, 4], [], [], [0, 1, 2, 6, 7], [0, 1, 2, 3, 4, 5, 6, 7, 8]]
theorem ok18_9 : okReg (ro Try.f18 9) a18_9 d18_9 = true := by kernel_rfl
def a18_10 : List AO := [⟨(some 48), none, .mkfn 29 [(.t 10), (.t 9), (.t 8)]⟩,
  ⟨(some 12), none, .mv (.t 48)⟩]
theorem tr18_10 : (ro Try.f18 10).toList.mapM (trO Try.prog 107 (ro Try.f18 10)) = some a18_10 := by kernel_rfl
def a18_11 : List AO := [⟨(some 49), none, .mv (.t 1)⟩,
  ⟨(some 50), none, .len (.t 49)⟩,
  ⟨(some 51), none, .mv (.v (.int .i64 0))⟩]
theorem tr18_11 : (ro Try.f18 11).toList.mapM (trO Try.prog 107 (ro Try.f18 11)) = some a18_11 := by kernel_rfl
def a18_12 : List AO := [⟨(some 52), none, .bin .lss (.t 51) (.t 50)⟩]
theorem tr18_12 : (ro Try.f18 12).toList.mapM (trO Try.prog 107 (ro Try.f18 12)) = some a18_12 := by kernel_rfl
def a18_13 : List AO := [⟨(some 53), none, .mv (.t 51)⟩,
  ⟨(some 54), none, .idx 1 (.t 49) (.t 51)⟩,
  ⟨(some 55), none, .load none (.t 54)⟩,
  ⟨(some 13), none, .mv (.t 53)⟩,
  ⟨(some 14), none, .mv (.t 55)⟩]
theorem tr18_13 : (ro Try.f18 13).toList.mapM (trO Try.prog 107 (ro Try.f18 13)) = some a18_13 := by kernel_rfl
def a18_14 : List AO := [⟨(some 57), none, .mv (.t 0)⟩,
  ⟨(some 58), none, .call 28 [(.t 57)]⟩,
  ⟨(some 59), none, .mv (.t 14)⟩,
  ⟨(some 60), none, .conv .u64 (.t 59)⟩,
  ⟨(some 61), none, .mv (.t 6)⟩,
  ⟨(some 62), none, .conv .u64 (.t 61)⟩,
  ⟨(some 63), none, .call 30 [(.t 58), (.t 60), (.t 62)]⟩,
  ⟨(some 56), none, .mv (.t 63)⟩,
  ⟨(some 64), none, .ext 0 (.t 56)⟩,
  ⟨(some 65), none, .ext 1 (.t 56)⟩,
  ⟨(some 66), none, .ext 2 (.t 56)⟩,
  ⟨(some 15), none, .mv (.t 64)⟩,
  ⟨(some 16), none, .mv (.t 65)⟩,
  ⟨(some 17), none, .mv (.t 66)⟩]
theorem tr18_14 : (ro Try.f18 14).toList.mapM (trO Try.prog 107 (ro Try.f18 14)) = some a18_14 := by kernel_rfl
def a18_15 : List AO := [⟨(some 67), none, .load none (.t 11)⟩,
  ⟨(some 68), none, .mv (.t 13)⟩,
  ⟨(some 69), none, .mv (.t 16)⟩,
  ⟨(some 70), none, .idx 1 (.t 67) (.t 68)⟩,
  ⟨none, none, .store 1 (.t 70) (.t 69)⟩]
theorem tr18_15 : (ro Try.f18 15).toList.mapM (trO Try.prog 107 (ro Try.f18 15)) = some a18_15 := by kernel_rfl
def a18_16 : List AO := [⟨(some 71), none, .mv (.t 12)⟩,
  ⟨(some 72), none, .mv (.t 13)⟩,
  ⟨(some 73), none, .mv (.t 15)⟩,
  ⟨(some 74), none, .conv .i64 (.t 73)⟩,
  ⟨(some 75), none, .callv (.t 71) [(.t 72), (.t 74)]⟩]
theorem tr18_16 : (ro Try.f18 16).toList.mapM (trO Try.prog 107 (ro Try.f18 16)) = some a18_16 := by kernel_rfl
def a18_17 : List AO := [⟨(some 76), none, .bin .add (.t 51) (.v (.int .i64 1))⟩,
  ⟨(some 51), none, .mv (.t 76)⟩]
theorem tr18_17 : (ro Try.f18 17).toList.mapM (trO Try.prog 107 (ro Try.f18 17)) = some a18_17 := by kernel_rfl
def a18_18 : List AO := [⟨(some 77), none, .mv (.t 1)⟩,
  ⟨(some 78), none, .len (.t 77)⟩,
  ⟨(some 79), none, .mks 3 1 8 [(.int .i64 0)] (.t 78) (.t 78)⟩,
  ⟨(some 18), none, .alloc 34 [.nils]⟩,
  ⟨none, none, .store 1 (.t 18) (.t 79)⟩]
theorem tr18_18 : (ro Try.f18 18).toList.mapM (trO Try.prog 107 (ro Try.f18 18)) = some a18_18 := by kernel_rfl
def a18_19 : List AO := [⟨(some 80), none, .load none (.t 18)⟩,
  ⟨(some 81), none, .len (.t 80)⟩,
  ⟨(some 82), none, .mv (.v (.int .i64 0))⟩]
theorem tr18_19 : (ro Try.f18 19).toList.mapM (trO Try.prog 107 (ro Try.f18 19)) = some a18_19 := by kernel_rfl
def a18_20 : List AO := [⟨(some 83), none, .bin .lss (.t 82) (.t 81)⟩]
theorem tr18_20 : (ro Try.f18 20).toList.mapM (trO Try.prog 107 (ro Try.f18 20)) = some a18_20 := by kernel_rfl
def a18_21 : List AO := [⟨(some 84), none, .mv (.t 82)⟩,
  ⟨(some 19), none, .mv (.t 84)⟩]
theorem tr18_21 : (ro Try.f18 21).toList.mapM (trO Try.prog 107 (ro Try.f18 21)) = some a18_21 := by kernel_rfl
def a18_22 : List AO := [⟨(some 85), none, .load none (.t 18)⟩,
  ⟨(some 86), none, .mv (.t 19)⟩,
  ⟨(some 87), none, .mv (.t 19)⟩,
  ⟨(some 88), none, .idx 1 (.t 85) (.t 86)⟩,
  ⟨none, none, .store 1 (.t 88) (.t 87)⟩]
theorem tr18_22 : (ro Try.f18 22).toList.mapM (trO Try.prog 107 (ro Try.f18 22)) = some a18_22 := by kernel_rfl
def a18_23 : List AO := [⟨(some 89), none, .bin .add (.t 82) (.v (.int .i64 1))⟩,
  ⟨(some 82), none, .mv (.t 89)⟩]
theorem tr18_23 : (ro Try.f18 23).toList.mapM (trO Try.prog 107 (ro Try.f18 23)) = some a18_23 := by kernel_rfl
def a18_24 : List AO := [⟨(some 90), none, .load none (.t 18)⟩,
  ⟨(some 91), none, .mki 34 (.t 90)⟩,
  ⟨(some 92), none, .mkfn 32 [(.t 11), (.t 18)]⟩,
  ⟨(some 93), none, .call 31 [(.t 91), (.t 92)]⟩]
theorem tr18_24 : (ro Try.f18 24).toList.mapM (trO Try.prog 107 (ro Try.f18 24)) = some a18_24 := by kernel_rfl
def a18_25 : List AO := [⟨(some 94), none, .load none (.t 18)⟩,
  ⟨(some 95), none, .len (.t 94)⟩,
  ⟨(some 96), none, .mv (.v (.int .i64 0))⟩]
theorem tr18_25 : (ro Try.f18 25).toList.mapM (trO Try.prog 107 (ro Try.f18 25)) = some a18_25 := by kernel_rfl
def a18_26 : List AO := [⟨(some 97), none, .bin .lss (.t 96) (.t 95)⟩]
theorem tr18_26 : (ro Try.f18 26).toList.mapM (trO Try.prog 107 (ro Try.f18 26)) = some a18_26 := by kernel_rfl
def a18_27 : List AO := [⟨(some 98), none, .idx 1 (.t 94) (.t 96)⟩,
  ⟨(some 99), none, .load none (.t 98)⟩,
  ⟨(some 21), none, .mv (.t 99)⟩]
theorem tr18_27 : (ro Try.f18 27).toList.mapM (trO Try.prog 107 (ro Try.f18 27)) = some a18_27 := by kernel_rfl
def a18_28 : List AO := [⟨(some 100), none, .load none (.t 8)⟩,
  ⟨(some 101), none, .bin .gtr (.t 100) (.v (.int .i64 0))⟩]
theorem tr18_28 : (ro Try.f18 28).toList.mapM (trO Try.prog 107 (ro Try.f18 28)) = some a18_28 := by kernel_rfl
def a18_29 : List AO := [⟨(some 102), none, .mv (.t 12)⟩,
  ⟨(some 103), none, .mv (.t 21)⟩,
  ⟨(some 104), none, .callv (.t 102) [(.t 103), (.v (.int .i64 1))]⟩]
theorem tr18_29 : (ro Try.f18 29).toList.mapM (trO Try.prog 107 (ro Try.f18 29)) = some a18_29 := by kernel_rfl
def a18_30 : List AO := [⟨(some 105), none, .bin .add (.t 96) (.v (.int .i64 1))⟩,
  ⟨(some 96), none, .mv (.t 105)⟩]
theorem tr18_30 : (ro Try.f18 30).toList.mapM (trO Try.prog 107 (ro Try.f18 30)) = some a18_30 := by kernel_rfl
def a18_31 : List AO := [⟨(some 106), none, .load none (.t 10)⟩,
  ⟨(some 4), none, .mv (.t 106)⟩,
  ⟨(some 5), none, .mv (.v (.int .i64 0))⟩]
theorem tr18_31 : (ro Try.f18 31).toList.mapM (trO Try.prog 107 (ro Try.f18 31)) = some a18_31 := by kernel_rfl
/-- airline/prorate.sums -/
noncomputable def c19 : Code := .seq (.region 0 (ro Try.f19 0) false) (.seq (.region 1 (ro Try.f19 1) false) (.seq (.region 2 (ro Try.f19 2) false) (.seq (.seq (.region 3 (ro Try.f19 3) false) (.block 0 (.loop (.seq (.region 4 (ro Try.f19 4) false) (.seq (.cond (.tmp 17) (.skip) (.exit 0)) (.seq (.block 1 (.seq (.region 5 (ro Try.f19 5) false) (.seq (.region 6 (ro Try.f19 6) false) (.seq (.seq (.region 7 (ro Try.f19 7) false) (.cond (.tmp 28) (.seq (.region 8 (ro Try.f19 8) false) (.ret)) (.skip))) (.region 9 (ro Try.f19 9) false))))) (.region 10 (ro Try.f19 10) false))))))) (.seq (.region 11 (ro Try.f19 11) false) (.ret)))))
theorem body19 : Try.f19.body = some c19 := by kernel_rfl
theorem res19 : Try.f19.results.toList.mapM (trR Try.prog) = some [.t 2, .t 3, .t 4] := by kernel_rfl
theorem nt19 : Try.f19.ntmps = 37 := by kernel_rfl
theorem nm19 : (Try.f19.name == "runtime.NumGoroutine") = false := by kernel_rfl
def a19_0 : List AO := [⟨(some 2), none, .mv (.v .nils)⟩,
  ⟨(some 3), none, .mv (.v .nils)⟩,
  ⟨(some 4), none, .mv (.v (.int .i64 0))⟩]
theorem tr19_0 : (ro Try.f19 0).toList.mapM (trO Try.prog 37 (ro Try.f19 0)) = some a19_0 := by kernel_rfl
def a19_1 : List AO := [⟨(some 11), none, .mv (.t 0)⟩,
  ⟨(some 12), none, .call 34 [(.t 11)]⟩,
  ⟨(some 13), none, .call 33 [(.t 12)]⟩,
  ⟨(some 5), none, .mv (.t 13)⟩]
theorem tr19_1 : (ro Try.f19 1).toList.mapM (trO Try.prog 37 (ro Try.f19 1)) = some a19_1 := by kernel_rfl
def a19_2 : List AO := [⟨(some 6), none, .mv (.v .nils)⟩]
theorem tr19_2 : (ro Try.f19 2).toList.mapM (trO Try.prog 37 (ro Try.f19 2)) = some a19_2 := by kernel_rfl
def a19_3 : List AO := [⟨(some 14), none, .mv (.t 5)⟩,
  ⟨(some 15), none, .len (.t 14)⟩,
  ⟨(some 16), none, .mv (.v (.int .i64 0))⟩]
theorem tr19_3 : (ro Try.f19 3).toList.mapM (trO Try.prog 37 (ro Try.f19 3)) = some a19_3 := by kernel_rfl
def a19_4 : List AO := [⟨(some 17), none, .bin .lss (.t 16) (.t 15)⟩]
theorem tr19_4 : (ro Try.f19 4).toList.mapM (trO Try.prog 37 (ro Try.f19 4)) = some a19_4 := by kernel_rfl
def a19_5 : List AO := [⟨(some 18), none, .idx 1 (.t 14) (.t 16)⟩,
  ⟨(some 19), none, .load none (.t 18)⟩,
  ⟨(some 8), none, .mv (.t 19)⟩]
theorem tr19_5 : (ro Try.f19 5).toList.mapM (trO Try.prog 37 (ro Try.f19 5)) = some a19_5 := by kernel_rfl
def a19_6 : List AO := [⟨(some 21), none, .mv (.t 0)⟩,
  ⟨(some 22), none, .mv (.t 8)⟩,
  ⟨(some 23), none, .look 0 false .nils (.t 21) (.t 22)⟩,
  ⟨(some 24), none, .call 35 [(.t 23)]⟩,
  ⟨(some 20), none, .mv (.t 24)⟩,
  ⟨(some 25), none, .ext 0 (.t 20)⟩,
  ⟨(some 26), none, .ext 1 (.t 20)⟩,
  ⟨(some 9), none, .mv (.t 25)⟩,
  ⟨(some 10), none, .mv (.t 26)⟩]
theorem tr19_6 : (ro Try.f19 6).toList.mapM (trO Try.prog 37 (ro Try.f19 6)) = some a19_6 := by kernel_rfl
def a19_7 : List AO := [⟨(some 27), none, .mv (.t 10)⟩,
  ⟨(some 28), none, .bin .neq (.t 27) (.v (.int .i64 0))⟩]
theorem tr19_7 : (ro Try.f19 7).toList.mapM (trO Try.prog 37 (ro Try.f19 7)) = some a19_7 := by kernel_rfl
def a19_8 : List AO := [⟨(some 29), none, .mv (.t 10)⟩,
  ⟨(some 2), none, .mv (.v .nils)⟩,
  ⟨(some 3), none, .mv (.v .nils)⟩,
  ⟨(some 4), none, .mv (.t 29)⟩]
theorem tr19_8 : (ro Try.f19 8).toList.mapM (trO Try.prog 37 (ro Try.f19 8)) = some a19_8 := by kernel_rfl
def a19_9 : List AO := [⟨(some 30), none, .mv (.t 6)⟩,
  ⟨(some 31), none, .mv (.t 9)⟩,
  ⟨(some 32), none, .slc 3 1 false [(.t 31)]⟩,
  ⟨(some 33), none, .app 3 1 8 (.t 30) (.t 32)⟩,
  ⟨(some 6), none, .mv (.t 33)⟩]
theorem tr19_9 : (ro Try.f19 9).toList.mapM (trO Try.prog 37 (ro Try.f19 9)) = some a19_9 := by kernel_rfl
def a19_10 : List AO := [⟨(some 34), none, .bin .add (.t 16) (.v (.int .i64 1))⟩,
  ⟨(some 16), none, .mv (.t 34)⟩]
theorem tr19_10 : (ro Try.f19 10).toList.mapM (trO Try.prog 37 (ro Try.f19 10)) = some a19_10 := by kernel_rfl
def a19_11 : List AO := [⟨(some 35), none, .mv (.t 5)⟩,
  ⟨(some 36), none, .mv (.t 6)⟩,
  ⟨(some 2), none, .mv (.t 35)⟩,
  ⟨(some 3), none, .mv (.t 36)⟩,
  ⟨(some 4), none, .mv (.v (.int .i64 0))⟩]
theorem tr19_11 : (ro Try.f19 11).toList.mapM (trO Try.prog 37 (ro Try.f19 11)) = some a19_11 := by kernel_rfl
/-- airline/airlineref39.add -/
noncomputable def c20 : Code := .seq (.region 0 (ro Try.f20 0) false) (.seq (.region 1 (ro Try.f20 1) false) (.seq (.region 2 (ro Try.f20 2) false) (.seq (.seq (.region 3 (ro Try.f20 3) false) (.block 0 (.loop (.seq (.seq (.region 4 (ro Try.f20 4) false) (.cond (.tmp 11) (.skip) (.exit 0))) (.seq (.block 1 (.seq (.seq (.region 6 (ro Try.f20 6) false) (.cond (.tmp 19) (.seq (.region 7 (ro Try.f20 7) false) (.ret)) (.skip))) (.seq (.seq (.region 8 (ro Try.f20 8) false) (.cond (.tmp 30) (.seq (.region 9 (ro Try.f20 9) false) (.region 10 (ro Try.f20 10) false)) (.skip))) (.region 11 (ro Try.f20 11) false)))) (.region 5 (ro Try.f20 5) false)))))) (.seq (.seq (.region 12 (ro Try.f20 12) false) (.cond (.tmp 43) (.region 13 (ro Try.f20 13) false) (.skip))) (.seq (.region 14 (ro Try.f20 14) false) (.ret))))))
theorem body20 : Try.f20.body = some c20 := by kernel_rfl
theorem res20 : Try.f20.results.toList.mapM (trR Try.prog) = some [.t 4] := by kernel_rfl
theorem nt20 : Try.f20.ntmps = 49 := by kernel_rfl
theorem nm20 : (Try.f20.name == "runtime.NumGoroutine") = false := by kernel_rfl
def a20_0 : List AO := [⟨(some 4), none, .mv (.v .nils)⟩]
theorem tr20_0 : (ro Try.f20 0).toList.mapM (trO Try.prog 49 (ro Try.f20 0)) = some a20_0 := by kernel_rfl
def a20_1 : List AO := [⟨(some 5), none, .mv (.v .nils)⟩]
theorem tr20_1 : (ro Try.f20 1).toList.mapM (trO Try.prog 49 (ro Try.f20 1)) = some a20_1 := by kernel_rfl
def a20_2 : List AO := [⟨(some 6), none, .mv (.v (.bool false))⟩]
theorem tr20_2 : (ro Try.f20 2).toList.mapM (trO Try.prog 49 (ro Try.f20 2)) = some a20_2 := by kernel_rfl
def a20_3 : List AO := [⟨(some 7), none, .mv (.v (.int .i64 0))⟩]
theorem tr20_3 : (ro Try.f20 3).toList.mapM (trO Try.prog 49 (ro Try.f20 3)) = some a20_3 := by kernel_rfl
def a20_4 : List AO := [⟨(some 8), none, .mv (.t 7)⟩,
  ⟨(some 9), none, .mv (.t 0)⟩,
  ⟨(some 10), none, .len (.t 9)⟩,
  ⟨(some 11), none, .bin .lss (.t 8) (.t 10)⟩]
theorem tr20_4 : (ro Try.f20 4).toList.mapM (trO Try.prog 49 (ro Try.f20 4)) = some a20_4 := by kernel_rfl
def a20_6 : List AO := [⟨(some 14), none, .mv (.t 0)⟩,
  ⟨(some 15), none, .mv (.t 7)⟩,
  ⟨(some 16), none, .idx 1 (.t 14) (.t 15)⟩,
  ⟨(some 17), none, .load none (.t 16)⟩,
  ⟨(some 18), none, .mv (.t 1)⟩,
  ⟨(some 19), none, .bin .eql (.t 17) (.t 18)⟩]
theorem tr20_6 : (ro Try.f20 6).toList.mapM (trO Try.prog 49 (ro Try.f20 6)) = some a20_6 := by kernel_rfl
def a20_7 : List AO := [⟨(some 20), none, .mv (.t 0)⟩,
  ⟨(some 4), none, .mv (.t 20)⟩]
theorem tr20_7 : (ro Try.f20 7).toList.mapM (trO Try.prog 49 (ro Try.f20 7)) = some a20_7 := by kernel_rfl
def a20_8 : List AO := [⟨(some 21), none, .mv (.t 0)⟩,
  ⟨(some 22), none, .mv (.t 7)⟩,
  ⟨(some 23), none, .idx 1 (.t 21) (.t 22)⟩,
  ⟨(some 24), none, .load none (.t 23)⟩,
  ⟨(some 25), none, .mv (.t 1)⟩,
  ⟨(some 26), none, .bin .gtr (.t 24) (.t 25)⟩,
  ⟨(some 27), none, .mv (.t 26)⟩,
  ⟨(some 28), some (27, true), .mv (.t 6)⟩,
  ⟨(some 29), some (27, true), .un .not (.t 28)⟩,
  ⟨(some 30), none, .pick (.t 27) (.t 29) (.v (.bool false))⟩]
theorem tr20_8 : (ro Try.f20 8).toList.mapM (trO Try.prog 49 (ro Try.f20 8)) = some a20_8 := by kernel_rfl
def a20_9 : List AO := [⟨(some 31), none, .mv (.t 5)⟩,
  ⟨(some 32), none, .mv (.t 1)⟩,
  ⟨(some 33), none, .slc 9 1 false [(.t 32)]⟩,
  ⟨(some 34), none, .app 9 1 16 (.t 31) (.t 33)⟩,
  ⟨(some 5), none, .mv (.t 34)⟩]
theorem tr20_9 : (ro Try.f20 9).toList.mapM (trO Try.prog 49 (ro Try.f20 9)) = some a20_9 := by kernel_rfl
def a20_10 : List AO := [⟨(some 6), none, .mv (.v (.bool true))⟩]
theorem tr20_10 : (ro Try.f20 10).toList.mapM (trO Try.prog 49 (ro Try.f20 10)) = some a20_10 := by kernel_rfl
def a20_11 : List AO := [⟨(some 35), none, .mv (.t 5)⟩,
  ⟨(some 36), none, .mv (.t 0)⟩,
  ⟨(some 37), none, .mv (.t 7)⟩,
  ⟨(some 38), none, .idx 1 (.t 36) (.t 37)⟩,
  ⟨(some 39), none, .load none (.t 38)⟩,
  ⟨(some 40), none, .slc 9 1 false [(.t 39)]⟩,
  ⟨(some 41), none, .app 9 1 16 (.t 35) (.t 40)⟩,
  ⟨(some 5), none, .mv (.t 41)⟩]
theorem tr20_11 : (ro Try.f20 11).toList.mapM (trO Try.prog 49 (ro Try.f20 11)) = some a20_11 := by kernel_rfl
def a20_5 : List AO := [⟨(some 12), none, .mv (.t 7)⟩,
  ⟨(some 13), none, .bin .add (.t 12) (.v (.int .i64 1))⟩,
  ⟨(some 7), none, .mv (.t 13)⟩]
theorem tr20_5 : (ro Try.f20 5).toList.mapM (trO Try.prog 49 (ro Try.f20 5)) = some a20_5 := by kernel_rfl
def a20_12 : List AO := [⟨(some 42), none, .mv (.t 6)⟩,
  ⟨(some 43), none, .un .not (.t 42)⟩]
theorem tr20_12 : (ro Try.f20 12).toList.mapM (trO Try.prog 49 (ro Try.f20 12)) = some a20_12 := by kernel_rfl
def a20_13 : List AO := [⟨(some 44), none, .mv (.t 5)⟩,
  ⟨(some 45), none, .mv (.t 1)⟩,
  ⟨(some 46), none, .slc 9 1 false [(.t 45)]⟩,
  ⟨(some 47), none, .app 9 1 16 (.t 44) (.t 46)⟩,
  ⟨(some 5), none, .mv (.t 47)⟩]
theorem tr20_13 : (ro Try.f20 13).toList.mapM (trO Try.prog 49 (ro Try.f20 13)) = some a20_13 := by kernel_rfl
def a20_14 : List AO := [⟨(some 48), none, .mv (.t 5)⟩,
  ⟨(some 4), none, .mv (.t 48)⟩]
theorem tr20_14 : (ro Try.f20 14).toList.mapM (trO Try.prog 49 (ro Try.f20 14)) = some a20_14 := by kernel_rfl
/-- airline/airlineref02.Sum -/
noncomputable def c21 : Code := .seq (.region 0 (ro Try.f21 0) false) (.seq (.region 1 (ro Try.f21 1) false) (.seq (.seq (.region 2 (ro Try.f21 2) false) (.block 0 (.loop (.seq (.seq (.region 3 (ro Try.f21 3) false) (.cond (.tmp 11) (.skip) (.exit 0))) (.seq (.block 1 (.seq (.region 5 (ro Try.f21 5) false) (.seq (.seq (.region 6 (ro Try.f21 6) false) (.cond (.tmp 24) (.seq (.region 7 (ro Try.f21 7) false) (.ret)) (.skip))) (.region 8 (ro Try.f21 8) false)))) (.region 4 (ro Try.f21 4) false)))))) (.seq (.region 9 (ro Try.f21 9) false) (.ret))))
theorem body21 : Try.f21.body = some c21 := by kernel_rfl
theorem res21 : Try.f21.results.toList.mapM (trR Try.prog) = some [.t 2, .t 3] := by kernel_rfl
theorem nt21 : Try.f21.ntmps = 28 := by kernel_rfl
theorem nm21 : (Try.f21.name == "runtime.NumGoroutine") = false := by kernel_rfl
def a21_0 : List AO := [⟨(some 2), none, .mv (.v (.int .i64 0))⟩,
  ⟨(some 3), none, .mv (.v (.int .i64 0))⟩]
theorem tr21_0 : (ro Try.f21 0).toList.mapM (trO Try.prog 28 (ro Try.f21 0)) = some a21_0 := by kernel_rfl
def a21_1 : List AO := [⟨(some 4), none, .mv (.v (.int .i64 0))⟩]
theorem tr21_1 : (ro Try.f21 1).toList.mapM (trO Try.prog 28 (ro Try.f21 1)) = some a21_1 := by kernel_rfl
def a21_2 : List AO := [⟨(some 5), none, .mv (.v (.int .i64 0))⟩]
theorem tr21_2 : (ro Try.f21 2).toList.mapM (trO Try.prog 28 (ro Try.f21 2)) = some a21_2 := by kernel_rfl
def a21_3 : List AO := [⟨(some 8), none, .mv (.t 5)⟩,
  ⟨(some 9), none, .mv (.t 0)⟩,
  ⟨(some 10), none, .len (.t 9)⟩,
  ⟨(some 11), none, .bin .lss (.t 8) (.t 10)⟩]
theorem tr21_3 : (ro Try.f21 3).toList.mapM (trO Try.prog 28 (ro Try.f21 3)) = some a21_3 := by kernel_rfl
def a21_5 : List AO := [⟨(some 15), none, .mv (.t 4)⟩,
  ⟨(some 16), none, .mv (.t 0)⟩,
  ⟨(some 17), none, .mv (.t 5)⟩,
  ⟨(some 18), none, .idx 1 (.t 16) (.t 17)⟩,
  ⟨(some 19), none, .load none (.t 18)⟩,
  ⟨(some 20), none, .call 36 [(.t 15), (.t 19)]⟩,
  ⟨(some 14), none, .mv (.t 20)⟩,
  ⟨(some 21), none, .ext 0 (.t 14)⟩,
  ⟨(some 22), none, .ext 1 (.t 14)⟩,
  ⟨(some 6), none, .mv (.t 21)⟩,
  ⟨(some 7), none, .mv (.t 22)⟩]
theorem tr21_5 : (ro Try.f21 5).toList.mapM (trO Try.prog 28 (ro Try.f21 5)) = some a21_5 := by kernel_rfl
def a21_6 : List AO := [⟨(some 23), none, .mv (.t 7)⟩,
  ⟨(some 24), none, .bin .neq (.t 23) (.v (.int .i64 0))⟩]
theorem tr21_6 : (ro Try.f21 6).toList.mapM (trO Try.prog 28 (ro Try.f21 6)) = some a21_6 := by kernel_rfl
def a21_7 : List AO := [⟨(some 25), none, .mv (.t 7)⟩,
  ⟨(some 2), none, .mv (.v (.int .i64 0))⟩,
  ⟨(some 3), none, .mv (.t 25)⟩]
theorem tr21_7 : (ro Try.f21 7).toList.mapM (trO Try.prog 28 (ro Try.f21 7)) = some a21_7 := by kernel_rfl
def a21_8 : List AO := [⟨(some 26), none, .mv (.t 6)⟩,
  ⟨(some 4), none, .mv (.t 26)⟩]
theorem tr21_8 : (ro Try.f21 8).toList.mapM (trO Try.prog 28 (ro Try.f21 8)) = some a21_8 := by kernel_rfl
def a21_4 : List AO := [⟨(some 12), none, .mv (.t 5)⟩,
  ⟨(some 13), none, .bin .add (.t 12) (.v (.int .i64 1))⟩,
  ⟨(some 5), none, .mv (.t 13)⟩]
theorem tr21_4 : (ro Try.f21 4).toList.mapM (trO Try.prog 28 (ro Try.f21 4)) = some a21_4 := by kernel_rfl
def a21_9 : List AO := [⟨(some 27), none, .mv (.t 4)⟩,
  ⟨(some 2), none, .mv (.t 27)⟩,
  ⟨(some 3), none, .mv (.v (.int .i64 0))⟩]
theorem tr21_9 : (ro Try.f21 9).toList.mapM (trO Try.prog 28 (ro Try.f21 9)) = some a21_9 := by kernel_rfl
/-- airline/places.Miles -/
noncomputable def c25 : Code := .seq (.region 0 (ro Try.f25 0) false) (.seq (.region 1 (ro Try.f25 1) true) (.seq (.seq (.region 2 (ro Try.f25 2) false) (.cond (.tmp 30) (.seq (.region 3 (ro Try.f25 3) false) (.ret)) (.skip))) (.seq (.region 4 (ro Try.f25 4) false) (.seq (.region 5 (ro Try.f25 5) false) (.seq (.seq (.region 6 (ro Try.f25 6) false) (.block 0 (.loop (.seq (.seq (.region 7 (ro Try.f25 7) false) (.cond (.tmp 35) (.skip) (.exit 0))) (.block 1 (.seq (.region 8 (ro Try.f25 8) false) (.seq (.region 9 (ro Try.f25 9) false) (.block 2 (.loop (.seq (.region 10 (ro Try.f25 10) false) (.seq (.cond (.tmp 40) (.skip) (.exit 2)) (.seq (.block 3 (.seq (.region 11 (ro Try.f25 11) false) (.seq (.region 12 (ro Try.f25 12) false) (.cond (.tmp 44) (.seq (.region 13 (ro Try.f25 13) false) (.seq (.region 14 (ro Try.f25 14) false) (.region 15 (ro Try.f25 15) false))) (.skip))))) (.region 16 (ro Try.f25 16) false))))))))))))) (.seq (.region 17 (ro Try.f25 17) false) (.seq (.seq (.region 18 (ro Try.f25 18) false) (.cond (.tmp 76) (.seq (.region 19 (ro Try.f25 19) false) (.ret)) (.skip))) (.seq (.region 20 (ro Try.f25 20) false) (.ret)))))))))
theorem body25 : Try.f25.body = some c25 := by kernel_rfl
theorem res25 : Try.f25.results.toList.mapM (trR Try.prog) = some [.t 6, .t 7] := by kernel_rfl
theorem nt25 : Try.f25.ntmps = 78 := by kernel_rfl
theorem nm25 : (Try.f25.name == "runtime.NumGoroutine") = false := by kernel_rfl
def a25_0 : List AO := [⟨(some 3), none, .box 25 (.t 0)⟩,
  ⟨(some 6), none, .mv (.v (.int .i64 0))⟩,
  ⟨(some 7), none, .mv (.v (.int .i64 0))⟩]
theorem tr25_0 : (ro Try.f25 0).toList.mapM (trO Try.prog 78 (ro Try.f25 0)) = some a25_0 := by kernel_rfl
def a25_1 : List AO := [⟨(some 19), none, .load (some 2) (.t 3)⟩,
  ⟨(some 20), none, .mv (.t 1)⟩,
  ⟨(some 21), none, .call 43 [(.t 19), (.t 20)]⟩,
  ⟨(some 22), none, .load (some 2) (.t 3)⟩,
  ⟨(some 23), none, .mv (.t 2)⟩,
  ⟨(some 24), none, .call 43 [(.t 22), (.t 23)]⟩,
  ⟨(some 8), none, .mv (.t 21)⟩,
  ⟨(some 9), none, .mv (.t 24)⟩]
theorem tr25_1 : (ro Try.f25 1).toList.mapM (trO Try.prog 78 (ro Try.f25 1)) = some a25_1 := by kernel_rfl
def d25_1 : List (List Nat) := [[], [], [0, 1], [], [], [0, 1, 2, 3, 4], [0, 1, 2, 3, 4, 5], [0, 1, 2, 3, 4, 5, 6]]
theorem ok25_1 : okReg (ro Try.f25 1) a25_1 d25_1 = true := by kernel_rfl
def a25_2 : List AO := [⟨(some 25), none, .mv (.t 8)⟩,
  ⟨(some 26), none, .bin .eql (.t 25) (.v (.str []))⟩,
  ⟨(some 27), none, .mv (.t 26)⟩,
  ⟨(some 28), some (27, false), .mv (.t 9)⟩,
  ⟨(some 29), some (27, false), .bin .eql (.t 28) (.v (.str []))⟩,
  ⟨(some 30), none, .pick (.t 27) (.v (.bool true)) (.t 29)⟩]
theorem tr25_2 : (ro Try.f25 2).toList.mapM (trO Try.prog 78 (ro Try.f25 2)) = some a25_2 := by kernel_rfl
def a25_3 : List AO := [⟨(some 6), none, .mv (.v (.int .i64 0))⟩,
  ⟨(some 7), none, .mv (.v (.int .i64 14))⟩]
theorem tr25_3 : (ro Try.f25 3).toList.mapM (trO Try.prog 78 (ro Try.f25 3)) = some a25_3 := by kernel_rfl
def a25_4 : List AO := [⟨(some 31), none, .mkmap⟩,
  ⟨(some 32), none, .mv (.t 8)⟩,
  ⟨none, none, .mset 0 (.t 31) (.t 32) (.v (.int .i64 0))⟩,
  ⟨(some 33), none, .mv (.t 31)⟩,
  ⟨(some 10), none, .alloc 111 [.nilm]⟩,
  ⟨none, none, .store 1 (.t 10) (.t 33)⟩]
theorem tr25_4 : (ro Try.f25 4).toList.mapM (trO Try.prog 78 (ro Try.f25 4)) = some a25_4 := by kernel_rfl
def a25_5 : List AO := [⟨(some 34), none, .mkfn 44 [(.t 10)]⟩,
  ⟨(some 11), none, .mv (.t 34)⟩]
theorem tr25_5 : (ro Try.f25 5).toList.mapM (trO Try.prog 78 (ro Try.f25 5)) = some a25_5 := by kernel_rfl
def a25_6 : List AO := [⟨(some 12), none, .mv (.v (.bool true))⟩]
theorem tr25_6 : (ro Try.f25 6).toList.mapM (trO Try.prog 78 (ro Try.f25 6)) = some a25_6 := by kernel_rfl
def a25_7 : List AO := [⟨(some 35), none, .mv (.t 12)⟩]
theorem tr25_7 : (ro Try.f25 7).toList.mapM (trO Try.prog 78 (ro Try.f25 7)) = some a25_7 := by kernel_rfl
def a25_8 : List AO := [⟨(some 12), none, .mv (.v (.bool false))⟩]
theorem tr25_8 : (ro Try.f25 8).toList.mapM (trO Try.prog 78 (ro Try.f25 8)) = some a25_8 := by kernel_rfl
def a25_9 : List AO := [⟨(some 36), none, .fld 1 (.t 3)⟩,
  ⟨(some 37), none, .load none (.t 36)⟩,
  ⟨(some 38), none, .len (.t 37)⟩,
  ⟨(some 39), none, .mv (.v (.int .i64 0))⟩]
theorem tr25_9 : (ro Try.f25 9).toList.mapM (trO Try.prog 78 (ro Try.f25 9)) = some a25_9 := by kernel_rfl
def a25_10 : List AO := [⟨(some 40), none, .bin .lss (.t 39) (.t 38)⟩]
theorem tr25_10 : (ro Try.f25 10).toList.mapM (trO Try.prog 78 (ro Try.f25 10)) = some a25_10 := by kernel_rfl
def a25_11 : List AO := [⟨(some 41), none, .idx 3 (.t 37) (.t 39)⟩,
  ⟨(some 42), none, .load (some 3) (.t 41)⟩,
  ⟨(some 14), none, .alloc 72 [(.str []), (.str []), (.int .i64 0)]⟩,
  ⟨none, none, .store 3 (.t 14) (.t 42)⟩]
theorem tr25_11 : (ro Try.f25 11).toList.mapM (trO Try.prog 78 (ro Try.f25 11)) = some a25_11 := by kernel_rfl
def a25_12 : List AO := [⟨(some 43), none, .load (some 3) (.t 14)⟩,
  ⟨(some 44), none, .call 45 [(.t 43)]⟩]
theorem tr25_12 : (ro Try.f25 12).toList.mapM (trO Try.prog 78 (ro Try.f25 12)) = some a25_12 := by kernel_rfl
def a25_13 : List AO := [⟨(some 45), none, .mv (.t 11)⟩,
  ⟨(some 46), none, .fld 0 (.t 14)⟩,
  ⟨(some 47), none, .load none (.t 46)⟩,
  ⟨(some 48), none, .fld 1 (.t 14)⟩,
  ⟨(some 49), none, .load none (.t 48)⟩,
  ⟨(some 50), none, .fld 2 (.t 14)⟩,
  ⟨(some 51), none, .load none (.t 50)⟩,
  ⟨(some 52), none, .callv (.t 45) [(.t 47), (.t 49), (.t 51)]⟩,
  ⟨(some 15), none, .mv (.t 52)⟩]
theorem tr25_13 : (ro Try.f25 13).toList.mapM (trO Try.prog 78 (ro Try.f25 13)) = some a25_13 := by kernel_rfl
def a25_14 : List AO := [⟨(some 53), none, .mv (.t 11)⟩,
  ⟨(some 54), none, .fld 1 (.t 14)⟩,
  ⟨(some 55), none, .load none (.t 54)⟩,
  ⟨(some 56), none, .fld 0 (.t 14)⟩,
  ⟨(some 57), none, .load none (.t 56)⟩,
  ⟨(some 58), none, .fld 2 (.t 14)⟩,
  ⟨(some 59), none, .load none (.t 58)⟩,
  ⟨(some 60), none, .callv (.t 53) [(.t 55), (.t 57), (.t 59)]⟩,
  ⟨(some 16), none, .mv (.t 60)⟩]
theorem tr25_14 : (ro Try.f25 14).toList.mapM (trO Try.prog 78 (ro Try.f25 14)) = some a25_14 := by kernel_rfl
def a25_15 : List AO := [⟨(some 61), none, .mv (.t 12)⟩,
  ⟨(some 62), none, .mv (.t 61)⟩,
  ⟨(some 63), some (62, false), .mv (.t 15)⟩,
  ⟨(some 64), none, .pick (.t 62) (.v (.bool true)) (.t 63)⟩,
  ⟨(some 65), none, .mv (.t 64)⟩,
  ⟨(some 66), some (65, false), .mv (.t 16)⟩,
  ⟨(some 67), none, .pick (.t 65) (.v (.bool true)) (.t 66)⟩,
  ⟨(some 12), none, .mv (.t 67)⟩]
theorem tr25_15 : (ro Try.f25 15).toList.mapM (trO Try.prog 78 (ro Try.f25 15)) = some a25_15 := by kernel_rfl
def a25_16 : List AO := [⟨(some 68), none, .bin .add (.t 39) (.v (.int .i64 1))⟩,
  ⟨(some 39), none, .mv (.t 68)⟩]
theorem tr25_16 : (ro Try.f25 16).toList.mapM (trO Try.prog 78 (ro Try.f25 16)) = some a25_16 := by kernel_rfl
def a25_17 : List AO := [⟨(some 70), none, .load none (.t 10)⟩,
  ⟨(some 71), none, .mv (.t 9)⟩,
  ⟨(some 72), none, .look 0 true (.int .i64 0) (.t 70) (.t 71)⟩,
  ⟨(some 69), none, .mv (.t 72)⟩,
  ⟨(some 73), none, .ext 0 (.t 69)⟩,
  ⟨(some 74), none, .ext 1 (.t 69)⟩,
  ⟨(some 17), none, .mv (.t 73)⟩,
  ⟨(some 18), none, .mv (.t 74)⟩]
theorem tr25_17 : (ro Try.f25 17).toList.mapM (trO Try.prog 78 (ro Try.f25 17)) = some a25_17 := by kernel_rfl
def a25_18 : List AO := [⟨(some 75), none, .mv (.t 18)⟩,
  ⟨(some 76), none, .un .not (.t 75)⟩]
theorem tr25_18 : (ro Try.f25 18).toList.mapM (trO Try.prog 78 (ro Try.f25 18)) = some a25_18 := by kernel_rfl
def a25_19 : List AO := [⟨(some 6), none, .mv (.v (.int .i64 0))⟩,
  ⟨(some 7), none, .mv (.v (.int .i64 7))⟩]
theorem tr25_19 : (ro Try.f25 19).toList.mapM (trO Try.prog 78 (ro Try.f25 19)) = some a25_19 := by kernel_rfl
def a25_20 : List AO := [⟨(some 77), none, .mv (.t 17)⟩,
  ⟨(some 6), none, .mv (.t 77)⟩,
  ⟨(some 7), none, .mv (.v (.int .i64 0))⟩]
theorem tr25_20 : (ro Try.f25 20).toList.mapM (trO Try.prog 78 (ro Try.f25 20)) = some a25_20 := by kernel_rfl
/-- airline/money.total -/
noncomputable def c26 : Code := .seq (.region 0 (ro Try.f26 0) false) (.seq (.region 1 (ro Try.f26 1) false) (.seq (.seq (.region 2 (ro Try.f26 2) false) (.block 0 (.loop (.seq (.region 3 (ro Try.f26 3) false) (.seq (.cond (.tmp 10) (.skip) (.exit 0)) (.seq (.block 1 (.seq (.region 4 (ro Try.f26 4) false) (.seq (.seq (.region 5 (ro Try.f26 5) false) (.cond (.tmp 14) (.seq (.region 6 (ro Try.f26 6) false) (.ret)) (.skip))) (.seq (.region 7 (ro Try.f26 7) false) (.cond (.tmp 16) (.region 8 (ro Try.f26 8) false) (.skip)))))) (.region 9 (ro Try.f26 9) false))))))) (.seq (.seq (.region 10 (ro Try.f26 10) false) (.cond (.tmp 23) (.seq (.region 11 (ro Try.f26 11) false) (.ret)) (.skip))) (.seq (.region 12 (ro Try.f26 12) false) (.ret)))))
theorem body26 : Try.f26.body = some c26 := by kernel_rfl
theorem res26 : Try.f26.results.toList.mapM (trR Try.prog) = some [.t 2, .t 3] := by kernel_rfl
theorem nt26 : Try.f26.ntmps = 25 := by kernel_rfl
theorem nm26 : (Try.f26.name == "runtime.NumGoroutine") = false := by kernel_rfl
def a26_0 : List AO := [⟨(some 2), none, .mv (.v (.int .i64 0))⟩,
  ⟨(some 3), none, .mv (.v (.int .i64 0))⟩]
theorem tr26_0 : (ro Try.f26 0).toList.mapM (trO Try.prog 25 (ro Try.f26 0)) = some a26_0 := by kernel_rfl
def a26_1 : List AO := [⟨(some 4), none, .mv (.v (.int .i64 0))⟩]
theorem tr26_1 : (ro Try.f26 1).toList.mapM (trO Try.prog 25 (ro Try.f26 1)) = some a26_1 := by kernel_rfl
def a26_2 : List AO := [⟨(some 7), none, .mv (.t 0)⟩,
  ⟨(some 8), none, .len (.t 7)⟩,
  ⟨(some 9), none, .mv (.v (.int .i64 0))⟩]
theorem tr26_2 : (ro Try.f26 2).toList.mapM (trO Try.prog 25 (ro Try.f26 2)) = some a26_2 := by kernel_rfl
def a26_3 : List AO := [⟨(some 10), none, .bin .lss (.t 9) (.t 8)⟩]
theorem tr26_3 : (ro Try.f26 3).toList.mapM (trO Try.prog 25 (ro Try.f26 3)) = some a26_3 := by kernel_rfl
def a26_4 : List AO := [⟨(some 11), none, .idx 1 (.t 7) (.t 9)⟩,
  ⟨(some 12), none, .load none (.t 11)⟩,
  ⟨(some 6), none, .mv (.t 12)⟩]
theorem tr26_4 : (ro Try.f26 4).toList.mapM (trO Try.prog 25 (ro Try.f26 4)) = some a26_4 := by kernel_rfl
def a26_5 : List AO := [⟨(some 13), none, .mv (.t 6)⟩,
  ⟨(some 14), none, .bin .lss (.t 13) (.v (.int .i64 0))⟩]
theorem tr26_5 : (ro Try.f26 5).toList.mapM (trO Try.prog 25 (ro Try.f26 5)) = some a26_5 := by kernel_rfl
def a26_6 : List AO := [⟨(some 2), none, .mv (.v (.int .i64 0))⟩,
  ⟨(some 3), none, .mv (.v (.int .i64 2))⟩]
theorem tr26_6 : (ro Try.f26 6).toList.mapM (trO Try.prog 25 (ro Try.f26 6)) = some a26_6 := by kernel_rfl
def a26_7 : List AO := [⟨(some 15), none, .mv (.t 4)⟩,
  ⟨(some 16), none, .bin .leq (.t 15) (.v (.int .i64 1099511627776))⟩]
theorem tr26_7 : (ro Try.f26 7).toList.mapM (trO Try.prog 25 (ro Try.f26 7)) = some a26_7 := by kernel_rfl
def a26_8 : List AO := [⟨(some 17), none, .mv (.t 4)⟩,
  ⟨(some 18), none, .mv (.t 6)⟩,
  ⟨(some 19), none, .mn (.t 18) (.v (.int .i64 1099511627777))⟩,
  ⟨(some 20), none, .bin .add (.t 17) (.t 19)⟩,
  ⟨(some 4), none, .mv (.t 20)⟩]
theorem tr26_8 : (ro Try.f26 8).toList.mapM (trO Try.prog 25 (ro Try.f26 8)) = some a26_8 := by kernel_rfl
def a26_9 : List AO := [⟨(some 21), none, .bin .add (.t 9) (.v (.int .i64 1))⟩,
  ⟨(some 9), none, .mv (.t 21)⟩]
theorem tr26_9 : (ro Try.f26 9).toList.mapM (trO Try.prog 25 (ro Try.f26 9)) = some a26_9 := by kernel_rfl
def a26_10 : List AO := [⟨(some 22), none, .mv (.t 4)⟩,
  ⟨(some 23), none, .bin .eql (.t 22) (.v (.int .i64 0))⟩]
theorem tr26_10 : (ro Try.f26 10).toList.mapM (trO Try.prog 25 (ro Try.f26 10)) = some a26_10 := by kernel_rfl
def a26_11 : List AO := [⟨(some 2), none, .mv (.v (.int .i64 0))⟩,
  ⟨(some 3), none, .mv (.v (.int .i64 2))⟩]
theorem tr26_11 : (ro Try.f26 11).toList.mapM (trO Try.prog 25 (ro Try.f26 11)) = some a26_11 := by kernel_rfl
def a26_12 : List AO := [⟨(some 24), none, .mv (.t 4)⟩,
  ⟨(some 2), none, .mv (.t 24)⟩,
  ⟨(some 3), none, .mv (.v (.int .i64 0))⟩]
theorem tr26_12 : (ro Try.f26 12).toList.mapM (trO Try.prog 25 (ro Try.f26 12)) = some a26_12 := by kernel_rfl
/-- airline/money.fits -/
noncomputable def c27 : Code := .seq (.region 0 (ro Try.f27 0) false) (.seq (.region 1 (ro Try.f27 1) false) (.ret))
theorem body27 : Try.f27.body = some c27 := by kernel_rfl
theorem res27 : Try.f27.results.toList.mapM (trR Try.prog) = some [.t 2] := by kernel_rfl
theorem nt27 : Try.f27.ntmps = 9 := by kernel_rfl
theorem nm27 : (Try.f27.name == "runtime.NumGoroutine") = false := by kernel_rfl
def a27_0 : List AO := [⟨(some 2), none, .mv (.v (.bool false))⟩]
theorem tr27_0 : (ro Try.f27 0).toList.mapM (trO Try.prog 9 (ro Try.f27 0)) = some a27_0 := by kernel_rfl
def a27_1 : List AO := [⟨(some 3), none, .mv (.t 0)⟩,
  ⟨(some 4), none, .bin .geq (.t 3) (.v (.int .i64 (-1099511627776)))⟩,
  ⟨(some 5), none, .mv (.t 4)⟩,
  ⟨(some 6), some (5, true), .mv (.t 0)⟩,
  ⟨(some 7), some (5, true), .bin .leq (.t 6) (.v (.int .i64 1099511627776))⟩,
  ⟨(some 8), none, .pick (.t 5) (.t 7) (.v (.bool false))⟩,
  ⟨(some 2), none, .mv (.t 8)⟩]
theorem tr27_1 : (ro Try.f27 1).toList.mapM (trO Try.prog 9 (ro Try.f27 1)) = some a27_1 := by kernel_rfl
/-- airline/money.Split 1 -/
noncomputable def c29 : Code := .seq (.region 0 (ro Try.f29 0) true) (.region 1 (ro Try.f29 1) false)
theorem body29 : Try.f29.body = some c29 := by kernel_rfl
theorem res29 : Try.f29.results.toList.mapM (trR Try.prog) = some [] := by kernel_rfl
theorem nt29 : Try.f29.ntmps = 19 := by kernel_rfl
theorem nm29 : (Try.f29.name == "runtime.NumGoroutine") = false := by kernel_rfl
def a29_0 : List AO := [⟨(some 7), none, .load none (.t 2)⟩,
  ⟨(some 8), none, .mv (.t 0)⟩,
  ⟨(some 9), none, .idx 1 (.t 7) (.t 8)⟩,
  ⟨(some 10), none, .load none (.t 9)⟩,
  ⟨(some 11), none, .load none (.t 3)⟩,
  ⟨(some 12), none, .mv (.t 1)⟩,
  ⟨(some 13), none, .bin .mul (.t 11) (.t 12)⟩,
  ⟨(some 14), none, .bin .add (.t 10) (.t 13)⟩,
  ⟨(some 15), none, .idx 1 (.t 7) (.t 8)⟩,
  ⟨none, none, .store 1 (.t 15) (.t 14)⟩]
theorem tr29_0 : (ro Try.f29 0).toList.mapM (trO Try.prog 19 (ro Try.f29 0)) = some a29_0 := by kernel_rfl
def d29_0 : List (List Nat) := [[], [], [0, 1], [0, 1, 2], [], [], [4, 5], [0, 1, 2, 3, 4, 5, 6], [0, 1, 2, 3, 4, 5, 6, 7], [0, 1, 2, 3, 4, 5, 6, 7, 8]]
theorem ok29_0 : okReg (ro Try.f29 0) a29_0 d29_0 = true := by kernel_rfl
def a29_1 : List AO := [⟨(some 16), none, .load none (.t 4)⟩,
  ⟨(some 17), none, .mv (.t 1)⟩,
  ⟨(some 18), none, .bin .sub (.t 16) (.t 17)⟩,
  ⟨none, none, .store 1 (.t 4) (.t 18)⟩]
theorem tr29_1 : (ro Try.f29 1).toList.mapM (trO Try.prog 19 (ro Try.f29 1)) = some a29_1 := by kernel_rfl
/-- airline/money.scale -/
noncomputable def c30 : Code := .seq (.region 0 (ro Try.f30 0) false) (.seq (.region 1 (ro Try.f30 1) false) (.seq (.seq (.region 2 (ro Try.f30 2) false) (.cond (.tmp 21) (.seq (.region 3 (ro Try.f30 3) false) (.ret)) (.skip))) (.seq (.region 4 (ro Try.f30 4) false) (.seq (.region 5 (ro Try.f30 5) false) (.ret)))))
theorem body30 : Try.f30.body = some c30 := by kernel_rfl
theorem res30 : Try.f30.results.toList.mapM (trR Try.prog) = some [.t 6, .t 7, .t 8] := by kernel_rfl
theorem nt30 : Try.f30.ntmps = 31 := by kernel_rfl
theorem nm30 : (Try.f30.name == "runtime.NumGoroutine") = false := by kernel_rfl
def a30_0 : List AO := [⟨(some 6), none, .mv (.v (.int .u64 0))⟩,
  ⟨(some 7), none, .mv (.v (.int .u64 0))⟩,
  ⟨(some 8), none, .mv (.v (.bool false))⟩]
theorem tr30_0 : (ro Try.f30 0).toList.mapM (trO Try.prog 31 (ro Try.f30 0)) = some a30_0 := by kernel_rfl
def a30_1 : List AO := [⟨(some 14), none, .mv (.t 0)⟩,
  ⟨(some 15), none, .mv (.t 1)⟩,
  ⟨(some 16), none, .call 46 [(.t 14), (.t 15)]⟩,
  ⟨(some 13), none, .mv (.t 16)⟩,
  ⟨(some 17), none, .ext 0 (.t 13)⟩,
  ⟨(some 18), none, .ext 1 (.t 13)⟩,
  ⟨(some 9), none, .mv (.t 17)⟩,
  ⟨(some 10), none, .mv (.t 18)⟩]
theorem tr30_1 : (ro Try.f30 1).toList.mapM (trO Try.prog 31 (ro Try.f30 1)) = some a30_1 := by kernel_rfl
def a30_2 : List AO := [⟨(some 19), none, .mv (.t 9)⟩,
  ⟨(some 20), none, .mv (.t 2)⟩,
  ⟨(some 21), none, .bin .geq (.t 19) (.t 20)⟩]
theorem tr30_2 : (ro Try.f30 2).toList.mapM (trO Try.prog 31 (ro Try.f30 2)) = some a30_2 := by kernel_rfl
def a30_4 : List AO := [⟨(some 23), none, .mv (.t 9)⟩,
  ⟨(some 24), none, .mv (.t 10)⟩,
  ⟨(some 25), none, .mv (.t 2)⟩,
  ⟨(some 26), none, .call 47 [(.t 23), (.t 24), (.t 25)]⟩,
  ⟨(some 22), none, .mv (.t 26)⟩,
  ⟨(some 27), none, .ext 0 (.t 22)⟩,
  ⟨(some 28), none, .ext 1 (.t 22)⟩,
  ⟨(some 11), none, .mv (.t 27)⟩,
  ⟨(some 12), none, .mv (.t 28)⟩]
theorem tr30_4 : (ro Try.f30 4).toList.mapM (trO Try.prog 31 (ro Try.f30 4)) = some a30_4 := by kernel_rfl
def a30_5 : List AO := [⟨(some 29), none, .mv (.t 11)⟩,
  ⟨(some 30), none, .mv (.t 12)⟩,
  ⟨(some 6), none, .mv (.t 29)⟩,
  ⟨(some 7), none, .mv (.t 30)⟩,
  ⟨(some 8), none, .mv (.v (.bool true))⟩]
theorem tr30_5 : (ro Try.f30 5).toList.mapM (trO Try.prog 31 (ro Try.f30 5)) = some a30_5 := by kernel_rfl
/-- airline/money.Split 2 -/
noncomputable def c32 : Code := .seq (.region 0 (ro Try.f32 0) false) (.seq (.region 1 (ro Try.f32 1) true) (.ret))
theorem body32 : Try.f32.body = some c32 := by kernel_rfl
theorem res32 : Try.f32.results.toList.mapM (trR Try.prog) = some [.t 6] := by kernel_rfl
theorem nt32 : Try.f32.ntmps = 22 := by kernel_rfl
theorem nm32 : (Try.f32.name == "runtime.NumGoroutine") = false := by kernel_rfl
def a32_0 : List AO := [⟨(some 6), none, .mv (.v (.bool false))⟩]
theorem tr32_0 : (ro Try.f32 0).toList.mapM (trO Try.prog 22 (ro Try.f32 0)) = some a32_0 := by kernel_rfl
def a32_1 : List AO := [⟨(some 7), none, .load none (.t 2)⟩,
  ⟨(some 8), none, .load none (.t 3)⟩,
  ⟨(some 9), none, .mv (.t 0)⟩,
  ⟨(some 10), none, .idx 1 (.t 8) (.t 9)⟩,
  ⟨(some 11), none, .load none (.t 10)⟩,
  ⟨(some 12), none, .idx 1 (.t 7) (.t 11)⟩,
  ⟨(some 13), none, .load none (.t 12)⟩,
  ⟨(some 14), none, .load none (.t 2)⟩,
  ⟨(some 15), none, .load none (.t 3)⟩,
  ⟨(some 16), none, .mv (.t 1)⟩,
  ⟨(some 17), none, .idx 1 (.t 15) (.t 16)⟩,
  ⟨(some 18), none, .load none (.t 17)⟩,
  ⟨(some 19), none, .idx 1 (.t 14) (.t 18)⟩,
  ⟨(some 20), none, .load none (.t 19)⟩,
  ⟨(some 21), none, .bin .gtr (.t 13) (.t 20)⟩,
  ⟨(some 6), none, .mv (.t 21)⟩]
theorem tr32_1 : (ro Try.f32 1).toList.mapM (trO Try.prog 22 (ro Try.f32 1)) = some a32_1 := by kernel_rfl
def d32_1 : List (List Nat) := [[], [], [], [1, 2], [1, 2, 3], [0, 1, 2, 3, 4], [0, 1, 2, 3, 4, 5], [], [], [], [8, 9], [8, 9, 10], [7, 8, 9, 10, 11], [7, 8, 9, 10, 11, 12], [0, 1, 2, 3, 4, 5, 6, 7, 8, 9, 10, 11, 12, 13], [0, 1, 2, 3, 4, 5, 6, 7, 8, 9, 10, 11, 12, 13, 14]]
theorem ok32_1 : okReg (ro Try.f32 1) a32_1 d32_1 = true := by kernel_rfl
/-- airline/money.Sum -/
noncomputable def c35 : Code := .seq (.region 0 (ro Try.f35 0) false) (.seq (.region 1 (ro Try.f35 1) false) (.seq (.seq (.region 2 (ro Try.f35 2) false) (.block 0 (.loop (.seq (.region 3 (ro Try.f35 3) false) (.seq (.cond (.tmp 10) (.skip) (.exit 0)) (.seq (.block 1 (.seq (.region 4 (ro Try.f35 4) false) (.seq (.seq (.region 5 (ro Try.f35 5) false) (.cond (.tmp 22) (.seq (.region 6 (ro Try.f35 6) false) (.ret)) (.skip))) (.region 7 (ro Try.f35 7) false)))) (.region 8 (ro Try.f35 8) false))))))) (.seq (.region 9 (ro Try.f35 9) false) (.ret))))
theorem body35 : Try.f35.body = some c35 := by kernel_rfl
theorem res35 : Try.f35.results.toList.mapM (trR Try.prog) = some [.t 2, .t 3] := by kernel_rfl
theorem nt35 : Try.f35.ntmps = 28 := by kernel_rfl
theorem nm35 : (Try.f35.name == "runtime.NumGoroutine") = false := by kernel_rfl
def a35_0 : List AO := [⟨(some 2), none, .mv (.v (.int .i64 0))⟩,
  ⟨(some 3), none, .mv (.v (.int .i64 0))⟩]
theorem tr35_0 : (ro Try.f35 0).toList.mapM (trO Try.prog 28 (ro Try.f35 0)) = some a35_0 := by kernel_rfl
def a35_1 : List AO := [⟨(some 4), none, .mv (.v (.int .i64 0))⟩]
theorem tr35_1 : (ro Try.f35 1).toList.mapM (trO Try.prog 28 (ro Try.f35 1)) = some a35_1 := by kernel_rfl
def a35_2 : List AO := [⟨(some 7), none, .mv (.t 0)⟩,
  ⟨(some 8), none, .len (.t 7)⟩,
  ⟨(some 9), none, .mv (.v (.int .i64 0))⟩]
theorem tr35_2 : (ro Try.f35 2).toList.mapM (trO Try.prog 28 (ro Try.f35 2)) = some a35_2 := by kernel_rfl
def a35_3 : List AO := [⟨(some 10), none, .bin .lss (.t 9) (.t 8)⟩]
theorem tr35_3 : (ro Try.f35 3).toList.mapM (trO Try.prog 28 (ro Try.f35 3)) = some a35_3 := by kernel_rfl
def a35_4 : List AO := [⟨(some 11), none, .idx 1 (.t 7) (.t 9)⟩,
  ⟨(some 12), none, .load none (.t 11)⟩,
  ⟨(some 6), none, .mv (.t 12)⟩]
theorem tr35_4 : (ro Try.f35 4).toList.mapM (trO Try.prog 28 (ro Try.f35 4)) = some a35_4 := by kernel_rfl
def a35_5 : List AO := [⟨(some 13), none, .mv (.t 6)⟩,
  ⟨(some 14), none, .call 27 [(.t 13)]⟩,
  ⟨(some 15), none, .un .not (.t 14)⟩,
  ⟨(some 16), none, .mv (.t 15)⟩,
  ⟨(some 17), some (16, false), .mv (.t 4)⟩,
  ⟨(some 18), some (16, false), .mv (.t 6)⟩,
  ⟨(some 19), some (16, false), .bin .add (.t 17) (.t 18)⟩,
  ⟨(some 20), some (16, false), .call 27 [(.t 19)]⟩,
  ⟨(some 21), some (16, false), .un .not (.t 20)⟩,
  ⟨(some 22), none, .pick (.t 16) (.v (.bool true)) (.t 21)⟩]
theorem tr35_5 : (ro Try.f35 5).toList.mapM (trO Try.prog 28 (ro Try.f35 5)) = some a35_5 := by kernel_rfl
def a35_6 : List AO := [⟨(some 2), none, .mv (.v (.int .i64 0))⟩,
  ⟨(some 3), none, .mv (.v (.int .i64 11))⟩]
theorem tr35_6 : (ro Try.f35 6).toList.mapM (trO Try.prog 28 (ro Try.f35 6)) = some a35_6 := by kernel_rfl
def a35_7 : List AO := [⟨(some 23), none, .mv (.t 4)⟩,
  ⟨(some 24), none, .mv (.t 6)⟩,
  ⟨(some 25), none, .bin .add (.t 23) (.t 24)⟩,
  ⟨(some 4), none, .mv (.t 25)⟩]
theorem tr35_7 : (ro Try.f35 7).toList.mapM (trO Try.prog 28 (ro Try.f35 7)) = some a35_7 := by kernel_rfl
def a35_8 : List AO := [⟨(some 26), none, .bin .add (.t 9) (.v (.int .i64 1))⟩,
  ⟨(some 9), none, .mv (.t 26)⟩]
theorem tr35_8 : (ro Try.f35 8).toList.mapM (trO Try.prog 28 (ro Try.f35 8)) = some a35_8 := by kernel_rfl
def a35_9 : List AO := [⟨(some 27), none, .mv (.t 4)⟩,
  ⟨(some 2), none, .mv (.t 27)⟩,
  ⟨(some 3), none, .mv (.v (.int .i64 0))⟩]
theorem tr35_9 : (ro Try.f35 9).toList.mapM (trO Try.prog 28 (ro Try.f35 9)) = some a35_9 := by kernel_rfl
/-- airline/airlineref02.Add -/
noncomputable def c36 : Code := .seq (.region 0 (ro Try.f36 0) false) (.seq (.seq (.region 1 (ro Try.f36 1) false) (.cond (.tmp 20) (.seq (.region 2 (ro Try.f36 2) false) (.ret)) (.skip))) (.seq (.region 3 (ro Try.f36 3) false) (.ret)))
theorem body36 : Try.f36.body = some c36 := by kernel_rfl
theorem res36 : Try.f36.results.toList.mapM (trR Try.prog) = some [.t 4, .t 5] := by kernel_rfl
theorem nt36 : Try.f36.ntmps = 24 := by kernel_rfl
theorem nm36 : (Try.f36.name == "runtime.NumGoroutine") = false := by kernel_rfl
def a36_0 : List AO := [⟨(some 4), none, .mv (.v (.int .i64 0))⟩,
  ⟨(some 5), none, .mv (.v (.int .i64 0))⟩]
theorem tr36_0 : (ro Try.f36 0).toList.mapM (trO Try.prog 24 (ro Try.f36 0)) = some a36_0 := by kernel_rfl
def a36_1 : List AO := [⟨(some 6), none, .mv (.t 0)⟩,
  ⟨(some 7), none, .call 55 [(.t 6)]⟩,
  ⟨(some 8), none, .un .not (.t 7)⟩,
  ⟨(some 9), none, .mv (.t 8)⟩,
  ⟨(some 10), some (9, false), .mv (.t 1)⟩,
  ⟨(some 11), some (9, false), .call 55 [(.t 10)]⟩,
  ⟨(some 12), some (9, false), .un .not (.t 11)⟩,
  ⟨(some 13), none, .pick (.t 9) (.v (.bool true)) (.t 12)⟩,
  ⟨(some 14), none, .mv (.t 13)⟩,
  ⟨(some 15), some (14, false), .mv (.t 0)⟩,
  ⟨(some 16), some (14, false), .mv (.t 1)⟩,
  ⟨(some 17), some (14, false), .bin .add (.t 15) (.t 16)⟩,
  ⟨(some 18), some (14, false), .call 55 [(.t 17)]⟩,
  ⟨(some 19), some (14, false), .un .not (.t 18)⟩,
  ⟨(some 20), none, .pick (.t 14) (.v (.bool true)) (.t 19)⟩]
theorem tr36_1 : (ro Try.f36 1).toList.mapM (trO Try.prog 24 (ro Try.f36 1)) = some a36_1 := by kernel_rfl
def a36_2 : List AO := [⟨(some 4), none, .mv (.v (.int .i64 0))⟩,
  ⟨(some 5), none, .mv (.v (.int .i64 11))⟩]
theorem tr36_2 : (ro Try.f36 2).toList.mapM (trO Try.prog 24 (ro Try.f36 2)) = some a36_2 := by kernel_rfl
def a36_3 : List AO := [⟨(some 21), none, .mv (.t 0)⟩,
  ⟨(some 22), none, .mv (.t 1)⟩,
  ⟨(some 23), none, .bin .add (.t 21) (.t 22)⟩,
  ⟨(some 4), none, .mv (.t 23)⟩,
  ⟨(some 5), none, .mv (.v (.int .i64 0))⟩]
theorem tr36_3 : (ro Try.f36 3).toList.mapM (trO Try.prog 24 (ro Try.f36 3)) = some a36_3 := by kernel_rfl
end Go.Proofs.Ytfjgnfgadkajnaa
