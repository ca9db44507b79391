/- The code of the functions, region by region, as abstract operations. -/
import Derived.Test.YtailckanpheciaaDoorProg
import Derived.Test.YtailckanpheciaaDoorAv21
namespace Go.Proofs.YtailckanpheciaaDoor
open Go Go.RowKit
def findR : Code → Nat → Option (Array Oper)
  | .region i ops _, k => if i = k then some ops else none
  | .seq a b, k => (findR a k).or (findR b k)
  | .cond _ a b, k => (findR a k).or (findR b k)
  | .block _ c, k => findR c k
  | .loop c, k => findR c k
  | .scope c, k => findR c k
  | _, _ => none
def ro (f : Func) (k : Nat) : Array Oper := ((f.body.bind fun c => findR c k).getD #[])
theorem mixed : Tryd.prog.follows .mixedOrders = true := by kernel_rfl
/-- airline/airlinelaw27.TaxChecks -/
noncomputable def c3 : Code := .seq (.region 0 (ro Tryd.f3 0) false) (.seq (.region 1 (ro Tryd.f3 1) false) (.ret))
theorem body3 : Tryd.f3.body = some c3 := by kernel_rfl
theorem res3 : Tryd.f3.results.toList.mapM (trR Tryd.prog) = some [.t 2] := by kernel_rfl
theorem nt3 : Tryd.f3.ntmps = 16 := by kernel_rfl
theorem nm3 : (Tryd.f3.name == "runtime.NumGoroutine") = false := by kernel_rfl
def a3_0 : List AO := [⟨(some 2), none, .mv (.v (.bool false))⟩]
theorem tr3_0 : (ro Tryd.f3 0).toList.mapM (trO Tryd.prog 16 (ro Tryd.f3 0)) = some a3_0 := by kernel_rfl
def a3_1 : List AO := [⟨(some 3), none, .mv (.t 0)⟩,
  ⟨(some 4), none, .call 8 [(.t 3)]⟩,
  ⟨(some 5), none, .un .not (.t 4)⟩,
  ⟨(some 6), none, .mv (.t 5)⟩,
  ⟨(some 7), some (6, false), .mv (.t 0)⟩,
  ⟨(some 8), some (6, false), .call 10 [(.t 7)]⟩,
  ⟨(some 9), some (6, false), .mv (.t 0)⟩,
  ⟨(some 10), some (6, false), .call 11 [(.t 9)]⟩,
  ⟨(some 11), some (6, false), .call 9 [(.t 8), (.t 10)]⟩,
  ⟨(some 12), some (6, false), .mv (.t 11)⟩,
  ⟨(some 13), some (12, true), .call 12 []⟩,
  ⟨(some 14), some (6, false), .pick (.t 12) (.t 13) (.v (.bool false))⟩,
  ⟨(some 15), none, .pick (.t 6) (.v (.bool true)) (.t 14)⟩,
  ⟨(some 2), none, .mv (.t 15)⟩]
theorem tr3_1 : (ro Tryd.f3 1).toList.mapM (trO Tryd.prog 16 (ro Tryd.f3 1)) = some a3_1 := by kernel_rfl
/-- airline/airlinelaw27.TaxTimes -/
noncomputable def c4 : Code := .seq (.region 0 (ro Tryd.f4 0) false) (.seq (.seq (.region 1 (ro Tryd.f4 1) false) (.cond (.tmp 14) (.seq (.region 2 (ro Tryd.f4 2) false) (.ret)) (.skip))) (.seq (.region 3 (ro Tryd.f4 3) true) (.ret)))
theorem body4 : Tryd.f4.body = some c4 := by kernel_rfl
theorem res4 : Tryd.f4.results.toList.mapM (trR Tryd.prog) = some [.t 8] := by kernel_rfl
theorem nt4 : Tryd.f4.ntmps = 30 := by kernel_rfl
theorem nm4 : (Tryd.f4.name == "runtime.NumGoroutine") = false := by kernel_rfl
def a4_0 : List AO := [⟨(some 4), none, .box 31 (.t 0)⟩,
  ⟨(some 5), none, .box 34 (.t 1)⟩,
  ⟨(some 8), none, .mv (.v (.bool false))⟩]
theorem tr4_0 : (ro Tryd.f4 0).toList.mapM (trO Tryd.prog 30 (ro Tryd.f4 0)) = some a4_0 := by kernel_rfl
def a4_1 : List AO := [⟨(some 9), none, .load (some 2) (.t 4)⟩,
  ⟨(some 10), none, .load (some 7) (.t 5)⟩,
  ⟨(some 11), none, .slc 34 7 false [(.t 10)]⟩,
  ⟨(some 12), none, .mv (.t 2)⟩,
  ⟨(some 13), none, .call 13 [(.t 9), (.t 11), (.t 12)]⟩,
  ⟨(some 14), none, .un .not (.t 13)⟩]
theorem tr4_1 : (ro Tryd.f4 1).toList.mapM (trO Tryd.prog 30 (ro Tryd.f4 1)) = some a4_1 := by kernel_rfl
def a4_2 : List AO := [⟨(some 15), none, .call 12 []⟩,
  ⟨(some 8), none, .mv (.t 15)⟩]
theorem tr4_2 : (ro Tryd.f4 2).toList.mapM (trO Tryd.prog 30 (ro Tryd.f4 2)) = some a4_2 := by kernel_rfl
def a4_3 : List AO := [⟨(some 16), none, .load (some 2) (.t 4)⟩,
  ⟨(some 17), none, .load (some 7) (.t 5)⟩,
  ⟨(some 18), none, .mv (.t 2)⟩,
  ⟨(some 19), none, .mv (.t 3)⟩,
  ⟨(some 20), none, .call 14 [(.t 16), (.t 17), (.t 18), (.t 19)]⟩,
  ⟨(some 21), none, .load (some 2) (.t 4)⟩,
  ⟨(some 22), none, .load (some 7) (.t 5)⟩,
  ⟨(some 23), none, .mv (.t 2)⟩,
  ⟨(some 24), none, .mv (.t 3)⟩,
  ⟨(some 25), none, .call 15 [(.t 21), (.t 22), (.t 23), (.t 24)]⟩,
  ⟨(some 26), none, .bin .eql (.t 20) (.t 25)⟩,
  ⟨(some 27), none, .mv (.t 26)⟩,
  ⟨(some 28), some (27, true), .call 12 []⟩,
  ⟨(some 29), none, .pick (.t 27) (.t 28) (.v (.bool false))⟩,
  ⟨(some 8), none, .mv (.t 29)⟩]
theorem tr4_3 : (ro Tryd.f4 3).toList.mapM (trO Tryd.prog 30 (ro Tryd.f4 3)) = some a4_3 := by kernel_rfl
def d4_3 : List (List Nat) := [[], [], [], [], [0, 1, 2, 3], [], [], [], [], [0, 1, 2, 3, 4, 5, 6, 7, 8], [0, 1, 2, 3, 4, 5, 6, 7, 8, 9], [0, 1, 2, 3, 4, 5, 6, 7, 8, 9, 10], [0, 1, 2, 3, 4, 5, 6, 7, 8, 9, 10, 11], [0, 1, 2, 3, 4, 5, 6, 7, 8, 9, 10, 11, 12], [0, 1, 2, 3, 4, 5, 6, 7, 8, 9, 10, 11, 12, 13]]
theorem ok4_3 : okReg (ro Tryd.f4 3) a4_3 d4_3 = true := by kernel_rfl
/-- airline/airlinelaw27.TaxAmounts -/
noncomputable def c5 : Code := .seq (.region 0 (ro Tryd.f5 0) false) (.seq (.seq (.region 1 (ro Tryd.f5 1) false) (.cond (.tmp 19) (.seq (.region 2 (ro Tryd.f5 2) false) (.ret)) (.skip))) (.seq (.region 3 (ro Tryd.f5 3) false) (.seq (.region 4 (ro Tryd.f5 4) false) (.seq (.region 5 (ro Tryd.f5 5) false) (.ret)))))
theorem body5 : Tryd.f5.body = some c5 := by kernel_rfl
theorem res5 : Tryd.f5.results.toList.mapM (trR Tryd.prog) = some [.t 10] := by kernel_rfl
theorem nt5 : Tryd.f5.ntmps = 50 := by kernel_rfl
theorem nm5 : (Tryd.f5.name == "runtime.NumGoroutine") = false := by kernel_rfl
def a5_0 : List AO := [⟨(some 5), none, .box 31 (.t 0)⟩,
  ⟨(some 10), none, .mv (.v (.bool false))⟩]
theorem tr5_0 : (ro Tryd.f5 0).toList.mapM (trO Tryd.prog 50 (ro Tryd.f5 0)) = some a5_0 := by kernel_rfl
def a5_1 : List AO := [⟨(some 15), none, .load (some 2) (.t 5)⟩,
  ⟨(some 16), none, .mv (.t 1)⟩,
  ⟨(some 17), none, .mv (.t 2)⟩,
  ⟨(some 18), none, .call 13 [(.t 15), (.t 16), (.t 17)]⟩,
  ⟨(some 19), none, .un .not (.t 18)⟩]
theorem tr5_1 : (ro Tryd.f5 1).toList.mapM (trO Tryd.prog 50 (ro Tryd.f5 1)) = some a5_1 := by kernel_rfl
def a5_2 : List AO := [⟨(some 20), none, .call 12 []⟩,
  ⟨(some 10), none, .mv (.t 20)⟩]
theorem tr5_2 : (ro Tryd.f5 2).toList.mapM (trO Tryd.prog 50 (ro Tryd.f5 2)) = some a5_2 := by kernel_rfl
def a5_3 : List AO := [⟨(some 22), none, .load (some 2) (.t 5)⟩,
  ⟨(some 23), none, .mv (.t 1)⟩,
  ⟨(some 24), none, .mv (.t 2)⟩,
  ⟨(some 25), none, .mv (.t 3)⟩,
  ⟨(some 26), none, .mv (.t 4)⟩,
  ⟨(some 27), none, .call 16 [(.t 22), (.t 23), (.t 24), (.t 25), (.t 26)]⟩,
  ⟨(some 21), none, .mv (.t 27)⟩,
  ⟨(some 28), none, .ext 0 (.t 21)⟩,
  ⟨(some 29), none, .ext 1 (.t 21)⟩,
  ⟨(some 11), none, .mv (.t 28)⟩,
  ⟨(some 12), none, .mv (.t 29)⟩]
theorem tr5_3 : (ro Tryd.f5 3).toList.mapM (trO Tryd.prog 50 (ro Tryd.f5 3)) = some a5_3 := by kernel_rfl
def a5_4 : List AO := [⟨(some 31), none, .load (some 2) (.t 5)⟩,
  ⟨(some 32), none, .mv (.t 1)⟩,
  ⟨(some 33), none, .mv (.t 2)⟩,
  ⟨(some 34), none, .mv (.t 3)⟩,
  ⟨(some 35), none, .mv (.t 4)⟩,
  ⟨(some 36), none, .call 17 [(.t 31), (.t 32), (.t 33), (.t 34), (.t 35)]⟩,
  ⟨(some 30), none, .mv (.t 36)⟩,
  ⟨(some 37), none, .ext 0 (.t 30)⟩,
  ⟨(some 38), none, .ext 1 (.t 30)⟩,
  ⟨(some 13), none, .mv (.t 37)⟩,
  ⟨(some 14), none, .mv (.t 38)⟩]
theorem tr5_4 : (ro Tryd.f5 4).toList.mapM (trO Tryd.prog 50 (ro Tryd.f5 4)) = some a5_4 := by kernel_rfl
def a5_5 : List AO := [⟨(some 39), none, .mv (.t 11)⟩,
  ⟨(some 40), none, .mv (.t 13)⟩,
  ⟨(some 41), none, .call 18 [(.t 39), (.t 40)]⟩,
  ⟨(some 42), none, .mv (.t 41)⟩,
  ⟨(some 43), some (42, true), .mv (.t 12)⟩,
  ⟨(some 44), some (42, true), .mv (.t 14)⟩,
  ⟨(some 45), some (42, true), .bin .eql (.t 43) (.t 44)⟩,
  ⟨(some 46), none, .pick (.t 42) (.t 45) (.v (.bool false))⟩,
  ⟨(some 47), none, .mv (.t 46)⟩,
  ⟨(some 48), some (47, true), .call 12 []⟩,
  ⟨(some 49), none, .pick (.t 47) (.t 48) (.v (.bool false))⟩,
  ⟨(some 10), none, .mv (.t 49)⟩]
theorem tr5_5 : (ro Tryd.f5 5).toList.mapM (trO Tryd.prog 50 (ro Tryd.f5 5)) = some a5_5 := by kernel_rfl
/-- airline/airlinelaw27.TaxParts -/
noncomputable def c6 : Code := .seq (.region 0 (ro Tryd.f6 0) false) (.seq (.seq (.region 1 (ro Tryd.f6 1) false) (.cond (.tmp 24) (.seq (.region 2 (ro Tryd.f6 2) false) (.ret)) (.skip))) (.seq (.region 3 (ro Tryd.f6 3) false) (.seq (.seq (.region 4 (ro Tryd.f6 4) false) (.cond (.tmp 39) (.seq (.region 5 (ro Tryd.f6 5) true) (.seq (.region 6 (ro Tryd.f6 6) false) (.cond (.tmp 70) (.seq (.region 7 (ro Tryd.f6 7) false) (.ret)) (.skip)))) (.skip))) (.seq (.region 8 (ro Tryd.f6 8) true) (.ret)))))
theorem body6 : Tryd.f6.body = some c6 := by kernel_rfl
theorem res6 : Tryd.f6.results.toList.mapM (trR Tryd.prog) = some [.t 10] := by kernel_rfl
theorem nt6 : Tryd.f6.ntmps = 96 := by kernel_rfl
theorem nm6 : (Tryd.f6.name == "runtime.NumGoroutine") = false := by kernel_rfl
def a6_0 : List AO := [⟨(some 5), none, .box 31 (.t 0)⟩,
  ⟨(some 6), none, .box 34 (.t 1)⟩,
  ⟨(some 10), none, .mv (.v (.bool false))⟩]
theorem tr6_0 : (ro Tryd.f6 0).toList.mapM (trO Tryd.prog 96 (ro Tryd.f6 0)) = some a6_0 := by kernel_rfl
def a6_1 : List AO := [⟨(some 14), none, .load (some 2) (.t 5)⟩,
  ⟨(some 15), none, .load (some 7) (.t 6)⟩,
  ⟨(some 16), none, .slc 34 7 false [(.t 15)]⟩,
  ⟨(some 17), none, .mv (.t 2)⟩,
  ⟨(some 18), none, .call 13 [(.t 14), (.t 16), (.t 17)]⟩,
  ⟨(some 19), none, .un .not (.t 18)⟩,
  ⟨(some 20), none, .mv (.t 19)⟩,
  ⟨(some 21), some (20, false), .fld 1 (.t 6)⟩,
  ⟨(some 22), some (20, false), .load none (.t 21)⟩,
  ⟨(some 23), some (20, false), .bin .eql (.t 22) (.v (.int .i64 4))⟩,
  ⟨(some 24), none, .pick (.t 20) (.v (.bool true)) (.t 23)⟩]
theorem tr6_1 : (ro Tryd.f6 1).toList.mapM (trO Tryd.prog 96 (ro Tryd.f6 1)) = some a6_1 := by kernel_rfl
def a6_2 : List AO := [⟨(some 25), none, .call 12 []⟩,
  ⟨(some 10), none, .mv (.t 25)⟩]
theorem tr6_2 : (ro Tryd.f6 2).toList.mapM (trO Tryd.prog 96 (ro Tryd.f6 2)) = some a6_2 := by kernel_rfl
def a6_3 : List AO := [⟨(some 26), none, .mv (.t 4)⟩,
  ⟨(some 27), none, .conv .i64 (.t 26)⟩,
  ⟨(some 28), none, .mv (.t 2)⟩,
  ⟨(some 29), none, .len (.t 28)⟩,
  ⟨(some 30), none, .bin .add (.t 29) (.v (.int .i64 1))⟩,
  ⟨(some 31), none, .bin .rem (.t 27) (.t 30)⟩,
  ⟨(some 11), none, .mv (.t 31)⟩]
theorem tr6_3 : (ro Tryd.f6 3).toList.mapM (trO Tryd.prog 96 (ro Tryd.f6 3)) = some a6_3 := by kernel_rfl
def a6_4 : List AO := [⟨(some 32), none, .mv (.t 11)⟩,
  ⟨(some 33), none, .bin .gtr (.t 32) (.v (.int .i64 0))⟩,
  ⟨(some 34), none, .mv (.t 33)⟩,
  ⟨(some 35), some (34, true), .mv (.t 11)⟩,
  ⟨(some 36), some (34, true), .mv (.t 2)⟩,
  ⟨(some 37), some (34, true), .len (.t 36)⟩,
  ⟨(some 38), some (34, true), .bin .lss (.t 35) (.t 37)⟩,
  ⟨(some 39), none, .pick (.t 34) (.t 38) (.v (.bool false))⟩]
theorem tr6_4 : (ro Tryd.f6 4).toList.mapM (trO Tryd.prog 96 (ro Tryd.f6 4)) = some a6_4 := by kernel_rfl
def a6_5 : List AO := [⟨(some 40), none, .mv (.t 2)⟩,
  ⟨(some 41), none, .mv (.t 11)⟩,
  ⟨(some 42), none, .bin .sub (.t 41) (.v (.int .i64 1))⟩,
  ⟨(some 43), none, .idx 7 (.t 40) (.t 42)⟩,
  ⟨(some 44), none, .load (some 7) (.t 43)⟩,
  ⟨(some 45), none, .mv (.t 2)⟩,
  ⟨(some 46), none, .mv (.t 11)⟩,
  ⟨(some 47), none, .idx 7 (.t 45) (.t 46)⟩,
  ⟨(some 48), none, .load (some 7) (.t 47)⟩,
  ⟨(some 12), none, .alloc 46 [(.str []), (.int .i64 0), (.int .i64 0), (.str []), (.str []), (.int .i64 0), (.int .i64 0)]⟩,
  ⟨(some 13), none, .alloc 46 [(.str []), (.int .i64 0), (.int .i64 0), (.str []), (.str []), (.int .i64 0), (.int .i64 0)]⟩,
  ⟨none, none, .store 7 (.t 12) (.t 44)⟩,
  ⟨none, none, .store 7 (.t 13) (.t 48)⟩]
theorem tr6_5 : (ro Tryd.f6 5).toList.mapM (trO Tryd.prog 96 (ro Tryd.f6 5)) = some a6_5 := by kernel_rfl
def d6_5 : List (List Nat) := [[], [], [1], [0, 1, 2], [0, 1, 2, 3], [], [], [5, 6], [5, 6, 7], [], [], [0, 1, 2, 3, 4, 9, 10], [0, 1, 2, 3, 4, 5, 6, 7, 8, 9, 10, 11]]
theorem ok6_5 : okReg (ro Tryd.f6 5) a6_5 d6_5 = true := by kernel_rfl
def a6_6 : List AO := [⟨(some 49), none, .fld 4 (.t 12)⟩,
  ⟨(some 50), none, .load none (.t 49)⟩,
  ⟨(some 51), none, .fld 3 (.t 13)⟩,
  ⟨(some 52), none, .load none (.t 51)⟩,
  ⟨(some 53), none, .bin .eql (.t 50) (.t 52)⟩,
  ⟨(some 54), none, .mv (.t 53)⟩,
  ⟨(some 55), some (54, true), .fld 5 (.t 13)⟩,
  ⟨(some 56), some (54, true), .load none (.t 55)⟩,
  ⟨(some 57), some (54, true), .fld 6 (.t 12)⟩,
  ⟨(some 58), some (54, true), .load none (.t 57)⟩,
  ⟨(some 59), some (54, true), .bin .geq (.t 56) (.t 58)⟩,
  ⟨(some 60), none, .pick (.t 54) (.t 59) (.v (.bool false))⟩,
  ⟨(some 61), none, .mv (.t 60)⟩,
  ⟨(some 62), some (61, true), .fld 5 (.t 13)⟩,
  ⟨(some 63), some (61, true), .load none (.t 62)⟩,
  ⟨(some 64), some (61, true), .fld 6 (.t 12)⟩,
  ⟨(some 65), some (61, true), .load none (.t 64)⟩,
  ⟨(some 66), some (61, true), .bin .sub (.t 63) (.t 65)⟩,
  ⟨(some 67), some (61, true), .fld 5 (.t 6)⟩,
  ⟨(some 68), some (61, true), .load none (.t 67)⟩,
  ⟨(some 69), some (61, true), .bin .leq (.t 66) (.t 68)⟩,
  ⟨(some 70), none, .pick (.t 61) (.t 69) (.v (.bool false))⟩]
theorem tr6_6 : (ro Tryd.f6 6).toList.mapM (trO Tryd.prog 96 (ro Tryd.f6 6)) = some a6_6 := by kernel_rfl
def a6_7 : List AO := [⟨(some 71), none, .call 12 []⟩,
  ⟨(some 10), none, .mv (.t 71)⟩]
theorem tr6_7 : (ro Tryd.f6 7).toList.mapM (trO Tryd.prog 96 (ro Tryd.f6 7)) = some a6_7 := by kernel_rfl
def a6_8 : List AO := [⟨(some 72), none, .load (some 2) (.t 5)⟩,
  ⟨(some 73), none, .load (some 7) (.t 6)⟩,
  ⟨(some 74), none, .mv (.t 2)⟩,
  ⟨(some 75), none, .mv (.t 3)⟩,
  ⟨(some 76), none, .call 14 [(.t 72), (.t 73), (.t 74), (.t 75)]⟩,
  ⟨(some 77), none, .load (some 2) (.t 5)⟩,
  ⟨(some 78), none, .load (some 7) (.t 6)⟩,
  ⟨(some 79), none, .mv (.t 2)⟩,
  ⟨(some 80), none, .mv (.t 11)⟩,
  ⟨(some 81), none, .sub 7 none (some (.t 80)) none (.t 79)⟩,
  ⟨(some 82), none, .mv (.t 3)⟩,
  ⟨(some 83), none, .call 14 [(.t 77), (.t 78), (.t 81), (.t 82)]⟩,
  ⟨(some 84), none, .load (some 2) (.t 5)⟩,
  ⟨(some 85), none, .load (some 7) (.t 6)⟩,
  ⟨(some 86), none, .mv (.t 2)⟩,
  ⟨(some 87), none, .mv (.t 11)⟩,
  ⟨(some 88), none, .sub 7 (some (.t 87)) none none (.t 86)⟩,
  ⟨(some 89), none, .mv (.t 3)⟩,
  ⟨(some 90), none, .call 14 [(.t 84), (.t 85), (.t 88), (.t 89)]⟩,
  ⟨(some 91), none, .bin .add (.t 83) (.t 90)⟩,
  ⟨(some 92), none, .bin .eql (.t 76) (.t 91)⟩,
  ⟨(some 93), none, .mv (.t 92)⟩,
  ⟨(some 94), some (93, true), .call 12 []⟩,
  ⟨(some 95), none, .pick (.t 93) (.t 94) (.v (.bool false))⟩,
  ⟨(some 10), none, .mv (.t 95)⟩]
theorem tr6_8 : (ro Tryd.f6 8).toList.mapM (trO Tryd.prog 96 (ro Tryd.f6 8)) = some a6_8 := by kernel_rfl
def d6_8 : List (List Nat) := [[], [], [], [], [0, 1, 2, 3], [], [], [], [], [7, 8], [], [0, 1, 2, 3, 4, 5, 6, 7, 8, 9, 10], [], [], [], [], [14, 15], [], [0, 1, 2, 3, 4, 5, 6, 7, 8, 9, 10, 11, 12, 13, 14, 15, 16, 17], [0, 1, 2, 3, 4, 5, 6, 7, 8, 9, 10, 11, 12, 13, 14, 15, 16, 17, 18], [0, 1, 2, 3, 4, 5, 6, 7, 8, 9, 10, 11, 12, 13, 14, 15, 16, 17, 18, 19], [0, 1, 2, 3, 4, 5, 6, 7, 8, 9, 10, 11, 12, 13, 14, 15, 16, 17, 18, 19, 20], [0, 1, 2, 3, 4, 5, 6, 7, 8, 9, 10, 11, 12, 13, 14, 15, 16, 17, 18, 19, 20, 21], [0, 1, 2, 3, 4, 5, 6, 7, 8, 9, 10, 11, 12, 13, 14, 15, 16, 17, 18, 19, 20, 21, 22], [0, 1, 2, 3, 4, 5, 6, 7, 8, 9, 10, 11, 12, 13, 14, 15, 16, 17, 18, 19, 20, 21, 22, 23]]
theorem ok6_8 : okReg (ro Tryd.f6 8) a6_8 d6_8 = true := by kernel_rfl
/-- airline/airlinelaw27.TaxSums -/
noncomputable def c7 : Code := .seq (.region 0 (ro Tryd.f7 0) false) (.seq (.seq (.region 1 (ro Tryd.f7 1) false) (.cond (.tmp 9) (.seq (.region 2 (ro Tryd.f7 2) false) (.ret)) (.skip))) (.seq (.region 3 (ro Tryd.f7 3) false) (.seq (.region 4 (ro Tryd.f7 4) false) (.seq (.region 5 (ro Tryd.f7 5) false) (.ret)))))
theorem body7 : Tryd.f7.body = some c7 := by kernel_rfl
theorem res7 : Tryd.f7.results.toList.mapM (trR Tryd.prog) = some [.t 2] := by kernel_rfl
theorem nt7 : Tryd.f7.ntmps = 32 := by kernel_rfl
theorem nm7 : (Tryd.f7.name == "runtime.NumGoroutine") = false := by kernel_rfl
def a7_0 : List AO := [⟨(some 2), none, .mv (.v (.bool false))⟩]
theorem tr7_0 : (ro Tryd.f7 0).toList.mapM (trO Tryd.prog 32 (ro Tryd.f7 0)) = some a7_0 := by kernel_rfl
def a7_1 : List AO := [⟨(some 7), none, .mv (.t 0)⟩,
  ⟨(some 8), none, .len (.t 7)⟩,
  ⟨(some 9), none, .bin .gtr (.t 8) (.v (.int .i64 100))⟩]
theorem tr7_1 : (ro Tryd.f7 1).toList.mapM (trO Tryd.prog 32 (ro Tryd.f7 1)) = some a7_1 := by kernel_rfl
def a7_2 : List AO := [⟨(some 10), none, .call 12 []⟩,
  ⟨(some 2), none, .mv (.t 10)⟩]
theorem tr7_2 : (ro Tryd.f7 2).toList.mapM (trO Tryd.prog 32 (ro Tryd.f7 2)) = some a7_2 := by kernel_rfl
def a7_3 : List AO := [⟨(some 12), none, .mv (.t 0)⟩,
  ⟨(some 13), none, .call 19 [(.t 12)]⟩,
  ⟨(some 11), none, .mv (.t 13)⟩,
  ⟨(some 14), none, .ext 0 (.t 11)⟩,
  ⟨(some 15), none, .ext 1 (.t 11)⟩,
  ⟨(some 3), none, .mv (.t 14)⟩,
  ⟨(some 4), none, .mv (.t 15)⟩]
theorem tr7_3 : (ro Tryd.f7 3).toList.mapM (trO Tryd.prog 32 (ro Tryd.f7 3)) = some a7_3 := by kernel_rfl
def a7_4 : List AO := [⟨(some 17), none, .mv (.t 0)⟩,
  ⟨(some 18), none, .call 20 [(.t 17)]⟩,
  ⟨(some 16), none, .mv (.t 18)⟩,
  ⟨(some 19), none, .ext 0 (.t 16)⟩,
  ⟨(some 20), none, .ext 1 (.t 16)⟩,
  ⟨(some 5), none, .mv (.t 19)⟩,
  ⟨(some 6), none, .mv (.t 20)⟩]
theorem tr7_4 : (ro Tryd.f7 4).toList.mapM (trO Tryd.prog 32 (ro Tryd.f7 4)) = some a7_4 := by kernel_rfl
def a7_5 : List AO := [⟨(some 21), none, .mv (.t 3)⟩,
  ⟨(some 22), none, .mv (.t 5)⟩,
  ⟨(some 23), none, .bin .eql (.t 21) (.t 22)⟩,
  ⟨(some 24), none, .mv (.t 23)⟩,
  ⟨(some 25), some (24, true), .mv (.t 4)⟩,
  ⟨(some 26), some (24, true), .mv (.t 6)⟩,
  ⟨(some 27), some (24, true), .bin .eql (.t 25) (.t 26)⟩,
  ⟨(some 28), none, .pick (.t 24) (.t 27) (.v (.bool false))⟩,
  ⟨(some 29), none, .mv (.t 28)⟩,
  ⟨(some 30), some (29, true), .call 12 []⟩,
  ⟨(some 31), none, .pick (.t 29) (.t 30) (.v (.bool false))⟩,
  ⟨(some 2), none, .mv (.t 31)⟩]
theorem tr7_5 : (ro Tryd.f7 5).toList.mapM (trO Tryd.prog 32 (ro Tryd.f7 5)) = some a7_5 := by kernel_rfl
/-- airline/airlinelaw27.few -/
noncomputable def c8 : Code := .seq (.region 0 (ro Tryd.f8 0) false) (.seq (.seq (.region 1 (ro Tryd.f8 1) false) (.cond (.tmp 6) (.seq (.region 2 (ro Tryd.f8 2) false) (.ret)) (.skip))) (.seq (.seq (.region 3 (ro Tryd.f8 3) false) (.block 0 (.loop (.seq (.seq (.region 4 (ro Tryd.f8 4) false) (.cond (.tmp 10) (.skip) (.exit 0))) (.seq (.block 1 (.seq (.region 6 (ro Tryd.f8 6) false) (.cond (.tmp 19) (.seq (.region 7 (ro Tryd.f8 7) false) (.ret)) (.skip)))) (.region 5 (ro Tryd.f8 5) false)))))) (.seq (.region 8 (ro Tryd.f8 8) false) (.ret))))
theorem body8 : Tryd.f8.body = some c8 := by kernel_rfl
theorem res8 : Tryd.f8.results.toList.mapM (trR Tryd.prog) = some [.t 2] := by kernel_rfl
theorem nt8 : Tryd.f8.ntmps = 20 := by kernel_rfl
theorem nm8 : (Tryd.f8.name == "runtime.NumGoroutine") = false := by kernel_rfl
def a8_0 : List AO := [⟨(some 2), none, .mv (.v (.bool false))⟩]
theorem tr8_0 : (ro Tryd.f8 0).toList.mapM (trO Tryd.prog 20 (ro Tryd.f8 0)) = some a8_0 := by kernel_rfl
def a8_1 : List AO := [⟨(some 4), none, .mv (.t 0)⟩,
  ⟨(some 5), none, .len (.t 4)⟩,
  ⟨(some 6), none, .bin .gtr (.t 5) (.v (.int .i64 60))⟩]
theorem tr8_1 : (ro Tryd.f8 1).toList.mapM (trO Tryd.prog 20 (ro Tryd.f8 1)) = some a8_1 := by kernel_rfl
def a8_2 : List AO := [⟨(some 2), none, .mv (.v (.bool false))⟩]
theorem tr8_2 : (ro Tryd.f8 2).toList.mapM (trO Tryd.prog 20 (ro Tryd.f8 2)) = some a8_2 := by kernel_rfl
def a8_3 : List AO := [⟨(some 3), none, .mv (.v (.int .i64 0))⟩]
theorem tr8_3 : (ro Tryd.f8 3).toList.mapM (trO Tryd.prog 20 (ro Tryd.f8 3)) = some a8_3 := by kernel_rfl
def a8_4 : List AO := [⟨(some 7), none, .mv (.t 3)⟩,
  ⟨(some 8), none, .mv (.t 0)⟩,
  ⟨(some 9), none, .len (.t 8)⟩,
  ⟨(some 10), none, .bin .lss (.t 7) (.t 9)⟩]
theorem tr8_4 : (ro Tryd.f8 4).toList.mapM (trO Tryd.prog 20 (ro Tryd.f8 4)) = some a8_4 := by kernel_rfl
def a8_6 : List AO := [⟨(some 13), none, .mv (.t 0)⟩,
  ⟨(some 14), none, .mv (.t 3)⟩,
  ⟨(some 15), none, .idx 7 (.t 13) (.t 14)⟩,
  ⟨(some 16), none, .fld 6 (.t 15)⟩,
  ⟨(some 17), none, .load none (.t 16)⟩,
  ⟨(some 18), none, .len (.t 17)⟩,
  ⟨(some 19), none, .bin .gtr (.t 18) (.v (.int .i64 60))⟩]
theorem tr8_6 : (ro Tryd.f8 6).toList.mapM (trO Tryd.prog 20 (ro Tryd.f8 6)) = some a8_6 := by kernel_rfl
def a8_7 : List AO := [⟨(some 2), none, .mv (.v (.bool false))⟩]
theorem tr8_7 : (ro Tryd.f8 7).toList.mapM (trO Tryd.prog 20 (ro Tryd.f8 7)) = some a8_7 := by kernel_rfl
def a8_5 : List AO := [⟨(some 11), none, .mv (.t 3)⟩,
  ⟨(some 12), none, .bin .add (.t 11) (.v (.int .i64 1))⟩,
  ⟨(some 3), none, .mv (.t 12)⟩]
theorem tr8_5 : (ro Tryd.f8 5).toList.mapM (trO Tryd.prog 20 (ro Tryd.f8 5)) = some a8_5 := by kernel_rfl
def a8_8 : List AO := [⟨(some 2), none, .mv (.v (.bool true))⟩]
theorem tr8_8 : (ro Tryd.f8 8).toList.mapM (trO Tryd.prog 20 (ro Tryd.f8 8)) = some a8_8 := by kernel_rfl
/-- airline/airlinelaw06.SameFaults -/
noncomputable def c9 : Code := .seq (.region 0 (ro Tryd.f9 0) false) (.seq (.seq (.region 1 (ro Tryd.f9 1) false) (.cond (.tmp 10) (.seq (.region 2 (ro Tryd.f9 2) false) (.ret)) (.skip))) (.seq (.seq (.region 3 (ro Tryd.f9 3) false) (.block 0 (.loop (.seq (.seq (.region 4 (ro Tryd.f9 4) false) (.cond (.tmp 14) (.skip) (.exit 0))) (.seq (.block 1 (.seq (.region 6 (ro Tryd.f9 6) true) (.cond (.tmp 25) (.seq (.region 7 (ro Tryd.f9 7) false) (.ret)) (.skip)))) (.region 5 (ro Tryd.f9 5) false)))))) (.seq (.region 8 (ro Tryd.f9 8) false) (.ret))))
theorem body9 : Tryd.f9.body = some c9 := by kernel_rfl
theorem res9 : Tryd.f9.results.toList.mapM (trR Tryd.prog) = some [.t 4] := by kernel_rfl
theorem nt9 : Tryd.f9.ntmps = 26 := by kernel_rfl
theorem nm9 : (Tryd.f9.name == "runtime.NumGoroutine") = false := by kernel_rfl
def a9_0 : List AO := [⟨(some 4), none, .mv (.v (.bool false))⟩]
theorem tr9_0 : (ro Tryd.f9 0).toList.mapM (trO Tryd.prog 26 (ro Tryd.f9 0)) = some a9_0 := by kernel_rfl
def a9_1 : List AO := [⟨(some 6), none, .mv (.t 0)⟩,
  ⟨(some 7), none, .len (.t 6)⟩,
  ⟨(some 8), none, .mv (.t 1)⟩,
  ⟨(some 9), none, .len (.t 8)⟩,
  ⟨(some 10), none, .bin .neq (.t 7) (.t 9)⟩]
theorem tr9_1 : (ro Tryd.f9 1).toList.mapM (trO Tryd.prog 26 (ro Tryd.f9 1)) = some a9_1 := by kernel_rfl
def a9_2 : List AO := [⟨(some 4), none, .mv (.v (.bool false))⟩]
theorem tr9_2 : (ro Tryd.f9 2).toList.mapM (trO Tryd.prog 26 (ro Tryd.f9 2)) = some a9_2 := by kernel_rfl
def a9_3 : List AO := [⟨(some 5), none, .mv (.v (.int .i64 0))⟩]
theorem tr9_3 : (ro Tryd.f9 3).toList.mapM (trO Tryd.prog 26 (ro Tryd.f9 3)) = some a9_3 := by kernel_rfl
def a9_4 : List AO := [⟨(some 11), none, .mv (.t 5)⟩,
  ⟨(some 12), none, .mv (.t 0)⟩,
  ⟨(some 13), none, .len (.t 12)⟩,
  ⟨(some 14), none, .bin .lss (.t 11) (.t 13)⟩]
theorem tr9_4 : (ro Tryd.f9 4).toList.mapM (trO Tryd.prog 26 (ro Tryd.f9 4)) = some a9_4 := by kernel_rfl
def a9_6 : List AO := [⟨(some 17), none, .mv (.t 0)⟩,
  ⟨(some 18), none, .mv (.t 5)⟩,
  ⟨(some 19), none, .idx 2 (.t 17) (.t 18)⟩,
  ⟨(some 20), none, .load (some 2) (.t 19)⟩,
  ⟨(some 21), none, .mv (.t 1)⟩,
  ⟨(some 22), none, .mv (.t 5)⟩,
  ⟨(some 23), none, .idx 2 (.t 21) (.t 22)⟩,
  ⟨(some 24), none, .load (some 2) (.t 23)⟩,
  ⟨(some 25), none, .bina [.i .i64, .s] .neq (.t 20) (.t 24)⟩]
theorem tr9_6 : (ro Tryd.f9 6).toList.mapM (trO Tryd.prog 26 (ro Tryd.f9 6)) = some a9_6 := by kernel_rfl
def d9_6 : List (List Nat) := [[], [], [0, 1], [0, 1, 2], [], [], [4, 5], [4, 5, 6], [0, 1, 2, 3, 4, 5, 6, 7]]
theorem ok9_6 : okReg (ro Tryd.f9 6) a9_6 d9_6 = true := by kernel_rfl
def a9_7 : List AO := [⟨(some 4), none, .mv (.v (.bool false))⟩]
theorem tr9_7 : (ro Tryd.f9 7).toList.mapM (trO Tryd.prog 26 (ro Tryd.f9 7)) = some a9_7 := by kernel_rfl
def a9_5 : List AO := [⟨(some 15), none, .mv (.t 5)⟩,
  ⟨(some 16), none, .bin .add (.t 15) (.v (.int .i64 1))⟩,
  ⟨(some 5), none, .mv (.t 16)⟩]
theorem tr9_5 : (ro Tryd.f9 5).toList.mapM (trO Tryd.prog 26 (ro Tryd.f9 5)) = some a9_5 := by kernel_rfl
def a9_8 : List AO := [⟨(some 4), none, .mv (.v (.bool true))⟩]
theorem tr9_8 : (ro Tryd.f9 8).toList.mapM (trO Tryd.prog 26 (ro Tryd.f9 8)) = some a9_8 := by kernel_rfl
/-- airline/tax.Check -/
noncomputable def c10 : Code := .seq (.region 0 (ro Tryd.f10 0) false) (.seq (.region 1 (ro Tryd.f10 1) false) (.seq (.seq (.region 2 (ro Tryd.f10 2) false) (.block 0 (.loop (.seq (.region 3 (ro Tryd.f10 3) false) (.seq (.cond (.tmp 11) (.skip) (.exit 0)) (.seq (.block 1 (.seq (.region 4 (ro Tryd.f10 4) false) (.seq (.region 5 (ro Tryd.f10 5) false) (.seq (.region 6 (ro Tryd.f10 6) false) (.seq (.region 7 (ro Tryd.f10 7) false) (.seq (.region 8 (ro Tryd.f10 8) false) (.seq (.seq (.region 9 (ro Tryd.f10 9) false) (.cond (.tmp 45) (.region 10 (ro Tryd.f10 10) false) (.skip))) (.region 11 (ro Tryd.f10 11) false)))))))) (.region 12 (ro Tryd.f10 12) false))))))) (.seq (.region 13 (ro Tryd.f10 13) false) (.ret))))
theorem body10 : Tryd.f10.body = some c10 := by kernel_rfl
theorem res10 : Tryd.f10.results.toList.mapM (trR Tryd.prog) = some [.t 2] := by kernel_rfl
theorem nt10 : Tryd.f10.ntmps = 79 := by kernel_rfl
theorem nm10 : (Tryd.f10.name == "runtime.NumGoroutine") = false := by kernel_rfl
def a10_0 : List AO := [⟨(some 2), none, .mv (.v .nils)⟩]
theorem tr10_0 : (ro Tryd.f10 0).toList.mapM (trO Tryd.prog 79 (ro Tryd.f10 0)) = some a10_0 := by kernel_rfl
def a10_1 : List AO := [⟨(some 3), none, .alloc 25 [.nils]⟩]
theorem tr10_1 : (ro Tryd.f10 1).toList.mapM (trO Tryd.prog 79 (ro Tryd.f10 1)) = some a10_1 := by kernel_rfl
def a10_2 : List AO := [⟨(some 8), none, .mv (.t 0)⟩,
  ⟨(some 9), none, .len (.t 8)⟩,
  ⟨(some 10), none, .mv (.v (.int .i64 0))⟩]
theorem tr10_2 : (ro Tryd.f10 2).toList.mapM (trO Tryd.prog 79 (ro Tryd.f10 2)) = some a10_2 := by kernel_rfl
def a10_3 : List AO := [⟨(some 11), none, .bin .lss (.t 10) (.t 9)⟩]
theorem tr10_3 : (ro Tryd.f10 3).toList.mapM (trO Tryd.prog 79 (ro Tryd.f10 3)) = some a10_3 := by kernel_rfl
def a10_4 : List AO := [⟨(some 12), none, .mv (.t 10)⟩,
  ⟨(some 13), none, .idx 7 (.t 8) (.t 10)⟩,
  ⟨(some 14), none, .load (some 7) (.t 13)⟩,
  ⟨(some 4), none, .alloc 3 [(.int .i64 0)]⟩,
  ⟨(some 5), none, .alloc 34 [(.str []), (.int .i64 0), (.str []), (.int .i64 0), (.int .i64 0), (.int .i64 0), .nils]⟩,
  ⟨none, none, .store 1 (.t 4) (.t 12)⟩,
  ⟨none, none, .store 7 (.t 5) (.t 14)⟩]
theorem tr10_4 : (ro Tryd.f10 4).toList.mapM (trO Tryd.prog 79 (ro Tryd.f10 4)) = some a10_4 := by kernel_rfl
def a10_5 : List AO := [⟨(some 15), none, .mkfn 21 [(.t 3), (.t 4)]⟩,
  ⟨(some 6), none, .mv (.t 15)⟩]
theorem tr10_5 : (ro Tryd.f10 5).toList.mapM (trO Tryd.prog 79 (ro Tryd.f10 5)) = some a10_5 := by kernel_rfl
def a10_6 : List AO := [⟨(some 16), none, .mv (.t 6)⟩,
  ⟨(some 17), none, .fld 0 (.t 5)⟩,
  ⟨(some 18), none, .load none (.t 17)⟩,
  ⟨(some 19), none, .call 23 [(.t 18), (.v (.int .i64 2)), (.v (.int .i64 2))]⟩,
  ⟨(some 20), none, .un .not (.t 19)⟩,
  ⟨(some 21), none, .mv (.t 20)⟩,
  ⟨(some 22), some (21, false), .fld 2 (.t 5)⟩,
  ⟨(some 23), some (21, false), .load none (.t 22)⟩,
  ⟨(some 24), some (21, false), .call 24 [(.t 23)]⟩,
  ⟨(some 25), some (21, false), .un .not (.t 24)⟩,
  ⟨(some 26), none, .pick (.t 21) (.v (.bool true)) (.t 25)⟩,
  ⟨(some 27), none, .mv (.t 26)⟩,
  ⟨(some 28), some (27, false), .fld 6 (.t 5)⟩,
  ⟨(some 29), some (27, false), .load none (.t 28)⟩,
  ⟨(some 30), some (27, false), .call 25 [(.t 29), (.v (.fn 26 []))]⟩,
  ⟨(some 31), none, .pick (.t 27) (.v (.bool true)) (.t 30)⟩,
  ⟨(some 32), none, .callv (.t 16) [(.t 31), (.v (.int .i64 5))]⟩]
theorem tr10_6 : (ro Tryd.f10 6).toList.mapM (trO Tryd.prog 79 (ro Tryd.f10 6)) = some a10_6 := by kernel_rfl
def a10_7 : List AO := [⟨(some 33), none, .mv (.t 6)⟩,
  ⟨(some 34), none, .fld 1 (.t 5)⟩,
  ⟨(some 35), none, .load none (.t 34)⟩,
  ⟨(some 36), none, .bin .lss (.t 35) (.v (.int .i64 1))⟩,
  ⟨(some 37), none, .mv (.t 36)⟩,
  ⟨(some 38), some (37, false), .fld 1 (.t 5)⟩,
  ⟨(some 39), some (37, false), .load none (.t 38)⟩,
  ⟨(some 40), some (37, false), .bin .gtr (.t 39) (.v (.int .i64 4))⟩,
  ⟨(some 41), none, .pick (.t 37) (.v (.bool true)) (.t 40)⟩,
  ⟨(some 42), none, .callv (.t 33) [(.t 41), (.v (.int .i64 8))]⟩]
theorem tr10_7 : (ro Tryd.f10 7).toList.mapM (trO Tryd.prog 79 (ro Tryd.f10 7)) = some a10_7 := by kernel_rfl
def a10_8 : List AO := [⟨(some 7), none, .mv (.v (.int .i64 1099511627776))⟩]
theorem tr10_8 : (ro Tryd.f10 8).toList.mapM (trO Tryd.prog 79 (ro Tryd.f10 8)) = some a10_8 := by kernel_rfl
def a10_9 : List AO := [⟨(some 43), none, .fld 1 (.t 5)⟩,
  ⟨(some 44), none, .load none (.t 43)⟩,
  ⟨(some 45), none, .bin .eql (.t 44) (.v (.int .i64 4))⟩]
theorem tr10_9 : (ro Tryd.f10 9).toList.mapM (trO Tryd.prog 79 (ro Tryd.f10 9)) = some a10_9 := by kernel_rfl
def a10_10 : List AO := [⟨(some 7), none, .mv (.v (.int .i64 100000))⟩]
theorem tr10_10 : (ro Tryd.f10 10).toList.mapM (trO Tryd.prog 79 (ro Tryd.f10 10)) = some a10_10 := by kernel_rfl
def a10_11 : List AO := [⟨(some 46), none, .mv (.t 6)⟩,
  ⟨(some 47), none, .fld 3 (.t 5)⟩,
  ⟨(some 48), none, .load none (.t 47)⟩,
  ⟨(some 49), none, .bin .lss (.t 48) (.v (.int .i64 0))⟩,
  ⟨(some 50), none, .mv (.t 49)⟩,
  ⟨(some 51), some (50, false), .fld 3 (.t 5)⟩,
  ⟨(some 52), some (50, false), .load none (.t 51)⟩,
  ⟨(some 53), some (50, false), .mv (.t 7)⟩,
  ⟨(some 54), some (50, false), .bin .gtr (.t 52) (.t 53)⟩,
  ⟨(some 55), none, .pick (.t 50) (.v (.bool true)) (.t 54)⟩,
  ⟨(some 56), none, .mv (.t 55)⟩,
  ⟨(some 57), some (56, false), .fld 4 (.t 5)⟩,
  ⟨(some 58), some (56, false), .load none (.t 57)⟩,
  ⟨(some 59), some (56, false), .bin .lss (.t 58) (.v (.int .i64 0))⟩,
  ⟨(some 60), none, .pick (.t 56) (.v (.bool true)) (.t 59)⟩,
  ⟨(some 61), none, .mv (.t 60)⟩,
  ⟨(some 62), some (61, false), .fld 4 (.t 5)⟩,
  ⟨(some 63), some (61, false), .load none (.t 62)⟩,
  ⟨(some 64), some (61, false), .bin .gtr (.t 63) (.v (.int .i64 2))⟩,
  ⟨(some 65), none, .pick (.t 61) (.v (.bool true)) (.t 64)⟩,
  ⟨(some 66), none, .mv (.t 65)⟩,
  ⟨(some 67), some (66, false), .fld 5 (.t 5)⟩,
  ⟨(some 68), some (66, false), .load none (.t 67)⟩,
  ⟨(some 69), some (66, false), .bin .lss (.t 68) (.v (.int .i64 0))⟩,
  ⟨(some 70), none, .pick (.t 66) (.v (.bool true)) (.t 69)⟩,
  ⟨(some 71), none, .mv (.t 70)⟩,
  ⟨(some 72), some (71, false), .fld 5 (.t 5)⟩,
  ⟨(some 73), some (71, false), .load none (.t 72)⟩,
  ⟨(some 74), some (71, false), .bin .gtr (.t 73) (.v (.int .i64 100000))⟩,
  ⟨(some 75), none, .pick (.t 71) (.v (.bool true)) (.t 74)⟩,
  ⟨(some 76), none, .callv (.t 46) [(.t 75), (.v (.int .i64 2))]⟩]
theorem tr10_11 : (ro Tryd.f10 11).toList.mapM (trO Tryd.prog 79 (ro Tryd.f10 11)) = some a10_11 := by kernel_rfl
def a10_12 : List AO := [⟨(some 77), none, .bin .add (.t 10) (.v (.int .i64 1))⟩,
  ⟨(some 10), none, .mv (.t 77)⟩]
theorem tr10_12 : (ro Tryd.f10 12).toList.mapM (trO Tryd.prog 79 (ro Tryd.f10 12)) = some a10_12 := by kernel_rfl
def a10_13 : List AO := [⟨(some 78), none, .load none (.t 3)⟩,
  ⟨(some 2), none, .mv (.t 78)⟩]
theorem tr10_13 : (ro Tryd.f10 13).toList.mapM (trO Tryd.prog 79 (ro Tryd.f10 13)) = some a10_13 := by kernel_rfl
/-- airline/airlineref27.Check -/
noncomputable def c11 : Code := .seq (.region 0 (ro Tryd.f11 0) false) (.seq (.region 1 (ro Tryd.f11 1) false) (.seq (.seq (.region 2 (ro Tryd.f11 2) false) (.block 0 (.loop (.seq (.seq (.region 3 (ro Tryd.f11 3) false) (.cond (.tmp 10) (.skip) (.exit 0))) (.seq (.block 1 (.seq (.region 5 (ro Tryd.f11 5) true) (.seq (.seq (.region 6 (ro Tryd.f11 6) false) (.cond (.tmp 22) (.region 7 (ro Tryd.f11 7) false) (.skip))) (.seq (.seq (.region 8 (ro Tryd.f11 8) false) (.cond (.tmp 35) (.region 9 (ro Tryd.f11 9) false) (.skip))) (.seq (.region 10 (ro Tryd.f11 10) true) (.cond (.tmp 71) (.region 11 (ro Tryd.f11 11) false) (.skip))))))) (.region 4 (ro Tryd.f11 4) false)))))) (.seq (.region 12 (ro Tryd.f11 12) false) (.ret))))
theorem body11 : Tryd.f11.body = some c11 := by kernel_rfl
theorem res11 : Tryd.f11.results.toList.mapM (trR Tryd.prog) = some [.t 2] := by kernel_rfl
theorem nt11 : Tryd.f11.ntmps = 78 := by kernel_rfl
theorem nm11 : (Tryd.f11.name == "runtime.NumGoroutine") = false := by kernel_rfl
def a11_0 : List AO := [⟨(some 2), none, .mv (.v .nils)⟩]
theorem tr11_0 : (ro Tryd.f11 0).toList.mapM (trO Tryd.prog 78 (ro Tryd.f11 0)) = some a11_0 := by kernel_rfl
def a11_1 : List AO := [⟨(some 3), none, .mv (.v .nils)⟩]
theorem tr11_1 : (ro Tryd.f11 1).toList.mapM (trO Tryd.prog 78 (ro Tryd.f11 1)) = some a11_1 := by kernel_rfl
def a11_2 : List AO := [⟨(some 4), none, .mv (.v (.int .i64 0))⟩]
theorem tr11_2 : (ro Tryd.f11 2).toList.mapM (trO Tryd.prog 78 (ro Tryd.f11 2)) = some a11_2 := by kernel_rfl
def a11_3 : List AO := [⟨(some 7), none, .mv (.t 4)⟩,
  ⟨(some 8), none, .mv (.t 0)⟩,
  ⟨(some 9), none, .len (.t 8)⟩,
  ⟨(some 10), none, .bin .lss (.t 7) (.t 9)⟩]
theorem tr11_3 : (ro Tryd.f11 3).toList.mapM (trO Tryd.prog 78 (ro Tryd.f11 3)) = some a11_3 := by kernel_rfl
def a11_5 : List AO := [⟨(some 13), none, .mv (.t 0)⟩,
  ⟨(some 14), none, .mv (.t 4)⟩,
  ⟨(some 15), none, .idx 7 (.t 13) (.t 14)⟩,
  ⟨(some 16), none, .load (some 7) (.t 15)⟩,
  ⟨(some 17), none, .mv (.t 4)⟩,
  ⟨(some 18), none, .call 27 [(.t 17)]⟩,
  ⟨(some 19), none, .bin .add (.v (.str [116, 97, 120, 32])) (.t 18)⟩,
  ⟨(some 5), none, .alloc 34 [(.str []), (.int .i64 0), (.str []), (.int .i64 0), (.int .i64 0), (.int .i64 0), .nils]⟩,
  ⟨none, none, .store 7 (.t 5) (.t 16)⟩,
  ⟨(some 6), none, .mv (.t 19)⟩]
theorem tr11_5 : (ro Tryd.f11 5).toList.mapM (trO Tryd.prog 78 (ro Tryd.f11 5)) = some a11_5 := by kernel_rfl
def d11_5 : List (List Nat) := [[], [], [0, 1], [0, 1, 2], [], [4], [4, 5], [], [0, 1, 2, 3, 4, 5, 7], [0, 1, 2, 3, 4, 5, 6, 7, 8]]
theorem ok11_5 : okReg (ro Tryd.f11 5) a11_5 d11_5 = true := by kernel_rfl
def a11_6 : List AO := [⟨(some 20), none, .load (some 7) (.t 5)⟩,
  ⟨(some 21), none, .call 28 [(.t 20)]⟩,
  ⟨(some 22), none, .un .not (.t 21)⟩]
theorem tr11_6 : (ro Tryd.f11 6).toList.mapM (trO Tryd.prog 78 (ro Tryd.f11 6)) = some a11_6 := by kernel_rfl
def a11_7 : List AO := [⟨(some 23), none, .mv (.t 3)⟩,
  ⟨(some 24), none, .mv (.t 6)⟩,
  ⟨(some 25), none, .build [(.int .i64 0), (.str [])] [(0, 1, (.v (.int .i64 5))), (1, 1, (.t 24))]⟩,
  ⟨(some 26), none, .slc 52 2 false [(.t 25)]⟩,
  ⟨(some 27), none, .app 52 2 24 (.t 23) (.t 26)⟩,
  ⟨(some 3), none, .mv (.t 27)⟩]
theorem tr11_7 : (ro Tryd.f11 7).toList.mapM (trO Tryd.prog 78 (ro Tryd.f11 7)) = some a11_7 := by kernel_rfl
def a11_8 : List AO := [⟨(some 28), none, .fld 1 (.t 5)⟩,
  ⟨(some 29), none, .load none (.t 28)⟩,
  ⟨(some 30), none, .bin .lss (.t 29) (.v (.int .i64 1))⟩,
  ⟨(some 31), none, .mv (.t 30)⟩,
  ⟨(some 32), some (31, false), .fld 1 (.t 5)⟩,
  ⟨(some 33), some (31, false), .load none (.t 32)⟩,
  ⟨(some 34), some (31, false), .bin .gtr (.t 33) (.v (.int .i64 4))⟩,
  ⟨(some 35), none, .pick (.t 31) (.v (.bool true)) (.t 34)⟩]
theorem tr11_8 : (ro Tryd.f11 8).toList.mapM (trO Tryd.prog 78 (ro Tryd.f11 8)) = some a11_8 := by kernel_rfl
def a11_9 : List AO := [⟨(some 36), none, .mv (.t 3)⟩,
  ⟨(some 37), none, .mv (.t 6)⟩,
  ⟨(some 38), none, .build [(.int .i64 0), (.str [])] [(0, 1, (.v (.int .i64 8))), (1, 1, (.t 37))]⟩,
  ⟨(some 39), none, .slc 52 2 false [(.t 38)]⟩,
  ⟨(some 40), none, .app 52 2 24 (.t 36) (.t 39)⟩,
  ⟨(some 3), none, .mv (.t 40)⟩]
theorem tr11_9 : (ro Tryd.f11 9).toList.mapM (trO Tryd.prog 78 (ro Tryd.f11 9)) = some a11_9 := by kernel_rfl
def a11_10 : List AO := [⟨(some 41), none, .fld 3 (.t 5)⟩,
  ⟨(some 42), none, .load none (.t 41)⟩,
  ⟨(some 43), none, .bin .lss (.t 42) (.v (.int .i64 0))⟩,
  ⟨(some 44), none, .mv (.t 43)⟩,
  ⟨(some 45), some (44, false), .fld 3 (.t 5)⟩,
  ⟨(some 46), some (44, false), .load none (.t 45)⟩,
  ⟨(some 47), some (44, false), .fld 1 (.t 5)⟩,
  ⟨(some 48), some (44, false), .load none (.t 47)⟩,
  ⟨(some 49), some (44, false), .call 29 [(.t 48)]⟩,
  ⟨(some 50), some (44, false), .bin .gtr (.t 46) (.t 49)⟩,
  ⟨(some 51), none, .pick (.t 44) (.v (.bool true)) (.t 50)⟩,
  ⟨(some 52), none, .mv (.t 51)⟩,
  ⟨(some 53), some (52, false), .fld 4 (.t 5)⟩,
  ⟨(some 54), some (52, false), .load none (.t 53)⟩,
  ⟨(some 55), some (52, false), .bin .lss (.t 54) (.v (.int .i64 0))⟩,
  ⟨(some 56), none, .pick (.t 52) (.v (.bool true)) (.t 55)⟩,
  ⟨(some 57), none, .mv (.t 56)⟩,
  ⟨(some 58), some (57, false), .fld 4 (.t 5)⟩,
  ⟨(some 59), some (57, false), .load none (.t 58)⟩,
  ⟨(some 60), some (57, false), .bin .gtr (.t 59) (.v (.int .i64 2))⟩,
  ⟨(some 61), none, .pick (.t 57) (.v (.bool true)) (.t 60)⟩,
  ⟨(some 62), none, .mv (.t 61)⟩,
  ⟨(some 63), some (62, false), .fld 5 (.t 5)⟩,
  ⟨(some 64), some (62, false), .load none (.t 63)⟩,
  ⟨(some 65), some (62, false), .bin .lss (.t 64) (.v (.int .i64 0))⟩,
  ⟨(some 66), none, .pick (.t 62) (.v (.bool true)) (.t 65)⟩,
  ⟨(some 67), none, .mv (.t 66)⟩,
  ⟨(some 68), some (67, false), .fld 5 (.t 5)⟩,
  ⟨(some 69), some (67, false), .load none (.t 68)⟩,
  ⟨(some 70), some (67, false), .bin .gtr (.t 69) (.v (.int .i64 100000))⟩,
  ⟨(some 71), none, .pick (.t 67) (.v (.bool true)) (.t 70)⟩]
theorem tr11_10 : (ro Tryd.f11 10).toList.mapM (trO Tryd.prog 78 (ro Tryd.f11 10)) = some a11_10 := by kernel_rfl
def d11_10 : List (List Nat) := [[], [0], [0, 1], [0, 1, 2], [0, 1, 2, 3], [0, 1, 2, 3, 4], [0, 1, 2, 3], [0, 1, 2, 3, 6], [0, 1, 2, 3, 6, 7], [0, 1, 2, 3, 4, 5, 6, 7, 8], [0, 1, 2, 3, 4, 5, 6, 7, 8, 9], [0, 1, 2, 3, 4, 5, 6, 7, 8, 9, 10], [0, 1, 2, 3, 4, 5, 6, 7, 8, 9, 10, 11], [0, 1, 2, 3, 4, 5, 6, 7, 8, 9, 10, 11, 12], [0, 1, 2, 3, 4, 5, 6, 7, 8, 9, 10, 11, 12, 13], [0, 1, 2, 3, 4, 5, 6, 7, 8, 9, 10, 11, 12, 13, 14], [0, 1, 2, 3, 4, 5, 6, 7, 8, 9, 10, 11, 12, 13, 14, 15], [0, 1, 2, 3, 4, 5, 6, 7, 8, 9, 10, 11, 12, 13, 14, 15, 16], [0, 1, 2, 3, 4, 5, 6, 7, 8, 9, 10, 11, 12, 13, 14, 15, 16, 17], [0, 1, 2, 3, 4, 5, 6, 7, 8, 9, 10, 11, 12, 13, 14, 15, 16, 17, 18], [0, 1, 2, 3, 4, 5, 6, 7, 8, 9, 10, 11, 12, 13, 14, 15, 16, 17, 18, 19], [0, 1, 2, 3, 4, 5, 6, 7, 8, 9, 10, 11, 12, 13, 14, 15, 16, 17, 18, 19, 20], [0, 1, 2, 3, 4, 5, 6, 7, 8, 9, 10, 11, 12, 13, 14, 15, 16, 17, 18, 19, 20, 21], [0, 1, 2, 3, 4, 5, 6, 7, 8, 9, 10, 11, 12, 13, 14, 15, 16, 17, 18, 19, 20, 21, 22], [0, 1, 2, 3, 4, 5, 6, 7, 8, 9, 10, 11, 12, 13, 14, 15, 16, 17, 18, 19, 20, 21, 22, 23], [0, 1, 2, 3, 4, 5, 6, 7, 8, 9, 10, 11, 12, 13, 14, 15, 16, 17, 18, 19, 20, 21, 22, 23, 24], [0, 1, 2, 3, 4, 5, 6, 7, 8, 9, 10, 11, 12, 13, 14, 15, 16, 17, 18, 19, 20, 21, 22, 23, 24, 25], [0, 1, 2, 3, 4, 5, 6, 7, 8, 9, 10, 11, 12, 13, 14, 15, 16, 17, 18, 19, 20, 21, 22, 23, 24, 25, 26], [0, 1, 2, 3, 4, 5, 6, 7, 8, 9, 10, 11, 12, 13, 14, 15, 16, 17, 18, 19, 20, 21, 22, 23, 24, 25, 26, 27], [0, 1, 2, 3, 4, 5, 6, 7, 8, 9, 10, 11, 12, 13, 14, 15, 16, 17, 18, 19, 20, 21, 22, 23, 24, 25, 26, 27, 28], [0, 1, 2, 3, 4, 5, 6, 7, 8, 9, 10, 11, 12, 13, 14, 15, 16, 17, 18, 19, 20, 21, 22, 23, 24, 25, 26, 27, 28, 29]]
theorem ok11_10 : okReg (ro Tryd.f11 10) a11_10 d11_10 = true := by kernel_rfl
def a11_11 : List AO := [⟨(some 72), none, .mv (.t 3)⟩,
  ⟨(some 73), none, .mv (.t 6)⟩,
  ⟨(some 74), none, .build [(.int .i64 0), (.str [])] [(0, 1, (.v (.int .i64 2))), (1, 1, (.t 73))]⟩,
  ⟨(some 75), none, .slc 52 2 false [(.t 74)]⟩,
  ⟨(some 76), none, .app 52 2 24 (.t 72) (.t 75)⟩,
  ⟨(some 3), none, .mv (.t 76)⟩]
theorem tr11_11 : (ro Tryd.f11 11).toList.mapM (trO Tryd.prog 78 (ro Tryd.f11 11)) = some a11_11 := by kernel_rfl
def a11_4 : List AO := [⟨(some 11), none, .mv (.t 4)⟩,
  ⟨(some 12), none, .bin .add (.t 11) (.v (.int .i64 1))⟩,
  ⟨(some 4), none, .mv (.t 12)⟩]
theorem tr11_4 : (ro Tryd.f11 4).toList.mapM (trO Tryd.prog 78 (ro Tryd.f11 4)) = some a11_4 := by kernel_rfl
def a11_12 : List AO := [⟨(some 77), none, .mv (.t 3)⟩,
  ⟨(some 2), none, .mv (.t 77)⟩]
theorem tr11_12 : (ro Tryd.f11 12).toList.mapM (trO Tryd.prog 78 (ro Tryd.f11 12)) = some a11_12 := by kernel_rfl
/-- airline/airlinelaw27.awake -/
noncomputable def c12 : Code := .seq (.region 0 (ro Tryd.f12 0) false) (.seq (.region 1 (ro Tryd.f12 1) false) (.seq (.region 2 (ro Tryd.f12 2) false) (.seq (.region 3 (ro Tryd.f12 3) false) (.seq (.region 4 (ro Tryd.f12 4) false) (.seq (.region 5 (ro Tryd.f12 5) false) (.seq (.region 6 (ro Tryd.f12 6) true) (.seq (.region 7 (ro Tryd.f12 7) false) (.seq (.region 8 (ro Tryd.f12 8) true) (.ret)))))))))
theorem body12 : Tryd.f12.body = some c12 := by kernel_rfl
theorem res12 : Tryd.f12.results.toList.mapM (trR Tryd.prog) = some [.t 0] := by kernel_rfl
theorem nt12 : Tryd.f12.ntmps = 70 := by kernel_rfl
theorem nm12 : (Tryd.f12.name == "runtime.NumGoroutine") = false := by kernel_rfl
def a12_0 : List AO := [⟨(some 0), none, .mv (.v (.bool false))⟩]
theorem tr12_0 : (ro Tryd.f12 0).toList.mapM (trO Tryd.prog 70 (ro Tryd.f12 0)) = some a12_0 := by kernel_rfl
def a12_1 : List AO := [⟨(some 9), none, .build [(.str []), (.int .i64 0), (.int .i64 0), (.str []), (.str []), (.int .i64 0), (.int .i64 0)] [(0, 1, (.v (.str [66, 65]))), (1, 1, (.v (.int .i64 1))), (3, 1, (.v (.str [76, 72, 82]))), (4, 1, (.v (.str [77, 65, 78]))), (5, 1, (.v (.int .i64 100))), (6, 1, (.v (.int .i64 160)))]⟩,
  ⟨(some 10), none, .build [(.str []), (.int .i64 0), (.int .i64 0), (.str []), (.str []), (.int .i64 0), (.int .i64 0)] [(0, 1, (.v (.str [66, 65]))), (1, 1, (.v (.int .i64 2))), (3, 1, (.v (.str [77, 65, 78]))), (4, 1, (.v (.str [67, 68, 71]))), (5, 1, (.v (.int .i64 280))), (6, 1, (.v (.int .i64 380)))]⟩,
  ⟨(some 11), none, .slc 46 7 false [(.t 9), (.t 10)]⟩,
  ⟨(some 1), none, .mv (.t 11)⟩]
theorem tr12_1 : (ro Tryd.f12 1).toList.mapM (trO Tryd.prog 70 (ro Tryd.f12 1)) = some a12_1 := by kernel_rfl
def a12_2 : List AO := [⟨(some 12), none, .build [(.str []), (.int .i64 0), (.str []), (.int .i64 0), (.int .i64 0), (.int .i64 0), .nils] [(0, 1, (.v (.str [71, 66]))), (1, 1, (.v (.int .i64 1))), (2, 1, (.v (.str [71, 66]))), (3, 1, (.v (.int .i64 1300))), (5, 1, (.v (.int .i64 240)))]⟩,
  ⟨(some 2), none, .alloc 34 [(.str []), (.int .i64 0), (.str []), (.int .i64 0), (.int .i64 0), (.int .i64 0), .nils]⟩,
  ⟨none, none, .store 7 (.t 2) (.t 12)⟩]
theorem tr12_2 : (ro Tryd.f12 2).toList.mapM (trO Tryd.prog 70 (ro Tryd.f12 2)) = some a12_2 := by kernel_rfl
def a12_3 : List AO := [⟨(some 13), none, .load (some 7) (.t 2)⟩,
  ⟨(some 3), none, .alloc 34 [(.str []), (.int .i64 0), (.str []), (.int .i64 0), (.int .i64 0), (.int .i64 0), .nils]⟩,
  ⟨none, none, .store 7 (.t 3) (.t 13)⟩]
theorem tr12_3 : (ro Tryd.f12 3).toList.mapM (trO Tryd.prog 70 (ro Tryd.f12 3)) = some a12_3 := by kernel_rfl
def a12_4 : List AO := [⟨(some 14), none, .fld 5 (.t 3)⟩,
  ⟨none, none, .store 1 (.t 14) (.v (.int .i64 60))⟩]
theorem tr12_4 : (ro Tryd.f12 4).toList.mapM (trO Tryd.prog 70 (ro Tryd.f12 4)) = some a12_4 := by kernel_rfl
def a12_5 : List AO := [⟨(some 15), none, .build [(.str []), (.int .i64 0), (.str []), (.int .i64 0), (.int .i64 0), (.int .i64 0), .nils] [(0, 1, (.v (.str [70, 82]))), (1, 1, (.v (.int .i64 4))), (2, 1, (.v (.str [70, 82]))), (3, 1, (.v (.int .i64 250)))]⟩,
  ⟨(some 4), none, .alloc 34 [(.str []), (.int .i64 0), (.str []), (.int .i64 0), (.int .i64 0), (.int .i64 0), .nils]⟩,
  ⟨none, none, .store 7 (.t 4) (.t 15)⟩]
theorem tr12_5 : (ro Tryd.f12 5).toList.mapM (trO Tryd.prog 70 (ro Tryd.f12 5)) = some a12_5 := by kernel_rfl
def a12_6 : List AO := [⟨(some 17), none, .call 30 []⟩,
  ⟨(some 18), none, .load (some 7) (.t 2)⟩,
  ⟨(some 19), none, .load (some 7) (.t 4)⟩,
  ⟨(some 20), none, .slc 34 7 false [(.t 18), (.t 19)]⟩,
  ⟨(some 21), none, .mv (.t 1)⟩,
  ⟨(some 22), none, .call 16 [(.t 17), (.t 20), (.t 21), (.v (.str [65, 68, 84])), (.v (.int .i64 20000))]⟩,
  ⟨(some 16), none, .mv (.t 22)⟩,
  ⟨(some 23), none, .ext 0 (.t 16)⟩,
  ⟨(some 24), none, .ext 1 (.t 16)⟩,
  ⟨(some 5), none, .mv (.t 23)⟩,
  ⟨(some 6), none, .mv (.t 24)⟩]
theorem tr12_6 : (ro Tryd.f12 6).toList.mapM (trO Tryd.prog 70 (ro Tryd.f12 6)) = some a12_6 := by kernel_rfl
def d12_6 : List (List Nat) := [[], [], [], [1, 2], [], [0, 1, 2, 3, 4], [0, 1, 2, 3, 4, 5], [0, 1, 2, 3, 4, 5, 6], [0, 1, 2, 3, 4, 5, 6], [0, 1, 2, 3, 4, 5, 6, 7], [0, 1, 2, 3, 4, 5, 6, 7, 8, 9]]
theorem ok12_6 : okReg (ro Tryd.f12 6) a12_6 d12_6 = true := by kernel_rfl
def a12_7 : List AO := [⟨(some 26), none, .mv (.t 5)⟩,
  ⟨(some 27), none, .call 19 [(.t 26)]⟩,
  ⟨(some 25), none, .mv (.t 27)⟩,
  ⟨(some 28), none, .ext 0 (.t 25)⟩,
  ⟨(some 29), none, .ext 1 (.t 25)⟩,
  ⟨(some 7), none, .mv (.t 28)⟩,
  ⟨(some 8), none, .mv (.t 29)⟩]
theorem tr12_7 : (ro Tryd.f12 7).toList.mapM (trO Tryd.prog 70 (ro Tryd.f12 7)) = some a12_7 := by kernel_rfl
def a12_8 : List AO := [⟨(some 30), none, .call 30 []⟩,
  ⟨(some 31), none, .load (some 7) (.t 2)⟩,
  ⟨(some 32), none, .mv (.t 1)⟩,
  ⟨(some 33), none, .call 14 [(.t 30), (.t 31), (.t 32), (.v (.str [65, 68, 84]))]⟩,
  ⟨(some 34), none, .bin .eql (.t 33) (.v (.int .i64 1))⟩,
  ⟨(some 35), none, .mv (.t 34)⟩,
  ⟨(some 36), some (35, true), .call 30 []⟩,
  ⟨(some 37), some (35, true), .load (some 7) (.t 3)⟩,
  ⟨(some 38), some (35, true), .mv (.t 1)⟩,
  ⟨(some 39), some (35, true), .call 14 [(.t 36), (.t 37), (.t 38), (.v (.str [65, 68, 84]))]⟩,
  ⟨(some 40), some (35, true), .bin .eql (.t 39) (.v (.int .i64 2))⟩,
  ⟨(some 41), none, .pick (.t 35) (.t 40) (.v (.bool false))⟩,
  ⟨(some 42), none, .mv (.t 41)⟩,
  ⟨(some 43), some (42, true), .mv (.t 6)⟩,
  ⟨(some 44), some (42, true), .bin .eql (.t 43) (.v (.int .i64 0))⟩,
  ⟨(some 45), none, .pick (.t 42) (.t 44) (.v (.bool false))⟩,
  ⟨(some 46), none, .mv (.t 45)⟩,
  ⟨(some 47), some (46, true), .mv (.t 5)⟩,
  ⟨(some 48), some (46, true), .build [(.str []), (.int .i64 0)] [(0, 1, (.v (.str [71, 66]))), (1, 1, (.v (.int .i64 1300)))]⟩,
  ⟨(some 49), some (46, true), .build [(.str []), (.int .i64 0)] [(0, 1, (.v (.str [70, 82]))), (1, 1, (.v (.int .i64 500)))]⟩,
  ⟨(some 50), some (46, true), .slc 62 2 false [(.t 48), (.t 49)]⟩,
  ⟨(some 51), some (46, true), .call 18 [(.t 47), (.t 50)]⟩,
  ⟨(some 52), none, .pick (.t 46) (.t 51) (.v (.bool false))⟩,
  ⟨(some 53), none, .mv (.t 52)⟩,
  ⟨(some 54), some (53, true), .mv (.t 7)⟩,
  ⟨(some 55), some (53, true), .bin .eql (.t 54) (.v (.int .i64 1800))⟩,
  ⟨(some 56), none, .pick (.t 53) (.t 55) (.v (.bool false))⟩,
  ⟨(some 57), none, .mv (.t 56)⟩,
  ⟨(some 58), some (57, true), .mv (.t 8)⟩,
  ⟨(some 59), some (57, true), .bin .eql (.t 58) (.v (.int .i64 0))⟩,
  ⟨(some 60), none, .pick (.t 57) (.t 59) (.v (.bool false))⟩,
  ⟨(some 61), none, .mv (.t 60)⟩,
  ⟨(some 62), some (61, true), .build [(.str []), (.int .i64 0), (.str []), (.int .i64 0), (.int .i64 0), (.int .i64 0), .nils] [(0, 1, (.v (.str [71, 66]))), (1, 1, (.v (.int .i64 5))), (2, 1, (.v (.str [103, 98])))]⟩,
  ⟨(some 63), some (61, true), .slc 34 7 false [(.t 62)]⟩,
  ⟨(some 64), some (61, true), .call 10 [(.t 63)]⟩,
  ⟨(some 65), some (61, true), .build [(.int .i64 0), (.str [])] [(0, 1, (.v (.int .i64 5))), (1, 1, (.v (.str [116, 97, 120, 32, 48])))]⟩,
  ⟨(some 66), some (61, true), .build [(.int .i64 0), (.str [])] [(0, 1, (.v (.int .i64 8))), (1, 1, (.v (.str [116, 97, 120, 32, 48])))]⟩,
  ⟨(some 67), some (61, true), .slc 52 2 false [(.t 65), (.t 66)]⟩,
  ⟨(some 68), some (61, true), .call 9 [(.t 64), (.t 67)]⟩,
  ⟨(some 69), none, .pick (.t 61) (.t 68) (.v (.bool false))⟩,
  ⟨(some 0), none, .mv (.t 69)⟩]
theorem tr12_8 : (ro Tryd.f12 8).toList.mapM (trO Tryd.prog 70 (ro Tryd.f12 8)) = some a12_8 := by kernel_rfl
def d12_8 : List (List Nat) := [[], [], [], [0, 1, 2], [0, 1, 2, 3], [0, 1, 2, 3, 4], [0, 1, 2, 3, 4, 5], [0, 1, 2, 3, 4, 5], [0, 1, 2, 3, 4, 5], [0, 1, 2, 3, 4, 5, 6, 7, 8], [0, 1, 2, 3, 4, 5, 6, 7, 8, 9], [0, 1, 2, 3, 4, 5, 6, 7, 8, 9, 10], [0, 1, 2, 3, 4, 5, 6, 7, 8, 9, 10, 11], [0, 1, 2, 3, 4, 5, 6, 7, 8, 9, 10, 11, 12], [0, 1, 2, 3, 4, 5, 6, 7, 8, 9, 10, 11, 12, 13], [0, 1, 2, 3, 4, 5, 6, 7, 8, 9, 10, 11, 12, 13, 14], [0, 1, 2, 3, 4, 5, 6, 7, 8, 9, 10, 11, 12, 13, 14, 15], [0, 1, 2, 3, 4, 5, 6, 7, 8, 9, 10, 11, 12, 13, 14, 15, 16], [0, 1, 2, 3, 4, 5, 6, 7, 8, 9, 10, 11, 12, 13, 14, 15, 16], [0, 1, 2, 3, 4, 5, 6, 7, 8, 9, 10, 11, 12, 13, 14, 15, 16], [0, 1, 2, 3, 4, 5, 6, 7, 8, 9, 10, 11, 12, 13, 14, 15, 16, 18, 19], [0, 1, 2, 3, 4, 5, 6, 7, 8, 9, 10, 11, 12, 13, 14, 15, 16, 17, 18, 19, 20], [0, 1, 2, 3, 4, 5, 6, 7, 8, 9, 10, 11, 12, 13, 14, 15, 16, 17, 18, 19, 20, 21], [0, 1, 2, 3, 4, 5, 6, 7, 8, 9, 10, 11, 12, 13, 14, 15, 16, 17, 18, 19, 20, 21, 22], [0, 1, 2, 3, 4, 5, 6, 7, 8, 9, 10, 11, 12, 13, 14, 15, 16, 17, 18, 19, 20, 21, 22, 23], [0, 1, 2, 3, 4, 5, 6, 7, 8, 9, 10, 11, 12, 13, 14, 15, 16, 17, 18, 19, 20, 21, 22, 23, 24], [0, 1, 2, 3, 4, 5, 6, 7, 8, 9, 10, 11, 12, 13, 14, 15, 16, 17, 18, 19, 20, 21, 22, 23, 24, 25], [0, 1, 2, 3, 4, 5, 6, 7, 8, 9, 10, 11, 12, 13, 14, 15, 16, 17, 18, 19, 20, 21, 22, 23, 24, 25, 26], [0, 1, 2, 3, 4, 5, 6, 7, 8, 9, 10, 11, 12, 13, 14, 15, 16, 17, 18, 19, 20, 21, 22, 23, 24, 25, 26, 27], [0, 1, 2, 3, 4, 5, 6, 7, 8, 9, 10, 11, 12, 13, 14, 15, 16, 17, 18, 19, 20, 21, 22, 23, 24, 25, 26, 27, 28], [0, 1, 2, 3, 4, 5, 6, 7, 8, 9, 10, 11, 12, 13, 14, 15, 16, 17, 18, 19, 20, 21, 22, 23, 24, 25, 26, 27, 28, 29], [0, 1, 2, 3, 4, 5, 6, 7, 8, 9, 10, 11, 12, 13, 14, 15, 16, 17, 18, 19, 20, 21, 22, 23, 24, 25, 26, 27, 28, 29, 30], [0, 1, 2, 3, 4, 5, 6, 7, 8, 9, 10, 11, 12, 13, 14, 15, 16, 17, 18, 19, 20, 21, 22, 23, 24, 25, 26, 27, 28, 29, 30, 31], [0, 1, 2, 3, 4, 5, 6, 7, 8, 9, 10, 11, 12, 13, 14, 15, 16, 17, 18, 19, 20, 21, 22, 23, 24, 25, 26, 27, 28, 29, 30, 31, 32], [0, 1, 2, 3, 4, 5, 6, 7, 8, 9, 10, 11, 12, 13, 14, 15, 16, 17, 18, 19, 20, 21, 22, 23, 24, 25, 26, 27, 28, 29, 30, 31, 32, 33], [0, 1, 2, 3, 4, 5, 6, 7, 8, 9, 10, 11, 12, 13, 14, 15, 16, 17, 18, 19, 20, 21, 22, 23, 24, 25, 26, 27, 28, 29, 30, 31], [0, 1, 2, 3, 4, 5, 6, 7, 8, 9, 10, 11, 12, 13, 14, 15, 16, 17, 18, 19, 20, 21, 22, 23, 24, 25, 26, 27, 28, 29, 30, 31], [0, 1, 2, 3, 4, 5, 6, 7, 8, 9, 10, 11, 12, 13, 14, 15, 16, 17, 18, 19, 20, 21, 22, 23, 24, 25, 26, 27, 28, 29, 30, 31, 35, 36], [0, 1, 2, 3, 4, 5, 6, 7, 8, 9, 10, 11, 12, 13, 14, 15, 16, 17, 18, 19, 20, 21, 22, 23, 24, 25, 26, 27, 28, 29, 30, 31, 32, 33, 34, 35, 36, 37], [0, 1, 2, 3, 4, 5, 6, 7, 8, 9, 10, 11, 12, 13, 14, 15, 16, 17, 18, 19, 20, 21, 22, 23, 24, 25, 26, 27, 28, 29, 30, 31, 32, 33, 34, 35, 36, 37, 38], [0, 1, 2, 3, 4, 5, 6, 7, 8, 9, 10, 11, 12, 13, 14, 15, 16, 17, 18, 19, 20, 21, 22, 23, 24, 25, 26, 27, 28, 29, 30, 31, 32, 33, 34, 35, 36, 37, 38, 39]]
theorem ok12_8 : okReg (ro Tryd.f12 8) a12_8 d12_8 = true := by kernel_rfl
/-- airline/airlinelaw27.right -/
noncomputable def c13 : Code := .seq (.region 0 (ro Tryd.f13 0) false) (.seq (.seq (.region 1 (ro Tryd.f13 1) false) (.cond (.tmp 32) (.seq (.region 2 (ro Tryd.f13 2) false) (.ret)) (.skip))) (.seq (.seq (.region 3 (ro Tryd.f13 3) false) (.block 0 (.loop (.seq (.seq (.region 4 (ro Tryd.f13 4) false) (.cond (.tmp 36) (.skip) (.exit 0))) (.seq (.block 1 (.seq (.region 6 (ro Tryd.f13 6) false) (.cond (.tmp 68) (.seq (.region 7 (ro Tryd.f13 7) false) (.ret)) (.skip)))) (.region 5 (ro Tryd.f13 5) false)))))) (.seq (.region 8 (ro Tryd.f13 8) false) (.ret))))
theorem body13 : Tryd.f13.body = some c13 := by kernel_rfl
theorem res13 : Tryd.f13.results.toList.mapM (trR Tryd.prog) = some [.t 6] := by kernel_rfl
theorem nt13 : Tryd.f13.ntmps = 69 := by kernel_rfl
theorem nm13 : (Tryd.f13.name == "runtime.NumGoroutine") = false := by kernel_rfl
def a13_0 : List AO := [⟨(some 3), none, .box 31 (.t 0)⟩,
  ⟨(some 6), none, .mv (.v (.bool false))⟩]
theorem tr13_0 : (ro Tryd.f13 0).toList.mapM (trO Tryd.prog 69 (ro Tryd.f13 0)) = some a13_0 := by kernel_rfl
def a13_1 : List AO := [⟨(some 8), none, .load (some 2) (.t 3)⟩,
  ⟨(some 9), none, .call 31 [(.t 8)]⟩,
  ⟨(some 10), none, .un .not (.t 9)⟩,
  ⟨(some 11), none, .mv (.t 10)⟩,
  ⟨(some 12), some (11, false), .mv (.t 1)⟩,
  ⟨(some 13), some (11, false), .call 8 [(.t 12)]⟩,
  ⟨(some 14), some (11, false), .un .not (.t 13)⟩,
  ⟨(some 15), none, .pick (.t 11) (.v (.bool true)) (.t 14)⟩,
  ⟨(some 16), none, .mv (.t 15)⟩,
  ⟨(some 17), some (16, false), .mv (.t 2)⟩,
  ⟨(some 18), some (16, false), .len (.t 17)⟩,
  ⟨(some 19), some (16, false), .bin .gtr (.t 18) (.v (.int .i64 12))⟩,
  ⟨(some 20), none, .pick (.t 16) (.v (.bool true)) (.t 19)⟩,
  ⟨(some 21), none, .mv (.t 20)⟩,
  ⟨(some 22), some (21, false), .load (some 2) (.t 3)⟩,
  ⟨(some 23), some (21, false), .call 32 [(.t 22)]⟩,
  ⟨(some 24), some (21, false), .len (.t 23)⟩,
  ⟨(some 25), some (21, false), .bin .gtr (.t 24) (.v (.int .i64 0))⟩,
  ⟨(some 26), none, .pick (.t 21) (.v (.bool true)) (.t 25)⟩,
  ⟨(some 27), none, .mv (.t 26)⟩,
  ⟨(some 28), some (27, false), .mv (.t 1)⟩,
  ⟨(some 29), some (27, false), .call 11 [(.t 28)]⟩,
  ⟨(some 30), some (27, false), .len (.t 29)⟩,
  ⟨(some 31), some (27, false), .bin .gtr (.t 30) (.v (.int .i64 0))⟩,
  ⟨(some 32), none, .pick (.t 27) (.v (.bool true)) (.t 31)⟩]
theorem tr13_1 : (ro Tryd.f13 1).toList.mapM (trO Tryd.prog 69 (ro Tryd.f13 1)) = some a13_1 := by kernel_rfl
def a13_2 : List AO := [⟨(some 6), none, .mv (.v (.bool false))⟩]
theorem tr13_2 : (ro Tryd.f13 2).toList.mapM (trO Tryd.prog 69 (ro Tryd.f13 2)) = some a13_2 := by kernel_rfl
def a13_3 : List AO := [⟨(some 7), none, .mv (.v (.int .i64 0))⟩]
theorem tr13_3 : (ro Tryd.f13 3).toList.mapM (trO Tryd.prog 69 (ro Tryd.f13 3)) = some a13_3 := by kernel_rfl
def a13_4 : List AO := [⟨(some 33), none, .mv (.t 7)⟩,
  ⟨(some 34), none, .mv (.t 2)⟩,
  ⟨(some 35), none, .len (.t 34)⟩,
  ⟨(some 36), none, .bin .lss (.t 33) (.t 35)⟩]
theorem tr13_4 : (ro Tryd.f13 4).toList.mapM (trO Tryd.prog 69 (ro Tryd.f13 4)) = some a13_4 := by kernel_rfl
def a13_6 : List AO := [⟨(some 39), none, .mv (.t 2)⟩,
  ⟨(some 40), none, .mv (.t 7)⟩,
  ⟨(some 41), none, .idx 7 (.t 39) (.t 40)⟩,
  ⟨(some 42), none, .fld 5 (.t 41)⟩,
  ⟨(some 43), none, .load none (.t 42)⟩,
  ⟨(some 44), none, .bin .lss (.t 43) (.v (.int .i64 0))⟩,
  ⟨(some 45), none, .mv (.t 44)⟩,
  ⟨(some 46), some (45, false), .mv (.t 2)⟩,
  ⟨(some 47), some (45, false), .mv (.t 7)⟩,
  ⟨(some 48), some (45, false), .idx 7 (.t 46) (.t 47)⟩,
  ⟨(some 49), some (45, false), .fld 5 (.t 48)⟩,
  ⟨(some 50), some (45, false), .load none (.t 49)⟩,
  ⟨(some 51), some (45, false), .bin .geq (.t 50) (.v (.int .i64 52596000))⟩,
  ⟨(some 52), none, .pick (.t 45) (.v (.bool true)) (.t 51)⟩,
  ⟨(some 53), none, .mv (.t 52)⟩,
  ⟨(some 54), some (53, false), .mv (.t 2)⟩,
  ⟨(some 55), some (53, false), .mv (.t 7)⟩,
  ⟨(some 56), some (53, false), .idx 7 (.t 54) (.t 55)⟩,
  ⟨(some 57), some (53, false), .fld 6 (.t 56)⟩,
  ⟨(some 58), some (53, false), .load none (.t 57)⟩,
  ⟨(some 59), some (53, false), .bin .lss (.t 58) (.v (.int .i64 0))⟩,
  ⟨(some 60), none, .pick (.t 53) (.v (.bool true)) (.t 59)⟩,
  ⟨(some 61), none, .mv (.t 60)⟩,
  ⟨(some 62), some (61, false), .mv (.t 2)⟩,
  ⟨(some 63), some (61, false), .mv (.t 7)⟩,
  ⟨(some 64), some (61, false), .idx 7 (.t 62) (.t 63)⟩,
  ⟨(some 65), some (61, false), .fld 6 (.t 64)⟩,
  ⟨(some 66), some (61, false), .load none (.t 65)⟩,
  ⟨(some 67), some (61, false), .bin .geq (.t 66) (.v (.int .i64 52596000))⟩,
  ⟨(some 68), none, .pick (.t 61) (.v (.bool true)) (.t 67)⟩]
theorem tr13_6 : (ro Tryd.f13 6).toList.mapM (trO Tryd.prog 69 (ro Tryd.f13 6)) = some a13_6 := by kernel_rfl
def a13_7 : List AO := [⟨(some 6), none, .mv (.v (.bool false))⟩]
theorem tr13_7 : (ro Tryd.f13 7).toList.mapM (trO Tryd.prog 69 (ro Tryd.f13 7)) = some a13_7 := by kernel_rfl
def a13_5 : List AO := [⟨(some 37), none, .mv (.t 7)⟩,
  ⟨(some 38), none, .bin .add (.t 37) (.v (.int .i64 1))⟩,
  ⟨(some 7), none, .mv (.t 38)⟩]
theorem tr13_5 : (ro Tryd.f13 5).toList.mapM (trO Tryd.prog 69 (ro Tryd.f13 5)) = some a13_5 := by kernel_rfl
def a13_8 : List AO := [⟨(some 6), none, .mv (.v (.bool true))⟩]
theorem tr13_8 : (ro Tryd.f13 8).toList.mapM (trO Tryd.prog 69 (ro Tryd.f13 8)) = some a13_8 := by kernel_rfl
/-- airline/tax.Times -/
noncomputable def c14 : Code := .seq (.region 0 (ro Tryd.f14 0) false) (.seq (.seq (.region 1 (ro Tryd.f14 1) false) (.cond (.tmp 18) (.seq (.region 2 (ro Tryd.f14 2) false) (.ret)) (.skip))) (.seq (.region 3 (ro Tryd.f14 3) false) (.seq (.seq (.region 4 (ro Tryd.f14 4) false) (.block 0 (.loop (.seq (.region 5 (ro Tryd.f14 5) false) (.seq (.cond (.tmp 22) (.skip) (.exit 0)) (.seq (.block 1 (.seq (.region 6 (ro Tryd.f14 6) false) (.seq (.region 7 (ro Tryd.f14 7) true) (.seq (.seq (.region 8 (ro Tryd.f14 8) false) (.block 2 (.seq (.region 9 (ro Tryd.f14 9) false) (.cond (.tmp 42) (.skip) (.seq (.region 10 (ro Tryd.f14 10) false) (.cond (.tmp 44) (.seq (.region 11 (ro Tryd.f14 11) false) (.cond (.tmp 51) (.exit 1) (.skip))) (.seq (.region 12 (ro Tryd.f14 12) false) (.cond (.tmp 52) (.seq (.region 13 (ro Tryd.f14 13) false) (.cond (.tmp 56) (.exit 1) (.skip))) (.exit 1))))))))) (.seq (.region 14 (ro Tryd.f14 14) false) (.seq (.seq (.region 15 (ro Tryd.f14 15) false) (.block 3 (.seq (.region 16 (ro Tryd.f14 16) false) (.cond (.tmp 59) (.region 17 (ro Tryd.f14 17) true) (.seq (.region 18 (ro Tryd.f14 18) false) (.cond (.tmp 78) (.region 19 (ro Tryd.f14 19) true) (.seq (.region 20 (ro Tryd.f14 20) false) (.cond (.tmp 100) (.region 21 (ro Tryd.f14 21) false) (.seq (.region 22 (ro Tryd.f14 22) false) (.cond (.tmp 106) (.region 23 (ro Tryd.f14 23) false) (.skip))))))))))) (.seq (.region 24 (ro Tryd.f14 24) false) (.cond (.tmp 116) (.region 25 (ro Tryd.f14 25) false) (.skip))))))))) (.region 26 (ro Tryd.f14 26) false))))))) (.seq (.region 27 (ro Tryd.f14 27) false) (.ret)))))
theorem body14 : Tryd.f14.body = some c14 := by kernel_rfl
theorem res14 : Tryd.f14.results.toList.mapM (trR Tryd.prog) = some [.t 8] := by kernel_rfl
theorem nt14 : Tryd.f14.ntmps = 121 := by kernel_rfl
theorem nm14 : (Tryd.f14.name == "runtime.NumGoroutine") = false := by kernel_rfl
def a14_0 : List AO := [⟨(some 4), none, .box 31 (.t 0)⟩,
  ⟨(some 5), none, .box 34 (.t 1)⟩,
  ⟨(some 8), none, .mv (.v (.int .i64 0))⟩]
theorem tr14_0 : (ro Tryd.f14 0).toList.mapM (trO Tryd.prog 121 (ro Tryd.f14 0)) = some a14_0 := by kernel_rfl
def a14_1 : List AO := [⟨(some 15), none, .fld 6 (.t 5)⟩,
  ⟨(some 16), none, .load none (.t 15)⟩,
  ⟨(some 17), none, .mv (.t 3)⟩,
  ⟨(some 18), none, .call 33 [(.t 16), (.t 17)]⟩]
theorem tr14_1 : (ro Tryd.f14 1).toList.mapM (trO Tryd.prog 121 (ro Tryd.f14 1)) = some a14_1 := by kernel_rfl
def a14_2 : List AO := [⟨(some 8), none, .mv (.v (.int .i64 0))⟩]
theorem tr14_2 : (ro Tryd.f14 2).toList.mapM (trO Tryd.prog 121 (ro Tryd.f14 2)) = some a14_2 := by kernel_rfl
def a14_3 : List AO := [⟨(some 9), none, .mv (.v (.int .i64 0))⟩]
theorem tr14_3 : (ro Tryd.f14 3).toList.mapM (trO Tryd.prog 121 (ro Tryd.f14 3)) = some a14_3 := by kernel_rfl
def a14_4 : List AO := [⟨(some 19), none, .mv (.t 2)⟩,
  ⟨(some 20), none, .len (.t 19)⟩,
  ⟨(some 21), none, .mv (.v (.int .i64 0))⟩]
theorem tr14_4 : (ro Tryd.f14 4).toList.mapM (trO Tryd.prog 121 (ro Tryd.f14 4)) = some a14_4 := by kernel_rfl
def a14_5 : List AO := [⟨(some 22), none, .bin .lss (.t 21) (.t 20)⟩]
theorem tr14_5 : (ro Tryd.f14 5).toList.mapM (trO Tryd.prog 121 (ro Tryd.f14 5)) = some a14_5 := by kernel_rfl
def a14_6 : List AO := [⟨(some 23), none, .mv (.t 21)⟩,
  ⟨(some 24), none, .idx 7 (.t 19) (.t 21)⟩,
  ⟨(some 25), none, .load (some 7) (.t 24)⟩,
  ⟨(some 11), none, .alloc 46 [(.str []), (.int .i64 0), (.int .i64 0), (.str []), (.str []), (.int .i64 0), (.int .i64 0)]⟩,
  ⟨(some 10), none, .mv (.t 23)⟩,
  ⟨none, none, .store 7 (.t 11) (.t 25)⟩]
theorem tr14_6 : (ro Tryd.f14 6).toList.mapM (trO Tryd.prog 121 (ro Tryd.f14 6)) = some a14_6 := by kernel_rfl
def a14_7 : List AO := [⟨(some 26), none, .load (some 2) (.t 4)⟩,
  ⟨(some 27), none, .fld 3 (.t 11)⟩,
  ⟨(some 28), none, .load none (.t 27)⟩,
  ⟨(some 29), none, .call 34 [(.t 26), (.t 28)]⟩,
  ⟨(some 30), none, .fld 2 (.t 5)⟩,
  ⟨(some 31), none, .load none (.t 30)⟩,
  ⟨(some 32), none, .bin .eql (.t 29) (.t 31)⟩,
  ⟨(some 33), none, .load (some 2) (.t 4)⟩,
  ⟨(some 34), none, .fld 4 (.t 11)⟩,
  ⟨(some 35), none, .load none (.t 34)⟩,
  ⟨(some 36), none, .call 34 [(.t 33), (.t 35)]⟩,
  ⟨(some 37), none, .fld 2 (.t 5)⟩,
  ⟨(some 38), none, .load none (.t 37)⟩,
  ⟨(some 39), none, .bin .eql (.t 36) (.t 38)⟩,
  ⟨(some 12), none, .mv (.t 32)⟩,
  ⟨(some 13), none, .mv (.t 39)⟩]
theorem tr14_7 : (ro Tryd.f14 7).toList.mapM (trO Tryd.prog 121 (ro Tryd.f14 7)) = some a14_7 := by kernel_rfl
def d14_7 : List (List Nat) := [[], [], [1], [0, 1, 2], [], [4], [0, 1, 2, 3, 4, 5], [], [], [8], [0, 1, 2, 3, 7, 8, 9], [], [11], [0, 1, 2, 3, 7, 8, 9, 10, 11, 12], [0, 1, 2, 3, 4, 5, 6, 7, 8, 9, 10], [0, 1, 2, 3, 4, 5, 6, 7, 8, 9, 10, 11, 12, 13, 14]]
theorem ok14_7 : okReg (ro Tryd.f14 7) a14_7 d14_7 = true := by kernel_rfl
def a14_8 : List AO := [⟨(some 40), none, .fld 4 (.t 5)⟩,
  ⟨(some 41), none, .load none (.t 40)⟩]
theorem tr14_8 : (ro Tryd.f14 8).toList.mapM (trO Tryd.prog 121 (ro Tryd.f14 8)) = some a14_8 := by kernel_rfl
def a14_9 : List AO := [⟨(some 43), none, .bin .eql (.t 41) (.v (.int .i64 0))⟩,
  ⟨(some 42), none, .mv (.t 43)⟩]
theorem tr14_9 : (ro Tryd.f14 9).toList.mapM (trO Tryd.prog 121 (ro Tryd.f14 9)) = some a14_9 := by kernel_rfl
def a14_10 : List AO := [⟨(some 45), none, .bin .eql (.t 41) (.v (.int .i64 1))⟩,
  ⟨(some 44), none, .mv (.t 45)⟩]
theorem tr14_10 : (ro Tryd.f14 10).toList.mapM (trO Tryd.prog 121 (ro Tryd.f14 10)) = some a14_10 := by kernel_rfl
def a14_11 : List AO := [⟨(some 46), none, .mv (.t 12)⟩,
  ⟨(some 47), none, .un .not (.t 46)⟩,
  ⟨(some 48), none, .mv (.t 47)⟩,
  ⟨(some 49), some (48, false), .mv (.t 13)⟩,
  ⟨(some 50), some (48, false), .un .not (.t 49)⟩,
  ⟨(some 51), none, .pick (.t 48) (.v (.bool true)) (.t 50)⟩]
theorem tr14_11 : (ro Tryd.f14 11).toList.mapM (trO Tryd.prog 121 (ro Tryd.f14 11)) = some a14_11 := by kernel_rfl
def a14_12 : List AO := [⟨(some 53), none, .bin .eql (.t 41) (.v (.int .i64 2))⟩,
  ⟨(some 52), none, .mv (.t 53)⟩]
theorem tr14_12 : (ro Tryd.f14 12).toList.mapM (trO Tryd.prog 121 (ro Tryd.f14 12)) = some a14_12 := by kernel_rfl
def a14_13 : List AO := [⟨(some 54), none, .mv (.t 12)⟩,
  ⟨(some 55), none, .mv (.t 13)⟩,
  ⟨(some 56), none, .binb .eql (.t 54) (.t 55)⟩]
theorem tr14_13 : (ro Tryd.f14 13).toList.mapM (trO Tryd.prog 121 (ro Tryd.f14 13)) = some a14_13 := by kernel_rfl
def a14_14 : List AO := [⟨(some 14), none, .mv (.v (.bool false))⟩]
theorem tr14_14 : (ro Tryd.f14 14).toList.mapM (trO Tryd.prog 121 (ro Tryd.f14 14)) = some a14_14 := by kernel_rfl
def a14_15 : List AO := [⟨(some 57), none, .fld 1 (.t 5)⟩,
  ⟨(some 58), none, .load none (.t 57)⟩]
theorem tr14_15 : (ro Tryd.f14 15).toList.mapM (trO Tryd.prog 121 (ro Tryd.f14 15)) = some a14_15 := by kernel_rfl
def a14_16 : List AO := [⟨(some 60), none, .bin .eql (.t 58) (.v (.int .i64 1))⟩,
  ⟨(some 59), none, .mv (.t 60)⟩]
theorem tr14_16 : (ro Tryd.f14 16).toList.mapM (trO Tryd.prog 121 (ro Tryd.f14 16)) = some a14_16 := by kernel_rfl
def a14_17 : List AO := [⟨(some 61), none, .mv (.t 12)⟩,
  ⟨(some 62), none, .mv (.t 61)⟩,
  ⟨(some 63), some (62, true), .mv (.t 10)⟩,
  ⟨(some 64), some (62, true), .bin .eql (.t 63) (.v (.int .i64 0))⟩,
  ⟨(some 65), some (62, true), .mv (.t 64)⟩,
  ⟨(some 66), some (65, false), .mv (.t 2)⟩,
  ⟨(some 67), some (65, false), .mv (.t 10)⟩,
  ⟨(some 68), some (65, false), .bin .sub (.t 67) (.v (.int .i64 1))⟩,
  ⟨(some 69), some (65, false), .idx 7 (.t 66) (.t 68)⟩,
  ⟨(some 70), some (65, false), .load (some 7) (.t 69)⟩,
  ⟨(some 71), some (65, false), .load (some 7) (.t 11)⟩,
  ⟨(some 72), some (65, false), .fld 5 (.t 5)⟩,
  ⟨(some 73), some (65, false), .load none (.t 72)⟩,
  ⟨(some 74), some (65, false), .call 35 [(.t 70), (.t 71), (.t 73)]⟩,
  ⟨(some 75), some (65, false), .un .not (.t 74)⟩,
  ⟨(some 76), some (62, true), .pick (.t 65) (.v (.bool true)) (.t 75)⟩,
  ⟨(some 77), none, .pick (.t 62) (.t 76) (.v (.bool false))⟩,
  ⟨(some 14), none, .mv (.t 77)⟩]
theorem tr14_17 : (ro Tryd.f14 17).toList.mapM (trO Tryd.prog 121 (ro Tryd.f14 17)) = some a14_17 := by kernel_rfl
def d14_17 : List (List Nat) := [[], [0], [0, 1], [0, 1, 2], [0, 1, 2, 3], [0, 1, 2, 3, 4], [0, 1, 2, 3, 4], [0, 1, 2, 3, 4, 6], [0, 1, 2, 3, 4, 5, 6, 7], [0, 1, 2, 3, 4, 5, 6, 7, 8], [0, 1, 2, 3, 4], [0, 1, 2, 3, 4], [0, 1, 2, 3, 4, 11], [0, 1, 2, 3, 4, 5, 6, 7, 8, 9, 10, 11, 12], [0, 1, 2, 3, 4, 5, 6, 7, 8, 9, 10, 11, 12, 13], [0, 1, 2, 3, 4, 5, 6, 7, 8, 9, 10, 11, 12, 13, 14], [0, 1, 2, 3, 4, 5, 6, 7, 8, 9, 10, 11, 12, 13, 14, 15], [0, 1, 2, 3, 4, 5, 6, 7, 8, 9, 10, 11, 12, 13, 14, 15, 16]]
theorem ok14_17 : okReg (ro Tryd.f14 17) a14_17 d14_17 = true := by kernel_rfl
def a14_18 : List AO := [⟨(some 79), none, .bin .eql (.t 58) (.v (.int .i64 2))⟩,
  ⟨(some 78), none, .mv (.t 79)⟩]
theorem tr14_18 : (ro Tryd.f14 18).toList.mapM (trO Tryd.prog 121 (ro Tryd.f14 18)) = some a14_18 := by kernel_rfl
def a14_19 : List AO := [⟨(some 80), none, .mv (.t 13)⟩,
  ⟨(some 81), none, .mv (.t 80)⟩,
  ⟨(some 82), some (81, true), .mv (.t 10)⟩,
  ⟨(some 83), some (81, true), .bin .add (.t 82) (.v (.int .i64 1))⟩,
  ⟨(some 84), some (81, true), .mv (.t 2)⟩,
  ⟨(some 85), some (81, true), .len (.t 84)⟩,
  ⟨(some 86), some (81, true), .bin .eql (.t 83) (.t 85)⟩,
  ⟨(some 87), some (81, true), .mv (.t 86)⟩,
  ⟨(some 88), some (87, false), .load (some 7) (.t 11)⟩,
  ⟨(some 89), some (87, false), .mv (.t 2)⟩,
  ⟨(some 90), some (87, false), .mv (.t 10)⟩,
  ⟨(some 91), some (87, false), .bin .add (.t 90) (.v (.int .i64 1))⟩,
  ⟨(some 92), some (87, false), .idx 7 (.t 89) (.t 91)⟩,
  ⟨(some 93), some (87, false), .load (some 7) (.t 92)⟩,
  ⟨(some 94), some (87, false), .fld 5 (.t 5)⟩,
  ⟨(some 95), some (87, false), .load none (.t 94)⟩,
  ⟨(some 96), some (87, false), .call 35 [(.t 88), (.t 93), (.t 95)]⟩,
  ⟨(some 97), some (87, false), .un .not (.t 96)⟩,
  ⟨(some 98), some (81, true), .pick (.t 87) (.v (.bool true)) (.t 97)⟩,
  ⟨(some 99), none, .pick (.t 81) (.t 98) (.v (.bool false))⟩,
  ⟨(some 14), none, .mv (.t 99)⟩]
theorem tr14_19 : (ro Tryd.f14 19).toList.mapM (trO Tryd.prog 121 (ro Tryd.f14 19)) = some a14_19 := by kernel_rfl
def d14_19 : List (List Nat) := [[], [0], [0, 1], [0, 1, 2], [0, 1], [0, 1, 4], [0, 1, 2, 3, 4, 5], [0, 1, 2, 3, 4, 5, 6], [0, 1, 2, 3, 4, 5, 6, 7], [0, 1, 2, 3, 4, 5, 6, 7], [0, 1, 2, 3, 4, 5, 6, 7], [0, 1, 2, 3, 4, 5, 6, 7, 10], [0, 1, 2, 3, 4, 5, 6, 7, 9, 10, 11], [0, 1, 2, 3, 4, 5, 6, 7, 9, 10, 11, 12], [0, 1, 2, 3, 4, 5, 6, 7], [0, 1, 2, 3, 4, 5, 6, 7, 14], [0, 1, 2, 3, 4, 5, 6, 7, 8, 9, 10, 11, 12, 13, 14, 15], [0, 1, 2, 3, 4, 5, 6, 7, 8, 9, 10, 11, 12, 13, 14, 15, 16], [0, 1, 2, 3, 4, 5, 6, 7, 8, 9, 10, 11, 12, 13, 14, 15, 16, 17], [0, 1, 2, 3, 4, 5, 6, 7, 8, 9, 10, 11, 12, 13, 14, 15, 16, 17, 18], [0, 1, 2, 3, 4, 5, 6, 7, 8, 9, 10, 11, 12, 13, 14, 15, 16, 17, 18, 19]]
theorem ok14_19 : okReg (ro Tryd.f14 19) a14_19 d14_19 = true := by kernel_rfl
def a14_20 : List AO := [⟨(some 101), none, .bin .eql (.t 58) (.v (.int .i64 3))⟩,
  ⟨(some 100), none, .mv (.t 101)⟩]
theorem tr14_20 : (ro Tryd.f14 20).toList.mapM (trO Tryd.prog 121 (ro Tryd.f14 20)) = some a14_20 := by kernel_rfl
def a14_21 : List AO := [⟨(some 102), none, .mv (.t 12)⟩,
  ⟨(some 103), none, .mv (.t 102)⟩,
  ⟨(some 104), some (103, false), .mv (.t 13)⟩,
  ⟨(some 105), none, .pick (.t 103) (.v (.bool true)) (.t 104)⟩,
  ⟨(some 14), none, .mv (.t 105)⟩]
theorem tr14_21 : (ro Tryd.f14 21).toList.mapM (trO Tryd.prog 121 (ro Tryd.f14 21)) = some a14_21 := by kernel_rfl
def a14_22 : List AO := [⟨(some 107), none, .bin .eql (.t 58) (.v (.int .i64 4))⟩,
  ⟨(some 106), none, .mv (.t 107)⟩]
theorem tr14_22 : (ro Tryd.f14 22).toList.mapM (trO Tryd.prog 121 (ro Tryd.f14 22)) = some a14_22 := by kernel_rfl
def a14_23 : List AO := [⟨(some 108), none, .mv (.t 12)⟩,
  ⟨(some 109), none, .mv (.t 108)⟩,
  ⟨(some 110), some (109, false), .mv (.t 13)⟩,
  ⟨(some 111), none, .pick (.t 109) (.v (.bool true)) (.t 110)⟩,
  ⟨(some 112), none, .mv (.t 111)⟩,
  ⟨(some 113), some (112, true), .mv (.t 9)⟩,
  ⟨(some 114), some (112, true), .bin .eql (.t 113) (.v (.int .i64 0))⟩,
  ⟨(some 115), none, .pick (.t 112) (.t 114) (.v (.bool false))⟩,
  ⟨(some 14), none, .mv (.t 115)⟩]
theorem tr14_23 : (ro Tryd.f14 23).toList.mapM (trO Tryd.prog 121 (ro Tryd.f14 23)) = some a14_23 := by kernel_rfl
def a14_24 : List AO := [⟨(some 116), none, .mv (.t 14)⟩]
theorem tr14_24 : (ro Tryd.f14 24).toList.mapM (trO Tryd.prog 121 (ro Tryd.f14 24)) = some a14_24 := by kernel_rfl
def a14_25 : List AO := [⟨(some 117), none, .mv (.t 9)⟩,
  ⟨(some 118), none, .bin .add (.t 117) (.v (.int .i64 1))⟩,
  ⟨(some 9), none, .mv (.t 118)⟩]
theorem tr14_25 : (ro Tryd.f14 25).toList.mapM (trO Tryd.prog 121 (ro Tryd.f14 25)) = some a14_25 := by kernel_rfl
def a14_26 : List AO := [⟨(some 119), none, .bin .add (.t 21) (.v (.int .i64 1))⟩,
  ⟨(some 21), none, .mv (.t 119)⟩]
theorem tr14_26 : (ro Tryd.f14 26).toList.mapM (trO Tryd.prog 121 (ro Tryd.f14 26)) = some a14_26 := by kernel_rfl
def a14_27 : List AO := [⟨(some 120), none, .mv (.t 9)⟩,
  ⟨(some 8), none, .mv (.t 120)⟩]
theorem tr14_27 : (ro Tryd.f14 27).toList.mapM (trO Tryd.prog 121 (ro Tryd.f14 27)) = some a14_27 := by kernel_rfl
/-- airline/airlineref27.Times -/
noncomputable def c15 : Code := .seq (.region 0 (ro Tryd.f15 0) false) (.seq (.seq (.region 1 (ro Tryd.f15 1) false) (.block 0 (.loop (.seq (.seq (.region 2 (ro Tryd.f15 2) false) (.cond (.tmp 16) (.skip) (.exit 0))) (.seq (.block 1 (.seq (.region 4 (ro Tryd.f15 4) false) (.cond (.tmp 25) (.seq (.region 5 (ro Tryd.f15 5) false) (.ret)) (.skip)))) (.region 3 (ro Tryd.f15 3) false)))))) (.seq (.seq (.region 6 (ro Tryd.f15 6) false) (.cond (.tmp 33) (.seq (.region 7 (ro Tryd.f15 7) false) (.ret)) (.skip))) (.seq (.region 8 (ro Tryd.f15 8) false) (.seq (.seq (.region 9 (ro Tryd.f15 9) false) (.block 2 (.loop (.seq (.seq (.region 10 (ro Tryd.f15 10) false) (.cond (.tmp 37) (.skip) (.exit 2))) (.seq (.block 3 (.region 12 (ro Tryd.f15 12) false)) (.region 11 (ro Tryd.f15 11) false)))))) (.seq (.seq (.region 13 (ro Tryd.f15 13) false) (.cond (.tmp 49) (.seq (.region 14 (ro Tryd.f15 14) false) (.ret)) (.skip))) (.seq (.region 15 (ro Tryd.f15 15) false) (.ret)))))))
theorem body15 : Tryd.f15.body = some c15 := by kernel_rfl
theorem res15 : Tryd.f15.results.toList.mapM (trR Tryd.prog) = some [.t 8] := by kernel_rfl
theorem nt15 : Tryd.f15.ntmps = 53 := by kernel_rfl
theorem nm15 : (Tryd.f15.name == "runtime.NumGoroutine") = false := by kernel_rfl
def a15_0 : List AO := [⟨(some 4), none, .box 31 (.t 0)⟩,
  ⟨(some 5), none, .box 34 (.t 1)⟩,
  ⟨(some 8), none, .mv (.v (.int .i64 0))⟩]
theorem tr15_0 : (ro Tryd.f15 0).toList.mapM (trO Tryd.prog 53 (ro Tryd.f15 0)) = some a15_0 := by kernel_rfl
def a15_1 : List AO := [⟨(some 9), none, .mv (.v (.int .i64 0))⟩]
theorem tr15_1 : (ro Tryd.f15 1).toList.mapM (trO Tryd.prog 53 (ro Tryd.f15 1)) = some a15_1 := by kernel_rfl
def a15_2 : List AO := [⟨(some 12), none, .mv (.t 9)⟩,
  ⟨(some 13), none, .fld 6 (.t 5)⟩,
  ⟨(some 14), none, .load none (.t 13)⟩,
  ⟨(some 15), none, .len (.t 14)⟩,
  ⟨(some 16), none, .bin .lss (.t 12) (.t 15)⟩]
theorem tr15_2 : (ro Tryd.f15 2).toList.mapM (trO Tryd.prog 53 (ro Tryd.f15 2)) = some a15_2 := by kernel_rfl
def a15_4 : List AO := [⟨(some 19), none, .fld 6 (.t 5)⟩,
  ⟨(some 20), none, .load none (.t 19)⟩,
  ⟨(some 21), none, .mv (.t 9)⟩,
  ⟨(some 22), none, .idx 1 (.t 20) (.t 21)⟩,
  ⟨(some 23), none, .load none (.t 22)⟩,
  ⟨(some 24), none, .mv (.t 3)⟩,
  ⟨(some 25), none, .bin .eql (.t 23) (.t 24)⟩]
theorem tr15_4 : (ro Tryd.f15 4).toList.mapM (trO Tryd.prog 53 (ro Tryd.f15 4)) = some a15_4 := by kernel_rfl
def a15_5 : List AO := [⟨(some 8), none, .mv (.v (.int .i64 0))⟩]
theorem tr15_5 : (ro Tryd.f15 5).toList.mapM (trO Tryd.prog 53 (ro Tryd.f15 5)) = some a15_5 := by kernel_rfl
def a15_3 : List AO := [⟨(some 17), none, .mv (.t 9)⟩,
  ⟨(some 18), none, .bin .add (.t 17) (.v (.int .i64 1))⟩,
  ⟨(some 9), none, .mv (.t 18)⟩]
theorem tr15_3 : (ro Tryd.f15 3).toList.mapM (trO Tryd.prog 53 (ro Tryd.f15 3)) = some a15_3 := by kernel_rfl
def a15_6 : List AO := [⟨(some 26), none, .fld 1 (.t 5)⟩,
  ⟨(some 27), none, .load none (.t 26)⟩,
  ⟨(some 28), none, .bin .lss (.t 27) (.v (.int .i64 1))⟩,
  ⟨(some 29), none, .mv (.t 28)⟩,
  ⟨(some 30), some (29, false), .fld 1 (.t 5)⟩,
  ⟨(some 31), some (29, false), .load none (.t 30)⟩,
  ⟨(some 32), some (29, false), .bin .gtr (.t 31) (.v (.int .i64 4))⟩,
  ⟨(some 33), none, .pick (.t 29) (.v (.bool true)) (.t 32)⟩]
theorem tr15_6 : (ro Tryd.f15 6).toList.mapM (trO Tryd.prog 53 (ro Tryd.f15 6)) = some a15_6 := by kernel_rfl
def a15_7 : List AO := [⟨(some 8), none, .mv (.v (.int .i64 0))⟩]
theorem tr15_7 : (ro Tryd.f15 7).toList.mapM (trO Tryd.prog 53 (ro Tryd.f15 7)) = some a15_7 := by kernel_rfl
def a15_8 : List AO := [⟨(some 10), none, .mv (.v (.int .i64 0))⟩]
theorem tr15_8 : (ro Tryd.f15 8).toList.mapM (trO Tryd.prog 53 (ro Tryd.f15 8)) = some a15_8 := by kernel_rfl
def a15_9 : List AO := [⟨(some 11), none, .mv (.v (.int .i64 0))⟩]
theorem tr15_9 : (ro Tryd.f15 9).toList.mapM (trO Tryd.prog 53 (ro Tryd.f15 9)) = some a15_9 := by kernel_rfl
def a15_10 : List AO := [⟨(some 34), none, .mv (.t 11)⟩,
  ⟨(some 35), none, .mv (.t 2)⟩,
  ⟨(some 36), none, .len (.t 35)⟩,
  ⟨(some 37), none, .bin .lss (.t 34) (.t 36)⟩]
theorem tr15_10 : (ro Tryd.f15 10).toList.mapM (trO Tryd.prog 53 (ro Tryd.f15 10)) = some a15_10 := by kernel_rfl
def a15_12 : List AO := [⟨(some 40), none, .mv (.t 10)⟩,
  ⟨(some 41), none, .load (some 2) (.t 4)⟩,
  ⟨(some 42), none, .load (some 7) (.t 5)⟩,
  ⟨(some 43), none, .mv (.t 2)⟩,
  ⟨(some 44), none, .mv (.t 11)⟩,
  ⟨(some 45), none, .call 36 [(.t 41), (.t 42), (.t 43), (.t 44)]⟩,
  ⟨(some 46), none, .bin .add (.t 40) (.t 45)⟩,
  ⟨(some 10), none, .mv (.t 46)⟩]
theorem tr15_12 : (ro Tryd.f15 12).toList.mapM (trO Tryd.prog 53 (ro Tryd.f15 12)) = some a15_12 := by kernel_rfl
def a15_11 : List AO := [⟨(some 38), none, .mv (.t 11)⟩,
  ⟨(some 39), none, .bin .add (.t 38) (.v (.int .i64 1))⟩,
  ⟨(some 11), none, .mv (.t 39)⟩]
theorem tr15_11 : (ro Tryd.f15 11).toList.mapM (trO Tryd.prog 53 (ro Tryd.f15 11)) = some a15_11 := by kernel_rfl
def a15_13 : List AO := [⟨(some 47), none, .fld 1 (.t 5)⟩,
  ⟨(some 48), none, .load none (.t 47)⟩,
  ⟨(some 49), none, .bin .eql (.t 48) (.v (.int .i64 4))⟩]
theorem tr15_13 : (ro Tryd.f15 13).toList.mapM (trO Tryd.prog 53 (ro Tryd.f15 13)) = some a15_13 := by kernel_rfl
def a15_14 : List AO := [⟨(some 50), none, .mv (.t 10)⟩,
  ⟨(some 51), none, .mn (.t 50) (.v (.int .i64 1))⟩,
  ⟨(some 8), none, .mv (.t 51)⟩]
theorem tr15_14 : (ro Tryd.f15 14).toList.mapM (trO Tryd.prog 53 (ro Tryd.f15 14)) = some a15_14 := by kernel_rfl
def a15_15 : List AO := [⟨(some 52), none, .mv (.t 10)⟩,
  ⟨(some 8), none, .mv (.t 52)⟩]
theorem tr15_15 : (ro Tryd.f15 15).toList.mapM (trO Tryd.prog 53 (ro Tryd.f15 15)) = some a15_15 := by kernel_rfl
/-- airline/tax.Of -/
noncomputable def c16 : Code := .seq (.region 0 (ro Tryd.f16 0) false) (.seq (.region 1 (ro Tryd.f16 1) false) (.seq (.seq (.region 2 (ro Tryd.f16 2) false) (.block 0 (.loop (.seq (.region 3 (ro Tryd.f16 3) false) (.seq (.cond (.tmp 22) (.skip) (.exit 0)) (.seq (.block 1 (.seq (.region 4 (ro Tryd.f16 4) false) (.seq (.region 5 (ro Tryd.f16 5) false) (.seq (.seq (.region 6 (ro Tryd.f16 6) false) (.cond (.tmp 31) (.exit 1) (.skip))) (.seq (.region 7 (ro Tryd.f16 7) false) (.seq (.seq (.region 8 (ro Tryd.f16 8) false) (.cond (.tmp 38) (.seq (.region 9 (ro Tryd.f16 9) false) (.seq (.seq (.region 10 (ro Tryd.f16 10) false) (.cond (.tmp 47) (.seq (.region 11 (ro Tryd.f16 11) false) (.ret)) (.skip))) (.region 12 (ro Tryd.f16 12) false))) (.skip))) (.seq (.seq (.region 13 (ro Tryd.f16 13) false) (.cond (.tmp 51) (.seq (.region 14 (ro Tryd.f16 14) false) (.ret)) (.skip))) (.seq (.region 15 (ro Tryd.f16 15) false) (.cond (.tmp 53) (.region 16 (ro Tryd.f16 16) false) (.skip)))))))))) (.region 17 (ro Tryd.f16 17) false))))))) (.seq (.region 18 (ro Tryd.f16 18) false) (.ret))))
theorem body16 : Tryd.f16.body = some c16 := by kernel_rfl
theorem res16 : Tryd.f16.results.toList.mapM (trR Tryd.prog) = some [.t 10, .t 11] := by kernel_rfl
theorem nt16 : Tryd.f16.ntmps = 63 := by kernel_rfl
theorem nm16 : (Tryd.f16.name == "runtime.NumGoroutine") = false := by kernel_rfl
def a16_0 : List AO := [⟨(some 5), none, .box 31 (.t 0)⟩,
  ⟨(some 10), none, .mv (.v .nils)⟩,
  ⟨(some 11), none, .mv (.v (.int .i64 0))⟩]
theorem tr16_0 : (ro Tryd.f16 0).toList.mapM (trO Tryd.prog 63 (ro Tryd.f16 0)) = some a16_0 := by kernel_rfl
def a16_1 : List AO := [⟨(some 12), none, .mv (.v .nils)⟩]
theorem tr16_1 : (ro Tryd.f16 1).toList.mapM (trO Tryd.prog 63 (ro Tryd.f16 1)) = some a16_1 := by kernel_rfl
def a16_2 : List AO := [⟨(some 19), none, .mv (.t 1)⟩,
  ⟨(some 20), none, .len (.t 19)⟩,
  ⟨(some 21), none, .mv (.v (.int .i64 0))⟩]
theorem tr16_2 : (ro Tryd.f16 2).toList.mapM (trO Tryd.prog 63 (ro Tryd.f16 2)) = some a16_2 := by kernel_rfl
def a16_3 : List AO := [⟨(some 22), none, .bin .lss (.t 21) (.t 20)⟩]
theorem tr16_3 : (ro Tryd.f16 3).toList.mapM (trO Tryd.prog 63 (ro Tryd.f16 3)) = some a16_3 := by kernel_rfl
def a16_4 : List AO := [⟨(some 23), none, .idx 7 (.t 19) (.t 21)⟩,
  ⟨(some 24), none, .load (some 7) (.t 23)⟩,
  ⟨(some 14), none, .alloc 34 [(.str []), (.int .i64 0), (.str []), (.int .i64 0), (.int .i64 0), (.int .i64 0), .nils]⟩,
  ⟨none, none, .store 7 (.t 14) (.t 24)⟩]
theorem tr16_4 : (ro Tryd.f16 4).toList.mapM (trO Tryd.prog 63 (ro Tryd.f16 4)) = some a16_4 := by kernel_rfl
def a16_5 : List AO := [⟨(some 25), none, .load (some 2) (.t 5)⟩,
  ⟨(some 26), none, .load (some 7) (.t 14)⟩,
  ⟨(some 27), none, .mv (.t 2)⟩,
  ⟨(some 28), none, .mv (.t 3)⟩,
  ⟨(some 29), none, .call 14 [(.t 25), (.t 26), (.t 27), (.t 28)]⟩,
  ⟨(some 15), none, .mv (.t 29)⟩]
theorem tr16_5 : (ro Tryd.f16 5).toList.mapM (trO Tryd.prog 63 (ro Tryd.f16 5)) = some a16_5 := by kernel_rfl
def a16_6 : List AO := [⟨(some 30), none, .mv (.t 15)⟩,
  ⟨(some 31), none, .bin .eql (.t 30) (.v (.int .i64 0))⟩]
theorem tr16_6 : (ro Tryd.f16 6).toList.mapM (trO Tryd.prog 63 (ro Tryd.f16 6)) = some a16_6 := by kernel_rfl
def a16_7 : List AO := [⟨(some 32), none, .mv (.t 15)⟩,
  ⟨(some 33), none, .fld 3 (.t 14)⟩,
  ⟨(some 34), none, .load none (.t 33)⟩,
  ⟨(some 35), none, .bin .mul (.t 32) (.t 34)⟩,
  ⟨(some 16), none, .mv (.t 35)⟩]
theorem tr16_7 : (ro Tryd.f16 7).toList.mapM (trO Tryd.prog 63 (ro Tryd.f16 7)) = some a16_7 := by kernel_rfl
def a16_8 : List AO := [⟨(some 36), none, .fld 1 (.t 14)⟩,
  ⟨(some 37), none, .load none (.t 36)⟩,
  ⟨(some 38), none, .bin .eql (.t 37) (.v (.int .i64 4))⟩]
theorem tr16_8 : (ro Tryd.f16 8).toList.mapM (trO Tryd.prog 63 (ro Tryd.f16 8)) = some a16_8 := by kernel_rfl
def a16_9 : List AO := [⟨(some 40), none, .mv (.t 4)⟩,
  ⟨(some 41), none, .fld 3 (.t 14)⟩,
  ⟨(some 42), none, .load none (.t 41)⟩,
  ⟨(some 43), none, .call 37 [(.t 40), (.t 42)]⟩,
  ⟨(some 39), none, .mv (.t 43)⟩,
  ⟨(some 44), none, .ext 0 (.t 39)⟩,
  ⟨(some 45), none, .ext 1 (.t 39)⟩,
  ⟨(some 17), none, .mv (.t 44)⟩,
  ⟨(some 18), none, .mv (.t 45)⟩]
theorem tr16_9 : (ro Tryd.f16 9).toList.mapM (trO Tryd.prog 63 (ro Tryd.f16 9)) = some a16_9 := by kernel_rfl
def a16_10 : List AO := [⟨(some 46), none, .mv (.t 18)⟩,
  ⟨(some 47), none, .bin .neq (.t 46) (.v (.int .i64 0))⟩]
theorem tr16_10 : (ro Tryd.f16 10).toList.mapM (trO Tryd.prog 63 (ro Tryd.f16 10)) = some a16_10 := by kernel_rfl
def a16_11 : List AO := [⟨(some 48), none, .mv (.t 18)⟩,
  ⟨(some 10), none, .mv (.v .nils)⟩,
  ⟨(some 11), none, .mv (.t 48)⟩]
theorem tr16_11 : (ro Tryd.f16 11).toList.mapM (trO Tryd.prog 63 (ro Tryd.f16 11)) = some a16_11 := by kernel_rfl
def a16_12 : List AO := [⟨(some 49), none, .mv (.t 17)⟩,
  ⟨(some 16), none, .mv (.t 49)⟩]
theorem tr16_12 : (ro Tryd.f16 12).toList.mapM (trO Tryd.prog 63 (ro Tryd.f16 12)) = some a16_12 := by kernel_rfl
def a16_13 : List AO := [⟨(some 50), none, .mv (.t 16)⟩,
  ⟨(some 51), none, .bin .gtr (.t 50) (.v (.int .i64 1099511627776))⟩]
theorem tr16_13 : (ro Tryd.f16 13).toList.mapM (trO Tryd.prog 63 (ro Tryd.f16 13)) = some a16_13 := by kernel_rfl
def a16_14 : List AO := [⟨(some 10), none, .mv (.v .nils)⟩,
  ⟨(some 11), none, .mv (.v (.int .i64 11))⟩]
theorem tr16_14 : (ro Tryd.f16 14).toList.mapM (trO Tryd.prog 63 (ro Tryd.f16 14)) = some a16_14 := by kernel_rfl
def a16_15 : List AO := [⟨(some 52), none, .mv (.t 16)⟩,
  ⟨(some 53), none, .bin .neq (.t 52) (.v (.int .i64 0))⟩]
theorem tr16_15 : (ro Tryd.f16 15).toList.mapM (trO Tryd.prog 63 (ro Tryd.f16 15)) = some a16_15 := by kernel_rfl
def a16_16 : List AO := [⟨(some 54), none, .mv (.t 12)⟩,
  ⟨(some 55), none, .fld 0 (.t 14)⟩,
  ⟨(some 56), none, .load none (.t 55)⟩,
  ⟨(some 57), none, .mv (.t 16)⟩,
  ⟨(some 58), none, .build [(.str []), (.int .i64 0)] [(0, 1, (.t 56)), (1, 1, (.t 57))]⟩,
  ⟨(some 59), none, .slc 62 2 false [(.t 58)]⟩,
  ⟨(some 60), none, .app 62 2 24 (.t 54) (.t 59)⟩,
  ⟨(some 12), none, .mv (.t 60)⟩]
theorem tr16_16 : (ro Tryd.f16 16).toList.mapM (trO Tryd.prog 63 (ro Tryd.f16 16)) = some a16_16 := by kernel_rfl
def a16_17 : List AO := [⟨(some 61), none, .bin .add (.t 21) (.v (.int .i64 1))⟩,
  ⟨(some 21), none, .mv (.t 61)⟩]
theorem tr16_17 : (ro Tryd.f16 17).toList.mapM (trO Tryd.prog 63 (ro Tryd.f16 17)) = some a16_17 := by kernel_rfl
def a16_18 : List AO := [⟨(some 62), none, .mv (.t 12)⟩,
  ⟨(some 10), none, .mv (.t 62)⟩,
  ⟨(some 11), none, .mv (.v (.int .i64 0))⟩]
theorem tr16_18 : (ro Tryd.f16 18).toList.mapM (trO Tryd.prog 63 (ro Tryd.f16 18)) = some a16_18 := by kernel_rfl
/-- airline/airlineref27.Of -/
noncomputable def c17 : Code := .seq (.region 0 (ro Tryd.f17 0) false) (.seq (.region 1 (ro Tryd.f17 1) false) (.seq (.seq (.region 2 (ro Tryd.f17 2) false) (.block 0 (.loop (.seq (.seq (.region 3 (ro Tryd.f17 3) false) (.cond (.tmp 20) (.skip) (.exit 0))) (.seq (.block 1 (.seq (.region 5 (ro Tryd.f17 5) true) (.seq (.region 6 (ro Tryd.f17 6) false) (.seq (.seq (.region 7 (ro Tryd.f17 7) false) (.cond (.tmp 47) (.region 8 (ro Tryd.f17 8) false) (.skip))) (.seq (.seq (.region 9 (ro Tryd.f17 9) false) (.cond (.tmp 59) (.seq (.region 10 (ro Tryd.f17 10) false) (.ret)) (.skip))) (.seq (.seq (.region 11 (ro Tryd.f17 11) false) (.cond (.tmp 62) (.seq (.region 12 (ro Tryd.f17 12) false) (.ret)) (.skip))) (.seq (.region 13 (ro Tryd.f17 13) false) (.cond (.tmp 64) (.region 14 (ro Tryd.f17 14) false) (.skip))))))))) (.region 4 (ro Tryd.f17 4) false)))))) (.seq (.region 15 (ro Tryd.f17 15) false) (.ret))))
theorem body17 : Tryd.f17.body = some c17 := by kernel_rfl
theorem res17 : Tryd.f17.results.toList.mapM (trR Tryd.prog) = some [.t 10, .t 11] := by kernel_rfl
theorem nt17 : Tryd.f17.ntmps = 76 := by kernel_rfl
theorem nm17 : (Tryd.f17.name == "runtime.NumGoroutine") = false := by kernel_rfl
def a17_0 : List AO := [⟨(some 5), none, .box 31 (.t 0)⟩,
  ⟨(some 10), none, .mv (.v .nils)⟩,
  ⟨(some 11), none, .mv (.v (.int .i64 0))⟩]
theorem tr17_0 : (ro Tryd.f17 0).toList.mapM (trO Tryd.prog 76 (ro Tryd.f17 0)) = some a17_0 := by kernel_rfl
def a17_1 : List AO := [⟨(some 12), none, .mv (.v .nils)⟩]
theorem tr17_1 : (ro Tryd.f17 1).toList.mapM (trO Tryd.prog 76 (ro Tryd.f17 1)) = some a17_1 := by kernel_rfl
def a17_2 : List AO := [⟨(some 13), none, .mv (.v (.int .i64 0))⟩]
theorem tr17_2 : (ro Tryd.f17 2).toList.mapM (trO Tryd.prog 76 (ro Tryd.f17 2)) = some a17_2 := by kernel_rfl
def a17_3 : List AO := [⟨(some 17), none, .mv (.t 13)⟩,
  ⟨(some 18), none, .mv (.t 1)⟩,
  ⟨(some 19), none, .len (.t 18)⟩,
  ⟨(some 20), none, .bin .lss (.t 17) (.t 19)⟩]
theorem tr17_3 : (ro Tryd.f17 3).toList.mapM (trO Tryd.prog 76 (ro Tryd.f17 3)) = some a17_3 := by kernel_rfl
def a17_5 : List AO := [⟨(some 23), none, .load (some 2) (.t 5)⟩,
  ⟨(some 24), none, .mv (.t 1)⟩,
  ⟨(some 25), none, .mv (.t 13)⟩,
  ⟨(some 26), none, .idx 7 (.t 24) (.t 25)⟩,
  ⟨(some 27), none, .load (some 7) (.t 26)⟩,
  ⟨(some 28), none, .mv (.t 2)⟩,
  ⟨(some 29), none, .mv (.t 3)⟩,
  ⟨(some 30), none, .call 15 [(.t 23), (.t 27), (.t 28), (.t 29)]⟩,
  ⟨(some 14), none, .mv (.t 30)⟩]
theorem tr17_5 : (ro Tryd.f17 5).toList.mapM (trO Tryd.prog 76 (ro Tryd.f17 5)) = some a17_5 := by kernel_rfl
def d17_5 : List (List Nat) := [[], [], [], [1, 2], [1, 2, 3], [], [], [0, 1, 2, 3, 4, 5, 6], [0, 1, 2, 3, 4, 5, 6, 7]]
theorem ok17_5 : okReg (ro Tryd.f17 5) a17_5 d17_5 = true := by kernel_rfl
def a17_6 : List AO := [⟨(some 31), none, .mv (.t 14)⟩,
  ⟨(some 32), none, .mv (.t 1)⟩,
  ⟨(some 33), none, .mv (.t 13)⟩,
  ⟨(some 34), none, .idx 7 (.t 32) (.t 33)⟩,
  ⟨(some 35), none, .fld 3 (.t 34)⟩,
  ⟨(some 36), none, .load none (.t 35)⟩,
  ⟨(some 37), none, .bin .mul (.t 31) (.t 36)⟩,
  ⟨(some 15), none, .mv (.t 37)⟩,
  ⟨(some 16), none, .mv (.v (.int .i64 0))⟩]
theorem tr17_6 : (ro Tryd.f17 6).toList.mapM (trO Tryd.prog 76 (ro Tryd.f17 6)) = some a17_6 := by kernel_rfl
def a17_7 : List AO := [⟨(some 38), none, .mv (.t 1)⟩,
  ⟨(some 39), none, .mv (.t 13)⟩,
  ⟨(some 40), none, .idx 7 (.t 38) (.t 39)⟩,
  ⟨(some 41), none, .fld 1 (.t 40)⟩,
  ⟨(some 42), none, .load none (.t 41)⟩,
  ⟨(some 43), none, .bin .eql (.t 42) (.v (.int .i64 4))⟩,
  ⟨(some 44), none, .mv (.t 43)⟩,
  ⟨(some 45), some (44, true), .mv (.t 14)⟩,
  ⟨(some 46), some (44, true), .bin .eql (.t 45) (.v (.int .i64 1))⟩,
  ⟨(some 47), none, .pick (.t 44) (.t 46) (.v (.bool false))⟩]
theorem tr17_7 : (ro Tryd.f17 7).toList.mapM (trO Tryd.prog 76 (ro Tryd.f17 7)) = some a17_7 := by kernel_rfl
def a17_8 : List AO := [⟨(some 49), none, .mv (.t 4)⟩,
  ⟨(some 50), none, .mv (.t 1)⟩,
  ⟨(some 51), none, .mv (.t 13)⟩,
  ⟨(some 52), none, .idx 7 (.t 50) (.t 51)⟩,
  ⟨(some 53), none, .fld 3 (.t 52)⟩,
  ⟨(some 54), none, .load none (.t 53)⟩,
  ⟨(some 55), none, .call 38 [(.t 49), (.t 54)]⟩,
  ⟨(some 48), none, .mv (.t 55)⟩,
  ⟨(some 56), none, .ext 0 (.t 48)⟩,
  ⟨(some 57), none, .ext 1 (.t 48)⟩,
  ⟨(some 15), none, .mv (.t 56)⟩,
  ⟨(some 16), none, .mv (.t 57)⟩]
theorem tr17_8 : (ro Tryd.f17 8).toList.mapM (trO Tryd.prog 76 (ro Tryd.f17 8)) = some a17_8 := by kernel_rfl
def a17_9 : List AO := [⟨(some 58), none, .mv (.t 16)⟩,
  ⟨(some 59), none, .bin .neq (.t 58) (.v (.int .i64 0))⟩]
theorem tr17_9 : (ro Tryd.f17 9).toList.mapM (trO Tryd.prog 76 (ro Tryd.f17 9)) = some a17_9 := by kernel_rfl
def a17_10 : List AO := [⟨(some 60), none, .mv (.t 16)⟩,
  ⟨(some 10), none, .mv (.v .nils)⟩,
  ⟨(some 11), none, .mv (.t 60)⟩]
theorem tr17_10 : (ro Tryd.f17 10).toList.mapM (trO Tryd.prog 76 (ro Tryd.f17 10)) = some a17_10 := by kernel_rfl
def a17_11 : List AO := [⟨(some 61), none, .mv (.t 15)⟩,
  ⟨(some 62), none, .bin .gtr (.t 61) (.v (.int .i64 1099511627776))⟩]
theorem tr17_11 : (ro Tryd.f17 11).toList.mapM (trO Tryd.prog 76 (ro Tryd.f17 11)) = some a17_11 := by kernel_rfl
def a17_12 : List AO := [⟨(some 10), none, .mv (.v .nils)⟩,
  ⟨(some 11), none, .mv (.v (.int .i64 11))⟩]
theorem tr17_12 : (ro Tryd.f17 12).toList.mapM (trO Tryd.prog 76 (ro Tryd.f17 12)) = some a17_12 := by kernel_rfl
def a17_13 : List AO := [⟨(some 63), none, .mv (.t 15)⟩,
  ⟨(some 64), none, .bin .neq (.t 63) (.v (.int .i64 0))⟩]
theorem tr17_13 : (ro Tryd.f17 13).toList.mapM (trO Tryd.prog 76 (ro Tryd.f17 13)) = some a17_13 := by kernel_rfl
def a17_14 : List AO := [⟨(some 65), none, .mv (.t 12)⟩,
  ⟨(some 66), none, .mv (.t 1)⟩,
  ⟨(some 67), none, .mv (.t 13)⟩,
  ⟨(some 68), none, .idx 7 (.t 66) (.t 67)⟩,
  ⟨(some 69), none, .fld 0 (.t 68)⟩,
  ⟨(some 70), none, .load none (.t 69)⟩,
  ⟨(some 71), none, .mv (.t 15)⟩,
  ⟨(some 72), none, .build [(.str []), (.int .i64 0)] [(0, 1, (.t 70)), (1, 1, (.t 71))]⟩,
  ⟨(some 73), none, .slc 62 2 false [(.t 72)]⟩,
  ⟨(some 74), none, .app 62 2 24 (.t 65) (.t 73)⟩,
  ⟨(some 12), none, .mv (.t 74)⟩]
theorem tr17_14 : (ro Tryd.f17 14).toList.mapM (trO Tryd.prog 76 (ro Tryd.f17 14)) = some a17_14 := by kernel_rfl
def a17_4 : List AO := [⟨(some 21), none, .mv (.t 13)⟩,
  ⟨(some 22), none, .bin .add (.t 21) (.v (.int .i64 1))⟩,
  ⟨(some 13), none, .mv (.t 22)⟩]
theorem tr17_4 : (ro Tryd.f17 4).toList.mapM (trO Tryd.prog 76 (ro Tryd.f17 4)) = some a17_4 := by kernel_rfl
def a17_15 : List AO := [⟨(some 75), none, .mv (.t 12)⟩,
  ⟨(some 10), none, .mv (.t 75)⟩,
  ⟨(some 11), none, .mv (.v (.int .i64 0))⟩]
theorem tr17_15 : (ro Tryd.f17 15).toList.mapM (trO Tryd.prog 76 (ro Tryd.f17 15)) = some a17_15 := by kernel_rfl
/-- airline/airlinelaw27.charges -/
noncomputable def c18 : Code := .seq (.region 0 (ro Tryd.f18 0) false) (.seq (.seq (.region 1 (ro Tryd.f18 1) false) (.cond (.tmp 10) (.seq (.region 2 (ro Tryd.f18 2) false) (.ret)) (.skip))) (.seq (.seq (.region 3 (ro Tryd.f18 3) false) (.block 0 (.loop (.seq (.seq (.region 4 (ro Tryd.f18 4) false) (.cond (.tmp 14) (.skip) (.exit 0))) (.seq (.block 1 (.seq (.region 6 (ro Tryd.f18 6) true) (.cond (.tmp 25) (.seq (.region 7 (ro Tryd.f18 7) false) (.ret)) (.skip)))) (.region 5 (ro Tryd.f18 5) false)))))) (.seq (.region 8 (ro Tryd.f18 8) false) (.ret))))
theorem body18 : Tryd.f18.body = some c18 := by kernel_rfl
theorem res18 : Tryd.f18.results.toList.mapM (trR Tryd.prog) = some [.t 4] := by kernel_rfl
theorem nt18 : Tryd.f18.ntmps = 26 := by kernel_rfl
theorem nm18 : (Tryd.f18.name == "runtime.NumGoroutine") = false := by kernel_rfl
def a18_0 : List AO := [⟨(some 4), none, .mv (.v (.bool false))⟩]
theorem tr18_0 : (ro Tryd.f18 0).toList.mapM (trO Tryd.prog 26 (ro Tryd.f18 0)) = some a18_0 := by kernel_rfl
def a18_1 : List AO := [⟨(some 6), none, .mv (.t 0)⟩,
  ⟨(some 7), none, .len (.t 6)⟩,
  ⟨(some 8), none, .mv (.t 1)⟩,
  ⟨(some 9), none, .len (.t 8)⟩,
  ⟨(some 10), none, .bin .neq (.t 7) (.t 9)⟩]
theorem tr18_1 : (ro Tryd.f18 1).toList.mapM (trO Tryd.prog 26 (ro Tryd.f18 1)) = some a18_1 := by kernel_rfl
def a18_2 : List AO := [⟨(some 4), none, .mv (.v (.bool false))⟩]
theorem tr18_2 : (ro Tryd.f18 2).toList.mapM (trO Tryd.prog 26 (ro Tryd.f18 2)) = some a18_2 := by kernel_rfl
def a18_3 : List AO := [⟨(some 5), none, .mv (.v (.int .i64 0))⟩]
theorem tr18_3 : (ro Tryd.f18 3).toList.mapM (trO Tryd.prog 26 (ro Tryd.f18 3)) = some a18_3 := by kernel_rfl
def a18_4 : List AO := [⟨(some 11), none, .mv (.t 5)⟩,
  ⟨(some 12), none, .mv (.t 0)⟩,
  ⟨(some 13), none, .len (.t 12)⟩,
  ⟨(some 14), none, .bin .lss (.t 11) (.t 13)⟩]
theorem tr18_4 : (ro Tryd.f18 4).toList.mapM (trO Tryd.prog 26 (ro Tryd.f18 4)) = some a18_4 := by kernel_rfl
def a18_6 : List AO := [⟨(some 17), none, .mv (.t 0)⟩,
  ⟨(some 18), none, .mv (.t 5)⟩,
  ⟨(some 19), none, .idx 2 (.t 17) (.t 18)⟩,
  ⟨(some 20), none, .load (some 2) (.t 19)⟩,
  ⟨(some 21), none, .mv (.t 1)⟩,
  ⟨(some 22), none, .mv (.t 5)⟩,
  ⟨(some 23), none, .idx 2 (.t 21) (.t 22)⟩,
  ⟨(some 24), none, .load (some 2) (.t 23)⟩,
  ⟨(some 25), none, .bina [.s, .i .i64] .neq (.t 20) (.t 24)⟩]
theorem tr18_6 : (ro Tryd.f18 6).toList.mapM (trO Tryd.prog 26 (ro Tryd.f18 6)) = some a18_6 := by kernel_rfl
def d18_6 : List (List Nat) := [[], [], [0, 1], [0, 1, 2], [], [], [4, 5], [4, 5, 6], [0, 1, 2, 3, 4, 5, 6, 7]]
theorem ok18_6 : okReg (ro Tryd.f18 6) a18_6 d18_6 = true := by kernel_rfl
def a18_7 : List AO := [⟨(some 4), none, .mv (.v (.bool false))⟩]
theorem tr18_7 : (ro Tryd.f18 7).toList.mapM (trO Tryd.prog 26 (ro Tryd.f18 7)) = some a18_7 := by kernel_rfl
def a18_5 : List AO := [⟨(some 15), none, .mv (.t 5)⟩,
  ⟨(some 16), none, .bin .add (.t 15) (.v (.int .i64 1))⟩,
  ⟨(some 5), none, .mv (.t 16)⟩]
theorem tr18_5 : (ro Tryd.f18 5).toList.mapM (trO Tryd.prog 26 (ro Tryd.f18 5)) = some a18_5 := by kernel_rfl
def a18_8 : List AO := [⟨(some 4), none, .mv (.v (.bool true))⟩]
theorem tr18_8 : (ro Tryd.f18 8).toList.mapM (trO Tryd.prog 26 (ro Tryd.f18 8)) = some a18_8 := by kernel_rfl
/-- airline/tax.Sum -/
noncomputable def c19 : Code := .seq (.region 0 (ro Tryd.f19 0) false) (.seq (.region 1 (ro Tryd.f19 1) false) (.seq (.seq (.region 2 (ro Tryd.f19 2) false) (.block 0 (.loop (.seq (.region 3 (ro Tryd.f19 3) false) (.seq (.cond (.tmp 10) (.skip) (.exit 0)) (.seq (.block 1 (.seq (.region 4 (ro Tryd.f19 4) false) (.region 5 (ro Tryd.f19 5) false))) (.region 6 (ro Tryd.f19 6) false))))))) (.seq (.region 7 (ro Tryd.f19 7) false) (.ret))))
theorem body19 : Tryd.f19.body = some c19 := by kernel_rfl
theorem res19 : Tryd.f19.results.toList.mapM (trR Tryd.prog) = some [.t 2, .t 3] := by kernel_rfl
theorem nt19 : Tryd.f19.ntmps = 23 := by kernel_rfl
theorem nm19 : (Tryd.f19.name == "runtime.NumGoroutine") = false := by kernel_rfl
def a19_0 : List AO := [⟨(some 2), none, .mv (.v (.int .i64 0))⟩,
  ⟨(some 3), none, .mv (.v (.int .i64 0))⟩]
theorem tr19_0 : (ro Tryd.f19 0).toList.mapM (trO Tryd.prog 23 (ro Tryd.f19 0)) = some a19_0 := by kernel_rfl
def a19_1 : List AO := [⟨(some 4), none, .mv (.v .nils)⟩]
theorem tr19_1 : (ro Tryd.f19 1).toList.mapM (trO Tryd.prog 23 (ro Tryd.f19 1)) = some a19_1 := by kernel_rfl
def a19_2 : List AO := [⟨(some 7), none, .mv (.t 0)⟩,
  ⟨(some 8), none, .len (.t 7)⟩,
  ⟨(some 9), none, .mv (.v (.int .i64 0))⟩]
theorem tr19_2 : (ro Tryd.f19 2).toList.mapM (trO Tryd.prog 23 (ro Tryd.f19 2)) = some a19_2 := by kernel_rfl
def a19_3 : List AO := [⟨(some 10), none, .bin .lss (.t 9) (.t 8)⟩]
theorem tr19_3 : (ro Tryd.f19 3).toList.mapM (trO Tryd.prog 23 (ro Tryd.f19 3)) = some a19_3 := by kernel_rfl
def a19_4 : List AO := [⟨(some 11), none, .idx 2 (.t 7) (.t 9)⟩,
  ⟨(some 12), none, .load (some 2) (.t 11)⟩,
  ⟨(some 6), none, .alloc 62 [(.str []), (.int .i64 0)]⟩,
  ⟨none, none, .store 2 (.t 6) (.t 12)⟩]
theorem tr19_4 : (ro Tryd.f19 4).toList.mapM (trO Tryd.prog 23 (ro Tryd.f19 4)) = some a19_4 := by kernel_rfl
def a19_5 : List AO := [⟨(some 13), none, .mv (.t 4)⟩,
  ⟨(some 14), none, .fld 1 (.t 6)⟩,
  ⟨(some 15), none, .load none (.t 14)⟩,
  ⟨(some 16), none, .slc 3 1 false [(.t 15)]⟩,
  ⟨(some 17), none, .app 3 1 8 (.t 13) (.t 16)⟩,
  ⟨(some 4), none, .mv (.t 17)⟩]
theorem tr19_5 : (ro Tryd.f19 5).toList.mapM (trO Tryd.prog 23 (ro Tryd.f19 5)) = some a19_5 := by kernel_rfl
def a19_6 : List AO := [⟨(some 18), none, .bin .add (.t 9) (.v (.int .i64 1))⟩,
  ⟨(some 9), none, .mv (.t 18)⟩]
theorem tr19_6 : (ro Tryd.f19 6).toList.mapM (trO Tryd.prog 23 (ro Tryd.f19 6)) = some a19_6 := by kernel_rfl
def a19_7 : List AO := [⟨(some 19), none, .mv (.t 4)⟩,
  ⟨(some 20), none, .call 39 [(.t 19)]⟩,
  ⟨(some 21), none, .ext 0 (.t 20)⟩,
  ⟨(some 22), none, .ext 1 (.t 20)⟩,
  ⟨(some 2), none, .mv (.t 21)⟩,
  ⟨(some 3), none, .mv (.t 22)⟩]
theorem tr19_7 : (ro Tryd.f19 7).toList.mapM (trO Tryd.prog 23 (ro Tryd.f19 7)) = some a19_7 := by kernel_rfl
/-- airline/airlineref27.Sum -/
noncomputable def c20 : Code := .seq (.region 0 (ro Tryd.f20 0) false) (.seq (.region 1 (ro Tryd.f20 1) false) (.seq (.seq (.region 2 (ro Tryd.f20 2) false) (.block 0 (.loop (.seq (.seq (.region 3 (ro Tryd.f20 3) false) (.cond (.tmp 9) (.skip) (.exit 0))) (.seq (.block 1 (.region 5 (ro Tryd.f20 5) false)) (.region 4 (ro Tryd.f20 4) false)))))) (.seq (.region 6 (ro Tryd.f20 6) false) (.ret))))
theorem body20 : Tryd.f20.body = some c20 := by kernel_rfl
theorem res20 : Tryd.f20.results.toList.mapM (trR Tryd.prog) = some [.t 2, .t 3] := by kernel_rfl
theorem nt20 : Tryd.f20.ntmps = 24 := by kernel_rfl
theorem nm20 : (Tryd.f20.name == "runtime.NumGoroutine") = false := by kernel_rfl
def a20_0 : List AO := [⟨(some 2), none, .mv (.v (.int .i64 0))⟩,
  ⟨(some 3), none, .mv (.v (.int .i64 0))⟩]
theorem tr20_0 : (ro Tryd.f20 0).toList.mapM (trO Tryd.prog 24 (ro Tryd.f20 0)) = some a20_0 := by kernel_rfl
def a20_1 : List AO := [⟨(some 4), none, .mv (.v .nils)⟩]
theorem tr20_1 : (ro Tryd.f20 1).toList.mapM (trO Tryd.prog 24 (ro Tryd.f20 1)) = some a20_1 := by kernel_rfl
def a20_2 : List AO := [⟨(some 5), none, .mv (.v (.int .i64 0))⟩]
theorem tr20_2 : (ro Tryd.f20 2).toList.mapM (trO Tryd.prog 24 (ro Tryd.f20 2)) = some a20_2 := by kernel_rfl
def a20_3 : List AO := [⟨(some 6), none, .mv (.t 5)⟩,
  ⟨(some 7), none, .mv (.t 0)⟩,
  ⟨(some 8), none, .len (.t 7)⟩,
  ⟨(some 9), none, .bin .lss (.t 6) (.t 8)⟩]
theorem tr20_3 : (ro Tryd.f20 3).toList.mapM (trO Tryd.prog 24 (ro Tryd.f20 3)) = some a20_3 := by kernel_rfl
def a20_5 : List AO := [⟨(some 12), none, .mv (.t 4)⟩,
  ⟨(some 13), none, .mv (.t 0)⟩,
  ⟨(some 14), none, .mv (.t 5)⟩,
  ⟨(some 15), none, .idx 2 (.t 13) (.t 14)⟩,
  ⟨(some 16), none, .fld 1 (.t 15)⟩,
  ⟨(some 17), none, .load none (.t 16)⟩,
  ⟨(some 18), none, .slc 3 1 false [(.t 17)]⟩,
  ⟨(some 19), none, .app 3 1 8 (.t 12) (.t 18)⟩,
  ⟨(some 4), none, .mv (.t 19)⟩]
theorem tr20_5 : (ro Tryd.f20 5).toList.mapM (trO Tryd.prog 24 (ro Tryd.f20 5)) = some a20_5 := by kernel_rfl
def a20_4 : List AO := [⟨(some 10), none, .mv (.t 5)⟩,
  ⟨(some 11), none, .bin .add (.t 10) (.v (.int .i64 1))⟩,
  ⟨(some 5), none, .mv (.t 11)⟩]
theorem tr20_4 : (ro Tryd.f20 4).toList.mapM (trO Tryd.prog 24 (ro Tryd.f20 4)) = some a20_4 := by kernel_rfl
def a20_6 : List AO := [⟨(some 20), none, .mv (.t 4)⟩,
  ⟨(some 21), none, .call 40 [(.t 20)]⟩,
  ⟨(some 22), none, .ext 0 (.t 21)⟩,
  ⟨(some 23), none, .ext 1 (.t 21)⟩,
  ⟨(some 2), none, .mv (.t 22)⟩,
  ⟨(some 3), none, .mv (.t 23)⟩]
theorem tr20_6 : (ro Tryd.f20 6).toList.mapM (trO Tryd.prog 24 (ro Tryd.f20 6)) = some a20_6 := by kernel_rfl
/-- airline/tax.Check 1 -/
noncomputable def c21 : Code := .seq (.region 0 (ro Tryd.f21 0) false) (.cond (.tmp 6) (.region 1 (ro Tryd.f21 1) true) (.skip))
theorem body21 : Tryd.f21.body = some c21 := by kernel_rfl
theorem res21 : Tryd.f21.results.toList.mapM (trR Tryd.prog) = some [] := by kernel_rfl
theorem nt21 : Tryd.f21.ntmps = 15 := by kernel_rfl
theorem nm21 : (Tryd.f21.name == "runtime.NumGoroutine") = false := by kernel_rfl
def a21_0 : List AO := [⟨(some 6), none, .mv (.t 0)⟩]
theorem tr21_0 : (ro Tryd.f21 0).toList.mapM (trO Tryd.prog 15 (ro Tryd.f21 0)) = some a21_0 := by kernel_rfl
def a21_1 : List AO := [⟨(some 7), none, .load none (.t 2)⟩,
  ⟨(some 8), none, .mv (.t 1)⟩,
  ⟨(some 9), none, .load none (.t 3)⟩,
  ⟨(some 10), none, .call 22 [(.t 9)]⟩,
  ⟨(some 11), none, .bin .add (.v (.str [116, 97, 120, 32])) (.t 10)⟩,
  ⟨(some 12), none, .build [(.int .i64 0), (.str [])] [(0, 1, (.t 8)), (1, 1, (.t 11))]⟩,
  ⟨(some 13), none, .slc 52 2 false [(.t 12)]⟩,
  ⟨(some 14), none, .app 52 2 24 (.t 7) (.t 13)⟩,
  ⟨none, none, .store 1 (.t 2) (.t 14)⟩]
theorem tr21_1 : (ro Tryd.f21 1).toList.mapM (trO Tryd.prog 15 (ro Tryd.f21 1)) = some a21_1 := by kernel_rfl
def d21_1 : List (List Nat) := [[], [], [], [2], [2, 3], [1, 2, 3, 4], [1, 2, 3, 4, 5], [0, 1, 2, 3, 4, 5, 6], [0, 1, 2, 3, 4, 5, 6, 7]]
theorem ok21_1 : okReg (ro Tryd.f21 1) a21_1 d21_1 = true := by kernel_rfl
/-- airline/text.Decimal -/
noncomputable def c22 : Code := .seq (.region 0 (ro Tryd.f22 0) false) (.seq (.region 1 (ro Tryd.f22 1) false) (.ret))
theorem body22 : Tryd.f22.body = some c22 := by kernel_rfl
theorem res22 : Tryd.f22.results.toList.mapM (trR Tryd.prog) = some [.t 2] := by kernel_rfl
theorem nt22 : Tryd.f22.ntmps = 5 := by kernel_rfl
theorem nm22 : (Tryd.f22.name == "runtime.NumGoroutine") = false := by kernel_rfl
def a22_0 : List AO := [⟨(some 2), none, .mv (.v (.str []))⟩]
theorem tr22_0 : (ro Tryd.f22 0).toList.mapM (trO Tryd.prog 5 (ro Tryd.f22 0)) = some a22_0 := by kernel_rfl
def a22_1 : List AO := [⟨(some 3), none, .mv (.t 0)⟩,
  ⟨(some 4), none, .call 41 [(.t 3)]⟩,
  ⟨(some 2), none, .mv (.t 4)⟩]
theorem tr22_1 : (ro Tryd.f22 1).toList.mapM (trO Tryd.prog 5 (ro Tryd.f22 1)) = some a22_1 := by kernel_rfl
/-- airline/text.Code -/
noncomputable def c23 : Code := .seq (.region 0 (ro Tryd.f23 0) false) (.seq (.region 1 (ro Tryd.f23 1) false) (.ret))
theorem body23 : Tryd.f23.body = some c23 := by kernel_rfl
theorem res23 : Tryd.f23.results.toList.mapM (trR Tryd.prog) = some [.t 6] := by kernel_rfl
theorem nt23 : Tryd.f23.ntmps = 21 := by kernel_rfl
theorem nm23 : (Tryd.f23.name == "runtime.NumGoroutine") = false := by kernel_rfl
def a23_0 : List AO := [⟨(some 6), none, .mv (.v (.bool false))⟩]
theorem tr23_0 : (ro Tryd.f23 0).toList.mapM (trO Tryd.prog 21 (ro Tryd.f23 0)) = some a23_0 := by kernel_rfl
def a23_1 : List AO := [⟨(some 7), none, .mv (.t 0)⟩,
  ⟨(some 8), none, .slen (.t 7)⟩,
  ⟨(some 9), none, .mv (.t 1)⟩,
  ⟨(some 10), none, .bin .geq (.t 8) (.t 9)⟩,
  ⟨(some 11), none, .mv (.t 10)⟩,
  ⟨(some 12), some (11, true), .mv (.t 0)⟩,
  ⟨(some 13), some (11, true), .slen (.t 12)⟩,
  ⟨(some 14), some (11, true), .mv (.t 2)⟩,
  ⟨(some 15), some (11, true), .bin .leq (.t 13) (.t 14)⟩,
  ⟨(some 16), none, .pick (.t 11) (.t 15) (.v (.bool false))⟩,
  ⟨(some 17), none, .mv (.t 16)⟩,
  ⟨(some 18), some (17, true), .mv (.t 0)⟩,
  ⟨(some 19), some (17, true), .call 42 [(.t 18), (.v (.fn 43 []))]⟩,
  ⟨(some 20), none, .pick (.t 17) (.t 19) (.v (.bool false))⟩,
  ⟨(some 6), none, .mv (.t 20)⟩]
theorem tr23_1 : (ro Tryd.f23 1).toList.mapM (trO Tryd.prog 21 (ro Tryd.f23 1)) = some a23_1 := by kernel_rfl
/-- airline/text.Country -/
noncomputable def c24 : Code := .seq (.region 0 (ro Tryd.f24 0) false) (.seq (.region 1 (ro Tryd.f24 1) false) (.ret))
theorem body24 : Tryd.f24.body = some c24 := by kernel_rfl
theorem res24 : Tryd.f24.results.toList.mapM (trR Tryd.prog) = some [.t 2] := by kernel_rfl
theorem nt24 : Tryd.f24.ntmps = 10 := by kernel_rfl
theorem nm24 : (Tryd.f24.name == "runtime.NumGoroutine") = false := by kernel_rfl
def a24_0 : List AO := [⟨(some 2), none, .mv (.v (.bool false))⟩]
theorem tr24_0 : (ro Tryd.f24 0).toList.mapM (trO Tryd.prog 10 (ro Tryd.f24 0)) = some a24_0 := by kernel_rfl
def a24_1 : List AO := [⟨(some 3), none, .mv (.t 0)⟩,
  ⟨(some 4), none, .slen (.t 3)⟩,
  ⟨(some 5), none, .bin .eql (.t 4) (.v (.int .i64 2))⟩,
  ⟨(some 6), none, .mv (.t 5)⟩,
  ⟨(some 7), some (6, true), .mv (.t 0)⟩,
  ⟨(some 8), some (6, true), .call 42 [(.t 7), (.v (.fn 44 []))]⟩,
  ⟨(some 9), none, .pick (.t 6) (.t 8) (.v (.bool false))⟩,
  ⟨(some 2), none, .mv (.t 9)⟩]
theorem tr24_1 : (ro Tryd.f24 1).toList.mapM (trO Tryd.prog 10 (ro Tryd.f24 1)) = some a24_1 := by kernel_rfl
/-- slices.ContainsFunc[[]string,string] -/
noncomputable def c25 : Code := .seq (.region 0 (ro Tryd.f25 0) false) (.seq (.region 1 (ro Tryd.f25 1) false) (.ret))
theorem body25 : Tryd.f25.body = some c25 := by kernel_rfl
theorem res25 : Tryd.f25.results.toList.mapM (trR Tryd.prog) = some [.t 4] := by kernel_rfl
theorem nt25 : Tryd.f25.ntmps = 9 := by kernel_rfl
theorem nm25 : (Tryd.f25.name == "runtime.NumGoroutine") = false := by kernel_rfl
def a25_0 : List AO := [⟨(some 4), none, .mv (.v (.bool false))⟩]
theorem tr25_0 : (ro Tryd.f25 0).toList.mapM (trO Tryd.prog 9 (ro Tryd.f25 0)) = some a25_0 := by kernel_rfl
def a25_1 : List AO := [⟨(some 5), none, .mv (.t 0)⟩,
  ⟨(some 6), none, .mv (.t 1)⟩,
  ⟨(some 7), none, .call 46 [(.t 5), (.t 6)]⟩,
  ⟨(some 8), none, .bin .geq (.t 7) (.v (.int .i64 0))⟩,
  ⟨(some 4), none, .mv (.t 8)⟩]
theorem tr25_1 : (ro Tryd.f25 1).toList.mapM (trO Tryd.prog 9 (ro Tryd.f25 1)) = some a25_1 := by kernel_rfl
/-- airline/tax.Check 2 -/
noncomputable def c26 : Code := .seq (.region 0 (ro Tryd.f26 0) false) (.seq (.region 1 (ro Tryd.f26 1) false) (.ret))
theorem body26 : Tryd.f26.body = some c26 := by kernel_rfl
theorem res26 : Tryd.f26.results.toList.mapM (trR Tryd.prog) = some [.t 2] := by kernel_rfl
theorem nt26 : Tryd.f26.ntmps = 6 := by kernel_rfl
theorem nm26 : (Tryd.f26.name == "runtime.NumGoroutine") = false := by kernel_rfl
def a26_0 : List AO := [⟨(some 2), none, .mv (.v (.bool false))⟩]
theorem tr26_0 : (ro Tryd.f26 0).toList.mapM (trO Tryd.prog 6 (ro Tryd.f26 0)) = some a26_0 := by kernel_rfl
def a26_1 : List AO := [⟨(some 3), none, .mv (.t 0)⟩,
  ⟨(some 4), none, .call 23 [(.t 3), (.v (.int .i64 3)), (.v (.int .i64 3))]⟩,
  ⟨(some 5), none, .un .not (.t 4)⟩,
  ⟨(some 2), none, .mv (.t 5)⟩]
theorem tr26_1 : (ro Tryd.f26 1).toList.mapM (trO Tryd.prog 6 (ro Tryd.f26 1)) = some a26_1 := by kernel_rfl
/-- airline/airlineref01.Decimal -/
noncomputable def c27 : Code := .seq (.region 0 (ro Tryd.f27 0) false) (.seq (.seq (.region 1 (ro Tryd.f27 1) false) (.cond (.tmp 4) (.seq (.region 2 (ro Tryd.f27 2) false) (.ret)) (.skip))) (.seq (.region 3 (ro Tryd.f27 3) false) (.ret)))
theorem body27 : Tryd.f27.body = some c27 := by kernel_rfl
theorem res27 : Tryd.f27.results.toList.mapM (trR Tryd.prog) = some [.t 2] := by kernel_rfl
theorem nt27 : Tryd.f27.ntmps = 15 := by kernel_rfl
theorem nm27 : (Tryd.f27.name == "runtime.NumGoroutine") = false := by kernel_rfl
def a27_0 : List AO := [⟨(some 2), none, .mv (.v (.str []))⟩]
theorem tr27_0 : (ro Tryd.f27 0).toList.mapM (trO Tryd.prog 15 (ro Tryd.f27 0)) = some a27_0 := by kernel_rfl
def a27_1 : List AO := [⟨(some 3), none, .mv (.t 0)⟩,
  ⟨(some 4), none, .bin .lss (.t 3) (.v (.int .i64 0))⟩]
theorem tr27_1 : (ro Tryd.f27 1).toList.mapM (trO Tryd.prog 15 (ro Tryd.f27 1)) = some a27_1 := by kernel_rfl
def a27_2 : List AO := [⟨(some 5), none, .mv (.t 0)⟩,
  ⟨(some 6), none, .bin .add (.t 5) (.v (.int .i64 1))⟩,
  ⟨(some 7), none, .un .neg (.t 6)⟩,
  ⟨(some 8), none, .conv .u64 (.t 7)⟩,
  ⟨(some 9), none, .bin .add (.t 8) (.v (.int .u64 1))⟩,
  ⟨(some 10), none, .call 47 [(.t 9)]⟩,
  ⟨(some 11), none, .bin .add (.v (.str [45])) (.t 10)⟩,
  ⟨(some 2), none, .mv (.t 11)⟩]
theorem tr27_2 : (ro Tryd.f27 2).toList.mapM (trO Tryd.prog 15 (ro Tryd.f27 2)) = some a27_2 := by kernel_rfl
def a27_3 : List AO := [⟨(some 12), none, .mv (.t 0)⟩,
  ⟨(some 13), none, .conv .u64 (.t 12)⟩,
  ⟨(some 14), none, .call 47 [(.t 13)]⟩,
  ⟨(some 2), none, .mv (.t 14)⟩]
theorem tr27_3 : (ro Tryd.f27 3).toList.mapM (trO Tryd.prog 15 (ro Tryd.f27 3)) = some a27_3 := by kernel_rfl
/-- airline/airlineref27.named -/
noncomputable def c28 : Code := .seq (.region 0 (ro Tryd.f28 0) false) (.seq (.seq (.region 1 (ro Tryd.f28 1) false) (.cond (.tmp 13) (.seq (.region 2 (ro Tryd.f28 2) false) (.ret)) (.skip))) (.seq (.seq (.region 3 (ro Tryd.f28 3) false) (.block 0 (.loop (.seq (.seq (.region 4 (ro Tryd.f28 4) false) (.cond (.tmp 18) (.skip) (.exit 0))) (.seq (.block 1 (.seq (.region 6 (ro Tryd.f28 6) false) (.cond (.tmp 27) (.seq (.region 7 (ro Tryd.f28 7) false) (.ret)) (.skip)))) (.region 5 (ro Tryd.f28 5) false)))))) (.seq (.region 8 (ro Tryd.f28 8) false) (.ret))))
theorem body28 : Tryd.f28.body = some c28 := by kernel_rfl
theorem res28 : Tryd.f28.results.toList.mapM (trR Tryd.prog) = some [.t 2] := by kernel_rfl
theorem nt28 : Tryd.f28.ntmps = 28 := by kernel_rfl
theorem nm28 : (Tryd.f28.name == "runtime.NumGoroutine") = false := by kernel_rfl
def a28_0 : List AO := [⟨(some 1), none, .box 34 (.t 0)⟩,
  ⟨(some 2), none, .mv (.v (.bool false))⟩]
theorem tr28_0 : (ro Tryd.f28 0).toList.mapM (trO Tryd.prog 28 (ro Tryd.f28 0)) = some a28_0 := by kernel_rfl
def a28_1 : List AO := [⟨(some 4), none, .fld 0 (.t 1)⟩,
  ⟨(some 5), none, .load none (.t 4)⟩,
  ⟨(some 6), none, .call 48 [(.t 5), (.v (.int .i64 2)), (.v (.int .i64 2))]⟩,
  ⟨(some 7), none, .un .not (.t 6)⟩,
  ⟨(some 8), none, .mv (.t 7)⟩,
  ⟨(some 9), some (8, false), .fld 2 (.t 1)⟩,
  ⟨(some 10), some (8, false), .load none (.t 9)⟩,
  ⟨(some 11), some (8, false), .call 49 [(.t 10)]⟩,
  ⟨(some 12), some (8, false), .un .not (.t 11)⟩,
  ⟨(some 13), none, .pick (.t 8) (.v (.bool true)) (.t 12)⟩]
theorem tr28_1 : (ro Tryd.f28 1).toList.mapM (trO Tryd.prog 28 (ro Tryd.f28 1)) = some a28_1 := by kernel_rfl
def a28_2 : List AO := [⟨(some 2), none, .mv (.v (.bool false))⟩]
theorem tr28_2 : (ro Tryd.f28 2).toList.mapM (trO Tryd.prog 28 (ro Tryd.f28 2)) = some a28_2 := by kernel_rfl
def a28_3 : List AO := [⟨(some 3), none, .mv (.v (.int .i64 0))⟩]
theorem tr28_3 : (ro Tryd.f28 3).toList.mapM (trO Tryd.prog 28 (ro Tryd.f28 3)) = some a28_3 := by kernel_rfl
def a28_4 : List AO := [⟨(some 14), none, .mv (.t 3)⟩,
  ⟨(some 15), none, .fld 6 (.t 1)⟩,
  ⟨(some 16), none, .load none (.t 15)⟩,
  ⟨(some 17), none, .len (.t 16)⟩,
  ⟨(some 18), none, .bin .lss (.t 14) (.t 17)⟩]
theorem tr28_4 : (ro Tryd.f28 4).toList.mapM (trO Tryd.prog 28 (ro Tryd.f28 4)) = some a28_4 := by kernel_rfl
def a28_6 : List AO := [⟨(some 21), none, .fld 6 (.t 1)⟩,
  ⟨(some 22), none, .load none (.t 21)⟩,
  ⟨(some 23), none, .mv (.t 3)⟩,
  ⟨(some 24), none, .idx 1 (.t 22) (.t 23)⟩,
  ⟨(some 25), none, .load none (.t 24)⟩,
  ⟨(some 26), none, .call 48 [(.t 25), (.v (.int .i64 3)), (.v (.int .i64 3))]⟩,
  ⟨(some 27), none, .un .not (.t 26)⟩]
theorem tr28_6 : (ro Tryd.f28 6).toList.mapM (trO Tryd.prog 28 (ro Tryd.f28 6)) = some a28_6 := by kernel_rfl
def a28_7 : List AO := [⟨(some 2), none, .mv (.v (.bool false))⟩]
theorem tr28_7 : (ro Tryd.f28 7).toList.mapM (trO Tryd.prog 28 (ro Tryd.f28 7)) = some a28_7 := by kernel_rfl
def a28_5 : List AO := [⟨(some 19), none, .mv (.t 3)⟩,
  ⟨(some 20), none, .bin .add (.t 19) (.v (.int .i64 1))⟩,
  ⟨(some 3), none, .mv (.t 20)⟩]
theorem tr28_5 : (ro Tryd.f28 5).toList.mapM (trO Tryd.prog 28 (ro Tryd.f28 5)) = some a28_5 := by kernel_rfl
def a28_8 : List AO := [⟨(some 2), none, .mv (.v (.bool true))⟩]
theorem tr28_8 : (ro Tryd.f28 8).toList.mapM (trO Tryd.prog 28 (ro Tryd.f28 8)) = some a28_8 := by kernel_rfl
/-- airline/airlineref27.most -/
noncomputable def c29 : Code := .seq (.region 0 (ro Tryd.f29 0) false) (.seq (.seq (.region 1 (ro Tryd.f29 1) false) (.cond (.tmp 4) (.seq (.region 2 (ro Tryd.f29 2) false) (.ret)) (.skip))) (.seq (.region 3 (ro Tryd.f29 3) false) (.ret)))
theorem body29 : Tryd.f29.body = some c29 := by kernel_rfl
theorem res29 : Tryd.f29.results.toList.mapM (trR Tryd.prog) = some [.t 2] := by kernel_rfl
theorem nt29 : Tryd.f29.ntmps = 5 := by kernel_rfl
theorem nm29 : (Tryd.f29.name == "runtime.NumGoroutine") = false := by kernel_rfl
def a29_0 : List AO := [⟨(some 2), none, .mv (.v (.int .i64 0))⟩]
theorem tr29_0 : (ro Tryd.f29 0).toList.mapM (trO Tryd.prog 5 (ro Tryd.f29 0)) = some a29_0 := by kernel_rfl
def a29_1 : List AO := [⟨(some 3), none, .mv (.t 0)⟩,
  ⟨(some 4), none, .bin .eql (.t 3) (.v (.int .i64 4))⟩]
theorem tr29_1 : (ro Tryd.f29 1).toList.mapM (trO Tryd.prog 5 (ro Tryd.f29 1)) = some a29_1 := by kernel_rfl
def a29_2 : List AO := [⟨(some 2), none, .mv (.v (.int .i64 100000))⟩]
theorem tr29_2 : (ro Tryd.f29 2).toList.mapM (trO Tryd.prog 5 (ro Tryd.f29 2)) = some a29_2 := by kernel_rfl
def a29_3 : List AO := [⟨(some 2), none, .mv (.v (.int .i64 1099511627776))⟩]
theorem tr29_3 : (ro Tryd.f29 3).toList.mapM (trO Tryd.prog 5 (ro Tryd.f29 3)) = some a29_3 := by kernel_rfl
/-- airline/airlinelaw27.sample -/
noncomputable def c30 : Code := .seq (.region 0 (ro Tryd.f30 0) false) (.seq (.region 1 (ro Tryd.f30 1) false) (.ret))
theorem body30 : Tryd.f30.body = some c30 := by kernel_rfl
theorem res30 : Tryd.f30.results.toList.mapM (trR Tryd.prog) = some [.c (some 2) 0] := by kernel_rfl
theorem nt30 : Tryd.f30.ntmps = 6 := by kernel_rfl
theorem nm30 : (Tryd.f30.name == "runtime.NumGoroutine") = false := by kernel_rfl
def a30_0 : List AO := [⟨(some 0), none, .alloc 31 [.nils, .nils]⟩]
theorem tr30_0 : (ro Tryd.f30 0).toList.mapM (trO Tryd.prog 6 (ro Tryd.f30 0)) = some a30_0 := by kernel_rfl
def a30_1 : List AO := [⟨(some 1), none, .build [(.str []), (.str []), (.str []), (.int .i64 0), .nils] [(0, 1, (.v (.str [76, 72, 82]))), (1, 1, (.v (.str [76, 79, 78]))), (2, 1, (.v (.str [71, 66])))]⟩,
  ⟨(some 2), none, .build [(.str []), (.str []), (.str []), (.int .i64 0), .nils] [(0, 1, (.v (.str [77, 65, 78]))), (1, 1, (.v (.str [77, 65, 78]))), (2, 1, (.v (.str [71, 66])))]⟩,
  ⟨(some 3), none, .build [(.str []), (.str []), (.str []), (.int .i64 0), .nils] [(0, 1, (.v (.str [67, 68, 71]))), (1, 1, (.v (.str [80, 65, 82]))), (2, 1, (.v (.str [70, 82])))]⟩,
  ⟨(some 4), none, .slc 81 5 false [(.t 1), (.t 2), (.t 3)]⟩,
  ⟨(some 5), none, .build [.nils, .nils] [(0, 1, (.t 4))]⟩,
  ⟨none, none, .store 2 (.t 0) (.t 5)⟩]
theorem tr30_1 : (ro Tryd.f30 1).toList.mapM (trO Tryd.prog 6 (ro Tryd.f30 1)) = some a30_1 := by kernel_rfl
/-- airline/airlinelaw06.Small -/
noncomputable def c31 : Code := .seq (.region 0 (ro Tryd.f31 0) false) (.seq (.seq (.region 1 (ro Tryd.f31 1) false) (.cond (.tmp 13) (.seq (.region 2 (ro Tryd.f31 2) false) (.ret)) (.skip))) (.seq (.seq (.region 3 (ro Tryd.f31 3) false) (.block 0 (.loop (.seq (.seq (.region 4 (ro Tryd.f31 4) false) (.cond (.tmp 18) (.skip) (.exit 0))) (.seq (.block 1 (.seq (.region 6 (ro Tryd.f31 6) false) (.cond (.tmp 29) (.seq (.region 7 (ro Tryd.f31 7) false) (.ret)) (.skip)))) (.region 5 (ro Tryd.f31 5) false)))))) (.seq (.region 8 (ro Tryd.f31 8) false) (.ret))))
theorem body31 : Tryd.f31.body = some c31 := by kernel_rfl
theorem res31 : Tryd.f31.results.toList.mapM (trR Tryd.prog) = some [.t 2] := by kernel_rfl
theorem nt31 : Tryd.f31.ntmps = 30 := by kernel_rfl
theorem nm31 : (Tryd.f31.name == "runtime.NumGoroutine") = false := by kernel_rfl
def a31_0 : List AO := [⟨(some 1), none, .box 31 (.t 0)⟩,
  ⟨(some 2), none, .mv (.v (.bool false))⟩]
theorem tr31_0 : (ro Tryd.f31 0).toList.mapM (trO Tryd.prog 30 (ro Tryd.f31 0)) = some a31_0 := by kernel_rfl
def a31_1 : List AO := [⟨(some 4), none, .fld 0 (.t 1)⟩,
  ⟨(some 5), none, .load none (.t 4)⟩,
  ⟨(some 6), none, .len (.t 5)⟩,
  ⟨(some 7), none, .bin .gtr (.t 6) (.v (.int .i64 40))⟩,
  ⟨(some 8), none, .mv (.t 7)⟩,
  ⟨(some 9), some (8, false), .fld 1 (.t 1)⟩,
  ⟨(some 10), some (8, false), .load none (.t 9)⟩,
  ⟨(some 11), some (8, false), .len (.t 10)⟩,
  ⟨(some 12), some (8, false), .bin .gtr (.t 11) (.v (.int .i64 60))⟩,
  ⟨(some 13), none, .pick (.t 8) (.v (.bool true)) (.t 12)⟩]
theorem tr31_1 : (ro Tryd.f31 1).toList.mapM (trO Tryd.prog 30 (ro Tryd.f31 1)) = some a31_1 := by kernel_rfl
def a31_2 : List AO := [⟨(some 2), none, .mv (.v (.bool false))⟩]
theorem tr31_2 : (ro Tryd.f31 2).toList.mapM (trO Tryd.prog 30 (ro Tryd.f31 2)) = some a31_2 := by kernel_rfl
def a31_3 : List AO := [⟨(some 3), none, .mv (.v (.int .i64 0))⟩]
theorem tr31_3 : (ro Tryd.f31 3).toList.mapM (trO Tryd.prog 30 (ro Tryd.f31 3)) = some a31_3 := by kernel_rfl
def a31_4 : List AO := [⟨(some 14), none, .mv (.t 3)⟩,
  ⟨(some 15), none, .fld 0 (.t 1)⟩,
  ⟨(some 16), none, .load none (.t 15)⟩,
  ⟨(some 17), none, .len (.t 16)⟩,
  ⟨(some 18), none, .bin .lss (.t 14) (.t 17)⟩]
theorem tr31_4 : (ro Tryd.f31 4).toList.mapM (trO Tryd.prog 30 (ro Tryd.f31 4)) = some a31_4 := by kernel_rfl
def a31_6 : List AO := [⟨(some 21), none, .fld 0 (.t 1)⟩,
  ⟨(some 22), none, .load none (.t 21)⟩,
  ⟨(some 23), none, .mv (.t 3)⟩,
  ⟨(some 24), none, .idx 5 (.t 22) (.t 23)⟩,
  ⟨(some 25), none, .fld 3 (.t 24)⟩,
  ⟨(some 26), none, .fld 1 (.t 25)⟩,
  ⟨(some 27), none, .load none (.t 26)⟩,
  ⟨(some 28), none, .len (.t 27)⟩,
  ⟨(some 29), none, .bin .gtr (.t 28) (.v (.int .i64 40))⟩]
theorem tr31_6 : (ro Tryd.f31 6).toList.mapM (trO Tryd.prog 30 (ro Tryd.f31 6)) = some a31_6 := by kernel_rfl
def a31_7 : List AO := [⟨(some 2), none, .mv (.v (.bool false))⟩]
theorem tr31_7 : (ro Tryd.f31 7).toList.mapM (trO Tryd.prog 30 (ro Tryd.f31 7)) = some a31_7 := by kernel_rfl
def a31_5 : List AO := [⟨(some 19), none, .mv (.t 3)⟩,
  ⟨(some 20), none, .bin .add (.t 19) (.v (.int .i64 1))⟩,
  ⟨(some 3), none, .mv (.t 20)⟩]
theorem tr31_5 : (ro Tryd.f31 5).toList.mapM (trO Tryd.prog 30 (ro Tryd.f31 5)) = some a31_5 := by kernel_rfl
def a31_8 : List AO := [⟨(some 2), none, .mv (.v (.bool true))⟩]
theorem tr31_8 : (ro Tryd.f31 8).toList.mapM (trO Tryd.prog 30 (ro Tryd.f31 8)) = some a31_8 := by kernel_rfl
/-- airline/airlineref06.Check -/
noncomputable def c32 : Code := .seq (.region 0 (ro Tryd.f32 0) false) (.seq (.region 1 (ro Tryd.f32 1) false) (.seq (.seq (.region 2 (ro Tryd.f32 2) false) (.block 0 (.loop (.seq (.seq (.region 3 (ro Tryd.f32 3) false) (.cond (.tmp 14) (.skip) (.exit 0))) (.seq (.block 1 (.seq (.region 5 (ro Tryd.f32 5) false) (.seq (.region 6 (ro Tryd.f32 6) false) (.block 2 (.loop (.seq (.seq (.region 7 (ro Tryd.f32 7) false) (.cond (.tmp 23) (.skip) (.exit 2))) (.seq (.block 3 (.region 9 (ro Tryd.f32 9) true)) (.region 8 (ro Tryd.f32 8) false)))))))) (.region 4 (ro Tryd.f32 4) false)))))) (.seq (.seq (.region 10 (ro Tryd.f32 10) false) (.block 4 (.loop (.seq (.seq (.region 11 (ro Tryd.f32 11) false) (.cond (.tmp 41) (.skip) (.exit 4))) (.seq (.block 5 (.seq (.region 13 (ro Tryd.f32 13) false) (.seq (.region 14 (ro Tryd.f32 14) false) (.block 6 (.loop (.seq (.seq (.region 15 (ro Tryd.f32 15) false) (.cond (.tmp 50) (.skip) (.exit 6))) (.seq (.block 7 (.region 17 (ro Tryd.f32 17) true)) (.region 16 (ro Tryd.f32 16) false)))))))) (.region 12 (ro Tryd.f32 12) false)))))) (.seq (.region 18 (ro Tryd.f32 18) false) (.ret)))))
theorem body32 : Tryd.f32.body = some c32 := by kernel_rfl
theorem res32 : Tryd.f32.results.toList.mapM (trR Tryd.prog) = some [.t 2] := by kernel_rfl
theorem nt32 : Tryd.f32.ntmps = 65 := by kernel_rfl
theorem nm32 : (Tryd.f32.name == "runtime.NumGoroutine") = false := by kernel_rfl
def a32_0 : List AO := [⟨(some 1), none, .box 31 (.t 0)⟩,
  ⟨(some 2), none, .mv (.v .nils)⟩]
theorem tr32_0 : (ro Tryd.f32 0).toList.mapM (trO Tryd.prog 65 (ro Tryd.f32 0)) = some a32_0 := by kernel_rfl
def a32_1 : List AO := [⟨(some 3), none, .mv (.v .nils)⟩]
theorem tr32_1 : (ro Tryd.f32 1).toList.mapM (trO Tryd.prog 65 (ro Tryd.f32 1)) = some a32_1 := by kernel_rfl
def a32_2 : List AO := [⟨(some 4), none, .mv (.v (.int .i64 0))⟩]
theorem tr32_2 : (ro Tryd.f32 2).toList.mapM (trO Tryd.prog 65 (ro Tryd.f32 2)) = some a32_2 := by kernel_rfl
def a32_3 : List AO := [⟨(some 10), none, .mv (.t 4)⟩,
  ⟨(some 11), none, .fld 0 (.t 1)⟩,
  ⟨(some 12), none, .load none (.t 11)⟩,
  ⟨(some 13), none, .len (.t 12)⟩,
  ⟨(some 14), none, .bin .lss (.t 10) (.t 13)⟩]
theorem tr32_3 : (ro Tryd.f32 3).toList.mapM (trO Tryd.prog 65 (ro Tryd.f32 3)) = some a32_3 := by kernel_rfl
def a32_5 : List AO := [⟨(some 17), none, .load (some 2) (.t 1)⟩,
  ⟨(some 18), none, .mv (.t 4)⟩,
  ⟨(some 19), none, .call 50 [(.t 17), (.t 18)]⟩,
  ⟨(some 5), none, .mv (.t 19)⟩]
theorem tr32_5 : (ro Tryd.f32 5).toList.mapM (trO Tryd.prog 65 (ro Tryd.f32 5)) = some a32_5 := by kernel_rfl
def a32_6 : List AO := [⟨(some 6), none, .mv (.v (.int .i64 0))⟩]
theorem tr32_6 : (ro Tryd.f32 6).toList.mapM (trO Tryd.prog 65 (ro Tryd.f32 6)) = some a32_6 := by kernel_rfl
def a32_7 : List AO := [⟨(some 20), none, .mv (.t 6)⟩,
  ⟨(some 21), none, .mv (.t 5)⟩,
  ⟨(some 22), none, .len (.t 21)⟩,
  ⟨(some 23), none, .bin .lss (.t 20) (.t 22)⟩]
theorem tr32_7 : (ro Tryd.f32 7).toList.mapM (trO Tryd.prog 65 (ro Tryd.f32 7)) = some a32_7 := by kernel_rfl
def a32_9 : List AO := [⟨(some 26), none, .mv (.t 3)⟩,
  ⟨(some 27), none, .mv (.t 5)⟩,
  ⟨(some 28), none, .mv (.t 6)⟩,
  ⟨(some 29), none, .idx 1 (.t 27) (.t 28)⟩,
  ⟨(some 30), none, .load none (.t 29)⟩,
  ⟨(some 31), none, .mv (.t 4)⟩,
  ⟨(some 32), none, .call 27 [(.t 31)]⟩,
  ⟨(some 33), none, .bin .add (.v (.str [97, 105, 114, 112, 111, 114, 116, 32])) (.t 32)⟩,
  ⟨(some 34), none, .build [(.int .i64 0), (.str [])] [(0, 1, (.t 30)), (1, 1, (.t 33))]⟩,
  ⟨(some 35), none, .slc 52 2 false [(.t 34)]⟩,
  ⟨(some 36), none, .app 52 2 24 (.t 26) (.t 35)⟩,
  ⟨(some 3), none, .mv (.t 36)⟩]
theorem tr32_9 : (ro Tryd.f32 9).toList.mapM (trO Tryd.prog 65 (ro Tryd.f32 9)) = some a32_9 := by kernel_rfl
def d32_9 : List (List Nat) := [[], [], [], [1, 2], [1, 2, 3], [], [5], [5, 6], [1, 2, 3, 4, 5, 6, 7], [1, 2, 3, 4, 5, 6, 7, 8], [0, 1, 2, 3, 4, 5, 6, 7, 8, 9], [0, 1, 2, 3, 4, 5, 6, 7, 8, 9, 10]]
theorem ok32_9 : okReg (ro Tryd.f32 9) a32_9 d32_9 = true := by kernel_rfl
def a32_8 : List AO := [⟨(some 24), none, .mv (.t 6)⟩,
  ⟨(some 25), none, .bin .add (.t 24) (.v (.int .i64 1))⟩,
  ⟨(some 6), none, .mv (.t 25)⟩]
theorem tr32_8 : (ro Tryd.f32 8).toList.mapM (trO Tryd.prog 65 (ro Tryd.f32 8)) = some a32_8 := by kernel_rfl
def a32_4 : List AO := [⟨(some 15), none, .mv (.t 4)⟩,
  ⟨(some 16), none, .bin .add (.t 15) (.v (.int .i64 1))⟩,
  ⟨(some 4), none, .mv (.t 16)⟩]
theorem tr32_4 : (ro Tryd.f32 4).toList.mapM (trO Tryd.prog 65 (ro Tryd.f32 4)) = some a32_4 := by kernel_rfl
def a32_10 : List AO := [⟨(some 7), none, .mv (.v (.int .i64 0))⟩]
theorem tr32_10 : (ro Tryd.f32 10).toList.mapM (trO Tryd.prog 65 (ro Tryd.f32 10)) = some a32_10 := by kernel_rfl
def a32_11 : List AO := [⟨(some 37), none, .mv (.t 7)⟩,
  ⟨(some 38), none, .fld 1 (.t 1)⟩,
  ⟨(some 39), none, .load none (.t 38)⟩,
  ⟨(some 40), none, .len (.t 39)⟩,
  ⟨(some 41), none, .bin .lss (.t 37) (.t 40)⟩]
theorem tr32_11 : (ro Tryd.f32 11).toList.mapM (trO Tryd.prog 65 (ro Tryd.f32 11)) = some a32_11 := by kernel_rfl
def a32_13 : List AO := [⟨(some 44), none, .load (some 2) (.t 1)⟩,
  ⟨(some 45), none, .mv (.t 7)⟩,
  ⟨(some 46), none, .call 51 [(.t 44), (.t 45)]⟩,
  ⟨(some 8), none, .mv (.t 46)⟩]
theorem tr32_13 : (ro Tryd.f32 13).toList.mapM (trO Tryd.prog 65 (ro Tryd.f32 13)) = some a32_13 := by kernel_rfl
def a32_14 : List AO := [⟨(some 9), none, .mv (.v (.int .i64 0))⟩]
theorem tr32_14 : (ro Tryd.f32 14).toList.mapM (trO Tryd.prog 65 (ro Tryd.f32 14)) = some a32_14 := by kernel_rfl
def a32_15 : List AO := [⟨(some 47), none, .mv (.t 9)⟩,
  ⟨(some 48), none, .mv (.t 8)⟩,
  ⟨(some 49), none, .len (.t 48)⟩,
  ⟨(some 50), none, .bin .lss (.t 47) (.t 49)⟩]
theorem tr32_15 : (ro Tryd.f32 15).toList.mapM (trO Tryd.prog 65 (ro Tryd.f32 15)) = some a32_15 := by kernel_rfl
def a32_17 : List AO := [⟨(some 53), none, .mv (.t 3)⟩,
  ⟨(some 54), none, .mv (.t 8)⟩,
  ⟨(some 55), none, .mv (.t 9)⟩,
  ⟨(some 56), none, .idx 1 (.t 54) (.t 55)⟩,
  ⟨(some 57), none, .load none (.t 56)⟩,
  ⟨(some 58), none, .mv (.t 7)⟩,
  ⟨(some 59), none, .call 27 [(.t 58)]⟩,
  ⟨(some 60), none, .bin .add (.v (.str [100, 105, 115, 116, 97, 110, 99, 101, 32])) (.t 59)⟩,
  ⟨(some 61), none, .build [(.int .i64 0), (.str [])] [(0, 1, (.t 57)), (1, 1, (.t 60))]⟩,
  ⟨(some 62), none, .slc 52 2 false [(.t 61)]⟩,
  ⟨(some 63), none, .app 52 2 24 (.t 53) (.t 62)⟩,
  ⟨(some 3), none, .mv (.t 63)⟩]
theorem tr32_17 : (ro Tryd.f32 17).toList.mapM (trO Tryd.prog 65 (ro Tryd.f32 17)) = some a32_17 := by kernel_rfl
def d32_17 : List (List Nat) := [[], [], [], [1, 2], [1, 2, 3], [], [5], [5, 6], [1, 2, 3, 4, 5, 6, 7], [1, 2, 3, 4, 5, 6, 7, 8], [0, 1, 2, 3, 4, 5, 6, 7, 8, 9], [0, 1, 2, 3, 4, 5, 6, 7, 8, 9, 10]]
theorem ok32_17 : okReg (ro Tryd.f32 17) a32_17 d32_17 = true := by kernel_rfl
def a32_16 : List AO := [⟨(some 51), none, .mv (.t 9)⟩,
  ⟨(some 52), none, .bin .add (.t 51) (.v (.int .i64 1))⟩,
  ⟨(some 9), none, .mv (.t 52)⟩]
theorem tr32_16 : (ro Tryd.f32 16).toList.mapM (trO Tryd.prog 65 (ro Tryd.f32 16)) = some a32_16 := by kernel_rfl
def a32_12 : List AO := [⟨(some 42), none, .mv (.t 7)⟩,
  ⟨(some 43), none, .bin .add (.t 42) (.v (.int .i64 1))⟩,
  ⟨(some 7), none, .mv (.t 43)⟩]
theorem tr32_12 : (ro Tryd.f32 12).toList.mapM (trO Tryd.prog 65 (ro Tryd.f32 12)) = some a32_12 := by kernel_rfl
def a32_18 : List AO := [⟨(some 64), none, .mv (.t 3)⟩,
  ⟨(some 2), none, .mv (.t 64)⟩]
theorem tr32_18 : (ro Tryd.f32 18).toList.mapM (trO Tryd.prog 65 (ro Tryd.f32 18)) = some a32_18 := by kernel_rfl
/-- slices.Contains[[]string,string] -/
noncomputable def c33 : Code := .seq (.region 0 (ro Tryd.f33 0) false) (.seq (.region 1 (ro Tryd.f33 1) false) (.ret))
theorem body33 : Tryd.f33.body = some c33 := by kernel_rfl
theorem res33 : Tryd.f33.results.toList.mapM (trR Tryd.prog) = some [.t 4] := by kernel_rfl
theorem nt33 : Tryd.f33.ntmps = 9 := by kernel_rfl
theorem nm33 : (Tryd.f33.name == "runtime.NumGoroutine") = false := by kernel_rfl
def a33_0 : List AO := [⟨(some 4), none, .mv (.v (.bool false))⟩]
theorem tr33_0 : (ro Tryd.f33 0).toList.mapM (trO Tryd.prog 9 (ro Tryd.f33 0)) = some a33_0 := by kernel_rfl
def a33_1 : List AO := [⟨(some 5), none, .mv (.t 0)⟩,
  ⟨(some 6), none, .mv (.t 1)⟩,
  ⟨(some 7), none, .call 52 [(.t 5), (.t 6)]⟩,
  ⟨(some 8), none, .bin .geq (.t 7) (.v (.int .i64 0))⟩,
  ⟨(some 4), none, .mv (.t 8)⟩]
theorem tr33_1 : (ro Tryd.f33 1).toList.mapM (trO Tryd.prog 9 (ro Tryd.f33 1)) = some a33_1 := by kernel_rfl
/-- airline/places.Country -/
noncomputable def c34 : Code := .seq (.region 0 (ro Tryd.f34 0) false) (.seq (.seq (.region 1 (ro Tryd.f34 1) false) (.seq (.region 2 (ro Tryd.f34 2) false) (.cond (.tmp 15) (.seq (.region 3 (ro Tryd.f34 3) false) (.ret)) (.skip)))) (.seq (.region 4 (ro Tryd.f34 4) false) (.seq (.region 5 (ro Tryd.f34 5) false) (.ret))))
theorem body34 : Tryd.f34.body = some c34 := by kernel_rfl
theorem res34 : Tryd.f34.results.toList.mapM (trR Tryd.prog) = some [.t 4] := by kernel_rfl
theorem nt34 : Tryd.f34.ntmps = 26 := by kernel_rfl
theorem nm34 : (Tryd.f34.name == "runtime.NumGoroutine") = false := by kernel_rfl
def a34_0 : List AO := [⟨(some 2), none, .box 31 (.t 0)⟩,
  ⟨(some 4), none, .mv (.v (.str []))⟩]
theorem tr34_0 : (ro Tryd.f34 0).toList.mapM (trO Tryd.prog 26 (ro Tryd.f34 0)) = some a34_0 := by kernel_rfl
def a34_1 : List AO := [⟨(some 10), none, .load (some 2) (.t 2)⟩,
  ⟨(some 11), none, .mv (.t 1)⟩,
  ⟨(some 12), none, .call 53 [(.t 10), (.t 11)]⟩,
  ⟨(some 9), none, .mv (.t 12)⟩,
  ⟨(some 13), none, .ext 0 (.t 9)⟩,
  ⟨(some 14), none, .ext 1 (.t 9)⟩,
  ⟨(some 5), none, .alloc 81 [(.str []), (.str []), (.str []), (.int .i64 0), .nils]⟩,
  ⟨none, none, .store 5 (.t 5) (.t 13)⟩,
  ⟨(some 6), none, .mv (.t 14)⟩]
theorem tr34_1 : (ro Tryd.f34 1).toList.mapM (trO Tryd.prog 26 (ro Tryd.f34 1)) = some a34_1 := by kernel_rfl
def a34_2 : List AO := [⟨(some 15), none, .mv (.t 6)⟩]
theorem tr34_2 : (ro Tryd.f34 2).toList.mapM (trO Tryd.prog 26 (ro Tryd.f34 2)) = some a34_2 := by kernel_rfl
def a34_3 : List AO := [⟨(some 16), none, .fld 2 (.t 5)⟩,
  ⟨(some 17), none, .load none (.t 16)⟩,
  ⟨(some 4), none, .mv (.t 17)⟩]
theorem tr34_3 : (ro Tryd.f34 3).toList.mapM (trO Tryd.prog 26 (ro Tryd.f34 3)) = some a34_3 := by kernel_rfl
def a34_4 : List AO := [⟨(some 19), none, .load (some 2) (.t 2)⟩,
  ⟨(some 20), none, .mv (.t 1)⟩,
  ⟨(some 21), none, .call 54 [(.t 19), (.t 20)]⟩,
  ⟨(some 18), none, .mv (.t 21)⟩,
  ⟨(some 22), none, .ext 0 (.t 18)⟩,
  ⟨(some 23), none, .ext 1 (.t 18)⟩,
  ⟨(some 7), none, .alloc 81 [(.str []), (.str []), (.str []), (.int .i64 0), .nils]⟩,
  ⟨none, none, .store 5 (.t 7) (.t 22)⟩,
  ⟨(some 8), none, .mv (.t 23)⟩]
theorem tr34_4 : (ro Tryd.f34 4).toList.mapM (trO Tryd.prog 26 (ro Tryd.f34 4)) = some a34_4 := by kernel_rfl
def a34_5 : List AO := [⟨(some 24), none, .fld 2 (.t 7)⟩,
  ⟨(some 25), none, .load none (.t 24)⟩,
  ⟨(some 4), none, .mv (.t 25)⟩]
theorem tr34_5 : (ro Tryd.f34 5).toList.mapM (trO Tryd.prog 26 (ro Tryd.f34 5)) = some a34_5 := by kernel_rfl
/-- airline/tax.follows -/
noncomputable def c35 : Code := .seq (.region 0 (ro Tryd.f35 0) false) (.seq (.region 1 (ro Tryd.f35 1) false) (.ret))
theorem body35 : Tryd.f35.body = some c35 := by kernel_rfl
theorem res35 : Tryd.f35.results.toList.mapM (trR Tryd.prog) = some [.t 6] := by kernel_rfl
theorem nt35 : Tryd.f35.ntmps = 29 := by kernel_rfl
theorem nm35 : (Tryd.f35.name == "runtime.NumGoroutine") = false := by kernel_rfl
def a35_0 : List AO := [⟨(some 3), none, .box 46 (.t 0)⟩,
  ⟨(some 4), none, .box 46 (.t 1)⟩,
  ⟨(some 6), none, .mv (.v (.bool false))⟩]
theorem tr35_0 : (ro Tryd.f35 0).toList.mapM (trO Tryd.prog 29 (ro Tryd.f35 0)) = some a35_0 := by kernel_rfl
def a35_1 : List AO := [⟨(some 7), none, .fld 4 (.t 3)⟩,
  ⟨(some 8), none, .load none (.t 7)⟩,
  ⟨(some 9), none, .fld 3 (.t 4)⟩,
  ⟨(some 10), none, .load none (.t 9)⟩,
  ⟨(some 11), none, .bin .eql (.t 8) (.t 10)⟩,
  ⟨(some 12), none, .mv (.t 11)⟩,
  ⟨(some 13), some (12, true), .fld 5 (.t 4)⟩,
  ⟨(some 14), some (12, true), .load none (.t 13)⟩,
  ⟨(some 15), some (12, true), .fld 6 (.t 3)⟩,
  ⟨(some 16), some (12, true), .load none (.t 15)⟩,
  ⟨(some 17), some (12, true), .bin .sub (.t 14) (.t 16)⟩,
  ⟨(some 18), some (12, true), .bin .geq (.t 17) (.v (.int .i64 0))⟩,
  ⟨(some 19), none, .pick (.t 12) (.t 18) (.v (.bool false))⟩,
  ⟨(some 20), none, .mv (.t 19)⟩,
  ⟨(some 21), some (20, true), .fld 5 (.t 4)⟩,
  ⟨(some 22), some (20, true), .load none (.t 21)⟩,
  ⟨(some 23), some (20, true), .fld 6 (.t 3)⟩,
  ⟨(some 24), some (20, true), .load none (.t 23)⟩,
  ⟨(some 25), some (20, true), .bin .sub (.t 22) (.t 24)⟩,
  ⟨(some 26), some (20, true), .mv (.t 2)⟩,
  ⟨(some 27), some (20, true), .bin .leq (.t 25) (.t 26)⟩,
  ⟨(some 28), none, .pick (.t 20) (.t 27) (.v (.bool false))⟩,
  ⟨(some 6), none, .mv (.t 28)⟩]
theorem tr35_1 : (ro Tryd.f35 1).toList.mapM (trO Tryd.prog 29 (ro Tryd.f35 1)) = some a35_1 := by kernel_rfl
/-- airline/airlineref27.due -/
noncomputable def c36 : Code := .seq (.region 0 (ro Tryd.f36 0) false) (.seq (.seq (.region 1 (ro Tryd.f36 1) true) (.cond (.tmp 16) (.seq (.region 2 (ro Tryd.f36 2) false) (.ret)) (.skip))) (.seq (.seq (.region 3 (ro Tryd.f36 3) true) (.cond (.tmp 48) (.seq (.region 4 (ro Tryd.f36 4) false) (.ret)) (.skip))) (.seq (.seq (.region 5 (ro Tryd.f36 5) true) (.cond (.tmp 83) (.seq (.region 6 (ro Tryd.f36 6) false) (.ret)) (.skip))) (.seq (.region 7 (ro Tryd.f36 7) false) (.ret)))))
theorem body36 : Tryd.f36.body = some c36 := by kernel_rfl
theorem res36 : Tryd.f36.results.toList.mapM (trR Tryd.prog) = some [.t 8] := by kernel_rfl
theorem nt36 : Tryd.f36.ntmps = 84 := by kernel_rfl
theorem nm36 : (Tryd.f36.name == "runtime.NumGoroutine") = false := by kernel_rfl
def a36_0 : List AO := [⟨(some 4), none, .box 31 (.t 0)⟩,
  ⟨(some 5), none, .box 34 (.t 1)⟩,
  ⟨(some 8), none, .mv (.v (.int .i64 0))⟩]
theorem tr36_0 : (ro Tryd.f36 0).toList.mapM (trO Tryd.prog 84 (ro Tryd.f36 0)) = some a36_0 := by kernel_rfl
def a36_1 : List AO := [⟨(some 9), none, .load (some 2) (.t 4)⟩,
  ⟨(some 10), none, .load (some 7) (.t 5)⟩,
  ⟨(some 11), none, .mv (.t 2)⟩,
  ⟨(some 12), none, .mv (.t 3)⟩,
  ⟨(some 13), none, .idx 7 (.t 11) (.t 12)⟩,
  ⟨(some 14), none, .load (some 7) (.t 13)⟩,
  ⟨(some 15), none, .call 55 [(.t 9), (.t 10), (.t 14)]⟩,
  ⟨(some 16), none, .un .not (.t 15)⟩]
theorem tr36_1 : (ro Tryd.f36 1).toList.mapM (trO Tryd.prog 84 (ro Tryd.f36 1)) = some a36_1 := by kernel_rfl
def d36_1 : List (List Nat) := [[], [], [], [], [2, 3], [2, 3, 4], [0, 1, 2, 3, 4, 5], [0, 1, 2, 3, 4, 5, 6]]
theorem ok36_1 : okReg (ro Tryd.f36 1) a36_1 d36_1 = true := by kernel_rfl
def a36_2 : List AO := [⟨(some 8), none, .mv (.v (.int .i64 0))⟩]
theorem tr36_2 : (ro Tryd.f36 2).toList.mapM (trO Tryd.prog 84 (ro Tryd.f36 2)) = some a36_2 := by kernel_rfl
def a36_3 : List AO := [⟨(some 17), none, .fld 1 (.t 5)⟩,
  ⟨(some 18), none, .load none (.t 17)⟩,
  ⟨(some 19), none, .bin .eql (.t 18) (.v (.int .i64 1))⟩,
  ⟨(some 20), none, .mv (.t 19)⟩,
  ⟨(some 21), some (20, true), .load (some 2) (.t 4)⟩,
  ⟨(some 22), some (20, true), .mv (.t 2)⟩,
  ⟨(some 23), some (20, true), .mv (.t 3)⟩,
  ⟨(some 24), some (20, true), .idx 7 (.t 22) (.t 23)⟩,
  ⟨(some 25), some (20, true), .fld 3 (.t 24)⟩,
  ⟨(some 26), some (20, true), .load none (.t 25)⟩,
  ⟨(some 27), some (20, true), .call 56 [(.t 21), (.t 26)]⟩,
  ⟨(some 28), some (20, true), .fld 2 (.t 5)⟩,
  ⟨(some 29), some (20, true), .load none (.t 28)⟩,
  ⟨(some 30), some (20, true), .bin .neq (.t 27) (.t 29)⟩,
  ⟨(some 31), some (20, true), .mv (.t 30)⟩,
  ⟨(some 32), some (31, false), .mv (.t 3)⟩,
  ⟨(some 33), some (31, false), .bin .gtr (.t 32) (.v (.int .i64 0))⟩,
  ⟨(some 34), some (31, false), .mv (.t 33)⟩,
  ⟨(some 35), some (34, true), .load (some 7) (.t 5)⟩,
  ⟨(some 36), some (34, true), .mv (.t 2)⟩,
  ⟨(some 37), some (34, true), .mv (.t 3)⟩,
  ⟨(some 38), some (34, true), .bin .sub (.t 37) (.v (.int .i64 1))⟩,
  ⟨(some 39), some (34, true), .idx 7 (.t 36) (.t 38)⟩,
  ⟨(some 40), some (34, true), .load (some 7) (.t 39)⟩,
  ⟨(some 41), some (34, true), .mv (.t 2)⟩,
  ⟨(some 42), some (34, true), .mv (.t 3)⟩,
  ⟨(some 43), some (34, true), .idx 7 (.t 41) (.t 42)⟩,
  ⟨(some 44), some (34, true), .load (some 7) (.t 43)⟩,
  ⟨(some 45), some (34, true), .call 57 [(.t 35), (.t 40), (.t 44)]⟩,
  ⟨(some 46), some (31, false), .pick (.t 34) (.t 45) (.v (.bool false))⟩,
  ⟨(some 47), some (20, true), .pick (.t 31) (.v (.bool true)) (.t 46)⟩,
  ⟨(some 48), none, .pick (.t 20) (.t 47) (.v (.bool false))⟩]
theorem tr36_3 : (ro Tryd.f36 3).toList.mapM (trO Tryd.prog 84 (ro Tryd.f36 3)) = some a36_3 := by kernel_rfl
def d36_3 : List (List Nat) := [[], [0], [0, 1], [0, 1, 2], [0, 1, 2, 3], [0, 1, 2, 3], [0, 1, 2, 3], [0, 1, 2, 3, 5, 6], [0, 1, 2, 3, 5, 6, 7], [0, 1, 2, 3, 5, 6, 7, 8], [0, 1, 2, 3, 4, 5, 6, 7, 8, 9], [0, 1, 2, 3], [0, 1, 2, 3, 11], [0, 1, 2, 3, 4, 5, 6, 7, 8, 9, 10, 11, 12], [0, 1, 2, 3, 4, 5, 6, 7, 8, 9, 10, 11, 12, 13], [0, 1, 2, 3, 4, 5, 6, 7, 8, 9, 10, 11, 12, 13, 14], [0, 1, 2, 3, 4, 5, 6, 7, 8, 9, 10, 11, 12, 13, 14, 15], [0, 1, 2, 3, 4, 5, 6, 7, 8, 9, 10, 11, 12, 13, 14, 15, 16], [0, 1, 2, 3, 4, 5, 6, 7, 8, 9, 10, 11, 12, 13, 14, 15, 16, 17], [0, 1, 2, 3, 4, 5, 6, 7, 8, 9, 10, 11, 12, 13, 14, 15, 16, 17], [0, 1, 2, 3, 4, 5, 6, 7, 8, 9, 10, 11, 12, 13, 14, 15, 16, 17], [0, 1, 2, 3, 4, 5, 6, 7, 8, 9, 10, 11, 12, 13, 14, 15, 16, 17, 20], [0, 1, 2, 3, 4, 5, 6, 7, 8, 9, 10, 11, 12, 13, 14, 15, 16, 17, 19, 20, 21], [0, 1, 2, 3, 4, 5, 6, 7, 8, 9, 10, 11, 12, 13, 14, 15, 16, 17, 19, 20, 21, 22], [0, 1, 2, 3, 4, 5, 6, 7, 8, 9, 10, 11, 12, 13, 14, 15, 16, 17], [0, 1, 2, 3, 4, 5, 6, 7, 8, 9, 10, 11, 12, 13, 14, 15, 16, 17], [0, 1, 2, 3, 4, 5, 6, 7, 8, 9, 10, 11, 12, 13, 14, 15, 16, 17, 24, 25], [0, 1, 2, 3, 4, 5, 6, 7, 8, 9, 10, 11, 12, 13, 14, 15, 16, 17, 24, 25, 26], [0, 1, 2, 3, 4, 5, 6, 7, 8, 9, 10, 11, 12, 13, 14, 15, 16, 17, 18, 19, 20, 21, 22, 23, 24, 25, 26, 27], [0, 1, 2, 3, 4, 5, 6, 7, 8, 9, 10, 11, 12, 13, 14, 15, 16, 17, 18, 19, 20, 21, 22, 23, 24, 25, 26, 27, 28], [0, 1, 2, 3, 4, 5, 6, 7, 8, 9, 10, 11, 12, 13, 14, 15, 16, 17, 18, 19, 20, 21, 22, 23, 24, 25, 26, 27, 28, 29], [0, 1, 2, 3, 4, 5, 6, 7, 8, 9, 10, 11, 12, 13, 14, 15, 16, 17, 18, 19, 20, 21, 22, 23, 24, 25, 26, 27, 28, 29, 30]]
theorem ok36_3 : okReg (ro Tryd.f36 3) a36_3 d36_3 = true := by kernel_rfl
def a36_4 : List AO := [⟨(some 8), none, .mv (.v (.int .i64 0))⟩]
theorem tr36_4 : (ro Tryd.f36 4).toList.mapM (trO Tryd.prog 84 (ro Tryd.f36 4)) = some a36_4 := by kernel_rfl
def a36_5 : List AO := [⟨(some 49), none, .fld 1 (.t 5)⟩,
  ⟨(some 50), none, .load none (.t 49)⟩,
  ⟨(some 51), none, .bin .eql (.t 50) (.v (.int .i64 2))⟩,
  ⟨(some 52), none, .mv (.t 51)⟩,
  ⟨(some 53), some (52, true), .load (some 2) (.t 4)⟩,
  ⟨(some 54), some (52, true), .mv (.t 2)⟩,
  ⟨(some 55), some (52, true), .mv (.t 3)⟩,
  ⟨(some 56), some (52, true), .idx 7 (.t 54) (.t 55)⟩,
  ⟨(some 57), some (52, true), .fld 4 (.t 56)⟩,
  ⟨(some 58), some (52, true), .load none (.t 57)⟩,
  ⟨(some 59), some (52, true), .call 56 [(.t 53), (.t 58)]⟩,
  ⟨(some 60), some (52, true), .fld 2 (.t 5)⟩,
  ⟨(some 61), some (52, true), .load none (.t 60)⟩,
  ⟨(some 62), some (52, true), .bin .neq (.t 59) (.t 61)⟩,
  ⟨(some 63), some (52, true), .mv (.t 62)⟩,
  ⟨(some 64), some (63, false), .mv (.t 3)⟩,
  ⟨(some 65), some (63, false), .bin .add (.t 64) (.v (.int .i64 1))⟩,
  ⟨(some 66), some (63, false), .mv (.t 2)⟩,
  ⟨(some 67), some (63, false), .len (.t 66)⟩,
  ⟨(some 68), some (63, false), .bin .lss (.t 65) (.t 67)⟩,
  ⟨(some 69), some (63, false), .mv (.t 68)⟩,
  ⟨(some 70), some (69, true), .load (some 7) (.t 5)⟩,
  ⟨(some 71), some (69, true), .mv (.t 2)⟩,
  ⟨(some 72), some (69, true), .mv (.t 3)⟩,
  ⟨(some 73), some (69, true), .idx 7 (.t 71) (.t 72)⟩,
  ⟨(some 74), some (69, true), .load (some 7) (.t 73)⟩,
  ⟨(some 75), some (69, true), .mv (.t 2)⟩,
  ⟨(some 76), some (69, true), .mv (.t 3)⟩,
  ⟨(some 77), some (69, true), .bin .add (.t 76) (.v (.int .i64 1))⟩,
  ⟨(some 78), some (69, true), .idx 7 (.t 75) (.t 77)⟩,
  ⟨(some 79), some (69, true), .load (some 7) (.t 78)⟩,
  ⟨(some 80), some (69, true), .call 57 [(.t 70), (.t 74), (.t 79)]⟩,
  ⟨(some 81), some (63, false), .pick (.t 69) (.t 80) (.v (.bool false))⟩,
  ⟨(some 82), some (52, true), .pick (.t 63) (.v (.bool true)) (.t 81)⟩,
  ⟨(some 83), none, .pick (.t 52) (.t 82) (.v (.bool false))⟩]
theorem tr36_5 : (ro Tryd.f36 5).toList.mapM (trO Tryd.prog 84 (ro Tryd.f36 5)) = some a36_5 := by kernel_rfl
def d36_5 : List (List Nat) := [[], [0], [0, 1], [0, 1, 2], [0, 1, 2, 3], [0, 1, 2, 3], [0, 1, 2, 3], [0, 1, 2, 3, 5, 6], [0, 1, 2, 3, 5, 6, 7], [0, 1, 2, 3, 5, 6, 7, 8], [0, 1, 2, 3, 4, 5, 6, 7, 8, 9], [0, 1, 2, 3], [0, 1, 2, 3, 11], [0, 1, 2, 3, 4, 5, 6, 7, 8, 9, 10, 11, 12], [0, 1, 2, 3, 4, 5, 6, 7, 8, 9, 10, 11, 12, 13], [0, 1, 2, 3, 4, 5, 6, 7, 8, 9, 10, 11, 12, 13, 14], [0, 1, 2, 3, 4, 5, 6, 7, 8, 9, 10, 11, 12, 13, 14, 15], [0, 1, 2, 3, 4, 5, 6, 7, 8, 9, 10, 11, 12, 13, 14], [0, 1, 2, 3, 4, 5, 6, 7, 8, 9, 10, 11, 12, 13, 14, 17], [0, 1, 2, 3, 4, 5, 6, 7, 8, 9, 10, 11, 12, 13, 14, 15, 16, 17, 18], [0, 1, 2, 3, 4, 5, 6, 7, 8, 9, 10, 11, 12, 13, 14, 15, 16, 17, 18, 19], [0, 1, 2, 3, 4, 5, 6, 7, 8, 9, 10, 11, 12, 13, 14, 15, 16, 17, 18, 19, 20], [0, 1, 2, 3, 4, 5, 6, 7, 8, 9, 10, 11, 12, 13, 14, 15, 16, 17, 18, 19, 20], [0, 1, 2, 3, 4, 5, 6, 7, 8, 9, 10, 11, 12, 13, 14, 15, 16, 17, 18, 19, 20], [0, 1, 2, 3, 4, 5, 6, 7, 8, 9, 10, 11, 12, 13, 14, 15, 16, 17, 18, 19, 20, 22, 23], [0, 1, 2, 3, 4, 5, 6, 7, 8, 9, 10, 11, 12, 13, 14, 15, 16, 17, 18, 19, 20, 22, 23, 24], [0, 1, 2, 3, 4, 5, 6, 7, 8, 9, 10, 11, 12, 13, 14, 15, 16, 17, 18, 19, 20], [0, 1, 2, 3, 4, 5, 6, 7, 8, 9, 10, 11, 12, 13, 14, 15, 16, 17, 18, 19, 20], [0, 1, 2, 3, 4, 5, 6, 7, 8, 9, 10, 11, 12, 13, 14, 15, 16, 17, 18, 19, 20, 27], [0, 1, 2, 3, 4, 5, 6, 7, 8, 9, 10, 11, 12, 13, 14, 15, 16, 17, 18, 19, 20, 26, 27, 28], [0, 1, 2, 3, 4, 5, 6, 7, 8, 9, 10, 11, 12, 13, 14, 15, 16, 17, 18, 19, 20, 26, 27, 28, 29], [0, 1, 2, 3, 4, 5, 6, 7, 8, 9, 10, 11, 12, 13, 14, 15, 16, 17, 18, 19, 20, 21, 22, 23, 24, 25, 26, 27, 28, 29, 30], [0, 1, 2, 3, 4, 5, 6, 7, 8, 9, 10, 11, 12, 13, 14, 15, 16, 17, 18, 19, 20, 21, 22, 23, 24, 25, 26, 27, 28, 29, 30, 31], [0, 1, 2, 3, 4, 5, 6, 7, 8, 9, 10, 11, 12, 13, 14, 15, 16, 17, 18, 19, 20, 21, 22, 23, 24, 25, 26, 27, 28, 29, 30, 31, 32], [0, 1, 2, 3, 4, 5, 6, 7, 8, 9, 10, 11, 12, 13, 14, 15, 16, 17, 18, 19, 20, 21, 22, 23, 24, 25, 26, 27, 28, 29, 30, 31, 32, 33]]
theorem ok36_5 : okReg (ro Tryd.f36 5) a36_5 d36_5 = true := by kernel_rfl
def a36_6 : List AO := [⟨(some 8), none, .mv (.v (.int .i64 0))⟩]
theorem tr36_6 : (ro Tryd.f36 6).toList.mapM (trO Tryd.prog 84 (ro Tryd.f36 6)) = some a36_6 := by kernel_rfl
def a36_7 : List AO := [⟨(some 8), none, .mv (.v (.int .i64 1))⟩]
theorem tr36_7 : (ro Tryd.f36 7).toList.mapM (trO Tryd.prog 84 (ro Tryd.f36 7)) = some a36_7 := by kernel_rfl
/-- airline/money.Percent -/
noncomputable def c37 : Code := .seq (.region 0 (ro Tryd.f37 0) false) (.seq (.seq (.region 1 (ro Tryd.f37 1) false) (.cond (.tmp 17) (.seq (.region 2 (ro Tryd.f37 2) false) (.ret)) (.skip))) (.seq (.region 3 (ro Tryd.f37 3) false) (.seq (.region 4 (ro Tryd.f37 4) false) (.seq (.seq (.region 5 (ro Tryd.f37 5) false) (.cond (.tmp 41) (.region 6 (ro Tryd.f37 6) false) (.skip))) (.seq (.seq (.region 7 (ro Tryd.f37 7) false) (.cond (.tmp 49) (.seq (.region 8 (ro Tryd.f37 8) false) (.ret)) (.skip))) (.seq (.seq (.region 9 (ro Tryd.f37 9) false) (.cond (.tmp 50) (.seq (.region 10 (ro Tryd.f37 10) false) (.ret)) (.skip))) (.seq (.region 11 (ro Tryd.f37 11) false) (.ret))))))))
theorem body37 : Tryd.f37.body = some c37 := by kernel_rfl
theorem res37 : Tryd.f37.results.toList.mapM (trR Tryd.prog) = some [.t 4, .t 5] := by kernel_rfl
theorem nt37 : Tryd.f37.ntmps = 56 := by kernel_rfl
theorem nm37 : (Tryd.f37.name == "runtime.NumGoroutine") = false := by kernel_rfl
def a37_0 : List AO := [⟨(some 4), none, .mv (.v (.int .i64 0))⟩,
  ⟨(some 5), none, .mv (.v (.int .i64 0))⟩]
theorem tr37_0 : (ro Tryd.f37 0).toList.mapM (trO Tryd.prog 56 (ro Tryd.f37 0)) = some a37_0 := by kernel_rfl
def a37_1 : List AO := [⟨(some 10), none, .mv (.t 0)⟩,
  ⟨(some 11), none, .call 58 [(.t 10)]⟩,
  ⟨(some 12), none, .un .not (.t 11)⟩,
  ⟨(some 13), none, .mv (.t 12)⟩,
  ⟨(some 14), some (13, false), .mv (.t 1)⟩,
  ⟨(some 15), some (13, false), .call 58 [(.t 14)]⟩,
  ⟨(some 16), some (13, false), .un .not (.t 15)⟩,
  ⟨(some 17), none, .pick (.t 13) (.v (.bool true)) (.t 16)⟩]
theorem tr37_1 : (ro Tryd.f37 1).toList.mapM (trO Tryd.prog 56 (ro Tryd.f37 1)) = some a37_1 := by kernel_rfl
def a37_2 : List AO := [⟨(some 4), none, .mv (.v (.int .i64 0))⟩,
  ⟨(some 5), none, .mv (.v (.int .i64 11))⟩]
theorem tr37_2 : (ro Tryd.f37 2).toList.mapM (trO Tryd.prog 56 (ro Tryd.f37 2)) = some a37_2 := by kernel_rfl
def a37_3 : List AO := [⟨(some 19), none, .mv (.t 0)⟩,
  ⟨(some 20), none, .call 60 [(.t 19)]⟩,
  ⟨(some 21), none, .mv (.t 1)⟩,
  ⟨(some 22), none, .call 60 [(.t 21)]⟩,
  ⟨(some 23), none, .call 59 [(.t 20), (.t 22), (.v (.int .u64 10000))]⟩,
  ⟨(some 18), none, .mv (.t 23)⟩,
  ⟨(some 24), none, .ext 0 (.t 18)⟩,
  ⟨(some 25), none, .ext 1 (.t 18)⟩,
  ⟨(some 26), none, .ext 2 (.t 18)⟩,
  ⟨(some 6), none, .mv (.t 24)⟩,
  ⟨(some 7), none, .mv (.t 25)⟩,
  ⟨(some 8), none, .mv (.t 26)⟩]
theorem tr37_3 : (ro Tryd.f37 3).toList.mapM (trO Tryd.prog 56 (ro Tryd.f37 3)) = some a37_3 := by kernel_rfl
def a37_4 : List AO := [⟨(some 27), none, .mv (.t 0)⟩,
  ⟨(some 28), none, .bin .lss (.t 27) (.v (.int .i64 0))⟩,
  ⟨(some 29), none, .mv (.t 1)⟩,
  ⟨(some 30), none, .bin .lss (.t 29) (.v (.int .i64 0))⟩,
  ⟨(some 31), none, .binb .neq (.t 28) (.t 30)⟩,
  ⟨(some 9), none, .mv (.t 31)⟩]
theorem tr37_4 : (ro Tryd.f37 4).toList.mapM (trO Tryd.prog 56 (ro Tryd.f37 4)) = some a37_4 := by kernel_rfl
def a37_5 : List AO := [⟨(some 32), none, .mv (.t 7)⟩,
  ⟨(some 33), none, .bin .gtr (.t 32) (.v (.int .u64 5000))⟩,
  ⟨(some 34), none, .mv (.t 33)⟩,
  ⟨(some 35), some (34, false), .mv (.t 7)⟩,
  ⟨(some 36), some (34, false), .bin .eql (.t 35) (.v (.int .u64 5000))⟩,
  ⟨(some 37), some (34, false), .mv (.t 36)⟩,
  ⟨(some 38), some (37, true), .mv (.t 9)⟩,
  ⟨(some 39), some (37, true), .un .not (.t 38)⟩,
  ⟨(some 40), some (34, false), .pick (.t 37) (.t 39) (.v (.bool false))⟩,
  ⟨(some 41), none, .pick (.t 34) (.v (.bool true)) (.t 40)⟩]
theorem tr37_5 : (ro Tryd.f37 5).toList.mapM (trO Tryd.prog 56 (ro Tryd.f37 5)) = some a37_5 := by kernel_rfl
def a37_6 : List AO := [⟨(some 42), none, .mv (.t 6)⟩,
  ⟨(some 43), none, .bin .add (.t 42) (.v (.int .u64 1))⟩,
  ⟨(some 6), none, .mv (.t 43)⟩]
theorem tr37_6 : (ro Tryd.f37 6).toList.mapM (trO Tryd.prog 56 (ro Tryd.f37 6)) = some a37_6 := by kernel_rfl
def a37_7 : List AO := [⟨(some 44), none, .mv (.t 8)⟩,
  ⟨(some 45), none, .un .not (.t 44)⟩,
  ⟨(some 46), none, .mv (.t 45)⟩,
  ⟨(some 47), some (46, false), .mv (.t 6)⟩,
  ⟨(some 48), some (46, false), .bin .gtr (.t 47) (.v (.int .u64 1099511627776))⟩,
  ⟨(some 49), none, .pick (.t 46) (.v (.bool true)) (.t 48)⟩]
theorem tr37_7 : (ro Tryd.f37 7).toList.mapM (trO Tryd.prog 56 (ro Tryd.f37 7)) = some a37_7 := by kernel_rfl
def a37_8 : List AO := [⟨(some 4), none, .mv (.v (.int .i64 0))⟩,
  ⟨(some 5), none, .mv (.v (.int .i64 11))⟩]
theorem tr37_8 : (ro Tryd.f37 8).toList.mapM (trO Tryd.prog 56 (ro Tryd.f37 8)) = some a37_8 := by kernel_rfl
def a37_9 : List AO := [⟨(some 50), none, .mv (.t 9)⟩]
theorem tr37_9 : (ro Tryd.f37 9).toList.mapM (trO Tryd.prog 56 (ro Tryd.f37 9)) = some a37_9 := by kernel_rfl
def a37_10 : List AO := [⟨(some 51), none, .mv (.t 6)⟩,
  ⟨(some 52), none, .conv .i64 (.t 51)⟩,
  ⟨(some 53), none, .un .neg (.t 52)⟩,
  ⟨(some 4), none, .mv (.t 53)⟩,
  ⟨(some 5), none, .mv (.v (.int .i64 0))⟩]
theorem tr37_10 : (ro Tryd.f37 10).toList.mapM (trO Tryd.prog 56 (ro Tryd.f37 10)) = some a37_10 := by kernel_rfl
def a37_11 : List AO := [⟨(some 54), none, .mv (.t 6)⟩,
  ⟨(some 55), none, .conv .i64 (.t 54)⟩,
  ⟨(some 4), none, .mv (.t 55)⟩,
  ⟨(some 5), none, .mv (.v (.int .i64 0))⟩]
theorem tr37_11 : (ro Tryd.f37 11).toList.mapM (trO Tryd.prog 56 (ro Tryd.f37 11)) = some a37_11 := by kernel_rfl
/-- airline/airlineref02.Percent -/
noncomputable def c38 : Code := .seq (.region 0 (ro Tryd.f38 0) false) (.seq (.seq (.region 1 (ro Tryd.f38 1) false) (.cond (.tmp 17) (.seq (.region 2 (ro Tryd.f38 2) false) (.ret)) (.skip))) (.seq (.region 3 (ro Tryd.f38 3) false) (.seq (.seq (.region 4 (ro Tryd.f38 4) false) (.cond (.tmp 32) (.seq (.region 5 (ro Tryd.f38 5) false) (.ret)) (.skip))) (.seq (.region 6 (ro Tryd.f38 6) false) (.seq (.seq (.region 7 (ro Tryd.f38 7) false) (.cond (.tmp 48) (.seq (.region 8 (ro Tryd.f38 8) false) (.ret)) (.skip))) (.seq (.region 9 (ro Tryd.f38 9) false) (.ret)))))))
theorem body38 : Tryd.f38.body = some c38 := by kernel_rfl
theorem res38 : Tryd.f38.results.toList.mapM (trR Tryd.prog) = some [.t 4, .t 5] := by kernel_rfl
theorem nt38 : Tryd.f38.ntmps = 54 := by kernel_rfl
theorem nm38 : (Tryd.f38.name == "runtime.NumGoroutine") = false := by kernel_rfl
def a38_0 : List AO := [⟨(some 4), none, .mv (.v (.int .i64 0))⟩,
  ⟨(some 5), none, .mv (.v (.int .i64 0))⟩]
theorem tr38_0 : (ro Tryd.f38 0).toList.mapM (trO Tryd.prog 54 (ro Tryd.f38 0)) = some a38_0 := by kernel_rfl
def a38_1 : List AO := [⟨(some 10), none, .mv (.t 0)⟩,
  ⟨(some 11), none, .call 61 [(.t 10)]⟩,
  ⟨(some 12), none, .un .not (.t 11)⟩,
  ⟨(some 13), none, .mv (.t 12)⟩,
  ⟨(some 14), some (13, false), .mv (.t 1)⟩,
  ⟨(some 15), some (13, false), .call 61 [(.t 14)]⟩,
  ⟨(some 16), some (13, false), .un .not (.t 15)⟩,
  ⟨(some 17), none, .pick (.t 13) (.v (.bool true)) (.t 16)⟩]
theorem tr38_1 : (ro Tryd.f38 1).toList.mapM (trO Tryd.prog 54 (ro Tryd.f38 1)) = some a38_1 := by kernel_rfl
def a38_2 : List AO := [⟨(some 4), none, .mv (.v (.int .i64 0))⟩,
  ⟨(some 5), none, .mv (.v (.int .i64 11))⟩]
theorem tr38_2 : (ro Tryd.f38 2).toList.mapM (trO Tryd.prog 54 (ro Tryd.f38 2)) = some a38_2 := by kernel_rfl
def a38_3 : List AO := [⟨(some 19), none, .mv (.t 1)⟩,
  ⟨(some 20), none, .call 62 [(.t 19), (.v (.int .i64 10000))]⟩,
  ⟨(some 18), none, .mv (.t 20)⟩,
  ⟨(some 21), none, .ext 0 (.t 18)⟩,
  ⟨(some 22), none, .ext 1 (.t 18)⟩,
  ⟨(some 6), none, .mv (.t 21)⟩,
  ⟨(some 7), none, .mv (.t 22)⟩]
theorem tr38_3 : (ro Tryd.f38 3).toList.mapM (trO Tryd.prog 54 (ro Tryd.f38 3)) = some a38_3 := by kernel_rfl
def a38_4 : List AO := [⟨(some 23), none, .mv (.t 0)⟩,
  ⟨(some 24), none, .bin .neq (.t 23) (.v (.int .i64 0))⟩,
  ⟨(some 25), none, .mv (.t 24)⟩,
  ⟨(some 26), some (25, true), .mv (.t 6)⟩,
  ⟨(some 27), some (25, true), .call 63 [(.t 26)]⟩,
  ⟨(some 28), some (25, true), .mv (.t 0)⟩,
  ⟨(some 29), some (25, true), .call 63 [(.t 28)]⟩,
  ⟨(some 30), some (25, true), .bin .quo (.v (.int .i64 2199023255552)) (.t 29)⟩,
  ⟨(some 31), some (25, true), .bin .gtr (.t 27) (.t 30)⟩,
  ⟨(some 32), none, .pick (.t 25) (.t 31) (.v (.bool false))⟩]
theorem tr38_4 : (ro Tryd.f38 4).toList.mapM (trO Tryd.prog 54 (ro Tryd.f38 4)) = some a38_4 := by kernel_rfl
def a38_5 : List AO := [⟨(some 4), none, .mv (.v (.int .i64 0))⟩,
  ⟨(some 5), none, .mv (.v (.int .i64 11))⟩]
theorem tr38_5 : (ro Tryd.f38 5).toList.mapM (trO Tryd.prog 54 (ro Tryd.f38 5)) = some a38_5 := by kernel_rfl
def a38_6 : List AO := [⟨(some 34), none, .mv (.t 0)⟩,
  ⟨(some 35), none, .bin .mul (.v (.int .i64 2)) (.t 34)⟩,
  ⟨(some 36), none, .mv (.t 7)⟩,
  ⟨(some 37), none, .bin .mul (.t 35) (.t 36)⟩,
  ⟨(some 38), none, .bin .add (.t 37) (.v (.int .i64 10000))⟩,
  ⟨(some 39), none, .call 62 [(.t 38), (.v (.int .i64 20000))]⟩,
  ⟨(some 33), none, .mv (.t 39)⟩,
  ⟨(some 40), none, .ext 0 (.t 33)⟩,
  ⟨(some 41), none, .ext 1 (.t 33)⟩,
  ⟨(some 8), none, .mv (.t 40)⟩,
  ⟨(some 9), none, .mv (.t 41)⟩]
theorem tr38_6 : (ro Tryd.f38 6).toList.mapM (trO Tryd.prog 54 (ro Tryd.f38 6)) = some a38_6 := by kernel_rfl
def a38_7 : List AO := [⟨(some 42), none, .mv (.t 0)⟩,
  ⟨(some 43), none, .mv (.t 6)⟩,
  ⟨(some 44), none, .bin .mul (.t 42) (.t 43)⟩,
  ⟨(some 45), none, .mv (.t 8)⟩,
  ⟨(some 46), none, .bin .add (.t 44) (.t 45)⟩,
  ⟨(some 47), none, .call 61 [(.t 46)]⟩,
  ⟨(some 48), none, .un .not (.t 47)⟩]
theorem tr38_7 : (ro Tryd.f38 7).toList.mapM (trO Tryd.prog 54 (ro Tryd.f38 7)) = some a38_7 := by kernel_rfl
def a38_8 : List AO := [⟨(some 4), none, .mv (.v (.int .i64 0))⟩,
  ⟨(some 5), none, .mv (.v (.int .i64 11))⟩]
theorem tr38_8 : (ro Tryd.f38 8).toList.mapM (trO Tryd.prog 54 (ro Tryd.f38 8)) = some a38_8 := by kernel_rfl
def a38_9 : List AO := [⟨(some 49), none, .mv (.t 0)⟩,
  ⟨(some 50), none, .mv (.t 6)⟩,
  ⟨(some 51), none, .bin .mul (.t 49) (.t 50)⟩,
  ⟨(some 52), none, .mv (.t 8)⟩,
  ⟨(some 53), none, .bin .add (.t 51) (.t 52)⟩,
  ⟨(some 4), none, .mv (.t 53)⟩,
  ⟨(some 5), none, .mv (.v (.int .i64 0))⟩]
theorem tr38_9 : (ro Tryd.f38 9).toList.mapM (trO Tryd.prog 54 (ro Tryd.f38 9)) = some a38_9 := by kernel_rfl
/-- airline/money.Sum -/
noncomputable def c39 : Code := .seq (.region 0 (ro Tryd.f39 0) false) (.seq (.region 1 (ro Tryd.f39 1) false) (.seq (.seq (.region 2 (ro Tryd.f39 2) false) (.block 0 (.loop (.seq (.region 3 (ro Tryd.f39 3) false) (.seq (.cond (.tmp 10) (.skip) (.exit 0)) (.seq (.block 1 (.seq (.region 4 (ro Tryd.f39 4) false) (.seq (.seq (.region 5 (ro Tryd.f39 5) false) (.cond (.tmp 22) (.seq (.region 6 (ro Tryd.f39 6) false) (.ret)) (.skip))) (.region 7 (ro Tryd.f39 7) false)))) (.region 8 (ro Tryd.f39 8) false))))))) (.seq (.region 9 (ro Tryd.f39 9) false) (.ret))))
theorem body39 : Tryd.f39.body = some c39 := by kernel_rfl
theorem res39 : Tryd.f39.results.toList.mapM (trR Tryd.prog) = some [.t 2, .t 3] := by kernel_rfl
theorem nt39 : Tryd.f39.ntmps = 28 := by kernel_rfl
theorem nm39 : (Tryd.f39.name == "runtime.NumGoroutine") = false := by kernel_rfl
def a39_0 : List AO := [⟨(some 2), none, .mv (.v (.int .i64 0))⟩,
  ⟨(some 3), none, .mv (.v (.int .i64 0))⟩]
theorem tr39_0 : (ro Tryd.f39 0).toList.mapM (trO Tryd.prog 28 (ro Tryd.f39 0)) = some a39_0 := by kernel_rfl
def a39_1 : List AO := [⟨(some 4), none, .mv (.v (.int .i64 0))⟩]
theorem tr39_1 : (ro Tryd.f39 1).toList.mapM (trO Tryd.prog 28 (ro Tryd.f39 1)) = some a39_1 := by kernel_rfl
def a39_2 : List AO := [⟨(some 7), none, .mv (.t 0)⟩,
  ⟨(some 8), none, .len (.t 7)⟩,
  ⟨(some 9), none, .mv (.v (.int .i64 0))⟩]
theorem tr39_2 : (ro Tryd.f39 2).toList.mapM (trO Tryd.prog 28 (ro Tryd.f39 2)) = some a39_2 := by kernel_rfl
def a39_3 : List AO := [⟨(some 10), none, .bin .lss (.t 9) (.t 8)⟩]
theorem tr39_3 : (ro Tryd.f39 3).toList.mapM (trO Tryd.prog 28 (ro Tryd.f39 3)) = some a39_3 := by kernel_rfl
def a39_4 : List AO := [⟨(some 11), none, .idx 1 (.t 7) (.t 9)⟩,
  ⟨(some 12), none, .load none (.t 11)⟩,
  ⟨(some 6), none, .mv (.t 12)⟩]
theorem tr39_4 : (ro Tryd.f39 4).toList.mapM (trO Tryd.prog 28 (ro Tryd.f39 4)) = some a39_4 := by kernel_rfl
def a39_5 : List AO := [⟨(some 13), none, .mv (.t 6)⟩,
  ⟨(some 14), none, .call 58 [(.t 13)]⟩,
  ⟨(some 15), none, .un .not (.t 14)⟩,
  ⟨(some 16), none, .mv (.t 15)⟩,
  ⟨(some 17), some (16, false), .mv (.t 4)⟩,
  ⟨(some 18), some (16, false), .mv (.t 6)⟩,
  ⟨(some 19), some (16, false), .bin .add (.t 17) (.t 18)⟩,
  ⟨(some 20), some (16, false), .call 58 [(.t 19)]⟩,
  ⟨(some 21), some (16, false), .un .not (.t 20)⟩,
  ⟨(some 22), none, .pick (.t 16) (.v (.bool true)) (.t 21)⟩]
theorem tr39_5 : (ro Tryd.f39 5).toList.mapM (trO Tryd.prog 28 (ro Tryd.f39 5)) = some a39_5 := by kernel_rfl
def a39_6 : List AO := [⟨(some 2), none, .mv (.v (.int .i64 0))⟩,
  ⟨(some 3), none, .mv (.v (.int .i64 11))⟩]
theorem tr39_6 : (ro Tryd.f39 6).toList.mapM (trO Tryd.prog 28 (ro Tryd.f39 6)) = some a39_6 := by kernel_rfl
def a39_7 : List AO := [⟨(some 23), none, .mv (.t 4)⟩,
  ⟨(some 24), none, .mv (.t 6)⟩,
  ⟨(some 25), none, .bin .add (.t 23) (.t 24)⟩,
  ⟨(some 4), none, .mv (.t 25)⟩]
theorem tr39_7 : (ro Tryd.f39 7).toList.mapM (trO Tryd.prog 28 (ro Tryd.f39 7)) = some a39_7 := by kernel_rfl
def a39_8 : List AO := [⟨(some 26), none, .bin .add (.t 9) (.v (.int .i64 1))⟩,
  ⟨(some 9), none, .mv (.t 26)⟩]
theorem tr39_8 : (ro Tryd.f39 8).toList.mapM (trO Tryd.prog 28 (ro Tryd.f39 8)) = some a39_8 := by kernel_rfl
def a39_9 : List AO := [⟨(some 27), none, .mv (.t 4)⟩,
  ⟨(some 2), none, .mv (.t 27)⟩,
  ⟨(some 3), none, .mv (.v (.int .i64 0))⟩]
theorem tr39_9 : (ro Tryd.f39 9).toList.mapM (trO Tryd.prog 28 (ro Tryd.f39 9)) = some a39_9 := by kernel_rfl
/-- airline/airlineref02.Sum -/
noncomputable def c40 : Code := .seq (.region 0 (ro Tryd.f40 0) false) (.seq (.region 1 (ro Tryd.f40 1) false) (.seq (.seq (.region 2 (ro Tryd.f40 2) false) (.block 0 (.loop (.seq (.seq (.region 3 (ro Tryd.f40 3) false) (.cond (.tmp 11) (.skip) (.exit 0))) (.seq (.block 1 (.seq (.region 5 (ro Tryd.f40 5) false) (.seq (.seq (.region 6 (ro Tryd.f40 6) false) (.cond (.tmp 24) (.seq (.region 7 (ro Tryd.f40 7) false) (.ret)) (.skip))) (.region 8 (ro Tryd.f40 8) false)))) (.region 4 (ro Tryd.f40 4) false)))))) (.seq (.region 9 (ro Tryd.f40 9) false) (.ret))))
theorem body40 : Tryd.f40.body = some c40 := by kernel_rfl
theorem res40 : Tryd.f40.results.toList.mapM (trR Tryd.prog) = some [.t 2, .t 3] := by kernel_rfl
theorem nt40 : Tryd.f40.ntmps = 28 := by kernel_rfl
theorem nm40 : (Tryd.f40.name == "runtime.NumGoroutine") = false := by kernel_rfl
def a40_0 : List AO := [⟨(some 2), none, .mv (.v (.int .i64 0))⟩,
  ⟨(some 3), none, .mv (.v (.int .i64 0))⟩]
theorem tr40_0 : (ro Tryd.f40 0).toList.mapM (trO Tryd.prog 28 (ro Tryd.f40 0)) = some a40_0 := by kernel_rfl
def a40_1 : List AO := [⟨(some 4), none, .mv (.v (.int .i64 0))⟩]
theorem tr40_1 : (ro Tryd.f40 1).toList.mapM (trO Tryd.prog 28 (ro Tryd.f40 1)) = some a40_1 := by kernel_rfl
def a40_2 : List AO := [⟨(some 5), none, .mv (.v (.int .i64 0))⟩]
theorem tr40_2 : (ro Tryd.f40 2).toList.mapM (trO Tryd.prog 28 (ro Tryd.f40 2)) = some a40_2 := by kernel_rfl
def a40_3 : List AO := [⟨(some 8), none, .mv (.t 5)⟩,
  ⟨(some 9), none, .mv (.t 0)⟩,
  ⟨(some 10), none, .len (.t 9)⟩,
  ⟨(some 11), none, .bin .lss (.t 8) (.t 10)⟩]
theorem tr40_3 : (ro Tryd.f40 3).toList.mapM (trO Tryd.prog 28 (ro Tryd.f40 3)) = some a40_3 := by kernel_rfl
def a40_5 : List AO := [⟨(some 15), none, .mv (.t 4)⟩,
  ⟨(some 16), none, .mv (.t 0)⟩,
  ⟨(some 17), none, .mv (.t 5)⟩,
  ⟨(some 18), none, .idx 1 (.t 16) (.t 17)⟩,
  ⟨(some 19), none, .load none (.t 18)⟩,
  ⟨(some 20), none, .call 64 [(.t 15), (.t 19)]⟩,
  ⟨(some 14), none, .mv (.t 20)⟩,
  ⟨(some 21), none, .ext 0 (.t 14)⟩,
  ⟨(some 22), none, .ext 1 (.t 14)⟩,
  ⟨(some 6), none, .mv (.t 21)⟩,
  ⟨(some 7), none, .mv (.t 22)⟩]
theorem tr40_5 : (ro Tryd.f40 5).toList.mapM (trO Tryd.prog 28 (ro Tryd.f40 5)) = some a40_5 := by kernel_rfl
def a40_6 : List AO := [⟨(some 23), none, .mv (.t 7)⟩,
  ⟨(some 24), none, .bin .neq (.t 23) (.v (.int .i64 0))⟩]
theorem tr40_6 : (ro Tryd.f40 6).toList.mapM (trO Tryd.prog 28 (ro Tryd.f40 6)) = some a40_6 := by kernel_rfl
def a40_7 : List AO := [⟨(some 25), none, .mv (.t 7)⟩,
  ⟨(some 2), none, .mv (.v (.int .i64 0))⟩,
  ⟨(some 3), none, .mv (.t 25)⟩]
theorem tr40_7 : (ro Tryd.f40 7).toList.mapM (trO Tryd.prog 28 (ro Tryd.f40 7)) = some a40_7 := by kernel_rfl
def a40_8 : List AO := [⟨(some 26), none, .mv (.t 6)⟩,
  ⟨(some 4), none, .mv (.t 26)⟩]
theorem tr40_8 : (ro Tryd.f40 8).toList.mapM (trO Tryd.prog 28 (ro Tryd.f40 8)) = some a40_8 := by kernel_rfl
def a40_4 : List AO := [⟨(some 12), none, .mv (.t 5)⟩,
  ⟨(some 13), none, .bin .add (.t 12) (.v (.int .i64 1))⟩,
  ⟨(some 5), none, .mv (.t 13)⟩]
theorem tr40_4 : (ro Tryd.f40 4).toList.mapM (trO Tryd.prog 28 (ro Tryd.f40 4)) = some a40_4 := by kernel_rfl
def a40_9 : List AO := [⟨(some 27), none, .mv (.t 4)⟩,
  ⟨(some 2), none, .mv (.t 27)⟩,
  ⟨(some 3), none, .mv (.v (.int .i64 0))⟩]
theorem tr40_9 : (ro Tryd.f40 9).toList.mapM (trO Tryd.prog 28 (ro Tryd.f40 9)) = some a40_9 := by kernel_rfl
/-- airline/text.every -/
noncomputable def c42 : Code := .seq (.region 0 (ro Tryd.f42 0) false) (.seq (.seq (.region 1 (ro Tryd.f42 1) false) (.block 0 (.loop (.seq (.region 2 (ro Tryd.f42 2) false) (.seq (.cond (.tmp 9) (.skip) (.exit 0)) (.seq (.block 1 (.seq (.region 3 (ro Tryd.f42 3) false) (.seq (.region 4 (ro Tryd.f42 4) false) (.cond (.tmp 16) (.seq (.region 5 (ro Tryd.f42 5) false) (.ret)) (.skip))))) (.region 6 (ro Tryd.f42 6) false))))))) (.seq (.region 7 (ro Tryd.f42 7) false) (.ret)))
theorem body42 : Tryd.f42.body = some c42 := by kernel_rfl
theorem res42 : Tryd.f42.results.toList.mapM (trR Tryd.prog) = some [.t 4] := by kernel_rfl
theorem nt42 : Tryd.f42.ntmps = 18 := by kernel_rfl
theorem nm42 : (Tryd.f42.name == "runtime.NumGoroutine") = false := by kernel_rfl
def a42_0 : List AO := [⟨(some 4), none, .mv (.v (.bool false))⟩]
theorem tr42_0 : (ro Tryd.f42 0).toList.mapM (trO Tryd.prog 18 (ro Tryd.f42 0)) = some a42_0 := by kernel_rfl
def a42_1 : List AO := [⟨(some 6), none, .mv (.t 0)⟩,
  ⟨(some 7), none, .slen (.t 6)⟩,
  ⟨(some 8), none, .mv (.v (.int .i64 0))⟩]
theorem tr42_1 : (ro Tryd.f42 1).toList.mapM (trO Tryd.prog 18 (ro Tryd.f42 1)) = some a42_1 := by kernel_rfl
def a42_2 : List AO := [⟨(some 9), none, .bin .lss (.t 8) (.t 7)⟩]
theorem tr42_2 : (ro Tryd.f42 2).toList.mapM (trO Tryd.prog 18 (ro Tryd.f42 2)) = some a42_2 := by kernel_rfl
def a42_3 : List AO := [⟨(some 10), none, .mv (.t 8)⟩,
  ⟨(some 5), none, .mv (.t 10)⟩]
theorem tr42_3 : (ro Tryd.f42 3).toList.mapM (trO Tryd.prog 18 (ro Tryd.f42 3)) = some a42_3 := by kernel_rfl
def a42_4 : List AO := [⟨(some 11), none, .mv (.t 1)⟩,
  ⟨(some 12), none, .mv (.t 0)⟩,
  ⟨(some 13), none, .mv (.t 5)⟩,
  ⟨(some 14), none, .sidx (.t 12) (.t 13)⟩,
  ⟨(some 15), none, .callv (.t 11) [(.t 14)]⟩,
  ⟨(some 16), none, .un .not (.t 15)⟩]
theorem tr42_4 : (ro Tryd.f42 4).toList.mapM (trO Tryd.prog 18 (ro Tryd.f42 4)) = some a42_4 := by kernel_rfl
def a42_5 : List AO := [⟨(some 4), none, .mv (.v (.bool false))⟩]
theorem tr42_5 : (ro Tryd.f42 5).toList.mapM (trO Tryd.prog 18 (ro Tryd.f42 5)) = some a42_5 := by kernel_rfl
def a42_6 : List AO := [⟨(some 17), none, .bin .add (.t 8) (.v (.int .i64 1))⟩,
  ⟨(some 8), none, .mv (.t 17)⟩]
theorem tr42_6 : (ro Tryd.f42 6).toList.mapM (trO Tryd.prog 18 (ro Tryd.f42 6)) = some a42_6 := by kernel_rfl
def a42_7 : List AO := [⟨(some 4), none, .mv (.v (.bool true))⟩]
theorem tr42_7 : (ro Tryd.f42 7).toList.mapM (trO Tryd.prog 18 (ro Tryd.f42 7)) = some a42_7 := by kernel_rfl
/-- airline/text.Code 1 -/
noncomputable def c43 : Code := .seq (.region 0 (ro Tryd.f43 0) false) (.seq (.region 1 (ro Tryd.f43 1) false) (.ret))
theorem body43 : Tryd.f43.body = some c43 := by kernel_rfl
theorem res43 : Tryd.f43.results.toList.mapM (trR Tryd.prog) = some [.t 2] := by kernel_rfl
theorem nt43 : Tryd.f43.ntmps = 9 := by kernel_rfl
theorem nm43 : (Tryd.f43.name == "runtime.NumGoroutine") = false := by kernel_rfl
def a43_0 : List AO := [⟨(some 2), none, .mv (.v (.bool false))⟩]
theorem tr43_0 : (ro Tryd.f43 0).toList.mapM (trO Tryd.prog 9 (ro Tryd.f43 0)) = some a43_0 := by kernel_rfl
def a43_1 : List AO := [⟨(some 3), none, .mv (.t 0)⟩,
  ⟨(some 4), none, .call 44 [(.t 3)]⟩,
  ⟨(some 5), none, .mv (.t 4)⟩,
  ⟨(some 6), some (5, false), .mv (.t 0)⟩,
  ⟨(some 7), some (5, false), .call 45 [(.t 6)]⟩,
  ⟨(some 8), none, .pick (.t 5) (.v (.bool true)) (.t 7)⟩,
  ⟨(some 2), none, .mv (.t 8)⟩]
theorem tr43_1 : (ro Tryd.f43 1).toList.mapM (trO Tryd.prog 9 (ro Tryd.f43 1)) = some a43_1 := by kernel_rfl
/-- airline/text.capital -/
noncomputable def c44 : Code := .seq (.region 0 (ro Tryd.f44 0) false) (.seq (.region 1 (ro Tryd.f44 1) false) (.ret))
theorem body44 : Tryd.f44.body = some c44 := by kernel_rfl
theorem res44 : Tryd.f44.results.toList.mapM (trR Tryd.prog) = some [.t 2] := by kernel_rfl
theorem nt44 : Tryd.f44.ntmps = 9 := by kernel_rfl
theorem nm44 : (Tryd.f44.name == "runtime.NumGoroutine") = false := by kernel_rfl
def a44_0 : List AO := [⟨(some 2), none, .mv (.v (.bool false))⟩]
theorem tr44_0 : (ro Tryd.f44 0).toList.mapM (trO Tryd.prog 9 (ro Tryd.f44 0)) = some a44_0 := by kernel_rfl
def a44_1 : List AO := [⟨(some 3), none, .mv (.t 0)⟩,
  ⟨(some 4), none, .bin .geq (.t 3) (.v (.int .u8 65))⟩,
  ⟨(some 5), none, .mv (.t 4)⟩,
  ⟨(some 6), some (5, true), .mv (.t 0)⟩,
  ⟨(some 7), some (5, true), .bin .leq (.t 6) (.v (.int .u8 90))⟩,
  ⟨(some 8), none, .pick (.t 5) (.t 7) (.v (.bool false))⟩,
  ⟨(some 2), none, .mv (.t 8)⟩]
theorem tr44_1 : (ro Tryd.f44 1).toList.mapM (trO Tryd.prog 9 (ro Tryd.f44 1)) = some a44_1 := by kernel_rfl
/-- airline/text.digit -/
noncomputable def c45 : Code := .seq (.region 0 (ro Tryd.f45 0) false) (.seq (.region 1 (ro Tryd.f45 1) false) (.ret))
theorem body45 : Tryd.f45.body = some c45 := by kernel_rfl
theorem res45 : Tryd.f45.results.toList.mapM (trR Tryd.prog) = some [.t 2] := by kernel_rfl
theorem nt45 : Tryd.f45.ntmps = 9 := by kernel_rfl
theorem nm45 : (Tryd.f45.name == "runtime.NumGoroutine") = false := by kernel_rfl
def a45_0 : List AO := [⟨(some 2), none, .mv (.v (.bool false))⟩]
theorem tr45_0 : (ro Tryd.f45 0).toList.mapM (trO Tryd.prog 9 (ro Tryd.f45 0)) = some a45_0 := by kernel_rfl
def a45_1 : List AO := [⟨(some 3), none, .mv (.t 0)⟩,
  ⟨(some 4), none, .bin .geq (.t 3) (.v (.int .u8 48))⟩,
  ⟨(some 5), none, .mv (.t 4)⟩,
  ⟨(some 6), some (5, true), .mv (.t 0)⟩,
  ⟨(some 7), some (5, true), .bin .leq (.t 6) (.v (.int .u8 57))⟩,
  ⟨(some 8), none, .pick (.t 5) (.t 7) (.v (.bool false))⟩,
  ⟨(some 2), none, .mv (.t 8)⟩]
theorem tr45_1 : (ro Tryd.f45 1).toList.mapM (trO Tryd.prog 9 (ro Tryd.f45 1)) = some a45_1 := by kernel_rfl
/-- slices.IndexFunc[[]string,string] -/
noncomputable def c46 : Code := .seq (.region 0 (ro Tryd.f46 0) false) (.seq (.seq (.region 1 (ro Tryd.f46 1) false) (.block 0 (.loop (.seq (.region 2 (ro Tryd.f46 2) false) (.seq (.cond (.tmp 9) (.skip) (.exit 0)) (.seq (.block 1 (.seq (.region 3 (ro Tryd.f46 3) false) (.seq (.region 4 (ro Tryd.f46 4) false) (.cond (.tmp 16) (.seq (.region 5 (ro Tryd.f46 5) false) (.ret)) (.skip))))) (.region 6 (ro Tryd.f46 6) false))))))) (.seq (.region 7 (ro Tryd.f46 7) false) (.ret)))
theorem body46 : Tryd.f46.body = some c46 := by kernel_rfl
theorem res46 : Tryd.f46.results.toList.mapM (trR Tryd.prog) = some [.t 4] := by kernel_rfl
theorem nt46 : Tryd.f46.ntmps = 19 := by kernel_rfl
theorem nm46 : (Tryd.f46.name == "runtime.NumGoroutine") = false := by kernel_rfl
def a46_0 : List AO := [⟨(some 4), none, .mv (.v (.int .i64 0))⟩]
theorem tr46_0 : (ro Tryd.f46 0).toList.mapM (trO Tryd.prog 19 (ro Tryd.f46 0)) = some a46_0 := by kernel_rfl
def a46_1 : List AO := [⟨(some 6), none, .mv (.t 0)⟩,
  ⟨(some 7), none, .len (.t 6)⟩,
  ⟨(some 8), none, .mv (.v (.int .i64 0))⟩]
theorem tr46_1 : (ro Tryd.f46 1).toList.mapM (trO Tryd.prog 19 (ro Tryd.f46 1)) = some a46_1 := by kernel_rfl
def a46_2 : List AO := [⟨(some 9), none, .bin .lss (.t 8) (.t 7)⟩]
theorem tr46_2 : (ro Tryd.f46 2).toList.mapM (trO Tryd.prog 19 (ro Tryd.f46 2)) = some a46_2 := by kernel_rfl
def a46_3 : List AO := [⟨(some 10), none, .mv (.t 8)⟩,
  ⟨(some 5), none, .mv (.t 10)⟩]
theorem tr46_3 : (ro Tryd.f46 3).toList.mapM (trO Tryd.prog 19 (ro Tryd.f46 3)) = some a46_3 := by kernel_rfl
def a46_4 : List AO := [⟨(some 11), none, .mv (.t 1)⟩,
  ⟨(some 12), none, .mv (.t 0)⟩,
  ⟨(some 13), none, .mv (.t 5)⟩,
  ⟨(some 14), none, .idx 1 (.t 12) (.t 13)⟩,
  ⟨(some 15), none, .load none (.t 14)⟩,
  ⟨(some 16), none, .callv (.t 11) [(.t 15)]⟩]
theorem tr46_4 : (ro Tryd.f46 4).toList.mapM (trO Tryd.prog 19 (ro Tryd.f46 4)) = some a46_4 := by kernel_rfl
def a46_5 : List AO := [⟨(some 17), none, .mv (.t 5)⟩,
  ⟨(some 4), none, .mv (.t 17)⟩]
theorem tr46_5 : (ro Tryd.f46 5).toList.mapM (trO Tryd.prog 19 (ro Tryd.f46 5)) = some a46_5 := by kernel_rfl
def a46_6 : List AO := [⟨(some 18), none, .bin .add (.t 8) (.v (.int .i64 1))⟩,
  ⟨(some 8), none, .mv (.t 18)⟩]
theorem tr46_6 : (ro Tryd.f46 6).toList.mapM (trO Tryd.prog 19 (ro Tryd.f46 6)) = some a46_6 := by kernel_rfl
def a46_7 : List AO := [⟨(some 4), none, .mv (.v (.int .i64 (-1)))⟩]
theorem tr46_7 : (ro Tryd.f46 7).toList.mapM (trO Tryd.prog 19 (ro Tryd.f46 7)) = some a46_7 := by kernel_rfl
/-- airline/airlineref01.digits -/
noncomputable def c47 : Code := .seq (.region 0 (ro Tryd.f47 0) false) (.seq (.seq (.region 1 (ro Tryd.f47 1) false) (.cond (.tmp 4) (.seq (.region 2 (ro Tryd.f47 2) false) (.ret)) (.skip))) (.seq (.region 3 (ro Tryd.f47 3) true) (.ret)))
theorem body47 : Tryd.f47.body = some c47 := by kernel_rfl
theorem res47 : Tryd.f47.results.toList.mapM (trR Tryd.prog) = some [.t 2] := by kernel_rfl
theorem nt47 : Tryd.f47.ntmps = 19 := by kernel_rfl
theorem nm47 : (Tryd.f47.name == "runtime.NumGoroutine") = false := by kernel_rfl
def a47_0 : List AO := [⟨(some 2), none, .mv (.v (.str []))⟩]
theorem tr47_0 : (ro Tryd.f47 0).toList.mapM (trO Tryd.prog 19 (ro Tryd.f47 0)) = some a47_0 := by kernel_rfl
def a47_1 : List AO := [⟨(some 3), none, .mv (.t 0)⟩,
  ⟨(some 4), none, .bin .lss (.t 3) (.v (.int .u64 10))⟩]
theorem tr47_1 : (ro Tryd.f47 1).toList.mapM (trO Tryd.prog 19 (ro Tryd.f47 1)) = some a47_1 := by kernel_rfl
def a47_2 : List AO := [⟨(some 5), none, .mv (.t 0)⟩,
  ⟨(some 6), none, .mv (.t 0)⟩,
  ⟨(some 7), none, .bin .add (.t 6) (.v (.int .u64 1))⟩,
  ⟨(some 8), none, .ssub (some (.t 5)) (some (.t 7)) (.v (.str [48, 49, 50, 51, 52, 53, 54, 55, 56, 57]))⟩,
  ⟨(some 2), none, .mv (.t 8)⟩]
theorem tr47_2 : (ro Tryd.f47 2).toList.mapM (trO Tryd.prog 19 (ro Tryd.f47 2)) = some a47_2 := by kernel_rfl
def a47_3 : List AO := [⟨(some 9), none, .mv (.t 0)⟩,
  ⟨(some 10), none, .bin .quo (.t 9) (.v (.int .u64 10))⟩,
  ⟨(some 11), none, .call 47 [(.t 10)]⟩,
  ⟨(some 12), none, .mv (.t 0)⟩,
  ⟨(some 13), none, .bin .rem (.t 12) (.v (.int .u64 10))⟩,
  ⟨(some 14), none, .mv (.t 0)⟩,
  ⟨(some 15), none, .bin .rem (.t 14) (.v (.int .u64 10))⟩,
  ⟨(some 16), none, .bin .add (.t 15) (.v (.int .u64 1))⟩,
  ⟨(some 17), none, .ssub (some (.t 13)) (some (.t 16)) (.v (.str [48, 49, 50, 51, 52, 53, 54, 55, 56, 57]))⟩,
  ⟨(some 18), none, .bin .add (.t 11) (.t 17)⟩,
  ⟨(some 2), none, .mv (.t 18)⟩]
theorem tr47_3 : (ro Tryd.f47 3).toList.mapM (trO Tryd.prog 19 (ro Tryd.f47 3)) = some a47_3 := by kernel_rfl
def d47_3 : List (List Nat) := [[], [0], [0, 1], [], [3], [], [5], [5, 6], [3, 4, 5, 6, 7], [0, 1, 2, 3, 4, 5, 6, 7, 8], [0, 1, 2, 3, 4, 5, 6, 7, 8, 9]]
theorem ok47_3 : okReg (ro Tryd.f47 3) a47_3 d47_3 = true := by kernel_rfl
/-- airline/airlineref01.Code -/
noncomputable def c48 : Code := .seq (.region 0 (ro Tryd.f48 0) false) (.seq (.seq (.region 1 (ro Tryd.f48 1) false) (.block 0 (.loop (.seq (.seq (.region 2 (ro Tryd.f48 2) false) (.cond (.tmp 11) (.skip) (.exit 0))) (.seq (.block 1 (.seq (.region 4 (ro Tryd.f48 4) false) (.cond (.tmp 25) (.seq (.region 5 (ro Tryd.f48 5) false) (.ret)) (.skip)))) (.region 3 (ro Tryd.f48 3) false)))))) (.seq (.region 6 (ro Tryd.f48 6) false) (.ret)))
theorem body48 : Tryd.f48.body = some c48 := by kernel_rfl
theorem res48 : Tryd.f48.results.toList.mapM (trR Tryd.prog) = some [.t 6] := by kernel_rfl
theorem nt48 : Tryd.f48.ntmps = 36 := by kernel_rfl
theorem nm48 : (Tryd.f48.name == "runtime.NumGoroutine") = false := by kernel_rfl
def a48_0 : List AO := [⟨(some 6), none, .mv (.v (.bool false))⟩]
theorem tr48_0 : (ro Tryd.f48 0).toList.mapM (trO Tryd.prog 36 (ro Tryd.f48 0)) = some a48_0 := by kernel_rfl
def a48_1 : List AO := [⟨(some 7), none, .mv (.v (.int .i64 0))⟩]
theorem tr48_1 : (ro Tryd.f48 1).toList.mapM (trO Tryd.prog 36 (ro Tryd.f48 1)) = some a48_1 := by kernel_rfl
def a48_2 : List AO := [⟨(some 8), none, .mv (.t 7)⟩,
  ⟨(some 9), none, .mv (.t 0)⟩,
  ⟨(some 10), none, .slen (.t 9)⟩,
  ⟨(some 11), none, .bin .lss (.t 8) (.t 10)⟩]
theorem tr48_2 : (ro Tryd.f48 2).toList.mapM (trO Tryd.prog 36 (ro Tryd.f48 2)) = some a48_2 := by kernel_rfl
def a48_4 : List AO := [⟨(some 14), none, .mv (.t 0)⟩,
  ⟨(some 15), none, .mv (.t 7)⟩,
  ⟨(some 16), none, .sidx (.t 14) (.t 15)⟩,
  ⟨(some 17), none, .call 66 [(.t 16)]⟩,
  ⟨(some 18), none, .un .not (.t 17)⟩,
  ⟨(some 19), none, .mv (.t 18)⟩,
  ⟨(some 20), some (19, true), .mv (.t 0)⟩,
  ⟨(some 21), some (19, true), .mv (.t 7)⟩,
  ⟨(some 22), some (19, true), .sidx (.t 20) (.t 21)⟩,
  ⟨(some 23), some (19, true), .call 67 [(.t 22)]⟩,
  ⟨(some 24), some (19, true), .un .not (.t 23)⟩,
  ⟨(some 25), none, .pick (.t 19) (.t 24) (.v (.bool false))⟩]
theorem tr48_4 : (ro Tryd.f48 4).toList.mapM (trO Tryd.prog 36 (ro Tryd.f48 4)) = some a48_4 := by kernel_rfl
def a48_5 : List AO := [⟨(some 6), none, .mv (.v (.bool false))⟩]
theorem tr48_5 : (ro Tryd.f48 5).toList.mapM (trO Tryd.prog 36 (ro Tryd.f48 5)) = some a48_5 := by kernel_rfl
def a48_3 : List AO := [⟨(some 12), none, .mv (.t 7)⟩,
  ⟨(some 13), none, .bin .add (.t 12) (.v (.int .i64 1))⟩,
  ⟨(some 7), none, .mv (.t 13)⟩]
theorem tr48_3 : (ro Tryd.f48 3).toList.mapM (trO Tryd.prog 36 (ro Tryd.f48 3)) = some a48_3 := by kernel_rfl
def a48_6 : List AO := [⟨(some 26), none, .mv (.t 0)⟩,
  ⟨(some 27), none, .slen (.t 26)⟩,
  ⟨(some 28), none, .mv (.t 1)⟩,
  ⟨(some 29), none, .bin .geq (.t 27) (.t 28)⟩,
  ⟨(some 30), none, .mv (.t 29)⟩,
  ⟨(some 31), some (30, true), .mv (.t 0)⟩,
  ⟨(some 32), some (30, true), .slen (.t 31)⟩,
  ⟨(some 33), some (30, true), .mv (.t 2)⟩,
  ⟨(some 34), some (30, true), .bin .leq (.t 32) (.t 33)⟩,
  ⟨(some 35), none, .pick (.t 30) (.t 34) (.v (.bool false))⟩,
  ⟨(some 6), none, .mv (.t 35)⟩]
theorem tr48_6 : (ro Tryd.f48 6).toList.mapM (trO Tryd.prog 36 (ro Tryd.f48 6)) = some a48_6 := by kernel_rfl
/-- airline/airlineref01.Country -/
noncomputable def c49 : Code := .seq (.region 0 (ro Tryd.f49 0) false) (.seq (.region 1 (ro Tryd.f49 1) false) (.ret))
theorem body49 : Tryd.f49.body = some c49 := by kernel_rfl
theorem res49 : Tryd.f49.results.toList.mapM (trR Tryd.prog) = some [.t 2] := by kernel_rfl
theorem nt49 : Tryd.f49.ntmps = 5 := by kernel_rfl
theorem nm49 : (Tryd.f49.name == "runtime.NumGoroutine") = false := by kernel_rfl
def a49_0 : List AO := [⟨(some 2), none, .mv (.v (.bool false))⟩]
theorem tr49_0 : (ro Tryd.f49 0).toList.mapM (trO Tryd.prog 5 (ro Tryd.f49 0)) = some a49_0 := by kernel_rfl
def a49_1 : List AO := [⟨(some 3), none, .mv (.t 0)⟩,
  ⟨(some 4), none, .call 68 [(.t 3), (.v (.int .i64 2))]⟩,
  ⟨(some 2), none, .mv (.t 4)⟩]
theorem tr49_1 : (ro Tryd.f49 1).toList.mapM (trO Tryd.prog 5 (ro Tryd.f49 1)) = some a49_1 := by kernel_rfl
/-- airline/airlineref06.airport -/
noncomputable def c50 : Code := .seq (.region 0 (ro Tryd.f50 0) false) (.seq (.region 1 (ro Tryd.f50 1) false) (.seq (.region 2 (ro Tryd.f50 2) false) (.seq (.seq (.region 3 (ro Tryd.f50 3) false) (.cond (.tmp 31) (.region 4 (ro Tryd.f50 4) false) (.skip))) (.seq (.region 5 (ro Tryd.f50 5) false) (.seq (.seq (.region 6 (ro Tryd.f50 6) false) (.block 0 (.loop (.seq (.seq (.region 7 (ro Tryd.f50 7) false) (.cond (.tmp 37) (.skip) (.exit 0))) (.seq (.block 1 (.seq (.region 9 (ro Tryd.f50 9) true) (.region 10 (ro Tryd.f50 10) true))) (.region 8 (ro Tryd.f50 8) false)))))) (.seq (.seq (.region 11 (ro Tryd.f50 11) false) (.cond (.tmp 75) (.region 12 (ro Tryd.f50 12) false) (.skip))) (.seq (.seq (.region 13 (ro Tryd.f50 13) false) (.cond (.tmp 79) (.region 14 (ro Tryd.f50 14) false) (.skip))) (.seq (.region 15 (ro Tryd.f50 15) false) (.seq (.seq (.region 16 (ro Tryd.f50 16) false) (.cond (.tmp 87) (.region 17 (ro Tryd.f50 17) false) (.skip))) (.seq (.region 18 (ro Tryd.f50 18) false) (.ret)))))))))))
theorem body50 : Tryd.f50.body = some c50 := by kernel_rfl
theorem res50 : Tryd.f50.results.toList.mapM (trR Tryd.prog) = some [.t 4] := by kernel_rfl
theorem nt50 : Tryd.f50.ntmps = 93 := by kernel_rfl
theorem nm50 : (Tryd.f50.name == "runtime.NumGoroutine") = false := by kernel_rfl
def a50_0 : List AO := [⟨(some 2), none, .box 31 (.t 0)⟩,
  ⟨(some 4), none, .mv (.v .nils)⟩]
theorem tr50_0 : (ro Tryd.f50 0).toList.mapM (trO Tryd.prog 93 (ro Tryd.f50 0)) = some a50_0 := by kernel_rfl
def a50_1 : List AO := [⟨(some 5), none, .mv (.v .nils)⟩]
theorem tr50_1 : (ro Tryd.f50 1).toList.mapM (trO Tryd.prog 93 (ro Tryd.f50 1)) = some a50_1 := by kernel_rfl
def a50_2 : List AO := [⟨(some 11), none, .fld 0 (.t 2)⟩,
  ⟨(some 12), none, .load none (.t 11)⟩,
  ⟨(some 13), none, .mv (.t 1)⟩,
  ⟨(some 14), none, .idx 5 (.t 12) (.t 13)⟩,
  ⟨(some 15), none, .load (some 5) (.t 14)⟩,
  ⟨(some 6), none, .alloc 81 [(.str []), (.str []), (.str []), (.int .i64 0), .nils]⟩,
  ⟨none, none, .store 5 (.t 6) (.t 15)⟩]
theorem tr50_2 : (ro Tryd.f50 2).toList.mapM (trO Tryd.prog 93 (ro Tryd.f50 2)) = some a50_2 := by kernel_rfl
def a50_3 : List AO := [⟨(some 16), none, .fld 0 (.t 6)⟩,
  ⟨(some 17), none, .load none (.t 16)⟩,
  ⟨(some 18), none, .call 69 [(.t 17)]⟩,
  ⟨(some 19), none, .un .not (.t 18)⟩,
  ⟨(some 20), none, .mv (.t 19)⟩,
  ⟨(some 21), some (20, false), .fld 1 (.t 6)⟩,
  ⟨(some 22), some (20, false), .load none (.t 21)⟩,
  ⟨(some 23), some (20, false), .call 69 [(.t 22)]⟩,
  ⟨(some 24), some (20, false), .un .not (.t 23)⟩,
  ⟨(some 25), none, .pick (.t 20) (.v (.bool true)) (.t 24)⟩,
  ⟨(some 26), none, .mv (.t 25)⟩,
  ⟨(some 27), some (26, false), .fld 2 (.t 6)⟩,
  ⟨(some 28), some (26, false), .load none (.t 27)⟩,
  ⟨(some 29), some (26, false), .call 49 [(.t 28)]⟩,
  ⟨(some 30), some (26, false), .un .not (.t 29)⟩,
  ⟨(some 31), none, .pick (.t 26) (.v (.bool true)) (.t 30)⟩]
theorem tr50_3 : (ro Tryd.f50 3).toList.mapM (trO Tryd.prog 93 (ro Tryd.f50 3)) = some a50_3 := by kernel_rfl
def a50_4 : List AO := [⟨(some 32), none, .mv (.t 5)⟩,
  ⟨(some 33), none, .slc 40 1 false [(.v (.int .i64 5))]⟩,
  ⟨(some 34), none, .app 40 1 8 (.t 32) (.t 33)⟩,
  ⟨(some 5), none, .mv (.t 34)⟩]
theorem tr50_4 : (ro Tryd.f50 4).toList.mapM (trO Tryd.prog 93 (ro Tryd.f50 4)) = some a50_4 := by kernel_rfl
def a50_5 : List AO := [⟨(some 7), none, .mv (.v (.bool false))⟩,
  ⟨(some 8), none, .mv (.v (.bool false))⟩]
theorem tr50_5 : (ro Tryd.f50 5).toList.mapM (trO Tryd.prog 93 (ro Tryd.f50 5)) = some a50_5 := by kernel_rfl
def a50_6 : List AO := [⟨(some 9), none, .mv (.v (.int .i64 0))⟩]
theorem tr50_6 : (ro Tryd.f50 6).toList.mapM (trO Tryd.prog 93 (ro Tryd.f50 6)) = some a50_6 := by kernel_rfl
def a50_7 : List AO := [⟨(some 35), none, .mv (.t 9)⟩,
  ⟨(some 36), none, .mv (.t 1)⟩,
  ⟨(some 37), none, .bin .lss (.t 35) (.t 36)⟩]
theorem tr50_7 : (ro Tryd.f50 7).toList.mapM (trO Tryd.prog 93 (ro Tryd.f50 7)) = some a50_7 := by kernel_rfl
def a50_9 : List AO := [⟨(some 40), none, .mv (.t 7)⟩,
  ⟨(some 41), none, .mv (.t 40)⟩,
  ⟨(some 42), some (41, false), .fld 0 (.t 2)⟩,
  ⟨(some 43), some (41, false), .load none (.t 42)⟩,
  ⟨(some 44), some (41, false), .mv (.t 9)⟩,
  ⟨(some 45), some (41, false), .idx 5 (.t 43) (.t 44)⟩,
  ⟨(some 46), some (41, false), .fld 0 (.t 45)⟩,
  ⟨(some 47), some (41, false), .load none (.t 46)⟩,
  ⟨(some 48), some (41, false), .fld 0 (.t 6)⟩,
  ⟨(some 49), some (41, false), .load none (.t 48)⟩,
  ⟨(some 50), some (41, false), .bin .eql (.t 47) (.t 49)⟩,
  ⟨(some 51), none, .pick (.t 41) (.v (.bool true)) (.t 50)⟩,
  ⟨(some 7), none, .mv (.t 51)⟩]
theorem tr50_9 : (ro Tryd.f50 9).toList.mapM (trO Tryd.prog 93 (ro Tryd.f50 9)) = some a50_9 := by kernel_rfl
def d50_9 : List (List Nat) := [[], [0], [0, 1], [0, 1, 2], [0, 1], [0, 1, 2, 3, 4], [0, 1, 2, 3, 4, 5], [0, 1, 2, 3, 4, 5, 6], [0, 1], [0, 1, 8], [0, 1, 2, 3, 4, 5, 6, 7, 8, 9], [0, 1, 2, 3, 4, 5, 6, 7, 8, 9, 10], [0, 1, 2, 3, 4, 5, 6, 7, 8, 9, 10, 11]]
theorem ok50_9 : okReg (ro Tryd.f50 9) a50_9 d50_9 = true := by kernel_rfl
def a50_10 : List AO := [⟨(some 52), none, .mv (.t 8)⟩,
  ⟨(some 53), none, .mv (.t 52)⟩,
  ⟨(some 54), some (53, false), .fld 0 (.t 2)⟩,
  ⟨(some 55), some (53, false), .load none (.t 54)⟩,
  ⟨(some 56), some (53, false), .mv (.t 9)⟩,
  ⟨(some 57), some (53, false), .idx 5 (.t 55) (.t 56)⟩,
  ⟨(some 58), some (53, false), .fld 1 (.t 57)⟩,
  ⟨(some 59), some (53, false), .load none (.t 58)⟩,
  ⟨(some 60), some (53, false), .fld 1 (.t 6)⟩,
  ⟨(some 61), some (53, false), .load none (.t 60)⟩,
  ⟨(some 62), some (53, false), .bin .eql (.t 59) (.t 61)⟩,
  ⟨(some 63), some (53, false), .mv (.t 62)⟩,
  ⟨(some 64), some (63, true), .fld 0 (.t 2)⟩,
  ⟨(some 65), some (63, true), .load none (.t 64)⟩,
  ⟨(some 66), some (63, true), .mv (.t 9)⟩,
  ⟨(some 67), some (63, true), .idx 5 (.t 65) (.t 66)⟩,
  ⟨(some 68), some (63, true), .fld 2 (.t 67)⟩,
  ⟨(some 69), some (63, true), .load none (.t 68)⟩,
  ⟨(some 70), some (63, true), .fld 2 (.t 6)⟩,
  ⟨(some 71), some (63, true), .load none (.t 70)⟩,
  ⟨(some 72), some (63, true), .bin .neq (.t 69) (.t 71)⟩,
  ⟨(some 73), some (53, false), .pick (.t 63) (.t 72) (.v (.bool false))⟩,
  ⟨(some 74), none, .pick (.t 53) (.v (.bool true)) (.t 73)⟩,
  ⟨(some 8), none, .mv (.t 74)⟩]
theorem tr50_10 : (ro Tryd.f50 10).toList.mapM (trO Tryd.prog 93 (ro Tryd.f50 10)) = some a50_10 := by kernel_rfl
def d50_10 : List (List Nat) := [[], [0], [0, 1], [0, 1, 2], [0, 1], [0, 1, 2, 3, 4], [0, 1, 2, 3, 4, 5], [0, 1, 2, 3, 4, 5, 6], [0, 1], [0, 1, 8], [0, 1, 2, 3, 4, 5, 6, 7, 8, 9], [0, 1, 2, 3, 4, 5, 6, 7, 8, 9, 10], [0, 1, 2, 3, 4, 5, 6, 7, 8, 9, 10, 11], [0, 1, 2, 3, 4, 5, 6, 7, 8, 9, 10, 11, 12], [0, 1, 2, 3, 4, 5, 6, 7, 8, 9, 10, 11], [0, 1, 2, 3, 4, 5, 6, 7, 8, 9, 10, 11, 12, 13, 14], [0, 1, 2, 3, 4, 5, 6, 7, 8, 9, 10, 11, 12, 13, 14, 15], [0, 1, 2, 3, 4, 5, 6, 7, 8, 9, 10, 11, 12, 13, 14, 15, 16], [0, 1, 2, 3, 4, 5, 6, 7, 8, 9, 10, 11], [0, 1, 2, 3, 4, 5, 6, 7, 8, 9, 10, 11, 18], [0, 1, 2, 3, 4, 5, 6, 7, 8, 9, 10, 11, 12, 13, 14, 15, 16, 17, 18, 19], [0, 1, 2, 3, 4, 5, 6, 7, 8, 9, 10, 11, 12, 13, 14, 15, 16, 17, 18, 19, 20], [0, 1, 2, 3, 4, 5, 6, 7, 8, 9, 10, 11, 12, 13, 14, 15, 16, 17, 18, 19, 20, 21], [0, 1, 2, 3, 4, 5, 6, 7, 8, 9, 10, 11, 12, 13, 14, 15, 16, 17, 18, 19, 20, 21, 22]]
theorem ok50_10 : okReg (ro Tryd.f50 10) a50_10 d50_10 = true := by kernel_rfl
def a50_8 : List AO := [⟨(some 38), none, .mv (.t 9)⟩,
  ⟨(some 39), none, .bin .add (.t 38) (.v (.int .i64 1))⟩,
  ⟨(some 9), none, .mv (.t 39)⟩]
theorem tr50_8 : (ro Tryd.f50 8).toList.mapM (trO Tryd.prog 93 (ro Tryd.f50 8)) = some a50_8 := by kernel_rfl
def a50_11 : List AO := [⟨(some 75), none, .mv (.t 7)⟩]
theorem tr50_11 : (ro Tryd.f50 11).toList.mapM (trO Tryd.prog 93 (ro Tryd.f50 11)) = some a50_11 := by kernel_rfl
def a50_12 : List AO := [⟨(some 76), none, .mv (.t 5)⟩,
  ⟨(some 77), none, .slc 40 1 false [(.v (.int .i64 6))]⟩,
  ⟨(some 78), none, .app 40 1 8 (.t 76) (.t 77)⟩,
  ⟨(some 5), none, .mv (.t 78)⟩]
theorem tr50_12 : (ro Tryd.f50 12).toList.mapM (trO Tryd.prog 93 (ro Tryd.f50 12)) = some a50_12 := by kernel_rfl
def a50_13 : List AO := [⟨(some 79), none, .mv (.t 8)⟩]
theorem tr50_13 : (ro Tryd.f50 13).toList.mapM (trO Tryd.prog 93 (ro Tryd.f50 13)) = some a50_13 := by kernel_rfl
def a50_14 : List AO := [⟨(some 80), none, .mv (.t 5)⟩,
  ⟨(some 81), none, .slc 40 1 false [(.v (.int .i64 8))]⟩,
  ⟨(some 82), none, .app 40 1 8 (.t 80) (.t 81)⟩,
  ⟨(some 5), none, .mv (.t 82)⟩]
theorem tr50_14 : (ro Tryd.f50 14).toList.mapM (trO Tryd.prog 93 (ro Tryd.f50 14)) = some a50_14 := by kernel_rfl
def a50_15 : List AO := [⟨(some 83), none, .fld 3 (.t 6)⟩,
  ⟨(some 84), none, .load (some 2) (.t 83)⟩,
  ⟨(some 85), none, .call 70 [(.t 84)]⟩,
  ⟨(some 10), none, .mv (.t 85)⟩]
theorem tr50_15 : (ro Tryd.f50 15).toList.mapM (trO Tryd.prog 93 (ro Tryd.f50 15)) = some a50_15 := by kernel_rfl
def a50_16 : List AO := [⟨(some 86), none, .mv (.t 10)⟩,
  ⟨(some 87), none, .bin .neq (.t 86) (.v (.int .i64 0))⟩]
theorem tr50_16 : (ro Tryd.f50 16).toList.mapM (trO Tryd.prog 93 (ro Tryd.f50 16)) = some a50_16 := by kernel_rfl
def a50_17 : List AO := [⟨(some 88), none, .mv (.t 5)⟩,
  ⟨(some 89), none, .mv (.t 10)⟩,
  ⟨(some 90), none, .slc 40 1 false [(.t 89)]⟩,
  ⟨(some 91), none, .app 40 1 8 (.t 88) (.t 90)⟩,
  ⟨(some 5), none, .mv (.t 91)⟩]
theorem tr50_17 : (ro Tryd.f50 17).toList.mapM (trO Tryd.prog 93 (ro Tryd.f50 17)) = some a50_17 := by kernel_rfl
def a50_18 : List AO := [⟨(some 92), none, .mv (.t 5)⟩,
  ⟨(some 4), none, .mv (.t 92)⟩]
theorem tr50_18 : (ro Tryd.f50 18).toList.mapM (trO Tryd.prog 93 (ro Tryd.f50 18)) = some a50_18 := by kernel_rfl
/-- airline/airlineref06.distance -/
noncomputable def c51 : Code := .seq (.region 0 (ro Tryd.f51 0) false) (.seq (.region 1 (ro Tryd.f51 1) false) (.seq (.region 2 (ro Tryd.f51 2) false) (.seq (.region 3 (ro Tryd.f51 3) false) (.seq (.region 4 (ro Tryd.f51 4) false) (.seq (.seq (.region 5 (ro Tryd.f51 5) false) (.cond (.tmp 38) (.region 6 (ro Tryd.f51 6) false) (.skip))) (.seq (.region 7 (ro Tryd.f51 7) false) (.seq (.seq (.region 8 (ro Tryd.f51 8) false) (.block 0 (.loop (.seq (.seq (.region 9 (ro Tryd.f51 9) false) (.cond (.tmp 44) (.skip) (.exit 0))) (.seq (.block 1 (.seq (.region 11 (ro Tryd.f51 11) false) (.region 12 (ro Tryd.f51 12) false))) (.region 10 (ro Tryd.f51 10) false)))))) (.seq (.seq (.region 13 (ro Tryd.f51 13) false) (.cond (.tmp 81) (.region 14 (ro Tryd.f51 14) false) (.skip))) (.seq (.seq (.region 15 (ro Tryd.f51 15) false) (.cond (.tmp 94) (.region 16 (ro Tryd.f51 16) false) (.skip))) (.seq (.region 17 (ro Tryd.f51 17) false) (.ret)))))))))))
theorem body51 : Tryd.f51.body = some c51 := by kernel_rfl
theorem res51 : Tryd.f51.results.toList.mapM (trR Tryd.prog) = some [.t 4] := by kernel_rfl
theorem nt51 : Tryd.f51.ntmps = 99 := by kernel_rfl
theorem nm51 : (Tryd.f51.name == "runtime.NumGoroutine") = false := by kernel_rfl
def a51_0 : List AO := [⟨(some 2), none, .box 31 (.t 0)⟩,
  ⟨(some 4), none, .mv (.v .nils)⟩]
theorem tr51_0 : (ro Tryd.f51 0).toList.mapM (trO Tryd.prog 99 (ro Tryd.f51 0)) = some a51_0 := by kernel_rfl
def a51_1 : List AO := [⟨(some 5), none, .mv (.v .nils)⟩]
theorem tr51_1 : (ro Tryd.f51 1).toList.mapM (trO Tryd.prog 99 (ro Tryd.f51 1)) = some a51_1 := by kernel_rfl
def a51_2 : List AO := [⟨(some 14), none, .fld 1 (.t 2)⟩,
  ⟨(some 15), none, .load none (.t 14)⟩,
  ⟨(some 16), none, .mv (.t 1)⟩,
  ⟨(some 17), none, .idx 3 (.t 15) (.t 16)⟩,
  ⟨(some 18), none, .load (some 3) (.t 17)⟩,
  ⟨(some 6), none, .alloc 98 [(.str []), (.str []), (.int .i64 0)]⟩,
  ⟨none, none, .store 3 (.t 6) (.t 18)⟩]
theorem tr51_2 : (ro Tryd.f51 2).toList.mapM (trO Tryd.prog 99 (ro Tryd.f51 2)) = some a51_2 := by kernel_rfl
def a51_3 : List AO := [⟨(some 20), none, .load (some 2) (.t 2)⟩,
  ⟨(some 21), none, .fld 0 (.t 6)⟩,
  ⟨(some 22), none, .load none (.t 21)⟩,
  ⟨(some 23), none, .call 71 [(.t 20), (.t 22)]⟩,
  ⟨(some 19), none, .mv (.t 23)⟩,
  ⟨(some 24), none, .ext 0 (.t 19)⟩,
  ⟨(some 25), none, .ext 1 (.t 19)⟩,
  ⟨(some 7), none, .alloc 81 [(.str []), (.str []), (.str []), (.int .i64 0), .nils]⟩,
  ⟨none, none, .store 5 (.t 7) (.t 24)⟩,
  ⟨(some 8), none, .mv (.t 25)⟩]
theorem tr51_3 : (ro Tryd.f51 3).toList.mapM (trO Tryd.prog 99 (ro Tryd.f51 3)) = some a51_3 := by kernel_rfl
def a51_4 : List AO := [⟨(some 27), none, .load (some 2) (.t 2)⟩,
  ⟨(some 28), none, .fld 1 (.t 6)⟩,
  ⟨(some 29), none, .load none (.t 28)⟩,
  ⟨(some 30), none, .call 71 [(.t 27), (.t 29)]⟩,
  ⟨(some 26), none, .mv (.t 30)⟩,
  ⟨(some 31), none, .ext 0 (.t 26)⟩,
  ⟨(some 32), none, .ext 1 (.t 26)⟩,
  ⟨(some 9), none, .alloc 81 [(.str []), (.str []), (.str []), (.int .i64 0), .nils]⟩,
  ⟨none, none, .store 5 (.t 9) (.t 31)⟩,
  ⟨(some 10), none, .mv (.t 32)⟩]
theorem tr51_4 : (ro Tryd.f51 4).toList.mapM (trO Tryd.prog 99 (ro Tryd.f51 4)) = some a51_4 := by kernel_rfl
def a51_5 : List AO := [⟨(some 33), none, .mv (.t 8)⟩,
  ⟨(some 34), none, .un .not (.t 33)⟩,
  ⟨(some 35), none, .mv (.t 34)⟩,
  ⟨(some 36), some (35, false), .mv (.t 10)⟩,
  ⟨(some 37), some (35, false), .un .not (.t 36)⟩,
  ⟨(some 38), none, .pick (.t 35) (.v (.bool true)) (.t 37)⟩]
theorem tr51_5 : (ro Tryd.f51 5).toList.mapM (trO Tryd.prog 99 (ro Tryd.f51 5)) = some a51_5 := by kernel_rfl
def a51_6 : List AO := [⟨(some 39), none, .mv (.t 5)⟩,
  ⟨(some 40), none, .slc 40 1 false [(.v (.int .i64 14))]⟩,
  ⟨(some 41), none, .app 40 1 8 (.t 39) (.t 40)⟩,
  ⟨(some 5), none, .mv (.t 41)⟩]
theorem tr51_6 : (ro Tryd.f51 6).toList.mapM (trO Tryd.prog 99 (ro Tryd.f51 6)) = some a51_6 := by kernel_rfl
def a51_7 : List AO := [⟨(some 11), none, .mv (.v (.bool false))⟩]
theorem tr51_7 : (ro Tryd.f51 7).toList.mapM (trO Tryd.prog 99 (ro Tryd.f51 7)) = some a51_7 := by kernel_rfl
def a51_8 : List AO := [⟨(some 12), none, .mv (.v (.int .i64 0))⟩]
theorem tr51_8 : (ro Tryd.f51 8).toList.mapM (trO Tryd.prog 99 (ro Tryd.f51 8)) = some a51_8 := by kernel_rfl
def a51_9 : List AO := [⟨(some 42), none, .mv (.t 12)⟩,
  ⟨(some 43), none, .mv (.t 1)⟩,
  ⟨(some 44), none, .bin .lss (.t 42) (.t 43)⟩]
theorem tr51_9 : (ro Tryd.f51 9).toList.mapM (trO Tryd.prog 99 (ro Tryd.f51 9)) = some a51_9 := by kernel_rfl
def a51_11 : List AO := [⟨(some 47), none, .fld 1 (.t 2)⟩,
  ⟨(some 48), none, .load none (.t 47)⟩,
  ⟨(some 49), none, .mv (.t 12)⟩,
  ⟨(some 50), none, .idx 3 (.t 48) (.t 49)⟩,
  ⟨(some 51), none, .load (some 3) (.t 50)⟩,
  ⟨(some 13), none, .alloc 98 [(.str []), (.str []), (.int .i64 0)]⟩,
  ⟨none, none, .store 3 (.t 13) (.t 51)⟩]
theorem tr51_11 : (ro Tryd.f51 11).toList.mapM (trO Tryd.prog 99 (ro Tryd.f51 11)) = some a51_11 := by kernel_rfl
def a51_12 : List AO := [⟨(some 52), none, .mv (.t 11)⟩,
  ⟨(some 53), none, .mv (.t 52)⟩,
  ⟨(some 54), some (53, false), .fld 0 (.t 13)⟩,
  ⟨(some 55), some (53, false), .load none (.t 54)⟩,
  ⟨(some 56), some (53, false), .fld 0 (.t 6)⟩,
  ⟨(some 57), some (53, false), .load none (.t 56)⟩,
  ⟨(some 58), some (53, false), .bin .eql (.t 55) (.t 57)⟩,
  ⟨(some 59), some (53, false), .mv (.t 58)⟩,
  ⟨(some 60), some (59, true), .fld 1 (.t 13)⟩,
  ⟨(some 61), some (59, true), .load none (.t 60)⟩,
  ⟨(some 62), some (59, true), .fld 1 (.t 6)⟩,
  ⟨(some 63), some (59, true), .load none (.t 62)⟩,
  ⟨(some 64), some (59, true), .bin .eql (.t 61) (.t 63)⟩,
  ⟨(some 65), some (53, false), .pick (.t 59) (.t 64) (.v (.bool false))⟩,
  ⟨(some 66), none, .pick (.t 53) (.v (.bool true)) (.t 65)⟩,
  ⟨(some 67), none, .mv (.t 66)⟩,
  ⟨(some 68), some (67, false), .fld 0 (.t 13)⟩,
  ⟨(some 69), some (67, false), .load none (.t 68)⟩,
  ⟨(some 70), some (67, false), .fld 1 (.t 6)⟩,
  ⟨(some 71), some (67, false), .load none (.t 70)⟩,
  ⟨(some 72), some (67, false), .bin .eql (.t 69) (.t 71)⟩,
  ⟨(some 73), some (67, false), .mv (.t 72)⟩,
  ⟨(some 74), some (73, true), .fld 1 (.t 13)⟩,
  ⟨(some 75), some (73, true), .load none (.t 74)⟩,
  ⟨(some 76), some (73, true), .fld 0 (.t 6)⟩,
  ⟨(some 77), some (73, true), .load none (.t 76)⟩,
  ⟨(some 78), some (73, true), .bin .eql (.t 75) (.t 77)⟩,
  ⟨(some 79), some (67, false), .pick (.t 73) (.t 78) (.v (.bool false))⟩,
  ⟨(some 80), none, .pick (.t 67) (.v (.bool true)) (.t 79)⟩,
  ⟨(some 11), none, .mv (.t 80)⟩]
theorem tr51_12 : (ro Tryd.f51 12).toList.mapM (trO Tryd.prog 99 (ro Tryd.f51 12)) = some a51_12 := by kernel_rfl
def a51_10 : List AO := [⟨(some 45), none, .mv (.t 12)⟩,
  ⟨(some 46), none, .bin .add (.t 45) (.v (.int .i64 1))⟩,
  ⟨(some 12), none, .mv (.t 46)⟩]
theorem tr51_10 : (ro Tryd.f51 10).toList.mapM (trO Tryd.prog 99 (ro Tryd.f51 10)) = some a51_10 := by kernel_rfl
def a51_13 : List AO := [⟨(some 81), none, .mv (.t 11)⟩]
theorem tr51_13 : (ro Tryd.f51 13).toList.mapM (trO Tryd.prog 99 (ro Tryd.f51 13)) = some a51_13 := by kernel_rfl
def a51_14 : List AO := [⟨(some 82), none, .mv (.t 5)⟩,
  ⟨(some 83), none, .slc 40 1 false [(.v (.int .i64 6))]⟩,
  ⟨(some 84), none, .app 40 1 8 (.t 82) (.t 83)⟩,
  ⟨(some 5), none, .mv (.t 84)⟩]
theorem tr51_14 : (ro Tryd.f51 14).toList.mapM (trO Tryd.prog 99 (ro Tryd.f51 14)) = some a51_14 := by kernel_rfl
def a51_15 : List AO := [⟨(some 85), none, .load (some 3) (.t 6)⟩,
  ⟨(some 86), none, .call 72 [(.t 85)]⟩,
  ⟨(some 87), none, .un .not (.t 86)⟩,
  ⟨(some 88), none, .mv (.t 87)⟩,
  ⟨(some 89), some (88, false), .fld 0 (.t 6)⟩,
  ⟨(some 90), some (88, false), .load none (.t 89)⟩,
  ⟨(some 91), some (88, false), .fld 1 (.t 6)⟩,
  ⟨(some 92), some (88, false), .load none (.t 91)⟩,
  ⟨(some 93), some (88, false), .bin .eql (.t 90) (.t 92)⟩,
  ⟨(some 94), none, .pick (.t 88) (.v (.bool true)) (.t 93)⟩]
theorem tr51_15 : (ro Tryd.f51 15).toList.mapM (trO Tryd.prog 99 (ro Tryd.f51 15)) = some a51_15 := by kernel_rfl
def a51_16 : List AO := [⟨(some 95), none, .mv (.t 5)⟩,
  ⟨(some 96), none, .slc 40 1 false [(.v (.int .i64 2))]⟩,
  ⟨(some 97), none, .app 40 1 8 (.t 95) (.t 96)⟩,
  ⟨(some 5), none, .mv (.t 97)⟩]
theorem tr51_16 : (ro Tryd.f51 16).toList.mapM (trO Tryd.prog 99 (ro Tryd.f51 16)) = some a51_16 := by kernel_rfl
def a51_17 : List AO := [⟨(some 98), none, .mv (.t 5)⟩,
  ⟨(some 4), none, .mv (.t 98)⟩]
theorem tr51_17 : (ro Tryd.f51 17).toList.mapM (trO Tryd.prog 99 (ro Tryd.f51 17)) = some a51_17 := by kernel_rfl
/-- slices.Index[[]string,string] -/
noncomputable def c52 : Code := .seq (.region 0 (ro Tryd.f52 0) false) (.seq (.seq (.region 1 (ro Tryd.f52 1) false) (.block 0 (.loop (.seq (.region 2 (ro Tryd.f52 2) false) (.seq (.cond (.tmp 9) (.skip) (.exit 0)) (.seq (.block 1 (.seq (.region 3 (ro Tryd.f52 3) false) (.seq (.region 4 (ro Tryd.f52 4) false) (.cond (.tmp 16) (.seq (.region 5 (ro Tryd.f52 5) false) (.ret)) (.skip))))) (.region 6 (ro Tryd.f52 6) false))))))) (.seq (.region 7 (ro Tryd.f52 7) false) (.ret)))
theorem body52 : Tryd.f52.body = some c52 := by kernel_rfl
theorem res52 : Tryd.f52.results.toList.mapM (trR Tryd.prog) = some [.t 4] := by kernel_rfl
theorem nt52 : Tryd.f52.ntmps = 19 := by kernel_rfl
theorem nm52 : (Tryd.f52.name == "runtime.NumGoroutine") = false := by kernel_rfl
def a52_0 : List AO := [⟨(some 4), none, .mv (.v (.int .i64 0))⟩]
theorem tr52_0 : (ro Tryd.f52 0).toList.mapM (trO Tryd.prog 19 (ro Tryd.f52 0)) = some a52_0 := by kernel_rfl
def a52_1 : List AO := [⟨(some 6), none, .mv (.t 0)⟩,
  ⟨(some 7), none, .len (.t 6)⟩,
  ⟨(some 8), none, .mv (.v (.int .i64 0))⟩]
theorem tr52_1 : (ro Tryd.f52 1).toList.mapM (trO Tryd.prog 19 (ro Tryd.f52 1)) = some a52_1 := by kernel_rfl
def a52_2 : List AO := [⟨(some 9), none, .bin .lss (.t 8) (.t 7)⟩]
theorem tr52_2 : (ro Tryd.f52 2).toList.mapM (trO Tryd.prog 19 (ro Tryd.f52 2)) = some a52_2 := by kernel_rfl
def a52_3 : List AO := [⟨(some 10), none, .mv (.t 8)⟩,
  ⟨(some 5), none, .mv (.t 10)⟩]
theorem tr52_3 : (ro Tryd.f52 3).toList.mapM (trO Tryd.prog 19 (ro Tryd.f52 3)) = some a52_3 := by kernel_rfl
def a52_4 : List AO := [⟨(some 11), none, .mv (.t 1)⟩,
  ⟨(some 12), none, .mv (.t 0)⟩,
  ⟨(some 13), none, .mv (.t 5)⟩,
  ⟨(some 14), none, .idx 1 (.t 12) (.t 13)⟩,
  ⟨(some 15), none, .load none (.t 14)⟩,
  ⟨(some 16), none, .bin .eql (.t 11) (.t 15)⟩]
theorem tr52_4 : (ro Tryd.f52 4).toList.mapM (trO Tryd.prog 19 (ro Tryd.f52 4)) = some a52_4 := by kernel_rfl
def a52_5 : List AO := [⟨(some 17), none, .mv (.t 5)⟩,
  ⟨(some 4), none, .mv (.t 17)⟩]
theorem tr52_5 : (ro Tryd.f52 5).toList.mapM (trO Tryd.prog 19 (ro Tryd.f52 5)) = some a52_5 := by kernel_rfl
def a52_6 : List AO := [⟨(some 18), none, .bin .add (.t 8) (.v (.int .i64 1))⟩,
  ⟨(some 8), none, .mv (.t 18)⟩]
theorem tr52_6 : (ro Tryd.f52 6).toList.mapM (trO Tryd.prog 19 (ro Tryd.f52 6)) = some a52_6 := by kernel_rfl
def a52_7 : List AO := [⟨(some 4), none, .mv (.v (.int .i64 (-1)))⟩]
theorem tr52_7 : (ro Tryd.f52 7).toList.mapM (trO Tryd.prog 19 (ro Tryd.f52 7)) = some a52_7 := by kernel_rfl
/-- airline/places.Find -/
noncomputable def c53 : Code := .seq (.region 0 (ro Tryd.f53 0) false) (.seq (.seq (.region 1 (ro Tryd.f53 1) false) (.block 0 (.loop (.seq (.region 2 (ro Tryd.f53 2) false) (.seq (.cond (.tmp 12) (.skip) (.exit 0)) (.seq (.block 1 (.seq (.region 3 (ro Tryd.f53 3) false) (.seq (.region 4 (ro Tryd.f53 4) false) (.cond (.tmp 18) (.seq (.region 5 (ro Tryd.f53 5) false) (.ret)) (.skip))))) (.region 6 (ro Tryd.f53 6) false))))))) (.seq (.region 7 (ro Tryd.f53 7) false) (.ret)))
theorem body53 : Tryd.f53.body = some c53 := by kernel_rfl
theorem res53 : Tryd.f53.results.toList.mapM (trR Tryd.prog) = some [.c (some 5) 4, .t 5] := by kernel_rfl
theorem nt53 : Tryd.f53.ntmps = 22 := by kernel_rfl
theorem nm53 : (Tryd.f53.name == "runtime.NumGoroutine") = false := by kernel_rfl
def a53_0 : List AO := [⟨(some 2), none, .box 31 (.t 0)⟩,
  ⟨(some 4), none, .alloc 81 [(.str []), (.str []), (.str []), (.int .i64 0), .nils]⟩,
  ⟨(some 5), none, .mv (.v (.bool false))⟩]
theorem tr53_0 : (ro Tryd.f53 0).toList.mapM (trO Tryd.prog 22 (ro Tryd.f53 0)) = some a53_0 := by kernel_rfl
def a53_1 : List AO := [⟨(some 8), none, .fld 0 (.t 2)⟩,
  ⟨(some 9), none, .load none (.t 8)⟩,
  ⟨(some 10), none, .len (.t 9)⟩,
  ⟨(some 11), none, .mv (.v (.int .i64 0))⟩]
theorem tr53_1 : (ro Tryd.f53 1).toList.mapM (trO Tryd.prog 22 (ro Tryd.f53 1)) = some a53_1 := by kernel_rfl
def a53_2 : List AO := [⟨(some 12), none, .bin .lss (.t 11) (.t 10)⟩]
theorem tr53_2 : (ro Tryd.f53 2).toList.mapM (trO Tryd.prog 22 (ro Tryd.f53 2)) = some a53_2 := by kernel_rfl
def a53_3 : List AO := [⟨(some 13), none, .idx 5 (.t 9) (.t 11)⟩,
  ⟨(some 14), none, .load (some 5) (.t 13)⟩,
  ⟨(some 7), none, .alloc 81 [(.str []), (.str []), (.str []), (.int .i64 0), .nils]⟩,
  ⟨none, none, .store 5 (.t 7) (.t 14)⟩]
theorem tr53_3 : (ro Tryd.f53 3).toList.mapM (trO Tryd.prog 22 (ro Tryd.f53 3)) = some a53_3 := by kernel_rfl
def a53_4 : List AO := [⟨(some 15), none, .fld 0 (.t 7)⟩,
  ⟨(some 16), none, .load none (.t 15)⟩,
  ⟨(some 17), none, .mv (.t 1)⟩,
  ⟨(some 18), none, .bin .eql (.t 16) (.t 17)⟩]
theorem tr53_4 : (ro Tryd.f53 4).toList.mapM (trO Tryd.prog 22 (ro Tryd.f53 4)) = some a53_4 := by kernel_rfl
def a53_5 : List AO := [⟨(some 19), none, .load (some 5) (.t 7)⟩,
  ⟨none, none, .store 5 (.t 4) (.t 19)⟩,
  ⟨(some 5), none, .mv (.v (.bool true))⟩]
theorem tr53_5 : (ro Tryd.f53 5).toList.mapM (trO Tryd.prog 22 (ro Tryd.f53 5)) = some a53_5 := by kernel_rfl
def a53_6 : List AO := [⟨(some 20), none, .bin .add (.t 11) (.v (.int .i64 1))⟩,
  ⟨(some 11), none, .mv (.t 20)⟩]
theorem tr53_6 : (ro Tryd.f53 6).toList.mapM (trO Tryd.prog 22 (ro Tryd.f53 6)) = some a53_6 := by kernel_rfl
def a53_7 : List AO := [⟨(some 21), none, .build [(.str []), (.str []), (.str []), (.int .i64 0), .nils] []⟩,
  ⟨none, none, .store 5 (.t 4) (.t 21)⟩,
  ⟨(some 5), none, .mv (.v (.bool false))⟩]
theorem tr53_7 : (ro Tryd.f53 7).toList.mapM (trO Tryd.prog 22 (ro Tryd.f53 7)) = some a53_7 := by kernel_rfl
end Go.Proofs.YtailckanpheciaaDoor
