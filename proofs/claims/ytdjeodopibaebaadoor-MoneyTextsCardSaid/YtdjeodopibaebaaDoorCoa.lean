/- The code of the functions, region by region, as abstract operations. -/
import Derived.Test.YtdjeodopibaebaaDoorProg
import Derived.Test.YtdjeodopibaebaaDoorAv21
namespace Go.Proofs.YtdjeodopibaebaaDoor
open Go Go.RowKit
def findR : Code → Nat → Option (Array Oper)
  | .region i ops _, k => if i = k then some ops else none
  | .seq a b, k => (findR a k).or (findR b k)
  | .cond _ a b, k => (findR a k).or (findR b k)
  | .block _ c, k => findR c k
  | .loop c, k => findR c k
  | .scope c, k => findR c k
  | _, _ => none
def ro (f : Func) (k : Nat) : Array Oper := ((f.body.bind fun c => findR c k).getD #[])
theorem mixed : Tryd.prog.follows .mixedOrders = true := by kernel_rfl
/-- airline/airlinelaw02.MoneySums -/
noncomputable def c3 : Code := .seq (.region 0 (ro Tryd.f3 0) false) (.seq (.seq (.region 1 (ro Tryd.f3 1) false) (.cond (.tmp 21) (.seq (.region 2 (ro Tryd.f3 2) false) (.ret)) (.skip))) (.seq (.region 3 (ro Tryd.f3 3) false) (.seq (.region 4 (ro Tryd.f3 4) false) (.seq (.region 5 (ro Tryd.f3 5) false) (.seq (.region 6 (ro Tryd.f3 6) false) (.seq (.region 7 (ro Tryd.f3 7) false) (.seq (.region 8 (ro Tryd.f3 8) false) (.seq (.region 9 (ro Tryd.f3 9) false) (.ret)))))))))
theorem body3 : Tryd.f3.body = some c3 := by kernel_rfl
theorem res3 : Tryd.f3.results.toList.mapM (trR Tryd.prog) = some [.t 6] := by kernel_rfl
theorem nt3 : Tryd.f3.ntmps = 88 := by kernel_rfl
theorem nm3 : (Tryd.f3.name == "runtime.NumGoroutine") = false := by kernel_rfl
def a3_0 : List AO := [⟨(some 6), none, .mv (.v (.bool false))⟩]
theorem tr3_0 : (ro Tryd.f3 0).toList.mapM (trO Tryd.prog 88 (ro Tryd.f3 0)) = some a3_0 := by kernel_rfl
def a3_1 : List AO := [⟨(some 19), none, .mv (.t 2)⟩,
  ⟨(some 20), none, .len (.t 19)⟩,
  ⟨(some 21), none, .bin .gtr (.t 20) (.v (.int .i64 2000))⟩]
theorem tr3_1 : (ro Tryd.f3 1).toList.mapM (trO Tryd.prog 88 (ro Tryd.f3 1)) = some a3_1 := by kernel_rfl
def a3_2 : List AO := [⟨(some 22), none, .call 9 []⟩,
  ⟨(some 6), none, .mv (.t 22)⟩]
theorem tr3_2 : (ro Tryd.f3 2).toList.mapM (trO Tryd.prog 88 (ro Tryd.f3 2)) = some a3_2 := by kernel_rfl
def a3_3 : List AO := [⟨(some 24), none, .mv (.t 0)⟩,
  ⟨(some 25), none, .mv (.t 1)⟩,
  ⟨(some 26), none, .call 10 [(.t 24), (.t 25)]⟩,
  ⟨(some 23), none, .mv (.t 26)⟩,
  ⟨(some 27), none, .ext 0 (.t 23)⟩,
  ⟨(some 28), none, .ext 1 (.t 23)⟩,
  ⟨(some 7), none, .mv (.t 27)⟩,
  ⟨(some 8), none, .mv (.t 28)⟩]
theorem tr3_3 : (ro Tryd.f3 3).toList.mapM (trO Tryd.prog 88 (ro Tryd.f3 3)) = some a3_3 := by kernel_rfl
def a3_4 : List AO := [⟨(some 30), none, .mv (.t 0)⟩,
  ⟨(some 31), none, .mv (.t 1)⟩,
  ⟨(some 32), none, .call 11 [(.t 30), (.t 31)]⟩,
  ⟨(some 29), none, .mv (.t 32)⟩,
  ⟨(some 33), none, .ext 0 (.t 29)⟩,
  ⟨(some 34), none, .ext 1 (.t 29)⟩,
  ⟨(some 9), none, .mv (.t 33)⟩,
  ⟨(some 10), none, .mv (.t 34)⟩]
theorem tr3_4 : (ro Tryd.f3 4).toList.mapM (trO Tryd.prog 88 (ro Tryd.f3 4)) = some a3_4 := by kernel_rfl
def a3_5 : List AO := [⟨(some 36), none, .mv (.t 0)⟩,
  ⟨(some 37), none, .mv (.t 1)⟩,
  ⟨(some 38), none, .call 12 [(.t 36), (.t 37)]⟩,
  ⟨(some 35), none, .mv (.t 38)⟩,
  ⟨(some 39), none, .ext 0 (.t 35)⟩,
  ⟨(some 40), none, .ext 1 (.t 35)⟩,
  ⟨(some 11), none, .mv (.t 39)⟩,
  ⟨(some 12), none, .mv (.t 40)⟩]
theorem tr3_5 : (ro Tryd.f3 5).toList.mapM (trO Tryd.prog 88 (ro Tryd.f3 5)) = some a3_5 := by kernel_rfl
def a3_6 : List AO := [⟨(some 42), none, .mv (.t 0)⟩,
  ⟨(some 43), none, .mv (.t 1)⟩,
  ⟨(some 44), none, .call 13 [(.t 42), (.t 43)]⟩,
  ⟨(some 41), none, .mv (.t 44)⟩,
  ⟨(some 45), none, .ext 0 (.t 41)⟩,
  ⟨(some 46), none, .ext 1 (.t 41)⟩,
  ⟨(some 13), none, .mv (.t 45)⟩,
  ⟨(some 14), none, .mv (.t 46)⟩]
theorem tr3_6 : (ro Tryd.f3 6).toList.mapM (trO Tryd.prog 88 (ro Tryd.f3 6)) = some a3_6 := by kernel_rfl
def a3_7 : List AO := [⟨(some 48), none, .mv (.t 2)⟩,
  ⟨(some 49), none, .call 14 [(.t 48)]⟩,
  ⟨(some 47), none, .mv (.t 49)⟩,
  ⟨(some 50), none, .ext 0 (.t 47)⟩,
  ⟨(some 51), none, .ext 1 (.t 47)⟩,
  ⟨(some 15), none, .mv (.t 50)⟩,
  ⟨(some 16), none, .mv (.t 51)⟩]
theorem tr3_7 : (ro Tryd.f3 7).toList.mapM (trO Tryd.prog 88 (ro Tryd.f3 7)) = some a3_7 := by kernel_rfl
def a3_8 : List AO := [⟨(some 53), none, .mv (.t 2)⟩,
  ⟨(some 54), none, .call 15 [(.t 53)]⟩,
  ⟨(some 52), none, .mv (.t 54)⟩,
  ⟨(some 55), none, .ext 0 (.t 52)⟩,
  ⟨(some 56), none, .ext 1 (.t 52)⟩,
  ⟨(some 17), none, .mv (.t 55)⟩,
  ⟨(some 18), none, .mv (.t 56)⟩]
theorem tr3_8 : (ro Tryd.f3 8).toList.mapM (trO Tryd.prog 88 (ro Tryd.f3 8)) = some a3_8 := by kernel_rfl
def a3_9 : List AO := [⟨(some 57), none, .mv (.t 7)⟩,
  ⟨(some 58), none, .mv (.t 9)⟩,
  ⟨(some 59), none, .bin .eql (.t 57) (.t 58)⟩,
  ⟨(some 60), none, .mv (.t 59)⟩,
  ⟨(some 61), some (60, true), .mv (.t 8)⟩,
  ⟨(some 62), some (60, true), .mv (.t 10)⟩,
  ⟨(some 63), some (60, true), .bin .eql (.t 61) (.t 62)⟩,
  ⟨(some 64), none, .pick (.t 60) (.t 63) (.v (.bool false))⟩,
  ⟨(some 65), none, .mv (.t 64)⟩,
  ⟨(some 66), some (65, true), .mv (.t 11)⟩,
  ⟨(some 67), some (65, true), .mv (.t 13)⟩,
  ⟨(some 68), some (65, true), .bin .eql (.t 66) (.t 67)⟩,
  ⟨(some 69), none, .pick (.t 65) (.t 68) (.v (.bool false))⟩,
  ⟨(some 70), none, .mv (.t 69)⟩,
  ⟨(some 71), some (70, true), .mv (.t 12)⟩,
  ⟨(some 72), some (70, true), .mv (.t 14)⟩,
  ⟨(some 73), some (70, true), .bin .eql (.t 71) (.t 72)⟩,
  ⟨(some 74), none, .pick (.t 70) (.t 73) (.v (.bool false))⟩,
  ⟨(some 75), none, .mv (.t 74)⟩,
  ⟨(some 76), some (75, true), .mv (.t 15)⟩,
  ⟨(some 77), some (75, true), .mv (.t 17)⟩,
  ⟨(some 78), some (75, true), .bin .eql (.t 76) (.t 77)⟩,
  ⟨(some 79), none, .pick (.t 75) (.t 78) (.v (.bool false))⟩,
  ⟨(some 80), none, .mv (.t 79)⟩,
  ⟨(some 81), some (80, true), .mv (.t 16)⟩,
  ⟨(some 82), some (80, true), .mv (.t 18)⟩,
  ⟨(some 83), some (80, true), .bin .eql (.t 81) (.t 82)⟩,
  ⟨(some 84), none, .pick (.t 80) (.t 83) (.v (.bool false))⟩,
  ⟨(some 85), none, .mv (.t 84)⟩,
  ⟨(some 86), some (85, true), .call 9 []⟩,
  ⟨(some 87), none, .pick (.t 85) (.t 86) (.v (.bool false))⟩,
  ⟨(some 6), none, .mv (.t 87)⟩]
theorem tr3_9 : (ro Tryd.f3 9).toList.mapM (trO Tryd.prog 88 (ro Tryd.f3 9)) = some a3_9 := by kernel_rfl
/-- airline/airlinelaw02.MoneyRounds -/
noncomputable def c4 : Code := .seq (.region 0 (ro Tryd.f4 0) false) (.seq (.region 1 (ro Tryd.f4 1) false) (.seq (.region 2 (ro Tryd.f4 2) false) (.seq (.region 3 (ro Tryd.f4 3) false) (.seq (.region 4 (ro Tryd.f4 4) false) (.seq (.region 5 (ro Tryd.f4 5) false) (.ret))))))
theorem body4 : Tryd.f4.body = some c4 := by kernel_rfl
theorem res4 : Tryd.f4.results.toList.mapM (trR Tryd.prog) = some [.t 4] := by kernel_rfl
theorem nt4 : Tryd.f4.ntmps = 58 := by kernel_rfl
theorem nm4 : (Tryd.f4.name == "runtime.NumGoroutine") = false := by kernel_rfl
def a4_0 : List AO := [⟨(some 4), none, .mv (.v (.bool false))⟩]
theorem tr4_0 : (ro Tryd.f4 0).toList.mapM (trO Tryd.prog 58 (ro Tryd.f4 0)) = some a4_0 := by kernel_rfl
def a4_1 : List AO := [⟨(some 14), none, .mv (.t 0)⟩,
  ⟨(some 15), none, .mv (.t 1)⟩,
  ⟨(some 16), none, .call 16 [(.t 14), (.t 15)]⟩,
  ⟨(some 13), none, .mv (.t 16)⟩,
  ⟨(some 17), none, .ext 0 (.t 13)⟩,
  ⟨(some 18), none, .ext 1 (.t 13)⟩,
  ⟨(some 5), none, .mv (.t 17)⟩,
  ⟨(some 6), none, .mv (.t 18)⟩]
theorem tr4_1 : (ro Tryd.f4 1).toList.mapM (trO Tryd.prog 58 (ro Tryd.f4 1)) = some a4_1 := by kernel_rfl
def a4_2 : List AO := [⟨(some 20), none, .mv (.t 0)⟩,
  ⟨(some 21), none, .mv (.t 1)⟩,
  ⟨(some 22), none, .call 17 [(.t 20), (.t 21)]⟩,
  ⟨(some 19), none, .mv (.t 22)⟩,
  ⟨(some 23), none, .ext 0 (.t 19)⟩,
  ⟨(some 24), none, .ext 1 (.t 19)⟩,
  ⟨(some 7), none, .mv (.t 23)⟩,
  ⟨(some 8), none, .mv (.t 24)⟩]
theorem tr4_2 : (ro Tryd.f4 2).toList.mapM (trO Tryd.prog 58 (ro Tryd.f4 2)) = some a4_2 := by kernel_rfl
def a4_3 : List AO := [⟨(some 26), none, .mv (.t 0)⟩,
  ⟨(some 27), none, .mv (.t 1)⟩,
  ⟨(some 28), none, .call 18 [(.t 26), (.t 27)]⟩,
  ⟨(some 25), none, .mv (.t 28)⟩,
  ⟨(some 29), none, .ext 0 (.t 25)⟩,
  ⟨(some 30), none, .ext 1 (.t 25)⟩,
  ⟨(some 9), none, .mv (.t 29)⟩,
  ⟨(some 10), none, .mv (.t 30)⟩]
theorem tr4_3 : (ro Tryd.f4 3).toList.mapM (trO Tryd.prog 58 (ro Tryd.f4 3)) = some a4_3 := by kernel_rfl
def a4_4 : List AO := [⟨(some 32), none, .mv (.t 0)⟩,
  ⟨(some 33), none, .mv (.t 1)⟩,
  ⟨(some 34), none, .call 19 [(.t 32), (.t 33)]⟩,
  ⟨(some 31), none, .mv (.t 34)⟩,
  ⟨(some 35), none, .ext 0 (.t 31)⟩,
  ⟨(some 36), none, .ext 1 (.t 31)⟩,
  ⟨(some 11), none, .mv (.t 35)⟩,
  ⟨(some 12), none, .mv (.t 36)⟩]
theorem tr4_4 : (ro Tryd.f4 4).toList.mapM (trO Tryd.prog 58 (ro Tryd.f4 4)) = some a4_4 := by kernel_rfl
def a4_5 : List AO := [⟨(some 37), none, .mv (.t 5)⟩,
  ⟨(some 38), none, .mv (.t 7)⟩,
  ⟨(some 39), none, .bin .eql (.t 37) (.t 38)⟩,
  ⟨(some 40), none, .mv (.t 39)⟩,
  ⟨(some 41), some (40, true), .mv (.t 6)⟩,
  ⟨(some 42), some (40, true), .mv (.t 8)⟩,
  ⟨(some 43), some (40, true), .bin .eql (.t 41) (.t 42)⟩,
  ⟨(some 44), none, .pick (.t 40) (.t 43) (.v (.bool false))⟩,
  ⟨(some 45), none, .mv (.t 44)⟩,
  ⟨(some 46), some (45, true), .mv (.t 9)⟩,
  ⟨(some 47), some (45, true), .mv (.t 11)⟩,
  ⟨(some 48), some (45, true), .bin .eql (.t 46) (.t 47)⟩,
  ⟨(some 49), none, .pick (.t 45) (.t 48) (.v (.bool false))⟩,
  ⟨(some 50), none, .mv (.t 49)⟩,
  ⟨(some 51), some (50, true), .mv (.t 10)⟩,
  ⟨(some 52), some (50, true), .mv (.t 12)⟩,
  ⟨(some 53), some (50, true), .bin .eql (.t 51) (.t 52)⟩,
  ⟨(some 54), none, .pick (.t 50) (.t 53) (.v (.bool false))⟩,
  ⟨(some 55), none, .mv (.t 54)⟩,
  ⟨(some 56), some (55, true), .call 9 []⟩,
  ⟨(some 57), none, .pick (.t 55) (.t 56) (.v (.bool false))⟩,
  ⟨(some 4), none, .mv (.t 57)⟩]
theorem tr4_5 : (ro Tryd.f4 5).toList.mapM (trO Tryd.prog 58 (ro Tryd.f4 5)) = some a4_5 := by kernel_rfl
/-- airline/airlinelaw02.MoneySplits -/
noncomputable def c5 : Code := .seq (.region 0 (ro Tryd.f5 0) false) (.seq (.seq (.region 1 (ro Tryd.f5 1) false) (.cond (.tmp 11) (.seq (.region 2 (ro Tryd.f5 2) false) (.ret)) (.skip))) (.seq (.region 3 (ro Tryd.f5 3) false) (.seq (.region 4 (ro Tryd.f5 4) false) (.seq (.region 5 (ro Tryd.f5 5) false) (.ret)))))
theorem body5 : Tryd.f5.body = some c5 := by kernel_rfl
theorem res5 : Tryd.f5.results.toList.mapM (trR Tryd.prog) = some [.t 4] := by kernel_rfl
theorem nt5 : Tryd.f5.ntmps = 36 := by kernel_rfl
theorem nm5 : (Tryd.f5.name == "runtime.NumGoroutine") = false := by kernel_rfl
def a5_0 : List AO := [⟨(some 4), none, .mv (.v (.bool false))⟩]
theorem tr5_0 : (ro Tryd.f5 0).toList.mapM (trO Tryd.prog 36 (ro Tryd.f5 0)) = some a5_0 := by kernel_rfl
def a5_1 : List AO := [⟨(some 9), none, .mv (.t 1)⟩,
  ⟨(some 10), none, .len (.t 9)⟩,
  ⟨(some 11), none, .bin .gtr (.t 10) (.v (.int .i64 100))⟩]
theorem tr5_1 : (ro Tryd.f5 1).toList.mapM (trO Tryd.prog 36 (ro Tryd.f5 1)) = some a5_1 := by kernel_rfl
def a5_2 : List AO := [⟨(some 12), none, .call 9 []⟩,
  ⟨(some 4), none, .mv (.t 12)⟩]
theorem tr5_2 : (ro Tryd.f5 2).toList.mapM (trO Tryd.prog 36 (ro Tryd.f5 2)) = some a5_2 := by kernel_rfl
def a5_3 : List AO := [⟨(some 14), none, .mv (.t 0)⟩,
  ⟨(some 15), none, .mv (.t 1)⟩,
  ⟨(some 16), none, .call 20 [(.t 14), (.t 15)]⟩,
  ⟨(some 13), none, .mv (.t 16)⟩,
  ⟨(some 17), none, .ext 0 (.t 13)⟩,
  ⟨(some 18), none, .ext 1 (.t 13)⟩,
  ⟨(some 5), none, .mv (.t 17)⟩,
  ⟨(some 6), none, .mv (.t 18)⟩]
theorem tr5_3 : (ro Tryd.f5 3).toList.mapM (trO Tryd.prog 36 (ro Tryd.f5 3)) = some a5_3 := by kernel_rfl
def a5_4 : List AO := [⟨(some 20), none, .mv (.t 0)⟩,
  ⟨(some 21), none, .mv (.t 1)⟩,
  ⟨(some 22), none, .call 21 [(.t 20), (.t 21)]⟩,
  ⟨(some 19), none, .mv (.t 22)⟩,
  ⟨(some 23), none, .ext 0 (.t 19)⟩,
  ⟨(some 24), none, .ext 1 (.t 19)⟩,
  ⟨(some 7), none, .mv (.t 23)⟩,
  ⟨(some 8), none, .mv (.t 24)⟩]
theorem tr5_4 : (ro Tryd.f5 4).toList.mapM (trO Tryd.prog 36 (ro Tryd.f5 4)) = some a5_4 := by kernel_rfl
def a5_5 : List AO := [⟨(some 25), none, .mv (.t 5)⟩,
  ⟨(some 26), none, .mv (.t 7)⟩,
  ⟨(some 27), none, .call 22 [(.t 25), (.t 26)]⟩,
  ⟨(some 28), none, .mv (.t 27)⟩,
  ⟨(some 29), some (28, true), .mv (.t 6)⟩,
  ⟨(some 30), some (28, true), .mv (.t 8)⟩,
  ⟨(some 31), some (28, true), .bin .eql (.t 29) (.t 30)⟩,
  ⟨(some 32), none, .pick (.t 28) (.t 31) (.v (.bool false))⟩,
  ⟨(some 33), none, .mv (.t 32)⟩,
  ⟨(some 34), some (33, true), .call 9 []⟩,
  ⟨(some 35), none, .pick (.t 33) (.t 34) (.v (.bool false))⟩,
  ⟨(some 4), none, .mv (.t 35)⟩]
theorem tr5_5 : (ro Tryd.f5 5).toList.mapM (trO Tryd.prog 36 (ro Tryd.f5 5)) = some a5_5 := by kernel_rfl
/-- airline/airlinelaw02.MoneyTexts -/
noncomputable def c6 : Code := .seq (.region 0 (ro Tryd.f6 0) false) (.seq (.seq (.region 1 (ro Tryd.f6 1) false) (.cond (.tmp 13) (.seq (.region 2 (ro Tryd.f6 2) false) (.ret)) (.skip))) (.seq (.region 3 (ro Tryd.f6 3) false) (.seq (.region 4 (ro Tryd.f6 4) false) (.seq (.region 5 (ro Tryd.f6 5) false) (.seq (.seq (.region 6 (ro Tryd.f6 6) false) (.cond (.tmp 52) (.seq (.region 7 (ro Tryd.f6 7) false) (.ret)) (.skip))) (.seq (.region 8 (ro Tryd.f6 8) false) (.ret)))))))
theorem body6 : Tryd.f6.body = some c6 := by kernel_rfl
theorem res6 : Tryd.f6.results.toList.mapM (trR Tryd.prog) = some [.t 4] := by kernel_rfl
theorem nt6 : Tryd.f6.ntmps = 71 := by kernel_rfl
theorem nm6 : (Tryd.f6.name == "runtime.NumGoroutine") = false := by kernel_rfl
def a6_0 : List AO := [⟨(some 4), none, .mv (.v (.bool false))⟩]
theorem tr6_0 : (ro Tryd.f6 0).toList.mapM (trO Tryd.prog 71 (ro Tryd.f6 0)) = some a6_0 := by kernel_rfl
def a6_1 : List AO := [⟨(some 11), none, .mv (.t 1)⟩,
  ⟨(some 12), none, .slen (.t 11)⟩,
  ⟨(some 13), none, .bin .gtr (.t 12) (.v (.int .i64 4000))⟩]
theorem tr6_1 : (ro Tryd.f6 1).toList.mapM (trO Tryd.prog 71 (ro Tryd.f6 1)) = some a6_1 := by kernel_rfl
def a6_2 : List AO := [⟨(some 14), none, .call 9 []⟩,
  ⟨(some 4), none, .mv (.t 14)⟩]
theorem tr6_2 : (ro Tryd.f6 2).toList.mapM (trO Tryd.prog 71 (ro Tryd.f6 2)) = some a6_2 := by kernel_rfl
def a6_3 : List AO := [⟨(some 16), none, .mv (.t 1)⟩,
  ⟨(some 17), none, .call 23 [(.t 16)]⟩,
  ⟨(some 15), none, .mv (.t 17)⟩,
  ⟨(some 18), none, .ext 0 (.t 15)⟩,
  ⟨(some 19), none, .ext 1 (.t 15)⟩,
  ⟨(some 5), none, .mv (.t 18)⟩,
  ⟨(some 6), none, .mv (.t 19)⟩]
theorem tr6_3 : (ro Tryd.f6 3).toList.mapM (trO Tryd.prog 71 (ro Tryd.f6 3)) = some a6_3 := by kernel_rfl
def a6_4 : List AO := [⟨(some 21), none, .mv (.t 1)⟩,
  ⟨(some 22), none, .call 24 [(.t 21)]⟩,
  ⟨(some 20), none, .mv (.t 22)⟩,
  ⟨(some 23), none, .ext 0 (.t 20)⟩,
  ⟨(some 24), none, .ext 1 (.t 20)⟩,
  ⟨(some 7), none, .mv (.t 23)⟩,
  ⟨(some 8), none, .mv (.t 24)⟩]
theorem tr6_4 : (ro Tryd.f6 4).toList.mapM (trO Tryd.prog 71 (ro Tryd.f6 4)) = some a6_4 := by kernel_rfl
def a6_5 : List AO := [⟨(some 26), none, .mv (.t 0)⟩,
  ⟨(some 27), none, .call 25 [(.t 26)]⟩,
  ⟨(some 28), none, .call 23 [(.t 27)]⟩,
  ⟨(some 25), none, .mv (.t 28)⟩,
  ⟨(some 29), none, .ext 0 (.t 25)⟩,
  ⟨(some 30), none, .ext 1 (.t 25)⟩,
  ⟨(some 9), none, .mv (.t 29)⟩,
  ⟨(some 10), none, .mv (.t 30)⟩]
theorem tr6_5 : (ro Tryd.f6 5).toList.mapM (trO Tryd.prog 71 (ro Tryd.f6 5)) = some a6_5 := by kernel_rfl
def a6_6 : List AO := [⟨(some 31), none, .mv (.t 0)⟩,
  ⟨(some 32), none, .call 26 [(.t 31)]⟩,
  ⟨(some 33), none, .mv (.t 10)⟩,
  ⟨(some 34), none, .bin .eql (.t 33) (.v (.int .i64 0))⟩,
  ⟨(some 35), none, .binb .neq (.t 32) (.t 34)⟩,
  ⟨(some 36), none, .mv (.t 35)⟩,
  ⟨(some 37), some (36, false), .mv (.t 10)⟩,
  ⟨(some 38), some (36, false), .bin .eql (.t 37) (.v (.int .i64 0))⟩,
  ⟨(some 39), some (36, false), .mv (.t 38)⟩,
  ⟨(some 40), some (39, true), .mv (.t 9)⟩,
  ⟨(some 41), some (39, true), .mv (.t 0)⟩,
  ⟨(some 42), some (39, true), .bin .neq (.t 40) (.t 41)⟩,
  ⟨(some 43), some (36, false), .pick (.t 39) (.t 42) (.v (.bool false))⟩,
  ⟨(some 44), none, .pick (.t 36) (.v (.bool true)) (.t 43)⟩,
  ⟨(some 45), none, .mv (.t 44)⟩,
  ⟨(some 46), some (45, false), .mv (.t 10)⟩,
  ⟨(some 47), some (45, false), .bin .neq (.t 46) (.v (.int .i64 0))⟩,
  ⟨(some 48), some (45, false), .mv (.t 47)⟩,
  ⟨(some 49), some (48, true), .mv (.t 10)⟩,
  ⟨(some 50), some (48, true), .bin .neq (.t 49) (.v (.int .i64 11))⟩,
  ⟨(some 51), some (45, false), .pick (.t 48) (.t 50) (.v (.bool false))⟩,
  ⟨(some 52), none, .pick (.t 45) (.v (.bool true)) (.t 51)⟩]
theorem tr6_6 : (ro Tryd.f6 6).toList.mapM (trO Tryd.prog 71 (ro Tryd.f6 6)) = some a6_6 := by kernel_rfl
def a6_7 : List AO := [⟨(some 4), none, .mv (.v (.bool false))⟩]
theorem tr6_7 : (ro Tryd.f6 7).toList.mapM (trO Tryd.prog 71 (ro Tryd.f6 7)) = some a6_7 := by kernel_rfl
def a6_8 : List AO := [⟨(some 53), none, .mv (.t 5)⟩,
  ⟨(some 54), none, .mv (.t 7)⟩,
  ⟨(some 55), none, .bin .eql (.t 53) (.t 54)⟩,
  ⟨(some 56), none, .mv (.t 55)⟩,
  ⟨(some 57), some (56, true), .mv (.t 6)⟩,
  ⟨(some 58), some (56, true), .mv (.t 8)⟩,
  ⟨(some 59), some (56, true), .bin .eql (.t 57) (.t 58)⟩,
  ⟨(some 60), none, .pick (.t 56) (.t 59) (.v (.bool false))⟩,
  ⟨(some 61), none, .mv (.t 60)⟩,
  ⟨(some 62), some (61, true), .mv (.t 0)⟩,
  ⟨(some 63), some (61, true), .call 25 [(.t 62)]⟩,
  ⟨(some 64), some (61, true), .mv (.t 0)⟩,
  ⟨(some 65), some (61, true), .call 27 [(.t 64)]⟩,
  ⟨(some 66), some (61, true), .bin .eql (.t 63) (.t 65)⟩,
  ⟨(some 67), none, .pick (.t 61) (.t 66) (.v (.bool false))⟩,
  ⟨(some 68), none, .mv (.t 67)⟩,
  ⟨(some 69), some (68, true), .call 9 []⟩,
  ⟨(some 70), none, .pick (.t 68) (.t 69) (.v (.bool false))⟩,
  ⟨(some 4), none, .mv (.t 70)⟩]
theorem tr6_8 : (ro Tryd.f6 8).toList.mapM (trO Tryd.prog 71 (ro Tryd.f6 8)) = some a6_8 := by kernel_rfl
/-- airline/airlinelaw02.MoneyShares -/
noncomputable def c7 : Code := .seq (.region 0 (ro Tryd.f7 0) false) (.seq (.seq (.region 1 (ro Tryd.f7 1) false) (.cond (.tmp 15) (.seq (.region 2 (ro Tryd.f7 2) false) (.ret)) (.skip))) (.seq (.region 3 (ro Tryd.f7 3) false) (.seq (.seq (.region 4 (ro Tryd.f7 4) false) (.cond (.tmp 24) (.seq (.region 5 (ro Tryd.f7 5) false) (.ret)) (.skip))) (.seq (.region 6 (ro Tryd.f7 6) false) (.seq (.seq (.region 7 (ro Tryd.f7 7) false) (.block 0 (.loop (.seq (.seq (.region 8 (ro Tryd.f7 8) false) (.cond (.tmp 34) (.skip) (.exit 0))) (.seq (.block 1 (.seq (.region 10 (ro Tryd.f7 10) false) (.seq (.seq (.region 11 (ro Tryd.f7 11) false) (.cond (.tmp 76) (.seq (.region 12 (ro Tryd.f7 12) false) (.ret)) (.skip))) (.seq (.region 13 (ro Tryd.f7 13) false) (.block 2 (.loop (.seq (.seq (.region 14 (ro Tryd.f7 14) false) (.cond (.tmp 79) (.skip) (.exit 2))) (.seq (.block 3 (.seq (.region 16 (ro Tryd.f7 16) true) (.cond (.tmp 105) (.seq (.region 17 (ro Tryd.f7 17) false) (.ret)) (.skip)))) (.region 15 (ro Tryd.f7 15) false))))))))) (.region 9 (ro Tryd.f7 9) false)))))) (.seq (.region 18 (ro Tryd.f7 18) false) (.seq (.seq (.region 19 (ro Tryd.f7 19) false) (.block 4 (.loop (.seq (.seq (.region 20 (ro Tryd.f7 20) false) (.cond (.tmp 122) (.skip) (.exit 4))) (.seq (.block 5 (.seq (.region 22 (ro Tryd.f7 22) true) (.cond (.tmp 134) (.seq (.region 23 (ro Tryd.f7 23) false) (.ret)) (.skip)))) (.region 21 (ro Tryd.f7 21) false)))))) (.seq (.region 24 (ro Tryd.f7 24) false) (.ret)))))))))
theorem body7 : Tryd.f7.body = some c7 := by kernel_rfl
theorem res7 : Tryd.f7.results.toList.mapM (trR Tryd.prog) = some [.t 4] := by kernel_rfl
theorem nt7 : Tryd.f7.ntmps = 159 := by kernel_rfl
theorem nm7 : (Tryd.f7.name == "runtime.NumGoroutine") = false := by kernel_rfl
def a7_0 : List AO := [⟨(some 4), none, .mv (.v (.bool false))⟩]
theorem tr7_0 : (ro Tryd.f7 0).toList.mapM (trO Tryd.prog 159 (ro Tryd.f7 0)) = some a7_0 := by kernel_rfl
def a7_1 : List AO := [⟨(some 13), none, .mv (.t 1)⟩,
  ⟨(some 14), none, .len (.t 13)⟩,
  ⟨(some 15), none, .bin .gtr (.t 14) (.v (.int .i64 100))⟩]
theorem tr7_1 : (ro Tryd.f7 1).toList.mapM (trO Tryd.prog 159 (ro Tryd.f7 1)) = some a7_1 := by kernel_rfl
def a7_2 : List AO := [⟨(some 16), none, .call 9 []⟩,
  ⟨(some 4), none, .mv (.t 16)⟩]
theorem tr7_2 : (ro Tryd.f7 2).toList.mapM (trO Tryd.prog 159 (ro Tryd.f7 2)) = some a7_2 := by kernel_rfl
def a7_3 : List AO := [⟨(some 18), none, .mv (.t 0)⟩,
  ⟨(some 19), none, .mv (.t 1)⟩,
  ⟨(some 20), none, .call 20 [(.t 18), (.t 19)]⟩,
  ⟨(some 17), none, .mv (.t 20)⟩,
  ⟨(some 21), none, .ext 0 (.t 17)⟩,
  ⟨(some 22), none, .ext 1 (.t 17)⟩,
  ⟨(some 5), none, .mv (.t 21)⟩,
  ⟨(some 6), none, .mv (.t 22)⟩]
theorem tr7_3 : (ro Tryd.f7 3).toList.mapM (trO Tryd.prog 159 (ro Tryd.f7 3)) = some a7_3 := by kernel_rfl
def a7_4 : List AO := [⟨(some 23), none, .mv (.t 6)⟩,
  ⟨(some 24), none, .bin .neq (.t 23) (.v (.int .i64 0))⟩]
theorem tr7_4 : (ro Tryd.f7 4).toList.mapM (trO Tryd.prog 159 (ro Tryd.f7 4)) = some a7_4 := by kernel_rfl
def a7_5 : List AO := [⟨(some 25), none, .mv (.t 5)⟩,
  ⟨(some 26), none, .len (.t 25)⟩,
  ⟨(some 27), none, .bin .eql (.t 26) (.v (.int .i64 0))⟩,
  ⟨(some 28), none, .mv (.t 27)⟩,
  ⟨(some 29), some (28, true), .call 9 []⟩,
  ⟨(some 30), none, .pick (.t 28) (.t 29) (.v (.bool false))⟩,
  ⟨(some 4), none, .mv (.t 30)⟩]
theorem tr7_5 : (ro Tryd.f7 5).toList.mapM (trO Tryd.prog 159 (ro Tryd.f7 5)) = some a7_5 := by kernel_rfl
def a7_6 : List AO := [⟨(some 7), none, .mv (.v (.int .i64 0))⟩]
theorem tr7_6 : (ro Tryd.f7 6).toList.mapM (trO Tryd.prog 159 (ro Tryd.f7 6)) = some a7_6 := by kernel_rfl
def a7_7 : List AO := [⟨(some 8), none, .mv (.v (.int .i64 0))⟩]
theorem tr7_7 : (ro Tryd.f7 7).toList.mapM (trO Tryd.prog 159 (ro Tryd.f7 7)) = some a7_7 := by kernel_rfl
def a7_8 : List AO := [⟨(some 31), none, .mv (.t 8)⟩,
  ⟨(some 32), none, .mv (.t 5)⟩,
  ⟨(some 33), none, .len (.t 32)⟩,
  ⟨(some 34), none, .bin .lss (.t 31) (.t 33)⟩]
theorem tr7_8 : (ro Tryd.f7 8).toList.mapM (trO Tryd.prog 159 (ro Tryd.f7 8)) = some a7_8 := by kernel_rfl
def a7_10 : List AO := [⟨(some 37), none, .mv (.t 7)⟩,
  ⟨(some 38), none, .mv (.t 5)⟩,
  ⟨(some 39), none, .mv (.t 8)⟩,
  ⟨(some 40), none, .idx 1 (.t 38) (.t 39)⟩,
  ⟨(some 41), none, .load none (.t 40)⟩,
  ⟨(some 42), none, .bin .add (.t 37) (.t 41)⟩,
  ⟨(some 7), none, .mv (.t 42)⟩]
theorem tr7_10 : (ro Tryd.f7 10).toList.mapM (trO Tryd.prog 159 (ro Tryd.f7 10)) = some a7_10 := by kernel_rfl
def a7_11 : List AO := [⟨(some 43), none, .mv (.t 5)⟩,
  ⟨(some 44), none, .mv (.t 8)⟩,
  ⟨(some 45), none, .idx 1 (.t 43) (.t 44)⟩,
  ⟨(some 46), none, .load none (.t 45)⟩,
  ⟨(some 47), none, .bin .gtr (.t 46) (.v (.int .i64 0))⟩,
  ⟨(some 48), none, .mv (.t 47)⟩,
  ⟨(some 49), some (48, true), .mv (.t 0)⟩,
  ⟨(some 50), some (48, true), .bin .lss (.t 49) (.v (.int .i64 0))⟩,
  ⟨(some 51), none, .pick (.t 48) (.t 50) (.v (.bool false))⟩,
  ⟨(some 52), none, .mv (.t 51)⟩,
  ⟨(some 53), some (52, false), .mv (.t 5)⟩,
  ⟨(some 54), some (52, false), .mv (.t 8)⟩,
  ⟨(some 55), some (52, false), .idx 1 (.t 53) (.t 54)⟩,
  ⟨(some 56), some (52, false), .load none (.t 55)⟩,
  ⟨(some 57), some (52, false), .bin .lss (.t 56) (.v (.int .i64 0))⟩,
  ⟨(some 58), some (52, false), .mv (.t 57)⟩,
  ⟨(some 59), some (58, true), .mv (.t 0)⟩,
  ⟨(some 60), some (58, true), .bin .gtr (.t 59) (.v (.int .i64 0))⟩,
  ⟨(some 61), some (52, false), .pick (.t 58) (.t 60) (.v (.bool false))⟩,
  ⟨(some 62), none, .pick (.t 52) (.v (.bool true)) (.t 61)⟩,
  ⟨(some 63), none, .mv (.t 62)⟩,
  ⟨(some 64), some (63, false), .mv (.t 5)⟩,
  ⟨(some 65), some (63, false), .mv (.t 8)⟩,
  ⟨(some 66), some (63, false), .idx 1 (.t 64) (.t 65)⟩,
  ⟨(some 67), some (63, false), .load none (.t 66)⟩,
  ⟨(some 68), some (63, false), .bin .neq (.t 67) (.v (.int .i64 0))⟩,
  ⟨(some 69), some (63, false), .mv (.t 68)⟩,
  ⟨(some 70), some (69, true), .mv (.t 1)⟩,
  ⟨(some 71), some (69, true), .mv (.t 8)⟩,
  ⟨(some 72), some (69, true), .idx 1 (.t 70) (.t 71)⟩,
  ⟨(some 73), some (69, true), .load none (.t 72)⟩,
  ⟨(some 74), some (69, true), .bin .eql (.t 73) (.v (.int .i64 0))⟩,
  ⟨(some 75), some (63, false), .pick (.t 69) (.t 74) (.v (.bool false))⟩,
  ⟨(some 76), none, .pick (.t 63) (.v (.bool true)) (.t 75)⟩]
theorem tr7_11 : (ro Tryd.f7 11).toList.mapM (trO Tryd.prog 159 (ro Tryd.f7 11)) = some a7_11 := by kernel_rfl
def a7_12 : List AO := [⟨(some 4), none, .mv (.v (.bool false))⟩]
theorem tr7_12 : (ro Tryd.f7 12).toList.mapM (trO Tryd.prog 159 (ro Tryd.f7 12)) = some a7_12 := by kernel_rfl
def a7_13 : List AO := [⟨(some 9), none, .mv (.v (.int .i64 0))⟩]
theorem tr7_13 : (ro Tryd.f7 13).toList.mapM (trO Tryd.prog 159 (ro Tryd.f7 13)) = some a7_13 := by kernel_rfl
def a7_14 : List AO := [⟨(some 77), none, .mv (.t 9)⟩,
  ⟨(some 78), none, .mv (.t 8)⟩,
  ⟨(some 79), none, .bin .lss (.t 77) (.t 78)⟩]
theorem tr7_14 : (ro Tryd.f7 14).toList.mapM (trO Tryd.prog 159 (ro Tryd.f7 14)) = some a7_14 := by kernel_rfl
def a7_16 : List AO := [⟨(some 82), none, .mv (.t 0)⟩,
  ⟨(some 83), none, .bin .gtr (.t 82) (.v (.int .i64 0))⟩,
  ⟨(some 84), none, .mv (.t 83)⟩,
  ⟨(some 85), some (84, true), .mv (.t 1)⟩,
  ⟨(some 86), some (84, true), .mv (.t 8)⟩,
  ⟨(some 87), some (84, true), .idx 1 (.t 85) (.t 86)⟩,
  ⟨(some 88), some (84, true), .load none (.t 87)⟩,
  ⟨(some 89), some (84, true), .mv (.t 1)⟩,
  ⟨(some 90), some (84, true), .mv (.t 9)⟩,
  ⟨(some 91), some (84, true), .idx 1 (.t 89) (.t 90)⟩,
  ⟨(some 92), some (84, true), .load none (.t 91)⟩,
  ⟨(some 93), some (84, true), .bin .gtr (.t 88) (.t 92)⟩,
  ⟨(some 94), none, .pick (.t 84) (.t 93) (.v (.bool false))⟩,
  ⟨(some 95), none, .mv (.t 94)⟩,
  ⟨(some 96), some (95, true), .mv (.t 5)⟩,
  ⟨(some 97), some (95, true), .mv (.t 8)⟩,
  ⟨(some 98), some (95, true), .idx 1 (.t 96) (.t 97)⟩,
  ⟨(some 99), some (95, true), .load none (.t 98)⟩,
  ⟨(some 100), some (95, true), .mv (.t 5)⟩,
  ⟨(some 101), some (95, true), .mv (.t 9)⟩,
  ⟨(some 102), some (95, true), .idx 1 (.t 100) (.t 101)⟩,
  ⟨(some 103), some (95, true), .load none (.t 102)⟩,
  ⟨(some 104), some (95, true), .bin .lss (.t 99) (.t 103)⟩,
  ⟨(some 105), none, .pick (.t 95) (.t 104) (.v (.bool false))⟩]
theorem tr7_16 : (ro Tryd.f7 16).toList.mapM (trO Tryd.prog 159 (ro Tryd.f7 16)) = some a7_16 := by kernel_rfl
def d7_16 : List (List Nat) := [[], [0], [0, 1], [0, 1, 2], [0, 1, 2], [0, 1, 2, 3, 4], [0, 1, 2, 3, 4, 5], [0, 1, 2], [0, 1, 2], [0, 1, 2, 7, 8], [0, 1, 2, 7, 8, 9], [0, 1, 2, 3, 4, 5, 6, 7, 8, 9, 10], [0, 1, 2, 3, 4, 5, 6, 7, 8, 9, 10, 11], [0, 1, 2, 3, 4, 5, 6, 7, 8, 9, 10, 11, 12], [0, 1, 2, 3, 4, 5, 6, 7, 8, 9, 10, 11, 12, 13], [0, 1, 2, 3, 4, 5, 6, 7, 8, 9, 10, 11, 12, 13], [0, 1, 2, 3, 4, 5, 6, 7, 8, 9, 10, 11, 12, 13, 14, 15], [0, 1, 2, 3, 4, 5, 6, 7, 8, 9, 10, 11, 12, 13, 14, 15, 16], [0, 1, 2, 3, 4, 5, 6, 7, 8, 9, 10, 11, 12, 13], [0, 1, 2, 3, 4, 5, 6, 7, 8, 9, 10, 11, 12, 13], [0, 1, 2, 3, 4, 5, 6, 7, 8, 9, 10, 11, 12, 13, 18, 19], [0, 1, 2, 3, 4, 5, 6, 7, 8, 9, 10, 11, 12, 13, 18, 19, 20], [0, 1, 2, 3, 4, 5, 6, 7, 8, 9, 10, 11, 12, 13, 14, 15, 16, 17, 18, 19, 20, 21], [0, 1, 2, 3, 4, 5, 6, 7, 8, 9, 10, 11, 12, 13, 14, 15, 16, 17, 18, 19, 20, 21, 22]]
theorem ok7_16 : okReg (ro Tryd.f7 16) a7_16 d7_16 = true := by kernel_rfl
def a7_17 : List AO := [⟨(some 4), none, .mv (.v (.bool false))⟩]
theorem tr7_17 : (ro Tryd.f7 17).toList.mapM (trO Tryd.prog 159 (ro Tryd.f7 17)) = some a7_17 := by kernel_rfl
def a7_15 : List AO := [⟨(some 80), none, .mv (.t 9)⟩,
  ⟨(some 81), none, .bin .add (.t 80) (.v (.int .i64 1))⟩,
  ⟨(some 9), none, .mv (.t 81)⟩]
theorem tr7_15 : (ro Tryd.f7 15).toList.mapM (trO Tryd.prog 159 (ro Tryd.f7 15)) = some a7_15 := by kernel_rfl
def a7_9 : List AO := [⟨(some 35), none, .mv (.t 8)⟩,
  ⟨(some 36), none, .bin .add (.t 35) (.v (.int .i64 1))⟩,
  ⟨(some 8), none, .mv (.t 36)⟩]
theorem tr7_9 : (ro Tryd.f7 9).toList.mapM (trO Tryd.prog 159 (ro Tryd.f7 9)) = some a7_9 := by kernel_rfl
def a7_18 : List AO := [⟨(some 107), none, .mv (.t 0)⟩,
  ⟨(some 108), none, .un .neg (.t 107)⟩,
  ⟨(some 109), none, .mv (.t 1)⟩,
  ⟨(some 110), none, .call 20 [(.t 108), (.t 109)]⟩,
  ⟨(some 106), none, .mv (.t 110)⟩,
  ⟨(some 111), none, .ext 0 (.t 106)⟩,
  ⟨(some 112), none, .ext 1 (.t 106)⟩,
  ⟨(some 10), none, .mv (.t 111)⟩,
  ⟨(some 11), none, .mv (.t 112)⟩]
theorem tr7_18 : (ro Tryd.f7 18).toList.mapM (trO Tryd.prog 159 (ro Tryd.f7 18)) = some a7_18 := by kernel_rfl
def a7_19 : List AO := [⟨(some 12), none, .mv (.v (.int .i64 0))⟩]
theorem tr7_19 : (ro Tryd.f7 19).toList.mapM (trO Tryd.prog 159 (ro Tryd.f7 19)) = some a7_19 := by kernel_rfl
def a7_20 : List AO := [⟨(some 113), none, .mv (.t 12)⟩,
  ⟨(some 114), none, .mv (.t 5)⟩,
  ⟨(some 115), none, .len (.t 114)⟩,
  ⟨(some 116), none, .bin .lss (.t 113) (.t 115)⟩,
  ⟨(some 117), none, .mv (.t 116)⟩,
  ⟨(some 118), some (117, true), .mv (.t 12)⟩,
  ⟨(some 119), some (117, true), .mv (.t 10)⟩,
  ⟨(some 120), some (117, true), .len (.t 119)⟩,
  ⟨(some 121), some (117, true), .bin .lss (.t 118) (.t 120)⟩,
  ⟨(some 122), none, .pick (.t 117) (.t 121) (.v (.bool false))⟩]
theorem tr7_20 : (ro Tryd.f7 20).toList.mapM (trO Tryd.prog 159 (ro Tryd.f7 20)) = some a7_20 := by kernel_rfl
def a7_22 : List AO := [⟨(some 125), none, .mv (.t 5)⟩,
  ⟨(some 126), none, .mv (.t 12)⟩,
  ⟨(some 127), none, .idx 1 (.t 125) (.t 126)⟩,
  ⟨(some 128), none, .load none (.t 127)⟩,
  ⟨(some 129), none, .mv (.t 10)⟩,
  ⟨(some 130), none, .mv (.t 12)⟩,
  ⟨(some 131), none, .idx 1 (.t 129) (.t 130)⟩,
  ⟨(some 132), none, .load none (.t 131)⟩,
  ⟨(some 133), none, .un .neg (.t 132)⟩,
  ⟨(some 134), none, .bin .neq (.t 128) (.t 133)⟩]
theorem tr7_22 : (ro Tryd.f7 22).toList.mapM (trO Tryd.prog 159 (ro Tryd.f7 22)) = some a7_22 := by kernel_rfl
def d7_22 : List (List Nat) := [[], [], [0, 1], [0, 1, 2], [], [], [4, 5], [4, 5, 6], [4, 5, 6, 7], [0, 1, 2, 3, 4, 5, 6, 7, 8]]
theorem ok7_22 : okReg (ro Tryd.f7 22) a7_22 d7_22 = true := by kernel_rfl
def a7_23 : List AO := [⟨(some 4), none, .mv (.v (.bool false))⟩]
theorem tr7_23 : (ro Tryd.f7 23).toList.mapM (trO Tryd.prog 159 (ro Tryd.f7 23)) = some a7_23 := by kernel_rfl
def a7_21 : List AO := [⟨(some 123), none, .mv (.t 12)⟩,
  ⟨(some 124), none, .bin .add (.t 123) (.v (.int .i64 1))⟩,
  ⟨(some 12), none, .mv (.t 124)⟩]
theorem tr7_21 : (ro Tryd.f7 21).toList.mapM (trO Tryd.prog 159 (ro Tryd.f7 21)) = some a7_21 := by kernel_rfl
def a7_24 : List AO := [⟨(some 135), none, .mv (.t 7)⟩,
  ⟨(some 136), none, .mv (.t 0)⟩,
  ⟨(some 137), none, .bin .eql (.t 135) (.t 136)⟩,
  ⟨(some 138), none, .mv (.t 137)⟩,
  ⟨(some 139), some (138, true), .mv (.t 5)⟩,
  ⟨(some 140), some (138, true), .len (.t 139)⟩,
  ⟨(some 141), some (138, true), .mv (.t 1)⟩,
  ⟨(some 142), some (138, true), .len (.t 141)⟩,
  ⟨(some 143), some (138, true), .bin .eql (.t 140) (.t 142)⟩,
  ⟨(some 144), none, .pick (.t 138) (.t 143) (.v (.bool false))⟩,
  ⟨(some 145), none, .mv (.t 144)⟩,
  ⟨(some 146), some (145, true), .mv (.t 10)⟩,
  ⟨(some 147), some (145, true), .len (.t 146)⟩,
  ⟨(some 148), some (145, true), .mv (.t 5)⟩,
  ⟨(some 149), some (145, true), .len (.t 148)⟩,
  ⟨(some 150), some (145, true), .bin .eql (.t 147) (.t 149)⟩,
  ⟨(some 151), none, .pick (.t 145) (.t 150) (.v (.bool false))⟩,
  ⟨(some 152), none, .mv (.t 151)⟩,
  ⟨(some 153), some (152, true), .mv (.t 11)⟩,
  ⟨(some 154), some (152, true), .bin .eql (.t 153) (.v (.int .i64 0))⟩,
  ⟨(some 155), none, .pick (.t 152) (.t 154) (.v (.bool false))⟩,
  ⟨(some 156), none, .mv (.t 155)⟩,
  ⟨(some 157), some (156, true), .call 9 []⟩,
  ⟨(some 158), none, .pick (.t 156) (.t 157) (.v (.bool false))⟩,
  ⟨(some 4), none, .mv (.t 158)⟩]
theorem tr7_24 : (ro Tryd.f7 24).toList.mapM (trO Tryd.prog 159 (ro Tryd.f7 24)) = some a7_24 := by kernel_rfl
/-- airline/airlinelaw02.MoneyNear -/
noncomputable def c8 : Code := .seq (.region 0 (ro Tryd.f8 0) false) (.seq (.region 1 (ro Tryd.f8 1) false) (.seq (.region 2 (ro Tryd.f8 2) false) (.seq (.region 3 (ro Tryd.f8 3) false) (.seq (.region 4 (ro Tryd.f8 4) false) (.seq (.seq (.region 5 (ro Tryd.f8 5) false) (.cond (.tmp 61) (.seq (.region 6 (ro Tryd.f8 6) false) (.ret)) (.skip))) (.seq (.region 7 (ro Tryd.f8 7) false) (.seq (.region 8 (ro Tryd.f8 8) false) (.seq (.region 9 (ro Tryd.f8 9) false) (.seq (.region 10 (ro Tryd.f8 10) false) (.seq (.region 11 (ro Tryd.f8 11) false) (.ret)))))))))))
theorem body8 : Tryd.f8.body = some c8 := by kernel_rfl
theorem res8 : Tryd.f8.results.toList.mapM (trR Tryd.prog) = some [.t 4] := by kernel_rfl
theorem nt8 : Tryd.f8.ntmps = 121 := by kernel_rfl
theorem nm8 : (Tryd.f8.name == "runtime.NumGoroutine") = false := by kernel_rfl
def a8_0 : List AO := [⟨(some 4), none, .mv (.v (.bool false))⟩]
theorem tr8_0 : (ro Tryd.f8 0).toList.mapM (trO Tryd.prog 121 (ro Tryd.f8 0)) = some a8_0 := by kernel_rfl
def a8_1 : List AO := [⟨(some 19), none, .mv (.t 0)⟩,
  ⟨(some 20), none, .conv .i64 (.t 19)⟩,
  ⟨(some 21), none, .bin .rem (.t 20) (.v (.int .i64 1000000000))⟩,
  ⟨(some 22), none, .mv (.t 1)⟩,
  ⟨(some 23), none, .conv .i64 (.t 22)⟩,
  ⟨(some 24), none, .bin .rem (.t 23) (.v (.int .i64 100000))⟩,
  ⟨(some 5), none, .mv (.t 21)⟩,
  ⟨(some 6), none, .mv (.t 24)⟩]
theorem tr8_1 : (ro Tryd.f8 1).toList.mapM (trO Tryd.prog 121 (ro Tryd.f8 1)) = some a8_1 := by kernel_rfl
def a8_2 : List AO := [⟨(some 26), none, .mv (.t 5)⟩,
  ⟨(some 27), none, .mv (.t 6)⟩,
  ⟨(some 28), none, .call 16 [(.t 26), (.t 27)]⟩,
  ⟨(some 25), none, .mv (.t 28)⟩,
  ⟨(some 29), none, .ext 0 (.t 25)⟩,
  ⟨(some 30), none, .ext 1 (.t 25)⟩,
  ⟨(some 7), none, .mv (.t 29)⟩,
  ⟨(some 8), none, .mv (.t 30)⟩]
theorem tr8_2 : (ro Tryd.f8 2).toList.mapM (trO Tryd.prog 121 (ro Tryd.f8 2)) = some a8_2 := by kernel_rfl
def a8_3 : List AO := [⟨(some 31), none, .mv (.t 5)⟩,
  ⟨(some 32), none, .mv (.t 6)⟩,
  ⟨(some 33), none, .bin .mul (.t 31) (.t 32)⟩,
  ⟨(some 34), none, .mv (.t 7)⟩,
  ⟨(some 35), none, .bin .mul (.v (.int .i64 10000)) (.t 34)⟩,
  ⟨(some 36), none, .bin .sub (.t 33) (.t 35)⟩,
  ⟨(some 37), none, .bin .mul (.v (.int .i64 2)) (.t 36)⟩,
  ⟨(some 9), none, .mv (.t 37)⟩]
theorem tr8_3 : (ro Tryd.f8 3).toList.mapM (trO Tryd.prog 121 (ro Tryd.f8 3)) = some a8_3 := by kernel_rfl
def a8_4 : List AO := [⟨(some 39), none, .mv (.t 5)⟩,
  ⟨(some 40), none, .call 16 [(.t 39), (.v (.int .i64 10000))]⟩,
  ⟨(some 38), none, .mv (.t 40)⟩,
  ⟨(some 41), none, .ext 0 (.t 38)⟩,
  ⟨(some 42), none, .ext 1 (.t 38)⟩,
  ⟨(some 10), none, .mv (.t 41)⟩,
  ⟨(some 11), none, .mv (.t 42)⟩]
theorem tr8_4 : (ro Tryd.f8 4).toList.mapM (trO Tryd.prog 121 (ro Tryd.f8 4)) = some a8_4 := by kernel_rfl
def a8_5 : List AO := [⟨(some 43), none, .mv (.t 8)⟩,
  ⟨(some 44), none, .bin .neq (.t 43) (.v (.int .i64 0))⟩,
  ⟨(some 45), none, .mv (.t 44)⟩,
  ⟨(some 46), some (45, false), .mv (.t 9)⟩,
  ⟨(some 47), some (45, false), .bin .lss (.t 46) (.v (.int .i64 (-10000)))⟩,
  ⟨(some 48), none, .pick (.t 45) (.v (.bool true)) (.t 47)⟩,
  ⟨(some 49), none, .mv (.t 48)⟩,
  ⟨(some 50), some (49, false), .mv (.t 9)⟩,
  ⟨(some 51), some (49, false), .bin .geq (.t 50) (.v (.int .i64 10000))⟩,
  ⟨(some 52), none, .pick (.t 49) (.v (.bool true)) (.t 51)⟩,
  ⟨(some 53), none, .mv (.t 52)⟩,
  ⟨(some 54), some (53, false), .mv (.t 10)⟩,
  ⟨(some 55), some (53, false), .mv (.t 5)⟩,
  ⟨(some 56), some (53, false), .bin .neq (.t 54) (.t 55)⟩,
  ⟨(some 57), none, .pick (.t 53) (.v (.bool true)) (.t 56)⟩,
  ⟨(some 58), none, .mv (.t 57)⟩,
  ⟨(some 59), some (58, false), .mv (.t 11)⟩,
  ⟨(some 60), some (58, false), .bin .neq (.t 59) (.v (.int .i64 0))⟩,
  ⟨(some 61), none, .pick (.t 58) (.v (.bool true)) (.t 60)⟩]
theorem tr8_5 : (ro Tryd.f8 5).toList.mapM (trO Tryd.prog 121 (ro Tryd.f8 5)) = some a8_5 := by kernel_rfl
def a8_6 : List AO := [⟨(some 4), none, .mv (.v (.bool false))⟩]
theorem tr8_6 : (ro Tryd.f8 6).toList.mapM (trO Tryd.prog 121 (ro Tryd.f8 6)) = some a8_6 := by kernel_rfl
def a8_7 : List AO := [⟨(some 62), none, .mv (.t 1)⟩,
  ⟨(some 63), none, .conv .u32 (.t 62)⟩,
  ⟨(some 64), none, .bin .rem (.t 63) (.v (.int .u32 1000))⟩,
  ⟨(some 65), none, .conv .i64 (.t 64)⟩,
  ⟨(some 66), none, .bin .add (.v (.int .i64 1)) (.t 65)⟩,
  ⟨(some 12), none, .mv (.t 66)⟩]
theorem tr8_7 : (ro Tryd.f8 7).toList.mapM (trO Tryd.prog 121 (ro Tryd.f8 7)) = some a8_7 := by kernel_rfl
def a8_8 : List AO := [⟨(some 68), none, .mv (.t 5)⟩,
  ⟨(some 69), none, .mv (.t 12)⟩,
  ⟨(some 70), none, .call 18 [(.t 68), (.t 69)]⟩,
  ⟨(some 67), none, .mv (.t 70)⟩,
  ⟨(some 71), none, .ext 0 (.t 67)⟩,
  ⟨(some 72), none, .ext 1 (.t 67)⟩,
  ⟨(some 13), none, .mv (.t 71)⟩,
  ⟨(some 14), none, .mv (.t 72)⟩]
theorem tr8_8 : (ro Tryd.f8 8).toList.mapM (trO Tryd.prog 121 (ro Tryd.f8 8)) = some a8_8 := by kernel_rfl
def a8_9 : List AO := [⟨(some 74), none, .mv (.t 5)⟩,
  ⟨(some 75), none, .mv (.t 6)⟩,
  ⟨(some 76), none, .call 10 [(.t 74), (.t 75)]⟩,
  ⟨(some 73), none, .mv (.t 76)⟩,
  ⟨(some 77), none, .ext 0 (.t 73)⟩,
  ⟨(some 78), none, .ext 1 (.t 73)⟩,
  ⟨(some 15), none, .mv (.t 77)⟩,
  ⟨(some 16), none, .mv (.t 78)⟩]
theorem tr8_9 : (ro Tryd.f8 9).toList.mapM (trO Tryd.prog 121 (ro Tryd.f8 9)) = some a8_9 := by kernel_rfl
def a8_10 : List AO := [⟨(some 80), none, .mv (.t 15)⟩,
  ⟨(some 81), none, .mv (.t 6)⟩,
  ⟨(some 82), none, .call 12 [(.t 80), (.t 81)]⟩,
  ⟨(some 79), none, .mv (.t 82)⟩,
  ⟨(some 83), none, .ext 0 (.t 79)⟩,
  ⟨(some 84), none, .ext 1 (.t 79)⟩,
  ⟨(some 17), none, .mv (.t 83)⟩,
  ⟨(some 18), none, .mv (.t 84)⟩]
theorem tr8_10 : (ro Tryd.f8 10).toList.mapM (trO Tryd.prog 121 (ro Tryd.f8 10)) = some a8_10 := by kernel_rfl
def a8_11 : List AO := [⟨(some 85), none, .mv (.t 14)⟩,
  ⟨(some 86), none, .bin .eql (.t 85) (.v (.int .i64 0))⟩,
  ⟨(some 87), none, .mv (.t 86)⟩,
  ⟨(some 88), some (87, true), .mv (.t 13)⟩,
  ⟨(some 89), some (87, true), .mv (.t 5)⟩,
  ⟨(some 90), some (87, true), .bin .geq (.t 88) (.t 89)⟩,
  ⟨(some 91), none, .pick (.t 87) (.t 90) (.v (.bool false))⟩,
  ⟨(some 92), none, .mv (.t 91)⟩,
  ⟨(some 93), some (92, true), .mv (.t 13)⟩,
  ⟨(some 94), some (92, true), .mv (.t 5)⟩,
  ⟨(some 95), some (92, true), .mv (.t 12)⟩,
  ⟨(some 96), some (92, true), .bin .add (.t 94) (.t 95)⟩,
  ⟨(some 97), some (92, true), .bin .lss (.t 93) (.t 96)⟩,
  ⟨(some 98), none, .pick (.t 92) (.t 97) (.v (.bool false))⟩,
  ⟨(some 99), none, .mv (.t 98)⟩,
  ⟨(some 100), some (99, true), .mv (.t 13)⟩,
  ⟨(some 101), some (99, true), .mv (.t 12)⟩,
  ⟨(some 102), some (99, true), .bin .rem (.t 100) (.t 101)⟩,
  ⟨(some 103), some (99, true), .bin .eql (.t 102) (.v (.int .i64 0))⟩,
  ⟨(some 104), none, .pick (.t 99) (.t 103) (.v (.bool false))⟩,
  ⟨(some 105), none, .mv (.t 104)⟩,
  ⟨(some 106), some (105, true), .mv (.t 16)⟩,
  ⟨(some 107), some (105, true), .bin .eql (.t 106) (.v (.int .i64 0))⟩,
  ⟨(some 108), none, .pick (.t 105) (.t 107) (.v (.bool false))⟩,
  ⟨(some 109), none, .mv (.t 108)⟩,
  ⟨(some 110), some (109, true), .mv (.t 18)⟩,
  ⟨(some 111), some (109, true), .bin .eql (.t 110) (.v (.int .i64 0))⟩,
  ⟨(some 112), none, .pick (.t 109) (.t 111) (.v (.bool false))⟩,
  ⟨(some 113), none, .mv (.t 112)⟩,
  ⟨(some 114), some (113, true), .mv (.t 17)⟩,
  ⟨(some 115), some (113, true), .mv (.t 5)⟩,
  ⟨(some 116), some (113, true), .bin .eql (.t 114) (.t 115)⟩,
  ⟨(some 117), none, .pick (.t 113) (.t 116) (.v (.bool false))⟩,
  ⟨(some 118), none, .mv (.t 117)⟩,
  ⟨(some 119), some (118, true), .call 9 []⟩,
  ⟨(some 120), none, .pick (.t 118) (.t 119) (.v (.bool false))⟩,
  ⟨(some 4), none, .mv (.t 120)⟩]
theorem tr8_11 : (ro Tryd.f8 11).toList.mapM (trO Tryd.prog 121 (ro Tryd.f8 11)) = some a8_11 := by kernel_rfl
/-- airline/airlinelaw02.knows -/
noncomputable def c9 : Code := .seq (.region 0 (ro Tryd.f9 0) false) (.seq (.region 1 (ro Tryd.f9 1) false) (.seq (.region 2 (ro Tryd.f9 2) false) (.seq (.region 3 (ro Tryd.f9 3) false) (.seq (.region 4 (ro Tryd.f9 4) false) (.seq (.region 5 (ro Tryd.f9 5) false) (.seq (.region 6 (ro Tryd.f9 6) false) (.seq (.region 7 (ro Tryd.f9 7) false) (.seq (.region 8 (ro Tryd.f9 8) false) (.ret)))))))))
theorem body9 : Tryd.f9.body = some c9 := by kernel_rfl
theorem res9 : Tryd.f9.results.toList.mapM (trR Tryd.prog) = some [.t 0] := by kernel_rfl
theorem nt9 : Tryd.f9.ntmps = 99 := by kernel_rfl
theorem nm9 : (Tryd.f9.name == "runtime.NumGoroutine") = false := by kernel_rfl
def a9_0 : List AO := [⟨(some 0), none, .mv (.v (.bool false))⟩]
theorem tr9_0 : (ro Tryd.f9 0).toList.mapM (trO Tryd.prog 99 (ro Tryd.f9 0)) = some a9_0 := by kernel_rfl
def a9_1 : List AO := [⟨(some 16), none, .call 10 [(.v (.int .i64 250)), (.v (.int .i64 (-100)))]⟩,
  ⟨(some 15), none, .mv (.t 16)⟩,
  ⟨(some 17), none, .ext 0 (.t 15)⟩,
  ⟨(some 18), none, .ext 1 (.t 15)⟩,
  ⟨(some 1), none, .mv (.t 17)⟩,
  ⟨(some 2), none, .mv (.t 18)⟩]
theorem tr9_1 : (ro Tryd.f9 1).toList.mapM (trO Tryd.prog 99 (ro Tryd.f9 1)) = some a9_1 := by kernel_rfl
def a9_2 : List AO := [⟨(some 20), none, .call 12 [(.v (.int .i64 (-1099511627776))), (.v (.int .i64 1))]⟩,
  ⟨(some 19), none, .mv (.t 20)⟩,
  ⟨(some 21), none, .ext 0 (.t 19)⟩,
  ⟨(some 22), none, .ext 1 (.t 19)⟩,
  ⟨(some 3), none, .mv (.t 21)⟩,
  ⟨(some 4), none, .mv (.t 22)⟩]
theorem tr9_2 : (ro Tryd.f9 2).toList.mapM (trO Tryd.prog 99 (ro Tryd.f9 2)) = some a9_2 := by kernel_rfl
def a9_3 : List AO := [⟨(some 24), none, .call 16 [(.v (.int .i64 (-1))), (.v (.int .i64 5000))]⟩,
  ⟨(some 23), none, .mv (.t 24)⟩,
  ⟨(some 25), none, .ext 0 (.t 23)⟩,
  ⟨(some 26), none, .ext 1 (.t 23)⟩,
  ⟨(some 5), none, .mv (.t 25)⟩,
  ⟨(some 6), none, .mv (.t 26)⟩]
theorem tr9_3 : (ro Tryd.f9 3).toList.mapM (trO Tryd.prog 99 (ro Tryd.f9 3)) = some a9_3 := by kernel_rfl
def a9_4 : List AO := [⟨(some 28), none, .call 18 [(.v (.int .i64 (-101))), (.v (.int .i64 100))]⟩,
  ⟨(some 27), none, .mv (.t 28)⟩,
  ⟨(some 29), none, .ext 0 (.t 27)⟩,
  ⟨(some 30), none, .ext 1 (.t 27)⟩,
  ⟨(some 7), none, .mv (.t 29)⟩,
  ⟨(some 8), none, .mv (.t 30)⟩]
theorem tr9_4 : (ro Tryd.f9 4).toList.mapM (trO Tryd.prog 99 (ro Tryd.f9 4)) = some a9_4 := by kernel_rfl
def a9_5 : List AO := [⟨(some 32), none, .slc 3 1 false [(.v (.int .i64 1)), (.v (.int .i64 1)), (.v (.int .i64 1))]⟩,
  ⟨(some 33), none, .call 20 [(.v (.int .i64 10000)), (.t 32)]⟩,
  ⟨(some 31), none, .mv (.t 33)⟩,
  ⟨(some 34), none, .ext 0 (.t 31)⟩,
  ⟨(some 35), none, .ext 1 (.t 31)⟩,
  ⟨(some 9), none, .mv (.t 34)⟩,
  ⟨(some 10), none, .mv (.t 35)⟩]
theorem tr9_5 : (ro Tryd.f9 5).toList.mapM (trO Tryd.prog 99 (ro Tryd.f9 5)) = some a9_5 := by kernel_rfl
def a9_6 : List AO := [⟨(some 37), none, .call 23 [(.v (.str [48, 46, 48, 53]))]⟩,
  ⟨(some 36), none, .mv (.t 37)⟩,
  ⟨(some 38), none, .ext 0 (.t 36)⟩,
  ⟨(some 39), none, .ext 1 (.t 36)⟩,
  ⟨(some 11), none, .mv (.t 38)⟩,
  ⟨(some 12), none, .mv (.t 39)⟩]
theorem tr9_6 : (ro Tryd.f9 6).toList.mapM (trO Tryd.prog 99 (ro Tryd.f9 6)) = some a9_6 := by kernel_rfl
def a9_7 : List AO := [⟨(some 41), none, .call 23 [(.v (.str [45, 48, 46, 48, 48]))]⟩,
  ⟨(some 40), none, .mv (.t 41)⟩,
  ⟨(some 42), none, .ext 0 (.t 40)⟩,
  ⟨(some 43), none, .ext 1 (.t 40)⟩,
  ⟨(some 13), none, .mv (.t 42)⟩,
  ⟨(some 14), none, .mv (.t 43)⟩]
theorem tr9_7 : (ro Tryd.f9 7).toList.mapM (trO Tryd.prog 99 (ro Tryd.f9 7)) = some a9_7 := by kernel_rfl
def a9_8 : List AO := [⟨(some 44), none, .mv (.t 1)⟩,
  ⟨(some 45), none, .bin .eql (.t 44) (.v (.int .i64 150))⟩,
  ⟨(some 46), none, .mv (.t 45)⟩,
  ⟨(some 47), some (46, true), .mv (.t 2)⟩,
  ⟨(some 48), some (46, true), .bin .eql (.t 47) (.v (.int .i64 0))⟩,
  ⟨(some 49), none, .pick (.t 46) (.t 48) (.v (.bool false))⟩,
  ⟨(some 50), none, .mv (.t 49)⟩,
  ⟨(some 51), some (50, true), .mv (.t 4)⟩,
  ⟨(some 52), some (50, true), .bin .eql (.t 51) (.v (.int .i64 11))⟩,
  ⟨(some 53), none, .pick (.t 50) (.t 52) (.v (.bool false))⟩,
  ⟨(some 54), none, .mv (.t 53)⟩,
  ⟨(some 55), some (54, true), .mv (.t 5)⟩,
  ⟨(some 56), some (54, true), .bin .eql (.t 55) (.v (.int .i64 0))⟩,
  ⟨(some 57), none, .pick (.t 54) (.t 56) (.v (.bool false))⟩,
  ⟨(some 58), none, .mv (.t 57)⟩,
  ⟨(some 59), some (58, true), .mv (.t 7)⟩,
  ⟨(some 60), some (58, true), .bin .eql (.t 59) (.v (.int .i64 (-100)))⟩,
  ⟨(some 61), none, .pick (.t 58) (.t 60) (.v (.bool false))⟩,
  ⟨(some 62), none, .mv (.t 61)⟩,
  ⟨(some 63), some (62, true), .mv (.t 9)⟩,
  ⟨(some 64), some (62, true), .len (.t 63)⟩,
  ⟨(some 65), some (62, true), .bin .eql (.t 64) (.v (.int .i64 3))⟩,
  ⟨(some 66), none, .pick (.t 62) (.t 65) (.v (.bool false))⟩,
  ⟨(some 67), none, .mv (.t 66)⟩,
  ⟨(some 68), some (67, true), .mv (.t 9)⟩,
  ⟨(some 69), some (67, true), .idx 1 (.t 68) (.v (.int .i64 0))⟩,
  ⟨(some 70), some (67, true), .load none (.t 69)⟩,
  ⟨(some 71), some (67, true), .bin .eql (.t 70) (.v (.int .i64 3334))⟩,
  ⟨(some 72), none, .pick (.t 67) (.t 71) (.v (.bool false))⟩,
  ⟨(some 73), none, .mv (.t 72)⟩,
  ⟨(some 74), some (73, true), .mv (.t 9)⟩,
  ⟨(some 75), some (73, true), .idx 1 (.t 74) (.v (.int .i64 1))⟩,
  ⟨(some 76), some (73, true), .load none (.t 75)⟩,
  ⟨(some 77), some (73, true), .bin .eql (.t 76) (.v (.int .i64 3333))⟩,
  ⟨(some 78), none, .pick (.t 73) (.t 77) (.v (.bool false))⟩,
  ⟨(some 79), none, .mv (.t 78)⟩,
  ⟨(some 80), some (79, true), .mv (.t 10)⟩,
  ⟨(some 81), some (79, true), .bin .eql (.t 80) (.v (.int .i64 0))⟩,
  ⟨(some 82), none, .pick (.t 79) (.t 81) (.v (.bool false))⟩,
  ⟨(some 83), none, .mv (.t 82)⟩,
  ⟨(some 84), some (83, true), .mv (.t 11)⟩,
  ⟨(some 85), some (83, true), .bin .eql (.t 84) (.v (.int .i64 5))⟩,
  ⟨(some 86), none, .pick (.t 83) (.t 85) (.v (.bool false))⟩,
  ⟨(some 87), none, .mv (.t 86)⟩,
  ⟨(some 88), some (87, true), .mv (.t 12)⟩,
  ⟨(some 89), some (87, true), .bin .eql (.t 88) (.v (.int .i64 0))⟩,
  ⟨(some 90), none, .pick (.t 87) (.t 89) (.v (.bool false))⟩,
  ⟨(some 91), none, .mv (.t 90)⟩,
  ⟨(some 92), some (91, true), .mv (.t 14)⟩,
  ⟨(some 93), some (91, true), .bin .eql (.t 92) (.v (.int .i64 3))⟩,
  ⟨(some 94), none, .pick (.t 91) (.t 93) (.v (.bool false))⟩,
  ⟨(some 95), none, .mv (.t 94)⟩,
  ⟨(some 96), some (95, true), .call 25 [(.v (.int .i64 (-1250)))]⟩,
  ⟨(some 97), some (95, true), .bin .eql (.t 96) (.v (.str [45, 49, 50, 46, 53, 48]))⟩,
  ⟨(some 98), none, .pick (.t 95) (.t 97) (.v (.bool false))⟩,
  ⟨(some 0), none, .mv (.t 98)⟩]
theorem tr9_8 : (ro Tryd.f9 8).toList.mapM (trO Tryd.prog 99 (ro Tryd.f9 8)) = some a9_8 := by kernel_rfl
/-- airline/money.Add -/
noncomputable def c10 : Code := .seq (.region 0 (ro Tryd.f10 0) false) (.seq (.region 1 (ro Tryd.f10 1) false) (.ret))
theorem body10 : Tryd.f10.body = some c10 := by kernel_rfl
theorem res10 : Tryd.f10.results.toList.mapM (trR Tryd.prog) = some [.t 4, .t 5] := by kernel_rfl
theorem nt10 : Tryd.f10.ntmps = 12 := by kernel_rfl
theorem nm10 : (Tryd.f10.name == "runtime.NumGoroutine") = false := by kernel_rfl
def a10_0 : List AO := [⟨(some 4), none, .mv (.v (.int .i64 0))⟩,
  ⟨(some 5), none, .mv (.v (.int .i64 0))⟩]
theorem tr10_0 : (ro Tryd.f10 0).toList.mapM (trO Tryd.prog 12 (ro Tryd.f10 0)) = some a10_0 := by kernel_rfl
def a10_1 : List AO := [⟨(some 6), none, .mv (.t 0)⟩,
  ⟨(some 7), none, .mv (.t 1)⟩,
  ⟨(some 8), none, .slc 3 1 false [(.t 6), (.t 7)]⟩,
  ⟨(some 9), none, .call 14 [(.t 8)]⟩,
  ⟨(some 10), none, .ext 0 (.t 9)⟩,
  ⟨(some 11), none, .ext 1 (.t 9)⟩,
  ⟨(some 4), none, .mv (.t 10)⟩,
  ⟨(some 5), none, .mv (.t 11)⟩]
theorem tr10_1 : (ro Tryd.f10 1).toList.mapM (trO Tryd.prog 12 (ro Tryd.f10 1)) = some a10_1 := by kernel_rfl
/-- airline/airlineref02.Add -/
noncomputable def c11 : Code := .seq (.region 0 (ro Tryd.f11 0) false) (.seq (.seq (.region 1 (ro Tryd.f11 1) false) (.cond (.tmp 20) (.seq (.region 2 (ro Tryd.f11 2) false) (.ret)) (.skip))) (.seq (.region 3 (ro Tryd.f11 3) false) (.ret)))
theorem body11 : Tryd.f11.body = some c11 := by kernel_rfl
theorem res11 : Tryd.f11.results.toList.mapM (trR Tryd.prog) = some [.t 4, .t 5] := by kernel_rfl
theorem nt11 : Tryd.f11.ntmps = 24 := by kernel_rfl
theorem nm11 : (Tryd.f11.name == "runtime.NumGoroutine") = false := by kernel_rfl
def a11_0 : List AO := [⟨(some 4), none, .mv (.v (.int .i64 0))⟩,
  ⟨(some 5), none, .mv (.v (.int .i64 0))⟩]
theorem tr11_0 : (ro Tryd.f11 0).toList.mapM (trO Tryd.prog 24 (ro Tryd.f11 0)) = some a11_0 := by kernel_rfl
def a11_1 : List AO := [⟨(some 6), none, .mv (.t 0)⟩,
  ⟨(some 7), none, .call 26 [(.t 6)]⟩,
  ⟨(some 8), none, .un .not (.t 7)⟩,
  ⟨(some 9), none, .mv (.t 8)⟩,
  ⟨(some 10), some (9, false), .mv (.t 1)⟩,
  ⟨(some 11), some (9, false), .call 26 [(.t 10)]⟩,
  ⟨(some 12), some (9, false), .un .not (.t 11)⟩,
  ⟨(some 13), none, .pick (.t 9) (.v (.bool true)) (.t 12)⟩,
  ⟨(some 14), none, .mv (.t 13)⟩,
  ⟨(some 15), some (14, false), .mv (.t 0)⟩,
  ⟨(some 16), some (14, false), .mv (.t 1)⟩,
  ⟨(some 17), some (14, false), .bin .add (.t 15) (.t 16)⟩,
  ⟨(some 18), some (14, false), .call 26 [(.t 17)]⟩,
  ⟨(some 19), some (14, false), .un .not (.t 18)⟩,
  ⟨(some 20), none, .pick (.t 14) (.v (.bool true)) (.t 19)⟩]
theorem tr11_1 : (ro Tryd.f11 1).toList.mapM (trO Tryd.prog 24 (ro Tryd.f11 1)) = some a11_1 := by kernel_rfl
def a11_2 : List AO := [⟨(some 4), none, .mv (.v (.int .i64 0))⟩,
  ⟨(some 5), none, .mv (.v (.int .i64 11))⟩]
theorem tr11_2 : (ro Tryd.f11 2).toList.mapM (trO Tryd.prog 24 (ro Tryd.f11 2)) = some a11_2 := by kernel_rfl
def a11_3 : List AO := [⟨(some 21), none, .mv (.t 0)⟩,
  ⟨(some 22), none, .mv (.t 1)⟩,
  ⟨(some 23), none, .bin .add (.t 21) (.t 22)⟩,
  ⟨(some 4), none, .mv (.t 23)⟩,
  ⟨(some 5), none, .mv (.v (.int .i64 0))⟩]
theorem tr11_3 : (ro Tryd.f11 3).toList.mapM (trO Tryd.prog 24 (ro Tryd.f11 3)) = some a11_3 := by kernel_rfl
/-- airline/money.Sub -/
noncomputable def c12 : Code := .seq (.region 0 (ro Tryd.f12 0) false) (.seq (.seq (.region 1 (ro Tryd.f12 1) false) (.cond (.tmp 20) (.seq (.region 2 (ro Tryd.f12 2) false) (.ret)) (.skip))) (.seq (.region 3 (ro Tryd.f12 3) false) (.ret)))
theorem body12 : Tryd.f12.body = some c12 := by kernel_rfl
theorem res12 : Tryd.f12.results.toList.mapM (trR Tryd.prog) = some [.t 4, .t 5] := by kernel_rfl
theorem nt12 : Tryd.f12.ntmps = 24 := by kernel_rfl
theorem nm12 : (Tryd.f12.name == "runtime.NumGoroutine") = false := by kernel_rfl
def a12_0 : List AO := [⟨(some 4), none, .mv (.v (.int .i64 0))⟩,
  ⟨(some 5), none, .mv (.v (.int .i64 0))⟩]
theorem tr12_0 : (ro Tryd.f12 0).toList.mapM (trO Tryd.prog 24 (ro Tryd.f12 0)) = some a12_0 := by kernel_rfl
def a12_1 : List AO := [⟨(some 6), none, .mv (.t 0)⟩,
  ⟨(some 7), none, .call 28 [(.t 6)]⟩,
  ⟨(some 8), none, .un .not (.t 7)⟩,
  ⟨(some 9), none, .mv (.t 8)⟩,
  ⟨(some 10), some (9, false), .mv (.t 1)⟩,
  ⟨(some 11), some (9, false), .call 28 [(.t 10)]⟩,
  ⟨(some 12), some (9, false), .un .not (.t 11)⟩,
  ⟨(some 13), none, .pick (.t 9) (.v (.bool true)) (.t 12)⟩,
  ⟨(some 14), none, .mv (.t 13)⟩,
  ⟨(some 15), some (14, false), .mv (.t 0)⟩,
  ⟨(some 16), some (14, false), .mv (.t 1)⟩,
  ⟨(some 17), some (14, false), .bin .sub (.t 15) (.t 16)⟩,
  ⟨(some 18), some (14, false), .call 28 [(.t 17)]⟩,
  ⟨(some 19), some (14, false), .un .not (.t 18)⟩,
  ⟨(some 20), none, .pick (.t 14) (.v (.bool true)) (.t 19)⟩]
theorem tr12_1 : (ro Tryd.f12 1).toList.mapM (trO Tryd.prog 24 (ro Tryd.f12 1)) = some a12_1 := by kernel_rfl
def a12_2 : List AO := [⟨(some 4), none, .mv (.v (.int .i64 0))⟩,
  ⟨(some 5), none, .mv (.v (.int .i64 11))⟩]
theorem tr12_2 : (ro Tryd.f12 2).toList.mapM (trO Tryd.prog 24 (ro Tryd.f12 2)) = some a12_2 := by kernel_rfl
def a12_3 : List AO := [⟨(some 21), none, .mv (.t 0)⟩,
  ⟨(some 22), none, .mv (.t 1)⟩,
  ⟨(some 23), none, .bin .sub (.t 21) (.t 22)⟩,
  ⟨(some 4), none, .mv (.t 23)⟩,
  ⟨(some 5), none, .mv (.v (.int .i64 0))⟩]
theorem tr12_3 : (ro Tryd.f12 3).toList.mapM (trO Tryd.prog 24 (ro Tryd.f12 3)) = some a12_3 := by kernel_rfl
/-- airline/airlineref02.Sub -/
noncomputable def c13 : Code := .seq (.region 0 (ro Tryd.f13 0) false) (.seq (.seq (.region 1 (ro Tryd.f13 1) false) (.cond (.tmp 8) (.seq (.region 2 (ro Tryd.f13 2) false) (.ret)) (.skip))) (.seq (.region 3 (ro Tryd.f13 3) false) (.ret)))
theorem body13 : Tryd.f13.body = some c13 := by kernel_rfl
theorem res13 : Tryd.f13.results.toList.mapM (trR Tryd.prog) = some [.t 4, .t 5] := by kernel_rfl
theorem nt13 : Tryd.f13.ntmps = 15 := by kernel_rfl
theorem nm13 : (Tryd.f13.name == "runtime.NumGoroutine") = false := by kernel_rfl
def a13_0 : List AO := [⟨(some 4), none, .mv (.v (.int .i64 0))⟩,
  ⟨(some 5), none, .mv (.v (.int .i64 0))⟩]
theorem tr13_0 : (ro Tryd.f13 0).toList.mapM (trO Tryd.prog 15 (ro Tryd.f13 0)) = some a13_0 := by kernel_rfl
def a13_1 : List AO := [⟨(some 6), none, .mv (.t 1)⟩,
  ⟨(some 7), none, .call 26 [(.t 6)]⟩,
  ⟨(some 8), none, .un .not (.t 7)⟩]
theorem tr13_1 : (ro Tryd.f13 1).toList.mapM (trO Tryd.prog 15 (ro Tryd.f13 1)) = some a13_1 := by kernel_rfl
def a13_2 : List AO := [⟨(some 4), none, .mv (.v (.int .i64 0))⟩,
  ⟨(some 5), none, .mv (.v (.int .i64 11))⟩]
theorem tr13_2 : (ro Tryd.f13 2).toList.mapM (trO Tryd.prog 15 (ro Tryd.f13 2)) = some a13_2 := by kernel_rfl
def a13_3 : List AO := [⟨(some 9), none, .mv (.t 0)⟩,
  ⟨(some 10), none, .mv (.t 1)⟩,
  ⟨(some 11), none, .un .neg (.t 10)⟩,
  ⟨(some 12), none, .call 11 [(.t 9), (.t 11)]⟩,
  ⟨(some 13), none, .ext 0 (.t 12)⟩,
  ⟨(some 14), none, .ext 1 (.t 12)⟩,
  ⟨(some 4), none, .mv (.t 13)⟩,
  ⟨(some 5), none, .mv (.t 14)⟩]
theorem tr13_3 : (ro Tryd.f13 3).toList.mapM (trO Tryd.prog 15 (ro Tryd.f13 3)) = some a13_3 := by kernel_rfl
/-- airline/money.Sum -/
noncomputable def c14 : Code := .seq (.region 0 (ro Tryd.f14 0) false) (.seq (.region 1 (ro Tryd.f14 1) false) (.seq (.seq (.region 2 (ro Tryd.f14 2) false) (.block 0 (.loop (.seq (.region 3 (ro Tryd.f14 3) false) (.seq (.cond (.tmp 10) (.skip) (.exit 0)) (.seq (.block 1 (.seq (.region 4 (ro Tryd.f14 4) false) (.seq (.seq (.region 5 (ro Tryd.f14 5) false) (.cond (.tmp 22) (.seq (.region 6 (ro Tryd.f14 6) false) (.ret)) (.skip))) (.region 7 (ro Tryd.f14 7) false)))) (.region 8 (ro Tryd.f14 8) false))))))) (.seq (.region 9 (ro Tryd.f14 9) false) (.ret))))
theorem body14 : Tryd.f14.body = some c14 := by kernel_rfl
theorem res14 : Tryd.f14.results.toList.mapM (trR Tryd.prog) = some [.t 2, .t 3] := by kernel_rfl
theorem nt14 : Tryd.f14.ntmps = 28 := by kernel_rfl
theorem nm14 : (Tryd.f14.name == "runtime.NumGoroutine") = false := by kernel_rfl
def a14_0 : List AO := [⟨(some 2), none, .mv (.v (.int .i64 0))⟩,
  ⟨(some 3), none, .mv (.v (.int .i64 0))⟩]
theorem tr14_0 : (ro Tryd.f14 0).toList.mapM (trO Tryd.prog 28 (ro Tryd.f14 0)) = some a14_0 := by kernel_rfl
def a14_1 : List AO := [⟨(some 4), none, .mv (.v (.int .i64 0))⟩]
theorem tr14_1 : (ro Tryd.f14 1).toList.mapM (trO Tryd.prog 28 (ro Tryd.f14 1)) = some a14_1 := by kernel_rfl
def a14_2 : List AO := [⟨(some 7), none, .mv (.t 0)⟩,
  ⟨(some 8), none, .len (.t 7)⟩,
  ⟨(some 9), none, .mv (.v (.int .i64 0))⟩]
theorem tr14_2 : (ro Tryd.f14 2).toList.mapM (trO Tryd.prog 28 (ro Tryd.f14 2)) = some a14_2 := by kernel_rfl
def a14_3 : List AO := [⟨(some 10), none, .bin .lss (.t 9) (.t 8)⟩]
theorem tr14_3 : (ro Tryd.f14 3).toList.mapM (trO Tryd.prog 28 (ro Tryd.f14 3)) = some a14_3 := by kernel_rfl
def a14_4 : List AO := [⟨(some 11), none, .idx 1 (.t 7) (.t 9)⟩,
  ⟨(some 12), none, .load none (.t 11)⟩,
  ⟨(some 6), none, .mv (.t 12)⟩]
theorem tr14_4 : (ro Tryd.f14 4).toList.mapM (trO Tryd.prog 28 (ro Tryd.f14 4)) = some a14_4 := by kernel_rfl
def a14_5 : List AO := [⟨(some 13), none, .mv (.t 6)⟩,
  ⟨(some 14), none, .call 28 [(.t 13)]⟩,
  ⟨(some 15), none, .un .not (.t 14)⟩,
  ⟨(some 16), none, .mv (.t 15)⟩,
  ⟨(some 17), some (16, false), .mv (.t 4)⟩,
  ⟨(some 18), some (16, false), .mv (.t 6)⟩,
  ⟨(some 19), some (16, false), .bin .add (.t 17) (.t 18)⟩,
  ⟨(some 20), some (16, false), .call 28 [(.t 19)]⟩,
  ⟨(some 21), some (16, false), .un .not (.t 20)⟩,
  ⟨(some 22), none, .pick (.t 16) (.v (.bool true)) (.t 21)⟩]
theorem tr14_5 : (ro Tryd.f14 5).toList.mapM (trO Tryd.prog 28 (ro Tryd.f14 5)) = some a14_5 := by kernel_rfl
def a14_6 : List AO := [⟨(some 2), none, .mv (.v (.int .i64 0))⟩,
  ⟨(some 3), none, .mv (.v (.int .i64 11))⟩]
theorem tr14_6 : (ro Tryd.f14 6).toList.mapM (trO Tryd.prog 28 (ro Tryd.f14 6)) = some a14_6 := by kernel_rfl
def a14_7 : List AO := [⟨(some 23), none, .mv (.t 4)⟩,
  ⟨(some 24), none, .mv (.t 6)⟩,
  ⟨(some 25), none, .bin .add (.t 23) (.t 24)⟩,
  ⟨(some 4), none, .mv (.t 25)⟩]
theorem tr14_7 : (ro Tryd.f14 7).toList.mapM (trO Tryd.prog 28 (ro Tryd.f14 7)) = some a14_7 := by kernel_rfl
def a14_8 : List AO := [⟨(some 26), none, .bin .add (.t 9) (.v (.int .i64 1))⟩,
  ⟨(some 9), none, .mv (.t 26)⟩]
theorem tr14_8 : (ro Tryd.f14 8).toList.mapM (trO Tryd.prog 28 (ro Tryd.f14 8)) = some a14_8 := by kernel_rfl
def a14_9 : List AO := [⟨(some 27), none, .mv (.t 4)⟩,
  ⟨(some 2), none, .mv (.t 27)⟩,
  ⟨(some 3), none, .mv (.v (.int .i64 0))⟩]
theorem tr14_9 : (ro Tryd.f14 9).toList.mapM (trO Tryd.prog 28 (ro Tryd.f14 9)) = some a14_9 := by kernel_rfl
/-- airline/airlineref02.Sum -/
noncomputable def c15 : Code := .seq (.region 0 (ro Tryd.f15 0) false) (.seq (.region 1 (ro Tryd.f15 1) false) (.seq (.seq (.region 2 (ro Tryd.f15 2) false) (.block 0 (.loop (.seq (.seq (.region 3 (ro Tryd.f15 3) false) (.cond (.tmp 11) (.skip) (.exit 0))) (.seq (.block 1 (.seq (.region 5 (ro Tryd.f15 5) false) (.seq (.seq (.region 6 (ro Tryd.f15 6) false) (.cond (.tmp 24) (.seq (.region 7 (ro Tryd.f15 7) false) (.ret)) (.skip))) (.region 8 (ro Tryd.f15 8) false)))) (.region 4 (ro Tryd.f15 4) false)))))) (.seq (.region 9 (ro Tryd.f15 9) false) (.ret))))
theorem body15 : Tryd.f15.body = some c15 := by kernel_rfl
theorem res15 : Tryd.f15.results.toList.mapM (trR Tryd.prog) = some [.t 2, .t 3] := by kernel_rfl
theorem nt15 : Tryd.f15.ntmps = 28 := by kernel_rfl
theorem nm15 : (Tryd.f15.name == "runtime.NumGoroutine") = false := by kernel_rfl
def a15_0 : List AO := [⟨(some 2), none, .mv (.v (.int .i64 0))⟩,
  ⟨(some 3), none, .mv (.v (.int .i64 0))⟩]
theorem tr15_0 : (ro Tryd.f15 0).toList.mapM (trO Tryd.prog 28 (ro Tryd.f15 0)) = some a15_0 := by kernel_rfl
def a15_1 : List AO := [⟨(some 4), none, .mv (.v (.int .i64 0))⟩]
theorem tr15_1 : (ro Tryd.f15 1).toList.mapM (trO Tryd.prog 28 (ro Tryd.f15 1)) = some a15_1 := by kernel_rfl
def a15_2 : List AO := [⟨(some 5), none, .mv (.v (.int .i64 0))⟩]
theorem tr15_2 : (ro Tryd.f15 2).toList.mapM (trO Tryd.prog 28 (ro Tryd.f15 2)) = some a15_2 := by kernel_rfl
def a15_3 : List AO := [⟨(some 8), none, .mv (.t 5)⟩,
  ⟨(some 9), none, .mv (.t 0)⟩,
  ⟨(some 10), none, .len (.t 9)⟩,
  ⟨(some 11), none, .bin .lss (.t 8) (.t 10)⟩]
theorem tr15_3 : (ro Tryd.f15 3).toList.mapM (trO Tryd.prog 28 (ro Tryd.f15 3)) = some a15_3 := by kernel_rfl
def a15_5 : List AO := [⟨(some 15), none, .mv (.t 4)⟩,
  ⟨(some 16), none, .mv (.t 0)⟩,
  ⟨(some 17), none, .mv (.t 5)⟩,
  ⟨(some 18), none, .idx 1 (.t 16) (.t 17)⟩,
  ⟨(some 19), none, .load none (.t 18)⟩,
  ⟨(some 20), none, .call 11 [(.t 15), (.t 19)]⟩,
  ⟨(some 14), none, .mv (.t 20)⟩,
  ⟨(some 21), none, .ext 0 (.t 14)⟩,
  ⟨(some 22), none, .ext 1 (.t 14)⟩,
  ⟨(some 6), none, .mv (.t 21)⟩,
  ⟨(some 7), none, .mv (.t 22)⟩]
theorem tr15_5 : (ro Tryd.f15 5).toList.mapM (trO Tryd.prog 28 (ro Tryd.f15 5)) = some a15_5 := by kernel_rfl
def a15_6 : List AO := [⟨(some 23), none, .mv (.t 7)⟩,
  ⟨(some 24), none, .bin .neq (.t 23) (.v (.int .i64 0))⟩]
theorem tr15_6 : (ro Tryd.f15 6).toList.mapM (trO Tryd.prog 28 (ro Tryd.f15 6)) = some a15_6 := by kernel_rfl
def a15_7 : List AO := [⟨(some 25), none, .mv (.t 7)⟩,
  ⟨(some 2), none, .mv (.v (.int .i64 0))⟩,
  ⟨(some 3), none, .mv (.t 25)⟩]
theorem tr15_7 : (ro Tryd.f15 7).toList.mapM (trO Tryd.prog 28 (ro Tryd.f15 7)) = some a15_7 := by kernel_rfl
def a15_8 : List AO := [⟨(some 26), none, .mv (.t 6)⟩,
  ⟨(some 4), none, .mv (.t 26)⟩]
theorem tr15_8 : (ro Tryd.f15 8).toList.mapM (trO Tryd.prog 28 (ro Tryd.f15 8)) = some a15_8 := by kernel_rfl
def a15_4 : List AO := [⟨(some 12), none, .mv (.t 5)⟩,
  ⟨(some 13), none, .bin .add (.t 12) (.v (.int .i64 1))⟩,
  ⟨(some 5), none, .mv (.t 13)⟩]
theorem tr15_4 : (ro Tryd.f15 4).toList.mapM (trO Tryd.prog 28 (ro Tryd.f15 4)) = some a15_4 := by kernel_rfl
def a15_9 : List AO := [⟨(some 27), none, .mv (.t 4)⟩,
  ⟨(some 2), none, .mv (.t 27)⟩,
  ⟨(some 3), none, .mv (.v (.int .i64 0))⟩]
theorem tr15_9 : (ro Tryd.f15 9).toList.mapM (trO Tryd.prog 28 (ro Tryd.f15 9)) = some a15_9 := by kernel_rfl
/-- airline/money.Percent -/
noncomputable def c16 : Code := .seq (.region 0 (ro Tryd.f16 0) false) (.seq (.seq (.region 1 (ro Tryd.f16 1) false) (.cond (.tmp 17) (.seq (.region 2 (ro Tryd.f16 2) false) (.ret)) (.skip))) (.seq (.region 3 (ro Tryd.f16 3) false) (.seq (.region 4 (ro Tryd.f16 4) false) (.seq (.seq (.region 5 (ro Tryd.f16 5) false) (.cond (.tmp 41) (.region 6 (ro Tryd.f16 6) false) (.skip))) (.seq (.seq (.region 7 (ro Tryd.f16 7) false) (.cond (.tmp 49) (.seq (.region 8 (ro Tryd.f16 8) false) (.ret)) (.skip))) (.seq (.seq (.region 9 (ro Tryd.f16 9) false) (.cond (.tmp 50) (.seq (.region 10 (ro Tryd.f16 10) false) (.ret)) (.skip))) (.seq (.region 11 (ro Tryd.f16 11) false) (.ret))))))))
theorem body16 : Tryd.f16.body = some c16 := by kernel_rfl
theorem res16 : Tryd.f16.results.toList.mapM (trR Tryd.prog) = some [.t 4, .t 5] := by kernel_rfl
theorem nt16 : Tryd.f16.ntmps = 56 := by kernel_rfl
theorem nm16 : (Tryd.f16.name == "runtime.NumGoroutine") = false := by kernel_rfl
def a16_0 : List AO := [⟨(some 4), none, .mv (.v (.int .i64 0))⟩,
  ⟨(some 5), none, .mv (.v (.int .i64 0))⟩]
theorem tr16_0 : (ro Tryd.f16 0).toList.mapM (trO Tryd.prog 56 (ro Tryd.f16 0)) = some a16_0 := by kernel_rfl
def a16_1 : List AO := [⟨(some 10), none, .mv (.t 0)⟩,
  ⟨(some 11), none, .call 28 [(.t 10)]⟩,
  ⟨(some 12), none, .un .not (.t 11)⟩,
  ⟨(some 13), none, .mv (.t 12)⟩,
  ⟨(some 14), some (13, false), .mv (.t 1)⟩,
  ⟨(some 15), some (13, false), .call 28 [(.t 14)]⟩,
  ⟨(some 16), some (13, false), .un .not (.t 15)⟩,
  ⟨(some 17), none, .pick (.t 13) (.v (.bool true)) (.t 16)⟩]
theorem tr16_1 : (ro Tryd.f16 1).toList.mapM (trO Tryd.prog 56 (ro Tryd.f16 1)) = some a16_1 := by kernel_rfl
def a16_2 : List AO := [⟨(some 4), none, .mv (.v (.int .i64 0))⟩,
  ⟨(some 5), none, .mv (.v (.int .i64 11))⟩]
theorem tr16_2 : (ro Tryd.f16 2).toList.mapM (trO Tryd.prog 56 (ro Tryd.f16 2)) = some a16_2 := by kernel_rfl
def a16_3 : List AO := [⟨(some 19), none, .mv (.t 0)⟩,
  ⟨(some 20), none, .call 30 [(.t 19)]⟩,
  ⟨(some 21), none, .mv (.t 1)⟩,
  ⟨(some 22), none, .call 30 [(.t 21)]⟩,
  ⟨(some 23), none, .call 29 [(.t 20), (.t 22), (.v (.int .u64 10000))]⟩,
  ⟨(some 18), none, .mv (.t 23)⟩,
  ⟨(some 24), none, .ext 0 (.t 18)⟩,
  ⟨(some 25), none, .ext 1 (.t 18)⟩,
  ⟨(some 26), none, .ext 2 (.t 18)⟩,
  ⟨(some 6), none, .mv (.t 24)⟩,
  ⟨(some 7), none, .mv (.t 25)⟩,
  ⟨(some 8), none, .mv (.t 26)⟩]
theorem tr16_3 : (ro Tryd.f16 3).toList.mapM (trO Tryd.prog 56 (ro Tryd.f16 3)) = some a16_3 := by kernel_rfl
def a16_4 : List AO := [⟨(some 27), none, .mv (.t 0)⟩,
  ⟨(some 28), none, .bin .lss (.t 27) (.v (.int .i64 0))⟩,
  ⟨(some 29), none, .mv (.t 1)⟩,
  ⟨(some 30), none, .bin .lss (.t 29) (.v (.int .i64 0))⟩,
  ⟨(some 31), none, .binb .neq (.t 28) (.t 30)⟩,
  ⟨(some 9), none, .mv (.t 31)⟩]
theorem tr16_4 : (ro Tryd.f16 4).toList.mapM (trO Tryd.prog 56 (ro Tryd.f16 4)) = some a16_4 := by kernel_rfl
def a16_5 : List AO := [⟨(some 32), none, .mv (.t 7)⟩,
  ⟨(some 33), none, .bin .gtr (.t 32) (.v (.int .u64 5000))⟩,
  ⟨(some 34), none, .mv (.t 33)⟩,
  ⟨(some 35), some (34, false), .mv (.t 7)⟩,
  ⟨(some 36), some (34, false), .bin .eql (.t 35) (.v (.int .u64 5000))⟩,
  ⟨(some 37), some (34, false), .mv (.t 36)⟩,
  ⟨(some 38), some (37, true), .mv (.t 9)⟩,
  ⟨(some 39), some (37, true), .un .not (.t 38)⟩,
  ⟨(some 40), some (34, false), .pick (.t 37) (.t 39) (.v (.bool false))⟩,
  ⟨(some 41), none, .pick (.t 34) (.v (.bool true)) (.t 40)⟩]
theorem tr16_5 : (ro Tryd.f16 5).toList.mapM (trO Tryd.prog 56 (ro Tryd.f16 5)) = some a16_5 := by kernel_rfl
def a16_6 : List AO := [⟨(some 42), none, .mv (.t 6)⟩,
  ⟨(some 43), none, .bin .add (.t 42) (.v (.int .u64 1))⟩,
  ⟨(some 6), none, .mv (.t 43)⟩]
theorem tr16_6 : (ro Tryd.f16 6).toList.mapM (trO Tryd.prog 56 (ro Tryd.f16 6)) = some a16_6 := by kernel_rfl
def a16_7 : List AO := [⟨(some 44), none, .mv (.t 8)⟩,
  ⟨(some 45), none, .un .not (.t 44)⟩,
  ⟨(some 46), none, .mv (.t 45)⟩,
  ⟨(some 47), some (46, false), .mv (.t 6)⟩,
  ⟨(some 48), some (46, false), .bin .gtr (.t 47) (.v (.int .u64 1099511627776))⟩,
  ⟨(some 49), none, .pick (.t 46) (.v (.bool true)) (.t 48)⟩]
theorem tr16_7 : (ro Tryd.f16 7).toList.mapM (trO Tryd.prog 56 (ro Tryd.f16 7)) = some a16_7 := by kernel_rfl
def a16_8 : List AO := [⟨(some 4), none, .mv (.v (.int .i64 0))⟩,
  ⟨(some 5), none, .mv (.v (.int .i64 11))⟩]
theorem tr16_8 : (ro Tryd.f16 8).toList.mapM (trO Tryd.prog 56 (ro Tryd.f16 8)) = some a16_8 := by kernel_rfl
def a16_9 : List AO := [⟨(some 50), none, .mv (.t 9)⟩]
theorem tr16_9 : (ro Tryd.f16 9).toList.mapM (trO Tryd.prog 56 (ro Tryd.f16 9)) = some a16_9 := by kernel_rfl
def a16_10 : List AO := [⟨(some 51), none, .mv (.t 6)⟩,
  ⟨(some 52), none, .conv .i64 (.t 51)⟩,
  ⟨(some 53), none, .un .neg (.t 52)⟩,
  ⟨(some 4), none, .mv (.t 53)⟩,
  ⟨(some 5), none, .mv (.v (.int .i64 0))⟩]
theorem tr16_10 : (ro Tryd.f16 10).toList.mapM (trO Tryd.prog 56 (ro Tryd.f16 10)) = some a16_10 := by kernel_rfl
def a16_11 : List AO := [⟨(some 54), none, .mv (.t 6)⟩,
  ⟨(some 55), none, .conv .i64 (.t 54)⟩,
  ⟨(some 4), none, .mv (.t 55)⟩,
  ⟨(some 5), none, .mv (.v (.int .i64 0))⟩]
theorem tr16_11 : (ro Tryd.f16 11).toList.mapM (trO Tryd.prog 56 (ro Tryd.f16 11)) = some a16_11 := by kernel_rfl
/-- airline/airlineref02.Percent -/
noncomputable def c17 : Code := .seq (.region 0 (ro Tryd.f17 0) false) (.seq (.seq (.region 1 (ro Tryd.f17 1) false) (.cond (.tmp 17) (.seq (.region 2 (ro Tryd.f17 2) false) (.ret)) (.skip))) (.seq (.region 3 (ro Tryd.f17 3) false) (.seq (.seq (.region 4 (ro Tryd.f17 4) false) (.cond (.tmp 32) (.seq (.region 5 (ro Tryd.f17 5) false) (.ret)) (.skip))) (.seq (.region 6 (ro Tryd.f17 6) false) (.seq (.seq (.region 7 (ro Tryd.f17 7) false) (.cond (.tmp 48) (.seq (.region 8 (ro Tryd.f17 8) false) (.ret)) (.skip))) (.seq (.region 9 (ro Tryd.f17 9) false) (.ret)))))))
theorem body17 : Tryd.f17.body = some c17 := by kernel_rfl
theorem res17 : Tryd.f17.results.toList.mapM (trR Tryd.prog) = some [.t 4, .t 5] := by kernel_rfl
theorem nt17 : Tryd.f17.ntmps = 54 := by kernel_rfl
theorem nm17 : (Tryd.f17.name == "runtime.NumGoroutine") = false := by kernel_rfl
def a17_0 : List AO := [⟨(some 4), none, .mv (.v (.int .i64 0))⟩,
  ⟨(some 5), none, .mv (.v (.int .i64 0))⟩]
theorem tr17_0 : (ro Tryd.f17 0).toList.mapM (trO Tryd.prog 54 (ro Tryd.f17 0)) = some a17_0 := by kernel_rfl
def a17_1 : List AO := [⟨(some 10), none, .mv (.t 0)⟩,
  ⟨(some 11), none, .call 26 [(.t 10)]⟩,
  ⟨(some 12), none, .un .not (.t 11)⟩,
  ⟨(some 13), none, .mv (.t 12)⟩,
  ⟨(some 14), some (13, false), .mv (.t 1)⟩,
  ⟨(some 15), some (13, false), .call 26 [(.t 14)]⟩,
  ⟨(some 16), some (13, false), .un .not (.t 15)⟩,
  ⟨(some 17), none, .pick (.t 13) (.v (.bool true)) (.t 16)⟩]
theorem tr17_1 : (ro Tryd.f17 1).toList.mapM (trO Tryd.prog 54 (ro Tryd.f17 1)) = some a17_1 := by kernel_rfl
def a17_2 : List AO := [⟨(some 4), none, .mv (.v (.int .i64 0))⟩,
  ⟨(some 5), none, .mv (.v (.int .i64 11))⟩]
theorem tr17_2 : (ro Tryd.f17 2).toList.mapM (trO Tryd.prog 54 (ro Tryd.f17 2)) = some a17_2 := by kernel_rfl
def a17_3 : List AO := [⟨(some 19), none, .mv (.t 1)⟩,
  ⟨(some 20), none, .call 31 [(.t 19), (.v (.int .i64 10000))]⟩,
  ⟨(some 18), none, .mv (.t 20)⟩,
  ⟨(some 21), none, .ext 0 (.t 18)⟩,
  ⟨(some 22), none, .ext 1 (.t 18)⟩,
  ⟨(some 6), none, .mv (.t 21)⟩,
  ⟨(some 7), none, .mv (.t 22)⟩]
theorem tr17_3 : (ro Tryd.f17 3).toList.mapM (trO Tryd.prog 54 (ro Tryd.f17 3)) = some a17_3 := by kernel_rfl
def a17_4 : List AO := [⟨(some 23), none, .mv (.t 0)⟩,
  ⟨(some 24), none, .bin .neq (.t 23) (.v (.int .i64 0))⟩,
  ⟨(some 25), none, .mv (.t 24)⟩,
  ⟨(some 26), some (25, true), .mv (.t 6)⟩,
  ⟨(some 27), some (25, true), .call 32 [(.t 26)]⟩,
  ⟨(some 28), some (25, true), .mv (.t 0)⟩,
  ⟨(some 29), some (25, true), .call 32 [(.t 28)]⟩,
  ⟨(some 30), some (25, true), .bin .quo (.v (.int .i64 2199023255552)) (.t 29)⟩,
  ⟨(some 31), some (25, true), .bin .gtr (.t 27) (.t 30)⟩,
  ⟨(some 32), none, .pick (.t 25) (.t 31) (.v (.bool false))⟩]
theorem tr17_4 : (ro Tryd.f17 4).toList.mapM (trO Tryd.prog 54 (ro Tryd.f17 4)) = some a17_4 := by kernel_rfl
def a17_5 : List AO := [⟨(some 4), none, .mv (.v (.int .i64 0))⟩,
  ⟨(some 5), none, .mv (.v (.int .i64 11))⟩]
theorem tr17_5 : (ro Tryd.f17 5).toList.mapM (trO Tryd.prog 54 (ro Tryd.f17 5)) = some a17_5 := by kernel_rfl
def a17_6 : List AO := [⟨(some 34), none, .mv (.t 0)⟩,
  ⟨(some 35), none, .bin .mul (.v (.int .i64 2)) (.t 34)⟩,
  ⟨(some 36), none, .mv (.t 7)⟩,
  ⟨(some 37), none, .bin .mul (.t 35) (.t 36)⟩,
  ⟨(some 38), none, .bin .add (.t 37) (.v (.int .i64 10000))⟩,
  ⟨(some 39), none, .call 31 [(.t 38), (.v (.int .i64 20000))]⟩,
  ⟨(some 33), none, .mv (.t 39)⟩,
  ⟨(some 40), none, .ext 0 (.t 33)⟩,
  ⟨(some 41), none, .ext 1 (.t 33)⟩,
  ⟨(some 8), none, .mv (.t 40)⟩,
  ⟨(some 9), none, .mv (.t 41)⟩]
theorem tr17_6 : (ro Tryd.f17 6).toList.mapM (trO Tryd.prog 54 (ro Tryd.f17 6)) = some a17_6 := by kernel_rfl
def a17_7 : List AO := [⟨(some 42), none, .mv (.t 0)⟩,
  ⟨(some 43), none, .mv (.t 6)⟩,
  ⟨(some 44), none, .bin .mul (.t 42) (.t 43)⟩,
  ⟨(some 45), none, .mv (.t 8)⟩,
  ⟨(some 46), none, .bin .add (.t 44) (.t 45)⟩,
  ⟨(some 47), none, .call 26 [(.t 46)]⟩,
  ⟨(some 48), none, .un .not (.t 47)⟩]
theorem tr17_7 : (ro Tryd.f17 7).toList.mapM (trO Tryd.prog 54 (ro Tryd.f17 7)) = some a17_7 := by kernel_rfl
def a17_8 : List AO := [⟨(some 4), none, .mv (.v (.int .i64 0))⟩,
  ⟨(some 5), none, .mv (.v (.int .i64 11))⟩]
theorem tr17_8 : (ro Tryd.f17 8).toList.mapM (trO Tryd.prog 54 (ro Tryd.f17 8)) = some a17_8 := by kernel_rfl
def a17_9 : List AO := [⟨(some 49), none, .mv (.t 0)⟩,
  ⟨(some 50), none, .mv (.t 6)⟩,
  ⟨(some 51), none, .bin .mul (.t 49) (.t 50)⟩,
  ⟨(some 52), none, .mv (.t 8)⟩,
  ⟨(some 53), none, .bin .add (.t 51) (.t 52)⟩,
  ⟨(some 4), none, .mv (.t 53)⟩,
  ⟨(some 5), none, .mv (.v (.int .i64 0))⟩]
theorem tr17_9 : (ro Tryd.f17 9).toList.mapM (trO Tryd.prog 54 (ro Tryd.f17 9)) = some a17_9 := by kernel_rfl
/-- airline/money.Up -/
noncomputable def c18 : Code := .seq (.region 0 (ro Tryd.f18 0) false) (.seq (.seq (.region 1 (ro Tryd.f18 1) false) (.cond (.tmp 8) (.seq (.region 2 (ro Tryd.f18 2) false) (.ret)) (.skip))) (.seq (.seq (.region 3 (ro Tryd.f18 3) false) (.cond (.tmp 11) (.seq (.region 4 (ro Tryd.f18 4) false) (.ret)) (.skip))) (.seq (.region 5 (ro Tryd.f18 5) false) (.seq (.seq (.region 6 (ro Tryd.f18 6) false) (.cond (.tmp 16) (.seq (.region 7 (ro Tryd.f18 7) false) (.ret)) (.skip))) (.seq (.seq (.region 8 (ro Tryd.f18 8) false) (.cond (.tmp 25) (.seq (.region 9 (ro Tryd.f18 9) false) (.ret)) (.skip))) (.seq (.region 10 (ro Tryd.f18 10) false) (.ret)))))))
theorem body18 : Tryd.f18.body = some c18 := by kernel_rfl
theorem res18 : Tryd.f18.results.toList.mapM (trR Tryd.prog) = some [.t 4, .t 5] := by kernel_rfl
theorem nt18 : Tryd.f18.ntmps = 31 := by kernel_rfl
theorem nm18 : (Tryd.f18.name == "runtime.NumGoroutine") = false := by kernel_rfl
def a18_0 : List AO := [⟨(some 4), none, .mv (.v (.int .i64 0))⟩,
  ⟨(some 5), none, .mv (.v (.int .i64 0))⟩]
theorem tr18_0 : (ro Tryd.f18 0).toList.mapM (trO Tryd.prog 31 (ro Tryd.f18 0)) = some a18_0 := by kernel_rfl
def a18_1 : List AO := [⟨(some 7), none, .mv (.t 1)⟩,
  ⟨(some 8), none, .bin .lss (.t 7) (.v (.int .i64 1))⟩]
theorem tr18_1 : (ro Tryd.f18 1).toList.mapM (trO Tryd.prog 31 (ro Tryd.f18 1)) = some a18_1 := by kernel_rfl
def a18_2 : List AO := [⟨(some 4), none, .mv (.v (.int .i64 0))⟩,
  ⟨(some 5), none, .mv (.v (.int .i64 2))⟩]
theorem tr18_2 : (ro Tryd.f18 2).toList.mapM (trO Tryd.prog 31 (ro Tryd.f18 2)) = some a18_2 := by kernel_rfl
def a18_3 : List AO := [⟨(some 9), none, .mv (.t 0)⟩,
  ⟨(some 10), none, .call 28 [(.t 9)]⟩,
  ⟨(some 11), none, .un .not (.t 10)⟩]
theorem tr18_3 : (ro Tryd.f18 3).toList.mapM (trO Tryd.prog 31 (ro Tryd.f18 3)) = some a18_3 := by kernel_rfl
def a18_4 : List AO := [⟨(some 4), none, .mv (.v (.int .i64 0))⟩,
  ⟨(some 5), none, .mv (.v (.int .i64 11))⟩]
theorem tr18_4 : (ro Tryd.f18 4).toList.mapM (trO Tryd.prog 31 (ro Tryd.f18 4)) = some a18_4 := by kernel_rfl
def a18_5 : List AO := [⟨(some 12), none, .mv (.t 0)⟩,
  ⟨(some 13), none, .mv (.t 1)⟩,
  ⟨(some 14), none, .bin .rem (.t 12) (.t 13)⟩,
  ⟨(some 6), none, .mv (.t 14)⟩]
theorem tr18_5 : (ro Tryd.f18 5).toList.mapM (trO Tryd.prog 31 (ro Tryd.f18 5)) = some a18_5 := by kernel_rfl
def a18_6 : List AO := [⟨(some 15), none, .mv (.t 6)⟩,
  ⟨(some 16), none, .bin .leq (.t 15) (.v (.int .i64 0))⟩]
theorem tr18_6 : (ro Tryd.f18 6).toList.mapM (trO Tryd.prog 31 (ro Tryd.f18 6)) = some a18_6 := by kernel_rfl
def a18_7 : List AO := [⟨(some 17), none, .mv (.t 0)⟩,
  ⟨(some 18), none, .mv (.t 6)⟩,
  ⟨(some 19), none, .bin .sub (.t 17) (.t 18)⟩,
  ⟨(some 4), none, .mv (.t 19)⟩,
  ⟨(some 5), none, .mv (.v (.int .i64 0))⟩]
theorem tr18_7 : (ro Tryd.f18 7).toList.mapM (trO Tryd.prog 31 (ro Tryd.f18 7)) = some a18_7 := by kernel_rfl
def a18_8 : List AO := [⟨(some 20), none, .mv (.t 1)⟩,
  ⟨(some 21), none, .mv (.t 6)⟩,
  ⟨(some 22), none, .bin .sub (.t 20) (.t 21)⟩,
  ⟨(some 23), none, .mv (.t 0)⟩,
  ⟨(some 24), none, .bin .sub (.v (.int .i64 1099511627776)) (.t 23)⟩,
  ⟨(some 25), none, .bin .gtr (.t 22) (.t 24)⟩]
theorem tr18_8 : (ro Tryd.f18 8).toList.mapM (trO Tryd.prog 31 (ro Tryd.f18 8)) = some a18_8 := by kernel_rfl
def a18_9 : List AO := [⟨(some 4), none, .mv (.v (.int .i64 0))⟩,
  ⟨(some 5), none, .mv (.v (.int .i64 11))⟩]
theorem tr18_9 : (ro Tryd.f18 9).toList.mapM (trO Tryd.prog 31 (ro Tryd.f18 9)) = some a18_9 := by kernel_rfl
def a18_10 : List AO := [⟨(some 26), none, .mv (.t 0)⟩,
  ⟨(some 27), none, .mv (.t 1)⟩,
  ⟨(some 28), none, .mv (.t 6)⟩,
  ⟨(some 29), none, .bin .sub (.t 27) (.t 28)⟩,
  ⟨(some 30), none, .bin .add (.t 26) (.t 29)⟩,
  ⟨(some 4), none, .mv (.t 30)⟩,
  ⟨(some 5), none, .mv (.v (.int .i64 0))⟩]
theorem tr18_10 : (ro Tryd.f18 10).toList.mapM (trO Tryd.prog 31 (ro Tryd.f18 10)) = some a18_10 := by kernel_rfl
/-- airline/airlineref02.Up -/
noncomputable def c19 : Code := .seq (.region 0 (ro Tryd.f19 0) false) (.seq (.seq (.region 1 (ro Tryd.f19 1) false) (.cond (.tmp 9) (.seq (.region 2 (ro Tryd.f19 2) false) (.ret)) (.skip))) (.seq (.seq (.region 3 (ro Tryd.f19 3) false) (.cond (.tmp 12) (.seq (.region 4 (ro Tryd.f19 4) false) (.ret)) (.skip))) (.seq (.region 5 (ro Tryd.f19 5) false) (.seq (.seq (.region 6 (ro Tryd.f19 6) false) (.cond (.tmp 20) (.region 7 (ro Tryd.f19 7) false) (.skip))) (.seq (.seq (.region 8 (ro Tryd.f19 8) false) (.cond (.tmp 27) (.seq (.region 9 (ro Tryd.f19 9) false) (.ret)) (.skip))) (.seq (.region 10 (ro Tryd.f19 10) false) (.ret)))))))
theorem body19 : Tryd.f19.body = some c19 := by kernel_rfl
theorem res19 : Tryd.f19.results.toList.mapM (trR Tryd.prog) = some [.t 4, .t 5] := by kernel_rfl
theorem nt19 : Tryd.f19.ntmps = 31 := by kernel_rfl
theorem nm19 : (Tryd.f19.name == "runtime.NumGoroutine") = false := by kernel_rfl
def a19_0 : List AO := [⟨(some 4), none, .mv (.v (.int .i64 0))⟩,
  ⟨(some 5), none, .mv (.v (.int .i64 0))⟩]
theorem tr19_0 : (ro Tryd.f19 0).toList.mapM (trO Tryd.prog 31 (ro Tryd.f19 0)) = some a19_0 := by kernel_rfl
def a19_1 : List AO := [⟨(some 8), none, .mv (.t 1)⟩,
  ⟨(some 9), none, .bin .lss (.t 8) (.v (.int .i64 1))⟩]
theorem tr19_1 : (ro Tryd.f19 1).toList.mapM (trO Tryd.prog 31 (ro Tryd.f19 1)) = some a19_1 := by kernel_rfl
def a19_2 : List AO := [⟨(some 4), none, .mv (.v (.int .i64 0))⟩,
  ⟨(some 5), none, .mv (.v (.int .i64 2))⟩]
theorem tr19_2 : (ro Tryd.f19 2).toList.mapM (trO Tryd.prog 31 (ro Tryd.f19 2)) = some a19_2 := by kernel_rfl
def a19_3 : List AO := [⟨(some 10), none, .mv (.t 0)⟩,
  ⟨(some 11), none, .call 26 [(.t 10)]⟩,
  ⟨(some 12), none, .un .not (.t 11)⟩]
theorem tr19_3 : (ro Tryd.f19 3).toList.mapM (trO Tryd.prog 31 (ro Tryd.f19 3)) = some a19_3 := by kernel_rfl
def a19_4 : List AO := [⟨(some 4), none, .mv (.v (.int .i64 0))⟩,
  ⟨(some 5), none, .mv (.v (.int .i64 11))⟩]
theorem tr19_4 : (ro Tryd.f19 4).toList.mapM (trO Tryd.prog 31 (ro Tryd.f19 4)) = some a19_4 := by kernel_rfl
def a19_5 : List AO := [⟨(some 14), none, .mv (.t 0)⟩,
  ⟨(some 15), none, .mv (.t 1)⟩,
  ⟨(some 16), none, .call 31 [(.t 14), (.t 15)]⟩,
  ⟨(some 13), none, .mv (.t 16)⟩,
  ⟨(some 17), none, .ext 0 (.t 13)⟩,
  ⟨(some 18), none, .ext 1 (.t 13)⟩,
  ⟨(some 6), none, .mv (.t 17)⟩,
  ⟨(some 7), none, .mv (.t 18)⟩]
theorem tr19_5 : (ro Tryd.f19 5).toList.mapM (trO Tryd.prog 31 (ro Tryd.f19 5)) = some a19_5 := by kernel_rfl
def a19_6 : List AO := [⟨(some 19), none, .mv (.t 7)⟩,
  ⟨(some 20), none, .bin .gtr (.t 19) (.v (.int .i64 0))⟩]
theorem tr19_6 : (ro Tryd.f19 6).toList.mapM (trO Tryd.prog 31 (ro Tryd.f19 6)) = some a19_6 := by kernel_rfl
def a19_7 : List AO := [⟨(some 21), none, .mv (.t 6)⟩,
  ⟨(some 22), none, .bin .add (.t 21) (.v (.int .i64 1))⟩,
  ⟨(some 6), none, .mv (.t 22)⟩]
theorem tr19_7 : (ro Tryd.f19 7).toList.mapM (trO Tryd.prog 31 (ro Tryd.f19 7)) = some a19_7 := by kernel_rfl
def a19_8 : List AO := [⟨(some 23), none, .mv (.t 6)⟩,
  ⟨(some 24), none, .mv (.t 1)⟩,
  ⟨(some 25), none, .bin .mul (.t 23) (.t 24)⟩,
  ⟨(some 26), none, .call 26 [(.t 25)]⟩,
  ⟨(some 27), none, .un .not (.t 26)⟩]
theorem tr19_8 : (ro Tryd.f19 8).toList.mapM (trO Tryd.prog 31 (ro Tryd.f19 8)) = some a19_8 := by kernel_rfl
def a19_9 : List AO := [⟨(some 4), none, .mv (.v (.int .i64 0))⟩,
  ⟨(some 5), none, .mv (.v (.int .i64 11))⟩]
theorem tr19_9 : (ro Tryd.f19 9).toList.mapM (trO Tryd.prog 31 (ro Tryd.f19 9)) = some a19_9 := by kernel_rfl
def a19_10 : List AO := [⟨(some 28), none, .mv (.t 6)⟩,
  ⟨(some 29), none, .mv (.t 1)⟩,
  ⟨(some 30), none, .bin .mul (.t 28) (.t 29)⟩,
  ⟨(some 4), none, .mv (.t 30)⟩,
  ⟨(some 5), none, .mv (.v (.int .i64 0))⟩]
theorem tr19_10 : (ro Tryd.f19 10).toList.mapM (trO Tryd.prog 31 (ro Tryd.f19 10)) = some a19_10 := by kernel_rfl
/-- airline/money.Split -/
noncomputable def c20 : Code := .seq (.region 0 (ro Tryd.f20 0) false) (.seq (.region 1 (ro Tryd.f20 1) false) (.seq (.seq (.region 2 (ro Tryd.f20 2) false) (.cond (.tmp 28) (.seq (.region 3 (ro Tryd.f20 3) false) (.ret)) (.skip))) (.seq (.seq (.region 4 (ro Tryd.f20 4) false) (.cond (.tmp 36) (.seq (.region 5 (ro Tryd.f20 5) false) (.ret)) (.skip))) (.seq (.region 6 (ro Tryd.f20 6) false) (.seq (.seq (.region 7 (ro Tryd.f20 7) false) (.cond (.tmp 41) (.region 8 (ro Tryd.f20 8) false) (.skip))) (.seq (.region 9 (ro Tryd.f20 9) true) (.seq (.region 10 (ro Tryd.f20 10) false) (.seq (.seq (.region 11 (ro Tryd.f20 11) false) (.block 0 (.loop (.seq (.region 12 (ro Tryd.f20 12) false) (.seq (.cond (.tmp 52) (.skip) (.exit 0)) (.seq (.block 1 (.seq (.region 13 (ro Tryd.f20 13) false) (.seq (.region 14 (ro Tryd.f20 14) false) (.seq (.region 15 (ro Tryd.f20 15) false) (.region 16 (ro Tryd.f20 16) false))))) (.region 17 (ro Tryd.f20 17) false))))))) (.seq (.region 18 (ro Tryd.f20 18) false) (.seq (.seq (.region 19 (ro Tryd.f20 19) false) (.block 2 (.loop (.seq (.region 20 (ro Tryd.f20 20) false) (.seq (.cond (.tmp 83) (.skip) (.exit 2)) (.seq (.block 3 (.seq (.region 21 (ro Tryd.f20 21) false) (.region 22 (ro Tryd.f20 22) false))) (.region 23 (ro Tryd.f20 23) false))))))) (.seq (.region 24 (ro Tryd.f20 24) false) (.seq (.seq (.region 25 (ro Tryd.f20 25) false) (.block 4 (.loop (.seq (.region 26 (ro Tryd.f20 26) false) (.seq (.cond (.tmp 97) (.skip) (.exit 4)) (.seq (.block 5 (.seq (.region 27 (ro Tryd.f20 27) false) (.seq (.region 28 (ro Tryd.f20 28) false) (.cond (.tmp 101) (.region 29 (ro Tryd.f20 29) false) (.skip))))) (.region 30 (ro Tryd.f20 30) false))))))) (.seq (.region 31 (ro Tryd.f20 31) false) (.ret))))))))))))))
theorem body20 : Tryd.f20.body = some c20 := by kernel_rfl
theorem res20 : Tryd.f20.results.toList.mapM (trR Tryd.prog) = some [.t 4, .t 5] := by kernel_rfl
theorem nt20 : Tryd.f20.ntmps = 107 := by kernel_rfl
theorem nm20 : (Tryd.f20.name == "runtime.NumGoroutine") = false := by kernel_rfl
def a20_0 : List AO := [⟨(some 4), none, .mv (.v .nils)⟩,
  ⟨(some 5), none, .mv (.v (.int .i64 0))⟩]
theorem tr20_0 : (ro Tryd.f20 0).toList.mapM (trO Tryd.prog 107 (ro Tryd.f20 0)) = some a20_0 := by kernel_rfl
def a20_1 : List AO := [⟨(some 23), none, .mv (.t 1)⟩,
  ⟨(some 24), none, .call 33 [(.t 23)]⟩,
  ⟨(some 22), none, .mv (.t 24)⟩,
  ⟨(some 25), none, .ext 0 (.t 22)⟩,
  ⟨(some 26), none, .ext 1 (.t 22)⟩,
  ⟨(some 6), none, .mv (.t 25)⟩,
  ⟨(some 7), none, .mv (.t 26)⟩]
theorem tr20_1 : (ro Tryd.f20 1).toList.mapM (trO Tryd.prog 107 (ro Tryd.f20 1)) = some a20_1 := by kernel_rfl
def a20_2 : List AO := [⟨(some 27), none, .mv (.t 7)⟩,
  ⟨(some 28), none, .bin .neq (.t 27) (.v (.int .i64 0))⟩]
theorem tr20_2 : (ro Tryd.f20 2).toList.mapM (trO Tryd.prog 107 (ro Tryd.f20 2)) = some a20_2 := by kernel_rfl
def a20_3 : List AO := [⟨(some 29), none, .mv (.t 7)⟩,
  ⟨(some 4), none, .mv (.v .nils)⟩,
  ⟨(some 5), none, .mv (.t 29)⟩]
theorem tr20_3 : (ro Tryd.f20 3).toList.mapM (trO Tryd.prog 107 (ro Tryd.f20 3)) = some a20_3 := by kernel_rfl
def a20_4 : List AO := [⟨(some 30), none, .mv (.t 0)⟩,
  ⟨(some 31), none, .call 28 [(.t 30)]⟩,
  ⟨(some 32), none, .un .not (.t 31)⟩,
  ⟨(some 33), none, .mv (.t 32)⟩,
  ⟨(some 34), some (33, false), .mv (.t 6)⟩,
  ⟨(some 35), some (33, false), .bin .gtr (.t 34) (.v (.int .i64 1099511627776))⟩,
  ⟨(some 36), none, .pick (.t 33) (.v (.bool true)) (.t 35)⟩]
theorem tr20_4 : (ro Tryd.f20 4).toList.mapM (trO Tryd.prog 107 (ro Tryd.f20 4)) = some a20_4 := by kernel_rfl
def a20_5 : List AO := [⟨(some 4), none, .mv (.v .nils)⟩,
  ⟨(some 5), none, .mv (.v (.int .i64 11))⟩]
theorem tr20_5 : (ro Tryd.f20 5).toList.mapM (trO Tryd.prog 107 (ro Tryd.f20 5)) = some a20_5 := by kernel_rfl
def a20_6 : List AO := [⟨(some 37), none, .mv (.t 0)⟩,
  ⟨(some 38), none, .call 30 [(.t 37)]⟩,
  ⟨(some 39), none, .conv .i64 (.t 38)⟩,
  ⟨(some 8), none, .alloc 3 [(.int .i64 0)]⟩,
  ⟨(some 9), none, .alloc 3 [(.int .i64 0)]⟩,
  ⟨none, none, .store 1 (.t 8) (.t 39)⟩,
  ⟨none, none, .store 1 (.t 9) (.v (.int .i64 1))⟩]
theorem tr20_6 : (ro Tryd.f20 6).toList.mapM (trO Tryd.prog 107 (ro Tryd.f20 6)) = some a20_6 := by kernel_rfl
def a20_7 : List AO := [⟨(some 40), none, .mv (.t 0)⟩,
  ⟨(some 41), none, .bin .lss (.t 40) (.v (.int .i64 0))⟩]
theorem tr20_7 : (ro Tryd.f20 7).toList.mapM (trO Tryd.prog 107 (ro Tryd.f20 7)) = some a20_7 := by kernel_rfl
def a20_8 : List AO := [⟨none, none, .store 1 (.t 9) (.v (.int .i64 (-1)))⟩]
theorem tr20_8 : (ro Tryd.f20 8).toList.mapM (trO Tryd.prog 107 (ro Tryd.f20 8)) = some a20_8 := by kernel_rfl
def a20_9 : List AO := [⟨(some 42), none, .mv (.t 1)⟩,
  ⟨(some 43), none, .len (.t 42)⟩,
  ⟨(some 44), none, .mks 3 1 8 [(.int .i64 0)] (.t 43) (.t 43)⟩,
  ⟨(some 45), none, .mv (.t 1)⟩,
  ⟨(some 46), none, .len (.t 45)⟩,
  ⟨(some 47), none, .mks 40 1 8 [(.int .u64 0)] (.t 46) (.t 46)⟩,
  ⟨(some 10), none, .alloc 22 [.nils]⟩,
  ⟨(some 11), none, .alloc 48 [.nils]⟩,
  ⟨none, none, .store 1 (.t 10) (.t 44)⟩,
  ⟨none, none, .store 1 (.t 11) (.t 47)⟩]
theorem tr20_9 : (ro Tryd.f20 9).toList.mapM (trO Tryd.prog 107 (ro Tryd.f20 9)) = some a20_9 := by kernel_rfl
def d20_9 : List (List Nat) := [[], [0], [0, 1], [], [3], [3, 4], [], [], [0, 1, 2, 6, 7], [0, 1, 2, 3, 4, 5, 6, 7, 8]]
theorem ok20_9 : okReg (ro Tryd.f20 9) a20_9 d20_9 = true := by kernel_rfl
def a20_10 : List AO := [⟨(some 48), none, .mkfn 34 [(.t 10), (.t 9), (.t 8)]⟩,
  ⟨(some 12), none, .mv (.t 48)⟩]
theorem tr20_10 : (ro Tryd.f20 10).toList.mapM (trO Tryd.prog 107 (ro Tryd.f20 10)) = some a20_10 := by kernel_rfl
def a20_11 : List AO := [⟨(some 49), none, .mv (.t 1)⟩,
  ⟨(some 50), none, .len (.t 49)⟩,
  ⟨(some 51), none, .mv (.v (.int .i64 0))⟩]
theorem tr20_11 : (ro Tryd.f20 11).toList.mapM (trO Tryd.prog 107 (ro Tryd.f20 11)) = some a20_11 := by kernel_rfl
def a20_12 : List AO := [⟨(some 52), none, .bin .lss (.t 51) (.t 50)⟩]
theorem tr20_12 : (ro Tryd.f20 12).toList.mapM (trO Tryd.prog 107 (ro Tryd.f20 12)) = some a20_12 := by kernel_rfl
def a20_13 : List AO := [⟨(some 53), none, .mv (.t 51)⟩,
  ⟨(some 54), none, .idx 1 (.t 49) (.t 51)⟩,
  ⟨(some 55), none, .load none (.t 54)⟩,
  ⟨(some 13), none, .mv (.t 53)⟩,
  ⟨(some 14), none, .mv (.t 55)⟩]
theorem tr20_13 : (ro Tryd.f20 13).toList.mapM (trO Tryd.prog 107 (ro Tryd.f20 13)) = some a20_13 := by kernel_rfl
def a20_14 : List AO := [⟨(some 57), none, .mv (.t 0)⟩,
  ⟨(some 58), none, .call 30 [(.t 57)]⟩,
  ⟨(some 59), none, .mv (.t 14)⟩,
  ⟨(some 60), none, .conv .u64 (.t 59)⟩,
  ⟨(some 61), none, .mv (.t 6)⟩,
  ⟨(some 62), none, .conv .u64 (.t 61)⟩,
  ⟨(some 63), none, .call 29 [(.t 58), (.t 60), (.t 62)]⟩,
  ⟨(some 56), none, .mv (.t 63)⟩,
  ⟨(some 64), none, .ext 0 (.t 56)⟩,
  ⟨(some 65), none, .ext 1 (.t 56)⟩,
  ⟨(some 66), none, .ext 2 (.t 56)⟩,
  ⟨(some 15), none, .mv (.t 64)⟩,
  ⟨(some 16), none, .mv (.t 65)⟩,
  ⟨(some 17), none, .mv (.t 66)⟩]
theorem tr20_14 : (ro Tryd.f20 14).toList.mapM (trO Tryd.prog 107 (ro Tryd.f20 14)) = some a20_14 := by kernel_rfl
def a20_15 : List AO := [⟨(some 67), none, .load none (.t 11)⟩,
  ⟨(some 68), none, .mv (.t 13)⟩,
  ⟨(some 69), none, .mv (.t 16)⟩,
  ⟨(some 70), none, .idx 1 (.t 67) (.t 68)⟩,
  ⟨none, none, .store 1 (.t 70) (.t 69)⟩]
theorem tr20_15 : (ro Tryd.f20 15).toList.mapM (trO Tryd.prog 107 (ro Tryd.f20 15)) = some a20_15 := by kernel_rfl
def a20_16 : List AO := [⟨(some 71), none, .mv (.t 12)⟩,
  ⟨(some 72), none, .mv (.t 13)⟩,
  ⟨(some 73), none, .mv (.t 15)⟩,
  ⟨(some 74), none, .conv .i64 (.t 73)⟩,
  ⟨(some 75), none, .callv (.t 71) [(.t 72), (.t 74)]⟩]
theorem tr20_16 : (ro Tryd.f20 16).toList.mapM (trO Tryd.prog 107 (ro Tryd.f20 16)) = some a20_16 := by kernel_rfl
def a20_17 : List AO := [⟨(some 76), none, .bin .add (.t 51) (.v (.int .i64 1))⟩,
  ⟨(some 51), none, .mv (.t 76)⟩]
theorem tr20_17 : (ro Tryd.f20 17).toList.mapM (trO Tryd.prog 107 (ro Tryd.f20 17)) = some a20_17 := by kernel_rfl
def a20_18 : List AO := [⟨(some 77), none, .mv (.t 1)⟩,
  ⟨(some 78), none, .len (.t 77)⟩,
  ⟨(some 79), none, .mks 3 1 8 [(.int .i64 0)] (.t 78) (.t 78)⟩,
  ⟨(some 18), none, .alloc 22 [.nils]⟩,
  ⟨none, none, .store 1 (.t 18) (.t 79)⟩]
theorem tr20_18 : (ro Tryd.f20 18).toList.mapM (trO Tryd.prog 107 (ro Tryd.f20 18)) = some a20_18 := by kernel_rfl
def a20_19 : List AO := [⟨(some 80), none, .load none (.t 18)⟩,
  ⟨(some 81), none, .len (.t 80)⟩,
  ⟨(some 82), none, .mv (.v (.int .i64 0))⟩]
theorem tr20_19 : (ro Tryd.f20 19).toList.mapM (trO Tryd.prog 107 (ro Tryd.f20 19)) = some a20_19 := by kernel_rfl
def a20_20 : List AO := [⟨(some 83), none, .bin .lss (.t 82) (.t 81)⟩]
theorem tr20_20 : (ro Tryd.f20 20).toList.mapM (trO Tryd.prog 107 (ro Tryd.f20 20)) = some a20_20 := by kernel_rfl
def a20_21 : List AO := [⟨(some 84), none, .mv (.t 82)⟩,
  ⟨(some 19), none, .mv (.t 84)⟩]
theorem tr20_21 : (ro Tryd.f20 21).toList.mapM (trO Tryd.prog 107 (ro Tryd.f20 21)) = some a20_21 := by kernel_rfl
def a20_22 : List AO := [⟨(some 85), none, .load none (.t 18)⟩,
  ⟨(some 86), none, .mv (.t 19)⟩,
  ⟨(some 87), none, .mv (.t 19)⟩,
  ⟨(some 88), none, .idx 1 (.t 85) (.t 86)⟩,
  ⟨none, none, .store 1 (.t 88) (.t 87)⟩]
theorem tr20_22 : (ro Tryd.f20 22).toList.mapM (trO Tryd.prog 107 (ro Tryd.f20 22)) = some a20_22 := by kernel_rfl
def a20_23 : List AO := [⟨(some 89), none, .bin .add (.t 82) (.v (.int .i64 1))⟩,
  ⟨(some 82), none, .mv (.t 89)⟩]
theorem tr20_23 : (ro Tryd.f20 23).toList.mapM (trO Tryd.prog 107 (ro Tryd.f20 23)) = some a20_23 := by kernel_rfl
def a20_24 : List AO := [⟨(some 90), none, .load none (.t 18)⟩,
  ⟨(some 91), none, .mki 22 (.t 90)⟩,
  ⟨(some 92), none, .mkfn 36 [(.t 11), (.t 18)]⟩,
  ⟨(some 93), none, .call 35 [(.t 91), (.t 92)]⟩]
theorem tr20_24 : (ro Tryd.f20 24).toList.mapM (trO Tryd.prog 107 (ro Tryd.f20 24)) = some a20_24 := by kernel_rfl
def a20_25 : List AO := [⟨(some 94), none, .load none (.t 18)⟩,
  ⟨(some 95), none, .len (.t 94)⟩,
  ⟨(some 96), none, .mv (.v (.int .i64 0))⟩]
theorem tr20_25 : (ro Tryd.f20 25).toList.mapM (trO Tryd.prog 107 (ro Tryd.f20 25)) = some a20_25 := by kernel_rfl
def a20_26 : List AO := [⟨(some 97), none, .bin .lss (.t 96) (.t 95)⟩]
theorem tr20_26 : (ro Tryd.f20 26).toList.mapM (trO Tryd.prog 107 (ro Tryd.f20 26)) = some a20_26 := by kernel_rfl
def a20_27 : List AO := [⟨(some 98), none, .idx 1 (.t 94) (.t 96)⟩,
  ⟨(some 99), none, .load none (.t 98)⟩,
  ⟨(some 21), none, .mv (.t 99)⟩]
theorem tr20_27 : (ro Tryd.f20 27).toList.mapM (trO Tryd.prog 107 (ro Tryd.f20 27)) = some a20_27 := by kernel_rfl
def a20_28 : List AO := [⟨(some 100), none, .load none (.t 8)⟩,
  ⟨(some 101), none, .bin .gtr (.t 100) (.v (.int .i64 0))⟩]
theorem tr20_28 : (ro Tryd.f20 28).toList.mapM (trO Tryd.prog 107 (ro Tryd.f20 28)) = some a20_28 := by kernel_rfl
def a20_29 : List AO := [⟨(some 102), none, .mv (.t 12)⟩,
  ⟨(some 103), none, .mv (.t 21)⟩,
  ⟨(some 104), none, .callv (.t 102) [(.t 103), (.v (.int .i64 1))]⟩]
theorem tr20_29 : (ro Tryd.f20 29).toList.mapM (trO Tryd.prog 107 (ro Tryd.f20 29)) = some a20_29 := by kernel_rfl
def a20_30 : List AO := [⟨(some 105), none, .bin .add (.t 96) (.v (.int .i64 1))⟩,
  ⟨(some 96), none, .mv (.t 105)⟩]
theorem tr20_30 : (ro Tryd.f20 30).toList.mapM (trO Tryd.prog 107 (ro Tryd.f20 30)) = some a20_30 := by kernel_rfl
def a20_31 : List AO := [⟨(some 106), none, .load none (.t 10)⟩,
  ⟨(some 4), none, .mv (.t 106)⟩,
  ⟨(some 5), none, .mv (.v (.int .i64 0))⟩]
theorem tr20_31 : (ro Tryd.f20 31).toList.mapM (trO Tryd.prog 107 (ro Tryd.f20 31)) = some a20_31 := by kernel_rfl
/-- airline/airlineref02.Split -/
noncomputable def c21 : Code := .seq (.region 0 (ro Tryd.f21 0) false) (.seq (.region 1 (ro Tryd.f21 1) false) (.seq (.seq (.region 2 (ro Tryd.f21 2) false) (.cond (.tmp 22) (.seq (.region 3 (ro Tryd.f21 3) false) (.ret)) (.skip))) (.seq (.seq (.region 4 (ro Tryd.f21 4) false) (.cond (.tmp 26) (.seq (.region 5 (ro Tryd.f21 5) false) (.ret)) (.skip))) (.seq (.region 6 (ro Tryd.f21 6) false) (.seq (.region 7 (ro Tryd.f21 7) false) (.seq (.seq (.region 8 (ro Tryd.f21 8) false) (.block 0 (.loop (.seq (.seq (.region 9 (ro Tryd.f21 9) false) (.cond (.tmp 32) (.skip) (.exit 0))) (.seq (.block 1 (.seq (.region 11 (ro Tryd.f21 11) true) (.seq (.region 12 (ro Tryd.f21 12) false) (.seq (.region 13 (ro Tryd.f21 13) false) (.region 14 (ro Tryd.f21 14) false))))) (.region 10 (ro Tryd.f21 10) false)))))) (.seq (.block 2 (.loop (.seq (.seq (.region 15 (ro Tryd.f21 15) false) (.cond (.tmp 58) (.skip) (.exit 2))) (.block 3 (.seq (.region 16 (ro Tryd.f21 16) false) (.seq (.region 17 (ro Tryd.f21 17) false) (.seq (.region 18 (ro Tryd.f21 18) false) (.region 19 (ro Tryd.f21 19) false)))))))) (.seq (.seq (.region 20 (ro Tryd.f21 20) false) (.block 4 (.loop (.seq (.seq (.region 21 (ro Tryd.f21 21) false) (.cond (.tmp 75) (.skip) (.exit 4))) (.seq (.block 5 (.seq (.region 23 (ro Tryd.f21 23) false) (.cond (.tmp 79) (.region 24 (ro Tryd.f21 24) false) (.skip)))) (.region 22 (ro Tryd.f21 22) false)))))) (.seq (.region 25 (ro Tryd.f21 25) false) (.ret))))))))))
theorem body21 : Tryd.f21.body = some c21 := by kernel_rfl
theorem res21 : Tryd.f21.results.toList.mapM (trR Tryd.prog) = some [.t 4, .t 5] := by kernel_rfl
theorem nt21 : Tryd.f21.ntmps = 89 := by kernel_rfl
theorem nm21 : (Tryd.f21.name == "runtime.NumGoroutine") = false := by kernel_rfl
def a21_0 : List AO := [⟨(some 4), none, .mv (.v .nils)⟩,
  ⟨(some 5), none, .mv (.v (.int .i64 0))⟩]
theorem tr21_0 : (ro Tryd.f21 0).toList.mapM (trO Tryd.prog 89 (ro Tryd.f21 0)) = some a21_0 := by kernel_rfl
def a21_1 : List AO := [⟨(some 17), none, .mv (.t 1)⟩,
  ⟨(some 18), none, .call 37 [(.t 17)]⟩,
  ⟨(some 16), none, .mv (.t 18)⟩,
  ⟨(some 19), none, .ext 0 (.t 16)⟩,
  ⟨(some 20), none, .ext 1 (.t 16)⟩,
  ⟨(some 6), none, .mv (.t 19)⟩,
  ⟨(some 7), none, .mv (.t 20)⟩]
theorem tr21_1 : (ro Tryd.f21 1).toList.mapM (trO Tryd.prog 89 (ro Tryd.f21 1)) = some a21_1 := by kernel_rfl
def a21_2 : List AO := [⟨(some 21), none, .mv (.t 7)⟩,
  ⟨(some 22), none, .bin .neq (.t 21) (.v (.int .i64 0))⟩]
theorem tr21_2 : (ro Tryd.f21 2).toList.mapM (trO Tryd.prog 89 (ro Tryd.f21 2)) = some a21_2 := by kernel_rfl
def a21_3 : List AO := [⟨(some 23), none, .mv (.t 7)⟩,
  ⟨(some 4), none, .mv (.v .nils)⟩,
  ⟨(some 5), none, .mv (.t 23)⟩]
theorem tr21_3 : (ro Tryd.f21 3).toList.mapM (trO Tryd.prog 89 (ro Tryd.f21 3)) = some a21_3 := by kernel_rfl
def a21_4 : List AO := [⟨(some 24), none, .mv (.t 0)⟩,
  ⟨(some 25), none, .call 26 [(.t 24)]⟩,
  ⟨(some 26), none, .un .not (.t 25)⟩]
theorem tr21_4 : (ro Tryd.f21 4).toList.mapM (trO Tryd.prog 89 (ro Tryd.f21 4)) = some a21_4 := by kernel_rfl
def a21_5 : List AO := [⟨(some 4), none, .mv (.v .nils)⟩,
  ⟨(some 5), none, .mv (.v (.int .i64 11))⟩]
theorem tr21_5 : (ro Tryd.f21 5).toList.mapM (trO Tryd.prog 89 (ro Tryd.f21 5)) = some a21_5 := by kernel_rfl
def a21_6 : List AO := [⟨(some 8), none, .mv (.v .nils)⟩,
  ⟨(some 9), none, .mv (.v .nils)⟩]
theorem tr21_6 : (ro Tryd.f21 6).toList.mapM (trO Tryd.prog 89 (ro Tryd.f21 6)) = some a21_6 := by kernel_rfl
def a21_7 : List AO := [⟨(some 27), none, .mv (.t 0)⟩,
  ⟨(some 28), none, .call 32 [(.t 27)]⟩,
  ⟨(some 10), none, .mv (.t 28)⟩]
theorem tr21_7 : (ro Tryd.f21 7).toList.mapM (trO Tryd.prog 89 (ro Tryd.f21 7)) = some a21_7 := by kernel_rfl
def a21_8 : List AO := [⟨(some 11), none, .mv (.v (.int .i64 0))⟩]
theorem tr21_8 : (ro Tryd.f21 8).toList.mapM (trO Tryd.prog 89 (ro Tryd.f21 8)) = some a21_8 := by kernel_rfl
def a21_9 : List AO := [⟨(some 29), none, .mv (.t 11)⟩,
  ⟨(some 30), none, .mv (.t 1)⟩,
  ⟨(some 31), none, .len (.t 30)⟩,
  ⟨(some 32), none, .bin .lss (.t 29) (.t 31)⟩]
theorem tr21_9 : (ro Tryd.f21 9).toList.mapM (trO Tryd.prog 89 (ro Tryd.f21 9)) = some a21_9 := by kernel_rfl
def a21_11 : List AO := [⟨(some 36), none, .mv (.t 0)⟩,
  ⟨(some 37), none, .call 32 [(.t 36)]⟩,
  ⟨(some 38), none, .mv (.t 1)⟩,
  ⟨(some 39), none, .mv (.t 11)⟩,
  ⟨(some 40), none, .idx 1 (.t 38) (.t 39)⟩,
  ⟨(some 41), none, .load none (.t 40)⟩,
  ⟨(some 42), none, .mv (.t 6)⟩,
  ⟨(some 43), none, .call 38 [(.t 37), (.t 41), (.t 42)]⟩,
  ⟨(some 35), none, .mv (.t 43)⟩,
  ⟨(some 44), none, .ext 0 (.t 35)⟩,
  ⟨(some 45), none, .ext 1 (.t 35)⟩,
  ⟨(some 12), none, .mv (.t 44)⟩,
  ⟨(some 13), none, .mv (.t 45)⟩]
theorem tr21_11 : (ro Tryd.f21 11).toList.mapM (trO Tryd.prog 89 (ro Tryd.f21 11)) = some a21_11 := by kernel_rfl
def d21_11 : List (List Nat) := [[], [0], [], [], [2, 3], [2, 3, 4], [], [0, 1, 2, 3, 4, 5, 6], [0, 1, 2, 3, 4, 5, 6, 7], [0, 1, 2, 3, 4, 5, 6, 7, 8], [0, 1, 2, 3, 4, 5, 6, 7, 8], [0, 1, 2, 3, 4, 5, 6, 7, 8, 9], [0, 1, 2, 3, 4, 5, 6, 7, 8, 9, 10, 11]]
theorem ok21_11 : okReg (ro Tryd.f21 11) a21_11 d21_11 = true := by kernel_rfl
def a21_12 : List AO := [⟨(some 46), none, .mv (.t 8)⟩,
  ⟨(some 47), none, .mv (.t 12)⟩,
  ⟨(some 48), none, .slc 3 1 false [(.t 47)]⟩,
  ⟨(some 49), none, .app 3 1 8 (.t 46) (.t 48)⟩,
  ⟨(some 8), none, .mv (.t 49)⟩]
theorem tr21_12 : (ro Tryd.f21 12).toList.mapM (trO Tryd.prog 89 (ro Tryd.f21 12)) = some a21_12 := by kernel_rfl
def a21_13 : List AO := [⟨(some 50), none, .mv (.t 9)⟩,
  ⟨(some 51), none, .mv (.t 13)⟩,
  ⟨(some 52), none, .slc 3 1 false [(.t 51)]⟩,
  ⟨(some 53), none, .app 3 1 8 (.t 50) (.t 52)⟩,
  ⟨(some 9), none, .mv (.t 53)⟩]
theorem tr21_13 : (ro Tryd.f21 13).toList.mapM (trO Tryd.prog 89 (ro Tryd.f21 13)) = some a21_13 := by kernel_rfl
def a21_14 : List AO := [⟨(some 54), none, .mv (.t 10)⟩,
  ⟨(some 55), none, .mv (.t 12)⟩,
  ⟨(some 56), none, .bin .sub (.t 54) (.t 55)⟩,
  ⟨(some 10), none, .mv (.t 56)⟩]
theorem tr21_14 : (ro Tryd.f21 14).toList.mapM (trO Tryd.prog 89 (ro Tryd.f21 14)) = some a21_14 := by kernel_rfl
def a21_10 : List AO := [⟨(some 33), none, .mv (.t 11)⟩,
  ⟨(some 34), none, .bin .add (.t 33) (.v (.int .i64 1))⟩,
  ⟨(some 11), none, .mv (.t 34)⟩]
theorem tr21_10 : (ro Tryd.f21 10).toList.mapM (trO Tryd.prog 89 (ro Tryd.f21 10)) = some a21_10 := by kernel_rfl
def a21_15 : List AO := [⟨(some 57), none, .mv (.t 10)⟩,
  ⟨(some 58), none, .bin .gtr (.t 57) (.v (.int .i64 0))⟩]
theorem tr21_15 : (ro Tryd.f21 15).toList.mapM (trO Tryd.prog 89 (ro Tryd.f21 15)) = some a21_15 := by kernel_rfl
def a21_16 : List AO := [⟨(some 59), none, .mv (.t 9)⟩,
  ⟨(some 60), none, .call 39 [(.t 59)]⟩,
  ⟨(some 14), none, .mv (.t 60)⟩]
theorem tr21_16 : (ro Tryd.f21 16).toList.mapM (trO Tryd.prog 89 (ro Tryd.f21 16)) = some a21_16 := by kernel_rfl
def a21_17 : List AO := [⟨(some 61), none, .mv (.t 8)⟩,
  ⟨(some 62), none, .mv (.t 14)⟩,
  ⟨(some 63), none, .idx 1 (.t 61) (.t 62)⟩,
  ⟨(some 64), none, .load none (.t 63)⟩,
  ⟨(some 65), none, .bin .add (.t 64) (.v (.int .i64 1))⟩,
  ⟨(some 66), none, .idx 1 (.t 61) (.t 62)⟩,
  ⟨none, none, .store 1 (.t 66) (.t 65)⟩]
theorem tr21_17 : (ro Tryd.f21 17).toList.mapM (trO Tryd.prog 89 (ro Tryd.f21 17)) = some a21_17 := by kernel_rfl
def a21_18 : List AO := [⟨(some 67), none, .mv (.t 9)⟩,
  ⟨(some 68), none, .mv (.t 14)⟩,
  ⟨(some 69), none, .idx 1 (.t 67) (.t 68)⟩,
  ⟨none, none, .store 1 (.t 69) (.v (.int .i64 (-1)))⟩]
theorem tr21_18 : (ro Tryd.f21 18).toList.mapM (trO Tryd.prog 89 (ro Tryd.f21 18)) = some a21_18 := by kernel_rfl
def a21_19 : List AO := [⟨(some 70), none, .mv (.t 10)⟩,
  ⟨(some 71), none, .bin .sub (.t 70) (.v (.int .i64 1))⟩,
  ⟨(some 10), none, .mv (.t 71)⟩]
theorem tr21_19 : (ro Tryd.f21 19).toList.mapM (trO Tryd.prog 89 (ro Tryd.f21 19)) = some a21_19 := by kernel_rfl
def a21_20 : List AO := [⟨(some 15), none, .mv (.v (.int .i64 0))⟩]
theorem tr21_20 : (ro Tryd.f21 20).toList.mapM (trO Tryd.prog 89 (ro Tryd.f21 20)) = some a21_20 := by kernel_rfl
def a21_21 : List AO := [⟨(some 72), none, .mv (.t 15)⟩,
  ⟨(some 73), none, .mv (.t 8)⟩,
  ⟨(some 74), none, .len (.t 73)⟩,
  ⟨(some 75), none, .bin .lss (.t 72) (.t 74)⟩]
theorem tr21_21 : (ro Tryd.f21 21).toList.mapM (trO Tryd.prog 89 (ro Tryd.f21 21)) = some a21_21 := by kernel_rfl
def a21_23 : List AO := [⟨(some 78), none, .mv (.t 0)⟩,
  ⟨(some 79), none, .bin .lss (.t 78) (.v (.int .i64 0))⟩]
theorem tr21_23 : (ro Tryd.f21 23).toList.mapM (trO Tryd.prog 89 (ro Tryd.f21 23)) = some a21_23 := by kernel_rfl
def a21_24 : List AO := [⟨(some 80), none, .mv (.t 8)⟩,
  ⟨(some 81), none, .mv (.t 15)⟩,
  ⟨(some 82), none, .mv (.t 8)⟩,
  ⟨(some 83), none, .mv (.t 15)⟩,
  ⟨(some 84), none, .idx 1 (.t 82) (.t 83)⟩,
  ⟨(some 85), none, .load none (.t 84)⟩,
  ⟨(some 86), none, .un .neg (.t 85)⟩,
  ⟨(some 87), none, .idx 1 (.t 80) (.t 81)⟩,
  ⟨none, none, .store 1 (.t 87) (.t 86)⟩]
theorem tr21_24 : (ro Tryd.f21 24).toList.mapM (trO Tryd.prog 89 (ro Tryd.f21 24)) = some a21_24 := by kernel_rfl
def a21_22 : List AO := [⟨(some 76), none, .mv (.t 15)⟩,
  ⟨(some 77), none, .bin .add (.t 76) (.v (.int .i64 1))⟩,
  ⟨(some 15), none, .mv (.t 77)⟩]
theorem tr21_22 : (ro Tryd.f21 22).toList.mapM (trO Tryd.prog 89 (ro Tryd.f21 22)) = some a21_22 := by kernel_rfl
def a21_25 : List AO := [⟨(some 88), none, .mv (.t 8)⟩,
  ⟨(some 4), none, .mv (.t 88)⟩,
  ⟨(some 5), none, .mv (.v (.int .i64 0))⟩]
theorem tr21_25 : (ro Tryd.f21 25).toList.mapM (trO Tryd.prog 89 (ro Tryd.f21 25)) = some a21_25 := by kernel_rfl
/-- airline/airlinelaw02.same -/
noncomputable def c22 : Code := .seq (.region 0 (ro Tryd.f22 0) false) (.seq (.seq (.region 1 (ro Tryd.f22 1) false) (.cond (.tmp 10) (.seq (.region 2 (ro Tryd.f22 2) false) (.ret)) (.skip))) (.seq (.seq (.region 3 (ro Tryd.f22 3) false) (.block 0 (.loop (.seq (.seq (.region 4 (ro Tryd.f22 4) false) (.cond (.tmp 14) (.skip) (.exit 0))) (.seq (.block 1 (.seq (.region 6 (ro Tryd.f22 6) true) (.cond (.tmp 25) (.seq (.region 7 (ro Tryd.f22 7) false) (.ret)) (.skip)))) (.region 5 (ro Tryd.f22 5) false)))))) (.seq (.region 8 (ro Tryd.f22 8) false) (.ret))))
theorem body22 : Tryd.f22.body = some c22 := by kernel_rfl
theorem res22 : Tryd.f22.results.toList.mapM (trR Tryd.prog) = some [.t 4] := by kernel_rfl
theorem nt22 : Tryd.f22.ntmps = 26 := by kernel_rfl
theorem nm22 : (Tryd.f22.name == "runtime.NumGoroutine") = false := by kernel_rfl
def a22_0 : List AO := [⟨(some 4), none, .mv (.v (.bool false))⟩]
theorem tr22_0 : (ro Tryd.f22 0).toList.mapM (trO Tryd.prog 26 (ro Tryd.f22 0)) = some a22_0 := by kernel_rfl
def a22_1 : List AO := [⟨(some 6), none, .mv (.t 0)⟩,
  ⟨(some 7), none, .len (.t 6)⟩,
  ⟨(some 8), none, .mv (.t 1)⟩,
  ⟨(some 9), none, .len (.t 8)⟩,
  ⟨(some 10), none, .bin .neq (.t 7) (.t 9)⟩]
theorem tr22_1 : (ro Tryd.f22 1).toList.mapM (trO Tryd.prog 26 (ro Tryd.f22 1)) = some a22_1 := by kernel_rfl
def a22_2 : List AO := [⟨(some 4), none, .mv (.v (.bool false))⟩]
theorem tr22_2 : (ro Tryd.f22 2).toList.mapM (trO Tryd.prog 26 (ro Tryd.f22 2)) = some a22_2 := by kernel_rfl
def a22_3 : List AO := [⟨(some 5), none, .mv (.v (.int .i64 0))⟩]
theorem tr22_3 : (ro Tryd.f22 3).toList.mapM (trO Tryd.prog 26 (ro Tryd.f22 3)) = some a22_3 := by kernel_rfl
def a22_4 : List AO := [⟨(some 11), none, .mv (.t 5)⟩,
  ⟨(some 12), none, .mv (.t 0)⟩,
  ⟨(some 13), none, .len (.t 12)⟩,
  ⟨(some 14), none, .bin .lss (.t 11) (.t 13)⟩]
theorem tr22_4 : (ro Tryd.f22 4).toList.mapM (trO Tryd.prog 26 (ro Tryd.f22 4)) = some a22_4 := by kernel_rfl
def a22_6 : List AO := [⟨(some 17), none, .mv (.t 0)⟩,
  ⟨(some 18), none, .mv (.t 5)⟩,
  ⟨(some 19), none, .idx 1 (.t 17) (.t 18)⟩,
  ⟨(some 20), none, .load none (.t 19)⟩,
  ⟨(some 21), none, .mv (.t 1)⟩,
  ⟨(some 22), none, .mv (.t 5)⟩,
  ⟨(some 23), none, .idx 1 (.t 21) (.t 22)⟩,
  ⟨(some 24), none, .load none (.t 23)⟩,
  ⟨(some 25), none, .bin .neq (.t 20) (.t 24)⟩]
theorem tr22_6 : (ro Tryd.f22 6).toList.mapM (trO Tryd.prog 26 (ro Tryd.f22 6)) = some a22_6 := by kernel_rfl
def d22_6 : List (List Nat) := [[], [], [0, 1], [0, 1, 2], [], [], [4, 5], [4, 5, 6], [0, 1, 2, 3, 4, 5, 6, 7]]
theorem ok22_6 : okReg (ro Tryd.f22 6) a22_6 d22_6 = true := by kernel_rfl
def a22_7 : List AO := [⟨(some 4), none, .mv (.v (.bool false))⟩]
theorem tr22_7 : (ro Tryd.f22 7).toList.mapM (trO Tryd.prog 26 (ro Tryd.f22 7)) = some a22_7 := by kernel_rfl
def a22_5 : List AO := [⟨(some 15), none, .mv (.t 5)⟩,
  ⟨(some 16), none, .bin .add (.t 15) (.v (.int .i64 1))⟩,
  ⟨(some 5), none, .mv (.t 16)⟩]
theorem tr22_5 : (ro Tryd.f22 5).toList.mapM (trO Tryd.prog 26 (ro Tryd.f22 5)) = some a22_5 := by kernel_rfl
def a22_8 : List AO := [⟨(some 4), none, .mv (.v (.bool true))⟩]
theorem tr22_8 : (ro Tryd.f22 8).toList.mapM (trO Tryd.prog 26 (ro Tryd.f22 8)) = some a22_8 := by kernel_rfl
/-- airline/money.Parse -/
noncomputable def c23 : Code := .seq (.region 0 (ro Tryd.f23 0) false) (.seq (.region 1 (ro Tryd.f23 1) false) (.seq (.seq (.region 2 (ro Tryd.f23 2) false) (.cond (.tmp 17) (.region 3 (ro Tryd.f23 3) true) (.skip))) (.seq (.region 4 (ro Tryd.f23 4) false) (.seq (.seq (.region 5 (ro Tryd.f23 5) false) (.cond (.tmp 58) (.seq (.region 6 (ro Tryd.f23 6) false) (.ret)) (.skip))) (.seq (.region 7 (ro Tryd.f23 7) false) (.seq (.seq (.region 8 (ro Tryd.f23 8) true) (.block 0 (.loop (.seq (.region 9 (ro Tryd.f23 9) false) (.seq (.cond (.tmp 70) (.skip) (.exit 0)) (.seq (.block 1 (.seq (.region 10 (ro Tryd.f23 10) false) (.seq (.region 11 (ro Tryd.f23 11) false) (.seq (.region 12 (ro Tryd.f23 12) false) (.cond (.tmp 80) (.seq (.region 13 (ro Tryd.f23 13) false) (.ret)) (.skip)))))) (.region 14 (ro Tryd.f23 14) false))))))) (.seq (.region 15 (ro Tryd.f23 15) false) (.ret))))))))
theorem body23 : Tryd.f23.body = some c23 := by kernel_rfl
theorem res23 : Tryd.f23.results.toList.mapM (trR Tryd.prog) = some [.t 2, .t 3] := by kernel_rfl
theorem nt23 : Tryd.f23.ntmps = 85 := by kernel_rfl
theorem nm23 : (Tryd.f23.name == "runtime.NumGoroutine") = false := by kernel_rfl
def a23_0 : List AO := [⟨(some 2), none, .mv (.v (.int .i64 0))⟩,
  ⟨(some 3), none, .mv (.v (.int .i64 0))⟩]
theorem tr23_0 : (ro Tryd.f23 0).toList.mapM (trO Tryd.prog 85 (ro Tryd.f23 0)) = some a23_0 := by kernel_rfl
def a23_1 : List AO := [⟨(some 10), none, .mv (.t 0)⟩,
  ⟨(some 4), none, .mv (.v (.int .i64 1))⟩,
  ⟨(some 5), none, .mv (.t 10)⟩]
theorem tr23_1 : (ro Tryd.f23 1).toList.mapM (trO Tryd.prog 85 (ro Tryd.f23 1)) = some a23_1 := by kernel_rfl
def a23_2 : List AO := [⟨(some 11), none, .mv (.t 5)⟩,
  ⟨(some 12), none, .bin .neq (.t 11) (.v (.str []))⟩,
  ⟨(some 13), none, .mv (.t 12)⟩,
  ⟨(some 14), some (13, true), .mv (.t 5)⟩,
  ⟨(some 15), some (13, true), .sidx (.t 14) (.v (.int .i64 0))⟩,
  ⟨(some 16), some (13, true), .bin .eql (.t 15) (.v (.int .u8 45))⟩,
  ⟨(some 17), none, .pick (.t 13) (.t 16) (.v (.bool false))⟩]
theorem tr23_2 : (ro Tryd.f23 2).toList.mapM (trO Tryd.prog 85 (ro Tryd.f23 2)) = some a23_2 := by kernel_rfl
def a23_3 : List AO := [⟨(some 18), none, .mv (.t 5)⟩,
  ⟨(some 19), none, .ssub (some (.v (.int .i64 1))) none (.t 18)⟩,
  ⟨(some 4), none, .mv (.v (.int .i64 (-1)))⟩,
  ⟨(some 5), none, .mv (.t 19)⟩]
theorem tr23_3 : (ro Tryd.f23 3).toList.mapM (trO Tryd.prog 85 (ro Tryd.f23 3)) = some a23_3 := by kernel_rfl
def d23_3 : List (List Nat) := [[], [0], [], [0, 1, 2]]
theorem ok23_3 : okReg (ro Tryd.f23 3) a23_3 d23_3 = true := by kernel_rfl
def a23_4 : List AO := [⟨(some 20), none, .mv (.t 5)⟩,
  ⟨(some 21), none, .slen (.t 20)⟩,
  ⟨(some 22), none, .bin .sub (.t 21) (.v (.int .i64 3))⟩,
  ⟨(some 6), none, .mv (.t 22)⟩]
theorem tr23_4 : (ro Tryd.f23 4).toList.mapM (trO Tryd.prog 85 (ro Tryd.f23 4)) = some a23_4 := by kernel_rfl
def a23_5 : List AO := [⟨(some 23), none, .mv (.t 6)⟩,
  ⟨(some 24), none, .bin .lss (.t 23) (.v (.int .i64 1))⟩,
  ⟨(some 25), none, .mv (.t 24)⟩,
  ⟨(some 26), some (25, false), .mv (.t 5)⟩,
  ⟨(some 27), some (25, false), .mv (.t 6)⟩,
  ⟨(some 28), some (25, false), .sidx (.t 26) (.t 27)⟩,
  ⟨(some 29), some (25, false), .bin .neq (.t 28) (.v (.int .u8 46))⟩,
  ⟨(some 30), none, .pick (.t 25) (.v (.bool true)) (.t 29)⟩,
  ⟨(some 31), none, .mv (.t 30)⟩,
  ⟨(some 32), some (31, false), .mv (.t 5)⟩,
  ⟨(some 33), some (31, false), .mv (.t 6)⟩,
  ⟨(some 34), some (31, false), .ssub none (some (.t 33)) (.t 32)⟩,
  ⟨(some 35), some (31, false), .call 40 [(.t 34)]⟩,
  ⟨(some 36), some (31, false), .un .not (.t 35)⟩,
  ⟨(some 37), none, .pick (.t 31) (.v (.bool true)) (.t 36)⟩,
  ⟨(some 38), none, .mv (.t 37)⟩,
  ⟨(some 39), some (38, false), .mv (.t 5)⟩,
  ⟨(some 40), some (38, false), .mv (.t 6)⟩,
  ⟨(some 41), some (38, false), .bin .add (.t 40) (.v (.int .i64 1))⟩,
  ⟨(some 42), some (38, false), .ssub (some (.t 41)) none (.t 39)⟩,
  ⟨(some 43), some (38, false), .call 40 [(.t 42)]⟩,
  ⟨(some 44), some (38, false), .un .not (.t 43)⟩,
  ⟨(some 45), none, .pick (.t 38) (.v (.bool true)) (.t 44)⟩,
  ⟨(some 46), none, .mv (.t 45)⟩,
  ⟨(some 47), some (46, false), .mv (.t 6)⟩,
  ⟨(some 48), some (46, false), .bin .gtr (.t 47) (.v (.int .i64 1))⟩,
  ⟨(some 49), some (46, false), .mv (.t 48)⟩,
  ⟨(some 50), some (49, true), .mv (.t 5)⟩,
  ⟨(some 51), some (49, true), .sidx (.t 50) (.v (.int .i64 0))⟩,
  ⟨(some 52), some (49, true), .bin .eql (.t 51) (.v (.int .u8 48))⟩,
  ⟨(some 53), some (46, false), .pick (.t 49) (.t 52) (.v (.bool false))⟩,
  ⟨(some 54), none, .pick (.t 46) (.v (.bool true)) (.t 53)⟩,
  ⟨(some 55), none, .mv (.t 54)⟩,
  ⟨(some 56), some (55, false), .mv (.t 0)⟩,
  ⟨(some 57), some (55, false), .bin .eql (.t 56) (.v (.str [45, 48, 46, 48, 48]))⟩,
  ⟨(some 58), none, .pick (.t 55) (.v (.bool true)) (.t 57)⟩]
theorem tr23_5 : (ro Tryd.f23 5).toList.mapM (trO Tryd.prog 85 (ro Tryd.f23 5)) = some a23_5 := by kernel_rfl
def a23_6 : List AO := [⟨(some 2), none, .mv (.v (.int .i64 0))⟩,
  ⟨(some 3), none, .mv (.v (.int .i64 3))⟩]
theorem tr23_6 : (ro Tryd.f23 6).toList.mapM (trO Tryd.prog 85 (ro Tryd.f23 6)) = some a23_6 := by kernel_rfl
def a23_7 : List AO := [⟨(some 7), none, .mv (.v (.int .i64 0))⟩]
theorem tr23_7 : (ro Tryd.f23 7).toList.mapM (trO Tryd.prog 85 (ro Tryd.f23 7)) = some a23_7 := by kernel_rfl
def a23_8 : List AO := [⟨(some 59), none, .mv (.t 5)⟩,
  ⟨(some 60), none, .mv (.t 6)⟩,
  ⟨(some 61), none, .ssub none (some (.t 60)) (.t 59)⟩,
  ⟨(some 62), none, .mv (.t 5)⟩,
  ⟨(some 63), none, .mv (.t 6)⟩,
  ⟨(some 64), none, .bin .add (.t 63) (.v (.int .i64 1))⟩,
  ⟨(some 65), none, .ssub (some (.t 64)) none (.t 62)⟩,
  ⟨(some 66), none, .bin .add (.t 61) (.t 65)⟩,
  ⟨(some 67), none, .s2b (.t 66)⟩,
  ⟨(some 68), none, .len (.t 67)⟩,
  ⟨(some 69), none, .mv (.v (.int .i64 0))⟩]
theorem tr23_8 : (ro Tryd.f23 8).toList.mapM (trO Tryd.prog 85 (ro Tryd.f23 8)) = some a23_8 := by kernel_rfl
def d23_8 : List (List Nat) := [[], [], [0, 1], [], [], [4], [3, 4, 5], [0, 1, 2, 3, 4, 5, 6], [0, 1, 2, 3, 4, 5, 6, 7], [0, 1, 2, 3, 4, 5, 6, 7, 8], []]
theorem ok23_8 : okReg (ro Tryd.f23 8) a23_8 d23_8 = true := by kernel_rfl
def a23_9 : List AO := [⟨(some 70), none, .bin .lss (.t 69) (.t 68)⟩]
theorem tr23_9 : (ro Tryd.f23 9).toList.mapM (trO Tryd.prog 85 (ro Tryd.f23 9)) = some a23_9 := by kernel_rfl
def a23_10 : List AO := [⟨(some 71), none, .idx 1 (.t 67) (.t 69)⟩,
  ⟨(some 72), none, .load none (.t 71)⟩,
  ⟨(some 9), none, .mv (.t 72)⟩]
theorem tr23_10 : (ro Tryd.f23 10).toList.mapM (trO Tryd.prog 85 (ro Tryd.f23 10)) = some a23_10 := by kernel_rfl
def a23_11 : List AO := [⟨(some 73), none, .mv (.t 7)⟩,
  ⟨(some 74), none, .bin .mul (.v (.int .i64 10)) (.t 73)⟩,
  ⟨(some 75), none, .mv (.t 9)⟩,
  ⟨(some 76), none, .bin .sub (.t 75) (.v (.int .u8 48))⟩,
  ⟨(some 77), none, .conv .i64 (.t 76)⟩,
  ⟨(some 78), none, .bin .add (.t 74) (.t 77)⟩,
  ⟨(some 7), none, .mv (.t 78)⟩]
theorem tr23_11 : (ro Tryd.f23 11).toList.mapM (trO Tryd.prog 85 (ro Tryd.f23 11)) = some a23_11 := by kernel_rfl
def a23_12 : List AO := [⟨(some 79), none, .mv (.t 7)⟩,
  ⟨(some 80), none, .bin .gtr (.t 79) (.v (.int .i64 1099511627776))⟩]
theorem tr23_12 : (ro Tryd.f23 12).toList.mapM (trO Tryd.prog 85 (ro Tryd.f23 12)) = some a23_12 := by kernel_rfl
def a23_13 : List AO := [⟨(some 2), none, .mv (.v (.int .i64 0))⟩,
  ⟨(some 3), none, .mv (.v (.int .i64 11))⟩]
theorem tr23_13 : (ro Tryd.f23 13).toList.mapM (trO Tryd.prog 85 (ro Tryd.f23 13)) = some a23_13 := by kernel_rfl
def a23_14 : List AO := [⟨(some 81), none, .bin .add (.t 69) (.v (.int .i64 1))⟩,
  ⟨(some 69), none, .mv (.t 81)⟩]
theorem tr23_14 : (ro Tryd.f23 14).toList.mapM (trO Tryd.prog 85 (ro Tryd.f23 14)) = some a23_14 := by kernel_rfl
def a23_15 : List AO := [⟨(some 82), none, .mv (.t 4)⟩,
  ⟨(some 83), none, .mv (.t 7)⟩,
  ⟨(some 84), none, .bin .mul (.t 82) (.t 83)⟩,
  ⟨(some 2), none, .mv (.t 84)⟩,
  ⟨(some 3), none, .mv (.v (.int .i64 0))⟩]
theorem tr23_15 : (ro Tryd.f23 15).toList.mapM (trO Tryd.prog 85 (ro Tryd.f23 15)) = some a23_15 := by kernel_rfl
/-- airline/airlineref02.Parse -/
noncomputable def c24 : Code := .seq (.region 0 (ro Tryd.f24 0) false) (.seq (.region 1 (ro Tryd.f24 1) false) (.seq (.seq (.region 2 (ro Tryd.f24 2) false) (.cond (.tmp 16) (.region 3 (ro Tryd.f24 3) true) (.skip))) (.seq (.seq (.region 4 (ro Tryd.f24 4) false) (.cond (.tmp 39) (.seq (.region 5 (ro Tryd.f24 5) false) (.ret)) (.skip))) (.seq (.region 6 (ro Tryd.f24 6) false) (.seq (.seq (.region 7 (ro Tryd.f24 7) false) (.block 0 (.loop (.seq (.seq (.region 8 (ro Tryd.f24 8) false) (.cond (.tmp 43) (.skip) (.exit 0))) (.seq (.block 1 (.seq (.seq (.region 10 (ro Tryd.f24 10) false) (.cond (.tmp 50) (.exit 1) (.skip))) (.seq (.seq (.region 11 (ro Tryd.f24 11) false) (.cond (.tmp 60) (.seq (.region 12 (ro Tryd.f24 12) false) (.ret)) (.skip))) (.region 13 (ro Tryd.f24 13) false)))) (.region 9 (ro Tryd.f24 9) false)))))) (.seq (.seq (.region 14 (ro Tryd.f24 14) false) (.cond (.tmp 75) (.seq (.region 15 (ro Tryd.f24 15) false) (.ret)) (.skip))) (.seq (.seq (.region 16 (ro Tryd.f24 16) false) (.cond (.tmp 77) (.seq (.region 17 (ro Tryd.f24 17) false) (.ret)) (.skip))) (.seq (.region 18 (ro Tryd.f24 18) false) (.ret)))))))))
theorem body24 : Tryd.f24.body = some c24 := by kernel_rfl
theorem res24 : Tryd.f24.results.toList.mapM (trR Tryd.prog) = some [.t 2, .t 3] := by kernel_rfl
theorem nt24 : Tryd.f24.ntmps = 81 := by kernel_rfl
theorem nm24 : (Tryd.f24.name == "runtime.NumGoroutine") = false := by kernel_rfl
def a24_0 : List AO := [⟨(some 2), none, .mv (.v (.int .i64 0))⟩,
  ⟨(some 3), none, .mv (.v (.int .i64 0))⟩]
theorem tr24_0 : (ro Tryd.f24 0).toList.mapM (trO Tryd.prog 81 (ro Tryd.f24 0)) = some a24_0 := by kernel_rfl
def a24_1 : List AO := [⟨(some 8), none, .mv (.t 0)⟩,
  ⟨(some 4), none, .mv (.v (.int .i64 1))⟩,
  ⟨(some 5), none, .mv (.t 8)⟩]
theorem tr24_1 : (ro Tryd.f24 1).toList.mapM (trO Tryd.prog 81 (ro Tryd.f24 1)) = some a24_1 := by kernel_rfl
def a24_2 : List AO := [⟨(some 9), none, .mv (.t 5)⟩,
  ⟨(some 10), none, .slen (.t 9)⟩,
  ⟨(some 11), none, .bin .gtr (.t 10) (.v (.int .i64 0))⟩,
  ⟨(some 12), none, .mv (.t 11)⟩,
  ⟨(some 13), some (12, true), .mv (.t 5)⟩,
  ⟨(some 14), some (12, true), .sidx (.t 13) (.v (.int .i64 0))⟩,
  ⟨(some 15), some (12, true), .bin .eql (.t 14) (.v (.int .u8 45))⟩,
  ⟨(some 16), none, .pick (.t 12) (.t 15) (.v (.bool false))⟩]
theorem tr24_2 : (ro Tryd.f24 2).toList.mapM (trO Tryd.prog 81 (ro Tryd.f24 2)) = some a24_2 := by kernel_rfl
def a24_3 : List AO := [⟨(some 17), none, .mv (.t 5)⟩,
  ⟨(some 18), none, .ssub (some (.v (.int .i64 1))) none (.t 17)⟩,
  ⟨(some 4), none, .mv (.v (.int .i64 (-1)))⟩,
  ⟨(some 5), none, .mv (.t 18)⟩]
theorem tr24_3 : (ro Tryd.f24 3).toList.mapM (trO Tryd.prog 81 (ro Tryd.f24 3)) = some a24_3 := by kernel_rfl
def d24_3 : List (List Nat) := [[], [0], [], [0, 1, 2]]
theorem ok24_3 : okReg (ro Tryd.f24 3) a24_3 d24_3 = true := by kernel_rfl
def a24_4 : List AO := [⟨(some 19), none, .mv (.t 5)⟩,
  ⟨(some 20), none, .slen (.t 19)⟩,
  ⟨(some 21), none, .bin .lss (.t 20) (.v (.int .i64 4))⟩,
  ⟨(some 22), none, .mv (.t 21)⟩,
  ⟨(some 23), some (22, false), .mv (.t 5)⟩,
  ⟨(some 24), some (22, false), .mv (.t 5)⟩,
  ⟨(some 25), some (22, false), .slen (.t 24)⟩,
  ⟨(some 26), some (22, false), .bin .sub (.t 25) (.v (.int .i64 3))⟩,
  ⟨(some 27), some (22, false), .sidx (.t 23) (.t 26)⟩,
  ⟨(some 28), some (22, false), .bin .neq (.t 27) (.v (.int .u8 46))⟩,
  ⟨(some 29), none, .pick (.t 22) (.v (.bool true)) (.t 28)⟩,
  ⟨(some 30), none, .mv (.t 29)⟩,
  ⟨(some 31), some (30, false), .mv (.t 5)⟩,
  ⟨(some 32), some (30, false), .slen (.t 31)⟩,
  ⟨(some 33), some (30, false), .bin .gtr (.t 32) (.v (.int .i64 4))⟩,
  ⟨(some 34), some (30, false), .mv (.t 33)⟩,
  ⟨(some 35), some (34, true), .mv (.t 5)⟩,
  ⟨(some 36), some (34, true), .sidx (.t 35) (.v (.int .i64 0))⟩,
  ⟨(some 37), some (34, true), .bin .eql (.t 36) (.v (.int .u8 48))⟩,
  ⟨(some 38), some (30, false), .pick (.t 34) (.t 37) (.v (.bool false))⟩,
  ⟨(some 39), none, .pick (.t 30) (.v (.bool true)) (.t 38)⟩]
theorem tr24_4 : (ro Tryd.f24 4).toList.mapM (trO Tryd.prog 81 (ro Tryd.f24 4)) = some a24_4 := by kernel_rfl
def a24_5 : List AO := [⟨(some 2), none, .mv (.v (.int .i64 0))⟩,
  ⟨(some 3), none, .mv (.v (.int .i64 3))⟩]
theorem tr24_5 : (ro Tryd.f24 5).toList.mapM (trO Tryd.prog 81 (ro Tryd.f24 5)) = some a24_5 := by kernel_rfl
def a24_6 : List AO := [⟨(some 6), none, .mv (.v (.int .i64 0))⟩]
theorem tr24_6 : (ro Tryd.f24 6).toList.mapM (trO Tryd.prog 81 (ro Tryd.f24 6)) = some a24_6 := by kernel_rfl
def a24_7 : List AO := [⟨(some 7), none, .mv (.v (.int .i64 0))⟩]
theorem tr24_7 : (ro Tryd.f24 7).toList.mapM (trO Tryd.prog 81 (ro Tryd.f24 7)) = some a24_7 := by kernel_rfl
def a24_8 : List AO := [⟨(some 40), none, .mv (.t 7)⟩,
  ⟨(some 41), none, .mv (.t 5)⟩,
  ⟨(some 42), none, .slen (.t 41)⟩,
  ⟨(some 43), none, .bin .lss (.t 40) (.t 42)⟩]
theorem tr24_8 : (ro Tryd.f24 8).toList.mapM (trO Tryd.prog 81 (ro Tryd.f24 8)) = some a24_8 := by kernel_rfl
def a24_10 : List AO := [⟨(some 46), none, .mv (.t 7)⟩,
  ⟨(some 47), none, .mv (.t 5)⟩,
  ⟨(some 48), none, .slen (.t 47)⟩,
  ⟨(some 49), none, .bin .sub (.t 48) (.v (.int .i64 3))⟩,
  ⟨(some 50), none, .bin .eql (.t 46) (.t 49)⟩]
theorem tr24_10 : (ro Tryd.f24 10).toList.mapM (trO Tryd.prog 81 (ro Tryd.f24 10)) = some a24_10 := by kernel_rfl
def a24_11 : List AO := [⟨(some 51), none, .mv (.t 5)⟩,
  ⟨(some 52), none, .mv (.t 7)⟩,
  ⟨(some 53), none, .sidx (.t 51) (.t 52)⟩,
  ⟨(some 54), none, .bin .lss (.t 53) (.v (.int .u8 48))⟩,
  ⟨(some 55), none, .mv (.t 54)⟩,
  ⟨(some 56), some (55, false), .mv (.t 5)⟩,
  ⟨(some 57), some (55, false), .mv (.t 7)⟩,
  ⟨(some 58), some (55, false), .sidx (.t 56) (.t 57)⟩,
  ⟨(some 59), some (55, false), .bin .gtr (.t 58) (.v (.int .u8 57))⟩,
  ⟨(some 60), none, .pick (.t 55) (.v (.bool true)) (.t 59)⟩]
theorem tr24_11 : (ro Tryd.f24 11).toList.mapM (trO Tryd.prog 81 (ro Tryd.f24 11)) = some a24_11 := by kernel_rfl
def a24_12 : List AO := [⟨(some 2), none, .mv (.v (.int .i64 0))⟩,
  ⟨(some 3), none, .mv (.v (.int .i64 3))⟩]
theorem tr24_12 : (ro Tryd.f24 12).toList.mapM (trO Tryd.prog 81 (ro Tryd.f24 12)) = some a24_12 := by kernel_rfl
def a24_13 : List AO := [⟨(some 61), none, .mv (.t 6)⟩,
  ⟨(some 62), none, .bin .mul (.v (.int .i64 10)) (.t 61)⟩,
  ⟨(some 63), none, .mv (.t 5)⟩,
  ⟨(some 64), none, .mv (.t 7)⟩,
  ⟨(some 65), none, .sidx (.t 63) (.t 64)⟩,
  ⟨(some 66), none, .bin .sub (.t 65) (.v (.int .u8 48))⟩,
  ⟨(some 67), none, .conv .i64 (.t 66)⟩,
  ⟨(some 68), none, .bin .add (.t 62) (.t 67)⟩,
  ⟨(some 69), none, .mn (.t 68) (.v (.int .i64 1099511627777))⟩,
  ⟨(some 6), none, .mv (.t 69)⟩]
theorem tr24_13 : (ro Tryd.f24 13).toList.mapM (trO Tryd.prog 81 (ro Tryd.f24 13)) = some a24_13 := by kernel_rfl
def a24_9 : List AO := [⟨(some 44), none, .mv (.t 7)⟩,
  ⟨(some 45), none, .bin .add (.t 44) (.v (.int .i64 1))⟩,
  ⟨(some 7), none, .mv (.t 45)⟩]
theorem tr24_9 : (ro Tryd.f24 9).toList.mapM (trO Tryd.prog 81 (ro Tryd.f24 9)) = some a24_9 := by kernel_rfl
def a24_14 : List AO := [⟨(some 70), none, .mv (.t 6)⟩,
  ⟨(some 71), none, .bin .eql (.t 70) (.v (.int .i64 0))⟩,
  ⟨(some 72), none, .mv (.t 71)⟩,
  ⟨(some 73), some (72, true), .mv (.t 4)⟩,
  ⟨(some 74), some (72, true), .bin .lss (.t 73) (.v (.int .i64 0))⟩,
  ⟨(some 75), none, .pick (.t 72) (.t 74) (.v (.bool false))⟩]
theorem tr24_14 : (ro Tryd.f24 14).toList.mapM (trO Tryd.prog 81 (ro Tryd.f24 14)) = some a24_14 := by kernel_rfl
def a24_15 : List AO := [⟨(some 2), none, .mv (.v (.int .i64 0))⟩,
  ⟨(some 3), none, .mv (.v (.int .i64 3))⟩]
theorem tr24_15 : (ro Tryd.f24 15).toList.mapM (trO Tryd.prog 81 (ro Tryd.f24 15)) = some a24_15 := by kernel_rfl
def a24_16 : List AO := [⟨(some 76), none, .mv (.t 6)⟩,
  ⟨(some 77), none, .bin .gtr (.t 76) (.v (.int .i64 1099511627776))⟩]
theorem tr24_16 : (ro Tryd.f24 16).toList.mapM (trO Tryd.prog 81 (ro Tryd.f24 16)) = some a24_16 := by kernel_rfl
def a24_17 : List AO := [⟨(some 2), none, .mv (.v (.int .i64 0))⟩,
  ⟨(some 3), none, .mv (.v (.int .i64 11))⟩]
theorem tr24_17 : (ro Tryd.f24 17).toList.mapM (trO Tryd.prog 81 (ro Tryd.f24 17)) = some a24_17 := by kernel_rfl
def a24_18 : List AO := [⟨(some 78), none, .mv (.t 4)⟩,
  ⟨(some 79), none, .mv (.t 6)⟩,
  ⟨(some 80), none, .bin .mul (.t 78) (.t 79)⟩,
  ⟨(some 2), none, .mv (.t 80)⟩,
  ⟨(some 3), none, .mv (.v (.int .i64 0))⟩]
theorem tr24_18 : (ro Tryd.f24 18).toList.mapM (trO Tryd.prog 81 (ro Tryd.f24 18)) = some a24_18 := by kernel_rfl
/-- airline/money.Print -/
noncomputable def c25 : Code := .seq (.region 0 (ro Tryd.f25 0) false) (.seq (.region 1 (ro Tryd.f25 1) false) (.seq (.seq (.region 2 (ro Tryd.f25 2) false) (.cond (.tmp 9) (.region 3 (ro Tryd.f25 3) false) (.skip))) (.seq (.region 4 (ro Tryd.f25 4) false) (.seq (.seq (.region 5 (ro Tryd.f25 5) false) (.cond (.tmp 15) (.region 6 (ro Tryd.f25 6) false) (.skip))) (.seq (.region 7 (ro Tryd.f25 7) false) (.ret))))))
theorem body25 : Tryd.f25.body = some c25 := by kernel_rfl
theorem res25 : Tryd.f25.results.toList.mapM (trR Tryd.prog) = some [.t 2] := by kernel_rfl
theorem nt25 : Tryd.f25.ntmps = 26 := by kernel_rfl
theorem nm25 : (Tryd.f25.name == "runtime.NumGoroutine") = false := by kernel_rfl
def a25_0 : List AO := [⟨(some 2), none, .mv (.v (.str []))⟩]
theorem tr25_0 : (ro Tryd.f25 0).toList.mapM (trO Tryd.prog 26 (ro Tryd.f25 0)) = some a25_0 := by kernel_rfl
def a25_1 : List AO := [⟨(some 6), none, .mv (.t 0)⟩,
  ⟨(some 7), none, .call 30 [(.t 6)]⟩,
  ⟨(some 3), none, .mv (.t 7)⟩,
  ⟨(some 4), none, .mv (.v (.str []))⟩]
theorem tr25_1 : (ro Tryd.f25 1).toList.mapM (trO Tryd.prog 26 (ro Tryd.f25 1)) = some a25_1 := by kernel_rfl
def a25_2 : List AO := [⟨(some 8), none, .mv (.t 0)⟩,
  ⟨(some 9), none, .bin .lss (.t 8) (.v (.int .i64 0))⟩]
theorem tr25_2 : (ro Tryd.f25 2).toList.mapM (trO Tryd.prog 26 (ro Tryd.f25 2)) = some a25_2 := by kernel_rfl
def a25_3 : List AO := [⟨(some 4), none, .mv (.v (.str [45]))⟩]
theorem tr25_3 : (ro Tryd.f25 3).toList.mapM (trO Tryd.prog 26 (ro Tryd.f25 3)) = some a25_3 := by kernel_rfl
def a25_4 : List AO := [⟨(some 10), none, .mv (.t 3)⟩,
  ⟨(some 11), none, .bin .rem (.t 10) (.v (.int .u64 100))⟩,
  ⟨(some 12), none, .call 41 [(.t 11), (.v (.int .i64 10))]⟩,
  ⟨(some 5), none, .mv (.t 12)⟩]
theorem tr25_4 : (ro Tryd.f25 4).toList.mapM (trO Tryd.prog 26 (ro Tryd.f25 4)) = some a25_4 := by kernel_rfl
def a25_5 : List AO := [⟨(some 13), none, .mv (.t 3)⟩,
  ⟨(some 14), none, .bin .rem (.t 13) (.v (.int .u64 100))⟩,
  ⟨(some 15), none, .bin .lss (.t 14) (.v (.int .u64 10))⟩]
theorem tr25_5 : (ro Tryd.f25 5).toList.mapM (trO Tryd.prog 26 (ro Tryd.f25 5)) = some a25_5 := by kernel_rfl
def a25_6 : List AO := [⟨(some 16), none, .mv (.t 5)⟩,
  ⟨(some 17), none, .bin .add (.v (.str [48])) (.t 16)⟩,
  ⟨(some 5), none, .mv (.t 17)⟩]
theorem tr25_6 : (ro Tryd.f25 6).toList.mapM (trO Tryd.prog 26 (ro Tryd.f25 6)) = some a25_6 := by kernel_rfl
def a25_7 : List AO := [⟨(some 18), none, .mv (.t 4)⟩,
  ⟨(some 19), none, .mv (.t 3)⟩,
  ⟨(some 20), none, .bin .quo (.t 19) (.v (.int .u64 100))⟩,
  ⟨(some 21), none, .call 41 [(.t 20), (.v (.int .i64 10))]⟩,
  ⟨(some 22), none, .bin .add (.t 18) (.t 21)⟩,
  ⟨(some 23), none, .bin .add (.t 22) (.v (.str [46]))⟩,
  ⟨(some 24), none, .mv (.t 5)⟩,
  ⟨(some 25), none, .bin .add (.t 23) (.t 24)⟩,
  ⟨(some 2), none, .mv (.t 25)⟩]
theorem tr25_7 : (ro Tryd.f25 7).toList.mapM (trO Tryd.prog 26 (ro Tryd.f25 7)) = some a25_7 := by kernel_rfl
/-- airline/airlineref02.Amount -/
noncomputable def c26 : Code := .seq (.region 0 (ro Tryd.f26 0) false) (.seq (.region 1 (ro Tryd.f26 1) false) (.ret))
theorem body26 : Tryd.f26.body = some c26 := by kernel_rfl
theorem res26 : Tryd.f26.results.toList.mapM (trR Tryd.prog) = some [.t 2] := by kernel_rfl
theorem nt26 : Tryd.f26.ntmps = 9 := by kernel_rfl
theorem nm26 : (Tryd.f26.name == "runtime.NumGoroutine") = false := by kernel_rfl
def a26_0 : List AO := [⟨(some 2), none, .mv (.v (.bool false))⟩]
theorem tr26_0 : (ro Tryd.f26 0).toList.mapM (trO Tryd.prog 9 (ro Tryd.f26 0)) = some a26_0 := by kernel_rfl
def a26_1 : List AO := [⟨(some 3), none, .mv (.t 0)⟩,
  ⟨(some 4), none, .bin .geq (.t 3) (.v (.int .i64 (-1099511627776)))⟩,
  ⟨(some 5), none, .mv (.t 4)⟩,
  ⟨(some 6), some (5, true), .mv (.t 0)⟩,
  ⟨(some 7), some (5, true), .bin .leq (.t 6) (.v (.int .i64 1099511627776))⟩,
  ⟨(some 8), none, .pick (.t 5) (.t 7) (.v (.bool false))⟩,
  ⟨(some 2), none, .mv (.t 8)⟩]
theorem tr26_1 : (ro Tryd.f26 1).toList.mapM (trO Tryd.prog 9 (ro Tryd.f26 1)) = some a26_1 := by kernel_rfl
/-- airline/airlineref02.Print -/
noncomputable def c27 : Code := .seq (.region 0 (ro Tryd.f27 0) false) (.seq (.region 1 (ro Tryd.f27 1) false) (.seq (.seq (.region 2 (ro Tryd.f27 2) false) (.cond (.tmp 8) (.region 3 (ro Tryd.f27 3) false) (.skip))) (.seq (.region 4 (ro Tryd.f27 4) false) (.ret))))
theorem body27 : Tryd.f27.body = some c27 := by kernel_rfl
theorem res27 : Tryd.f27.results.toList.mapM (trR Tryd.prog) = some [.t 2] := by kernel_rfl
theorem nt27 : Tryd.f27.ntmps = 21 := by kernel_rfl
theorem nm27 : (Tryd.f27.name == "runtime.NumGoroutine") = false := by kernel_rfl
def a27_0 : List AO := [⟨(some 2), none, .mv (.v (.str []))⟩]
theorem tr27_0 : (ro Tryd.f27 0).toList.mapM (trO Tryd.prog 21 (ro Tryd.f27 0)) = some a27_0 := by kernel_rfl
def a27_1 : List AO := [⟨(some 5), none, .mv (.t 0)⟩,
  ⟨(some 6), none, .conv .u64 (.t 5)⟩,
  ⟨(some 3), none, .mv (.t 6)⟩,
  ⟨(some 4), none, .mv (.v (.str []))⟩]
theorem tr27_1 : (ro Tryd.f27 1).toList.mapM (trO Tryd.prog 21 (ro Tryd.f27 1)) = some a27_1 := by kernel_rfl
def a27_2 : List AO := [⟨(some 7), none, .mv (.t 0)⟩,
  ⟨(some 8), none, .bin .lss (.t 7) (.v (.int .i64 0))⟩]
theorem tr27_2 : (ro Tryd.f27 2).toList.mapM (trO Tryd.prog 21 (ro Tryd.f27 2)) = some a27_2 := by kernel_rfl
def a27_3 : List AO := [⟨(some 9), none, .mv (.t 3)⟩,
  ⟨(some 10), none, .bin .sub (.v (.int .u64 0)) (.t 9)⟩,
  ⟨(some 3), none, .mv (.t 10)⟩,
  ⟨(some 4), none, .mv (.v (.str [45]))⟩]
theorem tr27_3 : (ro Tryd.f27 3).toList.mapM (trO Tryd.prog 21 (ro Tryd.f27 3)) = some a27_3 := by kernel_rfl
def a27_4 : List AO := [⟨(some 11), none, .mv (.t 4)⟩,
  ⟨(some 12), none, .mv (.t 3)⟩,
  ⟨(some 13), none, .bin .quo (.t 12) (.v (.int .u64 100))⟩,
  ⟨(some 14), none, .call 42 [(.t 13), (.v (.int .i64 1))]⟩,
  ⟨(some 15), none, .bin .add (.t 11) (.t 14)⟩,
  ⟨(some 16), none, .bin .add (.t 15) (.v (.str [46]))⟩,
  ⟨(some 17), none, .mv (.t 3)⟩,
  ⟨(some 18), none, .bin .rem (.t 17) (.v (.int .u64 100))⟩,
  ⟨(some 19), none, .call 42 [(.t 18), (.v (.int .i64 2))]⟩,
  ⟨(some 20), none, .bin .add (.t 16) (.t 19)⟩,
  ⟨(some 2), none, .mv (.t 20)⟩]
theorem tr27_4 : (ro Tryd.f27 4).toList.mapM (trO Tryd.prog 21 (ro Tryd.f27 4)) = some a27_4 := by kernel_rfl
/-- airline/money.fits -/
noncomputable def c28 : Code := .seq (.region 0 (ro Tryd.f28 0) false) (.seq (.region 1 (ro Tryd.f28 1) false) (.ret))
theorem body28 : Tryd.f28.body = some c28 := by kernel_rfl
theorem res28 : Tryd.f28.results.toList.mapM (trR Tryd.prog) = some [.t 2] := by kernel_rfl
theorem nt28 : Tryd.f28.ntmps = 9 := by kernel_rfl
theorem nm28 : (Tryd.f28.name == "runtime.NumGoroutine") = false := by kernel_rfl
def a28_0 : List AO := [⟨(some 2), none, .mv (.v (.bool false))⟩]
theorem tr28_0 : (ro Tryd.f28 0).toList.mapM (trO Tryd.prog 9 (ro Tryd.f28 0)) = some a28_0 := by kernel_rfl
def a28_1 : List AO := [⟨(some 3), none, .mv (.t 0)⟩,
  ⟨(some 4), none, .bin .geq (.t 3) (.v (.int .i64 (-1099511627776)))⟩,
  ⟨(some 5), none, .mv (.t 4)⟩,
  ⟨(some 6), some (5, true), .mv (.t 0)⟩,
  ⟨(some 7), some (5, true), .bin .leq (.t 6) (.v (.int .i64 1099511627776))⟩,
  ⟨(some 8), none, .pick (.t 5) (.t 7) (.v (.bool false))⟩,
  ⟨(some 2), none, .mv (.t 8)⟩]
theorem tr28_1 : (ro Tryd.f28 1).toList.mapM (trO Tryd.prog 9 (ro Tryd.f28 1)) = some a28_1 := by kernel_rfl
/-- airline/money.scale -/
noncomputable def c29 : Code := .seq (.region 0 (ro Tryd.f29 0) false) (.seq (.region 1 (ro Tryd.f29 1) false) (.seq (.seq (.region 2 (ro Tryd.f29 2) false) (.cond (.tmp 21) (.seq (.region 3 (ro Tryd.f29 3) false) (.ret)) (.skip))) (.seq (.region 4 (ro Tryd.f29 4) false) (.seq (.region 5 (ro Tryd.f29 5) false) (.ret)))))
theorem body29 : Tryd.f29.body = some c29 := by kernel_rfl
theorem res29 : Tryd.f29.results.toList.mapM (trR Tryd.prog) = some [.t 6, .t 7, .t 8] := by kernel_rfl
theorem nt29 : Tryd.f29.ntmps = 31 := by kernel_rfl
theorem nm29 : (Tryd.f29.name == "runtime.NumGoroutine") = false := by kernel_rfl
def a29_0 : List AO := [⟨(some 6), none, .mv (.v (.int .u64 0))⟩,
  ⟨(some 7), none, .mv (.v (.int .u64 0))⟩,
  ⟨(some 8), none, .mv (.v (.bool false))⟩]
theorem tr29_0 : (ro Tryd.f29 0).toList.mapM (trO Tryd.prog 31 (ro Tryd.f29 0)) = some a29_0 := by kernel_rfl
def a29_1 : List AO := [⟨(some 14), none, .mv (.t 0)⟩,
  ⟨(some 15), none, .mv (.t 1)⟩,
  ⟨(some 16), none, .call 43 [(.t 14), (.t 15)]⟩,
  ⟨(some 13), none, .mv (.t 16)⟩,
  ⟨(some 17), none, .ext 0 (.t 13)⟩,
  ⟨(some 18), none, .ext 1 (.t 13)⟩,
  ⟨(some 9), none, .mv (.t 17)⟩,
  ⟨(some 10), none, .mv (.t 18)⟩]
theorem tr29_1 : (ro Tryd.f29 1).toList.mapM (trO Tryd.prog 31 (ro Tryd.f29 1)) = some a29_1 := by kernel_rfl
def a29_2 : List AO := [⟨(some 19), none, .mv (.t 9)⟩,
  ⟨(some 20), none, .mv (.t 2)⟩,
  ⟨(some 21), none, .bin .geq (.t 19) (.t 20)⟩]
theorem tr29_2 : (ro Tryd.f29 2).toList.mapM (trO Tryd.prog 31 (ro Tryd.f29 2)) = some a29_2 := by kernel_rfl
def a29_3 : List AO := [⟨(some 6), none, .mv (.v (.int .u64 0))⟩,
  ⟨(some 7), none, .mv (.v (.int .u64 0))⟩,
  ⟨(some 8), none, .mv (.v (.bool false))⟩]
theorem tr29_3 : (ro Tryd.f29 3).toList.mapM (trO Tryd.prog 31 (ro Tryd.f29 3)) = some a29_3 := by kernel_rfl
def a29_4 : List AO := [⟨(some 23), none, .mv (.t 9)⟩,
  ⟨(some 24), none, .mv (.t 10)⟩,
  ⟨(some 25), none, .mv (.t 2)⟩,
  ⟨(some 26), none, .call 44 [(.t 23), (.t 24), (.t 25)]⟩,
  ⟨(some 22), none, .mv (.t 26)⟩,
  ⟨(some 27), none, .ext 0 (.t 22)⟩,
  ⟨(some 28), none, .ext 1 (.t 22)⟩,
  ⟨(some 11), none, .mv (.t 27)⟩,
  ⟨(some 12), none, .mv (.t 28)⟩]
theorem tr29_4 : (ro Tryd.f29 4).toList.mapM (trO Tryd.prog 31 (ro Tryd.f29 4)) = some a29_4 := by kernel_rfl
def a29_5 : List AO := [⟨(some 29), none, .mv (.t 11)⟩,
  ⟨(some 30), none, .mv (.t 12)⟩,
  ⟨(some 6), none, .mv (.t 29)⟩,
  ⟨(some 7), none, .mv (.t 30)⟩,
  ⟨(some 8), none, .mv (.v (.bool true))⟩]
theorem tr29_5 : (ro Tryd.f29 5).toList.mapM (trO Tryd.prog 31 (ro Tryd.f29 5)) = some a29_5 := by kernel_rfl
/-- airline/money.size -/
noncomputable def c30 : Code := .seq (.region 0 (ro Tryd.f30 0) false) (.seq (.seq (.region 1 (ro Tryd.f30 1) false) (.cond (.tmp 4) (.seq (.region 2 (ro Tryd.f30 2) false) (.ret)) (.skip))) (.seq (.region 3 (ro Tryd.f30 3) false) (.ret)))
theorem body30 : Tryd.f30.body = some c30 := by kernel_rfl
theorem res30 : Tryd.f30.results.toList.mapM (trR Tryd.prog) = some [.t 2] := by kernel_rfl
theorem nt30 : Tryd.f30.ntmps = 10 := by kernel_rfl
theorem nm30 : (Tryd.f30.name == "runtime.NumGoroutine") = false := by kernel_rfl
def a30_0 : List AO := [⟨(some 2), none, .mv (.v (.int .u64 0))⟩]
theorem tr30_0 : (ro Tryd.f30 0).toList.mapM (trO Tryd.prog 10 (ro Tryd.f30 0)) = some a30_0 := by kernel_rfl
def a30_1 : List AO := [⟨(some 3), none, .mv (.t 0)⟩,
  ⟨(some 4), none, .bin .lss (.t 3) (.v (.int .i64 0))⟩]
theorem tr30_1 : (ro Tryd.f30 1).toList.mapM (trO Tryd.prog 10 (ro Tryd.f30 1)) = some a30_1 := by kernel_rfl
def a30_2 : List AO := [⟨(some 5), none, .mv (.t 0)⟩,
  ⟨(some 6), none, .conv .u64 (.t 5)⟩,
  ⟨(some 7), none, .un .neg (.t 6)⟩,
  ⟨(some 2), none, .mv (.t 7)⟩]
theorem tr30_2 : (ro Tryd.f30 2).toList.mapM (trO Tryd.prog 10 (ro Tryd.f30 2)) = some a30_2 := by kernel_rfl
def a30_3 : List AO := [⟨(some 8), none, .mv (.t 0)⟩,
  ⟨(some 9), none, .conv .u64 (.t 8)⟩,
  ⟨(some 2), none, .mv (.t 9)⟩]
theorem tr30_3 : (ro Tryd.f30 3).toList.mapM (trO Tryd.prog 10 (ro Tryd.f30 3)) = some a30_3 := by kernel_rfl
/-- airline/airlineref02.floor -/
noncomputable def c31 : Code := .seq (.region 0 (ro Tryd.f31 0) false) (.seq (.region 1 (ro Tryd.f31 1) true) (.seq (.seq (.region 2 (ro Tryd.f31 2) false) (.cond (.tmp 15) (.seq (.region 3 (ro Tryd.f31 3) false) (.ret)) (.skip))) (.seq (.region 4 (ro Tryd.f31 4) false) (.ret))))
theorem body31 : Tryd.f31.body = some c31 := by kernel_rfl
theorem res31 : Tryd.f31.results.toList.mapM (trR Tryd.prog) = some [.t 4, .t 5] := by kernel_rfl
theorem nt31 : Tryd.f31.ntmps = 23 := by kernel_rfl
theorem nm31 : (Tryd.f31.name == "runtime.NumGoroutine") = false := by kernel_rfl
def a31_0 : List AO := [⟨(some 4), none, .mv (.v (.int .i64 0))⟩,
  ⟨(some 5), none, .mv (.v (.int .i64 0))⟩]
theorem tr31_0 : (ro Tryd.f31 0).toList.mapM (trO Tryd.prog 23 (ro Tryd.f31 0)) = some a31_0 := by kernel_rfl
def a31_1 : List AO := [⟨(some 8), none, .mv (.t 0)⟩,
  ⟨(some 9), none, .mv (.t 1)⟩,
  ⟨(some 10), none, .bin .quo (.t 8) (.t 9)⟩,
  ⟨(some 11), none, .mv (.t 0)⟩,
  ⟨(some 12), none, .mv (.t 1)⟩,
  ⟨(some 13), none, .bin .rem (.t 11) (.t 12)⟩,
  ⟨(some 6), none, .mv (.t 10)⟩,
  ⟨(some 7), none, .mv (.t 13)⟩]
theorem tr31_1 : (ro Tryd.f31 1).toList.mapM (trO Tryd.prog 23 (ro Tryd.f31 1)) = some a31_1 := by kernel_rfl
def d31_1 : List (List Nat) := [[], [], [0, 1], [], [], [3, 4], [0, 1, 2], [0, 1, 2, 3, 4, 5, 6]]
theorem ok31_1 : okReg (ro Tryd.f31 1) a31_1 d31_1 = true := by kernel_rfl
def a31_2 : List AO := [⟨(some 14), none, .mv (.t 7)⟩,
  ⟨(some 15), none, .bin .lss (.t 14) (.v (.int .i64 0))⟩]
theorem tr31_2 : (ro Tryd.f31 2).toList.mapM (trO Tryd.prog 23 (ro Tryd.f31 2)) = some a31_2 := by kernel_rfl
def a31_3 : List AO := [⟨(some 16), none, .mv (.t 6)⟩,
  ⟨(some 17), none, .bin .sub (.t 16) (.v (.int .i64 1))⟩,
  ⟨(some 18), none, .mv (.t 7)⟩,
  ⟨(some 19), none, .mv (.t 1)⟩,
  ⟨(some 20), none, .bin .add (.t 18) (.t 19)⟩,
  ⟨(some 4), none, .mv (.t 17)⟩,
  ⟨(some 5), none, .mv (.t 20)⟩]
theorem tr31_3 : (ro Tryd.f31 3).toList.mapM (trO Tryd.prog 23 (ro Tryd.f31 3)) = some a31_3 := by kernel_rfl
def a31_4 : List AO := [⟨(some 21), none, .mv (.t 6)⟩,
  ⟨(some 22), none, .mv (.t 7)⟩,
  ⟨(some 4), none, .mv (.t 21)⟩,
  ⟨(some 5), none, .mv (.t 22)⟩]
theorem tr31_4 : (ro Tryd.f31 4).toList.mapM (trO Tryd.prog 23 (ro Tryd.f31 4)) = some a31_4 := by kernel_rfl
/-- airline/airlineref02.size -/
noncomputable def c32 : Code := .seq (.region 0 (ro Tryd.f32 0) false) (.seq (.seq (.region 1 (ro Tryd.f32 1) false) (.cond (.tmp 4) (.seq (.region 2 (ro Tryd.f32 2) false) (.ret)) (.skip))) (.seq (.region 3 (ro Tryd.f32 3) false) (.ret)))
theorem body32 : Tryd.f32.body = some c32 := by kernel_rfl
theorem res32 : Tryd.f32.results.toList.mapM (trR Tryd.prog) = some [.t 2] := by kernel_rfl
theorem nt32 : Tryd.f32.ntmps = 8 := by kernel_rfl
theorem nm32 : (Tryd.f32.name == "runtime.NumGoroutine") = false := by kernel_rfl
def a32_0 : List AO := [⟨(some 2), none, .mv (.v (.int .i64 0))⟩]
theorem tr32_0 : (ro Tryd.f32 0).toList.mapM (trO Tryd.prog 8 (ro Tryd.f32 0)) = some a32_0 := by kernel_rfl
def a32_1 : List AO := [⟨(some 3), none, .mv (.t 0)⟩,
  ⟨(some 4), none, .bin .lss (.t 3) (.v (.int .i64 0))⟩]
theorem tr32_1 : (ro Tryd.f32 1).toList.mapM (trO Tryd.prog 8 (ro Tryd.f32 1)) = some a32_1 := by kernel_rfl
def a32_2 : List AO := [⟨(some 5), none, .mv (.t 0)⟩,
  ⟨(some 6), none, .un .neg (.t 5)⟩,
  ⟨(some 2), none, .mv (.t 6)⟩]
theorem tr32_2 : (ro Tryd.f32 2).toList.mapM (trO Tryd.prog 8 (ro Tryd.f32 2)) = some a32_2 := by kernel_rfl
def a32_3 : List AO := [⟨(some 7), none, .mv (.t 0)⟩,
  ⟨(some 2), none, .mv (.t 7)⟩]
theorem tr32_3 : (ro Tryd.f32 3).toList.mapM (trO Tryd.prog 8 (ro Tryd.f32 3)) = some a32_3 := by kernel_rfl
/-- airline/money.total -/
noncomputable def c33 : Code := .seq (.region 0 (ro Tryd.f33 0) false) (.seq (.region 1 (ro Tryd.f33 1) false) (.seq (.seq (.region 2 (ro Tryd.f33 2) false) (.block 0 (.loop (.seq (.region 3 (ro Tryd.f33 3) false) (.seq (.cond (.tmp 10) (.skip) (.exit 0)) (.seq (.block 1 (.seq (.region 4 (ro Tryd.f33 4) false) (.seq (.seq (.region 5 (ro Tryd.f33 5) false) (.cond (.tmp 14) (.seq (.region 6 (ro Tryd.f33 6) false) (.ret)) (.skip))) (.seq (.region 7 (ro Tryd.f33 7) false) (.cond (.tmp 16) (.region 8 (ro Tryd.f33 8) false) (.skip)))))) (.region 9 (ro Tryd.f33 9) false))))))) (.seq (.seq (.region 10 (ro Tryd.f33 10) false) (.cond (.tmp 23) (.seq (.region 11 (ro Tryd.f33 11) false) (.ret)) (.skip))) (.seq (.region 12 (ro Tryd.f33 12) false) (.ret)))))
theorem body33 : Tryd.f33.body = some c33 := by kernel_rfl
theorem res33 : Tryd.f33.results.toList.mapM (trR Tryd.prog) = some [.t 2, .t 3] := by kernel_rfl
theorem nt33 : Tryd.f33.ntmps = 25 := by kernel_rfl
theorem nm33 : (Tryd.f33.name == "runtime.NumGoroutine") = false := by kernel_rfl
def a33_0 : List AO := [⟨(some 2), none, .mv (.v (.int .i64 0))⟩,
  ⟨(some 3), none, .mv (.v (.int .i64 0))⟩]
theorem tr33_0 : (ro Tryd.f33 0).toList.mapM (trO Tryd.prog 25 (ro Tryd.f33 0)) = some a33_0 := by kernel_rfl
def a33_1 : List AO := [⟨(some 4), none, .mv (.v (.int .i64 0))⟩]
theorem tr33_1 : (ro Tryd.f33 1).toList.mapM (trO Tryd.prog 25 (ro Tryd.f33 1)) = some a33_1 := by kernel_rfl
def a33_2 : List AO := [⟨(some 7), none, .mv (.t 0)⟩,
  ⟨(some 8), none, .len (.t 7)⟩,
  ⟨(some 9), none, .mv (.v (.int .i64 0))⟩]
theorem tr33_2 : (ro Tryd.f33 2).toList.mapM (trO Tryd.prog 25 (ro Tryd.f33 2)) = some a33_2 := by kernel_rfl
def a33_3 : List AO := [⟨(some 10), none, .bin .lss (.t 9) (.t 8)⟩]
theorem tr33_3 : (ro Tryd.f33 3).toList.mapM (trO Tryd.prog 25 (ro Tryd.f33 3)) = some a33_3 := by kernel_rfl
def a33_4 : List AO := [⟨(some 11), none, .idx 1 (.t 7) (.t 9)⟩,
  ⟨(some 12), none, .load none (.t 11)⟩,
  ⟨(some 6), none, .mv (.t 12)⟩]
theorem tr33_4 : (ro Tryd.f33 4).toList.mapM (trO Tryd.prog 25 (ro Tryd.f33 4)) = some a33_4 := by kernel_rfl
def a33_5 : List AO := [⟨(some 13), none, .mv (.t 6)⟩,
  ⟨(some 14), none, .bin .lss (.t 13) (.v (.int .i64 0))⟩]
theorem tr33_5 : (ro Tryd.f33 5).toList.mapM (trO Tryd.prog 25 (ro Tryd.f33 5)) = some a33_5 := by kernel_rfl
def a33_6 : List AO := [⟨(some 2), none, .mv (.v (.int .i64 0))⟩,
  ⟨(some 3), none, .mv (.v (.int .i64 2))⟩]
theorem tr33_6 : (ro Tryd.f33 6).toList.mapM (trO Tryd.prog 25 (ro Tryd.f33 6)) = some a33_6 := by kernel_rfl
def a33_7 : List AO := [⟨(some 15), none, .mv (.t 4)⟩,
  ⟨(some 16), none, .bin .leq (.t 15) (.v (.int .i64 1099511627776))⟩]
theorem tr33_7 : (ro Tryd.f33 7).toList.mapM (trO Tryd.prog 25 (ro Tryd.f33 7)) = some a33_7 := by kernel_rfl
def a33_8 : List AO := [⟨(some 17), none, .mv (.t 4)⟩,
  ⟨(some 18), none, .mv (.t 6)⟩,
  ⟨(some 19), none, .mn (.t 18) (.v (.int .i64 1099511627777))⟩,
  ⟨(some 20), none, .bin .add (.t 17) (.t 19)⟩,
  ⟨(some 4), none, .mv (.t 20)⟩]
theorem tr33_8 : (ro Tryd.f33 8).toList.mapM (trO Tryd.prog 25 (ro Tryd.f33 8)) = some a33_8 := by kernel_rfl
def a33_9 : List AO := [⟨(some 21), none, .bin .add (.t 9) (.v (.int .i64 1))⟩,
  ⟨(some 9), none, .mv (.t 21)⟩]
theorem tr33_9 : (ro Tryd.f33 9).toList.mapM (trO Tryd.prog 25 (ro Tryd.f33 9)) = some a33_9 := by kernel_rfl
def a33_10 : List AO := [⟨(some 22), none, .mv (.t 4)⟩,
  ⟨(some 23), none, .bin .eql (.t 22) (.v (.int .i64 0))⟩]
theorem tr33_10 : (ro Tryd.f33 10).toList.mapM (trO Tryd.prog 25 (ro Tryd.f33 10)) = some a33_10 := by kernel_rfl
def a33_11 : List AO := [⟨(some 2), none, .mv (.v (.int .i64 0))⟩,
  ⟨(some 3), none, .mv (.v (.int .i64 2))⟩]
theorem tr33_11 : (ro Tryd.f33 11).toList.mapM (trO Tryd.prog 25 (ro Tryd.f33 11)) = some a33_11 := by kernel_rfl
def a33_12 : List AO := [⟨(some 24), none, .mv (.t 4)⟩,
  ⟨(some 2), none, .mv (.t 24)⟩,
  ⟨(some 3), none, .mv (.v (.int .i64 0))⟩]
theorem tr33_12 : (ro Tryd.f33 12).toList.mapM (trO Tryd.prog 25 (ro Tryd.f33 12)) = some a33_12 := by kernel_rfl
/-- airline/money.Split 1 -/
noncomputable def c34 : Code := .seq (.region 0 (ro Tryd.f34 0) true) (.region 1 (ro Tryd.f34 1) false)
theorem body34 : Tryd.f34.body = some c34 := by kernel_rfl
theorem res34 : Tryd.f34.results.toList.mapM (trR Tryd.prog) = some [] := by kernel_rfl
theorem nt34 : Tryd.f34.ntmps = 19 := by kernel_rfl
theorem nm34 : (Tryd.f34.name == "runtime.NumGoroutine") = false := by kernel_rfl
def a34_0 : List AO := [⟨(some 7), none, .load none (.t 2)⟩,
  ⟨(some 8), none, .mv (.t 0)⟩,
  ⟨(some 9), none, .idx 1 (.t 7) (.t 8)⟩,
  ⟨(some 10), none, .load none (.t 9)⟩,
  ⟨(some 11), none, .load none (.t 3)⟩,
  ⟨(some 12), none, .mv (.t 1)⟩,
  ⟨(some 13), none, .bin .mul (.t 11) (.t 12)⟩,
  ⟨(some 14), none, .bin .add (.t 10) (.t 13)⟩,
  ⟨(some 15), none, .idx 1 (.t 7) (.t 8)⟩,
  ⟨none, none, .store 1 (.t 15) (.t 14)⟩]
theorem tr34_0 : (ro Tryd.f34 0).toList.mapM (trO Tryd.prog 19 (ro Tryd.f34 0)) = some a34_0 := by kernel_rfl
def d34_0 : List (List Nat) := [[], [], [0, 1], [0, 1, 2], [], [], [4, 5], [0, 1, 2, 3, 4, 5, 6], [0, 1, 2, 3, 4, 5, 6, 7], [0, 1, 2, 3, 4, 5, 6, 7, 8]]
theorem ok34_0 : okReg (ro Tryd.f34 0) a34_0 d34_0 = true := by kernel_rfl
def a34_1 : List AO := [⟨(some 16), none, .load none (.t 4)⟩,
  ⟨(some 17), none, .mv (.t 1)⟩,
  ⟨(some 18), none, .bin .sub (.t 16) (.t 17)⟩,
  ⟨none, none, .store 1 (.t 4) (.t 18)⟩]
theorem tr34_1 : (ro Tryd.f34 1).toList.mapM (trO Tryd.prog 19 (ro Tryd.f34 1)) = some a34_1 := by kernel_rfl
/-- sort.SliceStable -/
noncomputable def c35 : Code := .seq (.region 0 (ro Tryd.f35 0) false) (.seq (.region 1 (ro Tryd.f35 1) false) (.region 2 (ro Tryd.f35 2) false))
theorem body35 : Tryd.f35.body = some c35 := by kernel_rfl
theorem res35 : Tryd.f35.results.toList.mapM (trR Tryd.prog) = some [] := by kernel_rfl
theorem nt35 : Tryd.f35.ntmps = 16 := by kernel_rfl
theorem nm35 : (Tryd.f35.name == "runtime.NumGoroutine") = false := by kernel_rfl
-- region 0: not translated: !! call value func45 types #[20] func45 t6
-- region 1: not translated: !! call value func46 types #[20] func46 t8
-- region 2: not translated: !! call value func48 types #[62] func48 t13
/-- airline/money.Split 2 -/
noncomputable def c36 : Code := .seq (.region 0 (ro Tryd.f36 0) false) (.seq (.region 1 (ro Tryd.f36 1) true) (.ret))
theorem body36 : Tryd.f36.body = some c36 := by kernel_rfl
theorem res36 : Tryd.f36.results.toList.mapM (trR Tryd.prog) = some [.t 6] := by kernel_rfl
theorem nt36 : Tryd.f36.ntmps = 22 := by kernel_rfl
theorem nm36 : (Tryd.f36.name == "runtime.NumGoroutine") = false := by kernel_rfl
def a36_0 : List AO := [⟨(some 6), none, .mv (.v (.bool false))⟩]
theorem tr36_0 : (ro Tryd.f36 0).toList.mapM (trO Tryd.prog 22 (ro Tryd.f36 0)) = some a36_0 := by kernel_rfl
def a36_1 : List AO := [⟨(some 7), none, .load none (.t 2)⟩,
  ⟨(some 8), none, .load none (.t 3)⟩,
  ⟨(some 9), none, .mv (.t 0)⟩,
  ⟨(some 10), none, .idx 1 (.t 8) (.t 9)⟩,
  ⟨(some 11), none, .load none (.t 10)⟩,
  ⟨(some 12), none, .idx 1 (.t 7) (.t 11)⟩,
  ⟨(some 13), none, .load none (.t 12)⟩,
  ⟨(some 14), none, .load none (.t 2)⟩,
  ⟨(some 15), none, .load none (.t 3)⟩,
  ⟨(some 16), none, .mv (.t 1)⟩,
  ⟨(some 17), none, .idx 1 (.t 15) (.t 16)⟩,
  ⟨(some 18), none, .load none (.t 17)⟩,
  ⟨(some 19), none, .idx 1 (.t 14) (.t 18)⟩,
  ⟨(some 20), none, .load none (.t 19)⟩,
  ⟨(some 21), none, .bin .gtr (.t 13) (.t 20)⟩,
  ⟨(some 6), none, .mv (.t 21)⟩]
theorem tr36_1 : (ro Tryd.f36 1).toList.mapM (trO Tryd.prog 22 (ro Tryd.f36 1)) = some a36_1 := by kernel_rfl
def d36_1 : List (List Nat) := [[], [], [], [1, 2], [1, 2, 3], [0, 1, 2, 3, 4], [0, 1, 2, 3, 4, 5], [], [], [], [8, 9], [8, 9, 10], [7, 8, 9, 10, 11], [7, 8, 9, 10, 11, 12], [0, 1, 2, 3, 4, 5, 6, 7, 8, 9, 10, 11, 12, 13], [0, 1, 2, 3, 4, 5, 6, 7, 8, 9, 10, 11, 12, 13, 14]]
theorem ok36_1 : okReg (ro Tryd.f36 1) a36_1 d36_1 = true := by kernel_rfl
/-- airline/airlineref02.weigh -/
noncomputable def c37 : Code := .seq (.region 0 (ro Tryd.f37 0) false) (.seq (.region 1 (ro Tryd.f37 1) false) (.seq (.seq (.region 2 (ro Tryd.f37 2) false) (.block 0 (.loop (.seq (.seq (.region 3 (ro Tryd.f37 3) false) (.cond (.tmp 10) (.skip) (.exit 0))) (.seq (.block 1 (.seq (.region 5 (ro Tryd.f37 5) false) (.cond (.tmp 17) (.seq (.region 6 (ro Tryd.f37 6) false) (.ret)) (.skip)))) (.region 4 (ro Tryd.f37 4) false)))))) (.seq (.seq (.region 7 (ro Tryd.f37 7) false) (.block 2 (.loop (.seq (.seq (.region 8 (ro Tryd.f37 8) false) (.cond (.tmp 21) (.skip) (.exit 2))) (.seq (.block 3 (.seq (.seq (.region 10 (ro Tryd.f37 10) false) (.cond (.tmp 30) (.seq (.region 11 (ro Tryd.f37 11) false) (.ret)) (.skip))) (.region 12 (ro Tryd.f37 12) false))) (.region 9 (ro Tryd.f37 9) false)))))) (.seq (.seq (.region 13 (ro Tryd.f37 13) false) (.cond (.tmp 38) (.seq (.region 14 (ro Tryd.f37 14) false) (.ret)) (.skip))) (.seq (.region 15 (ro Tryd.f37 15) false) (.ret))))))
theorem body37 : Tryd.f37.body = some c37 := by kernel_rfl
theorem res37 : Tryd.f37.results.toList.mapM (trR Tryd.prog) = some [.t 2, .t 3] := by kernel_rfl
theorem nt37 : Tryd.f37.ntmps = 40 := by kernel_rfl
theorem nm37 : (Tryd.f37.name == "runtime.NumGoroutine") = false := by kernel_rfl
def a37_0 : List AO := [⟨(some 2), none, .mv (.v (.int .i64 0))⟩,
  ⟨(some 3), none, .mv (.v (.int .i64 0))⟩]
theorem tr37_0 : (ro Tryd.f37 0).toList.mapM (trO Tryd.prog 40 (ro Tryd.f37 0)) = some a37_0 := by kernel_rfl
def a37_1 : List AO := [⟨(some 4), none, .mv (.v (.int .i64 0))⟩]
theorem tr37_1 : (ro Tryd.f37 1).toList.mapM (trO Tryd.prog 40 (ro Tryd.f37 1)) = some a37_1 := by kernel_rfl
def a37_2 : List AO := [⟨(some 5), none, .mv (.v (.int .i64 0))⟩]
theorem tr37_2 : (ro Tryd.f37 2).toList.mapM (trO Tryd.prog 40 (ro Tryd.f37 2)) = some a37_2 := by kernel_rfl
def a37_3 : List AO := [⟨(some 7), none, .mv (.t 5)⟩,
  ⟨(some 8), none, .mv (.t 0)⟩,
  ⟨(some 9), none, .len (.t 8)⟩,
  ⟨(some 10), none, .bin .lss (.t 7) (.t 9)⟩]
theorem tr37_3 : (ro Tryd.f37 3).toList.mapM (trO Tryd.prog 40 (ro Tryd.f37 3)) = some a37_3 := by kernel_rfl
def a37_5 : List AO := [⟨(some 13), none, .mv (.t 0)⟩,
  ⟨(some 14), none, .mv (.t 5)⟩,
  ⟨(some 15), none, .idx 1 (.t 13) (.t 14)⟩,
  ⟨(some 16), none, .load none (.t 15)⟩,
  ⟨(some 17), none, .bin .lss (.t 16) (.v (.int .i64 0))⟩]
theorem tr37_5 : (ro Tryd.f37 5).toList.mapM (trO Tryd.prog 40 (ro Tryd.f37 5)) = some a37_5 := by kernel_rfl
def a37_6 : List AO := [⟨(some 2), none, .mv (.v (.int .i64 0))⟩,
  ⟨(some 3), none, .mv (.v (.int .i64 2))⟩]
theorem tr37_6 : (ro Tryd.f37 6).toList.mapM (trO Tryd.prog 40 (ro Tryd.f37 6)) = some a37_6 := by kernel_rfl
def a37_4 : List AO := [⟨(some 11), none, .mv (.t 5)⟩,
  ⟨(some 12), none, .bin .add (.t 11) (.v (.int .i64 1))⟩,
  ⟨(some 5), none, .mv (.t 12)⟩]
theorem tr37_4 : (ro Tryd.f37 4).toList.mapM (trO Tryd.prog 40 (ro Tryd.f37 4)) = some a37_4 := by kernel_rfl
def a37_7 : List AO := [⟨(some 6), none, .mv (.v (.int .i64 0))⟩]
theorem tr37_7 : (ro Tryd.f37 7).toList.mapM (trO Tryd.prog 40 (ro Tryd.f37 7)) = some a37_7 := by kernel_rfl
def a37_8 : List AO := [⟨(some 18), none, .mv (.t 6)⟩,
  ⟨(some 19), none, .mv (.t 0)⟩,
  ⟨(some 20), none, .len (.t 19)⟩,
  ⟨(some 21), none, .bin .lss (.t 18) (.t 20)⟩]
theorem tr37_8 : (ro Tryd.f37 8).toList.mapM (trO Tryd.prog 40 (ro Tryd.f37 8)) = some a37_8 := by kernel_rfl
def a37_10 : List AO := [⟨(some 24), none, .mv (.t 0)⟩,
  ⟨(some 25), none, .mv (.t 6)⟩,
  ⟨(some 26), none, .idx 1 (.t 24) (.t 25)⟩,
  ⟨(some 27), none, .load none (.t 26)⟩,
  ⟨(some 28), none, .mv (.t 4)⟩,
  ⟨(some 29), none, .bin .sub (.v (.int .i64 1099511627776)) (.t 28)⟩,
  ⟨(some 30), none, .bin .gtr (.t 27) (.t 29)⟩]
theorem tr37_10 : (ro Tryd.f37 10).toList.mapM (trO Tryd.prog 40 (ro Tryd.f37 10)) = some a37_10 := by kernel_rfl
def a37_11 : List AO := [⟨(some 2), none, .mv (.v (.int .i64 0))⟩,
  ⟨(some 3), none, .mv (.v (.int .i64 11))⟩]
theorem tr37_11 : (ro Tryd.f37 11).toList.mapM (trO Tryd.prog 40 (ro Tryd.f37 11)) = some a37_11 := by kernel_rfl
def a37_12 : List AO := [⟨(some 31), none, .mv (.t 4)⟩,
  ⟨(some 32), none, .mv (.t 0)⟩,
  ⟨(some 33), none, .mv (.t 6)⟩,
  ⟨(some 34), none, .idx 1 (.t 32) (.t 33)⟩,
  ⟨(some 35), none, .load none (.t 34)⟩,
  ⟨(some 36), none, .bin .add (.t 31) (.t 35)⟩,
  ⟨(some 4), none, .mv (.t 36)⟩]
theorem tr37_12 : (ro Tryd.f37 12).toList.mapM (trO Tryd.prog 40 (ro Tryd.f37 12)) = some a37_12 := by kernel_rfl
def a37_9 : List AO := [⟨(some 22), none, .mv (.t 6)⟩,
  ⟨(some 23), none, .bin .add (.t 22) (.v (.int .i64 1))⟩,
  ⟨(some 6), none, .mv (.t 23)⟩]
theorem tr37_9 : (ro Tryd.f37 9).toList.mapM (trO Tryd.prog 40 (ro Tryd.f37 9)) = some a37_9 := by kernel_rfl
def a37_13 : List AO := [⟨(some 37), none, .mv (.t 4)⟩,
  ⟨(some 38), none, .bin .eql (.t 37) (.v (.int .i64 0))⟩]
theorem tr37_13 : (ro Tryd.f37 13).toList.mapM (trO Tryd.prog 40 (ro Tryd.f37 13)) = some a37_13 := by kernel_rfl
def a37_14 : List AO := [⟨(some 2), none, .mv (.v (.int .i64 0))⟩,
  ⟨(some 3), none, .mv (.v (.int .i64 2))⟩]
theorem tr37_14 : (ro Tryd.f37 14).toList.mapM (trO Tryd.prog 40 (ro Tryd.f37 14)) = some a37_14 := by kernel_rfl
def a37_15 : List AO := [⟨(some 39), none, .mv (.t 4)⟩,
  ⟨(some 2), none, .mv (.t 39)⟩,
  ⟨(some 3), none, .mv (.v (.int .i64 0))⟩]
theorem tr37_15 : (ro Tryd.f37 15).toList.mapM (trO Tryd.prog 40 (ro Tryd.f37 15)) = some a37_15 := by kernel_rfl
/-- airline/airlineref02.share -/
noncomputable def c38 : Code := .seq (.region 0 (ro Tryd.f38 0) false) (.seq (.region 1 (ro Tryd.f38 1) false) (.seq (.seq (.region 2 (ro Tryd.f38 2) false) (.block 0 (.loop (.seq (.seq (.region 3 (ro Tryd.f38 3) false) (.cond (.tmp 12) (.skip) (.exit 0))) (.seq (.block 1 (.seq (.region 5 (ro Tryd.f38 5) false) (.seq (.seq (.region 6 (ro Tryd.f38 6) false) (.cond (.tmp 23) (.region 7 (ro Tryd.f38 7) false) (.skip))) (.block 2 (.loop (.seq (.seq (.region 8 (ro Tryd.f38 8) false) (.cond (.tmp 29) (.skip) (.exit 2))) (.block 3 (.region 9 (ro Tryd.f38 9) false)))))))) (.region 4 (ro Tryd.f38 4) false)))))) (.seq (.region 10 (ro Tryd.f38 10) false) (.ret))))
theorem body38 : Tryd.f38.body = some c38 := by kernel_rfl
theorem res38 : Tryd.f38.results.toList.mapM (trR Tryd.prog) = some [.t 6, .t 7] := by kernel_rfl
theorem nt38 : Tryd.f38.ntmps = 37 := by kernel_rfl
theorem nm38 : (Tryd.f38.name == "runtime.NumGoroutine") = false := by kernel_rfl
def a38_0 : List AO := [⟨(some 6), none, .mv (.v (.int .i64 0))⟩,
  ⟨(some 7), none, .mv (.v (.int .i64 0))⟩]
theorem tr38_0 : (ro Tryd.f38 0).toList.mapM (trO Tryd.prog 37 (ro Tryd.f38 0)) = some a38_0 := by kernel_rfl
def a38_1 : List AO := [⟨(some 8), none, .mv (.v (.int .i64 0))⟩,
  ⟨(some 9), none, .mv (.v (.int .i64 0))⟩]
theorem tr38_1 : (ro Tryd.f38 1).toList.mapM (trO Tryd.prog 37 (ro Tryd.f38 1)) = some a38_1 := by kernel_rfl
def a38_2 : List AO := [⟨(some 10), none, .mv (.v (.int .i64 1099511627776))⟩]
theorem tr38_2 : (ro Tryd.f38 2).toList.mapM (trO Tryd.prog 37 (ro Tryd.f38 2)) = some a38_2 := by kernel_rfl
def a38_3 : List AO := [⟨(some 11), none, .mv (.t 10)⟩,
  ⟨(some 12), none, .bin .gtr (.t 11) (.v (.int .i64 0))⟩]
theorem tr38_3 : (ro Tryd.f38 3).toList.mapM (trO Tryd.prog 37 (ro Tryd.f38 3)) = some a38_3 := by kernel_rfl
def a38_5 : List AO := [⟨(some 15), none, .mv (.t 8)⟩,
  ⟨(some 16), none, .bin .mul (.v (.int .i64 2)) (.t 15)⟩,
  ⟨(some 17), none, .mv (.t 9)⟩,
  ⟨(some 18), none, .bin .mul (.v (.int .i64 2)) (.t 17)⟩,
  ⟨(some 8), none, .mv (.t 16)⟩,
  ⟨(some 9), none, .mv (.t 18)⟩]
theorem tr38_5 : (ro Tryd.f38 5).toList.mapM (trO Tryd.prog 37 (ro Tryd.f38 5)) = some a38_5 := by kernel_rfl
def a38_6 : List AO := [⟨(some 19), none, .mv (.t 0)⟩,
  ⟨(some 20), none, .mv (.t 10)⟩,
  ⟨(some 21), none, .bin .quo (.t 19) (.t 20)⟩,
  ⟨(some 22), none, .bin .rem (.t 21) (.v (.int .i64 2))⟩,
  ⟨(some 23), none, .bin .eql (.t 22) (.v (.int .i64 1))⟩]
theorem tr38_6 : (ro Tryd.f38 6).toList.mapM (trO Tryd.prog 37 (ro Tryd.f38 6)) = some a38_6 := by kernel_rfl
def a38_7 : List AO := [⟨(some 24), none, .mv (.t 9)⟩,
  ⟨(some 25), none, .mv (.t 1)⟩,
  ⟨(some 26), none, .bin .add (.t 24) (.t 25)⟩,
  ⟨(some 9), none, .mv (.t 26)⟩]
theorem tr38_7 : (ro Tryd.f38 7).toList.mapM (trO Tryd.prog 37 (ro Tryd.f38 7)) = some a38_7 := by kernel_rfl
def a38_8 : List AO := [⟨(some 27), none, .mv (.t 9)⟩,
  ⟨(some 28), none, .mv (.t 2)⟩,
  ⟨(some 29), none, .bin .geq (.t 27) (.t 28)⟩]
theorem tr38_8 : (ro Tryd.f38 8).toList.mapM (trO Tryd.prog 37 (ro Tryd.f38 8)) = some a38_8 := by kernel_rfl
def a38_9 : List AO := [⟨(some 30), none, .mv (.t 8)⟩,
  ⟨(some 31), none, .bin .add (.t 30) (.v (.int .i64 1))⟩,
  ⟨(some 32), none, .mv (.t 9)⟩,
  ⟨(some 33), none, .mv (.t 2)⟩,
  ⟨(some 34), none, .bin .sub (.t 32) (.t 33)⟩,
  ⟨(some 8), none, .mv (.t 31)⟩,
  ⟨(some 9), none, .mv (.t 34)⟩]
theorem tr38_9 : (ro Tryd.f38 9).toList.mapM (trO Tryd.prog 37 (ro Tryd.f38 9)) = some a38_9 := by kernel_rfl
def a38_4 : List AO := [⟨(some 13), none, .mv (.t 10)⟩,
  ⟨(some 14), none, .bin .quo (.t 13) (.v (.int .i64 2))⟩,
  ⟨(some 10), none, .mv (.t 14)⟩]
theorem tr38_4 : (ro Tryd.f38 4).toList.mapM (trO Tryd.prog 37 (ro Tryd.f38 4)) = some a38_4 := by kernel_rfl
def a38_10 : List AO := [⟨(some 35), none, .mv (.t 8)⟩,
  ⟨(some 36), none, .mv (.t 9)⟩,
  ⟨(some 6), none, .mv (.t 35)⟩,
  ⟨(some 7), none, .mv (.t 36)⟩]
theorem tr38_10 : (ro Tryd.f38 10).toList.mapM (trO Tryd.prog 37 (ro Tryd.f38 10)) = some a38_10 := by kernel_rfl
/-- airline/airlineref02.greatest -/
noncomputable def c39 : Code := .seq (.region 0 (ro Tryd.f39 0) false) (.seq (.region 1 (ro Tryd.f39 1) false) (.seq (.seq (.region 2 (ro Tryd.f39 2) false) (.block 0 (.loop (.seq (.seq (.region 3 (ro Tryd.f39 3) false) (.cond (.tmp 8) (.skip) (.exit 0))) (.seq (.block 1 (.seq (.region 5 (ro Tryd.f39 5) true) (.cond (.tmp 19) (.region 6 (ro Tryd.f39 6) false) (.skip)))) (.region 4 (ro Tryd.f39 4) false)))))) (.seq (.region 7 (ro Tryd.f39 7) false) (.ret))))
theorem body39 : Tryd.f39.body = some c39 := by kernel_rfl
theorem res39 : Tryd.f39.results.toList.mapM (trR Tryd.prog) = some [.t 2] := by kernel_rfl
theorem nt39 : Tryd.f39.ntmps = 22 := by kernel_rfl
theorem nm39 : (Tryd.f39.name == "runtime.NumGoroutine") = false := by kernel_rfl
def a39_0 : List AO := [⟨(some 2), none, .mv (.v (.int .i64 0))⟩]
theorem tr39_0 : (ro Tryd.f39 0).toList.mapM (trO Tryd.prog 22 (ro Tryd.f39 0)) = some a39_0 := by kernel_rfl
def a39_1 : List AO := [⟨(some 3), none, .mv (.v (.int .i64 0))⟩]
theorem tr39_1 : (ro Tryd.f39 1).toList.mapM (trO Tryd.prog 22 (ro Tryd.f39 1)) = some a39_1 := by kernel_rfl
def a39_2 : List AO := [⟨(some 4), none, .mv (.v (.int .i64 0))⟩]
theorem tr39_2 : (ro Tryd.f39 2).toList.mapM (trO Tryd.prog 22 (ro Tryd.f39 2)) = some a39_2 := by kernel_rfl
def a39_3 : List AO := [⟨(some 5), none, .mv (.t 4)⟩,
  ⟨(some 6), none, .mv (.t 0)⟩,
  ⟨(some 7), none, .len (.t 6)⟩,
  ⟨(some 8), none, .bin .lss (.t 5) (.t 7)⟩]
theorem tr39_3 : (ro Tryd.f39 3).toList.mapM (trO Tryd.prog 22 (ro Tryd.f39 3)) = some a39_3 := by kernel_rfl
def a39_5 : List AO := [⟨(some 11), none, .mv (.t 0)⟩,
  ⟨(some 12), none, .mv (.t 4)⟩,
  ⟨(some 13), none, .idx 1 (.t 11) (.t 12)⟩,
  ⟨(some 14), none, .load none (.t 13)⟩,
  ⟨(some 15), none, .mv (.t 0)⟩,
  ⟨(some 16), none, .mv (.t 3)⟩,
  ⟨(some 17), none, .idx 1 (.t 15) (.t 16)⟩,
  ⟨(some 18), none, .load none (.t 17)⟩,
  ⟨(some 19), none, .bin .gtr (.t 14) (.t 18)⟩]
theorem tr39_5 : (ro Tryd.f39 5).toList.mapM (trO Tryd.prog 22 (ro Tryd.f39 5)) = some a39_5 := by kernel_rfl
def d39_5 : List (List Nat) := [[], [], [0, 1], [0, 1, 2], [], [], [4, 5], [4, 5, 6], [0, 1, 2, 3, 4, 5, 6, 7]]
theorem ok39_5 : okReg (ro Tryd.f39 5) a39_5 d39_5 = true := by kernel_rfl
def a39_6 : List AO := [⟨(some 20), none, .mv (.t 4)⟩,
  ⟨(some 3), none, .mv (.t 20)⟩]
theorem tr39_6 : (ro Tryd.f39 6).toList.mapM (trO Tryd.prog 22 (ro Tryd.f39 6)) = some a39_6 := by kernel_rfl
def a39_4 : List AO := [⟨(some 9), none, .mv (.t 4)⟩,
  ⟨(some 10), none, .bin .add (.t 9) (.v (.int .i64 1))⟩,
  ⟨(some 4), none, .mv (.t 10)⟩]
theorem tr39_4 : (ro Tryd.f39 4).toList.mapM (trO Tryd.prog 22 (ro Tryd.f39 4)) = some a39_4 := by kernel_rfl
def a39_7 : List AO := [⟨(some 21), none, .mv (.t 3)⟩,
  ⟨(some 2), none, .mv (.t 21)⟩]
theorem tr39_7 : (ro Tryd.f39 7).toList.mapM (trO Tryd.prog 22 (ro Tryd.f39 7)) = some a39_7 := by kernel_rfl
/-- airline/money.digits -/
noncomputable def c40 : Code := .seq (.region 0 (ro Tryd.f40 0) false) (.seq (.seq (.region 1 (ro Tryd.f40 1) false) (.block 0 (.loop (.seq (.region 2 (ro Tryd.f40 2) false) (.seq (.cond (.tmp 7) (.skip) (.exit 0)) (.seq (.block 1 (.seq (.region 3 (ro Tryd.f40 3) false) (.seq (.region 4 (ro Tryd.f40 4) false) (.cond (.tmp 18) (.seq (.region 5 (ro Tryd.f40 5) false) (.ret)) (.skip))))) (.region 6 (ro Tryd.f40 6) false))))))) (.seq (.region 7 (ro Tryd.f40 7) false) (.ret)))
theorem body40 : Tryd.f40.body = some c40 := by kernel_rfl
theorem res40 : Tryd.f40.results.toList.mapM (trR Tryd.prog) = some [.t 2] := by kernel_rfl
theorem nt40 : Tryd.f40.ntmps = 22 := by kernel_rfl
theorem nm40 : (Tryd.f40.name == "runtime.NumGoroutine") = false := by kernel_rfl
def a40_0 : List AO := [⟨(some 2), none, .mv (.v (.bool false))⟩]
theorem tr40_0 : (ro Tryd.f40 0).toList.mapM (trO Tryd.prog 22 (ro Tryd.f40 0)) = some a40_0 := by kernel_rfl
def a40_1 : List AO := [⟨(some 4), none, .mv (.t 0)⟩,
  ⟨(some 5), none, .slen (.t 4)⟩,
  ⟨(some 6), none, .mv (.v (.int .i64 0))⟩]
theorem tr40_1 : (ro Tryd.f40 1).toList.mapM (trO Tryd.prog 22 (ro Tryd.f40 1)) = some a40_1 := by kernel_rfl
def a40_2 : List AO := [⟨(some 7), none, .bin .lss (.t 6) (.t 5)⟩]
theorem tr40_2 : (ro Tryd.f40 2).toList.mapM (trO Tryd.prog 22 (ro Tryd.f40 2)) = some a40_2 := by kernel_rfl
def a40_3 : List AO := [⟨(some 8), none, .mv (.t 6)⟩,
  ⟨(some 3), none, .mv (.t 8)⟩]
theorem tr40_3 : (ro Tryd.f40 3).toList.mapM (trO Tryd.prog 22 (ro Tryd.f40 3)) = some a40_3 := by kernel_rfl
def a40_4 : List AO := [⟨(some 9), none, .mv (.t 0)⟩,
  ⟨(some 10), none, .mv (.t 3)⟩,
  ⟨(some 11), none, .sidx (.t 9) (.t 10)⟩,
  ⟨(some 12), none, .bin .lss (.t 11) (.v (.int .u8 48))⟩,
  ⟨(some 13), none, .mv (.t 12)⟩,
  ⟨(some 14), some (13, false), .mv (.t 0)⟩,
  ⟨(some 15), some (13, false), .mv (.t 3)⟩,
  ⟨(some 16), some (13, false), .sidx (.t 14) (.t 15)⟩,
  ⟨(some 17), some (13, false), .bin .gtr (.t 16) (.v (.int .u8 57))⟩,
  ⟨(some 18), none, .pick (.t 13) (.v (.bool true)) (.t 17)⟩]
theorem tr40_4 : (ro Tryd.f40 4).toList.mapM (trO Tryd.prog 22 (ro Tryd.f40 4)) = some a40_4 := by kernel_rfl
def a40_5 : List AO := [⟨(some 2), none, .mv (.v (.bool false))⟩]
theorem tr40_5 : (ro Tryd.f40 5).toList.mapM (trO Tryd.prog 22 (ro Tryd.f40 5)) = some a40_5 := by kernel_rfl
def a40_6 : List AO := [⟨(some 19), none, .bin .add (.t 6) (.v (.int .i64 1))⟩,
  ⟨(some 6), none, .mv (.t 19)⟩]
theorem tr40_6 : (ro Tryd.f40 6).toList.mapM (trO Tryd.prog 22 (ro Tryd.f40 6)) = some a40_6 := by kernel_rfl
def a40_7 : List AO := [⟨(some 20), none, .mv (.t 0)⟩,
  ⟨(some 21), none, .bin .neq (.t 20) (.v (.str []))⟩,
  ⟨(some 2), none, .mv (.t 21)⟩]
theorem tr40_7 : (ro Tryd.f40 7).toList.mapM (trO Tryd.prog 22 (ro Tryd.f40 7)) = some a40_7 := by kernel_rfl
/-- strconv.FormatUint -/
noncomputable def c41 : Code := .seq (.region 0 (ro Tryd.f41 0) false) (.seq (.region 1 (ro Tryd.f41 1) false) (.ret))
theorem body41 : Tryd.f41.body = some c41 := by kernel_rfl
theorem res41 : Tryd.f41.results.toList.mapM (trR Tryd.prog) = some [.t 4] := by kernel_rfl
theorem nt41 : Tryd.f41.ntmps = 8 := by kernel_rfl
theorem nm41 : (Tryd.f41.name == "runtime.NumGoroutine") = false := by kernel_rfl
def a41_0 : List AO := [⟨(some 4), none, .mv (.v (.str []))⟩]
theorem tr41_0 : (ro Tryd.f41 0).toList.mapM (trO Tryd.prog 8 (ro Tryd.f41 0)) = some a41_0 := by kernel_rfl
def a41_1 : List AO := [⟨(some 5), none, .mv (.t 0)⟩,
  ⟨(some 6), none, .mv (.t 1)⟩,
  ⟨(some 7), none, .call 49 [(.t 5), (.t 6)]⟩,
  ⟨(some 4), none, .mv (.t 7)⟩]
theorem tr41_1 : (ro Tryd.f41 1).toList.mapM (trO Tryd.prog 8 (ro Tryd.f41 1)) = some a41_1 := by kernel_rfl
/-- airline/airlineref02.digits -/
noncomputable def c42 : Code := .seq (.region 0 (ro Tryd.f42 0) false) (.seq (.region 1 (ro Tryd.f42 1) false) (.seq (.block 0 (.loop (.seq (.seq (.region 2 (ro Tryd.f42 2) false) (.cond (.tmp 11) (.skip) (.exit 0))) (.block 1 (.seq (.region 3 (ro Tryd.f42 3) false) (.seq (.region 4 (ro Tryd.f42 4) false) (.region 5 (ro Tryd.f42 5) false))))))) (.seq (.region 6 (ro Tryd.f42 6) false) (.ret))))
theorem body42 : Tryd.f42.body = some c42 := by kernel_rfl
theorem res42 : Tryd.f42.results.toList.mapM (trR Tryd.prog) = some [.t 4] := by kernel_rfl
theorem nt42 : Tryd.f42.ntmps = 25 := by kernel_rfl
theorem nm42 : (Tryd.f42.name == "runtime.NumGoroutine") = false := by kernel_rfl
def a42_0 : List AO := [⟨(some 4), none, .mv (.v (.str []))⟩]
theorem tr42_0 : (ro Tryd.f42 0).toList.mapM (trO Tryd.prog 25 (ro Tryd.f42 0)) = some a42_0 := by kernel_rfl
def a42_1 : List AO := [⟨(some 5), none, .mv (.v (.str []))⟩]
theorem tr42_1 : (ro Tryd.f42 1).toList.mapM (trO Tryd.prog 25 (ro Tryd.f42 1)) = some a42_1 := by kernel_rfl
def a42_2 : List AO := [⟨(some 6), none, .mv (.t 0)⟩,
  ⟨(some 7), none, .bin .gtr (.t 6) (.v (.int .u64 0))⟩,
  ⟨(some 8), none, .mv (.t 7)⟩,
  ⟨(some 9), some (8, false), .mv (.t 1)⟩,
  ⟨(some 10), some (8, false), .bin .gtr (.t 9) (.v (.int .i64 0))⟩,
  ⟨(some 11), none, .pick (.t 8) (.v (.bool true)) (.t 10)⟩]
theorem tr42_2 : (ro Tryd.f42 2).toList.mapM (trO Tryd.prog 25 (ro Tryd.f42 2)) = some a42_2 := by kernel_rfl
def a42_3 : List AO := [⟨(some 12), none, .mv (.t 0)⟩,
  ⟨(some 13), none, .bin .rem (.t 12) (.v (.int .u64 10))⟩,
  ⟨(some 14), none, .bin .add (.v (.int .u64 48)) (.t 13)⟩,
  ⟨(some 15), none, .conv .u8 (.t 14)⟩,
  ⟨(some 16), none, .slc 5 1 false [(.t 15)]⟩,
  ⟨(some 17), none, .b2s (.t 16)⟩,
  ⟨(some 18), none, .mv (.t 5)⟩,
  ⟨(some 19), none, .bin .add (.t 17) (.t 18)⟩,
  ⟨(some 5), none, .mv (.t 19)⟩]
theorem tr42_3 : (ro Tryd.f42 3).toList.mapM (trO Tryd.prog 25 (ro Tryd.f42 3)) = some a42_3 := by kernel_rfl
def a42_4 : List AO := [⟨(some 20), none, .mv (.t 0)⟩,
  ⟨(some 21), none, .bin .quo (.t 20) (.v (.int .u64 10))⟩,
  ⟨(some 0), none, .mv (.t 21)⟩]
theorem tr42_4 : (ro Tryd.f42 4).toList.mapM (trO Tryd.prog 25 (ro Tryd.f42 4)) = some a42_4 := by kernel_rfl
def a42_5 : List AO := [⟨(some 22), none, .mv (.t 1)⟩,
  ⟨(some 23), none, .bin .sub (.t 22) (.v (.int .i64 1))⟩,
  ⟨(some 1), none, .mv (.t 23)⟩]
theorem tr42_5 : (ro Tryd.f42 5).toList.mapM (trO Tryd.prog 25 (ro Tryd.f42 5)) = some a42_5 := by kernel_rfl
def a42_6 : List AO := [⟨(some 24), none, .mv (.t 5)⟩,
  ⟨(some 4), none, .mv (.t 24)⟩]
theorem tr42_6 : (ro Tryd.f42 6).toList.mapM (trO Tryd.prog 25 (ro Tryd.f42 6)) = some a42_6 := by kernel_rfl
/-- math/bits.Div64 -/
noncomputable def c44 : Code := .seq (.region 0 (ro Tryd.f44 0) false) (.seq (.seq (.region 1 (ro Tryd.f44 1) false) (.cond (.tmp 20) (.region 2 (ro Tryd.f44 2) false) (.skip))) (.seq (.seq (.region 3 (ro Tryd.f44 3) false) (.cond (.tmp 24) (.region 4 (ro Tryd.f44 4) false) (.skip))) (.seq (.seq (.region 5 (ro Tryd.f44 5) false) (.cond (.tmp 27) (.seq (.region 6 (ro Tryd.f44 6) true) (.ret)) (.skip))) (.seq (.region 7 (ro Tryd.f44 7) false) (.seq (.region 8 (ro Tryd.f44 8) false) (.seq (.region 9 (ro Tryd.f44 9) false) (.seq (.region 10 (ro Tryd.f44 10) false) (.seq (.region 11 (ro Tryd.f44 11) false) (.seq (.region 12 (ro Tryd.f44 12) false) (.seq (.region 13 (ro Tryd.f44 13) false) (.seq (.region 14 (ro Tryd.f44 14) false) (.seq (.region 15 (ro Tryd.f44 15) false) (.seq (.region 16 (ro Tryd.f44 16) false) (.seq (.block 0 (.loop (.seq (.seq (.region 17 (ro Tryd.f44 17) false) (.cond (.tmp 78) (.skip) (.exit 0))) (.block 1 (.seq (.region 18 (ro Tryd.f44 18) false) (.seq (.region 19 (ro Tryd.f44 19) false) (.seq (.region 20 (ro Tryd.f44 20) false) (.cond (.tmp 85) (.exit 0) (.skip))))))))) (.seq (.region 21 (ro Tryd.f44 21) false) (.seq (.region 22 (ro Tryd.f44 22) false) (.seq (.region 23 (ro Tryd.f44 23) false) (.seq (.block 2 (.loop (.seq (.seq (.region 24 (ro Tryd.f44 24) false) (.cond (.tmp 113) (.skip) (.exit 2))) (.block 3 (.seq (.region 25 (ro Tryd.f44 25) false) (.seq (.region 26 (ro Tryd.f44 26) false) (.seq (.region 27 (ro Tryd.f44 27) false) (.cond (.tmp 120) (.exit 2) (.skip))))))))) (.seq (.region 28 (ro Tryd.f44 28) false) (.ret))))))))))))))))))))
theorem body44 : Tryd.f44.body = some c44 := by kernel_rfl
theorem res44 : Tryd.f44.results.toList.mapM (trR Tryd.prog) = some [.t 6, .t 7] := by kernel_rfl
theorem nt44 : Tryd.f44.ntmps = 135 := by kernel_rfl
theorem nm44 : (Tryd.f44.name == "runtime.NumGoroutine") = false := by kernel_rfl
def a44_0 : List AO := [⟨(some 6), none, .mv (.v (.int .u64 0))⟩,
  ⟨(some 7), none, .mv (.v (.int .u64 0))⟩]
theorem tr44_0 : (ro Tryd.f44 0).toList.mapM (trO Tryd.prog 135 (ro Tryd.f44 0)) = some a44_0 := by kernel_rfl
def a44_1 : List AO := [⟨(some 19), none, .mv (.t 2)⟩,
  ⟨(some 20), none, .bin .eql (.t 19) (.v (.int .u64 0))⟩]
theorem tr44_1 : (ro Tryd.f44 1).toList.mapM (trO Tryd.prog 135 (ro Tryd.f44 1)) = some a44_1 := by kernel_rfl
-- region 2: not translated: !! load glob0
def a44_3 : List AO := [⟨(some 22), none, .mv (.t 2)⟩,
  ⟨(some 23), none, .mv (.t 0)⟩,
  ⟨(some 24), none, .bin .leq (.t 22) (.t 23)⟩]
theorem tr44_3 : (ro Tryd.f44 3).toList.mapM (trO Tryd.prog 135 (ro Tryd.f44 3)) = some a44_3 := by kernel_rfl
-- region 4: not translated: !! load glob1
def a44_5 : List AO := [⟨(some 26), none, .mv (.t 0)⟩,
  ⟨(some 27), none, .bin .eql (.t 26) (.v (.int .u64 0))⟩]
theorem tr44_5 : (ro Tryd.f44 5).toList.mapM (trO Tryd.prog 135 (ro Tryd.f44 5)) = some a44_5 := by kernel_rfl
def a44_6 : List AO := [⟨(some 28), none, .mv (.t 1)⟩,
  ⟨(some 29), none, .mv (.t 2)⟩,
  ⟨(some 30), none, .bin .quo (.t 28) (.t 29)⟩,
  ⟨(some 31), none, .mv (.t 1)⟩,
  ⟨(some 32), none, .mv (.t 2)⟩,
  ⟨(some 33), none, .bin .rem (.t 31) (.t 32)⟩,
  ⟨(some 6), none, .mv (.t 30)⟩,
  ⟨(some 7), none, .mv (.t 33)⟩]
theorem tr44_6 : (ro Tryd.f44 6).toList.mapM (trO Tryd.prog 135 (ro Tryd.f44 6)) = some a44_6 := by kernel_rfl
def d44_6 : List (List Nat) := [[], [], [0, 1], [], [], [3, 4], [0, 1, 2], [0, 1, 2, 3, 4, 5, 6]]
theorem ok44_6 : okReg (ro Tryd.f44 6) a44_6 d44_6 = true := by kernel_rfl
def a44_7 : List AO := [⟨(some 34), none, .mv (.t 2)⟩,
  ⟨(some 35), none, .call 50 [(.t 34)]⟩,
  ⟨(some 36), none, .conv .u64 (.t 35)⟩,
  ⟨(some 8), none, .mv (.t 36)⟩]
theorem tr44_7 : (ro Tryd.f44 7).toList.mapM (trO Tryd.prog 135 (ro Tryd.f44 7)) = some a44_7 := by kernel_rfl
def a44_8 : List AO := [⟨(some 37), none, .mv (.t 2)⟩,
  ⟨(some 38), none, .mv (.t 8)⟩,
  ⟨(some 39), none, .bin .shl (.t 37) (.t 38)⟩,
  ⟨(some 2), none, .mv (.t 39)⟩]
theorem tr44_8 : (ro Tryd.f44 8).toList.mapM (trO Tryd.prog 135 (ro Tryd.f44 8)) = some a44_8 := by kernel_rfl
def a44_9 : List AO := [⟨(some 40), none, .mv (.t 2)⟩,
  ⟨(some 41), none, .bin .shr (.t 40) (.v (.int .u64 32))⟩,
  ⟨(some 9), none, .mv (.t 41)⟩]
theorem tr44_9 : (ro Tryd.f44 9).toList.mapM (trO Tryd.prog 135 (ro Tryd.f44 9)) = some a44_9 := by kernel_rfl
def a44_10 : List AO := [⟨(some 42), none, .mv (.t 2)⟩,
  ⟨(some 43), none, .bin .and (.t 42) (.v (.int .u64 4294967295))⟩,
  ⟨(some 10), none, .mv (.t 43)⟩]
theorem tr44_10 : (ro Tryd.f44 10).toList.mapM (trO Tryd.prog 135 (ro Tryd.f44 10)) = some a44_10 := by kernel_rfl
def a44_11 : List AO := [⟨(some 44), none, .mv (.t 0)⟩,
  ⟨(some 45), none, .mv (.t 8)⟩,
  ⟨(some 46), none, .bin .shl (.t 44) (.t 45)⟩,
  ⟨(some 47), none, .mv (.t 1)⟩,
  ⟨(some 48), none, .mv (.t 8)⟩,
  ⟨(some 49), none, .bin .sub (.v (.int .u64 64)) (.t 48)⟩,
  ⟨(some 50), none, .bin .shr (.t 47) (.t 49)⟩,
  ⟨(some 51), none, .bin .or (.t 46) (.t 50)⟩,
  ⟨(some 11), none, .mv (.t 51)⟩]
theorem tr44_11 : (ro Tryd.f44 11).toList.mapM (trO Tryd.prog 135 (ro Tryd.f44 11)) = some a44_11 := by kernel_rfl
def a44_12 : List AO := [⟨(some 52), none, .mv (.t 1)⟩,
  ⟨(some 53), none, .mv (.t 8)⟩,
  ⟨(some 54), none, .bin .shl (.t 52) (.t 53)⟩,
  ⟨(some 12), none, .mv (.t 54)⟩]
theorem tr44_12 : (ro Tryd.f44 12).toList.mapM (trO Tryd.prog 135 (ro Tryd.f44 12)) = some a44_12 := by kernel_rfl
def a44_13 : List AO := [⟨(some 55), none, .mv (.t 12)⟩,
  ⟨(some 56), none, .bin .shr (.t 55) (.v (.int .u64 32))⟩,
  ⟨(some 13), none, .mv (.t 56)⟩]
theorem tr44_13 : (ro Tryd.f44 13).toList.mapM (trO Tryd.prog 135 (ro Tryd.f44 13)) = some a44_13 := by kernel_rfl
def a44_14 : List AO := [⟨(some 57), none, .mv (.t 12)⟩,
  ⟨(some 58), none, .bin .and (.t 57) (.v (.int .u64 4294967295))⟩,
  ⟨(some 14), none, .mv (.t 58)⟩]
theorem tr44_14 : (ro Tryd.f44 14).toList.mapM (trO Tryd.prog 135 (ro Tryd.f44 14)) = some a44_14 := by kernel_rfl
def a44_15 : List AO := [⟨(some 59), none, .mv (.t 11)⟩,
  ⟨(some 60), none, .mv (.t 9)⟩,
  ⟨(some 61), none, .bin .quo (.t 59) (.t 60)⟩,
  ⟨(some 15), none, .mv (.t 61)⟩]
theorem tr44_15 : (ro Tryd.f44 15).toList.mapM (trO Tryd.prog 135 (ro Tryd.f44 15)) = some a44_15 := by kernel_rfl
def a44_16 : List AO := [⟨(some 62), none, .mv (.t 11)⟩,
  ⟨(some 63), none, .mv (.t 15)⟩,
  ⟨(some 64), none, .mv (.t 9)⟩,
  ⟨(some 65), none, .bin .mul (.t 63) (.t 64)⟩,
  ⟨(some 66), none, .bin .sub (.t 62) (.t 65)⟩,
  ⟨(some 16), none, .mv (.t 66)⟩]
theorem tr44_16 : (ro Tryd.f44 16).toList.mapM (trO Tryd.prog 135 (ro Tryd.f44 16)) = some a44_16 := by kernel_rfl
def a44_17 : List AO := [⟨(some 67), none, .mv (.t 15)⟩,
  ⟨(some 68), none, .bin .geq (.t 67) (.v (.int .u64 4294967296))⟩,
  ⟨(some 69), none, .mv (.t 68)⟩,
  ⟨(some 70), some (69, false), .mv (.t 15)⟩,
  ⟨(some 71), some (69, false), .mv (.t 10)⟩,
  ⟨(some 72), some (69, false), .bin .mul (.t 70) (.t 71)⟩,
  ⟨(some 73), some (69, false), .mv (.t 16)⟩,
  ⟨(some 74), some (69, false), .bin .mul (.v (.int .u64 4294967296)) (.t 73)⟩,
  ⟨(some 75), some (69, false), .mv (.t 13)⟩,
  ⟨(some 76), some (69, false), .bin .add (.t 74) (.t 75)⟩,
  ⟨(some 77), some (69, false), .bin .gtr (.t 72) (.t 76)⟩,
  ⟨(some 78), none, .pick (.t 69) (.v (.bool true)) (.t 77)⟩]
theorem tr44_17 : (ro Tryd.f44 17).toList.mapM (trO Tryd.prog 135 (ro Tryd.f44 17)) = some a44_17 := by kernel_rfl
def a44_18 : List AO := [⟨(some 79), none, .mv (.t 15)⟩,
  ⟨(some 80), none, .bin .sub (.t 79) (.v (.int .u64 1))⟩,
  ⟨(some 15), none, .mv (.t 80)⟩]
theorem tr44_18 : (ro Tryd.f44 18).toList.mapM (trO Tryd.prog 135 (ro Tryd.f44 18)) = some a44_18 := by kernel_rfl
def a44_19 : List AO := [⟨(some 81), none, .mv (.t 16)⟩,
  ⟨(some 82), none, .mv (.t 9)⟩,
  ⟨(some 83), none, .bin .add (.t 81) (.t 82)⟩,
  ⟨(some 16), none, .mv (.t 83)⟩]
theorem tr44_19 : (ro Tryd.f44 19).toList.mapM (trO Tryd.prog 135 (ro Tryd.f44 19)) = some a44_19 := by kernel_rfl
def a44_20 : List AO := [⟨(some 84), none, .mv (.t 16)⟩,
  ⟨(some 85), none, .bin .geq (.t 84) (.v (.int .u64 4294967296))⟩]
theorem tr44_20 : (ro Tryd.f44 20).toList.mapM (trO Tryd.prog 135 (ro Tryd.f44 20)) = some a44_20 := by kernel_rfl
def a44_21 : List AO := [⟨(some 86), none, .mv (.t 11)⟩,
  ⟨(some 87), none, .bin .mul (.t 86) (.v (.int .u64 4294967296))⟩,
  ⟨(some 88), none, .mv (.t 13)⟩,
  ⟨(some 89), none, .bin .add (.t 87) (.t 88)⟩,
  ⟨(some 90), none, .mv (.t 15)⟩,
  ⟨(some 91), none, .mv (.t 2)⟩,
  ⟨(some 92), none, .bin .mul (.t 90) (.t 91)⟩,
  ⟨(some 93), none, .bin .sub (.t 89) (.t 92)⟩,
  ⟨(some 17), none, .mv (.t 93)⟩]
theorem tr44_21 : (ro Tryd.f44 21).toList.mapM (trO Tryd.prog 135 (ro Tryd.f44 21)) = some a44_21 := by kernel_rfl
def a44_22 : List AO := [⟨(some 94), none, .mv (.t 17)⟩,
  ⟨(some 95), none, .mv (.t 9)⟩,
  ⟨(some 96), none, .bin .quo (.t 94) (.t 95)⟩,
  ⟨(some 18), none, .mv (.t 96)⟩]
theorem tr44_22 : (ro Tryd.f44 22).toList.mapM (trO Tryd.prog 135 (ro Tryd.f44 22)) = some a44_22 := by kernel_rfl
def a44_23 : List AO := [⟨(some 97), none, .mv (.t 17)⟩,
  ⟨(some 98), none, .mv (.t 18)⟩,
  ⟨(some 99), none, .mv (.t 9)⟩,
  ⟨(some 100), none, .bin .mul (.t 98) (.t 99)⟩,
  ⟨(some 101), none, .bin .sub (.t 97) (.t 100)⟩,
  ⟨(some 16), none, .mv (.t 101)⟩]
theorem tr44_23 : (ro Tryd.f44 23).toList.mapM (trO Tryd.prog 135 (ro Tryd.f44 23)) = some a44_23 := by kernel_rfl
def a44_24 : List AO := [⟨(some 102), none, .mv (.t 18)⟩,
  ⟨(some 103), none, .bin .geq (.t 102) (.v (.int .u64 4294967296))⟩,
  ⟨(some 104), none, .mv (.t 103)⟩,
  ⟨(some 105), some (104, false), .mv (.t 18)⟩,
  ⟨(some 106), some (104, false), .mv (.t 10)⟩,
  ⟨(some 107), some (104, false), .bin .mul (.t 105) (.t 106)⟩,
  ⟨(some 108), some (104, false), .mv (.t 16)⟩,
  ⟨(some 109), some (104, false), .bin .mul (.v (.int .u64 4294967296)) (.t 108)⟩,
  ⟨(some 110), some (104, false), .mv (.t 14)⟩,
  ⟨(some 111), some (104, false), .bin .add (.t 109) (.t 110)⟩,
  ⟨(some 112), some (104, false), .bin .gtr (.t 107) (.t 111)⟩,
  ⟨(some 113), none, .pick (.t 104) (.v (.bool true)) (.t 112)⟩]
theorem tr44_24 : (ro Tryd.f44 24).toList.mapM (trO Tryd.prog 135 (ro Tryd.f44 24)) = some a44_24 := by kernel_rfl
def a44_25 : List AO := [⟨(some 114), none, .mv (.t 18)⟩,
  ⟨(some 115), none, .bin .sub (.t 114) (.v (.int .u64 1))⟩,
  ⟨(some 18), none, .mv (.t 115)⟩]
theorem tr44_25 : (ro Tryd.f44 25).toList.mapM (trO Tryd.prog 135 (ro Tryd.f44 25)) = some a44_25 := by kernel_rfl
def a44_26 : List AO := [⟨(some 116), none, .mv (.t 16)⟩,
  ⟨(some 117), none, .mv (.t 9)⟩,
  ⟨(some 118), none, .bin .add (.t 116) (.t 117)⟩,
  ⟨(some 16), none, .mv (.t 118)⟩]
theorem tr44_26 : (ro Tryd.f44 26).toList.mapM (trO Tryd.prog 135 (ro Tryd.f44 26)) = some a44_26 := by kernel_rfl
def a44_27 : List AO := [⟨(some 119), none, .mv (.t 16)⟩,
  ⟨(some 120), none, .bin .geq (.t 119) (.v (.int .u64 4294967296))⟩]
theorem tr44_27 : (ro Tryd.f44 27).toList.mapM (trO Tryd.prog 135 (ro Tryd.f44 27)) = some a44_27 := by kernel_rfl
def a44_28 : List AO := [⟨(some 121), none, .mv (.t 15)⟩,
  ⟨(some 122), none, .bin .mul (.t 121) (.v (.int .u64 4294967296))⟩,
  ⟨(some 123), none, .mv (.t 18)⟩,
  ⟨(some 124), none, .bin .add (.t 122) (.t 123)⟩,
  ⟨(some 125), none, .mv (.t 17)⟩,
  ⟨(some 126), none, .bin .mul (.t 125) (.v (.int .u64 4294967296))⟩,
  ⟨(some 127), none, .mv (.t 14)⟩,
  ⟨(some 128), none, .bin .add (.t 126) (.t 127)⟩,
  ⟨(some 129), none, .mv (.t 18)⟩,
  ⟨(some 130), none, .mv (.t 2)⟩,
  ⟨(some 131), none, .bin .mul (.t 129) (.t 130)⟩,
  ⟨(some 132), none, .bin .sub (.t 128) (.t 131)⟩,
  ⟨(some 133), none, .mv (.t 8)⟩,
  ⟨(some 134), none, .bin .shr (.t 132) (.t 133)⟩,
  ⟨(some 6), none, .mv (.t 124)⟩,
  ⟨(some 7), none, .mv (.t 134)⟩]
theorem tr44_28 : (ro Tryd.f44 28).toList.mapM (trO Tryd.prog 135 (ro Tryd.f44 28)) = some a44_28 := by kernel_rfl
/-- sort.stable_func -/
noncomputable def c47 : Code := .seq (.region 0 (ro Tryd.f47 0) false) (.seq (.region 1 (ro Tryd.f47 1) false) (.seq (.region 2 (ro Tryd.f47 2) false) (.seq (.block 0 (.loop (.seq (.seq (.region 3 (ro Tryd.f47 3) false) (.cond (.tmp 11) (.skip) (.exit 0))) (.block 1 (.seq (.region 4 (ro Tryd.f47 4) false) (.seq (.region 5 (ro Tryd.f47 5) false) (.region 6 (ro Tryd.f47 6) false))))))) (.seq (.region 7 (ro Tryd.f47 7) false) (.block 2 (.loop (.seq (.seq (.region 8 (ro Tryd.f47 8) false) (.cond (.tmp 26) (.skip) (.exit 2))) (.block 3 (.seq (.region 9 (ro Tryd.f47 9) false) (.seq (.block 4 (.loop (.seq (.seq (.region 10 (ro Tryd.f47 10) false) (.cond (.tmp 31) (.skip) (.exit 4))) (.block 5 (.seq (.region 11 (ro Tryd.f47 11) false) (.seq (.region 12 (ro Tryd.f47 12) false) (.region 13 (ro Tryd.f47 13) false))))))) (.seq (.seq (.region 14 (ro Tryd.f47 14) false) (.seq (.region 15 (ro Tryd.f47 15) false) (.cond (.tmp 49) (.region 16 (ro Tryd.f47 16) false) (.skip)))) (.region 17 (ro Tryd.f47 17) false))))))))))))
theorem body47 : Tryd.f47.body = some c47 := by kernel_rfl
theorem res47 : Tryd.f47.results.toList.mapM (trR Tryd.prog) = some [] := by kernel_rfl
theorem nt47 : Tryd.f47.ntmps = 57 := by kernel_rfl
theorem nm47 : (Tryd.f47.name == "runtime.NumGoroutine") = false := by kernel_rfl
def a47_0 : List AO := [⟨(some 2), none, .box 67 (.t 0)⟩]
theorem tr47_0 : (ro Tryd.f47 0).toList.mapM (trO Tryd.prog 57 (ro Tryd.f47 0)) = some a47_0 := by kernel_rfl
def a47_1 : List AO := [⟨(some 4), none, .mv (.v (.int .i64 20))⟩]
theorem tr47_1 : (ro Tryd.f47 1).toList.mapM (trO Tryd.prog 57 (ro Tryd.f47 1)) = some a47_1 := by kernel_rfl
def a47_2 : List AO := [⟨(some 8), none, .mv (.t 4)⟩,
  ⟨(some 5), none, .mv (.v (.int .i64 0))⟩,
  ⟨(some 6), none, .mv (.t 8)⟩]
theorem tr47_2 : (ro Tryd.f47 2).toList.mapM (trO Tryd.prog 57 (ro Tryd.f47 2)) = some a47_2 := by kernel_rfl
def a47_3 : List AO := [⟨(some 9), none, .mv (.t 6)⟩,
  ⟨(some 10), none, .mv (.t 1)⟩,
  ⟨(some 11), none, .bin .leq (.t 9) (.t 10)⟩]
theorem tr47_3 : (ro Tryd.f47 3).toList.mapM (trO Tryd.prog 57 (ro Tryd.f47 3)) = some a47_3 := by kernel_rfl
def a47_4 : List AO := [⟨(some 12), none, .load (some 2) (.t 2)⟩,
  ⟨(some 13), none, .mv (.t 5)⟩,
  ⟨(some 14), none, .mv (.t 6)⟩,
  ⟨(some 15), none, .call 60 [(.t 12), (.t 13), (.t 14)]⟩]
theorem tr47_4 : (ro Tryd.f47 4).toList.mapM (trO Tryd.prog 57 (ro Tryd.f47 4)) = some a47_4 := by kernel_rfl
def a47_5 : List AO := [⟨(some 16), none, .mv (.t 6)⟩,
  ⟨(some 5), none, .mv (.t 16)⟩]
theorem tr47_5 : (ro Tryd.f47 5).toList.mapM (trO Tryd.prog 57 (ro Tryd.f47 5)) = some a47_5 := by kernel_rfl
def a47_6 : List AO := [⟨(some 17), none, .mv (.t 6)⟩,
  ⟨(some 18), none, .mv (.t 4)⟩,
  ⟨(some 19), none, .bin .add (.t 17) (.t 18)⟩,
  ⟨(some 6), none, .mv (.t 19)⟩]
theorem tr47_6 : (ro Tryd.f47 6).toList.mapM (trO Tryd.prog 57 (ro Tryd.f47 6)) = some a47_6 := by kernel_rfl
def a47_7 : List AO := [⟨(some 20), none, .load (some 2) (.t 2)⟩,
  ⟨(some 21), none, .mv (.t 5)⟩,
  ⟨(some 22), none, .mv (.t 1)⟩,
  ⟨(some 23), none, .call 60 [(.t 20), (.t 21), (.t 22)]⟩]
theorem tr47_7 : (ro Tryd.f47 7).toList.mapM (trO Tryd.prog 57 (ro Tryd.f47 7)) = some a47_7 := by kernel_rfl
def a47_8 : List AO := [⟨(some 24), none, .mv (.t 4)⟩,
  ⟨(some 25), none, .mv (.t 1)⟩,
  ⟨(some 26), none, .bin .lss (.t 24) (.t 25)⟩]
theorem tr47_8 : (ro Tryd.f47 8).toList.mapM (trO Tryd.prog 57 (ro Tryd.f47 8)) = some a47_8 := by kernel_rfl
def a47_9 : List AO := [⟨(some 27), none, .mv (.t 4)⟩,
  ⟨(some 28), none, .bin .mul (.v (.int .i64 2)) (.t 27)⟩,
  ⟨(some 5), none, .mv (.v (.int .i64 0))⟩,
  ⟨(some 6), none, .mv (.t 28)⟩]
theorem tr47_9 : (ro Tryd.f47 9).toList.mapM (trO Tryd.prog 57 (ro Tryd.f47 9)) = some a47_9 := by kernel_rfl
def a47_10 : List AO := [⟨(some 29), none, .mv (.t 6)⟩,
  ⟨(some 30), none, .mv (.t 1)⟩,
  ⟨(some 31), none, .bin .leq (.t 29) (.t 30)⟩]
theorem tr47_10 : (ro Tryd.f47 10).toList.mapM (trO Tryd.prog 57 (ro Tryd.f47 10)) = some a47_10 := by kernel_rfl
def a47_11 : List AO := [⟨(some 32), none, .load (some 2) (.t 2)⟩,
  ⟨(some 33), none, .mv (.t 5)⟩,
  ⟨(some 34), none, .mv (.t 5)⟩,
  ⟨(some 35), none, .mv (.t 4)⟩,
  ⟨(some 36), none, .bin .add (.t 34) (.t 35)⟩,
  ⟨(some 37), none, .mv (.t 6)⟩,
  ⟨(some 38), none, .call 61 [(.t 32), (.t 33), (.t 36), (.t 37)]⟩]
theorem tr47_11 : (ro Tryd.f47 11).toList.mapM (trO Tryd.prog 57 (ro Tryd.f47 11)) = some a47_11 := by kernel_rfl
def a47_12 : List AO := [⟨(some 39), none, .mv (.t 6)⟩,
  ⟨(some 5), none, .mv (.t 39)⟩]
theorem tr47_12 : (ro Tryd.f47 12).toList.mapM (trO Tryd.prog 57 (ro Tryd.f47 12)) = some a47_12 := by kernel_rfl
def a47_13 : List AO := [⟨(some 40), none, .mv (.t 6)⟩,
  ⟨(some 41), none, .mv (.t 4)⟩,
  ⟨(some 42), none, .bin .mul (.v (.int .i64 2)) (.t 41)⟩,
  ⟨(some 43), none, .bin .add (.t 40) (.t 42)⟩,
  ⟨(some 6), none, .mv (.t 43)⟩]
theorem tr47_13 : (ro Tryd.f47 13).toList.mapM (trO Tryd.prog 57 (ro Tryd.f47 13)) = some a47_13 := by kernel_rfl
def a47_14 : List AO := [⟨(some 44), none, .mv (.t 5)⟩,
  ⟨(some 45), none, .mv (.t 4)⟩,
  ⟨(some 46), none, .bin .add (.t 44) (.t 45)⟩,
  ⟨(some 7), none, .mv (.t 46)⟩]
theorem tr47_14 : (ro Tryd.f47 14).toList.mapM (trO Tryd.prog 57 (ro Tryd.f47 14)) = some a47_14 := by kernel_rfl
def a47_15 : List AO := [⟨(some 47), none, .mv (.t 7)⟩,
  ⟨(some 48), none, .mv (.t 1)⟩,
  ⟨(some 49), none, .bin .lss (.t 47) (.t 48)⟩]
theorem tr47_15 : (ro Tryd.f47 15).toList.mapM (trO Tryd.prog 57 (ro Tryd.f47 15)) = some a47_15 := by kernel_rfl
def a47_16 : List AO := [⟨(some 50), none, .load (some 2) (.t 2)⟩,
  ⟨(some 51), none, .mv (.t 5)⟩,
  ⟨(some 52), none, .mv (.t 7)⟩,
  ⟨(some 53), none, .mv (.t 1)⟩,
  ⟨(some 54), none, .call 61 [(.t 50), (.t 51), (.t 52), (.t 53)]⟩]
theorem tr47_16 : (ro Tryd.f47 16).toList.mapM (trO Tryd.prog 57 (ro Tryd.f47 16)) = some a47_16 := by kernel_rfl
def a47_17 : List AO := [⟨(some 55), none, .mv (.t 4)⟩,
  ⟨(some 56), none, .bin .mul (.t 55) (.v (.int .i64 2))⟩,
  ⟨(some 4), none, .mv (.t 56)⟩]
theorem tr47_17 : (ro Tryd.f47 17).toList.mapM (trO Tryd.prog 57 (ro Tryd.f47 17)) = some a47_17 := by kernel_rfl
/-- sort.insertionSort_func -/
noncomputable def c60 : Code := .seq (.region 0 (ro Tryd.f60 0) false) (.seq (.region 1 (ro Tryd.f60 1) false) (.block 0 (.loop (.seq (.seq (.region 2 (ro Tryd.f60 2) false) (.cond (.tmp 12) (.skip) (.exit 0))) (.seq (.block 1 (.seq (.region 4 (ro Tryd.f60 4) false) (.block 2 (.loop (.seq (.seq (.region 5 (ro Tryd.f60 5) false) (.cond (.tmp 26) (.skip) (.exit 2))) (.seq (.block 3 (.region 7 (ro Tryd.f60 7) false)) (.region 6 (ro Tryd.f60 6) false))))))) (.region 3 (ro Tryd.f60 3) false))))))
theorem body60 : Tryd.f60.body = some c60 := by kernel_rfl
theorem res60 : Tryd.f60.results.toList.mapM (trR Tryd.prog) = some [] := by kernel_rfl
theorem nt60 : Tryd.f60.ntmps = 35 := by kernel_rfl
theorem nm60 : (Tryd.f60.name == "runtime.NumGoroutine") = false := by kernel_rfl
def a60_0 : List AO := [⟨(some 3), none, .box 67 (.t 0)⟩]
theorem tr60_0 : (ro Tryd.f60 0).toList.mapM (trO Tryd.prog 35 (ro Tryd.f60 0)) = some a60_0 := by kernel_rfl
def a60_1 : List AO := [⟨(some 8), none, .mv (.t 1)⟩,
  ⟨(some 9), none, .bin .add (.t 8) (.v (.int .i64 1))⟩,
  ⟨(some 6), none, .mv (.t 9)⟩]
theorem tr60_1 : (ro Tryd.f60 1).toList.mapM (trO Tryd.prog 35 (ro Tryd.f60 1)) = some a60_1 := by kernel_rfl
def a60_2 : List AO := [⟨(some 10), none, .mv (.t 6)⟩,
  ⟨(some 11), none, .mv (.t 2)⟩,
  ⟨(some 12), none, .bin .lss (.t 10) (.t 11)⟩]
theorem tr60_2 : (ro Tryd.f60 2).toList.mapM (trO Tryd.prog 35 (ro Tryd.f60 2)) = some a60_2 := by kernel_rfl
def a60_4 : List AO := [⟨(some 15), none, .mv (.t 6)⟩,
  ⟨(some 7), none, .mv (.t 15)⟩]
theorem tr60_4 : (ro Tryd.f60 4).toList.mapM (trO Tryd.prog 35 (ro Tryd.f60 4)) = some a60_4 := by kernel_rfl
def a60_5 : List AO := [⟨(some 16), none, .mv (.t 7)⟩,
  ⟨(some 17), none, .mv (.t 1)⟩,
  ⟨(some 18), none, .bin .gtr (.t 16) (.t 17)⟩,
  ⟨(some 19), none, .mv (.t 18)⟩,
  ⟨(some 20), some (19, true), .fld 0 (.t 3)⟩,
  ⟨(some 21), some (19, true), .load none (.t 20)⟩,
  ⟨(some 22), some (19, true), .mv (.t 7)⟩,
  ⟨(some 23), some (19, true), .mv (.t 7)⟩,
  ⟨(some 24), some (19, true), .bin .sub (.t 23) (.v (.int .i64 1))⟩,
  ⟨(some 25), some (19, true), .callv (.t 21) [(.t 22), (.t 24)]⟩,
  ⟨(some 26), none, .pick (.t 19) (.t 25) (.v (.bool false))⟩]
theorem tr60_5 : (ro Tryd.f60 5).toList.mapM (trO Tryd.prog 35 (ro Tryd.f60 5)) = some a60_5 := by kernel_rfl
def a60_7 : List AO := [⟨(some 29), none, .fld 1 (.t 3)⟩,
  ⟨(some 30), none, .load none (.t 29)⟩,
  ⟨(some 31), none, .mv (.t 7)⟩,
  ⟨(some 32), none, .mv (.t 7)⟩,
  ⟨(some 33), none, .bin .sub (.t 32) (.v (.int .i64 1))⟩,
  ⟨(some 34), none, .callv (.t 30) [(.t 31), (.t 33)]⟩]
theorem tr60_7 : (ro Tryd.f60 7).toList.mapM (trO Tryd.prog 35 (ro Tryd.f60 7)) = some a60_7 := by kernel_rfl
def a60_6 : List AO := [⟨(some 27), none, .mv (.t 7)⟩,
  ⟨(some 28), none, .bin .sub (.t 27) (.v (.int .i64 1))⟩,
  ⟨(some 7), none, .mv (.t 28)⟩]
theorem tr60_6 : (ro Tryd.f60 6).toList.mapM (trO Tryd.prog 35 (ro Tryd.f60 6)) = some a60_6 := by kernel_rfl
def a60_3 : List AO := [⟨(some 13), none, .mv (.t 6)⟩,
  ⟨(some 14), none, .bin .add (.t 13) (.v (.int .i64 1))⟩,
  ⟨(some 6), none, .mv (.t 14)⟩]
theorem tr60_3 : (ro Tryd.f60 3).toList.mapM (trO Tryd.prog 35 (ro Tryd.f60 3)) = some a60_3 := by kernel_rfl
end Go.Proofs.YtdjeodopibaebaaDoor
