/- The code of the functions, region by region, as abstract operations. -/
import Derived.Test.YtcongikpaonliaaDoorProg
import Derived.Test.YtcongikpaonliaaDoorAv21
namespace Go.Proofs.YtcongikpaonliaaDoor
open Go Go.RowKit
def findR : Code → Nat → Option (Array Oper)
  | .region i ops _, k => if i = k then some ops else none
  | .seq a b, k => (findR a k).or (findR b k)
  | .cond _ a b, k => (findR a k).or (findR b k)
  | .block _ c, k => findR c k
  | .loop c, k => findR c k
  | .scope c, k => findR c k
  | _, _ => none
def ro (f : Func) (k : Nat) : Array Oper := ((f.body.bind fun c => findR c k).getD #[])
theorem mixed : Tryd.prog.follows .mixedOrders = true := by kernel_rfl
/-- airline/airlinelaw06.PlacesChecks -/
noncomputable def c3 : Code := .seq (.region 0 (ro Tryd.f3 0) false) (.seq (.seq (.region 1 (ro Tryd.f3 1) false) (.cond (.tmp 5) (.seq (.region 2 (ro Tryd.f3 2) false) (.ret)) (.skip))) (.seq (.region 3 (ro Tryd.f3 3) true) (.ret)))
theorem body3 : Tryd.f3.body = some c3 := by kernel_rfl
theorem res3 : Tryd.f3.results.toList.mapM (trR Tryd.prog) = some [.t 2] := by kernel_rfl
theorem nt3 : Tryd.f3.ntmps = 15 := by kernel_rfl
theorem nm3 : (Tryd.f3.name == "runtime.NumGoroutine") = false := by kernel_rfl
def a3_0 : List AO := [⟨(some 1), none, .box 25 (.t 0)⟩,
  ⟨(some 2), none, .mv (.v (.bool false))⟩]
theorem tr3_0 : (ro Tryd.f3 0).toList.mapM (trO Tryd.prog 15 (ro Tryd.f3 0)) = some a3_0 := by kernel_rfl
def a3_1 : List AO := [⟨(some 3), none, .load (some 2) (.t 1)⟩,
  ⟨(some 4), none, .call 8 [(.t 3)]⟩,
  ⟨(some 5), none, .un .not (.t 4)⟩]
theorem tr3_1 : (ro Tryd.f3 1).toList.mapM (trO Tryd.prog 15 (ro Tryd.f3 1)) = some a3_1 := by kernel_rfl
def a3_2 : List AO := [⟨(some 6), none, .call 9 []⟩,
  ⟨(some 2), none, .mv (.t 6)⟩]
theorem tr3_2 : (ro Tryd.f3 2).toList.mapM (trO Tryd.prog 15 (ro Tryd.f3 2)) = some a3_2 := by kernel_rfl
def a3_3 : List AO := [⟨(some 7), none, .load (some 2) (.t 1)⟩,
  ⟨(some 8), none, .call 11 [(.t 7)]⟩,
  ⟨(some 9), none, .load (some 2) (.t 1)⟩,
  ⟨(some 10), none, .call 12 [(.t 9)]⟩,
  ⟨(some 11), none, .call 10 [(.t 8), (.t 10)]⟩,
  ⟨(some 12), none, .mv (.t 11)⟩,
  ⟨(some 13), some (12, true), .call 9 []⟩,
  ⟨(some 14), none, .pick (.t 12) (.t 13) (.v (.bool false))⟩,
  ⟨(some 2), none, .mv (.t 14)⟩]
theorem tr3_3 : (ro Tryd.f3 3).toList.mapM (trO Tryd.prog 15 (ro Tryd.f3 3)) = some a3_3 := by kernel_rfl
def d3_3 : List (List Nat) := [[], [0], [], [0, 1, 2], [0, 1, 2, 3], [0, 1, 2, 3, 4], [0, 1, 2, 3, 4, 5], [0, 1, 2, 3, 4, 5, 6], [0, 1, 2, 3, 4, 5, 6, 7]]
theorem ok3_3 : okReg (ro Tryd.f3 3) a3_3 d3_3 = true := by kernel_rfl
/-- airline/airlinelaw06.PlacesFinds -/
noncomputable def c4 : Code := .seq (.region 0 (ro Tryd.f4 0) false) (.seq (.seq (.region 1 (ro Tryd.f4 1) false) (.cond (.tmp 14) (.seq (.region 2 (ro Tryd.f4 2) false) (.ret)) (.skip))) (.seq (.region 3 (ro Tryd.f4 3) false) (.seq (.region 4 (ro Tryd.f4 4) false) (.seq (.seq (.region 5 (ro Tryd.f4 5) true) (.cond (.tmp 54) (.seq (.region 6 (ro Tryd.f4 6) false) (.ret)) (.skip))) (.seq (.region 7 (ro Tryd.f4 7) false) (.seq (.region 8 (ro Tryd.f4 8) false) (.seq (.region 9 (ro Tryd.f4 9) false) (.ret))))))))
theorem body4 : Tryd.f4.body = some c4 := by kernel_rfl
theorem res4 : Tryd.f4.results.toList.mapM (trR Tryd.prog) = some [.t 4] := by kernel_rfl
theorem nt4 : Tryd.f4.ntmps = 75 := by kernel_rfl
theorem nm4 : (Tryd.f4.name == "runtime.NumGoroutine") = false := by kernel_rfl
def a4_0 : List AO := [⟨(some 2), none, .box 25 (.t 0)⟩,
  ⟨(some 4), none, .mv (.v (.bool false))⟩]
theorem tr4_0 : (ro Tryd.f4 0).toList.mapM (trO Tryd.prog 75 (ro Tryd.f4 0)) = some a4_0 := by kernel_rfl
def a4_1 : List AO := [⟨(some 12), none, .load (some 2) (.t 2)⟩,
  ⟨(some 13), none, .call 8 [(.t 12)]⟩,
  ⟨(some 14), none, .un .not (.t 13)⟩]
theorem tr4_1 : (ro Tryd.f4 1).toList.mapM (trO Tryd.prog 75 (ro Tryd.f4 1)) = some a4_1 := by kernel_rfl
def a4_2 : List AO := [⟨(some 15), none, .call 9 []⟩,
  ⟨(some 4), none, .mv (.t 15)⟩]
theorem tr4_2 : (ro Tryd.f4 2).toList.mapM (trO Tryd.prog 75 (ro Tryd.f4 2)) = some a4_2 := by kernel_rfl
def a4_3 : List AO := [⟨(some 17), none, .load (some 2) (.t 2)⟩,
  ⟨(some 18), none, .mv (.t 1)⟩,
  ⟨(some 19), none, .call 13 [(.t 17), (.t 18)]⟩,
  ⟨(some 16), none, .mv (.t 19)⟩,
  ⟨(some 20), none, .ext 0 (.t 16)⟩,
  ⟨(some 21), none, .ext 1 (.t 16)⟩,
  ⟨(some 5), none, .alloc 35 [(.str []), (.str []), (.str []), (.int .i64 0), .nils]⟩,
  ⟨none, none, .store 5 (.t 5) (.t 20)⟩,
  ⟨(some 6), none, .mv (.t 21)⟩]
theorem tr4_3 : (ro Tryd.f4 3).toList.mapM (trO Tryd.prog 75 (ro Tryd.f4 3)) = some a4_3 := by kernel_rfl
def a4_4 : List AO := [⟨(some 23), none, .load (some 2) (.t 2)⟩,
  ⟨(some 24), none, .mv (.t 1)⟩,
  ⟨(some 25), none, .call 14 [(.t 23), (.t 24)]⟩,
  ⟨(some 22), none, .mv (.t 25)⟩,
  ⟨(some 26), none, .ext 0 (.t 22)⟩,
  ⟨(some 27), none, .ext 1 (.t 22)⟩,
  ⟨(some 7), none, .alloc 35 [(.str []), (.str []), (.str []), (.int .i64 0), .nils]⟩,
  ⟨none, none, .store 5 (.t 7) (.t 26)⟩,
  ⟨(some 8), none, .mv (.t 27)⟩]
theorem tr4_4 : (ro Tryd.f4 4).toList.mapM (trO Tryd.prog 75 (ro Tryd.f4 4)) = some a4_4 := by kernel_rfl
def a4_5 : List AO := [⟨(some 28), none, .load (some 5) (.t 5)⟩,
  ⟨(some 29), none, .load (some 5) (.t 7)⟩,
  ⟨(some 30), none, .call 15 [(.t 28), (.t 29)]⟩,
  ⟨(some 31), none, .un .not (.t 30)⟩,
  ⟨(some 32), none, .mv (.t 31)⟩,
  ⟨(some 33), some (32, false), .mv (.t 6)⟩,
  ⟨(some 34), some (32, false), .mv (.t 8)⟩,
  ⟨(some 35), some (32, false), .binb .neq (.t 33) (.t 34)⟩,
  ⟨(some 36), none, .pick (.t 32) (.v (.bool true)) (.t 35)⟩,
  ⟨(some 37), none, .mv (.t 36)⟩,
  ⟨(some 38), some (37, false), .load (some 2) (.t 2)⟩,
  ⟨(some 39), some (37, false), .mv (.t 1)⟩,
  ⟨(some 40), some (37, false), .call 16 [(.t 38), (.t 39)]⟩,
  ⟨(some 41), some (37, false), .load (some 2) (.t 2)⟩,
  ⟨(some 42), some (37, false), .mv (.t 1)⟩,
  ⟨(some 43), some (37, false), .call 17 [(.t 41), (.t 42)]⟩,
  ⟨(some 44), some (37, false), .bin .neq (.t 40) (.t 43)⟩,
  ⟨(some 45), none, .pick (.t 37) (.v (.bool true)) (.t 44)⟩,
  ⟨(some 46), none, .mv (.t 45)⟩,
  ⟨(some 47), some (46, false), .load (some 2) (.t 2)⟩,
  ⟨(some 48), some (46, false), .mv (.t 1)⟩,
  ⟨(some 49), some (46, false), .call 18 [(.t 47), (.t 48)]⟩,
  ⟨(some 50), some (46, false), .load (some 2) (.t 2)⟩,
  ⟨(some 51), some (46, false), .mv (.t 1)⟩,
  ⟨(some 52), some (46, false), .call 19 [(.t 50), (.t 51)]⟩,
  ⟨(some 53), some (46, false), .bin .neq (.t 49) (.t 52)⟩,
  ⟨(some 54), none, .pick (.t 46) (.v (.bool true)) (.t 53)⟩]
theorem tr4_5 : (ro Tryd.f4 5).toList.mapM (trO Tryd.prog 75 (ro Tryd.f4 5)) = some a4_5 := by kernel_rfl
def d4_5 : List (List Nat) := [[], [], [0, 1], [0, 1, 2], [0, 1, 2, 3], [0, 1, 2, 3, 4], [0, 1, 2, 3, 4], [0, 1, 2, 3, 4, 5, 6], [0, 1, 2, 3, 4, 5, 6, 7], [0, 1, 2, 3, 4, 5, 6, 7, 8], [0, 1, 2, 3, 4, 5, 6, 7, 8, 9], [0, 1, 2, 3, 4, 5, 6, 7, 8, 9], [0, 1, 2, 3, 4, 5, 6, 7, 8, 9, 10, 11], [0, 1, 2, 3, 4, 5, 6, 7, 8, 9], [0, 1, 2, 3, 4, 5, 6, 7, 8, 9], [0, 1, 2, 3, 4, 5, 6, 7, 8, 9, 10, 11, 12, 13, 14], [0, 1, 2, 3, 4, 5, 6, 7, 8, 9, 10, 11, 12, 13, 14, 15], [0, 1, 2, 3, 4, 5, 6, 7, 8, 9, 10, 11, 12, 13, 14, 15, 16], [0, 1, 2, 3, 4, 5, 6, 7, 8, 9, 10, 11, 12, 13, 14, 15, 16, 17], [0, 1, 2, 3, 4, 5, 6, 7, 8, 9, 10, 11, 12, 13, 14, 15, 16, 17, 18], [0, 1, 2, 3, 4, 5, 6, 7, 8, 9, 10, 11, 12, 13, 14, 15, 16, 17, 18], [0, 1, 2, 3, 4, 5, 6, 7, 8, 9, 10, 11, 12, 13, 14, 15, 16, 17, 18, 19, 20], [0, 1, 2, 3, 4, 5, 6, 7, 8, 9, 10, 11, 12, 13, 14, 15, 16, 17, 18], [0, 1, 2, 3, 4, 5, 6, 7, 8, 9, 10, 11, 12, 13, 14, 15, 16, 17, 18], [0, 1, 2, 3, 4, 5, 6, 7, 8, 9, 10, 11, 12, 13, 14, 15, 16, 17, 18, 19, 20, 21, 22, 23], [0, 1, 2, 3, 4, 5, 6, 7, 8, 9, 10, 11, 12, 13, 14, 15, 16, 17, 18, 19, 20, 21, 22, 23, 24], [0, 1, 2, 3, 4, 5, 6, 7, 8, 9, 10, 11, 12, 13, 14, 15, 16, 17, 18, 19, 20, 21, 22, 23, 24, 25]]
theorem ok4_5 : okReg (ro Tryd.f4 5) a4_5 d4_5 = true := by kernel_rfl
def a4_6 : List AO := [⟨(some 4), none, .mv (.v (.bool false))⟩]
theorem tr4_6 : (ro Tryd.f4 6).toList.mapM (trO Tryd.prog 75 (ro Tryd.f4 6)) = some a4_6 := by kernel_rfl
def a4_7 : List AO := [⟨(some 55), none, .load (some 2) (.t 2)⟩,
  ⟨(some 56), none, .mv (.t 1)⟩,
  ⟨(some 57), none, .call 16 [(.t 55), (.t 56)]⟩,
  ⟨(some 9), none, .mv (.t 57)⟩]
theorem tr4_7 : (ro Tryd.f4 7).toList.mapM (trO Tryd.prog 75 (ro Tryd.f4 7)) = some a4_7 := by kernel_rfl
def a4_8 : List AO := [⟨(some 59), none, .load (some 2) (.t 2)⟩,
  ⟨(some 60), none, .mv (.t 9)⟩,
  ⟨(some 61), none, .call 14 [(.t 59), (.t 60)]⟩,
  ⟨(some 58), none, .mv (.t 61)⟩,
  ⟨(some 62), none, .ext 0 (.t 58)⟩,
  ⟨(some 63), none, .ext 1 (.t 58)⟩,
  ⟨(some 10), none, .alloc 35 [(.str []), (.str []), (.str []), (.int .i64 0), .nils]⟩,
  ⟨none, none, .store 5 (.t 10) (.t 62)⟩,
  ⟨(some 11), none, .mv (.t 63)⟩]
theorem tr4_8 : (ro Tryd.f4 8).toList.mapM (trO Tryd.prog 75 (ro Tryd.f4 8)) = some a4_8 := by kernel_rfl
def a4_9 : List AO := [⟨(some 64), none, .mv (.t 11)⟩,
  ⟨(some 65), none, .mv (.t 64)⟩,
  ⟨(some 66), some (65, false), .load (some 2) (.t 2)⟩,
  ⟨(some 67), some (65, false), .mv (.t 9)⟩,
  ⟨(some 68), some (65, false), .call 16 [(.t 66), (.t 67)]⟩,
  ⟨(some 69), some (65, false), .mv (.t 9)⟩,
  ⟨(some 70), some (65, false), .bin .eql (.t 68) (.t 69)⟩,
  ⟨(some 71), none, .pick (.t 65) (.v (.bool true)) (.t 70)⟩,
  ⟨(some 72), none, .mv (.t 71)⟩,
  ⟨(some 73), some (72, true), .call 9 []⟩,
  ⟨(some 74), none, .pick (.t 72) (.t 73) (.v (.bool false))⟩,
  ⟨(some 4), none, .mv (.t 74)⟩]
theorem tr4_9 : (ro Tryd.f4 9).toList.mapM (trO Tryd.prog 75 (ro Tryd.f4 9)) = some a4_9 := by kernel_rfl
/-- airline/airlinelaw06.PlacesMiles -/
noncomputable def c5 : Code := .seq (.region 0 (ro Tryd.f5 0) false) (.seq (.seq (.region 1 (ro Tryd.f5 1) false) (.cond (.tmp 13) (.seq (.region 2 (ro Tryd.f5 2) false) (.ret)) (.skip))) (.seq (.region 3 (ro Tryd.f5 3) false) (.seq (.region 4 (ro Tryd.f5 4) false) (.seq (.region 5 (ro Tryd.f5 5) false) (.ret)))))
theorem body5 : Tryd.f5.body = some c5 := by kernel_rfl
theorem res5 : Tryd.f5.results.toList.mapM (trR Tryd.prog) = some [.t 6] := by kernel_rfl
theorem nt5 : Tryd.f5.ntmps = 40 := by kernel_rfl
theorem nm5 : (Tryd.f5.name == "runtime.NumGoroutine") = false := by kernel_rfl
def a5_0 : List AO := [⟨(some 3), none, .box 25 (.t 0)⟩,
  ⟨(some 6), none, .mv (.v (.bool false))⟩]
theorem tr5_0 : (ro Tryd.f5 0).toList.mapM (trO Tryd.prog 40 (ro Tryd.f5 0)) = some a5_0 := by kernel_rfl
def a5_1 : List AO := [⟨(some 11), none, .load (some 2) (.t 3)⟩,
  ⟨(some 12), none, .call 8 [(.t 11)]⟩,
  ⟨(some 13), none, .un .not (.t 12)⟩]
theorem tr5_1 : (ro Tryd.f5 1).toList.mapM (trO Tryd.prog 40 (ro Tryd.f5 1)) = some a5_1 := by kernel_rfl
def a5_2 : List AO := [⟨(some 14), none, .call 9 []⟩,
  ⟨(some 6), none, .mv (.t 14)⟩]
theorem tr5_2 : (ro Tryd.f5 2).toList.mapM (trO Tryd.prog 40 (ro Tryd.f5 2)) = some a5_2 := by kernel_rfl
def a5_3 : List AO := [⟨(some 16), none, .load (some 2) (.t 3)⟩,
  ⟨(some 17), none, .mv (.t 1)⟩,
  ⟨(some 18), none, .mv (.t 2)⟩,
  ⟨(some 19), none, .call 20 [(.t 16), (.t 17), (.t 18)]⟩,
  ⟨(some 15), none, .mv (.t 19)⟩,
  ⟨(some 20), none, .ext 0 (.t 15)⟩,
  ⟨(some 21), none, .ext 1 (.t 15)⟩,
  ⟨(some 7), none, .mv (.t 20)⟩,
  ⟨(some 8), none, .mv (.t 21)⟩]
theorem tr5_3 : (ro Tryd.f5 3).toList.mapM (trO Tryd.prog 40 (ro Tryd.f5 3)) = some a5_3 := by kernel_rfl
def a5_4 : List AO := [⟨(some 23), none, .load (some 2) (.t 3)⟩,
  ⟨(some 24), none, .mv (.t 1)⟩,
  ⟨(some 25), none, .mv (.t 2)⟩,
  ⟨(some 26), none, .call 21 [(.t 23), (.t 24), (.t 25)]⟩,
  ⟨(some 22), none, .mv (.t 26)⟩,
  ⟨(some 27), none, .ext 0 (.t 22)⟩,
  ⟨(some 28), none, .ext 1 (.t 22)⟩,
  ⟨(some 9), none, .mv (.t 27)⟩,
  ⟨(some 10), none, .mv (.t 28)⟩]
theorem tr5_4 : (ro Tryd.f5 4).toList.mapM (trO Tryd.prog 40 (ro Tryd.f5 4)) = some a5_4 := by kernel_rfl
def a5_5 : List AO := [⟨(some 29), none, .mv (.t 7)⟩,
  ⟨(some 30), none, .mv (.t 9)⟩,
  ⟨(some 31), none, .bin .eql (.t 29) (.t 30)⟩,
  ⟨(some 32), none, .mv (.t 31)⟩,
  ⟨(some 33), some (32, true), .mv (.t 8)⟩,
  ⟨(some 34), some (32, true), .mv (.t 10)⟩,
  ⟨(some 35), some (32, true), .bin .eql (.t 33) (.t 34)⟩,
  ⟨(some 36), none, .pick (.t 32) (.t 35) (.v (.bool false))⟩,
  ⟨(some 37), none, .mv (.t 36)⟩,
  ⟨(some 38), some (37, true), .call 9 []⟩,
  ⟨(some 39), none, .pick (.t 37) (.t 38) (.v (.bool false))⟩,
  ⟨(some 6), none, .mv (.t 39)⟩]
theorem tr5_5 : (ro Tryd.f5 5).toList.mapM (trO Tryd.prog 40 (ro Tryd.f5 5)) = some a5_5 := by kernel_rfl
/-- airline/airlinelaw06.PlacesTriangle -/
noncomputable def c6 : Code := .seq (.region 0 (ro Tryd.f6 0) false) (.seq (.seq (.region 1 (ro Tryd.f6 1) false) (.cond (.tmp 17) (.seq (.region 2 (ro Tryd.f6 2) false) (.ret)) (.skip))) (.seq (.region 3 (ro Tryd.f6 3) false) (.seq (.region 4 (ro Tryd.f6 4) false) (.seq (.region 5 (ro Tryd.f6 5) false) (.seq (.region 6 (ro Tryd.f6 6) false) (.seq (.region 7 (ro Tryd.f6 7) false) (.seq (.seq (.region 8 (ro Tryd.f6 8) false) (.cond (.tmp 85) (.seq (.region 9 (ro Tryd.f6 9) false) (.ret)) (.skip))) (.seq (.region 10 (ro Tryd.f6 10) false) (.ret)))))))))
theorem body6 : Tryd.f6.body = some c6 := by kernel_rfl
theorem res6 : Tryd.f6.results.toList.mapM (trR Tryd.prog) = some [.t 4] := by kernel_rfl
theorem nt6 : Tryd.f6.ntmps = 106 := by kernel_rfl
theorem nm6 : (Tryd.f6.name == "runtime.NumGoroutine") = false := by kernel_rfl
def a6_0 : List AO := [⟨(some 2), none, .box 25 (.t 0)⟩,
  ⟨(some 3), none, .box 46 (.t 1)⟩,
  ⟨(some 4), none, .mv (.v (.bool false))⟩]
theorem tr6_0 : (ro Tryd.f6 0).toList.mapM (trO Tryd.prog 106 (ro Tryd.f6 0)) = some a6_0 := by kernel_rfl
def a6_1 : List AO := [⟨(some 15), none, .load (some 2) (.t 2)⟩,
  ⟨(some 16), none, .call 8 [(.t 15)]⟩,
  ⟨(some 17), none, .un .not (.t 16)⟩]
theorem tr6_1 : (ro Tryd.f6 1).toList.mapM (trO Tryd.prog 106 (ro Tryd.f6 1)) = some a6_1 := by kernel_rfl
def a6_2 : List AO := [⟨(some 18), none, .call 9 []⟩,
  ⟨(some 4), none, .mv (.t 18)⟩]
theorem tr6_2 : (ro Tryd.f6 2).toList.mapM (trO Tryd.prog 106 (ro Tryd.f6 2)) = some a6_2 := by kernel_rfl
def a6_3 : List AO := [⟨(some 20), none, .load (some 2) (.t 2)⟩,
  ⟨(some 21), none, .fld 0 (.t 3)⟩,
  ⟨(some 22), none, .load none (.t 21)⟩,
  ⟨(some 23), none, .fld 1 (.t 3)⟩,
  ⟨(some 24), none, .load none (.t 23)⟩,
  ⟨(some 25), none, .call 20 [(.t 20), (.t 22), (.t 24)]⟩,
  ⟨(some 19), none, .mv (.t 25)⟩,
  ⟨(some 26), none, .ext 0 (.t 19)⟩,
  ⟨(some 27), none, .ext 1 (.t 19)⟩,
  ⟨(some 5), none, .mv (.t 26)⟩,
  ⟨(some 6), none, .mv (.t 27)⟩]
theorem tr6_3 : (ro Tryd.f6 3).toList.mapM (trO Tryd.prog 106 (ro Tryd.f6 3)) = some a6_3 := by kernel_rfl
def a6_4 : List AO := [⟨(some 29), none, .load (some 2) (.t 2)⟩,
  ⟨(some 30), none, .fld 1 (.t 3)⟩,
  ⟨(some 31), none, .load none (.t 30)⟩,
  ⟨(some 32), none, .fld 0 (.t 3)⟩,
  ⟨(some 33), none, .load none (.t 32)⟩,
  ⟨(some 34), none, .call 20 [(.t 29), (.t 31), (.t 33)]⟩,
  ⟨(some 28), none, .mv (.t 34)⟩,
  ⟨(some 35), none, .ext 0 (.t 28)⟩,
  ⟨(some 36), none, .ext 1 (.t 28)⟩,
  ⟨(some 7), none, .mv (.t 35)⟩,
  ⟨(some 8), none, .mv (.t 36)⟩]
theorem tr6_4 : (ro Tryd.f6 4).toList.mapM (trO Tryd.prog 106 (ro Tryd.f6 4)) = some a6_4 := by kernel_rfl
def a6_5 : List AO := [⟨(some 38), none, .load (some 2) (.t 2)⟩,
  ⟨(some 39), none, .fld 1 (.t 3)⟩,
  ⟨(some 40), none, .load none (.t 39)⟩,
  ⟨(some 41), none, .fld 2 (.t 3)⟩,
  ⟨(some 42), none, .load none (.t 41)⟩,
  ⟨(some 43), none, .call 20 [(.t 38), (.t 40), (.t 42)]⟩,
  ⟨(some 37), none, .mv (.t 43)⟩,
  ⟨(some 44), none, .ext 0 (.t 37)⟩,
  ⟨(some 45), none, .ext 1 (.t 37)⟩,
  ⟨(some 9), none, .mv (.t 44)⟩,
  ⟨(some 10), none, .mv (.t 45)⟩]
theorem tr6_5 : (ro Tryd.f6 5).toList.mapM (trO Tryd.prog 106 (ro Tryd.f6 5)) = some a6_5 := by kernel_rfl
def a6_6 : List AO := [⟨(some 47), none, .load (some 2) (.t 2)⟩,
  ⟨(some 48), none, .fld 0 (.t 3)⟩,
  ⟨(some 49), none, .load none (.t 48)⟩,
  ⟨(some 50), none, .fld 2 (.t 3)⟩,
  ⟨(some 51), none, .load none (.t 50)⟩,
  ⟨(some 52), none, .call 20 [(.t 47), (.t 49), (.t 51)]⟩,
  ⟨(some 46), none, .mv (.t 52)⟩,
  ⟨(some 53), none, .ext 0 (.t 46)⟩,
  ⟨(some 54), none, .ext 1 (.t 46)⟩,
  ⟨(some 11), none, .mv (.t 53)⟩,
  ⟨(some 12), none, .mv (.t 54)⟩]
theorem tr6_6 : (ro Tryd.f6 6).toList.mapM (trO Tryd.prog 106 (ro Tryd.f6 6)) = some a6_6 := by kernel_rfl
def a6_7 : List AO := [⟨(some 56), none, .load (some 2) (.t 2)⟩,
  ⟨(some 57), none, .fld 0 (.t 3)⟩,
  ⟨(some 58), none, .load none (.t 57)⟩,
  ⟨(some 59), none, .fld 0 (.t 3)⟩,
  ⟨(some 60), none, .load none (.t 59)⟩,
  ⟨(some 61), none, .call 20 [(.t 56), (.t 58), (.t 60)]⟩,
  ⟨(some 55), none, .mv (.t 61)⟩,
  ⟨(some 62), none, .ext 0 (.t 55)⟩,
  ⟨(some 63), none, .ext 1 (.t 55)⟩,
  ⟨(some 13), none, .mv (.t 62)⟩,
  ⟨(some 14), none, .mv (.t 63)⟩]
theorem tr6_7 : (ro Tryd.f6 7).toList.mapM (trO Tryd.prog 106 (ro Tryd.f6 7)) = some a6_7 := by kernel_rfl
def a6_8 : List AO := [⟨(some 64), none, .mv (.t 5)⟩,
  ⟨(some 65), none, .mv (.t 7)⟩,
  ⟨(some 66), none, .bin .neq (.t 64) (.t 65)⟩,
  ⟨(some 67), none, .mv (.t 66)⟩,
  ⟨(some 68), some (67, false), .mv (.t 6)⟩,
  ⟨(some 69), some (67, false), .mv (.t 8)⟩,
  ⟨(some 70), some (67, false), .bin .neq (.t 68) (.t 69)⟩,
  ⟨(some 71), none, .pick (.t 67) (.v (.bool true)) (.t 70)⟩,
  ⟨(some 72), none, .mv (.t 71)⟩,
  ⟨(some 73), some (72, false), .mv (.t 13)⟩,
  ⟨(some 74), some (72, false), .bin .neq (.t 73) (.v (.int .i64 0))⟩,
  ⟨(some 75), none, .pick (.t 72) (.v (.bool true)) (.t 74)⟩,
  ⟨(some 76), none, .mv (.t 75)⟩,
  ⟨(some 77), some (76, false), .mv (.t 14)⟩,
  ⟨(some 78), some (76, false), .bin .neq (.t 77) (.v (.int .i64 0))⟩,
  ⟨(some 79), some (76, false), .load (some 2) (.t 2)⟩,
  ⟨(some 80), some (76, false), .fld 0 (.t 3)⟩,
  ⟨(some 81), some (76, false), .load none (.t 80)⟩,
  ⟨(some 82), some (76, false), .call 16 [(.t 79), (.t 81)]⟩,
  ⟨(some 83), some (76, false), .bin .eql (.t 82) (.v (.str []))⟩,
  ⟨(some 84), some (76, false), .binb .neq (.t 78) (.t 83)⟩,
  ⟨(some 85), none, .pick (.t 76) (.v (.bool true)) (.t 84)⟩]
theorem tr6_8 : (ro Tryd.f6 8).toList.mapM (trO Tryd.prog 106 (ro Tryd.f6 8)) = some a6_8 := by kernel_rfl
def a6_9 : List AO := [⟨(some 4), none, .mv (.v (.bool false))⟩]
theorem tr6_9 : (ro Tryd.f6 9).toList.mapM (trO Tryd.prog 106 (ro Tryd.f6 9)) = some a6_9 := by kernel_rfl
def a6_10 : List AO := [⟨(some 86), none, .mv (.t 6)⟩,
  ⟨(some 87), none, .bin .neq (.t 86) (.v (.int .i64 0))⟩,
  ⟨(some 88), none, .mv (.t 87)⟩,
  ⟨(some 89), some (88, false), .mv (.t 10)⟩,
  ⟨(some 90), some (88, false), .bin .neq (.t 89) (.v (.int .i64 0))⟩,
  ⟨(some 91), none, .pick (.t 88) (.v (.bool true)) (.t 90)⟩,
  ⟨(some 92), none, .mv (.t 91)⟩,
  ⟨(some 93), some (92, false), .mv (.t 12)⟩,
  ⟨(some 94), some (92, false), .bin .eql (.t 93) (.v (.int .i64 0))⟩,
  ⟨(some 95), some (92, false), .mv (.t 94)⟩,
  ⟨(some 96), some (95, true), .mv (.t 11)⟩,
  ⟨(some 97), some (95, true), .mv (.t 5)⟩,
  ⟨(some 98), some (95, true), .mv (.t 9)⟩,
  ⟨(some 99), some (95, true), .bin .add (.t 97) (.t 98)⟩,
  ⟨(some 100), some (95, true), .bin .leq (.t 96) (.t 99)⟩,
  ⟨(some 101), some (92, false), .pick (.t 95) (.t 100) (.v (.bool false))⟩,
  ⟨(some 102), none, .pick (.t 92) (.v (.bool true)) (.t 101)⟩,
  ⟨(some 103), none, .mv (.t 102)⟩,
  ⟨(some 104), some (103, true), .call 9 []⟩,
  ⟨(some 105), none, .pick (.t 103) (.t 104) (.v (.bool false))⟩,
  ⟨(some 4), none, .mv (.t 105)⟩]
theorem tr6_10 : (ro Tryd.f6 10).toList.mapM (trO Tryd.prog 106 (ro Tryd.f6 10)) = some a6_10 := by kernel_rfl
/-- airline/airlinelaw06.PlacesWays -/
noncomputable def c7 : Code := .seq (.region 0 (ro Tryd.f7 0) false) (.seq (.seq (.region 1 (ro Tryd.f7 1) false) (.cond (.tmp 18) (.seq (.region 2 (ro Tryd.f7 2) false) (.ret)) (.skip))) (.seq (.region 3 (ro Tryd.f7 3) false) (.seq (.region 4 (ro Tryd.f7 4) false) (.seq (.seq (.region 5 (ro Tryd.f7 5) false) (.cond (.tmp 39) (.seq (.region 6 (ro Tryd.f7 6) false) (.ret)) (.skip))) (.seq (.seq (.region 7 (ro Tryd.f7 7) false) (.cond (.tmp 46) (.seq (.region 8 (ro Tryd.f7 8) false) (.ret)) (.skip))) (.seq (.region 9 (ro Tryd.f7 9) true) (.seq (.region 10 (ro Tryd.f7 10) false) (.ret))))))))
theorem body7 : Tryd.f7.body = some c7 := by kernel_rfl
theorem res7 : Tryd.f7.results.toList.mapM (trR Tryd.prog) = some [.t 4] := by kernel_rfl
theorem nt7 : Tryd.f7.ntmps = 72 := by kernel_rfl
theorem nm7 : (Tryd.f7.name == "runtime.NumGoroutine") = false := by kernel_rfl
def a7_0 : List AO := [⟨(some 2), none, .box 25 (.t 0)⟩,
  ⟨(some 4), none, .mv (.v (.bool false))⟩]
theorem tr7_0 : (ro Tryd.f7 0).toList.mapM (trO Tryd.prog 72 (ro Tryd.f7 0)) = some a7_0 := by kernel_rfl
def a7_1 : List AO := [⟨(some 11), none, .load (some 2) (.t 2)⟩,
  ⟨(some 12), none, .call 8 [(.t 11)]⟩,
  ⟨(some 13), none, .un .not (.t 12)⟩,
  ⟨(some 14), none, .mv (.t 13)⟩,
  ⟨(some 15), some (14, false), .mv (.t 1)⟩,
  ⟨(some 16), some (14, false), .len (.t 15)⟩,
  ⟨(some 17), some (14, false), .bin .gtr (.t 16) (.v (.int .i64 12))⟩,
  ⟨(some 18), none, .pick (.t 14) (.v (.bool true)) (.t 17)⟩]
theorem tr7_1 : (ro Tryd.f7 1).toList.mapM (trO Tryd.prog 72 (ro Tryd.f7 1)) = some a7_1 := by kernel_rfl
def a7_2 : List AO := [⟨(some 19), none, .call 9 []⟩,
  ⟨(some 4), none, .mv (.t 19)⟩]
theorem tr7_2 : (ro Tryd.f7 2).toList.mapM (trO Tryd.prog 72 (ro Tryd.f7 2)) = some a7_2 := by kernel_rfl
def a7_3 : List AO := [⟨(some 21), none, .load (some 2) (.t 2)⟩,
  ⟨(some 22), none, .mv (.t 1)⟩,
  ⟨(some 23), none, .call 22 [(.t 21), (.t 22)]⟩,
  ⟨(some 20), none, .mv (.t 23)⟩,
  ⟨(some 24), none, .ext 0 (.t 20)⟩,
  ⟨(some 25), none, .ext 1 (.t 20)⟩,
  ⟨(some 5), none, .mv (.t 24)⟩,
  ⟨(some 6), none, .mv (.t 25)⟩]
theorem tr7_3 : (ro Tryd.f7 3).toList.mapM (trO Tryd.prog 72 (ro Tryd.f7 3)) = some a7_3 := by kernel_rfl
def a7_4 : List AO := [⟨(some 27), none, .load (some 2) (.t 2)⟩,
  ⟨(some 28), none, .mv (.t 1)⟩,
  ⟨(some 29), none, .call 23 [(.t 27), (.t 28)]⟩,
  ⟨(some 26), none, .mv (.t 29)⟩,
  ⟨(some 30), none, .ext 0 (.t 26)⟩,
  ⟨(some 31), none, .ext 1 (.t 26)⟩,
  ⟨(some 7), none, .mv (.t 30)⟩,
  ⟨(some 8), none, .mv (.t 31)⟩]
theorem tr7_4 : (ro Tryd.f7 4).toList.mapM (trO Tryd.prog 72 (ro Tryd.f7 4)) = some a7_4 := by kernel_rfl
def a7_5 : List AO := [⟨(some 32), none, .mv (.t 5)⟩,
  ⟨(some 33), none, .mv (.t 7)⟩,
  ⟨(some 34), none, .bin .neq (.t 32) (.t 33)⟩,
  ⟨(some 35), none, .mv (.t 34)⟩,
  ⟨(some 36), some (35, false), .mv (.t 6)⟩,
  ⟨(some 37), some (35, false), .mv (.t 8)⟩,
  ⟨(some 38), some (35, false), .bin .neq (.t 36) (.t 37)⟩,
  ⟨(some 39), none, .pick (.t 35) (.v (.bool true)) (.t 38)⟩]
theorem tr7_5 : (ro Tryd.f7 5).toList.mapM (trO Tryd.prog 72 (ro Tryd.f7 5)) = some a7_5 := by kernel_rfl
def a7_6 : List AO := [⟨(some 4), none, .mv (.v (.bool false))⟩]
theorem tr7_6 : (ro Tryd.f7 6).toList.mapM (trO Tryd.prog 72 (ro Tryd.f7 6)) = some a7_6 := by kernel_rfl
def a7_7 : List AO := [⟨(some 40), none, .mv (.t 6)⟩,
  ⟨(some 41), none, .bin .neq (.t 40) (.v (.int .i64 0))⟩,
  ⟨(some 42), none, .mv (.t 41)⟩,
  ⟨(some 43), some (42, false), .mv (.t 1)⟩,
  ⟨(some 44), some (42, false), .len (.t 43)⟩,
  ⟨(some 45), some (42, false), .bin .lss (.t 44) (.v (.int .i64 2))⟩,
  ⟨(some 46), none, .pick (.t 42) (.v (.bool true)) (.t 45)⟩]
theorem tr7_7 : (ro Tryd.f7 7).toList.mapM (trO Tryd.prog 72 (ro Tryd.f7 7)) = some a7_7 := by kernel_rfl
def a7_8 : List AO := [⟨(some 47), none, .call 9 []⟩,
  ⟨(some 4), none, .mv (.t 47)⟩]
theorem tr7_8 : (ro Tryd.f7 8).toList.mapM (trO Tryd.prog 72 (ro Tryd.f7 8)) = some a7_8 := by kernel_rfl
def a7_9 : List AO := [⟨(some 49), none, .load (some 2) (.t 2)⟩,
  ⟨(some 50), none, .mv (.t 1)⟩,
  ⟨(some 51), none, .idx 1 (.t 50) (.v (.int .i64 0))⟩,
  ⟨(some 52), none, .load none (.t 51)⟩,
  ⟨(some 53), none, .mv (.t 1)⟩,
  ⟨(some 54), none, .mv (.t 1)⟩,
  ⟨(some 55), none, .len (.t 54)⟩,
  ⟨(some 56), none, .bin .sub (.t 55) (.v (.int .i64 1))⟩,
  ⟨(some 57), none, .idx 1 (.t 53) (.t 56)⟩,
  ⟨(some 58), none, .load none (.t 57)⟩,
  ⟨(some 59), none, .call 20 [(.t 49), (.t 52), (.t 58)]⟩,
  ⟨(some 48), none, .mv (.t 59)⟩,
  ⟨(some 60), none, .ext 0 (.t 48)⟩,
  ⟨(some 61), none, .ext 1 (.t 48)⟩,
  ⟨(some 9), none, .mv (.t 60)⟩,
  ⟨(some 10), none, .mv (.t 61)⟩]
theorem tr7_9 : (ro Tryd.f7 9).toList.mapM (trO Tryd.prog 72 (ro Tryd.f7 9)) = some a7_9 := by kernel_rfl
def d7_9 : List (List Nat) := [[], [], [1], [1, 2], [], [], [5], [5, 6], [4, 5, 6, 7], [4, 5, 6, 7, 8], [0, 1, 2, 3, 4, 5, 6, 7, 8, 9], [0, 1, 2, 3, 4, 5, 6, 7, 8, 9, 10], [0, 1, 2, 3, 4, 5, 6, 7, 8, 9, 10, 11], [0, 1, 2, 3, 4, 5, 6, 7, 8, 9, 10, 11], [0, 1, 2, 3, 4, 5, 6, 7, 8, 9, 10, 11, 12], [0, 1, 2, 3, 4, 5, 6, 7, 8, 9, 10, 11, 12, 13, 14]]
theorem ok7_9 : okReg (ro Tryd.f7 9) a7_9 d7_9 = true := by kernel_rfl
def a7_10 : List AO := [⟨(some 62), none, .mv (.t 10)⟩,
  ⟨(some 63), none, .bin .eql (.t 62) (.v (.int .i64 0))⟩,
  ⟨(some 64), none, .mv (.t 63)⟩,
  ⟨(some 65), some (64, true), .mv (.t 9)⟩,
  ⟨(some 66), some (64, true), .mv (.t 5)⟩,
  ⟨(some 67), some (64, true), .bin .leq (.t 65) (.t 66)⟩,
  ⟨(some 68), none, .pick (.t 64) (.t 67) (.v (.bool false))⟩,
  ⟨(some 69), none, .mv (.t 68)⟩,
  ⟨(some 70), some (69, true), .call 9 []⟩,
  ⟨(some 71), none, .pick (.t 69) (.t 70) (.v (.bool false))⟩,
  ⟨(some 4), none, .mv (.t 71)⟩]
theorem tr7_10 : (ro Tryd.f7 10).toList.mapM (trO Tryd.prog 72 (ro Tryd.f7 10)) = some a7_10 := by kernel_rfl
/-- airline/airlinelaw06.Small -/
noncomputable def c8 : Code := .seq (.region 0 (ro Tryd.f8 0) false) (.seq (.seq (.region 1 (ro Tryd.f8 1) false) (.cond (.tmp 13) (.seq (.region 2 (ro Tryd.f8 2) false) (.ret)) (.skip))) (.seq (.seq (.region 3 (ro Tryd.f8 3) false) (.block 0 (.loop (.seq (.seq (.region 4 (ro Tryd.f8 4) false) (.cond (.tmp 18) (.skip) (.exit 0))) (.seq (.block 1 (.seq (.region 6 (ro Tryd.f8 6) false) (.cond (.tmp 29) (.seq (.region 7 (ro Tryd.f8 7) false) (.ret)) (.skip)))) (.region 5 (ro Tryd.f8 5) false)))))) (.seq (.region 8 (ro Tryd.f8 8) false) (.ret))))
theorem body8 : Tryd.f8.body = some c8 := by kernel_rfl
theorem res8 : Tryd.f8.results.toList.mapM (trR Tryd.prog) = some [.t 2] := by kernel_rfl
theorem nt8 : Tryd.f8.ntmps = 30 := by kernel_rfl
theorem nm8 : (Tryd.f8.name == "runtime.NumGoroutine") = false := by kernel_rfl
def a8_0 : List AO := [⟨(some 1), none, .box 25 (.t 0)⟩,
  ⟨(some 2), none, .mv (.v (.bool false))⟩]
theorem tr8_0 : (ro Tryd.f8 0).toList.mapM (trO Tryd.prog 30 (ro Tryd.f8 0)) = some a8_0 := by kernel_rfl
def a8_1 : List AO := [⟨(some 4), none, .fld 0 (.t 1)⟩,
  ⟨(some 5), none, .load none (.t 4)⟩,
  ⟨(some 6), none, .len (.t 5)⟩,
  ⟨(some 7), none, .bin .gtr (.t 6) (.v (.int .i64 40))⟩,
  ⟨(some 8), none, .mv (.t 7)⟩,
  ⟨(some 9), some (8, false), .fld 1 (.t 1)⟩,
  ⟨(some 10), some (8, false), .load none (.t 9)⟩,
  ⟨(some 11), some (8, false), .len (.t 10)⟩,
  ⟨(some 12), some (8, false), .bin .gtr (.t 11) (.v (.int .i64 60))⟩,
  ⟨(some 13), none, .pick (.t 8) (.v (.bool true)) (.t 12)⟩]
theorem tr8_1 : (ro Tryd.f8 1).toList.mapM (trO Tryd.prog 30 (ro Tryd.f8 1)) = some a8_1 := by kernel_rfl
def a8_2 : List AO := [⟨(some 2), none, .mv (.v (.bool false))⟩]
theorem tr8_2 : (ro Tryd.f8 2).toList.mapM (trO Tryd.prog 30 (ro Tryd.f8 2)) = some a8_2 := by kernel_rfl
def a8_3 : List AO := [⟨(some 3), none, .mv (.v (.int .i64 0))⟩]
theorem tr8_3 : (ro Tryd.f8 3).toList.mapM (trO Tryd.prog 30 (ro Tryd.f8 3)) = some a8_3 := by kernel_rfl
def a8_4 : List AO := [⟨(some 14), none, .mv (.t 3)⟩,
  ⟨(some 15), none, .fld 0 (.t 1)⟩,
  ⟨(some 16), none, .load none (.t 15)⟩,
  ⟨(some 17), none, .len (.t 16)⟩,
  ⟨(some 18), none, .bin .lss (.t 14) (.t 17)⟩]
theorem tr8_4 : (ro Tryd.f8 4).toList.mapM (trO Tryd.prog 30 (ro Tryd.f8 4)) = some a8_4 := by kernel_rfl
def a8_6 : List AO := [⟨(some 21), none, .fld 0 (.t 1)⟩,
  ⟨(some 22), none, .load none (.t 21)⟩,
  ⟨(some 23), none, .mv (.t 3)⟩,
  ⟨(some 24), none, .idx 5 (.t 22) (.t 23)⟩,
  ⟨(some 25), none, .fld 3 (.t 24)⟩,
  ⟨(some 26), none, .fld 1 (.t 25)⟩,
  ⟨(some 27), none, .load none (.t 26)⟩,
  ⟨(some 28), none, .len (.t 27)⟩,
  ⟨(some 29), none, .bin .gtr (.t 28) (.v (.int .i64 40))⟩]
theorem tr8_6 : (ro Tryd.f8 6).toList.mapM (trO Tryd.prog 30 (ro Tryd.f8 6)) = some a8_6 := by kernel_rfl
def a8_7 : List AO := [⟨(some 2), none, .mv (.v (.bool false))⟩]
theorem tr8_7 : (ro Tryd.f8 7).toList.mapM (trO Tryd.prog 30 (ro Tryd.f8 7)) = some a8_7 := by kernel_rfl
def a8_5 : List AO := [⟨(some 19), none, .mv (.t 3)⟩,
  ⟨(some 20), none, .bin .add (.t 19) (.v (.int .i64 1))⟩,
  ⟨(some 3), none, .mv (.t 20)⟩]
theorem tr8_5 : (ro Tryd.f8 5).toList.mapM (trO Tryd.prog 30 (ro Tryd.f8 5)) = some a8_5 := by kernel_rfl
def a8_8 : List AO := [⟨(some 2), none, .mv (.v (.bool true))⟩]
theorem tr8_8 : (ro Tryd.f8 8).toList.mapM (trO Tryd.prog 30 (ro Tryd.f8 8)) = some a8_8 := by kernel_rfl
/-- airline/airlinelaw06.awake -/
noncomputable def c9 : Code := .seq (.region 0 (ro Tryd.f9 0) false) (.seq (.region 1 (ro Tryd.f9 1) false) (.seq (.region 2 (ro Tryd.f9 2) false) (.seq (.region 3 (ro Tryd.f9 3) false) (.seq (.region 4 (ro Tryd.f9 4) false) (.seq (.region 5 (ro Tryd.f9 5) false) (.ret))))))
theorem body9 : Tryd.f9.body = some c9 := by kernel_rfl
theorem res9 : Tryd.f9.results.toList.mapM (trR Tryd.prog) = some [.t 0] := by kernel_rfl
theorem nt9 : Tryd.f9.ntmps = 72 := by kernel_rfl
theorem nm9 : (Tryd.f9.name == "runtime.NumGoroutine") = false := by kernel_rfl
def a9_0 : List AO := [⟨(some 0), none, .mv (.v (.bool false))⟩]
theorem tr9_0 : (ro Tryd.f9 0).toList.mapM (trO Tryd.prog 72 (ro Tryd.f9 0)) = some a9_0 := by kernel_rfl
def a9_1 : List AO := [⟨(some 10), none, .call 24 []⟩,
  ⟨(some 11), none, .call 20 [(.t 10), (.v (.str [76, 71, 87])), (.v (.str [82, 79, 77]))]⟩,
  ⟨(some 9), none, .mv (.t 11)⟩,
  ⟨(some 12), none, .ext 0 (.t 9)⟩,
  ⟨(some 13), none, .ext 1 (.t 9)⟩,
  ⟨(some 1), none, .mv (.t 12)⟩,
  ⟨(some 2), none, .mv (.t 13)⟩]
theorem tr9_1 : (ro Tryd.f9 1).toList.mapM (trO Tryd.prog 72 (ro Tryd.f9 1)) = some a9_1 := by kernel_rfl
def a9_2 : List AO := [⟨(some 15), none, .call 24 []⟩,
  ⟨(some 16), none, .slc 9 1 false [(.v (.str [82, 79, 77])), (.v (.str [76, 79, 78])), (.v (.str [80, 65, 82]))]⟩,
  ⟨(some 17), none, .call 22 [(.t 15), (.t 16)]⟩,
  ⟨(some 14), none, .mv (.t 17)⟩,
  ⟨(some 18), none, .ext 0 (.t 14)⟩,
  ⟨(some 19), none, .ext 1 (.t 14)⟩,
  ⟨(some 3), none, .mv (.t 18)⟩,
  ⟨(some 4), none, .mv (.t 19)⟩]
theorem tr9_2 : (ro Tryd.f9 2).toList.mapM (trO Tryd.prog 72 (ro Tryd.f9 2)) = some a9_2 := by kernel_rfl
def a9_3 : List AO := [⟨(some 21), none, .call 24 []⟩,
  ⟨(some 22), none, .call 20 [(.t 21), (.v (.str [76, 79, 78])), (.v (.str [78, 89, 67]))]⟩,
  ⟨(some 20), none, .mv (.t 22)⟩,
  ⟨(some 23), none, .ext 0 (.t 20)⟩,
  ⟨(some 24), none, .ext 1 (.t 20)⟩,
  ⟨(some 5), none, .mv (.t 23)⟩,
  ⟨(some 6), none, .mv (.t 24)⟩]
theorem tr9_3 : (ro Tryd.f9 3).toList.mapM (trO Tryd.prog 72 (ro Tryd.f9 3)) = some a9_3 := by kernel_rfl
def a9_4 : List AO := [⟨(some 26), none, .call 24 []⟩,
  ⟨(some 27), none, .call 13 [(.t 26), (.v (.str [67, 68, 71]))]⟩,
  ⟨(some 25), none, .mv (.t 27)⟩,
  ⟨(some 28), none, .ext 0 (.t 25)⟩,
  ⟨(some 29), none, .ext 1 (.t 25)⟩,
  ⟨(some 7), none, .alloc 35 [(.str []), (.str []), (.str []), (.int .i64 0), .nils]⟩,
  ⟨none, none, .store 5 (.t 7) (.t 28)⟩,
  ⟨(some 8), none, .mv (.t 29)⟩]
theorem tr9_4 : (ro Tryd.f9 4).toList.mapM (trO Tryd.prog 72 (ro Tryd.f9 4)) = some a9_4 := by kernel_rfl
def a9_5 : List AO := [⟨(some 30), none, .mv (.t 1)⟩,
  ⟨(some 31), none, .bin .eql (.t 30) (.v (.int .i64 902))⟩,
  ⟨(some 32), none, .mv (.t 31)⟩,
  ⟨(some 33), some (32, true), .mv (.t 2)⟩,
  ⟨(some 34), some (32, true), .bin .eql (.t 33) (.v (.int .i64 0))⟩,
  ⟨(some 35), none, .pick (.t 32) (.t 34) (.v (.bool false))⟩,
  ⟨(some 36), none, .mv (.t 35)⟩,
  ⟨(some 37), some (36, true), .mv (.t 3)⟩,
  ⟨(some 38), some (36, true), .bin .eql (.t 37) (.v (.int .i64 1116))⟩,
  ⟨(some 39), none, .pick (.t 36) (.t 38) (.v (.bool false))⟩,
  ⟨(some 40), none, .mv (.t 39)⟩,
  ⟨(some 41), some (40, true), .mv (.t 4)⟩,
  ⟨(some 42), some (40, true), .bin .eql (.t 41) (.v (.int .i64 0))⟩,
  ⟨(some 43), none, .pick (.t 40) (.t 42) (.v (.bool false))⟩,
  ⟨(some 44), none, .mv (.t 43)⟩,
  ⟨(some 45), some (44, true), .mv (.t 6)⟩,
  ⟨(some 46), some (44, true), .bin .eql (.t 45) (.v (.int .i64 14))⟩,
  ⟨(some 47), none, .pick (.t 44) (.t 46) (.v (.bool false))⟩,
  ⟨(some 48), none, .mv (.t 47)⟩,
  ⟨(some 49), some (48, true), .mv (.t 8)⟩,
  ⟨(some 50), none, .pick (.t 48) (.t 49) (.v (.bool false))⟩,
  ⟨(some 51), none, .mv (.t 50)⟩,
  ⟨(some 52), some (51, true), .fld 1 (.t 7)⟩,
  ⟨(some 53), some (51, true), .load none (.t 52)⟩,
  ⟨(some 54), some (51, true), .bin .eql (.t 53) (.v (.str [80, 65, 82]))⟩,
  ⟨(some 55), none, .pick (.t 51) (.t 54) (.v (.bool false))⟩,
  ⟨(some 56), none, .mv (.t 55)⟩,
  ⟨(some 57), some (56, true), .call 24 []⟩,
  ⟨(some 58), some (56, true), .call 16 [(.t 57), (.v (.str [76, 72, 82]))]⟩,
  ⟨(some 59), some (56, true), .bin .eql (.t 58) (.v (.str [76, 79, 78]))⟩,
  ⟨(some 60), none, .pick (.t 56) (.t 59) (.v (.bool false))⟩,
  ⟨(some 61), none, .mv (.t 60)⟩,
  ⟨(some 62), some (61, true), .call 24 []⟩,
  ⟨(some 63), some (61, true), .call 18 [(.t 62), (.v (.str [82, 79, 77]))]⟩,
  ⟨(some 64), some (61, true), .bin .eql (.t 63) (.v (.str [73, 84]))⟩,
  ⟨(some 65), none, .pick (.t 61) (.t 64) (.v (.bool false))⟩,
  ⟨(some 66), none, .mv (.t 65)⟩,
  ⟨(some 67), some (66, true), .call 24 []⟩,
  ⟨(some 68), some (66, true), .call 11 [(.t 67)]⟩,
  ⟨(some 69), some (66, true), .len (.t 68)⟩,
  ⟨(some 70), some (66, true), .bin .eql (.t 69) (.v (.int .i64 0))⟩,
  ⟨(some 71), none, .pick (.t 66) (.t 70) (.v (.bool false))⟩,
  ⟨(some 0), none, .mv (.t 71)⟩]
theorem tr9_5 : (ro Tryd.f9 5).toList.mapM (trO Tryd.prog 72 (ro Tryd.f9 5)) = some a9_5 := by kernel_rfl
/-- airline/airlinelaw06.SameFaults -/
noncomputable def c10 : Code := .seq (.region 0 (ro Tryd.f10 0) false) (.seq (.seq (.region 1 (ro Tryd.f10 1) false) (.cond (.tmp 10) (.seq (.region 2 (ro Tryd.f10 2) false) (.ret)) (.skip))) (.seq (.seq (.region 3 (ro Tryd.f10 3) false) (.block 0 (.loop (.seq (.seq (.region 4 (ro Tryd.f10 4) false) (.cond (.tmp 14) (.skip) (.exit 0))) (.seq (.block 1 (.seq (.region 6 (ro Tryd.f10 6) true) (.cond (.tmp 25) (.seq (.region 7 (ro Tryd.f10 7) false) (.ret)) (.skip)))) (.region 5 (ro Tryd.f10 5) false)))))) (.seq (.region 8 (ro Tryd.f10 8) false) (.ret))))
theorem body10 : Tryd.f10.body = some c10 := by kernel_rfl
theorem res10 : Tryd.f10.results.toList.mapM (trR Tryd.prog) = some [.t 4] := by kernel_rfl
theorem nt10 : Tryd.f10.ntmps = 26 := by kernel_rfl
theorem nm10 : (Tryd.f10.name == "runtime.NumGoroutine") = false := by kernel_rfl
def a10_0 : List AO := [⟨(some 4), none, .mv (.v (.bool false))⟩]
theorem tr10_0 : (ro Tryd.f10 0).toList.mapM (trO Tryd.prog 26 (ro Tryd.f10 0)) = some a10_0 := by kernel_rfl
def a10_1 : List AO := [⟨(some 6), none, .mv (.t 0)⟩,
  ⟨(some 7), none, .len (.t 6)⟩,
  ⟨(some 8), none, .mv (.t 1)⟩,
  ⟨(some 9), none, .len (.t 8)⟩,
  ⟨(some 10), none, .bin .neq (.t 7) (.t 9)⟩]
theorem tr10_1 : (ro Tryd.f10 1).toList.mapM (trO Tryd.prog 26 (ro Tryd.f10 1)) = some a10_1 := by kernel_rfl
def a10_2 : List AO := [⟨(some 4), none, .mv (.v (.bool false))⟩]
theorem tr10_2 : (ro Tryd.f10 2).toList.mapM (trO Tryd.prog 26 (ro Tryd.f10 2)) = some a10_2 := by kernel_rfl
def a10_3 : List AO := [⟨(some 5), none, .mv (.v (.int .i64 0))⟩]
theorem tr10_3 : (ro Tryd.f10 3).toList.mapM (trO Tryd.prog 26 (ro Tryd.f10 3)) = some a10_3 := by kernel_rfl
def a10_4 : List AO := [⟨(some 11), none, .mv (.t 5)⟩,
  ⟨(some 12), none, .mv (.t 0)⟩,
  ⟨(some 13), none, .len (.t 12)⟩,
  ⟨(some 14), none, .bin .lss (.t 11) (.t 13)⟩]
theorem tr10_4 : (ro Tryd.f10 4).toList.mapM (trO Tryd.prog 26 (ro Tryd.f10 4)) = some a10_4 := by kernel_rfl
def a10_6 : List AO := [⟨(some 17), none, .mv (.t 0)⟩,
  ⟨(some 18), none, .mv (.t 5)⟩,
  ⟨(some 19), none, .idx 2 (.t 17) (.t 18)⟩,
  ⟨(some 20), none, .load (some 2) (.t 19)⟩,
  ⟨(some 21), none, .mv (.t 1)⟩,
  ⟨(some 22), none, .mv (.t 5)⟩,
  ⟨(some 23), none, .idx 2 (.t 21) (.t 22)⟩,
  ⟨(some 24), none, .load (some 2) (.t 23)⟩,
  ⟨(some 25), none, .bina [.i .i64, .s] .neq (.t 20) (.t 24)⟩]
theorem tr10_6 : (ro Tryd.f10 6).toList.mapM (trO Tryd.prog 26 (ro Tryd.f10 6)) = some a10_6 := by kernel_rfl
def d10_6 : List (List Nat) := [[], [], [0, 1], [0, 1, 2], [], [], [4, 5], [4, 5, 6], [0, 1, 2, 3, 4, 5, 6, 7]]
theorem ok10_6 : okReg (ro Tryd.f10 6) a10_6 d10_6 = true := by kernel_rfl
def a10_7 : List AO := [⟨(some 4), none, .mv (.v (.bool false))⟩]
theorem tr10_7 : (ro Tryd.f10 7).toList.mapM (trO Tryd.prog 26 (ro Tryd.f10 7)) = some a10_7 := by kernel_rfl
def a10_5 : List AO := [⟨(some 15), none, .mv (.t 5)⟩,
  ⟨(some 16), none, .bin .add (.t 15) (.v (.int .i64 1))⟩,
  ⟨(some 5), none, .mv (.t 16)⟩]
theorem tr10_5 : (ro Tryd.f10 5).toList.mapM (trO Tryd.prog 26 (ro Tryd.f10 5)) = some a10_5 := by kernel_rfl
def a10_8 : List AO := [⟨(some 4), none, .mv (.v (.bool true))⟩]
theorem tr10_8 : (ro Tryd.f10 8).toList.mapM (trO Tryd.prog 26 (ro Tryd.f10 8)) = some a10_8 := by kernel_rfl
/-- airline/places.Check -/
noncomputable def c11 : Code := .seq (.region 0 (ro Tryd.f11 0) false) (.seq (.region 1 (ro Tryd.f11 1) false) (.seq (.region 2 (ro Tryd.f11 2) false) (.seq (.region 3 (ro Tryd.f11 3) false) (.seq (.region 4 (ro Tryd.f11 4) false) (.seq (.seq (.region 5 (ro Tryd.f11 5) false) (.block 0 (.loop (.seq (.region 6 (ro Tryd.f11 6) false) (.seq (.cond (.tmp 28) (.skip) (.exit 0)) (.seq (.block 1 (.seq (.region 7 (ro Tryd.f11 7) false) (.seq (.seq (.region 8 (ro Tryd.f11 8) false) (.cond (.tmp 47) (.region 9 (ro Tryd.f11 9) false) (.skip))) (.seq (.seq (.region 10 (ro Tryd.f11 10) false) (.cond (.tmp 54) (.region 11 (ro Tryd.f11 11) false) (.skip))) (.seq (.region 12 (ro Tryd.f11 12) false) (.seq (.region 13 (ro Tryd.f11 13) false) (.seq (.block 2 (.seq (.region 14 (ro Tryd.f11 14) false) (.cond (.tmp 68) (.region 15 (ro Tryd.f11 15) false) (.seq (.region 16 (ro Tryd.f11 16) false) (.cond (.tmp 76) (.seq (.region 17 (ro Tryd.f11 17) false) (.region 18 (ro Tryd.f11 18) false)) (.skip)))))) (.seq (.region 19 (ro Tryd.f11 19) false) (.seq (.region 20 (ro Tryd.f11 20) false) (.cond (.tmp 97) (.region 21 (ro Tryd.f11 21) false) (.skip))))))))))) (.region 22 (ro Tryd.f11 22) false))))))) (.seq (.region 23 (ro Tryd.f11 23) false) (.seq (.seq (.region 24 (ro Tryd.f11 24) false) (.block 3 (.loop (.seq (.region 25 (ro Tryd.f11 25) false) (.seq (.cond (.tmp 108) (.skip) (.exit 3)) (.seq (.block 4 (.seq (.region 26 (ro Tryd.f11 26) false) (.seq (.region 27 (ro Tryd.f11 27) false) (.seq (.region 28 (ro Tryd.f11 28) false) (.seq (.seq (.region 29 (ro Tryd.f11 29) false) (.cond (.tmp 131) (.region 30 (ro Tryd.f11 30) false) (.skip))) (.seq (.seq (.region 31 (ro Tryd.f11 31) false) (.cond (.tmp 141) (.region 32 (ro Tryd.f11 32) false) (.skip))) (.seq (.region 33 (ro Tryd.f11 33) true) (.seq (.region 34 (ro Tryd.f11 34) false) (.cond (.tmp 166) (.region 35 (ro Tryd.f11 35) false) (.skip)))))))))) (.region 36 (ro Tryd.f11 36) false))))))) (.seq (.region 37 (ro Tryd.f11 37) false) (.ret)))))))))
theorem body11 : Tryd.f11.body = some c11 := by kernel_rfl
theorem res11 : Tryd.f11.results.toList.mapM (trR Tryd.prog) = some [.t 2] := by kernel_rfl
theorem nt11 : Tryd.f11.ntmps = 172 := by kernel_rfl
theorem nm11 : (Tryd.f11.name == "runtime.NumGoroutine") = false := by kernel_rfl
def a11_0 : List AO := [⟨(some 1), none, .box 25 (.t 0)⟩,
  ⟨(some 2), none, .mv (.v .nils)⟩]
theorem tr11_0 : (ro Tryd.f11 0).toList.mapM (trO Tryd.prog 172 (ro Tryd.f11 0)) = some a11_0 := by kernel_rfl
def a11_1 : List AO := [⟨(some 3), none, .alloc 29 [.nils]⟩]
theorem tr11_1 : (ro Tryd.f11 1).toList.mapM (trO Tryd.prog 172 (ro Tryd.f11 1)) = some a11_1 := by kernel_rfl
def a11_2 : List AO := [⟨(some 20), none, .mkfn 25 [(.t 3)]⟩,
  ⟨(some 4), none, .mv (.t 20)⟩]
theorem tr11_2 : (ro Tryd.f11 2).toList.mapM (trO Tryd.prog 172 (ro Tryd.f11 2)) = some a11_2 := by kernel_rfl
def a11_3 : List AO := [⟨(some 21), none, .mkmap⟩,
  ⟨(some 22), none, .mkmap⟩,
  ⟨(some 5), none, .mv (.t 21)⟩,
  ⟨(some 6), none, .mv (.t 22)⟩]
theorem tr11_3 : (ro Tryd.f11 3).toList.mapM (trO Tryd.prog 172 (ro Tryd.f11 3)) = some a11_3 := by kernel_rfl
def a11_4 : List AO := [⟨(some 23), none, .mkmap⟩,
  ⟨(some 7), none, .mv (.t 23)⟩]
theorem tr11_4 : (ro Tryd.f11 4).toList.mapM (trO Tryd.prog 172 (ro Tryd.f11 4)) = some a11_4 := by kernel_rfl
def a11_5 : List AO := [⟨(some 24), none, .fld 0 (.t 1)⟩,
  ⟨(some 25), none, .load none (.t 24)⟩,
  ⟨(some 26), none, .len (.t 25)⟩,
  ⟨(some 27), none, .mv (.v (.int .i64 0))⟩]
theorem tr11_5 : (ro Tryd.f11 5).toList.mapM (trO Tryd.prog 172 (ro Tryd.f11 5)) = some a11_5 := by kernel_rfl
def a11_6 : List AO := [⟨(some 28), none, .bin .lss (.t 27) (.t 26)⟩]
theorem tr11_6 : (ro Tryd.f11 6).toList.mapM (trO Tryd.prog 172 (ro Tryd.f11 6)) = some a11_6 := by kernel_rfl
def a11_7 : List AO := [⟨(some 29), none, .mv (.t 27)⟩,
  ⟨(some 30), none, .idx 5 (.t 25) (.t 27)⟩,
  ⟨(some 31), none, .load (some 5) (.t 30)⟩,
  ⟨(some 9), none, .alloc 35 [(.str []), (.str []), (.str []), (.int .i64 0), .nils]⟩,
  ⟨(some 8), none, .mv (.t 29)⟩,
  ⟨none, none, .store 5 (.t 9) (.t 31)⟩]
theorem tr11_7 : (ro Tryd.f11 7).toList.mapM (trO Tryd.prog 172 (ro Tryd.f11 7)) = some a11_7 := by kernel_rfl
def a11_8 : List AO := [⟨(some 32), none, .fld 0 (.t 9)⟩,
  ⟨(some 33), none, .load none (.t 32)⟩,
  ⟨(some 34), none, .call 27 [(.t 33)]⟩,
  ⟨(some 35), none, .un .not (.t 34)⟩,
  ⟨(some 36), none, .mv (.t 35)⟩,
  ⟨(some 37), some (36, false), .fld 1 (.t 9)⟩,
  ⟨(some 38), some (36, false), .load none (.t 37)⟩,
  ⟨(some 39), some (36, false), .call 27 [(.t 38)]⟩,
  ⟨(some 40), some (36, false), .un .not (.t 39)⟩,
  ⟨(some 41), none, .pick (.t 36) (.v (.bool true)) (.t 40)⟩,
  ⟨(some 42), none, .mv (.t 41)⟩,
  ⟨(some 43), some (42, false), .fld 2 (.t 9)⟩,
  ⟨(some 44), some (42, false), .load none (.t 43)⟩,
  ⟨(some 45), some (42, false), .call 28 [(.t 44)]⟩,
  ⟨(some 46), some (42, false), .un .not (.t 45)⟩,
  ⟨(some 47), none, .pick (.t 42) (.v (.bool true)) (.t 46)⟩]
theorem tr11_8 : (ro Tryd.f11 8).toList.mapM (trO Tryd.prog 172 (ro Tryd.f11 8)) = some a11_8 := by kernel_rfl
def a11_9 : List AO := [⟨(some 48), none, .mv (.t 4)⟩,
  ⟨(some 49), none, .mv (.t 8)⟩,
  ⟨(some 50), none, .callv (.t 48) [(.v (.int .i64 5)), (.v (.str [97, 105, 114, 112, 111, 114, 116])), (.t 49)]⟩]
theorem tr11_9 : (ro Tryd.f11 9).toList.mapM (trO Tryd.prog 172 (ro Tryd.f11 9)) = some a11_9 := by kernel_rfl
def a11_10 : List AO := [⟨(some 51), none, .mv (.t 5)⟩,
  ⟨(some 52), none, .fld 0 (.t 9)⟩,
  ⟨(some 53), none, .load none (.t 52)⟩,
  ⟨(some 54), none, .look 0 false (.bool false) (.t 51) (.t 53)⟩]
theorem tr11_10 : (ro Tryd.f11 10).toList.mapM (trO Tryd.prog 172 (ro Tryd.f11 10)) = some a11_10 := by kernel_rfl
def a11_11 : List AO := [⟨(some 55), none, .mv (.t 4)⟩,
  ⟨(some 56), none, .mv (.t 8)⟩,
  ⟨(some 57), none, .callv (.t 55) [(.v (.int .i64 6)), (.v (.str [97, 105, 114, 112, 111, 114, 116])), (.t 56)]⟩]
theorem tr11_11 : (ro Tryd.f11 11).toList.mapM (trO Tryd.prog 172 (ro Tryd.f11 11)) = some a11_11 := by kernel_rfl
def a11_12 : List AO := [⟨(some 58), none, .mv (.t 5)⟩,
  ⟨(some 59), none, .fld 0 (.t 9)⟩,
  ⟨(some 60), none, .load none (.t 59)⟩,
  ⟨none, none, .mset 0 (.t 58) (.t 60) (.v (.bool true))⟩]
theorem tr11_12 : (ro Tryd.f11 12).toList.mapM (trO Tryd.prog 172 (ro Tryd.f11 12)) = some a11_12 := by kernel_rfl
def a11_13 : List AO := [⟨(some 62), none, .mv (.t 6)⟩,
  ⟨(some 63), none, .fld 1 (.t 9)⟩,
  ⟨(some 64), none, .load none (.t 63)⟩,
  ⟨(some 65), none, .look 0 true (.str []) (.t 62) (.t 64)⟩,
  ⟨(some 61), none, .mv (.t 65)⟩,
  ⟨(some 66), none, .ext 0 (.t 61)⟩,
  ⟨(some 67), none, .ext 1 (.t 61)⟩,
  ⟨(some 10), none, .mv (.t 66)⟩,
  ⟨(some 11), none, .mv (.t 67)⟩]
theorem tr11_13 : (ro Tryd.f11 13).toList.mapM (trO Tryd.prog 172 (ro Tryd.f11 13)) = some a11_13 := by kernel_rfl
def a11_14 : List AO := [⟨(some 69), none, .mv (.t 11)⟩,
  ⟨(some 70), none, .un .not (.t 69)⟩,
  ⟨(some 68), none, .mv (.t 70)⟩]
theorem tr11_14 : (ro Tryd.f11 14).toList.mapM (trO Tryd.prog 172 (ro Tryd.f11 14)) = some a11_14 := by kernel_rfl
def a11_15 : List AO := [⟨(some 71), none, .mv (.t 6)⟩,
  ⟨(some 72), none, .fld 1 (.t 9)⟩,
  ⟨(some 73), none, .load none (.t 72)⟩,
  ⟨(some 74), none, .fld 2 (.t 9)⟩,
  ⟨(some 75), none, .load none (.t 74)⟩,
  ⟨none, none, .mset 0 (.t 71) (.t 73) (.t 75)⟩]
theorem tr11_15 : (ro Tryd.f11 15).toList.mapM (trO Tryd.prog 172 (ro Tryd.f11 15)) = some a11_15 := by kernel_rfl
def a11_16 : List AO := [⟨(some 77), none, .mv (.t 10)⟩,
  ⟨(some 78), none, .fld 2 (.t 9)⟩,
  ⟨(some 79), none, .load none (.t 78)⟩,
  ⟨(some 80), none, .bin .neq (.t 77) (.t 79)⟩,
  ⟨(some 81), none, .mv (.t 80)⟩,
  ⟨(some 82), some (81, false), .mv (.t 7)⟩,
  ⟨(some 83), some (81, false), .fld 1 (.t 9)⟩,
  ⟨(some 84), some (81, false), .load none (.t 83)⟩,
  ⟨(some 85), some (81, false), .look 0 false (.bool false) (.t 82) (.t 84)⟩,
  ⟨(some 86), none, .pick (.t 81) (.v (.bool true)) (.t 85)⟩,
  ⟨(some 76), none, .mv (.t 86)⟩]
theorem tr11_16 : (ro Tryd.f11 16).toList.mapM (trO Tryd.prog 172 (ro Tryd.f11 16)) = some a11_16 := by kernel_rfl
def a11_17 : List AO := [⟨(some 87), none, .mv (.t 7)⟩,
  ⟨(some 88), none, .fld 1 (.t 9)⟩,
  ⟨(some 89), none, .load none (.t 88)⟩,
  ⟨none, none, .mset 0 (.t 87) (.t 89) (.v (.bool true))⟩]
theorem tr11_17 : (ro Tryd.f11 17).toList.mapM (trO Tryd.prog 172 (ro Tryd.f11 17)) = some a11_17 := by kernel_rfl
def a11_18 : List AO := [⟨(some 90), none, .mv (.t 4)⟩,
  ⟨(some 91), none, .mv (.t 8)⟩,
  ⟨(some 92), none, .callv (.t 90) [(.v (.int .i64 8)), (.v (.str [97, 105, 114, 112, 111, 114, 116])), (.t 91)]⟩]
theorem tr11_18 : (ro Tryd.f11 18).toList.mapM (trO Tryd.prog 172 (ro Tryd.f11 18)) = some a11_18 := by kernel_rfl
def a11_19 : List AO := [⟨(some 93), none, .fld 3 (.t 9)⟩,
  ⟨(some 94), none, .load (some 2) (.t 93)⟩,
  ⟨(some 95), none, .call 29 [(.t 94)]⟩,
  ⟨(some 12), none, .mv (.t 95)⟩]
theorem tr11_19 : (ro Tryd.f11 19).toList.mapM (trO Tryd.prog 172 (ro Tryd.f11 19)) = some a11_19 := by kernel_rfl
def a11_20 : List AO := [⟨(some 96), none, .mv (.t 12)⟩,
  ⟨(some 97), none, .bin .neq (.t 96) (.v (.int .i64 0))⟩]
theorem tr11_20 : (ro Tryd.f11 20).toList.mapM (trO Tryd.prog 172 (ro Tryd.f11 20)) = some a11_20 := by kernel_rfl
def a11_21 : List AO := [⟨(some 98), none, .mv (.t 4)⟩,
  ⟨(some 99), none, .mv (.t 12)⟩,
  ⟨(some 100), none, .mv (.t 8)⟩,
  ⟨(some 101), none, .callv (.t 98) [(.t 99), (.v (.str [97, 105, 114, 112, 111, 114, 116])), (.t 100)]⟩]
theorem tr11_21 : (ro Tryd.f11 21).toList.mapM (trO Tryd.prog 172 (ro Tryd.f11 21)) = some a11_21 := by kernel_rfl
def a11_22 : List AO := [⟨(some 102), none, .bin .add (.t 27) (.v (.int .i64 1))⟩,
  ⟨(some 27), none, .mv (.t 102)⟩]
theorem tr11_22 : (ro Tryd.f11 22).toList.mapM (trO Tryd.prog 172 (ro Tryd.f11 22)) = some a11_22 := by kernel_rfl
def a11_23 : List AO := [⟨(some 103), none, .mkmap⟩,
  ⟨(some 13), none, .mv (.t 103)⟩]
theorem tr11_23 : (ro Tryd.f11 23).toList.mapM (trO Tryd.prog 172 (ro Tryd.f11 23)) = some a11_23 := by kernel_rfl
def a11_24 : List AO := [⟨(some 104), none, .fld 1 (.t 1)⟩,
  ⟨(some 105), none, .load none (.t 104)⟩,
  ⟨(some 106), none, .len (.t 105)⟩,
  ⟨(some 107), none, .mv (.v (.int .i64 0))⟩]
theorem tr11_24 : (ro Tryd.f11 24).toList.mapM (trO Tryd.prog 172 (ro Tryd.f11 24)) = some a11_24 := by kernel_rfl
def a11_25 : List AO := [⟨(some 108), none, .bin .lss (.t 107) (.t 106)⟩]
theorem tr11_25 : (ro Tryd.f11 25).toList.mapM (trO Tryd.prog 172 (ro Tryd.f11 25)) = some a11_25 := by kernel_rfl
def a11_26 : List AO := [⟨(some 109), none, .mv (.t 107)⟩,
  ⟨(some 110), none, .idx 3 (.t 105) (.t 107)⟩,
  ⟨(some 111), none, .load (some 3) (.t 110)⟩,
  ⟨(some 15), none, .alloc 63 [(.str []), (.str []), (.int .i64 0)]⟩,
  ⟨(some 14), none, .mv (.t 109)⟩,
  ⟨none, none, .store 3 (.t 15) (.t 111)⟩]
theorem tr11_26 : (ro Tryd.f11 26).toList.mapM (trO Tryd.prog 172 (ro Tryd.f11 26)) = some a11_26 := by kernel_rfl
def a11_27 : List AO := [⟨(some 113), none, .mv (.t 6)⟩,
  ⟨(some 114), none, .fld 0 (.t 15)⟩,
  ⟨(some 115), none, .load none (.t 114)⟩,
  ⟨(some 116), none, .look 0 true (.str []) (.t 113) (.t 115)⟩,
  ⟨(some 112), none, .mv (.t 116)⟩,
  ⟨(some 117), none, .ext 0 (.t 112)⟩,
  ⟨(some 118), none, .ext 1 (.t 112)⟩,
  ⟨(some 16), none, .mv (.t 117)⟩,
  ⟨(some 17), none, .mv (.t 118)⟩]
theorem tr11_27 : (ro Tryd.f11 27).toList.mapM (trO Tryd.prog 172 (ro Tryd.f11 27)) = some a11_27 := by kernel_rfl
def a11_28 : List AO := [⟨(some 120), none, .mv (.t 6)⟩,
  ⟨(some 121), none, .fld 1 (.t 15)⟩,
  ⟨(some 122), none, .load none (.t 121)⟩,
  ⟨(some 123), none, .look 0 true (.str []) (.t 120) (.t 122)⟩,
  ⟨(some 119), none, .mv (.t 123)⟩,
  ⟨(some 124), none, .ext 0 (.t 119)⟩,
  ⟨(some 125), none, .ext 1 (.t 119)⟩,
  ⟨(some 18), none, .mv (.t 124)⟩,
  ⟨(some 19), none, .mv (.t 125)⟩]
theorem tr11_28 : (ro Tryd.f11 28).toList.mapM (trO Tryd.prog 172 (ro Tryd.f11 28)) = some a11_28 := by kernel_rfl
def a11_29 : List AO := [⟨(some 126), none, .mv (.t 17)⟩,
  ⟨(some 127), none, .un .not (.t 126)⟩,
  ⟨(some 128), none, .mv (.t 127)⟩,
  ⟨(some 129), some (128, false), .mv (.t 19)⟩,
  ⟨(some 130), some (128, false), .un .not (.t 129)⟩,
  ⟨(some 131), none, .pick (.t 128) (.v (.bool true)) (.t 130)⟩]
theorem tr11_29 : (ro Tryd.f11 29).toList.mapM (trO Tryd.prog 172 (ro Tryd.f11 29)) = some a11_29 := by kernel_rfl
def a11_30 : List AO := [⟨(some 132), none, .mv (.t 4)⟩,
  ⟨(some 133), none, .mv (.t 14)⟩,
  ⟨(some 134), none, .callv (.t 132) [(.v (.int .i64 14)), (.v (.str [100, 105, 115, 116, 97, 110, 99, 101])), (.t 133)]⟩]
theorem tr11_30 : (ro Tryd.f11 30).toList.mapM (trO Tryd.prog 172 (ro Tryd.f11 30)) = some a11_30 := by kernel_rfl
def a11_31 : List AO := [⟨(some 135), none, .mv (.t 13)⟩,
  ⟨(some 136), none, .fld 0 (.t 15)⟩,
  ⟨(some 137), none, .load none (.t 136)⟩,
  ⟨(some 138), none, .fld 1 (.t 15)⟩,
  ⟨(some 139), none, .load none (.t 138)⟩,
  ⟨(some 140), none, .build [(.str []), (.str [])] [(0, 1, (.t 137)), (1, 1, (.t 139))]⟩,
  ⟨(some 141), none, .look 2 false (.bool false) (.t 135) (.t 140)⟩]
theorem tr11_31 : (ro Tryd.f11 31).toList.mapM (trO Tryd.prog 172 (ro Tryd.f11 31)) = some a11_31 := by kernel_rfl
def a11_32 : List AO := [⟨(some 142), none, .mv (.t 4)⟩,
  ⟨(some 143), none, .mv (.t 14)⟩,
  ⟨(some 144), none, .callv (.t 142) [(.v (.int .i64 6)), (.v (.str [100, 105, 115, 116, 97, 110, 99, 101])), (.t 143)]⟩]
theorem tr11_32 : (ro Tryd.f11 32).toList.mapM (trO Tryd.prog 172 (ro Tryd.f11 32)) = some a11_32 := by kernel_rfl
def a11_33 : List AO := [⟨(some 145), none, .mv (.t 13)⟩,
  ⟨(some 146), none, .fld 0 (.t 15)⟩,
  ⟨(some 147), none, .load none (.t 146)⟩,
  ⟨(some 148), none, .fld 1 (.t 15)⟩,
  ⟨(some 149), none, .load none (.t 148)⟩,
  ⟨(some 150), none, .build [(.str []), (.str [])] [(0, 1, (.t 147)), (1, 1, (.t 149))]⟩,
  ⟨(some 151), none, .mv (.t 13)⟩,
  ⟨(some 152), none, .fld 1 (.t 15)⟩,
  ⟨(some 153), none, .load none (.t 152)⟩,
  ⟨(some 154), none, .fld 0 (.t 15)⟩,
  ⟨(some 155), none, .load none (.t 154)⟩,
  ⟨(some 156), none, .build [(.str []), (.str [])] [(0, 1, (.t 153)), (1, 1, (.t 155))]⟩,
  ⟨none, none, .mset 2 (.t 145) (.t 150) (.v (.bool true))⟩,
  ⟨none, none, .mset 2 (.t 151) (.t 156) (.v (.bool true))⟩]
theorem tr11_33 : (ro Tryd.f11 33).toList.mapM (trO Tryd.prog 172 (ro Tryd.f11 33)) = some a11_33 := by kernel_rfl
def d11_33 : List (List Nat) := [[], [], [1], [], [3], [1, 2, 3, 4], [], [], [7], [], [9], [7, 8, 9, 10], [0, 1, 2, 3, 4, 5], [0, 1, 2, 3, 4, 5, 6, 7, 8, 9, 10, 11, 12]]
theorem ok11_33 : okReg (ro Tryd.f11 33) a11_33 d11_33 = true := by kernel_rfl
def a11_34 : List AO := [⟨(some 157), none, .load (some 3) (.t 15)⟩,
  ⟨(some 158), none, .call 30 [(.t 157)]⟩,
  ⟨(some 159), none, .un .not (.t 158)⟩,
  ⟨(some 160), none, .mv (.t 159)⟩,
  ⟨(some 161), some (160, false), .fld 0 (.t 15)⟩,
  ⟨(some 162), some (160, false), .load none (.t 161)⟩,
  ⟨(some 163), some (160, false), .fld 1 (.t 15)⟩,
  ⟨(some 164), some (160, false), .load none (.t 163)⟩,
  ⟨(some 165), some (160, false), .bin .eql (.t 162) (.t 164)⟩,
  ⟨(some 166), none, .pick (.t 160) (.v (.bool true)) (.t 165)⟩]
theorem tr11_34 : (ro Tryd.f11 34).toList.mapM (trO Tryd.prog 172 (ro Tryd.f11 34)) = some a11_34 := by kernel_rfl
def a11_35 : List AO := [⟨(some 167), none, .mv (.t 4)⟩,
  ⟨(some 168), none, .mv (.t 14)⟩,
  ⟨(some 169), none, .callv (.t 167) [(.v (.int .i64 2)), (.v (.str [100, 105, 115, 116, 97, 110, 99, 101])), (.t 168)]⟩]
theorem tr11_35 : (ro Tryd.f11 35).toList.mapM (trO Tryd.prog 172 (ro Tryd.f11 35)) = some a11_35 := by kernel_rfl
def a11_36 : List AO := [⟨(some 170), none, .bin .add (.t 107) (.v (.int .i64 1))⟩,
  ⟨(some 107), none, .mv (.t 170)⟩]
theorem tr11_36 : (ro Tryd.f11 36).toList.mapM (trO Tryd.prog 172 (ro Tryd.f11 36)) = some a11_36 := by kernel_rfl
def a11_37 : List AO := [⟨(some 171), none, .load none (.t 3)⟩,
  ⟨(some 2), none, .mv (.t 171)⟩]
theorem tr11_37 : (ro Tryd.f11 37).toList.mapM (trO Tryd.prog 172 (ro Tryd.f11 37)) = some a11_37 := by kernel_rfl
/-- airline/airlineref06.Check -/
noncomputable def c12 : Code := .seq (.region 0 (ro Tryd.f12 0) false) (.seq (.region 1 (ro Tryd.f12 1) false) (.seq (.seq (.region 2 (ro Tryd.f12 2) false) (.block 0 (.loop (.seq (.seq (.region 3 (ro Tryd.f12 3) false) (.cond (.tmp 14) (.skip) (.exit 0))) (.seq (.block 1 (.seq (.region 5 (ro Tryd.f12 5) false) (.seq (.region 6 (ro Tryd.f12 6) false) (.block 2 (.loop (.seq (.seq (.region 7 (ro Tryd.f12 7) false) (.cond (.tmp 23) (.skip) (.exit 2))) (.seq (.block 3 (.region 9 (ro Tryd.f12 9) true)) (.region 8 (ro Tryd.f12 8) false)))))))) (.region 4 (ro Tryd.f12 4) false)))))) (.seq (.seq (.region 10 (ro Tryd.f12 10) false) (.block 4 (.loop (.seq (.seq (.region 11 (ro Tryd.f12 11) false) (.cond (.tmp 41) (.skip) (.exit 4))) (.seq (.block 5 (.seq (.region 13 (ro Tryd.f12 13) false) (.seq (.region 14 (ro Tryd.f12 14) false) (.block 6 (.loop (.seq (.seq (.region 15 (ro Tryd.f12 15) false) (.cond (.tmp 50) (.skip) (.exit 6))) (.seq (.block 7 (.region 17 (ro Tryd.f12 17) true)) (.region 16 (ro Tryd.f12 16) false)))))))) (.region 12 (ro Tryd.f12 12) false)))))) (.seq (.region 18 (ro Tryd.f12 18) false) (.ret)))))
theorem body12 : Tryd.f12.body = some c12 := by kernel_rfl
theorem res12 : Tryd.f12.results.toList.mapM (trR Tryd.prog) = some [.t 2] := by kernel_rfl
theorem nt12 : Tryd.f12.ntmps = 65 := by kernel_rfl
theorem nm12 : (Tryd.f12.name == "runtime.NumGoroutine") = false := by kernel_rfl
def a12_0 : List AO := [⟨(some 1), none, .box 25 (.t 0)⟩,
  ⟨(some 2), none, .mv (.v .nils)⟩]
theorem tr12_0 : (ro Tryd.f12 0).toList.mapM (trO Tryd.prog 65 (ro Tryd.f12 0)) = some a12_0 := by kernel_rfl
def a12_1 : List AO := [⟨(some 3), none, .mv (.v .nils)⟩]
theorem tr12_1 : (ro Tryd.f12 1).toList.mapM (trO Tryd.prog 65 (ro Tryd.f12 1)) = some a12_1 := by kernel_rfl
def a12_2 : List AO := [⟨(some 4), none, .mv (.v (.int .i64 0))⟩]
theorem tr12_2 : (ro Tryd.f12 2).toList.mapM (trO Tryd.prog 65 (ro Tryd.f12 2)) = some a12_2 := by kernel_rfl
def a12_3 : List AO := [⟨(some 10), none, .mv (.t 4)⟩,
  ⟨(some 11), none, .fld 0 (.t 1)⟩,
  ⟨(some 12), none, .load none (.t 11)⟩,
  ⟨(some 13), none, .len (.t 12)⟩,
  ⟨(some 14), none, .bin .lss (.t 10) (.t 13)⟩]
theorem tr12_3 : (ro Tryd.f12 3).toList.mapM (trO Tryd.prog 65 (ro Tryd.f12 3)) = some a12_3 := by kernel_rfl
def a12_5 : List AO := [⟨(some 17), none, .load (some 2) (.t 1)⟩,
  ⟨(some 18), none, .mv (.t 4)⟩,
  ⟨(some 19), none, .call 31 [(.t 17), (.t 18)]⟩,
  ⟨(some 5), none, .mv (.t 19)⟩]
theorem tr12_5 : (ro Tryd.f12 5).toList.mapM (trO Tryd.prog 65 (ro Tryd.f12 5)) = some a12_5 := by kernel_rfl
def a12_6 : List AO := [⟨(some 6), none, .mv (.v (.int .i64 0))⟩]
theorem tr12_6 : (ro Tryd.f12 6).toList.mapM (trO Tryd.prog 65 (ro Tryd.f12 6)) = some a12_6 := by kernel_rfl
def a12_7 : List AO := [⟨(some 20), none, .mv (.t 6)⟩,
  ⟨(some 21), none, .mv (.t 5)⟩,
  ⟨(some 22), none, .len (.t 21)⟩,
  ⟨(some 23), none, .bin .lss (.t 20) (.t 22)⟩]
theorem tr12_7 : (ro Tryd.f12 7).toList.mapM (trO Tryd.prog 65 (ro Tryd.f12 7)) = some a12_7 := by kernel_rfl
def a12_9 : List AO := [⟨(some 26), none, .mv (.t 3)⟩,
  ⟨(some 27), none, .mv (.t 5)⟩,
  ⟨(some 28), none, .mv (.t 6)⟩,
  ⟨(some 29), none, .idx 1 (.t 27) (.t 28)⟩,
  ⟨(some 30), none, .load none (.t 29)⟩,
  ⟨(some 31), none, .mv (.t 4)⟩,
  ⟨(some 32), none, .call 32 [(.t 31)]⟩,
  ⟨(some 33), none, .bin .add (.v (.str [97, 105, 114, 112, 111, 114, 116, 32])) (.t 32)⟩,
  ⟨(some 34), none, .build [(.int .i64 0), (.str [])] [(0, 1, (.t 30)), (1, 1, (.t 33))]⟩,
  ⟨(some 35), none, .slc 53 2 false [(.t 34)]⟩,
  ⟨(some 36), none, .app 53 2 24 (.t 26) (.t 35)⟩,
  ⟨(some 3), none, .mv (.t 36)⟩]
theorem tr12_9 : (ro Tryd.f12 9).toList.mapM (trO Tryd.prog 65 (ro Tryd.f12 9)) = some a12_9 := by kernel_rfl
def d12_9 : List (List Nat) := [[], [], [], [1, 2], [1, 2, 3], [], [5], [5, 6], [1, 2, 3, 4, 5, 6, 7], [1, 2, 3, 4, 5, 6, 7, 8], [0, 1, 2, 3, 4, 5, 6, 7, 8, 9], [0, 1, 2, 3, 4, 5, 6, 7, 8, 9, 10]]
theorem ok12_9 : okReg (ro Tryd.f12 9) a12_9 d12_9 = true := by kernel_rfl
def a12_8 : List AO := [⟨(some 24), none, .mv (.t 6)⟩,
  ⟨(some 25), none, .bin .add (.t 24) (.v (.int .i64 1))⟩,
  ⟨(some 6), none, .mv (.t 25)⟩]
theorem tr12_8 : (ro Tryd.f12 8).toList.mapM (trO Tryd.prog 65 (ro Tryd.f12 8)) = some a12_8 := by kernel_rfl
def a12_4 : List AO := [⟨(some 15), none, .mv (.t 4)⟩,
  ⟨(some 16), none, .bin .add (.t 15) (.v (.int .i64 1))⟩,
  ⟨(some 4), none, .mv (.t 16)⟩]
theorem tr12_4 : (ro Tryd.f12 4).toList.mapM (trO Tryd.prog 65 (ro Tryd.f12 4)) = some a12_4 := by kernel_rfl
def a12_10 : List AO := [⟨(some 7), none, .mv (.v (.int .i64 0))⟩]
theorem tr12_10 : (ro Tryd.f12 10).toList.mapM (trO Tryd.prog 65 (ro Tryd.f12 10)) = some a12_10 := by kernel_rfl
def a12_11 : List AO := [⟨(some 37), none, .mv (.t 7)⟩,
  ⟨(some 38), none, .fld 1 (.t 1)⟩,
  ⟨(some 39), none, .load none (.t 38)⟩,
  ⟨(some 40), none, .len (.t 39)⟩,
  ⟨(some 41), none, .bin .lss (.t 37) (.t 40)⟩]
theorem tr12_11 : (ro Tryd.f12 11).toList.mapM (trO Tryd.prog 65 (ro Tryd.f12 11)) = some a12_11 := by kernel_rfl
def a12_13 : List AO := [⟨(some 44), none, .load (some 2) (.t 1)⟩,
  ⟨(some 45), none, .mv (.t 7)⟩,
  ⟨(some 46), none, .call 33 [(.t 44), (.t 45)]⟩,
  ⟨(some 8), none, .mv (.t 46)⟩]
theorem tr12_13 : (ro Tryd.f12 13).toList.mapM (trO Tryd.prog 65 (ro Tryd.f12 13)) = some a12_13 := by kernel_rfl
def a12_14 : List AO := [⟨(some 9), none, .mv (.v (.int .i64 0))⟩]
theorem tr12_14 : (ro Tryd.f12 14).toList.mapM (trO Tryd.prog 65 (ro Tryd.f12 14)) = some a12_14 := by kernel_rfl
def a12_15 : List AO := [⟨(some 47), none, .mv (.t 9)⟩,
  ⟨(some 48), none, .mv (.t 8)⟩,
  ⟨(some 49), none, .len (.t 48)⟩,
  ⟨(some 50), none, .bin .lss (.t 47) (.t 49)⟩]
theorem tr12_15 : (ro Tryd.f12 15).toList.mapM (trO Tryd.prog 65 (ro Tryd.f12 15)) = some a12_15 := by kernel_rfl
def a12_17 : List AO := [⟨(some 53), none, .mv (.t 3)⟩,
  ⟨(some 54), none, .mv (.t 8)⟩,
  ⟨(some 55), none, .mv (.t 9)⟩,
  ⟨(some 56), none, .idx 1 (.t 54) (.t 55)⟩,
  ⟨(some 57), none, .load none (.t 56)⟩,
  ⟨(some 58), none, .mv (.t 7)⟩,
  ⟨(some 59), none, .call 32 [(.t 58)]⟩,
  ⟨(some 60), none, .bin .add (.v (.str [100, 105, 115, 116, 97, 110, 99, 101, 32])) (.t 59)⟩,
  ⟨(some 61), none, .build [(.int .i64 0), (.str [])] [(0, 1, (.t 57)), (1, 1, (.t 60))]⟩,
  ⟨(some 62), none, .slc 53 2 false [(.t 61)]⟩,
  ⟨(some 63), none, .app 53 2 24 (.t 53) (.t 62)⟩,
  ⟨(some 3), none, .mv (.t 63)⟩]
theorem tr12_17 : (ro Tryd.f12 17).toList.mapM (trO Tryd.prog 65 (ro Tryd.f12 17)) = some a12_17 := by kernel_rfl
def d12_17 : List (List Nat) := [[], [], [], [1, 2], [1, 2, 3], [], [5], [5, 6], [1, 2, 3, 4, 5, 6, 7], [1, 2, 3, 4, 5, 6, 7, 8], [0, 1, 2, 3, 4, 5, 6, 7, 8, 9], [0, 1, 2, 3, 4, 5, 6, 7, 8, 9, 10]]
theorem ok12_17 : okReg (ro Tryd.f12 17) a12_17 d12_17 = true := by kernel_rfl
def a12_16 : List AO := [⟨(some 51), none, .mv (.t 9)⟩,
  ⟨(some 52), none, .bin .add (.t 51) (.v (.int .i64 1))⟩,
  ⟨(some 9), none, .mv (.t 52)⟩]
theorem tr12_16 : (ro Tryd.f12 16).toList.mapM (trO Tryd.prog 65 (ro Tryd.f12 16)) = some a12_16 := by kernel_rfl
def a12_12 : List AO := [⟨(some 42), none, .mv (.t 7)⟩,
  ⟨(some 43), none, .bin .add (.t 42) (.v (.int .i64 1))⟩,
  ⟨(some 7), none, .mv (.t 43)⟩]
theorem tr12_12 : (ro Tryd.f12 12).toList.mapM (trO Tryd.prog 65 (ro Tryd.f12 12)) = some a12_12 := by kernel_rfl
def a12_18 : List AO := [⟨(some 64), none, .mv (.t 3)⟩,
  ⟨(some 2), none, .mv (.t 64)⟩]
theorem tr12_18 : (ro Tryd.f12 18).toList.mapM (trO Tryd.prog 65 (ro Tryd.f12 18)) = some a12_18 := by kernel_rfl
/-- airline/places.Find -/
noncomputable def c13 : Code := .seq (.region 0 (ro Tryd.f13 0) false) (.seq (.seq (.region 1 (ro Tryd.f13 1) false) (.block 0 (.loop (.seq (.region 2 (ro Tryd.f13 2) false) (.seq (.cond (.tmp 12) (.skip) (.exit 0)) (.seq (.block 1 (.seq (.region 3 (ro Tryd.f13 3) false) (.seq (.region 4 (ro Tryd.f13 4) false) (.cond (.tmp 18) (.seq (.region 5 (ro Tryd.f13 5) false) (.ret)) (.skip))))) (.region 6 (ro Tryd.f13 6) false))))))) (.seq (.region 7 (ro Tryd.f13 7) false) (.ret)))
theorem body13 : Tryd.f13.body = some c13 := by kernel_rfl
theorem res13 : Tryd.f13.results.toList.mapM (trR Tryd.prog) = some [.c (some 5) 4, .t 5] := by kernel_rfl
theorem nt13 : Tryd.f13.ntmps = 22 := by kernel_rfl
theorem nm13 : (Tryd.f13.name == "runtime.NumGoroutine") = false := by kernel_rfl
def a13_0 : List AO := [⟨(some 2), none, .box 25 (.t 0)⟩,
  ⟨(some 4), none, .alloc 35 [(.str []), (.str []), (.str []), (.int .i64 0), .nils]⟩,
  ⟨(some 5), none, .mv (.v (.bool false))⟩]
theorem tr13_0 : (ro Tryd.f13 0).toList.mapM (trO Tryd.prog 22 (ro Tryd.f13 0)) = some a13_0 := by kernel_rfl
def a13_1 : List AO := [⟨(some 8), none, .fld 0 (.t 2)⟩,
  ⟨(some 9), none, .load none (.t 8)⟩,
  ⟨(some 10), none, .len (.t 9)⟩,
  ⟨(some 11), none, .mv (.v (.int .i64 0))⟩]
theorem tr13_1 : (ro Tryd.f13 1).toList.mapM (trO Tryd.prog 22 (ro Tryd.f13 1)) = some a13_1 := by kernel_rfl
def a13_2 : List AO := [⟨(some 12), none, .bin .lss (.t 11) (.t 10)⟩]
theorem tr13_2 : (ro Tryd.f13 2).toList.mapM (trO Tryd.prog 22 (ro Tryd.f13 2)) = some a13_2 := by kernel_rfl
def a13_3 : List AO := [⟨(some 13), none, .idx 5 (.t 9) (.t 11)⟩,
  ⟨(some 14), none, .load (some 5) (.t 13)⟩,
  ⟨(some 7), none, .alloc 35 [(.str []), (.str []), (.str []), (.int .i64 0), .nils]⟩,
  ⟨none, none, .store 5 (.t 7) (.t 14)⟩]
theorem tr13_3 : (ro Tryd.f13 3).toList.mapM (trO Tryd.prog 22 (ro Tryd.f13 3)) = some a13_3 := by kernel_rfl
def a13_4 : List AO := [⟨(some 15), none, .fld 0 (.t 7)⟩,
  ⟨(some 16), none, .load none (.t 15)⟩,
  ⟨(some 17), none, .mv (.t 1)⟩,
  ⟨(some 18), none, .bin .eql (.t 16) (.t 17)⟩]
theorem tr13_4 : (ro Tryd.f13 4).toList.mapM (trO Tryd.prog 22 (ro Tryd.f13 4)) = some a13_4 := by kernel_rfl
def a13_5 : List AO := [⟨(some 19), none, .load (some 5) (.t 7)⟩,
  ⟨none, none, .store 5 (.t 4) (.t 19)⟩,
  ⟨(some 5), none, .mv (.v (.bool true))⟩]
theorem tr13_5 : (ro Tryd.f13 5).toList.mapM (trO Tryd.prog 22 (ro Tryd.f13 5)) = some a13_5 := by kernel_rfl
def a13_6 : List AO := [⟨(some 20), none, .bin .add (.t 11) (.v (.int .i64 1))⟩,
  ⟨(some 11), none, .mv (.t 20)⟩]
theorem tr13_6 : (ro Tryd.f13 6).toList.mapM (trO Tryd.prog 22 (ro Tryd.f13 6)) = some a13_6 := by kernel_rfl
def a13_7 : List AO := [⟨(some 21), none, .build [(.str []), (.str []), (.str []), (.int .i64 0), .nils] []⟩,
  ⟨none, none, .store 5 (.t 4) (.t 21)⟩,
  ⟨(some 5), none, .mv (.v (.bool false))⟩]
theorem tr13_7 : (ro Tryd.f13 7).toList.mapM (trO Tryd.prog 22 (ro Tryd.f13 7)) = some a13_7 := by kernel_rfl
/-- airline/airlineref06.Find -/
noncomputable def c14 : Code := .seq (.region 0 (ro Tryd.f14 0) false) (.seq (.seq (.region 1 (ro Tryd.f14 1) false) (.block 0 (.loop (.seq (.seq (.region 2 (ro Tryd.f14 2) false) (.cond (.tmp 11) (.skip) (.exit 0))) (.seq (.block 1 (.seq (.region 4 (ro Tryd.f14 4) false) (.cond (.tmp 21) (.seq (.region 5 (ro Tryd.f14 5) false) (.ret)) (.skip)))) (.region 3 (ro Tryd.f14 3) false)))))) (.seq (.region 6 (ro Tryd.f14 6) false) (.ret)))
theorem body14 : Tryd.f14.body = some c14 := by kernel_rfl
theorem res14 : Tryd.f14.results.toList.mapM (trR Tryd.prog) = some [.c (some 5) 4, .t 5] := by kernel_rfl
theorem nt14 : Tryd.f14.ntmps = 28 := by kernel_rfl
theorem nm14 : (Tryd.f14.name == "runtime.NumGoroutine") = false := by kernel_rfl
def a14_0 : List AO := [⟨(some 2), none, .box 25 (.t 0)⟩,
  ⟨(some 4), none, .alloc 35 [(.str []), (.str []), (.str []), (.int .i64 0), .nils]⟩,
  ⟨(some 5), none, .mv (.v (.bool false))⟩]
theorem tr14_0 : (ro Tryd.f14 0).toList.mapM (trO Tryd.prog 28 (ro Tryd.f14 0)) = some a14_0 := by kernel_rfl
def a14_1 : List AO := [⟨(some 6), none, .mv (.v (.int .i64 0))⟩]
theorem tr14_1 : (ro Tryd.f14 1).toList.mapM (trO Tryd.prog 28 (ro Tryd.f14 1)) = some a14_1 := by kernel_rfl
def a14_2 : List AO := [⟨(some 7), none, .mv (.t 6)⟩,
  ⟨(some 8), none, .fld 0 (.t 2)⟩,
  ⟨(some 9), none, .load none (.t 8)⟩,
  ⟨(some 10), none, .len (.t 9)⟩,
  ⟨(some 11), none, .bin .lss (.t 7) (.t 10)⟩]
theorem tr14_2 : (ro Tryd.f14 2).toList.mapM (trO Tryd.prog 28 (ro Tryd.f14 2)) = some a14_2 := by kernel_rfl
def a14_4 : List AO := [⟨(some 14), none, .fld 0 (.t 2)⟩,
  ⟨(some 15), none, .load none (.t 14)⟩,
  ⟨(some 16), none, .mv (.t 6)⟩,
  ⟨(some 17), none, .idx 5 (.t 15) (.t 16)⟩,
  ⟨(some 18), none, .fld 0 (.t 17)⟩,
  ⟨(some 19), none, .load none (.t 18)⟩,
  ⟨(some 20), none, .mv (.t 1)⟩,
  ⟨(some 21), none, .bin .eql (.t 19) (.t 20)⟩]
theorem tr14_4 : (ro Tryd.f14 4).toList.mapM (trO Tryd.prog 28 (ro Tryd.f14 4)) = some a14_4 := by kernel_rfl
def a14_5 : List AO := [⟨(some 22), none, .fld 0 (.t 2)⟩,
  ⟨(some 23), none, .load none (.t 22)⟩,
  ⟨(some 24), none, .mv (.t 6)⟩,
  ⟨(some 25), none, .idx 5 (.t 23) (.t 24)⟩,
  ⟨(some 26), none, .load (some 5) (.t 25)⟩,
  ⟨none, none, .store 5 (.t 4) (.t 26)⟩,
  ⟨(some 5), none, .mv (.v (.bool true))⟩]
theorem tr14_5 : (ro Tryd.f14 5).toList.mapM (trO Tryd.prog 28 (ro Tryd.f14 5)) = some a14_5 := by kernel_rfl
def a14_3 : List AO := [⟨(some 12), none, .mv (.t 6)⟩,
  ⟨(some 13), none, .bin .add (.t 12) (.v (.int .i64 1))⟩,
  ⟨(some 6), none, .mv (.t 13)⟩]
theorem tr14_3 : (ro Tryd.f14 3).toList.mapM (trO Tryd.prog 28 (ro Tryd.f14 3)) = some a14_3 := by kernel_rfl
def a14_6 : List AO := [⟨(some 27), none, .build [(.str []), (.str []), (.str []), (.int .i64 0), .nils] []⟩,
  ⟨none, none, .store 5 (.t 4) (.t 27)⟩,
  ⟨(some 5), none, .mv (.v (.bool false))⟩]
theorem tr14_6 : (ro Tryd.f14 6).toList.mapM (trO Tryd.prog 28 (ro Tryd.f14 6)) = some a14_6 := by kernel_rfl
/-- airline/airlinelaw06.sameAirport -/
noncomputable def c15 : Code := .seq (.region 0 (ro Tryd.f15 0) false) (.seq (.seq (.region 1 (ro Tryd.f15 1) false) (.cond (.tmp 44) (.seq (.region 2 (ro Tryd.f15 2) false) (.ret)) (.skip))) (.seq (.seq (.region 3 (ro Tryd.f15 3) false) (.block 0 (.loop (.seq (.seq (.region 4 (ro Tryd.f15 4) false) (.cond (.tmp 50) (.skip) (.exit 0))) (.seq (.block 1 (.seq (.region 6 (ro Tryd.f15 6) true) (.cond (.tmp 65) (.seq (.region 7 (ro Tryd.f15 7) false) (.ret)) (.skip)))) (.region 5 (ro Tryd.f15 5) false)))))) (.seq (.region 8 (ro Tryd.f15 8) false) (.ret))))
theorem body15 : Tryd.f15.body = some c15 := by kernel_rfl
theorem res15 : Tryd.f15.results.toList.mapM (trR Tryd.prog) = some [.t 4] := by kernel_rfl
theorem nt15 : Tryd.f15.ntmps = 66 := by kernel_rfl
theorem nm15 : (Tryd.f15.name == "runtime.NumGoroutine") = false := by kernel_rfl
def a15_0 : List AO := [⟨(some 2), none, .box 35 (.t 0)⟩,
  ⟨(some 3), none, .box 35 (.t 1)⟩,
  ⟨(some 4), none, .mv (.v (.bool false))⟩]
theorem tr15_0 : (ro Tryd.f15 0).toList.mapM (trO Tryd.prog 66 (ro Tryd.f15 0)) = some a15_0 := by kernel_rfl
def a15_1 : List AO := [⟨(some 6), none, .fld 0 (.t 2)⟩,
  ⟨(some 7), none, .load none (.t 6)⟩,
  ⟨(some 8), none, .fld 0 (.t 3)⟩,
  ⟨(some 9), none, .load none (.t 8)⟩,
  ⟨(some 10), none, .bin .neq (.t 7) (.t 9)⟩,
  ⟨(some 11), none, .mv (.t 10)⟩,
  ⟨(some 12), some (11, false), .fld 1 (.t 2)⟩,
  ⟨(some 13), some (11, false), .load none (.t 12)⟩,
  ⟨(some 14), some (11, false), .fld 1 (.t 3)⟩,
  ⟨(some 15), some (11, false), .load none (.t 14)⟩,
  ⟨(some 16), some (11, false), .bin .neq (.t 13) (.t 15)⟩,
  ⟨(some 17), none, .pick (.t 11) (.v (.bool true)) (.t 16)⟩,
  ⟨(some 18), none, .mv (.t 17)⟩,
  ⟨(some 19), some (18, false), .fld 2 (.t 2)⟩,
  ⟨(some 20), some (18, false), .load none (.t 19)⟩,
  ⟨(some 21), some (18, false), .fld 2 (.t 3)⟩,
  ⟨(some 22), some (18, false), .load none (.t 21)⟩,
  ⟨(some 23), some (18, false), .bin .neq (.t 20) (.t 22)⟩,
  ⟨(some 24), none, .pick (.t 18) (.v (.bool true)) (.t 23)⟩,
  ⟨(some 25), none, .mv (.t 24)⟩,
  ⟨(some 26), some (25, false), .fld 3 (.t 2)⟩,
  ⟨(some 27), some (25, false), .fld 0 (.t 26)⟩,
  ⟨(some 28), some (25, false), .load none (.t 27)⟩,
  ⟨(some 29), some (25, false), .fld 3 (.t 3)⟩,
  ⟨(some 30), some (25, false), .fld 0 (.t 29)⟩,
  ⟨(some 31), some (25, false), .load none (.t 30)⟩,
  ⟨(some 32), some (25, false), .bin .neq (.t 28) (.t 31)⟩,
  ⟨(some 33), none, .pick (.t 25) (.v (.bool true)) (.t 32)⟩,
  ⟨(some 34), none, .mv (.t 33)⟩,
  ⟨(some 35), some (34, false), .fld 3 (.t 2)⟩,
  ⟨(some 36), some (34, false), .fld 1 (.t 35)⟩,
  ⟨(some 37), some (34, false), .load none (.t 36)⟩,
  ⟨(some 38), some (34, false), .len (.t 37)⟩,
  ⟨(some 39), some (34, false), .fld 3 (.t 3)⟩,
  ⟨(some 40), some (34, false), .fld 1 (.t 39)⟩,
  ⟨(some 41), some (34, false), .load none (.t 40)⟩,
  ⟨(some 42), some (34, false), .len (.t 41)⟩,
  ⟨(some 43), some (34, false), .bin .neq (.t 38) (.t 42)⟩,
  ⟨(some 44), none, .pick (.t 34) (.v (.bool true)) (.t 43)⟩]
theorem tr15_1 : (ro Tryd.f15 1).toList.mapM (trO Tryd.prog 66 (ro Tryd.f15 1)) = some a15_1 := by kernel_rfl
def a15_2 : List AO := [⟨(some 4), none, .mv (.v (.bool false))⟩]
theorem tr15_2 : (ro Tryd.f15 2).toList.mapM (trO Tryd.prog 66 (ro Tryd.f15 2)) = some a15_2 := by kernel_rfl
def a15_3 : List AO := [⟨(some 5), none, .mv (.v (.int .i64 0))⟩]
theorem tr15_3 : (ro Tryd.f15 3).toList.mapM (trO Tryd.prog 66 (ro Tryd.f15 3)) = some a15_3 := by kernel_rfl
def a15_4 : List AO := [⟨(some 45), none, .mv (.t 5)⟩,
  ⟨(some 46), none, .fld 3 (.t 2)⟩,
  ⟨(some 47), none, .fld 1 (.t 46)⟩,
  ⟨(some 48), none, .load none (.t 47)⟩,
  ⟨(some 49), none, .len (.t 48)⟩,
  ⟨(some 50), none, .bin .lss (.t 45) (.t 49)⟩]
theorem tr15_4 : (ro Tryd.f15 4).toList.mapM (trO Tryd.prog 66 (ro Tryd.f15 4)) = some a15_4 := by kernel_rfl
def a15_6 : List AO := [⟨(some 53), none, .fld 3 (.t 2)⟩,
  ⟨(some 54), none, .fld 1 (.t 53)⟩,
  ⟨(some 55), none, .load none (.t 54)⟩,
  ⟨(some 56), none, .mv (.t 5)⟩,
  ⟨(some 57), none, .idx 2 (.t 55) (.t 56)⟩,
  ⟨(some 58), none, .load (some 2) (.t 57)⟩,
  ⟨(some 59), none, .fld 3 (.t 3)⟩,
  ⟨(some 60), none, .fld 1 (.t 59)⟩,
  ⟨(some 61), none, .load none (.t 60)⟩,
  ⟨(some 62), none, .mv (.t 5)⟩,
  ⟨(some 63), none, .idx 2 (.t 61) (.t 62)⟩,
  ⟨(some 64), none, .load (some 2) (.t 63)⟩,
  ⟨(some 65), none, .bina [.i .i64, .i .i64] .neq (.t 58) (.t 64)⟩]
theorem tr15_6 : (ro Tryd.f15 6).toList.mapM (trO Tryd.prog 66 (ro Tryd.f15 6)) = some a15_6 := by kernel_rfl
def d15_6 : List (List Nat) := [[], [0], [0, 1], [], [0, 1, 2, 3], [0, 1, 2, 3, 4], [], [6], [6, 7], [], [6, 7, 8, 9], [6, 7, 8, 9, 10], [0, 1, 2, 3, 4, 5, 6, 7, 8, 9, 10, 11]]
theorem ok15_6 : okReg (ro Tryd.f15 6) a15_6 d15_6 = true := by kernel_rfl
def a15_7 : List AO := [⟨(some 4), none, .mv (.v (.bool false))⟩]
theorem tr15_7 : (ro Tryd.f15 7).toList.mapM (trO Tryd.prog 66 (ro Tryd.f15 7)) = some a15_7 := by kernel_rfl
def a15_5 : List AO := [⟨(some 51), none, .mv (.t 5)⟩,
  ⟨(some 52), none, .bin .add (.t 51) (.v (.int .i64 1))⟩,
  ⟨(some 5), none, .mv (.t 52)⟩]
theorem tr15_5 : (ro Tryd.f15 5).toList.mapM (trO Tryd.prog 66 (ro Tryd.f15 5)) = some a15_5 := by kernel_rfl
def a15_8 : List AO := [⟨(some 4), none, .mv (.v (.bool true))⟩]
theorem tr15_8 : (ro Tryd.f15 8).toList.mapM (trO Tryd.prog 66 (ro Tryd.f15 8)) = some a15_8 := by kernel_rfl
/-- airline/places.City -/
noncomputable def c16 : Code := .seq (.region 0 (ro Tryd.f16 0) false) (.seq (.seq (.region 1 (ro Tryd.f16 1) false) (.seq (.region 2 (ro Tryd.f16 2) false) (.cond (.tmp 15) (.seq (.region 3 (ro Tryd.f16 3) false) (.ret)) (.skip)))) (.seq (.seq (.region 4 (ro Tryd.f16 4) false) (.seq (.region 5 (ro Tryd.f16 5) false) (.cond (.tmp 24) (.seq (.region 6 (ro Tryd.f16 6) false) (.ret)) (.skip)))) (.seq (.region 7 (ro Tryd.f16 7) false) (.ret))))
theorem body16 : Tryd.f16.body = some c16 := by kernel_rfl
theorem res16 : Tryd.f16.results.toList.mapM (trR Tryd.prog) = some [.t 4] := by kernel_rfl
theorem nt16 : Tryd.f16.ntmps = 26 := by kernel_rfl
theorem nm16 : (Tryd.f16.name == "runtime.NumGoroutine") = false := by kernel_rfl
def a16_0 : List AO := [⟨(some 2), none, .box 25 (.t 0)⟩,
  ⟨(some 4), none, .mv (.v (.str []))⟩]
theorem tr16_0 : (ro Tryd.f16 0).toList.mapM (trO Tryd.prog 26 (ro Tryd.f16 0)) = some a16_0 := by kernel_rfl
def a16_1 : List AO := [⟨(some 10), none, .load (some 2) (.t 2)⟩,
  ⟨(some 11), none, .mv (.t 1)⟩,
  ⟨(some 12), none, .call 13 [(.t 10), (.t 11)]⟩,
  ⟨(some 9), none, .mv (.t 12)⟩,
  ⟨(some 13), none, .ext 0 (.t 9)⟩,
  ⟨(some 14), none, .ext 1 (.t 9)⟩,
  ⟨(some 5), none, .alloc 35 [(.str []), (.str []), (.str []), (.int .i64 0), .nils]⟩,
  ⟨none, none, .store 5 (.t 5) (.t 13)⟩,
  ⟨(some 6), none, .mv (.t 14)⟩]
theorem tr16_1 : (ro Tryd.f16 1).toList.mapM (trO Tryd.prog 26 (ro Tryd.f16 1)) = some a16_1 := by kernel_rfl
def a16_2 : List AO := [⟨(some 15), none, .mv (.t 6)⟩]
theorem tr16_2 : (ro Tryd.f16 2).toList.mapM (trO Tryd.prog 26 (ro Tryd.f16 2)) = some a16_2 := by kernel_rfl
def a16_3 : List AO := [⟨(some 16), none, .fld 1 (.t 5)⟩,
  ⟨(some 17), none, .load none (.t 16)⟩,
  ⟨(some 4), none, .mv (.t 17)⟩]
theorem tr16_3 : (ro Tryd.f16 3).toList.mapM (trO Tryd.prog 26 (ro Tryd.f16 3)) = some a16_3 := by kernel_rfl
def a16_4 : List AO := [⟨(some 19), none, .load (some 2) (.t 2)⟩,
  ⟨(some 20), none, .mv (.t 1)⟩,
  ⟨(some 21), none, .call 34 [(.t 19), (.t 20)]⟩,
  ⟨(some 18), none, .mv (.t 21)⟩,
  ⟨(some 22), none, .ext 0 (.t 18)⟩,
  ⟨(some 23), none, .ext 1 (.t 18)⟩,
  ⟨(some 7), none, .alloc 35 [(.str []), (.str []), (.str []), (.int .i64 0), .nils]⟩,
  ⟨none, none, .store 5 (.t 7) (.t 22)⟩,
  ⟨(some 8), none, .mv (.t 23)⟩]
theorem tr16_4 : (ro Tryd.f16 4).toList.mapM (trO Tryd.prog 26 (ro Tryd.f16 4)) = some a16_4 := by kernel_rfl
def a16_5 : List AO := [⟨(some 24), none, .mv (.t 8)⟩]
theorem tr16_5 : (ro Tryd.f16 5).toList.mapM (trO Tryd.prog 26 (ro Tryd.f16 5)) = some a16_5 := by kernel_rfl
def a16_6 : List AO := [⟨(some 25), none, .mv (.t 1)⟩,
  ⟨(some 4), none, .mv (.t 25)⟩]
theorem tr16_6 : (ro Tryd.f16 6).toList.mapM (trO Tryd.prog 26 (ro Tryd.f16 6)) = some a16_6 := by kernel_rfl
def a16_7 : List AO := [⟨(some 4), none, .mv (.v (.str []))⟩]
theorem tr16_7 : (ro Tryd.f16 7).toList.mapM (trO Tryd.prog 26 (ro Tryd.f16 7)) = some a16_7 := by kernel_rfl
/-- airline/airlineref06.City -/
noncomputable def c17 : Code := .seq (.region 0 (ro Tryd.f17 0) false) (.seq (.region 1 (ro Tryd.f17 1) false) (.seq (.seq (.region 2 (ro Tryd.f17 2) false) (.cond (.tmp 13) (.seq (.region 3 (ro Tryd.f17 3) false) (.ret)) (.skip))) (.seq (.region 4 (ro Tryd.f17 4) false) (.seq (.seq (.region 5 (ro Tryd.f17 5) false) (.cond (.tmp 22) (.seq (.region 6 (ro Tryd.f17 6) false) (.ret)) (.skip))) (.seq (.region 7 (ro Tryd.f17 7) false) (.ret))))))
theorem body17 : Tryd.f17.body = some c17 := by kernel_rfl
theorem res17 : Tryd.f17.results.toList.mapM (trR Tryd.prog) = some [.t 4] := by kernel_rfl
theorem nt17 : Tryd.f17.ntmps = 24 := by kernel_rfl
theorem nm17 : (Tryd.f17.name == "runtime.NumGoroutine") = false := by kernel_rfl
def a17_0 : List AO := [⟨(some 2), none, .box 25 (.t 0)⟩,
  ⟨(some 4), none, .mv (.v (.str []))⟩]
theorem tr17_0 : (ro Tryd.f17 0).toList.mapM (trO Tryd.prog 24 (ro Tryd.f17 0)) = some a17_0 := by kernel_rfl
def a17_1 : List AO := [⟨(some 8), none, .load (some 2) (.t 2)⟩,
  ⟨(some 9), none, .mv (.t 1)⟩,
  ⟨(some 10), none, .call 14 [(.t 8), (.t 9)]⟩,
  ⟨(some 7), none, .mv (.t 10)⟩,
  ⟨(some 11), none, .ext 0 (.t 7)⟩,
  ⟨(some 12), none, .ext 1 (.t 7)⟩,
  ⟨(some 5), none, .alloc 35 [(.str []), (.str []), (.str []), (.int .i64 0), .nils]⟩,
  ⟨none, none, .store 5 (.t 5) (.t 11)⟩,
  ⟨(some 6), none, .mv (.t 12)⟩]
theorem tr17_1 : (ro Tryd.f17 1).toList.mapM (trO Tryd.prog 24 (ro Tryd.f17 1)) = some a17_1 := by kernel_rfl
def a17_2 : List AO := [⟨(some 13), none, .mv (.t 6)⟩]
theorem tr17_2 : (ro Tryd.f17 2).toList.mapM (trO Tryd.prog 24 (ro Tryd.f17 2)) = some a17_2 := by kernel_rfl
def a17_3 : List AO := [⟨(some 14), none, .fld 1 (.t 5)⟩,
  ⟨(some 15), none, .load none (.t 14)⟩,
  ⟨(some 4), none, .mv (.t 15)⟩]
theorem tr17_3 : (ro Tryd.f17 3).toList.mapM (trO Tryd.prog 24 (ro Tryd.f17 3)) = some a17_3 := by kernel_rfl
def a17_4 : List AO := [⟨(some 17), none, .load (some 2) (.t 2)⟩,
  ⟨(some 18), none, .mv (.t 1)⟩,
  ⟨(some 19), none, .call 35 [(.t 17), (.t 18)]⟩,
  ⟨(some 16), none, .mv (.t 19)⟩,
  ⟨(some 20), none, .ext 0 (.t 16)⟩,
  ⟨(some 21), none, .ext 1 (.t 16)⟩,
  ⟨(some 6), none, .mv (.t 21)⟩]
theorem tr17_4 : (ro Tryd.f17 4).toList.mapM (trO Tryd.prog 24 (ro Tryd.f17 4)) = some a17_4 := by kernel_rfl
def a17_5 : List AO := [⟨(some 22), none, .mv (.t 6)⟩]
theorem tr17_5 : (ro Tryd.f17 5).toList.mapM (trO Tryd.prog 24 (ro Tryd.f17 5)) = some a17_5 := by kernel_rfl
def a17_6 : List AO := [⟨(some 23), none, .mv (.t 1)⟩,
  ⟨(some 4), none, .mv (.t 23)⟩]
theorem tr17_6 : (ro Tryd.f17 6).toList.mapM (trO Tryd.prog 24 (ro Tryd.f17 6)) = some a17_6 := by kernel_rfl
def a17_7 : List AO := [⟨(some 4), none, .mv (.v (.str []))⟩]
theorem tr17_7 : (ro Tryd.f17 7).toList.mapM (trO Tryd.prog 24 (ro Tryd.f17 7)) = some a17_7 := by kernel_rfl
/-- airline/places.Country -/
noncomputable def c18 : Code := .seq (.region 0 (ro Tryd.f18 0) false) (.seq (.seq (.region 1 (ro Tryd.f18 1) false) (.seq (.region 2 (ro Tryd.f18 2) false) (.cond (.tmp 15) (.seq (.region 3 (ro Tryd.f18 3) false) (.ret)) (.skip)))) (.seq (.region 4 (ro Tryd.f18 4) false) (.seq (.region 5 (ro Tryd.f18 5) false) (.ret))))
theorem body18 : Tryd.f18.body = some c18 := by kernel_rfl
theorem res18 : Tryd.f18.results.toList.mapM (trR Tryd.prog) = some [.t 4] := by kernel_rfl
theorem nt18 : Tryd.f18.ntmps = 26 := by kernel_rfl
theorem nm18 : (Tryd.f18.name == "runtime.NumGoroutine") = false := by kernel_rfl
def a18_0 : List AO := [⟨(some 2), none, .box 25 (.t 0)⟩,
  ⟨(some 4), none, .mv (.v (.str []))⟩]
theorem tr18_0 : (ro Tryd.f18 0).toList.mapM (trO Tryd.prog 26 (ro Tryd.f18 0)) = some a18_0 := by kernel_rfl
def a18_1 : List AO := [⟨(some 10), none, .load (some 2) (.t 2)⟩,
  ⟨(some 11), none, .mv (.t 1)⟩,
  ⟨(some 12), none, .call 13 [(.t 10), (.t 11)]⟩,
  ⟨(some 9), none, .mv (.t 12)⟩,
  ⟨(some 13), none, .ext 0 (.t 9)⟩,
  ⟨(some 14), none, .ext 1 (.t 9)⟩,
  ⟨(some 5), none, .alloc 35 [(.str []), (.str []), (.str []), (.int .i64 0), .nils]⟩,
  ⟨none, none, .store 5 (.t 5) (.t 13)⟩,
  ⟨(some 6), none, .mv (.t 14)⟩]
theorem tr18_1 : (ro Tryd.f18 1).toList.mapM (trO Tryd.prog 26 (ro Tryd.f18 1)) = some a18_1 := by kernel_rfl
def a18_2 : List AO := [⟨(some 15), none, .mv (.t 6)⟩]
theorem tr18_2 : (ro Tryd.f18 2).toList.mapM (trO Tryd.prog 26 (ro Tryd.f18 2)) = some a18_2 := by kernel_rfl
def a18_3 : List AO := [⟨(some 16), none, .fld 2 (.t 5)⟩,
  ⟨(some 17), none, .load none (.t 16)⟩,
  ⟨(some 4), none, .mv (.t 17)⟩]
theorem tr18_3 : (ro Tryd.f18 3).toList.mapM (trO Tryd.prog 26 (ro Tryd.f18 3)) = some a18_3 := by kernel_rfl
def a18_4 : List AO := [⟨(some 19), none, .load (some 2) (.t 2)⟩,
  ⟨(some 20), none, .mv (.t 1)⟩,
  ⟨(some 21), none, .call 34 [(.t 19), (.t 20)]⟩,
  ⟨(some 18), none, .mv (.t 21)⟩,
  ⟨(some 22), none, .ext 0 (.t 18)⟩,
  ⟨(some 23), none, .ext 1 (.t 18)⟩,
  ⟨(some 7), none, .alloc 35 [(.str []), (.str []), (.str []), (.int .i64 0), .nils]⟩,
  ⟨none, none, .store 5 (.t 7) (.t 22)⟩,
  ⟨(some 8), none, .mv (.t 23)⟩]
theorem tr18_4 : (ro Tryd.f18 4).toList.mapM (trO Tryd.prog 26 (ro Tryd.f18 4)) = some a18_4 := by kernel_rfl
def a18_5 : List AO := [⟨(some 24), none, .fld 2 (.t 7)⟩,
  ⟨(some 25), none, .load none (.t 24)⟩,
  ⟨(some 4), none, .mv (.t 25)⟩]
theorem tr18_5 : (ro Tryd.f18 5).toList.mapM (trO Tryd.prog 26 (ro Tryd.f18 5)) = some a18_5 := by kernel_rfl
/-- airline/airlineref06.Country -/
noncomputable def c19 : Code := .seq (.region 0 (ro Tryd.f19 0) false) (.seq (.region 1 (ro Tryd.f19 1) false) (.seq (.seq (.region 2 (ro Tryd.f19 2) false) (.cond (.tmp 14) (.region 3 (ro Tryd.f19 3) false) (.skip))) (.seq (.region 4 (ro Tryd.f19 4) false) (.ret))))
theorem body19 : Tryd.f19.body = some c19 := by kernel_rfl
theorem res19 : Tryd.f19.results.toList.mapM (trR Tryd.prog) = some [.t 4] := by kernel_rfl
theorem nt19 : Tryd.f19.ntmps = 23 := by kernel_rfl
theorem nm19 : (Tryd.f19.name == "runtime.NumGoroutine") = false := by kernel_rfl
def a19_0 : List AO := [⟨(some 2), none, .box 25 (.t 0)⟩,
  ⟨(some 4), none, .mv (.v (.str []))⟩]
theorem tr19_0 : (ro Tryd.f19 0).toList.mapM (trO Tryd.prog 23 (ro Tryd.f19 0)) = some a19_0 := by kernel_rfl
def a19_1 : List AO := [⟨(some 8), none, .load (some 2) (.t 2)⟩,
  ⟨(some 9), none, .mv (.t 1)⟩,
  ⟨(some 10), none, .call 14 [(.t 8), (.t 9)]⟩,
  ⟨(some 7), none, .mv (.t 10)⟩,
  ⟨(some 11), none, .ext 0 (.t 7)⟩,
  ⟨(some 12), none, .ext 1 (.t 7)⟩,
  ⟨(some 5), none, .alloc 35 [(.str []), (.str []), (.str []), (.int .i64 0), .nils]⟩,
  ⟨none, none, .store 5 (.t 5) (.t 11)⟩,
  ⟨(some 6), none, .mv (.t 12)⟩]
theorem tr19_1 : (ro Tryd.f19 1).toList.mapM (trO Tryd.prog 23 (ro Tryd.f19 1)) = some a19_1 := by kernel_rfl
def a19_2 : List AO := [⟨(some 13), none, .mv (.t 6)⟩,
  ⟨(some 14), none, .un .not (.t 13)⟩]
theorem tr19_2 : (ro Tryd.f19 2).toList.mapM (trO Tryd.prog 23 (ro Tryd.f19 2)) = some a19_2 := by kernel_rfl
def a19_3 : List AO := [⟨(some 16), none, .load (some 2) (.t 2)⟩,
  ⟨(some 17), none, .mv (.t 1)⟩,
  ⟨(some 18), none, .call 35 [(.t 16), (.t 17)]⟩,
  ⟨(some 15), none, .mv (.t 18)⟩,
  ⟨(some 19), none, .ext 0 (.t 15)⟩,
  ⟨(some 20), none, .ext 1 (.t 15)⟩,
  ⟨none, none, .store 5 (.t 5) (.t 19)⟩]
theorem tr19_3 : (ro Tryd.f19 3).toList.mapM (trO Tryd.prog 23 (ro Tryd.f19 3)) = some a19_3 := by kernel_rfl
def a19_4 : List AO := [⟨(some 21), none, .fld 2 (.t 5)⟩,
  ⟨(some 22), none, .load none (.t 21)⟩,
  ⟨(some 4), none, .mv (.t 22)⟩]
theorem tr19_4 : (ro Tryd.f19 4).toList.mapM (trO Tryd.prog 23 (ro Tryd.f19 4)) = some a19_4 := by kernel_rfl
/-- airline/places.Miles -/
noncomputable def c20 : Code := .seq (.region 0 (ro Tryd.f20 0) false) (.seq (.region 1 (ro Tryd.f20 1) true) (.seq (.seq (.region 2 (ro Tryd.f20 2) false) (.cond (.tmp 30) (.seq (.region 3 (ro Tryd.f20 3) false) (.ret)) (.skip))) (.seq (.region 4 (ro Tryd.f20 4) false) (.seq (.region 5 (ro Tryd.f20 5) false) (.seq (.seq (.region 6 (ro Tryd.f20 6) false) (.block 0 (.loop (.seq (.seq (.region 7 (ro Tryd.f20 7) false) (.cond (.tmp 35) (.skip) (.exit 0))) (.block 1 (.seq (.region 8 (ro Tryd.f20 8) false) (.seq (.region 9 (ro Tryd.f20 9) false) (.block 2 (.loop (.seq (.region 10 (ro Tryd.f20 10) false) (.seq (.cond (.tmp 40) (.skip) (.exit 2)) (.seq (.block 3 (.seq (.region 11 (ro Tryd.f20 11) false) (.seq (.region 12 (ro Tryd.f20 12) false) (.cond (.tmp 44) (.seq (.region 13 (ro Tryd.f20 13) false) (.seq (.region 14 (ro Tryd.f20 14) false) (.region 15 (ro Tryd.f20 15) false))) (.skip))))) (.region 16 (ro Tryd.f20 16) false))))))))))))) (.seq (.region 17 (ro Tryd.f20 17) false) (.seq (.seq (.region 18 (ro Tryd.f20 18) false) (.cond (.tmp 76) (.seq (.region 19 (ro Tryd.f20 19) false) (.ret)) (.skip))) (.seq (.region 20 (ro Tryd.f20 20) false) (.ret)))))))))
theorem body20 : Tryd.f20.body = some c20 := by kernel_rfl
theorem res20 : Tryd.f20.results.toList.mapM (trR Tryd.prog) = some [.t 6, .t 7] := by kernel_rfl
theorem nt20 : Tryd.f20.ntmps = 78 := by kernel_rfl
theorem nm20 : (Tryd.f20.name == "runtime.NumGoroutine") = false := by kernel_rfl
def a20_0 : List AO := [⟨(some 3), none, .box 25 (.t 0)⟩,
  ⟨(some 6), none, .mv (.v (.int .i64 0))⟩,
  ⟨(some 7), none, .mv (.v (.int .i64 0))⟩]
theorem tr20_0 : (ro Tryd.f20 0).toList.mapM (trO Tryd.prog 78 (ro Tryd.f20 0)) = some a20_0 := by kernel_rfl
def a20_1 : List AO := [⟨(some 19), none, .load (some 2) (.t 3)⟩,
  ⟨(some 20), none, .mv (.t 1)⟩,
  ⟨(some 21), none, .call 16 [(.t 19), (.t 20)]⟩,
  ⟨(some 22), none, .load (some 2) (.t 3)⟩,
  ⟨(some 23), none, .mv (.t 2)⟩,
  ⟨(some 24), none, .call 16 [(.t 22), (.t 23)]⟩,
  ⟨(some 8), none, .mv (.t 21)⟩,
  ⟨(some 9), none, .mv (.t 24)⟩]
theorem tr20_1 : (ro Tryd.f20 1).toList.mapM (trO Tryd.prog 78 (ro Tryd.f20 1)) = some a20_1 := by kernel_rfl
def d20_1 : List (List Nat) := [[], [], [0, 1], [], [], [0, 1, 2, 3, 4], [0, 1, 2, 3, 4, 5], [0, 1, 2, 3, 4, 5, 6]]
theorem ok20_1 : okReg (ro Tryd.f20 1) a20_1 d20_1 = true := by kernel_rfl
def a20_2 : List AO := [⟨(some 25), none, .mv (.t 8)⟩,
  ⟨(some 26), none, .bin .eql (.t 25) (.v (.str []))⟩,
  ⟨(some 27), none, .mv (.t 26)⟩,
  ⟨(some 28), some (27, false), .mv (.t 9)⟩,
  ⟨(some 29), some (27, false), .bin .eql (.t 28) (.v (.str []))⟩,
  ⟨(some 30), none, .pick (.t 27) (.v (.bool true)) (.t 29)⟩]
theorem tr20_2 : (ro Tryd.f20 2).toList.mapM (trO Tryd.prog 78 (ro Tryd.f20 2)) = some a20_2 := by kernel_rfl
def a20_3 : List AO := [⟨(some 6), none, .mv (.v (.int .i64 0))⟩,
  ⟨(some 7), none, .mv (.v (.int .i64 14))⟩]
theorem tr20_3 : (ro Tryd.f20 3).toList.mapM (trO Tryd.prog 78 (ro Tryd.f20 3)) = some a20_3 := by kernel_rfl
def a20_4 : List AO := [⟨(some 31), none, .mkmap⟩,
  ⟨(some 32), none, .mv (.t 8)⟩,
  ⟨none, none, .mset 0 (.t 31) (.t 32) (.v (.int .i64 0))⟩,
  ⟨(some 33), none, .mv (.t 31)⟩,
  ⟨(some 10), none, .alloc 70 [.nilm]⟩,
  ⟨none, none, .store 1 (.t 10) (.t 33)⟩]
theorem tr20_4 : (ro Tryd.f20 4).toList.mapM (trO Tryd.prog 78 (ro Tryd.f20 4)) = some a20_4 := by kernel_rfl
def a20_5 : List AO := [⟨(some 34), none, .mkfn 36 [(.t 10)]⟩,
  ⟨(some 11), none, .mv (.t 34)⟩]
theorem tr20_5 : (ro Tryd.f20 5).toList.mapM (trO Tryd.prog 78 (ro Tryd.f20 5)) = some a20_5 := by kernel_rfl
def a20_6 : List AO := [⟨(some 12), none, .mv (.v (.bool true))⟩]
theorem tr20_6 : (ro Tryd.f20 6).toList.mapM (trO Tryd.prog 78 (ro Tryd.f20 6)) = some a20_6 := by kernel_rfl
def a20_7 : List AO := [⟨(some 35), none, .mv (.t 12)⟩]
theorem tr20_7 : (ro Tryd.f20 7).toList.mapM (trO Tryd.prog 78 (ro Tryd.f20 7)) = some a20_7 := by kernel_rfl
def a20_8 : List AO := [⟨(some 12), none, .mv (.v (.bool false))⟩]
theorem tr20_8 : (ro Tryd.f20 8).toList.mapM (trO Tryd.prog 78 (ro Tryd.f20 8)) = some a20_8 := by kernel_rfl
def a20_9 : List AO := [⟨(some 36), none, .fld 1 (.t 3)⟩,
  ⟨(some 37), none, .load none (.t 36)⟩,
  ⟨(some 38), none, .len (.t 37)⟩,
  ⟨(some 39), none, .mv (.v (.int .i64 0))⟩]
theorem tr20_9 : (ro Tryd.f20 9).toList.mapM (trO Tryd.prog 78 (ro Tryd.f20 9)) = some a20_9 := by kernel_rfl
def a20_10 : List AO := [⟨(some 40), none, .bin .lss (.t 39) (.t 38)⟩]
theorem tr20_10 : (ro Tryd.f20 10).toList.mapM (trO Tryd.prog 78 (ro Tryd.f20 10)) = some a20_10 := by kernel_rfl
def a20_11 : List AO := [⟨(some 41), none, .idx 3 (.t 37) (.t 39)⟩,
  ⟨(some 42), none, .load (some 3) (.t 41)⟩,
  ⟨(some 14), none, .alloc 63 [(.str []), (.str []), (.int .i64 0)]⟩,
  ⟨none, none, .store 3 (.t 14) (.t 42)⟩]
theorem tr20_11 : (ro Tryd.f20 11).toList.mapM (trO Tryd.prog 78 (ro Tryd.f20 11)) = some a20_11 := by kernel_rfl
def a20_12 : List AO := [⟨(some 43), none, .load (some 3) (.t 14)⟩,
  ⟨(some 44), none, .call 30 [(.t 43)]⟩]
theorem tr20_12 : (ro Tryd.f20 12).toList.mapM (trO Tryd.prog 78 (ro Tryd.f20 12)) = some a20_12 := by kernel_rfl
def a20_13 : List AO := [⟨(some 45), none, .mv (.t 11)⟩,
  ⟨(some 46), none, .fld 0 (.t 14)⟩,
  ⟨(some 47), none, .load none (.t 46)⟩,
  ⟨(some 48), none, .fld 1 (.t 14)⟩,
  ⟨(some 49), none, .load none (.t 48)⟩,
  ⟨(some 50), none, .fld 2 (.t 14)⟩,
  ⟨(some 51), none, .load none (.t 50)⟩,
  ⟨(some 52), none, .callv (.t 45) [(.t 47), (.t 49), (.t 51)]⟩,
  ⟨(some 15), none, .mv (.t 52)⟩]
theorem tr20_13 : (ro Tryd.f20 13).toList.mapM (trO Tryd.prog 78 (ro Tryd.f20 13)) = some a20_13 := by kernel_rfl
def a20_14 : List AO := [⟨(some 53), none, .mv (.t 11)⟩,
  ⟨(some 54), none, .fld 1 (.t 14)⟩,
  ⟨(some 55), none, .load none (.t 54)⟩,
  ⟨(some 56), none, .fld 0 (.t 14)⟩,
  ⟨(some 57), none, .load none (.t 56)⟩,
  ⟨(some 58), none, .fld 2 (.t 14)⟩,
  ⟨(some 59), none, .load none (.t 58)⟩,
  ⟨(some 60), none, .callv (.t 53) [(.t 55), (.t 57), (.t 59)]⟩,
  ⟨(some 16), none, .mv (.t 60)⟩]
theorem tr20_14 : (ro Tryd.f20 14).toList.mapM (trO Tryd.prog 78 (ro Tryd.f20 14)) = some a20_14 := by kernel_rfl
def a20_15 : List AO := [⟨(some 61), none, .mv (.t 12)⟩,
  ⟨(some 62), none, .mv (.t 61)⟩,
  ⟨(some 63), some (62, false), .mv (.t 15)⟩,
  ⟨(some 64), none, .pick (.t 62) (.v (.bool true)) (.t 63)⟩,
  ⟨(some 65), none, .mv (.t 64)⟩,
  ⟨(some 66), some (65, false), .mv (.t 16)⟩,
  ⟨(some 67), none, .pick (.t 65) (.v (.bool true)) (.t 66)⟩,
  ⟨(some 12), none, .mv (.t 67)⟩]
theorem tr20_15 : (ro Tryd.f20 15).toList.mapM (trO Tryd.prog 78 (ro Tryd.f20 15)) = some a20_15 := by kernel_rfl
def a20_16 : List AO := [⟨(some 68), none, .bin .add (.t 39) (.v (.int .i64 1))⟩,
  ⟨(some 39), none, .mv (.t 68)⟩]
theorem tr20_16 : (ro Tryd.f20 16).toList.mapM (trO Tryd.prog 78 (ro Tryd.f20 16)) = some a20_16 := by kernel_rfl
def a20_17 : List AO := [⟨(some 70), none, .load none (.t 10)⟩,
  ⟨(some 71), none, .mv (.t 9)⟩,
  ⟨(some 72), none, .look 0 true (.int .i64 0) (.t 70) (.t 71)⟩,
  ⟨(some 69), none, .mv (.t 72)⟩,
  ⟨(some 73), none, .ext 0 (.t 69)⟩,
  ⟨(some 74), none, .ext 1 (.t 69)⟩,
  ⟨(some 17), none, .mv (.t 73)⟩,
  ⟨(some 18), none, .mv (.t 74)⟩]
theorem tr20_17 : (ro Tryd.f20 17).toList.mapM (trO Tryd.prog 78 (ro Tryd.f20 17)) = some a20_17 := by kernel_rfl
def a20_18 : List AO := [⟨(some 75), none, .mv (.t 18)⟩,
  ⟨(some 76), none, .un .not (.t 75)⟩]
theorem tr20_18 : (ro Tryd.f20 18).toList.mapM (trO Tryd.prog 78 (ro Tryd.f20 18)) = some a20_18 := by kernel_rfl
def a20_19 : List AO := [⟨(some 6), none, .mv (.v (.int .i64 0))⟩,
  ⟨(some 7), none, .mv (.v (.int .i64 7))⟩]
theorem tr20_19 : (ro Tryd.f20 19).toList.mapM (trO Tryd.prog 78 (ro Tryd.f20 19)) = some a20_19 := by kernel_rfl
def a20_20 : List AO := [⟨(some 77), none, .mv (.t 17)⟩,
  ⟨(some 6), none, .mv (.t 77)⟩,
  ⟨(some 7), none, .mv (.v (.int .i64 0))⟩]
theorem tr20_20 : (ro Tryd.f20 20).toList.mapM (trO Tryd.prog 78 (ro Tryd.f20 20)) = some a20_20 := by kernel_rfl
/-- airline/airlineref06.Miles -/
noncomputable def c21 : Code := .seq (.region 0 (ro Tryd.f21 0) false) (.seq (.region 1 (ro Tryd.f21 1) true) (.seq (.seq (.region 2 (ro Tryd.f21 2) false) (.cond (.tmp 29) (.seq (.region 3 (ro Tryd.f21 3) false) (.ret)) (.skip))) (.seq (.region 4 (ro Tryd.f21 4) false) (.seq (.region 5 (ro Tryd.f21 5) false) (.seq (.block 0 (.loop (.seq (.seq (.region 6 (ro Tryd.f21 6) false) (.cond (.tmp 33) (.skip) (.exit 0))) (.block 1 (.seq (.region 7 (ro Tryd.f21 7) false) (.seq (.region 8 (ro Tryd.f21 8) false) (.block 2 (.loop (.seq (.seq (.region 9 (ro Tryd.f21 9) false) (.cond (.tmp 38) (.skip) (.exit 2))) (.seq (.block 3 (.seq (.region 11 (ro Tryd.f21 11) false) (.seq (.seq (.region 12 (ro Tryd.f21 12) false) (.cond (.tmp 48) (.exit 3) (.skip))) (.seq (.region 13 (ro Tryd.f21 13) true) (.seq (.region 14 (ro Tryd.f21 14) false) (.seq (.seq (.region 15 (ro Tryd.f21 15) false) (.cond (.tmp 58) (.seq (.region 16 (ro Tryd.f21 16) false) (.region 17 (ro Tryd.f21 17) false)) (.skip))) (.seq (.region 18 (ro Tryd.f21 18) false) (.cond (.tmp 75) (.seq (.region 19 (ro Tryd.f21 19) false) (.region 20 (ro Tryd.f21 20) false)) (.skip))))))))) (.region 10 (ro Tryd.f21 10) false))))))))))) (.seq (.region 21 (ro Tryd.f21 21) false) (.seq (.seq (.region 22 (ro Tryd.f21 22) false) (.cond (.tmp 95) (.seq (.region 23 (ro Tryd.f21 23) false) (.ret)) (.skip))) (.seq (.region 24 (ro Tryd.f21 24) false) (.ret)))))))))
theorem body21 : Tryd.f21.body = some c21 := by kernel_rfl
theorem res21 : Tryd.f21.results.toList.mapM (trR Tryd.prog) = some [.t 6, .t 7] := by kernel_rfl
theorem nt21 : Tryd.f21.ntmps = 97 := by kernel_rfl
theorem nm21 : (Tryd.f21.name == "runtime.NumGoroutine") = false := by kernel_rfl
def a21_0 : List AO := [⟨(some 3), none, .box 25 (.t 0)⟩,
  ⟨(some 6), none, .mv (.v (.int .i64 0))⟩,
  ⟨(some 7), none, .mv (.v (.int .i64 0))⟩]
theorem tr21_0 : (ro Tryd.f21 0).toList.mapM (trO Tryd.prog 97 (ro Tryd.f21 0)) = some a21_0 := by kernel_rfl
def a21_1 : List AO := [⟨(some 18), none, .load (some 2) (.t 3)⟩,
  ⟨(some 19), none, .mv (.t 1)⟩,
  ⟨(some 20), none, .call 17 [(.t 18), (.t 19)]⟩,
  ⟨(some 21), none, .load (some 2) (.t 3)⟩,
  ⟨(some 22), none, .mv (.t 2)⟩,
  ⟨(some 23), none, .call 17 [(.t 21), (.t 22)]⟩,
  ⟨(some 8), none, .mv (.t 20)⟩,
  ⟨(some 9), none, .mv (.t 23)⟩]
theorem tr21_1 : (ro Tryd.f21 1).toList.mapM (trO Tryd.prog 97 (ro Tryd.f21 1)) = some a21_1 := by kernel_rfl
def d21_1 : List (List Nat) := [[], [], [0, 1], [], [], [0, 1, 2, 3, 4], [0, 1, 2, 3, 4, 5], [0, 1, 2, 3, 4, 5, 6]]
theorem ok21_1 : okReg (ro Tryd.f21 1) a21_1 d21_1 = true := by kernel_rfl
def a21_2 : List AO := [⟨(some 24), none, .mv (.t 8)⟩,
  ⟨(some 25), none, .bin .eql (.t 24) (.v (.str []))⟩,
  ⟨(some 26), none, .mv (.t 25)⟩,
  ⟨(some 27), some (26, false), .mv (.t 9)⟩,
  ⟨(some 28), some (26, false), .bin .eql (.t 27) (.v (.str []))⟩,
  ⟨(some 29), none, .pick (.t 26) (.v (.bool true)) (.t 28)⟩]
theorem tr21_2 : (ro Tryd.f21 2).toList.mapM (trO Tryd.prog 97 (ro Tryd.f21 2)) = some a21_2 := by kernel_rfl
def a21_3 : List AO := [⟨(some 6), none, .mv (.v (.int .i64 0))⟩,
  ⟨(some 7), none, .mv (.v (.int .i64 14))⟩]
theorem tr21_3 : (ro Tryd.f21 3).toList.mapM (trO Tryd.prog 97 (ro Tryd.f21 3)) = some a21_3 := by kernel_rfl
def a21_4 : List AO := [⟨(some 30), none, .mv (.t 8)⟩,
  ⟨(some 31), none, .build [(.str []), (.int .i64 0)] [(0, 1, (.t 30)), (1, 1, (.v (.int .i64 0)))]⟩,
  ⟨(some 32), none, .slc 74 2 false [(.t 31)]⟩,
  ⟨(some 10), none, .mv (.t 32)⟩]
theorem tr21_4 : (ro Tryd.f21 4).toList.mapM (trO Tryd.prog 97 (ro Tryd.f21 4)) = some a21_4 := by kernel_rfl
def a21_5 : List AO := [⟨(some 11), none, .mv (.v (.bool true))⟩]
theorem tr21_5 : (ro Tryd.f21 5).toList.mapM (trO Tryd.prog 97 (ro Tryd.f21 5)) = some a21_5 := by kernel_rfl
def a21_6 : List AO := [⟨(some 33), none, .mv (.t 11)⟩]
theorem tr21_6 : (ro Tryd.f21 6).toList.mapM (trO Tryd.prog 97 (ro Tryd.f21 6)) = some a21_6 := by kernel_rfl
def a21_7 : List AO := [⟨(some 11), none, .mv (.v (.bool false))⟩]
theorem tr21_7 : (ro Tryd.f21 7).toList.mapM (trO Tryd.prog 97 (ro Tryd.f21 7)) = some a21_7 := by kernel_rfl
def a21_8 : List AO := [⟨(some 12), none, .mv (.v (.int .i64 0))⟩]
theorem tr21_8 : (ro Tryd.f21 8).toList.mapM (trO Tryd.prog 97 (ro Tryd.f21 8)) = some a21_8 := by kernel_rfl
def a21_9 : List AO := [⟨(some 34), none, .mv (.t 12)⟩,
  ⟨(some 35), none, .fld 1 (.t 3)⟩,
  ⟨(some 36), none, .load none (.t 35)⟩,
  ⟨(some 37), none, .len (.t 36)⟩,
  ⟨(some 38), none, .bin .lss (.t 34) (.t 37)⟩]
theorem tr21_9 : (ro Tryd.f21 9).toList.mapM (trO Tryd.prog 97 (ro Tryd.f21 9)) = some a21_9 := by kernel_rfl
def a21_11 : List AO := [⟨(some 41), none, .fld 1 (.t 3)⟩,
  ⟨(some 42), none, .load none (.t 41)⟩,
  ⟨(some 43), none, .mv (.t 12)⟩,
  ⟨(some 44), none, .idx 3 (.t 42) (.t 43)⟩,
  ⟨(some 45), none, .load (some 3) (.t 44)⟩,
  ⟨(some 13), none, .alloc 63 [(.str []), (.str []), (.int .i64 0)]⟩,
  ⟨none, none, .store 3 (.t 13) (.t 45)⟩]
theorem tr21_11 : (ro Tryd.f21 11).toList.mapM (trO Tryd.prog 97 (ro Tryd.f21 11)) = some a21_11 := by kernel_rfl
def a21_12 : List AO := [⟨(some 46), none, .load (some 3) (.t 13)⟩,
  ⟨(some 47), none, .call 37 [(.t 46)]⟩,
  ⟨(some 48), none, .un .not (.t 47)⟩]
theorem tr21_12 : (ro Tryd.f21 12).toList.mapM (trO Tryd.prog 97 (ro Tryd.f21 12)) = some a21_12 := by kernel_rfl
def a21_13 : List AO := [⟨(some 49), none, .mv (.t 10)⟩,
  ⟨(some 50), none, .fld 0 (.t 13)⟩,
  ⟨(some 51), none, .load none (.t 50)⟩,
  ⟨(some 52), none, .call 38 [(.t 49), (.t 51)]⟩,
  ⟨(some 53), none, .mv (.t 10)⟩,
  ⟨(some 54), none, .fld 1 (.t 13)⟩,
  ⟨(some 55), none, .load none (.t 54)⟩,
  ⟨(some 56), none, .call 38 [(.t 53), (.t 55)]⟩,
  ⟨(some 14), none, .mv (.t 52)⟩,
  ⟨(some 15), none, .mv (.t 56)⟩]
theorem tr21_13 : (ro Tryd.f21 13).toList.mapM (trO Tryd.prog 97 (ro Tryd.f21 13)) = some a21_13 := by kernel_rfl
def d21_13 : List (List Nat) := [[], [], [1], [0, 1, 2], [], [], [5], [0, 1, 2, 3, 4, 5, 6], [0, 1, 2, 3, 4, 5, 6, 7], [0, 1, 2, 3, 4, 5, 6, 7, 8]]
theorem ok21_13 : okReg (ro Tryd.f21 13) a21_13 d21_13 = true := by kernel_rfl
def a21_14 : List AO := [⟨(some 16), none, .mv (.v (.bool false))⟩]
theorem tr21_14 : (ro Tryd.f21 14).toList.mapM (trO Tryd.prog 97 (ro Tryd.f21 14)) = some a21_14 := by kernel_rfl
def a21_15 : List AO := [⟨(some 57), none, .mv (.t 14)⟩,
  ⟨(some 58), none, .bin .geq (.t 57) (.v (.int .i64 0))⟩]
theorem tr21_15 : (ro Tryd.f21 15).toList.mapM (trO Tryd.prog 97 (ro Tryd.f21 15)) = some a21_15 := by kernel_rfl
def a21_16 : List AO := [⟨(some 60), none, .mv (.t 10)⟩,
  ⟨(some 61), none, .fld 1 (.t 13)⟩,
  ⟨(some 62), none, .load none (.t 61)⟩,
  ⟨(some 63), none, .mv (.t 14)⟩,
  ⟨(some 64), none, .fld 2 (.t 13)⟩,
  ⟨(some 65), none, .load none (.t 64)⟩,
  ⟨(some 66), none, .bin .add (.t 63) (.t 65)⟩,
  ⟨(some 67), none, .call 39 [(.t 60), (.t 62), (.t 66)]⟩,
  ⟨(some 59), none, .mv (.t 67)⟩,
  ⟨(some 68), none, .ext 0 (.t 59)⟩,
  ⟨(some 69), none, .ext 1 (.t 59)⟩,
  ⟨(some 10), none, .mv (.t 68)⟩,
  ⟨(some 16), none, .mv (.t 69)⟩]
theorem tr21_16 : (ro Tryd.f21 16).toList.mapM (trO Tryd.prog 97 (ro Tryd.f21 16)) = some a21_16 := by kernel_rfl
def a21_17 : List AO := [⟨(some 70), none, .mv (.t 11)⟩,
  ⟨(some 71), none, .mv (.t 70)⟩,
  ⟨(some 72), some (71, false), .mv (.t 16)⟩,
  ⟨(some 73), none, .pick (.t 71) (.v (.bool true)) (.t 72)⟩,
  ⟨(some 11), none, .mv (.t 73)⟩]
theorem tr21_17 : (ro Tryd.f21 17).toList.mapM (trO Tryd.prog 97 (ro Tryd.f21 17)) = some a21_17 := by kernel_rfl
def a21_18 : List AO := [⟨(some 74), none, .mv (.t 15)⟩,
  ⟨(some 75), none, .bin .geq (.t 74) (.v (.int .i64 0))⟩]
theorem tr21_18 : (ro Tryd.f21 18).toList.mapM (trO Tryd.prog 97 (ro Tryd.f21 18)) = some a21_18 := by kernel_rfl
def a21_19 : List AO := [⟨(some 77), none, .mv (.t 10)⟩,
  ⟨(some 78), none, .fld 0 (.t 13)⟩,
  ⟨(some 79), none, .load none (.t 78)⟩,
  ⟨(some 80), none, .mv (.t 15)⟩,
  ⟨(some 81), none, .fld 2 (.t 13)⟩,
  ⟨(some 82), none, .load none (.t 81)⟩,
  ⟨(some 83), none, .bin .add (.t 80) (.t 82)⟩,
  ⟨(some 84), none, .call 39 [(.t 77), (.t 79), (.t 83)]⟩,
  ⟨(some 76), none, .mv (.t 84)⟩,
  ⟨(some 85), none, .ext 0 (.t 76)⟩,
  ⟨(some 86), none, .ext 1 (.t 76)⟩,
  ⟨(some 10), none, .mv (.t 85)⟩,
  ⟨(some 16), none, .mv (.t 86)⟩]
theorem tr21_19 : (ro Tryd.f21 19).toList.mapM (trO Tryd.prog 97 (ro Tryd.f21 19)) = some a21_19 := by kernel_rfl
def a21_20 : List AO := [⟨(some 87), none, .mv (.t 11)⟩,
  ⟨(some 88), none, .mv (.t 87)⟩,
  ⟨(some 89), some (88, false), .mv (.t 16)⟩,
  ⟨(some 90), none, .pick (.t 88) (.v (.bool true)) (.t 89)⟩,
  ⟨(some 11), none, .mv (.t 90)⟩]
theorem tr21_20 : (ro Tryd.f21 20).toList.mapM (trO Tryd.prog 97 (ro Tryd.f21 20)) = some a21_20 := by kernel_rfl
def a21_10 : List AO := [⟨(some 39), none, .mv (.t 12)⟩,
  ⟨(some 40), none, .bin .add (.t 39) (.v (.int .i64 1))⟩,
  ⟨(some 12), none, .mv (.t 40)⟩]
theorem tr21_10 : (ro Tryd.f21 10).toList.mapM (trO Tryd.prog 97 (ro Tryd.f21 10)) = some a21_10 := by kernel_rfl
def a21_21 : List AO := [⟨(some 91), none, .mv (.t 10)⟩,
  ⟨(some 92), none, .mv (.t 9)⟩,
  ⟨(some 93), none, .call 38 [(.t 91), (.t 92)]⟩,
  ⟨(some 17), none, .mv (.t 93)⟩]
theorem tr21_21 : (ro Tryd.f21 21).toList.mapM (trO Tryd.prog 97 (ro Tryd.f21 21)) = some a21_21 := by kernel_rfl
def a21_22 : List AO := [⟨(some 94), none, .mv (.t 17)⟩,
  ⟨(some 95), none, .bin .lss (.t 94) (.v (.int .i64 0))⟩]
theorem tr21_22 : (ro Tryd.f21 22).toList.mapM (trO Tryd.prog 97 (ro Tryd.f21 22)) = some a21_22 := by kernel_rfl
def a21_23 : List AO := [⟨(some 6), none, .mv (.v (.int .i64 0))⟩,
  ⟨(some 7), none, .mv (.v (.int .i64 7))⟩]
theorem tr21_23 : (ro Tryd.f21 23).toList.mapM (trO Tryd.prog 97 (ro Tryd.f21 23)) = some a21_23 := by kernel_rfl
def a21_24 : List AO := [⟨(some 96), none, .mv (.t 17)⟩,
  ⟨(some 6), none, .mv (.t 96)⟩,
  ⟨(some 7), none, .mv (.v (.int .i64 0))⟩]
theorem tr21_24 : (ro Tryd.f21 24).toList.mapM (trO Tryd.prog 97 (ro Tryd.f21 24)) = some a21_24 := by kernel_rfl
/-- airline/places.Way -/
noncomputable def c22 : Code := .seq (.region 0 (ro Tryd.f22 0) false) (.seq (.region 1 (ro Tryd.f22 1) false) (.seq (.seq (.region 2 (ro Tryd.f22 2) false) (.block 0 (.loop (.seq (.seq (.region 3 (ro Tryd.f22 3) false) (.cond (.tmp 13) (.skip) (.exit 0))) (.seq (.block 1 (.seq (.region 5 (ro Tryd.f22 5) true) (.seq (.seq (.region 6 (ro Tryd.f22 6) false) (.cond (.tmp 31) (.seq (.region 7 (ro Tryd.f22 7) false) (.ret)) (.skip))) (.region 8 (ro Tryd.f22 8) false)))) (.region 4 (ro Tryd.f22 4) false)))))) (.seq (.region 9 (ro Tryd.f22 9) false) (.ret))))
theorem body22 : Tryd.f22.body = some c22 := by kernel_rfl
theorem res22 : Tryd.f22.results.toList.mapM (trR Tryd.prog) = some [.t 4, .t 5] := by kernel_rfl
theorem nt22 : Tryd.f22.ntmps = 37 := by kernel_rfl
theorem nm22 : (Tryd.f22.name == "runtime.NumGoroutine") = false := by kernel_rfl
def a22_0 : List AO := [⟨(some 2), none, .box 25 (.t 0)⟩,
  ⟨(some 4), none, .mv (.v (.int .i64 0))⟩,
  ⟨(some 5), none, .mv (.v (.int .i64 0))⟩]
theorem tr22_0 : (ro Tryd.f22 0).toList.mapM (trO Tryd.prog 37 (ro Tryd.f22 0)) = some a22_0 := by kernel_rfl
def a22_1 : List AO := [⟨(some 6), none, .mv (.v (.int .i64 0))⟩]
theorem tr22_1 : (ro Tryd.f22 1).toList.mapM (trO Tryd.prog 37 (ro Tryd.f22 1)) = some a22_1 := by kernel_rfl
def a22_2 : List AO := [⟨(some 7), none, .mv (.v (.int .i64 1))⟩]
theorem tr22_2 : (ro Tryd.f22 2).toList.mapM (trO Tryd.prog 37 (ro Tryd.f22 2)) = some a22_2 := by kernel_rfl
def a22_3 : List AO := [⟨(some 10), none, .mv (.t 7)⟩,
  ⟨(some 11), none, .mv (.t 1)⟩,
  ⟨(some 12), none, .len (.t 11)⟩,
  ⟨(some 13), none, .bin .lss (.t 10) (.t 12)⟩]
theorem tr22_3 : (ro Tryd.f22 3).toList.mapM (trO Tryd.prog 37 (ro Tryd.f22 3)) = some a22_3 := by kernel_rfl
def a22_5 : List AO := [⟨(some 17), none, .load (some 2) (.t 2)⟩,
  ⟨(some 18), none, .mv (.t 1)⟩,
  ⟨(some 19), none, .mv (.t 7)⟩,
  ⟨(some 20), none, .bin .sub (.t 19) (.v (.int .i64 1))⟩,
  ⟨(some 21), none, .idx 1 (.t 18) (.t 20)⟩,
  ⟨(some 22), none, .load none (.t 21)⟩,
  ⟨(some 23), none, .mv (.t 1)⟩,
  ⟨(some 24), none, .mv (.t 7)⟩,
  ⟨(some 25), none, .idx 1 (.t 23) (.t 24)⟩,
  ⟨(some 26), none, .load none (.t 25)⟩,
  ⟨(some 27), none, .call 20 [(.t 17), (.t 22), (.t 26)]⟩,
  ⟨(some 16), none, .mv (.t 27)⟩,
  ⟨(some 28), none, .ext 0 (.t 16)⟩,
  ⟨(some 29), none, .ext 1 (.t 16)⟩,
  ⟨(some 8), none, .mv (.t 28)⟩,
  ⟨(some 9), none, .mv (.t 29)⟩]
theorem tr22_5 : (ro Tryd.f22 5).toList.mapM (trO Tryd.prog 37 (ro Tryd.f22 5)) = some a22_5 := by kernel_rfl
def d22_5 : List (List Nat) := [[], [], [], [2], [1, 2, 3], [1, 2, 3, 4], [], [], [6, 7], [6, 7, 8], [0, 1, 2, 3, 4, 5, 6, 7, 8, 9], [0, 1, 2, 3, 4, 5, 6, 7, 8, 9, 10], [0, 1, 2, 3, 4, 5, 6, 7, 8, 9, 10, 11], [0, 1, 2, 3, 4, 5, 6, 7, 8, 9, 10, 11], [0, 1, 2, 3, 4, 5, 6, 7, 8, 9, 10, 11, 12], [0, 1, 2, 3, 4, 5, 6, 7, 8, 9, 10, 11, 12, 13, 14]]
theorem ok22_5 : okReg (ro Tryd.f22 5) a22_5 d22_5 = true := by kernel_rfl
def a22_6 : List AO := [⟨(some 30), none, .mv (.t 9)⟩,
  ⟨(some 31), none, .bin .neq (.t 30) (.v (.int .i64 0))⟩]
theorem tr22_6 : (ro Tryd.f22 6).toList.mapM (trO Tryd.prog 37 (ro Tryd.f22 6)) = some a22_6 := by kernel_rfl
def a22_7 : List AO := [⟨(some 32), none, .mv (.t 9)⟩,
  ⟨(some 4), none, .mv (.v (.int .i64 0))⟩,
  ⟨(some 5), none, .mv (.t 32)⟩]
theorem tr22_7 : (ro Tryd.f22 7).toList.mapM (trO Tryd.prog 37 (ro Tryd.f22 7)) = some a22_7 := by kernel_rfl
def a22_8 : List AO := [⟨(some 33), none, .mv (.t 6)⟩,
  ⟨(some 34), none, .mv (.t 8)⟩,
  ⟨(some 35), none, .bin .add (.t 33) (.t 34)⟩,
  ⟨(some 6), none, .mv (.t 35)⟩]
theorem tr22_8 : (ro Tryd.f22 8).toList.mapM (trO Tryd.prog 37 (ro Tryd.f22 8)) = some a22_8 := by kernel_rfl
def a22_4 : List AO := [⟨(some 14), none, .mv (.t 7)⟩,
  ⟨(some 15), none, .bin .add (.t 14) (.v (.int .i64 1))⟩,
  ⟨(some 7), none, .mv (.t 15)⟩]
theorem tr22_4 : (ro Tryd.f22 4).toList.mapM (trO Tryd.prog 37 (ro Tryd.f22 4)) = some a22_4 := by kernel_rfl
def a22_9 : List AO := [⟨(some 36), none, .mv (.t 6)⟩,
  ⟨(some 4), none, .mv (.t 36)⟩,
  ⟨(some 5), none, .mv (.v (.int .i64 0))⟩]
theorem tr22_9 : (ro Tryd.f22 9).toList.mapM (trO Tryd.prog 37 (ro Tryd.f22 9)) = some a22_9 := by kernel_rfl
/-- airline/airlineref06.Way -/
noncomputable def c23 : Code := .seq (.region 0 (ro Tryd.f23 0) false) (.seq (.region 1 (ro Tryd.f23 1) false) (.seq (.seq (.region 2 (ro Tryd.f23 2) false) (.block 0 (.loop (.seq (.seq (.region 3 (ro Tryd.f23 3) false) (.cond (.tmp 14) (.skip) (.exit 0))) (.seq (.block 1 (.seq (.region 5 (ro Tryd.f23 5) true) (.seq (.seq (.region 6 (ro Tryd.f23 6) false) (.cond (.tmp 32) (.seq (.region 7 (ro Tryd.f23 7) false) (.ret)) (.skip))) (.region 8 (ro Tryd.f23 8) false)))) (.region 4 (ro Tryd.f23 4) false)))))) (.seq (.region 9 (ro Tryd.f23 9) false) (.ret))))
theorem body23 : Tryd.f23.body = some c23 := by kernel_rfl
theorem res23 : Tryd.f23.results.toList.mapM (trR Tryd.prog) = some [.t 4, .t 5] := by kernel_rfl
theorem nt23 : Tryd.f23.ntmps = 38 := by kernel_rfl
theorem nm23 : (Tryd.f23.name == "runtime.NumGoroutine") = false := by kernel_rfl
def a23_0 : List AO := [⟨(some 2), none, .box 25 (.t 0)⟩,
  ⟨(some 4), none, .mv (.v (.int .i64 0))⟩,
  ⟨(some 5), none, .mv (.v (.int .i64 0))⟩]
theorem tr23_0 : (ro Tryd.f23 0).toList.mapM (trO Tryd.prog 38 (ro Tryd.f23 0)) = some a23_0 := by kernel_rfl
def a23_1 : List AO := [⟨(some 6), none, .mv (.v (.int .i64 0))⟩]
theorem tr23_1 : (ro Tryd.f23 1).toList.mapM (trO Tryd.prog 38 (ro Tryd.f23 1)) = some a23_1 := by kernel_rfl
def a23_2 : List AO := [⟨(some 7), none, .mv (.v (.int .i64 0))⟩]
theorem tr23_2 : (ro Tryd.f23 2).toList.mapM (trO Tryd.prog 38 (ro Tryd.f23 2)) = some a23_2 := by kernel_rfl
def a23_3 : List AO := [⟨(some 10), none, .mv (.t 7)⟩,
  ⟨(some 11), none, .bin .add (.t 10) (.v (.int .i64 1))⟩,
  ⟨(some 12), none, .mv (.t 1)⟩,
  ⟨(some 13), none, .len (.t 12)⟩,
  ⟨(some 14), none, .bin .lss (.t 11) (.t 13)⟩]
theorem tr23_3 : (ro Tryd.f23 3).toList.mapM (trO Tryd.prog 38 (ro Tryd.f23 3)) = some a23_3 := by kernel_rfl
def a23_5 : List AO := [⟨(some 18), none, .load (some 2) (.t 2)⟩,
  ⟨(some 19), none, .mv (.t 1)⟩,
  ⟨(some 20), none, .mv (.t 7)⟩,
  ⟨(some 21), none, .idx 1 (.t 19) (.t 20)⟩,
  ⟨(some 22), none, .load none (.t 21)⟩,
  ⟨(some 23), none, .mv (.t 1)⟩,
  ⟨(some 24), none, .mv (.t 7)⟩,
  ⟨(some 25), none, .bin .add (.t 24) (.v (.int .i64 1))⟩,
  ⟨(some 26), none, .idx 1 (.t 23) (.t 25)⟩,
  ⟨(some 27), none, .load none (.t 26)⟩,
  ⟨(some 28), none, .call 21 [(.t 18), (.t 22), (.t 27)]⟩,
  ⟨(some 17), none, .mv (.t 28)⟩,
  ⟨(some 29), none, .ext 0 (.t 17)⟩,
  ⟨(some 30), none, .ext 1 (.t 17)⟩,
  ⟨(some 8), none, .mv (.t 29)⟩,
  ⟨(some 9), none, .mv (.t 30)⟩]
theorem tr23_5 : (ro Tryd.f23 5).toList.mapM (trO Tryd.prog 38 (ro Tryd.f23 5)) = some a23_5 := by kernel_rfl
def d23_5 : List (List Nat) := [[], [], [], [1, 2], [1, 2, 3], [], [], [6], [5, 6, 7], [5, 6, 7, 8], [0, 1, 2, 3, 4, 5, 6, 7, 8, 9], [0, 1, 2, 3, 4, 5, 6, 7, 8, 9, 10], [0, 1, 2, 3, 4, 5, 6, 7, 8, 9, 10, 11], [0, 1, 2, 3, 4, 5, 6, 7, 8, 9, 10, 11], [0, 1, 2, 3, 4, 5, 6, 7, 8, 9, 10, 11, 12], [0, 1, 2, 3, 4, 5, 6, 7, 8, 9, 10, 11, 12, 13, 14]]
theorem ok23_5 : okReg (ro Tryd.f23 5) a23_5 d23_5 = true := by kernel_rfl
def a23_6 : List AO := [⟨(some 31), none, .mv (.t 9)⟩,
  ⟨(some 32), none, .bin .neq (.t 31) (.v (.int .i64 0))⟩]
theorem tr23_6 : (ro Tryd.f23 6).toList.mapM (trO Tryd.prog 38 (ro Tryd.f23 6)) = some a23_6 := by kernel_rfl
def a23_7 : List AO := [⟨(some 33), none, .mv (.t 9)⟩,
  ⟨(some 4), none, .mv (.v (.int .i64 0))⟩,
  ⟨(some 5), none, .mv (.t 33)⟩]
theorem tr23_7 : (ro Tryd.f23 7).toList.mapM (trO Tryd.prog 38 (ro Tryd.f23 7)) = some a23_7 := by kernel_rfl
def a23_8 : List AO := [⟨(some 34), none, .mv (.t 6)⟩,
  ⟨(some 35), none, .mv (.t 8)⟩,
  ⟨(some 36), none, .bin .add (.t 34) (.t 35)⟩,
  ⟨(some 6), none, .mv (.t 36)⟩]
theorem tr23_8 : (ro Tryd.f23 8).toList.mapM (trO Tryd.prog 38 (ro Tryd.f23 8)) = some a23_8 := by kernel_rfl
def a23_4 : List AO := [⟨(some 15), none, .mv (.t 7)⟩,
  ⟨(some 16), none, .bin .add (.t 15) (.v (.int .i64 1))⟩,
  ⟨(some 7), none, .mv (.t 16)⟩]
theorem tr23_4 : (ro Tryd.f23 4).toList.mapM (trO Tryd.prog 38 (ro Tryd.f23 4)) = some a23_4 := by kernel_rfl
def a23_9 : List AO := [⟨(some 37), none, .mv (.t 6)⟩,
  ⟨(some 4), none, .mv (.t 37)⟩,
  ⟨(some 5), none, .mv (.v (.int .i64 0))⟩]
theorem tr23_9 : (ro Tryd.f23 9).toList.mapM (trO Tryd.prog 38 (ro Tryd.f23 9)) = some a23_9 := by kernel_rfl
/-- airline/airlinelaw06.sample -/
noncomputable def c24 : Code := .seq (.region 0 (ro Tryd.f24 0) false) (.seq (.region 1 (ro Tryd.f24 1) false) (.ret))
theorem body24 : Tryd.f24.body = some c24 := by kernel_rfl
theorem res24 : Tryd.f24.results.toList.mapM (trR Tryd.prog) = some [.c (some 2) 0] := by kernel_rfl
theorem nt24 : Tryd.f24.ntmps = 10 := by kernel_rfl
theorem nm24 : (Tryd.f24.name == "runtime.NumGoroutine") = false := by kernel_rfl
def a24_0 : List AO := [⟨(some 0), none, .alloc 25 [.nils, .nils]⟩]
theorem tr24_0 : (ro Tryd.f24 0).toList.mapM (trO Tryd.prog 10 (ro Tryd.f24 0)) = some a24_0 := by kernel_rfl
def a24_1 : List AO := [⟨(some 1), none, .build [(.str []), (.str []), (.str []), (.int .i64 0), .nils] [(0, 1, (.v (.str [76, 72, 82]))), (1, 1, (.v (.str [76, 79, 78]))), (2, 1, (.v (.str [71, 66])))]⟩,
  ⟨(some 2), none, .build [(.str []), (.str []), (.str []), (.int .i64 0), .nils] [(0, 1, (.v (.str [76, 71, 87]))), (1, 1, (.v (.str [76, 79, 78]))), (2, 1, (.v (.str [71, 66])))]⟩,
  ⟨(some 3), none, .build [(.str []), (.str []), (.str []), (.int .i64 0), .nils] [(0, 1, (.v (.str [67, 68, 71]))), (1, 1, (.v (.str [80, 65, 82]))), (2, 1, (.v (.str [70, 82])))]⟩,
  ⟨(some 4), none, .build [(.str []), (.str []), (.str []), (.int .i64 0), .nils] [(0, 1, (.v (.str [70, 67, 79]))), (1, 1, (.v (.str [82, 79, 77]))), (2, 1, (.v (.str [73, 84])))]⟩,
  ⟨(some 5), none, .slc 35 5 false [(.t 1), (.t 2), (.t 3), (.t 4)]⟩,
  ⟨(some 6), none, .build [(.str []), (.str []), (.int .i64 0)] [(0, 1, (.v (.str [76, 79, 78]))), (1, 1, (.v (.str [80, 65, 82]))), (2, 1, (.v (.int .i64 214)))]⟩,
  ⟨(some 7), none, .build [(.str []), (.str []), (.int .i64 0)] [(0, 1, (.v (.str [80, 65, 82]))), (1, 1, (.v (.str [82, 79, 77]))), (2, 1, (.v (.int .i64 688)))]⟩,
  ⟨(some 8), none, .slc 63 3 false [(.t 6), (.t 7)]⟩,
  ⟨(some 9), none, .build [.nils, .nils] [(0, 1, (.t 5)), (1, 1, (.t 8))]⟩,
  ⟨none, none, .store 2 (.t 0) (.t 9)⟩]
theorem tr24_1 : (ro Tryd.f24 1).toList.mapM (trO Tryd.prog 10 (ro Tryd.f24 1)) = some a24_1 := by kernel_rfl
/-- airline/places.Check 1 -/
noncomputable def c25 : Code := .region 0 (ro Tryd.f25 0) true
theorem body25 : Tryd.f25.body = some c25 := by kernel_rfl
theorem res25 : Tryd.f25.results.toList.mapM (trR Tryd.prog) = some [] := by kernel_rfl
theorem nt25 : Tryd.f25.ntmps = 17 := by kernel_rfl
theorem nm25 : (Tryd.f25.name == "runtime.NumGoroutine") = false := by kernel_rfl
def a25_0 : List AO := [⟨(some 7), none, .load none (.t 3)⟩,
  ⟨(some 8), none, .mv (.t 0)⟩,
  ⟨(some 9), none, .mv (.t 1)⟩,
  ⟨(some 10), none, .bin .add (.t 9) (.v (.str [32]))⟩,
  ⟨(some 11), none, .mv (.t 2)⟩,
  ⟨(some 12), none, .call 26 [(.t 11)]⟩,
  ⟨(some 13), none, .bin .add (.t 10) (.t 12)⟩,
  ⟨(some 14), none, .build [(.int .i64 0), (.str [])] [(0, 1, (.t 8)), (1, 1, (.t 13))]⟩,
  ⟨(some 15), none, .slc 53 2 false [(.t 14)]⟩,
  ⟨(some 16), none, .app 53 2 24 (.t 7) (.t 15)⟩,
  ⟨none, none, .store 1 (.t 3) (.t 16)⟩]
theorem tr25_0 : (ro Tryd.f25 0).toList.mapM (trO Tryd.prog 17 (ro Tryd.f25 0)) = some a25_0 := by kernel_rfl
def d25_0 : List (List Nat) := [[], [], [], [2], [], [4], [2, 3, 4, 5], [1, 2, 3, 4, 5, 6], [1, 2, 3, 4, 5, 6, 7], [0, 1, 2, 3, 4, 5, 6, 7, 8], [0, 1, 2, 3, 4, 5, 6, 7, 8, 9]]
theorem ok25_0 : okReg (ro Tryd.f25 0) a25_0 d25_0 = true := by kernel_rfl
/-- airline/text.Decimal -/
noncomputable def c26 : Code := .seq (.region 0 (ro Tryd.f26 0) false) (.seq (.region 1 (ro Tryd.f26 1) false) (.ret))
theorem body26 : Tryd.f26.body = some c26 := by kernel_rfl
theorem res26 : Tryd.f26.results.toList.mapM (trR Tryd.prog) = some [.t 2] := by kernel_rfl
theorem nt26 : Tryd.f26.ntmps = 5 := by kernel_rfl
theorem nm26 : (Tryd.f26.name == "runtime.NumGoroutine") = false := by kernel_rfl
def a26_0 : List AO := [⟨(some 2), none, .mv (.v (.str []))⟩]
theorem tr26_0 : (ro Tryd.f26 0).toList.mapM (trO Tryd.prog 5 (ro Tryd.f26 0)) = some a26_0 := by kernel_rfl
def a26_1 : List AO := [⟨(some 3), none, .mv (.t 0)⟩,
  ⟨(some 4), none, .call 40 [(.t 3)]⟩,
  ⟨(some 2), none, .mv (.t 4)⟩]
theorem tr26_1 : (ro Tryd.f26 1).toList.mapM (trO Tryd.prog 5 (ro Tryd.f26 1)) = some a26_1 := by kernel_rfl
/-- airline/text.Airport -/
noncomputable def c27 : Code := .seq (.region 0 (ro Tryd.f27 0) false) (.seq (.region 1 (ro Tryd.f27 1) false) (.ret))
theorem body27 : Tryd.f27.body = some c27 := by kernel_rfl
theorem res27 : Tryd.f27.results.toList.mapM (trR Tryd.prog) = some [.t 2] := by kernel_rfl
theorem nt27 : Tryd.f27.ntmps = 10 := by kernel_rfl
theorem nm27 : (Tryd.f27.name == "runtime.NumGoroutine") = false := by kernel_rfl
def a27_0 : List AO := [⟨(some 2), none, .mv (.v (.bool false))⟩]
theorem tr27_0 : (ro Tryd.f27 0).toList.mapM (trO Tryd.prog 10 (ro Tryd.f27 0)) = some a27_0 := by kernel_rfl
def a27_1 : List AO := [⟨(some 3), none, .mv (.t 0)⟩,
  ⟨(some 4), none, .slen (.t 3)⟩,
  ⟨(some 5), none, .bin .eql (.t 4) (.v (.int .i64 3))⟩,
  ⟨(some 6), none, .mv (.t 5)⟩,
  ⟨(some 7), some (6, true), .mv (.t 0)⟩,
  ⟨(some 8), some (6, true), .call 41 [(.t 7), (.v (.fn 42 []))]⟩,
  ⟨(some 9), none, .pick (.t 6) (.t 8) (.v (.bool false))⟩,
  ⟨(some 2), none, .mv (.t 9)⟩]
theorem tr27_1 : (ro Tryd.f27 1).toList.mapM (trO Tryd.prog 10 (ro Tryd.f27 1)) = some a27_1 := by kernel_rfl
/-- airline/text.Country -/
noncomputable def c28 : Code := .seq (.region 0 (ro Tryd.f28 0) false) (.seq (.region 1 (ro Tryd.f28 1) false) (.ret))
theorem body28 : Tryd.f28.body = some c28 := by kernel_rfl
theorem res28 : Tryd.f28.results.toList.mapM (trR Tryd.prog) = some [.t 2] := by kernel_rfl
theorem nt28 : Tryd.f28.ntmps = 10 := by kernel_rfl
theorem nm28 : (Tryd.f28.name == "runtime.NumGoroutine") = false := by kernel_rfl
def a28_0 : List AO := [⟨(some 2), none, .mv (.v (.bool false))⟩]
theorem tr28_0 : (ro Tryd.f28 0).toList.mapM (trO Tryd.prog 10 (ro Tryd.f28 0)) = some a28_0 := by kernel_rfl
def a28_1 : List AO := [⟨(some 3), none, .mv (.t 0)⟩,
  ⟨(some 4), none, .slen (.t 3)⟩,
  ⟨(some 5), none, .bin .eql (.t 4) (.v (.int .i64 2))⟩,
  ⟨(some 6), none, .mv (.t 5)⟩,
  ⟨(some 7), some (6, true), .mv (.t 0)⟩,
  ⟨(some 8), some (6, true), .call 41 [(.t 7), (.v (.fn 42 []))]⟩,
  ⟨(some 9), none, .pick (.t 6) (.t 8) (.v (.bool false))⟩,
  ⟨(some 2), none, .mv (.t 9)⟩]
theorem tr28_1 : (ro Tryd.f28 1).toList.mapM (trO Tryd.prog 10 (ro Tryd.f28 1)) = some a28_1 := by kernel_rfl
/-- airline/zone.Check -/
noncomputable def c29 : Code := .seq (.region 0 (ro Tryd.f29 0) false) (.seq (.seq (.region 1 (ro Tryd.f29 1) false) (.cond (.tmp 8) (.seq (.region 2 (ro Tryd.f29 2) false) (.ret)) (.skip))) (.seq (.seq (.region 3 (ro Tryd.f29 3) false) (.cond (.tmp 12) (.seq (.region 4 (ro Tryd.f29 4) false) (.ret)) (.skip))) (.seq (.seq (.region 5 (ro Tryd.f29 5) false) (.block 0 (.loop (.seq (.region 6 (ro Tryd.f29 6) false) (.seq (.cond (.tmp 17) (.skip) (.exit 0)) (.seq (.block 1 (.seq (.region 7 (ro Tryd.f29 7) false) (.seq (.seq (.region 8 (ro Tryd.f29 8) true) (.cond (.tmp 45) (.seq (.region 9 (ro Tryd.f29 9) false) (.ret)) (.skip))) (.seq (.region 10 (ro Tryd.f29 10) false) (.cond (.tmp 49) (.seq (.region 11 (ro Tryd.f29 11) false) (.ret)) (.skip)))))) (.region 12 (ro Tryd.f29 12) false))))))) (.seq (.region 13 (ro Tryd.f29 13) false) (.ret)))))
theorem body29 : Tryd.f29.body = some c29 := by kernel_rfl
theorem res29 : Tryd.f29.results.toList.mapM (trR Tryd.prog) = some [.t 2] := by kernel_rfl
theorem nt29 : Tryd.f29.ntmps = 51 := by kernel_rfl
theorem nm29 : (Tryd.f29.name == "runtime.NumGoroutine") = false := by kernel_rfl
def a29_0 : List AO := [⟨(some 1), none, .box 33 (.t 0)⟩,
  ⟨(some 2), none, .mv (.v (.int .i64 0))⟩]
theorem tr29_0 : (ro Tryd.f29 0).toList.mapM (trO Tryd.prog 51 (ro Tryd.f29 0)) = some a29_0 := by kernel_rfl
def a29_1 : List AO := [⟨(some 5), none, .fld 1 (.t 1)⟩,
  ⟨(some 6), none, .load none (.t 5)⟩,
  ⟨(some 7), none, .len (.t 6)⟩,
  ⟨(some 8), none, .bin .gtr (.t 7) (.v (.int .i64 256))⟩]
theorem tr29_1 : (ro Tryd.f29 1).toList.mapM (trO Tryd.prog 51 (ro Tryd.f29 1)) = some a29_1 := by kernel_rfl
def a29_2 : List AO := [⟨(some 2), none, .mv (.v (.int .i64 4))⟩]
theorem tr29_2 : (ro Tryd.f29 2).toList.mapM (trO Tryd.prog 51 (ro Tryd.f29 2)) = some a29_2 := by kernel_rfl
def a29_3 : List AO := [⟨(some 9), none, .fld 0 (.t 1)⟩,
  ⟨(some 10), none, .load none (.t 9)⟩,
  ⟨(some 11), none, .call 43 [(.t 10)]⟩,
  ⟨(some 12), none, .un .not (.t 11)⟩]
theorem tr29_3 : (ro Tryd.f29 3).toList.mapM (trO Tryd.prog 51 (ro Tryd.f29 3)) = some a29_3 := by kernel_rfl
def a29_4 : List AO := [⟨(some 2), none, .mv (.v (.int .i64 2))⟩]
theorem tr29_4 : (ro Tryd.f29 4).toList.mapM (trO Tryd.prog 51 (ro Tryd.f29 4)) = some a29_4 := by kernel_rfl
def a29_5 : List AO := [⟨(some 13), none, .fld 1 (.t 1)⟩,
  ⟨(some 14), none, .load none (.t 13)⟩,
  ⟨(some 15), none, .len (.t 14)⟩,
  ⟨(some 16), none, .mv (.v (.int .i64 0))⟩]
theorem tr29_5 : (ro Tryd.f29 5).toList.mapM (trO Tryd.prog 51 (ro Tryd.f29 5)) = some a29_5 := by kernel_rfl
def a29_6 : List AO := [⟨(some 17), none, .bin .lss (.t 16) (.t 15)⟩]
theorem tr29_6 : (ro Tryd.f29 6).toList.mapM (trO Tryd.prog 51 (ro Tryd.f29 6)) = some a29_6 := by kernel_rfl
def a29_7 : List AO := [⟨(some 18), none, .mv (.t 16)⟩,
  ⟨(some 19), none, .idx 2 (.t 14) (.t 16)⟩,
  ⟨(some 20), none, .load (some 2) (.t 19)⟩,
  ⟨(some 4), none, .alloc 69 [(.int .i64 0), (.int .i64 0)]⟩,
  ⟨(some 3), none, .mv (.t 18)⟩,
  ⟨none, none, .store 2 (.t 4) (.t 20)⟩]
theorem tr29_7 : (ro Tryd.f29 7).toList.mapM (trO Tryd.prog 51 (ro Tryd.f29 7)) = some a29_7 := by kernel_rfl
def a29_8 : List AO := [⟨(some 21), none, .fld 0 (.t 4)⟩,
  ⟨(some 22), none, .load none (.t 21)⟩,
  ⟨(some 23), none, .bin .lss (.t 22) (.v (.int .i64 0))⟩,
  ⟨(some 24), none, .mv (.t 23)⟩,
  ⟨(some 25), some (24, false), .fld 0 (.t 4)⟩,
  ⟨(some 26), some (24, false), .load none (.t 25)⟩,
  ⟨(some 27), some (24, false), .bin .geq (.t 26) (.v (.int .i64 52596000))⟩,
  ⟨(some 28), none, .pick (.t 24) (.v (.bool true)) (.t 27)⟩,
  ⟨(some 29), none, .mv (.t 28)⟩,
  ⟨(some 30), some (29, false), .mv (.t 3)⟩,
  ⟨(some 31), some (29, false), .bin .gtr (.t 30) (.v (.int .i64 0))⟩,
  ⟨(some 32), some (29, false), .mv (.t 31)⟩,
  ⟨(some 33), some (32, true), .fld 0 (.t 4)⟩,
  ⟨(some 34), some (32, true), .load none (.t 33)⟩,
  ⟨(some 35), some (32, true), .fld 1 (.t 1)⟩,
  ⟨(some 36), some (32, true), .load none (.t 35)⟩,
  ⟨(some 37), some (32, true), .mv (.t 3)⟩,
  ⟨(some 38), some (32, true), .bin .sub (.t 37) (.v (.int .i64 1))⟩,
  ⟨(some 39), some (32, true), .idx 2 (.t 36) (.t 38)⟩,
  ⟨(some 40), some (32, true), .fld 0 (.t 39)⟩,
  ⟨(some 41), some (32, true), .load none (.t 40)⟩,
  ⟨(some 42), some (32, true), .bin .sub (.t 34) (.t 41)⟩,
  ⟨(some 43), some (32, true), .bin .lss (.t 42) (.v (.int .i64 2880))⟩,
  ⟨(some 44), some (29, false), .pick (.t 32) (.t 43) (.v (.bool false))⟩,
  ⟨(some 45), none, .pick (.t 29) (.v (.bool true)) (.t 44)⟩]
theorem tr29_8 : (ro Tryd.f29 8).toList.mapM (trO Tryd.prog 51 (ro Tryd.f29 8)) = some a29_8 := by kernel_rfl
def d29_8 : List (List Nat) := [[], [0], [0, 1], [0, 1, 2], [0, 1, 2, 3], [0, 1, 2, 3, 4], [0, 1, 2, 3, 4, 5], [0, 1, 2, 3, 4, 5, 6], [0, 1, 2, 3, 4, 5, 6, 7], [0, 1, 2, 3, 4, 5, 6, 7, 8], [0, 1, 2, 3, 4, 5, 6, 7, 8, 9], [0, 1, 2, 3, 4, 5, 6, 7, 8, 9, 10], [0, 1, 2, 3, 4, 5, 6, 7, 8, 9, 10, 11], [0, 1, 2, 3, 4, 5, 6, 7, 8, 9, 10, 11, 12], [0, 1, 2, 3, 4, 5, 6, 7, 8, 9, 10, 11], [0, 1, 2, 3, 4, 5, 6, 7, 8, 9, 10, 11, 14], [0, 1, 2, 3, 4, 5, 6, 7, 8, 9, 10, 11], [0, 1, 2, 3, 4, 5, 6, 7, 8, 9, 10, 11, 16], [0, 1, 2, 3, 4, 5, 6, 7, 8, 9, 10, 11, 14, 15, 16, 17], [0, 1, 2, 3, 4, 5, 6, 7, 8, 9, 10, 11, 14, 15, 16, 17, 18], [0, 1, 2, 3, 4, 5, 6, 7, 8, 9, 10, 11, 14, 15, 16, 17, 18, 19], [0, 1, 2, 3, 4, 5, 6, 7, 8, 9, 10, 11, 12, 13, 14, 15, 16, 17, 18, 19, 20], [0, 1, 2, 3, 4, 5, 6, 7, 8, 9, 10, 11, 12, 13, 14, 15, 16, 17, 18, 19, 20, 21], [0, 1, 2, 3, 4, 5, 6, 7, 8, 9, 10, 11, 12, 13, 14, 15, 16, 17, 18, 19, 20, 21, 22], [0, 1, 2, 3, 4, 5, 6, 7, 8, 9, 10, 11, 12, 13, 14, 15, 16, 17, 18, 19, 20, 21, 22, 23]]
theorem ok29_8 : okReg (ro Tryd.f29 8) a29_8 d29_8 = true := by kernel_rfl
def a29_9 : List AO := [⟨(some 2), none, .mv (.v (.int .i64 13))⟩]
theorem tr29_9 : (ro Tryd.f29 9).toList.mapM (trO Tryd.prog 51 (ro Tryd.f29 9)) = some a29_9 := by kernel_rfl
def a29_10 : List AO := [⟨(some 46), none, .fld 1 (.t 4)⟩,
  ⟨(some 47), none, .load none (.t 46)⟩,
  ⟨(some 48), none, .call 43 [(.t 47)]⟩,
  ⟨(some 49), none, .un .not (.t 48)⟩]
theorem tr29_10 : (ro Tryd.f29 10).toList.mapM (trO Tryd.prog 51 (ro Tryd.f29 10)) = some a29_10 := by kernel_rfl
def a29_11 : List AO := [⟨(some 2), none, .mv (.v (.int .i64 2))⟩]
theorem tr29_11 : (ro Tryd.f29 11).toList.mapM (trO Tryd.prog 51 (ro Tryd.f29 11)) = some a29_11 := by kernel_rfl
def a29_12 : List AO := [⟨(some 50), none, .bin .add (.t 16) (.v (.int .i64 1))⟩,
  ⟨(some 16), none, .mv (.t 50)⟩]
theorem tr29_12 : (ro Tryd.f29 12).toList.mapM (trO Tryd.prog 51 (ro Tryd.f29 12)) = some a29_12 := by kernel_rfl
def a29_13 : List AO := [⟨(some 2), none, .mv (.v (.int .i64 0))⟩]
theorem tr29_13 : (ro Tryd.f29 13).toList.mapM (trO Tryd.prog 51 (ro Tryd.f29 13)) = some a29_13 := by kernel_rfl
/-- airline/places.usable -/
noncomputable def c30 : Code := .seq (.region 0 (ro Tryd.f30 0) false) (.seq (.region 1 (ro Tryd.f30 1) false) (.ret))
theorem body30 : Tryd.f30.body = some c30 := by kernel_rfl
theorem res30 : Tryd.f30.results.toList.mapM (trR Tryd.prog) = some [.t 2] := by kernel_rfl
theorem nt30 : Tryd.f30.ntmps = 11 := by kernel_rfl
theorem nm30 : (Tryd.f30.name == "runtime.NumGoroutine") = false := by kernel_rfl
def a30_0 : List AO := [⟨(some 1), none, .box 63 (.t 0)⟩,
  ⟨(some 2), none, .mv (.v (.bool false))⟩]
theorem tr30_0 : (ro Tryd.f30 0).toList.mapM (trO Tryd.prog 11 (ro Tryd.f30 0)) = some a30_0 := by kernel_rfl
def a30_1 : List AO := [⟨(some 3), none, .fld 2 (.t 1)⟩,
  ⟨(some 4), none, .load none (.t 3)⟩,
  ⟨(some 5), none, .bin .geq (.t 4) (.v (.int .i64 1))⟩,
  ⟨(some 6), none, .mv (.t 5)⟩,
  ⟨(some 7), some (6, true), .fld 2 (.t 1)⟩,
  ⟨(some 8), some (6, true), .load none (.t 7)⟩,
  ⟨(some 9), some (6, true), .bin .leq (.t 8) (.v (.int .i64 20000))⟩,
  ⟨(some 10), none, .pick (.t 6) (.t 9) (.v (.bool false))⟩,
  ⟨(some 2), none, .mv (.t 10)⟩]
theorem tr30_1 : (ro Tryd.f30 1).toList.mapM (trO Tryd.prog 11 (ro Tryd.f30 1)) = some a30_1 := by kernel_rfl
/-- airline/airlineref06.airport -/
noncomputable def c31 : Code := .seq (.region 0 (ro Tryd.f31 0) false) (.seq (.region 1 (ro Tryd.f31 1) false) (.seq (.region 2 (ro Tryd.f31 2) false) (.seq (.seq (.region 3 (ro Tryd.f31 3) false) (.cond (.tmp 31) (.region 4 (ro Tryd.f31 4) false) (.skip))) (.seq (.region 5 (ro Tryd.f31 5) false) (.seq (.seq (.region 6 (ro Tryd.f31 6) false) (.block 0 (.loop (.seq (.seq (.region 7 (ro Tryd.f31 7) false) (.cond (.tmp 37) (.skip) (.exit 0))) (.seq (.block 1 (.seq (.region 9 (ro Tryd.f31 9) true) (.region 10 (ro Tryd.f31 10) true))) (.region 8 (ro Tryd.f31 8) false)))))) (.seq (.seq (.region 11 (ro Tryd.f31 11) false) (.cond (.tmp 75) (.region 12 (ro Tryd.f31 12) false) (.skip))) (.seq (.seq (.region 13 (ro Tryd.f31 13) false) (.cond (.tmp 79) (.region 14 (ro Tryd.f31 14) false) (.skip))) (.seq (.region 15 (ro Tryd.f31 15) false) (.seq (.seq (.region 16 (ro Tryd.f31 16) false) (.cond (.tmp 87) (.region 17 (ro Tryd.f31 17) false) (.skip))) (.seq (.region 18 (ro Tryd.f31 18) false) (.ret)))))))))))
theorem body31 : Tryd.f31.body = some c31 := by kernel_rfl
theorem res31 : Tryd.f31.results.toList.mapM (trR Tryd.prog) = some [.t 4] := by kernel_rfl
theorem nt31 : Tryd.f31.ntmps = 93 := by kernel_rfl
theorem nm31 : (Tryd.f31.name == "runtime.NumGoroutine") = false := by kernel_rfl
def a31_0 : List AO := [⟨(some 2), none, .box 25 (.t 0)⟩,
  ⟨(some 4), none, .mv (.v .nils)⟩]
theorem tr31_0 : (ro Tryd.f31 0).toList.mapM (trO Tryd.prog 93 (ro Tryd.f31 0)) = some a31_0 := by kernel_rfl
def a31_1 : List AO := [⟨(some 5), none, .mv (.v .nils)⟩]
theorem tr31_1 : (ro Tryd.f31 1).toList.mapM (trO Tryd.prog 93 (ro Tryd.f31 1)) = some a31_1 := by kernel_rfl
def a31_2 : List AO := [⟨(some 11), none, .fld 0 (.t 2)⟩,
  ⟨(some 12), none, .load none (.t 11)⟩,
  ⟨(some 13), none, .mv (.t 1)⟩,
  ⟨(some 14), none, .idx 5 (.t 12) (.t 13)⟩,
  ⟨(some 15), none, .load (some 5) (.t 14)⟩,
  ⟨(some 6), none, .alloc 35 [(.str []), (.str []), (.str []), (.int .i64 0), .nils]⟩,
  ⟨none, none, .store 5 (.t 6) (.t 15)⟩]
theorem tr31_2 : (ro Tryd.f31 2).toList.mapM (trO Tryd.prog 93 (ro Tryd.f31 2)) = some a31_2 := by kernel_rfl
def a31_3 : List AO := [⟨(some 16), none, .fld 0 (.t 6)⟩,
  ⟨(some 17), none, .load none (.t 16)⟩,
  ⟨(some 18), none, .call 44 [(.t 17)]⟩,
  ⟨(some 19), none, .un .not (.t 18)⟩,
  ⟨(some 20), none, .mv (.t 19)⟩,
  ⟨(some 21), some (20, false), .fld 1 (.t 6)⟩,
  ⟨(some 22), some (20, false), .load none (.t 21)⟩,
  ⟨(some 23), some (20, false), .call 44 [(.t 22)]⟩,
  ⟨(some 24), some (20, false), .un .not (.t 23)⟩,
  ⟨(some 25), none, .pick (.t 20) (.v (.bool true)) (.t 24)⟩,
  ⟨(some 26), none, .mv (.t 25)⟩,
  ⟨(some 27), some (26, false), .fld 2 (.t 6)⟩,
  ⟨(some 28), some (26, false), .load none (.t 27)⟩,
  ⟨(some 29), some (26, false), .call 45 [(.t 28)]⟩,
  ⟨(some 30), some (26, false), .un .not (.t 29)⟩,
  ⟨(some 31), none, .pick (.t 26) (.v (.bool true)) (.t 30)⟩]
theorem tr31_3 : (ro Tryd.f31 3).toList.mapM (trO Tryd.prog 93 (ro Tryd.f31 3)) = some a31_3 := by kernel_rfl
def a31_4 : List AO := [⟨(some 32), none, .mv (.t 5)⟩,
  ⟨(some 33), none, .slc 41 1 false [(.v (.int .i64 5))]⟩,
  ⟨(some 34), none, .app 41 1 8 (.t 32) (.t 33)⟩,
  ⟨(some 5), none, .mv (.t 34)⟩]
theorem tr31_4 : (ro Tryd.f31 4).toList.mapM (trO Tryd.prog 93 (ro Tryd.f31 4)) = some a31_4 := by kernel_rfl
def a31_5 : List AO := [⟨(some 7), none, .mv (.v (.bool false))⟩,
  ⟨(some 8), none, .mv (.v (.bool false))⟩]
theorem tr31_5 : (ro Tryd.f31 5).toList.mapM (trO Tryd.prog 93 (ro Tryd.f31 5)) = some a31_5 := by kernel_rfl
def a31_6 : List AO := [⟨(some 9), none, .mv (.v (.int .i64 0))⟩]
theorem tr31_6 : (ro Tryd.f31 6).toList.mapM (trO Tryd.prog 93 (ro Tryd.f31 6)) = some a31_6 := by kernel_rfl
def a31_7 : List AO := [⟨(some 35), none, .mv (.t 9)⟩,
  ⟨(some 36), none, .mv (.t 1)⟩,
  ⟨(some 37), none, .bin .lss (.t 35) (.t 36)⟩]
theorem tr31_7 : (ro Tryd.f31 7).toList.mapM (trO Tryd.prog 93 (ro Tryd.f31 7)) = some a31_7 := by kernel_rfl
def a31_9 : List AO := [⟨(some 40), none, .mv (.t 7)⟩,
  ⟨(some 41), none, .mv (.t 40)⟩,
  ⟨(some 42), some (41, false), .fld 0 (.t 2)⟩,
  ⟨(some 43), some (41, false), .load none (.t 42)⟩,
  ⟨(some 44), some (41, false), .mv (.t 9)⟩,
  ⟨(some 45), some (41, false), .idx 5 (.t 43) (.t 44)⟩,
  ⟨(some 46), some (41, false), .fld 0 (.t 45)⟩,
  ⟨(some 47), some (41, false), .load none (.t 46)⟩,
  ⟨(some 48), some (41, false), .fld 0 (.t 6)⟩,
  ⟨(some 49), some (41, false), .load none (.t 48)⟩,
  ⟨(some 50), some (41, false), .bin .eql (.t 47) (.t 49)⟩,
  ⟨(some 51), none, .pick (.t 41) (.v (.bool true)) (.t 50)⟩,
  ⟨(some 7), none, .mv (.t 51)⟩]
theorem tr31_9 : (ro Tryd.f31 9).toList.mapM (trO Tryd.prog 93 (ro Tryd.f31 9)) = some a31_9 := by kernel_rfl
def d31_9 : List (List Nat) := [[], [0], [0, 1], [0, 1, 2], [0, 1], [0, 1, 2, 3, 4], [0, 1, 2, 3, 4, 5], [0, 1, 2, 3, 4, 5, 6], [0, 1], [0, 1, 8], [0, 1, 2, 3, 4, 5, 6, 7, 8, 9], [0, 1, 2, 3, 4, 5, 6, 7, 8, 9, 10], [0, 1, 2, 3, 4, 5, 6, 7, 8, 9, 10, 11]]
theorem ok31_9 : okReg (ro Tryd.f31 9) a31_9 d31_9 = true := by kernel_rfl
def a31_10 : List AO := [⟨(some 52), none, .mv (.t 8)⟩,
  ⟨(some 53), none, .mv (.t 52)⟩,
  ⟨(some 54), some (53, false), .fld 0 (.t 2)⟩,
  ⟨(some 55), some (53, false), .load none (.t 54)⟩,
  ⟨(some 56), some (53, false), .mv (.t 9)⟩,
  ⟨(some 57), some (53, false), .idx 5 (.t 55) (.t 56)⟩,
  ⟨(some 58), some (53, false), .fld 1 (.t 57)⟩,
  ⟨(some 59), some (53, false), .load none (.t 58)⟩,
  ⟨(some 60), some (53, false), .fld 1 (.t 6)⟩,
  ⟨(some 61), some (53, false), .load none (.t 60)⟩,
  ⟨(some 62), some (53, false), .bin .eql (.t 59) (.t 61)⟩,
  ⟨(some 63), some (53, false), .mv (.t 62)⟩,
  ⟨(some 64), some (63, true), .fld 0 (.t 2)⟩,
  ⟨(some 65), some (63, true), .load none (.t 64)⟩,
  ⟨(some 66), some (63, true), .mv (.t 9)⟩,
  ⟨(some 67), some (63, true), .idx 5 (.t 65) (.t 66)⟩,
  ⟨(some 68), some (63, true), .fld 2 (.t 67)⟩,
  ⟨(some 69), some (63, true), .load none (.t 68)⟩,
  ⟨(some 70), some (63, true), .fld 2 (.t 6)⟩,
  ⟨(some 71), some (63, true), .load none (.t 70)⟩,
  ⟨(some 72), some (63, true), .bin .neq (.t 69) (.t 71)⟩,
  ⟨(some 73), some (53, false), .pick (.t 63) (.t 72) (.v (.bool false))⟩,
  ⟨(some 74), none, .pick (.t 53) (.v (.bool true)) (.t 73)⟩,
  ⟨(some 8), none, .mv (.t 74)⟩]
theorem tr31_10 : (ro Tryd.f31 10).toList.mapM (trO Tryd.prog 93 (ro Tryd.f31 10)) = some a31_10 := by kernel_rfl
def d31_10 : List (List Nat) := [[], [0], [0, 1], [0, 1, 2], [0, 1], [0, 1, 2, 3, 4], [0, 1, 2, 3, 4, 5], [0, 1, 2, 3, 4, 5, 6], [0, 1], [0, 1, 8], [0, 1, 2, 3, 4, 5, 6, 7, 8, 9], [0, 1, 2, 3, 4, 5, 6, 7, 8, 9, 10], [0, 1, 2, 3, 4, 5, 6, 7, 8, 9, 10, 11], [0, 1, 2, 3, 4, 5, 6, 7, 8, 9, 10, 11, 12], [0, 1, 2, 3, 4, 5, 6, 7, 8, 9, 10, 11], [0, 1, 2, 3, 4, 5, 6, 7, 8, 9, 10, 11, 12, 13, 14], [0, 1, 2, 3, 4, 5, 6, 7, 8, 9, 10, 11, 12, 13, 14, 15], [0, 1, 2, 3, 4, 5, 6, 7, 8, 9, 10, 11, 12, 13, 14, 15, 16], [0, 1, 2, 3, 4, 5, 6, 7, 8, 9, 10, 11], [0, 1, 2, 3, 4, 5, 6, 7, 8, 9, 10, 11, 18], [0, 1, 2, 3, 4, 5, 6, 7, 8, 9, 10, 11, 12, 13, 14, 15, 16, 17, 18, 19], [0, 1, 2, 3, 4, 5, 6, 7, 8, 9, 10, 11, 12, 13, 14, 15, 16, 17, 18, 19, 20], [0, 1, 2, 3, 4, 5, 6, 7, 8, 9, 10, 11, 12, 13, 14, 15, 16, 17, 18, 19, 20, 21], [0, 1, 2, 3, 4, 5, 6, 7, 8, 9, 10, 11, 12, 13, 14, 15, 16, 17, 18, 19, 20, 21, 22]]
theorem ok31_10 : okReg (ro Tryd.f31 10) a31_10 d31_10 = true := by kernel_rfl
def a31_8 : List AO := [⟨(some 38), none, .mv (.t 9)⟩,
  ⟨(some 39), none, .bin .add (.t 38) (.v (.int .i64 1))⟩,
  ⟨(some 9), none, .mv (.t 39)⟩]
theorem tr31_8 : (ro Tryd.f31 8).toList.mapM (trO Tryd.prog 93 (ro Tryd.f31 8)) = some a31_8 := by kernel_rfl
def a31_11 : List AO := [⟨(some 75), none, .mv (.t 7)⟩]
theorem tr31_11 : (ro Tryd.f31 11).toList.mapM (trO Tryd.prog 93 (ro Tryd.f31 11)) = some a31_11 := by kernel_rfl
def a31_12 : List AO := [⟨(some 76), none, .mv (.t 5)⟩,
  ⟨(some 77), none, .slc 41 1 false [(.v (.int .i64 6))]⟩,
  ⟨(some 78), none, .app 41 1 8 (.t 76) (.t 77)⟩,
  ⟨(some 5), none, .mv (.t 78)⟩]
theorem tr31_12 : (ro Tryd.f31 12).toList.mapM (trO Tryd.prog 93 (ro Tryd.f31 12)) = some a31_12 := by kernel_rfl
def a31_13 : List AO := [⟨(some 79), none, .mv (.t 8)⟩]
theorem tr31_13 : (ro Tryd.f31 13).toList.mapM (trO Tryd.prog 93 (ro Tryd.f31 13)) = some a31_13 := by kernel_rfl
def a31_14 : List AO := [⟨(some 80), none, .mv (.t 5)⟩,
  ⟨(some 81), none, .slc 41 1 false [(.v (.int .i64 8))]⟩,
  ⟨(some 82), none, .app 41 1 8 (.t 80) (.t 81)⟩,
  ⟨(some 5), none, .mv (.t 82)⟩]
theorem tr31_14 : (ro Tryd.f31 14).toList.mapM (trO Tryd.prog 93 (ro Tryd.f31 14)) = some a31_14 := by kernel_rfl
def a31_15 : List AO := [⟨(some 83), none, .fld 3 (.t 6)⟩,
  ⟨(some 84), none, .load (some 2) (.t 83)⟩,
  ⟨(some 85), none, .call 46 [(.t 84)]⟩,
  ⟨(some 10), none, .mv (.t 85)⟩]
theorem tr31_15 : (ro Tryd.f31 15).toList.mapM (trO Tryd.prog 93 (ro Tryd.f31 15)) = some a31_15 := by kernel_rfl
def a31_16 : List AO := [⟨(some 86), none, .mv (.t 10)⟩,
  ⟨(some 87), none, .bin .neq (.t 86) (.v (.int .i64 0))⟩]
theorem tr31_16 : (ro Tryd.f31 16).toList.mapM (trO Tryd.prog 93 (ro Tryd.f31 16)) = some a31_16 := by kernel_rfl
def a31_17 : List AO := [⟨(some 88), none, .mv (.t 5)⟩,
  ⟨(some 89), none, .mv (.t 10)⟩,
  ⟨(some 90), none, .slc 41 1 false [(.t 89)]⟩,
  ⟨(some 91), none, .app 41 1 8 (.t 88) (.t 90)⟩,
  ⟨(some 5), none, .mv (.t 91)⟩]
theorem tr31_17 : (ro Tryd.f31 17).toList.mapM (trO Tryd.prog 93 (ro Tryd.f31 17)) = some a31_17 := by kernel_rfl
def a31_18 : List AO := [⟨(some 92), none, .mv (.t 5)⟩,
  ⟨(some 4), none, .mv (.t 92)⟩]
theorem tr31_18 : (ro Tryd.f31 18).toList.mapM (trO Tryd.prog 93 (ro Tryd.f31 18)) = some a31_18 := by kernel_rfl
/-- airline/airlineref01.Decimal -/
noncomputable def c32 : Code := .seq (.region 0 (ro Tryd.f32 0) false) (.seq (.seq (.region 1 (ro Tryd.f32 1) false) (.cond (.tmp 4) (.seq (.region 2 (ro Tryd.f32 2) false) (.ret)) (.skip))) (.seq (.region 3 (ro Tryd.f32 3) false) (.ret)))
theorem body32 : Tryd.f32.body = some c32 := by kernel_rfl
theorem res32 : Tryd.f32.results.toList.mapM (trR Tryd.prog) = some [.t 2] := by kernel_rfl
theorem nt32 : Tryd.f32.ntmps = 15 := by kernel_rfl
theorem nm32 : (Tryd.f32.name == "runtime.NumGoroutine") = false := by kernel_rfl
def a32_0 : List AO := [⟨(some 2), none, .mv (.v (.str []))⟩]
theorem tr32_0 : (ro Tryd.f32 0).toList.mapM (trO Tryd.prog 15 (ro Tryd.f32 0)) = some a32_0 := by kernel_rfl
def a32_1 : List AO := [⟨(some 3), none, .mv (.t 0)⟩,
  ⟨(some 4), none, .bin .lss (.t 3) (.v (.int .i64 0))⟩]
theorem tr32_1 : (ro Tryd.f32 1).toList.mapM (trO Tryd.prog 15 (ro Tryd.f32 1)) = some a32_1 := by kernel_rfl
def a32_2 : List AO := [⟨(some 5), none, .mv (.t 0)⟩,
  ⟨(some 6), none, .bin .add (.t 5) (.v (.int .i64 1))⟩,
  ⟨(some 7), none, .un .neg (.t 6)⟩,
  ⟨(some 8), none, .conv .u64 (.t 7)⟩,
  ⟨(some 9), none, .bin .add (.t 8) (.v (.int .u64 1))⟩,
  ⟨(some 10), none, .call 47 [(.t 9)]⟩,
  ⟨(some 11), none, .bin .add (.v (.str [45])) (.t 10)⟩,
  ⟨(some 2), none, .mv (.t 11)⟩]
theorem tr32_2 : (ro Tryd.f32 2).toList.mapM (trO Tryd.prog 15 (ro Tryd.f32 2)) = some a32_2 := by kernel_rfl
def a32_3 : List AO := [⟨(some 12), none, .mv (.t 0)⟩,
  ⟨(some 13), none, .conv .u64 (.t 12)⟩,
  ⟨(some 14), none, .call 47 [(.t 13)]⟩,
  ⟨(some 2), none, .mv (.t 14)⟩]
theorem tr32_3 : (ro Tryd.f32 3).toList.mapM (trO Tryd.prog 15 (ro Tryd.f32 3)) = some a32_3 := by kernel_rfl
/-- airline/airlineref06.distance -/
noncomputable def c33 : Code := .seq (.region 0 (ro Tryd.f33 0) false) (.seq (.region 1 (ro Tryd.f33 1) false) (.seq (.region 2 (ro Tryd.f33 2) false) (.seq (.region 3 (ro Tryd.f33 3) false) (.seq (.region 4 (ro Tryd.f33 4) false) (.seq (.seq (.region 5 (ro Tryd.f33 5) false) (.cond (.tmp 38) (.region 6 (ro Tryd.f33 6) false) (.skip))) (.seq (.region 7 (ro Tryd.f33 7) false) (.seq (.seq (.region 8 (ro Tryd.f33 8) false) (.block 0 (.loop (.seq (.seq (.region 9 (ro Tryd.f33 9) false) (.cond (.tmp 44) (.skip) (.exit 0))) (.seq (.block 1 (.seq (.region 11 (ro Tryd.f33 11) false) (.region 12 (ro Tryd.f33 12) false))) (.region 10 (ro Tryd.f33 10) false)))))) (.seq (.seq (.region 13 (ro Tryd.f33 13) false) (.cond (.tmp 81) (.region 14 (ro Tryd.f33 14) false) (.skip))) (.seq (.seq (.region 15 (ro Tryd.f33 15) false) (.cond (.tmp 94) (.region 16 (ro Tryd.f33 16) false) (.skip))) (.seq (.region 17 (ro Tryd.f33 17) false) (.ret)))))))))))
theorem body33 : Tryd.f33.body = some c33 := by kernel_rfl
theorem res33 : Tryd.f33.results.toList.mapM (trR Tryd.prog) = some [.t 4] := by kernel_rfl
theorem nt33 : Tryd.f33.ntmps = 99 := by kernel_rfl
theorem nm33 : (Tryd.f33.name == "runtime.NumGoroutine") = false := by kernel_rfl
def a33_0 : List AO := [⟨(some 2), none, .box 25 (.t 0)⟩,
  ⟨(some 4), none, .mv (.v .nils)⟩]
theorem tr33_0 : (ro Tryd.f33 0).toList.mapM (trO Tryd.prog 99 (ro Tryd.f33 0)) = some a33_0 := by kernel_rfl
def a33_1 : List AO := [⟨(some 5), none, .mv (.v .nils)⟩]
theorem tr33_1 : (ro Tryd.f33 1).toList.mapM (trO Tryd.prog 99 (ro Tryd.f33 1)) = some a33_1 := by kernel_rfl
def a33_2 : List AO := [⟨(some 14), none, .fld 1 (.t 2)⟩,
  ⟨(some 15), none, .load none (.t 14)⟩,
  ⟨(some 16), none, .mv (.t 1)⟩,
  ⟨(some 17), none, .idx 3 (.t 15) (.t 16)⟩,
  ⟨(some 18), none, .load (some 3) (.t 17)⟩,
  ⟨(some 6), none, .alloc 63 [(.str []), (.str []), (.int .i64 0)]⟩,
  ⟨none, none, .store 3 (.t 6) (.t 18)⟩]
theorem tr33_2 : (ro Tryd.f33 2).toList.mapM (trO Tryd.prog 99 (ro Tryd.f33 2)) = some a33_2 := by kernel_rfl
def a33_3 : List AO := [⟨(some 20), none, .load (some 2) (.t 2)⟩,
  ⟨(some 21), none, .fld 0 (.t 6)⟩,
  ⟨(some 22), none, .load none (.t 21)⟩,
  ⟨(some 23), none, .call 35 [(.t 20), (.t 22)]⟩,
  ⟨(some 19), none, .mv (.t 23)⟩,
  ⟨(some 24), none, .ext 0 (.t 19)⟩,
  ⟨(some 25), none, .ext 1 (.t 19)⟩,
  ⟨(some 7), none, .alloc 35 [(.str []), (.str []), (.str []), (.int .i64 0), .nils]⟩,
  ⟨none, none, .store 5 (.t 7) (.t 24)⟩,
  ⟨(some 8), none, .mv (.t 25)⟩]
theorem tr33_3 : (ro Tryd.f33 3).toList.mapM (trO Tryd.prog 99 (ro Tryd.f33 3)) = some a33_3 := by kernel_rfl
def a33_4 : List AO := [⟨(some 27), none, .load (some 2) (.t 2)⟩,
  ⟨(some 28), none, .fld 1 (.t 6)⟩,
  ⟨(some 29), none, .load none (.t 28)⟩,
  ⟨(some 30), none, .call 35 [(.t 27), (.t 29)]⟩,
  ⟨(some 26), none, .mv (.t 30)⟩,
  ⟨(some 31), none, .ext 0 (.t 26)⟩,
  ⟨(some 32), none, .ext 1 (.t 26)⟩,
  ⟨(some 9), none, .alloc 35 [(.str []), (.str []), (.str []), (.int .i64 0), .nils]⟩,
  ⟨none, none, .store 5 (.t 9) (.t 31)⟩,
  ⟨(some 10), none, .mv (.t 32)⟩]
theorem tr33_4 : (ro Tryd.f33 4).toList.mapM (trO Tryd.prog 99 (ro Tryd.f33 4)) = some a33_4 := by kernel_rfl
def a33_5 : List AO := [⟨(some 33), none, .mv (.t 8)⟩,
  ⟨(some 34), none, .un .not (.t 33)⟩,
  ⟨(some 35), none, .mv (.t 34)⟩,
  ⟨(some 36), some (35, false), .mv (.t 10)⟩,
  ⟨(some 37), some (35, false), .un .not (.t 36)⟩,
  ⟨(some 38), none, .pick (.t 35) (.v (.bool true)) (.t 37)⟩]
theorem tr33_5 : (ro Tryd.f33 5).toList.mapM (trO Tryd.prog 99 (ro Tryd.f33 5)) = some a33_5 := by kernel_rfl
def a33_6 : List AO := [⟨(some 39), none, .mv (.t 5)⟩,
  ⟨(some 40), none, .slc 41 1 false [(.v (.int .i64 14))]⟩,
  ⟨(some 41), none, .app 41 1 8 (.t 39) (.t 40)⟩,
  ⟨(some 5), none, .mv (.t 41)⟩]
theorem tr33_6 : (ro Tryd.f33 6).toList.mapM (trO Tryd.prog 99 (ro Tryd.f33 6)) = some a33_6 := by kernel_rfl
def a33_7 : List AO := [⟨(some 11), none, .mv (.v (.bool false))⟩]
theorem tr33_7 : (ro Tryd.f33 7).toList.mapM (trO Tryd.prog 99 (ro Tryd.f33 7)) = some a33_7 := by kernel_rfl
def a33_8 : List AO := [⟨(some 12), none, .mv (.v (.int .i64 0))⟩]
theorem tr33_8 : (ro Tryd.f33 8).toList.mapM (trO Tryd.prog 99 (ro Tryd.f33 8)) = some a33_8 := by kernel_rfl
def a33_9 : List AO := [⟨(some 42), none, .mv (.t 12)⟩,
  ⟨(some 43), none, .mv (.t 1)⟩,
  ⟨(some 44), none, .bin .lss (.t 42) (.t 43)⟩]
theorem tr33_9 : (ro Tryd.f33 9).toList.mapM (trO Tryd.prog 99 (ro Tryd.f33 9)) = some a33_9 := by kernel_rfl
def a33_11 : List AO := [⟨(some 47), none, .fld 1 (.t 2)⟩,
  ⟨(some 48), none, .load none (.t 47)⟩,
  ⟨(some 49), none, .mv (.t 12)⟩,
  ⟨(some 50), none, .idx 3 (.t 48) (.t 49)⟩,
  ⟨(some 51), none, .load (some 3) (.t 50)⟩,
  ⟨(some 13), none, .alloc 63 [(.str []), (.str []), (.int .i64 0)]⟩,
  ⟨none, none, .store 3 (.t 13) (.t 51)⟩]
theorem tr33_11 : (ro Tryd.f33 11).toList.mapM (trO Tryd.prog 99 (ro Tryd.f33 11)) = some a33_11 := by kernel_rfl
def a33_12 : List AO := [⟨(some 52), none, .mv (.t 11)⟩,
  ⟨(some 53), none, .mv (.t 52)⟩,
  ⟨(some 54), some (53, false), .fld 0 (.t 13)⟩,
  ⟨(some 55), some (53, false), .load none (.t 54)⟩,
  ⟨(some 56), some (53, false), .fld 0 (.t 6)⟩,
  ⟨(some 57), some (53, false), .load none (.t 56)⟩,
  ⟨(some 58), some (53, false), .bin .eql (.t 55) (.t 57)⟩,
  ⟨(some 59), some (53, false), .mv (.t 58)⟩,
  ⟨(some 60), some (59, true), .fld 1 (.t 13)⟩,
  ⟨(some 61), some (59, true), .load none (.t 60)⟩,
  ⟨(some 62), some (59, true), .fld 1 (.t 6)⟩,
  ⟨(some 63), some (59, true), .load none (.t 62)⟩,
  ⟨(some 64), some (59, true), .bin .eql (.t 61) (.t 63)⟩,
  ⟨(some 65), some (53, false), .pick (.t 59) (.t 64) (.v (.bool false))⟩,
  ⟨(some 66), none, .pick (.t 53) (.v (.bool true)) (.t 65)⟩,
  ⟨(some 67), none, .mv (.t 66)⟩,
  ⟨(some 68), some (67, false), .fld 0 (.t 13)⟩,
  ⟨(some 69), some (67, false), .load none (.t 68)⟩,
  ⟨(some 70), some (67, false), .fld 1 (.t 6)⟩,
  ⟨(some 71), some (67, false), .load none (.t 70)⟩,
  ⟨(some 72), some (67, false), .bin .eql (.t 69) (.t 71)⟩,
  ⟨(some 73), some (67, false), .mv (.t 72)⟩,
  ⟨(some 74), some (73, true), .fld 1 (.t 13)⟩,
  ⟨(some 75), some (73, true), .load none (.t 74)⟩,
  ⟨(some 76), some (73, true), .fld 0 (.t 6)⟩,
  ⟨(some 77), some (73, true), .load none (.t 76)⟩,
  ⟨(some 78), some (73, true), .bin .eql (.t 75) (.t 77)⟩,
  ⟨(some 79), some (67, false), .pick (.t 73) (.t 78) (.v (.bool false))⟩,
  ⟨(some 80), none, .pick (.t 67) (.v (.bool true)) (.t 79)⟩,
  ⟨(some 11), none, .mv (.t 80)⟩]
theorem tr33_12 : (ro Tryd.f33 12).toList.mapM (trO Tryd.prog 99 (ro Tryd.f33 12)) = some a33_12 := by kernel_rfl
def a33_10 : List AO := [⟨(some 45), none, .mv (.t 12)⟩,
  ⟨(some 46), none, .bin .add (.t 45) (.v (.int .i64 1))⟩,
  ⟨(some 12), none, .mv (.t 46)⟩]
theorem tr33_10 : (ro Tryd.f33 10).toList.mapM (trO Tryd.prog 99 (ro Tryd.f33 10)) = some a33_10 := by kernel_rfl
def a33_13 : List AO := [⟨(some 81), none, .mv (.t 11)⟩]
theorem tr33_13 : (ro Tryd.f33 13).toList.mapM (trO Tryd.prog 99 (ro Tryd.f33 13)) = some a33_13 := by kernel_rfl
def a33_14 : List AO := [⟨(some 82), none, .mv (.t 5)⟩,
  ⟨(some 83), none, .slc 41 1 false [(.v (.int .i64 6))]⟩,
  ⟨(some 84), none, .app 41 1 8 (.t 82) (.t 83)⟩,
  ⟨(some 5), none, .mv (.t 84)⟩]
theorem tr33_14 : (ro Tryd.f33 14).toList.mapM (trO Tryd.prog 99 (ro Tryd.f33 14)) = some a33_14 := by kernel_rfl
def a33_15 : List AO := [⟨(some 85), none, .load (some 3) (.t 6)⟩,
  ⟨(some 86), none, .call 37 [(.t 85)]⟩,
  ⟨(some 87), none, .un .not (.t 86)⟩,
  ⟨(some 88), none, .mv (.t 87)⟩,
  ⟨(some 89), some (88, false), .fld 0 (.t 6)⟩,
  ⟨(some 90), some (88, false), .load none (.t 89)⟩,
  ⟨(some 91), some (88, false), .fld 1 (.t 6)⟩,
  ⟨(some 92), some (88, false), .load none (.t 91)⟩,
  ⟨(some 93), some (88, false), .bin .eql (.t 90) (.t 92)⟩,
  ⟨(some 94), none, .pick (.t 88) (.v (.bool true)) (.t 93)⟩]
theorem tr33_15 : (ro Tryd.f33 15).toList.mapM (trO Tryd.prog 99 (ro Tryd.f33 15)) = some a33_15 := by kernel_rfl
def a33_16 : List AO := [⟨(some 95), none, .mv (.t 5)⟩,
  ⟨(some 96), none, .slc 41 1 false [(.v (.int .i64 2))]⟩,
  ⟨(some 97), none, .app 41 1 8 (.t 95) (.t 96)⟩,
  ⟨(some 5), none, .mv (.t 97)⟩]
theorem tr33_16 : (ro Tryd.f33 16).toList.mapM (trO Tryd.prog 99 (ro Tryd.f33 16)) = some a33_16 := by kernel_rfl
def a33_17 : List AO := [⟨(some 98), none, .mv (.t 5)⟩,
  ⟨(some 4), none, .mv (.t 98)⟩]
theorem tr33_17 : (ro Tryd.f33 17).toList.mapM (trO Tryd.prog 99 (ro Tryd.f33 17)) = some a33_17 := by kernel_rfl
/-- airline/places.town -/
noncomputable def c34 : Code := .seq (.region 0 (ro Tryd.f34 0) false) (.seq (.seq (.region 1 (ro Tryd.f34 1) false) (.block 0 (.loop (.seq (.region 2 (ro Tryd.f34 2) false) (.seq (.cond (.tmp 12) (.skip) (.exit 0)) (.seq (.block 1 (.seq (.region 3 (ro Tryd.f34 3) false) (.seq (.region 4 (ro Tryd.f34 4) false) (.cond (.tmp 18) (.seq (.region 5 (ro Tryd.f34 5) false) (.ret)) (.skip))))) (.region 6 (ro Tryd.f34 6) false))))))) (.seq (.region 7 (ro Tryd.f34 7) false) (.ret)))
theorem body34 : Tryd.f34.body = some c34 := by kernel_rfl
theorem res34 : Tryd.f34.results.toList.mapM (trR Tryd.prog) = some [.c (some 5) 4, .t 5] := by kernel_rfl
theorem nt34 : Tryd.f34.ntmps = 22 := by kernel_rfl
theorem nm34 : (Tryd.f34.name == "runtime.NumGoroutine") = false := by kernel_rfl
def a34_0 : List AO := [⟨(some 2), none, .box 25 (.t 0)⟩,
  ⟨(some 4), none, .alloc 35 [(.str []), (.str []), (.str []), (.int .i64 0), .nils]⟩,
  ⟨(some 5), none, .mv (.v (.bool false))⟩]
theorem tr34_0 : (ro Tryd.f34 0).toList.mapM (trO Tryd.prog 22 (ro Tryd.f34 0)) = some a34_0 := by kernel_rfl
def a34_1 : List AO := [⟨(some 8), none, .fld 0 (.t 2)⟩,
  ⟨(some 9), none, .load none (.t 8)⟩,
  ⟨(some 10), none, .len (.t 9)⟩,
  ⟨(some 11), none, .mv (.v (.int .i64 0))⟩]
theorem tr34_1 : (ro Tryd.f34 1).toList.mapM (trO Tryd.prog 22 (ro Tryd.f34 1)) = some a34_1 := by kernel_rfl
def a34_2 : List AO := [⟨(some 12), none, .bin .lss (.t 11) (.t 10)⟩]
theorem tr34_2 : (ro Tryd.f34 2).toList.mapM (trO Tryd.prog 22 (ro Tryd.f34 2)) = some a34_2 := by kernel_rfl
def a34_3 : List AO := [⟨(some 13), none, .idx 5 (.t 9) (.t 11)⟩,
  ⟨(some 14), none, .load (some 5) (.t 13)⟩,
  ⟨(some 7), none, .alloc 35 [(.str []), (.str []), (.str []), (.int .i64 0), .nils]⟩,
  ⟨none, none, .store 5 (.t 7) (.t 14)⟩]
theorem tr34_3 : (ro Tryd.f34 3).toList.mapM (trO Tryd.prog 22 (ro Tryd.f34 3)) = some a34_3 := by kernel_rfl
def a34_4 : List AO := [⟨(some 15), none, .fld 1 (.t 7)⟩,
  ⟨(some 16), none, .load none (.t 15)⟩,
  ⟨(some 17), none, .mv (.t 1)⟩,
  ⟨(some 18), none, .bin .eql (.t 16) (.t 17)⟩]
theorem tr34_4 : (ro Tryd.f34 4).toList.mapM (trO Tryd.prog 22 (ro Tryd.f34 4)) = some a34_4 := by kernel_rfl
def a34_5 : List AO := [⟨(some 19), none, .load (some 5) (.t 7)⟩,
  ⟨none, none, .store 5 (.t 4) (.t 19)⟩,
  ⟨(some 5), none, .mv (.v (.bool true))⟩]
theorem tr34_5 : (ro Tryd.f34 5).toList.mapM (trO Tryd.prog 22 (ro Tryd.f34 5)) = some a34_5 := by kernel_rfl
def a34_6 : List AO := [⟨(some 20), none, .bin .add (.t 11) (.v (.int .i64 1))⟩,
  ⟨(some 11), none, .mv (.t 20)⟩]
theorem tr34_6 : (ro Tryd.f34 6).toList.mapM (trO Tryd.prog 22 (ro Tryd.f34 6)) = some a34_6 := by kernel_rfl
def a34_7 : List AO := [⟨(some 21), none, .build [(.str []), (.str []), (.str []), (.int .i64 0), .nils] []⟩,
  ⟨none, none, .store 5 (.t 4) (.t 21)⟩,
  ⟨(some 5), none, .mv (.v (.bool false))⟩]
theorem tr34_7 : (ro Tryd.f34 7).toList.mapM (trO Tryd.prog 22 (ro Tryd.f34 7)) = some a34_7 := by kernel_rfl
/-- airline/airlineref06.town -/
noncomputable def c35 : Code := .seq (.region 0 (ro Tryd.f35 0) false) (.seq (.seq (.region 1 (ro Tryd.f35 1) false) (.block 0 (.loop (.seq (.seq (.region 2 (ro Tryd.f35 2) false) (.cond (.tmp 11) (.skip) (.exit 0))) (.seq (.block 1 (.seq (.region 4 (ro Tryd.f35 4) false) (.cond (.tmp 21) (.seq (.region 5 (ro Tryd.f35 5) false) (.ret)) (.skip)))) (.region 3 (ro Tryd.f35 3) false)))))) (.seq (.region 6 (ro Tryd.f35 6) false) (.ret)))
theorem body35 : Tryd.f35.body = some c35 := by kernel_rfl
theorem res35 : Tryd.f35.results.toList.mapM (trR Tryd.prog) = some [.c (some 5) 4, .t 5] := by kernel_rfl
theorem nt35 : Tryd.f35.ntmps = 28 := by kernel_rfl
theorem nm35 : (Tryd.f35.name == "runtime.NumGoroutine") = false := by kernel_rfl
def a35_0 : List AO := [⟨(some 2), none, .box 25 (.t 0)⟩,
  ⟨(some 4), none, .alloc 35 [(.str []), (.str []), (.str []), (.int .i64 0), .nils]⟩,
  ⟨(some 5), none, .mv (.v (.bool false))⟩]
theorem tr35_0 : (ro Tryd.f35 0).toList.mapM (trO Tryd.prog 28 (ro Tryd.f35 0)) = some a35_0 := by kernel_rfl
def a35_1 : List AO := [⟨(some 6), none, .mv (.v (.int .i64 0))⟩]
theorem tr35_1 : (ro Tryd.f35 1).toList.mapM (trO Tryd.prog 28 (ro Tryd.f35 1)) = some a35_1 := by kernel_rfl
def a35_2 : List AO := [⟨(some 7), none, .mv (.t 6)⟩,
  ⟨(some 8), none, .fld 0 (.t 2)⟩,
  ⟨(some 9), none, .load none (.t 8)⟩,
  ⟨(some 10), none, .len (.t 9)⟩,
  ⟨(some 11), none, .bin .lss (.t 7) (.t 10)⟩]
theorem tr35_2 : (ro Tryd.f35 2).toList.mapM (trO Tryd.prog 28 (ro Tryd.f35 2)) = some a35_2 := by kernel_rfl
def a35_4 : List AO := [⟨(some 14), none, .fld 0 (.t 2)⟩,
  ⟨(some 15), none, .load none (.t 14)⟩,
  ⟨(some 16), none, .mv (.t 6)⟩,
  ⟨(some 17), none, .idx 5 (.t 15) (.t 16)⟩,
  ⟨(some 18), none, .fld 1 (.t 17)⟩,
  ⟨(some 19), none, .load none (.t 18)⟩,
  ⟨(some 20), none, .mv (.t 1)⟩,
  ⟨(some 21), none, .bin .eql (.t 19) (.t 20)⟩]
theorem tr35_4 : (ro Tryd.f35 4).toList.mapM (trO Tryd.prog 28 (ro Tryd.f35 4)) = some a35_4 := by kernel_rfl
def a35_5 : List AO := [⟨(some 22), none, .fld 0 (.t 2)⟩,
  ⟨(some 23), none, .load none (.t 22)⟩,
  ⟨(some 24), none, .mv (.t 6)⟩,
  ⟨(some 25), none, .idx 5 (.t 23) (.t 24)⟩,
  ⟨(some 26), none, .load (some 5) (.t 25)⟩,
  ⟨none, none, .store 5 (.t 4) (.t 26)⟩,
  ⟨(some 5), none, .mv (.v (.bool true))⟩]
theorem tr35_5 : (ro Tryd.f35 5).toList.mapM (trO Tryd.prog 28 (ro Tryd.f35 5)) = some a35_5 := by kernel_rfl
def a35_3 : List AO := [⟨(some 12), none, .mv (.t 6)⟩,
  ⟨(some 13), none, .bin .add (.t 12) (.v (.int .i64 1))⟩,
  ⟨(some 6), none, .mv (.t 13)⟩]
theorem tr35_3 : (ro Tryd.f35 3).toList.mapM (trO Tryd.prog 28 (ro Tryd.f35 3)) = some a35_3 := by kernel_rfl
def a35_6 : List AO := [⟨(some 27), none, .build [(.str []), (.str []), (.str []), (.int .i64 0), .nils] []⟩,
  ⟨none, none, .store 5 (.t 4) (.t 27)⟩,
  ⟨(some 5), none, .mv (.v (.bool false))⟩]
theorem tr35_6 : (ro Tryd.f35 6).toList.mapM (trO Tryd.prog 28 (ro Tryd.f35 6)) = some a35_6 := by kernel_rfl
/-- airline/places.Miles 1 -/
noncomputable def c36 : Code := .seq (.region 0 (ro Tryd.f36 0) false) (.seq (.region 1 (ro Tryd.f36 1) false) (.seq (.region 2 (ro Tryd.f36 2) false) (.seq (.seq (.region 3 (ro Tryd.f36 3) false) (.cond (.tmp 35) (.seq (.region 4 (ro Tryd.f36 4) false) (.ret)) (.skip))) (.seq (.region 5 (ro Tryd.f36 5) false) (.seq (.region 6 (ro Tryd.f36 6) false) (.ret))))))
theorem body36 : Tryd.f36.body = some c36 := by kernel_rfl
theorem res36 : Tryd.f36.results.toList.mapM (trR Tryd.prog) = some [.t 7] := by kernel_rfl
theorem nt36 : Tryd.f36.ntmps = 41 := by kernel_rfl
theorem nm36 : (Tryd.f36.name == "runtime.NumGoroutine") = false := by kernel_rfl
def a36_0 : List AO := [⟨(some 7), none, .mv (.v (.bool false))⟩]
theorem tr36_0 : (ro Tryd.f36 0).toList.mapM (trO Tryd.prog 41 (ro Tryd.f36 0)) = some a36_0 := by kernel_rfl
def a36_1 : List AO := [⟨(some 13), none, .load none (.t 3)⟩,
  ⟨(some 14), none, .mv (.t 0)⟩,
  ⟨(some 15), none, .look 0 true (.int .i64 0) (.t 13) (.t 14)⟩,
  ⟨(some 12), none, .mv (.t 15)⟩,
  ⟨(some 16), none, .ext 0 (.t 12)⟩,
  ⟨(some 17), none, .ext 1 (.t 12)⟩,
  ⟨(some 8), none, .mv (.t 16)⟩,
  ⟨(some 9), none, .mv (.t 17)⟩]
theorem tr36_1 : (ro Tryd.f36 1).toList.mapM (trO Tryd.prog 41 (ro Tryd.f36 1)) = some a36_1 := by kernel_rfl
def a36_2 : List AO := [⟨(some 19), none, .load none (.t 3)⟩,
  ⟨(some 20), none, .mv (.t 1)⟩,
  ⟨(some 21), none, .look 0 true (.int .i64 0) (.t 19) (.t 20)⟩,
  ⟨(some 18), none, .mv (.t 21)⟩,
  ⟨(some 22), none, .ext 0 (.t 18)⟩,
  ⟨(some 23), none, .ext 1 (.t 18)⟩,
  ⟨(some 10), none, .mv (.t 22)⟩,
  ⟨(some 11), none, .mv (.t 23)⟩]
theorem tr36_2 : (ro Tryd.f36 2).toList.mapM (trO Tryd.prog 41 (ro Tryd.f36 2)) = some a36_2 := by kernel_rfl
def a36_3 : List AO := [⟨(some 24), none, .mv (.t 9)⟩,
  ⟨(some 25), none, .un .not (.t 24)⟩,
  ⟨(some 26), none, .mv (.t 25)⟩,
  ⟨(some 27), some (26, false), .mv (.t 11)⟩,
  ⟨(some 28), some (26, false), .mv (.t 27)⟩,
  ⟨(some 29), some (28, true), .mv (.t 10)⟩,
  ⟨(some 30), some (28, true), .mv (.t 8)⟩,
  ⟨(some 31), some (28, true), .mv (.t 2)⟩,
  ⟨(some 32), some (28, true), .bin .add (.t 30) (.t 31)⟩,
  ⟨(some 33), some (28, true), .bin .leq (.t 29) (.t 32)⟩,
  ⟨(some 34), some (26, false), .pick (.t 28) (.t 33) (.v (.bool false))⟩,
  ⟨(some 35), none, .pick (.t 26) (.v (.bool true)) (.t 34)⟩]
theorem tr36_3 : (ro Tryd.f36 3).toList.mapM (trO Tryd.prog 41 (ro Tryd.f36 3)) = some a36_3 := by kernel_rfl
def a36_4 : List AO := [⟨(some 7), none, .mv (.v (.bool false))⟩]
theorem tr36_4 : (ro Tryd.f36 4).toList.mapM (trO Tryd.prog 41 (ro Tryd.f36 4)) = some a36_4 := by kernel_rfl
def a36_5 : List AO := [⟨(some 36), none, .load none (.t 3)⟩,
  ⟨(some 37), none, .mv (.t 1)⟩,
  ⟨(some 38), none, .mv (.t 8)⟩,
  ⟨(some 39), none, .mv (.t 2)⟩,
  ⟨(some 40), none, .bin .add (.t 38) (.t 39)⟩,
  ⟨none, none, .mset 0 (.t 36) (.t 37) (.t 40)⟩]
theorem tr36_5 : (ro Tryd.f36 5).toList.mapM (trO Tryd.prog 41 (ro Tryd.f36 5)) = some a36_5 := by kernel_rfl
def a36_6 : List AO := [⟨(some 7), none, .mv (.v (.bool true))⟩]
theorem tr36_6 : (ro Tryd.f36 6).toList.mapM (trO Tryd.prog 41 (ro Tryd.f36 6)) = some a36_6 := by kernel_rfl
/-- airline/airlineref06.Usable -/
noncomputable def c37 : Code := .seq (.region 0 (ro Tryd.f37 0) false) (.seq (.region 1 (ro Tryd.f37 1) false) (.ret))
theorem body37 : Tryd.f37.body = some c37 := by kernel_rfl
theorem res37 : Tryd.f37.results.toList.mapM (trR Tryd.prog) = some [.t 2] := by kernel_rfl
theorem nt37 : Tryd.f37.ntmps = 11 := by kernel_rfl
theorem nm37 : (Tryd.f37.name == "runtime.NumGoroutine") = false := by kernel_rfl
def a37_0 : List AO := [⟨(some 1), none, .box 63 (.t 0)⟩,
  ⟨(some 2), none, .mv (.v (.bool false))⟩]
theorem tr37_0 : (ro Tryd.f37 0).toList.mapM (trO Tryd.prog 11 (ro Tryd.f37 0)) = some a37_0 := by kernel_rfl
def a37_1 : List AO := [⟨(some 3), none, .fld 2 (.t 1)⟩,
  ⟨(some 4), none, .load none (.t 3)⟩,
  ⟨(some 5), none, .bin .geq (.t 4) (.v (.int .i64 1))⟩,
  ⟨(some 6), none, .mv (.t 5)⟩,
  ⟨(some 7), some (6, true), .fld 2 (.t 1)⟩,
  ⟨(some 8), some (6, true), .load none (.t 7)⟩,
  ⟨(some 9), some (6, true), .bin .leq (.t 8) (.v (.int .i64 20000))⟩,
  ⟨(some 10), none, .pick (.t 6) (.t 9) (.v (.bool false))⟩,
  ⟨(some 2), none, .mv (.t 10)⟩]
theorem tr37_1 : (ro Tryd.f37 1).toList.mapM (trO Tryd.prog 11 (ro Tryd.f37 1)) = some a37_1 := by kernel_rfl
/-- airline/airlineref06.reached -/
noncomputable def c38 : Code := .seq (.region 0 (ro Tryd.f38 0) false) (.seq (.seq (.region 1 (ro Tryd.f38 1) false) (.block 0 (.loop (.seq (.seq (.region 2 (ro Tryd.f38 2) false) (.cond (.tmp 9) (.skip) (.exit 0))) (.seq (.block 1 (.seq (.region 4 (ro Tryd.f38 4) false) (.cond (.tmp 18) (.seq (.region 5 (ro Tryd.f38 5) false) (.ret)) (.skip)))) (.region 3 (ro Tryd.f38 3) false)))))) (.seq (.region 6 (ro Tryd.f38 6) false) (.ret)))
theorem body38 : Tryd.f38.body = some c38 := by kernel_rfl
theorem res38 : Tryd.f38.results.toList.mapM (trR Tryd.prog) = some [.t 4] := by kernel_rfl
theorem nt38 : Tryd.f38.ntmps = 24 := by kernel_rfl
theorem nm38 : (Tryd.f38.name == "runtime.NumGoroutine") = false := by kernel_rfl
def a38_0 : List AO := [⟨(some 4), none, .mv (.v (.int .i64 0))⟩]
theorem tr38_0 : (ro Tryd.f38 0).toList.mapM (trO Tryd.prog 24 (ro Tryd.f38 0)) = some a38_0 := by kernel_rfl
def a38_1 : List AO := [⟨(some 5), none, .mv (.v (.int .i64 0))⟩]
theorem tr38_1 : (ro Tryd.f38 1).toList.mapM (trO Tryd.prog 24 (ro Tryd.f38 1)) = some a38_1 := by kernel_rfl
def a38_2 : List AO := [⟨(some 6), none, .mv (.t 5)⟩,
  ⟨(some 7), none, .mv (.t 0)⟩,
  ⟨(some 8), none, .len (.t 7)⟩,
  ⟨(some 9), none, .bin .lss (.t 6) (.t 8)⟩]
theorem tr38_2 : (ro Tryd.f38 2).toList.mapM (trO Tryd.prog 24 (ro Tryd.f38 2)) = some a38_2 := by kernel_rfl
def a38_4 : List AO := [⟨(some 12), none, .mv (.t 0)⟩,
  ⟨(some 13), none, .mv (.t 5)⟩,
  ⟨(some 14), none, .idx 2 (.t 12) (.t 13)⟩,
  ⟨(some 15), none, .fld 0 (.t 14)⟩,
  ⟨(some 16), none, .load none (.t 15)⟩,
  ⟨(some 17), none, .mv (.t 1)⟩,
  ⟨(some 18), none, .bin .eql (.t 16) (.t 17)⟩]
theorem tr38_4 : (ro Tryd.f38 4).toList.mapM (trO Tryd.prog 24 (ro Tryd.f38 4)) = some a38_4 := by kernel_rfl
def a38_5 : List AO := [⟨(some 19), none, .mv (.t 0)⟩,
  ⟨(some 20), none, .mv (.t 5)⟩,
  ⟨(some 21), none, .idx 2 (.t 19) (.t 20)⟩,
  ⟨(some 22), none, .fld 1 (.t 21)⟩,
  ⟨(some 23), none, .load none (.t 22)⟩,
  ⟨(some 4), none, .mv (.t 23)⟩]
theorem tr38_5 : (ro Tryd.f38 5).toList.mapM (trO Tryd.prog 24 (ro Tryd.f38 5)) = some a38_5 := by kernel_rfl
def a38_3 : List AO := [⟨(some 10), none, .mv (.t 5)⟩,
  ⟨(some 11), none, .bin .add (.t 10) (.v (.int .i64 1))⟩,
  ⟨(some 5), none, .mv (.t 11)⟩]
theorem tr38_3 : (ro Tryd.f38 3).toList.mapM (trO Tryd.prog 24 (ro Tryd.f38 3)) = some a38_3 := by kernel_rfl
def a38_6 : List AO := [⟨(some 4), none, .mv (.v (.int .i64 (-1)))⟩]
theorem tr38_6 : (ro Tryd.f38 6).toList.mapM (trO Tryd.prog 24 (ro Tryd.f38 6)) = some a38_6 := by kernel_rfl
/-- airline/airlineref06.reach -/
noncomputable def c39 : Code := .seq (.region 0 (ro Tryd.f39 0) false) (.seq (.seq (.region 1 (ro Tryd.f39 1) false) (.block 0 (.loop (.seq (.seq (.region 2 (ro Tryd.f39 2) false) (.cond (.tmp 12) (.skip) (.exit 0))) (.seq (.block 1 (.seq (.region 4 (ro Tryd.f39 4) false) (.cond (.tmp 21) (.seq (.seq (.region 5 (ro Tryd.f39 5) false) (.cond (.tmp 28) (.seq (.region 6 (ro Tryd.f39 6) false) (.ret)) (.skip))) (.seq (.region 7 (ro Tryd.f39 7) false) (.seq (.region 8 (ro Tryd.f39 8) false) (.ret)))) (.skip)))) (.region 3 (ro Tryd.f39 3) false)))))) (.seq (.region 9 (ro Tryd.f39 9) false) (.ret)))
theorem body39 : Tryd.f39.body = some c39 := by kernel_rfl
theorem res39 : Tryd.f39.results.toList.mapM (trR Tryd.prog) = some [.t 6, .t 7] := by kernel_rfl
theorem nt39 : Tryd.f39.ntmps = 42 := by kernel_rfl
theorem nm39 : (Tryd.f39.name == "runtime.NumGoroutine") = false := by kernel_rfl
def a39_0 : List AO := [⟨(some 6), none, .mv (.v .nils)⟩,
  ⟨(some 7), none, .mv (.v (.bool false))⟩]
theorem tr39_0 : (ro Tryd.f39 0).toList.mapM (trO Tryd.prog 42 (ro Tryd.f39 0)) = some a39_0 := by kernel_rfl
def a39_1 : List AO := [⟨(some 8), none, .mv (.v (.int .i64 0))⟩]
theorem tr39_1 : (ro Tryd.f39 1).toList.mapM (trO Tryd.prog 42 (ro Tryd.f39 1)) = some a39_1 := by kernel_rfl
def a39_2 : List AO := [⟨(some 9), none, .mv (.t 8)⟩,
  ⟨(some 10), none, .mv (.t 0)⟩,
  ⟨(some 11), none, .len (.t 10)⟩,
  ⟨(some 12), none, .bin .lss (.t 9) (.t 11)⟩]
theorem tr39_2 : (ro Tryd.f39 2).toList.mapM (trO Tryd.prog 42 (ro Tryd.f39 2)) = some a39_2 := by kernel_rfl
def a39_4 : List AO := [⟨(some 15), none, .mv (.t 0)⟩,
  ⟨(some 16), none, .mv (.t 8)⟩,
  ⟨(some 17), none, .idx 2 (.t 15) (.t 16)⟩,
  ⟨(some 18), none, .fld 0 (.t 17)⟩,
  ⟨(some 19), none, .load none (.t 18)⟩,
  ⟨(some 20), none, .mv (.t 1)⟩,
  ⟨(some 21), none, .bin .eql (.t 19) (.t 20)⟩]
theorem tr39_4 : (ro Tryd.f39 4).toList.mapM (trO Tryd.prog 42 (ro Tryd.f39 4)) = some a39_4 := by kernel_rfl
def a39_5 : List AO := [⟨(some 22), none, .mv (.t 0)⟩,
  ⟨(some 23), none, .mv (.t 8)⟩,
  ⟨(some 24), none, .idx 2 (.t 22) (.t 23)⟩,
  ⟨(some 25), none, .fld 1 (.t 24)⟩,
  ⟨(some 26), none, .load none (.t 25)⟩,
  ⟨(some 27), none, .mv (.t 2)⟩,
  ⟨(some 28), none, .bin .leq (.t 26) (.t 27)⟩]
theorem tr39_5 : (ro Tryd.f39 5).toList.mapM (trO Tryd.prog 42 (ro Tryd.f39 5)) = some a39_5 := by kernel_rfl
def a39_6 : List AO := [⟨(some 29), none, .mv (.t 0)⟩,
  ⟨(some 6), none, .mv (.t 29)⟩,
  ⟨(some 7), none, .mv (.v (.bool false))⟩]
theorem tr39_6 : (ro Tryd.f39 6).toList.mapM (trO Tryd.prog 42 (ro Tryd.f39 6)) = some a39_6 := by kernel_rfl
def a39_7 : List AO := [⟨(some 30), none, .mv (.t 0)⟩,
  ⟨(some 31), none, .mv (.t 8)⟩,
  ⟨(some 32), none, .mv (.t 2)⟩,
  ⟨(some 33), none, .idx 2 (.t 30) (.t 31)⟩,
  ⟨(some 34), none, .fld 1 (.t 33)⟩,
  ⟨none, none, .store 1 (.t 34) (.t 32)⟩]
theorem tr39_7 : (ro Tryd.f39 7).toList.mapM (trO Tryd.prog 42 (ro Tryd.f39 7)) = some a39_7 := by kernel_rfl
def a39_8 : List AO := [⟨(some 35), none, .mv (.t 0)⟩,
  ⟨(some 6), none, .mv (.t 35)⟩,
  ⟨(some 7), none, .mv (.v (.bool true))⟩]
theorem tr39_8 : (ro Tryd.f39 8).toList.mapM (trO Tryd.prog 42 (ro Tryd.f39 8)) = some a39_8 := by kernel_rfl
def a39_3 : List AO := [⟨(some 13), none, .mv (.t 8)⟩,
  ⟨(some 14), none, .bin .add (.t 13) (.v (.int .i64 1))⟩,
  ⟨(some 8), none, .mv (.t 14)⟩]
theorem tr39_3 : (ro Tryd.f39 3).toList.mapM (trO Tryd.prog 42 (ro Tryd.f39 3)) = some a39_3 := by kernel_rfl
def a39_9 : List AO := [⟨(some 36), none, .mv (.t 0)⟩,
  ⟨(some 37), none, .mv (.t 1)⟩,
  ⟨(some 38), none, .mv (.t 2)⟩,
  ⟨(some 39), none, .build [(.str []), (.int .i64 0)] [(0, 1, (.t 37)), (1, 1, (.t 38))]⟩,
  ⟨(some 40), none, .slc 74 2 false [(.t 39)]⟩,
  ⟨(some 41), none, .app 74 2 24 (.t 36) (.t 40)⟩,
  ⟨(some 6), none, .mv (.t 41)⟩,
  ⟨(some 7), none, .mv (.v (.bool true))⟩]
theorem tr39_9 : (ro Tryd.f39 9).toList.mapM (trO Tryd.prog 42 (ro Tryd.f39 9)) = some a39_9 := by kernel_rfl
/-- airline/text.every -/
noncomputable def c41 : Code := .seq (.region 0 (ro Tryd.f41 0) false) (.seq (.seq (.region 1 (ro Tryd.f41 1) false) (.block 0 (.loop (.seq (.region 2 (ro Tryd.f41 2) false) (.seq (.cond (.tmp 9) (.skip) (.exit 0)) (.seq (.block 1 (.seq (.region 3 (ro Tryd.f41 3) false) (.seq (.region 4 (ro Tryd.f41 4) false) (.cond (.tmp 16) (.seq (.region 5 (ro Tryd.f41 5) false) (.ret)) (.skip))))) (.region 6 (ro Tryd.f41 6) false))))))) (.seq (.region 7 (ro Tryd.f41 7) false) (.ret)))
theorem body41 : Tryd.f41.body = some c41 := by kernel_rfl
theorem res41 : Tryd.f41.results.toList.mapM (trR Tryd.prog) = some [.t 4] := by kernel_rfl
theorem nt41 : Tryd.f41.ntmps = 18 := by kernel_rfl
theorem nm41 : (Tryd.f41.name == "runtime.NumGoroutine") = false := by kernel_rfl
def a41_0 : List AO := [⟨(some 4), none, .mv (.v (.bool false))⟩]
theorem tr41_0 : (ro Tryd.f41 0).toList.mapM (trO Tryd.prog 18 (ro Tryd.f41 0)) = some a41_0 := by kernel_rfl
def a41_1 : List AO := [⟨(some 6), none, .mv (.t 0)⟩,
  ⟨(some 7), none, .slen (.t 6)⟩,
  ⟨(some 8), none, .mv (.v (.int .i64 0))⟩]
theorem tr41_1 : (ro Tryd.f41 1).toList.mapM (trO Tryd.prog 18 (ro Tryd.f41 1)) = some a41_1 := by kernel_rfl
def a41_2 : List AO := [⟨(some 9), none, .bin .lss (.t 8) (.t 7)⟩]
theorem tr41_2 : (ro Tryd.f41 2).toList.mapM (trO Tryd.prog 18 (ro Tryd.f41 2)) = some a41_2 := by kernel_rfl
def a41_3 : List AO := [⟨(some 10), none, .mv (.t 8)⟩,
  ⟨(some 5), none, .mv (.t 10)⟩]
theorem tr41_3 : (ro Tryd.f41 3).toList.mapM (trO Tryd.prog 18 (ro Tryd.f41 3)) = some a41_3 := by kernel_rfl
def a41_4 : List AO := [⟨(some 11), none, .mv (.t 1)⟩,
  ⟨(some 12), none, .mv (.t 0)⟩,
  ⟨(some 13), none, .mv (.t 5)⟩,
  ⟨(some 14), none, .sidx (.t 12) (.t 13)⟩,
  ⟨(some 15), none, .callv (.t 11) [(.t 14)]⟩,
  ⟨(some 16), none, .un .not (.t 15)⟩]
theorem tr41_4 : (ro Tryd.f41 4).toList.mapM (trO Tryd.prog 18 (ro Tryd.f41 4)) = some a41_4 := by kernel_rfl
def a41_5 : List AO := [⟨(some 4), none, .mv (.v (.bool false))⟩]
theorem tr41_5 : (ro Tryd.f41 5).toList.mapM (trO Tryd.prog 18 (ro Tryd.f41 5)) = some a41_5 := by kernel_rfl
def a41_6 : List AO := [⟨(some 17), none, .bin .add (.t 8) (.v (.int .i64 1))⟩,
  ⟨(some 8), none, .mv (.t 17)⟩]
theorem tr41_6 : (ro Tryd.f41 6).toList.mapM (trO Tryd.prog 18 (ro Tryd.f41 6)) = some a41_6 := by kernel_rfl
def a41_7 : List AO := [⟨(some 4), none, .mv (.v (.bool true))⟩]
theorem tr41_7 : (ro Tryd.f41 7).toList.mapM (trO Tryd.prog 18 (ro Tryd.f41 7)) = some a41_7 := by kernel_rfl
/-- airline/text.capital -/
noncomputable def c42 : Code := .seq (.region 0 (ro Tryd.f42 0) false) (.seq (.region 1 (ro Tryd.f42 1) false) (.ret))
theorem body42 : Tryd.f42.body = some c42 := by kernel_rfl
theorem res42 : Tryd.f42.results.toList.mapM (trR Tryd.prog) = some [.t 2] := by kernel_rfl
theorem nt42 : Tryd.f42.ntmps = 9 := by kernel_rfl
theorem nm42 : (Tryd.f42.name == "runtime.NumGoroutine") = false := by kernel_rfl
def a42_0 : List AO := [⟨(some 2), none, .mv (.v (.bool false))⟩]
theorem tr42_0 : (ro Tryd.f42 0).toList.mapM (trO Tryd.prog 9 (ro Tryd.f42 0)) = some a42_0 := by kernel_rfl
def a42_1 : List AO := [⟨(some 3), none, .mv (.t 0)⟩,
  ⟨(some 4), none, .bin .geq (.t 3) (.v (.int .u8 65))⟩,
  ⟨(some 5), none, .mv (.t 4)⟩,
  ⟨(some 6), some (5, true), .mv (.t 0)⟩,
  ⟨(some 7), some (5, true), .bin .leq (.t 6) (.v (.int .u8 90))⟩,
  ⟨(some 8), none, .pick (.t 5) (.t 7) (.v (.bool false))⟩,
  ⟨(some 2), none, .mv (.t 8)⟩]
theorem tr42_1 : (ro Tryd.f42 1).toList.mapM (trO Tryd.prog 9 (ro Tryd.f42 1)) = some a42_1 := by kernel_rfl
/-- airline/zone.right -/
noncomputable def c43 : Code := .seq (.region 0 (ro Tryd.f43 0) false) (.seq (.region 1 (ro Tryd.f43 1) false) (.ret))
theorem body43 : Tryd.f43.body = some c43 := by kernel_rfl
theorem res43 : Tryd.f43.results.toList.mapM (trR Tryd.prog) = some [.t 2] := by kernel_rfl
theorem nt43 : Tryd.f43.ntmps = 9 := by kernel_rfl
theorem nm43 : (Tryd.f43.name == "runtime.NumGoroutine") = false := by kernel_rfl
def a43_0 : List AO := [⟨(some 2), none, .mv (.v (.bool false))⟩]
theorem tr43_0 : (ro Tryd.f43 0).toList.mapM (trO Tryd.prog 9 (ro Tryd.f43 0)) = some a43_0 := by kernel_rfl
def a43_1 : List AO := [⟨(some 3), none, .mv (.t 0)⟩,
  ⟨(some 4), none, .bin .geq (.t 3) (.v (.int .i64 (-840)))⟩,
  ⟨(some 5), none, .mv (.t 4)⟩,
  ⟨(some 6), some (5, true), .mv (.t 0)⟩,
  ⟨(some 7), some (5, true), .bin .leq (.t 6) (.v (.int .i64 840))⟩,
  ⟨(some 8), none, .pick (.t 5) (.t 7) (.v (.bool false))⟩,
  ⟨(some 2), none, .mv (.t 8)⟩]
theorem tr43_1 : (ro Tryd.f43 1).toList.mapM (trO Tryd.prog 9 (ro Tryd.f43 1)) = some a43_1 := by kernel_rfl
/-- airline/airlineref01.Airport -/
noncomputable def c44 : Code := .seq (.region 0 (ro Tryd.f44 0) false) (.seq (.region 1 (ro Tryd.f44 1) false) (.ret))
theorem body44 : Tryd.f44.body = some c44 := by kernel_rfl
theorem res44 : Tryd.f44.results.toList.mapM (trR Tryd.prog) = some [.t 2] := by kernel_rfl
theorem nt44 : Tryd.f44.ntmps = 5 := by kernel_rfl
theorem nm44 : (Tryd.f44.name == "runtime.NumGoroutine") = false := by kernel_rfl
def a44_0 : List AO := [⟨(some 2), none, .mv (.v (.bool false))⟩]
theorem tr44_0 : (ro Tryd.f44 0).toList.mapM (trO Tryd.prog 5 (ro Tryd.f44 0)) = some a44_0 := by kernel_rfl
def a44_1 : List AO := [⟨(some 3), none, .mv (.t 0)⟩,
  ⟨(some 4), none, .call 49 [(.t 3), (.v (.int .i64 3))]⟩,
  ⟨(some 2), none, .mv (.t 4)⟩]
theorem tr44_1 : (ro Tryd.f44 1).toList.mapM (trO Tryd.prog 5 (ro Tryd.f44 1)) = some a44_1 := by kernel_rfl
/-- airline/airlineref01.Country -/
noncomputable def c45 : Code := .seq (.region 0 (ro Tryd.f45 0) false) (.seq (.region 1 (ro Tryd.f45 1) false) (.ret))
theorem body45 : Tryd.f45.body = some c45 := by kernel_rfl
theorem res45 : Tryd.f45.results.toList.mapM (trR Tryd.prog) = some [.t 2] := by kernel_rfl
theorem nt45 : Tryd.f45.ntmps = 5 := by kernel_rfl
theorem nm45 : (Tryd.f45.name == "runtime.NumGoroutine") = false := by kernel_rfl
def a45_0 : List AO := [⟨(some 2), none, .mv (.v (.bool false))⟩]
theorem tr45_0 : (ro Tryd.f45 0).toList.mapM (trO Tryd.prog 5 (ro Tryd.f45 0)) = some a45_0 := by kernel_rfl
def a45_1 : List AO := [⟨(some 3), none, .mv (.t 0)⟩,
  ⟨(some 4), none, .call 49 [(.t 3), (.v (.int .i64 2))]⟩,
  ⟨(some 2), none, .mv (.t 4)⟩]
theorem tr45_1 : (ro Tryd.f45 1).toList.mapM (trO Tryd.prog 5 (ro Tryd.f45 1)) = some a45_1 := by kernel_rfl
/-- airline/airlineref05.Check -/
noncomputable def c46 : Code := .seq (.region 0 (ro Tryd.f46 0) false) (.seq (.seq (.region 1 (ro Tryd.f46 1) false) (.cond (.tmp 8) (.seq (.region 2 (ro Tryd.f46 2) false) (.ret)) (.skip))) (.seq (.seq (.region 3 (ro Tryd.f46 3) false) (.cond (.tmp 12) (.seq (.region 4 (ro Tryd.f46 4) false) (.ret)) (.skip))) (.seq (.seq (.region 5 (ro Tryd.f46 5) false) (.block 0 (.loop (.seq (.seq (.region 6 (ro Tryd.f46 6) false) (.cond (.tmp 17) (.skip) (.exit 0))) (.seq (.block 1 (.seq (.region 8 (ro Tryd.f46 8) false) (.seq (.seq (.region 9 (ro Tryd.f46 9) true) (.cond (.tmp 49) (.seq (.region 10 (ro Tryd.f46 10) false) (.ret)) (.skip))) (.seq (.region 11 (ro Tryd.f46 11) false) (.cond (.tmp 53) (.seq (.region 12 (ro Tryd.f46 12) false) (.ret)) (.skip)))))) (.region 7 (ro Tryd.f46 7) false)))))) (.seq (.region 13 (ro Tryd.f46 13) false) (.ret)))))
theorem body46 : Tryd.f46.body = some c46 := by kernel_rfl
theorem res46 : Tryd.f46.results.toList.mapM (trR Tryd.prog) = some [.t 2] := by kernel_rfl
theorem nt46 : Tryd.f46.ntmps = 54 := by kernel_rfl
theorem nm46 : (Tryd.f46.name == "runtime.NumGoroutine") = false := by kernel_rfl
def a46_0 : List AO := [⟨(some 1), none, .box 33 (.t 0)⟩,
  ⟨(some 2), none, .mv (.v (.int .i64 0))⟩]
theorem tr46_0 : (ro Tryd.f46 0).toList.mapM (trO Tryd.prog 54 (ro Tryd.f46 0)) = some a46_0 := by kernel_rfl
def a46_1 : List AO := [⟨(some 5), none, .fld 1 (.t 1)⟩,
  ⟨(some 6), none, .load none (.t 5)⟩,
  ⟨(some 7), none, .len (.t 6)⟩,
  ⟨(some 8), none, .bin .gtr (.t 7) (.v (.int .i64 256))⟩]
theorem tr46_1 : (ro Tryd.f46 1).toList.mapM (trO Tryd.prog 54 (ro Tryd.f46 1)) = some a46_1 := by kernel_rfl
def a46_2 : List AO := [⟨(some 2), none, .mv (.v (.int .i64 4))⟩]
theorem tr46_2 : (ro Tryd.f46 2).toList.mapM (trO Tryd.prog 54 (ro Tryd.f46 2)) = some a46_2 := by kernel_rfl
def a46_3 : List AO := [⟨(some 9), none, .fld 0 (.t 1)⟩,
  ⟨(some 10), none, .load none (.t 9)⟩,
  ⟨(some 11), none, .call 50 [(.t 10)]⟩,
  ⟨(some 12), none, .un .not (.t 11)⟩]
theorem tr46_3 : (ro Tryd.f46 3).toList.mapM (trO Tryd.prog 54 (ro Tryd.f46 3)) = some a46_3 := by kernel_rfl
def a46_4 : List AO := [⟨(some 2), none, .mv (.v (.int .i64 2))⟩]
theorem tr46_4 : (ro Tryd.f46 4).toList.mapM (trO Tryd.prog 54 (ro Tryd.f46 4)) = some a46_4 := by kernel_rfl
def a46_5 : List AO := [⟨(some 3), none, .mv (.v (.int .i64 0))⟩]
theorem tr46_5 : (ro Tryd.f46 5).toList.mapM (trO Tryd.prog 54 (ro Tryd.f46 5)) = some a46_5 := by kernel_rfl
def a46_6 : List AO := [⟨(some 13), none, .mv (.t 3)⟩,
  ⟨(some 14), none, .fld 1 (.t 1)⟩,
  ⟨(some 15), none, .load none (.t 14)⟩,
  ⟨(some 16), none, .len (.t 15)⟩,
  ⟨(some 17), none, .bin .lss (.t 13) (.t 16)⟩]
theorem tr46_6 : (ro Tryd.f46 6).toList.mapM (trO Tryd.prog 54 (ro Tryd.f46 6)) = some a46_6 := by kernel_rfl
def a46_8 : List AO := [⟨(some 20), none, .fld 1 (.t 1)⟩,
  ⟨(some 21), none, .load none (.t 20)⟩,
  ⟨(some 22), none, .mv (.t 3)⟩,
  ⟨(some 23), none, .idx 2 (.t 21) (.t 22)⟩,
  ⟨(some 24), none, .load (some 2) (.t 23)⟩,
  ⟨(some 4), none, .alloc 69 [(.int .i64 0), (.int .i64 0)]⟩,
  ⟨none, none, .store 2 (.t 4) (.t 24)⟩]
theorem tr46_8 : (ro Tryd.f46 8).toList.mapM (trO Tryd.prog 54 (ro Tryd.f46 8)) = some a46_8 := by kernel_rfl
def a46_9 : List AO := [⟨(some 25), none, .fld 0 (.t 4)⟩,
  ⟨(some 26), none, .load none (.t 25)⟩,
  ⟨(some 27), none, .bin .lss (.t 26) (.v (.int .i64 0))⟩,
  ⟨(some 28), none, .mv (.t 27)⟩,
  ⟨(some 29), some (28, false), .fld 0 (.t 4)⟩,
  ⟨(some 30), some (28, false), .load none (.t 29)⟩,
  ⟨(some 31), some (28, false), .bin .geq (.t 30) (.v (.int .i64 52596000))⟩,
  ⟨(some 32), none, .pick (.t 28) (.v (.bool true)) (.t 31)⟩,
  ⟨(some 33), none, .mv (.t 32)⟩,
  ⟨(some 34), some (33, false), .mv (.t 3)⟩,
  ⟨(some 35), some (33, false), .bin .gtr (.t 34) (.v (.int .i64 0))⟩,
  ⟨(some 36), some (33, false), .mv (.t 35)⟩,
  ⟨(some 37), some (36, true), .fld 0 (.t 4)⟩,
  ⟨(some 38), some (36, true), .load none (.t 37)⟩,
  ⟨(some 39), some (36, true), .fld 1 (.t 1)⟩,
  ⟨(some 40), some (36, true), .load none (.t 39)⟩,
  ⟨(some 41), some (36, true), .mv (.t 3)⟩,
  ⟨(some 42), some (36, true), .bin .sub (.t 41) (.v (.int .i64 1))⟩,
  ⟨(some 43), some (36, true), .idx 2 (.t 40) (.t 42)⟩,
  ⟨(some 44), some (36, true), .fld 0 (.t 43)⟩,
  ⟨(some 45), some (36, true), .load none (.t 44)⟩,
  ⟨(some 46), some (36, true), .bin .sub (.t 38) (.t 45)⟩,
  ⟨(some 47), some (36, true), .bin .lss (.t 46) (.v (.int .i64 2880))⟩,
  ⟨(some 48), some (33, false), .pick (.t 36) (.t 47) (.v (.bool false))⟩,
  ⟨(some 49), none, .pick (.t 33) (.v (.bool true)) (.t 48)⟩]
theorem tr46_9 : (ro Tryd.f46 9).toList.mapM (trO Tryd.prog 54 (ro Tryd.f46 9)) = some a46_9 := by kernel_rfl
def d46_9 : List (List Nat) := [[], [0], [0, 1], [0, 1, 2], [0, 1, 2, 3], [0, 1, 2, 3, 4], [0, 1, 2, 3, 4, 5], [0, 1, 2, 3, 4, 5, 6], [0, 1, 2, 3, 4, 5, 6, 7], [0, 1, 2, 3, 4, 5, 6, 7, 8], [0, 1, 2, 3, 4, 5, 6, 7, 8, 9], [0, 1, 2, 3, 4, 5, 6, 7, 8, 9, 10], [0, 1, 2, 3, 4, 5, 6, 7, 8, 9, 10, 11], [0, 1, 2, 3, 4, 5, 6, 7, 8, 9, 10, 11, 12], [0, 1, 2, 3, 4, 5, 6, 7, 8, 9, 10, 11], [0, 1, 2, 3, 4, 5, 6, 7, 8, 9, 10, 11, 14], [0, 1, 2, 3, 4, 5, 6, 7, 8, 9, 10, 11], [0, 1, 2, 3, 4, 5, 6, 7, 8, 9, 10, 11, 16], [0, 1, 2, 3, 4, 5, 6, 7, 8, 9, 10, 11, 14, 15, 16, 17], [0, 1, 2, 3, 4, 5, 6, 7, 8, 9, 10, 11, 14, 15, 16, 17, 18], [0, 1, 2, 3, 4, 5, 6, 7, 8, 9, 10, 11, 14, 15, 16, 17, 18, 19], [0, 1, 2, 3, 4, 5, 6, 7, 8, 9, 10, 11, 12, 13, 14, 15, 16, 17, 18, 19, 20], [0, 1, 2, 3, 4, 5, 6, 7, 8, 9, 10, 11, 12, 13, 14, 15, 16, 17, 18, 19, 20, 21], [0, 1, 2, 3, 4, 5, 6, 7, 8, 9, 10, 11, 12, 13, 14, 15, 16, 17, 18, 19, 20, 21, 22], [0, 1, 2, 3, 4, 5, 6, 7, 8, 9, 10, 11, 12, 13, 14, 15, 16, 17, 18, 19, 20, 21, 22, 23]]
theorem ok46_9 : okReg (ro Tryd.f46 9) a46_9 d46_9 = true := by kernel_rfl
def a46_10 : List AO := [⟨(some 2), none, .mv (.v (.int .i64 13))⟩]
theorem tr46_10 : (ro Tryd.f46 10).toList.mapM (trO Tryd.prog 54 (ro Tryd.f46 10)) = some a46_10 := by kernel_rfl
def a46_11 : List AO := [⟨(some 50), none, .fld 1 (.t 4)⟩,
  ⟨(some 51), none, .load none (.t 50)⟩,
  ⟨(some 52), none, .call 50 [(.t 51)]⟩,
  ⟨(some 53), none, .un .not (.t 52)⟩]
theorem tr46_11 : (ro Tryd.f46 11).toList.mapM (trO Tryd.prog 54 (ro Tryd.f46 11)) = some a46_11 := by kernel_rfl
def a46_12 : List AO := [⟨(some 2), none, .mv (.v (.int .i64 2))⟩]
theorem tr46_12 : (ro Tryd.f46 12).toList.mapM (trO Tryd.prog 54 (ro Tryd.f46 12)) = some a46_12 := by kernel_rfl
def a46_7 : List AO := [⟨(some 18), none, .mv (.t 3)⟩,
  ⟨(some 19), none, .bin .add (.t 18) (.v (.int .i64 1))⟩,
  ⟨(some 3), none, .mv (.t 19)⟩]
theorem tr46_7 : (ro Tryd.f46 7).toList.mapM (trO Tryd.prog 54 (ro Tryd.f46 7)) = some a46_7 := by kernel_rfl
def a46_13 : List AO := [⟨(some 2), none, .mv (.v (.int .i64 0))⟩]
theorem tr46_13 : (ro Tryd.f46 13).toList.mapM (trO Tryd.prog 54 (ro Tryd.f46 13)) = some a46_13 := by kernel_rfl
/-- airline/airlineref01.digits -/
noncomputable def c47 : Code := .seq (.region 0 (ro Tryd.f47 0) false) (.seq (.seq (.region 1 (ro Tryd.f47 1) false) (.cond (.tmp 4) (.seq (.region 2 (ro Tryd.f47 2) false) (.ret)) (.skip))) (.seq (.region 3 (ro Tryd.f47 3) true) (.ret)))
theorem body47 : Tryd.f47.body = some c47 := by kernel_rfl
theorem res47 : Tryd.f47.results.toList.mapM (trR Tryd.prog) = some [.t 2] := by kernel_rfl
theorem nt47 : Tryd.f47.ntmps = 19 := by kernel_rfl
theorem nm47 : (Tryd.f47.name == "runtime.NumGoroutine") = false := by kernel_rfl
def a47_0 : List AO := [⟨(some 2), none, .mv (.v (.str []))⟩]
theorem tr47_0 : (ro Tryd.f47 0).toList.mapM (trO Tryd.prog 19 (ro Tryd.f47 0)) = some a47_0 := by kernel_rfl
def a47_1 : List AO := [⟨(some 3), none, .mv (.t 0)⟩,
  ⟨(some 4), none, .bin .lss (.t 3) (.v (.int .u64 10))⟩]
theorem tr47_1 : (ro Tryd.f47 1).toList.mapM (trO Tryd.prog 19 (ro Tryd.f47 1)) = some a47_1 := by kernel_rfl
def a47_2 : List AO := [⟨(some 5), none, .mv (.t 0)⟩,
  ⟨(some 6), none, .mv (.t 0)⟩,
  ⟨(some 7), none, .bin .add (.t 6) (.v (.int .u64 1))⟩,
  ⟨(some 8), none, .ssub (some (.t 5)) (some (.t 7)) (.v (.str [48, 49, 50, 51, 52, 53, 54, 55, 56, 57]))⟩,
  ⟨(some 2), none, .mv (.t 8)⟩]
theorem tr47_2 : (ro Tryd.f47 2).toList.mapM (trO Tryd.prog 19 (ro Tryd.f47 2)) = some a47_2 := by kernel_rfl
def a47_3 : List AO := [⟨(some 9), none, .mv (.t 0)⟩,
  ⟨(some 10), none, .bin .quo (.t 9) (.v (.int .u64 10))⟩,
  ⟨(some 11), none, .call 47 [(.t 10)]⟩,
  ⟨(some 12), none, .mv (.t 0)⟩,
  ⟨(some 13), none, .bin .rem (.t 12) (.v (.int .u64 10))⟩,
  ⟨(some 14), none, .mv (.t 0)⟩,
  ⟨(some 15), none, .bin .rem (.t 14) (.v (.int .u64 10))⟩,
  ⟨(some 16), none, .bin .add (.t 15) (.v (.int .u64 1))⟩,
  ⟨(some 17), none, .ssub (some (.t 13)) (some (.t 16)) (.v (.str [48, 49, 50, 51, 52, 53, 54, 55, 56, 57]))⟩,
  ⟨(some 18), none, .bin .add (.t 11) (.t 17)⟩,
  ⟨(some 2), none, .mv (.t 18)⟩]
theorem tr47_3 : (ro Tryd.f47 3).toList.mapM (trO Tryd.prog 19 (ro Tryd.f47 3)) = some a47_3 := by kernel_rfl
def d47_3 : List (List Nat) := [[], [0], [0, 1], [], [3], [], [5], [5, 6], [3, 4, 5, 6, 7], [0, 1, 2, 3, 4, 5, 6, 7, 8], [0, 1, 2, 3, 4, 5, 6, 7, 8, 9]]
theorem ok47_3 : okReg (ro Tryd.f47 3) a47_3 d47_3 = true := by kernel_rfl
/-- airline/airlineref01.letters -/
noncomputable def c49 : Code := .seq (.region 0 (ro Tryd.f49 0) false) (.seq (.seq (.region 1 (ro Tryd.f49 1) false) (.block 0 (.loop (.seq (.seq (.region 2 (ro Tryd.f49 2) false) (.cond (.tmp 9) (.skip) (.exit 0))) (.seq (.block 1 (.seq (.region 4 (ro Tryd.f49 4) false) (.cond (.tmp 16) (.seq (.region 5 (ro Tryd.f49 5) false) (.ret)) (.skip)))) (.region 3 (ro Tryd.f49 3) false)))))) (.seq (.region 6 (ro Tryd.f49 6) false) (.ret)))
theorem body49 : Tryd.f49.body = some c49 := by kernel_rfl
theorem res49 : Tryd.f49.results.toList.mapM (trR Tryd.prog) = some [.t 4] := by kernel_rfl
theorem nt49 : Tryd.f49.ntmps = 21 := by kernel_rfl
theorem nm49 : (Tryd.f49.name == "runtime.NumGoroutine") = false := by kernel_rfl
def a49_0 : List AO := [⟨(some 4), none, .mv (.v (.bool false))⟩]
theorem tr49_0 : (ro Tryd.f49 0).toList.mapM (trO Tryd.prog 21 (ro Tryd.f49 0)) = some a49_0 := by kernel_rfl
def a49_1 : List AO := [⟨(some 5), none, .mv (.v (.int .i64 0))⟩]
theorem tr49_1 : (ro Tryd.f49 1).toList.mapM (trO Tryd.prog 21 (ro Tryd.f49 1)) = some a49_1 := by kernel_rfl
def a49_2 : List AO := [⟨(some 6), none, .mv (.t 5)⟩,
  ⟨(some 7), none, .mv (.t 0)⟩,
  ⟨(some 8), none, .slen (.t 7)⟩,
  ⟨(some 9), none, .bin .lss (.t 6) (.t 8)⟩]
theorem tr49_2 : (ro Tryd.f49 2).toList.mapM (trO Tryd.prog 21 (ro Tryd.f49 2)) = some a49_2 := by kernel_rfl
def a49_4 : List AO := [⟨(some 12), none, .mv (.t 0)⟩,
  ⟨(some 13), none, .mv (.t 5)⟩,
  ⟨(some 14), none, .sidx (.t 12) (.t 13)⟩,
  ⟨(some 15), none, .call 52 [(.t 14)]⟩,
  ⟨(some 16), none, .un .not (.t 15)⟩]
theorem tr49_4 : (ro Tryd.f49 4).toList.mapM (trO Tryd.prog 21 (ro Tryd.f49 4)) = some a49_4 := by kernel_rfl
def a49_5 : List AO := [⟨(some 4), none, .mv (.v (.bool false))⟩]
theorem tr49_5 : (ro Tryd.f49 5).toList.mapM (trO Tryd.prog 21 (ro Tryd.f49 5)) = some a49_5 := by kernel_rfl
def a49_3 : List AO := [⟨(some 10), none, .mv (.t 5)⟩,
  ⟨(some 11), none, .bin .add (.t 10) (.v (.int .i64 1))⟩,
  ⟨(some 5), none, .mv (.t 11)⟩]
theorem tr49_3 : (ro Tryd.f49 3).toList.mapM (trO Tryd.prog 21 (ro Tryd.f49 3)) = some a49_3 := by kernel_rfl
def a49_6 : List AO := [⟨(some 17), none, .mv (.t 0)⟩,
  ⟨(some 18), none, .slen (.t 17)⟩,
  ⟨(some 19), none, .mv (.t 1)⟩,
  ⟨(some 20), none, .bin .eql (.t 18) (.t 19)⟩,
  ⟨(some 4), none, .mv (.t 20)⟩]
theorem tr49_6 : (ro Tryd.f49 6).toList.mapM (trO Tryd.prog 21 (ro Tryd.f49 6)) = some a49_6 := by kernel_rfl
/-- airline/airlineref05.offset -/
noncomputable def c50 : Code := .seq (.region 0 (ro Tryd.f50 0) false) (.seq (.region 1 (ro Tryd.f50 1) false) (.ret))
theorem body50 : Tryd.f50.body = some c50 := by kernel_rfl
theorem res50 : Tryd.f50.results.toList.mapM (trR Tryd.prog) = some [.t 2] := by kernel_rfl
theorem nt50 : Tryd.f50.ntmps = 9 := by kernel_rfl
theorem nm50 : (Tryd.f50.name == "runtime.NumGoroutine") = false := by kernel_rfl
def a50_0 : List AO := [⟨(some 2), none, .mv (.v (.bool false))⟩]
theorem tr50_0 : (ro Tryd.f50 0).toList.mapM (trO Tryd.prog 9 (ro Tryd.f50 0)) = some a50_0 := by kernel_rfl
def a50_1 : List AO := [⟨(some 3), none, .mv (.t 0)⟩,
  ⟨(some 4), none, .bin .geq (.t 3) (.v (.int .i64 (-840)))⟩,
  ⟨(some 5), none, .mv (.t 4)⟩,
  ⟨(some 6), some (5, true), .mv (.t 0)⟩,
  ⟨(some 7), some (5, true), .bin .leq (.t 6) (.v (.int .i64 840))⟩,
  ⟨(some 8), none, .pick (.t 5) (.t 7) (.v (.bool false))⟩,
  ⟨(some 2), none, .mv (.t 8)⟩]
theorem tr50_1 : (ro Tryd.f50 1).toList.mapM (trO Tryd.prog 9 (ro Tryd.f50 1)) = some a50_1 := by kernel_rfl
/-- airline/airlineref01.upper -/
noncomputable def c52 : Code := .seq (.region 0 (ro Tryd.f52 0) false) (.seq (.region 1 (ro Tryd.f52 1) false) (.ret))
theorem body52 : Tryd.f52.body = some c52 := by kernel_rfl
theorem res52 : Tryd.f52.results.toList.mapM (trR Tryd.prog) = some [.t 2] := by kernel_rfl
theorem nt52 : Tryd.f52.ntmps = 9 := by kernel_rfl
theorem nm52 : (Tryd.f52.name == "runtime.NumGoroutine") = false := by kernel_rfl
def a52_0 : List AO := [⟨(some 2), none, .mv (.v (.bool false))⟩]
theorem tr52_0 : (ro Tryd.f52 0).toList.mapM (trO Tryd.prog 9 (ro Tryd.f52 0)) = some a52_0 := by kernel_rfl
def a52_1 : List AO := [⟨(some 3), none, .mv (.t 0)⟩,
  ⟨(some 4), none, .bin .geq (.t 3) (.v (.int .u8 65))⟩,
  ⟨(some 5), none, .mv (.t 4)⟩,
  ⟨(some 6), some (5, true), .mv (.t 0)⟩,
  ⟨(some 7), some (5, true), .bin .leq (.t 6) (.v (.int .u8 90))⟩,
  ⟨(some 8), none, .pick (.t 5) (.t 7) (.v (.bool false))⟩,
  ⟨(some 2), none, .mv (.t 8)⟩]
theorem tr52_1 : (ro Tryd.f52 1).toList.mapM (trO Tryd.prog 9 (ro Tryd.f52 1)) = some a52_1 := by kernel_rfl
end Go.Proofs.YtcongikpaonliaaDoor
