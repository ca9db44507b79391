/- The code of the functions, region by region, as abstract operations. -/
import Derived.Test.YtbakkdnhbeldcaaDoorProg
import Derived.Test.YtbakkdnhbeldcaaDoorAv21
namespace Go.Proofs.YtbakkdnhbeldcaaDoor
open Go Go.RowKit
def findR : Code → Nat → Option (Array Oper)
  | .region i ops _, k => if i = k then some ops else none
  | .seq a b, k => (findR a k).or (findR b k)
  | .cond _ a b, k => (findR a k).or (findR b k)
  | .block _ c, k => findR c k
  | .loop c, k => findR c k
  | .scope c, k => findR c k
  | _, _ => none
def ro (f : Func) (k : Nat) : Array Oper := ((f.body.bind fun c => findR c k).getD #[])
theorem mixed : Tryd.prog.follows .mixedOrders = true := by kernel_rfl
/-- airline/airlinelaw32.PartyChecks -/
noncomputable def c3 : Code := .seq (.region 0 (ro Tryd.f3 0) false) (.seq (.region 1 (ro Tryd.f3 1) false) (.ret))
theorem body3 : Tryd.f3.body = some c3 := by kernel_rfl
theorem res3 : Tryd.f3.results.toList.mapM (trR Tryd.prog) = some [.t 4] := by kernel_rfl
theorem nt3 : Tryd.f3.ntmps = 20 := by kernel_rfl
theorem nm3 : (Tryd.f3.name == "runtime.NumGoroutine") = false := by kernel_rfl
def a3_0 : List AO := [⟨(some 4), none, .mv (.v (.bool false))⟩]
theorem tr3_0 : (ro Tryd.f3 0).toList.mapM (trO Tryd.prog 20 (ro Tryd.f3 0)) = some a3_0 := by kernel_rfl
def a3_1 : List AO := [⟨(some 5), none, .mv (.t 0)⟩,
  ⟨(some 6), none, .call 8 [(.t 5)]⟩,
  ⟨(some 7), none, .un .not (.t 6)⟩,
  ⟨(some 8), none, .mv (.t 7)⟩,
  ⟨(some 9), some (8, false), .mv (.t 0)⟩,
  ⟨(some 10), some (8, false), .mv (.t 1)⟩,
  ⟨(some 11), some (8, false), .call 10 [(.t 9), (.t 10)]⟩,
  ⟨(some 12), some (8, false), .mv (.t 0)⟩,
  ⟨(some 13), some (8, false), .mv (.t 1)⟩,
  ⟨(some 14), some (8, false), .call 11 [(.t 12), (.t 13)]⟩,
  ⟨(some 15), some (8, false), .call 9 [(.t 11), (.t 14)]⟩,
  ⟨(some 16), some (8, false), .mv (.t 15)⟩,
  ⟨(some 17), some (16, true), .call 12 []⟩,
  ⟨(some 18), some (8, false), .pick (.t 16) (.t 17) (.v (.bool false))⟩,
  ⟨(some 19), none, .pick (.t 8) (.v (.bool true)) (.t 18)⟩,
  ⟨(some 4), none, .mv (.t 19)⟩]
theorem tr3_1 : (ro Tryd.f3 1).toList.mapM (trO Tryd.prog 20 (ro Tryd.f3 1)) = some a3_1 := by kernel_rfl
/-- airline/airlinelaw32.PartySeats -/
noncomputable def c4 : Code := .seq (.region 0 (ro Tryd.f4 0) false) (.seq (.seq (.region 1 (ro Tryd.f4 1) false) (.cond (.tmp 15) (.seq (.region 2 (ro Tryd.f4 2) false) (.ret)) (.skip))) (.seq (.region 3 (ro Tryd.f4 3) false) (.seq (.seq (.region 4 (ro Tryd.f4 4) false) (.cond (.tmp 24) (.seq (.region 5 (ro Tryd.f4 5) false) (.ret)) (.skip))) (.seq (.region 6 (ro Tryd.f4 6) false) (.seq (.region 7 (ro Tryd.f4 7) false) (.ret))))))
theorem body4 : Tryd.f4.body = some c4 := by kernel_rfl
theorem res4 : Tryd.f4.results.toList.mapM (trR Tryd.prog) = some [.t 8] := by kernel_rfl
theorem nt4 : Tryd.f4.ntmps = 50 := by kernel_rfl
theorem nm4 : (Tryd.f4.name == "runtime.NumGoroutine") = false := by kernel_rfl
def a4_0 : List AO := [⟨(some 7), none, .box 30 (.t 3)⟩,
  ⟨(some 8), none, .mv (.v (.bool false))⟩]
theorem tr4_0 : (ro Tryd.f4 0).toList.mapM (trO Tryd.prog 50 (ro Tryd.f4 0)) = some a4_0 := by kernel_rfl
def a4_1 : List AO := [⟨(some 13), none, .mv (.t 0)⟩,
  ⟨(some 14), none, .call 8 [(.t 13)]⟩,
  ⟨(some 15), none, .un .not (.t 14)⟩]
theorem tr4_1 : (ro Tryd.f4 1).toList.mapM (trO Tryd.prog 50 (ro Tryd.f4 1)) = some a4_1 := by kernel_rfl
def a4_2 : List AO := [⟨(some 16), none, .call 12 []⟩,
  ⟨(some 8), none, .mv (.t 16)⟩]
theorem tr4_2 : (ro Tryd.f4 2).toList.mapM (trO Tryd.prog 50 (ro Tryd.f4 2)) = some a4_2 := by kernel_rfl
def a4_3 : List AO := [⟨(some 17), none, .mv (.t 0)⟩,
  ⟨(some 18), none, .mv (.t 1)⟩,
  ⟨(some 19), none, .call 13 [(.t 17), (.t 18)]⟩,
  ⟨(some 9), none, .mv (.t 19)⟩]
theorem tr4_3 : (ro Tryd.f4 3).toList.mapM (trO Tryd.prog 50 (ro Tryd.f4 3)) = some a4_3 := by kernel_rfl
def a4_4 : List AO := [⟨(some 20), none, .mv (.t 9)⟩,
  ⟨(some 21), none, .mv (.t 0)⟩,
  ⟨(some 22), none, .mv (.t 1)⟩,
  ⟨(some 23), none, .call 14 [(.t 21), (.t 22)]⟩,
  ⟨(some 24), none, .bin .neq (.t 20) (.t 23)⟩]
theorem tr4_4 : (ro Tryd.f4 4).toList.mapM (trO Tryd.prog 50 (ro Tryd.f4 4)) = some a4_4 := by kernel_rfl
def a4_5 : List AO := [⟨(some 8), none, .mv (.v (.bool false))⟩]
theorem tr4_5 : (ro Tryd.f4 5).toList.mapM (trO Tryd.prog 50 (ro Tryd.f4 5)) = some a4_5 := by kernel_rfl
def a4_6 : List AO := [⟨(some 26), none, .mv (.t 0)⟩,
  ⟨(some 27), none, .mv (.t 1)⟩,
  ⟨(some 28), none, .mv (.t 2)⟩,
  ⟨(some 29), none, .load (some 3) (.t 7)⟩,
  ⟨(some 30), none, .call 15 [(.t 26), (.t 27), (.t 28), (.t 29)]⟩,
  ⟨(some 25), none, .mv (.t 30)⟩,
  ⟨(some 31), none, .ext 0 (.t 25)⟩,
  ⟨(some 32), none, .ext 1 (.t 25)⟩,
  ⟨(some 33), none, .ext 2 (.t 25)⟩,
  ⟨(some 10), none, .mv (.t 31)⟩,
  ⟨(some 11), none, .mv (.t 32)⟩,
  ⟨(some 12), none, .mv (.t 33)⟩]
theorem tr4_6 : (ro Tryd.f4 6).toList.mapM (trO Tryd.prog 50 (ro Tryd.f4 6)) = some a4_6 := by kernel_rfl
def a4_7 : List AO := [⟨(some 34), none, .mv (.t 12)⟩,
  ⟨(some 35), none, .bin .neq (.t 34) (.v (.int .i64 0))⟩,
  ⟨(some 36), none, .mv (.t 35)⟩,
  ⟨(some 37), some (36, false), .mv (.t 1)⟩,
  ⟨(some 38), some (36, false), .bin .gtr (.t 37) (.v (.int .i64 99))⟩,
  ⟨(some 39), none, .pick (.t 36) (.v (.bool true)) (.t 38)⟩,
  ⟨(some 40), none, .mv (.t 39)⟩,
  ⟨(some 41), some (40, false), .mv (.t 10)⟩,
  ⟨(some 42), some (40, false), .mv (.t 11)⟩,
  ⟨(some 43), some (40, false), .call 13 [(.t 41), (.t 42)]⟩,
  ⟨(some 44), some (40, false), .mv (.t 9)⟩,
  ⟨(some 45), some (40, false), .bin .eql (.t 43) (.t 44)⟩,
  ⟨(some 46), none, .pick (.t 40) (.v (.bool true)) (.t 45)⟩,
  ⟨(some 47), none, .mv (.t 46)⟩,
  ⟨(some 48), some (47, true), .call 12 []⟩,
  ⟨(some 49), none, .pick (.t 47) (.t 48) (.v (.bool false))⟩,
  ⟨(some 8), none, .mv (.t 49)⟩]
theorem tr4_7 : (ro Tryd.f4 7).toList.mapM (trO Tryd.prog 50 (ro Tryd.f4 7)) = some a4_7 := by kernel_rfl
/-- airline/airlinelaw32.PartyNames -/
noncomputable def c5 : Code := .seq (.region 0 (ro Tryd.f5 0) false) (.seq (.seq (.region 1 (ro Tryd.f5 1) false) (.cond (.tmp 18) (.seq (.region 2 (ro Tryd.f5 2) false) (.ret)) (.skip))) (.seq (.region 3 (ro Tryd.f5 3) false) (.seq (.region 4 (ro Tryd.f5 4) false) (.seq (.region 5 (ro Tryd.f5 5) false) (.seq (.seq (.region 6 (ro Tryd.f5 6) false) (.cond (.tmp 60) (.seq (.region 7 (ro Tryd.f5 7) false) (.ret)) (.skip))) (.seq (.seq (.region 8 (ro Tryd.f5 8) false) (.cond (.tmp 69) (.seq (.region 9 (ro Tryd.f5 9) false) (.ret)) (.skip))) (.seq (.region 10 (ro Tryd.f5 10) false) (.ret))))))))
theorem body5 : Tryd.f5.body = some c5 := by kernel_rfl
theorem res5 : Tryd.f5.results.toList.mapM (trR Tryd.prog) = some [.t 8] := by kernel_rfl
theorem nt5 : Tryd.f5.ntmps = 79 := by kernel_rfl
theorem nm5 : (Tryd.f5.name == "runtime.NumGoroutine") = false := by kernel_rfl
def a5_0 : List AO := [⟨(some 7), none, .box 30 (.t 3)⟩,
  ⟨(some 8), none, .mv (.v (.bool false))⟩]
theorem tr5_0 : (ro Tryd.f5 0).toList.mapM (trO Tryd.prog 79 (ro Tryd.f5 0)) = some a5_0 := by kernel_rfl
def a5_1 : List AO := [⟨(some 16), none, .mv (.t 0)⟩,
  ⟨(some 17), none, .call 8 [(.t 16)]⟩,
  ⟨(some 18), none, .un .not (.t 17)⟩]
theorem tr5_1 : (ro Tryd.f5 1).toList.mapM (trO Tryd.prog 79 (ro Tryd.f5 1)) = some a5_1 := by kernel_rfl
def a5_2 : List AO := [⟨(some 19), none, .call 12 []⟩,
  ⟨(some 8), none, .mv (.t 19)⟩]
theorem tr5_2 : (ro Tryd.f5 2).toList.mapM (trO Tryd.prog 79 (ro Tryd.f5 2)) = some a5_2 := by kernel_rfl
def a5_3 : List AO := [⟨(some 20), none, .slc 30 3 false []⟩,
  ⟨(some 21), none, .mv (.t 0)⟩,
  ⟨(some 22), none, .app 30 3 48 (.t 20) (.t 21)⟩,
  ⟨(some 9), none, .mv (.t 22)⟩]
theorem tr5_3 : (ro Tryd.f5 3).toList.mapM (trO Tryd.prog 79 (ro Tryd.f5 3)) = some a5_3 := by kernel_rfl
def a5_4 : List AO := [⟨(some 24), none, .mv (.t 0)⟩,
  ⟨(some 25), none, .mv (.t 1)⟩,
  ⟨(some 26), none, .mv (.t 2)⟩,
  ⟨(some 27), none, .load (some 3) (.t 7)⟩,
  ⟨(some 28), none, .call 15 [(.t 24), (.t 25), (.t 26), (.t 27)]⟩,
  ⟨(some 23), none, .mv (.t 28)⟩,
  ⟨(some 29), none, .ext 0 (.t 23)⟩,
  ⟨(some 30), none, .ext 1 (.t 23)⟩,
  ⟨(some 31), none, .ext 2 (.t 23)⟩,
  ⟨(some 10), none, .mv (.t 29)⟩,
  ⟨(some 11), none, .mv (.t 30)⟩,
  ⟨(some 12), none, .mv (.t 31)⟩]
theorem tr5_4 : (ro Tryd.f5 4).toList.mapM (trO Tryd.prog 79 (ro Tryd.f5 4)) = some a5_4 := by kernel_rfl
def a5_5 : List AO := [⟨(some 33), none, .mv (.t 0)⟩,
  ⟨(some 34), none, .mv (.t 1)⟩,
  ⟨(some 35), none, .mv (.t 2)⟩,
  ⟨(some 36), none, .load (some 3) (.t 7)⟩,
  ⟨(some 37), none, .call 16 [(.t 33), (.t 34), (.t 35), (.t 36)]⟩,
  ⟨(some 32), none, .mv (.t 37)⟩,
  ⟨(some 38), none, .ext 0 (.t 32)⟩,
  ⟨(some 39), none, .ext 1 (.t 32)⟩,
  ⟨(some 40), none, .ext 2 (.t 32)⟩,
  ⟨(some 13), none, .mv (.t 38)⟩,
  ⟨(some 14), none, .mv (.t 39)⟩,
  ⟨(some 15), none, .mv (.t 40)⟩]
theorem tr5_5 : (ro Tryd.f5 5).toList.mapM (trO Tryd.prog 79 (ro Tryd.f5 5)) = some a5_5 := by kernel_rfl
def a5_6 : List AO := [⟨(some 41), none, .mv (.t 10)⟩,
  ⟨(some 42), none, .mv (.t 13)⟩,
  ⟨(some 43), none, .call 17 [(.t 41), (.t 42)]⟩,
  ⟨(some 44), none, .un .not (.t 43)⟩,
  ⟨(some 45), none, .mv (.t 44)⟩,
  ⟨(some 46), some (45, false), .mv (.t 11)⟩,
  ⟨(some 47), some (45, false), .mv (.t 14)⟩,
  ⟨(some 48), some (45, false), .bin .neq (.t 46) (.t 47)⟩,
  ⟨(some 49), none, .pick (.t 45) (.v (.bool true)) (.t 48)⟩,
  ⟨(some 50), none, .mv (.t 49)⟩,
  ⟨(some 51), some (50, false), .mv (.t 12)⟩,
  ⟨(some 52), some (50, false), .mv (.t 15)⟩,
  ⟨(some 53), some (50, false), .bin .neq (.t 51) (.t 52)⟩,
  ⟨(some 54), none, .pick (.t 50) (.v (.bool true)) (.t 53)⟩,
  ⟨(some 55), none, .mv (.t 54)⟩,
  ⟨(some 56), some (55, false), .mv (.t 0)⟩,
  ⟨(some 57), some (55, false), .mv (.t 9)⟩,
  ⟨(some 58), some (55, false), .call 17 [(.t 56), (.t 57)]⟩,
  ⟨(some 59), some (55, false), .un .not (.t 58)⟩,
  ⟨(some 60), none, .pick (.t 55) (.v (.bool true)) (.t 59)⟩]
theorem tr5_6 : (ro Tryd.f5 6).toList.mapM (trO Tryd.prog 79 (ro Tryd.f5 6)) = some a5_6 := by kernel_rfl
def a5_7 : List AO := [⟨(some 8), none, .mv (.v (.bool false))⟩]
theorem tr5_7 : (ro Tryd.f5 7).toList.mapM (trO Tryd.prog 79 (ro Tryd.f5 7)) = some a5_7 := by kernel_rfl
def a5_8 : List AO := [⟨(some 61), none, .mv (.t 12)⟩,
  ⟨(some 62), none, .bin .neq (.t 61) (.v (.int .i64 0))⟩,
  ⟨(some 63), none, .mv (.t 62)⟩,
  ⟨(some 64), some (63, false), .mv (.t 0)⟩,
  ⟨(some 65), some (63, false), .mv (.t 1)⟩,
  ⟨(some 66), some (63, false), .call 11 [(.t 64), (.t 65)]⟩,
  ⟨(some 67), some (63, false), .len (.t 66)⟩,
  ⟨(some 68), some (63, false), .bin .gtr (.t 67) (.v (.int .i64 0))⟩,
  ⟨(some 69), none, .pick (.t 63) (.v (.bool true)) (.t 68)⟩]
theorem tr5_8 : (ro Tryd.f5 8).toList.mapM (trO Tryd.prog 79 (ro Tryd.f5 8)) = some a5_8 := by kernel_rfl
def a5_9 : List AO := [⟨(some 70), none, .call 12 []⟩,
  ⟨(some 8), none, .mv (.t 70)⟩]
theorem tr5_9 : (ro Tryd.f5 9).toList.mapM (trO Tryd.prog 79 (ro Tryd.f5 9)) = some a5_9 := by kernel_rfl
def a5_10 : List AO := [⟨(some 71), none, .mv (.t 10)⟩,
  ⟨(some 72), none, .mv (.t 11)⟩,
  ⟨(some 73), none, .call 10 [(.t 71), (.t 72)]⟩,
  ⟨(some 74), none, .len (.t 73)⟩,
  ⟨(some 75), none, .bin .eql (.t 74) (.v (.int .i64 0))⟩,
  ⟨(some 76), none, .mv (.t 75)⟩,
  ⟨(some 77), some (76, true), .call 12 []⟩,
  ⟨(some 78), none, .pick (.t 76) (.t 77) (.v (.bool false))⟩,
  ⟨(some 8), none, .mv (.t 78)⟩]
theorem tr5_10 : (ro Tryd.f5 10).toList.mapM (trO Tryd.prog 79 (ro Tryd.f5 10)) = some a5_10 := by kernel_rfl
/-- airline/airlinelaw32.PartySplits -/
noncomputable def c6 : Code := .seq (.region 0 (ro Tryd.f6 0) false) (.seq (.seq (.region 1 (ro Tryd.f6 1) false) (.cond (.tmp 18) (.seq (.region 2 (ro Tryd.f6 2) false) (.ret)) (.skip))) (.seq (.region 3 (ro Tryd.f6 3) false) (.seq (.region 4 (ro Tryd.f6 4) false) (.seq (.seq (.region 5 (ro Tryd.f6 5) false) (.cond (.tmp 48) (.seq (.region 6 (ro Tryd.f6 6) false) (.ret)) (.skip))) (.seq (.region 7 (ro Tryd.f6 7) false) (.ret))))))
theorem body6 : Tryd.f6.body = some c6 := by kernel_rfl
theorem res6 : Tryd.f6.results.toList.mapM (trR Tryd.prog) = some [.t 4] := by kernel_rfl
theorem nt6 : Tryd.f6.ntmps = 74 := by kernel_rfl
theorem nm6 : (Tryd.f6.name == "runtime.NumGoroutine") = false := by kernel_rfl
def a6_0 : List AO := [⟨(some 4), none, .mv (.v (.bool false))⟩]
theorem tr6_0 : (ro Tryd.f6 0).toList.mapM (trO Tryd.prog 74 (ro Tryd.f6 0)) = some a6_0 := by kernel_rfl
def a6_1 : List AO := [⟨(some 11), none, .mv (.t 0)⟩,
  ⟨(some 12), none, .call 8 [(.t 11)]⟩,
  ⟨(some 13), none, .un .not (.t 12)⟩,
  ⟨(some 14), none, .mv (.t 13)⟩,
  ⟨(some 15), some (14, false), .mv (.t 1)⟩,
  ⟨(some 16), some (14, false), .len (.t 15)⟩,
  ⟨(some 17), some (14, false), .bin .gtr (.t 16) (.v (.int .i64 150))⟩,
  ⟨(some 18), none, .pick (.t 14) (.v (.bool true)) (.t 17)⟩]
theorem tr6_1 : (ro Tryd.f6 1).toList.mapM (trO Tryd.prog 74 (ro Tryd.f6 1)) = some a6_1 := by kernel_rfl
def a6_2 : List AO := [⟨(some 19), none, .call 12 []⟩,
  ⟨(some 4), none, .mv (.t 19)⟩]
theorem tr6_2 : (ro Tryd.f6 2).toList.mapM (trO Tryd.prog 74 (ro Tryd.f6 2)) = some a6_2 := by kernel_rfl
def a6_3 : List AO := [⟨(some 21), none, .mv (.t 0)⟩,
  ⟨(some 22), none, .mv (.t 1)⟩,
  ⟨(some 23), none, .call 18 [(.t 21), (.t 22)]⟩,
  ⟨(some 20), none, .mv (.t 23)⟩,
  ⟨(some 24), none, .ext 0 (.t 20)⟩,
  ⟨(some 25), none, .ext 1 (.t 20)⟩,
  ⟨(some 26), none, .ext 2 (.t 20)⟩,
  ⟨(some 5), none, .mv (.t 24)⟩,
  ⟨(some 6), none, .mv (.t 25)⟩,
  ⟨(some 7), none, .mv (.t 26)⟩]
theorem tr6_3 : (ro Tryd.f6 3).toList.mapM (trO Tryd.prog 74 (ro Tryd.f6 3)) = some a6_3 := by kernel_rfl
def a6_4 : List AO := [⟨(some 28), none, .mv (.t 0)⟩,
  ⟨(some 29), none, .mv (.t 1)⟩,
  ⟨(some 30), none, .call 19 [(.t 28), (.t 29)]⟩,
  ⟨(some 27), none, .mv (.t 30)⟩,
  ⟨(some 31), none, .ext 0 (.t 27)⟩,
  ⟨(some 32), none, .ext 1 (.t 27)⟩,
  ⟨(some 33), none, .ext 2 (.t 27)⟩,
  ⟨(some 8), none, .mv (.t 31)⟩,
  ⟨(some 9), none, .mv (.t 32)⟩,
  ⟨(some 10), none, .mv (.t 33)⟩]
theorem tr6_4 : (ro Tryd.f6 4).toList.mapM (trO Tryd.prog 74 (ro Tryd.f6 4)) = some a6_4 := by kernel_rfl
def a6_5 : List AO := [⟨(some 34), none, .mv (.t 5)⟩,
  ⟨(some 35), none, .mv (.t 8)⟩,
  ⟨(some 36), none, .call 17 [(.t 34), (.t 35)]⟩,
  ⟨(some 37), none, .un .not (.t 36)⟩,
  ⟨(some 38), none, .mv (.t 37)⟩,
  ⟨(some 39), some (38, false), .mv (.t 6)⟩,
  ⟨(some 40), some (38, false), .mv (.t 9)⟩,
  ⟨(some 41), some (38, false), .call 17 [(.t 39), (.t 40)]⟩,
  ⟨(some 42), some (38, false), .un .not (.t 41)⟩,
  ⟨(some 43), none, .pick (.t 38) (.v (.bool true)) (.t 42)⟩,
  ⟨(some 44), none, .mv (.t 43)⟩,
  ⟨(some 45), some (44, false), .mv (.t 7)⟩,
  ⟨(some 46), some (44, false), .mv (.t 10)⟩,
  ⟨(some 47), some (44, false), .bin .neq (.t 45) (.t 46)⟩,
  ⟨(some 48), none, .pick (.t 44) (.v (.bool true)) (.t 47)⟩]
theorem tr6_5 : (ro Tryd.f6 5).toList.mapM (trO Tryd.prog 74 (ro Tryd.f6 5)) = some a6_5 := by kernel_rfl
def a6_6 : List AO := [⟨(some 4), none, .mv (.v (.bool false))⟩]
theorem tr6_6 : (ro Tryd.f6 6).toList.mapM (trO Tryd.prog 74 (ro Tryd.f6 6)) = some a6_6 := by kernel_rfl
def a6_7 : List AO := [⟨(some 49), none, .mv (.t 7)⟩,
  ⟨(some 50), none, .bin .neq (.t 49) (.v (.int .i64 0))⟩,
  ⟨(some 51), none, .mv (.t 50)⟩,
  ⟨(some 52), some (51, false), .mv (.t 5)⟩,
  ⟨(some 53), some (51, false), .len (.t 52)⟩,
  ⟨(some 54), some (51, false), .mv (.t 6)⟩,
  ⟨(some 55), some (51, false), .len (.t 54)⟩,
  ⟨(some 56), some (51, false), .bin .add (.t 53) (.t 55)⟩,
  ⟨(some 57), some (51, false), .mv (.t 0)⟩,
  ⟨(some 58), some (51, false), .len (.t 57)⟩,
  ⟨(some 59), some (51, false), .bin .eql (.t 56) (.t 58)⟩,
  ⟨(some 60), some (51, false), .mv (.t 59)⟩,
  ⟨(some 61), some (60, true), .mv (.t 5)⟩,
  ⟨(some 62), some (60, true), .call 13 [(.t 61), (.v (.int .i64 0))]⟩,
  ⟨(some 63), some (60, true), .mv (.t 6)⟩,
  ⟨(some 64), some (60, true), .call 13 [(.t 63), (.v (.int .i64 0))]⟩,
  ⟨(some 65), some (60, true), .bin .add (.t 62) (.t 64)⟩,
  ⟨(some 66), some (60, true), .mv (.t 0)⟩,
  ⟨(some 67), some (60, true), .call 13 [(.t 66), (.v (.int .i64 0))]⟩,
  ⟨(some 68), some (60, true), .bin .eql (.t 65) (.t 67)⟩,
  ⟨(some 69), some (51, false), .pick (.t 60) (.t 68) (.v (.bool false))⟩,
  ⟨(some 70), none, .pick (.t 51) (.v (.bool true)) (.t 69)⟩,
  ⟨(some 71), none, .mv (.t 70)⟩,
  ⟨(some 72), some (71, true), .call 12 []⟩,
  ⟨(some 73), none, .pick (.t 71) (.t 72) (.v (.bool false))⟩,
  ⟨(some 4), none, .mv (.t 73)⟩]
theorem tr6_7 : (ro Tryd.f6 7).toList.mapM (trO Tryd.prog 74 (ro Tryd.f6 7)) = some a6_7 := by kernel_rfl
/-- airline/airlinelaw32.PartyTexts -/
noncomputable def c7 : Code := .seq (.region 0 (ro Tryd.f7 0) false) (.seq (.seq (.region 1 (ro Tryd.f7 1) false) (.cond (.tmp 33) (.seq (.region 2 (ro Tryd.f7 2) false) (.ret)) (.skip))) (.seq (.region 3 (ro Tryd.f7 3) false) (.seq (.region 4 (ro Tryd.f7 4) false) (.seq (.region 5 (ro Tryd.f7 5) false) (.seq (.region 6 (ro Tryd.f7 6) false) (.seq (.seq (.region 7 (ro Tryd.f7 7) false) (.cond (.tmp 72) (.seq (.region 8 (ro Tryd.f7 8) false) (.ret)) (.skip))) (.seq (.region 9 (ro Tryd.f7 9) false) (.seq (.region 10 (ro Tryd.f7 10) false) (.seq (.region 11 (ro Tryd.f7 11) false) (.ret))))))))))
theorem body7 : Tryd.f7.body = some c7 := by kernel_rfl
theorem res7 : Tryd.f7.results.toList.mapM (trR Tryd.prog) = some [.t 4] := by kernel_rfl
theorem nt7 : Tryd.f7.ntmps = 110 := by kernel_rfl
theorem nm7 : (Tryd.f7.name == "runtime.NumGoroutine") = false := by kernel_rfl
def a7_0 : List AO := [⟨(some 2), none, .box 30 (.t 0)⟩,
  ⟨(some 4), none, .mv (.v (.bool false))⟩]
theorem tr7_0 : (ro Tryd.f7 0).toList.mapM (trO Tryd.prog 110 (ro Tryd.f7 0)) = some a7_0 := by kernel_rfl
def a7_1 : List AO := [⟨(some 17), none, .mv (.t 1)⟩,
  ⟨(some 18), none, .slen (.t 17)⟩,
  ⟨(some 19), none, .bin .gtr (.t 18) (.v (.int .i64 200))⟩,
  ⟨(some 20), none, .mv (.t 19)⟩,
  ⟨(some 21), some (20, false), .fld 0 (.t 2)⟩,
  ⟨(some 22), some (20, false), .load none (.t 21)⟩,
  ⟨(some 23), some (20, false), .slen (.t 22)⟩,
  ⟨(some 24), some (20, false), .fld 1 (.t 2)⟩,
  ⟨(some 25), some (20, false), .load none (.t 24)⟩,
  ⟨(some 26), some (20, false), .slen (.t 25)⟩,
  ⟨(some 27), some (20, false), .bin .add (.t 23) (.t 26)⟩,
  ⟨(some 28), some (20, false), .fld 2 (.t 2)⟩,
  ⟨(some 29), some (20, false), .load none (.t 28)⟩,
  ⟨(some 30), some (20, false), .slen (.t 29)⟩,
  ⟨(some 31), some (20, false), .bin .add (.t 27) (.t 30)⟩,
  ⟨(some 32), some (20, false), .bin .gtr (.t 31) (.v (.int .i64 200))⟩,
  ⟨(some 33), none, .pick (.t 20) (.v (.bool true)) (.t 32)⟩]
theorem tr7_1 : (ro Tryd.f7 1).toList.mapM (trO Tryd.prog 110 (ro Tryd.f7 1)) = some a7_1 := by kernel_rfl
def a7_2 : List AO := [⟨(some 34), none, .call 12 []⟩,
  ⟨(some 4), none, .mv (.t 34)⟩]
theorem tr7_2 : (ro Tryd.f7 2).toList.mapM (trO Tryd.prog 110 (ro Tryd.f7 2)) = some a7_2 := by kernel_rfl
def a7_3 : List AO := [⟨(some 36), none, .load (some 3) (.t 2)⟩,
  ⟨(some 37), none, .call 20 [(.t 36)]⟩,
  ⟨(some 35), none, .mv (.t 37)⟩,
  ⟨(some 38), none, .ext 0 (.t 35)⟩,
  ⟨(some 39), none, .ext 1 (.t 35)⟩,
  ⟨(some 5), none, .mv (.t 38)⟩,
  ⟨(some 6), none, .mv (.t 39)⟩]
theorem tr7_3 : (ro Tryd.f7 3).toList.mapM (trO Tryd.prog 110 (ro Tryd.f7 3)) = some a7_3 := by kernel_rfl
def a7_4 : List AO := [⟨(some 41), none, .load (some 3) (.t 2)⟩,
  ⟨(some 42), none, .call 21 [(.t 41)]⟩,
  ⟨(some 40), none, .mv (.t 42)⟩,
  ⟨(some 43), none, .ext 0 (.t 40)⟩,
  ⟨(some 44), none, .ext 1 (.t 40)⟩,
  ⟨(some 7), none, .mv (.t 43)⟩,
  ⟨(some 8), none, .mv (.t 44)⟩]
theorem tr7_4 : (ro Tryd.f7 4).toList.mapM (trO Tryd.prog 110 (ro Tryd.f7 4)) = some a7_4 := by kernel_rfl
def a7_5 : List AO := [⟨(some 46), none, .mv (.t 1)⟩,
  ⟨(some 47), none, .call 22 [(.t 46)]⟩,
  ⟨(some 45), none, .mv (.t 47)⟩,
  ⟨(some 48), none, .ext 0 (.t 45)⟩,
  ⟨(some 49), none, .ext 1 (.t 45)⟩,
  ⟨(some 9), none, .alloc 30 [(.str []), (.str []), (.str [])]⟩,
  ⟨none, none, .store 3 (.t 9) (.t 48)⟩,
  ⟨(some 10), none, .mv (.t 49)⟩]
theorem tr7_5 : (ro Tryd.f7 5).toList.mapM (trO Tryd.prog 110 (ro Tryd.f7 5)) = some a7_5 := by kernel_rfl
def a7_6 : List AO := [⟨(some 51), none, .mv (.t 1)⟩,
  ⟨(some 52), none, .call 23 [(.t 51)]⟩,
  ⟨(some 50), none, .mv (.t 52)⟩,
  ⟨(some 53), none, .ext 0 (.t 50)⟩,
  ⟨(some 54), none, .ext 1 (.t 50)⟩,
  ⟨(some 11), none, .alloc 30 [(.str []), (.str []), (.str [])]⟩,
  ⟨none, none, .store 3 (.t 11) (.t 53)⟩,
  ⟨(some 12), none, .mv (.t 54)⟩]
theorem tr7_6 : (ro Tryd.f7 6).toList.mapM (trO Tryd.prog 110 (ro Tryd.f7 6)) = some a7_6 := by kernel_rfl
def a7_7 : List AO := [⟨(some 55), none, .mv (.t 5)⟩,
  ⟨(some 56), none, .mv (.t 7)⟩,
  ⟨(some 57), none, .bin .neq (.t 55) (.t 56)⟩,
  ⟨(some 58), none, .mv (.t 57)⟩,
  ⟨(some 59), some (58, false), .mv (.t 6)⟩,
  ⟨(some 60), some (58, false), .mv (.t 8)⟩,
  ⟨(some 61), some (58, false), .bin .neq (.t 59) (.t 60)⟩,
  ⟨(some 62), none, .pick (.t 58) (.v (.bool true)) (.t 61)⟩,
  ⟨(some 63), none, .mv (.t 62)⟩,
  ⟨(some 64), some (63, false), .load (some 3) (.t 9)⟩,
  ⟨(some 65), some (63, false), .load (some 3) (.t 11)⟩,
  ⟨(some 66), some (63, false), .bina [.s, .s, .s] .neq (.t 64) (.t 65)⟩,
  ⟨(some 67), none, .pick (.t 63) (.v (.bool true)) (.t 66)⟩,
  ⟨(some 68), none, .mv (.t 67)⟩,
  ⟨(some 69), some (68, false), .mv (.t 10)⟩,
  ⟨(some 70), some (68, false), .mv (.t 12)⟩,
  ⟨(some 71), some (68, false), .bin .neq (.t 69) (.t 70)⟩,
  ⟨(some 72), none, .pick (.t 68) (.v (.bool true)) (.t 71)⟩]
theorem tr7_7 : (ro Tryd.f7 7).toList.mapM (trO Tryd.prog 110 (ro Tryd.f7 7)) = some a7_7 := by kernel_rfl
def a7_8 : List AO := [⟨(some 4), none, .mv (.v (.bool false))⟩]
theorem tr7_8 : (ro Tryd.f7 8).toList.mapM (trO Tryd.prog 110 (ro Tryd.f7 8)) = some a7_8 := by kernel_rfl
def a7_9 : List AO := [⟨(some 74), none, .mv (.t 5)⟩,
  ⟨(some 75), none, .call 22 [(.t 74)]⟩,
  ⟨(some 73), none, .mv (.t 75)⟩,
  ⟨(some 76), none, .ext 0 (.t 73)⟩,
  ⟨(some 77), none, .ext 1 (.t 73)⟩,
  ⟨(some 13), none, .alloc 30 [(.str []), (.str []), (.str [])]⟩,
  ⟨none, none, .store 3 (.t 13) (.t 76)⟩,
  ⟨(some 14), none, .mv (.t 77)⟩]
theorem tr7_9 : (ro Tryd.f7 9).toList.mapM (trO Tryd.prog 110 (ro Tryd.f7 9)) = some a7_9 := by kernel_rfl
def a7_10 : List AO := [⟨(some 79), none, .load (some 3) (.t 9)⟩,
  ⟨(some 80), none, .call 20 [(.t 79)]⟩,
  ⟨(some 78), none, .mv (.t 80)⟩,
  ⟨(some 81), none, .ext 0 (.t 78)⟩,
  ⟨(some 82), none, .ext 1 (.t 78)⟩,
  ⟨(some 15), none, .mv (.t 81)⟩,
  ⟨(some 16), none, .mv (.t 82)⟩]
theorem tr7_10 : (ro Tryd.f7 10).toList.mapM (trO Tryd.prog 110 (ro Tryd.f7 10)) = some a7_10 := by kernel_rfl
def a7_11 : List AO := [⟨(some 83), none, .mv (.t 6)⟩,
  ⟨(some 84), none, .bin .neq (.t 83) (.v (.int .i64 0))⟩,
  ⟨(some 85), none, .mv (.t 84)⟩,
  ⟨(some 86), some (85, false), .load (some 3) (.t 13)⟩,
  ⟨(some 87), some (85, false), .load (some 3) (.t 2)⟩,
  ⟨(some 88), some (85, false), .bina [.s, .s, .s] .eql (.t 86) (.t 87)⟩,
  ⟨(some 89), some (85, false), .mv (.t 88)⟩,
  ⟨(some 90), some (89, true), .mv (.t 14)⟩,
  ⟨(some 91), some (89, true), .bin .eql (.t 90) (.v (.int .i64 0))⟩,
  ⟨(some 92), some (85, false), .pick (.t 89) (.t 91) (.v (.bool false))⟩,
  ⟨(some 93), none, .pick (.t 85) (.v (.bool true)) (.t 92)⟩,
  ⟨(some 94), none, .mv (.t 93)⟩,
  ⟨(some 95), some (94, true), .mv (.t 10)⟩,
  ⟨(some 96), some (94, true), .bin .neq (.t 95) (.v (.int .i64 0))⟩,
  ⟨(some 97), some (94, true), .mv (.t 96)⟩,
  ⟨(some 98), some (97, false), .mv (.t 15)⟩,
  ⟨(some 99), some (97, false), .mv (.t 1)⟩,
  ⟨(some 100), some (97, false), .bin .eql (.t 98) (.t 99)⟩,
  ⟨(some 101), some (97, false), .mv (.t 100)⟩,
  ⟨(some 102), some (101, true), .mv (.t 16)⟩,
  ⟨(some 103), some (101, true), .bin .eql (.t 102) (.v (.int .i64 0))⟩,
  ⟨(some 104), some (97, false), .pick (.t 101) (.t 103) (.v (.bool false))⟩,
  ⟨(some 105), some (94, true), .pick (.t 97) (.v (.bool true)) (.t 104)⟩,
  ⟨(some 106), none, .pick (.t 94) (.t 105) (.v (.bool false))⟩,
  ⟨(some 107), none, .mv (.t 106)⟩,
  ⟨(some 108), some (107, true), .call 12 []⟩,
  ⟨(some 109), none, .pick (.t 107) (.t 108) (.v (.bool false))⟩,
  ⟨(some 4), none, .mv (.t 109)⟩]
theorem tr7_11 : (ro Tryd.f7 11).toList.mapM (trO Tryd.prog 110 (ro Tryd.f7 11)) = some a7_11 := by kernel_rfl
/-- airline/airlinelaw32.small -/
noncomputable def c8 : Code := .seq (.region 0 (ro Tryd.f8 0) false) (.seq (.region 1 (ro Tryd.f8 1) false) (.ret))
theorem body8 : Tryd.f8.body = some c8 := by kernel_rfl
theorem res8 : Tryd.f8.results.toList.mapM (trR Tryd.prog) = some [.t 2] := by kernel_rfl
theorem nt8 : Tryd.f8.ntmps = 6 := by kernel_rfl
theorem nm8 : (Tryd.f8.name == "runtime.NumGoroutine") = false := by kernel_rfl
def a8_0 : List AO := [⟨(some 2), none, .mv (.v (.bool false))⟩]
theorem tr8_0 : (ro Tryd.f8 0).toList.mapM (trO Tryd.prog 6 (ro Tryd.f8 0)) = some a8_0 := by kernel_rfl
def a8_1 : List AO := [⟨(some 3), none, .mv (.t 0)⟩,
  ⟨(some 4), none, .len (.t 3)⟩,
  ⟨(some 5), none, .bin .leq (.t 4) (.v (.int .i64 150))⟩,
  ⟨(some 2), none, .mv (.t 5)⟩]
theorem tr8_1 : (ro Tryd.f8 1).toList.mapM (trO Tryd.prog 6 (ro Tryd.f8 1)) = some a8_1 := by kernel_rfl
/-- airline/airlinelaw06.SameFaults -/
noncomputable def c9 : Code := .seq (.region 0 (ro Tryd.f9 0) false) (.seq (.seq (.region 1 (ro Tryd.f9 1) false) (.cond (.tmp 10) (.seq (.region 2 (ro Tryd.f9 2) false) (.ret)) (.skip))) (.seq (.seq (.region 3 (ro Tryd.f9 3) false) (.block 0 (.loop (.seq (.seq (.region 4 (ro Tryd.f9 4) false) (.cond (.tmp 14) (.skip) (.exit 0))) (.seq (.block 1 (.seq (.region 6 (ro Tryd.f9 6) true) (.cond (.tmp 25) (.seq (.region 7 (ro Tryd.f9 7) false) (.ret)) (.skip)))) (.region 5 (ro Tryd.f9 5) false)))))) (.seq (.region 8 (ro Tryd.f9 8) false) (.ret))))
theorem body9 : Tryd.f9.body = some c9 := by kernel_rfl
theorem res9 : Tryd.f9.results.toList.mapM (trR Tryd.prog) = some [.t 4] := by kernel_rfl
theorem nt9 : Tryd.f9.ntmps = 26 := by kernel_rfl
theorem nm9 : (Tryd.f9.name == "runtime.NumGoroutine") = false := by kernel_rfl
def a9_0 : List AO := [⟨(some 4), none, .mv (.v (.bool false))⟩]
theorem tr9_0 : (ro Tryd.f9 0).toList.mapM (trO Tryd.prog 26 (ro Tryd.f9 0)) = some a9_0 := by kernel_rfl
def a9_1 : List AO := [⟨(some 6), none, .mv (.t 0)⟩,
  ⟨(some 7), none, .len (.t 6)⟩,
  ⟨(some 8), none, .mv (.t 1)⟩,
  ⟨(some 9), none, .len (.t 8)⟩,
  ⟨(some 10), none, .bin .neq (.t 7) (.t 9)⟩]
theorem tr9_1 : (ro Tryd.f9 1).toList.mapM (trO Tryd.prog 26 (ro Tryd.f9 1)) = some a9_1 := by kernel_rfl
def a9_2 : List AO := [⟨(some 4), none, .mv (.v (.bool false))⟩]
theorem tr9_2 : (ro Tryd.f9 2).toList.mapM (trO Tryd.prog 26 (ro Tryd.f9 2)) = some a9_2 := by kernel_rfl
def a9_3 : List AO := [⟨(some 5), none, .mv (.v (.int .i64 0))⟩]
theorem tr9_3 : (ro Tryd.f9 3).toList.mapM (trO Tryd.prog 26 (ro Tryd.f9 3)) = some a9_3 := by kernel_rfl
def a9_4 : List AO := [⟨(some 11), none, .mv (.t 5)⟩,
  ⟨(some 12), none, .mv (.t 0)⟩,
  ⟨(some 13), none, .len (.t 12)⟩,
  ⟨(some 14), none, .bin .lss (.t 11) (.t 13)⟩]
theorem tr9_4 : (ro Tryd.f9 4).toList.mapM (trO Tryd.prog 26 (ro Tryd.f9 4)) = some a9_4 := by kernel_rfl
def a9_6 : List AO := [⟨(some 17), none, .mv (.t 0)⟩,
  ⟨(some 18), none, .mv (.t 5)⟩,
  ⟨(some 19), none, .idx 2 (.t 17) (.t 18)⟩,
  ⟨(some 20), none, .load (some 2) (.t 19)⟩,
  ⟨(some 21), none, .mv (.t 1)⟩,
  ⟨(some 22), none, .mv (.t 5)⟩,
  ⟨(some 23), none, .idx 2 (.t 21) (.t 22)⟩,
  ⟨(some 24), none, .load (some 2) (.t 23)⟩,
  ⟨(some 25), none, .bina [.i .i64, .s] .neq (.t 20) (.t 24)⟩]
theorem tr9_6 : (ro Tryd.f9 6).toList.mapM (trO Tryd.prog 26 (ro Tryd.f9 6)) = some a9_6 := by kernel_rfl
def d9_6 : List (List Nat) := [[], [], [0, 1], [0, 1, 2], [], [], [4, 5], [4, 5, 6], [0, 1, 2, 3, 4, 5, 6, 7]]
theorem ok9_6 : okReg (ro Tryd.f9 6) a9_6 d9_6 = true := by kernel_rfl
def a9_7 : List AO := [⟨(some 4), none, .mv (.v (.bool false))⟩]
theorem tr9_7 : (ro Tryd.f9 7).toList.mapM (trO Tryd.prog 26 (ro Tryd.f9 7)) = some a9_7 := by kernel_rfl
def a9_5 : List AO := [⟨(some 15), none, .mv (.t 5)⟩,
  ⟨(some 16), none, .bin .add (.t 15) (.v (.int .i64 1))⟩,
  ⟨(some 5), none, .mv (.t 16)⟩]
theorem tr9_5 : (ro Tryd.f9 5).toList.mapM (trO Tryd.prog 26 (ro Tryd.f9 5)) = some a9_5 := by kernel_rfl
def a9_8 : List AO := [⟨(some 4), none, .mv (.v (.bool true))⟩]
theorem tr9_8 : (ro Tryd.f9 8).toList.mapM (trO Tryd.prog 26 (ro Tryd.f9 8)) = some a9_8 := by kernel_rfl
/-- airline/party.Check -/
noncomputable def c10 : Code := .seq (.region 0 (ro Tryd.f10 0) false) (.seq (.region 1 (ro Tryd.f10 1) false) (.seq (.region 2 (ro Tryd.f10 2) false) (.seq (.seq (.region 3 (ro Tryd.f10 3) false) (.block 0 (.loop (.seq (.region 4 (ro Tryd.f10 4) false) (.seq (.cond (.tmp 16) (.skip) (.exit 0)) (.seq (.block 1 (.seq (.region 5 (ro Tryd.f10 5) false) (.seq (.region 6 (ro Tryd.f10 6) false) (.seq (.region 7 (ro Tryd.f10 7) false) (.region 8 (ro Tryd.f10 8) false))))) (.region 9 (ro Tryd.f10 9) false))))))) (.seq (.region 10 (ro Tryd.f10 10) false) (.seq (.region 11 (ro Tryd.f10 11) false) (.seq (.seq (.region 12 (ro Tryd.f10 12) false) (.cond (.tmp 45) (.region 13 (ro Tryd.f10 13) false) (.skip))) (.seq (.region 14 (ro Tryd.f10 14) false) (.seq (.region 15 (ro Tryd.f10 15) false) (.seq (.region 16 (ro Tryd.f10 16) false) (.seq (.region 17 (ro Tryd.f10 17) false) (.ret)))))))))))
theorem body10 : Tryd.f10.body = some c10 := by kernel_rfl
theorem res10 : Tryd.f10.results.toList.mapM (trR Tryd.prog) = some [.t 4] := by kernel_rfl
theorem nt10 : Tryd.f10.ntmps = 73 := by kernel_rfl
theorem nm10 : (Tryd.f10.name == "runtime.NumGoroutine") = false := by kernel_rfl
def a10_0 : List AO := [⟨(some 4), none, .mv (.v .nils)⟩]
theorem tr10_0 : (ro Tryd.f10 0).toList.mapM (trO Tryd.prog 73 (ro Tryd.f10 0)) = some a10_0 := by kernel_rfl
def a10_1 : List AO := [⟨(some 5), none, .alloc 25 [.nils]⟩]
theorem tr10_1 : (ro Tryd.f10 1).toList.mapM (trO Tryd.prog 73 (ro Tryd.f10 1)) = some a10_1 := by kernel_rfl
def a10_2 : List AO := [⟨(some 12), none, .mkfn 24 [(.t 5)]⟩,
  ⟨(some 6), none, .mv (.t 12)⟩]
theorem tr10_2 : (ro Tryd.f10 2).toList.mapM (trO Tryd.prog 73 (ro Tryd.f10 2)) = some a10_2 := by kernel_rfl
def a10_3 : List AO := [⟨(some 13), none, .mv (.t 0)⟩,
  ⟨(some 14), none, .len (.t 13)⟩,
  ⟨(some 15), none, .mv (.v (.int .i64 0))⟩]
theorem tr10_3 : (ro Tryd.f10 3).toList.mapM (trO Tryd.prog 73 (ro Tryd.f10 3)) = some a10_3 := by kernel_rfl
def a10_4 : List AO := [⟨(some 16), none, .bin .lss (.t 15) (.t 14)⟩]
theorem tr10_4 : (ro Tryd.f10 4).toList.mapM (trO Tryd.prog 73 (ro Tryd.f10 4)) = some a10_4 := by kernel_rfl
def a10_5 : List AO := [⟨(some 17), none, .mv (.t 15)⟩,
  ⟨(some 18), none, .idx 3 (.t 13) (.t 15)⟩,
  ⟨(some 19), none, .load (some 3) (.t 18)⟩,
  ⟨(some 8), none, .alloc 30 [(.str []), (.str []), (.str [])]⟩,
  ⟨(some 7), none, .mv (.t 17)⟩,
  ⟨none, none, .store 3 (.t 8) (.t 19)⟩]
theorem tr10_5 : (ro Tryd.f10 5).toList.mapM (trO Tryd.prog 73 (ro Tryd.f10 5)) = some a10_5 := by kernel_rfl
def a10_6 : List AO := [⟨(some 20), none, .mv (.t 7)⟩,
  ⟨(some 21), none, .call 25 [(.t 20)]⟩,
  ⟨(some 22), none, .bin .add (.v (.str [112, 101, 114, 115, 111, 110, 32])) (.t 21)⟩,
  ⟨(some 9), none, .mv (.t 22)⟩]
theorem tr10_6 : (ro Tryd.f10 6).toList.mapM (trO Tryd.prog 73 (ro Tryd.f10 6)) = some a10_6 := by kernel_rfl
def a10_7 : List AO := [⟨(some 23), none, .mv (.t 6)⟩,
  ⟨(some 24), none, .load (some 3) (.t 8)⟩,
  ⟨(some 25), none, .call 26 [(.t 24)]⟩,
  ⟨(some 26), none, .un .not (.t 25)⟩,
  ⟨(some 27), none, .mv (.t 9)⟩,
  ⟨(some 28), none, .callv (.t 23) [(.t 26), (.v (.int .i64 5)), (.t 27)]⟩]
theorem tr10_7 : (ro Tryd.f10 7).toList.mapM (trO Tryd.prog 73 (ro Tryd.f10 7)) = some a10_7 := by kernel_rfl
def a10_8 : List AO := [⟨(some 29), none, .mv (.t 6)⟩,
  ⟨(some 30), none, .load (some 3) (.t 8)⟩,
  ⟨(some 31), none, .call 27 [(.t 30)]⟩,
  ⟨(some 32), none, .un .not (.t 31)⟩,
  ⟨(some 33), none, .mv (.t 9)⟩,
  ⟨(some 34), none, .callv (.t 29) [(.t 32), (.v (.int .i64 8)), (.t 33)]⟩]
theorem tr10_8 : (ro Tryd.f10 8).toList.mapM (trO Tryd.prog 73 (ro Tryd.f10 8)) = some a10_8 := by kernel_rfl
def a10_9 : List AO := [⟨(some 35), none, .bin .add (.t 15) (.v (.int .i64 1))⟩,
  ⟨(some 15), none, .mv (.t 35)⟩]
theorem tr10_9 : (ro Tryd.f10 9).toList.mapM (trO Tryd.prog 73 (ro Tryd.f10 9)) = some a10_9 := by kernel_rfl
def a10_10 : List AO := [⟨(some 36), none, .mv (.t 1)⟩,
  ⟨(some 37), none, .bin .lss (.t 36) (.v (.int .i64 0))⟩,
  ⟨(some 38), none, .mv (.t 37)⟩,
  ⟨(some 39), some (38, false), .mv (.t 1)⟩,
  ⟨(some 40), some (38, false), .bin .gtr (.t 39) (.v (.int .i64 99))⟩,
  ⟨(some 41), none, .pick (.t 38) (.v (.bool true)) (.t 40)⟩,
  ⟨(some 10), none, .mv (.t 41)⟩]
theorem tr10_10 : (ro Tryd.f10 10).toList.mapM (trO Tryd.prog 73 (ro Tryd.f10 10)) = some a10_10 := by kernel_rfl
def a10_11 : List AO := [⟨(some 42), none, .mv (.t 6)⟩,
  ⟨(some 43), none, .mv (.t 10)⟩,
  ⟨(some 44), none, .callv (.t 42) [(.t 43), (.v (.int .i64 2)), (.v (.str [112, 97, 114, 116, 121]))]⟩]
theorem tr10_11 : (ro Tryd.f10 11).toList.mapM (trO Tryd.prog 73 (ro Tryd.f10 11)) = some a10_11 := by kernel_rfl
def a10_12 : List AO := [⟨(some 45), none, .mv (.t 10)⟩]
theorem tr10_12 : (ro Tryd.f10 12).toList.mapM (trO Tryd.prog 73 (ro Tryd.f10 12)) = some a10_12 := by kernel_rfl
def a10_13 : List AO := [⟨(some 1), none, .mv (.v (.int .i64 0))⟩]
theorem tr10_13 : (ro Tryd.f10 13).toList.mapM (trO Tryd.prog 73 (ro Tryd.f10 13)) = some a10_13 := by kernel_rfl
def a10_14 : List AO := [⟨(some 46), none, .mv (.t 0)⟩,
  ⟨(some 47), none, .len (.t 46)⟩,
  ⟨(some 11), none, .mv (.t 47)⟩]
theorem tr10_14 : (ro Tryd.f10 14).toList.mapM (trO Tryd.prog 73 (ro Tryd.f10 14)) = some a10_14 := by kernel_rfl
def a10_15 : List AO := [⟨(some 48), none, .mv (.t 6)⟩,
  ⟨(some 49), none, .mv (.t 11)⟩,
  ⟨(some 50), none, .mv (.t 1)⟩,
  ⟨(some 51), none, .bin .add (.t 49) (.t 50)⟩,
  ⟨(some 52), none, .bin .eql (.t 51) (.v (.int .i64 0))⟩,
  ⟨(some 53), none, .mv (.t 52)⟩,
  ⟨(some 54), some (53, false), .mv (.t 1)⟩,
  ⟨(some 55), some (53, false), .bin .eql (.t 54) (.v (.int .i64 0))⟩,
  ⟨(some 56), some (53, false), .mv (.t 55)⟩,
  ⟨(some 57), some (56, true), .mv (.t 11)⟩,
  ⟨(some 58), some (56, true), .bin .gtr (.t 57) (.v (.int .i64 9))⟩,
  ⟨(some 59), some (53, false), .pick (.t 56) (.t 58) (.v (.bool false))⟩,
  ⟨(some 60), none, .pick (.t 53) (.v (.bool true)) (.t 59)⟩,
  ⟨(some 61), none, .mv (.t 60)⟩,
  ⟨(some 62), some (61, false), .mv (.t 11)⟩,
  ⟨(some 63), some (61, false), .mv (.t 1)⟩,
  ⟨(some 64), some (61, false), .bin .add (.t 62) (.t 63)⟩,
  ⟨(some 65), some (61, false), .bin .gtr (.t 64) (.v (.int .i64 99))⟩,
  ⟨(some 66), none, .pick (.t 61) (.v (.bool true)) (.t 65)⟩,
  ⟨(some 67), none, .callv (.t 48) [(.t 66), (.v (.int .i64 4)), (.v (.str [112, 97, 114, 116, 121]))]⟩]
theorem tr10_15 : (ro Tryd.f10 15).toList.mapM (trO Tryd.prog 73 (ro Tryd.f10 15)) = some a10_15 := by kernel_rfl
def a10_16 : List AO := [⟨(some 68), none, .mv (.t 6)⟩,
  ⟨(some 69), none, .mv (.t 0)⟩,
  ⟨(some 70), none, .call 28 [(.t 69)]⟩,
  ⟨(some 71), none, .callv (.t 68) [(.t 70), (.v (.int .i64 25)), (.v (.str [112, 97, 114, 116, 121]))]⟩]
theorem tr10_16 : (ro Tryd.f10 16).toList.mapM (trO Tryd.prog 73 (ro Tryd.f10 16)) = some a10_16 := by kernel_rfl
def a10_17 : List AO := [⟨(some 72), none, .load none (.t 5)⟩,
  ⟨(some 4), none, .mv (.t 72)⟩]
theorem tr10_17 : (ro Tryd.f10 17).toList.mapM (trO Tryd.prog 73 (ro Tryd.f10 17)) = some a10_17 := by kernel_rfl
/-- airline/airlineref32.Check -/
noncomputable def c11 : Code := .seq (.region 0 (ro Tryd.f11 0) false) (.seq (.region 1 (ro Tryd.f11 1) false) (.seq (.seq (.region 2 (ro Tryd.f11 2) false) (.block 0 (.loop (.seq (.seq (.region 3 (ro Tryd.f11 3) false) (.cond (.tmp 12) (.skip) (.exit 0))) (.seq (.block 1 (.seq (.region 5 (ro Tryd.f11 5) false) (.seq (.seq (.region 6 (ro Tryd.f11 6) false) (.cond (.tmp 23) (.region 7 (ro Tryd.f11 7) false) (.skip))) (.seq (.region 8 (ro Tryd.f11 8) false) (.cond (.tmp 34) (.region 9 (ro Tryd.f11 9) false) (.skip)))))) (.region 4 (ro Tryd.f11 4) false)))))) (.seq (.seq (.region 10 (ro Tryd.f11 10) false) (.cond (.tmp 45) (.seq (.region 11 (ro Tryd.f11 11) false) (.region 12 (ro Tryd.f11 12) false)) (.skip))) (.seq (.region 13 (ro Tryd.f11 13) false) (.seq (.seq (.region 14 (ro Tryd.f11 14) false) (.cond (.tmp 69) (.region 15 (ro Tryd.f11 15) false) (.skip))) (.seq (.seq (.region 16 (ro Tryd.f11 16) false) (.cond (.tmp 76) (.region 17 (ro Tryd.f11 17) false) (.skip))) (.seq (.region 18 (ro Tryd.f11 18) false) (.ret))))))))
theorem body11 : Tryd.f11.body = some c11 := by kernel_rfl
theorem res11 : Tryd.f11.results.toList.mapM (trR Tryd.prog) = some [.t 4] := by kernel_rfl
theorem nt11 : Tryd.f11.ntmps = 82 := by kernel_rfl
theorem nm11 : (Tryd.f11.name == "runtime.NumGoroutine") = false := by kernel_rfl
def a11_0 : List AO := [⟨(some 4), none, .mv (.v .nils)⟩]
theorem tr11_0 : (ro Tryd.f11 0).toList.mapM (trO Tryd.prog 82 (ro Tryd.f11 0)) = some a11_0 := by kernel_rfl
def a11_1 : List AO := [⟨(some 5), none, .mv (.v .nils)⟩]
theorem tr11_1 : (ro Tryd.f11 1).toList.mapM (trO Tryd.prog 82 (ro Tryd.f11 1)) = some a11_1 := by kernel_rfl
def a11_2 : List AO := [⟨(some 6), none, .mv (.v (.int .i64 0))⟩]
theorem tr11_2 : (ro Tryd.f11 2).toList.mapM (trO Tryd.prog 82 (ro Tryd.f11 2)) = some a11_2 := by kernel_rfl
def a11_3 : List AO := [⟨(some 9), none, .mv (.t 6)⟩,
  ⟨(some 10), none, .mv (.t 0)⟩,
  ⟨(some 11), none, .len (.t 10)⟩,
  ⟨(some 12), none, .bin .lss (.t 9) (.t 11)⟩]
theorem tr11_3 : (ro Tryd.f11 3).toList.mapM (trO Tryd.prog 82 (ro Tryd.f11 3)) = some a11_3 := by kernel_rfl
def a11_5 : List AO := [⟨(some 15), none, .mv (.t 6)⟩,
  ⟨(some 16), none, .call 29 [(.t 15)]⟩,
  ⟨(some 17), none, .bin .add (.v (.str [112, 101, 114, 115, 111, 110, 32])) (.t 16)⟩,
  ⟨(some 7), none, .mv (.t 17)⟩]
theorem tr11_5 : (ro Tryd.f11 5).toList.mapM (trO Tryd.prog 82 (ro Tryd.f11 5)) = some a11_5 := by kernel_rfl
def a11_6 : List AO := [⟨(some 18), none, .mv (.t 0)⟩,
  ⟨(some 19), none, .mv (.t 6)⟩,
  ⟨(some 20), none, .idx 3 (.t 18) (.t 19)⟩,
  ⟨(some 21), none, .load (some 3) (.t 20)⟩,
  ⟨(some 22), none, .call 30 [(.t 21)]⟩,
  ⟨(some 23), none, .un .not (.t 22)⟩]
theorem tr11_6 : (ro Tryd.f11 6).toList.mapM (trO Tryd.prog 82 (ro Tryd.f11 6)) = some a11_6 := by kernel_rfl
def a11_7 : List AO := [⟨(some 24), none, .mv (.t 5)⟩,
  ⟨(some 25), none, .mv (.t 7)⟩,
  ⟨(some 26), none, .build [(.int .i64 0), (.str [])] [(0, 1, (.v (.int .i64 5))), (1, 1, (.t 25))]⟩,
  ⟨(some 27), none, .slc 47 2 false [(.t 26)]⟩,
  ⟨(some 28), none, .app 47 2 24 (.t 24) (.t 27)⟩,
  ⟨(some 5), none, .mv (.t 28)⟩]
theorem tr11_7 : (ro Tryd.f11 7).toList.mapM (trO Tryd.prog 82 (ro Tryd.f11 7)) = some a11_7 := by kernel_rfl
def a11_8 : List AO := [⟨(some 29), none, .mv (.t 0)⟩,
  ⟨(some 30), none, .mv (.t 6)⟩,
  ⟨(some 31), none, .idx 3 (.t 29) (.t 30)⟩,
  ⟨(some 32), none, .load (some 3) (.t 31)⟩,
  ⟨(some 33), none, .call 31 [(.t 32)]⟩,
  ⟨(some 34), none, .un .not (.t 33)⟩]
theorem tr11_8 : (ro Tryd.f11 8).toList.mapM (trO Tryd.prog 82 (ro Tryd.f11 8)) = some a11_8 := by kernel_rfl
def a11_9 : List AO := [⟨(some 35), none, .mv (.t 5)⟩,
  ⟨(some 36), none, .mv (.t 7)⟩,
  ⟨(some 37), none, .build [(.int .i64 0), (.str [])] [(0, 1, (.v (.int .i64 8))), (1, 1, (.t 36))]⟩,
  ⟨(some 38), none, .slc 47 2 false [(.t 37)]⟩,
  ⟨(some 39), none, .app 47 2 24 (.t 35) (.t 38)⟩,
  ⟨(some 5), none, .mv (.t 39)⟩]
theorem tr11_9 : (ro Tryd.f11 9).toList.mapM (trO Tryd.prog 82 (ro Tryd.f11 9)) = some a11_9 := by kernel_rfl
def a11_4 : List AO := [⟨(some 13), none, .mv (.t 6)⟩,
  ⟨(some 14), none, .bin .add (.t 13) (.v (.int .i64 1))⟩,
  ⟨(some 6), none, .mv (.t 14)⟩]
theorem tr11_4 : (ro Tryd.f11 4).toList.mapM (trO Tryd.prog 82 (ro Tryd.f11 4)) = some a11_4 := by kernel_rfl
def a11_10 : List AO := [⟨(some 40), none, .mv (.t 1)⟩,
  ⟨(some 41), none, .bin .lss (.t 40) (.v (.int .i64 0))⟩,
  ⟨(some 42), none, .mv (.t 41)⟩,
  ⟨(some 43), some (42, false), .mv (.t 1)⟩,
  ⟨(some 44), some (42, false), .bin .gtr (.t 43) (.v (.int .i64 99))⟩,
  ⟨(some 45), none, .pick (.t 42) (.v (.bool true)) (.t 44)⟩]
theorem tr11_10 : (ro Tryd.f11 10).toList.mapM (trO Tryd.prog 82 (ro Tryd.f11 10)) = some a11_10 := by kernel_rfl
def a11_11 : List AO := [⟨(some 46), none, .mv (.t 5)⟩,
  ⟨(some 47), none, .build [(.int .i64 0), (.str [])] [(0, 1, (.v (.int .i64 2))), (1, 1, (.v (.str [112, 97, 114, 116, 121])))]⟩,
  ⟨(some 48), none, .slc 47 2 false [(.t 47)]⟩,
  ⟨(some 49), none, .app 47 2 24 (.t 46) (.t 48)⟩,
  ⟨(some 5), none, .mv (.t 49)⟩]
theorem tr11_11 : (ro Tryd.f11 11).toList.mapM (trO Tryd.prog 82 (ro Tryd.f11 11)) = some a11_11 := by kernel_rfl
def a11_12 : List AO := [⟨(some 1), none, .mv (.v (.int .i64 0))⟩]
theorem tr11_12 : (ro Tryd.f11 12).toList.mapM (trO Tryd.prog 82 (ro Tryd.f11 12)) = some a11_12 := by kernel_rfl
def a11_13 : List AO := [⟨(some 50), none, .mv (.t 0)⟩,
  ⟨(some 51), none, .len (.t 50)⟩,
  ⟨(some 8), none, .mv (.t 51)⟩]
theorem tr11_13 : (ro Tryd.f11 13).toList.mapM (trO Tryd.prog 82 (ro Tryd.f11 13)) = some a11_13 := by kernel_rfl
def a11_14 : List AO := [⟨(some 52), none, .mv (.t 8)⟩,
  ⟨(some 53), none, .mv (.t 1)⟩,
  ⟨(some 54), none, .bin .add (.t 52) (.t 53)⟩,
  ⟨(some 55), none, .bin .eql (.t 54) (.v (.int .i64 0))⟩,
  ⟨(some 56), none, .mv (.t 55)⟩,
  ⟨(some 57), some (56, false), .mv (.t 1)⟩,
  ⟨(some 58), some (56, false), .bin .eql (.t 57) (.v (.int .i64 0))⟩,
  ⟨(some 59), some (56, false), .mv (.t 58)⟩,
  ⟨(some 60), some (59, true), .mv (.t 8)⟩,
  ⟨(some 61), some (59, true), .bin .gtr (.t 60) (.v (.int .i64 9))⟩,
  ⟨(some 62), some (56, false), .pick (.t 59) (.t 61) (.v (.bool false))⟩,
  ⟨(some 63), none, .pick (.t 56) (.v (.bool true)) (.t 62)⟩,
  ⟨(some 64), none, .mv (.t 63)⟩,
  ⟨(some 65), some (64, false), .mv (.t 8)⟩,
  ⟨(some 66), some (64, false), .mv (.t 1)⟩,
  ⟨(some 67), some (64, false), .bin .add (.t 65) (.t 66)⟩,
  ⟨(some 68), some (64, false), .bin .gtr (.t 67) (.v (.int .i64 99))⟩,
  ⟨(some 69), none, .pick (.t 64) (.v (.bool true)) (.t 68)⟩]
theorem tr11_14 : (ro Tryd.f11 14).toList.mapM (trO Tryd.prog 82 (ro Tryd.f11 14)) = some a11_14 := by kernel_rfl
def a11_15 : List AO := [⟨(some 70), none, .mv (.t 5)⟩,
  ⟨(some 71), none, .build [(.int .i64 0), (.str [])] [(0, 1, (.v (.int .i64 4))), (1, 1, (.v (.str [112, 97, 114, 116, 121])))]⟩,
  ⟨(some 72), none, .slc 47 2 false [(.t 71)]⟩,
  ⟨(some 73), none, .app 47 2 24 (.t 70) (.t 72)⟩,
  ⟨(some 5), none, .mv (.t 73)⟩]
theorem tr11_15 : (ro Tryd.f11 15).toList.mapM (trO Tryd.prog 82 (ro Tryd.f11 15)) = some a11_15 := by kernel_rfl
def a11_16 : List AO := [⟨(some 74), none, .mv (.t 0)⟩,
  ⟨(some 75), none, .call 32 [(.t 74)]⟩,
  ⟨(some 76), none, .un .not (.t 75)⟩]
theorem tr11_16 : (ro Tryd.f11 16).toList.mapM (trO Tryd.prog 82 (ro Tryd.f11 16)) = some a11_16 := by kernel_rfl
def a11_17 : List AO := [⟨(some 77), none, .mv (.t 5)⟩,
  ⟨(some 78), none, .build [(.int .i64 0), (.str [])] [(0, 1, (.v (.int .i64 25))), (1, 1, (.v (.str [112, 97, 114, 116, 121])))]⟩,
  ⟨(some 79), none, .slc 47 2 false [(.t 78)]⟩,
  ⟨(some 80), none, .app 47 2 24 (.t 77) (.t 79)⟩,
  ⟨(some 5), none, .mv (.t 80)⟩]
theorem tr11_17 : (ro Tryd.f11 17).toList.mapM (trO Tryd.prog 82 (ro Tryd.f11 17)) = some a11_17 := by kernel_rfl
def a11_18 : List AO := [⟨(some 81), none, .mv (.t 5)⟩,
  ⟨(some 4), none, .mv (.t 81)⟩]
theorem tr11_18 : (ro Tryd.f11 18).toList.mapM (trO Tryd.prog 82 (ro Tryd.f11 18)) = some a11_18 := by kernel_rfl
/-- airline/airlinelaw32.awake -/
noncomputable def c12 : Code := .seq (.region 0 (ro Tryd.f12 0) false) (.seq (.region 1 (ro Tryd.f12 1) false) (.seq (.region 2 (ro Tryd.f12 2) false) (.seq (.region 3 (ro Tryd.f12 3) false) (.seq (.region 4 (ro Tryd.f12 4) false) (.seq (.region 5 (ro Tryd.f12 5) false) (.seq (.region 6 (ro Tryd.f12 6) false) (.seq (.region 7 (ro Tryd.f12 7) false) (.seq (.region 8 (ro Tryd.f12 8) false) (.seq (.region 9 (ro Tryd.f12 9) true) (.ret))))))))))
theorem body12 : Tryd.f12.body = some c12 := by kernel_rfl
theorem res12 : Tryd.f12.results.toList.mapM (trR Tryd.prog) = some [.t 0] := by kernel_rfl
theorem nt12 : Tryd.f12.ntmps = 149 := by kernel_rfl
theorem nm12 : (Tryd.f12.name == "runtime.NumGoroutine") = false := by kernel_rfl
def a12_0 : List AO := [⟨(some 0), none, .mv (.v (.bool false))⟩]
theorem tr12_0 : (ro Tryd.f12 0).toList.mapM (trO Tryd.prog 149 (ro Tryd.f12 0)) = some a12_0 := by kernel_rfl
def a12_1 : List AO := [⟨(some 19), none, .build [(.str []), (.str []), (.str [])] [(0, 1, (.v (.str [83, 77, 73, 84, 72]))), (1, 1, (.v (.str [74, 79, 72, 78]))), (2, 1, (.v (.str [65, 68, 84])))]⟩,
  ⟨(some 20), none, .build [(.str []), (.str []), (.str [])] [(0, 1, (.v (.str [83, 77, 73, 84, 72]))), (1, 1, (.v (.str [84, 73, 77]))), (2, 1, (.v (.str [73, 78, 70])))]⟩,
  ⟨(some 1), none, .alloc 30 [(.str []), (.str []), (.str [])]⟩,
  ⟨(some 2), none, .alloc 30 [(.str []), (.str []), (.str [])]⟩,
  ⟨none, none, .store 3 (.t 1) (.t 19)⟩,
  ⟨none, none, .store 3 (.t 2) (.t 20)⟩]
theorem tr12_1 : (ro Tryd.f12 1).toList.mapM (trO Tryd.prog 149 (ro Tryd.f12 1)) = some a12_1 := by kernel_rfl
def a12_2 : List AO := [⟨(some 21), none, .build [(.str []), (.str []), (.str [])] [(0, 1, (.v (.str [83, 77, 73, 84, 72]))), (1, 1, (.v (.str [77, 65, 82, 89, 32, 74, 79]))), (2, 1, (.v (.str [67, 72, 68])))]⟩,
  ⟨(some 3), none, .alloc 30 [(.str []), (.str []), (.str [])]⟩,
  ⟨none, none, .store 3 (.t 3) (.t 21)⟩]
theorem tr12_2 : (ro Tryd.f12 2).toList.mapM (trO Tryd.prog 149 (ro Tryd.f12 2)) = some a12_2 := by kernel_rfl
def a12_3 : List AO := [⟨(some 23), none, .load (some 3) (.t 1)⟩,
  ⟨(some 24), none, .call 15 [(.v .nils), (.v (.int .i64 2)), (.v (.int .i64 0)), (.t 23)]⟩,
  ⟨(some 22), none, .mv (.t 24)⟩,
  ⟨(some 25), none, .ext 0 (.t 22)⟩,
  ⟨(some 26), none, .ext 1 (.t 22)⟩,
  ⟨(some 27), none, .ext 2 (.t 22)⟩,
  ⟨(some 4), none, .mv (.t 25)⟩,
  ⟨(some 5), none, .mv (.t 26)⟩,
  ⟨(some 6), none, .mv (.t 27)⟩]
theorem tr12_3 : (ro Tryd.f12 3).toList.mapM (trO Tryd.prog 149 (ro Tryd.f12 3)) = some a12_3 := by kernel_rfl
def a12_4 : List AO := [⟨(some 29), none, .load (some 3) (.t 1)⟩,
  ⟨(some 30), none, .load (some 3) (.t 2)⟩,
  ⟨(some 31), none, .load (some 3) (.t 1)⟩,
  ⟨(some 32), none, .slc 30 3 false [(.t 29), (.t 30), (.t 31)]⟩,
  ⟨(some 33), none, .slc 3 1 false [(.v (.int .i64 1)), (.v (.int .i64 0))]⟩,
  ⟨(some 34), none, .call 18 [(.t 32), (.t 33)]⟩,
  ⟨(some 28), none, .mv (.t 34)⟩,
  ⟨(some 35), none, .ext 0 (.t 28)⟩,
  ⟨(some 36), none, .ext 1 (.t 28)⟩,
  ⟨(some 37), none, .ext 2 (.t 28)⟩,
  ⟨(some 7), none, .mv (.t 35)⟩,
  ⟨(some 8), none, .mv (.t 36)⟩,
  ⟨(some 9), none, .mv (.t 37)⟩]
theorem tr12_4 : (ro Tryd.f12 4).toList.mapM (trO Tryd.prog 149 (ro Tryd.f12 4)) = some a12_4 := by kernel_rfl
def a12_5 : List AO := [⟨(some 39), none, .load (some 3) (.t 1)⟩,
  ⟨(some 40), none, .load (some 3) (.t 2)⟩,
  ⟨(some 41), none, .load (some 3) (.t 1)⟩,
  ⟨(some 42), none, .slc 30 3 false [(.t 39), (.t 40), (.t 41)]⟩,
  ⟨(some 43), none, .slc 3 1 false [(.v (.int .i64 1))]⟩,
  ⟨(some 44), none, .call 18 [(.t 42), (.t 43)]⟩,
  ⟨(some 38), none, .mv (.t 44)⟩,
  ⟨(some 45), none, .ext 0 (.t 38)⟩,
  ⟨(some 46), none, .ext 1 (.t 38)⟩,
  ⟨(some 47), none, .ext 2 (.t 38)⟩,
  ⟨(some 10), none, .mv (.t 45)⟩,
  ⟨(some 11), none, .mv (.t 46)⟩,
  ⟨(some 12), none, .mv (.t 47)⟩]
theorem tr12_5 : (ro Tryd.f12 5).toList.mapM (trO Tryd.prog 149 (ro Tryd.f12 5)) = some a12_5 := by kernel_rfl
def a12_6 : List AO := [⟨(some 49), none, .load (some 3) (.t 3)⟩,
  ⟨(some 50), none, .call 20 [(.t 49)]⟩,
  ⟨(some 48), none, .mv (.t 50)⟩,
  ⟨(some 51), none, .ext 0 (.t 48)⟩,
  ⟨(some 52), none, .ext 1 (.t 48)⟩,
  ⟨(some 13), none, .mv (.t 51)⟩,
  ⟨(some 14), none, .mv (.t 52)⟩]
theorem tr12_6 : (ro Tryd.f12 6).toList.mapM (trO Tryd.prog 149 (ro Tryd.f12 6)) = some a12_6 := by kernel_rfl
def a12_7 : List AO := [⟨(some 54), none, .mv (.t 13)⟩,
  ⟨(some 55), none, .call 22 [(.t 54)]⟩,
  ⟨(some 53), none, .mv (.t 55)⟩,
  ⟨(some 56), none, .ext 0 (.t 53)⟩,
  ⟨(some 57), none, .ext 1 (.t 53)⟩,
  ⟨(some 15), none, .alloc 30 [(.str []), (.str []), (.str [])]⟩,
  ⟨none, none, .store 3 (.t 15) (.t 56)⟩,
  ⟨(some 16), none, .mv (.t 57)⟩]
theorem tr12_7 : (ro Tryd.f12 7).toList.mapM (trO Tryd.prog 149 (ro Tryd.f12 7)) = some a12_7 := by kernel_rfl
def a12_8 : List AO := [⟨(some 59), none, .call 22 [(.v (.str [83, 77, 73, 84, 72, 32, 65, 68, 84]))]⟩,
  ⟨(some 58), none, .mv (.t 59)⟩,
  ⟨(some 60), none, .ext 0 (.t 58)⟩,
  ⟨(some 61), none, .ext 1 (.t 58)⟩,
  ⟨(some 17), none, .alloc 30 [(.str []), (.str []), (.str [])]⟩,
  ⟨none, none, .store 3 (.t 17) (.t 60)⟩,
  ⟨(some 18), none, .mv (.t 61)⟩]
theorem tr12_8 : (ro Tryd.f12 8).toList.mapM (trO Tryd.prog 149 (ro Tryd.f12 8)) = some a12_8 := by kernel_rfl
def a12_9 : List AO := [⟨(some 62), none, .mv (.t 4)⟩,
  ⟨(some 63), none, .len (.t 62)⟩,
  ⟨(some 64), none, .bin .eql (.t 63) (.v (.int .i64 1))⟩,
  ⟨(some 65), none, .mv (.t 64)⟩,
  ⟨(some 66), some (65, true), .mv (.t 4)⟩,
  ⟨(some 67), some (65, true), .idx 3 (.t 66) (.v (.int .i64 0))⟩,
  ⟨(some 68), some (65, true), .load (some 3) (.t 67)⟩,
  ⟨(some 69), some (65, true), .load (some 3) (.t 1)⟩,
  ⟨(some 70), some (65, true), .bina [.s, .s, .s] .eql (.t 68) (.t 69)⟩,
  ⟨(some 71), none, .pick (.t 65) (.t 70) (.v (.bool false))⟩,
  ⟨(some 72), none, .mv (.t 71)⟩,
  ⟨(some 73), some (72, true), .mv (.t 5)⟩,
  ⟨(some 74), some (72, true), .bin .eql (.t 73) (.v (.int .i64 1))⟩,
  ⟨(some 75), none, .pick (.t 72) (.t 74) (.v (.bool false))⟩,
  ⟨(some 76), none, .mv (.t 75)⟩,
  ⟨(some 77), some (76, true), .mv (.t 6)⟩,
  ⟨(some 78), some (76, true), .bin .eql (.t 77) (.v (.int .i64 0))⟩,
  ⟨(some 79), none, .pick (.t 76) (.t 78) (.v (.bool false))⟩,
  ⟨(some 80), none, .mv (.t 79)⟩,
  ⟨(some 81), some (80, true), .mv (.t 7)⟩,
  ⟨(some 82), some (80, true), .len (.t 81)⟩,
  ⟨(some 83), some (80, true), .bin .eql (.t 82) (.v (.int .i64 2))⟩,
  ⟨(some 84), none, .pick (.t 80) (.t 83) (.v (.bool false))⟩,
  ⟨(some 85), none, .mv (.t 84)⟩,
  ⟨(some 86), some (85, true), .mv (.t 7)⟩,
  ⟨(some 87), some (85, true), .idx 3 (.t 86) (.v (.int .i64 1))⟩,
  ⟨(some 88), some (85, true), .load (some 3) (.t 87)⟩,
  ⟨(some 89), some (85, true), .load (some 3) (.t 2)⟩,
  ⟨(some 90), some (85, true), .bina [.s, .s, .s] .eql (.t 88) (.t 89)⟩,
  ⟨(some 91), none, .pick (.t 85) (.t 90) (.v (.bool false))⟩,
  ⟨(some 92), none, .mv (.t 91)⟩,
  ⟨(some 93), some (92, true), .mv (.t 8)⟩,
  ⟨(some 94), some (92, true), .len (.t 93)⟩,
  ⟨(some 95), some (92, true), .bin .eql (.t 94) (.v (.int .i64 1))⟩,
  ⟨(some 96), none, .pick (.t 92) (.t 95) (.v (.bool false))⟩,
  ⟨(some 97), none, .mv (.t 96)⟩,
  ⟨(some 98), some (97, true), .mv (.t 9)⟩,
  ⟨(some 99), some (97, true), .bin .eql (.t 98) (.v (.int .i64 0))⟩,
  ⟨(some 100), none, .pick (.t 97) (.t 99) (.v (.bool false))⟩,
  ⟨(some 101), none, .mv (.t 100)⟩,
  ⟨(some 102), some (101, true), .mv (.t 12)⟩,
  ⟨(some 103), some (101, true), .bin .eql (.t 102) (.v (.int .i64 25))⟩,
  ⟨(some 104), none, .pick (.t 101) (.t 103) (.v (.bool false))⟩,
  ⟨(some 105), none, .mv (.t 104)⟩,
  ⟨(some 106), some (105, true), .mv (.t 13)⟩,
  ⟨(some 107), some (105, true), .bin .eql (.t 106) (.v (.str [83, 77, 73, 84, 72, 47, 77, 65, 82, 89, 32, 74, 79, 32, 67, 72, 68]))⟩,
  ⟨(some 108), none, .pick (.t 105) (.t 107) (.v (.bool false))⟩,
  ⟨(some 109), none, .mv (.t 108)⟩,
  ⟨(some 110), some (109, true), .mv (.t 14)⟩,
  ⟨(some 111), some (109, true), .bin .eql (.t 110) (.v (.int .i64 0))⟩,
  ⟨(some 112), none, .pick (.t 109) (.t 111) (.v (.bool false))⟩,
  ⟨(some 113), none, .mv (.t 112)⟩,
  ⟨(some 114), some (113, true), .load (some 3) (.t 15)⟩,
  ⟨(some 115), some (113, true), .load (some 3) (.t 3)⟩,
  ⟨(some 116), some (113, true), .bina [.s, .s, .s] .eql (.t 114) (.t 115)⟩,
  ⟨(some 117), none, .pick (.t 113) (.t 116) (.v (.bool false))⟩,
  ⟨(some 118), none, .mv (.t 117)⟩,
  ⟨(some 119), some (118, true), .mv (.t 16)⟩,
  ⟨(some 120), some (118, true), .bin .eql (.t 119) (.v (.int .i64 0))⟩,
  ⟨(some 121), none, .pick (.t 118) (.t 120) (.v (.bool false))⟩,
  ⟨(some 122), none, .mv (.t 121)⟩,
  ⟨(some 123), some (122, true), .mv (.t 18)⟩,
  ⟨(some 124), some (122, true), .bin .eql (.t 123) (.v (.int .i64 3))⟩,
  ⟨(some 125), none, .pick (.t 122) (.t 124) (.v (.bool false))⟩,
  ⟨(some 126), none, .mv (.t 125)⟩,
  ⟨(some 127), some (126, true), .load (some 3) (.t 1)⟩,
  ⟨(some 128), some (126, true), .load (some 3) (.t 3)⟩,
  ⟨(some 129), some (126, true), .load (some 3) (.t 2)⟩,
  ⟨(some 130), some (126, true), .slc 30 3 false [(.t 127), (.t 128), (.t 129)]⟩,
  ⟨(some 131), some (126, true), .call 13 [(.t 130), (.v (.int .i64 3))]⟩,
  ⟨(some 132), some (126, true), .bin .eql (.t 131) (.v (.int .i64 5))⟩,
  ⟨(some 133), none, .pick (.t 126) (.t 132) (.v (.bool false))⟩,
  ⟨(some 134), none, .mv (.t 133)⟩,
  ⟨(some 135), some (134, true), .load (some 3) (.t 1)⟩,
  ⟨(some 136), some (134, true), .load (some 3) (.t 2)⟩,
  ⟨(some 137), some (134, true), .load (some 3) (.t 2)⟩,
  ⟨(some 138), some (134, true), .slc 30 3 false [(.t 135), (.t 136), (.t 137)]⟩,
  ⟨(some 139), some (134, true), .call 10 [(.t 138), (.v (.int .i64 0))]⟩,
  ⟨(some 140), some (134, true), .build [(.int .i64 0), (.str [])] [(0, 1, (.v (.int .i64 25))), (1, 1, (.v (.str [112, 97, 114, 116, 121])))]⟩,
  ⟨(some 141), some (134, true), .slc 47 2 false [(.t 140)]⟩,
  ⟨(some 142), some (134, true), .call 9 [(.t 139), (.t 141)]⟩,
  ⟨(some 143), none, .pick (.t 134) (.t 142) (.v (.bool false))⟩,
  ⟨(some 144), none, .mv (.t 143)⟩,
  ⟨(some 145), some (144, true), .call 10 [(.v .nils), (.v (.int .i64 12))]⟩,
  ⟨(some 146), some (144, true), .len (.t 145)⟩,
  ⟨(some 147), some (144, true), .bin .eql (.t 146) (.v (.int .i64 0))⟩,
  ⟨(some 148), none, .pick (.t 144) (.t 147) (.v (.bool false))⟩,
  ⟨(some 0), none, .mv (.t 148)⟩]
theorem tr12_9 : (ro Tryd.f12 9).toList.mapM (trO Tryd.prog 149 (ro Tryd.f12 9)) = some a12_9 := by kernel_rfl
def d12_9 : List (List Nat) := [[], [0], [0, 1], [0, 1, 2], [0, 1, 2, 3], [0, 1, 2, 3, 4], [0, 1, 2, 3, 4, 5], [0, 1, 2, 3], [0, 1, 2, 3, 4, 5, 6, 7], [0, 1, 2, 3, 4, 5, 6, 7, 8], [0, 1, 2, 3, 4, 5, 6, 7, 8, 9], [0, 1, 2, 3, 4, 5, 6, 7, 8, 9, 10], [0, 1, 2, 3, 4, 5, 6, 7, 8, 9, 10, 11], [0, 1, 2, 3, 4, 5, 6, 7, 8, 9, 10, 11, 12], [0, 1, 2, 3, 4, 5, 6, 7, 8, 9, 10, 11, 12, 13], [0, 1, 2, 3, 4, 5, 6, 7, 8, 9, 10, 11, 12, 13, 14], [0, 1, 2, 3, 4, 5, 6, 7, 8, 9, 10, 11, 12, 13, 14, 15], [0, 1, 2, 3, 4, 5, 6, 7, 8, 9, 10, 11, 12, 13, 14, 15, 16], [0, 1, 2, 3, 4, 5, 6, 7, 8, 9, 10, 11, 12, 13, 14, 15, 16, 17], [0, 1, 2, 3, 4, 5, 6, 7, 8, 9, 10, 11, 12, 13, 14, 15, 16, 17, 18], [0, 1, 2, 3, 4, 5, 6, 7, 8, 9, 10, 11, 12, 13, 14, 15, 16, 17, 18, 19], [0, 1, 2, 3, 4, 5, 6, 7, 8, 9, 10, 11, 12, 13, 14, 15, 16, 17, 18, 19, 20], [0, 1, 2, 3, 4, 5, 6, 7, 8, 9, 10, 11, 12, 13, 14, 15, 16, 17, 18, 19, 20, 21], [0, 1, 2, 3, 4, 5, 6, 7, 8, 9, 10, 11, 12, 13, 14, 15, 16, 17, 18, 19, 20, 21, 22], [0, 1, 2, 3, 4, 5, 6, 7, 8, 9, 10, 11, 12, 13, 14, 15, 16, 17, 18, 19, 20, 21, 22, 23], [0, 1, 2, 3, 4, 5, 6, 7, 8, 9, 10, 11, 12, 13, 14, 15, 16, 17, 18, 19, 20, 21, 22, 23, 24], [0, 1, 2, 3, 4, 5, 6, 7, 8, 9, 10, 11, 12, 13, 14, 15, 16, 17, 18, 19, 20, 21, 22, 23, 24, 25], [0, 1, 2, 3, 4, 5, 6, 7, 8, 9, 10, 11, 12, 13, 14, 15, 16, 17, 18, 19, 20, 21, 22, 23], [0, 1, 2, 3, 4, 5, 6, 7, 8, 9, 10, 11, 12, 13, 14, 15, 16, 17, 18, 19, 20, 21, 22, 23, 24, 25, 26, 27], [0, 1, 2, 3, 4, 5, 6, 7, 8, 9, 10, 11, 12, 13, 14, 15, 16, 17, 18, 19, 20, 21, 22, 23, 24, 25, 26, 27, 28], [0, 1, 2, 3, 4, 5, 6, 7, 8, 9, 10, 11, 12, 13, 14, 15, 16, 17, 18, 19, 20, 21, 22, 23, 24, 25, 26, 27, 28, 29], [0, 1, 2, 3, 4, 5, 6, 7, 8, 9, 10, 11, 12, 13, 14, 15, 16, 17, 18, 19, 20, 21, 22, 23, 24, 25, 26, 27, 28, 29, 30], [0, 1, 2, 3, 4, 5, 6, 7, 8, 9, 10, 11, 12, 13, 14, 15, 16, 17, 18, 19, 20, 21, 22, 23, 24, 25, 26, 27, 28, 29, 30, 31], [0, 1, 2, 3, 4, 5, 6, 7, 8, 9, 10, 11, 12, 13, 14, 15, 16, 17, 18, 19, 20, 21, 22, 23, 24, 25, 26, 27, 28, 29, 30, 31, 32], [0, 1, 2, 3, 4, 5, 6, 7, 8, 9, 10, 11, 12, 13, 14, 15, 16, 17, 18, 19, 20, 21, 22, 23, 24, 25, 26, 27, 28, 29, 30, 31, 32, 33], [0, 1, 2, 3, 4, 5, 6, 7, 8, 9, 10, 11, 12, 13, 14, 15, 16, 17, 18, 19, 20, 21, 22, 23, 24, 25, 26, 27, 28, 29, 30, 31, 32, 33, 34], [0, 1, 2, 3, 4, 5, 6, 7, 8, 9, 10, 11, 12, 13, 14, 15, 16, 17, 18, 19, 20, 21, 22, 23, 24, 25, 26, 27, 28, 29, 30, 31, 32, 33, 34, 35], [0, 1, 2, 3, 4, 5, 6, 7, 8, 9, 10, 11, 12, 13, 14, 15, 16, 17, 18, 19, 20, 21, 22, 23, 24, 25, 26, 27, 28, 29, 30, 31, 32, 33, 34, 35, 36], [0, 1, 2, 3, 4, 5, 6, 7, 8, 9, 10, 11, 12, 13, 14, 15, 16, 17, 18, 19, 20, 21, 22, 23, 24, 25, 26, 27, 28, 29, 30, 31, 32, 33, 34, 35, 36, 37], [0, 1, 2, 3, 4, 5, 6, 7, 8, 9, 10, 11, 12, 13, 14, 15, 16, 17, 18, 19, 20, 21, 22, 23, 24, 25, 26, 27, 28, 29, 30, 31, 32, 33, 34, 35, 36, 37, 38], [0, 1, 2, 3, 4, 5, 6, 7, 8, 9, 10, 11, 12, 13, 14, 15, 16, 17, 18, 19, 20, 21, 22, 23, 24, 25, 26, 27, 28, 29, 30, 31, 32, 33, 34, 35, 36, 37, 38, 39], [0, 1, 2, 3, 4, 5, 6, 7, 8, 9, 10, 11, 12, 13, 14, 15, 16, 17, 18, 19, 20, 21, 22, 23, 24, 25, 26, 27, 28, 29, 30, 31, 32, 33, 34, 35, 36, 37, 38, 39, 40], [0, 1, 2, 3, 4, 5, 6, 7, 8, 9, 10, 11, 12, 13, 14, 15, 16, 17, 18, 19, 20, 21, 22, 23, 24, 25, 26, 27, 28, 29, 30, 31, 32, 33, 34, 35, 36, 37, 38, 39, 40, 41], [0, 1, 2, 3, 4, 5, 6, 7, 8, 9, 10, 11, 12, 13, 14, 15, 16, 17, 18, 19, 20, 21, 22, 23, 24, 25, 26, 27, 28, 29, 30, 31, 32, 33, 34, 35, 36, 37, 38, 39, 40, 41, 42], [0, 1, 2, 3, 4, 5, 6, 7, 8, 9, 10, 11, 12, 13, 14, 15, 16, 17, 18, 19, 20, 21, 22, 23, 24, 25, 26, 27, 28, 29, 30, 31, 32, 33, 34, 35, 36, 37, 38, 39, 40, 41, 42, 43], [0, 1, 2, 3, 4, 5, 6, 7, 8, 9, 10, 11, 12, 13, 14, 15, 16, 17, 18, 19, 20, 21, 22, 23, 24, 25, 26, 27, 28, 29, 30, 31, 32, 33, 34, 35, 36, 37, 38, 39, 40, 41, 42, 43, 44], [0, 1, 2, 3, 4, 5, 6, 7, 8, 9, 10, 11, 12, 13, 14, 15, 16, 17, 18, 19, 20, 21, 22, 23, 24, 25, 26, 27, 28, 29, 30, 31, 32, 33, 34, 35, 36, 37, 38, 39, 40, 41, 42, 43, 44, 45], [0, 1, 2, 3, 4, 5, 6, 7, 8, 9, 10, 11, 12, 13, 14, 15, 16, 17, 18, 19, 20, 21, 22, 23, 24, 25, 26, 27, 28, 29, 30, 31, 32, 33, 34, 35, 36, 37, 38, 39, 40, 41, 42, 43, 44, 45, 46], [0, 1, 2, 3, 4, 5, 6, 7, 8, 9, 10, 11, 12, 13, 14, 15, 16, 17, 18, 19, 20, 21, 22, 23, 24, 25, 26, 27, 28, 29, 30, 31, 32, 33, 34, 35, 36, 37, 38, 39, 40, 41, 42, 43, 44, 45, 46, 47], [0, 1, 2, 3, 4, 5, 6, 7, 8, 9, 10, 11, 12, 13, 14, 15, 16, 17, 18, 19, 20, 21, 22, 23, 24, 25, 26, 27, 28, 29, 30, 31, 32, 33, 34, 35, 36, 37, 38, 39, 40, 41, 42, 43, 44, 45, 46, 47, 48], [0, 1, 2, 3, 4, 5, 6, 7, 8, 9, 10, 11, 12, 13, 14, 15, 16, 17, 18, 19, 20, 21, 22, 23, 24, 25, 26, 27, 28, 29, 30, 31, 32, 33, 34, 35, 36, 37, 38, 39, 40, 41, 42, 43, 44, 45, 46, 47, 48, 49], [0, 1, 2, 3, 4, 5, 6, 7, 8, 9, 10, 11, 12, 13, 14, 15, 16, 17, 18, 19, 20, 21, 22, 23, 24, 25, 26, 27, 28, 29, 30, 31, 32, 33, 34, 35, 36, 37, 38, 39, 40, 41, 42, 43, 44, 45, 46, 47, 48, 49, 50], [0, 1, 2, 3, 4, 5, 6, 7, 8, 9, 10, 11, 12, 13, 14, 15, 16, 17, 18, 19, 20, 21, 22, 23, 24, 25, 26, 27, 28, 29, 30, 31, 32, 33, 34, 35, 36, 37, 38, 39, 40, 41, 42, 43, 44, 45, 46, 47, 48, 49, 50, 51], [0, 1, 2, 3, 4, 5, 6, 7, 8, 9, 10, 11, 12, 13, 14, 15, 16, 17, 18, 19, 20, 21, 22, 23, 24, 25, 26, 27, 28, 29, 30, 31, 32, 33, 34, 35, 36, 37, 38, 39, 40, 41, 42, 43, 44, 45, 46, 47, 48, 49, 50, 51], [0, 1, 2, 3, 4, 5, 6, 7, 8, 9, 10, 11, 12, 13, 14, 15, 16, 17, 18, 19, 20, 21, 22, 23, 24, 25, 26, 27, 28, 29, 30, 31, 32, 33, 34, 35, 36, 37, 38, 39, 40, 41, 42, 43, 44, 45, 46, 47, 48, 49, 50, 51, 52, 53], [0, 1, 2, 3, 4, 5, 6, 7, 8, 9, 10, 11, 12, 13, 14, 15, 16, 17, 18, 19, 20, 21, 22, 23, 24, 25, 26, 27, 28, 29, 30, 31, 32, 33, 34, 35, 36, 37, 38, 39, 40, 41, 42, 43, 44, 45, 46, 47, 48, 49, 50, 51, 52, 53, 54], [0, 1, 2, 3, 4, 5, 6, 7, 8, 9, 10, 11, 12, 13, 14, 15, 16, 17, 18, 19, 20, 21, 22, 23, 24, 25, 26, 27, 28, 29, 30, 31, 32, 33, 34, 35, 36, 37, 38, 39, 40, 41, 42, 43, 44, 45, 46, 47, 48, 49, 50, 51, 52, 53, 54, 55], [0, 1, 2, 3, 4, 5, 6, 7, 8, 9, 10, 11, 12, 13, 14, 15, 16, 17, 18, 19, 20, 21, 22, 23, 24, 25, 26, 27, 28, 29, 30, 31, 32, 33, 34, 35, 36, 37, 38, 39, 40, 41, 42, 43, 44, 45, 46, 47, 48, 49, 50, 51, 52, 53, 54, 55, 56], [0, 1, 2, 3, 4, 5, 6, 7, 8, 9, 10, 11, 12, 13, 14, 15, 16, 17, 18, 19, 20, 21, 22, 23, 24, 25, 26, 27, 28, 29, 30, 31, 32, 33, 34, 35, 36, 37, 38, 39, 40, 41, 42, 43, 44, 45, 46, 47, 48, 49, 50, 51, 52, 53, 54, 55, 56, 57], [0, 1, 2, 3, 4, 5, 6, 7, 8, 9, 10, 11, 12, 13, 14, 15, 16, 17, 18, 19, 20, 21, 22, 23, 24, 25, 26, 27, 28, 29, 30, 31, 32, 33, 34, 35, 36, 37, 38, 39, 40, 41, 42, 43, 44, 45, 46, 47, 48, 49, 50, 51, 52, 53, 54, 55, 56, 57, 58], [0, 1, 2, 3, 4, 5, 6, 7, 8, 9, 10, 11, 12, 13, 14, 15, 16, 17, 18, 19, 20, 21, 22, 23, 24, 25, 26, 27, 28, 29, 30, 31, 32, 33, 34, 35, 36, 37, 38, 39, 40, 41, 42, 43, 44, 45, 46, 47, 48, 49, 50, 51, 52, 53, 54, 55, 56, 57, 58, 59], [0, 1, 2, 3, 4, 5, 6, 7, 8, 9, 10, 11, 12, 13, 14, 15, 16, 17, 18, 19, 20, 21, 22, 23, 24, 25, 26, 27, 28, 29, 30, 31, 32, 33, 34, 35, 36, 37, 38, 39, 40, 41, 42, 43, 44, 45, 46, 47, 48, 49, 50, 51, 52, 53, 54, 55, 56, 57, 58, 59, 60], [0, 1, 2, 3, 4, 5, 6, 7, 8, 9, 10, 11, 12, 13, 14, 15, 16, 17, 18, 19, 20, 21, 22, 23, 24, 25, 26, 27, 28, 29, 30, 31, 32, 33, 34, 35, 36, 37, 38, 39, 40, 41, 42, 43, 44, 45, 46, 47, 48, 49, 50, 51, 52, 53, 54, 55, 56, 57, 58, 59, 60, 61], [0, 1, 2, 3, 4, 5, 6, 7, 8, 9, 10, 11, 12, 13, 14, 15, 16, 17, 18, 19, 20, 21, 22, 23, 24, 25, 26, 27, 28, 29, 30, 31, 32, 33, 34, 35, 36, 37, 38, 39, 40, 41, 42, 43, 44, 45, 46, 47, 48, 49, 50, 51, 52, 53, 54, 55, 56, 57, 58, 59, 60, 61, 62], [0, 1, 2, 3, 4, 5, 6, 7, 8, 9, 10, 11, 12, 13, 14, 15, 16, 17, 18, 19, 20, 21, 22, 23, 24, 25, 26, 27, 28, 29, 30, 31, 32, 33, 34, 35, 36, 37, 38, 39, 40, 41, 42, 43, 44, 45, 46, 47, 48, 49, 50, 51, 52, 53, 54, 55, 56, 57, 58, 59, 60, 61, 62, 63], [0, 1, 2, 3, 4, 5, 6, 7, 8, 9, 10, 11, 12, 13, 14, 15, 16, 17, 18, 19, 20, 21, 22, 23, 24, 25, 26, 27, 28, 29, 30, 31, 32, 33, 34, 35, 36, 37, 38, 39, 40, 41, 42, 43, 44, 45, 46, 47, 48, 49, 50, 51, 52, 53, 54, 55, 56, 57, 58, 59, 60, 61, 62, 63, 64], [0, 1, 2, 3, 4, 5, 6, 7, 8, 9, 10, 11, 12, 13, 14, 15, 16, 17, 18, 19, 20, 21, 22, 23, 24, 25, 26, 27, 28, 29, 30, 31, 32, 33, 34, 35, 36, 37, 38, 39, 40, 41, 42, 43, 44, 45, 46, 47, 48, 49, 50, 51, 52, 53, 54, 55, 56, 57, 58, 59, 60, 61, 62, 63, 64], [0, 1, 2, 3, 4, 5, 6, 7, 8, 9, 10, 11, 12, 13, 14, 15, 16, 17, 18, 19, 20, 21, 22, 23, 24, 25, 26, 27, 28, 29, 30, 31, 32, 33, 34, 35, 36, 37, 38, 39, 40, 41, 42, 43, 44, 45, 46, 47, 48, 49, 50, 51, 52, 53, 54, 55, 56, 57, 58, 59, 60, 61, 62, 63, 64], [0, 1, 2, 3, 4, 5, 6, 7, 8, 9, 10, 11, 12, 13, 14, 15, 16, 17, 18, 19, 20, 21, 22, 23, 24, 25, 26, 27, 28, 29, 30, 31, 32, 33, 34, 35, 36, 37, 38, 39, 40, 41, 42, 43, 44, 45, 46, 47, 48, 49, 50, 51, 52, 53, 54, 55, 56, 57, 58, 59, 60, 61, 62, 63, 64, 65, 66, 67], [0, 1, 2, 3, 4, 5, 6, 7, 8, 9, 10, 11, 12, 13, 14, 15, 16, 17, 18, 19, 20, 21, 22, 23, 24, 25, 26, 27, 28, 29, 30, 31, 32, 33, 34, 35, 36, 37, 38, 39, 40, 41, 42, 43, 44, 45, 46, 47, 48, 49, 50, 51, 52, 53, 54, 55, 56, 57, 58, 59, 60, 61, 62, 63, 64, 65, 66, 67, 68], [0, 1, 2, 3, 4, 5, 6, 7, 8, 9, 10, 11, 12, 13, 14, 15, 16, 17, 18, 19, 20, 21, 22, 23, 24, 25, 26, 27, 28, 29, 30, 31, 32, 33, 34, 35, 36, 37, 38, 39, 40, 41, 42, 43, 44, 45, 46, 47, 48, 49, 50, 51, 52, 53, 54, 55, 56, 57, 58, 59, 60, 61, 62, 63, 64, 65, 66, 67, 68, 69], [0, 1, 2, 3, 4, 5, 6, 7, 8, 9, 10, 11, 12, 13, 14, 15, 16, 17, 18, 19, 20, 21, 22, 23, 24, 25, 26, 27, 28, 29, 30, 31, 32, 33, 34, 35, 36, 37, 38, 39, 40, 41, 42, 43, 44, 45, 46, 47, 48, 49, 50, 51, 52, 53, 54, 55, 56, 57, 58, 59, 60, 61, 62, 63, 64, 65, 66, 67, 68, 69, 70], [0, 1, 2, 3, 4, 5, 6, 7, 8, 9, 10, 11, 12, 13, 14, 15, 16, 17, 18, 19, 20, 21, 22, 23, 24, 25, 26, 27, 28, 29, 30, 31, 32, 33, 34, 35, 36, 37, 38, 39, 40, 41, 42, 43, 44, 45, 46, 47, 48, 49, 50, 51, 52, 53, 54, 55, 56, 57, 58, 59, 60, 61, 62, 63, 64, 65, 66, 67, 68, 69, 70, 71], [0, 1, 2, 3, 4, 5, 6, 7, 8, 9, 10, 11, 12, 13, 14, 15, 16, 17, 18, 19, 20, 21, 22, 23, 24, 25, 26, 27, 28, 29, 30, 31, 32, 33, 34, 35, 36, 37, 38, 39, 40, 41, 42, 43, 44, 45, 46, 47, 48, 49, 50, 51, 52, 53, 54, 55, 56, 57, 58, 59, 60, 61, 62, 63, 64, 65, 66, 67, 68, 69, 70, 71, 72], [0, 1, 2, 3, 4, 5, 6, 7, 8, 9, 10, 11, 12, 13, 14, 15, 16, 17, 18, 19, 20, 21, 22, 23, 24, 25, 26, 27, 28, 29, 30, 31, 32, 33, 34, 35, 36, 37, 38, 39, 40, 41, 42, 43, 44, 45, 46, 47, 48, 49, 50, 51, 52, 53, 54, 55, 56, 57, 58, 59, 60, 61, 62, 63, 64, 65, 66, 67, 68, 69, 70, 71, 72], [0, 1, 2, 3, 4, 5, 6, 7, 8, 9, 10, 11, 12, 13, 14, 15, 16, 17, 18, 19, 20, 21, 22, 23, 24, 25, 26, 27, 28, 29, 30, 31, 32, 33, 34, 35, 36, 37, 38, 39, 40, 41, 42, 43, 44, 45, 46, 47, 48, 49, 50, 51, 52, 53, 54, 55, 56, 57, 58, 59, 60, 61, 62, 63, 64, 65, 66, 67, 68, 69, 70, 71, 72], [0, 1, 2, 3, 4, 5, 6, 7, 8, 9, 10, 11, 12, 13, 14, 15, 16, 17, 18, 19, 20, 21, 22, 23, 24, 25, 26, 27, 28, 29, 30, 31, 32, 33, 34, 35, 36, 37, 38, 39, 40, 41, 42, 43, 44, 45, 46, 47, 48, 49, 50, 51, 52, 53, 54, 55, 56, 57, 58, 59, 60, 61, 62, 63, 64, 65, 66, 67, 68, 69, 70, 71, 72, 73, 74, 75], [0, 1, 2, 3, 4, 5, 6, 7, 8, 9, 10, 11, 12, 13, 14, 15, 16, 17, 18, 19, 20, 21, 22, 23, 24, 25, 26, 27, 28, 29, 30, 31, 32, 33, 34, 35, 36, 37, 38, 39, 40, 41, 42, 43, 44, 45, 46, 47, 48, 49, 50, 51, 52, 53, 54, 55, 56, 57, 58, 59, 60, 61, 62, 63, 64, 65, 66, 67, 68, 69, 70, 71, 72, 73, 74, 75, 76], [0, 1, 2, 3, 4, 5, 6, 7, 8, 9, 10, 11, 12, 13, 14, 15, 16, 17, 18, 19, 20, 21, 22, 23, 24, 25, 26, 27, 28, 29, 30, 31, 32, 33, 34, 35, 36, 37, 38, 39, 40, 41, 42, 43, 44, 45, 46, 47, 48, 49, 50, 51, 52, 53, 54, 55, 56, 57, 58, 59, 60, 61, 62, 63, 64, 65, 66, 67, 68, 69, 70, 71, 72], [0, 1, 2, 3, 4, 5, 6, 7, 8, 9, 10, 11, 12, 13, 14, 15, 16, 17, 18, 19, 20, 21, 22, 23, 24, 25, 26, 27, 28, 29, 30, 31, 32, 33, 34, 35, 36, 37, 38, 39, 40, 41, 42, 43, 44, 45, 46, 47, 48, 49, 50, 51, 52, 53, 54, 55, 56, 57, 58, 59, 60, 61, 62, 63, 64, 65, 66, 67, 68, 69, 70, 71, 72, 78], [0, 1, 2, 3, 4, 5, 6, 7, 8, 9, 10, 11, 12, 13, 14, 15, 16, 17, 18, 19, 20, 21, 22, 23, 24, 25, 26, 27, 28, 29, 30, 31, 32, 33, 34, 35, 36, 37, 38, 39, 40, 41, 42, 43, 44, 45, 46, 47, 48, 49, 50, 51, 52, 53, 54, 55, 56, 57, 58, 59, 60, 61, 62, 63, 64, 65, 66, 67, 68, 69, 70, 71, 72, 73, 74, 75, 76, 77, 78, 79], [0, 1, 2, 3, 4, 5, 6, 7, 8, 9, 10, 11, 12, 13, 14, 15, 16, 17, 18, 19, 20, 21, 22, 23, 24, 25, 26, 27, 28, 29, 30, 31, 32, 33, 34, 35, 36, 37, 38, 39, 40, 41, 42, 43, 44, 45, 46, 47, 48, 49, 50, 51, 52, 53, 54, 55, 56, 57, 58, 59, 60, 61, 62, 63, 64, 65, 66, 67, 68, 69, 70, 71, 72, 73, 74, 75, 76, 77, 78, 79, 80], [0, 1, 2, 3, 4, 5, 6, 7, 8, 9, 10, 11, 12, 13, 14, 15, 16, 17, 18, 19, 20, 21, 22, 23, 24, 25, 26, 27, 28, 29, 30, 31, 32, 33, 34, 35, 36, 37, 38, 39, 40, 41, 42, 43, 44, 45, 46, 47, 48, 49, 50, 51, 52, 53, 54, 55, 56, 57, 58, 59, 60, 61, 62, 63, 64, 65, 66, 67, 68, 69, 70, 71, 72, 73, 74, 75, 76, 77, 78, 79, 80, 81], [0, 1, 2, 3, 4, 5, 6, 7, 8, 9, 10, 11, 12, 13, 14, 15, 16, 17, 18, 19, 20, 21, 22, 23, 24, 25, 26, 27, 28, 29, 30, 31, 32, 33, 34, 35, 36, 37, 38, 39, 40, 41, 42, 43, 44, 45, 46, 47, 48, 49, 50, 51, 52, 53, 54, 55, 56, 57, 58, 59, 60, 61, 62, 63, 64, 65, 66, 67, 68, 69, 70, 71, 72, 73, 74, 75, 76, 77, 78, 79, 80, 81, 82], [0, 1, 2, 3, 4, 5, 6, 7, 8, 9, 10, 11, 12, 13, 14, 15, 16, 17, 18, 19, 20, 21, 22, 23, 24, 25, 26, 27, 28, 29, 30, 31, 32, 33, 34, 35, 36, 37, 38, 39, 40, 41, 42, 43, 44, 45, 46, 47, 48, 49, 50, 51, 52, 53, 54, 55, 56, 57, 58, 59, 60, 61, 62, 63, 64, 65, 66, 67, 68, 69, 70, 71, 72, 73, 74, 75, 76, 77, 78, 79, 80, 81, 82, 83], [0, 1, 2, 3, 4, 5, 6, 7, 8, 9, 10, 11, 12, 13, 14, 15, 16, 17, 18, 19, 20, 21, 22, 23, 24, 25, 26, 27, 28, 29, 30, 31, 32, 33, 34, 35, 36, 37, 38, 39, 40, 41, 42, 43, 44, 45, 46, 47, 48, 49, 50, 51, 52, 53, 54, 55, 56, 57, 58, 59, 60, 61, 62, 63, 64, 65, 66, 67, 68, 69, 70, 71, 72, 73, 74, 75, 76, 77, 78, 79, 80, 81, 82, 83, 84], [0, 1, 2, 3, 4, 5, 6, 7, 8, 9, 10, 11, 12, 13, 14, 15, 16, 17, 18, 19, 20, 21, 22, 23, 24, 25, 26, 27, 28, 29, 30, 31, 32, 33, 34, 35, 36, 37, 38, 39, 40, 41, 42, 43, 44, 45, 46, 47, 48, 49, 50, 51, 52, 53, 54, 55, 56, 57, 58, 59, 60, 61, 62, 63, 64, 65, 66, 67, 68, 69, 70, 71, 72, 73, 74, 75, 76, 77, 78, 79, 80, 81, 82, 83, 84, 85], [0, 1, 2, 3, 4, 5, 6, 7, 8, 9, 10, 11, 12, 13, 14, 15, 16, 17, 18, 19, 20, 21, 22, 23, 24, 25, 26, 27, 28, 29, 30, 31, 32, 33, 34, 35, 36, 37, 38, 39, 40, 41, 42, 43, 44, 45, 46, 47, 48, 49, 50, 51, 52, 53, 54, 55, 56, 57, 58, 59, 60, 61, 62, 63, 64, 65, 66, 67, 68, 69, 70, 71, 72, 73, 74, 75, 76, 77, 78, 79, 80, 81, 82, 83, 84, 85, 86]]
theorem ok12_9 : okReg (ro Tryd.f12 9) a12_9 d12_9 = true := by kernel_rfl
/-- airline/party.Seats -/
noncomputable def c13 : Code := .seq (.region 0 (ro Tryd.f13 0) false) (.seq (.region 1 (ro Tryd.f13 1) false) (.seq (.seq (.region 2 (ro Tryd.f13 2) false) (.block 0 (.loop (.seq (.region 3 (ro Tryd.f13 3) false) (.seq (.cond (.tmp 14) (.skip) (.exit 0)) (.seq (.block 1 (.seq (.region 4 (ro Tryd.f13 4) false) (.seq (.region 5 (ro Tryd.f13 5) false) (.cond (.tmp 19) (.region 6 (ro Tryd.f13 6) false) (.skip))))) (.region 7 (ro Tryd.f13 7) false))))))) (.seq (.region 8 (ro Tryd.f13 8) false) (.ret))))
theorem body13 : Tryd.f13.body = some c13 := by kernel_rfl
theorem res13 : Tryd.f13.results.toList.mapM (trR Tryd.prog) = some [.t 4] := by kernel_rfl
theorem nt13 : Tryd.f13.ntmps = 24 := by kernel_rfl
theorem nm13 : (Tryd.f13.name == "runtime.NumGoroutine") = false := by kernel_rfl
def a13_0 : List AO := [⟨(some 4), none, .mv (.v (.int .i64 0))⟩]
theorem tr13_0 : (ro Tryd.f13 0).toList.mapM (trO Tryd.prog 24 (ro Tryd.f13 0)) = some a13_0 := by kernel_rfl
def a13_1 : List AO := [⟨(some 8), none, .mv (.t 1)⟩,
  ⟨(some 9), none, .mx (.t 8) (.v (.int .i64 0))⟩,
  ⟨(some 10), none, .mn (.t 9) (.v (.int .i64 99))⟩,
  ⟨(some 5), none, .mv (.t 10)⟩]
theorem tr13_1 : (ro Tryd.f13 1).toList.mapM (trO Tryd.prog 24 (ro Tryd.f13 1)) = some a13_1 := by kernel_rfl
def a13_2 : List AO := [⟨(some 11), none, .mv (.t 0)⟩,
  ⟨(some 12), none, .len (.t 11)⟩,
  ⟨(some 13), none, .mv (.v (.int .i64 0))⟩]
theorem tr13_2 : (ro Tryd.f13 2).toList.mapM (trO Tryd.prog 24 (ro Tryd.f13 2)) = some a13_2 := by kernel_rfl
def a13_3 : List AO := [⟨(some 14), none, .bin .lss (.t 13) (.t 12)⟩]
theorem tr13_3 : (ro Tryd.f13 3).toList.mapM (trO Tryd.prog 24 (ro Tryd.f13 3)) = some a13_3 := by kernel_rfl
def a13_4 : List AO := [⟨(some 15), none, .idx 3 (.t 11) (.t 13)⟩,
  ⟨(some 16), none, .load (some 3) (.t 15)⟩,
  ⟨(some 7), none, .alloc 30 [(.str []), (.str []), (.str [])]⟩,
  ⟨none, none, .store 3 (.t 7) (.t 16)⟩]
theorem tr13_4 : (ro Tryd.f13 4).toList.mapM (trO Tryd.prog 24 (ro Tryd.f13 4)) = some a13_4 := by kernel_rfl
def a13_5 : List AO := [⟨(some 17), none, .load (some 3) (.t 7)⟩,
  ⟨(some 18), none, .call 33 [(.t 17)]⟩,
  ⟨(some 19), none, .un .not (.t 18)⟩]
theorem tr13_5 : (ro Tryd.f13 5).toList.mapM (trO Tryd.prog 24 (ro Tryd.f13 5)) = some a13_5 := by kernel_rfl
def a13_6 : List AO := [⟨(some 20), none, .mv (.t 5)⟩,
  ⟨(some 21), none, .bin .add (.t 20) (.v (.int .i64 1))⟩,
  ⟨(some 5), none, .mv (.t 21)⟩]
theorem tr13_6 : (ro Tryd.f13 6).toList.mapM (trO Tryd.prog 24 (ro Tryd.f13 6)) = some a13_6 := by kernel_rfl
def a13_7 : List AO := [⟨(some 22), none, .bin .add (.t 13) (.v (.int .i64 1))⟩,
  ⟨(some 13), none, .mv (.t 22)⟩]
theorem tr13_7 : (ro Tryd.f13 7).toList.mapM (trO Tryd.prog 24 (ro Tryd.f13 7)) = some a13_7 := by kernel_rfl
def a13_8 : List AO := [⟨(some 23), none, .mv (.t 5)⟩,
  ⟨(some 4), none, .mv (.t 23)⟩]
theorem tr13_8 : (ro Tryd.f13 8).toList.mapM (trO Tryd.prog 24 (ro Tryd.f13 8)) = some a13_8 := by kernel_rfl
/-- airline/airlineref32.Seats -/
noncomputable def c14 : Code := .seq (.region 0 (ro Tryd.f14 0) false) (.seq (.region 1 (ro Tryd.f14 1) false) (.seq (.seq (.region 2 (ro Tryd.f14 2) false) (.block 0 (.loop (.seq (.seq (.region 3 (ro Tryd.f14 3) false) (.cond (.tmp 13) (.skip) (.exit 0))) (.seq (.block 1 (.seq (.region 5 (ro Tryd.f14 5) false) (.cond (.tmp 21) (.region 6 (ro Tryd.f14 6) false) (.skip)))) (.region 4 (ro Tryd.f14 4) false)))))) (.seq (.region 7 (ro Tryd.f14 7) false) (.ret))))
theorem body14 : Tryd.f14.body = some c14 := by kernel_rfl
theorem res14 : Tryd.f14.results.toList.mapM (trR Tryd.prog) = some [.t 4] := by kernel_rfl
theorem nt14 : Tryd.f14.ntmps = 25 := by kernel_rfl
theorem nm14 : (Tryd.f14.name == "runtime.NumGoroutine") = false := by kernel_rfl
def a14_0 : List AO := [⟨(some 4), none, .mv (.v (.int .i64 0))⟩]
theorem tr14_0 : (ro Tryd.f14 0).toList.mapM (trO Tryd.prog 25 (ro Tryd.f14 0)) = some a14_0 := by kernel_rfl
def a14_1 : List AO := [⟨(some 7), none, .mv (.t 1)⟩,
  ⟨(some 8), none, .mx (.t 7) (.v (.int .i64 0))⟩,
  ⟨(some 9), none, .mn (.t 8) (.v (.int .i64 99))⟩,
  ⟨(some 5), none, .mv (.t 9)⟩]
theorem tr14_1 : (ro Tryd.f14 1).toList.mapM (trO Tryd.prog 25 (ro Tryd.f14 1)) = some a14_1 := by kernel_rfl
def a14_2 : List AO := [⟨(some 6), none, .mv (.v (.int .i64 0))⟩]
theorem tr14_2 : (ro Tryd.f14 2).toList.mapM (trO Tryd.prog 25 (ro Tryd.f14 2)) = some a14_2 := by kernel_rfl
def a14_3 : List AO := [⟨(some 10), none, .mv (.t 6)⟩,
  ⟨(some 11), none, .mv (.t 0)⟩,
  ⟨(some 12), none, .len (.t 11)⟩,
  ⟨(some 13), none, .bin .lss (.t 10) (.t 12)⟩]
theorem tr14_3 : (ro Tryd.f14 3).toList.mapM (trO Tryd.prog 25 (ro Tryd.f14 3)) = some a14_3 := by kernel_rfl
def a14_5 : List AO := [⟨(some 16), none, .mv (.t 0)⟩,
  ⟨(some 17), none, .mv (.t 6)⟩,
  ⟨(some 18), none, .idx 3 (.t 16) (.t 17)⟩,
  ⟨(some 19), none, .fld 2 (.t 18)⟩,
  ⟨(some 20), none, .load none (.t 19)⟩,
  ⟨(some 21), none, .bin .neq (.t 20) (.v (.str [73, 78, 70]))⟩]
theorem tr14_5 : (ro Tryd.f14 5).toList.mapM (trO Tryd.prog 25 (ro Tryd.f14 5)) = some a14_5 := by kernel_rfl
def a14_6 : List AO := [⟨(some 22), none, .mv (.t 5)⟩,
  ⟨(some 23), none, .bin .add (.t 22) (.v (.int .i64 1))⟩,
  ⟨(some 5), none, .mv (.t 23)⟩]
theorem tr14_6 : (ro Tryd.f14 6).toList.mapM (trO Tryd.prog 25 (ro Tryd.f14 6)) = some a14_6 := by kernel_rfl
def a14_4 : List AO := [⟨(some 14), none, .mv (.t 6)⟩,
  ⟨(some 15), none, .bin .add (.t 14) (.v (.int .i64 1))⟩,
  ⟨(some 6), none, .mv (.t 15)⟩]
theorem tr14_4 : (ro Tryd.f14 4).toList.mapM (trO Tryd.prog 25 (ro Tryd.f14 4)) = some a14_4 := by kernel_rfl
def a14_7 : List AO := [⟨(some 24), none, .mv (.t 5)⟩,
  ⟨(some 4), none, .mv (.t 24)⟩]
theorem tr14_7 : (ro Tryd.f14 7).toList.mapM (trO Tryd.prog 25 (ro Tryd.f14 7)) = some a14_7 := by kernel_rfl
/-- airline/party.Name -/
noncomputable def c15 : Code := .seq (.region 0 (ro Tryd.f15 0) false) (.seq (.region 1 (ro Tryd.f15 1) false) (.seq (.region 2 (ro Tryd.f15 2) false) (.seq (.seq (.region 3 (ro Tryd.f15 3) false) (.cond (.tmp 32) (.seq (.region 4 (ro Tryd.f15 4) false) (.ret)) (.skip))) (.seq (.seq (.region 5 (ro Tryd.f15 5) false) (.cond (.tmp 35) (.seq (.region 6 (ro Tryd.f15 6) false) (.ret)) (.skip))) (.seq (.seq (.region 7 (ro Tryd.f15 7) false) (.cond (.tmp 38) (.seq (.region 8 (ro Tryd.f15 8) false) (.ret)) (.skip))) (.seq (.seq (.region 9 (ro Tryd.f15 9) true) (.cond (.tmp 57) (.seq (.region 10 (ro Tryd.f15 10) false) (.ret)) (.skip))) (.seq (.region 11 (ro Tryd.f15 11) false) (.seq (.region 12 (ro Tryd.f15 12) false) (.seq (.seq (.region 13 (ro Tryd.f15 13) false) (.cond (.tmp 65) (.region 14 (ro Tryd.f15 14) true) (.region 15 (ro Tryd.f15 15) false))) (.seq (.seq (.region 16 (ro Tryd.f15 16) false) (.cond (.tmp 79) (.seq (.region 17 (ro Tryd.f15 17) false) (.ret)) (.skip))) (.seq (.seq (.region 18 (ro Tryd.f15 18) false) (.cond (.tmp 80) (.region 19 (ro Tryd.f15 19) false) (.skip))) (.seq (.seq (.region 20 (ro Tryd.f15 20) false) (.cond (.tmp 92) (.seq (.region 21 (ro Tryd.f15 21) false) (.ret)) (.skip))) (.seq (.region 22 (ro Tryd.f15 22) false) (.ret))))))))))))))
theorem body15 : Tryd.f15.body = some c15 := by kernel_rfl
theorem res15 : Tryd.f15.results.toList.mapM (trR Tryd.prog) = some [.t 8, .t 9, .t 10] := by kernel_rfl
theorem nt15 : Tryd.f15.ntmps = 95 := by kernel_rfl
theorem nm15 : (Tryd.f15.name == "runtime.NumGoroutine") = false := by kernel_rfl
def a15_0 : List AO := [⟨(some 7), none, .box 30 (.t 3)⟩,
  ⟨(some 8), none, .mv (.v .nils)⟩,
  ⟨(some 9), none, .mv (.v (.int .i64 0))⟩,
  ⟨(some 10), none, .mv (.v (.int .i64 0))⟩]
theorem tr15_0 : (ro Tryd.f15 0).toList.mapM (trO Tryd.prog 95 (ro Tryd.f15 0)) = some a15_0 := by kernel_rfl
def a15_1 : List AO := [⟨(some 14), none, .mv (.t 0)⟩,
  ⟨(some 15), none, .len (.t 14)⟩,
  ⟨(some 11), none, .mv (.t 15)⟩]
theorem tr15_1 : (ro Tryd.f15 1).toList.mapM (trO Tryd.prog 95 (ro Tryd.f15 1)) = some a15_1 := by kernel_rfl
def a15_2 : List AO := [⟨(some 16), none, .mv (.t 2)⟩,
  ⟨(some 17), none, .mv (.t 11)⟩,
  ⟨(some 18), none, .bin .eql (.t 16) (.t 17)⟩,
  ⟨(some 12), none, .mv (.t 18)⟩]
theorem tr15_2 : (ro Tryd.f15 2).toList.mapM (trO Tryd.prog 95 (ro Tryd.f15 2)) = some a15_2 := by kernel_rfl
def a15_3 : List AO := [⟨(some 19), none, .mv (.t 2)⟩,
  ⟨(some 20), none, .bin .lss (.t 19) (.v (.int .i64 0))⟩,
  ⟨(some 21), none, .mv (.t 20)⟩,
  ⟨(some 22), some (21, false), .mv (.t 2)⟩,
  ⟨(some 23), some (21, false), .mv (.t 11)⟩,
  ⟨(some 24), some (21, false), .bin .gtr (.t 22) (.t 23)⟩,
  ⟨(some 25), none, .pick (.t 21) (.v (.bool true)) (.t 24)⟩,
  ⟨(some 26), none, .mv (.t 25)⟩,
  ⟨(some 27), some (26, false), .mv (.t 12)⟩,
  ⟨(some 28), some (26, false), .mv (.t 27)⟩,
  ⟨(some 29), some (28, true), .mv (.t 1)⟩,
  ⟨(some 30), some (28, true), .bin .lss (.t 29) (.v (.int .i64 1))⟩,
  ⟨(some 31), some (26, false), .pick (.t 28) (.t 30) (.v (.bool false))⟩,
  ⟨(some 32), none, .pick (.t 26) (.v (.bool true)) (.t 31)⟩]
theorem tr15_3 : (ro Tryd.f15 3).toList.mapM (trO Tryd.prog 95 (ro Tryd.f15 3)) = some a15_3 := by kernel_rfl
def a15_4 : List AO := [⟨(some 8), none, .mv (.v .nils)⟩,
  ⟨(some 9), none, .mv (.v (.int .i64 0))⟩,
  ⟨(some 10), none, .mv (.v (.int .i64 7))⟩]
theorem tr15_4 : (ro Tryd.f15 4).toList.mapM (trO Tryd.prog 95 (ro Tryd.f15 4)) = some a15_4 := by kernel_rfl
def a15_5 : List AO := [⟨(some 33), none, .load (some 3) (.t 7)⟩,
  ⟨(some 34), none, .call 26 [(.t 33)]⟩,
  ⟨(some 35), none, .un .not (.t 34)⟩]
theorem tr15_5 : (ro Tryd.f15 5).toList.mapM (trO Tryd.prog 95 (ro Tryd.f15 5)) = some a15_5 := by kernel_rfl
def a15_6 : List AO := [⟨(some 8), none, .mv (.v .nils)⟩,
  ⟨(some 9), none, .mv (.v (.int .i64 0))⟩,
  ⟨(some 10), none, .mv (.v (.int .i64 5))⟩]
theorem tr15_6 : (ro Tryd.f15 6).toList.mapM (trO Tryd.prog 95 (ro Tryd.f15 6)) = some a15_6 := by kernel_rfl
def a15_7 : List AO := [⟨(some 36), none, .load (some 3) (.t 7)⟩,
  ⟨(some 37), none, .call 27 [(.t 36)]⟩,
  ⟨(some 38), none, .un .not (.t 37)⟩]
theorem tr15_7 : (ro Tryd.f15 7).toList.mapM (trO Tryd.prog 95 (ro Tryd.f15 7)) = some a15_7 := by kernel_rfl
def a15_8 : List AO := [⟨(some 8), none, .mv (.v .nils)⟩,
  ⟨(some 9), none, .mv (.v (.int .i64 0))⟩,
  ⟨(some 10), none, .mv (.v (.int .i64 8))⟩]
theorem tr15_8 : (ro Tryd.f15 8).toList.mapM (trO Tryd.prog 95 (ro Tryd.f15 8)) = some a15_8 := by kernel_rfl
def a15_9 : List AO := [⟨(some 39), none, .mv (.t 12)⟩,
  ⟨(some 40), none, .mv (.t 39)⟩,
  ⟨(some 41), some (40, true), .load (some 3) (.t 7)⟩,
  ⟨(some 42), some (40, true), .call 33 [(.t 41)]⟩,
  ⟨(some 43), none, .pick (.t 40) (.t 42) (.v (.bool false))⟩,
  ⟨(some 44), none, .mv (.t 43)⟩,
  ⟨(some 45), some (44, false), .mv (.t 12)⟩,
  ⟨(some 46), some (44, false), .un .not (.t 45)⟩,
  ⟨(some 47), some (44, false), .mv (.t 46)⟩,
  ⟨(some 48), some (47, true), .load (some 3) (.t 7)⟩,
  ⟨(some 49), some (47, true), .call 33 [(.t 48)]⟩,
  ⟨(some 50), some (47, true), .mv (.t 0)⟩,
  ⟨(some 51), some (47, true), .mv (.t 2)⟩,
  ⟨(some 52), some (47, true), .idx 3 (.t 50) (.t 51)⟩,
  ⟨(some 53), some (47, true), .load (some 3) (.t 52)⟩,
  ⟨(some 54), some (47, true), .call 33 [(.t 53)]⟩,
  ⟨(some 55), some (47, true), .binb .neq (.t 49) (.t 54)⟩,
  ⟨(some 56), some (44, false), .pick (.t 47) (.t 55) (.v (.bool false))⟩,
  ⟨(some 57), none, .pick (.t 44) (.v (.bool true)) (.t 56)⟩]
theorem tr15_9 : (ro Tryd.f15 9).toList.mapM (trO Tryd.prog 95 (ro Tryd.f15 9)) = some a15_9 := by kernel_rfl
def d15_9 : List (List Nat) := [[], [0], [0, 1], [0, 1, 2], [0, 1, 2, 3], [0, 1, 2, 3, 4], [0, 1, 2, 3, 4, 5], [0, 1, 2, 3, 4, 5, 6], [0, 1, 2, 3, 4, 5, 6, 7], [0, 1, 2, 3, 4, 5, 6, 7, 8], [0, 1, 2, 3, 4, 5, 6, 7, 8, 9], [0, 1, 2, 3, 4, 5, 6, 7, 8], [0, 1, 2, 3, 4, 5, 6, 7, 8], [0, 1, 2, 3, 4, 5, 6, 7, 8, 11, 12], [0, 1, 2, 3, 4, 5, 6, 7, 8, 11, 12, 13], [0, 1, 2, 3, 4, 5, 6, 7, 8, 9, 10, 11, 12, 13, 14], [0, 1, 2, 3, 4, 5, 6, 7, 8, 9, 10, 11, 12, 13, 14, 15], [0, 1, 2, 3, 4, 5, 6, 7, 8, 9, 10, 11, 12, 13, 14, 15, 16], [0, 1, 2, 3, 4, 5, 6, 7, 8, 9, 10, 11, 12, 13, 14, 15, 16, 17]]
theorem ok15_9 : okReg (ro Tryd.f15 9) a15_9 d15_9 = true := by kernel_rfl
def a15_10 : List AO := [⟨(some 8), none, .mv (.v .nils)⟩,
  ⟨(some 9), none, .mv (.v (.int .i64 0))⟩,
  ⟨(some 10), none, .mv (.v (.int .i64 2))⟩]
theorem tr15_10 : (ro Tryd.f15 10).toList.mapM (trO Tryd.prog 95 (ro Tryd.f15 10)) = some a15_10 := by kernel_rfl
def a15_11 : List AO := [⟨(some 58), none, .mv (.t 11)⟩,
  ⟨(some 59), none, .mv (.t 11)⟩,
  ⟨(some 60), none, .bin .add (.t 59) (.v (.int .i64 1))⟩,
  ⟨(some 61), none, .mks 30 3 48 [(.str []), (.str []), (.str [])] (.t 58) (.t 60)⟩,
  ⟨(some 13), none, .mv (.t 61)⟩]
theorem tr15_11 : (ro Tryd.f15 11).toList.mapM (trO Tryd.prog 95 (ro Tryd.f15 11)) = some a15_11 := by kernel_rfl
def a15_12 : List AO := [⟨(some 62), none, .mv (.t 13)⟩,
  ⟨(some 63), none, .mv (.t 0)⟩,
  ⟨(some 64), none, .cpy 3 (.t 62) (.t 63)⟩]
theorem tr15_12 : (ro Tryd.f15 12).toList.mapM (trO Tryd.prog 95 (ro Tryd.f15 12)) = some a15_12 := by kernel_rfl
def a15_13 : List AO := [⟨(some 65), none, .mv (.t 12)⟩]
theorem tr15_13 : (ro Tryd.f15 13).toList.mapM (trO Tryd.prog 95 (ro Tryd.f15 13)) = some a15_13 := by kernel_rfl
def a15_14 : List AO := [⟨(some 66), none, .mv (.t 13)⟩,
  ⟨(some 67), none, .mv (.t 11)⟩,
  ⟨(some 68), none, .mv (.t 11)⟩,
  ⟨(some 69), none, .bin .add (.t 68) (.v (.int .i64 1))⟩,
  ⟨(some 70), none, .sub 3 none (some (.t 67)) (some (.t 69)) (.t 66)⟩,
  ⟨(some 71), none, .load (some 3) (.t 7)⟩,
  ⟨(some 72), none, .slc 30 3 false [(.t 71)]⟩,
  ⟨(some 73), none, .app 30 3 48 (.t 70) (.t 72)⟩,
  ⟨(some 13), none, .mv (.t 73)⟩]
theorem tr15_14 : (ro Tryd.f15 14).toList.mapM (trO Tryd.prog 95 (ro Tryd.f15 14)) = some a15_14 := by kernel_rfl
def d15_14 : List (List Nat) := [[], [], [], [2], [0, 1, 2, 3], [], [5], [0, 1, 2, 3, 4, 5, 6], [0, 1, 2, 3, 4, 5, 6, 7]]
theorem ok15_14 : okReg (ro Tryd.f15 14) a15_14 d15_14 = true := by kernel_rfl
def a15_15 : List AO := [⟨(some 74), none, .mv (.t 13)⟩,
  ⟨(some 75), none, .mv (.t 2)⟩,
  ⟨(some 76), none, .load (some 3) (.t 7)⟩,
  ⟨(some 77), none, .idx 3 (.t 74) (.t 75)⟩,
  ⟨none, none, .store 3 (.t 77) (.t 76)⟩]
theorem tr15_15 : (ro Tryd.f15 15).toList.mapM (trO Tryd.prog 95 (ro Tryd.f15 15)) = some a15_15 := by kernel_rfl
def a15_16 : List AO := [⟨(some 78), none, .mv (.t 13)⟩,
  ⟨(some 79), none, .call 28 [(.t 78)]⟩]
theorem tr15_16 : (ro Tryd.f15 16).toList.mapM (trO Tryd.prog 95 (ro Tryd.f15 16)) = some a15_16 := by kernel_rfl
def a15_17 : List AO := [⟨(some 8), none, .mv (.v .nils)⟩,
  ⟨(some 9), none, .mv (.v (.int .i64 0))⟩,
  ⟨(some 10), none, .mv (.v (.int .i64 25))⟩]
theorem tr15_17 : (ro Tryd.f15 17).toList.mapM (trO Tryd.prog 95 (ro Tryd.f15 17)) = some a15_17 := by kernel_rfl
def a15_18 : List AO := [⟨(some 80), none, .mv (.t 12)⟩]
theorem tr15_18 : (ro Tryd.f15 18).toList.mapM (trO Tryd.prog 95 (ro Tryd.f15 18)) = some a15_18 := by kernel_rfl
def a15_19 : List AO := [⟨(some 81), none, .mv (.t 1)⟩,
  ⟨(some 82), none, .bin .sub (.t 81) (.v (.int .i64 1))⟩,
  ⟨(some 1), none, .mv (.t 82)⟩]
theorem tr15_19 : (ro Tryd.f15 19).toList.mapM (trO Tryd.prog 95 (ro Tryd.f15 19)) = some a15_19 := by kernel_rfl
def a15_20 : List AO := [⟨(some 83), none, .mv (.t 12)⟩,
  ⟨(some 84), none, .mv (.t 83)⟩,
  ⟨(some 85), some (84, true), .mv (.t 1)⟩,
  ⟨(some 86), some (84, true), .bin .eql (.t 85) (.v (.int .i64 0))⟩,
  ⟨(some 87), none, .pick (.t 84) (.t 86) (.v (.bool false))⟩,
  ⟨(some 88), none, .mv (.t 87)⟩,
  ⟨(some 89), some (88, true), .mv (.t 11)⟩,
  ⟨(some 90), some (88, true), .bin .add (.t 89) (.v (.int .i64 1))⟩,
  ⟨(some 91), some (88, true), .bin .gtr (.t 90) (.v (.int .i64 9))⟩,
  ⟨(some 92), none, .pick (.t 88) (.t 91) (.v (.bool false))⟩]
theorem tr15_20 : (ro Tryd.f15 20).toList.mapM (trO Tryd.prog 95 (ro Tryd.f15 20)) = some a15_20 := by kernel_rfl
def a15_21 : List AO := [⟨(some 8), none, .mv (.v .nils)⟩,
  ⟨(some 9), none, .mv (.v (.int .i64 0))⟩,
  ⟨(some 10), none, .mv (.v (.int .i64 4))⟩]
theorem tr15_21 : (ro Tryd.f15 21).toList.mapM (trO Tryd.prog 95 (ro Tryd.f15 21)) = some a15_21 := by kernel_rfl
def a15_22 : List AO := [⟨(some 93), none, .mv (.t 13)⟩,
  ⟨(some 94), none, .mv (.t 1)⟩,
  ⟨(some 8), none, .mv (.t 93)⟩,
  ⟨(some 9), none, .mv (.t 94)⟩,
  ⟨(some 10), none, .mv (.v (.int .i64 0))⟩]
theorem tr15_22 : (ro Tryd.f15 22).toList.mapM (trO Tryd.prog 95 (ro Tryd.f15 22)) = some a15_22 := by kernel_rfl
/-- airline/airlineref32.Name -/
noncomputable def c16 : Code := .seq (.region 0 (ro Tryd.f16 0) false) (.seq (.seq (.region 1 (ro Tryd.f16 1) false) (.cond (.tmp 30) (.seq (.region 2 (ro Tryd.f16 2) false) (.ret)) (.skip))) (.seq (.seq (.region 3 (ro Tryd.f16 3) false) (.cond (.tmp 33) (.seq (.region 4 (ro Tryd.f16 4) false) (.ret)) (.skip))) (.seq (.seq (.region 5 (ro Tryd.f16 5) false) (.cond (.tmp 36) (.seq (.region 6 (ro Tryd.f16 6) false) (.ret)) (.skip))) (.seq (.region 7 (ro Tryd.f16 7) false) (.seq (.seq (.region 8 (ro Tryd.f16 8) false) (.cond (.tmp 53) (.seq (.region 9 (ro Tryd.f16 9) false) (.ret)) (.skip))) (.seq (.region 10 (ro Tryd.f16 10) false) (.seq (.seq (.region 11 (ro Tryd.f16 11) false) (.cond (.tmp 60) (.region 12 (ro Tryd.f16 12) false) (.region 13 (ro Tryd.f16 13) false))) (.seq (.seq (.region 14 (ro Tryd.f16 14) false) (.cond (.tmp 73) (.seq (.region 15 (ro Tryd.f16 15) false) (.ret)) (.skip))) (.seq (.seq (.region 16 (ro Tryd.f16 16) false) (.cond (.tmp 86) (.seq (.region 17 (ro Tryd.f16 17) false) (.ret)) (.skip))) (.seq (.region 18 (ro Tryd.f16 18) false) (.ret)))))))))))
theorem body16 : Tryd.f16.body = some c16 := by kernel_rfl
theorem res16 : Tryd.f16.results.toList.mapM (trR Tryd.prog) = some [.t 8, .t 9, .t 10] := by kernel_rfl
theorem nt16 : Tryd.f16.ntmps = 89 := by kernel_rfl
theorem nm16 : (Tryd.f16.name == "runtime.NumGoroutine") = false := by kernel_rfl
def a16_0 : List AO := [⟨(some 7), none, .box 30 (.t 3)⟩,
  ⟨(some 8), none, .mv (.v .nils)⟩,
  ⟨(some 9), none, .mv (.v (.int .i64 0))⟩,
  ⟨(some 10), none, .mv (.v (.int .i64 0))⟩]
theorem tr16_0 : (ro Tryd.f16 0).toList.mapM (trO Tryd.prog 89 (ro Tryd.f16 0)) = some a16_0 := by kernel_rfl
def a16_1 : List AO := [⟨(some 13), none, .mv (.t 2)⟩,
  ⟨(some 14), none, .bin .lss (.t 13) (.v (.int .i64 0))⟩,
  ⟨(some 15), none, .mv (.t 14)⟩,
  ⟨(some 16), some (15, false), .mv (.t 2)⟩,
  ⟨(some 17), some (15, false), .mv (.t 0)⟩,
  ⟨(some 18), some (15, false), .len (.t 17)⟩,
  ⟨(some 19), some (15, false), .bin .gtr (.t 16) (.t 18)⟩,
  ⟨(some 20), none, .pick (.t 15) (.v (.bool true)) (.t 19)⟩,
  ⟨(some 21), none, .mv (.t 20)⟩,
  ⟨(some 22), some (21, false), .mv (.t 2)⟩,
  ⟨(some 23), some (21, false), .mv (.t 0)⟩,
  ⟨(some 24), some (21, false), .len (.t 23)⟩,
  ⟨(some 25), some (21, false), .bin .eql (.t 22) (.t 24)⟩,
  ⟨(some 26), some (21, false), .mv (.t 25)⟩,
  ⟨(some 27), some (26, true), .mv (.t 1)⟩,
  ⟨(some 28), some (26, true), .bin .lss (.t 27) (.v (.int .i64 1))⟩,
  ⟨(some 29), some (21, false), .pick (.t 26) (.t 28) (.v (.bool false))⟩,
  ⟨(some 30), none, .pick (.t 21) (.v (.bool true)) (.t 29)⟩]
theorem tr16_1 : (ro Tryd.f16 1).toList.mapM (trO Tryd.prog 89 (ro Tryd.f16 1)) = some a16_1 := by kernel_rfl
def a16_2 : List AO := [⟨(some 8), none, .mv (.v .nils)⟩,
  ⟨(some 9), none, .mv (.v (.int .i64 0))⟩,
  ⟨(some 10), none, .mv (.v (.int .i64 7))⟩]
theorem tr16_2 : (ro Tryd.f16 2).toList.mapM (trO Tryd.prog 89 (ro Tryd.f16 2)) = some a16_2 := by kernel_rfl
def a16_3 : List AO := [⟨(some 31), none, .load (some 3) (.t 7)⟩,
  ⟨(some 32), none, .call 30 [(.t 31)]⟩,
  ⟨(some 33), none, .un .not (.t 32)⟩]
theorem tr16_3 : (ro Tryd.f16 3).toList.mapM (trO Tryd.prog 89 (ro Tryd.f16 3)) = some a16_3 := by kernel_rfl
def a16_4 : List AO := [⟨(some 8), none, .mv (.v .nils)⟩,
  ⟨(some 9), none, .mv (.v (.int .i64 0))⟩,
  ⟨(some 10), none, .mv (.v (.int .i64 5))⟩]
theorem tr16_4 : (ro Tryd.f16 4).toList.mapM (trO Tryd.prog 89 (ro Tryd.f16 4)) = some a16_4 := by kernel_rfl
def a16_5 : List AO := [⟨(some 34), none, .load (some 3) (.t 7)⟩,
  ⟨(some 35), none, .call 31 [(.t 34)]⟩,
  ⟨(some 36), none, .un .not (.t 35)⟩]
theorem tr16_5 : (ro Tryd.f16 5).toList.mapM (trO Tryd.prog 89 (ro Tryd.f16 5)) = some a16_5 := by kernel_rfl
def a16_6 : List AO := [⟨(some 8), none, .mv (.v .nils)⟩,
  ⟨(some 9), none, .mv (.v (.int .i64 0))⟩,
  ⟨(some 10), none, .mv (.v (.int .i64 8))⟩]
theorem tr16_6 : (ro Tryd.f16 6).toList.mapM (trO Tryd.prog 89 (ro Tryd.f16 6)) = some a16_6 := by kernel_rfl
def a16_7 : List AO := [⟨(some 37), none, .mv (.t 2)⟩,
  ⟨(some 38), none, .mv (.t 0)⟩,
  ⟨(some 39), none, .len (.t 38)⟩,
  ⟨(some 40), none, .bin .lss (.t 37) (.t 39)⟩,
  ⟨(some 41), none, .mv (.t 40)⟩,
  ⟨(some 42), some (41, true), .mv (.t 0)⟩,
  ⟨(some 43), some (41, true), .mv (.t 2)⟩,
  ⟨(some 44), some (41, true), .idx 3 (.t 42) (.t 43)⟩,
  ⟨(some 45), some (41, true), .fld 2 (.t 44)⟩,
  ⟨(some 46), some (41, true), .load none (.t 45)⟩,
  ⟨(some 47), some (41, true), .bin .eql (.t 46) (.v (.str [73, 78, 70]))⟩,
  ⟨(some 48), none, .pick (.t 41) (.t 47) (.v (.bool false))⟩,
  ⟨(some 11), none, .mv (.t 48)⟩]
theorem tr16_7 : (ro Tryd.f16 7).toList.mapM (trO Tryd.prog 89 (ro Tryd.f16 7)) = some a16_7 := by kernel_rfl
def a16_8 : List AO := [⟨(some 49), none, .mv (.t 11)⟩,
  ⟨(some 50), none, .fld 2 (.t 7)⟩,
  ⟨(some 51), none, .load none (.t 50)⟩,
  ⟨(some 52), none, .bin .eql (.t 51) (.v (.str [73, 78, 70]))⟩,
  ⟨(some 53), none, .binb .neq (.t 49) (.t 52)⟩]
theorem tr16_8 : (ro Tryd.f16 8).toList.mapM (trO Tryd.prog 89 (ro Tryd.f16 8)) = some a16_8 := by kernel_rfl
def a16_9 : List AO := [⟨(some 8), none, .mv (.v .nils)⟩,
  ⟨(some 9), none, .mv (.v (.int .i64 0))⟩,
  ⟨(some 10), none, .mv (.v (.int .i64 2))⟩]
theorem tr16_9 : (ro Tryd.f16 9).toList.mapM (trO Tryd.prog 89 (ro Tryd.f16 9)) = some a16_9 := by kernel_rfl
def a16_10 : List AO := [⟨(some 54), none, .slc 30 3 false []⟩,
  ⟨(some 55), none, .mv (.t 0)⟩,
  ⟨(some 56), none, .app 30 3 48 (.t 54) (.t 55)⟩,
  ⟨(some 12), none, .mv (.t 56)⟩]
theorem tr16_10 : (ro Tryd.f16 10).toList.mapM (trO Tryd.prog 89 (ro Tryd.f16 10)) = some a16_10 := by kernel_rfl
def a16_11 : List AO := [⟨(some 57), none, .mv (.t 2)⟩,
  ⟨(some 58), none, .mv (.t 0)⟩,
  ⟨(some 59), none, .len (.t 58)⟩,
  ⟨(some 60), none, .bin .eql (.t 57) (.t 59)⟩]
theorem tr16_11 : (ro Tryd.f16 11).toList.mapM (trO Tryd.prog 89 (ro Tryd.f16 11)) = some a16_11 := by kernel_rfl
def a16_12 : List AO := [⟨(some 61), none, .mv (.t 12)⟩,
  ⟨(some 62), none, .load (some 3) (.t 7)⟩,
  ⟨(some 63), none, .slc 30 3 false [(.t 62)]⟩,
  ⟨(some 64), none, .app 30 3 48 (.t 61) (.t 63)⟩,
  ⟨(some 65), none, .mv (.t 1)⟩,
  ⟨(some 66), none, .bin .sub (.t 65) (.v (.int .i64 1))⟩,
  ⟨(some 12), none, .mv (.t 64)⟩,
  ⟨(some 1), none, .mv (.t 66)⟩]
theorem tr16_12 : (ro Tryd.f16 12).toList.mapM (trO Tryd.prog 89 (ro Tryd.f16 12)) = some a16_12 := by kernel_rfl
def a16_13 : List AO := [⟨(some 67), none, .mv (.t 12)⟩,
  ⟨(some 68), none, .mv (.t 2)⟩,
  ⟨(some 69), none, .load (some 3) (.t 7)⟩,
  ⟨(some 70), none, .idx 3 (.t 67) (.t 68)⟩,
  ⟨none, none, .store 3 (.t 70) (.t 69)⟩]
theorem tr16_13 : (ro Tryd.f16 13).toList.mapM (trO Tryd.prog 89 (ro Tryd.f16 13)) = some a16_13 := by kernel_rfl
def a16_14 : List AO := [⟨(some 71), none, .mv (.t 12)⟩,
  ⟨(some 72), none, .call 32 [(.t 71)]⟩,
  ⟨(some 73), none, .un .not (.t 72)⟩]
theorem tr16_14 : (ro Tryd.f16 14).toList.mapM (trO Tryd.prog 89 (ro Tryd.f16 14)) = some a16_14 := by kernel_rfl
def a16_15 : List AO := [⟨(some 8), none, .mv (.v .nils)⟩,
  ⟨(some 9), none, .mv (.v (.int .i64 0))⟩,
  ⟨(some 10), none, .mv (.v (.int .i64 25))⟩]
theorem tr16_15 : (ro Tryd.f16 15).toList.mapM (trO Tryd.prog 89 (ro Tryd.f16 15)) = some a16_15 := by kernel_rfl
def a16_16 : List AO := [⟨(some 74), none, .mv (.t 2)⟩,
  ⟨(some 75), none, .mv (.t 0)⟩,
  ⟨(some 76), none, .len (.t 75)⟩,
  ⟨(some 77), none, .bin .eql (.t 74) (.t 76)⟩,
  ⟨(some 78), none, .mv (.t 77)⟩,
  ⟨(some 79), some (78, true), .mv (.t 1)⟩,
  ⟨(some 80), some (78, true), .bin .eql (.t 79) (.v (.int .i64 0))⟩,
  ⟨(some 81), none, .pick (.t 78) (.t 80) (.v (.bool false))⟩,
  ⟨(some 82), none, .mv (.t 81)⟩,
  ⟨(some 83), some (82, true), .mv (.t 12)⟩,
  ⟨(some 84), some (82, true), .len (.t 83)⟩,
  ⟨(some 85), some (82, true), .bin .gtr (.t 84) (.v (.int .i64 9))⟩,
  ⟨(some 86), none, .pick (.t 82) (.t 85) (.v (.bool false))⟩]
theorem tr16_16 : (ro Tryd.f16 16).toList.mapM (trO Tryd.prog 89 (ro Tryd.f16 16)) = some a16_16 := by kernel_rfl
def a16_17 : List AO := [⟨(some 8), none, .mv (.v .nils)⟩,
  ⟨(some 9), none, .mv (.v (.int .i64 0))⟩,
  ⟨(some 10), none, .mv (.v (.int .i64 4))⟩]
theorem tr16_17 : (ro Tryd.f16 17).toList.mapM (trO Tryd.prog 89 (ro Tryd.f16 17)) = some a16_17 := by kernel_rfl
def a16_18 : List AO := [⟨(some 87), none, .mv (.t 12)⟩,
  ⟨(some 88), none, .mv (.t 1)⟩,
  ⟨(some 8), none, .mv (.t 87)⟩,
  ⟨(some 9), none, .mv (.t 88)⟩,
  ⟨(some 10), none, .mv (.v (.int .i64 0))⟩]
theorem tr16_18 : (ro Tryd.f16 18).toList.mapM (trO Tryd.prog 89 (ro Tryd.f16 18)) = some a16_18 := by kernel_rfl
/-- airline/airlinelaw32.same -/
noncomputable def c17 : Code := .seq (.region 0 (ro Tryd.f17 0) false) (.seq (.seq (.region 1 (ro Tryd.f17 1) false) (.cond (.tmp 10) (.seq (.region 2 (ro Tryd.f17 2) false) (.ret)) (.skip))) (.seq (.seq (.region 3 (ro Tryd.f17 3) false) (.block 0 (.loop (.seq (.seq (.region 4 (ro Tryd.f17 4) false) (.cond (.tmp 14) (.skip) (.exit 0))) (.seq (.block 1 (.seq (.region 6 (ro Tryd.f17 6) true) (.cond (.tmp 25) (.seq (.region 7 (ro Tryd.f17 7) false) (.ret)) (.skip)))) (.region 5 (ro Tryd.f17 5) false)))))) (.seq (.region 8 (ro Tryd.f17 8) false) (.ret))))
theorem body17 : Tryd.f17.body = some c17 := by kernel_rfl
theorem res17 : Tryd.f17.results.toList.mapM (trR Tryd.prog) = some [.t 4] := by kernel_rfl
theorem nt17 : Tryd.f17.ntmps = 26 := by kernel_rfl
theorem nm17 : (Tryd.f17.name == "runtime.NumGoroutine") = false := by kernel_rfl
def a17_0 : List AO := [⟨(some 4), none, .mv (.v (.bool false))⟩]
theorem tr17_0 : (ro Tryd.f17 0).toList.mapM (trO Tryd.prog 26 (ro Tryd.f17 0)) = some a17_0 := by kernel_rfl
def a17_1 : List AO := [⟨(some 6), none, .mv (.t 0)⟩,
  ⟨(some 7), none, .len (.t 6)⟩,
  ⟨(some 8), none, .mv (.t 1)⟩,
  ⟨(some 9), none, .len (.t 8)⟩,
  ⟨(some 10), none, .bin .neq (.t 7) (.t 9)⟩]
theorem tr17_1 : (ro Tryd.f17 1).toList.mapM (trO Tryd.prog 26 (ro Tryd.f17 1)) = some a17_1 := by kernel_rfl
def a17_2 : List AO := [⟨(some 4), none, .mv (.v (.bool false))⟩]
theorem tr17_2 : (ro Tryd.f17 2).toList.mapM (trO Tryd.prog 26 (ro Tryd.f17 2)) = some a17_2 := by kernel_rfl
def a17_3 : List AO := [⟨(some 5), none, .mv (.v (.int .i64 0))⟩]
theorem tr17_3 : (ro Tryd.f17 3).toList.mapM (trO Tryd.prog 26 (ro Tryd.f17 3)) = some a17_3 := by kernel_rfl
def a17_4 : List AO := [⟨(some 11), none, .mv (.t 5)⟩,
  ⟨(some 12), none, .mv (.t 0)⟩,
  ⟨(some 13), none, .len (.t 12)⟩,
  ⟨(some 14), none, .bin .lss (.t 11) (.t 13)⟩]
theorem tr17_4 : (ro Tryd.f17 4).toList.mapM (trO Tryd.prog 26 (ro Tryd.f17 4)) = some a17_4 := by kernel_rfl
def a17_6 : List AO := [⟨(some 17), none, .mv (.t 0)⟩,
  ⟨(some 18), none, .mv (.t 5)⟩,
  ⟨(some 19), none, .idx 3 (.t 17) (.t 18)⟩,
  ⟨(some 20), none, .load (some 3) (.t 19)⟩,
  ⟨(some 21), none, .mv (.t 1)⟩,
  ⟨(some 22), none, .mv (.t 5)⟩,
  ⟨(some 23), none, .idx 3 (.t 21) (.t 22)⟩,
  ⟨(some 24), none, .load (some 3) (.t 23)⟩,
  ⟨(some 25), none, .bina [.s, .s, .s] .neq (.t 20) (.t 24)⟩]
theorem tr17_6 : (ro Tryd.f17 6).toList.mapM (trO Tryd.prog 26 (ro Tryd.f17 6)) = some a17_6 := by kernel_rfl
def d17_6 : List (List Nat) := [[], [], [0, 1], [0, 1, 2], [], [], [4, 5], [4, 5, 6], [0, 1, 2, 3, 4, 5, 6, 7]]
theorem ok17_6 : okReg (ro Tryd.f17 6) a17_6 d17_6 = true := by kernel_rfl
def a17_7 : List AO := [⟨(some 4), none, .mv (.v (.bool false))⟩]
theorem tr17_7 : (ro Tryd.f17 7).toList.mapM (trO Tryd.prog 26 (ro Tryd.f17 7)) = some a17_7 := by kernel_rfl
def a17_5 : List AO := [⟨(some 15), none, .mv (.t 5)⟩,
  ⟨(some 16), none, .bin .add (.t 15) (.v (.int .i64 1))⟩,
  ⟨(some 5), none, .mv (.t 16)⟩]
theorem tr17_5 : (ro Tryd.f17 5).toList.mapM (trO Tryd.prog 26 (ro Tryd.f17 5)) = some a17_5 := by kernel_rfl
def a17_8 : List AO := [⟨(some 4), none, .mv (.v (.bool true))⟩]
theorem tr17_8 : (ro Tryd.f17 8).toList.mapM (trO Tryd.prog 26 (ro Tryd.f17 8)) = some a17_8 := by kernel_rfl
/-- airline/party.Split -/
noncomputable def c18 : Code := .seq (.region 0 (ro Tryd.f18 0) false) (.seq (.region 1 (ro Tryd.f18 1) false) (.seq (.region 2 (ro Tryd.f18 2) false) (.seq (.seq (.region 3 (ro Tryd.f18 3) false) (.block 0 (.loop (.seq (.region 4 (ro Tryd.f18 4) false) (.seq (.cond (.tmp 23) (.skip) (.exit 0)) (.seq (.block 1 (.seq (.region 5 (ro Tryd.f18 5) false) (.seq (.seq (.region 6 (ro Tryd.f18 6) false) (.cond (.tmp 33) (.seq (.region 7 (ro Tryd.f18 7) false) (.ret)) (.skip))) (.seq (.region 8 (ro Tryd.f18 8) false) (.region 9 (ro Tryd.f18 9) false))))) (.region 10 (ro Tryd.f18 10) false))))))) (.seq (.seq (.region 11 (ro Tryd.f18 11) false) (.cond (.tmp 45) (.seq (.region 12 (ro Tryd.f18 12) false) (.ret)) (.skip))) (.seq (.seq (.region 13 (ro Tryd.f18 13) false) (.cond (.tmp 48) (.seq (.region 14 (ro Tryd.f18 14) false) (.ret)) (.skip))) (.seq (.region 15 (ro Tryd.f18 15) false) (.seq (.region 16 (ro Tryd.f18 16) false) (.seq (.seq (.region 17 (ro Tryd.f18 17) false) (.block 2 (.loop (.seq (.region 18 (ro Tryd.f18 18) false) (.seq (.cond (.tmp 57) (.skip) (.exit 2)) (.seq (.block 3 (.seq (.region 19 (ro Tryd.f18 19) false) (.seq (.region 20 (ro Tryd.f18 20) false) (.cond (.tmp 62) (.region 21 (ro Tryd.f18 21) true) (.region 22 (ro Tryd.f18 22) true))))) (.region 23 (ro Tryd.f18 23) false))))))) (.seq (.region 24 (ro Tryd.f18 24) true) (.seq (.seq (.region 25 (ro Tryd.f18 25) false) (.cond (.tmp 102) (.seq (.region 26 (ro Tryd.f18 26) false) (.ret)) (.skip))) (.seq (.region 27 (ro Tryd.f18 27) false) (.ret))))))))))))
theorem body18 : Tryd.f18.body = some c18 := by kernel_rfl
theorem res18 : Tryd.f18.results.toList.mapM (trR Tryd.prog) = some [.t 4, .t 5, .t 6] := by kernel_rfl
theorem nt18 : Tryd.f18.ntmps = 105 := by kernel_rfl
theorem nm18 : (Tryd.f18.name == "runtime.NumGoroutine") = false := by kernel_rfl
def a18_0 : List AO := [⟨(some 4), none, .mv (.v .nils)⟩,
  ⟨(some 5), none, .mv (.v .nils)⟩,
  ⟨(some 6), none, .mv (.v (.int .i64 0))⟩]
theorem tr18_0 : (ro Tryd.f18 0).toList.mapM (trO Tryd.prog 105 (ro Tryd.f18 0)) = some a18_0 := by kernel_rfl
def a18_1 : List AO := [⟨(some 17), none, .mv (.t 0)⟩,
  ⟨(some 18), none, .len (.t 17)⟩,
  ⟨(some 19), none, .mks 4 1 1 [(.bool false)] (.t 18) (.t 18)⟩,
  ⟨(some 7), none, .mv (.t 19)⟩]
theorem tr18_1 : (ro Tryd.f18 1).toList.mapM (trO Tryd.prog 105 (ro Tryd.f18 1)) = some a18_1 := by kernel_rfl
def a18_2 : List AO := [⟨(some 8), none, .mv (.v (.bool false))⟩]
theorem tr18_2 : (ro Tryd.f18 2).toList.mapM (trO Tryd.prog 105 (ro Tryd.f18 2)) = some a18_2 := by kernel_rfl
def a18_3 : List AO := [⟨(some 20), none, .mv (.t 1)⟩,
  ⟨(some 21), none, .len (.t 20)⟩,
  ⟨(some 22), none, .mv (.v (.int .i64 0))⟩]
theorem tr18_3 : (ro Tryd.f18 3).toList.mapM (trO Tryd.prog 105 (ro Tryd.f18 3)) = some a18_3 := by kernel_rfl
def a18_4 : List AO := [⟨(some 23), none, .bin .lss (.t 22) (.t 21)⟩]
theorem tr18_4 : (ro Tryd.f18 4).toList.mapM (trO Tryd.prog 105 (ro Tryd.f18 4)) = some a18_4 := by kernel_rfl
def a18_5 : List AO := [⟨(some 24), none, .idx 1 (.t 20) (.t 22)⟩,
  ⟨(some 25), none, .load none (.t 24)⟩,
  ⟨(some 10), none, .mv (.t 25)⟩]
theorem tr18_5 : (ro Tryd.f18 5).toList.mapM (trO Tryd.prog 105 (ro Tryd.f18 5)) = some a18_5 := by kernel_rfl
def a18_6 : List AO := [⟨(some 26), none, .mv (.t 10)⟩,
  ⟨(some 27), none, .bin .lss (.t 26) (.v (.int .i64 0))⟩,
  ⟨(some 28), none, .mv (.t 27)⟩,
  ⟨(some 29), some (28, false), .mv (.t 10)⟩,
  ⟨(some 30), some (28, false), .mv (.t 0)⟩,
  ⟨(some 31), some (28, false), .len (.t 30)⟩,
  ⟨(some 32), some (28, false), .bin .geq (.t 29) (.t 31)⟩,
  ⟨(some 33), none, .pick (.t 28) (.v (.bool true)) (.t 32)⟩]
theorem tr18_6 : (ro Tryd.f18 6).toList.mapM (trO Tryd.prog 105 (ro Tryd.f18 6)) = some a18_6 := by kernel_rfl
def a18_7 : List AO := [⟨(some 4), none, .mv (.v .nils)⟩,
  ⟨(some 5), none, .mv (.v .nils)⟩,
  ⟨(some 6), none, .mv (.v (.int .i64 7))⟩]
theorem tr18_7 : (ro Tryd.f18 7).toList.mapM (trO Tryd.prog 105 (ro Tryd.f18 7)) = some a18_7 := by kernel_rfl
def a18_8 : List AO := [⟨(some 34), none, .mv (.t 8)⟩,
  ⟨(some 35), none, .mv (.t 34)⟩,
  ⟨(some 36), some (35, false), .mv (.t 7)⟩,
  ⟨(some 37), some (35, false), .mv (.t 10)⟩,
  ⟨(some 38), some (35, false), .idx 1 (.t 36) (.t 37)⟩,
  ⟨(some 39), some (35, false), .load none (.t 38)⟩,
  ⟨(some 40), none, .pick (.t 35) (.v (.bool true)) (.t 39)⟩,
  ⟨(some 8), none, .mv (.t 40)⟩]
theorem tr18_8 : (ro Tryd.f18 8).toList.mapM (trO Tryd.prog 105 (ro Tryd.f18 8)) = some a18_8 := by kernel_rfl
def a18_9 : List AO := [⟨(some 41), none, .mv (.t 7)⟩,
  ⟨(some 42), none, .mv (.t 10)⟩,
  ⟨(some 43), none, .idx 1 (.t 41) (.t 42)⟩,
  ⟨none, none, .store 1 (.t 43) (.v (.bool true))⟩]
theorem tr18_9 : (ro Tryd.f18 9).toList.mapM (trO Tryd.prog 105 (ro Tryd.f18 9)) = some a18_9 := by kernel_rfl
def a18_10 : List AO := [⟨(some 44), none, .bin .add (.t 22) (.v (.int .i64 1))⟩,
  ⟨(some 22), none, .mv (.t 44)⟩]
theorem tr18_10 : (ro Tryd.f18 10).toList.mapM (trO Tryd.prog 105 (ro Tryd.f18 10)) = some a18_10 := by kernel_rfl
def a18_11 : List AO := [⟨(some 45), none, .mv (.t 8)⟩]
theorem tr18_11 : (ro Tryd.f18 11).toList.mapM (trO Tryd.prog 105 (ro Tryd.f18 11)) = some a18_11 := by kernel_rfl
def a18_12 : List AO := [⟨(some 4), none, .mv (.v .nils)⟩,
  ⟨(some 5), none, .mv (.v .nils)⟩,
  ⟨(some 6), none, .mv (.v (.int .i64 6))⟩]
theorem tr18_12 : (ro Tryd.f18 12).toList.mapM (trO Tryd.prog 105 (ro Tryd.f18 12)) = some a18_12 := by kernel_rfl
def a18_13 : List AO := [⟨(some 46), none, .mv (.t 1)⟩,
  ⟨(some 47), none, .len (.t 46)⟩,
  ⟨(some 48), none, .bin .eql (.t 47) (.v (.int .i64 0))⟩]
theorem tr18_13 : (ro Tryd.f18 13).toList.mapM (trO Tryd.prog 105 (ro Tryd.f18 13)) = some a18_13 := by kernel_rfl
def a18_14 : List AO := [⟨(some 4), none, .mv (.v .nils)⟩,
  ⟨(some 5), none, .mv (.v .nils)⟩,
  ⟨(some 6), none, .mv (.v (.int .i64 2))⟩]
theorem tr18_14 : (ro Tryd.f18 14).toList.mapM (trO Tryd.prog 105 (ro Tryd.f18 14)) = some a18_14 := by kernel_rfl
def a18_15 : List AO := [⟨(some 49), none, .mv (.t 0)⟩,
  ⟨(some 50), none, .len (.t 49)⟩,
  ⟨(some 51), none, .mks 30 3 48 [(.str []), (.str []), (.str [])] (.t 50) (.t 50)⟩,
  ⟨(some 11), none, .mv (.t 51)⟩]
theorem tr18_15 : (ro Tryd.f18 15).toList.mapM (trO Tryd.prog 105 (ro Tryd.f18 15)) = some a18_15 := by kernel_rfl
def a18_16 : List AO := [⟨(some 52), none, .mv (.t 1)⟩,
  ⟨(some 53), none, .len (.t 52)⟩,
  ⟨(some 12), none, .mv (.v (.int .i64 0))⟩,
  ⟨(some 13), none, .mv (.t 53)⟩]
theorem tr18_16 : (ro Tryd.f18 16).toList.mapM (trO Tryd.prog 105 (ro Tryd.f18 16)) = some a18_16 := by kernel_rfl
def a18_17 : List AO := [⟨(some 54), none, .mv (.t 0)⟩,
  ⟨(some 55), none, .len (.t 54)⟩,
  ⟨(some 56), none, .mv (.v (.int .i64 0))⟩]
theorem tr18_17 : (ro Tryd.f18 17).toList.mapM (trO Tryd.prog 105 (ro Tryd.f18 17)) = some a18_17 := by kernel_rfl
def a18_18 : List AO := [⟨(some 57), none, .bin .lss (.t 56) (.t 55)⟩]
theorem tr18_18 : (ro Tryd.f18 18).toList.mapM (trO Tryd.prog 105 (ro Tryd.f18 18)) = some a18_18 := by kernel_rfl
def a18_19 : List AO := [⟨(some 58), none, .mv (.t 56)⟩,
  ⟨(some 14), none, .mv (.t 58)⟩]
theorem tr18_19 : (ro Tryd.f18 19).toList.mapM (trO Tryd.prog 105 (ro Tryd.f18 19)) = some a18_19 := by kernel_rfl
def a18_20 : List AO := [⟨(some 59), none, .mv (.t 7)⟩,
  ⟨(some 60), none, .mv (.t 14)⟩,
  ⟨(some 61), none, .idx 1 (.t 59) (.t 60)⟩,
  ⟨(some 62), none, .load none (.t 61)⟩]
theorem tr18_20 : (ro Tryd.f18 20).toList.mapM (trO Tryd.prog 105 (ro Tryd.f18 20)) = some a18_20 := by kernel_rfl
def a18_21 : List AO := [⟨(some 63), none, .mv (.t 12)⟩,
  ⟨(some 64), none, .mv (.t 11)⟩,
  ⟨(some 65), none, .mv (.t 12)⟩,
  ⟨(some 66), none, .sub 3 (some (.t 65)) none none (.t 64)⟩,
  ⟨(some 67), none, .mv (.t 0)⟩,
  ⟨(some 68), none, .mv (.t 14)⟩,
  ⟨(some 69), none, .mv (.t 14)⟩,
  ⟨(some 70), none, .bin .add (.t 69) (.v (.int .i64 1))⟩,
  ⟨(some 71), none, .sub 3 (some (.t 68)) (some (.t 70)) none (.t 67)⟩,
  ⟨(some 72), none, .cpy 3 (.t 66) (.t 71)⟩,
  ⟨(some 73), none, .bin .add (.t 63) (.t 72)⟩,
  ⟨(some 12), none, .mv (.t 73)⟩]
theorem tr18_21 : (ro Tryd.f18 21).toList.mapM (trO Tryd.prog 105 (ro Tryd.f18 21)) = some a18_21 := by kernel_rfl
def d18_21 : List (List Nat) := [[], [], [], [1, 2], [], [], [], [6], [4, 5, 6, 7], [1, 2, 3, 4, 5, 6, 7, 8], [0, 1, 2, 3, 4, 5, 6, 7, 8, 9], [0, 1, 2, 3, 4, 5, 6, 7, 8, 9, 10]]
theorem ok18_21 : okReg (ro Tryd.f18 21) a18_21 d18_21 = true := by kernel_rfl
def a18_22 : List AO := [⟨(some 74), none, .mv (.t 13)⟩,
  ⟨(some 75), none, .mv (.t 11)⟩,
  ⟨(some 76), none, .mv (.t 13)⟩,
  ⟨(some 77), none, .sub 3 (some (.t 76)) none none (.t 75)⟩,
  ⟨(some 78), none, .mv (.t 0)⟩,
  ⟨(some 79), none, .mv (.t 14)⟩,
  ⟨(some 80), none, .mv (.t 14)⟩,
  ⟨(some 81), none, .bin .add (.t 80) (.v (.int .i64 1))⟩,
  ⟨(some 82), none, .sub 3 (some (.t 79)) (some (.t 81)) none (.t 78)⟩,
  ⟨(some 83), none, .cpy 3 (.t 77) (.t 82)⟩,
  ⟨(some 84), none, .bin .add (.t 74) (.t 83)⟩,
  ⟨(some 13), none, .mv (.t 84)⟩]
theorem tr18_22 : (ro Tryd.f18 22).toList.mapM (trO Tryd.prog 105 (ro Tryd.f18 22)) = some a18_22 := by kernel_rfl
def d18_22 : List (List Nat) := [[], [], [], [1, 2], [], [], [], [6], [4, 5, 6, 7], [1, 2, 3, 4, 5, 6, 7, 8], [0, 1, 2, 3, 4, 5, 6, 7, 8, 9], [0, 1, 2, 3, 4, 5, 6, 7, 8, 9, 10]]
theorem ok18_22 : okReg (ro Tryd.f18 22) a18_22 d18_22 = true := by kernel_rfl
def a18_23 : List AO := [⟨(some 85), none, .bin .add (.t 56) (.v (.int .i64 1))⟩,
  ⟨(some 56), none, .mv (.t 85)⟩]
theorem tr18_23 : (ro Tryd.f18 23).toList.mapM (trO Tryd.prog 105 (ro Tryd.f18 23)) = some a18_23 := by kernel_rfl
def a18_24 : List AO := [⟨(some 86), none, .mv (.t 11)⟩,
  ⟨(some 87), none, .mv (.t 12)⟩,
  ⟨(some 88), none, .mv (.t 12)⟩,
  ⟨(some 89), none, .sub 3 none (some (.t 87)) (some (.t 88)) (.t 86)⟩,
  ⟨(some 90), none, .mv (.t 11)⟩,
  ⟨(some 91), none, .mv (.t 12)⟩,
  ⟨(some 92), none, .mv (.t 0)⟩,
  ⟨(some 93), none, .len (.t 92)⟩,
  ⟨(some 94), none, .mv (.t 0)⟩,
  ⟨(some 95), none, .len (.t 94)⟩,
  ⟨(some 96), none, .sub 3 (some (.t 91)) (some (.t 93)) (some (.t 95)) (.t 90)⟩,
  ⟨(some 15), none, .mv (.t 89)⟩,
  ⟨(some 16), none, .mv (.t 96)⟩]
theorem tr18_24 : (ro Tryd.f18 24).toList.mapM (trO Tryd.prog 105 (ro Tryd.f18 24)) = some a18_24 := by kernel_rfl
def d18_24 : List (List Nat) := [[], [], [], [0, 1, 2], [], [], [], [6], [], [8], [4, 5, 6, 7, 8, 9], [0, 1, 2, 3], [0, 1, 2, 3, 4, 5, 6, 7, 8, 9, 10, 11]]
theorem ok18_24 : okReg (ro Tryd.f18 24) a18_24 d18_24 = true := by kernel_rfl
def a18_25 : List AO := [⟨(some 97), none, .mv (.t 15)⟩,
  ⟨(some 98), none, .call 28 [(.t 97)]⟩,
  ⟨(some 99), none, .mv (.t 98)⟩,
  ⟨(some 100), some (99, false), .mv (.t 16)⟩,
  ⟨(some 101), some (99, false), .call 28 [(.t 100)]⟩,
  ⟨(some 102), none, .pick (.t 99) (.v (.bool true)) (.t 101)⟩]
theorem tr18_25 : (ro Tryd.f18 25).toList.mapM (trO Tryd.prog 105 (ro Tryd.f18 25)) = some a18_25 := by kernel_rfl
def a18_26 : List AO := [⟨(some 4), none, .mv (.v .nils)⟩,
  ⟨(some 5), none, .mv (.v .nils)⟩,
  ⟨(some 6), none, .mv (.v (.int .i64 25))⟩]
theorem tr18_26 : (ro Tryd.f18 26).toList.mapM (trO Tryd.prog 105 (ro Tryd.f18 26)) = some a18_26 := by kernel_rfl
def a18_27 : List AO := [⟨(some 103), none, .mv (.t 15)⟩,
  ⟨(some 104), none, .mv (.t 16)⟩,
  ⟨(some 4), none, .mv (.t 103)⟩,
  ⟨(some 5), none, .mv (.t 104)⟩,
  ⟨(some 6), none, .mv (.v (.int .i64 0))⟩]
theorem tr18_27 : (ro Tryd.f18 27).toList.mapM (trO Tryd.prog 105 (ro Tryd.f18 27)) = some a18_27 := by kernel_rfl
/-- airline/airlineref32.Split -/
noncomputable def c19 : Code := .seq (.region 0 (ro Tryd.f19 0) false) (.seq (.region 1 (ro Tryd.f19 1) false) (.seq (.seq (.region 2 (ro Tryd.f19 2) false) (.block 0 (.loop (.seq (.seq (.region 3 (ro Tryd.f19 3) false) (.cond (.tmp 19) (.skip) (.exit 0))) (.seq (.block 1 (.seq (.region 5 (ro Tryd.f19 5) false) (.cond (.tmp 35) (.seq (.region 6 (ro Tryd.f19 6) false) (.ret)) (.skip)))) (.region 4 (ro Tryd.f19 4) false)))))) (.seq (.seq (.region 7 (ro Tryd.f19 7) false) (.block 2 (.loop (.seq (.seq (.region 8 (ro Tryd.f19 8) false) (.cond (.tmp 39) (.skip) (.exit 2))) (.seq (.block 3 (.seq (.seq (.region 10 (ro Tryd.f19 10) false) (.cond (.tmp 48) (.seq (.region 11 (ro Tryd.f19 11) false) (.ret)) (.skip))) (.region 12 (ro Tryd.f19 12) false))) (.region 9 (ro Tryd.f19 9) false)))))) (.seq (.seq (.region 13 (ro Tryd.f19 13) false) (.cond (.tmp 57) (.seq (.region 14 (ro Tryd.f19 14) false) (.ret)) (.skip))) (.seq (.region 15 (ro Tryd.f19 15) false) (.seq (.seq (.region 16 (ro Tryd.f19 16) false) (.block 4 (.loop (.seq (.seq (.region 17 (ro Tryd.f19 17) false) (.cond (.tmp 61) (.skip) (.exit 4))) (.seq (.block 5 (.seq (.region 19 (ro Tryd.f19 19) false) (.cond (.tmp 67) (.region 20 (ro Tryd.f19 20) false) (.region 21 (ro Tryd.f19 21) false)))) (.region 18 (ro Tryd.f19 18) false)))))) (.seq (.seq (.region 22 (ro Tryd.f19 22) false) (.cond (.tmp 89) (.seq (.region 23 (ro Tryd.f19 23) false) (.ret)) (.skip))) (.seq (.region 24 (ro Tryd.f19 24) false) (.ret)))))))))
theorem body19 : Tryd.f19.body = some c19 := by kernel_rfl
theorem res19 : Tryd.f19.results.toList.mapM (trR Tryd.prog) = some [.t 4, .t 5, .t 6] := by kernel_rfl
theorem nt19 : Tryd.f19.ntmps = 92 := by kernel_rfl
theorem nm19 : (Tryd.f19.name == "runtime.NumGoroutine") = false := by kernel_rfl
def a19_0 : List AO := [⟨(some 4), none, .mv (.v .nils)⟩,
  ⟨(some 5), none, .mv (.v .nils)⟩,
  ⟨(some 6), none, .mv (.v (.int .i64 0))⟩]
theorem tr19_0 : (ro Tryd.f19 0).toList.mapM (trO Tryd.prog 92 (ro Tryd.f19 0)) = some a19_0 := by kernel_rfl
def a19_1 : List AO := [⟨(some 13), none, .mv (.t 0)⟩,
  ⟨(some 14), none, .len (.t 13)⟩,
  ⟨(some 15), none, .mks 4 1 1 [(.bool false)] (.t 14) (.t 14)⟩,
  ⟨(some 7), none, .mv (.t 15)⟩]
theorem tr19_1 : (ro Tryd.f19 1).toList.mapM (trO Tryd.prog 92 (ro Tryd.f19 1)) = some a19_1 := by kernel_rfl
def a19_2 : List AO := [⟨(some 8), none, .mv (.v (.int .i64 0))⟩]
theorem tr19_2 : (ro Tryd.f19 2).toList.mapM (trO Tryd.prog 92 (ro Tryd.f19 2)) = some a19_2 := by kernel_rfl
def a19_3 : List AO := [⟨(some 16), none, .mv (.t 8)⟩,
  ⟨(some 17), none, .mv (.t 1)⟩,
  ⟨(some 18), none, .len (.t 17)⟩,
  ⟨(some 19), none, .bin .lss (.t 16) (.t 18)⟩]
theorem tr19_3 : (ro Tryd.f19 3).toList.mapM (trO Tryd.prog 92 (ro Tryd.f19 3)) = some a19_3 := by kernel_rfl
def a19_5 : List AO := [⟨(some 22), none, .mv (.t 1)⟩,
  ⟨(some 23), none, .mv (.t 8)⟩,
  ⟨(some 24), none, .idx 1 (.t 22) (.t 23)⟩,
  ⟨(some 25), none, .load none (.t 24)⟩,
  ⟨(some 26), none, .bin .lss (.t 25) (.v (.int .i64 0))⟩,
  ⟨(some 27), none, .mv (.t 26)⟩,
  ⟨(some 28), some (27, false), .mv (.t 1)⟩,
  ⟨(some 29), some (27, false), .mv (.t 8)⟩,
  ⟨(some 30), some (27, false), .idx 1 (.t 28) (.t 29)⟩,
  ⟨(some 31), some (27, false), .load none (.t 30)⟩,
  ⟨(some 32), some (27, false), .mv (.t 0)⟩,
  ⟨(some 33), some (27, false), .len (.t 32)⟩,
  ⟨(some 34), some (27, false), .bin .geq (.t 31) (.t 33)⟩,
  ⟨(some 35), none, .pick (.t 27) (.v (.bool true)) (.t 34)⟩]
theorem tr19_5 : (ro Tryd.f19 5).toList.mapM (trO Tryd.prog 92 (ro Tryd.f19 5)) = some a19_5 := by kernel_rfl
def a19_6 : List AO := [⟨(some 4), none, .mv (.v .nils)⟩,
  ⟨(some 5), none, .mv (.v .nils)⟩,
  ⟨(some 6), none, .mv (.v (.int .i64 7))⟩]
theorem tr19_6 : (ro Tryd.f19 6).toList.mapM (trO Tryd.prog 92 (ro Tryd.f19 6)) = some a19_6 := by kernel_rfl
def a19_4 : List AO := [⟨(some 20), none, .mv (.t 8)⟩,
  ⟨(some 21), none, .bin .add (.t 20) (.v (.int .i64 1))⟩,
  ⟨(some 8), none, .mv (.t 21)⟩]
theorem tr19_4 : (ro Tryd.f19 4).toList.mapM (trO Tryd.prog 92 (ro Tryd.f19 4)) = some a19_4 := by kernel_rfl
def a19_7 : List AO := [⟨(some 9), none, .mv (.v (.int .i64 0))⟩]
theorem tr19_7 : (ro Tryd.f19 7).toList.mapM (trO Tryd.prog 92 (ro Tryd.f19 7)) = some a19_7 := by kernel_rfl
def a19_8 : List AO := [⟨(some 36), none, .mv (.t 9)⟩,
  ⟨(some 37), none, .mv (.t 1)⟩,
  ⟨(some 38), none, .len (.t 37)⟩,
  ⟨(some 39), none, .bin .lss (.t 36) (.t 38)⟩]
theorem tr19_8 : (ro Tryd.f19 8).toList.mapM (trO Tryd.prog 92 (ro Tryd.f19 8)) = some a19_8 := by kernel_rfl
def a19_10 : List AO := [⟨(some 42), none, .mv (.t 7)⟩,
  ⟨(some 43), none, .mv (.t 1)⟩,
  ⟨(some 44), none, .mv (.t 9)⟩,
  ⟨(some 45), none, .idx 1 (.t 43) (.t 44)⟩,
  ⟨(some 46), none, .load none (.t 45)⟩,
  ⟨(some 47), none, .idx 1 (.t 42) (.t 46)⟩,
  ⟨(some 48), none, .load none (.t 47)⟩]
theorem tr19_10 : (ro Tryd.f19 10).toList.mapM (trO Tryd.prog 92 (ro Tryd.f19 10)) = some a19_10 := by kernel_rfl
def a19_11 : List AO := [⟨(some 4), none, .mv (.v .nils)⟩,
  ⟨(some 5), none, .mv (.v .nils)⟩,
  ⟨(some 6), none, .mv (.v (.int .i64 6))⟩]
theorem tr19_11 : (ro Tryd.f19 11).toList.mapM (trO Tryd.prog 92 (ro Tryd.f19 11)) = some a19_11 := by kernel_rfl
def a19_12 : List AO := [⟨(some 49), none, .mv (.t 7)⟩,
  ⟨(some 50), none, .mv (.t 1)⟩,
  ⟨(some 51), none, .mv (.t 9)⟩,
  ⟨(some 52), none, .idx 1 (.t 50) (.t 51)⟩,
  ⟨(some 53), none, .load none (.t 52)⟩,
  ⟨(some 54), none, .idx 1 (.t 49) (.t 53)⟩,
  ⟨none, none, .store 1 (.t 54) (.v (.bool true))⟩]
theorem tr19_12 : (ro Tryd.f19 12).toList.mapM (trO Tryd.prog 92 (ro Tryd.f19 12)) = some a19_12 := by kernel_rfl
def a19_9 : List AO := [⟨(some 40), none, .mv (.t 9)⟩,
  ⟨(some 41), none, .bin .add (.t 40) (.v (.int .i64 1))⟩,
  ⟨(some 9), none, .mv (.t 41)⟩]
theorem tr19_9 : (ro Tryd.f19 9).toList.mapM (trO Tryd.prog 92 (ro Tryd.f19 9)) = some a19_9 := by kernel_rfl
def a19_13 : List AO := [⟨(some 55), none, .mv (.t 1)⟩,
  ⟨(some 56), none, .len (.t 55)⟩,
  ⟨(some 57), none, .bin .eql (.t 56) (.v (.int .i64 0))⟩]
theorem tr19_13 : (ro Tryd.f19 13).toList.mapM (trO Tryd.prog 92 (ro Tryd.f19 13)) = some a19_13 := by kernel_rfl
def a19_14 : List AO := [⟨(some 4), none, .mv (.v .nils)⟩,
  ⟨(some 5), none, .mv (.v .nils)⟩,
  ⟨(some 6), none, .mv (.v (.int .i64 2))⟩]
theorem tr19_14 : (ro Tryd.f19 14).toList.mapM (trO Tryd.prog 92 (ro Tryd.f19 14)) = some a19_14 := by kernel_rfl
def a19_15 : List AO := [⟨(some 10), none, .mv (.v .nils)⟩,
  ⟨(some 11), none, .mv (.v .nils)⟩]
theorem tr19_15 : (ro Tryd.f19 15).toList.mapM (trO Tryd.prog 92 (ro Tryd.f19 15)) = some a19_15 := by kernel_rfl
def a19_16 : List AO := [⟨(some 12), none, .mv (.v (.int .i64 0))⟩]
theorem tr19_16 : (ro Tryd.f19 16).toList.mapM (trO Tryd.prog 92 (ro Tryd.f19 16)) = some a19_16 := by kernel_rfl
def a19_17 : List AO := [⟨(some 58), none, .mv (.t 12)⟩,
  ⟨(some 59), none, .mv (.t 0)⟩,
  ⟨(some 60), none, .len (.t 59)⟩,
  ⟨(some 61), none, .bin .lss (.t 58) (.t 60)⟩]
theorem tr19_17 : (ro Tryd.f19 17).toList.mapM (trO Tryd.prog 92 (ro Tryd.f19 17)) = some a19_17 := by kernel_rfl
def a19_19 : List AO := [⟨(some 64), none, .mv (.t 7)⟩,
  ⟨(some 65), none, .mv (.t 12)⟩,
  ⟨(some 66), none, .idx 1 (.t 64) (.t 65)⟩,
  ⟨(some 67), none, .load none (.t 66)⟩]
theorem tr19_19 : (ro Tryd.f19 19).toList.mapM (trO Tryd.prog 92 (ro Tryd.f19 19)) = some a19_19 := by kernel_rfl
def a19_20 : List AO := [⟨(some 68), none, .mv (.t 10)⟩,
  ⟨(some 69), none, .mv (.t 0)⟩,
  ⟨(some 70), none, .mv (.t 12)⟩,
  ⟨(some 71), none, .idx 3 (.t 69) (.t 70)⟩,
  ⟨(some 72), none, .load (some 3) (.t 71)⟩,
  ⟨(some 73), none, .slc 30 3 false [(.t 72)]⟩,
  ⟨(some 74), none, .app 30 3 48 (.t 68) (.t 73)⟩,
  ⟨(some 10), none, .mv (.t 74)⟩]
theorem tr19_20 : (ro Tryd.f19 20).toList.mapM (trO Tryd.prog 92 (ro Tryd.f19 20)) = some a19_20 := by kernel_rfl
def a19_21 : List AO := [⟨(some 75), none, .mv (.t 11)⟩,
  ⟨(some 76), none, .mv (.t 0)⟩,
  ⟨(some 77), none, .mv (.t 12)⟩,
  ⟨(some 78), none, .idx 3 (.t 76) (.t 77)⟩,
  ⟨(some 79), none, .load (some 3) (.t 78)⟩,
  ⟨(some 80), none, .slc 30 3 false [(.t 79)]⟩,
  ⟨(some 81), none, .app 30 3 48 (.t 75) (.t 80)⟩,
  ⟨(some 11), none, .mv (.t 81)⟩]
theorem tr19_21 : (ro Tryd.f19 21).toList.mapM (trO Tryd.prog 92 (ro Tryd.f19 21)) = some a19_21 := by kernel_rfl
def a19_18 : List AO := [⟨(some 62), none, .mv (.t 12)⟩,
  ⟨(some 63), none, .bin .add (.t 62) (.v (.int .i64 1))⟩,
  ⟨(some 12), none, .mv (.t 63)⟩]
theorem tr19_18 : (ro Tryd.f19 18).toList.mapM (trO Tryd.prog 92 (ro Tryd.f19 18)) = some a19_18 := by kernel_rfl
def a19_22 : List AO := [⟨(some 82), none, .mv (.t 10)⟩,
  ⟨(some 83), none, .call 32 [(.t 82)]⟩,
  ⟨(some 84), none, .un .not (.t 83)⟩,
  ⟨(some 85), none, .mv (.t 84)⟩,
  ⟨(some 86), some (85, false), .mv (.t 11)⟩,
  ⟨(some 87), some (85, false), .call 32 [(.t 86)]⟩,
  ⟨(some 88), some (85, false), .un .not (.t 87)⟩,
  ⟨(some 89), none, .pick (.t 85) (.v (.bool true)) (.t 88)⟩]
theorem tr19_22 : (ro Tryd.f19 22).toList.mapM (trO Tryd.prog 92 (ro Tryd.f19 22)) = some a19_22 := by kernel_rfl
def a19_23 : List AO := [⟨(some 4), none, .mv (.v .nils)⟩,
  ⟨(some 5), none, .mv (.v .nils)⟩,
  ⟨(some 6), none, .mv (.v (.int .i64 25))⟩]
theorem tr19_23 : (ro Tryd.f19 23).toList.mapM (trO Tryd.prog 92 (ro Tryd.f19 23)) = some a19_23 := by kernel_rfl
def a19_24 : List AO := [⟨(some 90), none, .mv (.t 10)⟩,
  ⟨(some 91), none, .mv (.t 11)⟩,
  ⟨(some 4), none, .mv (.t 90)⟩,
  ⟨(some 5), none, .mv (.t 91)⟩,
  ⟨(some 6), none, .mv (.v (.int .i64 0))⟩]
theorem tr19_24 : (ro Tryd.f19 24).toList.mapM (trO Tryd.prog 92 (ro Tryd.f19 24)) = some a19_24 := by kernel_rfl
/-- airline/party.Print -/
noncomputable def c20 : Code := .seq (.region 0 (ro Tryd.f20 0) false) (.seq (.seq (.region 1 (ro Tryd.f20 1) false) (.cond (.tmp 6) (.seq (.region 2 (ro Tryd.f20 2) false) (.ret)) (.skip))) (.seq (.seq (.region 3 (ro Tryd.f20 3) false) (.cond (.tmp 9) (.seq (.region 4 (ro Tryd.f20 4) false) (.ret)) (.skip))) (.seq (.region 5 (ro Tryd.f20 5) false) (.ret))))
theorem body20 : Tryd.f20.body = some c20 := by kernel_rfl
theorem res20 : Tryd.f20.results.toList.mapM (trR Tryd.prog) = some [.t 2, .t 3] := by kernel_rfl
theorem nt20 : Tryd.f20.ntmps = 20 := by kernel_rfl
theorem nm20 : (Tryd.f20.name == "runtime.NumGoroutine") = false := by kernel_rfl
def a20_0 : List AO := [⟨(some 1), none, .box 30 (.t 0)⟩,
  ⟨(some 2), none, .mv (.v (.str []))⟩,
  ⟨(some 3), none, .mv (.v (.int .i64 0))⟩]
theorem tr20_0 : (ro Tryd.f20 0).toList.mapM (trO Tryd.prog 20 (ro Tryd.f20 0)) = some a20_0 := by kernel_rfl
def a20_1 : List AO := [⟨(some 4), none, .load (some 3) (.t 1)⟩,
  ⟨(some 5), none, .call 26 [(.t 4)]⟩,
  ⟨(some 6), none, .un .not (.t 5)⟩]
theorem tr20_1 : (ro Tryd.f20 1).toList.mapM (trO Tryd.prog 20 (ro Tryd.f20 1)) = some a20_1 := by kernel_rfl
def a20_2 : List AO := [⟨(some 2), none, .mv (.v (.str []))⟩,
  ⟨(some 3), none, .mv (.v (.int .i64 5))⟩]
theorem tr20_2 : (ro Tryd.f20 2).toList.mapM (trO Tryd.prog 20 (ro Tryd.f20 2)) = some a20_2 := by kernel_rfl
def a20_3 : List AO := [⟨(some 7), none, .load (some 3) (.t 1)⟩,
  ⟨(some 8), none, .call 27 [(.t 7)]⟩,
  ⟨(some 9), none, .un .not (.t 8)⟩]
theorem tr20_3 : (ro Tryd.f20 3).toList.mapM (trO Tryd.prog 20 (ro Tryd.f20 3)) = some a20_3 := by kernel_rfl
def a20_4 : List AO := [⟨(some 2), none, .mv (.v (.str []))⟩,
  ⟨(some 3), none, .mv (.v (.int .i64 8))⟩]
theorem tr20_4 : (ro Tryd.f20 4).toList.mapM (trO Tryd.prog 20 (ro Tryd.f20 4)) = some a20_4 := by kernel_rfl
def a20_5 : List AO := [⟨(some 10), none, .fld 0 (.t 1)⟩,
  ⟨(some 11), none, .load none (.t 10)⟩,
  ⟨(some 12), none, .bin .add (.t 11) (.v (.str [47]))⟩,
  ⟨(some 13), none, .fld 1 (.t 1)⟩,
  ⟨(some 14), none, .load none (.t 13)⟩,
  ⟨(some 15), none, .bin .add (.t 12) (.t 14)⟩,
  ⟨(some 16), none, .bin .add (.t 15) (.v (.str [32]))⟩,
  ⟨(some 17), none, .fld 2 (.t 1)⟩,
  ⟨(some 18), none, .load none (.t 17)⟩,
  ⟨(some 19), none, .bin .add (.t 16) (.t 18)⟩,
  ⟨(some 2), none, .mv (.t 19)⟩,
  ⟨(some 3), none, .mv (.v (.int .i64 0))⟩]
theorem tr20_5 : (ro Tryd.f20 5).toList.mapM (trO Tryd.prog 20 (ro Tryd.f20 5)) = some a20_5 := by kernel_rfl
/-- airline/airlineref32.Print -/
noncomputable def c21 : Code := .seq (.region 0 (ro Tryd.f21 0) false) (.seq (.seq (.region 1 (ro Tryd.f21 1) false) (.cond (.tmp 6) (.seq (.region 2 (ro Tryd.f21 2) false) (.ret)) (.skip))) (.seq (.seq (.region 3 (ro Tryd.f21 3) false) (.cond (.tmp 9) (.seq (.region 4 (ro Tryd.f21 4) false) (.ret)) (.skip))) (.seq (.region 5 (ro Tryd.f21 5) false) (.ret))))
theorem body21 : Tryd.f21.body = some c21 := by kernel_rfl
theorem res21 : Tryd.f21.results.toList.mapM (trR Tryd.prog) = some [.t 2, .t 3] := by kernel_rfl
theorem nt21 : Tryd.f21.ntmps = 20 := by kernel_rfl
theorem nm21 : (Tryd.f21.name == "runtime.NumGoroutine") = false := by kernel_rfl
def a21_0 : List AO := [⟨(some 1), none, .box 30 (.t 0)⟩,
  ⟨(some 2), none, .mv (.v (.str []))⟩,
  ⟨(some 3), none, .mv (.v (.int .i64 0))⟩]
theorem tr21_0 : (ro Tryd.f21 0).toList.mapM (trO Tryd.prog 20 (ro Tryd.f21 0)) = some a21_0 := by kernel_rfl
def a21_1 : List AO := [⟨(some 4), none, .load (some 3) (.t 1)⟩,
  ⟨(some 5), none, .call 30 [(.t 4)]⟩,
  ⟨(some 6), none, .un .not (.t 5)⟩]
theorem tr21_1 : (ro Tryd.f21 1).toList.mapM (trO Tryd.prog 20 (ro Tryd.f21 1)) = some a21_1 := by kernel_rfl
def a21_2 : List AO := [⟨(some 2), none, .mv (.v (.str []))⟩,
  ⟨(some 3), none, .mv (.v (.int .i64 5))⟩]
theorem tr21_2 : (ro Tryd.f21 2).toList.mapM (trO Tryd.prog 20 (ro Tryd.f21 2)) = some a21_2 := by kernel_rfl
def a21_3 : List AO := [⟨(some 7), none, .load (some 3) (.t 1)⟩,
  ⟨(some 8), none, .call 31 [(.t 7)]⟩,
  ⟨(some 9), none, .un .not (.t 8)⟩]
theorem tr21_3 : (ro Tryd.f21 3).toList.mapM (trO Tryd.prog 20 (ro Tryd.f21 3)) = some a21_3 := by kernel_rfl
def a21_4 : List AO := [⟨(some 2), none, .mv (.v (.str []))⟩,
  ⟨(some 3), none, .mv (.v (.int .i64 8))⟩]
theorem tr21_4 : (ro Tryd.f21 4).toList.mapM (trO Tryd.prog 20 (ro Tryd.f21 4)) = some a21_4 := by kernel_rfl
def a21_5 : List AO := [⟨(some 10), none, .fld 0 (.t 1)⟩,
  ⟨(some 11), none, .load none (.t 10)⟩,
  ⟨(some 12), none, .bin .add (.t 11) (.v (.str [47]))⟩,
  ⟨(some 13), none, .fld 1 (.t 1)⟩,
  ⟨(some 14), none, .load none (.t 13)⟩,
  ⟨(some 15), none, .bin .add (.t 12) (.t 14)⟩,
  ⟨(some 16), none, .bin .add (.t 15) (.v (.str [32]))⟩,
  ⟨(some 17), none, .fld 2 (.t 1)⟩,
  ⟨(some 18), none, .load none (.t 17)⟩,
  ⟨(some 19), none, .bin .add (.t 16) (.t 18)⟩,
  ⟨(some 2), none, .mv (.t 19)⟩,
  ⟨(some 3), none, .mv (.v (.int .i64 0))⟩]
theorem tr21_5 : (ro Tryd.f21 5).toList.mapM (trO Tryd.prog 20 (ro Tryd.f21 5)) = some a21_5 := by kernel_rfl
/-- airline/party.Parse -/
noncomputable def c22 : Code := .seq (.region 0 (ro Tryd.f22 0) false) (.seq (.region 1 (ro Tryd.f22 1) false) (.seq (.seq (.region 2 (ro Tryd.f22 2) false) (.cond (.tmp 24) (.seq (.region 3 (ro Tryd.f22 3) false) (.ret)) (.skip))) (.seq (.region 4 (ro Tryd.f22 4) true) (.seq (.seq (.region 5 (ro Tryd.f22 5) false) (.seq (.region 6 (ro Tryd.f22 6) false) (.cond (.tmp 45) (.seq (.region 7 (ro Tryd.f22 7) false) (.ret)) (.skip)))) (.seq (.region 8 (ro Tryd.f22 8) false) (.ret))))))
theorem body22 : Tryd.f22.body = some c22 := by kernel_rfl
theorem res22 : Tryd.f22.results.toList.mapM (trR Tryd.prog) = some [.c (some 3) 2, .t 3] := by kernel_rfl
theorem nt22 : Tryd.f22.ntmps = 49 := by kernel_rfl
theorem nm22 : (Tryd.f22.name == "runtime.NumGoroutine") = false := by kernel_rfl
def a22_0 : List AO := [⟨(some 2), none, .alloc 30 [(.str []), (.str []), (.str [])]⟩,
  ⟨(some 3), none, .mv (.v (.int .i64 0))⟩]
theorem tr22_0 : (ro Tryd.f22 0).toList.mapM (trO Tryd.prog 49 (ro Tryd.f22 0)) = some a22_0 := by kernel_rfl
def a22_1 : List AO := [⟨(some 9), none, .mv (.t 0)⟩,
  ⟨(some 10), none, .call 34 [(.t 9), (.v (.int .u8 47))]⟩,
  ⟨(some 11), none, .mv (.t 0)⟩,
  ⟨(some 12), none, .call 35 [(.t 11), (.v (.int .u8 32))]⟩,
  ⟨(some 4), none, .mv (.t 10)⟩,
  ⟨(some 5), none, .mv (.t 12)⟩]
theorem tr22_1 : (ro Tryd.f22 1).toList.mapM (trO Tryd.prog 49 (ro Tryd.f22 1)) = some a22_1 := by kernel_rfl
def a22_2 : List AO := [⟨(some 13), none, .mv (.t 4)⟩,
  ⟨(some 14), none, .bin .lss (.t 13) (.v (.int .i64 0))⟩,
  ⟨(some 15), none, .mv (.t 14)⟩,
  ⟨(some 16), some (15, false), .mv (.t 0)⟩,
  ⟨(some 17), some (15, false), .call 36 [(.t 16), (.v (.str [47]))]⟩,
  ⟨(some 18), some (15, false), .bin .neq (.t 17) (.v (.int .i64 1))⟩,
  ⟨(some 19), none, .pick (.t 15) (.v (.bool true)) (.t 18)⟩,
  ⟨(some 20), none, .mv (.t 19)⟩,
  ⟨(some 21), some (20, false), .mv (.t 5)⟩,
  ⟨(some 22), some (20, false), .mv (.t 4)⟩,
  ⟨(some 23), some (20, false), .bin .lss (.t 21) (.t 22)⟩,
  ⟨(some 24), none, .pick (.t 20) (.v (.bool true)) (.t 23)⟩]
theorem tr22_2 : (ro Tryd.f22 2).toList.mapM (trO Tryd.prog 49 (ro Tryd.f22 2)) = some a22_2 := by kernel_rfl
def a22_3 : List AO := [⟨(some 25), none, .build [(.str []), (.str []), (.str [])] []⟩,
  ⟨none, none, .store 3 (.t 2) (.t 25)⟩,
  ⟨(some 3), none, .mv (.v (.int .i64 3))⟩]
theorem tr22_3 : (ro Tryd.f22 3).toList.mapM (trO Tryd.prog 49 (ro Tryd.f22 3)) = some a22_3 := by kernel_rfl
def a22_4 : List AO := [⟨(some 26), none, .mv (.t 0)⟩,
  ⟨(some 27), none, .mv (.t 4)⟩,
  ⟨(some 28), none, .ssub none (some (.t 27)) (.t 26)⟩,
  ⟨(some 29), none, .mv (.t 0)⟩,
  ⟨(some 30), none, .mv (.t 4)⟩,
  ⟨(some 31), none, .bin .add (.t 30) (.v (.int .i64 1))⟩,
  ⟨(some 32), none, .mv (.t 5)⟩,
  ⟨(some 33), none, .ssub (some (.t 31)) (some (.t 32)) (.t 29)⟩,
  ⟨(some 34), none, .mv (.t 0)⟩,
  ⟨(some 35), none, .mv (.t 5)⟩,
  ⟨(some 36), none, .bin .add (.t 35) (.v (.int .i64 1))⟩,
  ⟨(some 37), none, .ssub (some (.t 36)) none (.t 34)⟩,
  ⟨(some 38), none, .build [(.str []), (.str []), (.str [])] [(0, 1, (.t 28)), (1, 1, (.t 33)), (2, 1, (.t 37))]⟩,
  ⟨(some 6), none, .alloc 30 [(.str []), (.str []), (.str [])]⟩,
  ⟨none, none, .store 3 (.t 6) (.t 38)⟩]
theorem tr22_4 : (ro Tryd.f22 4).toList.mapM (trO Tryd.prog 49 (ro Tryd.f22 4)) = some a22_4 := by kernel_rfl
def d22_4 : List (List Nat) := [[], [], [0, 1], [], [], [4], [], [3, 4, 5, 6], [], [], [9], [8, 9, 10], [0, 1, 2, 3, 4, 5, 6, 7, 8, 9, 10, 11], [], [0, 1, 2, 3, 4, 5, 6, 7, 8, 9, 10, 11, 12, 13]]
theorem ok22_4 : okReg (ro Tryd.f22 4) a22_4 d22_4 = true := by kernel_rfl
def a22_5 : List AO := [⟨(some 40), none, .load (some 3) (.t 6)⟩,
  ⟨(some 41), none, .call 20 [(.t 40)]⟩,
  ⟨(some 39), none, .mv (.t 41)⟩,
  ⟨(some 42), none, .ext 0 (.t 39)⟩,
  ⟨(some 43), none, .ext 1 (.t 39)⟩,
  ⟨(some 7), none, .mv (.t 42)⟩,
  ⟨(some 8), none, .mv (.t 43)⟩]
theorem tr22_5 : (ro Tryd.f22 5).toList.mapM (trO Tryd.prog 49 (ro Tryd.f22 5)) = some a22_5 := by kernel_rfl
def a22_6 : List AO := [⟨(some 44), none, .mv (.t 8)⟩,
  ⟨(some 45), none, .bin .neq (.t 44) (.v (.int .i64 0))⟩]
theorem tr22_6 : (ro Tryd.f22 6).toList.mapM (trO Tryd.prog 49 (ro Tryd.f22 6)) = some a22_6 := by kernel_rfl
def a22_7 : List AO := [⟨(some 46), none, .build [(.str []), (.str []), (.str [])] []⟩,
  ⟨(some 47), none, .mv (.t 8)⟩,
  ⟨none, none, .store 3 (.t 2) (.t 46)⟩,
  ⟨(some 3), none, .mv (.t 47)⟩]
theorem tr22_7 : (ro Tryd.f22 7).toList.mapM (trO Tryd.prog 49 (ro Tryd.f22 7)) = some a22_7 := by kernel_rfl
def a22_8 : List AO := [⟨(some 48), none, .load (some 3) (.t 6)⟩,
  ⟨none, none, .store 3 (.t 2) (.t 48)⟩,
  ⟨(some 3), none, .mv (.v (.int .i64 0))⟩]
theorem tr22_8 : (ro Tryd.f22 8).toList.mapM (trO Tryd.prog 49 (ro Tryd.f22 8)) = some a22_8 := by kernel_rfl
/-- airline/airlineref32.Parse -/
noncomputable def c23 : Code := .seq (.region 0 (ro Tryd.f23 0) false) (.seq (.region 1 (ro Tryd.f23 1) false) (.seq (.seq (.region 2 (ro Tryd.f23 2) false) (.block 0 (.loop (.seq (.seq (.region 3 (ro Tryd.f23 3) false) (.cond (.tmp 14) (.skip) (.exit 0))) (.seq (.block 1 (.seq (.seq (.region 5 (ro Tryd.f23 5) false) (.cond (.tmp 20) (.seq (.region 6 (ro Tryd.f23 6) false) (.region 7 (ro Tryd.f23 7) false)) (.skip))) (.seq (.region 8 (ro Tryd.f23 8) false) (.cond (.tmp 27) (.region 9 (ro Tryd.f23 9) false) (.skip))))) (.region 4 (ro Tryd.f23 4) false)))))) (.seq (.seq (.region 10 (ro Tryd.f23 10) false) (.cond (.tmp 35) (.seq (.region 11 (ro Tryd.f23 11) false) (.ret)) (.skip))) (.seq (.region 12 (ro Tryd.f23 12) true) (.seq (.region 13 (ro Tryd.f23 13) false) (.seq (.seq (.region 14 (ro Tryd.f23 14) false) (.cond (.tmp 56) (.seq (.region 15 (ro Tryd.f23 15) false) (.ret)) (.skip))) (.seq (.region 16 (ro Tryd.f23 16) false) (.ret))))))))
theorem body23 : Tryd.f23.body = some c23 := by kernel_rfl
theorem res23 : Tryd.f23.results.toList.mapM (trR Tryd.prog) = some [.c (some 3) 2, .t 3] := by kernel_rfl
theorem nt23 : Tryd.f23.ntmps = 60 := by kernel_rfl
theorem nm23 : (Tryd.f23.name == "runtime.NumGoroutine") = false := by kernel_rfl
def a23_0 : List AO := [⟨(some 2), none, .alloc 30 [(.str []), (.str []), (.str [])]⟩,
  ⟨(some 3), none, .mv (.v (.int .i64 0))⟩]
theorem tr23_0 : (ro Tryd.f23 0).toList.mapM (trO Tryd.prog 60 (ro Tryd.f23 0)) = some a23_0 := by kernel_rfl
def a23_1 : List AO := [⟨(some 4), none, .mv (.v (.int .i64 (-1)))⟩,
  ⟨(some 5), none, .mv (.v (.int .i64 (-1)))⟩,
  ⟨(some 6), none, .mv (.v (.int .i64 0))⟩]
theorem tr23_1 : (ro Tryd.f23 1).toList.mapM (trO Tryd.prog 60 (ro Tryd.f23 1)) = some a23_1 := by kernel_rfl
def a23_2 : List AO := [⟨(some 7), none, .mv (.v (.int .i64 0))⟩]
theorem tr23_2 : (ro Tryd.f23 2).toList.mapM (trO Tryd.prog 60 (ro Tryd.f23 2)) = some a23_2 := by kernel_rfl
def a23_3 : List AO := [⟨(some 11), none, .mv (.t 7)⟩,
  ⟨(some 12), none, .mv (.t 0)⟩,
  ⟨(some 13), none, .slen (.t 12)⟩,
  ⟨(some 14), none, .bin .lss (.t 11) (.t 13)⟩]
theorem tr23_3 : (ro Tryd.f23 3).toList.mapM (trO Tryd.prog 60 (ro Tryd.f23 3)) = some a23_3 := by kernel_rfl
def a23_5 : List AO := [⟨(some 17), none, .mv (.t 0)⟩,
  ⟨(some 18), none, .mv (.t 7)⟩,
  ⟨(some 19), none, .sidx (.t 17) (.t 18)⟩,
  ⟨(some 20), none, .bin .eql (.t 19) (.v (.int .u8 47))⟩]
theorem tr23_5 : (ro Tryd.f23 5).toList.mapM (trO Tryd.prog 60 (ro Tryd.f23 5)) = some a23_5 := by kernel_rfl
def a23_6 : List AO := [⟨(some 21), none, .mv (.t 7)⟩,
  ⟨(some 4), none, .mv (.t 21)⟩]
theorem tr23_6 : (ro Tryd.f23 6).toList.mapM (trO Tryd.prog 60 (ro Tryd.f23 6)) = some a23_6 := by kernel_rfl
def a23_7 : List AO := [⟨(some 22), none, .mv (.t 6)⟩,
  ⟨(some 23), none, .bin .add (.t 22) (.v (.int .i64 1))⟩,
  ⟨(some 6), none, .mv (.t 23)⟩]
theorem tr23_7 : (ro Tryd.f23 7).toList.mapM (trO Tryd.prog 60 (ro Tryd.f23 7)) = some a23_7 := by kernel_rfl
def a23_8 : List AO := [⟨(some 24), none, .mv (.t 0)⟩,
  ⟨(some 25), none, .mv (.t 7)⟩,
  ⟨(some 26), none, .sidx (.t 24) (.t 25)⟩,
  ⟨(some 27), none, .bin .eql (.t 26) (.v (.int .u8 32))⟩]
theorem tr23_8 : (ro Tryd.f23 8).toList.mapM (trO Tryd.prog 60 (ro Tryd.f23 8)) = some a23_8 := by kernel_rfl
def a23_9 : List AO := [⟨(some 28), none, .mv (.t 7)⟩,
  ⟨(some 5), none, .mv (.t 28)⟩]
theorem tr23_9 : (ro Tryd.f23 9).toList.mapM (trO Tryd.prog 60 (ro Tryd.f23 9)) = some a23_9 := by kernel_rfl
def a23_4 : List AO := [⟨(some 15), none, .mv (.t 7)⟩,
  ⟨(some 16), none, .bin .add (.t 15) (.v (.int .i64 1))⟩,
  ⟨(some 7), none, .mv (.t 16)⟩]
theorem tr23_4 : (ro Tryd.f23 4).toList.mapM (trO Tryd.prog 60 (ro Tryd.f23 4)) = some a23_4 := by kernel_rfl
def a23_10 : List AO := [⟨(some 29), none, .mv (.t 6)⟩,
  ⟨(some 30), none, .bin .neq (.t 29) (.v (.int .i64 1))⟩,
  ⟨(some 31), none, .mv (.t 30)⟩,
  ⟨(some 32), some (31, false), .mv (.t 5)⟩,
  ⟨(some 33), some (31, false), .mv (.t 4)⟩,
  ⟨(some 34), some (31, false), .bin .lss (.t 32) (.t 33)⟩,
  ⟨(some 35), none, .pick (.t 31) (.v (.bool true)) (.t 34)⟩]
theorem tr23_10 : (ro Tryd.f23 10).toList.mapM (trO Tryd.prog 60 (ro Tryd.f23 10)) = some a23_10 := by kernel_rfl
def a23_11 : List AO := [⟨(some 36), none, .build [(.str []), (.str []), (.str [])] []⟩,
  ⟨none, none, .store 3 (.t 2) (.t 36)⟩,
  ⟨(some 3), none, .mv (.v (.int .i64 3))⟩]
theorem tr23_11 : (ro Tryd.f23 11).toList.mapM (trO Tryd.prog 60 (ro Tryd.f23 11)) = some a23_11 := by kernel_rfl
def a23_12 : List AO := [⟨(some 37), none, .mv (.t 0)⟩,
  ⟨(some 38), none, .mv (.t 4)⟩,
  ⟨(some 39), none, .ssub none (some (.t 38)) (.t 37)⟩,
  ⟨(some 40), none, .mv (.t 0)⟩,
  ⟨(some 41), none, .mv (.t 4)⟩,
  ⟨(some 42), none, .bin .add (.t 41) (.v (.int .i64 1))⟩,
  ⟨(some 43), none, .mv (.t 5)⟩,
  ⟨(some 44), none, .ssub (some (.t 42)) (some (.t 43)) (.t 40)⟩,
  ⟨(some 45), none, .mv (.t 0)⟩,
  ⟨(some 46), none, .mv (.t 5)⟩,
  ⟨(some 47), none, .bin .add (.t 46) (.v (.int .i64 1))⟩,
  ⟨(some 48), none, .ssub (some (.t 47)) none (.t 45)⟩,
  ⟨(some 49), none, .build [(.str []), (.str []), (.str [])] [(0, 1, (.t 39)), (1, 1, (.t 44)), (2, 1, (.t 48))]⟩,
  ⟨(some 8), none, .alloc 30 [(.str []), (.str []), (.str [])]⟩,
  ⟨none, none, .store 3 (.t 8) (.t 49)⟩]
theorem tr23_12 : (ro Tryd.f23 12).toList.mapM (trO Tryd.prog 60 (ro Tryd.f23 12)) = some a23_12 := by kernel_rfl
def d23_12 : List (List Nat) := [[], [], [0, 1], [], [], [4], [], [3, 4, 5, 6], [], [], [9], [8, 9, 10], [0, 1, 2, 3, 4, 5, 6, 7, 8, 9, 10, 11], [], [0, 1, 2, 3, 4, 5, 6, 7, 8, 9, 10, 11, 12, 13]]
theorem ok23_12 : okReg (ro Tryd.f23 12) a23_12 d23_12 = true := by kernel_rfl
def a23_13 : List AO := [⟨(some 51), none, .load (some 3) (.t 8)⟩,
  ⟨(some 52), none, .call 21 [(.t 51)]⟩,
  ⟨(some 50), none, .mv (.t 52)⟩,
  ⟨(some 53), none, .ext 0 (.t 50)⟩,
  ⟨(some 54), none, .ext 1 (.t 50)⟩,
  ⟨(some 9), none, .mv (.t 53)⟩,
  ⟨(some 10), none, .mv (.t 54)⟩]
theorem tr23_13 : (ro Tryd.f23 13).toList.mapM (trO Tryd.prog 60 (ro Tryd.f23 13)) = some a23_13 := by kernel_rfl
def a23_14 : List AO := [⟨(some 55), none, .mv (.t 10)⟩,
  ⟨(some 56), none, .bin .neq (.t 55) (.v (.int .i64 0))⟩]
theorem tr23_14 : (ro Tryd.f23 14).toList.mapM (trO Tryd.prog 60 (ro Tryd.f23 14)) = some a23_14 := by kernel_rfl
def a23_15 : List AO := [⟨(some 57), none, .build [(.str []), (.str []), (.str [])] []⟩,
  ⟨(some 58), none, .mv (.t 10)⟩,
  ⟨none, none, .store 3 (.t 2) (.t 57)⟩,
  ⟨(some 3), none, .mv (.t 58)⟩]
theorem tr23_15 : (ro Tryd.f23 15).toList.mapM (trO Tryd.prog 60 (ro Tryd.f23 15)) = some a23_15 := by kernel_rfl
def a23_16 : List AO := [⟨(some 59), none, .load (some 3) (.t 8)⟩,
  ⟨none, none, .store 3 (.t 2) (.t 59)⟩,
  ⟨(some 3), none, .mv (.v (.int .i64 0))⟩]
theorem tr23_16 : (ro Tryd.f23 16).toList.mapM (trO Tryd.prog 60 (ro Tryd.f23 16)) = some a23_16 := by kernel_rfl
/-- airline/party.Check 1 -/
noncomputable def c24 : Code := .seq (.region 0 (ro Tryd.f24 0) false) (.cond (.tmp 7) (.region 1 (ro Tryd.f24 1) false) (.skip))
theorem body24 : Tryd.f24.body = some c24 := by kernel_rfl
theorem res24 : Tryd.f24.results.toList.mapM (trR Tryd.prog) = some [] := by kernel_rfl
theorem nt24 : Tryd.f24.ntmps = 14 := by kernel_rfl
theorem nm24 : (Tryd.f24.name == "runtime.NumGoroutine") = false := by kernel_rfl
def a24_0 : List AO := [⟨(some 7), none, .mv (.t 0)⟩]
theorem tr24_0 : (ro Tryd.f24 0).toList.mapM (trO Tryd.prog 14 (ro Tryd.f24 0)) = some a24_0 := by kernel_rfl
def a24_1 : List AO := [⟨(some 8), none, .load none (.t 3)⟩,
  ⟨(some 9), none, .mv (.t 1)⟩,
  ⟨(some 10), none, .mv (.t 2)⟩,
  ⟨(some 11), none, .build [(.int .i64 0), (.str [])] [(0, 1, (.t 9)), (1, 1, (.t 10))]⟩,
  ⟨(some 12), none, .slc 47 2 false [(.t 11)]⟩,
  ⟨(some 13), none, .app 47 2 24 (.t 8) (.t 12)⟩,
  ⟨none, none, .store 1 (.t 3) (.t 13)⟩]
theorem tr24_1 : (ro Tryd.f24 1).toList.mapM (trO Tryd.prog 14 (ro Tryd.f24 1)) = some a24_1 := by kernel_rfl
/-- airline/text.Decimal -/
noncomputable def c25 : Code := .seq (.region 0 (ro Tryd.f25 0) false) (.seq (.region 1 (ro Tryd.f25 1) false) (.ret))
theorem body25 : Tryd.f25.body = some c25 := by kernel_rfl
theorem res25 : Tryd.f25.results.toList.mapM (trR Tryd.prog) = some [.t 2] := by kernel_rfl
theorem nt25 : Tryd.f25.ntmps = 5 := by kernel_rfl
theorem nm25 : (Tryd.f25.name == "runtime.NumGoroutine") = false := by kernel_rfl
def a25_0 : List AO := [⟨(some 2), none, .mv (.v (.str []))⟩]
theorem tr25_0 : (ro Tryd.f25 0).toList.mapM (trO Tryd.prog 5 (ro Tryd.f25 0)) = some a25_0 := by kernel_rfl
def a25_1 : List AO := [⟨(some 3), none, .mv (.t 0)⟩,
  ⟨(some 4), none, .call 37 [(.t 3)]⟩,
  ⟨(some 2), none, .mv (.t 4)⟩]
theorem tr25_1 : (ro Tryd.f25 1).toList.mapM (trO Tryd.prog 5 (ro Tryd.f25 1)) = some a25_1 := by kernel_rfl
/-- airline/party.named -/
noncomputable def c26 : Code := .seq (.region 0 (ro Tryd.f26 0) false) (.seq (.region 1 (ro Tryd.f26 1) false) (.ret))
theorem body26 : Tryd.f26.body = some c26 := by kernel_rfl
theorem res26 : Tryd.f26.results.toList.mapM (trR Tryd.prog) = some [.t 2] := by kernel_rfl
theorem nt26 : Tryd.f26.ntmps = 11 := by kernel_rfl
theorem nm26 : (Tryd.f26.name == "runtime.NumGoroutine") = false := by kernel_rfl
def a26_0 : List AO := [⟨(some 1), none, .box 30 (.t 0)⟩,
  ⟨(some 2), none, .mv (.v (.bool false))⟩]
theorem tr26_0 : (ro Tryd.f26 0).toList.mapM (trO Tryd.prog 11 (ro Tryd.f26 0)) = some a26_0 := by kernel_rfl
def a26_1 : List AO := [⟨(some 3), none, .fld 0 (.t 1)⟩,
  ⟨(some 4), none, .load none (.t 3)⟩,
  ⟨(some 5), none, .call 38 [(.t 4)]⟩,
  ⟨(some 6), none, .mv (.t 5)⟩,
  ⟨(some 7), some (6, true), .fld 1 (.t 1)⟩,
  ⟨(some 8), some (6, true), .load none (.t 7)⟩,
  ⟨(some 9), some (6, true), .call 38 [(.t 8)]⟩,
  ⟨(some 10), none, .pick (.t 6) (.t 9) (.v (.bool false))⟩,
  ⟨(some 2), none, .mv (.t 10)⟩]
theorem tr26_1 : (ro Tryd.f26 1).toList.mapM (trO Tryd.prog 11 (ro Tryd.f26 1)) = some a26_1 := by kernel_rfl
/-- airline/party.typed -/
noncomputable def c27 : Code := .seq (.region 0 (ro Tryd.f27 0) false) (.seq (.region 1 (ro Tryd.f27 1) false) (.ret))
theorem body27 : Tryd.f27.body = some c27 := by kernel_rfl
theorem res27 : Tryd.f27.results.toList.mapM (trR Tryd.prog) = some [.t 2] := by kernel_rfl
theorem nt27 : Tryd.f27.ntmps = 6 := by kernel_rfl
theorem nm27 : (Tryd.f27.name == "runtime.NumGoroutine") = false := by kernel_rfl
def a27_0 : List AO := [⟨(some 1), none, .box 30 (.t 0)⟩,
  ⟨(some 2), none, .mv (.v (.bool false))⟩]
theorem tr27_0 : (ro Tryd.f27 0).toList.mapM (trO Tryd.prog 6 (ro Tryd.f27 0)) = some a27_0 := by kernel_rfl
def a27_1 : List AO := [⟨(some 3), none, .fld 2 (.t 1)⟩,
  ⟨(some 4), none, .load none (.t 3)⟩,
  ⟨(some 5), none, .call 39 [(.t 4), (.v (.int .i64 3)), (.v (.int .i64 3))]⟩,
  ⟨(some 2), none, .mv (.t 5)⟩]
theorem tr27_1 : (ro Tryd.f27 1).toList.mapM (trO Tryd.prog 6 (ro Tryd.f27 1)) = some a27_1 := by kernel_rfl
/-- airline/party.alone -/
noncomputable def c28 : Code := .seq (.region 0 (ro Tryd.f28 0) false) (.seq (.region 1 (ro Tryd.f28 1) false) (.seq (.seq (.region 2 (ro Tryd.f28 2) false) (.block 0 (.loop (.seq (.region 3 (ro Tryd.f28 3) false) (.seq (.cond (.tmp 9) (.skip) (.exit 0)) (.seq (.block 1 (.seq (.region 4 (ro Tryd.f28 4) false) (.seq (.seq (.region 5 (ro Tryd.f28 5) false) (.cond (.tmp 13) (.region 6 (ro Tryd.f28 6) false) (.skip))) (.seq (.region 7 (ro Tryd.f28 7) false) (.cond (.tmp 17) (.region 8 (ro Tryd.f28 8) false) (.skip)))))) (.region 9 (ro Tryd.f28 9) false))))))) (.seq (.region 10 (ro Tryd.f28 10) false) (.ret))))
theorem body28 : Tryd.f28.body = some c28 := by kernel_rfl
theorem res28 : Tryd.f28.results.toList.mapM (trR Tryd.prog) = some [.t 2] := by kernel_rfl
theorem nt28 : Tryd.f28.ntmps = 23 := by kernel_rfl
theorem nm28 : (Tryd.f28.name == "runtime.NumGoroutine") = false := by kernel_rfl
def a28_0 : List AO := [⟨(some 2), none, .mv (.v (.bool false))⟩]
theorem tr28_0 : (ro Tryd.f28 0).toList.mapM (trO Tryd.prog 23 (ro Tryd.f28 0)) = some a28_0 := by kernel_rfl
def a28_1 : List AO := [⟨(some 3), none, .mv (.v (.int .i64 0))⟩]
theorem tr28_1 : (ro Tryd.f28 1).toList.mapM (trO Tryd.prog 23 (ro Tryd.f28 1)) = some a28_1 := by kernel_rfl
def a28_2 : List AO := [⟨(some 6), none, .mv (.t 0)⟩,
  ⟨(some 7), none, .len (.t 6)⟩,
  ⟨(some 8), none, .mv (.v (.int .i64 0))⟩]
theorem tr28_2 : (ro Tryd.f28 2).toList.mapM (trO Tryd.prog 23 (ro Tryd.f28 2)) = some a28_2 := by kernel_rfl
def a28_3 : List AO := [⟨(some 9), none, .bin .lss (.t 8) (.t 7)⟩]
theorem tr28_3 : (ro Tryd.f28 3).toList.mapM (trO Tryd.prog 23 (ro Tryd.f28 3)) = some a28_3 := by kernel_rfl
def a28_4 : List AO := [⟨(some 10), none, .idx 3 (.t 6) (.t 8)⟩,
  ⟨(some 11), none, .load (some 3) (.t 10)⟩,
  ⟨(some 5), none, .alloc 30 [(.str []), (.str []), (.str [])]⟩,
  ⟨none, none, .store 3 (.t 5) (.t 11)⟩]
theorem tr28_4 : (ro Tryd.f28 4).toList.mapM (trO Tryd.prog 23 (ro Tryd.f28 4)) = some a28_4 := by kernel_rfl
def a28_5 : List AO := [⟨(some 12), none, .load (some 3) (.t 5)⟩,
  ⟨(some 13), none, .call 33 [(.t 12)]⟩]
theorem tr28_5 : (ro Tryd.f28 5).toList.mapM (trO Tryd.prog 23 (ro Tryd.f28 5)) = some a28_5 := by kernel_rfl
def a28_6 : List AO := [⟨(some 14), none, .mv (.t 3)⟩,
  ⟨(some 15), none, .bin .add (.t 14) (.v (.int .i64 1))⟩,
  ⟨(some 3), none, .mv (.t 15)⟩]
theorem tr28_6 : (ro Tryd.f28 6).toList.mapM (trO Tryd.prog 23 (ro Tryd.f28 6)) = some a28_6 := by kernel_rfl
def a28_7 : List AO := [⟨(some 16), none, .load (some 3) (.t 5)⟩,
  ⟨(some 17), none, .call 40 [(.t 16)]⟩]
theorem tr28_7 : (ro Tryd.f28 7).toList.mapM (trO Tryd.prog 23 (ro Tryd.f28 7)) = some a28_7 := by kernel_rfl
def a28_8 : List AO := [⟨(some 18), none, .mv (.t 3)⟩,
  ⟨(some 19), none, .bin .sub (.t 18) (.v (.int .i64 1))⟩,
  ⟨(some 3), none, .mv (.t 19)⟩]
theorem tr28_8 : (ro Tryd.f28 8).toList.mapM (trO Tryd.prog 23 (ro Tryd.f28 8)) = some a28_8 := by kernel_rfl
def a28_9 : List AO := [⟨(some 20), none, .bin .add (.t 8) (.v (.int .i64 1))⟩,
  ⟨(some 8), none, .mv (.t 20)⟩]
theorem tr28_9 : (ro Tryd.f28 9).toList.mapM (trO Tryd.prog 23 (ro Tryd.f28 9)) = some a28_9 := by kernel_rfl
def a28_10 : List AO := [⟨(some 21), none, .mv (.t 3)⟩,
  ⟨(some 22), none, .bin .gtr (.t 21) (.v (.int .i64 0))⟩,
  ⟨(some 2), none, .mv (.t 22)⟩]
theorem tr28_10 : (ro Tryd.f28 10).toList.mapM (trO Tryd.prog 23 (ro Tryd.f28 10)) = some a28_10 := by kernel_rfl
/-- airline/airlineref01.Decimal -/
noncomputable def c29 : Code := .seq (.region 0 (ro Tryd.f29 0) false) (.seq (.seq (.region 1 (ro Tryd.f29 1) false) (.cond (.tmp 4) (.seq (.region 2 (ro Tryd.f29 2) false) (.ret)) (.skip))) (.seq (.region 3 (ro Tryd.f29 3) false) (.ret)))
theorem body29 : Tryd.f29.body = some c29 := by kernel_rfl
theorem res29 : Tryd.f29.results.toList.mapM (trR Tryd.prog) = some [.t 2] := by kernel_rfl
theorem nt29 : Tryd.f29.ntmps = 15 := by kernel_rfl
theorem nm29 : (Tryd.f29.name == "runtime.NumGoroutine") = false := by kernel_rfl
def a29_0 : List AO := [⟨(some 2), none, .mv (.v (.str []))⟩]
theorem tr29_0 : (ro Tryd.f29 0).toList.mapM (trO Tryd.prog 15 (ro Tryd.f29 0)) = some a29_0 := by kernel_rfl
def a29_1 : List AO := [⟨(some 3), none, .mv (.t 0)⟩,
  ⟨(some 4), none, .bin .lss (.t 3) (.v (.int .i64 0))⟩]
theorem tr29_1 : (ro Tryd.f29 1).toList.mapM (trO Tryd.prog 15 (ro Tryd.f29 1)) = some a29_1 := by kernel_rfl
def a29_2 : List AO := [⟨(some 5), none, .mv (.t 0)⟩,
  ⟨(some 6), none, .bin .add (.t 5) (.v (.int .i64 1))⟩,
  ⟨(some 7), none, .un .neg (.t 6)⟩,
  ⟨(some 8), none, .conv .u64 (.t 7)⟩,
  ⟨(some 9), none, .bin .add (.t 8) (.v (.int .u64 1))⟩,
  ⟨(some 10), none, .call 41 [(.t 9)]⟩,
  ⟨(some 11), none, .bin .add (.v (.str [45])) (.t 10)⟩,
  ⟨(some 2), none, .mv (.t 11)⟩]
theorem tr29_2 : (ro Tryd.f29 2).toList.mapM (trO Tryd.prog 15 (ro Tryd.f29 2)) = some a29_2 := by kernel_rfl
def a29_3 : List AO := [⟨(some 12), none, .mv (.t 0)⟩,
  ⟨(some 13), none, .conv .u64 (.t 12)⟩,
  ⟨(some 14), none, .call 41 [(.t 13)]⟩,
  ⟨(some 2), none, .mv (.t 14)⟩]
theorem tr29_3 : (ro Tryd.f29 3).toList.mapM (trO Tryd.prog 15 (ro Tryd.f29 3)) = some a29_3 := by kernel_rfl
/-- airline/airlineref32.named -/
noncomputable def c30 : Code := .seq (.region 0 (ro Tryd.f30 0) false) (.seq (.region 1 (ro Tryd.f30 1) false) (.ret))
theorem body30 : Tryd.f30.body = some c30 := by kernel_rfl
theorem res30 : Tryd.f30.results.toList.mapM (trR Tryd.prog) = some [.t 2] := by kernel_rfl
theorem nt30 : Tryd.f30.ntmps = 11 := by kernel_rfl
theorem nm30 : (Tryd.f30.name == "runtime.NumGoroutine") = false := by kernel_rfl
def a30_0 : List AO := [⟨(some 1), none, .box 30 (.t 0)⟩,
  ⟨(some 2), none, .mv (.v (.bool false))⟩]
theorem tr30_0 : (ro Tryd.f30 0).toList.mapM (trO Tryd.prog 11 (ro Tryd.f30 0)) = some a30_0 := by kernel_rfl
def a30_1 : List AO := [⟨(some 3), none, .fld 0 (.t 1)⟩,
  ⟨(some 4), none, .load none (.t 3)⟩,
  ⟨(some 5), none, .call 42 [(.t 4)]⟩,
  ⟨(some 6), none, .mv (.t 5)⟩,
  ⟨(some 7), some (6, true), .fld 1 (.t 1)⟩,
  ⟨(some 8), some (6, true), .load none (.t 7)⟩,
  ⟨(some 9), some (6, true), .call 42 [(.t 8)]⟩,
  ⟨(some 10), none, .pick (.t 6) (.t 9) (.v (.bool false))⟩,
  ⟨(some 2), none, .mv (.t 10)⟩]
theorem tr30_1 : (ro Tryd.f30 1).toList.mapM (trO Tryd.prog 11 (ro Tryd.f30 1)) = some a30_1 := by kernel_rfl
/-- airline/airlineref32.typed -/
noncomputable def c31 : Code := .seq (.region 0 (ro Tryd.f31 0) false) (.seq (.region 1 (ro Tryd.f31 1) false) (.ret))
theorem body31 : Tryd.f31.body = some c31 := by kernel_rfl
theorem res31 : Tryd.f31.results.toList.mapM (trR Tryd.prog) = some [.t 2] := by kernel_rfl
theorem nt31 : Tryd.f31.ntmps = 6 := by kernel_rfl
theorem nm31 : (Tryd.f31.name == "runtime.NumGoroutine") = false := by kernel_rfl
def a31_0 : List AO := [⟨(some 1), none, .box 30 (.t 0)⟩,
  ⟨(some 2), none, .mv (.v (.bool false))⟩]
theorem tr31_0 : (ro Tryd.f31 0).toList.mapM (trO Tryd.prog 6 (ro Tryd.f31 0)) = some a31_0 := by kernel_rfl
def a31_1 : List AO := [⟨(some 3), none, .fld 2 (.t 1)⟩,
  ⟨(some 4), none, .load none (.t 3)⟩,
  ⟨(some 5), none, .call 43 [(.t 4), (.v (.int .i64 3)), (.v (.int .i64 3))]⟩,
  ⟨(some 2), none, .mv (.t 5)⟩]
theorem tr31_1 : (ro Tryd.f31 1).toList.mapM (trO Tryd.prog 6 (ro Tryd.f31 1)) = some a31_1 := by kernel_rfl
/-- airline/airlineref32.Fits -/
noncomputable def c32 : Code := .seq (.region 0 (ro Tryd.f32 0) false) (.seq (.region 1 (ro Tryd.f32 1) false) (.seq (.seq (.region 2 (ro Tryd.f32 2) false) (.block 0 (.loop (.seq (.seq (.region 3 (ro Tryd.f32 3) false) (.cond (.tmp 9) (.skip) (.exit 0))) (.seq (.block 1 (.seq (.region 5 (ro Tryd.f32 5) false) (.cond (.tmp 17) (.region 6 (ro Tryd.f32 6) false) (.seq (.region 7 (ro Tryd.f32 7) false) (.cond (.tmp 25) (.region 8 (ro Tryd.f32 8) false) (.skip)))))) (.region 4 (ro Tryd.f32 4) false)))))) (.seq (.region 9 (ro Tryd.f32 9) false) (.ret))))
theorem body32 : Tryd.f32.body = some c32 := by kernel_rfl
theorem res32 : Tryd.f32.results.toList.mapM (trR Tryd.prog) = some [.t 2] := by kernel_rfl
theorem nt32 : Tryd.f32.ntmps = 31 := by kernel_rfl
theorem nm32 : (Tryd.f32.name == "runtime.NumGoroutine") = false := by kernel_rfl
def a32_0 : List AO := [⟨(some 2), none, .mv (.v (.bool false))⟩]
theorem tr32_0 : (ro Tryd.f32 0).toList.mapM (trO Tryd.prog 31 (ro Tryd.f32 0)) = some a32_0 := by kernel_rfl
def a32_1 : List AO := [⟨(some 3), none, .mv (.v (.int .i64 0))⟩,
  ⟨(some 4), none, .mv (.v (.int .i64 0))⟩]
theorem tr32_1 : (ro Tryd.f32 1).toList.mapM (trO Tryd.prog 31 (ro Tryd.f32 1)) = some a32_1 := by kernel_rfl
def a32_2 : List AO := [⟨(some 5), none, .mv (.v (.int .i64 0))⟩]
theorem tr32_2 : (ro Tryd.f32 2).toList.mapM (trO Tryd.prog 31 (ro Tryd.f32 2)) = some a32_2 := by kernel_rfl
def a32_3 : List AO := [⟨(some 6), none, .mv (.t 5)⟩,
  ⟨(some 7), none, .mv (.t 0)⟩,
  ⟨(some 8), none, .len (.t 7)⟩,
  ⟨(some 9), none, .bin .lss (.t 6) (.t 8)⟩]
theorem tr32_3 : (ro Tryd.f32 3).toList.mapM (trO Tryd.prog 31 (ro Tryd.f32 3)) = some a32_3 := by kernel_rfl
def a32_5 : List AO := [⟨(some 12), none, .mv (.t 0)⟩,
  ⟨(some 13), none, .mv (.t 5)⟩,
  ⟨(some 14), none, .idx 3 (.t 12) (.t 13)⟩,
  ⟨(some 15), none, .fld 2 (.t 14)⟩,
  ⟨(some 16), none, .load none (.t 15)⟩,
  ⟨(some 17), none, .bin .eql (.t 16) (.v (.str [73, 78, 70]))⟩]
theorem tr32_5 : (ro Tryd.f32 5).toList.mapM (trO Tryd.prog 31 (ro Tryd.f32 5)) = some a32_5 := by kernel_rfl
def a32_6 : List AO := [⟨(some 18), none, .mv (.t 3)⟩,
  ⟨(some 19), none, .bin .add (.t 18) (.v (.int .i64 1))⟩,
  ⟨(some 3), none, .mv (.t 19)⟩]
theorem tr32_6 : (ro Tryd.f32 6).toList.mapM (trO Tryd.prog 31 (ro Tryd.f32 6)) = some a32_6 := by kernel_rfl
def a32_7 : List AO := [⟨(some 20), none, .mv (.t 0)⟩,
  ⟨(some 21), none, .mv (.t 5)⟩,
  ⟨(some 22), none, .idx 3 (.t 20) (.t 21)⟩,
  ⟨(some 23), none, .fld 2 (.t 22)⟩,
  ⟨(some 24), none, .load none (.t 23)⟩,
  ⟨(some 25), none, .bin .neq (.t 24) (.v (.str [67, 72, 68]))⟩]
theorem tr32_7 : (ro Tryd.f32 7).toList.mapM (trO Tryd.prog 31 (ro Tryd.f32 7)) = some a32_7 := by kernel_rfl
def a32_8 : List AO := [⟨(some 26), none, .mv (.t 4)⟩,
  ⟨(some 27), none, .bin .add (.t 26) (.v (.int .i64 1))⟩,
  ⟨(some 4), none, .mv (.t 27)⟩]
theorem tr32_8 : (ro Tryd.f32 8).toList.mapM (trO Tryd.prog 31 (ro Tryd.f32 8)) = some a32_8 := by kernel_rfl
def a32_4 : List AO := [⟨(some 10), none, .mv (.t 5)⟩,
  ⟨(some 11), none, .bin .add (.t 10) (.v (.int .i64 1))⟩,
  ⟨(some 5), none, .mv (.t 11)⟩]
theorem tr32_4 : (ro Tryd.f32 4).toList.mapM (trO Tryd.prog 31 (ro Tryd.f32 4)) = some a32_4 := by kernel_rfl
def a32_9 : List AO := [⟨(some 28), none, .mv (.t 3)⟩,
  ⟨(some 29), none, .mv (.t 4)⟩,
  ⟨(some 30), none, .bin .leq (.t 28) (.t 29)⟩,
  ⟨(some 2), none, .mv (.t 30)⟩]
theorem tr32_9 : (ro Tryd.f32 9).toList.mapM (trO Tryd.prog 31 (ro Tryd.f32 9)) = some a32_9 := by kernel_rfl
/-- airline/party.infant -/
noncomputable def c33 : Code := .seq (.region 0 (ro Tryd.f33 0) false) (.seq (.region 1 (ro Tryd.f33 1) false) (.ret))
theorem body33 : Tryd.f33.body = some c33 := by kernel_rfl
theorem res33 : Tryd.f33.results.toList.mapM (trR Tryd.prog) = some [.t 2] := by kernel_rfl
theorem nt33 : Tryd.f33.ntmps = 6 := by kernel_rfl
theorem nm33 : (Tryd.f33.name == "runtime.NumGoroutine") = false := by kernel_rfl
def a33_0 : List AO := [⟨(some 1), none, .box 30 (.t 0)⟩,
  ⟨(some 2), none, .mv (.v (.bool false))⟩]
theorem tr33_0 : (ro Tryd.f33 0).toList.mapM (trO Tryd.prog 6 (ro Tryd.f33 0)) = some a33_0 := by kernel_rfl
def a33_1 : List AO := [⟨(some 3), none, .fld 2 (.t 1)⟩,
  ⟨(some 4), none, .load none (.t 3)⟩,
  ⟨(some 5), none, .bin .eql (.t 4) (.v (.str [73, 78, 70]))⟩,
  ⟨(some 2), none, .mv (.t 5)⟩]
theorem tr33_1 : (ro Tryd.f33 1).toList.mapM (trO Tryd.prog 6 (ro Tryd.f33 1)) = some a33_1 := by kernel_rfl
/-- strings.IndexByte -/
noncomputable def c34 : Code := .seq (.region 0 (ro Tryd.f34 0) false) (.seq (.region 1 (ro Tryd.f34 1) false) (.ret))
theorem body34 : Tryd.f34.body = some c34 := by kernel_rfl
theorem res34 : Tryd.f34.results.toList.mapM (trR Tryd.prog) = some [.t 4] := by kernel_rfl
theorem nt34 : Tryd.f34.ntmps = 8 := by kernel_rfl
theorem nm34 : (Tryd.f34.name == "runtime.NumGoroutine") = false := by kernel_rfl
def a34_0 : List AO := [⟨(some 4), none, .mv (.v (.int .i64 0))⟩]
theorem tr34_0 : (ro Tryd.f34 0).toList.mapM (trO Tryd.prog 8 (ro Tryd.f34 0)) = some a34_0 := by kernel_rfl
def a34_1 : List AO := [⟨(some 5), none, .mv (.t 0)⟩,
  ⟨(some 6), none, .mv (.t 1)⟩,
  ⟨(some 7), none, .call 44 [(.t 5), (.t 6)]⟩,
  ⟨(some 4), none, .mv (.t 7)⟩]
theorem tr34_1 : (ro Tryd.f34 1).toList.mapM (trO Tryd.prog 8 (ro Tryd.f34 1)) = some a34_1 := by kernel_rfl
/-- strings.LastIndexByte -/
noncomputable def c35 : Code := .seq (.region 0 (ro Tryd.f35 0) false) (.seq (.region 1 (ro Tryd.f35 1) false) (.ret))
theorem body35 : Tryd.f35.body = some c35 := by kernel_rfl
theorem res35 : Tryd.f35.results.toList.mapM (trR Tryd.prog) = some [.t 4] := by kernel_rfl
theorem nt35 : Tryd.f35.ntmps = 8 := by kernel_rfl
theorem nm35 : (Tryd.f35.name == "runtime.NumGoroutine") = false := by kernel_rfl
def a35_0 : List AO := [⟨(some 4), none, .mv (.v (.int .i64 0))⟩]
theorem tr35_0 : (ro Tryd.f35 0).toList.mapM (trO Tryd.prog 8 (ro Tryd.f35 0)) = some a35_0 := by kernel_rfl
def a35_1 : List AO := [⟨(some 5), none, .mv (.t 0)⟩,
  ⟨(some 6), none, .mv (.t 1)⟩,
  ⟨(some 7), none, .call 45 [(.t 5), (.t 6)]⟩,
  ⟨(some 4), none, .mv (.t 7)⟩]
theorem tr35_1 : (ro Tryd.f35 1).toList.mapM (trO Tryd.prog 8 (ro Tryd.f35 1)) = some a35_1 := by kernel_rfl
/-- strings.Count -/
noncomputable def c36 : Code := .seq (.region 0 (ro Tryd.f36 0) false) (.seq (.seq (.region 1 (ro Tryd.f36 1) false) (.cond (.tmp 9) (.seq (.region 2 (ro Tryd.f36 2) false) (.ret)) (.skip))) (.seq (.seq (.region 3 (ro Tryd.f36 3) false) (.cond (.tmp 15) (.seq (.region 4 (ro Tryd.f36 4) false) (.ret)) (.skip))) (.seq (.region 5 (ro Tryd.f36 5) false) (.block 0 (.loop (.block 1 (.seq (.region 6 (ro Tryd.f36 6) false) (.seq (.seq (.region 7 (ro Tryd.f36 7) false) (.cond (.tmp 24) (.seq (.region 8 (ro Tryd.f36 8) false) (.ret)) (.skip))) (.seq (.region 9 (ro Tryd.f36 9) false) (.region 10 (ro Tryd.f36 10) false))))))))))
theorem body36 : Tryd.f36.body = some c36 := by kernel_rfl
theorem res36 : Tryd.f36.results.toList.mapM (trR Tryd.prog) = some [.t 4] := by kernel_rfl
theorem nt36 : Tryd.f36.ntmps = 34 := by kernel_rfl
theorem nm36 : (Tryd.f36.name == "runtime.NumGoroutine") = false := by kernel_rfl
def a36_0 : List AO := [⟨(some 4), none, .mv (.v (.int .i64 0))⟩]
theorem tr36_0 : (ro Tryd.f36 0).toList.mapM (trO Tryd.prog 34 (ro Tryd.f36 0)) = some a36_0 := by kernel_rfl
def a36_1 : List AO := [⟨(some 7), none, .mv (.t 1)⟩,
  ⟨(some 8), none, .slen (.t 7)⟩,
  ⟨(some 9), none, .bin .eql (.t 8) (.v (.int .i64 0))⟩]
theorem tr36_1 : (ro Tryd.f36 1).toList.mapM (trO Tryd.prog 34 (ro Tryd.f36 1)) = some a36_1 := by kernel_rfl
def a36_2 : List AO := [⟨(some 10), none, .mv (.t 0)⟩,
  ⟨(some 11), none, .call 46 [(.t 10)]⟩,
  ⟨(some 12), none, .bin .add (.t 11) (.v (.int .i64 1))⟩,
  ⟨(some 4), none, .mv (.t 12)⟩]
theorem tr36_2 : (ro Tryd.f36 2).toList.mapM (trO Tryd.prog 34 (ro Tryd.f36 2)) = some a36_2 := by kernel_rfl
def a36_3 : List AO := [⟨(some 13), none, .mv (.t 1)⟩,
  ⟨(some 14), none, .slen (.t 13)⟩,
  ⟨(some 15), none, .bin .eql (.t 14) (.v (.int .i64 1))⟩]
theorem tr36_3 : (ro Tryd.f36 3).toList.mapM (trO Tryd.prog 34 (ro Tryd.f36 3)) = some a36_3 := by kernel_rfl
-- region 4: not translated: !! call value func47 types #[9, 5] func47 t16 t18
def a36_5 : List AO := [⟨(some 5), none, .mv (.v (.int .i64 0))⟩]
theorem tr36_5 : (ro Tryd.f36 5).toList.mapM (trO Tryd.prog 34 (ro Tryd.f36 5)) = some a36_5 := by kernel_rfl
def a36_6 : List AO := [⟨(some 20), none, .mv (.t 0)⟩,
  ⟨(some 21), none, .mv (.t 1)⟩,
  ⟨(some 22), none, .call 48 [(.t 20), (.t 21)]⟩,
  ⟨(some 6), none, .mv (.t 22)⟩]
theorem tr36_6 : (ro Tryd.f36 6).toList.mapM (trO Tryd.prog 34 (ro Tryd.f36 6)) = some a36_6 := by kernel_rfl
def a36_7 : List AO := [⟨(some 23), none, .mv (.t 6)⟩,
  ⟨(some 24), none, .bin .eql (.t 23) (.v (.int .i64 (-1)))⟩]
theorem tr36_7 : (ro Tryd.f36 7).toList.mapM (trO Tryd.prog 34 (ro Tryd.f36 7)) = some a36_7 := by kernel_rfl
def a36_8 : List AO := [⟨(some 25), none, .mv (.t 5)⟩,
  ⟨(some 4), none, .mv (.t 25)⟩]
theorem tr36_8 : (ro Tryd.f36 8).toList.mapM (trO Tryd.prog 34 (ro Tryd.f36 8)) = some a36_8 := by kernel_rfl
def a36_9 : List AO := [⟨(some 26), none, .mv (.t 5)⟩,
  ⟨(some 27), none, .bin .add (.t 26) (.v (.int .i64 1))⟩,
  ⟨(some 5), none, .mv (.t 27)⟩]
theorem tr36_9 : (ro Tryd.f36 9).toList.mapM (trO Tryd.prog 34 (ro Tryd.f36 9)) = some a36_9 := by kernel_rfl
def a36_10 : List AO := [⟨(some 28), none, .mv (.t 0)⟩,
  ⟨(some 29), none, .mv (.t 6)⟩,
  ⟨(some 30), none, .mv (.t 1)⟩,
  ⟨(some 31), none, .slen (.t 30)⟩,
  ⟨(some 32), none, .bin .add (.t 29) (.t 31)⟩,
  ⟨(some 33), none, .ssub (some (.t 32)) none (.t 28)⟩,
  ⟨(some 0), none, .mv (.t 33)⟩]
theorem tr36_10 : (ro Tryd.f36 10).toList.mapM (trO Tryd.prog 34 (ro Tryd.f36 10)) = some a36_10 := by kernel_rfl
/-- airline/text.Name -/
noncomputable def c38 : Code := .seq (.region 0 (ro Tryd.f38 0) false) (.seq (.seq (.region 1 (ro Tryd.f38 1) false) (.cond (.tmp 7) (.seq (.region 2 (ro Tryd.f38 2) false) (.ret)) (.skip))) (.seq (.seq (.region 3 (ro Tryd.f38 3) false) (.block 0 (.loop (.seq (.region 4 (ro Tryd.f38 4) false) (.seq (.cond (.tmp 12) (.skip) (.exit 0)) (.seq (.block 1 (.seq (.region 5 (ro Tryd.f38 5) false) (.seq (.region 6 (ro Tryd.f38 6) false) (.cond (.tmp 21) (.seq (.region 7 (ro Tryd.f38 7) false) (.ret)) (.skip))))) (.region 8 (ro Tryd.f38 8) false))))))) (.seq (.region 9 (ro Tryd.f38 9) false) (.ret))))
theorem body38 : Tryd.f38.body = some c38 := by kernel_rfl
theorem res38 : Tryd.f38.results.toList.mapM (trR Tryd.prog) = some [.t 2] := by kernel_rfl
theorem nt38 : Tryd.f38.ntmps = 23 := by kernel_rfl
theorem nm38 : (Tryd.f38.name == "runtime.NumGoroutine") = false := by kernel_rfl
def a38_0 : List AO := [⟨(some 2), none, .mv (.v (.bool false))⟩]
theorem tr38_0 : (ro Tryd.f38 0).toList.mapM (trO Tryd.prog 23 (ro Tryd.f38 0)) = some a38_0 := by kernel_rfl
def a38_1 : List AO := [⟨(some 5), none, .mv (.t 0)⟩,
  ⟨(some 6), none, .slen (.t 5)⟩,
  ⟨(some 7), none, .bin .gtr (.t 6) (.v (.int .i64 30))⟩]
theorem tr38_1 : (ro Tryd.f38 1).toList.mapM (trO Tryd.prog 23 (ro Tryd.f38 1)) = some a38_1 := by kernel_rfl
def a38_2 : List AO := [⟨(some 2), none, .mv (.v (.bool false))⟩]
theorem tr38_2 : (ro Tryd.f38 2).toList.mapM (trO Tryd.prog 23 (ro Tryd.f38 2)) = some a38_2 := by kernel_rfl
def a38_3 : List AO := [⟨(some 8), none, .mv (.t 0)⟩,
  ⟨(some 9), none, .call 50 [(.t 8), (.v (.str [32]))]⟩,
  ⟨(some 10), none, .len (.t 9)⟩,
  ⟨(some 11), none, .mv (.v (.int .i64 0))⟩]
theorem tr38_3 : (ro Tryd.f38 3).toList.mapM (trO Tryd.prog 23 (ro Tryd.f38 3)) = some a38_3 := by kernel_rfl
def a38_4 : List AO := [⟨(some 12), none, .bin .lss (.t 11) (.t 10)⟩]
theorem tr38_4 : (ro Tryd.f38 4).toList.mapM (trO Tryd.prog 23 (ro Tryd.f38 4)) = some a38_4 := by kernel_rfl
def a38_5 : List AO := [⟨(some 13), none, .idx 1 (.t 9) (.t 11)⟩,
  ⟨(some 14), none, .load none (.t 13)⟩,
  ⟨(some 4), none, .mv (.t 14)⟩]
theorem tr38_5 : (ro Tryd.f38 5).toList.mapM (trO Tryd.prog 23 (ro Tryd.f38 5)) = some a38_5 := by kernel_rfl
def a38_6 : List AO := [⟨(some 15), none, .mv (.t 4)⟩,
  ⟨(some 16), none, .bin .eql (.t 15) (.v (.str []))⟩,
  ⟨(some 17), none, .mv (.t 16)⟩,
  ⟨(some 18), some (17, false), .mv (.t 4)⟩,
  ⟨(some 19), some (17, false), .call 51 [(.t 18), (.v (.fn 52 []))]⟩,
  ⟨(some 20), some (17, false), .un .not (.t 19)⟩,
  ⟨(some 21), none, .pick (.t 17) (.v (.bool true)) (.t 20)⟩]
theorem tr38_6 : (ro Tryd.f38 6).toList.mapM (trO Tryd.prog 23 (ro Tryd.f38 6)) = some a38_6 := by kernel_rfl
def a38_7 : List AO := [⟨(some 2), none, .mv (.v (.bool false))⟩]
theorem tr38_7 : (ro Tryd.f38 7).toList.mapM (trO Tryd.prog 23 (ro Tryd.f38 7)) = some a38_7 := by kernel_rfl
def a38_8 : List AO := [⟨(some 22), none, .bin .add (.t 11) (.v (.int .i64 1))⟩,
  ⟨(some 11), none, .mv (.t 22)⟩]
theorem tr38_8 : (ro Tryd.f38 8).toList.mapM (trO Tryd.prog 23 (ro Tryd.f38 8)) = some a38_8 := by kernel_rfl
def a38_9 : List AO := [⟨(some 2), none, .mv (.v (.bool true))⟩]
theorem tr38_9 : (ro Tryd.f38 9).toList.mapM (trO Tryd.prog 23 (ro Tryd.f38 9)) = some a38_9 := by kernel_rfl
/-- airline/text.Code -/
noncomputable def c39 : Code := .seq (.region 0 (ro Tryd.f39 0) false) (.seq (.region 1 (ro Tryd.f39 1) false) (.ret))
theorem body39 : Tryd.f39.body = some c39 := by kernel_rfl
theorem res39 : Tryd.f39.results.toList.mapM (trR Tryd.prog) = some [.t 6] := by kernel_rfl
theorem nt39 : Tryd.f39.ntmps = 21 := by kernel_rfl
theorem nm39 : (Tryd.f39.name == "runtime.NumGoroutine") = false := by kernel_rfl
def a39_0 : List AO := [⟨(some 6), none, .mv (.v (.bool false))⟩]
theorem tr39_0 : (ro Tryd.f39 0).toList.mapM (trO Tryd.prog 21 (ro Tryd.f39 0)) = some a39_0 := by kernel_rfl
def a39_1 : List AO := [⟨(some 7), none, .mv (.t 0)⟩,
  ⟨(some 8), none, .slen (.t 7)⟩,
  ⟨(some 9), none, .mv (.t 1)⟩,
  ⟨(some 10), none, .bin .geq (.t 8) (.t 9)⟩,
  ⟨(some 11), none, .mv (.t 10)⟩,
  ⟨(some 12), some (11, true), .mv (.t 0)⟩,
  ⟨(some 13), some (11, true), .slen (.t 12)⟩,
  ⟨(some 14), some (11, true), .mv (.t 2)⟩,
  ⟨(some 15), some (11, true), .bin .leq (.t 13) (.t 14)⟩,
  ⟨(some 16), none, .pick (.t 11) (.t 15) (.v (.bool false))⟩,
  ⟨(some 17), none, .mv (.t 16)⟩,
  ⟨(some 18), some (17, true), .mv (.t 0)⟩,
  ⟨(some 19), some (17, true), .call 51 [(.t 18), (.v (.fn 53 []))]⟩,
  ⟨(some 20), none, .pick (.t 17) (.t 19) (.v (.bool false))⟩,
  ⟨(some 6), none, .mv (.t 20)⟩]
theorem tr39_1 : (ro Tryd.f39 1).toList.mapM (trO Tryd.prog 21 (ro Tryd.f39 1)) = some a39_1 := by kernel_rfl
/-- airline/party.adult -/
noncomputable def c40 : Code := .seq (.region 0 (ro Tryd.f40 0) false) (.seq (.region 1 (ro Tryd.f40 1) false) (.ret))
theorem body40 : Tryd.f40.body = some c40 := by kernel_rfl
theorem res40 : Tryd.f40.results.toList.mapM (trR Tryd.prog) = some [.t 2] := by kernel_rfl
theorem nt40 : Tryd.f40.ntmps = 11 := by kernel_rfl
theorem nm40 : (Tryd.f40.name == "runtime.NumGoroutine") = false := by kernel_rfl
def a40_0 : List AO := [⟨(some 1), none, .box 30 (.t 0)⟩,
  ⟨(some 2), none, .mv (.v (.bool false))⟩]
theorem tr40_0 : (ro Tryd.f40 0).toList.mapM (trO Tryd.prog 11 (ro Tryd.f40 0)) = some a40_0 := by kernel_rfl
def a40_1 : List AO := [⟨(some 3), none, .load (some 3) (.t 1)⟩,
  ⟨(some 4), none, .call 33 [(.t 3)]⟩,
  ⟨(some 5), none, .un .not (.t 4)⟩,
  ⟨(some 6), none, .mv (.t 5)⟩,
  ⟨(some 7), some (6, true), .fld 2 (.t 1)⟩,
  ⟨(some 8), some (6, true), .load none (.t 7)⟩,
  ⟨(some 9), some (6, true), .bin .neq (.t 8) (.v (.str [67, 72, 68]))⟩,
  ⟨(some 10), none, .pick (.t 6) (.t 9) (.v (.bool false))⟩,
  ⟨(some 2), none, .mv (.t 10)⟩]
theorem tr40_1 : (ro Tryd.f40 1).toList.mapM (trO Tryd.prog 11 (ro Tryd.f40 1)) = some a40_1 := by kernel_rfl
/-- airline/airlineref01.digits -/
noncomputable def c41 : Code := .seq (.region 0 (ro Tryd.f41 0) false) (.seq (.seq (.region 1 (ro Tryd.f41 1) false) (.cond (.tmp 4) (.seq (.region 2 (ro Tryd.f41 2) false) (.ret)) (.skip))) (.seq (.region 3 (ro Tryd.f41 3) true) (.ret)))
theorem body41 : Tryd.f41.body = some c41 := by kernel_rfl
theorem res41 : Tryd.f41.results.toList.mapM (trR Tryd.prog) = some [.t 2] := by kernel_rfl
theorem nt41 : Tryd.f41.ntmps = 19 := by kernel_rfl
theorem nm41 : (Tryd.f41.name == "runtime.NumGoroutine") = false := by kernel_rfl
def a41_0 : List AO := [⟨(some 2), none, .mv (.v (.str []))⟩]
theorem tr41_0 : (ro Tryd.f41 0).toList.mapM (trO Tryd.prog 19 (ro Tryd.f41 0)) = some a41_0 := by kernel_rfl
def a41_1 : List AO := [⟨(some 3), none, .mv (.t 0)⟩,
  ⟨(some 4), none, .bin .lss (.t 3) (.v (.int .u64 10))⟩]
theorem tr41_1 : (ro Tryd.f41 1).toList.mapM (trO Tryd.prog 19 (ro Tryd.f41 1)) = some a41_1 := by kernel_rfl
def a41_2 : List AO := [⟨(some 5), none, .mv (.t 0)⟩,
  ⟨(some 6), none, .mv (.t 0)⟩,
  ⟨(some 7), none, .bin .add (.t 6) (.v (.int .u64 1))⟩,
  ⟨(some 8), none, .ssub (some (.t 5)) (some (.t 7)) (.v (.str [48, 49, 50, 51, 52, 53, 54, 55, 56, 57]))⟩,
  ⟨(some 2), none, .mv (.t 8)⟩]
theorem tr41_2 : (ro Tryd.f41 2).toList.mapM (trO Tryd.prog 19 (ro Tryd.f41 2)) = some a41_2 := by kernel_rfl
def a41_3 : List AO := [⟨(some 9), none, .mv (.t 0)⟩,
  ⟨(some 10), none, .bin .quo (.t 9) (.v (.int .u64 10))⟩,
  ⟨(some 11), none, .call 41 [(.t 10)]⟩,
  ⟨(some 12), none, .mv (.t 0)⟩,
  ⟨(some 13), none, .bin .rem (.t 12) (.v (.int .u64 10))⟩,
  ⟨(some 14), none, .mv (.t 0)⟩,
  ⟨(some 15), none, .bin .rem (.t 14) (.v (.int .u64 10))⟩,
  ⟨(some 16), none, .bin .add (.t 15) (.v (.int .u64 1))⟩,
  ⟨(some 17), none, .ssub (some (.t 13)) (some (.t 16)) (.v (.str [48, 49, 50, 51, 52, 53, 54, 55, 56, 57]))⟩,
  ⟨(some 18), none, .bin .add (.t 11) (.t 17)⟩,
  ⟨(some 2), none, .mv (.t 18)⟩]
theorem tr41_3 : (ro Tryd.f41 3).toList.mapM (trO Tryd.prog 19 (ro Tryd.f41 3)) = some a41_3 := by kernel_rfl
def d41_3 : List (List Nat) := [[], [0], [0, 1], [], [3], [], [5], [5, 6], [3, 4, 5, 6, 7], [0, 1, 2, 3, 4, 5, 6, 7, 8], [0, 1, 2, 3, 4, 5, 6, 7, 8, 9]]
theorem ok41_3 : okReg (ro Tryd.f41 3) a41_3 d41_3 = true := by kernel_rfl
/-- airline/airlineref01.Name -/
noncomputable def c42 : Code := .seq (.region 0 (ro Tryd.f42 0) false) (.seq (.seq (.region 1 (ro Tryd.f42 1) false) (.cond (.tmp 24) (.seq (.region 2 (ro Tryd.f42 2) false) (.ret)) (.skip))) (.seq (.seq (.region 3 (ro Tryd.f42 3) false) (.block 0 (.loop (.seq (.seq (.region 4 (ro Tryd.f42 4) false) (.cond (.tmp 28) (.skip) (.exit 0))) (.seq (.block 1 (.seq (.region 6 (ro Tryd.f42 6) false) (.cond (.tmp 48) (.seq (.region 7 (ro Tryd.f42 7) false) (.ret)) (.skip)))) (.region 5 (ro Tryd.f42 5) false)))))) (.seq (.region 8 (ro Tryd.f42 8) false) (.ret))))
theorem body42 : Tryd.f42.body = some c42 := by kernel_rfl
theorem res42 : Tryd.f42.results.toList.mapM (trR Tryd.prog) = some [.t 2] := by kernel_rfl
theorem nt42 : Tryd.f42.ntmps = 49 := by kernel_rfl
theorem nm42 : (Tryd.f42.name == "runtime.NumGoroutine") = false := by kernel_rfl
def a42_0 : List AO := [⟨(some 2), none, .mv (.v (.bool false))⟩]
theorem tr42_0 : (ro Tryd.f42 0).toList.mapM (trO Tryd.prog 49 (ro Tryd.f42 0)) = some a42_0 := by kernel_rfl
def a42_1 : List AO := [⟨(some 4), none, .mv (.t 0)⟩,
  ⟨(some 5), none, .slen (.t 4)⟩,
  ⟨(some 6), none, .bin .lss (.t 5) (.v (.int .i64 1))⟩,
  ⟨(some 7), none, .mv (.t 6)⟩,
  ⟨(some 8), some (7, false), .mv (.t 0)⟩,
  ⟨(some 9), some (7, false), .slen (.t 8)⟩,
  ⟨(some 10), some (7, false), .bin .gtr (.t 9) (.v (.int .i64 30))⟩,
  ⟨(some 11), none, .pick (.t 7) (.v (.bool true)) (.t 10)⟩,
  ⟨(some 12), none, .mv (.t 11)⟩,
  ⟨(some 13), some (12, false), .mv (.t 0)⟩,
  ⟨(some 14), some (12, false), .sidx (.t 13) (.v (.int .i64 0))⟩,
  ⟨(some 15), some (12, false), .bin .eql (.t 14) (.v (.int .u8 32))⟩,
  ⟨(some 16), none, .pick (.t 12) (.v (.bool true)) (.t 15)⟩,
  ⟨(some 17), none, .mv (.t 16)⟩,
  ⟨(some 18), some (17, false), .mv (.t 0)⟩,
  ⟨(some 19), some (17, false), .mv (.t 0)⟩,
  ⟨(some 20), some (17, false), .slen (.t 19)⟩,
  ⟨(some 21), some (17, false), .bin .sub (.t 20) (.v (.int .i64 1))⟩,
  ⟨(some 22), some (17, false), .sidx (.t 18) (.t 21)⟩,
  ⟨(some 23), some (17, false), .bin .eql (.t 22) (.v (.int .u8 32))⟩,
  ⟨(some 24), none, .pick (.t 17) (.v (.bool true)) (.t 23)⟩]
theorem tr42_1 : (ro Tryd.f42 1).toList.mapM (trO Tryd.prog 49 (ro Tryd.f42 1)) = some a42_1 := by kernel_rfl
def a42_2 : List AO := [⟨(some 2), none, .mv (.v (.bool false))⟩]
theorem tr42_2 : (ro Tryd.f42 2).toList.mapM (trO Tryd.prog 49 (ro Tryd.f42 2)) = some a42_2 := by kernel_rfl
def a42_3 : List AO := [⟨(some 3), none, .mv (.v (.int .i64 0))⟩]
theorem tr42_3 : (ro Tryd.f42 3).toList.mapM (trO Tryd.prog 49 (ro Tryd.f42 3)) = some a42_3 := by kernel_rfl
def a42_4 : List AO := [⟨(some 25), none, .mv (.t 3)⟩,
  ⟨(some 26), none, .mv (.t 0)⟩,
  ⟨(some 27), none, .slen (.t 26)⟩,
  ⟨(some 28), none, .bin .lss (.t 25) (.t 27)⟩]
theorem tr42_4 : (ro Tryd.f42 4).toList.mapM (trO Tryd.prog 49 (ro Tryd.f42 4)) = some a42_4 := by kernel_rfl
def a42_6 : List AO := [⟨(some 31), none, .mv (.t 0)⟩,
  ⟨(some 32), none, .mv (.t 3)⟩,
  ⟨(some 33), none, .sidx (.t 31) (.t 32)⟩,
  ⟨(some 34), none, .call 55 [(.t 33)]⟩,
  ⟨(some 35), none, .un .not (.t 34)⟩,
  ⟨(some 36), none, .mv (.t 35)⟩,
  ⟨(some 37), some (36, true), .mv (.t 0)⟩,
  ⟨(some 38), some (36, true), .mv (.t 3)⟩,
  ⟨(some 39), some (36, true), .sidx (.t 37) (.t 38)⟩,
  ⟨(some 40), some (36, true), .bin .neq (.t 39) (.v (.int .u8 32))⟩,
  ⟨(some 41), some (36, true), .mv (.t 40)⟩,
  ⟨(some 42), some (41, false), .mv (.t 0)⟩,
  ⟨(some 43), some (41, false), .mv (.t 3)⟩,
  ⟨(some 44), some (41, false), .bin .sub (.t 43) (.v (.int .i64 1))⟩,
  ⟨(some 45), some (41, false), .sidx (.t 42) (.t 44)⟩,
  ⟨(some 46), some (41, false), .bin .eql (.t 45) (.v (.int .u8 32))⟩,
  ⟨(some 47), some (36, true), .pick (.t 41) (.v (.bool true)) (.t 46)⟩,
  ⟨(some 48), none, .pick (.t 36) (.t 47) (.v (.bool false))⟩]
theorem tr42_6 : (ro Tryd.f42 6).toList.mapM (trO Tryd.prog 49 (ro Tryd.f42 6)) = some a42_6 := by kernel_rfl
def a42_7 : List AO := [⟨(some 2), none, .mv (.v (.bool false))⟩]
theorem tr42_7 : (ro Tryd.f42 7).toList.mapM (trO Tryd.prog 49 (ro Tryd.f42 7)) = some a42_7 := by kernel_rfl
def a42_5 : List AO := [⟨(some 29), none, .mv (.t 3)⟩,
  ⟨(some 30), none, .bin .add (.t 29) (.v (.int .i64 1))⟩,
  ⟨(some 3), none, .mv (.t 30)⟩]
theorem tr42_5 : (ro Tryd.f42 5).toList.mapM (trO Tryd.prog 49 (ro Tryd.f42 5)) = some a42_5 := by kernel_rfl
def a42_8 : List AO := [⟨(some 2), none, .mv (.v (.bool true))⟩]
theorem tr42_8 : (ro Tryd.f42 8).toList.mapM (trO Tryd.prog 49 (ro Tryd.f42 8)) = some a42_8 := by kernel_rfl
/-- airline/airlineref01.Code -/
noncomputable def c43 : Code := .seq (.region 0 (ro Tryd.f43 0) false) (.seq (.seq (.region 1 (ro Tryd.f43 1) false) (.block 0 (.loop (.seq (.seq (.region 2 (ro Tryd.f43 2) false) (.cond (.tmp 11) (.skip) (.exit 0))) (.seq (.block 1 (.seq (.region 4 (ro Tryd.f43 4) false) (.cond (.tmp 25) (.seq (.region 5 (ro Tryd.f43 5) false) (.ret)) (.skip)))) (.region 3 (ro Tryd.f43 3) false)))))) (.seq (.region 6 (ro Tryd.f43 6) false) (.ret)))
theorem body43 : Tryd.f43.body = some c43 := by kernel_rfl
theorem res43 : Tryd.f43.results.toList.mapM (trR Tryd.prog) = some [.t 6] := by kernel_rfl
theorem nt43 : Tryd.f43.ntmps = 36 := by kernel_rfl
theorem nm43 : (Tryd.f43.name == "runtime.NumGoroutine") = false := by kernel_rfl
def a43_0 : List AO := [⟨(some 6), none, .mv (.v (.bool false))⟩]
theorem tr43_0 : (ro Tryd.f43 0).toList.mapM (trO Tryd.prog 36 (ro Tryd.f43 0)) = some a43_0 := by kernel_rfl
def a43_1 : List AO := [⟨(some 7), none, .mv (.v (.int .i64 0))⟩]
theorem tr43_1 : (ro Tryd.f43 1).toList.mapM (trO Tryd.prog 36 (ro Tryd.f43 1)) = some a43_1 := by kernel_rfl
def a43_2 : List AO := [⟨(some 8), none, .mv (.t 7)⟩,
  ⟨(some 9), none, .mv (.t 0)⟩,
  ⟨(some 10), none, .slen (.t 9)⟩,
  ⟨(some 11), none, .bin .lss (.t 8) (.t 10)⟩]
theorem tr43_2 : (ro Tryd.f43 2).toList.mapM (trO Tryd.prog 36 (ro Tryd.f43 2)) = some a43_2 := by kernel_rfl
def a43_4 : List AO := [⟨(some 14), none, .mv (.t 0)⟩,
  ⟨(some 15), none, .mv (.t 7)⟩,
  ⟨(some 16), none, .sidx (.t 14) (.t 15)⟩,
  ⟨(some 17), none, .call 55 [(.t 16)]⟩,
  ⟨(some 18), none, .un .not (.t 17)⟩,
  ⟨(some 19), none, .mv (.t 18)⟩,
  ⟨(some 20), some (19, true), .mv (.t 0)⟩,
  ⟨(some 21), some (19, true), .mv (.t 7)⟩,
  ⟨(some 22), some (19, true), .sidx (.t 20) (.t 21)⟩,
  ⟨(some 23), some (19, true), .call 56 [(.t 22)]⟩,
  ⟨(some 24), some (19, true), .un .not (.t 23)⟩,
  ⟨(some 25), none, .pick (.t 19) (.t 24) (.v (.bool false))⟩]
theorem tr43_4 : (ro Tryd.f43 4).toList.mapM (trO Tryd.prog 36 (ro Tryd.f43 4)) = some a43_4 := by kernel_rfl
def a43_5 : List AO := [⟨(some 6), none, .mv (.v (.bool false))⟩]
theorem tr43_5 : (ro Tryd.f43 5).toList.mapM (trO Tryd.prog 36 (ro Tryd.f43 5)) = some a43_5 := by kernel_rfl
def a43_3 : List AO := [⟨(some 12), none, .mv (.t 7)⟩,
  ⟨(some 13), none, .bin .add (.t 12) (.v (.int .i64 1))⟩,
  ⟨(some 7), none, .mv (.t 13)⟩]
theorem tr43_3 : (ro Tryd.f43 3).toList.mapM (trO Tryd.prog 36 (ro Tryd.f43 3)) = some a43_3 := by kernel_rfl
def a43_6 : List AO := [⟨(some 26), none, .mv (.t 0)⟩,
  ⟨(some 27), none, .slen (.t 26)⟩,
  ⟨(some 28), none, .mv (.t 1)⟩,
  ⟨(some 29), none, .bin .geq (.t 27) (.t 28)⟩,
  ⟨(some 30), none, .mv (.t 29)⟩,
  ⟨(some 31), some (30, true), .mv (.t 0)⟩,
  ⟨(some 32), some (30, true), .slen (.t 31)⟩,
  ⟨(some 33), some (30, true), .mv (.t 2)⟩,
  ⟨(some 34), some (30, true), .bin .leq (.t 32) (.t 33)⟩,
  ⟨(some 35), none, .pick (.t 30) (.t 34) (.v (.bool false))⟩,
  ⟨(some 6), none, .mv (.t 35)⟩]
theorem tr43_6 : (ro Tryd.f43 6).toList.mapM (trO Tryd.prog 36 (ro Tryd.f43 6)) = some a43_6 := by kernel_rfl
/-- internal/bytealg.LastIndexByteString -/
noncomputable def c45 : Code := .seq (.region 0 (ro Tryd.f45 0) false) (.seq (.seq (.region 1 (ro Tryd.f45 1) false) (.block 0 (.loop (.seq (.seq (.region 2 (ro Tryd.f45 2) false) (.cond (.tmp 10) (.skip) (.exit 0))) (.seq (.block 1 (.seq (.region 4 (ro Tryd.f45 4) false) (.cond (.tmp 17) (.seq (.region 5 (ro Tryd.f45 5) false) (.ret)) (.skip)))) (.region 3 (ro Tryd.f45 3) false)))))) (.seq (.region 6 (ro Tryd.f45 6) false) (.ret)))
theorem body45 : Tryd.f45.body = some c45 := by kernel_rfl
theorem res45 : Tryd.f45.results.toList.mapM (trR Tryd.prog) = some [.t 4] := by kernel_rfl
theorem nt45 : Tryd.f45.ntmps = 19 := by kernel_rfl
theorem nm45 : (Tryd.f45.name == "runtime.NumGoroutine") = false := by kernel_rfl
def a45_0 : List AO := [⟨(some 4), none, .mv (.v (.int .i64 0))⟩]
theorem tr45_0 : (ro Tryd.f45 0).toList.mapM (trO Tryd.prog 19 (ro Tryd.f45 0)) = some a45_0 := by kernel_rfl
def a45_1 : List AO := [⟨(some 6), none, .mv (.t 0)⟩,
  ⟨(some 7), none, .slen (.t 6)⟩,
  ⟨(some 8), none, .bin .sub (.t 7) (.v (.int .i64 1))⟩,
  ⟨(some 5), none, .mv (.t 8)⟩]
theorem tr45_1 : (ro Tryd.f45 1).toList.mapM (trO Tryd.prog 19 (ro Tryd.f45 1)) = some a45_1 := by kernel_rfl
def a45_2 : List AO := [⟨(some 9), none, .mv (.t 5)⟩,
  ⟨(some 10), none, .bin .geq (.t 9) (.v (.int .i64 0))⟩]
theorem tr45_2 : (ro Tryd.f45 2).toList.mapM (trO Tryd.prog 19 (ro Tryd.f45 2)) = some a45_2 := by kernel_rfl
def a45_4 : List AO := [⟨(some 13), none, .mv (.t 0)⟩,
  ⟨(some 14), none, .mv (.t 5)⟩,
  ⟨(some 15), none, .sidx (.t 13) (.t 14)⟩,
  ⟨(some 16), none, .mv (.t 1)⟩,
  ⟨(some 17), none, .bin .eql (.t 15) (.t 16)⟩]
theorem tr45_4 : (ro Tryd.f45 4).toList.mapM (trO Tryd.prog 19 (ro Tryd.f45 4)) = some a45_4 := by kernel_rfl
def a45_5 : List AO := [⟨(some 18), none, .mv (.t 5)⟩,
  ⟨(some 4), none, .mv (.t 18)⟩]
theorem tr45_5 : (ro Tryd.f45 5).toList.mapM (trO Tryd.prog 19 (ro Tryd.f45 5)) = some a45_5 := by kernel_rfl
def a45_3 : List AO := [⟨(some 11), none, .mv (.t 5)⟩,
  ⟨(some 12), none, .bin .sub (.t 11) (.v (.int .i64 1))⟩,
  ⟨(some 5), none, .mv (.t 12)⟩]
theorem tr45_3 : (ro Tryd.f45 3).toList.mapM (trO Tryd.prog 19 (ro Tryd.f45 3)) = some a45_3 := by kernel_rfl
def a45_6 : List AO := [⟨(some 4), none, .mv (.v (.int .i64 (-1)))⟩]
theorem tr45_6 : (ro Tryd.f45 6).toList.mapM (trO Tryd.prog 19 (ro Tryd.f45 6)) = some a45_6 := by kernel_rfl
/-- strings.Index -/
noncomputable def c48 : Code := .seq (.region 0 (ro Tryd.f48 0) false) (.seq (.region 1 (ro Tryd.f48 1) false) (.ret))
theorem body48 : Tryd.f48.body = some c48 := by kernel_rfl
theorem res48 : Tryd.f48.results.toList.mapM (trR Tryd.prog) = some [.t 4] := by kernel_rfl
theorem nt48 : Tryd.f48.ntmps = 8 := by kernel_rfl
theorem nm48 : (Tryd.f48.name == "runtime.NumGoroutine") = false := by kernel_rfl
def a48_0 : List AO := [⟨(some 4), none, .mv (.v (.int .i64 0))⟩]
theorem tr48_0 : (ro Tryd.f48 0).toList.mapM (trO Tryd.prog 8 (ro Tryd.f48 0)) = some a48_0 := by kernel_rfl
def a48_1 : List AO := [⟨(some 5), none, .mv (.t 0)⟩,
  ⟨(some 6), none, .mv (.t 1)⟩,
  ⟨(some 7), none, .call 58 [(.t 5), (.t 6)]⟩,
  ⟨(some 4), none, .mv (.t 7)⟩]
theorem tr48_1 : (ro Tryd.f48 1).toList.mapM (trO Tryd.prog 8 (ro Tryd.f48 1)) = some a48_1 := by kernel_rfl
/-- strings.Split -/
noncomputable def c50 : Code := .seq (.region 0 (ro Tryd.f50 0) false) (.seq (.region 1 (ro Tryd.f50 1) false) (.ret))
theorem body50 : Tryd.f50.body = some c50 := by kernel_rfl
theorem res50 : Tryd.f50.results.toList.mapM (trR Tryd.prog) = some [.t 4] := by kernel_rfl
theorem nt50 : Tryd.f50.ntmps = 8 := by kernel_rfl
theorem nm50 : (Tryd.f50.name == "runtime.NumGoroutine") = false := by kernel_rfl
def a50_0 : List AO := [⟨(some 4), none, .mv (.v .nils)⟩]
theorem tr50_0 : (ro Tryd.f50 0).toList.mapM (trO Tryd.prog 8 (ro Tryd.f50 0)) = some a50_0 := by kernel_rfl
def a50_1 : List AO := [⟨(some 5), none, .mv (.t 0)⟩,
  ⟨(some 6), none, .mv (.t 1)⟩,
  ⟨(some 7), none, .call 60 [(.t 5), (.t 6), (.v (.int .i64 0)), (.v (.int .i64 (-1)))]⟩,
  ⟨(some 4), none, .mv (.t 7)⟩]
theorem tr50_1 : (ro Tryd.f50 1).toList.mapM (trO Tryd.prog 8 (ro Tryd.f50 1)) = some a50_1 := by kernel_rfl
/-- airline/text.every -/
noncomputable def c51 : Code := .seq (.region 0 (ro Tryd.f51 0) false) (.seq (.seq (.region 1 (ro Tryd.f51 1) false) (.block 0 (.loop (.seq (.region 2 (ro Tryd.f51 2) false) (.seq (.cond (.tmp 9) (.skip) (.exit 0)) (.seq (.block 1 (.seq (.region 3 (ro Tryd.f51 3) false) (.seq (.region 4 (ro Tryd.f51 4) false) (.cond (.tmp 16) (.seq (.region 5 (ro Tryd.f51 5) false) (.ret)) (.skip))))) (.region 6 (ro Tryd.f51 6) false))))))) (.seq (.region 7 (ro Tryd.f51 7) false) (.ret)))
theorem body51 : Tryd.f51.body = some c51 := by kernel_rfl
theorem res51 : Tryd.f51.results.toList.mapM (trR Tryd.prog) = some [.t 4] := by kernel_rfl
theorem nt51 : Tryd.f51.ntmps = 18 := by kernel_rfl
theorem nm51 : (Tryd.f51.name == "runtime.NumGoroutine") = false := by kernel_rfl
def a51_0 : List AO := [⟨(some 4), none, .mv (.v (.bool false))⟩]
theorem tr51_0 : (ro Tryd.f51 0).toList.mapM (trO Tryd.prog 18 (ro Tryd.f51 0)) = some a51_0 := by kernel_rfl
def a51_1 : List AO := [⟨(some 6), none, .mv (.t 0)⟩,
  ⟨(some 7), none, .slen (.t 6)⟩,
  ⟨(some 8), none, .mv (.v (.int .i64 0))⟩]
theorem tr51_1 : (ro Tryd.f51 1).toList.mapM (trO Tryd.prog 18 (ro Tryd.f51 1)) = some a51_1 := by kernel_rfl
def a51_2 : List AO := [⟨(some 9), none, .bin .lss (.t 8) (.t 7)⟩]
theorem tr51_2 : (ro Tryd.f51 2).toList.mapM (trO Tryd.prog 18 (ro Tryd.f51 2)) = some a51_2 := by kernel_rfl
def a51_3 : List AO := [⟨(some 10), none, .mv (.t 8)⟩,
  ⟨(some 5), none, .mv (.t 10)⟩]
theorem tr51_3 : (ro Tryd.f51 3).toList.mapM (trO Tryd.prog 18 (ro Tryd.f51 3)) = some a51_3 := by kernel_rfl
def a51_4 : List AO := [⟨(some 11), none, .mv (.t 1)⟩,
  ⟨(some 12), none, .mv (.t 0)⟩,
  ⟨(some 13), none, .mv (.t 5)⟩,
  ⟨(some 14), none, .sidx (.t 12) (.t 13)⟩,
  ⟨(some 15), none, .callv (.t 11) [(.t 14)]⟩,
  ⟨(some 16), none, .un .not (.t 15)⟩]
theorem tr51_4 : (ro Tryd.f51 4).toList.mapM (trO Tryd.prog 18 (ro Tryd.f51 4)) = some a51_4 := by kernel_rfl
def a51_5 : List AO := [⟨(some 4), none, .mv (.v (.bool false))⟩]
theorem tr51_5 : (ro Tryd.f51 5).toList.mapM (trO Tryd.prog 18 (ro Tryd.f51 5)) = some a51_5 := by kernel_rfl
def a51_6 : List AO := [⟨(some 17), none, .bin .add (.t 8) (.v (.int .i64 1))⟩,
  ⟨(some 8), none, .mv (.t 17)⟩]
theorem tr51_6 : (ro Tryd.f51 6).toList.mapM (trO Tryd.prog 18 (ro Tryd.f51 6)) = some a51_6 := by kernel_rfl
def a51_7 : List AO := [⟨(some 4), none, .mv (.v (.bool true))⟩]
theorem tr51_7 : (ro Tryd.f51 7).toList.mapM (trO Tryd.prog 18 (ro Tryd.f51 7)) = some a51_7 := by kernel_rfl
/-- airline/text.capital -/
noncomputable def c52 : Code := .seq (.region 0 (ro Tryd.f52 0) false) (.seq (.region 1 (ro Tryd.f52 1) false) (.ret))
theorem body52 : Tryd.f52.body = some c52 := by kernel_rfl
theorem res52 : Tryd.f52.results.toList.mapM (trR Tryd.prog) = some [.t 2] := by kernel_rfl
theorem nt52 : Tryd.f52.ntmps = 9 := by kernel_rfl
theorem nm52 : (Tryd.f52.name == "runtime.NumGoroutine") = false := by kernel_rfl
def a52_0 : List AO := [⟨(some 2), none, .mv (.v (.bool false))⟩]
theorem tr52_0 : (ro Tryd.f52 0).toList.mapM (trO Tryd.prog 9 (ro Tryd.f52 0)) = some a52_0 := by kernel_rfl
def a52_1 : List AO := [⟨(some 3), none, .mv (.t 0)⟩,
  ⟨(some 4), none, .bin .geq (.t 3) (.v (.int .u8 65))⟩,
  ⟨(some 5), none, .mv (.t 4)⟩,
  ⟨(some 6), some (5, true), .mv (.t 0)⟩,
  ⟨(some 7), some (5, true), .bin .leq (.t 6) (.v (.int .u8 90))⟩,
  ⟨(some 8), none, .pick (.t 5) (.t 7) (.v (.bool false))⟩,
  ⟨(some 2), none, .mv (.t 8)⟩]
theorem tr52_1 : (ro Tryd.f52 1).toList.mapM (trO Tryd.prog 9 (ro Tryd.f52 1)) = some a52_1 := by kernel_rfl
/-- airline/text.Code 1 -/
noncomputable def c53 : Code := .seq (.region 0 (ro Tryd.f53 0) false) (.seq (.region 1 (ro Tryd.f53 1) false) (.ret))
theorem body53 : Tryd.f53.body = some c53 := by kernel_rfl
theorem res53 : Tryd.f53.results.toList.mapM (trR Tryd.prog) = some [.t 2] := by kernel_rfl
theorem nt53 : Tryd.f53.ntmps = 9 := by kernel_rfl
theorem nm53 : (Tryd.f53.name == "runtime.NumGoroutine") = false := by kernel_rfl
def a53_0 : List AO := [⟨(some 2), none, .mv (.v (.bool false))⟩]
theorem tr53_0 : (ro Tryd.f53 0).toList.mapM (trO Tryd.prog 9 (ro Tryd.f53 0)) = some a53_0 := by kernel_rfl
def a53_1 : List AO := [⟨(some 3), none, .mv (.t 0)⟩,
  ⟨(some 4), none, .call 52 [(.t 3)]⟩,
  ⟨(some 5), none, .mv (.t 4)⟩,
  ⟨(some 6), some (5, false), .mv (.t 0)⟩,
  ⟨(some 7), some (5, false), .call 54 [(.t 6)]⟩,
  ⟨(some 8), none, .pick (.t 5) (.v (.bool true)) (.t 7)⟩,
  ⟨(some 2), none, .mv (.t 8)⟩]
theorem tr53_1 : (ro Tryd.f53 1).toList.mapM (trO Tryd.prog 9 (ro Tryd.f53 1)) = some a53_1 := by kernel_rfl
/-- airline/text.digit -/
noncomputable def c54 : Code := .seq (.region 0 (ro Tryd.f54 0) false) (.seq (.region 1 (ro Tryd.f54 1) false) (.ret))
theorem body54 : Tryd.f54.body = some c54 := by kernel_rfl
theorem res54 : Tryd.f54.results.toList.mapM (trR Tryd.prog) = some [.t 2] := by kernel_rfl
theorem nt54 : Tryd.f54.ntmps = 9 := by kernel_rfl
theorem nm54 : (Tryd.f54.name == "runtime.NumGoroutine") = false := by kernel_rfl
def a54_0 : List AO := [⟨(some 2), none, .mv (.v (.bool false))⟩]
theorem tr54_0 : (ro Tryd.f54 0).toList.mapM (trO Tryd.prog 9 (ro Tryd.f54 0)) = some a54_0 := by kernel_rfl
def a54_1 : List AO := [⟨(some 3), none, .mv (.t 0)⟩,
  ⟨(some 4), none, .bin .geq (.t 3) (.v (.int .u8 48))⟩,
  ⟨(some 5), none, .mv (.t 4)⟩,
  ⟨(some 6), some (5, true), .mv (.t 0)⟩,
  ⟨(some 7), some (5, true), .bin .leq (.t 6) (.v (.int .u8 57))⟩,
  ⟨(some 8), none, .pick (.t 5) (.t 7) (.v (.bool false))⟩,
  ⟨(some 2), none, .mv (.t 8)⟩]
theorem tr54_1 : (ro Tryd.f54 1).toList.mapM (trO Tryd.prog 9 (ro Tryd.f54 1)) = some a54_1 := by kernel_rfl
/-- airline/airlineref01.upper -/
noncomputable def c55 : Code := .seq (.region 0 (ro Tryd.f55 0) false) (.seq (.region 1 (ro Tryd.f55 1) false) (.ret))
theorem body55 : Tryd.f55.body = some c55 := by kernel_rfl
theorem res55 : Tryd.f55.results.toList.mapM (trR Tryd.prog) = some [.t 2] := by kernel_rfl
theorem nt55 : Tryd.f55.ntmps = 9 := by kernel_rfl
theorem nm55 : (Tryd.f55.name == "runtime.NumGoroutine") = false := by kernel_rfl
def a55_0 : List AO := [⟨(some 2), none, .mv (.v (.bool false))⟩]
theorem tr55_0 : (ro Tryd.f55 0).toList.mapM (trO Tryd.prog 9 (ro Tryd.f55 0)) = some a55_0 := by kernel_rfl
def a55_1 : List AO := [⟨(some 3), none, .mv (.t 0)⟩,
  ⟨(some 4), none, .bin .geq (.t 3) (.v (.int .u8 65))⟩,
  ⟨(some 5), none, .mv (.t 4)⟩,
  ⟨(some 6), some (5, true), .mv (.t 0)⟩,
  ⟨(some 7), some (5, true), .bin .leq (.t 6) (.v (.int .u8 90))⟩,
  ⟨(some 8), none, .pick (.t 5) (.t 7) (.v (.bool false))⟩,
  ⟨(some 2), none, .mv (.t 8)⟩]
theorem tr55_1 : (ro Tryd.f55 1).toList.mapM (trO Tryd.prog 9 (ro Tryd.f55 1)) = some a55_1 := by kernel_rfl
/-- airline/airlineref01.digit -/
noncomputable def c56 : Code := .seq (.region 0 (ro Tryd.f56 0) false) (.seq (.region 1 (ro Tryd.f56 1) false) (.ret))
theorem body56 : Tryd.f56.body = some c56 := by kernel_rfl
theorem res56 : Tryd.f56.results.toList.mapM (trR Tryd.prog) = some [.t 2] := by kernel_rfl
theorem nt56 : Tryd.f56.ntmps = 9 := by kernel_rfl
theorem nm56 : (Tryd.f56.name == "runtime.NumGoroutine") = false := by kernel_rfl
def a56_0 : List AO := [⟨(some 2), none, .mv (.v (.bool false))⟩]
theorem tr56_0 : (ro Tryd.f56 0).toList.mapM (trO Tryd.prog 9 (ro Tryd.f56 0)) = some a56_0 := by kernel_rfl
def a56_1 : List AO := [⟨(some 3), none, .mv (.t 0)⟩,
  ⟨(some 4), none, .bin .geq (.t 3) (.v (.int .u8 48))⟩,
  ⟨(some 5), none, .mv (.t 4)⟩,
  ⟨(some 6), some (5, true), .mv (.t 0)⟩,
  ⟨(some 7), some (5, true), .bin .leq (.t 6) (.v (.int .u8 57))⟩,
  ⟨(some 8), none, .pick (.t 5) (.t 7) (.v (.bool false))⟩,
  ⟨(some 2), none, .mv (.t 8)⟩]
theorem tr56_1 : (ro Tryd.f56 1).toList.mapM (trO Tryd.prog 9 (ro Tryd.f56 1)) = some a56_1 := by kernel_rfl
/-- strings.genSplit -/
noncomputable def c60 : Code := .seq (.region 0 (ro Tryd.f60 0) false) (.seq (.seq (.region 1 (ro Tryd.f60 1) false) (.cond (.tmp 13) (.seq (.region 2 (ro Tryd.f60 2) false) (.ret)) (.skip))) (.seq (.seq (.region 3 (ro Tryd.f60 3) false) (.cond (.tmp 15) (.seq (.region 4 (ro Tryd.f60 4) false) (.ret)) (.skip))) (.seq (.seq (.region 5 (ro Tryd.f60 5) false) (.cond (.tmp 20) (.region 6 (ro Tryd.f60 6) false) (.skip))) (.seq (.region 7 (ro Tryd.f60 7) false) (.seq (.region 8 (ro Tryd.f60 8) false) (.seq (.region 9 (ro Tryd.f60 9) false) (.seq (.region 10 (ro Tryd.f60 10) false) (.seq (.block 0 (.loop (.seq (.seq (.region 11 (ro Tryd.f60 11) false) (.cond (.tmp 36) (.skip) (.exit 0))) (.block 1 (.seq (.region 12 (ro Tryd.f60 12) false) (.seq (.seq (.region 13 (ro Tryd.f60 13) false) (.cond (.tmp 41) (.exit 0) (.skip))) (.seq (.region 14 (ro Tryd.f60 14) false) (.seq (.region 15 (ro Tryd.f60 15) false) (.region 16 (ro Tryd.f60 16) false))))))))) (.seq (.region 17 (ro Tryd.f60 17) false) (.seq (.region 18 (ro Tryd.f60 18) false) (.ret)))))))))))
theorem body60 : Tryd.f60.body = some c60 := by kernel_rfl
theorem res60 : Tryd.f60.results.toList.mapM (trR Tryd.prog) = some [.t 8] := by kernel_rfl
theorem nt60 : Tryd.f60.ntmps = 66 := by kernel_rfl
theorem nm60 : (Tryd.f60.name == "runtime.NumGoroutine") = false := by kernel_rfl
def a60_0 : List AO := [⟨(some 8), none, .mv (.v .nils)⟩]
theorem tr60_0 : (ro Tryd.f60 0).toList.mapM (trO Tryd.prog 66 (ro Tryd.f60 0)) = some a60_0 := by kernel_rfl
def a60_1 : List AO := [⟨(some 12), none, .mv (.t 3)⟩,
  ⟨(some 13), none, .bin .eql (.t 12) (.v (.int .i64 0))⟩]
theorem tr60_1 : (ro Tryd.f60 1).toList.mapM (trO Tryd.prog 66 (ro Tryd.f60 1)) = some a60_1 := by kernel_rfl
def a60_2 : List AO := [⟨(some 8), none, .mv (.v .nils)⟩]
theorem tr60_2 : (ro Tryd.f60 2).toList.mapM (trO Tryd.prog 66 (ro Tryd.f60 2)) = some a60_2 := by kernel_rfl
def a60_3 : List AO := [⟨(some 14), none, .mv (.t 1)⟩,
  ⟨(some 15), none, .bin .eql (.t 14) (.v (.str []))⟩]
theorem tr60_3 : (ro Tryd.f60 3).toList.mapM (trO Tryd.prog 66 (ro Tryd.f60 3)) = some a60_3 := by kernel_rfl
def a60_4 : List AO := [⟨(some 16), none, .mv (.t 0)⟩,
  ⟨(some 17), none, .mv (.t 3)⟩,
  ⟨(some 18), none, .call 68 [(.t 16), (.t 17)]⟩,
  ⟨(some 8), none, .mv (.t 18)⟩]
theorem tr60_4 : (ro Tryd.f60 4).toList.mapM (trO Tryd.prog 66 (ro Tryd.f60 4)) = some a60_4 := by kernel_rfl
def a60_5 : List AO := [⟨(some 19), none, .mv (.t 3)⟩,
  ⟨(some 20), none, .bin .lss (.t 19) (.v (.int .i64 0))⟩]
theorem tr60_5 : (ro Tryd.f60 5).toList.mapM (trO Tryd.prog 66 (ro Tryd.f60 5)) = some a60_5 := by kernel_rfl
def a60_6 : List AO := [⟨(some 21), none, .mv (.t 0)⟩,
  ⟨(some 22), none, .mv (.t 1)⟩,
  ⟨(some 23), none, .call 36 [(.t 21), (.t 22)]⟩,
  ⟨(some 24), none, .bin .add (.t 23) (.v (.int .i64 1))⟩,
  ⟨(some 3), none, .mv (.t 24)⟩]
theorem tr60_6 : (ro Tryd.f60 6).toList.mapM (trO Tryd.prog 66 (ro Tryd.f60 6)) = some a60_6 := by kernel_rfl
def a60_7 : List AO := [⟨(some 25), none, .mv (.t 3)⟩,
  ⟨(some 26), none, .mv (.t 0)⟩,
  ⟨(some 27), none, .slen (.t 26)⟩,
  ⟨(some 28), none, .bin .add (.t 27) (.v (.int .i64 1))⟩,
  ⟨(some 29), none, .mn (.t 25) (.t 28)⟩,
  ⟨(some 3), none, .mv (.t 29)⟩]
theorem tr60_7 : (ro Tryd.f60 7).toList.mapM (trO Tryd.prog 66 (ro Tryd.f60 7)) = some a60_7 := by kernel_rfl
def a60_8 : List AO := [⟨(some 30), none, .mv (.t 3)⟩,
  ⟨(some 31), none, .mks 9 1 16 [(.str [])] (.t 30) (.t 30)⟩,
  ⟨(some 9), none, .mv (.t 31)⟩]
theorem tr60_8 : (ro Tryd.f60 8).toList.mapM (trO Tryd.prog 66 (ro Tryd.f60 8)) = some a60_8 := by kernel_rfl
def a60_9 : List AO := [⟨(some 32), none, .mv (.t 3)⟩,
  ⟨(some 33), none, .bin .sub (.t 32) (.v (.int .i64 1))⟩,
  ⟨(some 3), none, .mv (.t 33)⟩]
theorem tr60_9 : (ro Tryd.f60 9).toList.mapM (trO Tryd.prog 66 (ro Tryd.f60 9)) = some a60_9 := by kernel_rfl
def a60_10 : List AO := [⟨(some 10), none, .mv (.v (.int .i64 0))⟩]
theorem tr60_10 : (ro Tryd.f60 10).toList.mapM (trO Tryd.prog 66 (ro Tryd.f60 10)) = some a60_10 := by kernel_rfl
def a60_11 : List AO := [⟨(some 34), none, .mv (.t 10)⟩,
  ⟨(some 35), none, .mv (.t 3)⟩,
  ⟨(some 36), none, .bin .lss (.t 34) (.t 35)⟩]
theorem tr60_11 : (ro Tryd.f60 11).toList.mapM (trO Tryd.prog 66 (ro Tryd.f60 11)) = some a60_11 := by kernel_rfl
def a60_12 : List AO := [⟨(some 37), none, .mv (.t 0)⟩,
  ⟨(some 38), none, .mv (.t 1)⟩,
  ⟨(some 39), none, .call 48 [(.t 37), (.t 38)]⟩,
  ⟨(some 11), none, .mv (.t 39)⟩]
theorem tr60_12 : (ro Tryd.f60 12).toList.mapM (trO Tryd.prog 66 (ro Tryd.f60 12)) = some a60_12 := by kernel_rfl
def a60_13 : List AO := [⟨(some 40), none, .mv (.t 11)⟩,
  ⟨(some 41), none, .bin .lss (.t 40) (.v (.int .i64 0))⟩]
theorem tr60_13 : (ro Tryd.f60 13).toList.mapM (trO Tryd.prog 66 (ro Tryd.f60 13)) = some a60_13 := by kernel_rfl
def a60_14 : List AO := [⟨(some 42), none, .mv (.t 9)⟩,
  ⟨(some 43), none, .mv (.t 10)⟩,
  ⟨(some 44), none, .mv (.t 0)⟩,
  ⟨(some 45), none, .mv (.t 11)⟩,
  ⟨(some 46), none, .mv (.t 2)⟩,
  ⟨(some 47), none, .bin .add (.t 45) (.t 46)⟩,
  ⟨(some 48), none, .ssub none (some (.t 47)) (.t 44)⟩,
  ⟨(some 49), none, .idx 1 (.t 42) (.t 43)⟩,
  ⟨none, none, .store 1 (.t 49) (.t 48)⟩]
theorem tr60_14 : (ro Tryd.f60 14).toList.mapM (trO Tryd.prog 66 (ro Tryd.f60 14)) = some a60_14 := by kernel_rfl
def a60_15 : List AO := [⟨(some 50), none, .mv (.t 0)⟩,
  ⟨(some 51), none, .mv (.t 11)⟩,
  ⟨(some 52), none, .mv (.t 1)⟩,
  ⟨(some 53), none, .slen (.t 52)⟩,
  ⟨(some 54), none, .bin .add (.t 51) (.t 53)⟩,
  ⟨(some 55), none, .ssub (some (.t 54)) none (.t 50)⟩,
  ⟨(some 0), none, .mv (.t 55)⟩]
theorem tr60_15 : (ro Tryd.f60 15).toList.mapM (trO Tryd.prog 66 (ro Tryd.f60 15)) = some a60_15 := by kernel_rfl
def a60_16 : List AO := [⟨(some 56), none, .mv (.t 10)⟩,
  ⟨(some 57), none, .bin .add (.t 56) (.v (.int .i64 1))⟩,
  ⟨(some 10), none, .mv (.t 57)⟩]
theorem tr60_16 : (ro Tryd.f60 16).toList.mapM (trO Tryd.prog 66 (ro Tryd.f60 16)) = some a60_16 := by kernel_rfl
def a60_17 : List AO := [⟨(some 58), none, .mv (.t 9)⟩,
  ⟨(some 59), none, .mv (.t 10)⟩,
  ⟨(some 60), none, .mv (.t 0)⟩,
  ⟨(some 61), none, .idx 1 (.t 58) (.t 59)⟩,
  ⟨none, none, .store 1 (.t 61) (.t 60)⟩]
theorem tr60_17 : (ro Tryd.f60 17).toList.mapM (trO Tryd.prog 66 (ro Tryd.f60 17)) = some a60_17 := by kernel_rfl
def a60_18 : List AO := [⟨(some 62), none, .mv (.t 9)⟩,
  ⟨(some 63), none, .mv (.t 10)⟩,
  ⟨(some 64), none, .bin .add (.t 63) (.v (.int .i64 1))⟩,
  ⟨(some 65), none, .sub 1 none (some (.t 64)) none (.t 62)⟩,
  ⟨(some 8), none, .mv (.t 65)⟩]
theorem tr60_18 : (ro Tryd.f60 18).toList.mapM (trO Tryd.prog 66 (ro Tryd.f60 18)) = some a60_18 := by kernel_rfl
end Go.Proofs.YtbakkdnhbeldcaaDoor
