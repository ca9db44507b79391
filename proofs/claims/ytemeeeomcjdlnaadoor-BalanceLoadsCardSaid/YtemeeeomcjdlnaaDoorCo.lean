/- The code of the functions, region by region, as abstract operations. -/
import Derived.Test.YtemeeeomcjdlnaaDoorProg
import Derived.Test.YtemeeeomcjdlnaaDoorAv21
namespace Go.Proofs.YtemeeeomcjdlnaaDoor
open Go Go.RowKit
def findR : Code → Nat → Option (Array Oper)
  | .region i ops _, k => if i = k then some ops else none
  | .seq a b, k => (findR a k).or (findR b k)
  | .cond _ a b, k => (findR a k).or (findR b k)
  | .block _ c, k => findR c k
  | .loop c, k => findR c k
  | .scope c, k => findR c k
  | _, _ => none
def ro (f : Func) (k : Nat) : Array Oper := ((f.body.bind fun c => findR c k).getD #[])
theorem mixed : Tryd.prog.follows .mixedOrders = true := by kernel_rfl
/-- airline/airlinelaw49.BalanceChecks -/
noncomputable def c3 : Code := .seq (.region 0 (ro Tryd.f3 0) false) (.seq (.seq (.region 1 (ro Tryd.f3 1) false) (.cond (.tmp 4) (.seq (.region 2 (ro Tryd.f3 2) false) (.ret)) (.skip))) (.seq (.region 3 (ro Tryd.f3 3) true) (.ret)))
theorem body3 : Tryd.f3.body = some c3 := by kernel_rfl
theorem res3 : Tryd.f3.results.toList.mapM (trR Tryd.prog) = some [.t 2] := by kernel_rfl
theorem nt3 : Tryd.f3.ntmps = 14 := by kernel_rfl
theorem nm3 : (Tryd.f3.name == "runtime.NumGoroutine") = false := by kernel_rfl
def a3_0 : List AO := [⟨(some 1), none, .box 25 (.t 0)⟩,
  ⟨(some 2), none, .mv (.v (.bool false))⟩]
theorem tr3_0 : (ro Tryd.f3 0).toList.mapM (trO Tryd.prog 14 (ro Tryd.f3 0)) = some a3_0 := by kernel_rfl
def a3_1 : List AO := [⟨(some 3), none, .load (some 4) (.t 1)⟩,
  ⟨(some 4), none, .call 8 [(.t 3)]⟩]
theorem tr3_1 : (ro Tryd.f3 1).toList.mapM (trO Tryd.prog 14 (ro Tryd.f3 1)) = some a3_1 := by kernel_rfl
def a3_2 : List AO := [⟨(some 5), none, .call 9 []⟩,
  ⟨(some 2), none, .mv (.t 5)⟩]
theorem tr3_2 : (ro Tryd.f3 2).toList.mapM (trO Tryd.prog 14 (ro Tryd.f3 2)) = some a3_2 := by kernel_rfl
def a3_3 : List AO := [⟨(some 6), none, .load (some 4) (.t 1)⟩,
  ⟨(some 7), none, .call 11 [(.t 6)]⟩,
  ⟨(some 8), none, .load (some 4) (.t 1)⟩,
  ⟨(some 9), none, .call 12 [(.t 8)]⟩,
  ⟨(some 10), none, .call 10 [(.t 7), (.t 9)]⟩,
  ⟨(some 11), none, .mv (.t 10)⟩,
  ⟨(some 12), some (11, true), .call 9 []⟩,
  ⟨(some 13), none, .pick (.t 11) (.t 12) (.v (.bool false))⟩,
  ⟨(some 2), none, .mv (.t 13)⟩]
theorem tr3_3 : (ro Tryd.f3 3).toList.mapM (trO Tryd.prog 14 (ro Tryd.f3 3)) = some a3_3 := by kernel_rfl
def d3_3 : List (List Nat) := [[], [0], [], [0, 1, 2], [0, 1, 2, 3], [0, 1, 2, 3, 4], [0, 1, 2, 3, 4, 5], [0, 1, 2, 3, 4, 5, 6], [0, 1, 2, 3, 4, 5, 6, 7]]
theorem ok3_3 : okReg (ro Tryd.f3 3) a3_3 d3_3 = true := by kernel_rfl
/-- airline/airlinelaw49.BalanceFits -/
noncomputable def c4 : Code := .seq (.region 0 (ro Tryd.f4 0) false) (.seq (.seq (.region 1 (ro Tryd.f4 1) false) (.cond (.tmp 21) (.seq (.region 2 (ro Tryd.f4 2) false) (.ret)) (.skip))) (.seq (.region 3 (ro Tryd.f4 3) false) (.seq (.region 4 (ro Tryd.f4 4) false) (.seq (.region 5 (ro Tryd.f4 5) true) (.ret)))))
theorem body4 : Tryd.f4.body = some c4 := by kernel_rfl
theorem res4 : Tryd.f4.results.toList.mapM (trR Tryd.prog) = some [.t 4] := by kernel_rfl
theorem nt4 : Tryd.f4.ntmps = 55 := by kernel_rfl
theorem nm4 : (Tryd.f4.name == "runtime.NumGoroutine") = false := by kernel_rfl
def a4_0 : List AO := [⟨(some 2), none, .box 25 (.t 0)⟩,
  ⟨(some 4), none, .mv (.v (.bool false))⟩]
theorem tr4_0 : (ro Tryd.f4 0).toList.mapM (trO Tryd.prog 55 (ro Tryd.f4 0)) = some a4_0 := by kernel_rfl
def a4_1 : List AO := [⟨(some 9), none, .load (some 4) (.t 2)⟩,
  ⟨(some 10), none, .call 8 [(.t 9)]⟩,
  ⟨(some 11), none, .mv (.t 10)⟩,
  ⟨(some 12), some (11, false), .load (some 4) (.t 2)⟩,
  ⟨(some 13), some (11, false), .call 12 [(.t 12)]⟩,
  ⟨(some 14), some (11, false), .len (.t 13)⟩,
  ⟨(some 15), some (11, false), .bin .gtr (.t 14) (.v (.int .i64 0))⟩,
  ⟨(some 16), none, .pick (.t 11) (.v (.bool true)) (.t 15)⟩,
  ⟨(some 17), none, .mv (.t 16)⟩,
  ⟨(some 18), some (17, false), .mv (.t 1)⟩,
  ⟨(some 19), some (17, false), .len (.t 18)⟩,
  ⟨(some 20), some (17, false), .bin .gtr (.t 19) (.v (.int .i64 30))⟩,
  ⟨(some 21), none, .pick (.t 17) (.v (.bool true)) (.t 20)⟩]
theorem tr4_1 : (ro Tryd.f4 1).toList.mapM (trO Tryd.prog 55 (ro Tryd.f4 1)) = some a4_1 := by kernel_rfl
def a4_2 : List AO := [⟨(some 22), none, .call 9 []⟩,
  ⟨(some 4), none, .mv (.t 22)⟩]
theorem tr4_2 : (ro Tryd.f4 2).toList.mapM (trO Tryd.prog 55 (ro Tryd.f4 2)) = some a4_2 := by kernel_rfl
def a4_3 : List AO := [⟨(some 24), none, .load (some 4) (.t 2)⟩,
  ⟨(some 25), none, .mv (.t 1)⟩,
  ⟨(some 26), none, .call 13 [(.t 24), (.t 25)]⟩,
  ⟨(some 23), none, .mv (.t 26)⟩,
  ⟨(some 27), none, .ext 0 (.t 23)⟩,
  ⟨(some 28), none, .ext 1 (.t 23)⟩,
  ⟨(some 5), none, .alloc 33 [(.int .i64 0), (.int .i64 0)]⟩,
  ⟨none, none, .store 2 (.t 5) (.t 27)⟩,
  ⟨(some 6), none, .mv (.t 28)⟩]
theorem tr4_3 : (ro Tryd.f4 3).toList.mapM (trO Tryd.prog 55 (ro Tryd.f4 3)) = some a4_3 := by kernel_rfl
def a4_4 : List AO := [⟨(some 30), none, .load (some 4) (.t 2)⟩,
  ⟨(some 31), none, .mv (.t 1)⟩,
  ⟨(some 32), none, .call 14 [(.t 30), (.t 31)]⟩,
  ⟨(some 29), none, .mv (.t 32)⟩,
  ⟨(some 33), none, .ext 0 (.t 29)⟩,
  ⟨(some 34), none, .ext 1 (.t 29)⟩,
  ⟨(some 7), none, .alloc 33 [(.int .i64 0), (.int .i64 0)]⟩,
  ⟨none, none, .store 2 (.t 7) (.t 33)⟩,
  ⟨(some 8), none, .mv (.t 34)⟩]
theorem tr4_4 : (ro Tryd.f4 4).toList.mapM (trO Tryd.prog 55 (ro Tryd.f4 4)) = some a4_4 := by kernel_rfl
def a4_5 : List AO := [⟨(some 35), none, .load (some 2) (.t 5)⟩,
  ⟨(some 36), none, .load (some 2) (.t 7)⟩,
  ⟨(some 37), none, .bina [.i .i64, .i .i64] .eql (.t 35) (.t 36)⟩,
  ⟨(some 38), none, .mv (.t 37)⟩,
  ⟨(some 39), some (38, true), .mv (.t 6)⟩,
  ⟨(some 40), some (38, true), .mv (.t 8)⟩,
  ⟨(some 41), some (38, true), .bin .eql (.t 39) (.t 40)⟩,
  ⟨(some 42), none, .pick (.t 38) (.t 41) (.v (.bool false))⟩,
  ⟨(some 43), none, .mv (.t 42)⟩,
  ⟨(some 44), some (43, true), .load (some 4) (.t 2)⟩,
  ⟨(some 45), some (43, true), .mv (.t 1)⟩,
  ⟨(some 46), some (43, true), .call 15 [(.t 44), (.t 45)]⟩,
  ⟨(some 47), some (43, true), .load (some 4) (.t 2)⟩,
  ⟨(some 48), some (43, true), .mv (.t 1)⟩,
  ⟨(some 49), some (43, true), .call 16 [(.t 47), (.t 48)]⟩,
  ⟨(some 50), some (43, true), .bin .eql (.t 46) (.t 49)⟩,
  ⟨(some 51), none, .pick (.t 43) (.t 50) (.v (.bool false))⟩,
  ⟨(some 52), none, .mv (.t 51)⟩,
  ⟨(some 53), some (52, true), .call 9 []⟩,
  ⟨(some 54), none, .pick (.t 52) (.t 53) (.v (.bool false))⟩,
  ⟨(some 4), none, .mv (.t 54)⟩]
theorem tr4_5 : (ro Tryd.f4 5).toList.mapM (trO Tryd.prog 55 (ro Tryd.f4 5)) = some a4_5 := by kernel_rfl
def d4_5 : List (List Nat) := [[], [], [0, 1], [0, 1, 2], [0, 1, 2, 3], [0, 1, 2, 3], [0, 1, 2, 3, 4, 5], [0, 1, 2, 3, 4, 5, 6], [0, 1, 2, 3, 4, 5, 6, 7], [0, 1, 2, 3, 4, 5, 6, 7, 8], [0, 1, 2, 3, 4, 5, 6, 7, 8], [0, 1, 2, 3, 4, 5, 6, 7, 8, 9, 10], [0, 1, 2, 3, 4, 5, 6, 7, 8], [0, 1, 2, 3, 4, 5, 6, 7, 8], [0, 1, 2, 3, 4, 5, 6, 7, 8, 9, 10, 11, 12, 13], [0, 1, 2, 3, 4, 5, 6, 7, 8, 9, 10, 11, 12, 13, 14], [0, 1, 2, 3, 4, 5, 6, 7, 8, 9, 10, 11, 12, 13, 14, 15], [0, 1, 2, 3, 4, 5, 6, 7, 8, 9, 10, 11, 12, 13, 14, 15, 16], [0, 1, 2, 3, 4, 5, 6, 7, 8, 9, 10, 11, 12, 13, 14, 15, 16, 17], [0, 1, 2, 3, 4, 5, 6, 7, 8, 9, 10, 11, 12, 13, 14, 15, 16, 17, 18], [0, 1, 2, 3, 4, 5, 6, 7, 8, 9, 10, 11, 12, 13, 14, 15, 16, 17, 18, 19]]
theorem ok4_5 : okReg (ro Tryd.f4 5) a4_5 d4_5 = true := by kernel_rfl
/-- airline/airlinelaw49.BalanceInside -/
noncomputable def c5 : Code := .seq (.region 0 (ro Tryd.f5 0) false) (.seq (.seq (.region 1 (ro Tryd.f5 1) false) (.cond (.tmp 12) (.seq (.region 2 (ro Tryd.f5 2) false) (.ret)) (.skip))) (.seq (.region 3 (ro Tryd.f5 3) true) (.ret)))
theorem body5 : Tryd.f5.body = some c5 := by kernel_rfl
theorem res5 : Tryd.f5.results.toList.mapM (trR Tryd.prog) = some [.t 4] := by kernel_rfl
theorem nt5 : Tryd.f5.ntmps = 26 := by kernel_rfl
theorem nm5 : (Tryd.f5.name == "runtime.NumGoroutine") = false := by kernel_rfl
def a5_0 : List AO := [⟨(some 2), none, .box 25 (.t 0)⟩,
  ⟨(some 3), none, .box 33 (.t 1)⟩,
  ⟨(some 4), none, .mv (.v (.bool false))⟩]
theorem tr5_0 : (ro Tryd.f5 0).toList.mapM (trO Tryd.prog 26 (ro Tryd.f5 0)) = some a5_0 := by kernel_rfl
def a5_1 : List AO := [⟨(some 5), none, .load (some 4) (.t 2)⟩,
  ⟨(some 6), none, .call 8 [(.t 5)]⟩,
  ⟨(some 7), none, .mv (.t 6)⟩,
  ⟨(some 8), some (7, false), .load (some 4) (.t 2)⟩,
  ⟨(some 9), some (7, false), .call 12 [(.t 8)]⟩,
  ⟨(some 10), some (7, false), .len (.t 9)⟩,
  ⟨(some 11), some (7, false), .bin .gtr (.t 10) (.v (.int .i64 0))⟩,
  ⟨(some 12), none, .pick (.t 7) (.v (.bool true)) (.t 11)⟩]
theorem tr5_1 : (ro Tryd.f5 1).toList.mapM (trO Tryd.prog 26 (ro Tryd.f5 1)) = some a5_1 := by kernel_rfl
def a5_2 : List AO := [⟨(some 13), none, .call 9 []⟩,
  ⟨(some 4), none, .mv (.t 13)⟩]
theorem tr5_2 : (ro Tryd.f5 2).toList.mapM (trO Tryd.prog 26 (ro Tryd.f5 2)) = some a5_2 := by kernel_rfl
def a5_3 : List AO := [⟨(some 14), none, .fld 3 (.t 2)⟩,
  ⟨(some 15), none, .load none (.t 14)⟩,
  ⟨(some 16), none, .load (some 2) (.t 3)⟩,
  ⟨(some 17), none, .call 17 [(.t 15), (.t 16)]⟩,
  ⟨(some 18), none, .fld 3 (.t 2)⟩,
  ⟨(some 19), none, .load none (.t 18)⟩,
  ⟨(some 20), none, .load (some 2) (.t 3)⟩,
  ⟨(some 21), none, .call 18 [(.t 19), (.t 20)]⟩,
  ⟨(some 22), none, .binb .eql (.t 17) (.t 21)⟩,
  ⟨(some 23), none, .mv (.t 22)⟩,
  ⟨(some 24), some (23, true), .call 9 []⟩,
  ⟨(some 25), none, .pick (.t 23) (.t 24) (.v (.bool false))⟩,
  ⟨(some 4), none, .mv (.t 25)⟩]
theorem tr5_3 : (ro Tryd.f5 3).toList.mapM (trO Tryd.prog 26 (ro Tryd.f5 3)) = some a5_3 := by kernel_rfl
def d5_3 : List (List Nat) := [[], [0], [], [0, 1, 2], [], [4], [], [0, 1, 2, 3, 4, 5, 6], [0, 1, 2, 3, 4, 5, 6, 7], [0, 1, 2, 3, 4, 5, 6, 7, 8], [0, 1, 2, 3, 4, 5, 6, 7, 8, 9], [0, 1, 2, 3, 4, 5, 6, 7, 8, 9, 10], [0, 1, 2, 3, 4, 5, 6, 7, 8, 9, 10, 11]]
theorem ok5_3 : okReg (ro Tryd.f5 3) a5_3 d5_3 = true := by kernel_rfl
/-- airline/airlinelaw49.BalanceMiddles -/
noncomputable def c6 : Code := .seq (.region 0 (ro Tryd.f6 0) false) (.seq (.seq (.region 1 (ro Tryd.f6 1) false) (.cond (.tmp 15) (.seq (.region 2 (ro Tryd.f6 2) false) (.ret)) (.skip))) (.seq (.seq (.region 3 (ro Tryd.f6 3) false) (.block 0 (.loop (.seq (.seq (.region 4 (ro Tryd.f6 4) false) (.cond (.tmp 21) (.skip) (.exit 0))) (.seq (.block 1 (.seq (.region 6 (ro Tryd.f6 6) true) (.cond (.tmp 32) (.seq (.region 7 (ro Tryd.f6 7) false) (.ret)) (.skip)))) (.region 5 (ro Tryd.f6 5) false)))))) (.seq (.seq (.region 8 (ro Tryd.f6 8) false) (.cond (.tmp 62) (.seq (.region 9 (ro Tryd.f6 9) false) (.ret)) (.skip))) (.seq (.region 10 (ro Tryd.f6 10) false) (.ret)))))
theorem body6 : Tryd.f6.body = some c6 := by kernel_rfl
theorem res6 : Tryd.f6.results.toList.mapM (trR Tryd.prog) = some [.t 6] := by kernel_rfl
theorem nt6 : Tryd.f6.ntmps = 83 := by kernel_rfl
theorem nm6 : (Tryd.f6.name == "runtime.NumGoroutine") = false := by kernel_rfl
def a6_0 : List AO := [⟨(some 3), none, .box 25 (.t 0)⟩,
  ⟨(some 4), none, .box 33 (.t 1)⟩,
  ⟨(some 5), none, .box 33 (.t 2)⟩,
  ⟨(some 6), none, .mv (.v (.bool false))⟩]
theorem tr6_0 : (ro Tryd.f6 0).toList.mapM (trO Tryd.prog 83 (ro Tryd.f6 0)) = some a6_0 := by kernel_rfl
def a6_1 : List AO := [⟨(some 8), none, .load (some 4) (.t 3)⟩,
  ⟨(some 9), none, .call 8 [(.t 8)]⟩,
  ⟨(some 10), none, .mv (.t 9)⟩,
  ⟨(some 11), some (10, false), .load (some 4) (.t 3)⟩,
  ⟨(some 12), some (10, false), .call 12 [(.t 11)]⟩,
  ⟨(some 13), some (10, false), .len (.t 12)⟩,
  ⟨(some 14), some (10, false), .bin .gtr (.t 13) (.v (.int .i64 0))⟩,
  ⟨(some 15), none, .pick (.t 10) (.v (.bool true)) (.t 14)⟩]
theorem tr6_1 : (ro Tryd.f6 1).toList.mapM (trO Tryd.prog 83 (ro Tryd.f6 1)) = some a6_1 := by kernel_rfl
def a6_2 : List AO := [⟨(some 16), none, .call 9 []⟩,
  ⟨(some 6), none, .mv (.t 16)⟩]
theorem tr6_2 : (ro Tryd.f6 2).toList.mapM (trO Tryd.prog 83 (ro Tryd.f6 2)) = some a6_2 := by kernel_rfl
def a6_3 : List AO := [⟨(some 7), none, .mv (.v (.int .i64 0))⟩]
theorem tr6_3 : (ro Tryd.f6 3).toList.mapM (trO Tryd.prog 83 (ro Tryd.f6 3)) = some a6_3 := by kernel_rfl
def a6_4 : List AO := [⟨(some 17), none, .mv (.t 7)⟩,
  ⟨(some 18), none, .fld 3 (.t 3)⟩,
  ⟨(some 19), none, .load none (.t 18)⟩,
  ⟨(some 20), none, .len (.t 19)⟩,
  ⟨(some 21), none, .bin .lss (.t 17) (.t 20)⟩]
theorem tr6_4 : (ro Tryd.f6 4).toList.mapM (trO Tryd.prog 83 (ro Tryd.f6 4)) = some a6_4 := by kernel_rfl
def a6_6 : List AO := [⟨(some 24), none, .fld 3 (.t 3)⟩,
  ⟨(some 25), none, .load none (.t 24)⟩,
  ⟨(some 26), none, .fld 3 (.t 3)⟩,
  ⟨(some 27), none, .load none (.t 26)⟩,
  ⟨(some 28), none, .mv (.t 7)⟩,
  ⟨(some 29), none, .idx 2 (.t 27) (.t 28)⟩,
  ⟨(some 30), none, .load (some 2) (.t 29)⟩,
  ⟨(some 31), none, .call 17 [(.t 25), (.t 30)]⟩,
  ⟨(some 32), none, .un .not (.t 31)⟩]
theorem tr6_6 : (ro Tryd.f6 6).toList.mapM (trO Tryd.prog 83 (ro Tryd.f6 6)) = some a6_6 := by kernel_rfl
def d6_6 : List (List Nat) := [[], [0], [], [2], [], [2, 3, 4], [2, 3, 4, 5], [0, 1, 2, 3, 4, 5, 6], [0, 1, 2, 3, 4, 5, 6, 7]]
theorem ok6_6 : okReg (ro Tryd.f6 6) a6_6 d6_6 = true := by kernel_rfl
def a6_7 : List AO := [⟨(some 6), none, .mv (.v (.bool false))⟩]
theorem tr6_7 : (ro Tryd.f6 7).toList.mapM (trO Tryd.prog 83 (ro Tryd.f6 7)) = some a6_7 := by kernel_rfl
def a6_5 : List AO := [⟨(some 22), none, .mv (.t 7)⟩,
  ⟨(some 23), none, .bin .add (.t 22) (.v (.int .i64 1))⟩,
  ⟨(some 7), none, .mv (.t 23)⟩]
theorem tr6_5 : (ro Tryd.f6 5).toList.mapM (trO Tryd.prog 83 (ro Tryd.f6 5)) = some a6_5 := by kernel_rfl
def a6_8 : List AO := [⟨(some 33), none, .fld 3 (.t 3)⟩,
  ⟨(some 34), none, .load none (.t 33)⟩,
  ⟨(some 35), none, .load (some 2) (.t 4)⟩,
  ⟨(some 36), none, .call 17 [(.t 34), (.t 35)]⟩,
  ⟨(some 37), none, .un .not (.t 36)⟩,
  ⟨(some 38), none, .mv (.t 37)⟩,
  ⟨(some 39), some (38, false), .fld 3 (.t 3)⟩,
  ⟨(some 40), some (38, false), .load none (.t 39)⟩,
  ⟨(some 41), some (38, false), .load (some 2) (.t 5)⟩,
  ⟨(some 42), some (38, false), .call 17 [(.t 40), (.t 41)]⟩,
  ⟨(some 43), some (38, false), .un .not (.t 42)⟩,
  ⟨(some 44), none, .pick (.t 38) (.v (.bool true)) (.t 43)⟩,
  ⟨(some 45), none, .mv (.t 44)⟩,
  ⟨(some 46), some (45, false), .fld 0 (.t 4)⟩,
  ⟨(some 47), some (45, false), .load none (.t 46)⟩,
  ⟨(some 48), some (45, false), .fld 0 (.t 5)⟩,
  ⟨(some 49), some (45, false), .load none (.t 48)⟩,
  ⟨(some 50), some (45, false), .bin .add (.t 47) (.t 49)⟩,
  ⟨(some 51), some (45, false), .bin .rem (.t 50) (.v (.int .i64 2))⟩,
  ⟨(some 52), some (45, false), .bin .neq (.t 51) (.v (.int .i64 0))⟩,
  ⟨(some 53), none, .pick (.t 45) (.v (.bool true)) (.t 52)⟩,
  ⟨(some 54), none, .mv (.t 53)⟩,
  ⟨(some 55), some (54, false), .fld 1 (.t 4)⟩,
  ⟨(some 56), some (54, false), .load none (.t 55)⟩,
  ⟨(some 57), some (54, false), .fld 1 (.t 5)⟩,
  ⟨(some 58), some (54, false), .load none (.t 57)⟩,
  ⟨(some 59), some (54, false), .bin .add (.t 56) (.t 58)⟩,
  ⟨(some 60), some (54, false), .bin .rem (.t 59) (.v (.int .i64 2))⟩,
  ⟨(some 61), some (54, false), .bin .neq (.t 60) (.v (.int .i64 0))⟩,
  ⟨(some 62), none, .pick (.t 54) (.v (.bool true)) (.t 61)⟩]
theorem tr6_8 : (ro Tryd.f6 8).toList.mapM (trO Tryd.prog 83 (ro Tryd.f6 8)) = some a6_8 := by kernel_rfl
def a6_9 : List AO := [⟨(some 63), none, .call 9 []⟩,
  ⟨(some 6), none, .mv (.t 63)⟩]
theorem tr6_9 : (ro Tryd.f6 9).toList.mapM (trO Tryd.prog 83 (ro Tryd.f6 9)) = some a6_9 := by kernel_rfl
def a6_10 : List AO := [⟨(some 64), none, .fld 3 (.t 3)⟩,
  ⟨(some 65), none, .load none (.t 64)⟩,
  ⟨(some 66), none, .fld 0 (.t 4)⟩,
  ⟨(some 67), none, .load none (.t 66)⟩,
  ⟨(some 68), none, .fld 0 (.t 5)⟩,
  ⟨(some 69), none, .load none (.t 68)⟩,
  ⟨(some 70), none, .bin .add (.t 67) (.t 69)⟩,
  ⟨(some 71), none, .bin .quo (.t 70) (.v (.int .i64 2))⟩,
  ⟨(some 72), none, .fld 1 (.t 4)⟩,
  ⟨(some 73), none, .load none (.t 72)⟩,
  ⟨(some 74), none, .fld 1 (.t 5)⟩,
  ⟨(some 75), none, .load none (.t 74)⟩,
  ⟨(some 76), none, .bin .add (.t 73) (.t 75)⟩,
  ⟨(some 77), none, .bin .quo (.t 76) (.v (.int .i64 2))⟩,
  ⟨(some 78), none, .build [(.int .i64 0), (.int .i64 0)] [(0, 1, (.t 71)), (1, 1, (.t 77))]⟩,
  ⟨(some 79), none, .call 17 [(.t 65), (.t 78)]⟩,
  ⟨(some 80), none, .mv (.t 79)⟩,
  ⟨(some 81), some (80, true), .call 9 []⟩,
  ⟨(some 82), none, .pick (.t 80) (.t 81) (.v (.bool false))⟩,
  ⟨(some 6), none, .mv (.t 82)⟩]
theorem tr6_10 : (ro Tryd.f6 10).toList.mapM (trO Tryd.prog 83 (ro Tryd.f6 10)) = some a6_10 := by kernel_rfl
/-- airline/airlinelaw49.BalanceLoads -/
noncomputable def c7 : Code := .seq (.region 0 (ro Tryd.f7 0) false) (.seq (.seq (.region 1 (ro Tryd.f7 1) false) (.cond (.tmp 31) (.seq (.region 2 (ro Tryd.f7 2) false) (.ret)) (.skip))) (.seq (.region 3 (ro Tryd.f7 3) false) (.seq (.seq (.region 4 (ro Tryd.f7 4) false) (.cond (.tmp 43) (.seq (.region 5 (ro Tryd.f7 5) false) (.ret)) (.skip))) (.seq (.seq (.region 6 (ro Tryd.f7 6) false) (.cond (.tmp 45) (.seq (.region 7 (ro Tryd.f7 7) false) (.ret)) (.skip))) (.seq (.region 8 (ro Tryd.f7 8) false) (.seq (.region 9 (ro Tryd.f7 9) false) (.ret)))))))
theorem body7 : Tryd.f7.body = some c7 := by kernel_rfl
theorem res7 : Tryd.f7.results.toList.mapM (trR Tryd.prog) = some [.t 4] := by kernel_rfl
theorem nt7 : Tryd.f7.ntmps = 69 := by kernel_rfl
theorem nm7 : (Tryd.f7.name == "runtime.NumGoroutine") = false := by kernel_rfl
def a7_0 : List AO := [⟨(some 2), none, .box 25 (.t 0)⟩,
  ⟨(some 4), none, .mv (.v (.bool false))⟩]
theorem tr7_0 : (ro Tryd.f7 0).toList.mapM (trO Tryd.prog 69 (ro Tryd.f7 0)) = some a7_0 := by kernel_rfl
def a7_1 : List AO := [⟨(some 9), none, .load (some 4) (.t 2)⟩,
  ⟨(some 10), none, .call 8 [(.t 9)]⟩,
  ⟨(some 11), none, .mv (.t 10)⟩,
  ⟨(some 12), some (11, false), .load (some 4) (.t 2)⟩,
  ⟨(some 13), some (11, false), .call 12 [(.t 12)]⟩,
  ⟨(some 14), some (11, false), .len (.t 13)⟩,
  ⟨(some 15), some (11, false), .bin .gtr (.t 14) (.v (.int .i64 0))⟩,
  ⟨(some 16), none, .pick (.t 11) (.v (.bool true)) (.t 15)⟩,
  ⟨(some 17), none, .mv (.t 16)⟩,
  ⟨(some 18), some (17, false), .mv (.t 1)⟩,
  ⟨(some 19), some (17, false), .len (.t 18)⟩,
  ⟨(some 20), some (17, false), .bin .gtr (.t 19) (.v (.int .i64 6))⟩,
  ⟨(some 21), some (17, false), .mv (.t 20)⟩,
  ⟨(some 22), some (21, true), .mv (.t 1)⟩,
  ⟨(some 23), some (21, true), .len (.t 22)⟩,
  ⟨(some 24), some (21, true), .bin .leq (.t 23) (.v (.int .i64 12))⟩,
  ⟨(some 25), some (17, false), .pick (.t 21) (.t 24) (.v (.bool false))⟩,
  ⟨(some 26), none, .pick (.t 17) (.v (.bool true)) (.t 25)⟩,
  ⟨(some 27), none, .mv (.t 26)⟩,
  ⟨(some 28), some (27, false), .mv (.t 1)⟩,
  ⟨(some 29), some (27, false), .len (.t 28)⟩,
  ⟨(some 30), some (27, false), .bin .gtr (.t 29) (.v (.int .i64 30))⟩,
  ⟨(some 31), none, .pick (.t 27) (.v (.bool true)) (.t 30)⟩]
theorem tr7_1 : (ro Tryd.f7 1).toList.mapM (trO Tryd.prog 69 (ro Tryd.f7 1)) = some a7_1 := by kernel_rfl
def a7_2 : List AO := [⟨(some 32), none, .call 9 []⟩,
  ⟨(some 4), none, .mv (.t 32)⟩]
theorem tr7_2 : (ro Tryd.f7 2).toList.mapM (trO Tryd.prog 69 (ro Tryd.f7 2)) = some a7_2 := by kernel_rfl
def a7_3 : List AO := [⟨(some 34), none, .load (some 4) (.t 2)⟩,
  ⟨(some 35), none, .mv (.t 1)⟩,
  ⟨(some 36), none, .call 19 [(.t 34), (.t 35)]⟩,
  ⟨(some 33), none, .mv (.t 36)⟩,
  ⟨(some 37), none, .ext 0 (.t 33)⟩,
  ⟨(some 38), none, .ext 1 (.t 33)⟩,
  ⟨(some 5), none, .mv (.t 37)⟩,
  ⟨(some 6), none, .mv (.t 38)⟩]
theorem tr7_3 : (ro Tryd.f7 3).toList.mapM (trO Tryd.prog 69 (ro Tryd.f7 3)) = some a7_3 := by kernel_rfl
def a7_4 : List AO := [⟨(some 39), none, .mv (.t 6)⟩,
  ⟨(some 40), none, .load (some 4) (.t 2)⟩,
  ⟨(some 41), none, .mv (.t 1)⟩,
  ⟨(some 42), none, .call 20 [(.t 40), (.t 41)]⟩,
  ⟨(some 43), none, .bin .neq (.t 39) (.t 42)⟩]
theorem tr7_4 : (ro Tryd.f7 4).toList.mapM (trO Tryd.prog 69 (ro Tryd.f7 4)) = some a7_4 := by kernel_rfl
def a7_5 : List AO := [⟨(some 4), none, .mv (.v (.bool false))⟩]
theorem tr7_5 : (ro Tryd.f7 5).toList.mapM (trO Tryd.prog 69 (ro Tryd.f7 5)) = some a7_5 := by kernel_rfl
def a7_6 : List AO := [⟨(some 44), none, .mv (.t 6)⟩,
  ⟨(some 45), none, .bin .neq (.t 44) (.v (.int .i64 0))⟩]
theorem tr7_6 : (ro Tryd.f7 6).toList.mapM (trO Tryd.prog 69 (ro Tryd.f7 6)) = some a7_6 := by kernel_rfl
def a7_7 : List AO := [⟨(some 46), none, .mv (.t 5)⟩,
  ⟨(some 47), none, .len (.t 46)⟩,
  ⟨(some 48), none, .bin .eql (.t 47) (.v (.int .i64 0))⟩,
  ⟨(some 49), none, .mv (.t 48)⟩,
  ⟨(some 50), some (49, true), .call 9 []⟩,
  ⟨(some 51), none, .pick (.t 49) (.t 50) (.v (.bool false))⟩,
  ⟨(some 4), none, .mv (.t 51)⟩]
theorem tr7_7 : (ro Tryd.f7 7).toList.mapM (trO Tryd.prog 69 (ro Tryd.f7 7)) = some a7_7 := by kernel_rfl
def a7_8 : List AO := [⟨(some 53), none, .load (some 4) (.t 2)⟩,
  ⟨(some 54), none, .mv (.t 1)⟩,
  ⟨(some 55), none, .mv (.t 5)⟩,
  ⟨(some 56), none, .call 21 [(.t 53), (.t 54), (.t 55)]⟩,
  ⟨(some 52), none, .mv (.t 56)⟩,
  ⟨(some 57), none, .ext 0 (.t 52)⟩,
  ⟨(some 58), none, .ext 1 (.t 52)⟩,
  ⟨(some 7), none, .mv (.t 57)⟩,
  ⟨(some 8), none, .mv (.t 58)⟩]
theorem tr7_8 : (ro Tryd.f7 8).toList.mapM (trO Tryd.prog 69 (ro Tryd.f7 8)) = some a7_8 := by kernel_rfl
def a7_9 : List AO := [⟨(some 59), none, .mv (.t 8)⟩,
  ⟨(some 60), none, .mv (.t 59)⟩,
  ⟨(some 61), some (60, true), .load (some 4) (.t 2)⟩,
  ⟨(some 62), some (60, true), .mv (.t 7)⟩,
  ⟨(some 63), some (60, true), .call 16 [(.t 61), (.t 62)]⟩,
  ⟨(some 64), some (60, true), .bin .eql (.t 63) (.v (.int .i64 0))⟩,
  ⟨(some 65), none, .pick (.t 60) (.t 64) (.v (.bool false))⟩,
  ⟨(some 66), none, .mv (.t 65)⟩,
  ⟨(some 67), some (66, true), .call 9 []⟩,
  ⟨(some 68), none, .pick (.t 66) (.t 67) (.v (.bool false))⟩,
  ⟨(some 4), none, .mv (.t 68)⟩]
theorem tr7_9 : (ro Tryd.f7 9).toList.mapM (trO Tryd.prog 69 (ro Tryd.f7 9)) = some a7_9 := by kernel_rfl
/-- airline/airlinelaw49.big -/
noncomputable def c8 : Code := .seq (.region 0 (ro Tryd.f8 0) false) (.seq (.region 1 (ro Tryd.f8 1) false) (.ret))
theorem body8 : Tryd.f8.body = some c8 := by kernel_rfl
theorem res8 : Tryd.f8.results.toList.mapM (trR Tryd.prog) = some [.t 2] := by kernel_rfl
theorem nt8 : Tryd.f8.ntmps = 13 := by kernel_rfl
theorem nm8 : (Tryd.f8.name == "runtime.NumGoroutine") = false := by kernel_rfl
def a8_0 : List AO := [⟨(some 1), none, .box 25 (.t 0)⟩,
  ⟨(some 2), none, .mv (.v (.bool false))⟩]
theorem tr8_0 : (ro Tryd.f8 0).toList.mapM (trO Tryd.prog 13 (ro Tryd.f8 0)) = some a8_0 := by kernel_rfl
def a8_1 : List AO := [⟨(some 3), none, .fld 2 (.t 1)⟩,
  ⟨(some 4), none, .load none (.t 3)⟩,
  ⟨(some 5), none, .len (.t 4)⟩,
  ⟨(some 6), none, .bin .gtr (.t 5) (.v (.int .i64 20))⟩,
  ⟨(some 7), none, .mv (.t 6)⟩,
  ⟨(some 8), some (7, false), .fld 3 (.t 1)⟩,
  ⟨(some 9), some (7, false), .load none (.t 8)⟩,
  ⟨(some 10), some (7, false), .len (.t 9)⟩,
  ⟨(some 11), some (7, false), .bin .gtr (.t 10) (.v (.int .i64 20))⟩,
  ⟨(some 12), none, .pick (.t 7) (.v (.bool true)) (.t 11)⟩,
  ⟨(some 2), none, .mv (.t 12)⟩]
theorem tr8_1 : (ro Tryd.f8 1).toList.mapM (trO Tryd.prog 13 (ro Tryd.f8 1)) = some a8_1 := by kernel_rfl
/-- airline/airlinelaw49.awake -/
noncomputable def c9 : Code := .seq (.region 0 (ro Tryd.f9 0) false) (.seq (.region 1 (ro Tryd.f9 1) false) (.seq (.region 2 (ro Tryd.f9 2) false) (.seq (.region 3 (ro Tryd.f9 3) false) (.seq (.region 4 (ro Tryd.f9 4) false) (.seq (.region 5 (ro Tryd.f9 5) true) (.ret))))))
theorem body9 : Tryd.f9.body = some c9 := by kernel_rfl
theorem res9 : Tryd.f9.results.toList.mapM (trR Tryd.prog) = some [.t 0] := by kernel_rfl
theorem nt9 : Tryd.f9.ntmps = 88 := by kernel_rfl
theorem nm9 : (Tryd.f9.name == "runtime.NumGoroutine") = false := by kernel_rfl
def a9_0 : List AO := [⟨(some 0), none, .mv (.v (.bool false))⟩]
theorem tr9_0 : (ro Tryd.f9 0).toList.mapM (trO Tryd.prog 88 (ro Tryd.f9 0)) = some a9_0 := by kernel_rfl
def a9_1 : List AO := [⟨(some 8), none, .build [(.int .i64 0), (.int .i64 0)] [(0, 1, (.v (.int .i64 (-2)))), (1, 1, (.v (.int .i64 50)))]⟩,
  ⟨(some 9), none, .build [(.int .i64 0), (.int .i64 0)] [(0, 1, (.v (.int .i64 2))), (1, 1, (.v (.int .i64 50)))]⟩,
  ⟨(some 10), none, .slc 47 2 [(.t 8), (.t 9)]⟩,
  ⟨(some 11), none, .build [(.int .i64 0), (.int .i64 0)] [(0, 1, (.v (.int .i64 100))), (1, 1, (.v (.int .i64 (-40))))]⟩,
  ⟨(some 12), none, .build [(.int .i64 0), (.int .i64 0)] [(0, 1, (.v (.int .i64 200))), (1, 1, (.v (.int .i64 (-40))))]⟩,
  ⟨(some 13), none, .build [(.int .i64 0), (.int .i64 0)] [(0, 1, (.v (.int .i64 200))), (1, 1, (.v (.int .i64 40)))]⟩,
  ⟨(some 14), none, .build [(.int .i64 0), (.int .i64 0)] [(0, 1, (.v (.int .i64 100))), (1, 1, (.v (.int .i64 40)))]⟩,
  ⟨(some 15), none, .slc 33 2 [(.t 11), (.t 12), (.t 13), (.t 14)]⟩,
  ⟨(some 16), none, .build [(.int .i64 0), (.int .i64 0), .nils, .nils] [(0, 1, (.v (.int .i64 100))), (2, 1, (.t 10)), (3, 1, (.t 15))]⟩,
  ⟨(some 1), none, .alloc 25 [(.int .i64 0), (.int .i64 0), .nils, .nils]⟩,
  ⟨none, none, .store 4 (.t 1) (.t 16)⟩]
theorem tr9_1 : (ro Tryd.f9 1).toList.mapM (trO Tryd.prog 88 (ro Tryd.f9 1)) = some a9_1 := by kernel_rfl
def a9_2 : List AO := [⟨(some 18), none, .load (some 4) (.t 1)⟩,
  ⟨(some 19), none, .slc 3 1 [(.v (.int .i64 10)), (.v (.int .i64 30))]⟩,
  ⟨(some 20), none, .call 13 [(.t 18), (.t 19)]⟩,
  ⟨(some 17), none, .mv (.t 20)⟩,
  ⟨(some 21), none, .ext 0 (.t 17)⟩,
  ⟨(some 22), none, .ext 1 (.t 17)⟩,
  ⟨(some 2), none, .alloc 33 [(.int .i64 0), (.int .i64 0)]⟩,
  ⟨none, none, .store 2 (.t 2) (.t 21)⟩,
  ⟨(some 3), none, .mv (.t 22)⟩]
theorem tr9_2 : (ro Tryd.f9 2).toList.mapM (trO Tryd.prog 88 (ro Tryd.f9 2)) = some a9_2 := by kernel_rfl
def a9_3 : List AO := [⟨(some 24), none, .load (some 4) (.t 1)⟩,
  ⟨(some 25), none, .slc 3 1 [(.v (.int .i64 30)), (.v (.int .i64 20))]⟩,
  ⟨(some 26), none, .call 19 [(.t 24), (.t 25)]⟩,
  ⟨(some 23), none, .mv (.t 26)⟩,
  ⟨(some 27), none, .ext 0 (.t 23)⟩,
  ⟨(some 28), none, .ext 1 (.t 23)⟩,
  ⟨(some 4), none, .mv (.t 27)⟩,
  ⟨(some 5), none, .mv (.t 28)⟩]
theorem tr9_3 : (ro Tryd.f9 3).toList.mapM (trO Tryd.prog 88 (ro Tryd.f9 3)) = some a9_3 := by kernel_rfl
def a9_4 : List AO := [⟨(some 30), none, .load (some 4) (.t 1)⟩,
  ⟨(some 31), none, .slc 3 1 [(.v (.int .i64 30)), (.v (.int .i64 30)), (.v (.int .i64 30))]⟩,
  ⟨(some 32), none, .call 19 [(.t 30), (.t 31)]⟩,
  ⟨(some 29), none, .mv (.t 32)⟩,
  ⟨(some 33), none, .ext 0 (.t 29)⟩,
  ⟨(some 34), none, .ext 1 (.t 29)⟩,
  ⟨(some 6), none, .mv (.t 33)⟩,
  ⟨(some 7), none, .mv (.t 34)⟩]
theorem tr9_4 : (ro Tryd.f9 4).toList.mapM (trO Tryd.prog 88 (ro Tryd.f9 4)) = some a9_4 := by kernel_rfl
def a9_5 : List AO := [⟨(some 35), none, .mv (.t 3)⟩,
  ⟨(some 36), none, .bin .eql (.t 35) (.v (.int .i64 0))⟩,
  ⟨(some 37), none, .mv (.t 36)⟩,
  ⟨(some 38), some (37, true), .load (some 2) (.t 2)⟩,
  ⟨(some 39), some (37, true), .build [(.int .i64 0), (.int .i64 0)] [(0, 1, (.v (.int .i64 140))), (1, 1, (.v (.int .i64 40)))]⟩,
  ⟨(some 40), some (37, true), .bina [.i .i64, .i .i64] .eql (.t 38) (.t 39)⟩,
  ⟨(some 41), none, .pick (.t 37) (.t 40) (.v (.bool false))⟩,
  ⟨(some 42), none, .mv (.t 41)⟩,
  ⟨(some 43), some (42, true), .load (some 4) (.t 1)⟩,
  ⟨(some 44), some (42, true), .slc 3 1 [(.v (.int .i64 10)), (.v (.int .i64 30))]⟩,
  ⟨(some 45), some (42, true), .call 15 [(.t 43), (.t 44)]⟩,
  ⟨(some 46), some (42, true), .bin .eql (.t 45) (.v (.int .i64 0))⟩,
  ⟨(some 47), none, .pick (.t 42) (.t 46) (.v (.bool false))⟩,
  ⟨(some 48), none, .mv (.t 47)⟩,
  ⟨(some 49), some (48, true), .load (some 4) (.t 1)⟩,
  ⟨(some 50), some (48, true), .slc 3 1 [(.v (.int .i64 9)), (.v (.int .i64 30))]⟩,
  ⟨(some 51), some (48, true), .call 15 [(.t 49), (.t 50)]⟩,
  ⟨(some 52), some (48, true), .bin .eql (.t 51) (.v (.int .i64 33))⟩,
  ⟨(some 53), none, .pick (.t 48) (.t 52) (.v (.bool false))⟩,
  ⟨(some 54), none, .mv (.t 53)⟩,
  ⟨(some 55), some (54, true), .load (some 4) (.t 1)⟩,
  ⟨(some 56), some (54, true), .slc 3 1 [(.v (.int .i64 51)), (.v (.int .i64 30))]⟩,
  ⟨(some 57), some (54, true), .call 15 [(.t 55), (.t 56)]⟩,
  ⟨(some 58), some (54, true), .bin .eql (.t 57) (.v (.int .i64 32))⟩,
  ⟨(some 59), none, .pick (.t 54) (.t 58) (.v (.bool false))⟩,
  ⟨(some 60), none, .mv (.t 59)⟩,
  ⟨(some 61), some (60, true), .mv (.t 5)⟩,
  ⟨(some 62), some (60, true), .bin .eql (.t 61) (.v (.int .i64 0))⟩,
  ⟨(some 63), none, .pick (.t 60) (.t 62) (.v (.bool false))⟩,
  ⟨(some 64), none, .mv (.t 63)⟩,
  ⟨(some 65), some (64, true), .mv (.t 4)⟩,
  ⟨(some 66), some (64, true), .len (.t 65)⟩,
  ⟨(some 67), some (64, true), .bin .eql (.t 66) (.v (.int .i64 2))⟩,
  ⟨(some 68), none, .pick (.t 64) (.t 67) (.v (.bool false))⟩,
  ⟨(some 69), none, .mv (.t 68)⟩,
  ⟨(some 70), some (69, true), .mv (.t 4)⟩,
  ⟨(some 71), some (69, true), .idx 1 (.t 70) (.v (.int .i64 0))⟩,
  ⟨(some 72), some (69, true), .load none (.t 71)⟩,
  ⟨(some 73), some (69, true), .mv (.t 4)⟩,
  ⟨(some 74), some (69, true), .idx 1 (.t 73) (.v (.int .i64 1))⟩,
  ⟨(some 75), some (69, true), .load none (.t 74)⟩,
  ⟨(some 76), some (69, true), .bin .neq (.t 72) (.t 75)⟩,
  ⟨(some 77), none, .pick (.t 69) (.t 76) (.v (.bool false))⟩,
  ⟨(some 78), none, .mv (.t 77)⟩,
  ⟨(some 79), some (78, true), .mv (.t 7)⟩,
  ⟨(some 80), some (78, true), .bin .eql (.t 79) (.v (.int .i64 32))⟩,
  ⟨(some 81), none, .pick (.t 78) (.t 80) (.v (.bool false))⟩,
  ⟨(some 82), none, .mv (.t 81)⟩,
  ⟨(some 83), some (82, true), .load (some 4) (.t 1)⟩,
  ⟨(some 84), some (82, true), .call 11 [(.t 83)]⟩,
  ⟨(some 85), some (82, true), .len (.t 84)⟩,
  ⟨(some 86), some (82, true), .bin .eql (.t 85) (.v (.int .i64 0))⟩,
  ⟨(some 87), none, .pick (.t 82) (.t 86) (.v (.bool false))⟩,
  ⟨(some 0), none, .mv (.t 87)⟩]
theorem tr9_5 : (ro Tryd.f9 5).toList.mapM (trO Tryd.prog 88 (ro Tryd.f9 5)) = some a9_5 := by kernel_rfl
def d9_5 : List (List Nat) := [[], [0], [0, 1], [0, 1, 2], [0, 1, 2], [0, 1, 2, 3, 4], [0, 1, 2, 3, 4, 5], [0, 1, 2, 3, 4, 5, 6], [0, 1, 2, 3, 4, 5, 6, 7], [0, 1, 2, 3, 4, 5, 6, 7], [0, 1, 2, 3, 4, 5, 6, 7, 8, 9], [0, 1, 2, 3, 4, 5, 6, 7, 8, 9, 10], [0, 1, 2, 3, 4, 5, 6, 7, 8, 9, 10, 11], [0, 1, 2, 3, 4, 5, 6, 7, 8, 9, 10, 11, 12], [0, 1, 2, 3, 4, 5, 6, 7, 8, 9, 10, 11, 12, 13], [0, 1, 2, 3, 4, 5, 6, 7, 8, 9, 10, 11, 12, 13], [0, 1, 2, 3, 4, 5, 6, 7, 8, 9, 10, 11, 12, 13, 14, 15], [0, 1, 2, 3, 4, 5, 6, 7, 8, 9, 10, 11, 12, 13, 14, 15, 16], [0, 1, 2, 3, 4, 5, 6, 7, 8, 9, 10, 11, 12, 13, 14, 15, 16, 17], [0, 1, 2, 3, 4, 5, 6, 7, 8, 9, 10, 11, 12, 13, 14, 15, 16, 17, 18], [0, 1, 2, 3, 4, 5, 6, 7, 8, 9, 10, 11, 12, 13, 14, 15, 16, 17, 18, 19], [0, 1, 2, 3, 4, 5, 6, 7, 8, 9, 10, 11, 12, 13, 14, 15, 16, 17, 18, 19], [0, 1, 2, 3, 4, 5, 6, 7, 8, 9, 10, 11, 12, 13, 14, 15, 16, 17, 18, 19, 20, 21], [0, 1, 2, 3, 4, 5, 6, 7, 8, 9, 10, 11, 12, 13, 14, 15, 16, 17, 18, 19, 20, 21, 22], [0, 1, 2, 3, 4, 5, 6, 7, 8, 9, 10, 11, 12, 13, 14, 15, 16, 17, 18, 19, 20, 21, 22, 23], [0, 1, 2, 3, 4, 5, 6, 7, 8, 9, 10, 11, 12, 13, 14, 15, 16, 17, 18, 19, 20, 21, 22, 23, 24], [0, 1, 2, 3, 4, 5, 6, 7, 8, 9, 10, 11, 12, 13, 14, 15, 16, 17, 18, 19, 20, 21, 22, 23, 24, 25], [0, 1, 2, 3, 4, 5, 6, 7, 8, 9, 10, 11, 12, 13, 14, 15, 16, 17, 18, 19, 20, 21, 22, 23, 24, 25, 26], [0, 1, 2, 3, 4, 5, 6, 7, 8, 9, 10, 11, 12, 13, 14, 15, 16, 17, 18, 19, 20, 21, 22, 23, 24, 25, 26, 27], [0, 1, 2, 3, 4, 5, 6, 7, 8, 9, 10, 11, 12, 13, 14, 15, 16, 17, 18, 19, 20, 21, 22, 23, 24, 25, 26, 27, 28], [0, 1, 2, 3, 4, 5, 6, 7, 8, 9, 10, 11, 12, 13, 14, 15, 16, 17, 18, 19, 20, 21, 22, 23, 24, 25, 26, 27, 28, 29], [0, 1, 2, 3, 4, 5, 6, 7, 8, 9, 10, 11, 12, 13, 14, 15, 16, 17, 18, 19, 20, 21, 22, 23, 24, 25, 26, 27, 28, 29, 30], [0, 1, 2, 3, 4, 5, 6, 7, 8, 9, 10, 11, 12, 13, 14, 15, 16, 17, 18, 19, 20, 21, 22, 23, 24, 25, 26, 27, 28, 29, 30, 31], [0, 1, 2, 3, 4, 5, 6, 7, 8, 9, 10, 11, 12, 13, 14, 15, 16, 17, 18, 19, 20, 21, 22, 23, 24, 25, 26, 27, 28, 29, 30, 31, 32], [0, 1, 2, 3, 4, 5, 6, 7, 8, 9, 10, 11, 12, 13, 14, 15, 16, 17, 18, 19, 20, 21, 22, 23, 24, 25, 26, 27, 28, 29, 30, 31, 32, 33], [0, 1, 2, 3, 4, 5, 6, 7, 8, 9, 10, 11, 12, 13, 14, 15, 16, 17, 18, 19, 20, 21, 22, 23, 24, 25, 26, 27, 28, 29, 30, 31, 32, 33, 34], [0, 1, 2, 3, 4, 5, 6, 7, 8, 9, 10, 11, 12, 13, 14, 15, 16, 17, 18, 19, 20, 21, 22, 23, 24, 25, 26, 27, 28, 29, 30, 31, 32, 33, 34, 35], [0, 1, 2, 3, 4, 5, 6, 7, 8, 9, 10, 11, 12, 13, 14, 15, 16, 17, 18, 19, 20, 21, 22, 23, 24, 25, 26, 27, 28, 29, 30, 31, 32, 33, 34, 35, 36], [0, 1, 2, 3, 4, 5, 6, 7, 8, 9, 10, 11, 12, 13, 14, 15, 16, 17, 18, 19, 20, 21, 22, 23, 24, 25, 26, 27, 28, 29, 30, 31, 32, 33, 34], [0, 1, 2, 3, 4, 5, 6, 7, 8, 9, 10, 11, 12, 13, 14, 15, 16, 17, 18, 19, 20, 21, 22, 23, 24, 25, 26, 27, 28, 29, 30, 31, 32, 33, 34, 38], [0, 1, 2, 3, 4, 5, 6, 7, 8, 9, 10, 11, 12, 13, 14, 15, 16, 17, 18, 19, 20, 21, 22, 23, 24, 25, 26, 27, 28, 29, 30, 31, 32, 33, 34, 38, 39], [0, 1, 2, 3, 4, 5, 6, 7, 8, 9, 10, 11, 12, 13, 14, 15, 16, 17, 18, 19, 20, 21, 22, 23, 24, 25, 26, 27, 28, 29, 30, 31, 32, 33, 34, 35, 36, 37, 38, 39, 40], [0, 1, 2, 3, 4, 5, 6, 7, 8, 9, 10, 11, 12, 13, 14, 15, 16, 17, 18, 19, 20, 21, 22, 23, 24, 25, 26, 27, 28, 29, 30, 31, 32, 33, 34, 35, 36, 37, 38, 39, 40, 41], [0, 1, 2, 3, 4, 5, 6, 7, 8, 9, 10, 11, 12, 13, 14, 15, 16, 17, 18, 19, 20, 21, 22, 23, 24, 25, 26, 27, 28, 29, 30, 31, 32, 33, 34, 35, 36, 37, 38, 39, 40, 41, 42], [0, 1, 2, 3, 4, 5, 6, 7, 8, 9, 10, 11, 12, 13, 14, 15, 16, 17, 18, 19, 20, 21, 22, 23, 24, 25, 26, 27, 28, 29, 30, 31, 32, 33, 34, 35, 36, 37, 38, 39, 40, 41, 42, 43], [0, 1, 2, 3, 4, 5, 6, 7, 8, 9, 10, 11, 12, 13, 14, 15, 16, 17, 18, 19, 20, 21, 22, 23, 24, 25, 26, 27, 28, 29, 30, 31, 32, 33, 34, 35, 36, 37, 38, 39, 40, 41, 42, 43, 44], [0, 1, 2, 3, 4, 5, 6, 7, 8, 9, 10, 11, 12, 13, 14, 15, 16, 17, 18, 19, 20, 21, 22, 23, 24, 25, 26, 27, 28, 29, 30, 31, 32, 33, 34, 35, 36, 37, 38, 39, 40, 41, 42, 43, 44, 45], [0, 1, 2, 3, 4, 5, 6, 7, 8, 9, 10, 11, 12, 13, 14, 15, 16, 17, 18, 19, 20, 21, 22, 23, 24, 25, 26, 27, 28, 29, 30, 31, 32, 33, 34, 35, 36, 37, 38, 39, 40, 41, 42, 43, 44, 45, 46], [0, 1, 2, 3, 4, 5, 6, 7, 8, 9, 10, 11, 12, 13, 14, 15, 16, 17, 18, 19, 20, 21, 22, 23, 24, 25, 26, 27, 28, 29, 30, 31, 32, 33, 34, 35, 36, 37, 38, 39, 40, 41, 42, 43, 44, 45, 46, 47], [0, 1, 2, 3, 4, 5, 6, 7, 8, 9, 10, 11, 12, 13, 14, 15, 16, 17, 18, 19, 20, 21, 22, 23, 24, 25, 26, 27, 28, 29, 30, 31, 32, 33, 34, 35, 36, 37, 38, 39, 40, 41, 42, 43, 44, 45, 46, 47, 48], [0, 1, 2, 3, 4, 5, 6, 7, 8, 9, 10, 11, 12, 13, 14, 15, 16, 17, 18, 19, 20, 21, 22, 23, 24, 25, 26, 27, 28, 29, 30, 31, 32, 33, 34, 35, 36, 37, 38, 39, 40, 41, 42, 43, 44, 45, 46, 47, 48, 49], [0, 1, 2, 3, 4, 5, 6, 7, 8, 9, 10, 11, 12, 13, 14, 15, 16, 17, 18, 19, 20, 21, 22, 23, 24, 25, 26, 27, 28, 29, 30, 31, 32, 33, 34, 35, 36, 37, 38, 39, 40, 41, 42, 43, 44, 45, 46, 47, 48, 49, 50], [0, 1, 2, 3, 4, 5, 6, 7, 8, 9, 10, 11, 12, 13, 14, 15, 16, 17, 18, 19, 20, 21, 22, 23, 24, 25, 26, 27, 28, 29, 30, 31, 32, 33, 34, 35, 36, 37, 38, 39, 40, 41, 42, 43, 44, 45, 46, 47, 48, 49, 50, 51], [0, 1, 2, 3, 4, 5, 6, 7, 8, 9, 10, 11, 12, 13, 14, 15, 16, 17, 18, 19, 20, 21, 22, 23, 24, 25, 26, 27, 28, 29, 30, 31, 32, 33, 34, 35, 36, 37, 38, 39, 40, 41, 42, 43, 44, 45, 46, 47, 48, 49, 50, 51, 52]]
theorem ok9_5 : okReg (ro Tryd.f9 5) a9_5 d9_5 = true := by kernel_rfl
/-- airline/airlineref07.SameFaults -/
noncomputable def c10 : Code := .seq (.region 0 (ro Tryd.f10 0) false) (.seq (.seq (.region 1 (ro Tryd.f10 1) false) (.cond (.tmp 10) (.seq (.region 2 (ro Tryd.f10 2) false) (.ret)) (.skip))) (.seq (.seq (.region 3 (ro Tryd.f10 3) false) (.block 0 (.loop (.seq (.seq (.region 4 (ro Tryd.f10 4) false) (.cond (.tmp 14) (.skip) (.exit 0))) (.seq (.block 1 (.seq (.region 6 (ro Tryd.f10 6) true) (.cond (.tmp 25) (.seq (.region 7 (ro Tryd.f10 7) false) (.ret)) (.skip)))) (.region 5 (ro Tryd.f10 5) false)))))) (.seq (.region 8 (ro Tryd.f10 8) false) (.ret))))
theorem body10 : Tryd.f10.body = some c10 := by kernel_rfl
theorem res10 : Tryd.f10.results.toList.mapM (trR Tryd.prog) = some [.t 4] := by kernel_rfl
theorem nt10 : Tryd.f10.ntmps = 26 := by kernel_rfl
theorem nm10 : (Tryd.f10.name == "runtime.NumGoroutine") = false := by kernel_rfl
def a10_0 : List AO := [⟨(some 4), none, .mv (.v (.bool false))⟩]
theorem tr10_0 : (ro Tryd.f10 0).toList.mapM (trO Tryd.prog 26 (ro Tryd.f10 0)) = some a10_0 := by kernel_rfl
def a10_1 : List AO := [⟨(some 6), none, .mv (.t 0)⟩,
  ⟨(some 7), none, .len (.t 6)⟩,
  ⟨(some 8), none, .mv (.t 1)⟩,
  ⟨(some 9), none, .len (.t 8)⟩,
  ⟨(some 10), none, .bin .neq (.t 7) (.t 9)⟩]
theorem tr10_1 : (ro Tryd.f10 1).toList.mapM (trO Tryd.prog 26 (ro Tryd.f10 1)) = some a10_1 := by kernel_rfl
def a10_2 : List AO := [⟨(some 4), none, .mv (.v (.bool false))⟩]
theorem tr10_2 : (ro Tryd.f10 2).toList.mapM (trO Tryd.prog 26 (ro Tryd.f10 2)) = some a10_2 := by kernel_rfl
def a10_3 : List AO := [⟨(some 5), none, .mv (.v (.int .i64 0))⟩]
theorem tr10_3 : (ro Tryd.f10 3).toList.mapM (trO Tryd.prog 26 (ro Tryd.f10 3)) = some a10_3 := by kernel_rfl
def a10_4 : List AO := [⟨(some 11), none, .mv (.t 5)⟩,
  ⟨(some 12), none, .mv (.t 0)⟩,
  ⟨(some 13), none, .len (.t 12)⟩,
  ⟨(some 14), none, .bin .lss (.t 11) (.t 13)⟩]
theorem tr10_4 : (ro Tryd.f10 4).toList.mapM (trO Tryd.prog 26 (ro Tryd.f10 4)) = some a10_4 := by kernel_rfl
def a10_6 : List AO := [⟨(some 17), none, .mv (.t 0)⟩,
  ⟨(some 18), none, .mv (.t 5)⟩,
  ⟨(some 19), none, .idx 2 (.t 17) (.t 18)⟩,
  ⟨(some 20), none, .load (some 2) (.t 19)⟩,
  ⟨(some 21), none, .mv (.t 1)⟩,
  ⟨(some 22), none, .mv (.t 5)⟩,
  ⟨(some 23), none, .idx 2 (.t 21) (.t 22)⟩,
  ⟨(some 24), none, .load (some 2) (.t 23)⟩,
  ⟨(some 25), none, .bina [.i .i64, .s] .neq (.t 20) (.t 24)⟩]
theorem tr10_6 : (ro Tryd.f10 6).toList.mapM (trO Tryd.prog 26 (ro Tryd.f10 6)) = some a10_6 := by kernel_rfl
def d10_6 : List (List Nat) := [[], [], [0, 1], [0, 1, 2], [], [], [4, 5], [4, 5, 6], [0, 1, 2, 3, 4, 5, 6, 7]]
theorem ok10_6 : okReg (ro Tryd.f10 6) a10_6 d10_6 = true := by kernel_rfl
def a10_7 : List AO := [⟨(some 4), none, .mv (.v (.bool false))⟩]
theorem tr10_7 : (ro Tryd.f10 7).toList.mapM (trO Tryd.prog 26 (ro Tryd.f10 7)) = some a10_7 := by kernel_rfl
def a10_5 : List AO := [⟨(some 15), none, .mv (.t 5)⟩,
  ⟨(some 16), none, .bin .add (.t 15) (.v (.int .i64 1))⟩,
  ⟨(some 5), none, .mv (.t 16)⟩]
theorem tr10_5 : (ro Tryd.f10 5).toList.mapM (trO Tryd.prog 26 (ro Tryd.f10 5)) = some a10_5 := by kernel_rfl
def a10_8 : List AO := [⟨(some 4), none, .mv (.v (.bool true))⟩]
theorem tr10_8 : (ro Tryd.f10 8).toList.mapM (trO Tryd.prog 26 (ro Tryd.f10 8)) = some a10_8 := by kernel_rfl
/-- airline/balance.Check -/
noncomputable def c11 : Code := .seq (.region 0 (ro Tryd.f11 0) false) (.seq (.region 1 (ro Tryd.f11 1) false) (.seq (.region 2 (ro Tryd.f11 2) false) (.seq (.seq (.region 3 (ro Tryd.f11 3) false) (.cond (.tmp 14) (.region 4 (ro Tryd.f11 4) false) (.skip))) (.seq (.seq (.region 5 (ro Tryd.f11 5) false) (.cond (.tmp 20) (.region 6 (ro Tryd.f11 6) false) (.skip))) (.seq (.seq (.region 7 (ro Tryd.f11 7) false) (.cond (.tmp 27) (.region 8 (ro Tryd.f11 8) false) (.seq (.region 9 (ro Tryd.f11 9) false) (.block 0 (.loop (.seq (.region 10 (ro Tryd.f11 10) false) (.seq (.cond (.tmp 34) (.skip) (.exit 0)) (.seq (.block 1 (.seq (.region 11 (ro Tryd.f11 11) false) (.seq (.region 12 (ro Tryd.f11 12) false) (.cond (.tmp 47) (.region 13 (ro Tryd.f11 13) false) (.skip))))) (.region 14 (ro Tryd.f11 14) false))))))))) (.seq (.seq (.region 15 (ro Tryd.f11 15) false) (.cond (.tmp 58) (.seq (.region 16 (ro Tryd.f11 16) false) (.seq (.region 17 (ro Tryd.f11 17) false) (.ret))) (.skip))) (.seq (.region 18 (ro Tryd.f11 18) false) (.seq (.seq (.region 19 (ro Tryd.f11 19) false) (.block 2 (.loop (.seq (.region 20 (ro Tryd.f11 20) false) (.seq (.cond (.tmp 66) (.skip) (.exit 2)) (.seq (.block 3 (.seq (.region 21 (ro Tryd.f11 21) false) (.seq (.region 22 (ro Tryd.f11 22) false) (.cond (.tmp 79) (.seq (.region 23 (ro Tryd.f11 23) false) (.region 24 (ro Tryd.f11 24) false)) (.skip))))) (.region 25 (ro Tryd.f11 25) false))))))) (.seq (.seq (.region 26 (ro Tryd.f11 26) false) (.cond (.tmp 92) (.region 27 (ro Tryd.f11 27) false) (.skip))) (.seq (.region 28 (ro Tryd.f11 28) false) (.ret)))))))))))
theorem body11 : Tryd.f11.body = some c11 := by kernel_rfl
theorem res11 : Tryd.f11.results.toList.mapM (trR Tryd.prog) = some [.t 2] := by kernel_rfl
theorem nt11 : Tryd.f11.ntmps = 96 := by kernel_rfl
theorem nm11 : (Tryd.f11.name == "runtime.NumGoroutine") = false := by kernel_rfl
def a11_0 : List AO := [⟨(some 1), none, .box 25 (.t 0)⟩,
  ⟨(some 2), none, .mv (.v .nils)⟩]
theorem tr11_0 : (ro Tryd.f11 0).toList.mapM (trO Tryd.prog 96 (ro Tryd.f11 0)) = some a11_0 := by kernel_rfl
def a11_1 : List AO := [⟨(some 3), none, .alloc 29 [.nils]⟩]
theorem tr11_1 : (ro Tryd.f11 1).toList.mapM (trO Tryd.prog 96 (ro Tryd.f11 1)) = some a11_1 := by kernel_rfl
def a11_2 : List AO := [⟨(some 10), none, .mkfn 22 [(.t 3)]⟩,
  ⟨(some 4), none, .mv (.t 10)⟩]
theorem tr11_2 : (ro Tryd.f11 2).toList.mapM (trO Tryd.prog 96 (ro Tryd.f11 2)) = some a11_2 := by kernel_rfl
def a11_3 : List AO := [⟨(some 11), none, .fld 0 (.t 1)⟩,
  ⟨(some 12), none, .load none (.t 11)⟩,
  ⟨(some 13), none, .call 23 [(.t 12), (.v (.int .i64 0)), (.v (.int .i64 1000000))]⟩,
  ⟨(some 14), none, .un .not (.t 13)⟩]
theorem tr11_3 : (ro Tryd.f11 3).toList.mapM (trO Tryd.prog 96 (ro Tryd.f11 3)) = some a11_3 := by kernel_rfl
def a11_4 : List AO := [⟨(some 15), none, .mv (.t 4)⟩,
  ⟨(some 16), none, .callv (.t 15) [(.v (.int .i64 2)), (.v (.str [101, 109, 112, 116, 121]))]⟩]
theorem tr11_4 : (ro Tryd.f11 4).toList.mapM (trO Tryd.prog 96 (ro Tryd.f11 4)) = some a11_4 := by kernel_rfl
def a11_5 : List AO := [⟨(some 17), none, .fld 1 (.t 1)⟩,
  ⟨(some 18), none, .load none (.t 17)⟩,
  ⟨(some 19), none, .call 23 [(.t 18), (.v (.int .i64 (-1000000000))), (.v (.int .i64 1000000000))]⟩,
  ⟨(some 20), none, .un .not (.t 19)⟩]
theorem tr11_5 : (ro Tryd.f11 5).toList.mapM (trO Tryd.prog 96 (ro Tryd.f11 5)) = some a11_5 := by kernel_rfl
def a11_6 : List AO := [⟨(some 21), none, .mv (.t 4)⟩,
  ⟨(some 22), none, .callv (.t 21) [(.v (.int .i64 2)), (.v (.str [105, 110, 100, 101, 120]))]⟩]
theorem tr11_6 : (ro Tryd.f11 6).toList.mapM (trO Tryd.prog 96 (ro Tryd.f11 6)) = some a11_6 := by kernel_rfl
def a11_7 : List AO := [⟨(some 23), none, .fld 2 (.t 1)⟩,
  ⟨(some 24), none, .load none (.t 23)⟩,
  ⟨(some 25), none, .len (.t 24)⟩,
  ⟨(some 26), none, .call 23 [(.t 25), (.v (.int .i64 1)), (.v (.int .i64 16))]⟩,
  ⟨(some 27), none, .un .not (.t 26)⟩]
theorem tr11_7 : (ro Tryd.f11 7).toList.mapM (trO Tryd.prog 96 (ro Tryd.f11 7)) = some a11_7 := by kernel_rfl
def a11_8 : List AO := [⟨(some 28), none, .mv (.t 4)⟩,
  ⟨(some 29), none, .callv (.t 28) [(.v (.int .i64 4)), (.v (.str [98, 97, 121, 115]))]⟩]
theorem tr11_8 : (ro Tryd.f11 8).toList.mapM (trO Tryd.prog 96 (ro Tryd.f11 8)) = some a11_8 := by kernel_rfl
def a11_9 : List AO := [⟨(some 30), none, .fld 2 (.t 1)⟩,
  ⟨(some 31), none, .load none (.t 30)⟩,
  ⟨(some 32), none, .len (.t 31)⟩,
  ⟨(some 33), none, .mv (.v (.int .i64 0))⟩]
theorem tr11_9 : (ro Tryd.f11 9).toList.mapM (trO Tryd.prog 96 (ro Tryd.f11 9)) = some a11_9 := by kernel_rfl
def a11_10 : List AO := [⟨(some 34), none, .bin .lss (.t 33) (.t 32)⟩]
theorem tr11_10 : (ro Tryd.f11 10).toList.mapM (trO Tryd.prog 96 (ro Tryd.f11 10)) = some a11_10 := by kernel_rfl
def a11_11 : List AO := [⟨(some 35), none, .mv (.t 33)⟩,
  ⟨(some 36), none, .idx 2 (.t 31) (.t 33)⟩,
  ⟨(some 37), none, .load (some 2) (.t 36)⟩,
  ⟨(some 6), none, .alloc 47 [(.int .i64 0), (.int .i64 0)]⟩,
  ⟨(some 5), none, .mv (.t 35)⟩,
  ⟨none, none, .store 2 (.t 6) (.t 37)⟩]
theorem tr11_11 : (ro Tryd.f11 11).toList.mapM (trO Tryd.prog 96 (ro Tryd.f11 11)) = some a11_11 := by kernel_rfl
def a11_12 : List AO := [⟨(some 38), none, .fld 0 (.t 6)⟩,
  ⟨(some 39), none, .load none (.t 38)⟩,
  ⟨(some 40), none, .call 23 [(.t 39), (.v (.int .i64 (-1000))), (.v (.int .i64 1000))]⟩,
  ⟨(some 41), none, .un .not (.t 40)⟩,
  ⟨(some 42), none, .mv (.t 41)⟩,
  ⟨(some 43), some (42, false), .fld 1 (.t 6)⟩,
  ⟨(some 44), some (42, false), .load none (.t 43)⟩,
  ⟨(some 45), some (42, false), .call 23 [(.t 44), (.v (.int .i64 0)), (.v (.int .i64 1000000))]⟩,
  ⟨(some 46), some (42, false), .un .not (.t 45)⟩,
  ⟨(some 47), none, .pick (.t 42) (.v (.bool true)) (.t 46)⟩]
theorem tr11_12 : (ro Tryd.f11 12).toList.mapM (trO Tryd.prog 96 (ro Tryd.f11 12)) = some a11_12 := by kernel_rfl
def a11_13 : List AO := [⟨(some 48), none, .mv (.t 4)⟩,
  ⟨(some 49), none, .mv (.t 5)⟩,
  ⟨(some 50), none, .call 24 [(.t 49)]⟩,
  ⟨(some 51), none, .bin .add (.v (.str [98, 97, 121, 32])) (.t 50)⟩,
  ⟨(some 52), none, .callv (.t 48) [(.v (.int .i64 2)), (.t 51)]⟩]
theorem tr11_13 : (ro Tryd.f11 13).toList.mapM (trO Tryd.prog 96 (ro Tryd.f11 13)) = some a11_13 := by kernel_rfl
def a11_14 : List AO := [⟨(some 53), none, .bin .add (.t 33) (.v (.int .i64 1))⟩,
  ⟨(some 33), none, .mv (.t 53)⟩]
theorem tr11_14 : (ro Tryd.f11 14).toList.mapM (trO Tryd.prog 96 (ro Tryd.f11 14)) = some a11_14 := by kernel_rfl
def a11_15 : List AO := [⟨(some 54), none, .fld 3 (.t 1)⟩,
  ⟨(some 55), none, .load none (.t 54)⟩,
  ⟨(some 56), none, .len (.t 55)⟩,
  ⟨(some 57), none, .call 23 [(.t 56), (.v (.int .i64 3)), (.v (.int .i64 16))]⟩,
  ⟨(some 58), none, .un .not (.t 57)⟩]
theorem tr11_15 : (ro Tryd.f11 15).toList.mapM (trO Tryd.prog 96 (ro Tryd.f11 15)) = some a11_15 := by kernel_rfl
def a11_16 : List AO := [⟨(some 59), none, .mv (.t 4)⟩,
  ⟨(some 60), none, .callv (.t 59) [(.v (.int .i64 4)), (.v (.str [101, 110, 118, 101, 108, 111, 112, 101]))]⟩]
theorem tr11_16 : (ro Tryd.f11 16).toList.mapM (trO Tryd.prog 96 (ro Tryd.f11 16)) = some a11_16 := by kernel_rfl
def a11_17 : List AO := [⟨(some 61), none, .load none (.t 3)⟩,
  ⟨(some 2), none, .mv (.t 61)⟩]
theorem tr11_17 : (ro Tryd.f11 17).toList.mapM (trO Tryd.prog 96 (ro Tryd.f11 17)) = some a11_17 := by kernel_rfl
def a11_18 : List AO := [⟨(some 7), none, .mv (.v (.bool true))⟩]
theorem tr11_18 : (ro Tryd.f11 18).toList.mapM (trO Tryd.prog 96 (ro Tryd.f11 18)) = some a11_18 := by kernel_rfl
def a11_19 : List AO := [⟨(some 62), none, .fld 3 (.t 1)⟩,
  ⟨(some 63), none, .load none (.t 62)⟩,
  ⟨(some 64), none, .len (.t 63)⟩,
  ⟨(some 65), none, .mv (.v (.int .i64 0))⟩]
theorem tr11_19 : (ro Tryd.f11 19).toList.mapM (trO Tryd.prog 96 (ro Tryd.f11 19)) = some a11_19 := by kernel_rfl
def a11_20 : List AO := [⟨(some 66), none, .bin .lss (.t 65) (.t 64)⟩]
theorem tr11_20 : (ro Tryd.f11 20).toList.mapM (trO Tryd.prog 96 (ro Tryd.f11 20)) = some a11_20 := by kernel_rfl
def a11_21 : List AO := [⟨(some 67), none, .mv (.t 65)⟩,
  ⟨(some 68), none, .idx 2 (.t 63) (.t 65)⟩,
  ⟨(some 69), none, .load (some 2) (.t 68)⟩,
  ⟨(some 9), none, .alloc 33 [(.int .i64 0), (.int .i64 0)]⟩,
  ⟨(some 8), none, .mv (.t 67)⟩,
  ⟨none, none, .store 2 (.t 9) (.t 69)⟩]
theorem tr11_21 : (ro Tryd.f11 21).toList.mapM (trO Tryd.prog 96 (ro Tryd.f11 21)) = some a11_21 := by kernel_rfl
def a11_22 : List AO := [⟨(some 70), none, .fld 0 (.t 9)⟩,
  ⟨(some 71), none, .load none (.t 70)⟩,
  ⟨(some 72), none, .call 23 [(.t 71), (.v (.int .i64 0)), (.v (.int .i64 20000000))]⟩,
  ⟨(some 73), none, .un .not (.t 72)⟩,
  ⟨(some 74), none, .mv (.t 73)⟩,
  ⟨(some 75), some (74, false), .fld 1 (.t 9)⟩,
  ⟨(some 76), some (74, false), .load none (.t 75)⟩,
  ⟨(some 77), some (74, false), .call 23 [(.t 76), (.v (.int .i64 (-20000000000))), (.v (.int .i64 20000000000))]⟩,
  ⟨(some 78), some (74, false), .un .not (.t 77)⟩,
  ⟨(some 79), none, .pick (.t 74) (.v (.bool true)) (.t 78)⟩]
theorem tr11_22 : (ro Tryd.f11 22).toList.mapM (trO Tryd.prog 96 (ro Tryd.f11 22)) = some a11_22 := by kernel_rfl
def a11_23 : List AO := [⟨(some 80), none, .mv (.t 4)⟩,
  ⟨(some 81), none, .mv (.t 8)⟩,
  ⟨(some 82), none, .call 24 [(.t 81)]⟩,
  ⟨(some 83), none, .bin .add (.v (.str [112, 111, 105, 110, 116, 32])) (.t 82)⟩,
  ⟨(some 84), none, .callv (.t 80) [(.v (.int .i64 2)), (.t 83)]⟩]
theorem tr11_23 : (ro Tryd.f11 23).toList.mapM (trO Tryd.prog 96 (ro Tryd.f11 23)) = some a11_23 := by kernel_rfl
def a11_24 : List AO := [⟨(some 7), none, .mv (.v (.bool false))⟩]
theorem tr11_24 : (ro Tryd.f11 24).toList.mapM (trO Tryd.prog 96 (ro Tryd.f11 24)) = some a11_24 := by kernel_rfl
def a11_25 : List AO := [⟨(some 85), none, .bin .add (.t 65) (.v (.int .i64 1))⟩,
  ⟨(some 65), none, .mv (.t 85)⟩]
theorem tr11_25 : (ro Tryd.f11 25).toList.mapM (trO Tryd.prog 96 (ro Tryd.f11 25)) = some a11_25 := by kernel_rfl
def a11_26 : List AO := [⟨(some 86), none, .mv (.t 7)⟩,
  ⟨(some 87), none, .mv (.t 86)⟩,
  ⟨(some 88), some (87, true), .fld 3 (.t 1)⟩,
  ⟨(some 89), some (87, true), .load none (.t 88)⟩,
  ⟨(some 90), some (87, true), .call 25 [(.t 89)]⟩,
  ⟨(some 91), some (87, true), .un .not (.t 90)⟩,
  ⟨(some 92), none, .pick (.t 87) (.t 91) (.v (.bool false))⟩]
theorem tr11_26 : (ro Tryd.f11 26).toList.mapM (trO Tryd.prog 96 (ro Tryd.f11 26)) = some a11_26 := by kernel_rfl
def a11_27 : List AO := [⟨(some 93), none, .mv (.t 4)⟩,
  ⟨(some 94), none, .callv (.t 93) [(.v (.int .i64 33)), (.v (.str [101, 110, 118, 101, 108, 111, 112, 101]))]⟩]
theorem tr11_27 : (ro Tryd.f11 27).toList.mapM (trO Tryd.prog 96 (ro Tryd.f11 27)) = some a11_27 := by kernel_rfl
def a11_28 : List AO := [⟨(some 95), none, .load none (.t 3)⟩,
  ⟨(some 2), none, .mv (.t 95)⟩]
theorem tr11_28 : (ro Tryd.f11 28).toList.mapM (trO Tryd.prog 96 (ro Tryd.f11 28)) = some a11_28 := by kernel_rfl
/-- airline/airlineref49.Check -/
noncomputable def c12 : Code := .seq (.region 0 (ro Tryd.f12 0) false) (.seq (.region 1 (ro Tryd.f12 1) false) (.seq (.seq (.region 2 (ro Tryd.f12 2) false) (.cond (.tmp 10) (.region 3 (ro Tryd.f12 3) false) (.skip))) (.seq (.seq (.region 4 (ro Tryd.f12 4) false) (.cond (.tmp 18) (.region 5 (ro Tryd.f12 5) false) (.skip))) (.seq (.seq (.region 6 (ro Tryd.f12 6) false) (.cond (.tmp 27) (.region 7 (ro Tryd.f12 7) false) (.skip))) (.seq (.seq (.region 8 (ro Tryd.f12 8) false) (.block 0 (.loop (.seq (.seq (.region 9 (ro Tryd.f12 9) false) (.cond (.tmp 42) (.skip) (.exit 0))) (.seq (.block 1 (.seq (.region 11 (ro Tryd.f12 11) false) (.cond (.tmp 62) (.region 12 (ro Tryd.f12 12) false) (.skip)))) (.region 10 (ro Tryd.f12 10) false)))))) (.seq (.seq (.region 13 (ro Tryd.f12 13) false) (.cond (.tmp 74) (.seq (.region 14 (ro Tryd.f12 14) false) (.ret)) (.skip))) (.seq (.region 15 (ro Tryd.f12 15) false) (.seq (.seq (.region 16 (ro Tryd.f12 16) false) (.block 2 (.loop (.seq (.seq (.region 17 (ro Tryd.f12 17) false) (.cond (.tmp 83) (.skip) (.exit 2))) (.seq (.block 3 (.seq (.region 19 (ro Tryd.f12 19) false) (.cond (.tmp 92) (.seq (.region 20 (ro Tryd.f12 20) false) (.region 21 (ro Tryd.f12 21) false)) (.skip)))) (.region 18 (ro Tryd.f12 18) false)))))) (.seq (.seq (.region 22 (ro Tryd.f12 22) false) (.cond (.tmp 106) (.region 23 (ro Tryd.f12 23) false) (.skip))) (.seq (.region 24 (ro Tryd.f12 24) false) (.ret)))))))))))
theorem body12 : Tryd.f12.body = some c12 := by kernel_rfl
theorem res12 : Tryd.f12.results.toList.mapM (trR Tryd.prog) = some [.t 2] := by kernel_rfl
theorem nt12 : Tryd.f12.ntmps = 112 := by kernel_rfl
theorem nm12 : (Tryd.f12.name == "runtime.NumGoroutine") = false := by kernel_rfl
def a12_0 : List AO := [⟨(some 1), none, .box 25 (.t 0)⟩,
  ⟨(some 2), none, .mv (.v .nils)⟩]
theorem tr12_0 : (ro Tryd.f12 0).toList.mapM (trO Tryd.prog 112 (ro Tryd.f12 0)) = some a12_0 := by kernel_rfl
def a12_1 : List AO := [⟨(some 3), none, .mv (.v .nils)⟩]
theorem tr12_1 : (ro Tryd.f12 1).toList.mapM (trO Tryd.prog 112 (ro Tryd.f12 1)) = some a12_1 := by kernel_rfl
def a12_2 : List AO := [⟨(some 7), none, .fld 0 (.t 1)⟩,
  ⟨(some 8), none, .load none (.t 7)⟩,
  ⟨(some 9), none, .call 26 [(.t 8), (.v (.int .i64 0)), (.v (.int .i64 1000000))]⟩,
  ⟨(some 10), none, .un .not (.t 9)⟩]
theorem tr12_2 : (ro Tryd.f12 2).toList.mapM (trO Tryd.prog 112 (ro Tryd.f12 2)) = some a12_2 := by kernel_rfl
def a12_3 : List AO := [⟨(some 11), none, .mv (.t 3)⟩,
  ⟨(some 12), none, .build [(.int .i64 0), (.str [])] [(0, 1, (.v (.int .i64 2))), (1, 1, (.v (.str [101, 109, 112, 116, 121])))]⟩,
  ⟨(some 13), none, .slc 49 2 [(.t 12)]⟩,
  ⟨(some 14), none, .app 49 2 24 (.t 11) (.t 13)⟩,
  ⟨(some 3), none, .mv (.t 14)⟩]
theorem tr12_3 : (ro Tryd.f12 3).toList.mapM (trO Tryd.prog 112 (ro Tryd.f12 3)) = some a12_3 := by kernel_rfl
def a12_4 : List AO := [⟨(some 15), none, .fld 1 (.t 1)⟩,
  ⟨(some 16), none, .load none (.t 15)⟩,
  ⟨(some 17), none, .call 26 [(.t 16), (.v (.int .i64 (-1000000000))), (.v (.int .i64 1000000000))]⟩,
  ⟨(some 18), none, .un .not (.t 17)⟩]
theorem tr12_4 : (ro Tryd.f12 4).toList.mapM (trO Tryd.prog 112 (ro Tryd.f12 4)) = some a12_4 := by kernel_rfl
def a12_5 : List AO := [⟨(some 19), none, .mv (.t 3)⟩,
  ⟨(some 20), none, .build [(.int .i64 0), (.str [])] [(0, 1, (.v (.int .i64 2))), (1, 1, (.v (.str [105, 110, 100, 101, 120])))]⟩,
  ⟨(some 21), none, .slc 49 2 [(.t 20)]⟩,
  ⟨(some 22), none, .app 49 2 24 (.t 19) (.t 21)⟩,
  ⟨(some 3), none, .mv (.t 22)⟩]
theorem tr12_5 : (ro Tryd.f12 5).toList.mapM (trO Tryd.prog 112 (ro Tryd.f12 5)) = some a12_5 := by kernel_rfl
def a12_6 : List AO := [⟨(some 23), none, .fld 2 (.t 1)⟩,
  ⟨(some 24), none, .load none (.t 23)⟩,
  ⟨(some 25), none, .len (.t 24)⟩,
  ⟨(some 26), none, .call 26 [(.t 25), (.v (.int .i64 1)), (.v (.int .i64 16))]⟩,
  ⟨(some 27), none, .un .not (.t 26)⟩]
theorem tr12_6 : (ro Tryd.f12 6).toList.mapM (trO Tryd.prog 112 (ro Tryd.f12 6)) = some a12_6 := by kernel_rfl
def a12_7 : List AO := [⟨(some 28), none, .mv (.t 3)⟩,
  ⟨(some 29), none, .build [(.int .i64 0), (.str [])] [(0, 1, (.v (.int .i64 4))), (1, 1, (.v (.str [98, 97, 121, 115])))]⟩,
  ⟨(some 30), none, .slc 49 2 [(.t 29)]⟩,
  ⟨(some 31), none, .app 49 2 24 (.t 28) (.t 30)⟩,
  ⟨(some 3), none, .mv (.t 31)⟩]
theorem tr12_7 : (ro Tryd.f12 7).toList.mapM (trO Tryd.prog 112 (ro Tryd.f12 7)) = some a12_7 := by kernel_rfl
def a12_8 : List AO := [⟨(some 4), none, .mv (.v (.int .i64 0))⟩]
theorem tr12_8 : (ro Tryd.f12 8).toList.mapM (trO Tryd.prog 112 (ro Tryd.f12 8)) = some a12_8 := by kernel_rfl
def a12_9 : List AO := [⟨(some 32), none, .mv (.t 4)⟩,
  ⟨(some 33), none, .fld 2 (.t 1)⟩,
  ⟨(some 34), none, .load none (.t 33)⟩,
  ⟨(some 35), none, .len (.t 34)⟩,
  ⟨(some 36), none, .bin .lss (.t 32) (.t 35)⟩,
  ⟨(some 37), none, .mv (.t 36)⟩,
  ⟨(some 38), some (37, true), .fld 2 (.t 1)⟩,
  ⟨(some 39), some (37, true), .load none (.t 38)⟩,
  ⟨(some 40), some (37, true), .len (.t 39)⟩,
  ⟨(some 41), some (37, true), .bin .leq (.t 40) (.v (.int .i64 16))⟩,
  ⟨(some 42), none, .pick (.t 37) (.t 41) (.v (.bool false))⟩]
theorem tr12_9 : (ro Tryd.f12 9).toList.mapM (trO Tryd.prog 112 (ro Tryd.f12 9)) = some a12_9 := by kernel_rfl
def a12_11 : List AO := [⟨(some 45), none, .fld 2 (.t 1)⟩,
  ⟨(some 46), none, .load none (.t 45)⟩,
  ⟨(some 47), none, .mv (.t 4)⟩,
  ⟨(some 48), none, .idx 2 (.t 46) (.t 47)⟩,
  ⟨(some 49), none, .fld 0 (.t 48)⟩,
  ⟨(some 50), none, .load none (.t 49)⟩,
  ⟨(some 51), none, .call 26 [(.t 50), (.v (.int .i64 (-1000))), (.v (.int .i64 1000))]⟩,
  ⟨(some 52), none, .un .not (.t 51)⟩,
  ⟨(some 53), none, .mv (.t 52)⟩,
  ⟨(some 54), some (53, false), .fld 2 (.t 1)⟩,
  ⟨(some 55), some (53, false), .load none (.t 54)⟩,
  ⟨(some 56), some (53, false), .mv (.t 4)⟩,
  ⟨(some 57), some (53, false), .idx 2 (.t 55) (.t 56)⟩,
  ⟨(some 58), some (53, false), .fld 1 (.t 57)⟩,
  ⟨(some 59), some (53, false), .load none (.t 58)⟩,
  ⟨(some 60), some (53, false), .call 26 [(.t 59), (.v (.int .i64 0)), (.v (.int .i64 1000000))]⟩,
  ⟨(some 61), some (53, false), .un .not (.t 60)⟩,
  ⟨(some 62), none, .pick (.t 53) (.v (.bool true)) (.t 61)⟩]
theorem tr12_11 : (ro Tryd.f12 11).toList.mapM (trO Tryd.prog 112 (ro Tryd.f12 11)) = some a12_11 := by kernel_rfl
def a12_12 : List AO := [⟨(some 63), none, .mv (.t 3)⟩,
  ⟨(some 64), none, .mv (.t 4)⟩,
  ⟨(some 65), none, .call 27 [(.t 64)]⟩,
  ⟨(some 66), none, .bin .add (.v (.str [98, 97, 121, 32])) (.t 65)⟩,
  ⟨(some 67), none, .build [(.int .i64 0), (.str [])] [(0, 1, (.v (.int .i64 2))), (1, 1, (.t 66))]⟩,
  ⟨(some 68), none, .slc 49 2 [(.t 67)]⟩,
  ⟨(some 69), none, .app 49 2 24 (.t 63) (.t 68)⟩,
  ⟨(some 3), none, .mv (.t 69)⟩]
theorem tr12_12 : (ro Tryd.f12 12).toList.mapM (trO Tryd.prog 112 (ro Tryd.f12 12)) = some a12_12 := by kernel_rfl
def a12_10 : List AO := [⟨(some 43), none, .mv (.t 4)⟩,
  ⟨(some 44), none, .bin .add (.t 43) (.v (.int .i64 1))⟩,
  ⟨(some 4), none, .mv (.t 44)⟩]
theorem tr12_10 : (ro Tryd.f12 10).toList.mapM (trO Tryd.prog 112 (ro Tryd.f12 10)) = some a12_10 := by kernel_rfl
def a12_13 : List AO := [⟨(some 70), none, .fld 3 (.t 1)⟩,
  ⟨(some 71), none, .load none (.t 70)⟩,
  ⟨(some 72), none, .len (.t 71)⟩,
  ⟨(some 73), none, .call 26 [(.t 72), (.v (.int .i64 3)), (.v (.int .i64 16))]⟩,
  ⟨(some 74), none, .un .not (.t 73)⟩]
theorem tr12_13 : (ro Tryd.f12 13).toList.mapM (trO Tryd.prog 112 (ro Tryd.f12 13)) = some a12_13 := by kernel_rfl
def a12_14 : List AO := [⟨(some 75), none, .mv (.t 3)⟩,
  ⟨(some 76), none, .build [(.int .i64 0), (.str [])] [(0, 1, (.v (.int .i64 4))), (1, 1, (.v (.str [101, 110, 118, 101, 108, 111, 112, 101])))]⟩,
  ⟨(some 77), none, .slc 49 2 [(.t 76)]⟩,
  ⟨(some 78), none, .app 49 2 24 (.t 75) (.t 77)⟩,
  ⟨(some 2), none, .mv (.t 78)⟩]
theorem tr12_14 : (ro Tryd.f12 14).toList.mapM (trO Tryd.prog 112 (ro Tryd.f12 14)) = some a12_14 := by kernel_rfl
def a12_15 : List AO := [⟨(some 5), none, .mv (.v (.bool true))⟩]
theorem tr12_15 : (ro Tryd.f12 15).toList.mapM (trO Tryd.prog 112 (ro Tryd.f12 15)) = some a12_15 := by kernel_rfl
def a12_16 : List AO := [⟨(some 6), none, .mv (.v (.int .i64 0))⟩]
theorem tr12_16 : (ro Tryd.f12 16).toList.mapM (trO Tryd.prog 112 (ro Tryd.f12 16)) = some a12_16 := by kernel_rfl
def a12_17 : List AO := [⟨(some 79), none, .mv (.t 6)⟩,
  ⟨(some 80), none, .fld 3 (.t 1)⟩,
  ⟨(some 81), none, .load none (.t 80)⟩,
  ⟨(some 82), none, .len (.t 81)⟩,
  ⟨(some 83), none, .bin .lss (.t 79) (.t 82)⟩]
theorem tr12_17 : (ro Tryd.f12 17).toList.mapM (trO Tryd.prog 112 (ro Tryd.f12 17)) = some a12_17 := by kernel_rfl
def a12_19 : List AO := [⟨(some 86), none, .fld 3 (.t 1)⟩,
  ⟨(some 87), none, .load none (.t 86)⟩,
  ⟨(some 88), none, .mv (.t 6)⟩,
  ⟨(some 89), none, .idx 2 (.t 87) (.t 88)⟩,
  ⟨(some 90), none, .load (some 2) (.t 89)⟩,
  ⟨(some 91), none, .call 28 [(.t 90)]⟩,
  ⟨(some 92), none, .un .not (.t 91)⟩]
theorem tr12_19 : (ro Tryd.f12 19).toList.mapM (trO Tryd.prog 112 (ro Tryd.f12 19)) = some a12_19 := by kernel_rfl
def a12_20 : List AO := [⟨(some 93), none, .mv (.t 3)⟩,
  ⟨(some 94), none, .mv (.t 6)⟩,
  ⟨(some 95), none, .call 27 [(.t 94)]⟩,
  ⟨(some 96), none, .bin .add (.v (.str [112, 111, 105, 110, 116, 32])) (.t 95)⟩,
  ⟨(some 97), none, .build [(.int .i64 0), (.str [])] [(0, 1, (.v (.int .i64 2))), (1, 1, (.t 96))]⟩,
  ⟨(some 98), none, .slc 49 2 [(.t 97)]⟩,
  ⟨(some 99), none, .app 49 2 24 (.t 93) (.t 98)⟩,
  ⟨(some 3), none, .mv (.t 99)⟩]
theorem tr12_20 : (ro Tryd.f12 20).toList.mapM (trO Tryd.prog 112 (ro Tryd.f12 20)) = some a12_20 := by kernel_rfl
def a12_21 : List AO := [⟨(some 5), none, .mv (.v (.bool false))⟩]
theorem tr12_21 : (ro Tryd.f12 21).toList.mapM (trO Tryd.prog 112 (ro Tryd.f12 21)) = some a12_21 := by kernel_rfl
def a12_18 : List AO := [⟨(some 84), none, .mv (.t 6)⟩,
  ⟨(some 85), none, .bin .add (.t 84) (.v (.int .i64 1))⟩,
  ⟨(some 6), none, .mv (.t 85)⟩]
theorem tr12_18 : (ro Tryd.f12 18).toList.mapM (trO Tryd.prog 112 (ro Tryd.f12 18)) = some a12_18 := by kernel_rfl
def a12_22 : List AO := [⟨(some 100), none, .mv (.t 5)⟩,
  ⟨(some 101), none, .mv (.t 100)⟩,
  ⟨(some 102), some (101, true), .fld 3 (.t 1)⟩,
  ⟨(some 103), some (101, true), .load none (.t 102)⟩,
  ⟨(some 104), some (101, true), .call 29 [(.t 103)]⟩,
  ⟨(some 105), some (101, true), .bin .eql (.t 104) (.v (.int .i64 0))⟩,
  ⟨(some 106), none, .pick (.t 101) (.t 105) (.v (.bool false))⟩]
theorem tr12_22 : (ro Tryd.f12 22).toList.mapM (trO Tryd.prog 112 (ro Tryd.f12 22)) = some a12_22 := by kernel_rfl
def a12_23 : List AO := [⟨(some 107), none, .mv (.t 3)⟩,
  ⟨(some 108), none, .build [(.int .i64 0), (.str [])] [(0, 1, (.v (.int .i64 33))), (1, 1, (.v (.str [101, 110, 118, 101, 108, 111, 112, 101])))]⟩,
  ⟨(some 109), none, .slc 49 2 [(.t 108)]⟩,
  ⟨(some 110), none, .app 49 2 24 (.t 107) (.t 109)⟩,
  ⟨(some 3), none, .mv (.t 110)⟩]
theorem tr12_23 : (ro Tryd.f12 23).toList.mapM (trO Tryd.prog 112 (ro Tryd.f12 23)) = some a12_23 := by kernel_rfl
def a12_24 : List AO := [⟨(some 111), none, .mv (.t 3)⟩,
  ⟨(some 2), none, .mv (.t 111)⟩]
theorem tr12_24 : (ro Tryd.f12 24).toList.mapM (trO Tryd.prog 112 (ro Tryd.f12 24)) = some a12_24 := by kernel_rfl
/-- airline/balance.Point -/
noncomputable def c13 : Code := .seq (.region 0 (ro Tryd.f13 0) false) (.seq (.seq (.region 1 (ro Tryd.f13 1) false) (.cond (.tmp 16) (.seq (.region 2 (ro Tryd.f13 2) false) (.ret)) (.skip))) (.seq (.seq (.region 3 (ro Tryd.f13 3) false) (.block 0 (.loop (.seq (.region 4 (ro Tryd.f13 4) false) (.seq (.cond (.tmp 21) (.skip) (.exit 0)) (.seq (.block 1 (.seq (.region 5 (ro Tryd.f13 5) false) (.seq (.region 6 (ro Tryd.f13 6) false) (.cond (.tmp 25) (.seq (.region 7 (ro Tryd.f13 7) false) (.ret)) (.skip))))) (.region 8 (ro Tryd.f13 8) false))))))) (.seq (.region 9 (ro Tryd.f13 9) false) (.seq (.seq (.region 10 (ro Tryd.f13 10) false) (.block 2 (.loop (.seq (.region 11 (ro Tryd.f13 11) false) (.seq (.cond (.tmp 36) (.skip) (.exit 2)) (.seq (.block 3 (.seq (.region 12 (ro Tryd.f13 12) false) (.seq (.seq (.region 13 (ro Tryd.f13 13) false) (.cond (.tmp 47) (.seq (.region 14 (ro Tryd.f13 14) false) (.ret)) (.skip))) (.seq (.region 15 (ro Tryd.f13 15) false) (.region 16 (ro Tryd.f13 16) true))))) (.region 17 (ro Tryd.f13 17) false))))))) (.seq (.region 18 (ro Tryd.f13 18) false) (.ret))))))
theorem body13 : Tryd.f13.body = some c13 := by kernel_rfl
theorem res13 : Tryd.f13.results.toList.mapM (trR Tryd.prog) = some [.c (some 2) 4, .t 5] := by kernel_rfl
theorem nt13 : Tryd.f13.ntmps = 68 := by kernel_rfl
theorem nm13 : (Tryd.f13.name == "runtime.NumGoroutine") = false := by kernel_rfl
def a13_0 : List AO := [⟨(some 2), none, .box 25 (.t 0)⟩,
  ⟨(some 4), none, .alloc 33 [(.int .i64 0), (.int .i64 0)]⟩,
  ⟨(some 5), none, .mv (.v (.int .i64 0))⟩]
theorem tr13_0 : (ro Tryd.f13 0).toList.mapM (trO Tryd.prog 68 (ro Tryd.f13 0)) = some a13_0 := by kernel_rfl
def a13_1 : List AO := [⟨(some 11), none, .mv (.t 1)⟩,
  ⟨(some 12), none, .len (.t 11)⟩,
  ⟨(some 13), none, .fld 2 (.t 2)⟩,
  ⟨(some 14), none, .load none (.t 13)⟩,
  ⟨(some 15), none, .len (.t 14)⟩,
  ⟨(some 16), none, .bin .neq (.t 12) (.t 15)⟩]
theorem tr13_1 : (ro Tryd.f13 1).toList.mapM (trO Tryd.prog 68 (ro Tryd.f13 1)) = some a13_1 := by kernel_rfl
def a13_2 : List AO := [⟨(some 17), none, .build [(.int .i64 0), (.int .i64 0)] []⟩,
  ⟨none, none, .store 2 (.t 4) (.t 17)⟩,
  ⟨(some 5), none, .mv (.v (.int .i64 2))⟩]
theorem tr13_2 : (ro Tryd.f13 2).toList.mapM (trO Tryd.prog 68 (ro Tryd.f13 2)) = some a13_2 := by kernel_rfl
def a13_3 : List AO := [⟨(some 18), none, .mv (.t 1)⟩,
  ⟨(some 19), none, .len (.t 18)⟩,
  ⟨(some 20), none, .mv (.v (.int .i64 0))⟩]
theorem tr13_3 : (ro Tryd.f13 3).toList.mapM (trO Tryd.prog 68 (ro Tryd.f13 3)) = some a13_3 := by kernel_rfl
def a13_4 : List AO := [⟨(some 21), none, .bin .lss (.t 20) (.t 19)⟩]
theorem tr13_4 : (ro Tryd.f13 4).toList.mapM (trO Tryd.prog 68 (ro Tryd.f13 4)) = some a13_4 := by kernel_rfl
def a13_5 : List AO := [⟨(some 22), none, .idx 1 (.t 18) (.t 20)⟩,
  ⟨(some 23), none, .load none (.t 22)⟩,
  ⟨(some 7), none, .mv (.t 23)⟩]
theorem tr13_5 : (ro Tryd.f13 5).toList.mapM (trO Tryd.prog 68 (ro Tryd.f13 5)) = some a13_5 := by kernel_rfl
def a13_6 : List AO := [⟨(some 24), none, .mv (.t 7)⟩,
  ⟨(some 25), none, .bin .lss (.t 24) (.v (.int .i64 0))⟩]
theorem tr13_6 : (ro Tryd.f13 6).toList.mapM (trO Tryd.prog 68 (ro Tryd.f13 6)) = some a13_6 := by kernel_rfl
def a13_7 : List AO := [⟨(some 26), none, .build [(.int .i64 0), (.int .i64 0)] []⟩,
  ⟨none, none, .store 2 (.t 4) (.t 26)⟩,
  ⟨(some 5), none, .mv (.v (.int .i64 2))⟩]
theorem tr13_7 : (ro Tryd.f13 7).toList.mapM (trO Tryd.prog 68 (ro Tryd.f13 7)) = some a13_7 := by kernel_rfl
def a13_8 : List AO := [⟨(some 27), none, .bin .add (.t 20) (.v (.int .i64 1))⟩,
  ⟨(some 20), none, .mv (.t 27)⟩]
theorem tr13_8 : (ro Tryd.f13 8).toList.mapM (trO Tryd.prog 68 (ro Tryd.f13 8)) = some a13_8 := by kernel_rfl
def a13_9 : List AO := [⟨(some 28), none, .fld 0 (.t 2)⟩,
  ⟨(some 29), none, .load none (.t 28)⟩,
  ⟨(some 30), none, .fld 1 (.t 2)⟩,
  ⟨(some 31), none, .load none (.t 30)⟩,
  ⟨(some 32), none, .build [(.int .i64 0), (.int .i64 0)] [(0, 1, (.t 29)), (1, 1, (.t 31))]⟩,
  ⟨(some 8), none, .alloc 33 [(.int .i64 0), (.int .i64 0)]⟩,
  ⟨none, none, .store 2 (.t 8) (.t 32)⟩]
theorem tr13_9 : (ro Tryd.f13 9).toList.mapM (trO Tryd.prog 68 (ro Tryd.f13 9)) = some a13_9 := by kernel_rfl
def a13_10 : List AO := [⟨(some 33), none, .mv (.t 1)⟩,
  ⟨(some 34), none, .len (.t 33)⟩,
  ⟨(some 35), none, .mv (.v (.int .i64 0))⟩]
theorem tr13_10 : (ro Tryd.f13 10).toList.mapM (trO Tryd.prog 68 (ro Tryd.f13 10)) = some a13_10 := by kernel_rfl
def a13_11 : List AO := [⟨(some 36), none, .bin .lss (.t 35) (.t 34)⟩]
theorem tr13_11 : (ro Tryd.f13 11).toList.mapM (trO Tryd.prog 68 (ro Tryd.f13 11)) = some a13_11 := by kernel_rfl
def a13_12 : List AO := [⟨(some 37), none, .mv (.t 35)⟩,
  ⟨(some 38), none, .idx 1 (.t 33) (.t 35)⟩,
  ⟨(some 39), none, .load none (.t 38)⟩,
  ⟨(some 9), none, .mv (.t 37)⟩,
  ⟨(some 10), none, .mv (.t 39)⟩]
theorem tr13_12 : (ro Tryd.f13 12).toList.mapM (trO Tryd.prog 68 (ro Tryd.f13 12)) = some a13_12 := by kernel_rfl
def a13_13 : List AO := [⟨(some 40), none, .mv (.t 10)⟩,
  ⟨(some 41), none, .fld 2 (.t 2)⟩,
  ⟨(some 42), none, .load none (.t 41)⟩,
  ⟨(some 43), none, .mv (.t 9)⟩,
  ⟨(some 44), none, .idx 2 (.t 42) (.t 43)⟩,
  ⟨(some 45), none, .fld 1 (.t 44)⟩,
  ⟨(some 46), none, .load none (.t 45)⟩,
  ⟨(some 47), none, .bin .gtr (.t 40) (.t 46)⟩]
theorem tr13_13 : (ro Tryd.f13 13).toList.mapM (trO Tryd.prog 68 (ro Tryd.f13 13)) = some a13_13 := by kernel_rfl
def a13_14 : List AO := [⟨(some 48), none, .build [(.int .i64 0), (.int .i64 0)] []⟩,
  ⟨none, none, .store 2 (.t 4) (.t 48)⟩,
  ⟨(some 5), none, .mv (.v (.int .i64 32))⟩]
theorem tr13_14 : (ro Tryd.f13 14).toList.mapM (trO Tryd.prog 68 (ro Tryd.f13 14)) = some a13_14 := by kernel_rfl
def a13_15 : List AO := [⟨(some 49), none, .fld 0 (.t 8)⟩,
  ⟨(some 50), none, .load none (.t 49)⟩,
  ⟨(some 51), none, .mv (.t 10)⟩,
  ⟨(some 52), none, .bin .add (.t 50) (.t 51)⟩,
  ⟨(some 53), none, .fld 0 (.t 8)⟩,
  ⟨none, none, .store 1 (.t 53) (.t 52)⟩]
theorem tr13_15 : (ro Tryd.f13 15).toList.mapM (trO Tryd.prog 68 (ro Tryd.f13 15)) = some a13_15 := by kernel_rfl
def a13_16 : List AO := [⟨(some 54), none, .fld 1 (.t 8)⟩,
  ⟨(some 55), none, .load none (.t 54)⟩,
  ⟨(some 56), none, .mv (.t 10)⟩,
  ⟨(some 57), none, .fld 2 (.t 2)⟩,
  ⟨(some 58), none, .load none (.t 57)⟩,
  ⟨(some 59), none, .mv (.t 9)⟩,
  ⟨(some 60), none, .idx 2 (.t 58) (.t 59)⟩,
  ⟨(some 61), none, .fld 0 (.t 60)⟩,
  ⟨(some 62), none, .load none (.t 61)⟩,
  ⟨(some 63), none, .bin .mul (.t 56) (.t 62)⟩,
  ⟨(some 64), none, .bin .add (.t 55) (.t 63)⟩,
  ⟨(some 65), none, .fld 1 (.t 8)⟩,
  ⟨none, none, .store 1 (.t 65) (.t 64)⟩]
theorem tr13_16 : (ro Tryd.f13 16).toList.mapM (trO Tryd.prog 68 (ro Tryd.f13 16)) = some a13_16 := by kernel_rfl
def d13_16 : List (List Nat) := [[], [0], [], [], [3], [], [3, 4, 5], [3, 4, 5, 6], [3, 4, 5, 6, 7], [2, 3, 4, 5, 6, 7, 8], [0, 1, 2, 3, 4, 5, 6, 7, 8, 9], [0, 1, 2, 3, 4, 5, 6, 7, 8, 9, 10], [0, 1, 2, 3, 4, 5, 6, 7, 8, 9, 10, 11]]
theorem ok13_16 : okReg (ro Tryd.f13 16) a13_16 d13_16 = true := by kernel_rfl
def a13_17 : List AO := [⟨(some 66), none, .bin .add (.t 35) (.v (.int .i64 1))⟩,
  ⟨(some 35), none, .mv (.t 66)⟩]
theorem tr13_17 : (ro Tryd.f13 17).toList.mapM (trO Tryd.prog 68 (ro Tryd.f13 17)) = some a13_17 := by kernel_rfl
def a13_18 : List AO := [⟨(some 67), none, .load (some 2) (.t 8)⟩,
  ⟨none, none, .store 2 (.t 4) (.t 67)⟩,
  ⟨(some 5), none, .mv (.v (.int .i64 0))⟩]
theorem tr13_18 : (ro Tryd.f13 18).toList.mapM (trO Tryd.prog 68 (ro Tryd.f13 18)) = some a13_18 := by kernel_rfl
/-- airline/airlineref49.Point -/
noncomputable def c14 : Code := .seq (.region 0 (ro Tryd.f14 0) false) (.seq (.seq (.region 1 (ro Tryd.f14 1) false) (.cond (.tmp 14) (.seq (.region 2 (ro Tryd.f14 2) false) (.ret)) (.skip))) (.seq (.seq (.region 3 (ro Tryd.f14 3) false) (.block 0 (.loop (.seq (.seq (.region 4 (ro Tryd.f14 4) false) (.cond (.tmp 19) (.skip) (.exit 0))) (.seq (.block 1 (.seq (.region 6 (ro Tryd.f14 6) false) (.cond (.tmp 26) (.seq (.region 7 (ro Tryd.f14 7) false) (.ret)) (.skip)))) (.region 5 (ro Tryd.f14 5) false)))))) (.seq (.region 8 (ro Tryd.f14 8) false) (.seq (.seq (.region 9 (ro Tryd.f14 9) false) (.block 2 (.loop (.seq (.seq (.region 10 (ro Tryd.f14 10) false) (.cond (.tmp 36) (.skip) (.exit 2))) (.seq (.block 3 (.seq (.seq (.region 12 (ro Tryd.f14 12) true) (.cond (.tmp 49) (.seq (.region 13 (ro Tryd.f14 13) false) (.ret)) (.skip))) (.region 14 (ro Tryd.f14 14) true))) (.region 11 (ro Tryd.f14 11) false)))))) (.seq (.region 15 (ro Tryd.f14 15) false) (.ret))))))
theorem body14 : Tryd.f14.body = some c14 := by kernel_rfl
theorem res14 : Tryd.f14.results.toList.mapM (trR Tryd.prog) = some [.c (some 2) 4, .t 5] := by kernel_rfl
theorem nt14 : Tryd.f14.ntmps = 75 := by kernel_rfl
theorem nm14 : (Tryd.f14.name == "runtime.NumGoroutine") = false := by kernel_rfl
def a14_0 : List AO := [⟨(some 2), none, .box 25 (.t 0)⟩,
  ⟨(some 4), none, .alloc 33 [(.int .i64 0), (.int .i64 0)]⟩,
  ⟨(some 5), none, .mv (.v (.int .i64 0))⟩]
theorem tr14_0 : (ro Tryd.f14 0).toList.mapM (trO Tryd.prog 75 (ro Tryd.f14 0)) = some a14_0 := by kernel_rfl
def a14_1 : List AO := [⟨(some 9), none, .mv (.t 1)⟩,
  ⟨(some 10), none, .len (.t 9)⟩,
  ⟨(some 11), none, .fld 2 (.t 2)⟩,
  ⟨(some 12), none, .load none (.t 11)⟩,
  ⟨(some 13), none, .len (.t 12)⟩,
  ⟨(some 14), none, .bin .neq (.t 10) (.t 13)⟩]
theorem tr14_1 : (ro Tryd.f14 1).toList.mapM (trO Tryd.prog 75 (ro Tryd.f14 1)) = some a14_1 := by kernel_rfl
def a14_2 : List AO := [⟨(some 15), none, .build [(.int .i64 0), (.int .i64 0)] []⟩,
  ⟨none, none, .store 2 (.t 4) (.t 15)⟩,
  ⟨(some 5), none, .mv (.v (.int .i64 2))⟩]
theorem tr14_2 : (ro Tryd.f14 2).toList.mapM (trO Tryd.prog 75 (ro Tryd.f14 2)) = some a14_2 := by kernel_rfl
def a14_3 : List AO := [⟨(some 6), none, .mv (.v (.int .i64 0))⟩]
theorem tr14_3 : (ro Tryd.f14 3).toList.mapM (trO Tryd.prog 75 (ro Tryd.f14 3)) = some a14_3 := by kernel_rfl
def a14_4 : List AO := [⟨(some 16), none, .mv (.t 6)⟩,
  ⟨(some 17), none, .mv (.t 1)⟩,
  ⟨(some 18), none, .len (.t 17)⟩,
  ⟨(some 19), none, .bin .lss (.t 16) (.t 18)⟩]
theorem tr14_4 : (ro Tryd.f14 4).toList.mapM (trO Tryd.prog 75 (ro Tryd.f14 4)) = some a14_4 := by kernel_rfl
def a14_6 : List AO := [⟨(some 22), none, .mv (.t 1)⟩,
  ⟨(some 23), none, .mv (.t 6)⟩,
  ⟨(some 24), none, .idx 1 (.t 22) (.t 23)⟩,
  ⟨(some 25), none, .load none (.t 24)⟩,
  ⟨(some 26), none, .bin .lss (.t 25) (.v (.int .i64 0))⟩]
theorem tr14_6 : (ro Tryd.f14 6).toList.mapM (trO Tryd.prog 75 (ro Tryd.f14 6)) = some a14_6 := by kernel_rfl
def a14_7 : List AO := [⟨(some 27), none, .build [(.int .i64 0), (.int .i64 0)] []⟩,
  ⟨none, none, .store 2 (.t 4) (.t 27)⟩,
  ⟨(some 5), none, .mv (.v (.int .i64 2))⟩]
theorem tr14_7 : (ro Tryd.f14 7).toList.mapM (trO Tryd.prog 75 (ro Tryd.f14 7)) = some a14_7 := by kernel_rfl
def a14_5 : List AO := [⟨(some 20), none, .mv (.t 6)⟩,
  ⟨(some 21), none, .bin .add (.t 20) (.v (.int .i64 1))⟩,
  ⟨(some 6), none, .mv (.t 21)⟩]
theorem tr14_5 : (ro Tryd.f14 5).toList.mapM (trO Tryd.prog 75 (ro Tryd.f14 5)) = some a14_5 := by kernel_rfl
def a14_8 : List AO := [⟨(some 28), none, .fld 0 (.t 2)⟩,
  ⟨(some 29), none, .load none (.t 28)⟩,
  ⟨(some 30), none, .fld 1 (.t 2)⟩,
  ⟨(some 31), none, .load none (.t 30)⟩,
  ⟨(some 32), none, .build [(.int .i64 0), (.int .i64 0)] [(0, 1, (.t 29)), (1, 1, (.t 31))]⟩,
  ⟨(some 7), none, .alloc 33 [(.int .i64 0), (.int .i64 0)]⟩,
  ⟨none, none, .store 2 (.t 7) (.t 32)⟩]
theorem tr14_8 : (ro Tryd.f14 8).toList.mapM (trO Tryd.prog 75 (ro Tryd.f14 8)) = some a14_8 := by kernel_rfl
def a14_9 : List AO := [⟨(some 8), none, .mv (.v (.int .i64 0))⟩]
theorem tr14_9 : (ro Tryd.f14 9).toList.mapM (trO Tryd.prog 75 (ro Tryd.f14 9)) = some a14_9 := by kernel_rfl
def a14_10 : List AO := [⟨(some 33), none, .mv (.t 8)⟩,
  ⟨(some 34), none, .mv (.t 1)⟩,
  ⟨(some 35), none, .len (.t 34)⟩,
  ⟨(some 36), none, .bin .lss (.t 33) (.t 35)⟩]
theorem tr14_10 : (ro Tryd.f14 10).toList.mapM (trO Tryd.prog 75 (ro Tryd.f14 10)) = some a14_10 := by kernel_rfl
def a14_12 : List AO := [⟨(some 39), none, .mv (.t 1)⟩,
  ⟨(some 40), none, .mv (.t 8)⟩,
  ⟨(some 41), none, .idx 1 (.t 39) (.t 40)⟩,
  ⟨(some 42), none, .load none (.t 41)⟩,
  ⟨(some 43), none, .fld 2 (.t 2)⟩,
  ⟨(some 44), none, .load none (.t 43)⟩,
  ⟨(some 45), none, .mv (.t 8)⟩,
  ⟨(some 46), none, .idx 2 (.t 44) (.t 45)⟩,
  ⟨(some 47), none, .fld 1 (.t 46)⟩,
  ⟨(some 48), none, .load none (.t 47)⟩,
  ⟨(some 49), none, .bin .gtr (.t 42) (.t 48)⟩]
theorem tr14_12 : (ro Tryd.f14 12).toList.mapM (trO Tryd.prog 75 (ro Tryd.f14 12)) = some a14_12 := by kernel_rfl
def d14_12 : List (List Nat) := [[], [], [0, 1], [0, 1, 2], [], [4], [], [4, 5, 6], [4, 5, 6, 7], [4, 5, 6, 7, 8], [0, 1, 2, 3, 4, 5, 6, 7, 8, 9]]
theorem ok14_12 : okReg (ro Tryd.f14 12) a14_12 d14_12 = true := by kernel_rfl
def a14_13 : List AO := [⟨(some 50), none, .build [(.int .i64 0), (.int .i64 0)] []⟩,
  ⟨none, none, .store 2 (.t 4) (.t 50)⟩,
  ⟨(some 5), none, .mv (.v (.int .i64 32))⟩]
theorem tr14_13 : (ro Tryd.f14 13).toList.mapM (trO Tryd.prog 75 (ro Tryd.f14 13)) = some a14_13 := by kernel_rfl
def a14_14 : List AO := [⟨(some 51), none, .fld 0 (.t 7)⟩,
  ⟨(some 52), none, .load none (.t 51)⟩,
  ⟨(some 53), none, .mv (.t 1)⟩,
  ⟨(some 54), none, .mv (.t 8)⟩,
  ⟨(some 55), none, .idx 1 (.t 53) (.t 54)⟩,
  ⟨(some 56), none, .load none (.t 55)⟩,
  ⟨(some 57), none, .bin .add (.t 52) (.t 56)⟩,
  ⟨(some 58), none, .fld 1 (.t 7)⟩,
  ⟨(some 59), none, .load none (.t 58)⟩,
  ⟨(some 60), none, .mv (.t 1)⟩,
  ⟨(some 61), none, .mv (.t 8)⟩,
  ⟨(some 62), none, .idx 1 (.t 60) (.t 61)⟩,
  ⟨(some 63), none, .load none (.t 62)⟩,
  ⟨(some 64), none, .fld 2 (.t 2)⟩,
  ⟨(some 65), none, .load none (.t 64)⟩,
  ⟨(some 66), none, .mv (.t 8)⟩,
  ⟨(some 67), none, .idx 2 (.t 65) (.t 66)⟩,
  ⟨(some 68), none, .fld 0 (.t 67)⟩,
  ⟨(some 69), none, .load none (.t 68)⟩,
  ⟨(some 70), none, .bin .mul (.t 63) (.t 69)⟩,
  ⟨(some 71), none, .bin .add (.t 59) (.t 70)⟩,
  ⟨(some 72), none, .fld 0 (.t 7)⟩,
  ⟨none, none, .store 1 (.t 72) (.t 57)⟩,
  ⟨(some 73), none, .fld 1 (.t 7)⟩,
  ⟨none, none, .store 1 (.t 73) (.t 71)⟩]
theorem tr14_14 : (ro Tryd.f14 14).toList.mapM (trO Tryd.prog 75 (ro Tryd.f14 14)) = some a14_14 := by kernel_rfl
def d14_14 : List (List Nat) := [[], [0], [], [], [2, 3], [2, 3, 4], [0, 1, 2, 3, 4, 5], [], [7], [], [], [9, 10], [9, 10, 11], [], [13], [], [13, 14, 15], [13, 14, 15, 16], [13, 14, 15, 16, 17], [9, 10, 11, 12, 13, 14, 15, 16, 17, 18], [7, 8, 9, 10, 11, 12, 13, 14, 15, 16, 17, 18, 19], [0, 1, 2, 3, 4, 5, 6, 7, 8], [0, 1, 2, 3, 4, 5, 6, 7, 8, 21], [0, 1, 2, 3, 4, 5, 6, 7, 8, 9, 10, 11, 12, 13, 14, 15, 16, 17, 18, 19, 20, 21, 22], [0, 1, 2, 3, 4, 5, 6, 7, 8, 9, 10, 11, 12, 13, 14, 15, 16, 17, 18, 19, 20, 21, 22, 23]]
theorem ok14_14 : okReg (ro Tryd.f14 14) a14_14 d14_14 = true := by kernel_rfl
def a14_11 : List AO := [⟨(some 37), none, .mv (.t 8)⟩,
  ⟨(some 38), none, .bin .add (.t 37) (.v (.int .i64 1))⟩,
  ⟨(some 8), none, .mv (.t 38)⟩]
theorem tr14_11 : (ro Tryd.f14 11).toList.mapM (trO Tryd.prog 75 (ro Tryd.f14 11)) = some a14_11 := by kernel_rfl
def a14_15 : List AO := [⟨(some 74), none, .load (some 2) (.t 7)⟩,
  ⟨none, none, .store 2 (.t 4) (.t 74)⟩,
  ⟨(some 5), none, .mv (.v (.int .i64 0))⟩]
theorem tr14_15 : (ro Tryd.f14 15).toList.mapM (trO Tryd.prog 75 (ro Tryd.f14 15)) = some a14_15 := by kernel_rfl
/-- airline/balance.Fits -/
noncomputable def c15 : Code := .seq (.region 0 (ro Tryd.f15 0) false) (.seq (.region 1 (ro Tryd.f15 1) false) (.seq (.seq (.region 2 (ro Tryd.f15 2) false) (.cond (.tmp 14) (.seq (.region 3 (ro Tryd.f15 3) false) (.ret)) (.skip))) (.seq (.seq (.region 4 (ro Tryd.f15 4) false) (.cond (.tmp 20) (.seq (.region 5 (ro Tryd.f15 5) false) (.ret)) (.skip))) (.seq (.region 6 (ro Tryd.f15 6) false) (.ret)))))
theorem body15 : Tryd.f15.body = some c15 := by kernel_rfl
theorem res15 : Tryd.f15.results.toList.mapM (trR Tryd.prog) = some [.t 4] := by kernel_rfl
theorem nt15 : Tryd.f15.ntmps = 21 := by kernel_rfl
theorem nm15 : (Tryd.f15.name == "runtime.NumGoroutine") = false := by kernel_rfl
def a15_0 : List AO := [⟨(some 2), none, .box 25 (.t 0)⟩,
  ⟨(some 4), none, .mv (.v (.int .i64 0))⟩]
theorem tr15_0 : (ro Tryd.f15 0).toList.mapM (trO Tryd.prog 21 (ro Tryd.f15 0)) = some a15_0 := by kernel_rfl
def a15_1 : List AO := [⟨(some 8), none, .load (some 4) (.t 2)⟩,
  ⟨(some 9), none, .mv (.t 1)⟩,
  ⟨(some 10), none, .call 13 [(.t 8), (.t 9)]⟩,
  ⟨(some 7), none, .mv (.t 10)⟩,
  ⟨(some 11), none, .ext 0 (.t 7)⟩,
  ⟨(some 12), none, .ext 1 (.t 7)⟩,
  ⟨(some 5), none, .alloc 33 [(.int .i64 0), (.int .i64 0)]⟩,
  ⟨none, none, .store 2 (.t 5) (.t 11)⟩,
  ⟨(some 6), none, .mv (.t 12)⟩]
theorem tr15_1 : (ro Tryd.f15 1).toList.mapM (trO Tryd.prog 21 (ro Tryd.f15 1)) = some a15_1 := by kernel_rfl
def a15_2 : List AO := [⟨(some 13), none, .mv (.t 6)⟩,
  ⟨(some 14), none, .bin .neq (.t 13) (.v (.int .i64 0))⟩]
theorem tr15_2 : (ro Tryd.f15 2).toList.mapM (trO Tryd.prog 21 (ro Tryd.f15 2)) = some a15_2 := by kernel_rfl
def a15_3 : List AO := [⟨(some 15), none, .mv (.t 6)⟩,
  ⟨(some 4), none, .mv (.t 15)⟩]
theorem tr15_3 : (ro Tryd.f15 3).toList.mapM (trO Tryd.prog 21 (ro Tryd.f15 3)) = some a15_3 := by kernel_rfl
def a15_4 : List AO := [⟨(some 16), none, .fld 3 (.t 2)⟩,
  ⟨(some 17), none, .load none (.t 16)⟩,
  ⟨(some 18), none, .load (some 2) (.t 5)⟩,
  ⟨(some 19), none, .call 17 [(.t 17), (.t 18)]⟩,
  ⟨(some 20), none, .un .not (.t 19)⟩]
theorem tr15_4 : (ro Tryd.f15 4).toList.mapM (trO Tryd.prog 21 (ro Tryd.f15 4)) = some a15_4 := by kernel_rfl
def a15_5 : List AO := [⟨(some 4), none, .mv (.v (.int .i64 33))⟩]
theorem tr15_5 : (ro Tryd.f15 5).toList.mapM (trO Tryd.prog 21 (ro Tryd.f15 5)) = some a15_5 := by kernel_rfl
def a15_6 : List AO := [⟨(some 4), none, .mv (.v (.int .i64 0))⟩]
theorem tr15_6 : (ro Tryd.f15 6).toList.mapM (trO Tryd.prog 21 (ro Tryd.f15 6)) = some a15_6 := by kernel_rfl
/-- airline/airlineref49.Fits -/
noncomputable def c16 : Code := .seq (.region 0 (ro Tryd.f16 0) false) (.seq (.region 1 (ro Tryd.f16 1) false) (.seq (.seq (.region 2 (ro Tryd.f16 2) false) (.cond (.tmp 21) (.seq (.region 3 (ro Tryd.f16 3) false) (.ret)) (.skip))) (.seq (.region 4 (ro Tryd.f16 4) false) (.ret))))
theorem body16 : Tryd.f16.body = some c16 := by kernel_rfl
theorem res16 : Tryd.f16.results.toList.mapM (trR Tryd.prog) = some [.t 4] := by kernel_rfl
theorem nt16 : Tryd.f16.ntmps = 23 := by kernel_rfl
theorem nm16 : (Tryd.f16.name == "runtime.NumGoroutine") = false := by kernel_rfl
def a16_0 : List AO := [⟨(some 2), none, .box 25 (.t 0)⟩,
  ⟨(some 4), none, .mv (.v (.int .i64 0))⟩]
theorem tr16_0 : (ro Tryd.f16 0).toList.mapM (trO Tryd.prog 23 (ro Tryd.f16 0)) = some a16_0 := by kernel_rfl
def a16_1 : List AO := [⟨(some 8), none, .load (some 4) (.t 2)⟩,
  ⟨(some 9), none, .mv (.t 1)⟩,
  ⟨(some 10), none, .call 14 [(.t 8), (.t 9)]⟩,
  ⟨(some 7), none, .mv (.t 10)⟩,
  ⟨(some 11), none, .ext 0 (.t 7)⟩,
  ⟨(some 12), none, .ext 1 (.t 7)⟩,
  ⟨(some 5), none, .alloc 33 [(.int .i64 0), (.int .i64 0)]⟩,
  ⟨none, none, .store 2 (.t 5) (.t 11)⟩,
  ⟨(some 6), none, .mv (.t 12)⟩]
theorem tr16_1 : (ro Tryd.f16 1).toList.mapM (trO Tryd.prog 23 (ro Tryd.f16 1)) = some a16_1 := by kernel_rfl
def a16_2 : List AO := [⟨(some 13), none, .mv (.t 6)⟩,
  ⟨(some 14), none, .bin .eql (.t 13) (.v (.int .i64 0))⟩,
  ⟨(some 15), none, .mv (.t 14)⟩,
  ⟨(some 16), some (15, true), .fld 3 (.t 2)⟩,
  ⟨(some 17), some (15, true), .load none (.t 16)⟩,
  ⟨(some 18), some (15, true), .load (some 2) (.t 5)⟩,
  ⟨(some 19), some (15, true), .call 18 [(.t 17), (.t 18)]⟩,
  ⟨(some 20), some (15, true), .un .not (.t 19)⟩,
  ⟨(some 21), none, .pick (.t 15) (.t 20) (.v (.bool false))⟩]
theorem tr16_2 : (ro Tryd.f16 2).toList.mapM (trO Tryd.prog 23 (ro Tryd.f16 2)) = some a16_2 := by kernel_rfl
def a16_3 : List AO := [⟨(some 4), none, .mv (.v (.int .i64 33))⟩]
theorem tr16_3 : (ro Tryd.f16 3).toList.mapM (trO Tryd.prog 23 (ro Tryd.f16 3)) = some a16_3 := by kernel_rfl
def a16_4 : List AO := [⟨(some 22), none, .mv (.t 6)⟩,
  ⟨(some 4), none, .mv (.t 22)⟩]
theorem tr16_4 : (ro Tryd.f16 4).toList.mapM (trO Tryd.prog 23 (ro Tryd.f16 4)) = some a16_4 := by kernel_rfl
/-- airline/balance.Inside -/
noncomputable def c17 : Code := .seq (.region 0 (ro Tryd.f17 0) false) (.seq (.seq (.region 1 (ro Tryd.f17 1) false) (.cond (.tmp 16) (.seq (.region 2 (ro Tryd.f17 2) false) (.ret)) (.skip))) (.seq (.region 3 (ro Tryd.f17 3) true) (.seq (.seq (.region 4 (ro Tryd.f17 4) false) (.block 0 (.loop (.seq (.region 5 (ro Tryd.f17 5) false) (.seq (.cond (.tmp 26) (.skip) (.exit 0)) (.seq (.block 1 (.seq (.region 6 (ro Tryd.f17 6) false) (.seq (.region 7 (ro Tryd.f17 7) false) (.region 8 (ro Tryd.f17 8) false)))) (.region 9 (ro Tryd.f17 9) false))))))) (.seq (.seq (.region 10 (ro Tryd.f17 10) false) (.cond (.tmp 69) (.seq (.region 11 (ro Tryd.f17 11) false) (.ret)) (.skip))) (.seq (.region 12 (ro Tryd.f17 12) false) (.seq (.seq (.region 13 (ro Tryd.f17 13) false) (.block 2 (.loop (.seq (.region 14 (ro Tryd.f17 14) false) (.seq (.cond (.tmp 73) (.skip) (.exit 2)) (.seq (.block 3 (.seq (.region 15 (ro Tryd.f17 15) false) (.seq (.region 16 (ro Tryd.f17 16) true) (.seq (.region 17 (ro Tryd.f17 17) false) (.region 18 (ro Tryd.f17 18) false))))) (.region 19 (ro Tryd.f17 19) false))))))) (.seq (.region 20 (ro Tryd.f17 20) false) (.ret))))))))
theorem body17 : Tryd.f17.body = some c17 := by kernel_rfl
theorem res17 : Tryd.f17.results.toList.mapM (trR Tryd.prog) = some [.t 4] := by kernel_rfl
theorem nt17 : Tryd.f17.ntmps = 105 := by kernel_rfl
theorem nm17 : (Tryd.f17.name == "runtime.NumGoroutine") = false := by kernel_rfl
def a17_0 : List AO := [⟨(some 3), none, .box 33 (.t 1)⟩,
  ⟨(some 4), none, .mv (.v (.bool false))⟩]
theorem tr17_0 : (ro Tryd.f17 0).toList.mapM (trO Tryd.prog 105 (ro Tryd.f17 0)) = some a17_0 := by kernel_rfl
def a17_1 : List AO := [⟨(some 14), none, .mv (.t 0)⟩,
  ⟨(some 15), none, .len (.t 14)⟩,
  ⟨(some 16), none, .bin .eql (.t 15) (.v (.int .i64 0))⟩]
theorem tr17_1 : (ro Tryd.f17 1).toList.mapM (trO Tryd.prog 105 (ro Tryd.f17 1)) = some a17_1 := by kernel_rfl
def a17_2 : List AO := [⟨(some 4), none, .mv (.v (.bool false))⟩]
theorem tr17_2 : (ro Tryd.f17 2).toList.mapM (trO Tryd.prog 105 (ro Tryd.f17 2)) = some a17_2 := by kernel_rfl
def a17_3 : List AO := [⟨(some 17), none, .mv (.t 0)⟩,
  ⟨(some 18), none, .idx 2 (.t 17) (.v (.int .i64 0))⟩,
  ⟨(some 19), none, .load (some 2) (.t 18)⟩,
  ⟨(some 20), none, .mv (.t 0)⟩,
  ⟨(some 21), none, .idx 2 (.t 20) (.v (.int .i64 0))⟩,
  ⟨(some 22), none, .load (some 2) (.t 21)⟩,
  ⟨(some 5), none, .alloc 33 [(.int .i64 0), (.int .i64 0)]⟩,
  ⟨(some 6), none, .alloc 33 [(.int .i64 0), (.int .i64 0)]⟩,
  ⟨none, none, .store 2 (.t 5) (.t 19)⟩,
  ⟨none, none, .store 2 (.t 6) (.t 22)⟩]
theorem tr17_3 : (ro Tryd.f17 3).toList.mapM (trO Tryd.prog 105 (ro Tryd.f17 3)) = some a17_3 := by kernel_rfl
def d17_3 : List (List Nat) := [[], [0], [0, 1], [], [3], [3, 4], [], [], [0, 1, 2, 6, 7], [0, 1, 2, 3, 4, 5, 6, 7, 8]]
theorem ok17_3 : okReg (ro Tryd.f17 3) a17_3 d17_3 = true := by kernel_rfl
def a17_4 : List AO := [⟨(some 23), none, .mv (.t 0)⟩,
  ⟨(some 24), none, .len (.t 23)⟩,
  ⟨(some 25), none, .mv (.v (.int .i64 0))⟩]
theorem tr17_4 : (ro Tryd.f17 4).toList.mapM (trO Tryd.prog 105 (ro Tryd.f17 4)) = some a17_4 := by kernel_rfl
def a17_5 : List AO := [⟨(some 26), none, .bin .lss (.t 25) (.t 24)⟩]
theorem tr17_5 : (ro Tryd.f17 5).toList.mapM (trO Tryd.prog 105 (ro Tryd.f17 5)) = some a17_5 := by kernel_rfl
def a17_6 : List AO := [⟨(some 27), none, .idx 2 (.t 23) (.t 25)⟩,
  ⟨(some 28), none, .load (some 2) (.t 27)⟩,
  ⟨(some 8), none, .alloc 33 [(.int .i64 0), (.int .i64 0)]⟩,
  ⟨none, none, .store 2 (.t 8) (.t 28)⟩]
theorem tr17_6 : (ro Tryd.f17 6).toList.mapM (trO Tryd.prog 105 (ro Tryd.f17 6)) = some a17_6 := by kernel_rfl
def a17_7 : List AO := [⟨(some 29), none, .fld 0 (.t 5)⟩,
  ⟨(some 30), none, .load none (.t 29)⟩,
  ⟨(some 31), none, .fld 0 (.t 8)⟩,
  ⟨(some 32), none, .load none (.t 31)⟩,
  ⟨(some 33), none, .mn (.t 30) (.t 32)⟩,
  ⟨(some 34), none, .fld 1 (.t 5)⟩,
  ⟨(some 35), none, .load none (.t 34)⟩,
  ⟨(some 36), none, .fld 1 (.t 8)⟩,
  ⟨(some 37), none, .load none (.t 36)⟩,
  ⟨(some 38), none, .mn (.t 35) (.t 37)⟩,
  ⟨(some 39), none, .build [(.int .i64 0), (.int .i64 0)] [(0, 1, (.t 33)), (1, 1, (.t 38))]⟩,
  ⟨none, none, .store 2 (.t 5) (.t 39)⟩]
theorem tr17_7 : (ro Tryd.f17 7).toList.mapM (trO Tryd.prog 105 (ro Tryd.f17 7)) = some a17_7 := by kernel_rfl
def a17_8 : List AO := [⟨(some 40), none, .fld 0 (.t 6)⟩,
  ⟨(some 41), none, .load none (.t 40)⟩,
  ⟨(some 42), none, .fld 0 (.t 8)⟩,
  ⟨(some 43), none, .load none (.t 42)⟩,
  ⟨(some 44), none, .mx (.t 41) (.t 43)⟩,
  ⟨(some 45), none, .fld 1 (.t 6)⟩,
  ⟨(some 46), none, .load none (.t 45)⟩,
  ⟨(some 47), none, .fld 1 (.t 8)⟩,
  ⟨(some 48), none, .load none (.t 47)⟩,
  ⟨(some 49), none, .mx (.t 46) (.t 48)⟩,
  ⟨(some 50), none, .build [(.int .i64 0), (.int .i64 0)] [(0, 1, (.t 44)), (1, 1, (.t 49))]⟩,
  ⟨none, none, .store 2 (.t 6) (.t 50)⟩]
theorem tr17_8 : (ro Tryd.f17 8).toList.mapM (trO Tryd.prog 105 (ro Tryd.f17 8)) = some a17_8 := by kernel_rfl
def a17_9 : List AO := [⟨(some 51), none, .bin .add (.t 25) (.v (.int .i64 1))⟩,
  ⟨(some 25), none, .mv (.t 51)⟩]
theorem tr17_9 : (ro Tryd.f17 9).toList.mapM (trO Tryd.prog 105 (ro Tryd.f17 9)) = some a17_9 := by kernel_rfl
def a17_10 : List AO := [⟨(some 52), none, .fld 0 (.t 3)⟩,
  ⟨(some 53), none, .load none (.t 52)⟩,
  ⟨(some 54), none, .fld 0 (.t 5)⟩,
  ⟨(some 55), none, .load none (.t 54)⟩,
  ⟨(some 56), none, .fld 0 (.t 6)⟩,
  ⟨(some 57), none, .load none (.t 56)⟩,
  ⟨(some 58), none, .call 23 [(.t 53), (.t 55), (.t 57)]⟩,
  ⟨(some 59), none, .un .not (.t 58)⟩,
  ⟨(some 60), none, .mv (.t 59)⟩,
  ⟨(some 61), some (60, false), .fld 1 (.t 3)⟩,
  ⟨(some 62), some (60, false), .load none (.t 61)⟩,
  ⟨(some 63), some (60, false), .fld 1 (.t 5)⟩,
  ⟨(some 64), some (60, false), .load none (.t 63)⟩,
  ⟨(some 65), some (60, false), .fld 1 (.t 6)⟩,
  ⟨(some 66), some (60, false), .load none (.t 65)⟩,
  ⟨(some 67), some (60, false), .call 23 [(.t 62), (.t 64), (.t 66)]⟩,
  ⟨(some 68), some (60, false), .un .not (.t 67)⟩,
  ⟨(some 69), none, .pick (.t 60) (.v (.bool true)) (.t 68)⟩]
theorem tr17_10 : (ro Tryd.f17 10).toList.mapM (trO Tryd.prog 105 (ro Tryd.f17 10)) = some a17_10 := by kernel_rfl
def a17_11 : List AO := [⟨(some 4), none, .mv (.v (.bool false))⟩]
theorem tr17_11 : (ro Tryd.f17 11).toList.mapM (trO Tryd.prog 105 (ro Tryd.f17 11)) = some a17_11 := by kernel_rfl
def a17_12 : List AO := [⟨(some 9), none, .mv (.v (.bool false))⟩,
  ⟨(some 10), none, .mv (.v (.bool false))⟩]
theorem tr17_12 : (ro Tryd.f17 12).toList.mapM (trO Tryd.prog 105 (ro Tryd.f17 12)) = some a17_12 := by kernel_rfl
def a17_13 : List AO := [⟨(some 70), none, .mv (.t 0)⟩,
  ⟨(some 71), none, .len (.t 70)⟩,
  ⟨(some 72), none, .mv (.v (.int .i64 0))⟩]
theorem tr17_13 : (ro Tryd.f17 13).toList.mapM (trO Tryd.prog 105 (ro Tryd.f17 13)) = some a17_13 := by kernel_rfl
def a17_14 : List AO := [⟨(some 73), none, .bin .lss (.t 72) (.t 71)⟩]
theorem tr17_14 : (ro Tryd.f17 14).toList.mapM (trO Tryd.prog 105 (ro Tryd.f17 14)) = some a17_14 := by kernel_rfl
def a17_15 : List AO := [⟨(some 74), none, .mv (.t 72)⟩,
  ⟨(some 75), none, .idx 2 (.t 70) (.t 72)⟩,
  ⟨(some 76), none, .load (some 2) (.t 75)⟩,
  ⟨(some 12), none, .alloc 33 [(.int .i64 0), (.int .i64 0)]⟩,
  ⟨(some 11), none, .mv (.t 74)⟩,
  ⟨none, none, .store 2 (.t 12) (.t 76)⟩]
theorem tr17_15 : (ro Tryd.f17 15).toList.mapM (trO Tryd.prog 105 (ro Tryd.f17 15)) = some a17_15 := by kernel_rfl
def a17_16 : List AO := [⟨(some 77), none, .load (some 2) (.t 12)⟩,
  ⟨(some 78), none, .mv (.t 0)⟩,
  ⟨(some 79), none, .mv (.t 11)⟩,
  ⟨(some 80), none, .bin .add (.t 79) (.v (.int .i64 1))⟩,
  ⟨(some 81), none, .mv (.t 0)⟩,
  ⟨(some 82), none, .len (.t 81)⟩,
  ⟨(some 83), none, .bin .rem (.t 80) (.t 82)⟩,
  ⟨(some 84), none, .idx 2 (.t 78) (.t 83)⟩,
  ⟨(some 85), none, .load (some 2) (.t 84)⟩,
  ⟨(some 86), none, .load (some 2) (.t 3)⟩,
  ⟨(some 87), none, .call 30 [(.t 77), (.t 85), (.t 86)]⟩,
  ⟨(some 13), none, .mv (.t 87)⟩]
theorem tr17_16 : (ro Tryd.f17 16).toList.mapM (trO Tryd.prog 105 (ro Tryd.f17 16)) = some a17_16 := by kernel_rfl
def d17_16 : List (List Nat) := [[], [], [], [2], [], [4], [2, 3, 4, 5], [1, 2, 3, 4, 5, 6], [1, 2, 3, 4, 5, 6, 7], [], [0, 1, 2, 3, 4, 5, 6, 7, 8, 9], [0, 1, 2, 3, 4, 5, 6, 7, 8, 9, 10]]
theorem ok17_16 : okReg (ro Tryd.f17 16) a17_16 d17_16 = true := by kernel_rfl
def a17_17 : List AO := [⟨(some 88), none, .mv (.t 9)⟩,
  ⟨(some 89), none, .mv (.t 88)⟩,
  ⟨(some 90), some (89, false), .mv (.t 13)⟩,
  ⟨(some 91), some (89, false), .bin .gtr (.t 90) (.v (.int .i64 0))⟩,
  ⟨(some 92), none, .pick (.t 89) (.v (.bool true)) (.t 91)⟩,
  ⟨(some 9), none, .mv (.t 92)⟩]
theorem tr17_17 : (ro Tryd.f17 17).toList.mapM (trO Tryd.prog 105 (ro Tryd.f17 17)) = some a17_17 := by kernel_rfl
def a17_18 : List AO := [⟨(some 93), none, .mv (.t 10)⟩,
  ⟨(some 94), none, .mv (.t 93)⟩,
  ⟨(some 95), some (94, false), .mv (.t 13)⟩,
  ⟨(some 96), some (94, false), .bin .lss (.t 95) (.v (.int .i64 0))⟩,
  ⟨(some 97), none, .pick (.t 94) (.v (.bool true)) (.t 96)⟩,
  ⟨(some 10), none, .mv (.t 97)⟩]
theorem tr17_18 : (ro Tryd.f17 18).toList.mapM (trO Tryd.prog 105 (ro Tryd.f17 18)) = some a17_18 := by kernel_rfl
def a17_19 : List AO := [⟨(some 98), none, .bin .add (.t 72) (.v (.int .i64 1))⟩,
  ⟨(some 72), none, .mv (.t 98)⟩]
theorem tr17_19 : (ro Tryd.f17 19).toList.mapM (trO Tryd.prog 105 (ro Tryd.f17 19)) = some a17_19 := by kernel_rfl
def a17_20 : List AO := [⟨(some 99), none, .mv (.t 9)⟩,
  ⟨(some 100), none, .un .not (.t 99)⟩,
  ⟨(some 101), none, .mv (.t 100)⟩,
  ⟨(some 102), some (101, false), .mv (.t 10)⟩,
  ⟨(some 103), some (101, false), .un .not (.t 102)⟩,
  ⟨(some 104), none, .pick (.t 101) (.v (.bool true)) (.t 103)⟩,
  ⟨(some 4), none, .mv (.t 104)⟩]
theorem tr17_20 : (ro Tryd.f17 20).toList.mapM (trO Tryd.prog 105 (ro Tryd.f17 20)) = some a17_20 := by kernel_rfl
/-- airline/airlineref49.Inside -/
noncomputable def c18 : Code := .seq (.region 0 (ro Tryd.f18 0) false) (.seq (.region 1 (ro Tryd.f18 1) false) (.seq (.seq (.region 2 (ro Tryd.f18 2) false) (.block 0 (.loop (.seq (.seq (.region 3 (ro Tryd.f18 3) false) (.cond (.tmp 16) (.skip) (.exit 0))) (.seq (.block 1 (.seq (.region 5 (ro Tryd.f18 5) true) (.cond (.tmp 35) (.seq (.region 6 (ro Tryd.f18 6) false) (.ret)) (.skip)))) (.region 4 (ro Tryd.f18 4) false)))))) (.seq (.region 7 (ro Tryd.f18 7) false) (.ret))))
theorem body18 : Tryd.f18.body = some c18 := by kernel_rfl
theorem res18 : Tryd.f18.results.toList.mapM (trR Tryd.prog) = some [.t 4] := by kernel_rfl
theorem nt18 : Tryd.f18.ntmps = 38 := by kernel_rfl
theorem nm18 : (Tryd.f18.name == "runtime.NumGoroutine") = false := by kernel_rfl
def a18_0 : List AO := [⟨(some 3), none, .box 33 (.t 1)⟩,
  ⟨(some 4), none, .mv (.v (.bool false))⟩]
theorem tr18_0 : (ro Tryd.f18 0).toList.mapM (trO Tryd.prog 38 (ro Tryd.f18 0)) = some a18_0 := by kernel_rfl
def a18_1 : List AO := [⟨(some 7), none, .mv (.t 0)⟩,
  ⟨(some 8), none, .call 29 [(.t 7)]⟩,
  ⟨(some 5), none, .mv (.t 8)⟩]
theorem tr18_1 : (ro Tryd.f18 1).toList.mapM (trO Tryd.prog 38 (ro Tryd.f18 1)) = some a18_1 := by kernel_rfl
def a18_2 : List AO := [⟨(some 6), none, .mv (.v (.int .i64 0))⟩]
theorem tr18_2 : (ro Tryd.f18 2).toList.mapM (trO Tryd.prog 38 (ro Tryd.f18 2)) = some a18_2 := by kernel_rfl
def a18_3 : List AO := [⟨(some 9), none, .mv (.t 6)⟩,
  ⟨(some 10), none, .mv (.t 0)⟩,
  ⟨(some 11), none, .len (.t 10)⟩,
  ⟨(some 12), none, .bin .lss (.t 9) (.t 11)⟩,
  ⟨(some 13), none, .mv (.t 12)⟩,
  ⟨(some 14), some (13, true), .load (some 2) (.t 3)⟩,
  ⟨(some 15), some (13, true), .call 28 [(.t 14)]⟩,
  ⟨(some 16), none, .pick (.t 13) (.t 15) (.v (.bool false))⟩]
theorem tr18_3 : (ro Tryd.f18 3).toList.mapM (trO Tryd.prog 38 (ro Tryd.f18 3)) = some a18_3 := by kernel_rfl
def a18_5 : List AO := [⟨(some 19), none, .mv (.t 0)⟩,
  ⟨(some 20), none, .mv (.t 6)⟩,
  ⟨(some 21), none, .idx 2 (.t 19) (.t 20)⟩,
  ⟨(some 22), none, .load (some 2) (.t 21)⟩,
  ⟨(some 23), none, .mv (.t 0)⟩,
  ⟨(some 24), none, .mv (.t 6)⟩,
  ⟨(some 25), none, .bin .add (.t 24) (.v (.int .i64 1))⟩,
  ⟨(some 26), none, .mv (.t 0)⟩,
  ⟨(some 27), none, .len (.t 26)⟩,
  ⟨(some 28), none, .bin .rem (.t 25) (.t 27)⟩,
  ⟨(some 29), none, .idx 2 (.t 23) (.t 28)⟩,
  ⟨(some 30), none, .load (some 2) (.t 29)⟩,
  ⟨(some 31), none, .load (some 2) (.t 3)⟩,
  ⟨(some 32), none, .call 31 [(.t 22), (.t 30), (.t 31)]⟩,
  ⟨(some 33), none, .mv (.t 5)⟩,
  ⟨(some 34), none, .un .neg (.t 33)⟩,
  ⟨(some 35), none, .bin .eql (.t 32) (.t 34)⟩]
theorem tr18_5 : (ro Tryd.f18 5).toList.mapM (trO Tryd.prog 38 (ro Tryd.f18 5)) = some a18_5 := by kernel_rfl
def d18_5 : List (List Nat) := [[], [], [0, 1], [0, 1, 2], [], [], [5], [], [7], [5, 6, 7, 8], [4, 5, 6, 7, 8, 9], [4, 5, 6, 7, 8, 9, 10], [], [0, 1, 2, 3, 4, 5, 6, 7, 8, 9, 10, 11, 12], [], [14], [0, 1, 2, 3, 4, 5, 6, 7, 8, 9, 10, 11, 12, 13, 14, 15]]
theorem ok18_5 : okReg (ro Tryd.f18 5) a18_5 d18_5 = true := by kernel_rfl
def a18_6 : List AO := [⟨(some 4), none, .mv (.v (.bool false))⟩]
theorem tr18_6 : (ro Tryd.f18 6).toList.mapM (trO Tryd.prog 38 (ro Tryd.f18 6)) = some a18_6 := by kernel_rfl
def a18_4 : List AO := [⟨(some 17), none, .mv (.t 6)⟩,
  ⟨(some 18), none, .bin .add (.t 17) (.v (.int .i64 1))⟩,
  ⟨(some 6), none, .mv (.t 18)⟩]
theorem tr18_4 : (ro Tryd.f18 4).toList.mapM (trO Tryd.prog 38 (ro Tryd.f18 4)) = some a18_4 := by kernel_rfl
def a18_7 : List AO := [⟨(some 36), none, .load (some 2) (.t 3)⟩,
  ⟨(some 37), none, .call 28 [(.t 36)]⟩,
  ⟨(some 4), none, .mv (.t 37)⟩]
theorem tr18_7 : (ro Tryd.f18 7).toList.mapM (trO Tryd.prog 38 (ro Tryd.f18 7)) = some a18_7 := by kernel_rfl
/-- airline/balance.Load -/
noncomputable def c19 : Code := .seq (.region 0 (ro Tryd.f19 0) false) (.seq (.seq (.region 1 (ro Tryd.f19 1) false) (.block 0 (.loop (.seq (.region 2 (ro Tryd.f19 2) false) (.seq (.cond (.tmp 12) (.skip) (.exit 0)) (.seq (.block 1 (.seq (.region 3 (ro Tryd.f19 3) false) (.seq (.region 4 (ro Tryd.f19 4) false) (.cond (.tmp 16) (.seq (.region 5 (ro Tryd.f19 5) false) (.ret)) (.skip))))) (.region 6 (ro Tryd.f19 6) false))))))) (.seq (.seq (.region 7 (ro Tryd.f19 7) false) (.cond (.tmp 26) (.seq (.region 8 (ro Tryd.f19 8) false) (.ret)) (.skip))) (.seq (.region 9 (ro Tryd.f19 9) true) (.seq (.seq (.region 10 (ro Tryd.f19 10) false) (.cond (.tmp 40) (.seq (.region 11 (ro Tryd.f19 11) false) (.ret)) (.skip))) (.seq (.region 12 (ro Tryd.f19 12) false) (.ret))))))
theorem body19 : Tryd.f19.body = some c19 := by kernel_rfl
theorem res19 : Tryd.f19.results.toList.mapM (trR Tryd.prog) = some [.t 4, .t 5] := by kernel_rfl
theorem nt19 : Tryd.f19.ntmps = 45 := by kernel_rfl
theorem nm19 : (Tryd.f19.name == "runtime.NumGoroutine") = false := by kernel_rfl
def a19_0 : List AO := [⟨(some 2), none, .box 25 (.t 0)⟩,
  ⟨(some 4), none, .mv (.v .nils)⟩,
  ⟨(some 5), none, .mv (.v (.int .i64 0))⟩]
theorem tr19_0 : (ro Tryd.f19 0).toList.mapM (trO Tryd.prog 45 (ro Tryd.f19 0)) = some a19_0 := by kernel_rfl
def a19_1 : List AO := [⟨(some 9), none, .mv (.t 1)⟩,
  ⟨(some 10), none, .len (.t 9)⟩,
  ⟨(some 11), none, .mv (.v (.int .i64 0))⟩]
theorem tr19_1 : (ro Tryd.f19 1).toList.mapM (trO Tryd.prog 45 (ro Tryd.f19 1)) = some a19_1 := by kernel_rfl
def a19_2 : List AO := [⟨(some 12), none, .bin .lss (.t 11) (.t 10)⟩]
theorem tr19_2 : (ro Tryd.f19 2).toList.mapM (trO Tryd.prog 45 (ro Tryd.f19 2)) = some a19_2 := by kernel_rfl
def a19_3 : List AO := [⟨(some 13), none, .idx 1 (.t 9) (.t 11)⟩,
  ⟨(some 14), none, .load none (.t 13)⟩,
  ⟨(some 7), none, .mv (.t 14)⟩]
theorem tr19_3 : (ro Tryd.f19 3).toList.mapM (trO Tryd.prog 45 (ro Tryd.f19 3)) = some a19_3 := by kernel_rfl
def a19_4 : List AO := [⟨(some 15), none, .mv (.t 7)⟩,
  ⟨(some 16), none, .bin .lss (.t 15) (.v (.int .i64 0))⟩]
theorem tr19_4 : (ro Tryd.f19 4).toList.mapM (trO Tryd.prog 45 (ro Tryd.f19 4)) = some a19_4 := by kernel_rfl
def a19_5 : List AO := [⟨(some 4), none, .mv (.v .nils)⟩,
  ⟨(some 5), none, .mv (.v (.int .i64 2))⟩]
theorem tr19_5 : (ro Tryd.f19 5).toList.mapM (trO Tryd.prog 45 (ro Tryd.f19 5)) = some a19_5 := by kernel_rfl
def a19_6 : List AO := [⟨(some 17), none, .bin .add (.t 11) (.v (.int .i64 1))⟩,
  ⟨(some 11), none, .mv (.t 17)⟩]
theorem tr19_6 : (ro Tryd.f19 6).toList.mapM (trO Tryd.prog 45 (ro Tryd.f19 6)) = some a19_6 := by kernel_rfl
def a19_7 : List AO := [⟨(some 18), none, .fld 2 (.t 2)⟩,
  ⟨(some 19), none, .load none (.t 18)⟩,
  ⟨(some 20), none, .len (.t 19)⟩,
  ⟨(some 21), none, .bin .gtr (.t 20) (.v (.int .i64 4))⟩,
  ⟨(some 22), none, .mv (.t 21)⟩,
  ⟨(some 23), some (22, false), .mv (.t 1)⟩,
  ⟨(some 24), some (22, false), .len (.t 23)⟩,
  ⟨(some 25), some (22, false), .bin .gtr (.t 24) (.v (.int .i64 12))⟩,
  ⟨(some 26), none, .pick (.t 22) (.v (.bool true)) (.t 25)⟩]
theorem tr19_7 : (ro Tryd.f19 7).toList.mapM (trO Tryd.prog 45 (ro Tryd.f19 7)) = some a19_7 := by kernel_rfl
def a19_8 : List AO := [⟨(some 4), none, .mv (.v .nils)⟩,
  ⟨(some 5), none, .mv (.v (.int .i64 4))⟩]
theorem tr19_8 : (ro Tryd.f19 8).toList.mapM (trO Tryd.prog 45 (ro Tryd.f19 8)) = some a19_8 := by kernel_rfl
def a19_9 : List AO := [⟨(some 27), none, .load (some 4) (.t 2)⟩,
  ⟨(some 28), none, .mv (.t 1)⟩,
  ⟨(some 29), none, .mv (.t 1)⟩,
  ⟨(some 30), none, .len (.t 29)⟩,
  ⟨(some 31), none, .mks 3 1 8 [(.int .i64 0)] (.t 30) (.t 30)⟩,
  ⟨(some 32), none, .fld 2 (.t 2)⟩,
  ⟨(some 33), none, .load none (.t 32)⟩,
  ⟨(some 34), none, .len (.t 33)⟩,
  ⟨(some 35), none, .mks 3 1 8 [(.int .i64 0)] (.t 34) (.t 34)⟩,
  ⟨(some 36), none, .build [(.int .i64 0), (.int .i64 0), .nils, .nils, .nils, .nils, .nils] [(0, 4, (.t 27)), (4, 1, (.t 28)), (5, 1, (.t 31)), (6, 1, (.t 35))]⟩,
  ⟨(some 37), none, .box 59 (.t 36)⟩,
  ⟨(some 8), none, .mv (.t 37)⟩]
theorem tr19_9 : (ro Tryd.f19 9).toList.mapM (trO Tryd.prog 45 (ro Tryd.f19 9)) = some a19_9 := by kernel_rfl
def d19_9 : List (List Nat) := [[], [], [], [2], [2, 3], [], [5], [5, 6], [5, 6, 7], [0, 1, 2, 3, 4, 5, 6, 7, 8], [0, 1, 2, 3, 4, 5, 6, 7, 8, 9], [0, 1, 2, 3, 4, 5, 6, 7, 8, 9, 10]]
theorem ok19_9 : okReg (ro Tryd.f19 9) a19_9 d19_9 = true := by kernel_rfl
def a19_10 : List AO := [⟨(some 38), none, .mv (.t 8)⟩,
  ⟨(some 39), none, .call 32 [(.t 38), (.v (.int .i64 0))]⟩,
  ⟨(some 40), none, .un .not (.t 39)⟩]
theorem tr19_10 : (ro Tryd.f19 10).toList.mapM (trO Tryd.prog 45 (ro Tryd.f19 10)) = some a19_10 := by kernel_rfl
def a19_11 : List AO := [⟨(some 4), none, .mv (.v .nils)⟩,
  ⟨(some 5), none, .mv (.v (.int .i64 32))⟩]
theorem tr19_11 : (ro Tryd.f19 11).toList.mapM (trO Tryd.prog 45 (ro Tryd.f19 11)) = some a19_11 := by kernel_rfl
def a19_12 : List AO := [⟨(some 41), none, .mv (.t 8)⟩,
  ⟨(some 42), none, .nchk (.t 41)⟩,
  ⟨(some 43), none, .fld 5 (.t 42)⟩,
  ⟨(some 44), none, .load none (.t 43)⟩,
  ⟨(some 4), none, .mv (.t 44)⟩,
  ⟨(some 5), none, .mv (.v (.int .i64 0))⟩]
theorem tr19_12 : (ro Tryd.f19 12).toList.mapM (trO Tryd.prog 45 (ro Tryd.f19 12)) = some a19_12 := by kernel_rfl
/-- airline/airlineref49.Possible -/
noncomputable def c20 : Code := .seq (.region 0 (ro Tryd.f20 0) false) (.seq (.region 1 (ro Tryd.f20 1) false) (.seq (.seq (.region 2 (ro Tryd.f20 2) false) (.block 0 (.loop (.seq (.seq (.region 3 (ro Tryd.f20 3) false) (.cond (.tmp 17) (.skip) (.exit 0))) (.seq (.block 1 (.seq (.region 5 (ro Tryd.f20 5) false) (.cond (.tmp 24) (.seq (.region 6 (ro Tryd.f20 6) false) (.ret)) (.skip)))) (.region 4 (ro Tryd.f20 4) false)))))) (.seq (.seq (.region 7 (ro Tryd.f20 7) false) (.cond (.tmp 33) (.seq (.region 8 (ro Tryd.f20 8) false) (.ret)) (.skip))) (.seq (.seq (.region 9 (ro Tryd.f20 9) false) (.block 2 (.loop (.seq (.seq (.region 10 (ro Tryd.f20 10) false) (.cond (.tmp 37) (.skip) (.exit 2))) (.seq (.block 3 (.seq (.seq (.region 12 (ro Tryd.f20 12) false) (.cond (.tmp 44) (.seq (.region 13 (ro Tryd.f20 13) false) (.ret)) (.skip))) (.region 14 (ro Tryd.f20 14) false))) (.region 11 (ro Tryd.f20 11) false)))))) (.seq (.seq (.region 15 (ro Tryd.f20 15) false) (.block 4 (.loop (.seq (.seq (.region 16 (ro Tryd.f20 16) false) (.cond (.tmp 52) (.skip) (.exit 4))) (.seq (.block 5 (.seq (.region 18 (ro Tryd.f20 18) false) (.seq (.region 19 (ro Tryd.f20 19) false) (.seq (.seq (.region 20 (ro Tryd.f20 20) false) (.block 6 (.loop (.seq (.seq (.region 21 (ro Tryd.f20 21) false) (.cond (.tmp 59) (.skip) (.exit 6))) (.seq (.block 7 (.seq (.region 23 (ro Tryd.f20 23) false) (.region 24 (ro Tryd.f20 24) false))) (.region 22 (ro Tryd.f20 22) false)))))) (.seq (.region 25 (ro Tryd.f20 25) false) (.seq (.region 26 (ro Tryd.f20 26) false) (.cond (.tmp 85) (.seq (.region 27 (ro Tryd.f20 27) false) (.ret)) (.skip)))))))) (.region 17 (ro Tryd.f20 17) false)))))) (.seq (.region 28 (ro Tryd.f20 28) false) (.ret)))))))
theorem body20 : Tryd.f20.body = some c20 := by kernel_rfl
theorem res20 : Tryd.f20.results.toList.mapM (trR Tryd.prog) = some [.t 4] := by kernel_rfl
theorem nt20 : Tryd.f20.ntmps = 86 := by kernel_rfl
theorem nm20 : (Tryd.f20.name == "runtime.NumGoroutine") = false := by kernel_rfl
def a20_0 : List AO := [⟨(some 2), none, .box 25 (.t 0)⟩,
  ⟨(some 4), none, .mv (.v (.int .i64 0))⟩]
theorem tr20_0 : (ro Tryd.f20 0).toList.mapM (trO Tryd.prog 86 (ro Tryd.f20 0)) = some a20_0 := by kernel_rfl
def a20_1 : List AO := [⟨(some 5), none, .mv (.v (.int .i64 1))⟩]
theorem tr20_1 : (ro Tryd.f20 1).toList.mapM (trO Tryd.prog 86 (ro Tryd.f20 1)) = some a20_1 := by kernel_rfl
def a20_2 : List AO := [⟨(some 6), none, .mv (.v (.int .i64 0))⟩]
theorem tr20_2 : (ro Tryd.f20 2).toList.mapM (trO Tryd.prog 86 (ro Tryd.f20 2)) = some a20_2 := by kernel_rfl
def a20_3 : List AO := [⟨(some 14), none, .mv (.t 6)⟩,
  ⟨(some 15), none, .mv (.t 1)⟩,
  ⟨(some 16), none, .len (.t 15)⟩,
  ⟨(some 17), none, .bin .lss (.t 14) (.t 16)⟩]
theorem tr20_3 : (ro Tryd.f20 3).toList.mapM (trO Tryd.prog 86 (ro Tryd.f20 3)) = some a20_3 := by kernel_rfl
def a20_5 : List AO := [⟨(some 20), none, .mv (.t 1)⟩,
  ⟨(some 21), none, .mv (.t 6)⟩,
  ⟨(some 22), none, .idx 1 (.t 20) (.t 21)⟩,
  ⟨(some 23), none, .load none (.t 22)⟩,
  ⟨(some 24), none, .bin .lss (.t 23) (.v (.int .i64 0))⟩]
theorem tr20_5 : (ro Tryd.f20 5).toList.mapM (trO Tryd.prog 86 (ro Tryd.f20 5)) = some a20_5 := by kernel_rfl
def a20_6 : List AO := [⟨(some 4), none, .mv (.v (.int .i64 2))⟩]
theorem tr20_6 : (ro Tryd.f20 6).toList.mapM (trO Tryd.prog 86 (ro Tryd.f20 6)) = some a20_6 := by kernel_rfl
def a20_4 : List AO := [⟨(some 18), none, .mv (.t 6)⟩,
  ⟨(some 19), none, .bin .add (.t 18) (.v (.int .i64 1))⟩,
  ⟨(some 6), none, .mv (.t 19)⟩]
theorem tr20_4 : (ro Tryd.f20 4).toList.mapM (trO Tryd.prog 86 (ro Tryd.f20 4)) = some a20_4 := by kernel_rfl
def a20_7 : List AO := [⟨(some 25), none, .fld 2 (.t 2)⟩,
  ⟨(some 26), none, .load none (.t 25)⟩,
  ⟨(some 27), none, .len (.t 26)⟩,
  ⟨(some 28), none, .bin .gtr (.t 27) (.v (.int .i64 4))⟩,
  ⟨(some 29), none, .mv (.t 28)⟩,
  ⟨(some 30), some (29, false), .mv (.t 1)⟩,
  ⟨(some 31), some (29, false), .len (.t 30)⟩,
  ⟨(some 32), some (29, false), .bin .gtr (.t 31) (.v (.int .i64 12))⟩,
  ⟨(some 33), none, .pick (.t 29) (.v (.bool true)) (.t 32)⟩]
theorem tr20_7 : (ro Tryd.f20 7).toList.mapM (trO Tryd.prog 86 (ro Tryd.f20 7)) = some a20_7 := by kernel_rfl
def a20_8 : List AO := [⟨(some 4), none, .mv (.v (.int .i64 4))⟩]
theorem tr20_8 : (ro Tryd.f20 8).toList.mapM (trO Tryd.prog 86 (ro Tryd.f20 8)) = some a20_8 := by kernel_rfl
def a20_9 : List AO := [⟨(some 7), none, .mv (.v (.int .i64 0))⟩]
theorem tr20_9 : (ro Tryd.f20 9).toList.mapM (trO Tryd.prog 86 (ro Tryd.f20 9)) = some a20_9 := by kernel_rfl
def a20_10 : List AO := [⟨(some 34), none, .mv (.t 7)⟩,
  ⟨(some 35), none, .mv (.t 1)⟩,
  ⟨(some 36), none, .len (.t 35)⟩,
  ⟨(some 37), none, .bin .lss (.t 34) (.t 36)⟩]
theorem tr20_10 : (ro Tryd.f20 10).toList.mapM (trO Tryd.prog 86 (ro Tryd.f20 10)) = some a20_10 := by kernel_rfl
def a20_12 : List AO := [⟨(some 40), none, .mv (.t 1)⟩,
  ⟨(some 41), none, .mv (.t 7)⟩,
  ⟨(some 42), none, .idx 1 (.t 40) (.t 41)⟩,
  ⟨(some 43), none, .load none (.t 42)⟩,
  ⟨(some 44), none, .bin .gtr (.t 43) (.v (.int .i64 1000000))⟩]
theorem tr20_12 : (ro Tryd.f20 12).toList.mapM (trO Tryd.prog 86 (ro Tryd.f20 12)) = some a20_12 := by kernel_rfl
def a20_13 : List AO := [⟨(some 4), none, .mv (.v (.int .i64 32))⟩]
theorem tr20_13 : (ro Tryd.f20 13).toList.mapM (trO Tryd.prog 86 (ro Tryd.f20 13)) = some a20_13 := by kernel_rfl
def a20_14 : List AO := [⟨(some 45), none, .mv (.t 5)⟩,
  ⟨(some 46), none, .fld 2 (.t 2)⟩,
  ⟨(some 47), none, .load none (.t 46)⟩,
  ⟨(some 48), none, .len (.t 47)⟩,
  ⟨(some 49), none, .bin .mul (.t 45) (.t 48)⟩,
  ⟨(some 5), none, .mv (.t 49)⟩]
theorem tr20_14 : (ro Tryd.f20 14).toList.mapM (trO Tryd.prog 86 (ro Tryd.f20 14)) = some a20_14 := by kernel_rfl
def a20_11 : List AO := [⟨(some 38), none, .mv (.t 7)⟩,
  ⟨(some 39), none, .bin .add (.t 38) (.v (.int .i64 1))⟩,
  ⟨(some 7), none, .mv (.t 39)⟩]
theorem tr20_11 : (ro Tryd.f20 11).toList.mapM (trO Tryd.prog 86 (ro Tryd.f20 11)) = some a20_11 := by kernel_rfl
def a20_15 : List AO := [⟨(some 8), none, .mv (.v (.int .i64 0))⟩]
theorem tr20_15 : (ro Tryd.f20 15).toList.mapM (trO Tryd.prog 86 (ro Tryd.f20 15)) = some a20_15 := by kernel_rfl
def a20_16 : List AO := [⟨(some 50), none, .mv (.t 8)⟩,
  ⟨(some 51), none, .mv (.t 5)⟩,
  ⟨(some 52), none, .bin .lss (.t 50) (.t 51)⟩]
theorem tr20_16 : (ro Tryd.f20 16).toList.mapM (trO Tryd.prog 86 (ro Tryd.f20 16)) = some a20_16 := by kernel_rfl
def a20_18 : List AO := [⟨(some 9), none, .mv (.v .nils)⟩]
theorem tr20_18 : (ro Tryd.f20 18).toList.mapM (trO Tryd.prog 86 (ro Tryd.f20 18)) = some a20_18 := by kernel_rfl
def a20_19 : List AO := [⟨(some 55), none, .mv (.t 8)⟩,
  ⟨(some 10), none, .mv (.t 55)⟩]
theorem tr20_19 : (ro Tryd.f20 19).toList.mapM (trO Tryd.prog 86 (ro Tryd.f20 19)) = some a20_19 := by kernel_rfl
def a20_20 : List AO := [⟨(some 11), none, .mv (.v (.int .i64 0))⟩]
theorem tr20_20 : (ro Tryd.f20 20).toList.mapM (trO Tryd.prog 86 (ro Tryd.f20 20)) = some a20_20 := by kernel_rfl
def a20_21 : List AO := [⟨(some 56), none, .mv (.t 11)⟩,
  ⟨(some 57), none, .mv (.t 1)⟩,
  ⟨(some 58), none, .len (.t 57)⟩,
  ⟨(some 59), none, .bin .lss (.t 56) (.t 58)⟩]
theorem tr20_21 : (ro Tryd.f20 21).toList.mapM (trO Tryd.prog 86 (ro Tryd.f20 21)) = some a20_21 := by kernel_rfl
def a20_23 : List AO := [⟨(some 62), none, .mv (.t 9)⟩,
  ⟨(some 63), none, .mv (.t 10)⟩,
  ⟨(some 64), none, .fld 2 (.t 2)⟩,
  ⟨(some 65), none, .load none (.t 64)⟩,
  ⟨(some 66), none, .len (.t 65)⟩,
  ⟨(some 67), none, .bin .rem (.t 63) (.t 66)⟩,
  ⟨(some 68), none, .slc 3 1 [(.t 67)]⟩,
  ⟨(some 69), none, .app 3 1 8 (.t 62) (.t 68)⟩,
  ⟨(some 9), none, .mv (.t 69)⟩]
theorem tr20_23 : (ro Tryd.f20 23).toList.mapM (trO Tryd.prog 86 (ro Tryd.f20 23)) = some a20_23 := by kernel_rfl
def a20_24 : List AO := [⟨(some 70), none, .mv (.t 10)⟩,
  ⟨(some 71), none, .fld 2 (.t 2)⟩,
  ⟨(some 72), none, .load none (.t 71)⟩,
  ⟨(some 73), none, .len (.t 72)⟩,
  ⟨(some 74), none, .bin .quo (.t 70) (.t 73)⟩,
  ⟨(some 10), none, .mv (.t 74)⟩]
theorem tr20_24 : (ro Tryd.f20 24).toList.mapM (trO Tryd.prog 86 (ro Tryd.f20 24)) = some a20_24 := by kernel_rfl
def a20_22 : List AO := [⟨(some 60), none, .mv (.t 11)⟩,
  ⟨(some 61), none, .bin .add (.t 60) (.v (.int .i64 1))⟩,
  ⟨(some 11), none, .mv (.t 61)⟩]
theorem tr20_22 : (ro Tryd.f20 22).toList.mapM (trO Tryd.prog 86 (ro Tryd.f20 22)) = some a20_22 := by kernel_rfl
def a20_25 : List AO := [⟨(some 76), none, .load (some 4) (.t 2)⟩,
  ⟨(some 77), none, .mv (.t 1)⟩,
  ⟨(some 78), none, .mv (.t 9)⟩,
  ⟨(some 79), none, .call 21 [(.t 76), (.t 77), (.t 78)]⟩,
  ⟨(some 75), none, .mv (.t 79)⟩,
  ⟨(some 80), none, .ext 0 (.t 75)⟩,
  ⟨(some 81), none, .ext 1 (.t 75)⟩,
  ⟨(some 12), none, .mv (.t 80)⟩,
  ⟨(some 13), none, .mv (.t 81)⟩]
theorem tr20_25 : (ro Tryd.f20 25).toList.mapM (trO Tryd.prog 86 (ro Tryd.f20 25)) = some a20_25 := by kernel_rfl
def a20_26 : List AO := [⟨(some 82), none, .load (some 4) (.t 2)⟩,
  ⟨(some 83), none, .mv (.t 12)⟩,
  ⟨(some 84), none, .call 16 [(.t 82), (.t 83)]⟩,
  ⟨(some 85), none, .bin .eql (.t 84) (.v (.int .i64 0))⟩]
theorem tr20_26 : (ro Tryd.f20 26).toList.mapM (trO Tryd.prog 86 (ro Tryd.f20 26)) = some a20_26 := by kernel_rfl
def a20_27 : List AO := [⟨(some 4), none, .mv (.v (.int .i64 0))⟩]
theorem tr20_27 : (ro Tryd.f20 27).toList.mapM (trO Tryd.prog 86 (ro Tryd.f20 27)) = some a20_27 := by kernel_rfl
def a20_17 : List AO := [⟨(some 53), none, .mv (.t 8)⟩,
  ⟨(some 54), none, .bin .add (.t 53) (.v (.int .i64 1))⟩,
  ⟨(some 8), none, .mv (.t 54)⟩]
theorem tr20_17 : (ro Tryd.f20 17).toList.mapM (trO Tryd.prog 86 (ro Tryd.f20 17)) = some a20_17 := by kernel_rfl
def a20_28 : List AO := [⟨(some 4), none, .mv (.v (.int .i64 32))⟩]
theorem tr20_28 : (ro Tryd.f20 28).toList.mapM (trO Tryd.prog 86 (ro Tryd.f20 28)) = some a20_28 := by kernel_rfl
/-- airline/airlineref49.Loads -/
noncomputable def c21 : Code := .seq (.region 0 (ro Tryd.f21 0) false) (.seq (.region 1 (ro Tryd.f21 1) false) (.seq (.seq (.region 2 (ro Tryd.f21 2) false) (.block 0 (.loop (.seq (.seq (.region 3 (ro Tryd.f21 3) false) (.cond (.tmp 17) (.skip) (.exit 0))) (.seq (.block 1 (.seq (.seq (.region 5 (ro Tryd.f21 5) false) (.cond (.tmp 39) (.seq (.region 6 (ro Tryd.f21 6) false) (.ret)) (.skip))) (.region 7 (ro Tryd.f21 7) true))) (.region 4 (ro Tryd.f21 4) false)))))) (.seq (.region 8 (ro Tryd.f21 8) false) (.ret))))
theorem body21 : Tryd.f21.body = some c21 := by kernel_rfl
theorem res21 : Tryd.f21.results.toList.mapM (trR Tryd.prog) = some [.t 6, .t 7] := by kernel_rfl
theorem nt21 : Tryd.f21.ntmps = 64 := by kernel_rfl
theorem nm21 : (Tryd.f21.name == "runtime.NumGoroutine") = false := by kernel_rfl
def a21_0 : List AO := [⟨(some 3), none, .box 25 (.t 0)⟩,
  ⟨(some 6), none, .mv (.v .nils)⟩,
  ⟨(some 7), none, .mv (.v (.bool false))⟩]
theorem tr21_0 : (ro Tryd.f21 0).toList.mapM (trO Tryd.prog 64 (ro Tryd.f21 0)) = some a21_0 := by kernel_rfl
def a21_1 : List AO := [⟨(some 10), none, .fld 2 (.t 3)⟩,
  ⟨(some 11), none, .load none (.t 10)⟩,
  ⟨(some 12), none, .len (.t 11)⟩,
  ⟨(some 13), none, .mks 3 1 8 [(.int .i64 0)] (.t 12) (.t 12)⟩,
  ⟨(some 8), none, .mv (.t 13)⟩]
theorem tr21_1 : (ro Tryd.f21 1).toList.mapM (trO Tryd.prog 64 (ro Tryd.f21 1)) = some a21_1 := by kernel_rfl
def a21_2 : List AO := [⟨(some 9), none, .mv (.v (.int .i64 0))⟩]
theorem tr21_2 : (ro Tryd.f21 2).toList.mapM (trO Tryd.prog 64 (ro Tryd.f21 2)) = some a21_2 := by kernel_rfl
def a21_3 : List AO := [⟨(some 14), none, .mv (.t 9)⟩,
  ⟨(some 15), none, .mv (.t 1)⟩,
  ⟨(some 16), none, .len (.t 15)⟩,
  ⟨(some 17), none, .bin .lss (.t 14) (.t 16)⟩]
theorem tr21_3 : (ro Tryd.f21 3).toList.mapM (trO Tryd.prog 64 (ro Tryd.f21 3)) = some a21_3 := by kernel_rfl
def a21_5 : List AO := [⟨(some 20), none, .mv (.t 9)⟩,
  ⟨(some 21), none, .mv (.t 2)⟩,
  ⟨(some 22), none, .len (.t 21)⟩,
  ⟨(some 23), none, .bin .geq (.t 20) (.t 22)⟩,
  ⟨(some 24), none, .mv (.t 23)⟩,
  ⟨(some 25), some (24, false), .mv (.t 2)⟩,
  ⟨(some 26), some (24, false), .mv (.t 9)⟩,
  ⟨(some 27), some (24, false), .idx 1 (.t 25) (.t 26)⟩,
  ⟨(some 28), some (24, false), .load none (.t 27)⟩,
  ⟨(some 29), some (24, false), .bin .lss (.t 28) (.v (.int .i64 0))⟩,
  ⟨(some 30), none, .pick (.t 24) (.v (.bool true)) (.t 29)⟩,
  ⟨(some 31), none, .mv (.t 30)⟩,
  ⟨(some 32), some (31, false), .mv (.t 2)⟩,
  ⟨(some 33), some (31, false), .mv (.t 9)⟩,
  ⟨(some 34), some (31, false), .idx 1 (.t 32) (.t 33)⟩,
  ⟨(some 35), some (31, false), .load none (.t 34)⟩,
  ⟨(some 36), some (31, false), .mv (.t 8)⟩,
  ⟨(some 37), some (31, false), .len (.t 36)⟩,
  ⟨(some 38), some (31, false), .bin .geq (.t 35) (.t 37)⟩,
  ⟨(some 39), none, .pick (.t 31) (.v (.bool true)) (.t 38)⟩]
theorem tr21_5 : (ro Tryd.f21 5).toList.mapM (trO Tryd.prog 64 (ro Tryd.f21 5)) = some a21_5 := by kernel_rfl
def a21_6 : List AO := [⟨(some 6), none, .mv (.v .nils)⟩,
  ⟨(some 7), none, .mv (.v (.bool false))⟩]
theorem tr21_6 : (ro Tryd.f21 6).toList.mapM (trO Tryd.prog 64 (ro Tryd.f21 6)) = some a21_6 := by kernel_rfl
def a21_7 : List AO := [⟨(some 40), none, .mv (.t 8)⟩,
  ⟨(some 41), none, .mv (.t 2)⟩,
  ⟨(some 42), none, .mv (.t 9)⟩,
  ⟨(some 43), none, .idx 1 (.t 41) (.t 42)⟩,
  ⟨(some 44), none, .load none (.t 43)⟩,
  ⟨(some 45), none, .mv (.t 8)⟩,
  ⟨(some 46), none, .mv (.t 2)⟩,
  ⟨(some 47), none, .mv (.t 9)⟩,
  ⟨(some 48), none, .idx 1 (.t 46) (.t 47)⟩,
  ⟨(some 49), none, .load none (.t 48)⟩,
  ⟨(some 50), none, .idx 1 (.t 45) (.t 49)⟩,
  ⟨(some 51), none, .load none (.t 50)⟩,
  ⟨(some 52), none, .mv (.t 1)⟩,
  ⟨(some 53), none, .mv (.t 9)⟩,
  ⟨(some 54), none, .idx 1 (.t 52) (.t 53)⟩,
  ⟨(some 55), none, .load none (.t 54)⟩,
  ⟨(some 56), none, .bin .add (.t 51) (.t 55)⟩,
  ⟨(some 57), none, .idx 1 (.t 40) (.t 44)⟩,
  ⟨none, none, .store 1 (.t 57) (.t 56)⟩]
theorem tr21_7 : (ro Tryd.f21 7).toList.mapM (trO Tryd.prog 64 (ro Tryd.f21 7)) = some a21_7 := by kernel_rfl
def d21_7 : List (List Nat) := [[], [], [], [1, 2], [1, 2, 3], [], [], [], [6, 7], [6, 7, 8], [5, 6, 7, 8, 9], [5, 6, 7, 8, 9, 10], [], [], [12, 13], [12, 13, 14], [5, 6, 7, 8, 9, 10, 11, 12, 13, 14, 15], [0, 1, 2, 3, 4, 5, 6, 7, 8, 9, 10, 11, 12, 13, 14, 15, 16], [0, 1, 2, 3, 4, 5, 6, 7, 8, 9, 10, 11, 12, 13, 14, 15, 16, 17]]
theorem ok21_7 : okReg (ro Tryd.f21 7) a21_7 d21_7 = true := by kernel_rfl
def a21_4 : List AO := [⟨(some 18), none, .mv (.t 9)⟩,
  ⟨(some 19), none, .bin .add (.t 18) (.v (.int .i64 1))⟩,
  ⟨(some 9), none, .mv (.t 19)⟩]
theorem tr21_4 : (ro Tryd.f21 4).toList.mapM (trO Tryd.prog 64 (ro Tryd.f21 4)) = some a21_4 := by kernel_rfl
def a21_8 : List AO := [⟨(some 58), none, .mv (.t 8)⟩,
  ⟨(some 59), none, .mv (.t 2)⟩,
  ⟨(some 60), none, .len (.t 59)⟩,
  ⟨(some 61), none, .mv (.t 1)⟩,
  ⟨(some 62), none, .len (.t 61)⟩,
  ⟨(some 63), none, .bin .eql (.t 60) (.t 62)⟩,
  ⟨(some 6), none, .mv (.t 58)⟩,
  ⟨(some 7), none, .mv (.t 63)⟩]
theorem tr21_8 : (ro Tryd.f21 8).toList.mapM (trO Tryd.prog 64 (ro Tryd.f21 8)) = some a21_8 := by kernel_rfl
/-- airline/balance.Check 1 -/
noncomputable def c22 : Code := .region 0 (ro Tryd.f22 0) false
theorem body22 : Tryd.f22.body = some c22 := by kernel_rfl
theorem res22 : Tryd.f22.results.toList.mapM (trR Tryd.prog) = some [] := by kernel_rfl
theorem nt22 : Tryd.f22.ntmps = 11 := by kernel_rfl
theorem nm22 : (Tryd.f22.name == "runtime.NumGoroutine") = false := by kernel_rfl
def a22_0 : List AO := [⟨(some 5), none, .load none (.t 2)⟩,
  ⟨(some 6), none, .mv (.t 0)⟩,
  ⟨(some 7), none, .mv (.t 1)⟩,
  ⟨(some 8), none, .build [(.int .i64 0), (.str [])] [(0, 1, (.t 6)), (1, 1, (.t 7))]⟩,
  ⟨(some 9), none, .slc 49 2 [(.t 8)]⟩,
  ⟨(some 10), none, .app 49 2 24 (.t 5) (.t 9)⟩,
  ⟨none, none, .store 1 (.t 2) (.t 10)⟩]
theorem tr22_0 : (ro Tryd.f22 0).toList.mapM (trO Tryd.prog 11 (ro Tryd.f22 0)) = some a22_0 := by kernel_rfl
/-- airline/balance.within -/
noncomputable def c23 : Code := .seq (.region 0 (ro Tryd.f23 0) false) (.seq (.region 1 (ro Tryd.f23 1) false) (.ret))
theorem body23 : Tryd.f23.body = some c23 := by kernel_rfl
theorem res23 : Tryd.f23.results.toList.mapM (trR Tryd.prog) = some [.t 6] := by kernel_rfl
theorem nt23 : Tryd.f23.ntmps = 15 := by kernel_rfl
theorem nm23 : (Tryd.f23.name == "runtime.NumGoroutine") = false := by kernel_rfl
def a23_0 : List AO := [⟨(some 6), none, .mv (.v (.bool false))⟩]
theorem tr23_0 : (ro Tryd.f23 0).toList.mapM (trO Tryd.prog 15 (ro Tryd.f23 0)) = some a23_0 := by kernel_rfl
def a23_1 : List AO := [⟨(some 7), none, .mv (.t 0)⟩,
  ⟨(some 8), none, .mv (.t 1)⟩,
  ⟨(some 9), none, .bin .geq (.t 7) (.t 8)⟩,
  ⟨(some 10), none, .mv (.t 9)⟩,
  ⟨(some 11), some (10, true), .mv (.t 0)⟩,
  ⟨(some 12), some (10, true), .mv (.t 2)⟩,
  ⟨(some 13), some (10, true), .bin .leq (.t 11) (.t 12)⟩,
  ⟨(some 14), none, .pick (.t 10) (.t 13) (.v (.bool false))⟩,
  ⟨(some 6), none, .mv (.t 14)⟩]
theorem tr23_1 : (ro Tryd.f23 1).toList.mapM (trO Tryd.prog 15 (ro Tryd.f23 1)) = some a23_1 := by kernel_rfl
/-- airline/text.Decimal -/
noncomputable def c24 : Code := .seq (.region 0 (ro Tryd.f24 0) false) (.seq (.region 1 (ro Tryd.f24 1) false) (.ret))
theorem body24 : Tryd.f24.body = some c24 := by kernel_rfl
theorem res24 : Tryd.f24.results.toList.mapM (trR Tryd.prog) = some [.t 2] := by kernel_rfl
theorem nt24 : Tryd.f24.ntmps = 5 := by kernel_rfl
theorem nm24 : (Tryd.f24.name == "runtime.NumGoroutine") = false := by kernel_rfl
def a24_0 : List AO := [⟨(some 2), none, .mv (.v (.str []))⟩]
theorem tr24_0 : (ro Tryd.f24 0).toList.mapM (trO Tryd.prog 5 (ro Tryd.f24 0)) = some a24_0 := by kernel_rfl
def a24_1 : List AO := [⟨(some 3), none, .mv (.t 0)⟩,
  ⟨(some 4), none, .call 33 [(.t 3)]⟩,
  ⟨(some 2), none, .mv (.t 4)⟩]
theorem tr24_1 : (ro Tryd.f24 1).toList.mapM (trO Tryd.prog 5 (ro Tryd.f24 1)) = some a24_1 := by kernel_rfl
/-- airline/balance.convex -/
noncomputable def c25 : Code := .seq (.region 0 (ro Tryd.f25 0) false) (.seq (.region 1 (ro Tryd.f25 1) false) (.seq (.seq (.region 2 (ro Tryd.f25 2) false) (.block 0 (.loop (.seq (.region 3 (ro Tryd.f25 3) false) (.seq (.cond (.tmp 13) (.skip) (.exit 0)) (.seq (.block 1 (.seq (.region 4 (ro Tryd.f25 4) false) (.seq (.region 5 (ro Tryd.f25 5) false) (.seq (.region 6 (ro Tryd.f25 6) false) (.block 2 (.loop (.seq (.region 7 (ro Tryd.f25 7) false) (.seq (.cond (.tmp 25) (.skip) (.exit 2)) (.seq (.block 3 (.seq (.region 8 (ro Tryd.f25 8) false) (.seq (.seq (.region 9 (ro Tryd.f25 9) false) (.cond (.tmp 36) (.exit 3) (.skip))) (.seq (.region 10 (ro Tryd.f25 10) true) (.seq (.seq (.region 11 (ro Tryd.f25 11) false) (.cond (.tmp 54) (.seq (.region 12 (ro Tryd.f25 12) false) (.ret)) (.skip))) (.region 13 (ro Tryd.f25 13) false)))))) (.region 14 (ro Tryd.f25 14) false)))))))))) (.region 15 (ro Tryd.f25 15) false))))))) (.seq (.region 16 (ro Tryd.f25 16) false) (.ret))))
theorem body25 : Tryd.f25.body = some c25 := by kernel_rfl
theorem res25 : Tryd.f25.results.toList.mapM (trR Tryd.prog) = some [.t 2] := by kernel_rfl
theorem nt25 : Tryd.f25.ntmps = 58 := by kernel_rfl
theorem nm25 : (Tryd.f25.name == "runtime.NumGoroutine") = false := by kernel_rfl
def a25_0 : List AO := [⟨(some 2), none, .mv (.v (.bool false))⟩]
theorem tr25_0 : (ro Tryd.f25 0).toList.mapM (trO Tryd.prog 58 (ro Tryd.f25 0)) = some a25_0 := by kernel_rfl
def a25_1 : List AO := [⟨(some 3), none, .mv (.v (.int .i64 0))⟩]
theorem tr25_1 : (ro Tryd.f25 1).toList.mapM (trO Tryd.prog 58 (ro Tryd.f25 1)) = some a25_1 := by kernel_rfl
def a25_2 : List AO := [⟨(some 10), none, .mv (.t 0)⟩,
  ⟨(some 11), none, .len (.t 10)⟩,
  ⟨(some 12), none, .mv (.v (.int .i64 0))⟩]
theorem tr25_2 : (ro Tryd.f25 2).toList.mapM (trO Tryd.prog 58 (ro Tryd.f25 2)) = some a25_2 := by kernel_rfl
def a25_3 : List AO := [⟨(some 13), none, .bin .lss (.t 12) (.t 11)⟩]
theorem tr25_3 : (ro Tryd.f25 3).toList.mapM (trO Tryd.prog 58 (ro Tryd.f25 3)) = some a25_3 := by kernel_rfl
def a25_4 : List AO := [⟨(some 14), none, .mv (.t 12)⟩,
  ⟨(some 15), none, .idx 2 (.t 10) (.t 12)⟩,
  ⟨(some 16), none, .load (some 2) (.t 15)⟩,
  ⟨(some 5), none, .alloc 33 [(.int .i64 0), (.int .i64 0)]⟩,
  ⟨(some 4), none, .mv (.t 14)⟩,
  ⟨none, none, .store 2 (.t 5) (.t 16)⟩]
theorem tr25_4 : (ro Tryd.f25 4).toList.mapM (trO Tryd.prog 58 (ro Tryd.f25 4)) = some a25_4 := by kernel_rfl
def a25_5 : List AO := [⟨(some 17), none, .mv (.t 4)⟩,
  ⟨(some 18), none, .bin .add (.t 17) (.v (.int .i64 1))⟩,
  ⟨(some 19), none, .mv (.t 0)⟩,
  ⟨(some 20), none, .len (.t 19)⟩,
  ⟨(some 21), none, .bin .rem (.t 18) (.t 20)⟩,
  ⟨(some 6), none, .mv (.t 21)⟩]
theorem tr25_5 : (ro Tryd.f25 5).toList.mapM (trO Tryd.prog 58 (ro Tryd.f25 5)) = some a25_5 := by kernel_rfl
def a25_6 : List AO := [⟨(some 22), none, .mv (.t 0)⟩,
  ⟨(some 23), none, .len (.t 22)⟩,
  ⟨(some 24), none, .mv (.v (.int .i64 0))⟩]
theorem tr25_6 : (ro Tryd.f25 6).toList.mapM (trO Tryd.prog 58 (ro Tryd.f25 6)) = some a25_6 := by kernel_rfl
def a25_7 : List AO := [⟨(some 25), none, .bin .lss (.t 24) (.t 23)⟩]
theorem tr25_7 : (ro Tryd.f25 7).toList.mapM (trO Tryd.prog 58 (ro Tryd.f25 7)) = some a25_7 := by kernel_rfl
def a25_8 : List AO := [⟨(some 26), none, .mv (.t 24)⟩,
  ⟨(some 27), none, .idx 2 (.t 22) (.t 24)⟩,
  ⟨(some 28), none, .load (some 2) (.t 27)⟩,
  ⟨(some 8), none, .alloc 33 [(.int .i64 0), (.int .i64 0)]⟩,
  ⟨(some 7), none, .mv (.t 26)⟩,
  ⟨none, none, .store 2 (.t 8) (.t 28)⟩]
theorem tr25_8 : (ro Tryd.f25 8).toList.mapM (trO Tryd.prog 58 (ro Tryd.f25 8)) = some a25_8 := by kernel_rfl
def a25_9 : List AO := [⟨(some 29), none, .mv (.t 7)⟩,
  ⟨(some 30), none, .mv (.t 4)⟩,
  ⟨(some 31), none, .bin .eql (.t 29) (.t 30)⟩,
  ⟨(some 32), none, .mv (.t 31)⟩,
  ⟨(some 33), some (32, false), .mv (.t 7)⟩,
  ⟨(some 34), some (32, false), .mv (.t 6)⟩,
  ⟨(some 35), some (32, false), .bin .eql (.t 33) (.t 34)⟩,
  ⟨(some 36), none, .pick (.t 32) (.v (.bool true)) (.t 35)⟩]
theorem tr25_9 : (ro Tryd.f25 9).toList.mapM (trO Tryd.prog 58 (ro Tryd.f25 9)) = some a25_9 := by kernel_rfl
def a25_10 : List AO := [⟨(some 37), none, .load (some 2) (.t 5)⟩,
  ⟨(some 38), none, .mv (.t 0)⟩,
  ⟨(some 39), none, .mv (.t 6)⟩,
  ⟨(some 40), none, .idx 2 (.t 38) (.t 39)⟩,
  ⟨(some 41), none, .load (some 2) (.t 40)⟩,
  ⟨(some 42), none, .load (some 2) (.t 8)⟩,
  ⟨(some 43), none, .call 30 [(.t 37), (.t 41), (.t 42)]⟩,
  ⟨(some 9), none, .mv (.t 43)⟩]
theorem tr25_10 : (ro Tryd.f25 10).toList.mapM (trO Tryd.prog 58 (ro Tryd.f25 10)) = some a25_10 := by kernel_rfl
def d25_10 : List (List Nat) := [[], [], [], [1, 2], [1, 2, 3], [], [0, 1, 2, 3, 4, 5], [0, 1, 2, 3, 4, 5, 6]]
theorem ok25_10 : okReg (ro Tryd.f25 10) a25_10 d25_10 = true := by kernel_rfl
def a25_11 : List AO := [⟨(some 44), none, .mv (.t 9)⟩,
  ⟨(some 45), none, .bin .eql (.t 44) (.v (.int .i64 0))⟩,
  ⟨(some 46), none, .mv (.t 45)⟩,
  ⟨(some 47), some (46, false), .mv (.t 3)⟩,
  ⟨(some 48), some (46, false), .bin .neq (.t 47) (.v (.int .i64 0))⟩,
  ⟨(some 49), some (46, false), .mv (.t 48)⟩,
  ⟨(some 50), some (49, true), .mv (.t 9)⟩,
  ⟨(some 51), some (49, true), .mv (.t 3)⟩,
  ⟨(some 52), some (49, true), .bin .neq (.t 50) (.t 51)⟩,
  ⟨(some 53), some (46, false), .pick (.t 49) (.t 52) (.v (.bool false))⟩,
  ⟨(some 54), none, .pick (.t 46) (.v (.bool true)) (.t 53)⟩]
theorem tr25_11 : (ro Tryd.f25 11).toList.mapM (trO Tryd.prog 58 (ro Tryd.f25 11)) = some a25_11 := by kernel_rfl
def a25_12 : List AO := [⟨(some 2), none, .mv (.v (.bool false))⟩]
theorem tr25_12 : (ro Tryd.f25 12).toList.mapM (trO Tryd.prog 58 (ro Tryd.f25 12)) = some a25_12 := by kernel_rfl
def a25_13 : List AO := [⟨(some 55), none, .mv (.t 9)⟩,
  ⟨(some 3), none, .mv (.t 55)⟩]
theorem tr25_13 : (ro Tryd.f25 13).toList.mapM (trO Tryd.prog 58 (ro Tryd.f25 13)) = some a25_13 := by kernel_rfl
def a25_14 : List AO := [⟨(some 56), none, .bin .add (.t 24) (.v (.int .i64 1))⟩,
  ⟨(some 24), none, .mv (.t 56)⟩]
theorem tr25_14 : (ro Tryd.f25 14).toList.mapM (trO Tryd.prog 58 (ro Tryd.f25 14)) = some a25_14 := by kernel_rfl
def a25_15 : List AO := [⟨(some 57), none, .bin .add (.t 12) (.v (.int .i64 1))⟩,
  ⟨(some 12), none, .mv (.t 57)⟩]
theorem tr25_15 : (ro Tryd.f25 15).toList.mapM (trO Tryd.prog 58 (ro Tryd.f25 15)) = some a25_15 := by kernel_rfl
def a25_16 : List AO := [⟨(some 2), none, .mv (.v (.bool true))⟩]
theorem tr25_16 : (ro Tryd.f25 16).toList.mapM (trO Tryd.prog 58 (ro Tryd.f25 16)) = some a25_16 := by kernel_rfl
/-- airline/airlineref49.within -/
noncomputable def c26 : Code := .seq (.region 0 (ro Tryd.f26 0) false) (.seq (.region 1 (ro Tryd.f26 1) false) (.ret))
theorem body26 : Tryd.f26.body = some c26 := by kernel_rfl
theorem res26 : Tryd.f26.results.toList.mapM (trR Tryd.prog) = some [.t 6] := by kernel_rfl
theorem nt26 : Tryd.f26.ntmps = 15 := by kernel_rfl
theorem nm26 : (Tryd.f26.name == "runtime.NumGoroutine") = false := by kernel_rfl
def a26_0 : List AO := [⟨(some 6), none, .mv (.v (.bool false))⟩]
theorem tr26_0 : (ro Tryd.f26 0).toList.mapM (trO Tryd.prog 15 (ro Tryd.f26 0)) = some a26_0 := by kernel_rfl
def a26_1 : List AO := [⟨(some 7), none, .mv (.t 0)⟩,
  ⟨(some 8), none, .mv (.t 1)⟩,
  ⟨(some 9), none, .bin .geq (.t 7) (.t 8)⟩,
  ⟨(some 10), none, .mv (.t 9)⟩,
  ⟨(some 11), some (10, true), .mv (.t 0)⟩,
  ⟨(some 12), some (10, true), .mv (.t 2)⟩,
  ⟨(some 13), some (10, true), .bin .leq (.t 11) (.t 12)⟩,
  ⟨(some 14), none, .pick (.t 10) (.t 13) (.v (.bool false))⟩,
  ⟨(some 6), none, .mv (.t 14)⟩]
theorem tr26_1 : (ro Tryd.f26 1).toList.mapM (trO Tryd.prog 15 (ro Tryd.f26 1)) = some a26_1 := by kernel_rfl
/-- airline/airlineref01.Decimal -/
noncomputable def c27 : Code := .seq (.region 0 (ro Tryd.f27 0) false) (.seq (.seq (.region 1 (ro Tryd.f27 1) false) (.cond (.tmp 4) (.seq (.region 2 (ro Tryd.f27 2) false) (.ret)) (.skip))) (.seq (.region 3 (ro Tryd.f27 3) false) (.ret)))
theorem body27 : Tryd.f27.body = some c27 := by kernel_rfl
theorem res27 : Tryd.f27.results.toList.mapM (trR Tryd.prog) = some [.t 2] := by kernel_rfl
theorem nt27 : Tryd.f27.ntmps = 15 := by kernel_rfl
theorem nm27 : (Tryd.f27.name == "runtime.NumGoroutine") = false := by kernel_rfl
def a27_0 : List AO := [⟨(some 2), none, .mv (.v (.str []))⟩]
theorem tr27_0 : (ro Tryd.f27 0).toList.mapM (trO Tryd.prog 15 (ro Tryd.f27 0)) = some a27_0 := by kernel_rfl
def a27_1 : List AO := [⟨(some 3), none, .mv (.t 0)⟩,
  ⟨(some 4), none, .bin .lss (.t 3) (.v (.int .i64 0))⟩]
theorem tr27_1 : (ro Tryd.f27 1).toList.mapM (trO Tryd.prog 15 (ro Tryd.f27 1)) = some a27_1 := by kernel_rfl
def a27_2 : List AO := [⟨(some 5), none, .mv (.t 0)⟩,
  ⟨(some 6), none, .bin .add (.t 5) (.v (.int .i64 1))⟩,
  ⟨(some 7), none, .un .neg (.t 6)⟩,
  ⟨(some 8), none, .conv .u64 (.t 7)⟩,
  ⟨(some 9), none, .bin .add (.t 8) (.v (.int .u64 1))⟩,
  ⟨(some 10), none, .call 34 [(.t 9)]⟩,
  ⟨(some 11), none, .bin .add (.v (.str [45])) (.t 10)⟩,
  ⟨(some 2), none, .mv (.t 11)⟩]
theorem tr27_2 : (ro Tryd.f27 2).toList.mapM (trO Tryd.prog 15 (ro Tryd.f27 2)) = some a27_2 := by kernel_rfl
def a27_3 : List AO := [⟨(some 12), none, .mv (.t 0)⟩,
  ⟨(some 13), none, .conv .u64 (.t 12)⟩,
  ⟨(some 14), none, .call 34 [(.t 13)]⟩,
  ⟨(some 2), none, .mv (.t 14)⟩]
theorem tr27_3 : (ro Tryd.f27 3).toList.mapM (trO Tryd.prog 15 (ro Tryd.f27 3)) = some a27_3 := by kernel_rfl
/-- airline/airlineref49.fine -/
noncomputable def c28 : Code := .seq (.region 0 (ro Tryd.f28 0) false) (.seq (.region 1 (ro Tryd.f28 1) false) (.ret))
theorem body28 : Tryd.f28.body = some c28 := by kernel_rfl
theorem res28 : Tryd.f28.results.toList.mapM (trR Tryd.prog) = some [.t 2] := by kernel_rfl
theorem nt28 : Tryd.f28.ntmps = 11 := by kernel_rfl
theorem nm28 : (Tryd.f28.name == "runtime.NumGoroutine") = false := by kernel_rfl
def a28_0 : List AO := [⟨(some 1), none, .box 33 (.t 0)⟩,
  ⟨(some 2), none, .mv (.v (.bool false))⟩]
theorem tr28_0 : (ro Tryd.f28 0).toList.mapM (trO Tryd.prog 11 (ro Tryd.f28 0)) = some a28_0 := by kernel_rfl
def a28_1 : List AO := [⟨(some 3), none, .fld 0 (.t 1)⟩,
  ⟨(some 4), none, .load none (.t 3)⟩,
  ⟨(some 5), none, .call 26 [(.t 4), (.v (.int .i64 0)), (.v (.int .i64 20000000))]⟩,
  ⟨(some 6), none, .mv (.t 5)⟩,
  ⟨(some 7), some (6, true), .fld 1 (.t 1)⟩,
  ⟨(some 8), some (6, true), .load none (.t 7)⟩,
  ⟨(some 9), some (6, true), .call 26 [(.t 8), (.v (.int .i64 (-20000000000))), (.v (.int .i64 20000000000))]⟩,
  ⟨(some 10), none, .pick (.t 6) (.t 9) (.v (.bool false))⟩,
  ⟨(some 2), none, .mv (.t 10)⟩]
theorem tr28_1 : (ro Tryd.f28 1).toList.mapM (trO Tryd.prog 11 (ro Tryd.f28 1)) = some a28_1 := by kernel_rfl
/-- airline/airlineref49.convex -/
noncomputable def c29 : Code := .seq (.region 0 (ro Tryd.f29 0) false) (.seq (.region 1 (ro Tryd.f29 1) true) (.seq (.seq (.region 2 (ro Tryd.f29 2) false) (.block 0 (.loop (.seq (.seq (.region 3 (ro Tryd.f29 3) false) (.cond (.tmp 20) (.skip) (.exit 0))) (.seq (.block 1 (.seq (.region 5 (ro Tryd.f29 5) false) (.seq (.region 6 (ro Tryd.f29 6) false) (.block 2 (.loop (.seq (.seq (.region 7 (ro Tryd.f29 7) false) (.cond (.tmp 31) (.skip) (.exit 2))) (.seq (.block 3 (.seq (.region 9 (ro Tryd.f29 9) true) (.cond (.tmp 58) (.seq (.region 10 (ro Tryd.f29 10) false) (.ret)) (.skip)))) (.region 8 (ro Tryd.f29 8) false)))))))) (.region 4 (ro Tryd.f29 4) false)))))) (.seq (.region 11 (ro Tryd.f29 11) false) (.ret))))
theorem body29 : Tryd.f29.body = some c29 := by kernel_rfl
theorem res29 : Tryd.f29.results.toList.mapM (trR Tryd.prog) = some [.t 2] := by kernel_rfl
theorem nt29 : Tryd.f29.ntmps = 60 := by kernel_rfl
theorem nm29 : (Tryd.f29.name == "runtime.NumGoroutine") = false := by kernel_rfl
def a29_0 : List AO := [⟨(some 2), none, .mv (.v (.int .i64 0))⟩]
theorem tr29_0 : (ro Tryd.f29 0).toList.mapM (trO Tryd.prog 60 (ro Tryd.f29 0)) = some a29_0 := by kernel_rfl
def a29_1 : List AO := [⟨(some 7), none, .mv (.t 0)⟩,
  ⟨(some 8), none, .idx 2 (.t 7) (.v (.int .i64 0))⟩,
  ⟨(some 9), none, .load (some 2) (.t 8)⟩,
  ⟨(some 10), none, .mv (.t 0)⟩,
  ⟨(some 11), none, .idx 2 (.t 10) (.v (.int .i64 1))⟩,
  ⟨(some 12), none, .load (some 2) (.t 11)⟩,
  ⟨(some 13), none, .mv (.t 0)⟩,
  ⟨(some 14), none, .idx 2 (.t 13) (.v (.int .i64 2))⟩,
  ⟨(some 15), none, .load (some 2) (.t 14)⟩,
  ⟨(some 16), none, .call 31 [(.t 9), (.t 12), (.t 15)]⟩,
  ⟨(some 3), none, .mv (.t 16)⟩]
theorem tr29_1 : (ro Tryd.f29 1).toList.mapM (trO Tryd.prog 60 (ro Tryd.f29 1)) = some a29_1 := by kernel_rfl
def d29_1 : List (List Nat) := [[], [0], [0, 1], [], [3], [3, 4], [], [6], [6, 7], [0, 1, 2, 3, 4, 5, 6, 7, 8], [0, 1, 2, 3, 4, 5, 6, 7, 8, 9]]
theorem ok29_1 : okReg (ro Tryd.f29 1) a29_1 d29_1 = true := by kernel_rfl
def a29_2 : List AO := [⟨(some 4), none, .mv (.v (.int .i64 0))⟩]
theorem tr29_2 : (ro Tryd.f29 2).toList.mapM (trO Tryd.prog 60 (ro Tryd.f29 2)) = some a29_2 := by kernel_rfl
def a29_3 : List AO := [⟨(some 17), none, .mv (.t 4)⟩,
  ⟨(some 18), none, .mv (.t 0)⟩,
  ⟨(some 19), none, .len (.t 18)⟩,
  ⟨(some 20), none, .bin .lss (.t 17) (.t 19)⟩]
theorem tr29_3 : (ro Tryd.f29 3).toList.mapM (trO Tryd.prog 60 (ro Tryd.f29 3)) = some a29_3 := by kernel_rfl
def a29_5 : List AO := [⟨(some 23), none, .mv (.t 4)⟩,
  ⟨(some 24), none, .bin .add (.t 23) (.v (.int .i64 1))⟩,
  ⟨(some 25), none, .mv (.t 0)⟩,
  ⟨(some 26), none, .len (.t 25)⟩,
  ⟨(some 27), none, .bin .rem (.t 24) (.t 26)⟩,
  ⟨(some 5), none, .mv (.t 27)⟩]
theorem tr29_5 : (ro Tryd.f29 5).toList.mapM (trO Tryd.prog 60 (ro Tryd.f29 5)) = some a29_5 := by kernel_rfl
def a29_6 : List AO := [⟨(some 6), none, .mv (.v (.int .i64 0))⟩]
theorem tr29_6 : (ro Tryd.f29 6).toList.mapM (trO Tryd.prog 60 (ro Tryd.f29 6)) = some a29_6 := by kernel_rfl
def a29_7 : List AO := [⟨(some 28), none, .mv (.t 6)⟩,
  ⟨(some 29), none, .mv (.t 0)⟩,
  ⟨(some 30), none, .len (.t 29)⟩,
  ⟨(some 31), none, .bin .lss (.t 28) (.t 30)⟩]
theorem tr29_7 : (ro Tryd.f29 7).toList.mapM (trO Tryd.prog 60 (ro Tryd.f29 7)) = some a29_7 := by kernel_rfl
def a29_9 : List AO := [⟨(some 34), none, .mv (.t 6)⟩,
  ⟨(some 35), none, .mv (.t 4)⟩,
  ⟨(some 36), none, .bin .neq (.t 34) (.t 35)⟩,
  ⟨(some 37), none, .mv (.t 36)⟩,
  ⟨(some 38), some (37, true), .mv (.t 6)⟩,
  ⟨(some 39), some (37, true), .mv (.t 5)⟩,
  ⟨(some 40), some (37, true), .bin .neq (.t 38) (.t 39)⟩,
  ⟨(some 41), none, .pick (.t 37) (.t 40) (.v (.bool false))⟩,
  ⟨(some 42), none, .mv (.t 41)⟩,
  ⟨(some 43), some (42, true), .mv (.t 0)⟩,
  ⟨(some 44), some (42, true), .mv (.t 4)⟩,
  ⟨(some 45), some (42, true), .idx 2 (.t 43) (.t 44)⟩,
  ⟨(some 46), some (42, true), .load (some 2) (.t 45)⟩,
  ⟨(some 47), some (42, true), .mv (.t 0)⟩,
  ⟨(some 48), some (42, true), .mv (.t 5)⟩,
  ⟨(some 49), some (42, true), .idx 2 (.t 47) (.t 48)⟩,
  ⟨(some 50), some (42, true), .load (some 2) (.t 49)⟩,
  ⟨(some 51), some (42, true), .mv (.t 0)⟩,
  ⟨(some 52), some (42, true), .mv (.t 6)⟩,
  ⟨(some 53), some (42, true), .idx 2 (.t 51) (.t 52)⟩,
  ⟨(some 54), some (42, true), .load (some 2) (.t 53)⟩,
  ⟨(some 55), some (42, true), .call 31 [(.t 46), (.t 50), (.t 54)]⟩,
  ⟨(some 56), some (42, true), .mv (.t 3)⟩,
  ⟨(some 57), some (42, true), .bin .neq (.t 55) (.t 56)⟩,
  ⟨(some 58), none, .pick (.t 42) (.t 57) (.v (.bool false))⟩]
theorem tr29_9 : (ro Tryd.f29 9).toList.mapM (trO Tryd.prog 60 (ro Tryd.f29 9)) = some a29_9 := by kernel_rfl
def d29_9 : List (List Nat) := [[], [], [0, 1], [0, 1, 2], [0, 1, 2, 3], [0, 1, 2, 3], [0, 1, 2, 3, 4, 5], [0, 1, 2, 3, 4, 5, 6], [0, 1, 2, 3, 4, 5, 6, 7], [0, 1, 2, 3, 4, 5, 6, 7, 8], [0, 1, 2, 3, 4, 5, 6, 7, 8], [0, 1, 2, 3, 4, 5, 6, 7, 8, 9, 10], [0, 1, 2, 3, 4, 5, 6, 7, 8, 9, 10, 11], [0, 1, 2, 3, 4, 5, 6, 7, 8], [0, 1, 2, 3, 4, 5, 6, 7, 8], [0, 1, 2, 3, 4, 5, 6, 7, 8, 13, 14], [0, 1, 2, 3, 4, 5, 6, 7, 8, 13, 14, 15], [0, 1, 2, 3, 4, 5, 6, 7, 8], [0, 1, 2, 3, 4, 5, 6, 7, 8], [0, 1, 2, 3, 4, 5, 6, 7, 8, 17, 18], [0, 1, 2, 3, 4, 5, 6, 7, 8, 17, 18, 19], [0, 1, 2, 3, 4, 5, 6, 7, 8, 9, 10, 11, 12, 13, 14, 15, 16, 17, 18, 19, 20], [0, 1, 2, 3, 4, 5, 6, 7, 8], [0, 1, 2, 3, 4, 5, 6, 7, 8, 9, 10, 11, 12, 13, 14, 15, 16, 17, 18, 19, 20, 21, 22], [0, 1, 2, 3, 4, 5, 6, 7, 8, 9, 10, 11, 12, 13, 14, 15, 16, 17, 18, 19, 20, 21, 22, 23]]
theorem ok29_9 : okReg (ro Tryd.f29 9) a29_9 d29_9 = true := by kernel_rfl
def a29_10 : List AO := [⟨(some 2), none, .mv (.v (.int .i64 0))⟩]
theorem tr29_10 : (ro Tryd.f29 10).toList.mapM (trO Tryd.prog 60 (ro Tryd.f29 10)) = some a29_10 := by kernel_rfl
def a29_8 : List AO := [⟨(some 32), none, .mv (.t 6)⟩,
  ⟨(some 33), none, .bin .add (.t 32) (.v (.int .i64 1))⟩,
  ⟨(some 6), none, .mv (.t 33)⟩]
theorem tr29_8 : (ro Tryd.f29 8).toList.mapM (trO Tryd.prog 60 (ro Tryd.f29 8)) = some a29_8 := by kernel_rfl
def a29_4 : List AO := [⟨(some 21), none, .mv (.t 4)⟩,
  ⟨(some 22), none, .bin .add (.t 21) (.v (.int .i64 1))⟩,
  ⟨(some 4), none, .mv (.t 22)⟩]
theorem tr29_4 : (ro Tryd.f29 4).toList.mapM (trO Tryd.prog 60 (ro Tryd.f29 4)) = some a29_4 := by kernel_rfl
def a29_11 : List AO := [⟨(some 59), none, .mv (.t 3)⟩,
  ⟨(some 2), none, .mv (.t 59)⟩]
theorem tr29_11 : (ro Tryd.f29 11).toList.mapM (trO Tryd.prog 60 (ro Tryd.f29 11)) = some a29_11 := by kernel_rfl
/-- airline/balance.side -/
noncomputable def c30 : Code := .seq (.region 0 (ro Tryd.f30 0) false) (.seq (.region 1 (ro Tryd.f30 1) false) (.seq (.block 0 (.seq (.region 2 (ro Tryd.f30 2) false) (.cond (.tmp 31) (.seq (.region 3 (ro Tryd.f30 3) false) (.ret)) (.seq (.region 4 (ro Tryd.f30 4) false) (.cond (.tmp 34) (.seq (.region 5 (ro Tryd.f30 5) false) (.ret)) (.skip)))))) (.seq (.region 6 (ro Tryd.f30 6) false) (.ret))))
theorem body30 : Tryd.f30.body = some c30 := by kernel_rfl
theorem res30 : Tryd.f30.results.toList.mapM (trR Tryd.prog) = some [.t 6] := by kernel_rfl
theorem nt30 : Tryd.f30.ntmps = 37 := by kernel_rfl
theorem nm30 : (Tryd.f30.name == "runtime.NumGoroutine") = false := by kernel_rfl
def a30_0 : List AO := [⟨(some 3), none, .box 33 (.t 0)⟩,
  ⟨(some 4), none, .box 33 (.t 1)⟩,
  ⟨(some 5), none, .box 33 (.t 2)⟩,
  ⟨(some 6), none, .mv (.v (.int .i64 0))⟩]
theorem tr30_0 : (ro Tryd.f30 0).toList.mapM (trO Tryd.prog 37 (ro Tryd.f30 0)) = some a30_0 := by kernel_rfl
def a30_1 : List AO := [⟨(some 8), none, .fld 0 (.t 4)⟩,
  ⟨(some 9), none, .load none (.t 8)⟩,
  ⟨(some 10), none, .fld 0 (.t 3)⟩,
  ⟨(some 11), none, .load none (.t 10)⟩,
  ⟨(some 12), none, .bin .sub (.t 9) (.t 11)⟩,
  ⟨(some 13), none, .fld 1 (.t 5)⟩,
  ⟨(some 14), none, .load none (.t 13)⟩,
  ⟨(some 15), none, .fld 1 (.t 3)⟩,
  ⟨(some 16), none, .load none (.t 15)⟩,
  ⟨(some 17), none, .bin .sub (.t 14) (.t 16)⟩,
  ⟨(some 18), none, .bin .mul (.t 12) (.t 17)⟩,
  ⟨(some 19), none, .fld 1 (.t 4)⟩,
  ⟨(some 20), none, .load none (.t 19)⟩,
  ⟨(some 21), none, .fld 1 (.t 3)⟩,
  ⟨(some 22), none, .load none (.t 21)⟩,
  ⟨(some 23), none, .bin .sub (.t 20) (.t 22)⟩,
  ⟨(some 24), none, .fld 0 (.t 5)⟩,
  ⟨(some 25), none, .load none (.t 24)⟩,
  ⟨(some 26), none, .fld 0 (.t 3)⟩,
  ⟨(some 27), none, .load none (.t 26)⟩,
  ⟨(some 28), none, .bin .sub (.t 25) (.t 27)⟩,
  ⟨(some 29), none, .bin .mul (.t 23) (.t 28)⟩,
  ⟨(some 30), none, .bin .sub (.t 18) (.t 29)⟩,
  ⟨(some 7), none, .mv (.t 30)⟩]
theorem tr30_1 : (ro Tryd.f30 1).toList.mapM (trO Tryd.prog 37 (ro Tryd.f30 1)) = some a30_1 := by kernel_rfl
def a30_2 : List AO := [⟨(some 32), none, .mv (.t 7)⟩,
  ⟨(some 33), none, .bin .gtr (.t 32) (.v (.int .i64 0))⟩,
  ⟨(some 31), none, .mv (.t 33)⟩]
theorem tr30_2 : (ro Tryd.f30 2).toList.mapM (trO Tryd.prog 37 (ro Tryd.f30 2)) = some a30_2 := by kernel_rfl
def a30_3 : List AO := [⟨(some 6), none, .mv (.v (.int .i64 1))⟩]
theorem tr30_3 : (ro Tryd.f30 3).toList.mapM (trO Tryd.prog 37 (ro Tryd.f30 3)) = some a30_3 := by kernel_rfl
def a30_4 : List AO := [⟨(some 35), none, .mv (.t 7)⟩,
  ⟨(some 36), none, .bin .lss (.t 35) (.v (.int .i64 0))⟩,
  ⟨(some 34), none, .mv (.t 36)⟩]
theorem tr30_4 : (ro Tryd.f30 4).toList.mapM (trO Tryd.prog 37 (ro Tryd.f30 4)) = some a30_4 := by kernel_rfl
def a30_5 : List AO := [⟨(some 6), none, .mv (.v (.int .i64 (-1)))⟩]
theorem tr30_5 : (ro Tryd.f30 5).toList.mapM (trO Tryd.prog 37 (ro Tryd.f30 5)) = some a30_5 := by kernel_rfl
def a30_6 : List AO := [⟨(some 6), none, .mv (.v (.int .i64 0))⟩]
theorem tr30_6 : (ro Tryd.f30 6).toList.mapM (trO Tryd.prog 37 (ro Tryd.f30 6)) = some a30_6 := by kernel_rfl
/-- airline/airlineref49.side -/
noncomputable def c31 : Code := .seq (.region 0 (ro Tryd.f31 0) false) (.seq (.region 1 (ro Tryd.f31 1) false) (.seq (.seq (.region 2 (ro Tryd.f31 2) false) (.cond (.tmp 32) (.seq (.region 3 (ro Tryd.f31 3) false) (.ret)) (.skip))) (.seq (.seq (.region 4 (ro Tryd.f31 4) false) (.cond (.tmp 34) (.seq (.region 5 (ro Tryd.f31 5) false) (.ret)) (.skip))) (.seq (.region 6 (ro Tryd.f31 6) false) (.ret)))))
theorem body31 : Tryd.f31.body = some c31 := by kernel_rfl
theorem res31 : Tryd.f31.results.toList.mapM (trR Tryd.prog) = some [.t 6] := by kernel_rfl
theorem nt31 : Tryd.f31.ntmps = 35 := by kernel_rfl
theorem nm31 : (Tryd.f31.name == "runtime.NumGoroutine") = false := by kernel_rfl
def a31_0 : List AO := [⟨(some 3), none, .box 33 (.t 0)⟩,
  ⟨(some 4), none, .box 33 (.t 1)⟩,
  ⟨(some 5), none, .box 33 (.t 2)⟩,
  ⟨(some 6), none, .mv (.v (.int .i64 0))⟩]
theorem tr31_0 : (ro Tryd.f31 0).toList.mapM (trO Tryd.prog 35 (ro Tryd.f31 0)) = some a31_0 := by kernel_rfl
def a31_1 : List AO := [⟨(some 8), none, .fld 0 (.t 4)⟩,
  ⟨(some 9), none, .load none (.t 8)⟩,
  ⟨(some 10), none, .fld 0 (.t 3)⟩,
  ⟨(some 11), none, .load none (.t 10)⟩,
  ⟨(some 12), none, .bin .sub (.t 9) (.t 11)⟩,
  ⟨(some 13), none, .fld 1 (.t 5)⟩,
  ⟨(some 14), none, .load none (.t 13)⟩,
  ⟨(some 15), none, .fld 1 (.t 3)⟩,
  ⟨(some 16), none, .load none (.t 15)⟩,
  ⟨(some 17), none, .bin .sub (.t 14) (.t 16)⟩,
  ⟨(some 18), none, .bin .mul (.t 12) (.t 17)⟩,
  ⟨(some 19), none, .fld 1 (.t 4)⟩,
  ⟨(some 20), none, .load none (.t 19)⟩,
  ⟨(some 21), none, .fld 1 (.t 3)⟩,
  ⟨(some 22), none, .load none (.t 21)⟩,
  ⟨(some 23), none, .bin .sub (.t 20) (.t 22)⟩,
  ⟨(some 24), none, .fld 0 (.t 5)⟩,
  ⟨(some 25), none, .load none (.t 24)⟩,
  ⟨(some 26), none, .fld 0 (.t 3)⟩,
  ⟨(some 27), none, .load none (.t 26)⟩,
  ⟨(some 28), none, .bin .sub (.t 25) (.t 27)⟩,
  ⟨(some 29), none, .bin .mul (.t 23) (.t 28)⟩,
  ⟨(some 30), none, .bin .sub (.t 18) (.t 29)⟩,
  ⟨(some 7), none, .mv (.t 30)⟩]
theorem tr31_1 : (ro Tryd.f31 1).toList.mapM (trO Tryd.prog 35 (ro Tryd.f31 1)) = some a31_1 := by kernel_rfl
def a31_2 : List AO := [⟨(some 31), none, .mv (.t 7)⟩,
  ⟨(some 32), none, .bin .gtr (.t 31) (.v (.int .i64 0))⟩]
theorem tr31_2 : (ro Tryd.f31 2).toList.mapM (trO Tryd.prog 35 (ro Tryd.f31 2)) = some a31_2 := by kernel_rfl
def a31_3 : List AO := [⟨(some 6), none, .mv (.v (.int .i64 1))⟩]
theorem tr31_3 : (ro Tryd.f31 3).toList.mapM (trO Tryd.prog 35 (ro Tryd.f31 3)) = some a31_3 := by kernel_rfl
def a31_4 : List AO := [⟨(some 33), none, .mv (.t 7)⟩,
  ⟨(some 34), none, .bin .lss (.t 33) (.v (.int .i64 0))⟩]
theorem tr31_4 : (ro Tryd.f31 4).toList.mapM (trO Tryd.prog 35 (ro Tryd.f31 4)) = some a31_4 := by kernel_rfl
def a31_5 : List AO := [⟨(some 6), none, .mv (.v (.int .i64 (-1)))⟩]
theorem tr31_5 : (ro Tryd.f31 5).toList.mapM (trO Tryd.prog 35 (ro Tryd.f31 5)) = some a31_5 := by kernel_rfl
def a31_6 : List AO := [⟨(some 6), none, .mv (.v (.int .i64 0))⟩]
theorem tr31_6 : (ro Tryd.f31 6).toList.mapM (trO Tryd.prog 35 (ro Tryd.f31 6)) = some a31_6 := by kernel_rfl
/-- (*airline/balance.loader).put -/
noncomputable def c32 : Code := .seq (.region 0 (ro Tryd.f32 0) false) (.seq (.seq (.region 1 (ro Tryd.f32 1) false) (.cond (.tmp 13) (.seq (.region 2 (ro Tryd.f32 2) true) (.ret)) (.skip))) (.seq (.region 3 (ro Tryd.f32 3) false) (.seq (.seq (.region 4 (ro Tryd.f32 4) false) (.block 0 (.loop (.seq (.region 5 (ro Tryd.f32 5) false) (.seq (.cond (.tmp 37) (.skip) (.exit 0)) (.seq (.block 1 (.seq (.region 6 (ro Tryd.f32 6) false) (.seq (.seq (.region 7 (ro Tryd.f32 7) true) (.cond (.tmp 57) (.exit 1) (.skip))) (.seq (.region 8 (ro Tryd.f32 8) false) (.seq (.region 9 (ro Tryd.f32 9) false) (.seq (.seq (.region 10 (ro Tryd.f32 10) false) (.cond (.tmp 78) (.seq (.region 11 (ro Tryd.f32 11) false) (.ret)) (.skip))) (.region 12 (ro Tryd.f32 12) false))))))) (.region 13 (ro Tryd.f32 13) false))))))) (.seq (.region 14 (ro Tryd.f32 14) false) (.ret)))))
theorem body32 : Tryd.f32.body = some c32 := by kernel_rfl
theorem res32 : Tryd.f32.results.toList.mapM (trR Tryd.prog) = some [.t 4] := by kernel_rfl
theorem nt32 : Tryd.f32.ntmps = 90 := by kernel_rfl
theorem nm32 : (Tryd.f32.name == "runtime.NumGoroutine") = false := by kernel_rfl
def a32_0 : List AO := [⟨(some 4), none, .mv (.v (.bool false))⟩]
theorem tr32_0 : (ro Tryd.f32 0).toList.mapM (trO Tryd.prog 90 (ro Tryd.f32 0)) = some a32_0 := by kernel_rfl
def a32_1 : List AO := [⟨(some 7), none, .mv (.t 1)⟩,
  ⟨(some 8), none, .mv (.t 0)⟩,
  ⟨(some 9), none, .nchk (.t 8)⟩,
  ⟨(some 10), none, .fld 4 (.t 9)⟩,
  ⟨(some 11), none, .load none (.t 10)⟩,
  ⟨(some 12), none, .len (.t 11)⟩,
  ⟨(some 13), none, .bin .eql (.t 7) (.t 12)⟩]
theorem tr32_1 : (ro Tryd.f32 1).toList.mapM (trO Tryd.prog 90 (ro Tryd.f32 1)) = some a32_1 := by kernel_rfl
def a32_2 : List AO := [⟨(some 14), none, .mv (.t 0)⟩,
  ⟨(some 15), none, .nchk (.t 14)⟩,
  ⟨(some 16), none, .fld 0 (.t 15)⟩,
  ⟨(some 17), none, .load (some 4) (.t 16)⟩,
  ⟨(some 18), none, .mv (.t 0)⟩,
  ⟨(some 19), none, .nchk (.t 18)⟩,
  ⟨(some 20), none, .fld 6 (.t 19)⟩,
  ⟨(some 21), none, .load none (.t 20)⟩,
  ⟨(some 22), none, .call 15 [(.t 17), (.t 21)]⟩,
  ⟨(some 23), none, .bin .eql (.t 22) (.v (.int .i64 0))⟩,
  ⟨(some 4), none, .mv (.t 23)⟩]
theorem tr32_2 : (ro Tryd.f32 2).toList.mapM (trO Tryd.prog 90 (ro Tryd.f32 2)) = some a32_2 := by kernel_rfl
def d32_2 : List (List Nat) := [[], [0], [0, 1], [0, 1, 2], [], [4], [4, 5], [4, 5, 6], [0, 1, 2, 3, 4, 5, 6, 7], [0, 1, 2, 3, 4, 5, 6, 7, 8], [0, 1, 2, 3, 4, 5, 6, 7, 8, 9]]
theorem ok32_2 : okReg (ro Tryd.f32 2) a32_2 d32_2 = true := by kernel_rfl
def a32_3 : List AO := [⟨(some 24), none, .mv (.t 0)⟩,
  ⟨(some 25), none, .nchk (.t 24)⟩,
  ⟨(some 26), none, .fld 4 (.t 25)⟩,
  ⟨(some 27), none, .load none (.t 26)⟩,
  ⟨(some 28), none, .mv (.t 1)⟩,
  ⟨(some 29), none, .idx 1 (.t 27) (.t 28)⟩,
  ⟨(some 30), none, .load none (.t 29)⟩,
  ⟨(some 5), none, .mv (.t 30)⟩]
theorem tr32_3 : (ro Tryd.f32 3).toList.mapM (trO Tryd.prog 90 (ro Tryd.f32 3)) = some a32_3 := by kernel_rfl
def a32_4 : List AO := [⟨(some 31), none, .mv (.t 0)⟩,
  ⟨(some 32), none, .nchk (.t 31)⟩,
  ⟨(some 33), none, .fld 6 (.t 32)⟩,
  ⟨(some 34), none, .load none (.t 33)⟩,
  ⟨(some 35), none, .len (.t 34)⟩,
  ⟨(some 36), none, .mv (.v (.int .i64 0))⟩]
theorem tr32_4 : (ro Tryd.f32 4).toList.mapM (trO Tryd.prog 90 (ro Tryd.f32 4)) = some a32_4 := by kernel_rfl
def a32_5 : List AO := [⟨(some 37), none, .bin .lss (.t 36) (.t 35)⟩]
theorem tr32_5 : (ro Tryd.f32 5).toList.mapM (trO Tryd.prog 90 (ro Tryd.f32 5)) = some a32_5 := by kernel_rfl
def a32_6 : List AO := [⟨(some 38), none, .mv (.t 36)⟩,
  ⟨(some 6), none, .mv (.t 38)⟩]
theorem tr32_6 : (ro Tryd.f32 6).toList.mapM (trO Tryd.prog 90 (ro Tryd.f32 6)) = some a32_6 := by kernel_rfl
def a32_7 : List AO := [⟨(some 39), none, .mv (.t 0)⟩,
  ⟨(some 40), none, .nchk (.t 39)⟩,
  ⟨(some 41), none, .fld 6 (.t 40)⟩,
  ⟨(some 42), none, .load none (.t 41)⟩,
  ⟨(some 43), none, .mv (.t 6)⟩,
  ⟨(some 44), none, .idx 1 (.t 42) (.t 43)⟩,
  ⟨(some 45), none, .load none (.t 44)⟩,
  ⟨(some 46), none, .mv (.t 0)⟩,
  ⟨(some 47), none, .nchk (.t 46)⟩,
  ⟨(some 48), none, .fld 0 (.t 47)⟩,
  ⟨(some 49), none, .fld 2 (.t 48)⟩,
  ⟨(some 50), none, .load none (.t 49)⟩,
  ⟨(some 51), none, .mv (.t 6)⟩,
  ⟨(some 52), none, .idx 2 (.t 50) (.t 51)⟩,
  ⟨(some 53), none, .fld 1 (.t 52)⟩,
  ⟨(some 54), none, .load none (.t 53)⟩,
  ⟨(some 55), none, .mv (.t 5)⟩,
  ⟨(some 56), none, .bin .sub (.t 54) (.t 55)⟩,
  ⟨(some 57), none, .bin .gtr (.t 45) (.t 56)⟩]
theorem tr32_7 : (ro Tryd.f32 7).toList.mapM (trO Tryd.prog 90 (ro Tryd.f32 7)) = some a32_7 := by kernel_rfl
def d32_7 : List (List Nat) := [[], [0], [0, 1], [0, 1, 2], [], [0, 1, 2, 3, 4], [0, 1, 2, 3, 4, 5], [], [7], [7, 8], [7, 8, 9], [7, 8, 9, 10], [], [7, 8, 9, 10, 11, 12], [7, 8, 9, 10, 11, 12, 13], [7, 8, 9, 10, 11, 12, 13, 14], [], [7, 8, 9, 10, 11, 12, 13, 14, 15, 16], [0, 1, 2, 3, 4, 5, 6, 7, 8, 9, 10, 11, 12, 13, 14, 15, 16, 17]]
theorem ok32_7 : okReg (ro Tryd.f32 7) a32_7 d32_7 = true := by kernel_rfl
def a32_8 : List AO := [⟨(some 58), none, .mv (.t 0)⟩,
  ⟨(some 59), none, .nchk (.t 58)⟩,
  ⟨(some 60), none, .fld 5 (.t 59)⟩,
  ⟨(some 61), none, .load none (.t 60)⟩,
  ⟨(some 62), none, .mv (.t 1)⟩,
  ⟨(some 63), none, .mv (.t 6)⟩,
  ⟨(some 64), none, .idx 1 (.t 61) (.t 62)⟩,
  ⟨none, none, .store 1 (.t 64) (.t 63)⟩]
theorem tr32_8 : (ro Tryd.f32 8).toList.mapM (trO Tryd.prog 90 (ro Tryd.f32 8)) = some a32_8 := by kernel_rfl
def a32_9 : List AO := [⟨(some 65), none, .mv (.t 0)⟩,
  ⟨(some 66), none, .nchk (.t 65)⟩,
  ⟨(some 67), none, .fld 6 (.t 66)⟩,
  ⟨(some 68), none, .load none (.t 67)⟩,
  ⟨(some 69), none, .mv (.t 6)⟩,
  ⟨(some 70), none, .idx 1 (.t 68) (.t 69)⟩,
  ⟨(some 71), none, .load none (.t 70)⟩,
  ⟨(some 72), none, .mv (.t 5)⟩,
  ⟨(some 73), none, .bin .add (.t 71) (.t 72)⟩,
  ⟨(some 74), none, .idx 1 (.t 68) (.t 69)⟩,
  ⟨none, none, .store 1 (.t 74) (.t 73)⟩]
theorem tr32_9 : (ro Tryd.f32 9).toList.mapM (trO Tryd.prog 90 (ro Tryd.f32 9)) = some a32_9 := by kernel_rfl
def a32_10 : List AO := [⟨(some 75), none, .mv (.t 0)⟩,
  ⟨(some 76), none, .mv (.t 1)⟩,
  ⟨(some 77), none, .bin .add (.t 76) (.v (.int .i64 1))⟩,
  ⟨(some 78), none, .call 32 [(.t 75), (.t 77)]⟩]
theorem tr32_10 : (ro Tryd.f32 10).toList.mapM (trO Tryd.prog 90 (ro Tryd.f32 10)) = some a32_10 := by kernel_rfl
def a32_11 : List AO := [⟨(some 4), none, .mv (.v (.bool true))⟩]
theorem tr32_11 : (ro Tryd.f32 11).toList.mapM (trO Tryd.prog 90 (ro Tryd.f32 11)) = some a32_11 := by kernel_rfl
def a32_12 : List AO := [⟨(some 79), none, .mv (.t 0)⟩,
  ⟨(some 80), none, .nchk (.t 79)⟩,
  ⟨(some 81), none, .fld 6 (.t 80)⟩,
  ⟨(some 82), none, .load none (.t 81)⟩,
  ⟨(some 83), none, .mv (.t 6)⟩,
  ⟨(some 84), none, .idx 1 (.t 82) (.t 83)⟩,
  ⟨(some 85), none, .load none (.t 84)⟩,
  ⟨(some 86), none, .mv (.t 5)⟩,
  ⟨(some 87), none, .bin .sub (.t 85) (.t 86)⟩,
  ⟨(some 88), none, .idx 1 (.t 82) (.t 83)⟩,
  ⟨none, none, .store 1 (.t 88) (.t 87)⟩]
theorem tr32_12 : (ro Tryd.f32 12).toList.mapM (trO Tryd.prog 90 (ro Tryd.f32 12)) = some a32_12 := by kernel_rfl
def a32_13 : List AO := [⟨(some 89), none, .bin .add (.t 36) (.v (.int .i64 1))⟩,
  ⟨(some 36), none, .mv (.t 89)⟩]
theorem tr32_13 : (ro Tryd.f32 13).toList.mapM (trO Tryd.prog 90 (ro Tryd.f32 13)) = some a32_13 := by kernel_rfl
def a32_14 : List AO := [⟨(some 4), none, .mv (.v (.bool false))⟩]
theorem tr32_14 : (ro Tryd.f32 14).toList.mapM (trO Tryd.prog 90 (ro Tryd.f32 14)) = some a32_14 := by kernel_rfl
/-- airline/airlineref01.digits -/
noncomputable def c34 : Code := .seq (.region 0 (ro Tryd.f34 0) false) (.seq (.seq (.region 1 (ro Tryd.f34 1) false) (.cond (.tmp 4) (.seq (.region 2 (ro Tryd.f34 2) false) (.ret)) (.skip))) (.seq (.region 3 (ro Tryd.f34 3) true) (.ret)))
theorem body34 : Tryd.f34.body = some c34 := by kernel_rfl
theorem res34 : Tryd.f34.results.toList.mapM (trR Tryd.prog) = some [.t 2] := by kernel_rfl
theorem nt34 : Tryd.f34.ntmps = 19 := by kernel_rfl
theorem nm34 : (Tryd.f34.name == "runtime.NumGoroutine") = false := by kernel_rfl
def a34_0 : List AO := [⟨(some 2), none, .mv (.v (.str []))⟩]
theorem tr34_0 : (ro Tryd.f34 0).toList.mapM (trO Tryd.prog 19 (ro Tryd.f34 0)) = some a34_0 := by kernel_rfl
def a34_1 : List AO := [⟨(some 3), none, .mv (.t 0)⟩,
  ⟨(some 4), none, .bin .lss (.t 3) (.v (.int .u64 10))⟩]
theorem tr34_1 : (ro Tryd.f34 1).toList.mapM (trO Tryd.prog 19 (ro Tryd.f34 1)) = some a34_1 := by kernel_rfl
def a34_2 : List AO := [⟨(some 5), none, .mv (.t 0)⟩,
  ⟨(some 6), none, .mv (.t 0)⟩,
  ⟨(some 7), none, .bin .add (.t 6) (.v (.int .u64 1))⟩,
  ⟨(some 8), none, .ssub (some (.t 5)) (some (.t 7)) (.v (.str [48, 49, 50, 51, 52, 53, 54, 55, 56, 57]))⟩,
  ⟨(some 2), none, .mv (.t 8)⟩]
theorem tr34_2 : (ro Tryd.f34 2).toList.mapM (trO Tryd.prog 19 (ro Tryd.f34 2)) = some a34_2 := by kernel_rfl
def a34_3 : List AO := [⟨(some 9), none, .mv (.t 0)⟩,
  ⟨(some 10), none, .bin .quo (.t 9) (.v (.int .u64 10))⟩,
  ⟨(some 11), none, .call 34 [(.t 10)]⟩,
  ⟨(some 12), none, .mv (.t 0)⟩,
  ⟨(some 13), none, .bin .rem (.t 12) (.v (.int .u64 10))⟩,
  ⟨(some 14), none, .mv (.t 0)⟩,
  ⟨(some 15), none, .bin .rem (.t 14) (.v (.int .u64 10))⟩,
  ⟨(some 16), none, .bin .add (.t 15) (.v (.int .u64 1))⟩,
  ⟨(some 17), none, .ssub (some (.t 13)) (some (.t 16)) (.v (.str [48, 49, 50, 51, 52, 53, 54, 55, 56, 57]))⟩,
  ⟨(some 18), none, .bin .add (.t 11) (.t 17)⟩,
  ⟨(some 2), none, .mv (.t 18)⟩]
theorem tr34_3 : (ro Tryd.f34 3).toList.mapM (trO Tryd.prog 19 (ro Tryd.f34 3)) = some a34_3 := by kernel_rfl
def d34_3 : List (List Nat) := [[], [0], [0, 1], [], [3], [], [5], [5, 6], [3, 4, 5, 6, 7], [0, 1, 2, 3, 4, 5, 6, 7, 8], [0, 1, 2, 3, 4, 5, 6, 7, 8, 9]]
theorem ok34_3 : okReg (ro Tryd.f34 3) a34_3 d34_3 = true := by kernel_rfl
end Go.Proofs.YtemeeeomcjdlnaaDoor
