/- The code of the functions, region by region, as abstract operations. -/
import Derived.Test.YtnlgkeiilenojaaDoorProg
import Derived.Test.YtnlgkeiilenojaaDoorAv21
namespace Go.Proofs.YtnlgkeiilenojaaDoor
open Go Go.RowKit
def findR : Code → Nat → Option (Array Oper)
  | .region i ops _, k => if i = k then some ops else none
  | .seq a b, k => (findR a k).or (findR b k)
  | .cond _ a b, k => (findR a k).or (findR b k)
  | .block _ c, k => findR c k
  | .loop c, k => findR c k
  | .scope c, k => findR c k
  | _, _ => none
def ro (f : Func) (k : Nat) : Array Oper := ((f.body.bind fun c => findR c k).getD #[])
theorem mixed : Tryd.prog.follows .mixedOrders = true := by kernel_rfl
/-- airline/airlinelaw33.ServiceChecks -/
noncomputable def c3 : Code := .seq (.region 0 (ro Tryd.f3 0) false) (.seq (.seq (.region 1 (ro Tryd.f3 1) false) (.cond (.tmp 4) (.seq (.region 2 (ro Tryd.f3 2) false) (.ret)) (.skip))) (.seq (.region 3 (ro Tryd.f3 3) false) (.ret)))
theorem body3 : Tryd.f3.body = some c3 := by kernel_rfl
theorem res3 : Tryd.f3.results.toList.mapM (trR Tryd.prog) = some [.t 2] := by kernel_rfl
theorem nt3 : Tryd.f3.ntmps = 15 := by kernel_rfl
theorem nm3 : (Tryd.f3.name == "runtime.NumGoroutine") = false := by kernel_rfl
def a3_0 : List AO := [⟨(some 2), none, .mv (.v (.bool false))⟩]
theorem tr3_0 : (ro Tryd.f3 0).toList.mapM (trO Tryd.prog 15 (ro Tryd.f3 0)) = some a3_0 := by kernel_rfl
def a3_1 : List AO := [⟨(some 3), none, .mv (.t 0)⟩,
  ⟨(some 4), none, .call 8 [(.t 3)]⟩]
theorem tr3_1 : (ro Tryd.f3 1).toList.mapM (trO Tryd.prog 15 (ro Tryd.f3 1)) = some a3_1 := by kernel_rfl
def a3_2 : List AO := [⟨(some 5), none, .call 9 []⟩,
  ⟨(some 2), none, .mv (.t 5)⟩]
theorem tr3_2 : (ro Tryd.f3 2).toList.mapM (trO Tryd.prog 15 (ro Tryd.f3 2)) = some a3_2 := by kernel_rfl
def a3_3 : List AO := [⟨(some 6), none, .mv (.t 0)⟩,
  ⟨(some 7), none, .call 12 [(.t 6)]⟩,
  ⟨(some 8), none, .call 11 [(.t 7)]⟩,
  ⟨(some 9), none, .mv (.t 0)⟩,
  ⟨(some 10), none, .call 13 [(.t 9)]⟩,
  ⟨(some 11), none, .call 10 [(.t 8), (.t 10)]⟩,
  ⟨(some 12), none, .mv (.t 11)⟩,
  ⟨(some 13), some (12, true), .call 9 []⟩,
  ⟨(some 14), none, .pick (.t 12) (.t 13) (.v (.bool false))⟩,
  ⟨(some 2), none, .mv (.t 14)⟩]
theorem tr3_3 : (ro Tryd.f3 3).toList.mapM (trO Tryd.prog 15 (ro Tryd.f3 3)) = some a3_3 := by kernel_rfl
/-- airline/airlinelaw33.ServiceAdds -/
noncomputable def c4 : Code := .seq (.region 0 (ro Tryd.f4 0) false) (.seq (.seq (.region 1 (ro Tryd.f4 1) false) (.cond (.tmp 18) (.seq (.region 2 (ro Tryd.f4 2) false) (.ret)) (.skip))) (.seq (.region 3 (ro Tryd.f4 3) true) (.seq (.region 4 (ro Tryd.f4 4) false) (.seq (.region 5 (ro Tryd.f4 5) true) (.ret)))))
theorem body4 : Tryd.f4.body = some c4 := by kernel_rfl
theorem res4 : Tryd.f4.results.toList.mapM (trR Tryd.prog) = some [.t 8] := by kernel_rfl
theorem nt4 : Tryd.f4.ntmps = 62 := by kernel_rfl
theorem nm4 : (Tryd.f4.name == "runtime.NumGoroutine") = false := by kernel_rfl
def a4_0 : List AO := [⟨(some 5), none, .box 35 (.t 1)⟩,
  ⟨(some 6), none, .box 37 (.t 2)⟩,
  ⟨(some 8), none, .mv (.v (.bool false))⟩]
theorem tr4_0 : (ro Tryd.f4 0).toList.mapM (trO Tryd.prog 62 (ro Tryd.f4 0)) = some a4_0 := by kernel_rfl
def a4_1 : List AO := [⟨(some 13), none, .mv (.t 0)⟩,
  ⟨(some 14), none, .call 8 [(.t 13)]⟩,
  ⟨(some 15), none, .mv (.t 14)⟩,
  ⟨(some 16), some (15, false), .load (some 6) (.t 5)⟩,
  ⟨(some 17), some (15, false), .call 14 [(.t 16)]⟩,
  ⟨(some 18), none, .pick (.t 15) (.v (.bool true)) (.t 17)⟩]
theorem tr4_1 : (ro Tryd.f4 1).toList.mapM (trO Tryd.prog 62 (ro Tryd.f4 1)) = some a4_1 := by kernel_rfl
def a4_2 : List AO := [⟨(some 19), none, .call 9 []⟩,
  ⟨(some 8), none, .mv (.t 19)⟩]
theorem tr4_2 : (ro Tryd.f4 2).toList.mapM (trO Tryd.prog 62 (ro Tryd.f4 2)) = some a4_2 := by kernel_rfl
def a4_3 : List AO := [⟨(some 21), none, .mv (.t 0)⟩,
  ⟨(some 22), none, .call 12 [(.t 21)]⟩,
  ⟨(some 23), none, .load (some 6) (.t 5)⟩,
  ⟨(some 24), none, .load (some 3) (.t 6)⟩,
  ⟨(some 25), none, .mv (.t 3)⟩,
  ⟨(some 26), none, .call 15 [(.t 22), (.t 23), (.t 24), (.t 25)]⟩,
  ⟨(some 20), none, .mv (.t 26)⟩,
  ⟨(some 27), none, .ext 0 (.t 20)⟩,
  ⟨(some 28), none, .ext 1 (.t 20)⟩,
  ⟨(some 9), none, .alloc 35 [(.str []), .nils, (.int .i64 0), .nils, .nils, (.int .i64 0)]⟩,
  ⟨none, none, .store 6 (.t 9) (.t 27)⟩,
  ⟨(some 10), none, .mv (.t 28)⟩]
theorem tr4_3 : (ro Tryd.f4 3).toList.mapM (trO Tryd.prog 62 (ro Tryd.f4 3)) = some a4_3 := by kernel_rfl
def d4_3 : List (List Nat) := [[], [0], [], [], [], [0, 1, 2, 3, 4], [0, 1, 2, 3, 4, 5], [0, 1, 2, 3, 4, 5, 6], [0, 1, 2, 3, 4, 5, 6], [], [0, 1, 2, 3, 4, 5, 6, 7, 9], [0, 1, 2, 3, 4, 5, 6, 7, 8, 9, 10]]
theorem ok4_3 : okReg (ro Tryd.f4 3) a4_3 d4_3 = true := by kernel_rfl
def a4_4 : List AO := [⟨(some 30), none, .mv (.t 0)⟩,
  ⟨(some 31), none, .load (some 6) (.t 5)⟩,
  ⟨(some 32), none, .load (some 3) (.t 6)⟩,
  ⟨(some 33), none, .mv (.t 3)⟩,
  ⟨(some 34), none, .call 16 [(.t 30), (.t 31), (.t 32), (.t 33)]⟩,
  ⟨(some 29), none, .mv (.t 34)⟩,
  ⟨(some 35), none, .ext 0 (.t 29)⟩,
  ⟨(some 36), none, .ext 1 (.t 29)⟩,
  ⟨(some 11), none, .alloc 35 [(.str []), .nils, (.int .i64 0), .nils, .nils, (.int .i64 0)]⟩,
  ⟨none, none, .store 6 (.t 11) (.t 35)⟩,
  ⟨(some 12), none, .mv (.t 36)⟩]
theorem tr4_4 : (ro Tryd.f4 4).toList.mapM (trO Tryd.prog 62 (ro Tryd.f4 4)) = some a4_4 := by kernel_rfl
def a4_5 : List AO := [⟨(some 37), none, .load (some 6) (.t 9)⟩,
  ⟨(some 38), none, .load (some 6) (.t 11)⟩,
  ⟨(some 39), none, .call 17 [(.t 37), (.t 38)]⟩,
  ⟨(some 40), none, .mv (.t 39)⟩,
  ⟨(some 41), some (40, true), .mv (.t 10)⟩,
  ⟨(some 42), some (40, true), .mv (.t 12)⟩,
  ⟨(some 43), some (40, true), .bin .eql (.t 41) (.t 42)⟩,
  ⟨(some 44), none, .pick (.t 40) (.t 43) (.v (.bool false))⟩,
  ⟨(some 45), none, .mv (.t 44)⟩,
  ⟨(some 46), some (45, true), .mv (.t 0)⟩,
  ⟨(some 47), some (45, true), .call 12 [(.t 46)]⟩,
  ⟨(some 48), some (45, true), .load (some 6) (.t 5)⟩,
  ⟨(some 49), some (45, true), .load (some 3) (.t 6)⟩,
  ⟨(some 50), some (45, true), .mv (.t 3)⟩,
  ⟨(some 51), some (45, true), .call 18 [(.t 47), (.t 48), (.t 49), (.t 50)]⟩,
  ⟨(some 52), some (45, true), .mv (.t 0)⟩,
  ⟨(some 53), some (45, true), .load (some 6) (.t 5)⟩,
  ⟨(some 54), some (45, true), .load (some 3) (.t 6)⟩,
  ⟨(some 55), some (45, true), .mv (.t 3)⟩,
  ⟨(some 56), some (45, true), .call 19 [(.t 52), (.t 53), (.t 54), (.t 55)]⟩,
  ⟨(some 57), some (45, true), .bin .eql (.t 51) (.t 56)⟩,
  ⟨(some 58), none, .pick (.t 45) (.t 57) (.v (.bool false))⟩,
  ⟨(some 59), none, .mv (.t 58)⟩,
  ⟨(some 60), some (59, true), .call 9 []⟩,
  ⟨(some 61), none, .pick (.t 59) (.t 60) (.v (.bool false))⟩,
  ⟨(some 8), none, .mv (.t 61)⟩]
theorem tr4_5 : (ro Tryd.f4 5).toList.mapM (trO Tryd.prog 62 (ro Tryd.f4 5)) = some a4_5 := by kernel_rfl
def d4_5 : List (List Nat) := [[], [], [0, 1], [0, 1, 2], [0, 1, 2, 3], [0, 1, 2, 3], [0, 1, 2, 3, 4, 5], [0, 1, 2, 3, 4, 5, 6], [0, 1, 2, 3, 4, 5, 6, 7], [0, 1, 2, 3, 4, 5, 6, 7, 8], [0, 1, 2, 3, 4, 5, 6, 7, 8, 9], [0, 1, 2, 3, 4, 5, 6, 7, 8], [0, 1, 2, 3, 4, 5, 6, 7, 8], [0, 1, 2, 3, 4, 5, 6, 7, 8], [0, 1, 2, 3, 4, 5, 6, 7, 8, 9, 10, 11, 12, 13], [0, 1, 2, 3, 4, 5, 6, 7, 8], [0, 1, 2, 3, 4, 5, 6, 7, 8], [0, 1, 2, 3, 4, 5, 6, 7, 8], [0, 1, 2, 3, 4, 5, 6, 7, 8], [0, 1, 2, 3, 4, 5, 6, 7, 8, 9, 10, 11, 12, 13, 14, 15, 16, 17, 18], [0, 1, 2, 3, 4, 5, 6, 7, 8, 9, 10, 11, 12, 13, 14, 15, 16, 17, 18, 19], [0, 1, 2, 3, 4, 5, 6, 7, 8, 9, 10, 11, 12, 13, 14, 15, 16, 17, 18, 19, 20], [0, 1, 2, 3, 4, 5, 6, 7, 8, 9, 10, 11, 12, 13, 14, 15, 16, 17, 18, 19, 20, 21], [0, 1, 2, 3, 4, 5, 6, 7, 8, 9, 10, 11, 12, 13, 14, 15, 16, 17, 18, 19, 20, 21, 22], [0, 1, 2, 3, 4, 5, 6, 7, 8, 9, 10, 11, 12, 13, 14, 15, 16, 17, 18, 19, 20, 21, 22, 23], [0, 1, 2, 3, 4, 5, 6, 7, 8, 9, 10, 11, 12, 13, 14, 15, 16, 17, 18, 19, 20, 21, 22, 23, 24]]
theorem ok4_5 : okReg (ro Tryd.f4 5) a4_5 d4_5 = true := by kernel_rfl
/-- airline/airlinelaw33.ServiceUses -/
noncomputable def c5 : Code := .seq (.region 0 (ro Tryd.f5 0) false) (.seq (.seq (.region 1 (ro Tryd.f5 1) false) (.cond (.tmp 10) (.seq (.region 2 (ro Tryd.f5 2) false) (.ret)) (.skip))) (.seq (.seq (.region 3 (ro Tryd.f5 3) false) (.block 0 (.loop (.seq (.seq (.region 4 (ro Tryd.f5 4) false) (.cond (.tmp 15) (.skip) (.exit 0))) (.seq (.block 1 (.seq (.region 6 (ro Tryd.f5 6) false) (.cond (.tmp 22) (.seq (.region 7 (ro Tryd.f5 7) false) (.ret)) (.skip)))) (.region 5 (ro Tryd.f5 5) false)))))) (.seq (.region 8 (ro Tryd.f5 8) true) (.ret))))
theorem body5 : Tryd.f5.body = some c5 := by kernel_rfl
theorem res5 : Tryd.f5.results.toList.mapM (trR Tryd.prog) = some [.t 6] := by kernel_rfl
theorem nt5 : Tryd.f5.ntmps = 36 := by kernel_rfl
theorem nm5 : (Tryd.f5.name == "runtime.NumGoroutine") = false := by kernel_rfl
def a5_0 : List AO := [⟨(some 4), none, .box 49 (.t 1)⟩,
  ⟨(some 6), none, .mv (.v (.bool false))⟩]
theorem tr5_0 : (ro Tryd.f5 0).toList.mapM (trO Tryd.prog 36 (ro Tryd.f5 0)) = some a5_0 := by kernel_rfl
def a5_1 : List AO := [⟨(some 8), none, .mv (.t 0)⟩,
  ⟨(some 9), none, .len (.t 8)⟩,
  ⟨(some 10), none, .bin .gtr (.t 9) (.v (.int .i64 10))⟩]
theorem tr5_1 : (ro Tryd.f5 1).toList.mapM (trO Tryd.prog 36 (ro Tryd.f5 1)) = some a5_1 := by kernel_rfl
def a5_2 : List AO := [⟨(some 11), none, .call 9 []⟩,
  ⟨(some 6), none, .mv (.t 11)⟩]
theorem tr5_2 : (ro Tryd.f5 2).toList.mapM (trO Tryd.prog 36 (ro Tryd.f5 2)) = some a5_2 := by kernel_rfl
def a5_3 : List AO := [⟨(some 7), none, .mv (.v (.int .i64 0))⟩]
theorem tr5_3 : (ro Tryd.f5 3).toList.mapM (trO Tryd.prog 36 (ro Tryd.f5 3)) = some a5_3 := by kernel_rfl
def a5_4 : List AO := [⟨(some 12), none, .mv (.t 7)⟩,
  ⟨(some 13), none, .mv (.t 0)⟩,
  ⟨(some 14), none, .len (.t 13)⟩,
  ⟨(some 15), none, .bin .lss (.t 12) (.t 14)⟩]
theorem tr5_4 : (ro Tryd.f5 4).toList.mapM (trO Tryd.prog 36 (ro Tryd.f5 4)) = some a5_4 := by kernel_rfl
def a5_6 : List AO := [⟨(some 18), none, .mv (.t 0)⟩,
  ⟨(some 19), none, .mv (.t 7)⟩,
  ⟨(some 20), none, .idx 6 (.t 18) (.t 19)⟩,
  ⟨(some 21), none, .load (some 6) (.t 20)⟩,
  ⟨(some 22), none, .call 14 [(.t 21)]⟩]
theorem tr5_6 : (ro Tryd.f5 6).toList.mapM (trO Tryd.prog 36 (ro Tryd.f5 6)) = some a5_6 := by kernel_rfl
def a5_7 : List AO := [⟨(some 23), none, .call 9 []⟩,
  ⟨(some 6), none, .mv (.t 23)⟩]
theorem tr5_7 : (ro Tryd.f5 7).toList.mapM (trO Tryd.prog 36 (ro Tryd.f5 7)) = some a5_7 := by kernel_rfl
def a5_5 : List AO := [⟨(some 16), none, .mv (.t 7)⟩,
  ⟨(some 17), none, .bin .add (.t 16) (.v (.int .i64 1))⟩,
  ⟨(some 7), none, .mv (.t 17)⟩]
theorem tr5_5 : (ro Tryd.f5 5).toList.mapM (trO Tryd.prog 36 (ro Tryd.f5 5)) = some a5_5 := by kernel_rfl
def a5_8 : List AO := [⟨(some 24), none, .mv (.t 0)⟩,
  ⟨(some 25), none, .load (some 7) (.t 4)⟩,
  ⟨(some 26), none, .mv (.t 2)⟩,
  ⟨(some 27), none, .call 20 [(.t 24), (.t 25), (.t 26)]⟩,
  ⟨(some 28), none, .mv (.t 0)⟩,
  ⟨(some 29), none, .load (some 7) (.t 4)⟩,
  ⟨(some 30), none, .mv (.t 2)⟩,
  ⟨(some 31), none, .call 21 [(.t 28), (.t 29), (.t 30)]⟩,
  ⟨(some 32), none, .bin .eql (.t 27) (.t 31)⟩,
  ⟨(some 33), none, .mv (.t 32)⟩,
  ⟨(some 34), some (33, true), .call 9 []⟩,
  ⟨(some 35), none, .pick (.t 33) (.t 34) (.v (.bool false))⟩,
  ⟨(some 6), none, .mv (.t 35)⟩]
theorem tr5_8 : (ro Tryd.f5 8).toList.mapM (trO Tryd.prog 36 (ro Tryd.f5 8)) = some a5_8 := by kernel_rfl
def d5_8 : List (List Nat) := [[], [], [], [0, 1, 2], [], [], [], [0, 1, 2, 3, 4, 5, 6], [0, 1, 2, 3, 4, 5, 6, 7], [0, 1, 2, 3, 4, 5, 6, 7, 8], [0, 1, 2, 3, 4, 5, 6, 7, 8, 9], [0, 1, 2, 3, 4, 5, 6, 7, 8, 9, 10], [0, 1, 2, 3, 4, 5, 6, 7, 8, 9, 10, 11]]
theorem ok5_8 : okReg (ro Tryd.f5 8) a5_8 d5_8 = true := by kernel_rfl
/-- airline/airlinelaw33.ServiceDrops -/
noncomputable def c6 : Code := .seq (.region 0 (ro Tryd.f6 0) false) (.seq (.seq (.region 1 (ro Tryd.f6 1) false) (.cond (.tmp 10) (.seq (.region 2 (ro Tryd.f6 2) false) (.ret)) (.skip))) (.seq (.region 3 (ro Tryd.f6 3) false) (.seq (.region 4 (ro Tryd.f6 4) false) (.seq (.region 5 (ro Tryd.f6 5) false) (.ret)))))
theorem body6 : Tryd.f6.body = some c6 := by kernel_rfl
theorem res6 : Tryd.f6.results.toList.mapM (trR Tryd.prog) = some [.t 4] := by kernel_rfl
theorem nt6 : Tryd.f6.ntmps = 35 := by kernel_rfl
theorem nm6 : (Tryd.f6.name == "runtime.NumGoroutine") = false := by kernel_rfl
def a6_0 : List AO := [⟨(some 2), none, .box 35 (.t 0)⟩,
  ⟨(some 4), none, .mv (.v (.bool false))⟩]
theorem tr6_0 : (ro Tryd.f6 0).toList.mapM (trO Tryd.prog 35 (ro Tryd.f6 0)) = some a6_0 := by kernel_rfl
def a6_1 : List AO := [⟨(some 9), none, .load (some 6) (.t 2)⟩,
  ⟨(some 10), none, .call 14 [(.t 9)]⟩]
theorem tr6_1 : (ro Tryd.f6 1).toList.mapM (trO Tryd.prog 35 (ro Tryd.f6 1)) = some a6_1 := by kernel_rfl
def a6_2 : List AO := [⟨(some 11), none, .call 9 []⟩,
  ⟨(some 4), none, .mv (.t 11)⟩]
theorem tr6_2 : (ro Tryd.f6 2).toList.mapM (trO Tryd.prog 35 (ro Tryd.f6 2)) = some a6_2 := by kernel_rfl
def a6_3 : List AO := [⟨(some 13), none, .load (some 6) (.t 2)⟩,
  ⟨(some 14), none, .mv (.t 1)⟩,
  ⟨(some 15), none, .call 22 [(.t 13), (.t 14)]⟩,
  ⟨(some 12), none, .mv (.t 15)⟩,
  ⟨(some 16), none, .ext 0 (.t 12)⟩,
  ⟨(some 17), none, .ext 1 (.t 12)⟩,
  ⟨(some 5), none, .alloc 35 [(.str []), .nils, (.int .i64 0), .nils, .nils, (.int .i64 0)]⟩,
  ⟨none, none, .store 6 (.t 5) (.t 16)⟩,
  ⟨(some 6), none, .mv (.t 17)⟩]
theorem tr6_3 : (ro Tryd.f6 3).toList.mapM (trO Tryd.prog 35 (ro Tryd.f6 3)) = some a6_3 := by kernel_rfl
def a6_4 : List AO := [⟨(some 19), none, .load (some 6) (.t 2)⟩,
  ⟨(some 20), none, .mv (.t 1)⟩,
  ⟨(some 21), none, .call 23 [(.t 19), (.t 20)]⟩,
  ⟨(some 18), none, .mv (.t 21)⟩,
  ⟨(some 22), none, .ext 0 (.t 18)⟩,
  ⟨(some 23), none, .ext 1 (.t 18)⟩,
  ⟨(some 7), none, .alloc 35 [(.str []), .nils, (.int .i64 0), .nils, .nils, (.int .i64 0)]⟩,
  ⟨none, none, .store 6 (.t 7) (.t 22)⟩,
  ⟨(some 8), none, .mv (.t 23)⟩]
theorem tr6_4 : (ro Tryd.f6 4).toList.mapM (trO Tryd.prog 35 (ro Tryd.f6 4)) = some a6_4 := by kernel_rfl
def a6_5 : List AO := [⟨(some 24), none, .load (some 6) (.t 5)⟩,
  ⟨(some 25), none, .load (some 6) (.t 7)⟩,
  ⟨(some 26), none, .call 17 [(.t 24), (.t 25)]⟩,
  ⟨(some 27), none, .mv (.t 26)⟩,
  ⟨(some 28), some (27, true), .mv (.t 6)⟩,
  ⟨(some 29), some (27, true), .mv (.t 8)⟩,
  ⟨(some 30), some (27, true), .bin .eql (.t 28) (.t 29)⟩,
  ⟨(some 31), none, .pick (.t 27) (.t 30) (.v (.bool false))⟩,
  ⟨(some 32), none, .mv (.t 31)⟩,
  ⟨(some 33), some (32, true), .call 9 []⟩,
  ⟨(some 34), none, .pick (.t 32) (.t 33) (.v (.bool false))⟩,
  ⟨(some 4), none, .mv (.t 34)⟩]
theorem tr6_5 : (ro Tryd.f6 5).toList.mapM (trO Tryd.prog 35 (ro Tryd.f6 5)) = some a6_5 := by kernel_rfl
/-- airline/airlinelaw33.ServiceBack -/
noncomputable def c7 : Code := .seq (.region 0 (ro Tryd.f7 0) false) (.seq (.seq (.region 1 (ro Tryd.f7 1) false) (.cond (.tmp 19) (.seq (.region 2 (ro Tryd.f7 2) false) (.ret)) (.skip))) (.seq (.region 3 (ro Tryd.f7 3) true) (.seq (.seq (.region 4 (ro Tryd.f7 4) false) (.cond (.tmp 31) (.seq (.region 5 (ro Tryd.f7 5) false) (.ret)) (.skip))) (.seq (.region 6 (ro Tryd.f7 6) false) (.seq (.region 7 (ro Tryd.f7 7) false) (.seq (.region 8 (ro Tryd.f7 8) true) (.ret)))))))
theorem body7 : Tryd.f7.body = some c7 := by kernel_rfl
theorem res7 : Tryd.f7.results.toList.mapM (trR Tryd.prog) = some [.t 8] := by kernel_rfl
theorem nt7 : Tryd.f7.ntmps = 85 := by kernel_rfl
theorem nm7 : (Tryd.f7.name == "runtime.NumGoroutine") = false := by kernel_rfl
def a7_0 : List AO := [⟨(some 5), none, .box 35 (.t 1)⟩,
  ⟨(some 6), none, .box 37 (.t 2)⟩,
  ⟨(some 8), none, .mv (.v (.bool false))⟩]
theorem tr7_0 : (ro Tryd.f7 0).toList.mapM (trO Tryd.prog 85 (ro Tryd.f7 0)) = some a7_0 := by kernel_rfl
def a7_1 : List AO := [⟨(some 14), none, .mv (.t 0)⟩,
  ⟨(some 15), none, .call 8 [(.t 14)]⟩,
  ⟨(some 16), none, .mv (.t 15)⟩,
  ⟨(some 17), some (16, false), .load (some 6) (.t 5)⟩,
  ⟨(some 18), some (16, false), .call 14 [(.t 17)]⟩,
  ⟨(some 19), none, .pick (.t 16) (.v (.bool true)) (.t 18)⟩]
theorem tr7_1 : (ro Tryd.f7 1).toList.mapM (trO Tryd.prog 85 (ro Tryd.f7 1)) = some a7_1 := by kernel_rfl
def a7_2 : List AO := [⟨(some 20), none, .call 9 []⟩,
  ⟨(some 8), none, .mv (.t 20)⟩]
theorem tr7_2 : (ro Tryd.f7 2).toList.mapM (trO Tryd.prog 85 (ro Tryd.f7 2)) = some a7_2 := by kernel_rfl
def a7_3 : List AO := [⟨(some 22), none, .mv (.t 0)⟩,
  ⟨(some 23), none, .call 12 [(.t 22)]⟩,
  ⟨(some 24), none, .load (some 6) (.t 5)⟩,
  ⟨(some 25), none, .load (some 3) (.t 6)⟩,
  ⟨(some 26), none, .mv (.t 3)⟩,
  ⟨(some 27), none, .call 15 [(.t 23), (.t 24), (.t 25), (.t 26)]⟩,
  ⟨(some 21), none, .mv (.t 27)⟩,
  ⟨(some 28), none, .ext 0 (.t 21)⟩,
  ⟨(some 29), none, .ext 1 (.t 21)⟩,
  ⟨(some 9), none, .alloc 35 [(.str []), .nils, (.int .i64 0), .nils, .nils, (.int .i64 0)]⟩,
  ⟨none, none, .store 6 (.t 9) (.t 28)⟩,
  ⟨(some 10), none, .mv (.t 29)⟩]
theorem tr7_3 : (ro Tryd.f7 3).toList.mapM (trO Tryd.prog 85 (ro Tryd.f7 3)) = some a7_3 := by kernel_rfl
def d7_3 : List (List Nat) := [[], [0], [], [], [], [0, 1, 2, 3, 4], [0, 1, 2, 3, 4, 5], [0, 1, 2, 3, 4, 5, 6], [0, 1, 2, 3, 4, 5, 6], [], [0, 1, 2, 3, 4, 5, 6, 7, 9], [0, 1, 2, 3, 4, 5, 6, 7, 8, 9, 10]]
theorem ok7_3 : okReg (ro Tryd.f7 3) a7_3 d7_3 = true := by kernel_rfl
def a7_4 : List AO := [⟨(some 30), none, .mv (.t 10)⟩,
  ⟨(some 31), none, .bin .neq (.t 30) (.v (.int .i64 0))⟩]
theorem tr7_4 : (ro Tryd.f7 4).toList.mapM (trO Tryd.prog 85 (ro Tryd.f7 4)) = some a7_4 := by kernel_rfl
def a7_5 : List AO := [⟨(some 32), none, .call 9 []⟩,
  ⟨(some 8), none, .mv (.t 32)⟩]
theorem tr7_5 : (ro Tryd.f7 5).toList.mapM (trO Tryd.prog 85 (ro Tryd.f7 5)) = some a7_5 := by kernel_rfl
def a7_6 : List AO := [⟨(some 33), none, .fld 3 (.t 5)⟩,
  ⟨(some 34), none, .load none (.t 33)⟩,
  ⟨(some 35), none, .fld 2 (.t 6)⟩,
  ⟨(some 36), none, .load none (.t 35)⟩,
  ⟨(some 37), none, .idx 10 (.t 34) (.t 36)⟩,
  ⟨(some 38), none, .fld 0 (.t 37)⟩,
  ⟨(some 39), none, .fld 0 (.t 38)⟩,
  ⟨(some 40), none, .load (some 7) (.t 39)⟩,
  ⟨(some 11), none, .alloc 49 [(.str []), (.int .i64 0), (.int .i64 0), (.str []), (.str []), (.int .i64 0), (.int .i64 0)]⟩,
  ⟨none, none, .store 7 (.t 11) (.t 40)⟩]
theorem tr7_6 : (ro Tryd.f7 6).toList.mapM (trO Tryd.prog 85 (ro Tryd.f7 6)) = some a7_6 := by kernel_rfl
def a7_7 : List AO := [⟨(some 42), none, .load (some 6) (.t 9)⟩,
  ⟨(some 43), none, .fld 4 (.t 9)⟩,
  ⟨(some 44), none, .load none (.t 43)⟩,
  ⟨(some 45), none, .len (.t 44)⟩,
  ⟨(some 46), none, .bin .sub (.t 45) (.v (.int .i64 1))⟩,
  ⟨(some 47), none, .call 22 [(.t 42), (.t 46)]⟩,
  ⟨(some 41), none, .mv (.t 47)⟩,
  ⟨(some 48), none, .ext 0 (.t 41)⟩,
  ⟨(some 49), none, .ext 1 (.t 41)⟩,
  ⟨(some 12), none, .alloc 35 [(.str []), .nils, (.int .i64 0), .nils, .nils, (.int .i64 0)]⟩,
  ⟨none, none, .store 6 (.t 12) (.t 48)⟩,
  ⟨(some 13), none, .mv (.t 49)⟩]
theorem tr7_7 : (ro Tryd.f7 7).toList.mapM (trO Tryd.prog 85 (ro Tryd.f7 7)) = some a7_7 := by kernel_rfl
def a7_8 : List AO := [⟨(some 50), none, .load (some 6) (.t 9)⟩,
  ⟨(some 51), none, .slc 35 6 false [(.t 50)]⟩,
  ⟨(some 52), none, .load (some 7) (.t 11)⟩,
  ⟨(some 53), none, .fld 0 (.t 6)⟩,
  ⟨(some 54), none, .load none (.t 53)⟩,
  ⟨(some 55), none, .call 20 [(.t 51), (.t 52), (.t 54)]⟩,
  ⟨(some 56), none, .load (some 6) (.t 5)⟩,
  ⟨(some 57), none, .slc 35 6 false [(.t 56)]⟩,
  ⟨(some 58), none, .load (some 7) (.t 11)⟩,
  ⟨(some 59), none, .fld 0 (.t 6)⟩,
  ⟨(some 60), none, .load none (.t 59)⟩,
  ⟨(some 61), none, .call 20 [(.t 57), (.t 58), (.t 60)]⟩,
  ⟨(some 62), none, .bin .add (.t 61) (.v (.int .i64 1))⟩,
  ⟨(some 63), none, .bin .eql (.t 55) (.t 62)⟩,
  ⟨(some 64), none, .mv (.t 63)⟩,
  ⟨(some 65), some (64, true), .mv (.t 0)⟩,
  ⟨(some 66), some (64, true), .call 12 [(.t 65)]⟩,
  ⟨(some 67), some (64, true), .load (some 6) (.t 9)⟩,
  ⟨(some 68), some (64, true), .load (some 3) (.t 6)⟩,
  ⟨(some 69), some (64, true), .mv (.t 3)⟩,
  ⟨(some 70), some (64, true), .call 18 [(.t 66), (.t 67), (.t 68), (.t 69)]⟩,
  ⟨(some 71), some (64, true), .bin .eql (.t 70) (.v (.int .i64 6))⟩,
  ⟨(some 72), none, .pick (.t 64) (.t 71) (.v (.bool false))⟩,
  ⟨(some 73), none, .mv (.t 72)⟩,
  ⟨(some 74), some (73, true), .mv (.t 13)⟩,
  ⟨(some 75), some (73, true), .bin .eql (.t 74) (.v (.int .i64 0))⟩,
  ⟨(some 76), none, .pick (.t 73) (.t 75) (.v (.bool false))⟩,
  ⟨(some 77), none, .mv (.t 76)⟩,
  ⟨(some 78), some (77, true), .load (some 6) (.t 12)⟩,
  ⟨(some 79), some (77, true), .load (some 6) (.t 5)⟩,
  ⟨(some 80), some (77, true), .call 17 [(.t 78), (.t 79)]⟩,
  ⟨(some 81), none, .pick (.t 77) (.t 80) (.v (.bool false))⟩,
  ⟨(some 82), none, .mv (.t 81)⟩,
  ⟨(some 83), some (82, true), .call 9 []⟩,
  ⟨(some 84), none, .pick (.t 82) (.t 83) (.v (.bool false))⟩,
  ⟨(some 8), none, .mv (.t 84)⟩]
theorem tr7_8 : (ro Tryd.f7 8).toList.mapM (trO Tryd.prog 85 (ro Tryd.f7 8)) = some a7_8 := by kernel_rfl
def d7_8 : List (List Nat) := [[], [0], [], [], [3], [0, 1, 2, 3, 4], [], [6], [], [], [9], [0, 1, 2, 3, 4, 5, 6, 7, 8, 9, 10], [0, 1, 2, 3, 4, 5, 6, 7, 8, 9, 10, 11], [0, 1, 2, 3, 4, 5, 6, 7, 8, 9, 10, 11, 12], [0, 1, 2, 3, 4, 5, 6, 7, 8, 9, 10, 11, 12, 13], [0, 1, 2, 3, 4, 5, 6, 7, 8, 9, 10, 11, 12, 13, 14], [0, 1, 2, 3, 4, 5, 6, 7, 8, 9, 10, 11, 12, 13, 14, 15], [0, 1, 2, 3, 4, 5, 6, 7, 8, 9, 10, 11, 12, 13, 14], [0, 1, 2, 3, 4, 5, 6, 7, 8, 9, 10, 11, 12, 13, 14], [0, 1, 2, 3, 4, 5, 6, 7, 8, 9, 10, 11, 12, 13, 14], [0, 1, 2, 3, 4, 5, 6, 7, 8, 9, 10, 11, 12, 13, 14, 15, 16, 17, 18, 19], [0, 1, 2, 3, 4, 5, 6, 7, 8, 9, 10, 11, 12, 13, 14, 15, 16, 17, 18, 19, 20], [0, 1, 2, 3, 4, 5, 6, 7, 8, 9, 10, 11, 12, 13, 14, 15, 16, 17, 18, 19, 20, 21], [0, 1, 2, 3, 4, 5, 6, 7, 8, 9, 10, 11, 12, 13, 14, 15, 16, 17, 18, 19, 20, 21, 22], [0, 1, 2, 3, 4, 5, 6, 7, 8, 9, 10, 11, 12, 13, 14, 15, 16, 17, 18, 19, 20, 21, 22, 23], [0, 1, 2, 3, 4, 5, 6, 7, 8, 9, 10, 11, 12, 13, 14, 15, 16, 17, 18, 19, 20, 21, 22, 23, 24], [0, 1, 2, 3, 4, 5, 6, 7, 8, 9, 10, 11, 12, 13, 14, 15, 16, 17, 18, 19, 20, 21, 22, 23, 24, 25], [0, 1, 2, 3, 4, 5, 6, 7, 8, 9, 10, 11, 12, 13, 14, 15, 16, 17, 18, 19, 20, 21, 22, 23, 24, 25, 26], [0, 1, 2, 3, 4, 5, 6, 7, 8, 9, 10, 11, 12, 13, 14, 15, 16, 17, 18, 19, 20, 21, 22, 23, 24, 25, 26, 27], [0, 1, 2, 3, 4, 5, 6, 7, 8, 9, 10, 11, 12, 13, 14, 15, 16, 17, 18, 19, 20, 21, 22, 23, 24, 25, 26, 27], [0, 1, 2, 3, 4, 5, 6, 7, 8, 9, 10, 11, 12, 13, 14, 15, 16, 17, 18, 19, 20, 21, 22, 23, 24, 25, 26, 27, 28, 29], [0, 1, 2, 3, 4, 5, 6, 7, 8, 9, 10, 11, 12, 13, 14, 15, 16, 17, 18, 19, 20, 21, 22, 23, 24, 25, 26, 27, 28, 29, 30], [0, 1, 2, 3, 4, 5, 6, 7, 8, 9, 10, 11, 12, 13, 14, 15, 16, 17, 18, 19, 20, 21, 22, 23, 24, 25, 26, 27, 28, 29, 30, 31], [0, 1, 2, 3, 4, 5, 6, 7, 8, 9, 10, 11, 12, 13, 14, 15, 16, 17, 18, 19, 20, 21, 22, 23, 24, 25, 26, 27, 28, 29, 30, 31, 32], [0, 1, 2, 3, 4, 5, 6, 7, 8, 9, 10, 11, 12, 13, 14, 15, 16, 17, 18, 19, 20, 21, 22, 23, 24, 25, 26, 27, 28, 29, 30, 31, 32, 33], [0, 1, 2, 3, 4, 5, 6, 7, 8, 9, 10, 11, 12, 13, 14, 15, 16, 17, 18, 19, 20, 21, 22, 23, 24, 25, 26, 27, 28, 29, 30, 31, 32, 33, 34]]
theorem ok7_8 : okReg (ro Tryd.f7 8) a7_8 d7_8 = true := by kernel_rfl
/-- airline/airlinelaw33.many -/
noncomputable def c8 : Code := .seq (.region 0 (ro Tryd.f8 0) false) (.seq (.seq (.region 1 (ro Tryd.f8 1) false) (.cond (.tmp 6) (.seq (.region 2 (ro Tryd.f8 2) false) (.ret)) (.skip))) (.seq (.seq (.region 3 (ro Tryd.f8 3) false) (.block 0 (.loop (.seq (.seq (.region 4 (ro Tryd.f8 4) false) (.cond (.tmp 10) (.skip) (.exit 0))) (.seq (.block 1 (.seq (.region 6 (ro Tryd.f8 6) false) (.cond (.tmp 28) (.seq (.region 7 (ro Tryd.f8 7) false) (.ret)) (.skip)))) (.region 5 (ro Tryd.f8 5) false)))))) (.seq (.region 8 (ro Tryd.f8 8) false) (.ret))))
theorem body8 : Tryd.f8.body = some c8 := by kernel_rfl
theorem res8 : Tryd.f8.results.toList.mapM (trR Tryd.prog) = some [.t 2] := by kernel_rfl
theorem nt8 : Tryd.f8.ntmps = 29 := by kernel_rfl
theorem nm8 : (Tryd.f8.name == "runtime.NumGoroutine") = false := by kernel_rfl
def a8_0 : List AO := [⟨(some 2), none, .mv (.v (.bool false))⟩]
theorem tr8_0 : (ro Tryd.f8 0).toList.mapM (trO Tryd.prog 29 (ro Tryd.f8 0)) = some a8_0 := by kernel_rfl
def a8_1 : List AO := [⟨(some 4), none, .mv (.t 0)⟩,
  ⟨(some 5), none, .len (.t 4)⟩,
  ⟨(some 6), none, .bin .gtr (.t 5) (.v (.int .i64 15))⟩]
theorem tr8_1 : (ro Tryd.f8 1).toList.mapM (trO Tryd.prog 29 (ro Tryd.f8 1)) = some a8_1 := by kernel_rfl
def a8_2 : List AO := [⟨(some 2), none, .mv (.v (.bool true))⟩]
theorem tr8_2 : (ro Tryd.f8 2).toList.mapM (trO Tryd.prog 29 (ro Tryd.f8 2)) = some a8_2 := by kernel_rfl
def a8_3 : List AO := [⟨(some 3), none, .mv (.v (.int .i64 0))⟩]
theorem tr8_3 : (ro Tryd.f8 3).toList.mapM (trO Tryd.prog 29 (ro Tryd.f8 3)) = some a8_3 := by kernel_rfl
def a8_4 : List AO := [⟨(some 7), none, .mv (.t 3)⟩,
  ⟨(some 8), none, .mv (.t 0)⟩,
  ⟨(some 9), none, .len (.t 8)⟩,
  ⟨(some 10), none, .bin .lss (.t 7) (.t 9)⟩]
theorem tr8_4 : (ro Tryd.f8 4).toList.mapM (trO Tryd.prog 29 (ro Tryd.f8 4)) = some a8_4 := by kernel_rfl
def a8_6 : List AO := [⟨(some 13), none, .mv (.t 0)⟩,
  ⟨(some 14), none, .mv (.t 3)⟩,
  ⟨(some 15), none, .idx 3 (.t 13) (.t 14)⟩,
  ⟨(some 16), none, .fld 2 (.t 15)⟩,
  ⟨(some 17), none, .load none (.t 16)⟩,
  ⟨(some 18), none, .len (.t 17)⟩,
  ⟨(some 19), none, .bin .gtr (.t 18) (.v (.int .i64 8))⟩,
  ⟨(some 20), none, .mv (.t 19)⟩,
  ⟨(some 21), some (20, false), .mv (.t 0)⟩,
  ⟨(some 22), some (20, false), .mv (.t 3)⟩,
  ⟨(some 23), some (20, false), .idx 3 (.t 21) (.t 22)⟩,
  ⟨(some 24), some (20, false), .fld 0 (.t 23)⟩,
  ⟨(some 25), some (20, false), .load none (.t 24)⟩,
  ⟨(some 26), some (20, false), .slen (.t 25)⟩,
  ⟨(some 27), some (20, false), .bin .gtr (.t 26) (.v (.int .i64 100))⟩,
  ⟨(some 28), none, .pick (.t 20) (.v (.bool true)) (.t 27)⟩]
theorem tr8_6 : (ro Tryd.f8 6).toList.mapM (trO Tryd.prog 29 (ro Tryd.f8 6)) = some a8_6 := by kernel_rfl
def a8_7 : List AO := [⟨(some 2), none, .mv (.v (.bool true))⟩]
theorem tr8_7 : (ro Tryd.f8 7).toList.mapM (trO Tryd.prog 29 (ro Tryd.f8 7)) = some a8_7 := by kernel_rfl
def a8_5 : List AO := [⟨(some 11), none, .mv (.t 3)⟩,
  ⟨(some 12), none, .bin .add (.t 11) (.v (.int .i64 1))⟩,
  ⟨(some 3), none, .mv (.t 12)⟩]
theorem tr8_5 : (ro Tryd.f8 5).toList.mapM (trO Tryd.prog 29 (ro Tryd.f8 5)) = some a8_5 := by kernel_rfl
def a8_8 : List AO := [⟨(some 2), none, .mv (.v (.bool false))⟩]
theorem tr8_8 : (ro Tryd.f8 8).toList.mapM (trO Tryd.prog 29 (ro Tryd.f8 8)) = some a8_8 := by kernel_rfl
/-- airline/airlinelaw33.awake -/
noncomputable def c9 : Code := .seq (.region 0 (ro Tryd.f9 0) false) (.seq (.region 1 (ro Tryd.f9 1) false) (.seq (.region 2 (ro Tryd.f9 2) false) (.seq (.region 3 (ro Tryd.f9 3) false) (.seq (.region 4 (ro Tryd.f9 4) false) (.ret)))))
theorem body9 : Tryd.f9.body = some c9 := by kernel_rfl
theorem res9 : Tryd.f9.results.toList.mapM (trR Tryd.prog) = some [.t 0] := by kernel_rfl
theorem nt9 : Tryd.f9.ntmps = 63 := by kernel_rfl
theorem nm9 : (Tryd.f9.name == "runtime.NumGoroutine") = false := by kernel_rfl
def a9_0 : List AO := [⟨(some 0), none, .mv (.v (.bool false))⟩]
theorem tr9_0 : (ro Tryd.f9 0).toList.mapM (trO Tryd.prog 63 (ro Tryd.f9 0)) = some a9_0 := by kernel_rfl
def a9_1 : List AO := [⟨(some 5), none, .build [(.str []), (.int .i64 0), .nils] [(0, 1, (.v (.str [87, 67, 72, 82]))), (1, 1, (.v (.int .i64 1)))]⟩,
  ⟨(some 6), none, .slc 9 1 false [(.v (.str [73, 78, 70]))]⟩,
  ⟨(some 7), none, .build [(.str []), (.int .i64 0), .nils] [(0, 1, (.v (.str [66, 83, 67, 84]))), (1, 1, (.v (.int .i64 2))), (2, 1, (.t 6))]⟩,
  ⟨(some 8), none, .slc 61 3 false [(.t 5), (.t 7)]⟩,
  ⟨(some 1), none, .mv (.t 8)⟩]
theorem tr9_1 : (ro Tryd.f9 1).toList.mapM (trO Tryd.prog 63 (ro Tryd.f9 1)) = some a9_1 := by kernel_rfl
def a9_2 : List AO := [⟨(some 9), none, .build [(.str []), (.str []), (.str [])] [(0, 1, (.v (.str [83, 77, 73, 84, 72]))), (1, 1, (.v (.str [74, 79, 72, 78]))), (2, 1, (.v (.str [65, 68, 84])))]⟩,
  ⟨(some 10), none, .slc 63 3 false [(.t 9)]⟩,
  ⟨(some 11), none, .build [(.str []), (.int .i64 0), (.int .i64 0), (.str []), (.str []), (.int .i64 0), (.int .i64 0), (.str []), (.int .i64 0), (.int .i64 0)] [(8, 1, (.v (.int .i64 1)))]⟩,
  ⟨(some 12), none, .slc 57 10 false [(.t 11)]⟩,
  ⟨(some 13), none, .build [(.str []), .nils, (.int .i64 0), .nils, .nils, (.int .i64 0)] [(1, 1, (.t 10)), (3, 1, (.t 12))]⟩,
  ⟨(some 2), none, .alloc 35 [(.str []), .nils, (.int .i64 0), .nils, .nils, (.int .i64 0)]⟩,
  ⟨none, none, .store 6 (.t 2) (.t 13)⟩]
theorem tr9_2 : (ro Tryd.f9 2).toList.mapM (trO Tryd.prog 63 (ro Tryd.f9 2)) = some a9_2 := by kernel_rfl
def a9_3 : List AO := [⟨(some 15), none, .mv (.t 1)⟩,
  ⟨(some 16), none, .load (some 6) (.t 2)⟩,
  ⟨(some 17), none, .build [(.str []), (.int .i64 0), (.int .i64 0)] [(0, 1, (.v (.str [87, 67, 72, 82])))]⟩,
  ⟨(some 18), none, .call 15 [(.t 15), (.t 16), (.t 17), (.v (.int .i64 0))]⟩,
  ⟨(some 14), none, .mv (.t 18)⟩,
  ⟨(some 19), none, .ext 0 (.t 14)⟩,
  ⟨(some 20), none, .ext 1 (.t 14)⟩,
  ⟨(some 3), none, .alloc 35 [(.str []), .nils, (.int .i64 0), .nils, .nils, (.int .i64 0)]⟩,
  ⟨none, none, .store 6 (.t 3) (.t 19)⟩,
  ⟨(some 4), none, .mv (.t 20)⟩]
theorem tr9_3 : (ro Tryd.f9 3).toList.mapM (trO Tryd.prog 63 (ro Tryd.f9 3)) = some a9_3 := by kernel_rfl
def a9_4 : List AO := [⟨(some 21), none, .mv (.t 4)⟩,
  ⟨(some 22), none, .bin .eql (.t 21) (.v (.int .i64 0))⟩,
  ⟨(some 23), none, .mv (.t 22)⟩,
  ⟨(some 24), some (23, true), .fld 4 (.t 3)⟩,
  ⟨(some 25), some (23, true), .load none (.t 24)⟩,
  ⟨(some 26), some (23, true), .len (.t 25)⟩,
  ⟨(some 27), some (23, true), .bin .eql (.t 26) (.v (.int .i64 1))⟩,
  ⟨(some 28), none, .pick (.t 23) (.t 27) (.v (.bool false))⟩,
  ⟨(some 29), none, .mv (.t 28)⟩,
  ⟨(some 30), some (29, true), .mv (.t 1)⟩,
  ⟨(some 31), some (29, true), .load (some 6) (.t 2)⟩,
  ⟨(some 32), some (29, true), .build [(.str []), (.int .i64 0), (.int .i64 0)] [(0, 1, (.v (.str [87, 67, 72, 82])))]⟩,
  ⟨(some 33), some (29, true), .call 18 [(.t 30), (.t 31), (.t 32), (.v (.int .i64 1))]⟩,
  ⟨(some 34), some (29, true), .bin .eql (.t 33) (.v (.int .i64 9))⟩,
  ⟨(some 35), none, .pick (.t 29) (.t 34) (.v (.bool false))⟩,
  ⟨(some 36), none, .mv (.t 35)⟩,
  ⟨(some 37), some (36, true), .mv (.t 1)⟩,
  ⟨(some 38), some (36, true), .load (some 6) (.t 2)⟩,
  ⟨(some 39), some (36, true), .build [(.str []), (.int .i64 0), (.int .i64 0)] [(0, 1, (.v (.str [66, 83, 67, 84])))]⟩,
  ⟨(some 40), some (36, true), .call 18 [(.t 37), (.t 38), (.t 39), (.v (.int .i64 0))]⟩,
  ⟨(some 41), some (36, true), .bin .eql (.t 40) (.v (.int .i64 25))⟩,
  ⟨(some 42), none, .pick (.t 36) (.t 41) (.v (.bool false))⟩,
  ⟨(some 43), none, .mv (.t 42)⟩,
  ⟨(some 44), some (43, true), .mv (.t 1)⟩,
  ⟨(some 45), some (43, true), .load (some 6) (.t 2)⟩,
  ⟨(some 46), some (43, true), .build [(.str []), (.int .i64 0), (.int .i64 0)] [(0, 1, (.v (.str [86, 71, 77, 76])))]⟩,
  ⟨(some 47), some (43, true), .call 18 [(.t 44), (.t 45), (.t 46), (.v (.int .i64 0))]⟩,
  ⟨(some 48), some (43, true), .bin .eql (.t 47) (.v (.int .i64 7))⟩,
  ⟨(some 49), none, .pick (.t 43) (.t 48) (.v (.bool false))⟩,
  ⟨(some 50), none, .mv (.t 49)⟩,
  ⟨(some 51), some (50, true), .load (some 6) (.t 3)⟩,
  ⟨(some 52), some (50, true), .slc 35 6 false [(.t 51)]⟩,
  ⟨(some 53), some (50, true), .build [(.str []), (.int .i64 0), (.int .i64 0), (.str []), (.str []), (.int .i64 0), (.int .i64 0)] []⟩,
  ⟨(some 54), some (50, true), .call 20 [(.t 52), (.t 53), (.v (.str [87, 67, 72, 82]))]⟩,
  ⟨(some 55), some (50, true), .bin .eql (.t 54) (.v (.int .i64 1))⟩,
  ⟨(some 56), none, .pick (.t 50) (.t 55) (.v (.bool false))⟩,
  ⟨(some 57), none, .mv (.t 56)⟩,
  ⟨(some 58), some (57, true), .mv (.t 1)⟩,
  ⟨(some 59), some (57, true), .call 11 [(.t 58)]⟩,
  ⟨(some 60), some (57, true), .len (.t 59)⟩,
  ⟨(some 61), some (57, true), .bin .eql (.t 60) (.v (.int .i64 0))⟩,
  ⟨(some 62), none, .pick (.t 57) (.t 61) (.v (.bool false))⟩,
  ⟨(some 0), none, .mv (.t 62)⟩]
theorem tr9_4 : (ro Tryd.f9 4).toList.mapM (trO Tryd.prog 63 (ro Tryd.f9 4)) = some a9_4 := by kernel_rfl
/-- airline/airlineref07.SameFaults -/
noncomputable def c10 : Code := .seq (.region 0 (ro Tryd.f10 0) false) (.seq (.seq (.region 1 (ro Tryd.f10 1) false) (.cond (.tmp 10) (.seq (.region 2 (ro Tryd.f10 2) false) (.ret)) (.skip))) (.seq (.seq (.region 3 (ro Tryd.f10 3) false) (.block 0 (.loop (.seq (.seq (.region 4 (ro Tryd.f10 4) false) (.cond (.tmp 14) (.skip) (.exit 0))) (.seq (.block 1 (.seq (.region 6 (ro Tryd.f10 6) true) (.cond (.tmp 25) (.seq (.region 7 (ro Tryd.f10 7) false) (.ret)) (.skip)))) (.region 5 (ro Tryd.f10 5) false)))))) (.seq (.region 8 (ro Tryd.f10 8) false) (.ret))))
theorem body10 : Tryd.f10.body = some c10 := by kernel_rfl
theorem res10 : Tryd.f10.results.toList.mapM (trR Tryd.prog) = some [.t 4] := by kernel_rfl
theorem nt10 : Tryd.f10.ntmps = 26 := by kernel_rfl
theorem nm10 : (Tryd.f10.name == "runtime.NumGoroutine") = false := by kernel_rfl
def a10_0 : List AO := [⟨(some 4), none, .mv (.v (.bool false))⟩]
theorem tr10_0 : (ro Tryd.f10 0).toList.mapM (trO Tryd.prog 26 (ro Tryd.f10 0)) = some a10_0 := by kernel_rfl
def a10_1 : List AO := [⟨(some 6), none, .mv (.t 0)⟩,
  ⟨(some 7), none, .len (.t 6)⟩,
  ⟨(some 8), none, .mv (.t 1)⟩,
  ⟨(some 9), none, .len (.t 8)⟩,
  ⟨(some 10), none, .bin .neq (.t 7) (.t 9)⟩]
theorem tr10_1 : (ro Tryd.f10 1).toList.mapM (trO Tryd.prog 26 (ro Tryd.f10 1)) = some a10_1 := by kernel_rfl
def a10_2 : List AO := [⟨(some 4), none, .mv (.v (.bool false))⟩]
theorem tr10_2 : (ro Tryd.f10 2).toList.mapM (trO Tryd.prog 26 (ro Tryd.f10 2)) = some a10_2 := by kernel_rfl
def a10_3 : List AO := [⟨(some 5), none, .mv (.v (.int .i64 0))⟩]
theorem tr10_3 : (ro Tryd.f10 3).toList.mapM (trO Tryd.prog 26 (ro Tryd.f10 3)) = some a10_3 := by kernel_rfl
def a10_4 : List AO := [⟨(some 11), none, .mv (.t 5)⟩,
  ⟨(some 12), none, .mv (.t 0)⟩,
  ⟨(some 13), none, .len (.t 12)⟩,
  ⟨(some 14), none, .bin .lss (.t 11) (.t 13)⟩]
theorem tr10_4 : (ro Tryd.f10 4).toList.mapM (trO Tryd.prog 26 (ro Tryd.f10 4)) = some a10_4 := by kernel_rfl
def a10_6 : List AO := [⟨(some 17), none, .mv (.t 0)⟩,
  ⟨(some 18), none, .mv (.t 5)⟩,
  ⟨(some 19), none, .idx 2 (.t 17) (.t 18)⟩,
  ⟨(some 20), none, .load (some 2) (.t 19)⟩,
  ⟨(some 21), none, .mv (.t 1)⟩,
  ⟨(some 22), none, .mv (.t 5)⟩,
  ⟨(some 23), none, .idx 2 (.t 21) (.t 22)⟩,
  ⟨(some 24), none, .load (some 2) (.t 23)⟩,
  ⟨(some 25), none, .bina [.i .i64, .s] .neq (.t 20) (.t 24)⟩]
theorem tr10_6 : (ro Tryd.f10 6).toList.mapM (trO Tryd.prog 26 (ro Tryd.f10 6)) = some a10_6 := by kernel_rfl
def d10_6 : List (List Nat) := [[], [], [0, 1], [0, 1, 2], [], [], [4, 5], [4, 5, 6], [0, 1, 2, 3, 4, 5, 6, 7]]
theorem ok10_6 : okReg (ro Tryd.f10 6) a10_6 d10_6 = true := by kernel_rfl
def a10_7 : List AO := [⟨(some 4), none, .mv (.v (.bool false))⟩]
theorem tr10_7 : (ro Tryd.f10 7).toList.mapM (trO Tryd.prog 26 (ro Tryd.f10 7)) = some a10_7 := by kernel_rfl
def a10_5 : List AO := [⟨(some 15), none, .mv (.t 5)⟩,
  ⟨(some 16), none, .bin .add (.t 15) (.v (.int .i64 1))⟩,
  ⟨(some 5), none, .mv (.t 16)⟩]
theorem tr10_5 : (ro Tryd.f10 5).toList.mapM (trO Tryd.prog 26 (ro Tryd.f10 5)) = some a10_5 := by kernel_rfl
def a10_8 : List AO := [⟨(some 4), none, .mv (.v (.bool true))⟩]
theorem tr10_8 : (ro Tryd.f10 8).toList.mapM (trO Tryd.prog 26 (ro Tryd.f10 8)) = some a10_8 := by kernel_rfl
/-- airline/service.Check -/
noncomputable def c11 : Code := .seq (.region 0 (ro Tryd.f11 0) false) (.seq (.region 1 (ro Tryd.f11 1) false) (.seq (.seq (.region 2 (ro Tryd.f11 2) false) (.block 0 (.loop (.seq (.region 3 (ro Tryd.f11 3) false) (.seq (.cond (.tmp 14) (.skip) (.exit 0)) (.seq (.block 1 (.seq (.region 4 (ro Tryd.f11 4) false) (.seq (.region 5 (ro Tryd.f11 5) false) (.seq (.seq (.region 6 (ro Tryd.f11 6) false) (.cond (.tmp 24) (.region 7 (ro Tryd.f11 7) false) (.skip))) (.seq (.seq (.region 8 (ro Tryd.f11 8) true) (.seq (.region 9 (ro Tryd.f11 9) false) (.cond (.tmp 39) (.region 10 (ro Tryd.f11 10) false) (.skip)))) (.seq (.seq (.region 11 (ro Tryd.f11 11) false) (.cond (.tmp 52) (.region 12 (ro Tryd.f11 12) false) (.skip))) (.seq (.region 13 (ro Tryd.f11 13) false) (.block 2 (.loop (.seq (.region 14 (ro Tryd.f11 14) false) (.seq (.cond (.tmp 62) (.skip) (.exit 2)) (.seq (.block 3 (.seq (.region 15 (ro Tryd.f11 15) false) (.seq (.seq (.region 16 (ro Tryd.f11 16) false) (.cond (.tmp 75) (.region 17 (ro Tryd.f11 17) false) (.skip))) (.seq (.region 18 (ro Tryd.f11 18) false) (.cond (.tmp 90) (.region 19 (ro Tryd.f11 19) false) (.skip)))))) (.region 20 (ro Tryd.f11 20) false))))))))))))) (.region 21 (ro Tryd.f11 21) false))))))) (.seq (.region 22 (ro Tryd.f11 22) false) (.ret))))
theorem body11 : Tryd.f11.body = some c11 := by kernel_rfl
theorem res11 : Tryd.f11.results.toList.mapM (trR Tryd.prog) = some [.t 2] := by kernel_rfl
theorem nt11 : Tryd.f11.ntmps = 103 := by kernel_rfl
theorem nm11 : (Tryd.f11.name == "runtime.NumGoroutine") = false := by kernel_rfl
def a11_0 : List AO := [⟨(some 2), none, .mv (.v .nils)⟩]
theorem tr11_0 : (ro Tryd.f11 0).toList.mapM (trO Tryd.prog 103 (ro Tryd.f11 0)) = some a11_0 := by kernel_rfl
def a11_1 : List AO := [⟨(some 3), none, .mv (.v .nils)⟩]
theorem tr11_1 : (ro Tryd.f11 1).toList.mapM (trO Tryd.prog 103 (ro Tryd.f11 1)) = some a11_1 := by kernel_rfl
def a11_2 : List AO := [⟨(some 11), none, .mv (.t 0)⟩,
  ⟨(some 12), none, .len (.t 11)⟩,
  ⟨(some 13), none, .mv (.v (.int .i64 0))⟩]
theorem tr11_2 : (ro Tryd.f11 2).toList.mapM (trO Tryd.prog 103 (ro Tryd.f11 2)) = some a11_2 := by kernel_rfl
def a11_3 : List AO := [⟨(some 14), none, .bin .lss (.t 13) (.t 12)⟩]
theorem tr11_3 : (ro Tryd.f11 3).toList.mapM (trO Tryd.prog 103 (ro Tryd.f11 3)) = some a11_3 := by kernel_rfl
def a11_4 : List AO := [⟨(some 15), none, .mv (.t 13)⟩,
  ⟨(some 16), none, .idx 3 (.t 11) (.t 13)⟩,
  ⟨(some 17), none, .load (some 3) (.t 16)⟩,
  ⟨(some 5), none, .alloc 61 [(.str []), (.int .i64 0), .nils]⟩,
  ⟨(some 4), none, .mv (.t 15)⟩,
  ⟨none, none, .store 3 (.t 5) (.t 17)⟩]
theorem tr11_4 : (ro Tryd.f11 4).toList.mapM (trO Tryd.prog 103 (ro Tryd.f11 4)) = some a11_4 := by kernel_rfl
def a11_5 : List AO := [⟨(some 18), none, .mv (.t 4)⟩,
  ⟨(some 19), none, .call 24 [(.t 18)]⟩,
  ⟨(some 20), none, .bin .add (.v (.str [111, 102, 102, 101, 114, 32])) (.t 19)⟩,
  ⟨(some 6), none, .mv (.t 20)⟩]
theorem tr11_5 : (ro Tryd.f11 5).toList.mapM (trO Tryd.prog 103 (ro Tryd.f11 5)) = some a11_5 := by kernel_rfl
def a11_6 : List AO := [⟨(some 21), none, .fld 0 (.t 5)⟩,
  ⟨(some 22), none, .load none (.t 21)⟩,
  ⟨(some 23), none, .call 25 [(.t 22), (.v (.int .i64 4)), (.v (.int .i64 4))]⟩,
  ⟨(some 24), none, .un .not (.t 23)⟩]
theorem tr11_6 : (ro Tryd.f11 6).toList.mapM (trO Tryd.prog 103 (ro Tryd.f11 6)) = some a11_6 := by kernel_rfl
def a11_7 : List AO := [⟨(some 25), none, .mv (.t 3)⟩,
  ⟨(some 26), none, .mv (.t 6)⟩,
  ⟨(some 27), none, .build [(.int .i64 0), (.str [])] [(0, 1, (.v (.int .i64 5))), (1, 1, (.t 26))]⟩,
  ⟨(some 28), none, .slc 65 2 false [(.t 27)]⟩,
  ⟨(some 29), none, .app 65 2 24 (.t 25) (.t 28)⟩,
  ⟨(some 3), none, .mv (.t 29)⟩]
theorem tr11_7 : (ro Tryd.f11 7).toList.mapM (trO Tryd.prog 103 (ro Tryd.f11 7)) = some a11_7 := by kernel_rfl
def a11_8 : List AO := [⟨(some 31), none, .mv (.t 0)⟩,
  ⟨(some 32), none, .mv (.t 4)⟩,
  ⟨(some 33), none, .sub 3 none (some (.t 32)) none (.t 31)⟩,
  ⟨(some 34), none, .fld 0 (.t 5)⟩,
  ⟨(some 35), none, .load none (.t 34)⟩,
  ⟨(some 36), none, .call 26 [(.t 33), (.t 35)]⟩,
  ⟨(some 30), none, .mv (.t 36)⟩,
  ⟨(some 37), none, .ext 0 (.t 30)⟩,
  ⟨(some 38), none, .ext 1 (.t 30)⟩,
  ⟨(some 7), none, .alloc 61 [(.str []), (.int .i64 0), .nils]⟩,
  ⟨none, none, .store 3 (.t 7) (.t 37)⟩,
  ⟨(some 8), none, .mv (.t 38)⟩]
theorem tr11_8 : (ro Tryd.f11 8).toList.mapM (trO Tryd.prog 103 (ro Tryd.f11 8)) = some a11_8 := by kernel_rfl
def d11_8 : List (List Nat) := [[], [], [0, 1], [], [3], [0, 1, 2, 3, 4], [0, 1, 2, 3, 4, 5], [0, 1, 2, 3, 4, 5, 6], [0, 1, 2, 3, 4, 5, 6], [], [0, 1, 2, 3, 4, 5, 6, 7, 9], [0, 1, 2, 3, 4, 5, 6, 7, 8, 9, 10]]
theorem ok11_8 : okReg (ro Tryd.f11 8) a11_8 d11_8 = true := by kernel_rfl
def a11_9 : List AO := [⟨(some 39), none, .mv (.t 8)⟩]
theorem tr11_9 : (ro Tryd.f11 9).toList.mapM (trO Tryd.prog 103 (ro Tryd.f11 9)) = some a11_9 := by kernel_rfl
def a11_10 : List AO := [⟨(some 40), none, .mv (.t 3)⟩,
  ⟨(some 41), none, .mv (.t 6)⟩,
  ⟨(some 42), none, .build [(.int .i64 0), (.str [])] [(0, 1, (.v (.int .i64 6))), (1, 1, (.t 41))]⟩,
  ⟨(some 43), none, .slc 65 2 false [(.t 42)]⟩,
  ⟨(some 44), none, .app 65 2 24 (.t 40) (.t 43)⟩,
  ⟨(some 3), none, .mv (.t 44)⟩]
theorem tr11_10 : (ro Tryd.f11 10).toList.mapM (trO Tryd.prog 103 (ro Tryd.f11 10)) = some a11_10 := by kernel_rfl
def a11_11 : List AO := [⟨(some 45), none, .fld 1 (.t 5)⟩,
  ⟨(some 46), none, .load none (.t 45)⟩,
  ⟨(some 47), none, .bin .lss (.t 46) (.v (.int .i64 0))⟩,
  ⟨(some 48), none, .mv (.t 47)⟩,
  ⟨(some 49), some (48, false), .fld 1 (.t 5)⟩,
  ⟨(some 50), some (48, false), .load none (.t 49)⟩,
  ⟨(some 51), some (48, false), .bin .gtr (.t 50) (.v (.int .i64 999))⟩,
  ⟨(some 52), none, .pick (.t 48) (.v (.bool true)) (.t 51)⟩]
theorem tr11_11 : (ro Tryd.f11 11).toList.mapM (trO Tryd.prog 103 (ro Tryd.f11 11)) = some a11_11 := by kernel_rfl
def a11_12 : List AO := [⟨(some 53), none, .mv (.t 3)⟩,
  ⟨(some 54), none, .mv (.t 6)⟩,
  ⟨(some 55), none, .build [(.int .i64 0), (.str [])] [(0, 1, (.v (.int .i64 2))), (1, 1, (.t 54))]⟩,
  ⟨(some 56), none, .slc 65 2 false [(.t 55)]⟩,
  ⟨(some 57), none, .app 65 2 24 (.t 53) (.t 56)⟩,
  ⟨(some 3), none, .mv (.t 57)⟩]
theorem tr11_12 : (ro Tryd.f11 12).toList.mapM (trO Tryd.prog 103 (ro Tryd.f11 12)) = some a11_12 := by kernel_rfl
def a11_13 : List AO := [⟨(some 58), none, .fld 2 (.t 5)⟩,
  ⟨(some 59), none, .load none (.t 58)⟩,
  ⟨(some 60), none, .len (.t 59)⟩,
  ⟨(some 61), none, .mv (.v (.int .i64 0))⟩]
theorem tr11_13 : (ro Tryd.f11 13).toList.mapM (trO Tryd.prog 103 (ro Tryd.f11 13)) = some a11_13 := by kernel_rfl
def a11_14 : List AO := [⟨(some 62), none, .bin .lss (.t 61) (.t 60)⟩]
theorem tr11_14 : (ro Tryd.f11 14).toList.mapM (trO Tryd.prog 103 (ro Tryd.f11 14)) = some a11_14 := by kernel_rfl
def a11_15 : List AO := [⟨(some 63), none, .mv (.t 61)⟩,
  ⟨(some 64), none, .idx 1 (.t 59) (.t 61)⟩,
  ⟨(some 65), none, .load none (.t 64)⟩,
  ⟨(some 9), none, .mv (.t 63)⟩,
  ⟨(some 10), none, .mv (.t 65)⟩]
theorem tr11_15 : (ro Tryd.f11 15).toList.mapM (trO Tryd.prog 103 (ro Tryd.f11 15)) = some a11_15 := by kernel_rfl
def a11_16 : List AO := [⟨(some 66), none, .mv (.t 10)⟩,
  ⟨(some 67), none, .bin .neq (.t 66) (.v (.str [65, 68, 84]))⟩,
  ⟨(some 68), none, .mv (.t 67)⟩,
  ⟨(some 69), some (68, true), .mv (.t 10)⟩,
  ⟨(some 70), some (68, true), .bin .neq (.t 69) (.v (.str [67, 72, 68]))⟩,
  ⟨(some 71), none, .pick (.t 68) (.t 70) (.v (.bool false))⟩,
  ⟨(some 72), none, .mv (.t 71)⟩,
  ⟨(some 73), some (72, true), .mv (.t 10)⟩,
  ⟨(some 74), some (72, true), .bin .neq (.t 73) (.v (.str [73, 78, 70]))⟩,
  ⟨(some 75), none, .pick (.t 72) (.t 74) (.v (.bool false))⟩]
theorem tr11_16 : (ro Tryd.f11 16).toList.mapM (trO Tryd.prog 103 (ro Tryd.f11 16)) = some a11_16 := by kernel_rfl
def a11_17 : List AO := [⟨(some 76), none, .mv (.t 3)⟩,
  ⟨(some 77), none, .mv (.t 6)⟩,
  ⟨(some 78), none, .bin .add (.t 77) (.v (.str [32, 116, 121, 112, 101, 32]))⟩,
  ⟨(some 79), none, .mv (.t 9)⟩,
  ⟨(some 80), none, .call 24 [(.t 79)]⟩,
  ⟨(some 81), none, .bin .add (.t 78) (.t 80)⟩,
  ⟨(some 82), none, .build [(.int .i64 0), (.str [])] [(0, 1, (.v (.int .i64 8))), (1, 1, (.t 81))]⟩,
  ⟨(some 83), none, .slc 65 2 false [(.t 82)]⟩,
  ⟨(some 84), none, .app 65 2 24 (.t 76) (.t 83)⟩,
  ⟨(some 3), none, .mv (.t 84)⟩]
theorem tr11_17 : (ro Tryd.f11 17).toList.mapM (trO Tryd.prog 103 (ro Tryd.f11 17)) = some a11_17 := by kernel_rfl
def a11_18 : List AO := [⟨(some 85), none, .fld 2 (.t 5)⟩,
  ⟨(some 86), none, .load none (.t 85)⟩,
  ⟨(some 87), none, .mv (.t 9)⟩,
  ⟨(some 88), none, .sub 1 none (some (.t 87)) none (.t 86)⟩,
  ⟨(some 89), none, .mv (.t 10)⟩,
  ⟨(some 90), none, .call 27 [(.t 88), (.t 89)]⟩]
theorem tr11_18 : (ro Tryd.f11 18).toList.mapM (trO Tryd.prog 103 (ro Tryd.f11 18)) = some a11_18 := by kernel_rfl
def a11_19 : List AO := [⟨(some 91), none, .mv (.t 3)⟩,
  ⟨(some 92), none, .mv (.t 6)⟩,
  ⟨(some 93), none, .bin .add (.t 92) (.v (.str [32, 116, 121, 112, 101, 32]))⟩,
  ⟨(some 94), none, .mv (.t 9)⟩,
  ⟨(some 95), none, .call 24 [(.t 94)]⟩,
  ⟨(some 96), none, .bin .add (.t 93) (.t 95)⟩,
  ⟨(some 97), none, .build [(.int .i64 0), (.str [])] [(0, 1, (.v (.int .i64 6))), (1, 1, (.t 96))]⟩,
  ⟨(some 98), none, .slc 65 2 false [(.t 97)]⟩,
  ⟨(some 99), none, .app 65 2 24 (.t 91) (.t 98)⟩,
  ⟨(some 3), none, .mv (.t 99)⟩]
theorem tr11_19 : (ro Tryd.f11 19).toList.mapM (trO Tryd.prog 103 (ro Tryd.f11 19)) = some a11_19 := by kernel_rfl
def a11_20 : List AO := [⟨(some 100), none, .bin .add (.t 61) (.v (.int .i64 1))⟩,
  ⟨(some 61), none, .mv (.t 100)⟩]
theorem tr11_20 : (ro Tryd.f11 20).toList.mapM (trO Tryd.prog 103 (ro Tryd.f11 20)) = some a11_20 := by kernel_rfl
def a11_21 : List AO := [⟨(some 101), none, .bin .add (.t 13) (.v (.int .i64 1))⟩,
  ⟨(some 13), none, .mv (.t 101)⟩]
theorem tr11_21 : (ro Tryd.f11 21).toList.mapM (trO Tryd.prog 103 (ro Tryd.f11 21)) = some a11_21 := by kernel_rfl
def a11_22 : List AO := [⟨(some 102), none, .mv (.t 3)⟩,
  ⟨(some 2), none, .mv (.t 102)⟩]
theorem tr11_22 : (ro Tryd.f11 22).toList.mapM (trO Tryd.prog 103 (ro Tryd.f11 22)) = some a11_22 := by kernel_rfl
/-- airline/airlinelaw33.offers -/
noncomputable def c12 : Code := .seq (.region 0 (ro Tryd.f12 0) false) (.seq (.region 1 (ro Tryd.f12 1) false) (.seq (.seq (.region 2 (ro Tryd.f12 2) false) (.block 0 (.loop (.seq (.seq (.region 3 (ro Tryd.f12 3) false) (.cond (.tmp 8) (.skip) (.exit 0))) (.seq (.block 1 (.region 5 (ro Tryd.f12 5) false)) (.region 4 (ro Tryd.f12 4) false)))))) (.seq (.region 6 (ro Tryd.f12 6) false) (.ret))))
theorem body12 : Tryd.f12.body = some c12 := by kernel_rfl
theorem res12 : Tryd.f12.results.toList.mapM (trR Tryd.prog) = some [.t 2] := by kernel_rfl
theorem nt12 : Tryd.f12.ntmps = 19 := by kernel_rfl
theorem nm12 : (Tryd.f12.name == "runtime.NumGoroutine") = false := by kernel_rfl
def a12_0 : List AO := [⟨(some 2), none, .mv (.v .nils)⟩]
theorem tr12_0 : (ro Tryd.f12 0).toList.mapM (trO Tryd.prog 19 (ro Tryd.f12 0)) = some a12_0 := by kernel_rfl
def a12_1 : List AO := [⟨(some 3), none, .mv (.v .nils)⟩]
theorem tr12_1 : (ro Tryd.f12 1).toList.mapM (trO Tryd.prog 19 (ro Tryd.f12 1)) = some a12_1 := by kernel_rfl
def a12_2 : List AO := [⟨(some 4), none, .mv (.v (.int .i64 0))⟩]
theorem tr12_2 : (ro Tryd.f12 2).toList.mapM (trO Tryd.prog 19 (ro Tryd.f12 2)) = some a12_2 := by kernel_rfl
def a12_3 : List AO := [⟨(some 5), none, .mv (.t 4)⟩,
  ⟨(some 6), none, .mv (.t 0)⟩,
  ⟨(some 7), none, .len (.t 6)⟩,
  ⟨(some 8), none, .bin .lss (.t 5) (.t 7)⟩]
theorem tr12_3 : (ro Tryd.f12 3).toList.mapM (trO Tryd.prog 19 (ro Tryd.f12 3)) = some a12_3 := by kernel_rfl
def a12_5 : List AO := [⟨(some 11), none, .mv (.t 3)⟩,
  ⟨(some 12), none, .mv (.t 0)⟩,
  ⟨(some 13), none, .mv (.t 4)⟩,
  ⟨(some 14), none, .idx 3 (.t 12) (.t 13)⟩,
  ⟨(some 15), none, .load (some 3) (.t 14)⟩,
  ⟨(some 16), none, .slc 61 3 false [(.t 15)]⟩,
  ⟨(some 17), none, .app 61 3 48 (.t 11) (.t 16)⟩,
  ⟨(some 3), none, .mv (.t 17)⟩]
theorem tr12_5 : (ro Tryd.f12 5).toList.mapM (trO Tryd.prog 19 (ro Tryd.f12 5)) = some a12_5 := by kernel_rfl
def a12_4 : List AO := [⟨(some 9), none, .mv (.t 4)⟩,
  ⟨(some 10), none, .bin .add (.t 9) (.v (.int .i64 1))⟩,
  ⟨(some 4), none, .mv (.t 10)⟩]
theorem tr12_4 : (ro Tryd.f12 4).toList.mapM (trO Tryd.prog 19 (ro Tryd.f12 4)) = some a12_4 := by kernel_rfl
def a12_6 : List AO := [⟨(some 18), none, .mv (.t 3)⟩,
  ⟨(some 2), none, .mv (.t 18)⟩]
theorem tr12_6 : (ro Tryd.f12 6).toList.mapM (trO Tryd.prog 19 (ro Tryd.f12 6)) = some a12_6 := by kernel_rfl
/-- airline/airlineref33.Check -/
noncomputable def c13 : Code := .seq (.region 0 (ro Tryd.f13 0) false) (.seq (.region 1 (ro Tryd.f13 1) false) (.seq (.seq (.region 2 (ro Tryd.f13 2) false) (.block 0 (.loop (.seq (.seq (.region 3 (ro Tryd.f13 3) false) (.cond (.tmp 11) (.skip) (.exit 0))) (.seq (.block 1 (.seq (.region 5 (ro Tryd.f13 5) false) (.seq (.seq (.region 6 (ro Tryd.f13 6) false) (.cond (.tmp 23) (.region 7 (ro Tryd.f13 7) false) (.skip))) (.seq (.seq (.region 8 (ro Tryd.f13 8) true) (.cond (.tmp 38) (.region 9 (ro Tryd.f13 9) false) (.skip))) (.seq (.seq (.region 10 (ro Tryd.f13 10) false) (.cond (.tmp 57) (.region 11 (ro Tryd.f13 11) false) (.skip))) (.seq (.region 12 (ro Tryd.f13 12) false) (.block 2 (.loop (.seq (.seq (.region 13 (ro Tryd.f13 13) false) (.cond (.tmp 70) (.skip) (.exit 2))) (.seq (.block 3 (.seq (.region 15 (ro Tryd.f13 15) false) (.seq (.seq (.region 16 (ro Tryd.f13 16) false) (.cond (.tmp 90) (.region 17 (ro Tryd.f13 17) false) (.skip))) (.seq (.region 18 (ro Tryd.f13 18) false) (.cond (.tmp 108) (.region 19 (ro Tryd.f13 19) false) (.skip)))))) (.region 14 (ro Tryd.f13 14) false))))))))))) (.region 4 (ro Tryd.f13 4) false)))))) (.seq (.region 20 (ro Tryd.f13 20) false) (.ret))))
theorem body13 : Tryd.f13.body = some c13 := by kernel_rfl
theorem res13 : Tryd.f13.results.toList.mapM (trR Tryd.prog) = some [.t 2] := by kernel_rfl
theorem nt13 : Tryd.f13.ntmps = 119 := by kernel_rfl
theorem nm13 : (Tryd.f13.name == "runtime.NumGoroutine") = false := by kernel_rfl
def a13_0 : List AO := [⟨(some 2), none, .mv (.v .nils)⟩]
theorem tr13_0 : (ro Tryd.f13 0).toList.mapM (trO Tryd.prog 119 (ro Tryd.f13 0)) = some a13_0 := by kernel_rfl
def a13_1 : List AO := [⟨(some 3), none, .mv (.v .nils)⟩]
theorem tr13_1 : (ro Tryd.f13 1).toList.mapM (trO Tryd.prog 119 (ro Tryd.f13 1)) = some a13_1 := by kernel_rfl
def a13_2 : List AO := [⟨(some 4), none, .mv (.v (.int .i64 0))⟩]
theorem tr13_2 : (ro Tryd.f13 2).toList.mapM (trO Tryd.prog 119 (ro Tryd.f13 2)) = some a13_2 := by kernel_rfl
def a13_3 : List AO := [⟨(some 8), none, .mv (.t 4)⟩,
  ⟨(some 9), none, .mv (.t 0)⟩,
  ⟨(some 10), none, .len (.t 9)⟩,
  ⟨(some 11), none, .bin .lss (.t 8) (.t 10)⟩]
theorem tr13_3 : (ro Tryd.f13 3).toList.mapM (trO Tryd.prog 119 (ro Tryd.f13 3)) = some a13_3 := by kernel_rfl
def a13_5 : List AO := [⟨(some 14), none, .mv (.t 4)⟩,
  ⟨(some 15), none, .call 28 [(.t 14)]⟩,
  ⟨(some 16), none, .bin .add (.v (.str [111, 102, 102, 101, 114, 32])) (.t 15)⟩,
  ⟨(some 5), none, .mv (.t 16)⟩]
theorem tr13_5 : (ro Tryd.f13 5).toList.mapM (trO Tryd.prog 119 (ro Tryd.f13 5)) = some a13_5 := by kernel_rfl
def a13_6 : List AO := [⟨(some 17), none, .mv (.t 0)⟩,
  ⟨(some 18), none, .mv (.t 4)⟩,
  ⟨(some 19), none, .idx 3 (.t 17) (.t 18)⟩,
  ⟨(some 20), none, .fld 0 (.t 19)⟩,
  ⟨(some 21), none, .load none (.t 20)⟩,
  ⟨(some 22), none, .call 29 [(.t 21), (.v (.int .i64 4)), (.v (.int .i64 4))]⟩,
  ⟨(some 23), none, .un .not (.t 22)⟩]
theorem tr13_6 : (ro Tryd.f13 6).toList.mapM (trO Tryd.prog 119 (ro Tryd.f13 6)) = some a13_6 := by kernel_rfl
def a13_7 : List AO := [⟨(some 24), none, .mv (.t 3)⟩,
  ⟨(some 25), none, .mv (.t 5)⟩,
  ⟨(some 26), none, .build [(.int .i64 0), (.str [])] [(0, 1, (.v (.int .i64 5))), (1, 1, (.t 25))]⟩,
  ⟨(some 27), none, .slc 65 2 false [(.t 26)]⟩,
  ⟨(some 28), none, .app 65 2 24 (.t 24) (.t 27)⟩,
  ⟨(some 3), none, .mv (.t 28)⟩]
theorem tr13_7 : (ro Tryd.f13 7).toList.mapM (trO Tryd.prog 119 (ro Tryd.f13 7)) = some a13_7 := by kernel_rfl
def a13_8 : List AO := [⟨(some 29), none, .mv (.t 0)⟩,
  ⟨(some 30), none, .mv (.t 4)⟩,
  ⟨(some 31), none, .sub 3 none (some (.t 30)) none (.t 29)⟩,
  ⟨(some 32), none, .mv (.t 0)⟩,
  ⟨(some 33), none, .mv (.t 4)⟩,
  ⟨(some 34), none, .idx 3 (.t 32) (.t 33)⟩,
  ⟨(some 35), none, .fld 0 (.t 34)⟩,
  ⟨(some 36), none, .load none (.t 35)⟩,
  ⟨(some 37), none, .call 30 [(.t 31), (.t 36)]⟩,
  ⟨(some 38), none, .bin .geq (.t 37) (.v (.int .i64 0))⟩]
theorem tr13_8 : (ro Tryd.f13 8).toList.mapM (trO Tryd.prog 119 (ro Tryd.f13 8)) = some a13_8 := by kernel_rfl
def d13_8 : List (List Nat) := [[], [], [0, 1], [], [], [3, 4], [3, 4, 5], [3, 4, 5, 6], [0, 1, 2, 3, 4, 5, 6, 7], [0, 1, 2, 3, 4, 5, 6, 7, 8]]
theorem ok13_8 : okReg (ro Tryd.f13 8) a13_8 d13_8 = true := by kernel_rfl
def a13_9 : List AO := [⟨(some 39), none, .mv (.t 3)⟩,
  ⟨(some 40), none, .mv (.t 5)⟩,
  ⟨(some 41), none, .build [(.int .i64 0), (.str [])] [(0, 1, (.v (.int .i64 6))), (1, 1, (.t 40))]⟩,
  ⟨(some 42), none, .slc 65 2 false [(.t 41)]⟩,
  ⟨(some 43), none, .app 65 2 24 (.t 39) (.t 42)⟩,
  ⟨(some 3), none, .mv (.t 43)⟩]
theorem tr13_9 : (ro Tryd.f13 9).toList.mapM (trO Tryd.prog 119 (ro Tryd.f13 9)) = some a13_9 := by kernel_rfl
def a13_10 : List AO := [⟨(some 44), none, .mv (.t 0)⟩,
  ⟨(some 45), none, .mv (.t 4)⟩,
  ⟨(some 46), none, .idx 3 (.t 44) (.t 45)⟩,
  ⟨(some 47), none, .fld 1 (.t 46)⟩,
  ⟨(some 48), none, .load none (.t 47)⟩,
  ⟨(some 49), none, .bin .lss (.t 48) (.v (.int .i64 0))⟩,
  ⟨(some 50), none, .mv (.t 49)⟩,
  ⟨(some 51), some (50, false), .mv (.t 0)⟩,
  ⟨(some 52), some (50, false), .mv (.t 4)⟩,
  ⟨(some 53), some (50, false), .idx 3 (.t 51) (.t 52)⟩,
  ⟨(some 54), some (50, false), .fld 1 (.t 53)⟩,
  ⟨(some 55), some (50, false), .load none (.t 54)⟩,
  ⟨(some 56), some (50, false), .bin .gtr (.t 55) (.v (.int .i64 999))⟩,
  ⟨(some 57), none, .pick (.t 50) (.v (.bool true)) (.t 56)⟩]
theorem tr13_10 : (ro Tryd.f13 10).toList.mapM (trO Tryd.prog 119 (ro Tryd.f13 10)) = some a13_10 := by kernel_rfl
def a13_11 : List AO := [⟨(some 58), none, .mv (.t 3)⟩,
  ⟨(some 59), none, .mv (.t 5)⟩,
  ⟨(some 60), none, .build [(.int .i64 0), (.str [])] [(0, 1, (.v (.int .i64 2))), (1, 1, (.t 59))]⟩,
  ⟨(some 61), none, .slc 65 2 false [(.t 60)]⟩,
  ⟨(some 62), none, .app 65 2 24 (.t 58) (.t 61)⟩,
  ⟨(some 3), none, .mv (.t 62)⟩]
theorem tr13_11 : (ro Tryd.f13 11).toList.mapM (trO Tryd.prog 119 (ro Tryd.f13 11)) = some a13_11 := by kernel_rfl
def a13_12 : List AO := [⟨(some 6), none, .mv (.v (.int .i64 0))⟩]
theorem tr13_12 : (ro Tryd.f13 12).toList.mapM (trO Tryd.prog 119 (ro Tryd.f13 12)) = some a13_12 := by kernel_rfl
def a13_13 : List AO := [⟨(some 63), none, .mv (.t 6)⟩,
  ⟨(some 64), none, .mv (.t 0)⟩,
  ⟨(some 65), none, .mv (.t 4)⟩,
  ⟨(some 66), none, .idx 3 (.t 64) (.t 65)⟩,
  ⟨(some 67), none, .fld 2 (.t 66)⟩,
  ⟨(some 68), none, .load none (.t 67)⟩,
  ⟨(some 69), none, .len (.t 68)⟩,
  ⟨(some 70), none, .bin .lss (.t 63) (.t 69)⟩]
theorem tr13_13 : (ro Tryd.f13 13).toList.mapM (trO Tryd.prog 119 (ro Tryd.f13 13)) = some a13_13 := by kernel_rfl
def a13_15 : List AO := [⟨(some 73), none, .mv (.t 0)⟩,
  ⟨(some 74), none, .mv (.t 4)⟩,
  ⟨(some 75), none, .idx 3 (.t 73) (.t 74)⟩,
  ⟨(some 76), none, .fld 2 (.t 75)⟩,
  ⟨(some 77), none, .load none (.t 76)⟩,
  ⟨(some 78), none, .mv (.t 6)⟩,
  ⟨(some 79), none, .idx 1 (.t 77) (.t 78)⟩,
  ⟨(some 80), none, .load none (.t 79)⟩,
  ⟨(some 7), none, .mv (.t 80)⟩]
theorem tr13_15 : (ro Tryd.f13 15).toList.mapM (trO Tryd.prog 119 (ro Tryd.f13 15)) = some a13_15 := by kernel_rfl
def a13_16 : List AO := [⟨(some 81), none, .mv (.t 7)⟩,
  ⟨(some 82), none, .bin .neq (.t 81) (.v (.str [65, 68, 84]))⟩,
  ⟨(some 83), none, .mv (.t 82)⟩,
  ⟨(some 84), some (83, true), .mv (.t 7)⟩,
  ⟨(some 85), some (83, true), .bin .neq (.t 84) (.v (.str [67, 72, 68]))⟩,
  ⟨(some 86), none, .pick (.t 83) (.t 85) (.v (.bool false))⟩,
  ⟨(some 87), none, .mv (.t 86)⟩,
  ⟨(some 88), some (87, true), .mv (.t 7)⟩,
  ⟨(some 89), some (87, true), .bin .neq (.t 88) (.v (.str [73, 78, 70]))⟩,
  ⟨(some 90), none, .pick (.t 87) (.t 89) (.v (.bool false))⟩]
theorem tr13_16 : (ro Tryd.f13 16).toList.mapM (trO Tryd.prog 119 (ro Tryd.f13 16)) = some a13_16 := by kernel_rfl
def a13_17 : List AO := [⟨(some 91), none, .mv (.t 3)⟩,
  ⟨(some 92), none, .mv (.t 5)⟩,
  ⟨(some 93), none, .bin .add (.t 92) (.v (.str [32, 116, 121, 112, 101, 32]))⟩,
  ⟨(some 94), none, .mv (.t 6)⟩,
  ⟨(some 95), none, .call 28 [(.t 94)]⟩,
  ⟨(some 96), none, .bin .add (.t 93) (.t 95)⟩,
  ⟨(some 97), none, .build [(.int .i64 0), (.str [])] [(0, 1, (.v (.int .i64 8))), (1, 1, (.t 96))]⟩,
  ⟨(some 98), none, .slc 65 2 false [(.t 97)]⟩,
  ⟨(some 99), none, .app 65 2 24 (.t 91) (.t 98)⟩,
  ⟨(some 3), none, .mv (.t 99)⟩]
theorem tr13_17 : (ro Tryd.f13 17).toList.mapM (trO Tryd.prog 119 (ro Tryd.f13 17)) = some a13_17 := by kernel_rfl
def a13_18 : List AO := [⟨(some 100), none, .mv (.t 0)⟩,
  ⟨(some 101), none, .mv (.t 4)⟩,
  ⟨(some 102), none, .idx 3 (.t 100) (.t 101)⟩,
  ⟨(some 103), none, .fld 2 (.t 102)⟩,
  ⟨(some 104), none, .load none (.t 103)⟩,
  ⟨(some 105), none, .mv (.t 6)⟩,
  ⟨(some 106), none, .sub 1 none (some (.t 105)) none (.t 104)⟩,
  ⟨(some 107), none, .mv (.t 7)⟩,
  ⟨(some 108), none, .call 31 [(.t 106), (.t 107)]⟩]
theorem tr13_18 : (ro Tryd.f13 18).toList.mapM (trO Tryd.prog 119 (ro Tryd.f13 18)) = some a13_18 := by kernel_rfl
def a13_19 : List AO := [⟨(some 109), none, .mv (.t 3)⟩,
  ⟨(some 110), none, .mv (.t 5)⟩,
  ⟨(some 111), none, .bin .add (.t 110) (.v (.str [32, 116, 121, 112, 101, 32]))⟩,
  ⟨(some 112), none, .mv (.t 6)⟩,
  ⟨(some 113), none, .call 28 [(.t 112)]⟩,
  ⟨(some 114), none, .bin .add (.t 111) (.t 113)⟩,
  ⟨(some 115), none, .build [(.int .i64 0), (.str [])] [(0, 1, (.v (.int .i64 6))), (1, 1, (.t 114))]⟩,
  ⟨(some 116), none, .slc 65 2 false [(.t 115)]⟩,
  ⟨(some 117), none, .app 65 2 24 (.t 109) (.t 116)⟩,
  ⟨(some 3), none, .mv (.t 117)⟩]
theorem tr13_19 : (ro Tryd.f13 19).toList.mapM (trO Tryd.prog 119 (ro Tryd.f13 19)) = some a13_19 := by kernel_rfl
def a13_14 : List AO := [⟨(some 71), none, .mv (.t 6)⟩,
  ⟨(some 72), none, .bin .add (.t 71) (.v (.int .i64 1))⟩,
  ⟨(some 6), none, .mv (.t 72)⟩]
theorem tr13_14 : (ro Tryd.f13 14).toList.mapM (trO Tryd.prog 119 (ro Tryd.f13 14)) = some a13_14 := by kernel_rfl
def a13_4 : List AO := [⟨(some 12), none, .mv (.t 4)⟩,
  ⟨(some 13), none, .bin .add (.t 12) (.v (.int .i64 1))⟩,
  ⟨(some 4), none, .mv (.t 13)⟩]
theorem tr13_4 : (ro Tryd.f13 4).toList.mapM (trO Tryd.prog 119 (ro Tryd.f13 4)) = some a13_4 := by kernel_rfl
def a13_20 : List AO := [⟨(some 118), none, .mv (.t 3)⟩,
  ⟨(some 2), none, .mv (.t 118)⟩]
theorem tr13_20 : (ro Tryd.f13 20).toList.mapM (trO Tryd.prog 119 (ro Tryd.f13 20)) = some a13_20 := by kernel_rfl
/-- airline/airlineref33.Big -/
noncomputable def c14 : Code := .seq (.region 0 (ro Tryd.f14 0) false) (.seq (.region 1 (ro Tryd.f14 1) false) (.ret))
theorem body14 : Tryd.f14.body = some c14 := by kernel_rfl
theorem res14 : Tryd.f14.results.toList.mapM (trR Tryd.prog) = some [.t 2] := by kernel_rfl
theorem nt14 : Tryd.f14.ntmps = 25 := by kernel_rfl
theorem nm14 : (Tryd.f14.name == "runtime.NumGoroutine") = false := by kernel_rfl
def a14_0 : List AO := [⟨(some 1), none, .box 35 (.t 0)⟩,
  ⟨(some 2), none, .mv (.v (.bool false))⟩]
theorem tr14_0 : (ro Tryd.f14 0).toList.mapM (trO Tryd.prog 25 (ro Tryd.f14 0)) = some a14_0 := by kernel_rfl
def a14_1 : List AO := [⟨(some 3), none, .fld 1 (.t 1)⟩,
  ⟨(some 4), none, .load none (.t 3)⟩,
  ⟨(some 5), none, .len (.t 4)⟩,
  ⟨(some 6), none, .bin .gtr (.t 5) (.v (.int .i64 12))⟩,
  ⟨(some 7), none, .mv (.t 6)⟩,
  ⟨(some 8), some (7, false), .fld 3 (.t 1)⟩,
  ⟨(some 9), some (7, false), .load none (.t 8)⟩,
  ⟨(some 10), some (7, false), .len (.t 9)⟩,
  ⟨(some 11), some (7, false), .bin .gtr (.t 10) (.v (.int .i64 8))⟩,
  ⟨(some 12), none, .pick (.t 7) (.v (.bool true)) (.t 11)⟩,
  ⟨(some 13), none, .mv (.t 12)⟩,
  ⟨(some 14), some (13, false), .fld 4 (.t 1)⟩,
  ⟨(some 15), some (13, false), .load none (.t 14)⟩,
  ⟨(some 16), some (13, false), .len (.t 15)⟩,
  ⟨(some 17), some (13, false), .bin .gtr (.t 16) (.v (.int .i64 30))⟩,
  ⟨(some 18), none, .pick (.t 13) (.v (.bool true)) (.t 17)⟩,
  ⟨(some 19), none, .mv (.t 18)⟩,
  ⟨(some 20), some (19, false), .fld 0 (.t 1)⟩,
  ⟨(some 21), some (19, false), .load none (.t 20)⟩,
  ⟨(some 22), some (19, false), .slen (.t 21)⟩,
  ⟨(some 23), some (19, false), .bin .gtr (.t 22) (.v (.int .i64 100))⟩,
  ⟨(some 24), none, .pick (.t 19) (.v (.bool true)) (.t 23)⟩,
  ⟨(some 2), none, .mv (.t 24)⟩]
theorem tr14_1 : (ro Tryd.f14 1).toList.mapM (trO Tryd.prog 25 (ro Tryd.f14 1)) = some a14_1 := by kernel_rfl
/-- airline/service.Add -/
noncomputable def c15 : Code := .seq (.region 0 (ro Tryd.f15 0) false) (.seq (.seq (.region 1 (ro Tryd.f15 1) false) (.seq (.region 2 (ro Tryd.f15 2) false) (.cond (.tmp 17) (.seq (.region 3 (ro Tryd.f15 3) false) (.ret)) (.skip)))) (.seq (.region 4 (ro Tryd.f15 4) true) (.seq (.region 5 (ro Tryd.f15 5) false) (.ret))))
theorem body15 : Tryd.f15.body = some c15 := by kernel_rfl
theorem res15 : Tryd.f15.results.toList.mapM (trR Tryd.prog) = some [.c (some 6) 8, .t 9] := by kernel_rfl
theorem nt15 : Tryd.f15.ntmps = 28 := by kernel_rfl
theorem nm15 : (Tryd.f15.name == "runtime.NumGoroutine") = false := by kernel_rfl
def a15_0 : List AO := [⟨(some 5), none, .box 35 (.t 1)⟩,
  ⟨(some 6), none, .box 37 (.t 2)⟩,
  ⟨(some 8), none, .alloc 35 [(.str []), .nils, (.int .i64 0), .nils, .nils, (.int .i64 0)]⟩,
  ⟨(some 9), none, .mv (.v (.int .i64 0))⟩]
theorem tr15_0 : (ro Tryd.f15 0).toList.mapM (trO Tryd.prog 28 (ro Tryd.f15 0)) = some a15_0 := by kernel_rfl
def a15_1 : List AO := [⟨(some 11), none, .mv (.t 0)⟩,
  ⟨(some 12), none, .load (some 6) (.t 5)⟩,
  ⟨(some 13), none, .load (some 3) (.t 6)⟩,
  ⟨(some 14), none, .mv (.t 3)⟩,
  ⟨(some 15), none, .call 18 [(.t 11), (.t 12), (.t 13), (.t 14)]⟩,
  ⟨(some 10), none, .mv (.t 15)⟩]
theorem tr15_1 : (ro Tryd.f15 1).toList.mapM (trO Tryd.prog 28 (ro Tryd.f15 1)) = some a15_1 := by kernel_rfl
def a15_2 : List AO := [⟨(some 16), none, .mv (.t 10)⟩,
  ⟨(some 17), none, .bin .neq (.t 16) (.v (.int .i64 0))⟩]
theorem tr15_2 : (ro Tryd.f15 2).toList.mapM (trO Tryd.prog 28 (ro Tryd.f15 2)) = some a15_2 := by kernel_rfl
def a15_3 : List AO := [⟨(some 18), none, .build [(.str []), .nils, (.int .i64 0), .nils, .nils, (.int .i64 0)] []⟩,
  ⟨(some 19), none, .mv (.t 10)⟩,
  ⟨none, none, .store 6 (.t 8) (.t 18)⟩,
  ⟨(some 9), none, .mv (.t 19)⟩]
theorem tr15_3 : (ro Tryd.f15 3).toList.mapM (trO Tryd.prog 28 (ro Tryd.f15 3)) = some a15_3 := by kernel_rfl
def a15_4 : List AO := [⟨(some 20), none, .fld 4 (.t 5)⟩,
  ⟨(some 21), none, .load none (.t 20)⟩,
  ⟨(some 22), none, .call 32 [(.t 21)]⟩,
  ⟨(some 23), none, .load (some 3) (.t 6)⟩,
  ⟨(some 24), none, .slc 37 3 false [(.t 23)]⟩,
  ⟨(some 25), none, .app 37 3 32 (.t 22) (.t 24)⟩,
  ⟨(some 26), none, .fld 4 (.t 5)⟩,
  ⟨none, none, .store 1 (.t 26) (.t 25)⟩]
theorem tr15_4 : (ro Tryd.f15 4).toList.mapM (trO Tryd.prog 28 (ro Tryd.f15 4)) = some a15_4 := by kernel_rfl
def d15_4 : List (List Nat) := [[], [0], [0, 1], [], [3], [0, 1, 2, 3, 4], [0, 1, 2, 3, 4, 5], [0, 1, 2, 3, 4, 5, 6]]
theorem ok15_4 : okReg (ro Tryd.f15 4) a15_4 d15_4 = true := by kernel_rfl
def a15_5 : List AO := [⟨(some 27), none, .load (some 6) (.t 5)⟩,
  ⟨none, none, .store 6 (.t 8) (.t 27)⟩,
  ⟨(some 9), none, .mv (.v (.int .i64 0))⟩]
theorem tr15_5 : (ro Tryd.f15 5).toList.mapM (trO Tryd.prog 28 (ro Tryd.f15 5)) = some a15_5 := by kernel_rfl
/-- airline/airlineref33.Add -/
noncomputable def c16 : Code := .seq (.region 0 (ro Tryd.f16 0) false) (.seq (.region 1 (ro Tryd.f16 1) false) (.seq (.seq (.region 2 (ro Tryd.f16 2) false) (.cond (.tmp 18) (.seq (.region 3 (ro Tryd.f16 3) false) (.ret)) (.skip))) (.seq (.region 4 (ro Tryd.f16 4) false) (.seq (.region 5 (ro Tryd.f16 5) true) (.seq (.region 6 (ro Tryd.f16 6) false) (.ret))))))
theorem body16 : Tryd.f16.body = some c16 := by kernel_rfl
theorem res16 : Tryd.f16.results.toList.mapM (trR Tryd.prog) = some [.c (some 6) 8, .t 9] := by kernel_rfl
theorem nt16 : Tryd.f16.ntmps = 30 := by kernel_rfl
theorem nm16 : (Tryd.f16.name == "runtime.NumGoroutine") = false := by kernel_rfl
def a16_0 : List AO := [⟨(some 5), none, .box 35 (.t 1)⟩,
  ⟨(some 6), none, .box 37 (.t 2)⟩,
  ⟨(some 8), none, .alloc 35 [(.str []), .nils, (.int .i64 0), .nils, .nils, (.int .i64 0)]⟩,
  ⟨(some 9), none, .mv (.v (.int .i64 0))⟩]
theorem tr16_0 : (ro Tryd.f16 0).toList.mapM (trO Tryd.prog 30 (ro Tryd.f16 0)) = some a16_0 := by kernel_rfl
def a16_1 : List AO := [⟨(some 12), none, .mv (.t 0)⟩,
  ⟨(some 13), none, .load (some 6) (.t 5)⟩,
  ⟨(some 14), none, .load (some 3) (.t 6)⟩,
  ⟨(some 15), none, .mv (.t 3)⟩,
  ⟨(some 16), none, .call 19 [(.t 12), (.t 13), (.t 14), (.t 15)]⟩,
  ⟨(some 10), none, .mv (.t 16)⟩]
theorem tr16_1 : (ro Tryd.f16 1).toList.mapM (trO Tryd.prog 30 (ro Tryd.f16 1)) = some a16_1 := by kernel_rfl
def a16_2 : List AO := [⟨(some 17), none, .mv (.t 10)⟩,
  ⟨(some 18), none, .bin .neq (.t 17) (.v (.int .i64 0))⟩]
theorem tr16_2 : (ro Tryd.f16 2).toList.mapM (trO Tryd.prog 30 (ro Tryd.f16 2)) = some a16_2 := by kernel_rfl
def a16_3 : List AO := [⟨(some 19), none, .build [(.str []), .nils, (.int .i64 0), .nils, .nils, (.int .i64 0)] []⟩,
  ⟨(some 20), none, .mv (.t 10)⟩,
  ⟨none, none, .store 6 (.t 8) (.t 19)⟩,
  ⟨(some 9), none, .mv (.t 20)⟩]
theorem tr16_3 : (ro Tryd.f16 3).toList.mapM (trO Tryd.prog 30 (ro Tryd.f16 3)) = some a16_3 := by kernel_rfl
def a16_4 : List AO := [⟨(some 11), none, .mv (.v .nils)⟩]
theorem tr16_4 : (ro Tryd.f16 4).toList.mapM (trO Tryd.prog 30 (ro Tryd.f16 4)) = some a16_4 := by kernel_rfl
def a16_5 : List AO := [⟨(some 21), none, .mv (.t 11)⟩,
  ⟨(some 22), none, .fld 4 (.t 5)⟩,
  ⟨(some 23), none, .load none (.t 22)⟩,
  ⟨(some 24), none, .app 37 3 32 (.t 21) (.t 23)⟩,
  ⟨(some 25), none, .load (some 3) (.t 6)⟩,
  ⟨(some 26), none, .slc 37 3 false [(.t 25)]⟩,
  ⟨(some 27), none, .app 37 3 32 (.t 24) (.t 26)⟩,
  ⟨(some 28), none, .fld 4 (.t 5)⟩,
  ⟨none, none, .store 1 (.t 28) (.t 27)⟩]
theorem tr16_5 : (ro Tryd.f16 5).toList.mapM (trO Tryd.prog 30 (ro Tryd.f16 5)) = some a16_5 := by kernel_rfl
def d16_5 : List (List Nat) := [[], [], [1], [0, 1, 2], [], [4], [0, 1, 2, 3, 4, 5], [0, 1, 2, 3, 4, 5, 6], [0, 1, 2, 3, 4, 5, 6, 7]]
theorem ok16_5 : okReg (ro Tryd.f16 5) a16_5 d16_5 = true := by kernel_rfl
def a16_6 : List AO := [⟨(some 29), none, .load (some 6) (.t 5)⟩,
  ⟨none, none, .store 6 (.t 8) (.t 29)⟩,
  ⟨(some 9), none, .mv (.v (.int .i64 0))⟩]
theorem tr16_6 : (ro Tryd.f16 6).toList.mapM (trO Tryd.prog 30 (ro Tryd.f16 6)) = some a16_6 := by kernel_rfl
/-- airline/airlineref33.Same -/
noncomputable def c17 : Code := .seq (.region 0 (ro Tryd.f17 0) false) (.seq (.seq (.region 1 (ro Tryd.f17 1) false) (.cond (.tmp 53) (.seq (.region 2 (ro Tryd.f17 2) false) (.ret)) (.skip))) (.seq (.seq (.region 3 (ro Tryd.f17 3) false) (.block 0 (.loop (.seq (.seq (.region 4 (ro Tryd.f17 4) false) (.cond (.tmp 58) (.skip) (.exit 0))) (.seq (.block 1 (.seq (.region 6 (ro Tryd.f17 6) true) (.cond (.tmp 71) (.seq (.region 7 (ro Tryd.f17 7) false) (.ret)) (.skip)))) (.region 5 (ro Tryd.f17 5) false)))))) (.seq (.seq (.region 8 (ro Tryd.f17 8) false) (.block 2 (.loop (.seq (.seq (.region 9 (ro Tryd.f17 9) false) (.cond (.tmp 76) (.skip) (.exit 2))) (.seq (.block 3 (.seq (.region 11 (ro Tryd.f17 11) true) (.cond (.tmp 89) (.seq (.region 12 (ro Tryd.f17 12) false) (.ret)) (.skip)))) (.region 10 (ro Tryd.f17 10) false)))))) (.seq (.seq (.region 13 (ro Tryd.f17 13) false) (.block 4 (.loop (.seq (.seq (.region 14 (ro Tryd.f17 14) false) (.cond (.tmp 94) (.skip) (.exit 4))) (.seq (.block 5 (.seq (.region 16 (ro Tryd.f17 16) true) (.cond (.tmp 107) (.seq (.region 17 (ro Tryd.f17 17) false) (.ret)) (.skip)))) (.region 15 (ro Tryd.f17 15) false)))))) (.seq (.region 18 (ro Tryd.f17 18) false) (.ret))))))
theorem body17 : Tryd.f17.body = some c17 := by kernel_rfl
theorem res17 : Tryd.f17.results.toList.mapM (trR Tryd.prog) = some [.t 4] := by kernel_rfl
theorem nt17 : Tryd.f17.ntmps = 108 := by kernel_rfl
theorem nm17 : (Tryd.f17.name == "runtime.NumGoroutine") = false := by kernel_rfl
def a17_0 : List AO := [⟨(some 2), none, .box 35 (.t 0)⟩,
  ⟨(some 3), none, .box 35 (.t 1)⟩,
  ⟨(some 4), none, .mv (.v (.bool false))⟩]
theorem tr17_0 : (ro Tryd.f17 0).toList.mapM (trO Tryd.prog 108 (ro Tryd.f17 0)) = some a17_0 := by kernel_rfl
def a17_1 : List AO := [⟨(some 8), none, .fld 0 (.t 2)⟩,
  ⟨(some 9), none, .load none (.t 8)⟩,
  ⟨(some 10), none, .fld 0 (.t 3)⟩,
  ⟨(some 11), none, .load none (.t 10)⟩,
  ⟨(some 12), none, .bin .neq (.t 9) (.t 11)⟩,
  ⟨(some 13), none, .mv (.t 12)⟩,
  ⟨(some 14), some (13, false), .fld 2 (.t 2)⟩,
  ⟨(some 15), some (13, false), .load none (.t 14)⟩,
  ⟨(some 16), some (13, false), .fld 2 (.t 3)⟩,
  ⟨(some 17), some (13, false), .load none (.t 16)⟩,
  ⟨(some 18), some (13, false), .bin .neq (.t 15) (.t 17)⟩,
  ⟨(some 19), none, .pick (.t 13) (.v (.bool true)) (.t 18)⟩,
  ⟨(some 20), none, .mv (.t 19)⟩,
  ⟨(some 21), some (20, false), .fld 5 (.t 2)⟩,
  ⟨(some 22), some (20, false), .load none (.t 21)⟩,
  ⟨(some 23), some (20, false), .fld 5 (.t 3)⟩,
  ⟨(some 24), some (20, false), .load none (.t 23)⟩,
  ⟨(some 25), some (20, false), .bin .neq (.t 22) (.t 24)⟩,
  ⟨(some 26), none, .pick (.t 20) (.v (.bool true)) (.t 25)⟩,
  ⟨(some 27), none, .mv (.t 26)⟩,
  ⟨(some 28), some (27, false), .fld 1 (.t 2)⟩,
  ⟨(some 29), some (27, false), .load none (.t 28)⟩,
  ⟨(some 30), some (27, false), .len (.t 29)⟩,
  ⟨(some 31), some (27, false), .fld 1 (.t 3)⟩,
  ⟨(some 32), some (27, false), .load none (.t 31)⟩,
  ⟨(some 33), some (27, false), .len (.t 32)⟩,
  ⟨(some 34), some (27, false), .bin .neq (.t 30) (.t 33)⟩,
  ⟨(some 35), none, .pick (.t 27) (.v (.bool true)) (.t 34)⟩,
  ⟨(some 36), none, .mv (.t 35)⟩,
  ⟨(some 37), some (36, false), .fld 3 (.t 2)⟩,
  ⟨(some 38), some (36, false), .load none (.t 37)⟩,
  ⟨(some 39), some (36, false), .len (.t 38)⟩,
  ⟨(some 40), some (36, false), .fld 3 (.t 3)⟩,
  ⟨(some 41), some (36, false), .load none (.t 40)⟩,
  ⟨(some 42), some (36, false), .len (.t 41)⟩,
  ⟨(some 43), some (36, false), .bin .neq (.t 39) (.t 42)⟩,
  ⟨(some 44), none, .pick (.t 36) (.v (.bool true)) (.t 43)⟩,
  ⟨(some 45), none, .mv (.t 44)⟩,
  ⟨(some 46), some (45, false), .fld 4 (.t 2)⟩,
  ⟨(some 47), some (45, false), .load none (.t 46)⟩,
  ⟨(some 48), some (45, false), .len (.t 47)⟩,
  ⟨(some 49), some (45, false), .fld 4 (.t 3)⟩,
  ⟨(some 50), some (45, false), .load none (.t 49)⟩,
  ⟨(some 51), some (45, false), .len (.t 50)⟩,
  ⟨(some 52), some (45, false), .bin .neq (.t 48) (.t 51)⟩,
  ⟨(some 53), none, .pick (.t 45) (.v (.bool true)) (.t 52)⟩]
theorem tr17_1 : (ro Tryd.f17 1).toList.mapM (trO Tryd.prog 108 (ro Tryd.f17 1)) = some a17_1 := by kernel_rfl
def a17_2 : List AO := [⟨(some 4), none, .mv (.v (.bool false))⟩]
theorem tr17_2 : (ro Tryd.f17 2).toList.mapM (trO Tryd.prog 108 (ro Tryd.f17 2)) = some a17_2 := by kernel_rfl
def a17_3 : List AO := [⟨(some 5), none, .mv (.v (.int .i64 0))⟩]
theorem tr17_3 : (ro Tryd.f17 3).toList.mapM (trO Tryd.prog 108 (ro Tryd.f17 3)) = some a17_3 := by kernel_rfl
def a17_4 : List AO := [⟨(some 54), none, .mv (.t 5)⟩,
  ⟨(some 55), none, .fld 1 (.t 2)⟩,
  ⟨(some 56), none, .load none (.t 55)⟩,
  ⟨(some 57), none, .len (.t 56)⟩,
  ⟨(some 58), none, .bin .lss (.t 54) (.t 57)⟩]
theorem tr17_4 : (ro Tryd.f17 4).toList.mapM (trO Tryd.prog 108 (ro Tryd.f17 4)) = some a17_4 := by kernel_rfl
def a17_6 : List AO := [⟨(some 61), none, .fld 1 (.t 2)⟩,
  ⟨(some 62), none, .load none (.t 61)⟩,
  ⟨(some 63), none, .mv (.t 5)⟩,
  ⟨(some 64), none, .idx 3 (.t 62) (.t 63)⟩,
  ⟨(some 65), none, .load (some 3) (.t 64)⟩,
  ⟨(some 66), none, .fld 1 (.t 3)⟩,
  ⟨(some 67), none, .load none (.t 66)⟩,
  ⟨(some 68), none, .mv (.t 5)⟩,
  ⟨(some 69), none, .idx 3 (.t 67) (.t 68)⟩,
  ⟨(some 70), none, .load (some 3) (.t 69)⟩,
  ⟨(some 71), none, .bina [.s, .s, .s] .neq (.t 65) (.t 70)⟩]
theorem tr17_6 : (ro Tryd.f17 6).toList.mapM (trO Tryd.prog 108 (ro Tryd.f17 6)) = some a17_6 := by kernel_rfl
def d17_6 : List (List Nat) := [[], [0], [], [0, 1, 2], [0, 1, 2, 3], [], [5], [], [5, 6, 7], [5, 6, 7, 8], [0, 1, 2, 3, 4, 5, 6, 7, 8, 9]]
theorem ok17_6 : okReg (ro Tryd.f17 6) a17_6 d17_6 = true := by kernel_rfl
def a17_7 : List AO := [⟨(some 4), none, .mv (.v (.bool false))⟩]
theorem tr17_7 : (ro Tryd.f17 7).toList.mapM (trO Tryd.prog 108 (ro Tryd.f17 7)) = some a17_7 := by kernel_rfl
def a17_5 : List AO := [⟨(some 59), none, .mv (.t 5)⟩,
  ⟨(some 60), none, .bin .add (.t 59) (.v (.int .i64 1))⟩,
  ⟨(some 5), none, .mv (.t 60)⟩]
theorem tr17_5 : (ro Tryd.f17 5).toList.mapM (trO Tryd.prog 108 (ro Tryd.f17 5)) = some a17_5 := by kernel_rfl
def a17_8 : List AO := [⟨(some 6), none, .mv (.v (.int .i64 0))⟩]
theorem tr17_8 : (ro Tryd.f17 8).toList.mapM (trO Tryd.prog 108 (ro Tryd.f17 8)) = some a17_8 := by kernel_rfl
def a17_9 : List AO := [⟨(some 72), none, .mv (.t 6)⟩,
  ⟨(some 73), none, .fld 3 (.t 2)⟩,
  ⟨(some 74), none, .load none (.t 73)⟩,
  ⟨(some 75), none, .len (.t 74)⟩,
  ⟨(some 76), none, .bin .lss (.t 72) (.t 75)⟩]
theorem tr17_9 : (ro Tryd.f17 9).toList.mapM (trO Tryd.prog 108 (ro Tryd.f17 9)) = some a17_9 := by kernel_rfl
def a17_11 : List AO := [⟨(some 79), none, .fld 3 (.t 2)⟩,
  ⟨(some 80), none, .load none (.t 79)⟩,
  ⟨(some 81), none, .mv (.t 6)⟩,
  ⟨(some 82), none, .idx 10 (.t 80) (.t 81)⟩,
  ⟨(some 83), none, .load (some 10) (.t 82)⟩,
  ⟨(some 84), none, .fld 3 (.t 3)⟩,
  ⟨(some 85), none, .load none (.t 84)⟩,
  ⟨(some 86), none, .mv (.t 6)⟩,
  ⟨(some 87), none, .idx 10 (.t 85) (.t 86)⟩,
  ⟨(some 88), none, .load (some 10) (.t 87)⟩,
  ⟨(some 89), none, .bina [.s, .i .i64, .i .i64, .s, .s, .i .i64, .i .i64, .s, .i .i64, .i .i64] .neq (.t 83) (.t 88)⟩]
theorem tr17_11 : (ro Tryd.f17 11).toList.mapM (trO Tryd.prog 108 (ro Tryd.f17 11)) = some a17_11 := by kernel_rfl
def d17_11 : List (List Nat) := [[], [0], [], [0, 1, 2], [0, 1, 2, 3], [], [5], [], [5, 6, 7], [5, 6, 7, 8], [0, 1, 2, 3, 4, 5, 6, 7, 8, 9]]
theorem ok17_11 : okReg (ro Tryd.f17 11) a17_11 d17_11 = true := by kernel_rfl
def a17_12 : List AO := [⟨(some 4), none, .mv (.v (.bool false))⟩]
theorem tr17_12 : (ro Tryd.f17 12).toList.mapM (trO Tryd.prog 108 (ro Tryd.f17 12)) = some a17_12 := by kernel_rfl
def a17_10 : List AO := [⟨(some 77), none, .mv (.t 6)⟩,
  ⟨(some 78), none, .bin .add (.t 77) (.v (.int .i64 1))⟩,
  ⟨(some 6), none, .mv (.t 78)⟩]
theorem tr17_10 : (ro Tryd.f17 10).toList.mapM (trO Tryd.prog 108 (ro Tryd.f17 10)) = some a17_10 := by kernel_rfl
def a17_13 : List AO := [⟨(some 7), none, .mv (.v (.int .i64 0))⟩]
theorem tr17_13 : (ro Tryd.f17 13).toList.mapM (trO Tryd.prog 108 (ro Tryd.f17 13)) = some a17_13 := by kernel_rfl
def a17_14 : List AO := [⟨(some 90), none, .mv (.t 7)⟩,
  ⟨(some 91), none, .fld 4 (.t 2)⟩,
  ⟨(some 92), none, .load none (.t 91)⟩,
  ⟨(some 93), none, .len (.t 92)⟩,
  ⟨(some 94), none, .bin .lss (.t 90) (.t 93)⟩]
theorem tr17_14 : (ro Tryd.f17 14).toList.mapM (trO Tryd.prog 108 (ro Tryd.f17 14)) = some a17_14 := by kernel_rfl
def a17_16 : List AO := [⟨(some 97), none, .fld 4 (.t 2)⟩,
  ⟨(some 98), none, .load none (.t 97)⟩,
  ⟨(some 99), none, .mv (.t 7)⟩,
  ⟨(some 100), none, .idx 3 (.t 98) (.t 99)⟩,
  ⟨(some 101), none, .load (some 3) (.t 100)⟩,
  ⟨(some 102), none, .fld 4 (.t 3)⟩,
  ⟨(some 103), none, .load none (.t 102)⟩,
  ⟨(some 104), none, .mv (.t 7)⟩,
  ⟨(some 105), none, .idx 3 (.t 103) (.t 104)⟩,
  ⟨(some 106), none, .load (some 3) (.t 105)⟩,
  ⟨(some 107), none, .bina [.s, .i .i64, .i .i64] .neq (.t 101) (.t 106)⟩]
theorem tr17_16 : (ro Tryd.f17 16).toList.mapM (trO Tryd.prog 108 (ro Tryd.f17 16)) = some a17_16 := by kernel_rfl
def d17_16 : List (List Nat) := [[], [0], [], [0, 1, 2], [0, 1, 2, 3], [], [5], [], [5, 6, 7], [5, 6, 7, 8], [0, 1, 2, 3, 4, 5, 6, 7, 8, 9]]
theorem ok17_16 : okReg (ro Tryd.f17 16) a17_16 d17_16 = true := by kernel_rfl
def a17_17 : List AO := [⟨(some 4), none, .mv (.v (.bool false))⟩]
theorem tr17_17 : (ro Tryd.f17 17).toList.mapM (trO Tryd.prog 108 (ro Tryd.f17 17)) = some a17_17 := by kernel_rfl
def a17_15 : List AO := [⟨(some 95), none, .mv (.t 7)⟩,
  ⟨(some 96), none, .bin .add (.t 95) (.v (.int .i64 1))⟩,
  ⟨(some 7), none, .mv (.t 96)⟩]
theorem tr17_15 : (ro Tryd.f17 15).toList.mapM (trO Tryd.prog 108 (ro Tryd.f17 15)) = some a17_15 := by kernel_rfl
def a17_18 : List AO := [⟨(some 4), none, .mv (.v (.bool true))⟩]
theorem tr17_18 : (ro Tryd.f17 18).toList.mapM (trO Tryd.prog 108 (ro Tryd.f17 18)) = some a17_18 := by kernel_rfl
/-- airline/service.Allowed -/
noncomputable def c18 : Code := .seq (.region 0 (ro Tryd.f18 0) false) (.seq (.region 1 (ro Tryd.f18 1) false) (.seq (.block 0 (.seq (.region 2 (ro Tryd.f18 2) false) (.cond (.tmp 18) (.seq (.region 3 (ro Tryd.f18 3) false) (.ret)) (.seq (.region 4 (ro Tryd.f18 4) false) (.cond (.tmp 21) (.seq (.region 5 (ro Tryd.f18 5) false) (.ret)) (.seq (.region 6 (ro Tryd.f18 6) true) (.cond (.tmp 46) (.seq (.region 7 (ro Tryd.f18 7) false) (.ret)) (.seq (.region 8 (ro Tryd.f18 8) false) (.cond (.tmp 64) (.seq (.region 9 (ro Tryd.f18 9) false) (.ret)) (.seq (.region 10 (ro Tryd.f18 10) false) (.cond (.tmp 74) (.seq (.region 11 (ro Tryd.f18 11) false) (.ret)) (.seq (.region 12 (ro Tryd.f18 12) false) (.cond (.tmp 79) (.seq (.region 13 (ro Tryd.f18 13) false) (.ret)) (.skip)))))))))))))) (.seq (.region 14 (ro Tryd.f18 14) false) (.ret))))
theorem body18 : Tryd.f18.body = some c18 := by kernel_rfl
theorem res18 : Tryd.f18.results.toList.mapM (trR Tryd.prog) = some [.t 8] := by kernel_rfl
theorem nt18 : Tryd.f18.ntmps = 84 := by kernel_rfl
theorem nm18 : (Tryd.f18.name == "runtime.NumGoroutine") = false := by kernel_rfl
def a18_0 : List AO := [⟨(some 5), none, .box 35 (.t 1)⟩,
  ⟨(some 6), none, .box 37 (.t 2)⟩,
  ⟨(some 8), none, .mv (.v (.int .i64 0))⟩]
theorem tr18_0 : (ro Tryd.f18 0).toList.mapM (trO Tryd.prog 84 (ro Tryd.f18 0)) = some a18_0 := by kernel_rfl
def a18_1 : List AO := [⟨(some 12), none, .mv (.t 0)⟩,
  ⟨(some 13), none, .fld 0 (.t 6)⟩,
  ⟨(some 14), none, .load none (.t 13)⟩,
  ⟨(some 15), none, .call 26 [(.t 12), (.t 14)]⟩,
  ⟨(some 11), none, .mv (.t 15)⟩,
  ⟨(some 16), none, .ext 0 (.t 11)⟩,
  ⟨(some 17), none, .ext 1 (.t 11)⟩,
  ⟨(some 9), none, .alloc 61 [(.str []), (.int .i64 0), .nils]⟩,
  ⟨none, none, .store 3 (.t 9) (.t 16)⟩,
  ⟨(some 10), none, .mv (.t 17)⟩]
theorem tr18_1 : (ro Tryd.f18 1).toList.mapM (trO Tryd.prog 84 (ro Tryd.f18 1)) = some a18_1 := by kernel_rfl
def a18_2 : List AO := [⟨(some 19), none, .mv (.t 10)⟩,
  ⟨(some 20), none, .un .not (.t 19)⟩,
  ⟨(some 18), none, .mv (.t 20)⟩]
theorem tr18_2 : (ro Tryd.f18 2).toList.mapM (trO Tryd.prog 84 (ro Tryd.f18 2)) = some a18_2 := by kernel_rfl
def a18_3 : List AO := [⟨(some 8), none, .mv (.v (.int .i64 7))⟩]
theorem tr18_3 : (ro Tryd.f18 3).toList.mapM (trO Tryd.prog 84 (ro Tryd.f18 3)) = some a18_3 := by kernel_rfl
def a18_4 : List AO := [⟨(some 22), none, .fld 1 (.t 6)⟩,
  ⟨(some 23), none, .load none (.t 22)⟩,
  ⟨(some 24), none, .bin .lss (.t 23) (.v (.int .i64 0))⟩,
  ⟨(some 25), none, .mv (.t 24)⟩,
  ⟨(some 26), some (25, false), .fld 1 (.t 6)⟩,
  ⟨(some 27), some (25, false), .load none (.t 26)⟩,
  ⟨(some 28), some (25, false), .fld 1 (.t 5)⟩,
  ⟨(some 29), some (25, false), .load none (.t 28)⟩,
  ⟨(some 30), some (25, false), .len (.t 29)⟩,
  ⟨(some 31), some (25, false), .bin .geq (.t 27) (.t 30)⟩,
  ⟨(some 32), none, .pick (.t 25) (.v (.bool true)) (.t 31)⟩,
  ⟨(some 33), none, .mv (.t 32)⟩,
  ⟨(some 34), some (33, false), .fld 2 (.t 6)⟩,
  ⟨(some 35), some (33, false), .load none (.t 34)⟩,
  ⟨(some 36), some (33, false), .bin .lss (.t 35) (.v (.int .i64 0))⟩,
  ⟨(some 37), none, .pick (.t 33) (.v (.bool true)) (.t 36)⟩,
  ⟨(some 38), none, .mv (.t 37)⟩,
  ⟨(some 39), some (38, false), .fld 2 (.t 6)⟩,
  ⟨(some 40), some (38, false), .load none (.t 39)⟩,
  ⟨(some 41), some (38, false), .fld 3 (.t 5)⟩,
  ⟨(some 42), some (38, false), .load none (.t 41)⟩,
  ⟨(some 43), some (38, false), .len (.t 42)⟩,
  ⟨(some 44), some (38, false), .bin .geq (.t 40) (.t 43)⟩,
  ⟨(some 45), none, .pick (.t 38) (.v (.bool true)) (.t 44)⟩,
  ⟨(some 21), none, .mv (.t 45)⟩]
theorem tr18_4 : (ro Tryd.f18 4).toList.mapM (trO Tryd.prog 84 (ro Tryd.f18 4)) = some a18_4 := by kernel_rfl
def a18_5 : List AO := [⟨(some 8), none, .mv (.v (.int .i64 2))⟩]
theorem tr18_5 : (ro Tryd.f18 5).toList.mapM (trO Tryd.prog 84 (ro Tryd.f18 5)) = some a18_5 := by kernel_rfl
def a18_6 : List AO := [⟨(some 47), none, .fld 2 (.t 9)⟩,
  ⟨(some 48), none, .load none (.t 47)⟩,
  ⟨(some 49), none, .len (.t 48)⟩,
  ⟨(some 50), none, .bin .gtr (.t 49) (.v (.int .i64 0))⟩,
  ⟨(some 51), none, .mv (.t 50)⟩,
  ⟨(some 52), some (51, true), .fld 2 (.t 9)⟩,
  ⟨(some 53), some (51, true), .load none (.t 52)⟩,
  ⟨(some 54), some (51, true), .fld 1 (.t 5)⟩,
  ⟨(some 55), some (51, true), .load none (.t 54)⟩,
  ⟨(some 56), some (51, true), .fld 1 (.t 6)⟩,
  ⟨(some 57), some (51, true), .load none (.t 56)⟩,
  ⟨(some 58), some (51, true), .idx 3 (.t 55) (.t 57)⟩,
  ⟨(some 59), some (51, true), .fld 2 (.t 58)⟩,
  ⟨(some 60), some (51, true), .load none (.t 59)⟩,
  ⟨(some 61), some (51, true), .call 27 [(.t 53), (.t 60)]⟩,
  ⟨(some 62), some (51, true), .un .not (.t 61)⟩,
  ⟨(some 63), none, .pick (.t 51) (.t 62) (.v (.bool false))⟩,
  ⟨(some 46), none, .mv (.t 63)⟩]
theorem tr18_6 : (ro Tryd.f18 6).toList.mapM (trO Tryd.prog 84 (ro Tryd.f18 6)) = some a18_6 := by kernel_rfl
def d18_6 : List (List Nat) := [[], [0], [0, 1], [0, 1, 2], [0, 1, 2, 3], [0, 1, 2, 3, 4], [0, 1, 2, 3, 4, 5], [0, 1, 2, 3, 4], [0, 1, 2, 3, 4, 7], [0, 1, 2, 3, 4], [0, 1, 2, 3, 4, 9], [0, 1, 2, 3, 4, 7, 8, 9, 10], [0, 1, 2, 3, 4, 7, 8, 9, 10, 11], [0, 1, 2, 3, 4, 7, 8, 9, 10, 11, 12], [0, 1, 2, 3, 4, 5, 6, 7, 8, 9, 10, 11, 12, 13], [0, 1, 2, 3, 4, 5, 6, 7, 8, 9, 10, 11, 12, 13, 14], [0, 1, 2, 3, 4, 5, 6, 7, 8, 9, 10, 11, 12, 13, 14, 15], [0, 1, 2, 3, 4, 5, 6, 7, 8, 9, 10, 11, 12, 13, 14, 15, 16]]
theorem ok18_6 : okReg (ro Tryd.f18 6) a18_6 d18_6 = true := by kernel_rfl
def a18_7 : List AO := [⟨(some 8), none, .mv (.v (.int .i64 25))⟩]
theorem tr18_7 : (ro Tryd.f18 7).toList.mapM (trO Tryd.prog 84 (ro Tryd.f18 7)) = some a18_7 := by kernel_rfl
def a18_8 : List AO := [⟨(some 65), none, .fld 3 (.t 5)⟩,
  ⟨(some 66), none, .load none (.t 65)⟩,
  ⟨(some 67), none, .fld 2 (.t 6)⟩,
  ⟨(some 68), none, .load none (.t 67)⟩,
  ⟨(some 69), none, .idx 10 (.t 66) (.t 68)⟩,
  ⟨(some 70), none, .fld 8 (.t 69)⟩,
  ⟨(some 71), none, .load none (.t 70)⟩,
  ⟨(some 72), none, .call 33 [(.t 71)]⟩,
  ⟨(some 73), none, .un .not (.t 72)⟩,
  ⟨(some 64), none, .mv (.t 73)⟩]
theorem tr18_8 : (ro Tryd.f18 8).toList.mapM (trO Tryd.prog 84 (ro Tryd.f18 8)) = some a18_8 := by kernel_rfl
def a18_9 : List AO := [⟨(some 8), none, .mv (.v (.int .i64 10))⟩]
theorem tr18_9 : (ro Tryd.f18 9).toList.mapM (trO Tryd.prog 84 (ro Tryd.f18 9)) = some a18_9 := by kernel_rfl
def a18_10 : List AO := [⟨(some 75), none, .fld 4 (.t 5)⟩,
  ⟨(some 76), none, .load none (.t 75)⟩,
  ⟨(some 77), none, .load (some 3) (.t 6)⟩,
  ⟨(some 78), none, .call 34 [(.t 76), (.t 77)]⟩,
  ⟨(some 74), none, .mv (.t 78)⟩]
theorem tr18_10 : (ro Tryd.f18 10).toList.mapM (trO Tryd.prog 84 (ro Tryd.f18 10)) = some a18_10 := by kernel_rfl
def a18_11 : List AO := [⟨(some 8), none, .mv (.v (.int .i64 6))⟩]
theorem tr18_11 : (ro Tryd.f18 11).toList.mapM (trO Tryd.prog 84 (ro Tryd.f18 11)) = some a18_11 := by kernel_rfl
def a18_12 : List AO := [⟨(some 80), none, .mv (.t 3)⟩,
  ⟨(some 81), none, .fld 1 (.t 9)⟩,
  ⟨(some 82), none, .load none (.t 81)⟩,
  ⟨(some 83), none, .bin .geq (.t 80) (.t 82)⟩,
  ⟨(some 79), none, .mv (.t 83)⟩]
theorem tr18_12 : (ro Tryd.f18 12).toList.mapM (trO Tryd.prog 84 (ro Tryd.f18 12)) = some a18_12 := by kernel_rfl
def a18_13 : List AO := [⟨(some 8), none, .mv (.v (.int .i64 9))⟩]
theorem tr18_13 : (ro Tryd.f18 13).toList.mapM (trO Tryd.prog 84 (ro Tryd.f18 13)) = some a18_13 := by kernel_rfl
def a18_14 : List AO := [⟨(some 8), none, .mv (.v (.int .i64 0))⟩]
theorem tr18_14 : (ro Tryd.f18 14).toList.mapM (trO Tryd.prog 84 (ro Tryd.f18 14)) = some a18_14 := by kernel_rfl
/-- airline/airlineref33.Allowed -/
noncomputable def c19 : Code := .seq (.region 0 (ro Tryd.f19 0) false) (.seq (.region 1 (ro Tryd.f19 1) false) (.seq (.seq (.region 2 (ro Tryd.f19 2) false) (.cond (.tmp 16) (.seq (.region 3 (ro Tryd.f19 3) false) (.ret)) (.skip))) (.seq (.seq (.region 4 (ro Tryd.f19 4) false) (.cond (.tmp 40) (.seq (.region 5 (ro Tryd.f19 5) false) (.ret)) (.skip))) (.seq (.seq (.region 6 (ro Tryd.f19 6) true) (.cond (.tmp 63) (.seq (.region 7 (ro Tryd.f19 7) false) (.ret)) (.skip))) (.seq (.seq (.region 8 (ro Tryd.f19 8) false) (.cond (.tmp 72) (.seq (.region 9 (ro Tryd.f19 9) false) (.ret)) (.skip))) (.seq (.seq (.region 10 (ro Tryd.f19 10) false) (.block 0 (.loop (.seq (.seq (.region 11 (ro Tryd.f19 11) false) (.cond (.tmp 77) (.skip) (.exit 0))) (.seq (.block 1 (.seq (.region 13 (ro Tryd.f19 13) true) (.cond (.tmp 86) (.seq (.region 14 (ro Tryd.f19 14) false) (.ret)) (.skip)))) (.region 12 (ro Tryd.f19 12) false)))))) (.seq (.seq (.region 15 (ro Tryd.f19 15) false) (.cond (.tmp 93) (.seq (.region 16 (ro Tryd.f19 16) false) (.ret)) (.skip))) (.seq (.region 17 (ro Tryd.f19 17) false) (.ret)))))))))
theorem body19 : Tryd.f19.body = some c19 := by kernel_rfl
theorem res19 : Tryd.f19.results.toList.mapM (trR Tryd.prog) = some [.t 8] := by kernel_rfl
theorem nt19 : Tryd.f19.ntmps = 94 := by kernel_rfl
theorem nm19 : (Tryd.f19.name == "runtime.NumGoroutine") = false := by kernel_rfl
def a19_0 : List AO := [⟨(some 5), none, .box 35 (.t 1)⟩,
  ⟨(some 6), none, .box 37 (.t 2)⟩,
  ⟨(some 8), none, .mv (.v (.int .i64 0))⟩]
theorem tr19_0 : (ro Tryd.f19 0).toList.mapM (trO Tryd.prog 94 (ro Tryd.f19 0)) = some a19_0 := by kernel_rfl
def a19_1 : List AO := [⟨(some 11), none, .mv (.t 0)⟩,
  ⟨(some 12), none, .fld 0 (.t 6)⟩,
  ⟨(some 13), none, .load none (.t 12)⟩,
  ⟨(some 14), none, .call 30 [(.t 11), (.t 13)]⟩,
  ⟨(some 9), none, .mv (.t 14)⟩]
theorem tr19_1 : (ro Tryd.f19 1).toList.mapM (trO Tryd.prog 94 (ro Tryd.f19 1)) = some a19_1 := by kernel_rfl
def a19_2 : List AO := [⟨(some 15), none, .mv (.t 9)⟩,
  ⟨(some 16), none, .bin .lss (.t 15) (.v (.int .i64 0))⟩]
theorem tr19_2 : (ro Tryd.f19 2).toList.mapM (trO Tryd.prog 94 (ro Tryd.f19 2)) = some a19_2 := by kernel_rfl
def a19_3 : List AO := [⟨(some 8), none, .mv (.v (.int .i64 7))⟩]
theorem tr19_3 : (ro Tryd.f19 3).toList.mapM (trO Tryd.prog 94 (ro Tryd.f19 3)) = some a19_3 := by kernel_rfl
def a19_4 : List AO := [⟨(some 17), none, .fld 1 (.t 6)⟩,
  ⟨(some 18), none, .load none (.t 17)⟩,
  ⟨(some 19), none, .bin .lss (.t 18) (.v (.int .i64 0))⟩,
  ⟨(some 20), none, .mv (.t 19)⟩,
  ⟨(some 21), some (20, false), .fld 1 (.t 6)⟩,
  ⟨(some 22), some (20, false), .load none (.t 21)⟩,
  ⟨(some 23), some (20, false), .fld 1 (.t 5)⟩,
  ⟨(some 24), some (20, false), .load none (.t 23)⟩,
  ⟨(some 25), some (20, false), .len (.t 24)⟩,
  ⟨(some 26), some (20, false), .bin .geq (.t 22) (.t 25)⟩,
  ⟨(some 27), none, .pick (.t 20) (.v (.bool true)) (.t 26)⟩,
  ⟨(some 28), none, .mv (.t 27)⟩,
  ⟨(some 29), some (28, false), .fld 2 (.t 6)⟩,
  ⟨(some 30), some (28, false), .load none (.t 29)⟩,
  ⟨(some 31), some (28, false), .bin .lss (.t 30) (.v (.int .i64 0))⟩,
  ⟨(some 32), none, .pick (.t 28) (.v (.bool true)) (.t 31)⟩,
  ⟨(some 33), none, .mv (.t 32)⟩,
  ⟨(some 34), some (33, false), .fld 2 (.t 6)⟩,
  ⟨(some 35), some (33, false), .load none (.t 34)⟩,
  ⟨(some 36), some (33, false), .fld 3 (.t 5)⟩,
  ⟨(some 37), some (33, false), .load none (.t 36)⟩,
  ⟨(some 38), some (33, false), .len (.t 37)⟩,
  ⟨(some 39), some (33, false), .bin .geq (.t 35) (.t 38)⟩,
  ⟨(some 40), none, .pick (.t 33) (.v (.bool true)) (.t 39)⟩]
theorem tr19_4 : (ro Tryd.f19 4).toList.mapM (trO Tryd.prog 94 (ro Tryd.f19 4)) = some a19_4 := by kernel_rfl
def a19_5 : List AO := [⟨(some 8), none, .mv (.v (.int .i64 2))⟩]
theorem tr19_5 : (ro Tryd.f19 5).toList.mapM (trO Tryd.prog 94 (ro Tryd.f19 5)) = some a19_5 := by kernel_rfl
def a19_6 : List AO := [⟨(some 41), none, .mv (.t 0)⟩,
  ⟨(some 42), none, .mv (.t 9)⟩,
  ⟨(some 43), none, .idx 3 (.t 41) (.t 42)⟩,
  ⟨(some 44), none, .fld 2 (.t 43)⟩,
  ⟨(some 45), none, .load none (.t 44)⟩,
  ⟨(some 46), none, .len (.t 45)⟩,
  ⟨(some 47), none, .bin .gtr (.t 46) (.v (.int .i64 0))⟩,
  ⟨(some 48), none, .mv (.t 47)⟩,
  ⟨(some 49), some (48, true), .mv (.t 0)⟩,
  ⟨(some 50), some (48, true), .mv (.t 9)⟩,
  ⟨(some 51), some (48, true), .idx 3 (.t 49) (.t 50)⟩,
  ⟨(some 52), some (48, true), .fld 2 (.t 51)⟩,
  ⟨(some 53), some (48, true), .load none (.t 52)⟩,
  ⟨(some 54), some (48, true), .fld 1 (.t 5)⟩,
  ⟨(some 55), some (48, true), .load none (.t 54)⟩,
  ⟨(some 56), some (48, true), .fld 1 (.t 6)⟩,
  ⟨(some 57), some (48, true), .load none (.t 56)⟩,
  ⟨(some 58), some (48, true), .idx 3 (.t 55) (.t 57)⟩,
  ⟨(some 59), some (48, true), .fld 2 (.t 58)⟩,
  ⟨(some 60), some (48, true), .load none (.t 59)⟩,
  ⟨(some 61), some (48, true), .call 31 [(.t 53), (.t 60)]⟩,
  ⟨(some 62), some (48, true), .un .not (.t 61)⟩,
  ⟨(some 63), none, .pick (.t 48) (.t 62) (.v (.bool false))⟩]
theorem tr19_6 : (ro Tryd.f19 6).toList.mapM (trO Tryd.prog 94 (ro Tryd.f19 6)) = some a19_6 := by kernel_rfl
def d19_6 : List (List Nat) := [[], [], [0, 1], [0, 1, 2], [0, 1, 2, 3], [0, 1, 2, 3, 4], [0, 1, 2, 3, 4, 5], [0, 1, 2, 3, 4, 5, 6], [0, 1, 2, 3, 4, 5, 6, 7], [0, 1, 2, 3, 4, 5, 6, 7], [0, 1, 2, 3, 4, 5, 6, 7, 8, 9], [0, 1, 2, 3, 4, 5, 6, 7, 8, 9, 10], [0, 1, 2, 3, 4, 5, 6, 7, 8, 9, 10, 11], [0, 1, 2, 3, 4, 5, 6, 7], [0, 1, 2, 3, 4, 5, 6, 7, 13], [0, 1, 2, 3, 4, 5, 6, 7], [0, 1, 2, 3, 4, 5, 6, 7, 15], [0, 1, 2, 3, 4, 5, 6, 7, 13, 14, 15, 16], [0, 1, 2, 3, 4, 5, 6, 7, 13, 14, 15, 16, 17], [0, 1, 2, 3, 4, 5, 6, 7, 13, 14, 15, 16, 17, 18], [0, 1, 2, 3, 4, 5, 6, 7, 8, 9, 10, 11, 12, 13, 14, 15, 16, 17, 18, 19], [0, 1, 2, 3, 4, 5, 6, 7, 8, 9, 10, 11, 12, 13, 14, 15, 16, 17, 18, 19, 20], [0, 1, 2, 3, 4, 5, 6, 7, 8, 9, 10, 11, 12, 13, 14, 15, 16, 17, 18, 19, 20, 21]]
theorem ok19_6 : okReg (ro Tryd.f19 6) a19_6 d19_6 = true := by kernel_rfl
def a19_7 : List AO := [⟨(some 8), none, .mv (.v (.int .i64 25))⟩]
theorem tr19_7 : (ro Tryd.f19 7).toList.mapM (trO Tryd.prog 94 (ro Tryd.f19 7)) = some a19_7 := by kernel_rfl
def a19_8 : List AO := [⟨(some 64), none, .fld 3 (.t 5)⟩,
  ⟨(some 65), none, .load none (.t 64)⟩,
  ⟨(some 66), none, .fld 2 (.t 6)⟩,
  ⟨(some 67), none, .load none (.t 66)⟩,
  ⟨(some 68), none, .idx 10 (.t 65) (.t 67)⟩,
  ⟨(some 69), none, .fld 8 (.t 68)⟩,
  ⟨(some 70), none, .load none (.t 69)⟩,
  ⟨(some 71), none, .call 35 [(.t 70)]⟩,
  ⟨(some 72), none, .un .not (.t 71)⟩]
theorem tr19_8 : (ro Tryd.f19 8).toList.mapM (trO Tryd.prog 94 (ro Tryd.f19 8)) = some a19_8 := by kernel_rfl
def a19_9 : List AO := [⟨(some 8), none, .mv (.v (.int .i64 10))⟩]
theorem tr19_9 : (ro Tryd.f19 9).toList.mapM (trO Tryd.prog 94 (ro Tryd.f19 9)) = some a19_9 := by kernel_rfl
def a19_10 : List AO := [⟨(some 10), none, .mv (.v (.int .i64 0))⟩]
theorem tr19_10 : (ro Tryd.f19 10).toList.mapM (trO Tryd.prog 94 (ro Tryd.f19 10)) = some a19_10 := by kernel_rfl
def a19_11 : List AO := [⟨(some 73), none, .mv (.t 10)⟩,
  ⟨(some 74), none, .fld 4 (.t 5)⟩,
  ⟨(some 75), none, .load none (.t 74)⟩,
  ⟨(some 76), none, .len (.t 75)⟩,
  ⟨(some 77), none, .bin .lss (.t 73) (.t 76)⟩]
theorem tr19_11 : (ro Tryd.f19 11).toList.mapM (trO Tryd.prog 94 (ro Tryd.f19 11)) = some a19_11 := by kernel_rfl
def a19_13 : List AO := [⟨(some 80), none, .fld 4 (.t 5)⟩,
  ⟨(some 81), none, .load none (.t 80)⟩,
  ⟨(some 82), none, .mv (.t 10)⟩,
  ⟨(some 83), none, .idx 3 (.t 81) (.t 82)⟩,
  ⟨(some 84), none, .load (some 3) (.t 83)⟩,
  ⟨(some 85), none, .load (some 3) (.t 6)⟩,
  ⟨(some 86), none, .bina [.s, .i .i64, .i .i64] .eql (.t 84) (.t 85)⟩]
theorem tr19_13 : (ro Tryd.f19 13).toList.mapM (trO Tryd.prog 94 (ro Tryd.f19 13)) = some a19_13 := by kernel_rfl
def d19_13 : List (List Nat) := [[], [0], [], [0, 1, 2], [0, 1, 2, 3], [], [0, 1, 2, 3, 4, 5]]
theorem ok19_13 : okReg (ro Tryd.f19 13) a19_13 d19_13 = true := by kernel_rfl
def a19_14 : List AO := [⟨(some 8), none, .mv (.v (.int .i64 6))⟩]
theorem tr19_14 : (ro Tryd.f19 14).toList.mapM (trO Tryd.prog 94 (ro Tryd.f19 14)) = some a19_14 := by kernel_rfl
def a19_12 : List AO := [⟨(some 78), none, .mv (.t 10)⟩,
  ⟨(some 79), none, .bin .add (.t 78) (.v (.int .i64 1))⟩,
  ⟨(some 10), none, .mv (.t 79)⟩]
theorem tr19_12 : (ro Tryd.f19 12).toList.mapM (trO Tryd.prog 94 (ro Tryd.f19 12)) = some a19_12 := by kernel_rfl
def a19_15 : List AO := [⟨(some 87), none, .mv (.t 3)⟩,
  ⟨(some 88), none, .mv (.t 0)⟩,
  ⟨(some 89), none, .mv (.t 9)⟩,
  ⟨(some 90), none, .idx 3 (.t 88) (.t 89)⟩,
  ⟨(some 91), none, .fld 1 (.t 90)⟩,
  ⟨(some 92), none, .load none (.t 91)⟩,
  ⟨(some 93), none, .bin .geq (.t 87) (.t 92)⟩]
theorem tr19_15 : (ro Tryd.f19 15).toList.mapM (trO Tryd.prog 94 (ro Tryd.f19 15)) = some a19_15 := by kernel_rfl
def a19_16 : List AO := [⟨(some 8), none, .mv (.v (.int .i64 9))⟩]
theorem tr19_16 : (ro Tryd.f19 16).toList.mapM (trO Tryd.prog 94 (ro Tryd.f19 16)) = some a19_16 := by kernel_rfl
def a19_17 : List AO := [⟨(some 8), none, .mv (.v (.int .i64 0))⟩]
theorem tr19_17 : (ro Tryd.f19 17).toList.mapM (trO Tryd.prog 94 (ro Tryd.f19 17)) = some a19_17 := by kernel_rfl
/-- airline/service.Used -/
noncomputable def c20 : Code := .seq (.region 0 (ro Tryd.f20 0) false) (.seq (.region 1 (ro Tryd.f20 1) false) (.seq (.seq (.region 2 (ro Tryd.f20 2) false) (.block 0 (.loop (.seq (.region 3 (ro Tryd.f20 3) false) (.seq (.cond (.tmp 15) (.skip) (.exit 0)) (.seq (.block 1 (.seq (.region 4 (ro Tryd.f20 4) false) (.seq (.region 5 (ro Tryd.f20 5) false) (.block 2 (.loop (.seq (.region 6 (ro Tryd.f20 6) false) (.seq (.cond (.tmp 22) (.skip) (.exit 2)) (.seq (.block 3 (.seq (.region 7 (ro Tryd.f20 7) false) (.seq (.region 8 (ro Tryd.f20 8) true) (.cond (.tmp 63) (.region 9 (ro Tryd.f20 9) false) (.skip))))) (.region 10 (ro Tryd.f20 10) false))))))))) (.region 11 (ro Tryd.f20 11) false))))))) (.seq (.region 12 (ro Tryd.f20 12) false) (.ret))))
theorem body20 : Tryd.f20.body = some c20 := by kernel_rfl
theorem res20 : Tryd.f20.results.toList.mapM (trR Tryd.prog) = some [.t 6] := by kernel_rfl
theorem nt20 : Tryd.f20.ntmps = 69 := by kernel_rfl
theorem nm20 : (Tryd.f20.name == "runtime.NumGoroutine") = false := by kernel_rfl
def a20_0 : List AO := [⟨(some 4), none, .box 49 (.t 1)⟩,
  ⟨(some 6), none, .mv (.v (.int .i64 0))⟩]
theorem tr20_0 : (ro Tryd.f20 0).toList.mapM (trO Tryd.prog 69 (ro Tryd.f20 0)) = some a20_0 := by kernel_rfl
def a20_1 : List AO := [⟨(some 7), none, .mv (.v (.int .i64 0))⟩]
theorem tr20_1 : (ro Tryd.f20 1).toList.mapM (trO Tryd.prog 69 (ro Tryd.f20 1)) = some a20_1 := by kernel_rfl
def a20_2 : List AO := [⟨(some 12), none, .mv (.t 0)⟩,
  ⟨(some 13), none, .len (.t 12)⟩,
  ⟨(some 14), none, .mv (.v (.int .i64 0))⟩]
theorem tr20_2 : (ro Tryd.f20 2).toList.mapM (trO Tryd.prog 69 (ro Tryd.f20 2)) = some a20_2 := by kernel_rfl
def a20_3 : List AO := [⟨(some 15), none, .bin .lss (.t 14) (.t 13)⟩]
theorem tr20_3 : (ro Tryd.f20 3).toList.mapM (trO Tryd.prog 69 (ro Tryd.f20 3)) = some a20_3 := by kernel_rfl
def a20_4 : List AO := [⟨(some 16), none, .idx 6 (.t 12) (.t 14)⟩,
  ⟨(some 17), none, .load (some 6) (.t 16)⟩,
  ⟨(some 9), none, .alloc 35 [(.str []), .nils, (.int .i64 0), .nils, .nils, (.int .i64 0)]⟩,
  ⟨none, none, .store 6 (.t 9) (.t 17)⟩]
theorem tr20_4 : (ro Tryd.f20 4).toList.mapM (trO Tryd.prog 69 (ro Tryd.f20 4)) = some a20_4 := by kernel_rfl
def a20_5 : List AO := [⟨(some 18), none, .fld 4 (.t 9)⟩,
  ⟨(some 19), none, .load none (.t 18)⟩,
  ⟨(some 20), none, .len (.t 19)⟩,
  ⟨(some 21), none, .mv (.v (.int .i64 0))⟩]
theorem tr20_5 : (ro Tryd.f20 5).toList.mapM (trO Tryd.prog 69 (ro Tryd.f20 5)) = some a20_5 := by kernel_rfl
def a20_6 : List AO := [⟨(some 22), none, .bin .lss (.t 21) (.t 20)⟩]
theorem tr20_6 : (ro Tryd.f20 6).toList.mapM (trO Tryd.prog 69 (ro Tryd.f20 6)) = some a20_6 := by kernel_rfl
def a20_7 : List AO := [⟨(some 23), none, .idx 3 (.t 19) (.t 21)⟩,
  ⟨(some 24), none, .load (some 3) (.t 23)⟩,
  ⟨(some 11), none, .alloc 37 [(.str []), (.int .i64 0), (.int .i64 0)]⟩,
  ⟨none, none, .store 3 (.t 11) (.t 24)⟩]
theorem tr20_7 : (ro Tryd.f20 7).toList.mapM (trO Tryd.prog 69 (ro Tryd.f20 7)) = some a20_7 := by kernel_rfl
def a20_8 : List AO := [⟨(some 25), none, .fld 0 (.t 11)⟩,
  ⟨(some 26), none, .load none (.t 25)⟩,
  ⟨(some 27), none, .mv (.t 2)⟩,
  ⟨(some 28), none, .bin .eql (.t 26) (.t 27)⟩,
  ⟨(some 29), none, .mv (.t 28)⟩,
  ⟨(some 30), some (29, true), .fld 2 (.t 11)⟩,
  ⟨(some 31), some (29, true), .load none (.t 30)⟩,
  ⟨(some 32), some (29, true), .bin .geq (.t 31) (.v (.int .i64 0))⟩,
  ⟨(some 33), none, .pick (.t 29) (.t 32) (.v (.bool false))⟩,
  ⟨(some 34), none, .mv (.t 33)⟩,
  ⟨(some 35), some (34, true), .fld 2 (.t 11)⟩,
  ⟨(some 36), some (34, true), .load none (.t 35)⟩,
  ⟨(some 37), some (34, true), .fld 3 (.t 9)⟩,
  ⟨(some 38), some (34, true), .load none (.t 37)⟩,
  ⟨(some 39), some (34, true), .len (.t 38)⟩,
  ⟨(some 40), some (34, true), .bin .lss (.t 36) (.t 39)⟩,
  ⟨(some 41), none, .pick (.t 34) (.t 40) (.v (.bool false))⟩,
  ⟨(some 42), none, .mv (.t 41)⟩,
  ⟨(some 43), some (42, true), .fld 3 (.t 9)⟩,
  ⟨(some 44), some (42, true), .load none (.t 43)⟩,
  ⟨(some 45), some (42, true), .fld 2 (.t 11)⟩,
  ⟨(some 46), some (42, true), .load none (.t 45)⟩,
  ⟨(some 47), some (42, true), .idx 10 (.t 44) (.t 46)⟩,
  ⟨(some 48), some (42, true), .fld 0 (.t 47)⟩,
  ⟨(some 49), some (42, true), .fld 0 (.t 48)⟩,
  ⟨(some 50), some (42, true), .load (some 7) (.t 49)⟩,
  ⟨(some 51), some (42, true), .load (some 7) (.t 4)⟩,
  ⟨(some 52), some (42, true), .bina [.s, .i .i64, .i .i64, .s, .s, .i .i64, .i .i64] .eql (.t 50) (.t 51)⟩,
  ⟨(some 53), none, .pick (.t 42) (.t 52) (.v (.bool false))⟩,
  ⟨(some 54), none, .mv (.t 53)⟩,
  ⟨(some 55), some (54, true), .fld 3 (.t 9)⟩,
  ⟨(some 56), some (54, true), .load none (.t 55)⟩,
  ⟨(some 57), some (54, true), .fld 2 (.t 11)⟩,
  ⟨(some 58), some (54, true), .load none (.t 57)⟩,
  ⟨(some 59), some (54, true), .idx 10 (.t 56) (.t 58)⟩,
  ⟨(some 60), some (54, true), .fld 8 (.t 59)⟩,
  ⟨(some 61), some (54, true), .load none (.t 60)⟩,
  ⟨(some 62), some (54, true), .call 33 [(.t 61)]⟩,
  ⟨(some 63), none, .pick (.t 54) (.t 62) (.v (.bool false))⟩]
theorem tr20_8 : (ro Tryd.f20 8).toList.mapM (trO Tryd.prog 69 (ro Tryd.f20 8)) = some a20_8 := by kernel_rfl
def d20_8 : List (List Nat) := [[], [0], [], [0, 1, 2], [0, 1, 2, 3], [0, 1, 2, 3, 4], [0, 1, 2, 3, 4, 5], [0, 1, 2, 3, 4, 5, 6], [0, 1, 2, 3, 4, 5, 6, 7], [0, 1, 2, 3, 4, 5, 6, 7, 8], [0, 1, 2, 3, 4, 5, 6, 7, 8, 9], [0, 1, 2, 3, 4, 5, 6, 7, 8, 9, 10], [0, 1, 2, 3, 4, 5, 6, 7, 8, 9], [0, 1, 2, 3, 4, 5, 6, 7, 8, 9, 12], [0, 1, 2, 3, 4, 5, 6, 7, 8, 9, 12, 13], [0, 1, 2, 3, 4, 5, 6, 7, 8, 9, 10, 11, 12, 13, 14], [0, 1, 2, 3, 4, 5, 6, 7, 8, 9, 10, 11, 12, 13, 14, 15], [0, 1, 2, 3, 4, 5, 6, 7, 8, 9, 10, 11, 12, 13, 14, 15, 16], [0, 1, 2, 3, 4, 5, 6, 7, 8, 9, 10, 11, 12, 13, 14, 15, 16, 17], [0, 1, 2, 3, 4, 5, 6, 7, 8, 9, 10, 11, 12, 13, 14, 15, 16, 17, 18], [0, 1, 2, 3, 4, 5, 6, 7, 8, 9, 10, 11, 12, 13, 14, 15, 16, 17], [0, 1, 2, 3, 4, 5, 6, 7, 8, 9, 10, 11, 12, 13, 14, 15, 16, 17, 20], [0, 1, 2, 3, 4, 5, 6, 7, 8, 9, 10, 11, 12, 13, 14, 15, 16, 17, 18, 19, 20, 21], [0, 1, 2, 3, 4, 5, 6, 7, 8, 9, 10, 11, 12, 13, 14, 15, 16, 17, 18, 19, 20, 21, 22], [0, 1, 2, 3, 4, 5, 6, 7, 8, 9, 10, 11, 12, 13, 14, 15, 16, 17, 18, 19, 20, 21, 22, 23], [0, 1, 2, 3, 4, 5, 6, 7, 8, 9, 10, 11, 12, 13, 14, 15, 16, 17, 18, 19, 20, 21, 22, 23, 24], [0, 1, 2, 3, 4, 5, 6, 7, 8, 9, 10, 11, 12, 13, 14, 15, 16, 17], [0, 1, 2, 3, 4, 5, 6, 7, 8, 9, 10, 11, 12, 13, 14, 15, 16, 17, 18, 19, 20, 21, 22, 23, 24, 25, 26], [0, 1, 2, 3, 4, 5, 6, 7, 8, 9, 10, 11, 12, 13, 14, 15, 16, 17, 18, 19, 20, 21, 22, 23, 24, 25, 26, 27], [0, 1, 2, 3, 4, 5, 6, 7, 8, 9, 10, 11, 12, 13, 14, 15, 16, 17, 18, 19, 20, 21, 22, 23, 24, 25, 26, 27, 28], [0, 1, 2, 3, 4, 5, 6, 7, 8, 9, 10, 11, 12, 13, 14, 15, 16, 17, 18, 19, 20, 21, 22, 23, 24, 25, 26, 27, 28, 29], [0, 1, 2, 3, 4, 5, 6, 7, 8, 9, 10, 11, 12, 13, 14, 15, 16, 17, 18, 19, 20, 21, 22, 23, 24, 25, 26, 27, 28, 29, 30], [0, 1, 2, 3, 4, 5, 6, 7, 8, 9, 10, 11, 12, 13, 14, 15, 16, 17, 18, 19, 20, 21, 22, 23, 24, 25, 26, 27, 28, 29], [0, 1, 2, 3, 4, 5, 6, 7, 8, 9, 10, 11, 12, 13, 14, 15, 16, 17, 18, 19, 20, 21, 22, 23, 24, 25, 26, 27, 28, 29, 32], [0, 1, 2, 3, 4, 5, 6, 7, 8, 9, 10, 11, 12, 13, 14, 15, 16, 17, 18, 19, 20, 21, 22, 23, 24, 25, 26, 27, 28, 29, 30, 31, 32, 33], [0, 1, 2, 3, 4, 5, 6, 7, 8, 9, 10, 11, 12, 13, 14, 15, 16, 17, 18, 19, 20, 21, 22, 23, 24, 25, 26, 27, 28, 29, 30, 31, 32, 33, 34], [0, 1, 2, 3, 4, 5, 6, 7, 8, 9, 10, 11, 12, 13, 14, 15, 16, 17, 18, 19, 20, 21, 22, 23, 24, 25, 26, 27, 28, 29, 30, 31, 32, 33, 34, 35], [0, 1, 2, 3, 4, 5, 6, 7, 8, 9, 10, 11, 12, 13, 14, 15, 16, 17, 18, 19, 20, 21, 22, 23, 24, 25, 26, 27, 28, 29, 30, 31, 32, 33, 34, 35, 36], [0, 1, 2, 3, 4, 5, 6, 7, 8, 9, 10, 11, 12, 13, 14, 15, 16, 17, 18, 19, 20, 21, 22, 23, 24, 25, 26, 27, 28, 29, 30, 31, 32, 33, 34, 35, 36, 37]]
theorem ok20_8 : okReg (ro Tryd.f20 8) a20_8 d20_8 = true := by kernel_rfl
def a20_9 : List AO := [⟨(some 64), none, .mv (.t 7)⟩,
  ⟨(some 65), none, .bin .add (.t 64) (.v (.int .i64 1))⟩,
  ⟨(some 7), none, .mv (.t 65)⟩]
theorem tr20_9 : (ro Tryd.f20 9).toList.mapM (trO Tryd.prog 69 (ro Tryd.f20 9)) = some a20_9 := by kernel_rfl
def a20_10 : List AO := [⟨(some 66), none, .bin .add (.t 21) (.v (.int .i64 1))⟩,
  ⟨(some 21), none, .mv (.t 66)⟩]
theorem tr20_10 : (ro Tryd.f20 10).toList.mapM (trO Tryd.prog 69 (ro Tryd.f20 10)) = some a20_10 := by kernel_rfl
def a20_11 : List AO := [⟨(some 67), none, .bin .add (.t 14) (.v (.int .i64 1))⟩,
  ⟨(some 14), none, .mv (.t 67)⟩]
theorem tr20_11 : (ro Tryd.f20 11).toList.mapM (trO Tryd.prog 69 (ro Tryd.f20 11)) = some a20_11 := by kernel_rfl
def a20_12 : List AO := [⟨(some 68), none, .mv (.t 7)⟩,
  ⟨(some 6), none, .mv (.t 68)⟩]
theorem tr20_12 : (ro Tryd.f20 12).toList.mapM (trO Tryd.prog 69 (ro Tryd.f20 12)) = some a20_12 := by kernel_rfl
/-- airline/airlineref33.Used -/
noncomputable def c21 : Code := .seq (.region 0 (ro Tryd.f21 0) false) (.seq (.region 1 (ro Tryd.f21 1) false) (.seq (.seq (.region 2 (ro Tryd.f21 2) false) (.block 0 (.loop (.seq (.seq (.region 3 (ro Tryd.f21 3) false) (.cond (.tmp 14) (.skip) (.exit 0))) (.seq (.block 1 (.seq (.region 5 (ro Tryd.f21 5) false) (.block 2 (.loop (.seq (.seq (.region 6 (ro Tryd.f21 6) false) (.cond (.tmp 24) (.skip) (.exit 2))) (.seq (.block 3 (.seq (.region 8 (ro Tryd.f21 8) false) (.seq (.region 9 (ro Tryd.f21 9) true) (.cond (.tmp 82) (.region 10 (ro Tryd.f21 10) false) (.skip))))) (.region 7 (ro Tryd.f21 7) false))))))) (.region 4 (ro Tryd.f21 4) false)))))) (.seq (.region 11 (ro Tryd.f21 11) false) (.ret))))
theorem body21 : Tryd.f21.body = some c21 := by kernel_rfl
theorem res21 : Tryd.f21.results.toList.mapM (trR Tryd.prog) = some [.t 6] := by kernel_rfl
theorem nt21 : Tryd.f21.ntmps = 86 := by kernel_rfl
theorem nm21 : (Tryd.f21.name == "runtime.NumGoroutine") = false := by kernel_rfl
def a21_0 : List AO := [⟨(some 4), none, .box 49 (.t 1)⟩,
  ⟨(some 6), none, .mv (.v (.int .i64 0))⟩]
theorem tr21_0 : (ro Tryd.f21 0).toList.mapM (trO Tryd.prog 86 (ro Tryd.f21 0)) = some a21_0 := by kernel_rfl
def a21_1 : List AO := [⟨(some 7), none, .mv (.v (.int .i64 0))⟩]
theorem tr21_1 : (ro Tryd.f21 1).toList.mapM (trO Tryd.prog 86 (ro Tryd.f21 1)) = some a21_1 := by kernel_rfl
def a21_2 : List AO := [⟨(some 8), none, .mv (.v (.int .i64 0))⟩]
theorem tr21_2 : (ro Tryd.f21 2).toList.mapM (trO Tryd.prog 86 (ro Tryd.f21 2)) = some a21_2 := by kernel_rfl
def a21_3 : List AO := [⟨(some 11), none, .mv (.t 8)⟩,
  ⟨(some 12), none, .mv (.t 0)⟩,
  ⟨(some 13), none, .len (.t 12)⟩,
  ⟨(some 14), none, .bin .lss (.t 11) (.t 13)⟩]
theorem tr21_3 : (ro Tryd.f21 3).toList.mapM (trO Tryd.prog 86 (ro Tryd.f21 3)) = some a21_3 := by kernel_rfl
def a21_5 : List AO := [⟨(some 9), none, .mv (.v (.int .i64 0))⟩]
theorem tr21_5 : (ro Tryd.f21 5).toList.mapM (trO Tryd.prog 86 (ro Tryd.f21 5)) = some a21_5 := by kernel_rfl
def a21_6 : List AO := [⟨(some 17), none, .mv (.t 9)⟩,
  ⟨(some 18), none, .mv (.t 0)⟩,
  ⟨(some 19), none, .mv (.t 8)⟩,
  ⟨(some 20), none, .idx 6 (.t 18) (.t 19)⟩,
  ⟨(some 21), none, .fld 4 (.t 20)⟩,
  ⟨(some 22), none, .load none (.t 21)⟩,
  ⟨(some 23), none, .len (.t 22)⟩,
  ⟨(some 24), none, .bin .lss (.t 17) (.t 23)⟩]
theorem tr21_6 : (ro Tryd.f21 6).toList.mapM (trO Tryd.prog 86 (ro Tryd.f21 6)) = some a21_6 := by kernel_rfl
def a21_8 : List AO := [⟨(some 27), none, .mv (.t 0)⟩,
  ⟨(some 28), none, .mv (.t 8)⟩,
  ⟨(some 29), none, .idx 6 (.t 27) (.t 28)⟩,
  ⟨(some 30), none, .fld 4 (.t 29)⟩,
  ⟨(some 31), none, .load none (.t 30)⟩,
  ⟨(some 32), none, .mv (.t 9)⟩,
  ⟨(some 33), none, .idx 3 (.t 31) (.t 32)⟩,
  ⟨(some 34), none, .load (some 3) (.t 33)⟩,
  ⟨(some 10), none, .alloc 37 [(.str []), (.int .i64 0), (.int .i64 0)]⟩,
  ⟨none, none, .store 3 (.t 10) (.t 34)⟩]
theorem tr21_8 : (ro Tryd.f21 8).toList.mapM (trO Tryd.prog 86 (ro Tryd.f21 8)) = some a21_8 := by kernel_rfl
def a21_9 : List AO := [⟨(some 35), none, .fld 0 (.t 10)⟩,
  ⟨(some 36), none, .load none (.t 35)⟩,
  ⟨(some 37), none, .mv (.t 2)⟩,
  ⟨(some 38), none, .bin .eql (.t 36) (.t 37)⟩,
  ⟨(some 39), none, .mv (.t 38)⟩,
  ⟨(some 40), some (39, true), .fld 2 (.t 10)⟩,
  ⟨(some 41), some (39, true), .load none (.t 40)⟩,
  ⟨(some 42), some (39, true), .bin .geq (.t 41) (.v (.int .i64 0))⟩,
  ⟨(some 43), none, .pick (.t 39) (.t 42) (.v (.bool false))⟩,
  ⟨(some 44), none, .mv (.t 43)⟩,
  ⟨(some 45), some (44, true), .fld 2 (.t 10)⟩,
  ⟨(some 46), some (44, true), .load none (.t 45)⟩,
  ⟨(some 47), some (44, true), .mv (.t 0)⟩,
  ⟨(some 48), some (44, true), .mv (.t 8)⟩,
  ⟨(some 49), some (44, true), .idx 6 (.t 47) (.t 48)⟩,
  ⟨(some 50), some (44, true), .fld 3 (.t 49)⟩,
  ⟨(some 51), some (44, true), .load none (.t 50)⟩,
  ⟨(some 52), some (44, true), .len (.t 51)⟩,
  ⟨(some 53), some (44, true), .bin .lss (.t 46) (.t 52)⟩,
  ⟨(some 54), none, .pick (.t 44) (.t 53) (.v (.bool false))⟩,
  ⟨(some 55), none, .mv (.t 54)⟩,
  ⟨(some 56), some (55, true), .mv (.t 0)⟩,
  ⟨(some 57), some (55, true), .mv (.t 8)⟩,
  ⟨(some 58), some (55, true), .idx 6 (.t 56) (.t 57)⟩,
  ⟨(some 59), some (55, true), .fld 3 (.t 58)⟩,
  ⟨(some 60), some (55, true), .load none (.t 59)⟩,
  ⟨(some 61), some (55, true), .fld 2 (.t 10)⟩,
  ⟨(some 62), some (55, true), .load none (.t 61)⟩,
  ⟨(some 63), some (55, true), .idx 10 (.t 60) (.t 62)⟩,
  ⟨(some 64), some (55, true), .fld 0 (.t 63)⟩,
  ⟨(some 65), some (55, true), .fld 0 (.t 64)⟩,
  ⟨(some 66), some (55, true), .load (some 7) (.t 65)⟩,
  ⟨(some 67), some (55, true), .load (some 7) (.t 4)⟩,
  ⟨(some 68), some (55, true), .bina [.s, .i .i64, .i .i64, .s, .s, .i .i64, .i .i64] .eql (.t 66) (.t 67)⟩,
  ⟨(some 69), none, .pick (.t 55) (.t 68) (.v (.bool false))⟩,
  ⟨(some 70), none, .mv (.t 69)⟩,
  ⟨(some 71), some (70, true), .mv (.t 0)⟩,
  ⟨(some 72), some (70, true), .mv (.t 8)⟩,
  ⟨(some 73), some (70, true), .idx 6 (.t 71) (.t 72)⟩,
  ⟨(some 74), some (70, true), .fld 3 (.t 73)⟩,
  ⟨(some 75), some (70, true), .load none (.t 74)⟩,
  ⟨(some 76), some (70, true), .fld 2 (.t 10)⟩,
  ⟨(some 77), some (70, true), .load none (.t 76)⟩,
  ⟨(some 78), some (70, true), .idx 10 (.t 75) (.t 77)⟩,
  ⟨(some 79), some (70, true), .fld 8 (.t 78)⟩,
  ⟨(some 80), some (70, true), .load none (.t 79)⟩,
  ⟨(some 81), some (70, true), .call 35 [(.t 80)]⟩,
  ⟨(some 82), none, .pick (.t 70) (.t 81) (.v (.bool false))⟩]
theorem tr21_9 : (ro Tryd.f21 9).toList.mapM (trO Tryd.prog 86 (ro Tryd.f21 9)) = some a21_9 := by kernel_rfl
def d21_9 : List (List Nat) := [[], [0], [], [0, 1, 2], [0, 1, 2, 3], [0, 1, 2, 3, 4], [0, 1, 2, 3, 4, 5], [0, 1, 2, 3, 4, 5, 6], [0, 1, 2, 3, 4, 5, 6, 7], [0, 1, 2, 3, 4, 5, 6, 7, 8], [0, 1, 2, 3, 4, 5, 6, 7, 8, 9], [0, 1, 2, 3, 4, 5, 6, 7, 8, 9, 10], [0, 1, 2, 3, 4, 5, 6, 7, 8, 9], [0, 1, 2, 3, 4, 5, 6, 7, 8, 9], [0, 1, 2, 3, 4, 5, 6, 7, 8, 9, 12, 13], [0, 1, 2, 3, 4, 5, 6, 7, 8, 9, 12, 13, 14], [0, 1, 2, 3, 4, 5, 6, 7, 8, 9, 12, 13, 14, 15], [0, 1, 2, 3, 4, 5, 6, 7, 8, 9, 12, 13, 14, 15, 16], [0, 1, 2, 3, 4, 5, 6, 7, 8, 9, 10, 11, 12, 13, 14, 15, 16, 17], [0, 1, 2, 3, 4, 5, 6, 7, 8, 9, 10, 11, 12, 13, 14, 15, 16, 17, 18], [0, 1, 2, 3, 4, 5, 6, 7, 8, 9, 10, 11, 12, 13, 14, 15, 16, 17, 18, 19], [0, 1, 2, 3, 4, 5, 6, 7, 8, 9, 10, 11, 12, 13, 14, 15, 16, 17, 18, 19, 20], [0, 1, 2, 3, 4, 5, 6, 7, 8, 9, 10, 11, 12, 13, 14, 15, 16, 17, 18, 19, 20], [0, 1, 2, 3, 4, 5, 6, 7, 8, 9, 10, 11, 12, 13, 14, 15, 16, 17, 18, 19, 20, 21, 22], [0, 1, 2, 3, 4, 5, 6, 7, 8, 9, 10, 11, 12, 13, 14, 15, 16, 17, 18, 19, 20, 21, 22, 23], [0, 1, 2, 3, 4, 5, 6, 7, 8, 9, 10, 11, 12, 13, 14, 15, 16, 17, 18, 19, 20, 21, 22, 23, 24], [0, 1, 2, 3, 4, 5, 6, 7, 8, 9, 10, 11, 12, 13, 14, 15, 16, 17, 18, 19, 20], [0, 1, 2, 3, 4, 5, 6, 7, 8, 9, 10, 11, 12, 13, 14, 15, 16, 17, 18, 19, 20, 26], [0, 1, 2, 3, 4, 5, 6, 7, 8, 9, 10, 11, 12, 13, 14, 15, 16, 17, 18, 19, 20, 21, 22, 23, 24, 25, 26, 27], [0, 1, 2, 3, 4, 5, 6, 7, 8, 9, 10, 11, 12, 13, 14, 15, 16, 17, 18, 19, 20, 21, 22, 23, 24, 25, 26, 27, 28], [0, 1, 2, 3, 4, 5, 6, 7, 8, 9, 10, 11, 12, 13, 14, 15, 16, 17, 18, 19, 20, 21, 22, 23, 24, 25, 26, 27, 28, 29], [0, 1, 2, 3, 4, 5, 6, 7, 8, 9, 10, 11, 12, 13, 14, 15, 16, 17, 18, 19, 20, 21, 22, 23, 24, 25, 26, 27, 28, 29, 30], [0, 1, 2, 3, 4, 5, 6, 7, 8, 9, 10, 11, 12, 13, 14, 15, 16, 17, 18, 19, 20], [0, 1, 2, 3, 4, 5, 6, 7, 8, 9, 10, 11, 12, 13, 14, 15, 16, 17, 18, 19, 20, 21, 22, 23, 24, 25, 26, 27, 28, 29, 30, 31, 32], [0, 1, 2, 3, 4, 5, 6, 7, 8, 9, 10, 11, 12, 13, 14, 15, 16, 17, 18, 19, 20, 21, 22, 23, 24, 25, 26, 27, 28, 29, 30, 31, 32, 33], [0, 1, 2, 3, 4, 5, 6, 7, 8, 9, 10, 11, 12, 13, 14, 15, 16, 17, 18, 19, 20, 21, 22, 23, 24, 25, 26, 27, 28, 29, 30, 31, 32, 33, 34], [0, 1, 2, 3, 4, 5, 6, 7, 8, 9, 10, 11, 12, 13, 14, 15, 16, 17, 18, 19, 20, 21, 22, 23, 24, 25, 26, 27, 28, 29, 30, 31, 32, 33, 34, 35], [0, 1, 2, 3, 4, 5, 6, 7, 8, 9, 10, 11, 12, 13, 14, 15, 16, 17, 18, 19, 20, 21, 22, 23, 24, 25, 26, 27, 28, 29, 30, 31, 32, 33, 34, 35], [0, 1, 2, 3, 4, 5, 6, 7, 8, 9, 10, 11, 12, 13, 14, 15, 16, 17, 18, 19, 20, 21, 22, 23, 24, 25, 26, 27, 28, 29, 30, 31, 32, 33, 34, 35, 36, 37], [0, 1, 2, 3, 4, 5, 6, 7, 8, 9, 10, 11, 12, 13, 14, 15, 16, 17, 18, 19, 20, 21, 22, 23, 24, 25, 26, 27, 28, 29, 30, 31, 32, 33, 34, 35, 36, 37, 38], [0, 1, 2, 3, 4, 5, 6, 7, 8, 9, 10, 11, 12, 13, 14, 15, 16, 17, 18, 19, 20, 21, 22, 23, 24, 25, 26, 27, 28, 29, 30, 31, 32, 33, 34, 35, 36, 37, 38, 39], [0, 1, 2, 3, 4, 5, 6, 7, 8, 9, 10, 11, 12, 13, 14, 15, 16, 17, 18, 19, 20, 21, 22, 23, 24, 25, 26, 27, 28, 29, 30, 31, 32, 33, 34, 35], [0, 1, 2, 3, 4, 5, 6, 7, 8, 9, 10, 11, 12, 13, 14, 15, 16, 17, 18, 19, 20, 21, 22, 23, 24, 25, 26, 27, 28, 29, 30, 31, 32, 33, 34, 35, 41], [0, 1, 2, 3, 4, 5, 6, 7, 8, 9, 10, 11, 12, 13, 14, 15, 16, 17, 18, 19, 20, 21, 22, 23, 24, 25, 26, 27, 28, 29, 30, 31, 32, 33, 34, 35, 36, 37, 38, 39, 40, 41, 42], [0, 1, 2, 3, 4, 5, 6, 7, 8, 9, 10, 11, 12, 13, 14, 15, 16, 17, 18, 19, 20, 21, 22, 23, 24, 25, 26, 27, 28, 29, 30, 31, 32, 33, 34, 35, 36, 37, 38, 39, 40, 41, 42, 43], [0, 1, 2, 3, 4, 5, 6, 7, 8, 9, 10, 11, 12, 13, 14, 15, 16, 17, 18, 19, 20, 21, 22, 23, 24, 25, 26, 27, 28, 29, 30, 31, 32, 33, 34, 35, 36, 37, 38, 39, 40, 41, 42, 43, 44], [0, 1, 2, 3, 4, 5, 6, 7, 8, 9, 10, 11, 12, 13, 14, 15, 16, 17, 18, 19, 20, 21, 22, 23, 24, 25, 26, 27, 28, 29, 30, 31, 32, 33, 34, 35, 36, 37, 38, 39, 40, 41, 42, 43, 44, 45], [0, 1, 2, 3, 4, 5, 6, 7, 8, 9, 10, 11, 12, 13, 14, 15, 16, 17, 18, 19, 20, 21, 22, 23, 24, 25, 26, 27, 28, 29, 30, 31, 32, 33, 34, 35, 36, 37, 38, 39, 40, 41, 42, 43, 44, 45, 46]]
theorem ok21_9 : okReg (ro Tryd.f21 9) a21_9 d21_9 = true := by kernel_rfl
def a21_10 : List AO := [⟨(some 83), none, .mv (.t 7)⟩,
  ⟨(some 84), none, .bin .add (.t 83) (.v (.int .i64 1))⟩,
  ⟨(some 7), none, .mv (.t 84)⟩]
theorem tr21_10 : (ro Tryd.f21 10).toList.mapM (trO Tryd.prog 86 (ro Tryd.f21 10)) = some a21_10 := by kernel_rfl
def a21_7 : List AO := [⟨(some 25), none, .mv (.t 9)⟩,
  ⟨(some 26), none, .bin .add (.t 25) (.v (.int .i64 1))⟩,
  ⟨(some 9), none, .mv (.t 26)⟩]
theorem tr21_7 : (ro Tryd.f21 7).toList.mapM (trO Tryd.prog 86 (ro Tryd.f21 7)) = some a21_7 := by kernel_rfl
def a21_4 : List AO := [⟨(some 15), none, .mv (.t 8)⟩,
  ⟨(some 16), none, .bin .add (.t 15) (.v (.int .i64 1))⟩,
  ⟨(some 8), none, .mv (.t 16)⟩]
theorem tr21_4 : (ro Tryd.f21 4).toList.mapM (trO Tryd.prog 86 (ro Tryd.f21 4)) = some a21_4 := by kernel_rfl
def a21_11 : List AO := [⟨(some 85), none, .mv (.t 7)⟩,
  ⟨(some 6), none, .mv (.t 85)⟩]
theorem tr21_11 : (ro Tryd.f21 11).toList.mapM (trO Tryd.prog 86 (ro Tryd.f21 11)) = some a21_11 := by kernel_rfl
/-- airline/service.Drop -/
noncomputable def c22 : Code := .seq (.region 0 (ro Tryd.f22 0) false) (.seq (.seq (.region 1 (ro Tryd.f22 1) false) (.cond (.tmp 14) (.seq (.region 2 (ro Tryd.f22 2) false) (.ret)) (.skip))) (.seq (.region 3 (ro Tryd.f22 3) false) (.seq (.region 4 (ro Tryd.f22 4) false) (.ret))))
theorem body22 : Tryd.f22.body = some c22 := by kernel_rfl
theorem res22 : Tryd.f22.results.toList.mapM (trR Tryd.prog) = some [.c (some 6) 4, .t 5] := by kernel_rfl
theorem nt22 : Tryd.f22.ntmps = 25 := by kernel_rfl
theorem nm22 : (Tryd.f22.name == "runtime.NumGoroutine") = false := by kernel_rfl
def a22_0 : List AO := [⟨(some 2), none, .box 35 (.t 0)⟩,
  ⟨(some 4), none, .alloc 35 [(.str []), .nils, (.int .i64 0), .nils, .nils, (.int .i64 0)]⟩,
  ⟨(some 5), none, .mv (.v (.int .i64 0))⟩]
theorem tr22_0 : (ro Tryd.f22 0).toList.mapM (trO Tryd.prog 25 (ro Tryd.f22 0)) = some a22_0 := by kernel_rfl
def a22_1 : List AO := [⟨(some 6), none, .mv (.t 1)⟩,
  ⟨(some 7), none, .bin .lss (.t 6) (.v (.int .i64 0))⟩,
  ⟨(some 8), none, .mv (.t 7)⟩,
  ⟨(some 9), some (8, false), .mv (.t 1)⟩,
  ⟨(some 10), some (8, false), .fld 4 (.t 2)⟩,
  ⟨(some 11), some (8, false), .load none (.t 10)⟩,
  ⟨(some 12), some (8, false), .len (.t 11)⟩,
  ⟨(some 13), some (8, false), .bin .geq (.t 9) (.t 12)⟩,
  ⟨(some 14), none, .pick (.t 8) (.v (.bool true)) (.t 13)⟩]
theorem tr22_1 : (ro Tryd.f22 1).toList.mapM (trO Tryd.prog 25 (ro Tryd.f22 1)) = some a22_1 := by kernel_rfl
def a22_2 : List AO := [⟨(some 15), none, .build [(.str []), .nils, (.int .i64 0), .nils, .nils, (.int .i64 0)] []⟩,
  ⟨none, none, .store 6 (.t 4) (.t 15)⟩,
  ⟨(some 5), none, .mv (.v (.int .i64 2))⟩]
theorem tr22_2 : (ro Tryd.f22 2).toList.mapM (trO Tryd.prog 25 (ro Tryd.f22 2)) = some a22_2 := by kernel_rfl
def a22_3 : List AO := [⟨(some 16), none, .fld 4 (.t 2)⟩,
  ⟨(some 17), none, .load none (.t 16)⟩,
  ⟨(some 18), none, .call 37 [(.t 17)]⟩,
  ⟨(some 19), none, .mv (.t 1)⟩,
  ⟨(some 20), none, .mv (.t 1)⟩,
  ⟨(some 21), none, .bin .add (.t 20) (.v (.int .i64 1))⟩,
  ⟨(some 22), none, .call 36 [(.t 18), (.t 19), (.t 21)]⟩,
  ⟨(some 23), none, .fld 4 (.t 2)⟩,
  ⟨none, none, .store 1 (.t 23) (.t 22)⟩]
theorem tr22_3 : (ro Tryd.f22 3).toList.mapM (trO Tryd.prog 25 (ro Tryd.f22 3)) = some a22_3 := by kernel_rfl
def a22_4 : List AO := [⟨(some 24), none, .load (some 6) (.t 2)⟩,
  ⟨none, none, .store 6 (.t 4) (.t 24)⟩,
  ⟨(some 5), none, .mv (.v (.int .i64 0))⟩]
theorem tr22_4 : (ro Tryd.f22 4).toList.mapM (trO Tryd.prog 25 (ro Tryd.f22 4)) = some a22_4 := by kernel_rfl
/-- airline/airlineref33.Drop -/
noncomputable def c23 : Code := .seq (.region 0 (ro Tryd.f23 0) false) (.seq (.seq (.region 1 (ro Tryd.f23 1) false) (.cond (.tmp 15) (.seq (.region 2 (ro Tryd.f23 2) false) (.ret)) (.skip))) (.seq (.region 3 (ro Tryd.f23 3) false) (.seq (.region 4 (ro Tryd.f23 4) false) (.seq (.region 5 (ro Tryd.f23 5) false) (.seq (.region 6 (ro Tryd.f23 6) false) (.ret))))))
theorem body23 : Tryd.f23.body = some c23 := by kernel_rfl
theorem res23 : Tryd.f23.results.toList.mapM (trR Tryd.prog) = some [.c (some 6) 4, .t 5] := by kernel_rfl
theorem nt23 : Tryd.f23.ntmps = 32 := by kernel_rfl
theorem nm23 : (Tryd.f23.name == "runtime.NumGoroutine") = false := by kernel_rfl
def a23_0 : List AO := [⟨(some 2), none, .box 35 (.t 0)⟩,
  ⟨(some 4), none, .alloc 35 [(.str []), .nils, (.int .i64 0), .nils, .nils, (.int .i64 0)]⟩,
  ⟨(some 5), none, .mv (.v (.int .i64 0))⟩]
theorem tr23_0 : (ro Tryd.f23 0).toList.mapM (trO Tryd.prog 32 (ro Tryd.f23 0)) = some a23_0 := by kernel_rfl
def a23_1 : List AO := [⟨(some 7), none, .mv (.t 1)⟩,
  ⟨(some 8), none, .bin .lss (.t 7) (.v (.int .i64 0))⟩,
  ⟨(some 9), none, .mv (.t 8)⟩,
  ⟨(some 10), some (9, false), .mv (.t 1)⟩,
  ⟨(some 11), some (9, false), .fld 4 (.t 2)⟩,
  ⟨(some 12), some (9, false), .load none (.t 11)⟩,
  ⟨(some 13), some (9, false), .len (.t 12)⟩,
  ⟨(some 14), some (9, false), .bin .geq (.t 10) (.t 13)⟩,
  ⟨(some 15), none, .pick (.t 9) (.v (.bool true)) (.t 14)⟩]
theorem tr23_1 : (ro Tryd.f23 1).toList.mapM (trO Tryd.prog 32 (ro Tryd.f23 1)) = some a23_1 := by kernel_rfl
def a23_2 : List AO := [⟨(some 16), none, .build [(.str []), .nils, (.int .i64 0), .nils, .nils, (.int .i64 0)] []⟩,
  ⟨none, none, .store 6 (.t 4) (.t 16)⟩,
  ⟨(some 5), none, .mv (.v (.int .i64 2))⟩]
theorem tr23_2 : (ro Tryd.f23 2).toList.mapM (trO Tryd.prog 32 (ro Tryd.f23 2)) = some a23_2 := by kernel_rfl
def a23_3 : List AO := [⟨(some 6), none, .mv (.v .nils)⟩]
theorem tr23_3 : (ro Tryd.f23 3).toList.mapM (trO Tryd.prog 32 (ro Tryd.f23 3)) = some a23_3 := by kernel_rfl
def a23_4 : List AO := [⟨(some 17), none, .mv (.t 6)⟩,
  ⟨(some 18), none, .fld 4 (.t 2)⟩,
  ⟨(some 19), none, .load none (.t 18)⟩,
  ⟨(some 20), none, .mv (.t 1)⟩,
  ⟨(some 21), none, .sub 3 none (some (.t 20)) none (.t 19)⟩,
  ⟨(some 22), none, .app 37 3 32 (.t 17) (.t 21)⟩,
  ⟨(some 6), none, .mv (.t 22)⟩]
theorem tr23_4 : (ro Tryd.f23 4).toList.mapM (trO Tryd.prog 32 (ro Tryd.f23 4)) = some a23_4 := by kernel_rfl
def a23_5 : List AO := [⟨(some 23), none, .mv (.t 6)⟩,
  ⟨(some 24), none, .fld 4 (.t 2)⟩,
  ⟨(some 25), none, .load none (.t 24)⟩,
  ⟨(some 26), none, .mv (.t 1)⟩,
  ⟨(some 27), none, .bin .add (.t 26) (.v (.int .i64 1))⟩,
  ⟨(some 28), none, .sub 3 (some (.t 27)) none none (.t 25)⟩,
  ⟨(some 29), none, .app 37 3 32 (.t 23) (.t 28)⟩,
  ⟨(some 30), none, .fld 4 (.t 2)⟩,
  ⟨none, none, .store 1 (.t 30) (.t 29)⟩]
theorem tr23_5 : (ro Tryd.f23 5).toList.mapM (trO Tryd.prog 32 (ro Tryd.f23 5)) = some a23_5 := by kernel_rfl
def a23_6 : List AO := [⟨(some 31), none, .load (some 6) (.t 2)⟩,
  ⟨none, none, .store 6 (.t 4) (.t 31)⟩,
  ⟨(some 5), none, .mv (.v (.int .i64 0))⟩]
theorem tr23_6 : (ro Tryd.f23 6).toList.mapM (trO Tryd.prog 32 (ro Tryd.f23 6)) = some a23_6 := by kernel_rfl
/-- airline/text.Decimal -/
noncomputable def c24 : Code := .seq (.region 0 (ro Tryd.f24 0) false) (.seq (.region 1 (ro Tryd.f24 1) false) (.ret))
theorem body24 : Tryd.f24.body = some c24 := by kernel_rfl
theorem res24 : Tryd.f24.results.toList.mapM (trR Tryd.prog) = some [.t 2] := by kernel_rfl
theorem nt24 : Tryd.f24.ntmps = 5 := by kernel_rfl
theorem nm24 : (Tryd.f24.name == "runtime.NumGoroutine") = false := by kernel_rfl
def a24_0 : List AO := [⟨(some 2), none, .mv (.v (.str []))⟩]
theorem tr24_0 : (ro Tryd.f24 0).toList.mapM (trO Tryd.prog 5 (ro Tryd.f24 0)) = some a24_0 := by kernel_rfl
def a24_1 : List AO := [⟨(some 3), none, .mv (.t 0)⟩,
  ⟨(some 4), none, .call 38 [(.t 3)]⟩,
  ⟨(some 2), none, .mv (.t 4)⟩]
theorem tr24_1 : (ro Tryd.f24 1).toList.mapM (trO Tryd.prog 5 (ro Tryd.f24 1)) = some a24_1 := by kernel_rfl
/-- airline/text.Code -/
noncomputable def c25 : Code := .seq (.region 0 (ro Tryd.f25 0) false) (.seq (.region 1 (ro Tryd.f25 1) false) (.ret))
theorem body25 : Tryd.f25.body = some c25 := by kernel_rfl
theorem res25 : Tryd.f25.results.toList.mapM (trR Tryd.prog) = some [.t 6] := by kernel_rfl
theorem nt25 : Tryd.f25.ntmps = 21 := by kernel_rfl
theorem nm25 : (Tryd.f25.name == "runtime.NumGoroutine") = false := by kernel_rfl
def a25_0 : List AO := [⟨(some 6), none, .mv (.v (.bool false))⟩]
theorem tr25_0 : (ro Tryd.f25 0).toList.mapM (trO Tryd.prog 21 (ro Tryd.f25 0)) = some a25_0 := by kernel_rfl
def a25_1 : List AO := [⟨(some 7), none, .mv (.t 0)⟩,
  ⟨(some 8), none, .slen (.t 7)⟩,
  ⟨(some 9), none, .mv (.t 1)⟩,
  ⟨(some 10), none, .bin .geq (.t 8) (.t 9)⟩,
  ⟨(some 11), none, .mv (.t 10)⟩,
  ⟨(some 12), some (11, true), .mv (.t 0)⟩,
  ⟨(some 13), some (11, true), .slen (.t 12)⟩,
  ⟨(some 14), some (11, true), .mv (.t 2)⟩,
  ⟨(some 15), some (11, true), .bin .leq (.t 13) (.t 14)⟩,
  ⟨(some 16), none, .pick (.t 11) (.t 15) (.v (.bool false))⟩,
  ⟨(some 17), none, .mv (.t 16)⟩,
  ⟨(some 18), some (17, true), .mv (.t 0)⟩,
  ⟨(some 19), some (17, true), .call 39 [(.t 18), (.v (.fn 40 []))]⟩,
  ⟨(some 20), none, .pick (.t 17) (.t 19) (.v (.bool false))⟩,
  ⟨(some 6), none, .mv (.t 20)⟩]
theorem tr25_1 : (ro Tryd.f25 1).toList.mapM (trO Tryd.prog 21 (ro Tryd.f25 1)) = some a25_1 := by kernel_rfl
/-- airline/service.find -/
noncomputable def c26 : Code := .seq (.region 0 (ro Tryd.f26 0) false) (.seq (.region 1 (ro Tryd.f26 1) false) (.seq (.seq (.region 2 (ro Tryd.f26 2) false) (.cond (.tmp 11) (.seq (.region 3 (ro Tryd.f26 3) false) (.ret)) (.skip))) (.seq (.region 4 (ro Tryd.f26 4) false) (.ret))))
theorem body26 : Tryd.f26.body = some c26 := by kernel_rfl
theorem res26 : Tryd.f26.results.toList.mapM (trR Tryd.prog) = some [.c (some 3) 4, .t 5] := by kernel_rfl
theorem nt26 : Tryd.f26.ntmps = 17 := by kernel_rfl
theorem nm26 : (Tryd.f26.name == "runtime.NumGoroutine") = false := by kernel_rfl
def a26_0 : List AO := [⟨(some 3), none, .box 9 (.t 1)⟩,
  ⟨(some 4), none, .alloc 61 [(.str []), (.int .i64 0), .nils]⟩,
  ⟨(some 5), none, .mv (.v (.bool false))⟩]
theorem tr26_0 : (ro Tryd.f26 0).toList.mapM (trO Tryd.prog 17 (ro Tryd.f26 0)) = some a26_0 := by kernel_rfl
def a26_1 : List AO := [⟨(some 7), none, .mv (.t 0)⟩,
  ⟨(some 8), none, .mkfn 44 [(.t 3)]⟩,
  ⟨(some 9), none, .call 43 [(.t 7), (.t 8)]⟩,
  ⟨(some 6), none, .mv (.t 9)⟩]
theorem tr26_1 : (ro Tryd.f26 1).toList.mapM (trO Tryd.prog 17 (ro Tryd.f26 1)) = some a26_1 := by kernel_rfl
def a26_2 : List AO := [⟨(some 10), none, .mv (.t 6)⟩,
  ⟨(some 11), none, .bin .lss (.t 10) (.v (.int .i64 0))⟩]
theorem tr26_2 : (ro Tryd.f26 2).toList.mapM (trO Tryd.prog 17 (ro Tryd.f26 2)) = some a26_2 := by kernel_rfl
def a26_3 : List AO := [⟨(some 12), none, .build [(.str []), (.int .i64 0), .nils] []⟩,
  ⟨none, none, .store 3 (.t 4) (.t 12)⟩,
  ⟨(some 5), none, .mv (.v (.bool false))⟩]
theorem tr26_3 : (ro Tryd.f26 3).toList.mapM (trO Tryd.prog 17 (ro Tryd.f26 3)) = some a26_3 := by kernel_rfl
def a26_4 : List AO := [⟨(some 13), none, .mv (.t 0)⟩,
  ⟨(some 14), none, .mv (.t 6)⟩,
  ⟨(some 15), none, .idx 3 (.t 13) (.t 14)⟩,
  ⟨(some 16), none, .load (some 3) (.t 15)⟩,
  ⟨none, none, .store 3 (.t 4) (.t 16)⟩,
  ⟨(some 5), none, .mv (.v (.bool true))⟩]
theorem tr26_4 : (ro Tryd.f26 4).toList.mapM (trO Tryd.prog 17 (ro Tryd.f26 4)) = some a26_4 := by kernel_rfl
/-- slices.Contains[[]string,string] -/
noncomputable def c27 : Code := .seq (.region 0 (ro Tryd.f27 0) false) (.seq (.region 1 (ro Tryd.f27 1) false) (.ret))
theorem body27 : Tryd.f27.body = some c27 := by kernel_rfl
theorem res27 : Tryd.f27.results.toList.mapM (trR Tryd.prog) = some [.t 4] := by kernel_rfl
theorem nt27 : Tryd.f27.ntmps = 9 := by kernel_rfl
theorem nm27 : (Tryd.f27.name == "runtime.NumGoroutine") = false := by kernel_rfl
def a27_0 : List AO := [⟨(some 4), none, .mv (.v (.bool false))⟩]
theorem tr27_0 : (ro Tryd.f27 0).toList.mapM (trO Tryd.prog 9 (ro Tryd.f27 0)) = some a27_0 := by kernel_rfl
def a27_1 : List AO := [⟨(some 5), none, .mv (.t 0)⟩,
  ⟨(some 6), none, .mv (.t 1)⟩,
  ⟨(some 7), none, .call 46 [(.t 5), (.t 6)]⟩,
  ⟨(some 8), none, .bin .geq (.t 7) (.v (.int .i64 0))⟩,
  ⟨(some 4), none, .mv (.t 8)⟩]
theorem tr27_1 : (ro Tryd.f27 1).toList.mapM (trO Tryd.prog 9 (ro Tryd.f27 1)) = some a27_1 := by kernel_rfl
/-- airline/airlineref01.Decimal -/
noncomputable def c28 : Code := .seq (.region 0 (ro Tryd.f28 0) false) (.seq (.seq (.region 1 (ro Tryd.f28 1) false) (.cond (.tmp 4) (.seq (.region 2 (ro Tryd.f28 2) false) (.ret)) (.skip))) (.seq (.region 3 (ro Tryd.f28 3) false) (.ret)))
theorem body28 : Tryd.f28.body = some c28 := by kernel_rfl
theorem res28 : Tryd.f28.results.toList.mapM (trR Tryd.prog) = some [.t 2] := by kernel_rfl
theorem nt28 : Tryd.f28.ntmps = 15 := by kernel_rfl
theorem nm28 : (Tryd.f28.name == "runtime.NumGoroutine") = false := by kernel_rfl
def a28_0 : List AO := [⟨(some 2), none, .mv (.v (.str []))⟩]
theorem tr28_0 : (ro Tryd.f28 0).toList.mapM (trO Tryd.prog 15 (ro Tryd.f28 0)) = some a28_0 := by kernel_rfl
def a28_1 : List AO := [⟨(some 3), none, .mv (.t 0)⟩,
  ⟨(some 4), none, .bin .lss (.t 3) (.v (.int .i64 0))⟩]
theorem tr28_1 : (ro Tryd.f28 1).toList.mapM (trO Tryd.prog 15 (ro Tryd.f28 1)) = some a28_1 := by kernel_rfl
def a28_2 : List AO := [⟨(some 5), none, .mv (.t 0)⟩,
  ⟨(some 6), none, .bin .add (.t 5) (.v (.int .i64 1))⟩,
  ⟨(some 7), none, .un .neg (.t 6)⟩,
  ⟨(some 8), none, .conv .u64 (.t 7)⟩,
  ⟨(some 9), none, .bin .add (.t 8) (.v (.int .u64 1))⟩,
  ⟨(some 10), none, .call 47 [(.t 9)]⟩,
  ⟨(some 11), none, .bin .add (.v (.str [45])) (.t 10)⟩,
  ⟨(some 2), none, .mv (.t 11)⟩]
theorem tr28_2 : (ro Tryd.f28 2).toList.mapM (trO Tryd.prog 15 (ro Tryd.f28 2)) = some a28_2 := by kernel_rfl
def a28_3 : List AO := [⟨(some 12), none, .mv (.t 0)⟩,
  ⟨(some 13), none, .conv .u64 (.t 12)⟩,
  ⟨(some 14), none, .call 47 [(.t 13)]⟩,
  ⟨(some 2), none, .mv (.t 14)⟩]
theorem tr28_3 : (ro Tryd.f28 3).toList.mapM (trO Tryd.prog 15 (ro Tryd.f28 3)) = some a28_3 := by kernel_rfl
/-- airline/airlineref01.Code -/
noncomputable def c29 : Code := .seq (.region 0 (ro Tryd.f29 0) false) (.seq (.seq (.region 1 (ro Tryd.f29 1) false) (.block 0 (.loop (.seq (.seq (.region 2 (ro Tryd.f29 2) false) (.cond (.tmp 11) (.skip) (.exit 0))) (.seq (.block 1 (.seq (.region 4 (ro Tryd.f29 4) false) (.cond (.tmp 25) (.seq (.region 5 (ro Tryd.f29 5) false) (.ret)) (.skip)))) (.region 3 (ro Tryd.f29 3) false)))))) (.seq (.region 6 (ro Tryd.f29 6) false) (.ret)))
theorem body29 : Tryd.f29.body = some c29 := by kernel_rfl
theorem res29 : Tryd.f29.results.toList.mapM (trR Tryd.prog) = some [.t 6] := by kernel_rfl
theorem nt29 : Tryd.f29.ntmps = 36 := by kernel_rfl
theorem nm29 : (Tryd.f29.name == "runtime.NumGoroutine") = false := by kernel_rfl
def a29_0 : List AO := [⟨(some 6), none, .mv (.v (.bool false))⟩]
theorem tr29_0 : (ro Tryd.f29 0).toList.mapM (trO Tryd.prog 36 (ro Tryd.f29 0)) = some a29_0 := by kernel_rfl
def a29_1 : List AO := [⟨(some 7), none, .mv (.v (.int .i64 0))⟩]
theorem tr29_1 : (ro Tryd.f29 1).toList.mapM (trO Tryd.prog 36 (ro Tryd.f29 1)) = some a29_1 := by kernel_rfl
def a29_2 : List AO := [⟨(some 8), none, .mv (.t 7)⟩,
  ⟨(some 9), none, .mv (.t 0)⟩,
  ⟨(some 10), none, .slen (.t 9)⟩,
  ⟨(some 11), none, .bin .lss (.t 8) (.t 10)⟩]
theorem tr29_2 : (ro Tryd.f29 2).toList.mapM (trO Tryd.prog 36 (ro Tryd.f29 2)) = some a29_2 := by kernel_rfl
def a29_4 : List AO := [⟨(some 14), none, .mv (.t 0)⟩,
  ⟨(some 15), none, .mv (.t 7)⟩,
  ⟨(some 16), none, .sidx (.t 14) (.t 15)⟩,
  ⟨(some 17), none, .call 48 [(.t 16)]⟩,
  ⟨(some 18), none, .un .not (.t 17)⟩,
  ⟨(some 19), none, .mv (.t 18)⟩,
  ⟨(some 20), some (19, true), .mv (.t 0)⟩,
  ⟨(some 21), some (19, true), .mv (.t 7)⟩,
  ⟨(some 22), some (19, true), .sidx (.t 20) (.t 21)⟩,
  ⟨(some 23), some (19, true), .call 49 [(.t 22)]⟩,
  ⟨(some 24), some (19, true), .un .not (.t 23)⟩,
  ⟨(some 25), none, .pick (.t 19) (.t 24) (.v (.bool false))⟩]
theorem tr29_4 : (ro Tryd.f29 4).toList.mapM (trO Tryd.prog 36 (ro Tryd.f29 4)) = some a29_4 := by kernel_rfl
def a29_5 : List AO := [⟨(some 6), none, .mv (.v (.bool false))⟩]
theorem tr29_5 : (ro Tryd.f29 5).toList.mapM (trO Tryd.prog 36 (ro Tryd.f29 5)) = some a29_5 := by kernel_rfl
def a29_3 : List AO := [⟨(some 12), none, .mv (.t 7)⟩,
  ⟨(some 13), none, .bin .add (.t 12) (.v (.int .i64 1))⟩,
  ⟨(some 7), none, .mv (.t 13)⟩]
theorem tr29_3 : (ro Tryd.f29 3).toList.mapM (trO Tryd.prog 36 (ro Tryd.f29 3)) = some a29_3 := by kernel_rfl
def a29_6 : List AO := [⟨(some 26), none, .mv (.t 0)⟩,
  ⟨(some 27), none, .slen (.t 26)⟩,
  ⟨(some 28), none, .mv (.t 1)⟩,
  ⟨(some 29), none, .bin .geq (.t 27) (.t 28)⟩,
  ⟨(some 30), none, .mv (.t 29)⟩,
  ⟨(some 31), some (30, true), .mv (.t 0)⟩,
  ⟨(some 32), some (30, true), .slen (.t 31)⟩,
  ⟨(some 33), some (30, true), .mv (.t 2)⟩,
  ⟨(some 34), some (30, true), .bin .leq (.t 32) (.t 33)⟩,
  ⟨(some 35), none, .pick (.t 30) (.t 34) (.v (.bool false))⟩,
  ⟨(some 6), none, .mv (.t 35)⟩]
theorem tr29_6 : (ro Tryd.f29 6).toList.mapM (trO Tryd.prog 36 (ro Tryd.f29 6)) = some a29_6 := by kernel_rfl
/-- airline/airlineref33.find -/
noncomputable def c30 : Code := .seq (.region 0 (ro Tryd.f30 0) false) (.seq (.seq (.region 1 (ro Tryd.f30 1) false) (.block 0 (.loop (.seq (.seq (.region 2 (ro Tryd.f30 2) false) (.cond (.tmp 9) (.skip) (.exit 0))) (.seq (.block 1 (.seq (.region 4 (ro Tryd.f30 4) false) (.cond (.tmp 18) (.seq (.region 5 (ro Tryd.f30 5) false) (.ret)) (.skip)))) (.region 3 (ro Tryd.f30 3) false)))))) (.seq (.region 6 (ro Tryd.f30 6) false) (.ret)))
theorem body30 : Tryd.f30.body = some c30 := by kernel_rfl
theorem res30 : Tryd.f30.results.toList.mapM (trR Tryd.prog) = some [.t 4] := by kernel_rfl
theorem nt30 : Tryd.f30.ntmps = 20 := by kernel_rfl
theorem nm30 : (Tryd.f30.name == "runtime.NumGoroutine") = false := by kernel_rfl
def a30_0 : List AO := [⟨(some 4), none, .mv (.v (.int .i64 0))⟩]
theorem tr30_0 : (ro Tryd.f30 0).toList.mapM (trO Tryd.prog 20 (ro Tryd.f30 0)) = some a30_0 := by kernel_rfl
def a30_1 : List AO := [⟨(some 5), none, .mv (.v (.int .i64 0))⟩]
theorem tr30_1 : (ro Tryd.f30 1).toList.mapM (trO Tryd.prog 20 (ro Tryd.f30 1)) = some a30_1 := by kernel_rfl
def a30_2 : List AO := [⟨(some 6), none, .mv (.t 5)⟩,
  ⟨(some 7), none, .mv (.t 0)⟩,
  ⟨(some 8), none, .len (.t 7)⟩,
  ⟨(some 9), none, .bin .lss (.t 6) (.t 8)⟩]
theorem tr30_2 : (ro Tryd.f30 2).toList.mapM (trO Tryd.prog 20 (ro Tryd.f30 2)) = some a30_2 := by kernel_rfl
def a30_4 : List AO := [⟨(some 12), none, .mv (.t 0)⟩,
  ⟨(some 13), none, .mv (.t 5)⟩,
  ⟨(some 14), none, .idx 3 (.t 12) (.t 13)⟩,
  ⟨(some 15), none, .fld 0 (.t 14)⟩,
  ⟨(some 16), none, .load none (.t 15)⟩,
  ⟨(some 17), none, .mv (.t 1)⟩,
  ⟨(some 18), none, .bin .eql (.t 16) (.t 17)⟩]
theorem tr30_4 : (ro Tryd.f30 4).toList.mapM (trO Tryd.prog 20 (ro Tryd.f30 4)) = some a30_4 := by kernel_rfl
def a30_5 : List AO := [⟨(some 19), none, .mv (.t 5)⟩,
  ⟨(some 4), none, .mv (.t 19)⟩]
theorem tr30_5 : (ro Tryd.f30 5).toList.mapM (trO Tryd.prog 20 (ro Tryd.f30 5)) = some a30_5 := by kernel_rfl
def a30_3 : List AO := [⟨(some 10), none, .mv (.t 5)⟩,
  ⟨(some 11), none, .bin .add (.t 10) (.v (.int .i64 1))⟩,
  ⟨(some 5), none, .mv (.t 11)⟩]
theorem tr30_3 : (ro Tryd.f30 3).toList.mapM (trO Tryd.prog 20 (ro Tryd.f30 3)) = some a30_3 := by kernel_rfl
def a30_6 : List AO := [⟨(some 4), none, .mv (.v (.int .i64 (-1)))⟩]
theorem tr30_6 : (ro Tryd.f30 6).toList.mapM (trO Tryd.prog 20 (ro Tryd.f30 6)) = some a30_6 := by kernel_rfl
/-- airline/airlineref33.in -/
noncomputable def c31 : Code := .seq (.region 0 (ro Tryd.f31 0) false) (.seq (.seq (.region 1 (ro Tryd.f31 1) false) (.block 0 (.loop (.seq (.seq (.region 2 (ro Tryd.f31 2) false) (.cond (.tmp 9) (.skip) (.exit 0))) (.seq (.block 1 (.seq (.region 4 (ro Tryd.f31 4) false) (.cond (.tmp 17) (.seq (.region 5 (ro Tryd.f31 5) false) (.ret)) (.skip)))) (.region 3 (ro Tryd.f31 3) false)))))) (.seq (.region 6 (ro Tryd.f31 6) false) (.ret)))
theorem body31 : Tryd.f31.body = some c31 := by kernel_rfl
theorem res31 : Tryd.f31.results.toList.mapM (trR Tryd.prog) = some [.t 4] := by kernel_rfl
theorem nt31 : Tryd.f31.ntmps = 18 := by kernel_rfl
theorem nm31 : (Tryd.f31.name == "runtime.NumGoroutine") = false := by kernel_rfl
def a31_0 : List AO := [⟨(some 4), none, .mv (.v (.bool false))⟩]
theorem tr31_0 : (ro Tryd.f31 0).toList.mapM (trO Tryd.prog 18 (ro Tryd.f31 0)) = some a31_0 := by kernel_rfl
def a31_1 : List AO := [⟨(some 5), none, .mv (.v (.int .i64 0))⟩]
theorem tr31_1 : (ro Tryd.f31 1).toList.mapM (trO Tryd.prog 18 (ro Tryd.f31 1)) = some a31_1 := by kernel_rfl
def a31_2 : List AO := [⟨(some 6), none, .mv (.t 5)⟩,
  ⟨(some 7), none, .mv (.t 0)⟩,
  ⟨(some 8), none, .len (.t 7)⟩,
  ⟨(some 9), none, .bin .lss (.t 6) (.t 8)⟩]
theorem tr31_2 : (ro Tryd.f31 2).toList.mapM (trO Tryd.prog 18 (ro Tryd.f31 2)) = some a31_2 := by kernel_rfl
def a31_4 : List AO := [⟨(some 12), none, .mv (.t 0)⟩,
  ⟨(some 13), none, .mv (.t 5)⟩,
  ⟨(some 14), none, .idx 1 (.t 12) (.t 13)⟩,
  ⟨(some 15), none, .load none (.t 14)⟩,
  ⟨(some 16), none, .mv (.t 1)⟩,
  ⟨(some 17), none, .bin .eql (.t 15) (.t 16)⟩]
theorem tr31_4 : (ro Tryd.f31 4).toList.mapM (trO Tryd.prog 18 (ro Tryd.f31 4)) = some a31_4 := by kernel_rfl
def a31_5 : List AO := [⟨(some 4), none, .mv (.v (.bool true))⟩]
theorem tr31_5 : (ro Tryd.f31 5).toList.mapM (trO Tryd.prog 18 (ro Tryd.f31 5)) = some a31_5 := by kernel_rfl
def a31_3 : List AO := [⟨(some 10), none, .mv (.t 5)⟩,
  ⟨(some 11), none, .bin .add (.t 10) (.v (.int .i64 1))⟩,
  ⟨(some 5), none, .mv (.t 11)⟩]
theorem tr31_3 : (ro Tryd.f31 3).toList.mapM (trO Tryd.prog 18 (ro Tryd.f31 3)) = some a31_3 := by kernel_rfl
def a31_6 : List AO := [⟨(some 4), none, .mv (.v (.bool false))⟩]
theorem tr31_6 : (ro Tryd.f31 6).toList.mapM (trO Tryd.prog 18 (ro Tryd.f31 6)) = some a31_6 := by kernel_rfl
/-- slices.Clip[[]airline/api.Service,airline/api.Service] -/
noncomputable def c32 : Code := .seq (.region 0 (ro Tryd.f32 0) false) (.seq (.region 1 (ro Tryd.f32 1) false) (.ret))
theorem body32 : Tryd.f32.body = some c32 := by kernel_rfl
theorem res32 : Tryd.f32.results.toList.mapM (trR Tryd.prog) = some [.t 2] := by kernel_rfl
theorem nt32 : Tryd.f32.ntmps = 9 := by kernel_rfl
theorem nm32 : (Tryd.f32.name == "runtime.NumGoroutine") = false := by kernel_rfl
def a32_0 : List AO := [⟨(some 2), none, .mv (.v .nils)⟩]
theorem tr32_0 : (ro Tryd.f32 0).toList.mapM (trO Tryd.prog 9 (ro Tryd.f32 0)) = some a32_0 := by kernel_rfl
def a32_1 : List AO := [⟨(some 3), none, .mv (.t 0)⟩,
  ⟨(some 4), none, .mv (.t 0)⟩,
  ⟨(some 5), none, .len (.t 4)⟩,
  ⟨(some 6), none, .mv (.t 0)⟩,
  ⟨(some 7), none, .len (.t 6)⟩,
  ⟨(some 8), none, .sub 3 none (some (.t 5)) (some (.t 7)) (.t 3)⟩,
  ⟨(some 2), none, .mv (.t 8)⟩]
theorem tr32_1 : (ro Tryd.f32 1).toList.mapM (trO Tryd.prog 9 (ro Tryd.f32 1)) = some a32_1 := by kernel_rfl
/-- airline/status.Seat -/
noncomputable def c33 : Code := .seq (.region 0 (ro Tryd.f33 0) false) (.seq (.region 1 (ro Tryd.f33 1) false) (.ret))
theorem body33 : Tryd.f33.body = some c33 := by kernel_rfl
theorem res33 : Tryd.f33.results.toList.mapM (trR Tryd.prog) = some [.t 2] := by kernel_rfl
theorem nt33 : Tryd.f33.ntmps = 13 := by kernel_rfl
theorem nm33 : (Tryd.f33.name == "runtime.NumGoroutine") = false := by kernel_rfl
def a33_0 : List AO := [⟨(some 2), none, .mv (.v (.bool false))⟩]
theorem tr33_0 : (ro Tryd.f33 0).toList.mapM (trO Tryd.prog 13 (ro Tryd.f33 0)) = some a33_0 := by kernel_rfl
def a33_1 : List AO := [⟨(some 3), none, .mv (.t 0)⟩,
  ⟨(some 4), none, .bin .eql (.t 3) (.v (.int .i64 1))⟩,
  ⟨(some 5), none, .mv (.t 4)⟩,
  ⟨(some 6), some (5, false), .mv (.t 0)⟩,
  ⟨(some 7), some (5, false), .bin .eql (.t 6) (.v (.int .i64 3))⟩,
  ⟨(some 8), none, .pick (.t 5) (.v (.bool true)) (.t 7)⟩,
  ⟨(some 9), none, .mv (.t 8)⟩,
  ⟨(some 10), some (9, false), .mv (.t 0)⟩,
  ⟨(some 11), some (9, false), .bin .eql (.t 10) (.v (.int .i64 4))⟩,
  ⟨(some 12), none, .pick (.t 9) (.v (.bool true)) (.t 11)⟩,
  ⟨(some 2), none, .mv (.t 12)⟩]
theorem tr33_1 : (ro Tryd.f33 1).toList.mapM (trO Tryd.prog 13 (ro Tryd.f33 1)) = some a33_1 := by kernel_rfl
/-- slices.Contains[[]airline/api.Service,airline/api.Service] -/
noncomputable def c34 : Code := .seq (.region 0 (ro Tryd.f34 0) false) (.seq (.region 1 (ro Tryd.f34 1) false) (.ret))
theorem body34 : Tryd.f34.body = some c34 := by kernel_rfl
theorem res34 : Tryd.f34.results.toList.mapM (trR Tryd.prog) = some [.t 4] := by kernel_rfl
theorem nt34 : Tryd.f34.ntmps = 9 := by kernel_rfl
theorem nm34 : (Tryd.f34.name == "runtime.NumGoroutine") = false := by kernel_rfl
def a34_0 : List AO := [⟨(some 3), none, .box 37 (.t 1)⟩,
  ⟨(some 4), none, .mv (.v (.bool false))⟩]
theorem tr34_0 : (ro Tryd.f34 0).toList.mapM (trO Tryd.prog 9 (ro Tryd.f34 0)) = some a34_0 := by kernel_rfl
def a34_1 : List AO := [⟨(some 5), none, .mv (.t 0)⟩,
  ⟨(some 6), none, .load (some 3) (.t 3)⟩,
  ⟨(some 7), none, .call 50 [(.t 5), (.t 6)]⟩,
  ⟨(some 8), none, .bin .geq (.t 7) (.v (.int .i64 0))⟩,
  ⟨(some 4), none, .mv (.t 8)⟩]
theorem tr34_1 : (ro Tryd.f34 1).toList.mapM (trO Tryd.prog 9 (ro Tryd.f34 1)) = some a34_1 := by kernel_rfl
/-- airline/airlineref31.Seat -/
noncomputable def c35 : Code := .seq (.region 0 (ro Tryd.f35 0) false) (.seq (.region 1 (ro Tryd.f35 1) false) (.ret))
theorem body35 : Tryd.f35.body = some c35 := by kernel_rfl
theorem res35 : Tryd.f35.results.toList.mapM (trR Tryd.prog) = some [.t 2] := by kernel_rfl
theorem nt35 : Tryd.f35.ntmps = 13 := by kernel_rfl
theorem nm35 : (Tryd.f35.name == "runtime.NumGoroutine") = false := by kernel_rfl
def a35_0 : List AO := [⟨(some 2), none, .mv (.v (.bool false))⟩]
theorem tr35_0 : (ro Tryd.f35 0).toList.mapM (trO Tryd.prog 13 (ro Tryd.f35 0)) = some a35_0 := by kernel_rfl
def a35_1 : List AO := [⟨(some 3), none, .mv (.t 0)⟩,
  ⟨(some 4), none, .bin .eql (.t 3) (.v (.int .i64 1))⟩,
  ⟨(some 5), none, .mv (.t 4)⟩,
  ⟨(some 6), some (5, false), .mv (.t 0)⟩,
  ⟨(some 7), some (5, false), .bin .eql (.t 6) (.v (.int .i64 3))⟩,
  ⟨(some 8), none, .pick (.t 5) (.v (.bool true)) (.t 7)⟩,
  ⟨(some 9), none, .mv (.t 8)⟩,
  ⟨(some 10), some (9, false), .mv (.t 0)⟩,
  ⟨(some 11), some (9, false), .bin .eql (.t 10) (.v (.int .i64 4))⟩,
  ⟨(some 12), none, .pick (.t 9) (.v (.bool true)) (.t 11)⟩,
  ⟨(some 2), none, .mv (.t 12)⟩]
theorem tr35_1 : (ro Tryd.f35 1).toList.mapM (trO Tryd.prog 13 (ro Tryd.f35 1)) = some a35_1 := by kernel_rfl
/-- slices.Delete[[]airline/api.Service,airline/api.Service] -/
noncomputable def c36 : Code := .seq (.region 0 (ro Tryd.f36 0) false) (.seq (.region 1 (ro Tryd.f36 1) false) (.seq (.seq (.region 2 (ro Tryd.f36 2) false) (.cond (.tmp 16) (.seq (.region 3 (ro Tryd.f36 3) false) (.ret)) (.skip))) (.seq (.region 4 (ro Tryd.f36 4) false) (.seq (.region 5 (ro Tryd.f36 5) true) (.seq (.region 6 (ro Tryd.f36 6) false) (.seq (.region 7 (ro Tryd.f36 7) false) (.ret)))))))
theorem body36 : Tryd.f36.body = some c36 := by kernel_rfl
theorem res36 : Tryd.f36.results.toList.mapM (trR Tryd.prog) = some [.t 6] := by kernel_rfl
theorem nt36 : Tryd.f36.ntmps = 33 := by kernel_rfl
theorem nm36 : (Tryd.f36.name == "runtime.NumGoroutine") = false := by kernel_rfl
def a36_0 : List AO := [⟨(some 6), none, .mv (.v .nils)⟩]
theorem tr36_0 : (ro Tryd.f36 0).toList.mapM (trO Tryd.prog 33 (ro Tryd.f36 0)) = some a36_0 := by kernel_rfl
def a36_1 : List AO := [⟨(some 8), none, .mv (.t 0)⟩,
  ⟨(some 9), none, .mv (.t 1)⟩,
  ⟨(some 10), none, .mv (.t 2)⟩,
  ⟨(some 11), none, .mv (.t 0)⟩,
  ⟨(some 12), none, .len (.t 11)⟩,
  ⟨(some 13), none, .sub 3 (some (.t 9)) (some (.t 10)) (some (.t 12)) (.t 8)⟩]
theorem tr36_1 : (ro Tryd.f36 1).toList.mapM (trO Tryd.prog 33 (ro Tryd.f36 1)) = some a36_1 := by kernel_rfl
def a36_2 : List AO := [⟨(some 14), none, .mv (.t 1)⟩,
  ⟨(some 15), none, .mv (.t 2)⟩,
  ⟨(some 16), none, .bin .eql (.t 14) (.t 15)⟩]
theorem tr36_2 : (ro Tryd.f36 2).toList.mapM (trO Tryd.prog 33 (ro Tryd.f36 2)) = some a36_2 := by kernel_rfl
def a36_3 : List AO := [⟨(some 17), none, .mv (.t 0)⟩,
  ⟨(some 6), none, .mv (.t 17)⟩]
theorem tr36_3 : (ro Tryd.f36 3).toList.mapM (trO Tryd.prog 33 (ro Tryd.f36 3)) = some a36_3 := by kernel_rfl
def a36_4 : List AO := [⟨(some 18), none, .mv (.t 0)⟩,
  ⟨(some 19), none, .len (.t 18)⟩,
  ⟨(some 7), none, .mv (.t 19)⟩]
theorem tr36_4 : (ro Tryd.f36 4).toList.mapM (trO Tryd.prog 33 (ro Tryd.f36 4)) = some a36_4 := by kernel_rfl
def a36_5 : List AO := [⟨(some 20), none, .mv (.t 0)⟩,
  ⟨(some 21), none, .mv (.t 1)⟩,
  ⟨(some 22), none, .sub 3 none (some (.t 21)) none (.t 20)⟩,
  ⟨(some 23), none, .mv (.t 0)⟩,
  ⟨(some 24), none, .mv (.t 2)⟩,
  ⟨(some 25), none, .sub 3 (some (.t 24)) none none (.t 23)⟩,
  ⟨(some 26), none, .app 37 3 32 (.t 22) (.t 25)⟩,
  ⟨(some 0), none, .mv (.t 26)⟩]
theorem tr36_5 : (ro Tryd.f36 5).toList.mapM (trO Tryd.prog 33 (ro Tryd.f36 5)) = some a36_5 := by kernel_rfl
def d36_5 : List (List Nat) := [[], [], [0, 1], [], [], [3, 4], [0, 1, 2, 3, 4, 5], [0, 1, 2, 3, 4, 5, 6]]
theorem ok36_5 : okReg (ro Tryd.f36 5) a36_5 d36_5 = true := by kernel_rfl
def a36_6 : List AO := [⟨(some 27), none, .mv (.t 0)⟩,
  ⟨(some 28), none, .mv (.t 0)⟩,
  ⟨(some 29), none, .len (.t 28)⟩,
  ⟨(some 30), none, .mv (.t 7)⟩,
  ⟨(some 31), none, .sub 3 (some (.t 29)) (some (.t 30)) none (.t 27)⟩,
  ⟨none, none, .clr 3 [(.str []), (.int .i64 0), (.int .i64 0)] (.t 31)⟩]
theorem tr36_6 : (ro Tryd.f36 6).toList.mapM (trO Tryd.prog 33 (ro Tryd.f36 6)) = some a36_6 := by kernel_rfl
def a36_7 : List AO := [⟨(some 32), none, .mv (.t 0)⟩,
  ⟨(some 6), none, .mv (.t 32)⟩]
theorem tr36_7 : (ro Tryd.f36 7).toList.mapM (trO Tryd.prog 33 (ro Tryd.f36 7)) = some a36_7 := by kernel_rfl
/-- slices.Clone[[]airline/api.Service,airline/api.Service] -/
noncomputable def c37 : Code := .seq (.region 0 (ro Tryd.f37 0) false) (.seq (.seq (.region 1 (ro Tryd.f37 1) false) (.cond (.tmp 4) (.seq (.region 2 (ro Tryd.f37 2) false) (.ret)) (.skip))) (.seq (.region 3 (ro Tryd.f37 3) false) (.ret)))
theorem body37 : Tryd.f37.body = some c37 := by kernel_rfl
theorem res37 : Tryd.f37.results.toList.mapM (trR Tryd.prog) = some [.t 2] := by kernel_rfl
theorem nt37 : Tryd.f37.ntmps = 8 := by kernel_rfl
theorem nm37 : (Tryd.f37.name == "runtime.NumGoroutine") = false := by kernel_rfl
def a37_0 : List AO := [⟨(some 2), none, .mv (.v .nils)⟩]
theorem tr37_0 : (ro Tryd.f37 0).toList.mapM (trO Tryd.prog 8 (ro Tryd.f37 0)) = some a37_0 := by kernel_rfl
def a37_1 : List AO := [⟨(some 3), none, .mv (.t 0)⟩,
  ⟨(some 4), none, .binn .eql (.t 3) (.v .nils)⟩]
theorem tr37_1 : (ro Tryd.f37 1).toList.mapM (trO Tryd.prog 8 (ro Tryd.f37 1)) = some a37_1 := by kernel_rfl
def a37_2 : List AO := [⟨(some 2), none, .mv (.v .nils)⟩]
theorem tr37_2 : (ro Tryd.f37 2).toList.mapM (trO Tryd.prog 8 (ro Tryd.f37 2)) = some a37_2 := by kernel_rfl
def a37_3 : List AO := [⟨(some 5), none, .slc 37 3 false []⟩,
  ⟨(some 6), none, .mv (.t 0)⟩,
  ⟨(some 7), none, .app 37 3 32 (.t 5) (.t 6)⟩,
  ⟨(some 2), none, .mv (.t 7)⟩]
theorem tr37_3 : (ro Tryd.f37 3).toList.mapM (trO Tryd.prog 8 (ro Tryd.f37 3)) = some a37_3 := by kernel_rfl
/-- airline/text.every -/
noncomputable def c39 : Code := .seq (.region 0 (ro Tryd.f39 0) false) (.seq (.seq (.region 1 (ro Tryd.f39 1) false) (.block 0 (.loop (.seq (.region 2 (ro Tryd.f39 2) false) (.seq (.cond (.tmp 9) (.skip) (.exit 0)) (.seq (.block 1 (.seq (.region 3 (ro Tryd.f39 3) false) (.seq (.region 4 (ro Tryd.f39 4) false) (.cond (.tmp 16) (.seq (.region 5 (ro Tryd.f39 5) false) (.ret)) (.skip))))) (.region 6 (ro Tryd.f39 6) false))))))) (.seq (.region 7 (ro Tryd.f39 7) false) (.ret)))
theorem body39 : Tryd.f39.body = some c39 := by kernel_rfl
theorem res39 : Tryd.f39.results.toList.mapM (trR Tryd.prog) = some [.t 4] := by kernel_rfl
theorem nt39 : Tryd.f39.ntmps = 18 := by kernel_rfl
theorem nm39 : (Tryd.f39.name == "runtime.NumGoroutine") = false := by kernel_rfl
def a39_0 : List AO := [⟨(some 4), none, .mv (.v (.bool false))⟩]
theorem tr39_0 : (ro Tryd.f39 0).toList.mapM (trO Tryd.prog 18 (ro Tryd.f39 0)) = some a39_0 := by kernel_rfl
def a39_1 : List AO := [⟨(some 6), none, .mv (.t 0)⟩,
  ⟨(some 7), none, .slen (.t 6)⟩,
  ⟨(some 8), none, .mv (.v (.int .i64 0))⟩]
theorem tr39_1 : (ro Tryd.f39 1).toList.mapM (trO Tryd.prog 18 (ro Tryd.f39 1)) = some a39_1 := by kernel_rfl
def a39_2 : List AO := [⟨(some 9), none, .bin .lss (.t 8) (.t 7)⟩]
theorem tr39_2 : (ro Tryd.f39 2).toList.mapM (trO Tryd.prog 18 (ro Tryd.f39 2)) = some a39_2 := by kernel_rfl
def a39_3 : List AO := [⟨(some 10), none, .mv (.t 8)⟩,
  ⟨(some 5), none, .mv (.t 10)⟩]
theorem tr39_3 : (ro Tryd.f39 3).toList.mapM (trO Tryd.prog 18 (ro Tryd.f39 3)) = some a39_3 := by kernel_rfl
def a39_4 : List AO := [⟨(some 11), none, .mv (.t 1)⟩,
  ⟨(some 12), none, .mv (.t 0)⟩,
  ⟨(some 13), none, .mv (.t 5)⟩,
  ⟨(some 14), none, .sidx (.t 12) (.t 13)⟩,
  ⟨(some 15), none, .callv (.t 11) [(.t 14)]⟩,
  ⟨(some 16), none, .un .not (.t 15)⟩]
theorem tr39_4 : (ro Tryd.f39 4).toList.mapM (trO Tryd.prog 18 (ro Tryd.f39 4)) = some a39_4 := by kernel_rfl
def a39_5 : List AO := [⟨(some 4), none, .mv (.v (.bool false))⟩]
theorem tr39_5 : (ro Tryd.f39 5).toList.mapM (trO Tryd.prog 18 (ro Tryd.f39 5)) = some a39_5 := by kernel_rfl
def a39_6 : List AO := [⟨(some 17), none, .bin .add (.t 8) (.v (.int .i64 1))⟩,
  ⟨(some 8), none, .mv (.t 17)⟩]
theorem tr39_6 : (ro Tryd.f39 6).toList.mapM (trO Tryd.prog 18 (ro Tryd.f39 6)) = some a39_6 := by kernel_rfl
def a39_7 : List AO := [⟨(some 4), none, .mv (.v (.bool true))⟩]
theorem tr39_7 : (ro Tryd.f39 7).toList.mapM (trO Tryd.prog 18 (ro Tryd.f39 7)) = some a39_7 := by kernel_rfl
/-- airline/text.Code 1 -/
noncomputable def c40 : Code := .seq (.region 0 (ro Tryd.f40 0) false) (.seq (.region 1 (ro Tryd.f40 1) false) (.ret))
theorem body40 : Tryd.f40.body = some c40 := by kernel_rfl
theorem res40 : Tryd.f40.results.toList.mapM (trR Tryd.prog) = some [.t 2] := by kernel_rfl
theorem nt40 : Tryd.f40.ntmps = 9 := by kernel_rfl
theorem nm40 : (Tryd.f40.name == "runtime.NumGoroutine") = false := by kernel_rfl
def a40_0 : List AO := [⟨(some 2), none, .mv (.v (.bool false))⟩]
theorem tr40_0 : (ro Tryd.f40 0).toList.mapM (trO Tryd.prog 9 (ro Tryd.f40 0)) = some a40_0 := by kernel_rfl
def a40_1 : List AO := [⟨(some 3), none, .mv (.t 0)⟩,
  ⟨(some 4), none, .call 41 [(.t 3)]⟩,
  ⟨(some 5), none, .mv (.t 4)⟩,
  ⟨(some 6), some (5, false), .mv (.t 0)⟩,
  ⟨(some 7), some (5, false), .call 42 [(.t 6)]⟩,
  ⟨(some 8), none, .pick (.t 5) (.v (.bool true)) (.t 7)⟩,
  ⟨(some 2), none, .mv (.t 8)⟩]
theorem tr40_1 : (ro Tryd.f40 1).toList.mapM (trO Tryd.prog 9 (ro Tryd.f40 1)) = some a40_1 := by kernel_rfl
/-- airline/text.capital -/
noncomputable def c41 : Code := .seq (.region 0 (ro Tryd.f41 0) false) (.seq (.region 1 (ro Tryd.f41 1) false) (.ret))
theorem body41 : Tryd.f41.body = some c41 := by kernel_rfl
theorem res41 : Tryd.f41.results.toList.mapM (trR Tryd.prog) = some [.t 2] := by kernel_rfl
theorem nt41 : Tryd.f41.ntmps = 9 := by kernel_rfl
theorem nm41 : (Tryd.f41.name == "runtime.NumGoroutine") = false := by kernel_rfl
def a41_0 : List AO := [⟨(some 2), none, .mv (.v (.bool false))⟩]
theorem tr41_0 : (ro Tryd.f41 0).toList.mapM (trO Tryd.prog 9 (ro Tryd.f41 0)) = some a41_0 := by kernel_rfl
def a41_1 : List AO := [⟨(some 3), none, .mv (.t 0)⟩,
  ⟨(some 4), none, .bin .geq (.t 3) (.v (.int .u8 65))⟩,
  ⟨(some 5), none, .mv (.t 4)⟩,
  ⟨(some 6), some (5, true), .mv (.t 0)⟩,
  ⟨(some 7), some (5, true), .bin .leq (.t 6) (.v (.int .u8 90))⟩,
  ⟨(some 8), none, .pick (.t 5) (.t 7) (.v (.bool false))⟩,
  ⟨(some 2), none, .mv (.t 8)⟩]
theorem tr41_1 : (ro Tryd.f41 1).toList.mapM (trO Tryd.prog 9 (ro Tryd.f41 1)) = some a41_1 := by kernel_rfl
/-- airline/text.digit -/
noncomputable def c42 : Code := .seq (.region 0 (ro Tryd.f42 0) false) (.seq (.region 1 (ro Tryd.f42 1) false) (.ret))
theorem body42 : Tryd.f42.body = some c42 := by kernel_rfl
theorem res42 : Tryd.f42.results.toList.mapM (trR Tryd.prog) = some [.t 2] := by kernel_rfl
theorem nt42 : Tryd.f42.ntmps = 9 := by kernel_rfl
theorem nm42 : (Tryd.f42.name == "runtime.NumGoroutine") = false := by kernel_rfl
def a42_0 : List AO := [⟨(some 2), none, .mv (.v (.bool false))⟩]
theorem tr42_0 : (ro Tryd.f42 0).toList.mapM (trO Tryd.prog 9 (ro Tryd.f42 0)) = some a42_0 := by kernel_rfl
def a42_1 : List AO := [⟨(some 3), none, .mv (.t 0)⟩,
  ⟨(some 4), none, .bin .geq (.t 3) (.v (.int .u8 48))⟩,
  ⟨(some 5), none, .mv (.t 4)⟩,
  ⟨(some 6), some (5, true), .mv (.t 0)⟩,
  ⟨(some 7), some (5, true), .bin .leq (.t 6) (.v (.int .u8 57))⟩,
  ⟨(some 8), none, .pick (.t 5) (.t 7) (.v (.bool false))⟩,
  ⟨(some 2), none, .mv (.t 8)⟩]
theorem tr42_1 : (ro Tryd.f42 1).toList.mapM (trO Tryd.prog 9 (ro Tryd.f42 1)) = some a42_1 := by kernel_rfl
/-- slices.IndexFunc[[]airline/service.Offer,airline/service.Offer] -/
noncomputable def c43 : Code := .seq (.region 0 (ro Tryd.f43 0) false) (.seq (.seq (.region 1 (ro Tryd.f43 1) false) (.block 0 (.loop (.seq (.region 2 (ro Tryd.f43 2) false) (.seq (.cond (.tmp 9) (.skip) (.exit 0)) (.seq (.block 1 (.seq (.region 3 (ro Tryd.f43 3) false) (.seq (.region 4 (ro Tryd.f43 4) false) (.cond (.tmp 16) (.seq (.region 5 (ro Tryd.f43 5) false) (.ret)) (.skip))))) (.region 6 (ro Tryd.f43 6) false))))))) (.seq (.region 7 (ro Tryd.f43 7) false) (.ret)))
theorem body43 : Tryd.f43.body = some c43 := by kernel_rfl
theorem res43 : Tryd.f43.results.toList.mapM (trR Tryd.prog) = some [.t 4] := by kernel_rfl
theorem nt43 : Tryd.f43.ntmps = 19 := by kernel_rfl
theorem nm43 : (Tryd.f43.name == "runtime.NumGoroutine") = false := by kernel_rfl
def a43_0 : List AO := [⟨(some 4), none, .mv (.v (.int .i64 0))⟩]
theorem tr43_0 : (ro Tryd.f43 0).toList.mapM (trO Tryd.prog 19 (ro Tryd.f43 0)) = some a43_0 := by kernel_rfl
def a43_1 : List AO := [⟨(some 6), none, .mv (.t 0)⟩,
  ⟨(some 7), none, .len (.t 6)⟩,
  ⟨(some 8), none, .mv (.v (.int .i64 0))⟩]
theorem tr43_1 : (ro Tryd.f43 1).toList.mapM (trO Tryd.prog 19 (ro Tryd.f43 1)) = some a43_1 := by kernel_rfl
def a43_2 : List AO := [⟨(some 9), none, .bin .lss (.t 8) (.t 7)⟩]
theorem tr43_2 : (ro Tryd.f43 2).toList.mapM (trO Tryd.prog 19 (ro Tryd.f43 2)) = some a43_2 := by kernel_rfl
def a43_3 : List AO := [⟨(some 10), none, .mv (.t 8)⟩,
  ⟨(some 5), none, .mv (.t 10)⟩]
theorem tr43_3 : (ro Tryd.f43 3).toList.mapM (trO Tryd.prog 19 (ro Tryd.f43 3)) = some a43_3 := by kernel_rfl
def a43_4 : List AO := [⟨(some 11), none, .mv (.t 1)⟩,
  ⟨(some 12), none, .mv (.t 0)⟩,
  ⟨(some 13), none, .mv (.t 5)⟩,
  ⟨(some 14), none, .idx 3 (.t 12) (.t 13)⟩,
  ⟨(some 15), none, .load (some 3) (.t 14)⟩,
  ⟨(some 16), none, .callv (.t 11) [(.t 15)]⟩]
theorem tr43_4 : (ro Tryd.f43 4).toList.mapM (trO Tryd.prog 19 (ro Tryd.f43 4)) = some a43_4 := by kernel_rfl
def a43_5 : List AO := [⟨(some 17), none, .mv (.t 5)⟩,
  ⟨(some 4), none, .mv (.t 17)⟩]
theorem tr43_5 : (ro Tryd.f43 5).toList.mapM (trO Tryd.prog 19 (ro Tryd.f43 5)) = some a43_5 := by kernel_rfl
def a43_6 : List AO := [⟨(some 18), none, .bin .add (.t 8) (.v (.int .i64 1))⟩,
  ⟨(some 8), none, .mv (.t 18)⟩]
theorem tr43_6 : (ro Tryd.f43 6).toList.mapM (trO Tryd.prog 19 (ro Tryd.f43 6)) = some a43_6 := by kernel_rfl
def a43_7 : List AO := [⟨(some 4), none, .mv (.v (.int .i64 (-1)))⟩]
theorem tr43_7 : (ro Tryd.f43 7).toList.mapM (trO Tryd.prog 19 (ro Tryd.f43 7)) = some a43_7 := by kernel_rfl
/-- airline/service.find 1 -/
noncomputable def c44 : Code := .seq (.region 0 (ro Tryd.f44 0) false) (.seq (.region 1 (ro Tryd.f44 1) false) (.ret))
theorem body44 : Tryd.f44.body = some c44 := by kernel_rfl
theorem res44 : Tryd.f44.results.toList.mapM (trR Tryd.prog) = some [.t 3] := by kernel_rfl
theorem nt44 : Tryd.f44.ntmps = 7 := by kernel_rfl
theorem nm44 : (Tryd.f44.name == "runtime.NumGoroutine") = false := by kernel_rfl
def a44_0 : List AO := [⟨(some 2), none, .box 61 (.t 0)⟩,
  ⟨(some 3), none, .mv (.v (.bool false))⟩]
theorem tr44_0 : (ro Tryd.f44 0).toList.mapM (trO Tryd.prog 7 (ro Tryd.f44 0)) = some a44_0 := by kernel_rfl
def a44_1 : List AO := [⟨(some 4), none, .load (some 3) (.t 2)⟩,
  ⟨(some 5), none, .load none (.t 1)⟩,
  ⟨(some 6), none, .call 45 [(.t 4), (.t 5)]⟩,
  ⟨(some 3), none, .mv (.t 6)⟩]
theorem tr44_1 : (ro Tryd.f44 1).toList.mapM (trO Tryd.prog 7 (ro Tryd.f44 1)) = some a44_1 := by kernel_rfl
/-- (airline/service.Offer).same -/
noncomputable def c45 : Code := .seq (.region 0 (ro Tryd.f45 0) false) (.seq (.region 1 (ro Tryd.f45 1) false) (.ret))
theorem body45 : Tryd.f45.body = some c45 := by kernel_rfl
theorem res45 : Tryd.f45.results.toList.mapM (trR Tryd.prog) = some [.t 4] := by kernel_rfl
theorem nt45 : Tryd.f45.ntmps = 9 := by kernel_rfl
theorem nm45 : (Tryd.f45.name == "runtime.NumGoroutine") = false := by kernel_rfl
def a45_0 : List AO := [⟨(some 2), none, .box 61 (.t 0)⟩,
  ⟨(some 4), none, .mv (.v (.bool false))⟩]
theorem tr45_0 : (ro Tryd.f45 0).toList.mapM (trO Tryd.prog 9 (ro Tryd.f45 0)) = some a45_0 := by kernel_rfl
def a45_1 : List AO := [⟨(some 5), none, .fld 0 (.t 2)⟩,
  ⟨(some 6), none, .load none (.t 5)⟩,
  ⟨(some 7), none, .mv (.t 1)⟩,
  ⟨(some 8), none, .bin .eql (.t 6) (.t 7)⟩,
  ⟨(some 4), none, .mv (.t 8)⟩]
theorem tr45_1 : (ro Tryd.f45 1).toList.mapM (trO Tryd.prog 9 (ro Tryd.f45 1)) = some a45_1 := by kernel_rfl
/-- slices.Index[[]string,string] -/
noncomputable def c46 : Code := .seq (.region 0 (ro Tryd.f46 0) false) (.seq (.seq (.region 1 (ro Tryd.f46 1) false) (.block 0 (.loop (.seq (.region 2 (ro Tryd.f46 2) false) (.seq (.cond (.tmp 9) (.skip) (.exit 0)) (.seq (.block 1 (.seq (.region 3 (ro Tryd.f46 3) false) (.seq (.region 4 (ro Tryd.f46 4) false) (.cond (.tmp 16) (.seq (.region 5 (ro Tryd.f46 5) false) (.ret)) (.skip))))) (.region 6 (ro Tryd.f46 6) false))))))) (.seq (.region 7 (ro Tryd.f46 7) false) (.ret)))
theorem body46 : Tryd.f46.body = some c46 := by kernel_rfl
theorem res46 : Tryd.f46.results.toList.mapM (trR Tryd.prog) = some [.t 4] := by kernel_rfl
theorem nt46 : Tryd.f46.ntmps = 19 := by kernel_rfl
theorem nm46 : (Tryd.f46.name == "runtime.NumGoroutine") = false := by kernel_rfl
def a46_0 : List AO := [⟨(some 4), none, .mv (.v (.int .i64 0))⟩]
theorem tr46_0 : (ro Tryd.f46 0).toList.mapM (trO Tryd.prog 19 (ro Tryd.f46 0)) = some a46_0 := by kernel_rfl
def a46_1 : List AO := [⟨(some 6), none, .mv (.t 0)⟩,
  ⟨(some 7), none, .len (.t 6)⟩,
  ⟨(some 8), none, .mv (.v (.int .i64 0))⟩]
theorem tr46_1 : (ro Tryd.f46 1).toList.mapM (trO Tryd.prog 19 (ro Tryd.f46 1)) = some a46_1 := by kernel_rfl
def a46_2 : List AO := [⟨(some 9), none, .bin .lss (.t 8) (.t 7)⟩]
theorem tr46_2 : (ro Tryd.f46 2).toList.mapM (trO Tryd.prog 19 (ro Tryd.f46 2)) = some a46_2 := by kernel_rfl
def a46_3 : List AO := [⟨(some 10), none, .mv (.t 8)⟩,
  ⟨(some 5), none, .mv (.t 10)⟩]
theorem tr46_3 : (ro Tryd.f46 3).toList.mapM (trO Tryd.prog 19 (ro Tryd.f46 3)) = some a46_3 := by kernel_rfl
def a46_4 : List AO := [⟨(some 11), none, .mv (.t 1)⟩,
  ⟨(some 12), none, .mv (.t 0)⟩,
  ⟨(some 13), none, .mv (.t 5)⟩,
  ⟨(some 14), none, .idx 1 (.t 12) (.t 13)⟩,
  ⟨(some 15), none, .load none (.t 14)⟩,
  ⟨(some 16), none, .bin .eql (.t 11) (.t 15)⟩]
theorem tr46_4 : (ro Tryd.f46 4).toList.mapM (trO Tryd.prog 19 (ro Tryd.f46 4)) = some a46_4 := by kernel_rfl
def a46_5 : List AO := [⟨(some 17), none, .mv (.t 5)⟩,
  ⟨(some 4), none, .mv (.t 17)⟩]
theorem tr46_5 : (ro Tryd.f46 5).toList.mapM (trO Tryd.prog 19 (ro Tryd.f46 5)) = some a46_5 := by kernel_rfl
def a46_6 : List AO := [⟨(some 18), none, .bin .add (.t 8) (.v (.int .i64 1))⟩,
  ⟨(some 8), none, .mv (.t 18)⟩]
theorem tr46_6 : (ro Tryd.f46 6).toList.mapM (trO Tryd.prog 19 (ro Tryd.f46 6)) = some a46_6 := by kernel_rfl
def a46_7 : List AO := [⟨(some 4), none, .mv (.v (.int .i64 (-1)))⟩]
theorem tr46_7 : (ro Tryd.f46 7).toList.mapM (trO Tryd.prog 19 (ro Tryd.f46 7)) = some a46_7 := by kernel_rfl
/-- airline/airlineref01.digits -/
noncomputable def c47 : Code := .seq (.region 0 (ro Tryd.f47 0) false) (.seq (.seq (.region 1 (ro Tryd.f47 1) false) (.cond (.tmp 4) (.seq (.region 2 (ro Tryd.f47 2) false) (.ret)) (.skip))) (.seq (.region 3 (ro Tryd.f47 3) true) (.ret)))
theorem body47 : Tryd.f47.body = some c47 := by kernel_rfl
theorem res47 : Tryd.f47.results.toList.mapM (trR Tryd.prog) = some [.t 2] := by kernel_rfl
theorem nt47 : Tryd.f47.ntmps = 19 := by kernel_rfl
theorem nm47 : (Tryd.f47.name == "runtime.NumGoroutine") = false := by kernel_rfl
def a47_0 : List AO := [⟨(some 2), none, .mv (.v (.str []))⟩]
theorem tr47_0 : (ro Tryd.f47 0).toList.mapM (trO Tryd.prog 19 (ro Tryd.f47 0)) = some a47_0 := by kernel_rfl
def a47_1 : List AO := [⟨(some 3), none, .mv (.t 0)⟩,
  ⟨(some 4), none, .bin .lss (.t 3) (.v (.int .u64 10))⟩]
theorem tr47_1 : (ro Tryd.f47 1).toList.mapM (trO Tryd.prog 19 (ro Tryd.f47 1)) = some a47_1 := by kernel_rfl
def a47_2 : List AO := [⟨(some 5), none, .mv (.t 0)⟩,
  ⟨(some 6), none, .mv (.t 0)⟩,
  ⟨(some 7), none, .bin .add (.t 6) (.v (.int .u64 1))⟩,
  ⟨(some 8), none, .ssub (some (.t 5)) (some (.t 7)) (.v (.str [48, 49, 50, 51, 52, 53, 54, 55, 56, 57]))⟩,
  ⟨(some 2), none, .mv (.t 8)⟩]
theorem tr47_2 : (ro Tryd.f47 2).toList.mapM (trO Tryd.prog 19 (ro Tryd.f47 2)) = some a47_2 := by kernel_rfl
def a47_3 : List AO := [⟨(some 9), none, .mv (.t 0)⟩,
  ⟨(some 10), none, .bin .quo (.t 9) (.v (.int .u64 10))⟩,
  ⟨(some 11), none, .call 47 [(.t 10)]⟩,
  ⟨(some 12), none, .mv (.t 0)⟩,
  ⟨(some 13), none, .bin .rem (.t 12) (.v (.int .u64 10))⟩,
  ⟨(some 14), none, .mv (.t 0)⟩,
  ⟨(some 15), none, .bin .rem (.t 14) (.v (.int .u64 10))⟩,
  ⟨(some 16), none, .bin .add (.t 15) (.v (.int .u64 1))⟩,
  ⟨(some 17), none, .ssub (some (.t 13)) (some (.t 16)) (.v (.str [48, 49, 50, 51, 52, 53, 54, 55, 56, 57]))⟩,
  ⟨(some 18), none, .bin .add (.t 11) (.t 17)⟩,
  ⟨(some 2), none, .mv (.t 18)⟩]
theorem tr47_3 : (ro Tryd.f47 3).toList.mapM (trO Tryd.prog 19 (ro Tryd.f47 3)) = some a47_3 := by kernel_rfl
def d47_3 : List (List Nat) := [[], [0], [0, 1], [], [3], [], [5], [5, 6], [3, 4, 5, 6, 7], [0, 1, 2, 3, 4, 5, 6, 7, 8], [0, 1, 2, 3, 4, 5, 6, 7, 8, 9]]
theorem ok47_3 : okReg (ro Tryd.f47 3) a47_3 d47_3 = true := by kernel_rfl
/-- airline/airlineref01.upper -/
noncomputable def c48 : Code := .seq (.region 0 (ro Tryd.f48 0) false) (.seq (.region 1 (ro Tryd.f48 1) false) (.ret))
theorem body48 : Tryd.f48.body = some c48 := by kernel_rfl
theorem res48 : Tryd.f48.results.toList.mapM (trR Tryd.prog) = some [.t 2] := by kernel_rfl
theorem nt48 : Tryd.f48.ntmps = 9 := by kernel_rfl
theorem nm48 : (Tryd.f48.name == "runtime.NumGoroutine") = false := by kernel_rfl
def a48_0 : List AO := [⟨(some 2), none, .mv (.v (.bool false))⟩]
theorem tr48_0 : (ro Tryd.f48 0).toList.mapM (trO Tryd.prog 9 (ro Tryd.f48 0)) = some a48_0 := by kernel_rfl
def a48_1 : List AO := [⟨(some 3), none, .mv (.t 0)⟩,
  ⟨(some 4), none, .bin .geq (.t 3) (.v (.int .u8 65))⟩,
  ⟨(some 5), none, .mv (.t 4)⟩,
  ⟨(some 6), some (5, true), .mv (.t 0)⟩,
  ⟨(some 7), some (5, true), .bin .leq (.t 6) (.v (.int .u8 90))⟩,
  ⟨(some 8), none, .pick (.t 5) (.t 7) (.v (.bool false))⟩,
  ⟨(some 2), none, .mv (.t 8)⟩]
theorem tr48_1 : (ro Tryd.f48 1).toList.mapM (trO Tryd.prog 9 (ro Tryd.f48 1)) = some a48_1 := by kernel_rfl
/-- airline/airlineref01.digit -/
noncomputable def c49 : Code := .seq (.region 0 (ro Tryd.f49 0) false) (.seq (.region 1 (ro Tryd.f49 1) false) (.ret))
theorem body49 : Tryd.f49.body = some c49 := by kernel_rfl
theorem res49 : Tryd.f49.results.toList.mapM (trR Tryd.prog) = some [.t 2] := by kernel_rfl
theorem nt49 : Tryd.f49.ntmps = 9 := by kernel_rfl
theorem nm49 : (Tryd.f49.name == "runtime.NumGoroutine") = false := by kernel_rfl
def a49_0 : List AO := [⟨(some 2), none, .mv (.v (.bool false))⟩]
theorem tr49_0 : (ro Tryd.f49 0).toList.mapM (trO Tryd.prog 9 (ro Tryd.f49 0)) = some a49_0 := by kernel_rfl
def a49_1 : List AO := [⟨(some 3), none, .mv (.t 0)⟩,
  ⟨(some 4), none, .bin .geq (.t 3) (.v (.int .u8 48))⟩,
  ⟨(some 5), none, .mv (.t 4)⟩,
  ⟨(some 6), some (5, true), .mv (.t 0)⟩,
  ⟨(some 7), some (5, true), .bin .leq (.t 6) (.v (.int .u8 57))⟩,
  ⟨(some 8), none, .pick (.t 5) (.t 7) (.v (.bool false))⟩,
  ⟨(some 2), none, .mv (.t 8)⟩]
theorem tr49_1 : (ro Tryd.f49 1).toList.mapM (trO Tryd.prog 9 (ro Tryd.f49 1)) = some a49_1 := by kernel_rfl
/-- slices.Index[[]airline/api.Service,airline/api.Service] -/
noncomputable def c50 : Code := .seq (.region 0 (ro Tryd.f50 0) false) (.seq (.seq (.region 1 (ro Tryd.f50 1) false) (.block 0 (.loop (.seq (.region 2 (ro Tryd.f50 2) false) (.seq (.cond (.tmp 9) (.skip) (.exit 0)) (.seq (.block 1 (.seq (.region 3 (ro Tryd.f50 3) false) (.seq (.region 4 (ro Tryd.f50 4) true) (.cond (.tmp 16) (.seq (.region 5 (ro Tryd.f50 5) false) (.ret)) (.skip))))) (.region 6 (ro Tryd.f50 6) false))))))) (.seq (.region 7 (ro Tryd.f50 7) false) (.ret)))
theorem body50 : Tryd.f50.body = some c50 := by kernel_rfl
theorem res50 : Tryd.f50.results.toList.mapM (trR Tryd.prog) = some [.t 4] := by kernel_rfl
theorem nt50 : Tryd.f50.ntmps = 19 := by kernel_rfl
theorem nm50 : (Tryd.f50.name == "runtime.NumGoroutine") = false := by kernel_rfl
def a50_0 : List AO := [⟨(some 3), none, .box 37 (.t 1)⟩,
  ⟨(some 4), none, .mv (.v (.int .i64 0))⟩]
theorem tr50_0 : (ro Tryd.f50 0).toList.mapM (trO Tryd.prog 19 (ro Tryd.f50 0)) = some a50_0 := by kernel_rfl
def a50_1 : List AO := [⟨(some 6), none, .mv (.t 0)⟩,
  ⟨(some 7), none, .len (.t 6)⟩,
  ⟨(some 8), none, .mv (.v (.int .i64 0))⟩]
theorem tr50_1 : (ro Tryd.f50 1).toList.mapM (trO Tryd.prog 19 (ro Tryd.f50 1)) = some a50_1 := by kernel_rfl
def a50_2 : List AO := [⟨(some 9), none, .bin .lss (.t 8) (.t 7)⟩]
theorem tr50_2 : (ro Tryd.f50 2).toList.mapM (trO Tryd.prog 19 (ro Tryd.f50 2)) = some a50_2 := by kernel_rfl
def a50_3 : List AO := [⟨(some 10), none, .mv (.t 8)⟩,
  ⟨(some 5), none, .mv (.t 10)⟩]
theorem tr50_3 : (ro Tryd.f50 3).toList.mapM (trO Tryd.prog 19 (ro Tryd.f50 3)) = some a50_3 := by kernel_rfl
def a50_4 : List AO := [⟨(some 11), none, .load (some 3) (.t 3)⟩,
  ⟨(some 12), none, .mv (.t 0)⟩,
  ⟨(some 13), none, .mv (.t 5)⟩,
  ⟨(some 14), none, .idx 3 (.t 12) (.t 13)⟩,
  ⟨(some 15), none, .load (some 3) (.t 14)⟩,
  ⟨(some 16), none, .bina [.s, .i .i64, .i .i64] .eql (.t 11) (.t 15)⟩]
theorem tr50_4 : (ro Tryd.f50 4).toList.mapM (trO Tryd.prog 19 (ro Tryd.f50 4)) = some a50_4 := by kernel_rfl
def d50_4 : List (List Nat) := [[], [], [], [1, 2], [1, 2, 3], [0, 1, 2, 3, 4]]
theorem ok50_4 : okReg (ro Tryd.f50 4) a50_4 d50_4 = true := by kernel_rfl
def a50_5 : List AO := [⟨(some 17), none, .mv (.t 5)⟩,
  ⟨(some 4), none, .mv (.t 17)⟩]
theorem tr50_5 : (ro Tryd.f50 5).toList.mapM (trO Tryd.prog 19 (ro Tryd.f50 5)) = some a50_5 := by kernel_rfl
def a50_6 : List AO := [⟨(some 18), none, .bin .add (.t 8) (.v (.int .i64 1))⟩,
  ⟨(some 8), none, .mv (.t 18)⟩]
theorem tr50_6 : (ro Tryd.f50 6).toList.mapM (trO Tryd.prog 19 (ro Tryd.f50 6)) = some a50_6 := by kernel_rfl
def a50_7 : List AO := [⟨(some 4), none, .mv (.v (.int .i64 (-1)))⟩]
theorem tr50_7 : (ro Tryd.f50 7).toList.mapM (trO Tryd.prog 19 (ro Tryd.f50 7)) = some a50_7 := by kernel_rfl
end Go.Proofs.YtnlgkeiilenojaaDoor
