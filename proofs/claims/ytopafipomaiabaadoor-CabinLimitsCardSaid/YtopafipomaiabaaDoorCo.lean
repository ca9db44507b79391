/- The code of the functions, region by region, as abstract operations. -/
import Derived.Test.YtopafipomaiabaaDoorProg
import Derived.Test.YtopafipomaiabaaDoorAv21
namespace Go.Proofs.YtopafipomaiabaaDoor
open Go Go.RowKit
def findR : Code → Nat → Option (Array Oper)
  | .region i ops _, k => if i = k then some ops else none
  | .seq a b, k => (findR a k).or (findR b k)
  | .cond _ a b, k => (findR a k).or (findR b k)
  | .block _ c, k => findR c k
  | .loop c, k => findR c k
  | .scope c, k => findR c k
  | _, _ => none
def ro (f : Func) (k : Nat) : Array Oper := ((f.body.bind fun c => findR c k).getD #[])
theorem mixed : Tryd.prog.follows .mixedOrders = true := by kernel_rfl
/-- airline/airlinelaw12.CabinChecks -/
noncomputable def c3 : Code := .seq (.region 0 (ro Tryd.f3 0) false) (.seq (.seq (.region 1 (ro Tryd.f3 1) false) (.cond (.tmp 5) (.seq (.region 2 (ro Tryd.f3 2) false) (.ret)) (.skip))) (.seq (.region 3 (ro Tryd.f3 3) false) (.ret)))
theorem body3 : Tryd.f3.body = some c3 := by kernel_rfl
theorem res3 : Tryd.f3.results.toList.mapM (trR Tryd.prog) = some [.t 2] := by kernel_rfl
theorem nt3 : Tryd.f3.ntmps = 15 := by kernel_rfl
theorem nm3 : (Tryd.f3.name == "runtime.NumGoroutine") = false := by kernel_rfl
def a3_0 : List AO := [⟨(some 2), none, .mv (.v (.bool false))⟩]
theorem tr3_0 : (ro Tryd.f3 0).toList.mapM (trO Tryd.prog 15 (ro Tryd.f3 0)) = some a3_0 := by kernel_rfl
def a3_1 : List AO := [⟨(some 3), none, .mv (.t 0)⟩,
  ⟨(some 4), none, .call 7 [(.t 3)]⟩,
  ⟨(some 5), none, .un .not (.t 4)⟩]
theorem tr3_1 : (ro Tryd.f3 1).toList.mapM (trO Tryd.prog 15 (ro Tryd.f3 1)) = some a3_1 := by kernel_rfl
def a3_2 : List AO := [⟨(some 6), none, .call 8 []⟩,
  ⟨(some 2), none, .mv (.t 6)⟩]
theorem tr3_2 : (ro Tryd.f3 2).toList.mapM (trO Tryd.prog 15 (ro Tryd.f3 2)) = some a3_2 := by kernel_rfl
def a3_3 : List AO := [⟨(some 7), none, .mv (.t 0)⟩,
  ⟨(some 8), none, .call 10 [(.t 7)]⟩,
  ⟨(some 9), none, .mv (.t 0)⟩,
  ⟨(some 10), none, .call 11 [(.t 9)]⟩,
  ⟨(some 11), none, .call 9 [(.t 8), (.t 10)]⟩,
  ⟨(some 12), none, .mv (.t 11)⟩,
  ⟨(some 13), some (12, true), .call 8 []⟩,
  ⟨(some 14), none, .pick (.t 12) (.t 13) (.v (.bool false))⟩,
  ⟨(some 2), none, .mv (.t 14)⟩]
theorem tr3_3 : (ro Tryd.f3 3).toList.mapM (trO Tryd.prog 15 (ro Tryd.f3 3)) = some a3_3 := by kernel_rfl
/-- airline/airlinelaw12.CabinFinds -/
noncomputable def c4 : Code := .seq (.region 0 (ro Tryd.f4 0) false) (.seq (.seq (.region 1 (ro Tryd.f4 1) false) (.cond (.tmp 25) (.seq (.region 2 (ro Tryd.f4 2) false) (.ret)) (.skip))) (.seq (.region 3 (ro Tryd.f4 3) false) (.seq (.region 4 (ro Tryd.f4 4) false) (.seq (.seq (.region 5 (ro Tryd.f4 5) false) (.cond (.tmp 47) (.seq (.region 6 (ro Tryd.f4 6) false) (.ret)) (.skip))) (.seq (.region 7 (ro Tryd.f4 7) false) (.seq (.region 8 (ro Tryd.f4 8) false) (.seq (.seq (.region 9 (ro Tryd.f4 9) false) (.cond (.tmp 74) (.seq (.region 10 (ro Tryd.f4 10) false) (.ret)) (.skip))) (.seq (.region 11 (ro Tryd.f4 11) false) (.seq (.seq (.region 12 (ro Tryd.f4 12) false) (.block 0 (.loop (.seq (.seq (.region 13 (ro Tryd.f4 13) false) (.cond (.tmp 86) (.skip) (.exit 0))) (.seq (.block 1 (.seq (.region 15 (ro Tryd.f4 15) false) (.block 2 (.loop (.seq (.seq (.region 16 (ro Tryd.f4 16) false) (.cond (.tmp 97) (.skip) (.exit 2))) (.seq (.block 3 (.seq (.region 18 (ro Tryd.f4 18) true) (.seq (.region 19 (ro Tryd.f4 19) false) (.cond (.tmp 127) (.seq (.region 20 (ro Tryd.f4 20) false) (.ret)) (.skip))))) (.region 17 (ro Tryd.f4 17) false))))))) (.region 14 (ro Tryd.f4 14) false)))))) (.seq (.region 21 (ro Tryd.f4 21) false) (.ret)))))))))))
theorem body4 : Tryd.f4.body = some c4 := by kernel_rfl
theorem res4 : Tryd.f4.results.toList.mapM (trR Tryd.prog) = some [.t 6] := by kernel_rfl
theorem nt4 : Tryd.f4.ntmps = 129 := by kernel_rfl
theorem nm4 : (Tryd.f4.name == "runtime.NumGoroutine") = false := by kernel_rfl
def a4_0 : List AO := [⟨(some 6), none, .mv (.v (.bool false))⟩]
theorem tr4_0 : (ro Tryd.f4 0).toList.mapM (trO Tryd.prog 129 (ro Tryd.f4 0)) = some a4_0 := by kernel_rfl
def a4_1 : List AO := [⟨(some 23), none, .mv (.t 0)⟩,
  ⟨(some 24), none, .call 7 [(.t 23)]⟩,
  ⟨(some 25), none, .un .not (.t 24)⟩]
theorem tr4_1 : (ro Tryd.f4 1).toList.mapM (trO Tryd.prog 129 (ro Tryd.f4 1)) = some a4_1 := by kernel_rfl
def a4_2 : List AO := [⟨(some 26), none, .call 8 []⟩,
  ⟨(some 6), none, .mv (.t 26)⟩]
theorem tr4_2 : (ro Tryd.f4 2).toList.mapM (trO Tryd.prog 129 (ro Tryd.f4 2)) = some a4_2 := by kernel_rfl
def a4_3 : List AO := [⟨(some 28), none, .mv (.t 0)⟩,
  ⟨(some 29), none, .mv (.t 1)⟩,
  ⟨(some 30), none, .call 12 [(.t 28), (.t 29)]⟩,
  ⟨(some 27), none, .mv (.t 30)⟩,
  ⟨(some 31), none, .ext 0 (.t 27)⟩,
  ⟨(some 32), none, .ext 1 (.t 27)⟩,
  ⟨(some 7), none, .alloc 30 [(.str []), .nils]⟩,
  ⟨none, none, .store 2 (.t 7) (.t 31)⟩,
  ⟨(some 8), none, .mv (.t 32)⟩]
theorem tr4_3 : (ro Tryd.f4 3).toList.mapM (trO Tryd.prog 129 (ro Tryd.f4 3)) = some a4_3 := by kernel_rfl
def a4_4 : List AO := [⟨(some 34), none, .mv (.t 0)⟩,
  ⟨(some 35), none, .mv (.t 1)⟩,
  ⟨(some 36), none, .call 13 [(.t 34), (.t 35)]⟩,
  ⟨(some 33), none, .mv (.t 36)⟩,
  ⟨(some 37), none, .ext 0 (.t 33)⟩,
  ⟨(some 38), none, .ext 1 (.t 33)⟩,
  ⟨(some 9), none, .alloc 30 [(.str []), .nils]⟩,
  ⟨none, none, .store 2 (.t 9) (.t 37)⟩,
  ⟨(some 10), none, .mv (.t 38)⟩]
theorem tr4_4 : (ro Tryd.f4 4).toList.mapM (trO Tryd.prog 129 (ro Tryd.f4 4)) = some a4_4 := by kernel_rfl
def a4_5 : List AO := [⟨(some 39), none, .load (some 2) (.t 7)⟩,
  ⟨(some 40), none, .load (some 2) (.t 9)⟩,
  ⟨(some 41), none, .call 14 [(.t 39), (.t 40)]⟩,
  ⟨(some 42), none, .un .not (.t 41)⟩,
  ⟨(some 43), none, .mv (.t 42)⟩,
  ⟨(some 44), some (43, false), .mv (.t 8)⟩,
  ⟨(some 45), some (43, false), .mv (.t 10)⟩,
  ⟨(some 46), some (43, false), .binb .neq (.t 44) (.t 45)⟩,
  ⟨(some 47), none, .pick (.t 43) (.v (.bool true)) (.t 46)⟩]
theorem tr4_5 : (ro Tryd.f4 5).toList.mapM (trO Tryd.prog 129 (ro Tryd.f4 5)) = some a4_5 := by kernel_rfl
def a4_6 : List AO := [⟨(some 6), none, .mv (.v (.bool false))⟩]
theorem tr4_6 : (ro Tryd.f4 6).toList.mapM (trO Tryd.prog 129 (ro Tryd.f4 6)) = some a4_6 := by kernel_rfl
def a4_7 : List AO := [⟨(some 49), none, .load (some 2) (.t 9)⟩,
  ⟨(some 50), none, .mv (.t 2)⟩,
  ⟨(some 51), none, .call 15 [(.t 49), (.t 50)]⟩,
  ⟨(some 48), none, .mv (.t 51)⟩,
  ⟨(some 52), none, .ext 0 (.t 48)⟩,
  ⟨(some 53), none, .ext 1 (.t 48)⟩,
  ⟨(some 54), none, .ext 2 (.t 48)⟩,
  ⟨(some 11), none, .mv (.t 52)⟩,
  ⟨(some 12), none, .mv (.t 53)⟩,
  ⟨(some 13), none, .mv (.t 54)⟩]
theorem tr4_7 : (ro Tryd.f4 7).toList.mapM (trO Tryd.prog 129 (ro Tryd.f4 7)) = some a4_7 := by kernel_rfl
def a4_8 : List AO := [⟨(some 56), none, .load (some 2) (.t 9)⟩,
  ⟨(some 57), none, .mv (.t 2)⟩,
  ⟨(some 58), none, .call 16 [(.t 56), (.t 57)]⟩,
  ⟨(some 55), none, .mv (.t 58)⟩,
  ⟨(some 59), none, .ext 0 (.t 55)⟩,
  ⟨(some 60), none, .ext 1 (.t 55)⟩,
  ⟨(some 61), none, .ext 2 (.t 55)⟩,
  ⟨(some 14), none, .mv (.t 59)⟩,
  ⟨(some 15), none, .mv (.t 60)⟩,
  ⟨(some 16), none, .mv (.t 61)⟩]
theorem tr4_8 : (ro Tryd.f4 8).toList.mapM (trO Tryd.prog 129 (ro Tryd.f4 8)) = some a4_8 := by kernel_rfl
def a4_9 : List AO := [⟨(some 62), none, .mv (.t 11)⟩,
  ⟨(some 63), none, .mv (.t 14)⟩,
  ⟨(some 64), none, .bin .neq (.t 62) (.t 63)⟩,
  ⟨(some 65), none, .mv (.t 64)⟩,
  ⟨(some 66), some (65, false), .mv (.t 12)⟩,
  ⟨(some 67), some (65, false), .mv (.t 15)⟩,
  ⟨(some 68), some (65, false), .bin .neq (.t 66) (.t 67)⟩,
  ⟨(some 69), none, .pick (.t 65) (.v (.bool true)) (.t 68)⟩,
  ⟨(some 70), none, .mv (.t 69)⟩,
  ⟨(some 71), some (70, false), .mv (.t 13)⟩,
  ⟨(some 72), some (70, false), .mv (.t 16)⟩,
  ⟨(some 73), some (70, false), .binb .neq (.t 71) (.t 72)⟩,
  ⟨(some 74), none, .pick (.t 70) (.v (.bool true)) (.t 73)⟩]
theorem tr4_9 : (ro Tryd.f4 9).toList.mapM (trO Tryd.prog 129 (ro Tryd.f4 9)) = some a4_9 := by kernel_rfl
def a4_10 : List AO := [⟨(some 6), none, .mv (.v (.bool false))⟩]
theorem tr4_10 : (ro Tryd.f4 10).toList.mapM (trO Tryd.prog 129 (ro Tryd.f4 10)) = some a4_10 := by kernel_rfl
def a4_11 : List AO := [⟨(some 75), none, .mv (.t 0)⟩,
  ⟨(some 76), none, .call 11 [(.t 75)]⟩,
  ⟨(some 77), none, .len (.t 76)⟩,
  ⟨(some 78), none, .bin .eql (.t 77) (.v (.int .i64 0))⟩,
  ⟨(some 17), none, .mv (.t 78)⟩]
theorem tr4_11 : (ro Tryd.f4 11).toList.mapM (trO Tryd.prog 129 (ro Tryd.f4 11)) = some a4_11 := by kernel_rfl
def a4_12 : List AO := [⟨(some 18), none, .mv (.v (.int .i64 0))⟩]
theorem tr4_12 : (ro Tryd.f4 12).toList.mapM (trO Tryd.prog 129 (ro Tryd.f4 12)) = some a4_12 := by kernel_rfl
def a4_13 : List AO := [⟨(some 79), none, .mv (.t 18)⟩,
  ⟨(some 80), none, .fld 1 (.t 9)⟩,
  ⟨(some 81), none, .load none (.t 80)⟩,
  ⟨(some 82), none, .len (.t 81)⟩,
  ⟨(some 83), none, .bin .lss (.t 79) (.t 82)⟩,
  ⟨(some 84), none, .mv (.t 83)⟩,
  ⟨(some 85), some (84, true), .mv (.t 17)⟩,
  ⟨(some 86), none, .pick (.t 84) (.t 85) (.v (.bool false))⟩]
theorem tr4_13 : (ro Tryd.f4 13).toList.mapM (trO Tryd.prog 129 (ro Tryd.f4 13)) = some a4_13 := by kernel_rfl
def a4_15 : List AO := [⟨(some 19), none, .mv (.v (.int .i64 0))⟩]
theorem tr4_15 : (ro Tryd.f4 15).toList.mapM (trO Tryd.prog 129 (ro Tryd.f4 15)) = some a4_15 := by kernel_rfl
def a4_16 : List AO := [⟨(some 89), none, .mv (.t 19)⟩,
  ⟨(some 90), none, .fld 1 (.t 9)⟩,
  ⟨(some 91), none, .load none (.t 90)⟩,
  ⟨(some 92), none, .mv (.t 18)⟩,
  ⟨(some 93), none, .idx 4 (.t 91) (.t 92)⟩,
  ⟨(some 94), none, .fld 3 (.t 93)⟩,
  ⟨(some 95), none, .load none (.t 94)⟩,
  ⟨(some 96), none, .len (.t 95)⟩,
  ⟨(some 97), none, .bin .lss (.t 89) (.t 96)⟩]
theorem tr4_16 : (ro Tryd.f4 16).toList.mapM (trO Tryd.prog 129 (ro Tryd.f4 16)) = some a4_16 := by kernel_rfl
def a4_18 : List AO := [⟨(some 101), none, .load (some 2) (.t 9)⟩,
  ⟨(some 102), none, .fld 1 (.t 9)⟩,
  ⟨(some 103), none, .load none (.t 102)⟩,
  ⟨(some 104), none, .mv (.t 18)⟩,
  ⟨(some 105), none, .idx 4 (.t 103) (.t 104)⟩,
  ⟨(some 106), none, .fld 3 (.t 105)⟩,
  ⟨(some 107), none, .load none (.t 106)⟩,
  ⟨(some 108), none, .mv (.t 19)⟩,
  ⟨(some 109), none, .idx 2 (.t 107) (.t 108)⟩,
  ⟨(some 110), none, .fld 0 (.t 109)⟩,
  ⟨(some 111), none, .load none (.t 110)⟩,
  ⟨(some 112), none, .call 15 [(.t 101), (.t 111)]⟩,
  ⟨(some 100), none, .mv (.t 112)⟩,
  ⟨(some 113), none, .ext 0 (.t 100)⟩,
  ⟨(some 114), none, .ext 1 (.t 100)⟩,
  ⟨(some 115), none, .ext 2 (.t 100)⟩,
  ⟨(some 20), none, .mv (.t 113)⟩,
  ⟨(some 21), none, .mv (.t 114)⟩,
  ⟨(some 22), none, .mv (.t 115)⟩]
theorem tr4_18 : (ro Tryd.f4 18).toList.mapM (trO Tryd.prog 129 (ro Tryd.f4 18)) = some a4_18 := by kernel_rfl
def d4_18 : List (List Nat) := [[], [], [1], [], [1, 2, 3], [1, 2, 3, 4], [1, 2, 3, 4, 5], [], [1, 2, 3, 4, 5, 6, 7], [1, 2, 3, 4, 5, 6, 7, 8], [1, 2, 3, 4, 5, 6, 7, 8, 9], [0, 1, 2, 3, 4, 5, 6, 7, 8, 9, 10], [0, 1, 2, 3, 4, 5, 6, 7, 8, 9, 10, 11], [0, 1, 2, 3, 4, 5, 6, 7, 8, 9, 10, 11, 12], [0, 1, 2, 3, 4, 5, 6, 7, 8, 9, 10, 11, 12], [0, 1, 2, 3, 4, 5, 6, 7, 8, 9, 10, 11, 12], [0, 1, 2, 3, 4, 5, 6, 7, 8, 9, 10, 11, 12, 13], [0, 1, 2, 3, 4, 5, 6, 7, 8, 9, 10, 11, 12, 13, 14, 16], [0, 1, 2, 3, 4, 5, 6, 7, 8, 9, 10, 11, 12, 13, 14, 15, 16, 17]]
theorem ok4_18 : okReg (ro Tryd.f4 18) a4_18 d4_18 = true := by kernel_rfl
def a4_19 : List AO := [⟨(some 116), none, .mv (.t 20)⟩,
  ⟨(some 117), none, .mv (.t 18)⟩,
  ⟨(some 118), none, .bin .neq (.t 116) (.t 117)⟩,
  ⟨(some 119), none, .mv (.t 118)⟩,
  ⟨(some 120), some (119, false), .mv (.t 21)⟩,
  ⟨(some 121), some (119, false), .mv (.t 19)⟩,
  ⟨(some 122), some (119, false), .bin .neq (.t 120) (.t 121)⟩,
  ⟨(some 123), none, .pick (.t 119) (.v (.bool true)) (.t 122)⟩,
  ⟨(some 124), none, .mv (.t 123)⟩,
  ⟨(some 125), some (124, false), .mv (.t 22)⟩,
  ⟨(some 126), some (124, false), .un .not (.t 125)⟩,
  ⟨(some 127), none, .pick (.t 124) (.v (.bool true)) (.t 126)⟩]
theorem tr4_19 : (ro Tryd.f4 19).toList.mapM (trO Tryd.prog 129 (ro Tryd.f4 19)) = some a4_19 := by kernel_rfl
def a4_20 : List AO := [⟨(some 6), none, .mv (.v (.bool false))⟩]
theorem tr4_20 : (ro Tryd.f4 20).toList.mapM (trO Tryd.prog 129 (ro Tryd.f4 20)) = some a4_20 := by kernel_rfl
def a4_17 : List AO := [⟨(some 98), none, .mv (.t 19)⟩,
  ⟨(some 99), none, .bin .add (.t 98) (.v (.int .i64 1))⟩,
  ⟨(some 19), none, .mv (.t 99)⟩]
theorem tr4_17 : (ro Tryd.f4 17).toList.mapM (trO Tryd.prog 129 (ro Tryd.f4 17)) = some a4_17 := by kernel_rfl
def a4_14 : List AO := [⟨(some 87), none, .mv (.t 18)⟩,
  ⟨(some 88), none, .bin .add (.t 87) (.v (.int .i64 1))⟩,
  ⟨(some 18), none, .mv (.t 88)⟩]
theorem tr4_14 : (ro Tryd.f4 14).toList.mapM (trO Tryd.prog 129 (ro Tryd.f4 14)) = some a4_14 := by kernel_rfl
def a4_21 : List AO := [⟨(some 128), none, .call 8 []⟩,
  ⟨(some 6), none, .mv (.t 128)⟩]
theorem tr4_21 : (ro Tryd.f4 21).toList.mapM (trO Tryd.prog 129 (ro Tryd.f4 21)) = some a4_21 := by kernel_rfl
/-- airline/airlinelaw12.CabinLimits -/
noncomputable def c5 : Code := .seq (.region 0 (ro Tryd.f5 0) false) (.seq (.seq (.region 1 (ro Tryd.f5 1) false) (.cond (.tmp 17) (.seq (.region 2 (ro Tryd.f5 2) false) (.ret)) (.skip))) (.seq (.seq (.region 3 (ro Tryd.f5 3) false) (.block 0 (.loop (.seq (.seq (.region 4 (ro Tryd.f5 4) false) (.cond (.tmp 22) (.skip) (.exit 0))) (.seq (.block 1 (.seq (.region 6 (ro Tryd.f5 6) false) (.block 2 (.loop (.seq (.seq (.region 7 (ro Tryd.f5 7) false) (.cond (.tmp 32) (.skip) (.exit 2))) (.seq (.block 3 (.seq (.region 9 (ro Tryd.f5 9) false) (.seq (.region 10 (ro Tryd.f5 10) true) (.seq (.seq (.region 11 (ro Tryd.f5 11) true) (.cond (.tmp 58) (.seq (.region 12 (ro Tryd.f5 12) false) (.ret)) (.skip))) (.seq (.region 13 (ro Tryd.f5 13) false) (.block 4 (.loop (.seq (.seq (.region 14 (ro Tryd.f5 14) false) (.cond (.tmp 62) (.skip) (.exit 4))) (.seq (.block 5 (.seq (.region 16 (ro Tryd.f5 16) true) (.cond (.tmp 96) (.seq (.region 17 (ro Tryd.f5 17) false) (.ret)) (.skip)))) (.region 15 (ro Tryd.f5 15) false)))))))))) (.region 8 (ro Tryd.f5 8) false))))))) (.region 5 (ro Tryd.f5 5) false)))))) (.seq (.region 18 (ro Tryd.f5 18) false) (.ret))))
theorem body5 : Tryd.f5.body = some c5 := by kernel_rfl
theorem res5 : Tryd.f5.results.toList.mapM (trR Tryd.prog) = some [.t 2] := by kernel_rfl
theorem nt5 : Tryd.f5.ntmps = 98 := by kernel_rfl
theorem nm5 : (Tryd.f5.name == "runtime.NumGoroutine") = false := by kernel_rfl
def a5_0 : List AO := [⟨(some 2), none, .mv (.v (.bool false))⟩]
theorem tr5_0 : (ro Tryd.f5 0).toList.mapM (trO Tryd.prog 98 (ro Tryd.f5 0)) = some a5_0 := by kernel_rfl
def a5_1 : List AO := [⟨(some 9), none, .mv (.t 0)⟩,
  ⟨(some 10), none, .call 7 [(.t 9)]⟩,
  ⟨(some 11), none, .un .not (.t 10)⟩,
  ⟨(some 12), none, .mv (.t 11)⟩,
  ⟨(some 13), some (12, false), .mv (.t 0)⟩,
  ⟨(some 14), some (12, false), .call 11 [(.t 13)]⟩,
  ⟨(some 15), some (12, false), .len (.t 14)⟩,
  ⟨(some 16), some (12, false), .bin .gtr (.t 15) (.v (.int .i64 0))⟩,
  ⟨(some 17), none, .pick (.t 12) (.v (.bool true)) (.t 16)⟩]
theorem tr5_1 : (ro Tryd.f5 1).toList.mapM (trO Tryd.prog 98 (ro Tryd.f5 1)) = some a5_1 := by kernel_rfl
def a5_2 : List AO := [⟨(some 18), none, .call 8 []⟩,
  ⟨(some 2), none, .mv (.t 18)⟩]
theorem tr5_2 : (ro Tryd.f5 2).toList.mapM (trO Tryd.prog 98 (ro Tryd.f5 2)) = some a5_2 := by kernel_rfl
def a5_3 : List AO := [⟨(some 3), none, .mv (.v (.int .i64 0))⟩]
theorem tr5_3 : (ro Tryd.f5 3).toList.mapM (trO Tryd.prog 98 (ro Tryd.f5 3)) = some a5_3 := by kernel_rfl
def a5_4 : List AO := [⟨(some 19), none, .mv (.t 3)⟩,
  ⟨(some 20), none, .mv (.t 0)⟩,
  ⟨(some 21), none, .len (.t 20)⟩,
  ⟨(some 22), none, .bin .lss (.t 19) (.t 21)⟩]
theorem tr5_4 : (ro Tryd.f5 4).toList.mapM (trO Tryd.prog 98 (ro Tryd.f5 4)) = some a5_4 := by kernel_rfl
def a5_6 : List AO := [⟨(some 4), none, .mv (.v (.int .i64 0))⟩]
theorem tr5_6 : (ro Tryd.f5 6).toList.mapM (trO Tryd.prog 98 (ro Tryd.f5 6)) = some a5_6 := by kernel_rfl
def a5_7 : List AO := [⟨(some 25), none, .mv (.t 4)⟩,
  ⟨(some 26), none, .mv (.t 0)⟩,
  ⟨(some 27), none, .mv (.t 3)⟩,
  ⟨(some 28), none, .idx 2 (.t 26) (.t 27)⟩,
  ⟨(some 29), none, .fld 1 (.t 28)⟩,
  ⟨(some 30), none, .load none (.t 29)⟩,
  ⟨(some 31), none, .len (.t 30)⟩,
  ⟨(some 32), none, .bin .lss (.t 25) (.t 31)⟩]
theorem tr5_7 : (ro Tryd.f5 7).toList.mapM (trO Tryd.prog 98 (ro Tryd.f5 7)) = some a5_7 := by kernel_rfl
def a5_9 : List AO := [⟨(some 35), none, .mv (.t 0)⟩,
  ⟨(some 36), none, .mv (.t 3)⟩,
  ⟨(some 37), none, .idx 2 (.t 35) (.t 36)⟩,
  ⟨(some 38), none, .fld 1 (.t 37)⟩,
  ⟨(some 39), none, .load none (.t 38)⟩,
  ⟨(some 40), none, .mv (.t 4)⟩,
  ⟨(some 41), none, .idx 4 (.t 39) (.t 40)⟩,
  ⟨(some 42), none, .load (some 4) (.t 41)⟩,
  ⟨(some 5), none, .alloc 38 [(.str []), (.int .i64 0), (.int .i64 0), .nils]⟩,
  ⟨none, none, .store 4 (.t 5) (.t 42)⟩]
theorem tr5_9 : (ro Tryd.f5 9).toList.mapM (trO Tryd.prog 98 (ro Tryd.f5 9)) = some a5_9 := by kernel_rfl
def a5_10 : List AO := [⟨(some 43), none, .load (some 4) (.t 5)⟩,
  ⟨(some 44), none, .call 17 [(.t 43)]⟩,
  ⟨(some 45), none, .load (some 4) (.t 5)⟩,
  ⟨(some 46), none, .call 18 [(.t 45)]⟩,
  ⟨(some 6), none, .mv (.t 44)⟩,
  ⟨(some 7), none, .mv (.t 46)⟩]
theorem tr5_10 : (ro Tryd.f5 10).toList.mapM (trO Tryd.prog 98 (ro Tryd.f5 10)) = some a5_10 := by kernel_rfl
def d5_10 : List (List Nat) := [[], [0], [], [0, 1, 2], [0, 1, 2, 3], [0, 1, 2, 3, 4]]
theorem ok5_10 : okReg (ro Tryd.f5 10) a5_10 d5_10 = true := by kernel_rfl
def a5_11 : List AO := [⟨(some 47), none, .load (some 4) (.t 5)⟩,
  ⟨(some 48), none, .call 19 [(.t 47)]⟩,
  ⟨(some 49), none, .load (some 4) (.t 5)⟩,
  ⟨(some 50), none, .call 20 [(.t 49)]⟩,
  ⟨(some 51), none, .bin .neq (.t 48) (.t 50)⟩,
  ⟨(some 52), none, .mv (.t 51)⟩,
  ⟨(some 53), some (52, false), .mv (.t 6)⟩,
  ⟨(some 54), some (52, false), .len (.t 53)⟩,
  ⟨(some 55), some (52, false), .mv (.t 7)⟩,
  ⟨(some 56), some (52, false), .len (.t 55)⟩,
  ⟨(some 57), some (52, false), .bin .neq (.t 54) (.t 56)⟩,
  ⟨(some 58), none, .pick (.t 52) (.v (.bool true)) (.t 57)⟩]
theorem tr5_11 : (ro Tryd.f5 11).toList.mapM (trO Tryd.prog 98 (ro Tryd.f5 11)) = some a5_11 := by kernel_rfl
def d5_11 : List (List Nat) := [[], [0], [], [0, 1, 2], [0, 1, 2, 3], [0, 1, 2, 3, 4], [0, 1, 2, 3, 4, 5], [0, 1, 2, 3, 4, 5, 6], [0, 1, 2, 3, 4, 5], [0, 1, 2, 3, 4, 5, 8], [0, 1, 2, 3, 4, 5, 6, 7, 8, 9], [0, 1, 2, 3, 4, 5, 6, 7, 8, 9, 10]]
theorem ok5_11 : okReg (ro Tryd.f5 11) a5_11 d5_11 = true := by kernel_rfl
def a5_12 : List AO := [⟨(some 2), none, .mv (.v (.bool false))⟩]
theorem tr5_12 : (ro Tryd.f5 12).toList.mapM (trO Tryd.prog 98 (ro Tryd.f5 12)) = some a5_12 := by kernel_rfl
def a5_13 : List AO := [⟨(some 8), none, .mv (.v (.int .i64 0))⟩]
theorem tr5_13 : (ro Tryd.f5 13).toList.mapM (trO Tryd.prog 98 (ro Tryd.f5 13)) = some a5_13 := by kernel_rfl
def a5_14 : List AO := [⟨(some 59), none, .mv (.t 8)⟩,
  ⟨(some 60), none, .mv (.t 6)⟩,
  ⟨(some 61), none, .len (.t 60)⟩,
  ⟨(some 62), none, .bin .lss (.t 59) (.t 61)⟩]
theorem tr5_14 : (ro Tryd.f5 14).toList.mapM (trO Tryd.prog 98 (ro Tryd.f5 14)) = some a5_14 := by kernel_rfl
def a5_16 : List AO := [⟨(some 65), none, .mv (.t 6)⟩,
  ⟨(some 66), none, .mv (.t 8)⟩,
  ⟨(some 67), none, .idx 1 (.t 65) (.t 66)⟩,
  ⟨(some 68), none, .load none (.t 67)⟩,
  ⟨(some 69), none, .mv (.t 7)⟩,
  ⟨(some 70), none, .mv (.t 8)⟩,
  ⟨(some 71), none, .idx 1 (.t 69) (.t 70)⟩,
  ⟨(some 72), none, .load none (.t 71)⟩,
  ⟨(some 73), none, .bin .neq (.t 68) (.t 72)⟩,
  ⟨(some 74), none, .mv (.t 73)⟩,
  ⟨(some 75), some (74, false), .mv (.t 6)⟩,
  ⟨(some 76), some (74, false), .mv (.t 8)⟩,
  ⟨(some 77), some (74, false), .idx 1 (.t 75) (.t 76)⟩,
  ⟨(some 78), some (74, false), .load none (.t 77)⟩,
  ⟨(some 79), some (74, false), .bin .lss (.t 78) (.v (.int .i64 0))⟩,
  ⟨(some 80), none, .pick (.t 74) (.v (.bool true)) (.t 79)⟩,
  ⟨(some 81), none, .mv (.t 80)⟩,
  ⟨(some 82), some (81, false), .mv (.t 8)⟩,
  ⟨(some 83), some (81, false), .bin .gtr (.t 82) (.v (.int .i64 0))⟩,
  ⟨(some 84), some (81, false), .mv (.t 83)⟩,
  ⟨(some 85), some (84, true), .mv (.t 6)⟩,
  ⟨(some 86), some (84, true), .mv (.t 8)⟩,
  ⟨(some 87), some (84, true), .idx 1 (.t 85) (.t 86)⟩,
  ⟨(some 88), some (84, true), .load none (.t 87)⟩,
  ⟨(some 89), some (84, true), .mv (.t 6)⟩,
  ⟨(some 90), some (84, true), .mv (.t 8)⟩,
  ⟨(some 91), some (84, true), .bin .sub (.t 90) (.v (.int .i64 1))⟩,
  ⟨(some 92), some (84, true), .idx 1 (.t 89) (.t 91)⟩,
  ⟨(some 93), some (84, true), .load none (.t 92)⟩,
  ⟨(some 94), some (84, true), .bin .gtr (.t 88) (.t 93)⟩,
  ⟨(some 95), some (81, false), .pick (.t 84) (.t 94) (.v (.bool false))⟩,
  ⟨(some 96), none, .pick (.t 81) (.v (.bool true)) (.t 95)⟩]
theorem tr5_16 : (ro Tryd.f5 16).toList.mapM (trO Tryd.prog 98 (ro Tryd.f5 16)) = some a5_16 := by kernel_rfl
def d5_16 : List (List Nat) := [[], [], [0, 1], [0, 1, 2], [], [], [4, 5], [4, 5, 6], [0, 1, 2, 3, 4, 5, 6, 7], [0, 1, 2, 3, 4, 5, 6, 7, 8], [0, 1, 2, 3, 4, 5, 6, 7, 8, 9], [0, 1, 2, 3, 4, 5, 6, 7, 8, 9], [0, 1, 2, 3, 4, 5, 6, 7, 8, 9, 10, 11], [0, 1, 2, 3, 4, 5, 6, 7, 8, 9, 10, 11, 12], [0, 1, 2, 3, 4, 5, 6, 7, 8, 9, 10, 11, 12, 13], [0, 1, 2, 3, 4, 5, 6, 7, 8, 9, 10, 11, 12, 13, 14], [0, 1, 2, 3, 4, 5, 6, 7, 8, 9, 10, 11, 12, 13, 14, 15], [0, 1, 2, 3, 4, 5, 6, 7, 8, 9, 10, 11, 12, 13, 14, 15, 16], [0, 1, 2, 3, 4, 5, 6, 7, 8, 9, 10, 11, 12, 13, 14, 15, 16, 17], [0, 1, 2, 3, 4, 5, 6, 7, 8, 9, 10, 11, 12, 13, 14, 15, 16, 17, 18], [0, 1, 2, 3, 4, 5, 6, 7, 8, 9, 10, 11, 12, 13, 14, 15, 16, 17, 18, 19], [0, 1, 2, 3, 4, 5, 6, 7, 8, 9, 10, 11, 12, 13, 14, 15, 16, 17, 18, 19], [0, 1, 2, 3, 4, 5, 6, 7, 8, 9, 10, 11, 12, 13, 14, 15, 16, 17, 18, 19, 20, 21], [0, 1, 2, 3, 4, 5, 6, 7, 8, 9, 10, 11, 12, 13, 14, 15, 16, 17, 18, 19, 20, 21, 22], [0, 1, 2, 3, 4, 5, 6, 7, 8, 9, 10, 11, 12, 13, 14, 15, 16, 17, 18, 19], [0, 1, 2, 3, 4, 5, 6, 7, 8, 9, 10, 11, 12, 13, 14, 15, 16, 17, 18, 19], [0, 1, 2, 3, 4, 5, 6, 7, 8, 9, 10, 11, 12, 13, 14, 15, 16, 17, 18, 19, 25], [0, 1, 2, 3, 4, 5, 6, 7, 8, 9, 10, 11, 12, 13, 14, 15, 16, 17, 18, 19, 24, 25, 26], [0, 1, 2, 3, 4, 5, 6, 7, 8, 9, 10, 11, 12, 13, 14, 15, 16, 17, 18, 19, 24, 25, 26, 27], [0, 1, 2, 3, 4, 5, 6, 7, 8, 9, 10, 11, 12, 13, 14, 15, 16, 17, 18, 19, 20, 21, 22, 23, 24, 25, 26, 27, 28], [0, 1, 2, 3, 4, 5, 6, 7, 8, 9, 10, 11, 12, 13, 14, 15, 16, 17, 18, 19, 20, 21, 22, 23, 24, 25, 26, 27, 28, 29], [0, 1, 2, 3, 4, 5, 6, 7, 8, 9, 10, 11, 12, 13, 14, 15, 16, 17, 18, 19, 20, 21, 22, 23, 24, 25, 26, 27, 28, 29, 30]]
theorem ok5_16 : okReg (ro Tryd.f5 16) a5_16 d5_16 = true := by kernel_rfl
def a5_17 : List AO := [⟨(some 2), none, .mv (.v (.bool false))⟩]
theorem tr5_17 : (ro Tryd.f5 17).toList.mapM (trO Tryd.prog 98 (ro Tryd.f5 17)) = some a5_17 := by kernel_rfl
def a5_15 : List AO := [⟨(some 63), none, .mv (.t 8)⟩,
  ⟨(some 64), none, .bin .add (.t 63) (.v (.int .i64 1))⟩,
  ⟨(some 8), none, .mv (.t 64)⟩]
theorem tr5_15 : (ro Tryd.f5 15).toList.mapM (trO Tryd.prog 98 (ro Tryd.f5 15)) = some a5_15 := by kernel_rfl
def a5_8 : List AO := [⟨(some 33), none, .mv (.t 4)⟩,
  ⟨(some 34), none, .bin .add (.t 33) (.v (.int .i64 1))⟩,
  ⟨(some 4), none, .mv (.t 34)⟩]
theorem tr5_8 : (ro Tryd.f5 8).toList.mapM (trO Tryd.prog 98 (ro Tryd.f5 8)) = some a5_8 := by kernel_rfl
def a5_5 : List AO := [⟨(some 23), none, .mv (.t 3)⟩,
  ⟨(some 24), none, .bin .add (.t 23) (.v (.int .i64 1))⟩,
  ⟨(some 3), none, .mv (.t 24)⟩]
theorem tr5_5 : (ro Tryd.f5 5).toList.mapM (trO Tryd.prog 98 (ro Tryd.f5 5)) = some a5_5 := by kernel_rfl
def a5_18 : List AO := [⟨(some 97), none, .call 8 []⟩,
  ⟨(some 2), none, .mv (.t 97)⟩]
theorem tr5_18 : (ro Tryd.f5 18).toList.mapM (trO Tryd.prog 98 (ro Tryd.f5 18)) = some a5_18 := by kernel_rfl
/-- airline/airlinelaw12.CabinLikes -/
noncomputable def c6 : Code := .seq (.region 0 (ro Tryd.f6 0) false) (.seq (.seq (.region 1 (ro Tryd.f6 1) false) (.cond (.tmp 21) (.seq (.region 2 (ro Tryd.f6 2) false) (.ret)) (.skip))) (.seq (.region 3 (ro Tryd.f6 3) false) (.seq (.region 4 (ro Tryd.f6 4) false) (.seq (.seq (.region 5 (ro Tryd.f6 5) false) (.cond (.tmp 44) (.seq (.region 6 (ro Tryd.f6 6) false) (.ret)) (.skip))) (.seq (.region 7 (ro Tryd.f6 7) false) (.seq (.region 8 (ro Tryd.f6 8) false) (.seq (.region 9 (ro Tryd.f6 9) false) (.ret))))))))
theorem body6 : Tryd.f6.body = some c6 := by kernel_rfl
theorem res6 : Tryd.f6.results.toList.mapM (trR Tryd.prog) = some [.t 6] := by kernel_rfl
theorem nt6 : Tryd.f6.ntmps = 76 := by kernel_rfl
theorem nm6 : (Tryd.f6.name == "runtime.NumGoroutine") = false := by kernel_rfl
def a6_0 : List AO := [⟨(some 3), none, .box 30 (.t 0)⟩,
  ⟨(some 4), none, .box 30 (.t 1)⟩,
  ⟨(some 6), none, .mv (.v (.bool false))⟩]
theorem tr6_0 : (ro Tryd.f6 0).toList.mapM (trO Tryd.prog 76 (ro Tryd.f6 0)) = some a6_0 := by kernel_rfl
def a6_1 : List AO := [⟨(some 17), none, .load (some 2) (.t 3)⟩,
  ⟨(some 18), none, .load (some 2) (.t 4)⟩,
  ⟨(some 19), none, .slc 30 2 [(.t 17), (.t 18)]⟩,
  ⟨(some 20), none, .call 7 [(.t 19)]⟩,
  ⟨(some 21), none, .un .not (.t 20)⟩]
theorem tr6_1 : (ro Tryd.f6 1).toList.mapM (trO Tryd.prog 76 (ro Tryd.f6 1)) = some a6_1 := by kernel_rfl
def a6_2 : List AO := [⟨(some 22), none, .call 8 []⟩,
  ⟨(some 6), none, .mv (.t 22)⟩]
theorem tr6_2 : (ro Tryd.f6 2).toList.mapM (trO Tryd.prog 76 (ro Tryd.f6 2)) = some a6_2 := by kernel_rfl
def a6_3 : List AO := [⟨(some 24), none, .load (some 2) (.t 3)⟩,
  ⟨(some 25), none, .load (some 2) (.t 4)⟩,
  ⟨(some 26), none, .mv (.t 2)⟩,
  ⟨(some 27), none, .call 21 [(.t 24), (.t 25), (.t 26)]⟩,
  ⟨(some 23), none, .mv (.t 27)⟩,
  ⟨(some 28), none, .ext 0 (.t 23)⟩,
  ⟨(some 29), none, .ext 1 (.t 23)⟩,
  ⟨(some 7), none, .mv (.t 28)⟩,
  ⟨(some 8), none, .mv (.t 29)⟩]
theorem tr6_3 : (ro Tryd.f6 3).toList.mapM (trO Tryd.prog 76 (ro Tryd.f6 3)) = some a6_3 := by kernel_rfl
def a6_4 : List AO := [⟨(some 31), none, .load (some 2) (.t 3)⟩,
  ⟨(some 32), none, .load (some 2) (.t 4)⟩,
  ⟨(some 33), none, .mv (.t 2)⟩,
  ⟨(some 34), none, .call 22 [(.t 31), (.t 32), (.t 33)]⟩,
  ⟨(some 30), none, .mv (.t 34)⟩,
  ⟨(some 35), none, .ext 0 (.t 30)⟩,
  ⟨(some 36), none, .ext 1 (.t 30)⟩,
  ⟨(some 9), none, .mv (.t 35)⟩,
  ⟨(some 10), none, .mv (.t 36)⟩]
theorem tr6_4 : (ro Tryd.f6 4).toList.mapM (trO Tryd.prog 76 (ro Tryd.f6 4)) = some a6_4 := by kernel_rfl
def a6_5 : List AO := [⟨(some 37), none, .mv (.t 7)⟩,
  ⟨(some 38), none, .mv (.t 9)⟩,
  ⟨(some 39), none, .bin .neq (.t 37) (.t 38)⟩,
  ⟨(some 40), none, .mv (.t 39)⟩,
  ⟨(some 41), some (40, false), .mv (.t 8)⟩,
  ⟨(some 42), some (40, false), .mv (.t 10)⟩,
  ⟨(some 43), some (40, false), .binb .neq (.t 41) (.t 42)⟩,
  ⟨(some 44), none, .pick (.t 40) (.v (.bool true)) (.t 43)⟩]
theorem tr6_5 : (ro Tryd.f6 5).toList.mapM (trO Tryd.prog 76 (ro Tryd.f6 5)) = some a6_5 := by kernel_rfl
def a6_6 : List AO := [⟨(some 6), none, .mv (.v (.bool false))⟩]
theorem tr6_6 : (ro Tryd.f6 6).toList.mapM (trO Tryd.prog 76 (ro Tryd.f6 6)) = some a6_6 := by kernel_rfl
def a6_7 : List AO := [⟨(some 46), none, .load (some 2) (.t 4)⟩,
  ⟨(some 47), none, .mv (.t 2)⟩,
  ⟨(some 48), none, .call 15 [(.t 46), (.t 47)]⟩,
  ⟨(some 45), none, .mv (.t 48)⟩,
  ⟨(some 49), none, .ext 0 (.t 45)⟩,
  ⟨(some 50), none, .ext 1 (.t 45)⟩,
  ⟨(some 51), none, .ext 2 (.t 45)⟩,
  ⟨(some 11), none, .mv (.t 49)⟩,
  ⟨(some 12), none, .mv (.t 50)⟩,
  ⟨(some 13), none, .mv (.t 51)⟩]
theorem tr6_7 : (ro Tryd.f6 7).toList.mapM (trO Tryd.prog 76 (ro Tryd.f6 7)) = some a6_7 := by kernel_rfl
def a6_8 : List AO := [⟨(some 53), none, .load (some 2) (.t 4)⟩,
  ⟨(some 54), none, .mv (.t 7)⟩,
  ⟨(some 55), none, .call 15 [(.t 53), (.t 54)]⟩,
  ⟨(some 52), none, .mv (.t 55)⟩,
  ⟨(some 56), none, .ext 0 (.t 52)⟩,
  ⟨(some 57), none, .ext 1 (.t 52)⟩,
  ⟨(some 58), none, .ext 2 (.t 52)⟩,
  ⟨(some 14), none, .mv (.t 56)⟩,
  ⟨(some 15), none, .mv (.t 57)⟩,
  ⟨(some 16), none, .mv (.t 58)⟩]
theorem tr6_8 : (ro Tryd.f6 8).toList.mapM (trO Tryd.prog 76 (ro Tryd.f6 8)) = some a6_8 := by kernel_rfl
def a6_9 : List AO := [⟨(some 59), none, .mv (.t 8)⟩,
  ⟨(some 60), none, .un .not (.t 59)⟩,
  ⟨(some 61), none, .mv (.t 60)⟩,
  ⟨(some 62), some (61, false), .mv (.t 16)⟩,
  ⟨(some 63), some (61, false), .mv (.t 62)⟩,
  ⟨(some 64), some (63, true), .mv (.t 13)⟩,
  ⟨(some 65), some (63, true), .un .not (.t 64)⟩,
  ⟨(some 66), some (63, true), .mv (.t 65)⟩,
  ⟨(some 67), some (66, false), .mv (.t 7)⟩,
  ⟨(some 68), some (66, false), .mv (.t 2)⟩,
  ⟨(some 69), some (66, false), .bin .eql (.t 67) (.t 68)⟩,
  ⟨(some 70), some (63, true), .pick (.t 66) (.v (.bool true)) (.t 69)⟩,
  ⟨(some 71), some (61, false), .pick (.t 63) (.t 70) (.v (.bool false))⟩,
  ⟨(some 72), none, .pick (.t 61) (.v (.bool true)) (.t 71)⟩,
  ⟨(some 73), none, .mv (.t 72)⟩,
  ⟨(some 74), some (73, true), .call 8 []⟩,
  ⟨(some 75), none, .pick (.t 73) (.t 74) (.v (.bool false))⟩,
  ⟨(some 6), none, .mv (.t 75)⟩]
theorem tr6_9 : (ro Tryd.f6 9).toList.mapM (trO Tryd.prog 76 (ro Tryd.f6 9)) = some a6_9 := by kernel_rfl
/-- airline/airlinelaw12.Small -/
noncomputable def c7 : Code := .seq (.region 0 (ro Tryd.f7 0) false) (.seq (.seq (.region 1 (ro Tryd.f7 1) false) (.cond (.tmp 7) (.seq (.region 2 (ro Tryd.f7 2) false) (.ret)) (.skip))) (.seq (.seq (.region 3 (ro Tryd.f7 3) false) (.block 0 (.loop (.seq (.seq (.region 4 (ro Tryd.f7 4) false) (.cond (.tmp 11) (.skip) (.exit 0))) (.seq (.block 1 (.seq (.seq (.region 6 (ro Tryd.f7 6) false) (.cond (.tmp 20) (.seq (.region 7 (ro Tryd.f7 7) false) (.ret)) (.skip))) (.seq (.region 8 (ro Tryd.f7 8) false) (.block 2 (.loop (.seq (.seq (.region 9 (ro Tryd.f7 9) false) (.cond (.tmp 28) (.skip) (.exit 2))) (.seq (.block 3 (.seq (.region 11 (ro Tryd.f7 11) false) (.cond (.tmp 41) (.seq (.region 12 (ro Tryd.f7 12) false) (.ret)) (.skip)))) (.region 10 (ro Tryd.f7 10) false)))))))) (.region 5 (ro Tryd.f7 5) false)))))) (.seq (.region 13 (ro Tryd.f7 13) false) (.ret))))
theorem body7 : Tryd.f7.body = some c7 := by kernel_rfl
theorem res7 : Tryd.f7.results.toList.mapM (trR Tryd.prog) = some [.t 2] := by kernel_rfl
theorem nt7 : Tryd.f7.ntmps = 42 := by kernel_rfl
theorem nm7 : (Tryd.f7.name == "runtime.NumGoroutine") = false := by kernel_rfl
def a7_0 : List AO := [⟨(some 2), none, .mv (.v (.bool false))⟩]
theorem tr7_0 : (ro Tryd.f7 0).toList.mapM (trO Tryd.prog 42 (ro Tryd.f7 0)) = some a7_0 := by kernel_rfl
def a7_1 : List AO := [⟨(some 5), none, .mv (.t 0)⟩,
  ⟨(some 6), none, .len (.t 5)⟩,
  ⟨(some 7), none, .bin .gtr (.t 6) (.v (.int .i64 8))⟩]
theorem tr7_1 : (ro Tryd.f7 1).toList.mapM (trO Tryd.prog 42 (ro Tryd.f7 1)) = some a7_1 := by kernel_rfl
def a7_2 : List AO := [⟨(some 2), none, .mv (.v (.bool false))⟩]
theorem tr7_2 : (ro Tryd.f7 2).toList.mapM (trO Tryd.prog 42 (ro Tryd.f7 2)) = some a7_2 := by kernel_rfl
def a7_3 : List AO := [⟨(some 3), none, .mv (.v (.int .i64 0))⟩]
theorem tr7_3 : (ro Tryd.f7 3).toList.mapM (trO Tryd.prog 42 (ro Tryd.f7 3)) = some a7_3 := by kernel_rfl
def a7_4 : List AO := [⟨(some 8), none, .mv (.t 3)⟩,
  ⟨(some 9), none, .mv (.t 0)⟩,
  ⟨(some 10), none, .len (.t 9)⟩,
  ⟨(some 11), none, .bin .lss (.t 8) (.t 10)⟩]
theorem tr7_4 : (ro Tryd.f7 4).toList.mapM (trO Tryd.prog 42 (ro Tryd.f7 4)) = some a7_4 := by kernel_rfl
def a7_6 : List AO := [⟨(some 14), none, .mv (.t 0)⟩,
  ⟨(some 15), none, .mv (.t 3)⟩,
  ⟨(some 16), none, .idx 2 (.t 14) (.t 15)⟩,
  ⟨(some 17), none, .fld 1 (.t 16)⟩,
  ⟨(some 18), none, .load none (.t 17)⟩,
  ⟨(some 19), none, .len (.t 18)⟩,
  ⟨(some 20), none, .bin .gtr (.t 19) (.v (.int .i64 8))⟩]
theorem tr7_6 : (ro Tryd.f7 6).toList.mapM (trO Tryd.prog 42 (ro Tryd.f7 6)) = some a7_6 := by kernel_rfl
def a7_7 : List AO := [⟨(some 2), none, .mv (.v (.bool false))⟩]
theorem tr7_7 : (ro Tryd.f7 7).toList.mapM (trO Tryd.prog 42 (ro Tryd.f7 7)) = some a7_7 := by kernel_rfl
def a7_8 : List AO := [⟨(some 4), none, .mv (.v (.int .i64 0))⟩]
theorem tr7_8 : (ro Tryd.f7 8).toList.mapM (trO Tryd.prog 42 (ro Tryd.f7 8)) = some a7_8 := by kernel_rfl
def a7_9 : List AO := [⟨(some 21), none, .mv (.t 4)⟩,
  ⟨(some 22), none, .mv (.t 0)⟩,
  ⟨(some 23), none, .mv (.t 3)⟩,
  ⟨(some 24), none, .idx 2 (.t 22) (.t 23)⟩,
  ⟨(some 25), none, .fld 1 (.t 24)⟩,
  ⟨(some 26), none, .load none (.t 25)⟩,
  ⟨(some 27), none, .len (.t 26)⟩,
  ⟨(some 28), none, .bin .lss (.t 21) (.t 27)⟩]
theorem tr7_9 : (ro Tryd.f7 9).toList.mapM (trO Tryd.prog 42 (ro Tryd.f7 9)) = some a7_9 := by kernel_rfl
def a7_11 : List AO := [⟨(some 31), none, .mv (.t 0)⟩,
  ⟨(some 32), none, .mv (.t 3)⟩,
  ⟨(some 33), none, .idx 2 (.t 31) (.t 32)⟩,
  ⟨(some 34), none, .fld 1 (.t 33)⟩,
  ⟨(some 35), none, .load none (.t 34)⟩,
  ⟨(some 36), none, .mv (.t 4)⟩,
  ⟨(some 37), none, .idx 4 (.t 35) (.t 36)⟩,
  ⟨(some 38), none, .fld 3 (.t 37)⟩,
  ⟨(some 39), none, .load none (.t 38)⟩,
  ⟨(some 40), none, .len (.t 39)⟩,
  ⟨(some 41), none, .bin .gtr (.t 40) (.v (.int .i64 30))⟩]
theorem tr7_11 : (ro Tryd.f7 11).toList.mapM (trO Tryd.prog 42 (ro Tryd.f7 11)) = some a7_11 := by kernel_rfl
def a7_12 : List AO := [⟨(some 2), none, .mv (.v (.bool false))⟩]
theorem tr7_12 : (ro Tryd.f7 12).toList.mapM (trO Tryd.prog 42 (ro Tryd.f7 12)) = some a7_12 := by kernel_rfl
def a7_10 : List AO := [⟨(some 29), none, .mv (.t 4)⟩,
  ⟨(some 30), none, .bin .add (.t 29) (.v (.int .i64 1))⟩,
  ⟨(some 4), none, .mv (.t 30)⟩]
theorem tr7_10 : (ro Tryd.f7 10).toList.mapM (trO Tryd.prog 42 (ro Tryd.f7 10)) = some a7_10 := by kernel_rfl
def a7_5 : List AO := [⟨(some 12), none, .mv (.t 3)⟩,
  ⟨(some 13), none, .bin .add (.t 12) (.v (.int .i64 1))⟩,
  ⟨(some 3), none, .mv (.t 13)⟩]
theorem tr7_5 : (ro Tryd.f7 5).toList.mapM (trO Tryd.prog 42 (ro Tryd.f7 5)) = some a7_5 := by kernel_rfl
def a7_13 : List AO := [⟨(some 2), none, .mv (.v (.bool true))⟩]
theorem tr7_13 : (ro Tryd.f7 13).toList.mapM (trO Tryd.prog 42 (ro Tryd.f7 13)) = some a7_13 := by kernel_rfl
/-- airline/airlinelaw12.awake -/
noncomputable def c8 : Code := .seq (.region 0 (ro Tryd.f8 0) false) (.seq (.region 1 (ro Tryd.f8 1) false) (.seq (.region 2 (ro Tryd.f8 2) false) (.seq (.region 3 (ro Tryd.f8 3) false) (.seq (.region 4 (ro Tryd.f8 4) false) (.seq (.region 5 (ro Tryd.f8 5) false) (.seq (.region 6 (ro Tryd.f8 6) false) (.seq (.region 7 (ro Tryd.f8 7) false) (.seq (.region 8 (ro Tryd.f8 8) false) (.ret)))))))))
theorem body8 : Tryd.f8.body = some c8 := by kernel_rfl
theorem res8 : Tryd.f8.results.toList.mapM (trR Tryd.prog) = some [.t 0] := by kernel_rfl
theorem nt8 : Tryd.f8.ntmps = 116 := by kernel_rfl
theorem nm8 : (Tryd.f8.name == "runtime.NumGoroutine") = false := by kernel_rfl
def a8_0 : List AO := [⟨(some 0), none, .mv (.v (.bool false))⟩]
theorem tr8_0 : (ro Tryd.f8 0).toList.mapM (trO Tryd.prog 116 (ro Tryd.f8 0)) = some a8_0 := by kernel_rfl
def a8_1 : List AO := [⟨(some 13), none, .call 23 []⟩,
  ⟨(some 14), none, .getf 1 none (.t 13)⟩,
  ⟨(some 15), none, .idx 4 (.t 14) (.v (.int .i64 1))⟩,
  ⟨(some 16), none, .load (some 4) (.t 15)⟩,
  ⟨(some 17), none, .call 17 [(.t 16)]⟩,
  ⟨(some 1), none, .mv (.t 17)⟩]
theorem tr8_1 : (ro Tryd.f8 1).toList.mapM (trO Tryd.prog 116 (ro Tryd.f8 1)) = some a8_1 := by kernel_rfl
def a8_2 : List AO := [⟨(some 19), none, .call 23 []⟩,
  ⟨(some 20), none, .call 15 [(.t 19), (.v (.str [77]))]⟩,
  ⟨(some 18), none, .mv (.t 20)⟩,
  ⟨(some 21), none, .ext 0 (.t 18)⟩,
  ⟨(some 22), none, .ext 1 (.t 18)⟩,
  ⟨(some 23), none, .ext 2 (.t 18)⟩,
  ⟨(some 2), none, .mv (.t 21)⟩,
  ⟨(some 3), none, .mv (.t 22)⟩,
  ⟨(some 4), none, .mv (.t 23)⟩]
theorem tr8_2 : (ro Tryd.f8 2).toList.mapM (trO Tryd.prog 116 (ro Tryd.f8 2)) = some a8_2 := by kernel_rfl
def a8_3 : List AO := [⟨(some 25), none, .call 23 []⟩,
  ⟨(some 26), none, .call 24 []⟩,
  ⟨(some 27), none, .call 21 [(.t 25), (.t 26), (.v (.str [77]))]⟩,
  ⟨(some 24), none, .mv (.t 27)⟩,
  ⟨(some 28), none, .ext 0 (.t 24)⟩,
  ⟨(some 29), none, .ext 1 (.t 24)⟩,
  ⟨(some 5), none, .mv (.t 28)⟩,
  ⟨(some 6), none, .mv (.t 29)⟩]
theorem tr8_3 : (ro Tryd.f8 3).toList.mapM (trO Tryd.prog 116 (ro Tryd.f8 3)) = some a8_3 := by kernel_rfl
def a8_4 : List AO := [⟨(some 31), none, .call 23 []⟩,
  ⟨(some 32), none, .call 24 []⟩,
  ⟨(some 33), none, .call 21 [(.t 31), (.t 32), (.v (.str [70]))]⟩,
  ⟨(some 30), none, .mv (.t 33)⟩,
  ⟨(some 34), none, .ext 0 (.t 30)⟩,
  ⟨(some 35), none, .ext 1 (.t 30)⟩,
  ⟨(some 7), none, .mv (.t 34)⟩,
  ⟨(some 8), none, .mv (.t 35)⟩]
theorem tr8_4 : (ro Tryd.f8 4).toList.mapM (trO Tryd.prog 116 (ro Tryd.f8 4)) = some a8_4 := by kernel_rfl
def a8_5 : List AO := [⟨(some 37), none, .call 24 []⟩,
  ⟨(some 38), none, .call 23 []⟩,
  ⟨(some 39), none, .slc 30 2 [(.t 37), (.t 38)]⟩,
  ⟨(some 40), none, .call 12 [(.t 39), (.v (.str [55, 55, 55]))]⟩,
  ⟨(some 36), none, .mv (.t 40)⟩,
  ⟨(some 41), none, .ext 0 (.t 36)⟩,
  ⟨(some 42), none, .ext 1 (.t 36)⟩,
  ⟨(some 9), none, .alloc 30 [(.str []), .nils]⟩,
  ⟨none, none, .store 2 (.t 9) (.t 41)⟩,
  ⟨(some 10), none, .mv (.t 42)⟩]
theorem tr8_5 : (ro Tryd.f8 5).toList.mapM (trO Tryd.prog 116 (ro Tryd.f8 5)) = some a8_5 := by kernel_rfl
def a8_6 : List AO := [⟨(some 43), none, .build [(.str []), (.int .i64 0)] [(0, 1, (.v (.str [89]))), (1, 1, (.v (.int .i64 3)))]⟩,
  ⟨(some 44), none, .build [(.str []), (.int .i64 0)] [(0, 1, (.v (.str [89]))), (1, 1, (.v (.int .i64 2)))]⟩,
  ⟨(some 45), none, .slc 40 2 [(.t 43), (.t 44)]⟩,
  ⟨(some 46), none, .build [(.str []), (.int .i64 0), (.int .i64 0), .nils] [(0, 1, (.v (.str [89]))), (1, 1, (.v (.int .i64 10))), (3, 1, (.t 45))]⟩,
  ⟨(some 47), none, .slc 38 4 [(.t 46)]⟩,
  ⟨(some 48), none, .build [(.str []), .nils] [(0, 1, (.v (.str [51, 50, 48]))), (1, 1, (.t 47))]⟩,
  ⟨(some 49), none, .slc 30 2 [(.t 48)]⟩,
  ⟨(some 50), none, .call 10 [(.t 49)]⟩,
  ⟨(some 11), none, .mv (.t 50)⟩]
theorem tr8_6 : (ro Tryd.f8 6).toList.mapM (trO Tryd.prog 116 (ro Tryd.f8 6)) = some a8_6 := by kernel_rfl
def a8_7 : List AO := [⟨(some 51), none, .build [(.int .i64 0), (.str [])] [(0, 1, (.v (.int .i64 6))), (1, 1, (.v (.str [99, 111, 110, 102, 105, 103, 32, 48, 32, 99, 97, 98, 105, 110, 32, 48, 32, 99, 108, 97, 115, 115, 32, 49])))]⟩,
  ⟨(some 52), none, .build [(.int .i64 0), (.str [])] [(0, 1, (.v (.int .i64 2))), (1, 1, (.v (.str [99, 111, 110, 102, 105, 103, 32, 48, 32, 99, 97, 98, 105, 110, 32, 48, 32, 99, 108, 97, 115, 115, 32, 49])))]⟩,
  ⟨(some 53), none, .slc 51 2 [(.t 51), (.t 52)]⟩,
  ⟨(some 12), none, .mv (.t 53)⟩]
theorem tr8_7 : (ro Tryd.f8 7).toList.mapM (trO Tryd.prog 116 (ro Tryd.f8 7)) = some a8_7 := by kernel_rfl
def a8_8 : List AO := [⟨(some 54), none, .mv (.t 1)⟩,
  ⟨(some 55), none, .len (.t 54)⟩,
  ⟨(some 56), none, .bin .eql (.t 55) (.v (.int .i64 2))⟩,
  ⟨(some 57), none, .mv (.t 56)⟩,
  ⟨(some 58), some (57, true), .mv (.t 1)⟩,
  ⟨(some 59), some (57, true), .idx 1 (.t 58) (.v (.int .i64 0))⟩,
  ⟨(some 60), some (57, true), .load none (.t 59)⟩,
  ⟨(some 61), some (57, true), .bin .eql (.t 60) (.v (.int .i64 11))⟩,
  ⟨(some 62), none, .pick (.t 57) (.t 61) (.v (.bool false))⟩,
  ⟨(some 63), none, .mv (.t 62)⟩,
  ⟨(some 64), some (63, true), .mv (.t 1)⟩,
  ⟨(some 65), some (63, true), .idx 1 (.t 64) (.v (.int .i64 1))⟩,
  ⟨(some 66), some (63, true), .load none (.t 65)⟩,
  ⟨(some 67), some (63, true), .bin .eql (.t 66) (.v (.int .i64 8))⟩,
  ⟨(some 68), none, .pick (.t 63) (.t 67) (.v (.bool false))⟩,
  ⟨(some 69), none, .mv (.t 68)⟩,
  ⟨(some 70), some (69, true), .mv (.t 2)⟩,
  ⟨(some 71), some (69, true), .bin .eql (.t 70) (.v (.int .i64 1))⟩,
  ⟨(some 72), none, .pick (.t 69) (.t 71) (.v (.bool false))⟩,
  ⟨(some 73), none, .mv (.t 72)⟩,
  ⟨(some 74), some (73, true), .mv (.t 3)⟩,
  ⟨(some 75), some (73, true), .bin .eql (.t 74) (.v (.int .i64 1))⟩,
  ⟨(some 76), none, .pick (.t 73) (.t 75) (.v (.bool false))⟩,
  ⟨(some 77), none, .mv (.t 76)⟩,
  ⟨(some 78), some (77, true), .mv (.t 4)⟩,
  ⟨(some 79), none, .pick (.t 77) (.t 78) (.v (.bool false))⟩,
  ⟨(some 80), none, .mv (.t 79)⟩,
  ⟨(some 81), some (80, true), .mv (.t 5)⟩,
  ⟨(some 82), some (80, true), .bin .eql (.t 81) (.v (.str [66]))⟩,
  ⟨(some 83), none, .pick (.t 80) (.t 82) (.v (.bool false))⟩,
  ⟨(some 84), none, .mv (.t 83)⟩,
  ⟨(some 85), some (84, true), .mv (.t 6)⟩,
  ⟨(some 86), none, .pick (.t 84) (.t 85) (.v (.bool false))⟩,
  ⟨(some 87), none, .mv (.t 86)⟩,
  ⟨(some 88), some (87, true), .mv (.t 7)⟩,
  ⟨(some 89), some (87, true), .bin .eql (.t 88) (.v (.str [66]))⟩,
  ⟨(some 90), none, .pick (.t 87) (.t 89) (.v (.bool false))⟩,
  ⟨(some 91), none, .mv (.t 90)⟩,
  ⟨(some 92), some (91, true), .mv (.t 8)⟩,
  ⟨(some 93), none, .pick (.t 91) (.t 92) (.v (.bool false))⟩,
  ⟨(some 94), none, .mv (.t 93)⟩,
  ⟨(some 95), some (94, true), .mv (.t 10)⟩,
  ⟨(some 96), none, .pick (.t 94) (.t 95) (.v (.bool false))⟩,
  ⟨(some 97), none, .mv (.t 96)⟩,
  ⟨(some 98), some (97, true), .fld 1 (.t 9)⟩,
  ⟨(some 99), some (97, true), .load none (.t 98)⟩,
  ⟨(some 100), some (97, true), .len (.t 99)⟩,
  ⟨(some 101), some (97, true), .bin .eql (.t 100) (.v (.int .i64 2))⟩,
  ⟨(some 102), none, .pick (.t 97) (.t 101) (.v (.bool false))⟩,
  ⟨(some 103), none, .mv (.t 102)⟩,
  ⟨(some 104), some (103, true), .mv (.t 11)⟩,
  ⟨(some 105), some (103, true), .mv (.t 12)⟩,
  ⟨(some 106), some (103, true), .call 9 [(.t 104), (.t 105)]⟩,
  ⟨(some 107), none, .pick (.t 103) (.t 106) (.v (.bool false))⟩,
  ⟨(some 108), none, .mv (.t 107)⟩,
  ⟨(some 109), some (108, true), .call 23 []⟩,
  ⟨(some 110), some (108, true), .getf 1 none (.t 109)⟩,
  ⟨(some 111), some (108, true), .idx 4 (.t 110) (.v (.int .i64 1))⟩,
  ⟨(some 112), some (108, true), .load (some 4) (.t 111)⟩,
  ⟨(some 113), some (108, true), .call 19 [(.t 112)]⟩,
  ⟨(some 114), some (108, true), .bin .eql (.t 113) (.v (.int .i64 11))⟩,
  ⟨(some 115), none, .pick (.t 108) (.t 114) (.v (.bool false))⟩,
  ⟨(some 0), none, .mv (.t 115)⟩]
theorem tr8_8 : (ro Tryd.f8 8).toList.mapM (trO Tryd.prog 116 (ro Tryd.f8 8)) = some a8_8 := by kernel_rfl
/-- airline/airlinelaw06.SameFaults -/
noncomputable def c9 : Code := .seq (.region 0 (ro Tryd.f9 0) false) (.seq (.seq (.region 1 (ro Tryd.f9 1) false) (.cond (.tmp 10) (.seq (.region 2 (ro Tryd.f9 2) false) (.ret)) (.skip))) (.seq (.seq (.region 3 (ro Tryd.f9 3) false) (.block 0 (.loop (.seq (.seq (.region 4 (ro Tryd.f9 4) false) (.cond (.tmp 14) (.skip) (.exit 0))) (.seq (.block 1 (.seq (.region 6 (ro Tryd.f9 6) true) (.cond (.tmp 25) (.seq (.region 7 (ro Tryd.f9 7) false) (.ret)) (.skip)))) (.region 5 (ro Tryd.f9 5) false)))))) (.seq (.region 8 (ro Tryd.f9 8) false) (.ret))))
theorem body9 : Tryd.f9.body = some c9 := by kernel_rfl
theorem res9 : Tryd.f9.results.toList.mapM (trR Tryd.prog) = some [.t 4] := by kernel_rfl
theorem nt9 : Tryd.f9.ntmps = 26 := by kernel_rfl
theorem nm9 : (Tryd.f9.name == "runtime.NumGoroutine") = false := by kernel_rfl
def a9_0 : List AO := [⟨(some 4), none, .mv (.v (.bool false))⟩]
theorem tr9_0 : (ro Tryd.f9 0).toList.mapM (trO Tryd.prog 26 (ro Tryd.f9 0)) = some a9_0 := by kernel_rfl
def a9_1 : List AO := [⟨(some 6), none, .mv (.t 0)⟩,
  ⟨(some 7), none, .len (.t 6)⟩,
  ⟨(some 8), none, .mv (.t 1)⟩,
  ⟨(some 9), none, .len (.t 8)⟩,
  ⟨(some 10), none, .bin .neq (.t 7) (.t 9)⟩]
theorem tr9_1 : (ro Tryd.f9 1).toList.mapM (trO Tryd.prog 26 (ro Tryd.f9 1)) = some a9_1 := by kernel_rfl
def a9_2 : List AO := [⟨(some 4), none, .mv (.v (.bool false))⟩]
theorem tr9_2 : (ro Tryd.f9 2).toList.mapM (trO Tryd.prog 26 (ro Tryd.f9 2)) = some a9_2 := by kernel_rfl
def a9_3 : List AO := [⟨(some 5), none, .mv (.v (.int .i64 0))⟩]
theorem tr9_3 : (ro Tryd.f9 3).toList.mapM (trO Tryd.prog 26 (ro Tryd.f9 3)) = some a9_3 := by kernel_rfl
def a9_4 : List AO := [⟨(some 11), none, .mv (.t 5)⟩,
  ⟨(some 12), none, .mv (.t 0)⟩,
  ⟨(some 13), none, .len (.t 12)⟩,
  ⟨(some 14), none, .bin .lss (.t 11) (.t 13)⟩]
theorem tr9_4 : (ro Tryd.f9 4).toList.mapM (trO Tryd.prog 26 (ro Tryd.f9 4)) = some a9_4 := by kernel_rfl
def a9_6 : List AO := [⟨(some 17), none, .mv (.t 0)⟩,
  ⟨(some 18), none, .mv (.t 5)⟩,
  ⟨(some 19), none, .idx 2 (.t 17) (.t 18)⟩,
  ⟨(some 20), none, .load (some 2) (.t 19)⟩,
  ⟨(some 21), none, .mv (.t 1)⟩,
  ⟨(some 22), none, .mv (.t 5)⟩,
  ⟨(some 23), none, .idx 2 (.t 21) (.t 22)⟩,
  ⟨(some 24), none, .load (some 2) (.t 23)⟩,
  ⟨(some 25), none, .bina [.i .i64, .s] .neq (.t 20) (.t 24)⟩]
theorem tr9_6 : (ro Tryd.f9 6).toList.mapM (trO Tryd.prog 26 (ro Tryd.f9 6)) = some a9_6 := by kernel_rfl
def d9_6 : List (List Nat) := [[], [], [0, 1], [0, 1, 2], [], [], [4, 5], [4, 5, 6], [0, 1, 2, 3, 4, 5, 6, 7]]
theorem ok9_6 : okReg (ro Tryd.f9 6) a9_6 d9_6 = true := by kernel_rfl
def a9_7 : List AO := [⟨(some 4), none, .mv (.v (.bool false))⟩]
theorem tr9_7 : (ro Tryd.f9 7).toList.mapM (trO Tryd.prog 26 (ro Tryd.f9 7)) = some a9_7 := by kernel_rfl
def a9_5 : List AO := [⟨(some 15), none, .mv (.t 5)⟩,
  ⟨(some 16), none, .bin .add (.t 15) (.v (.int .i64 1))⟩,
  ⟨(some 5), none, .mv (.t 16)⟩]
theorem tr9_5 : (ro Tryd.f9 5).toList.mapM (trO Tryd.prog 26 (ro Tryd.f9 5)) = some a9_5 := by kernel_rfl
def a9_8 : List AO := [⟨(some 4), none, .mv (.v (.bool true))⟩]
theorem tr9_8 : (ro Tryd.f9 8).toList.mapM (trO Tryd.prog 26 (ro Tryd.f9 8)) = some a9_8 := by kernel_rfl
/-- airline/cabin.Check -/
noncomputable def c10 : Code := .seq (.region 0 (ro Tryd.f10 0) false) (.seq (.region 1 (ro Tryd.f10 1) false) (.seq (.region 2 (ro Tryd.f10 2) false) (.seq (.seq (.region 3 (ro Tryd.f10 3) false) (.block 0 (.loop (.seq (.region 4 (ro Tryd.f10 4) false) (.seq (.cond (.tmp 16) (.skip) (.exit 0)) (.seq (.block 1 (.seq (.region 5 (ro Tryd.f10 5) false) (.seq (.region 6 (ro Tryd.f10 6) false) (.seq (.region 7 (ro Tryd.f10 7) false) (.seq (.region 8 (ro Tryd.f10 8) false) (.seq (.region 9 (ro Tryd.f10 9) false) (.seq (.region 10 (ro Tryd.f10 10) false) (.seq (.region 11 (ro Tryd.f10 11) false) (.seq (.region 12 (ro Tryd.f10 12) false) (.seq (.region 13 (ro Tryd.f10 13) false) (.block 2 (.loop (.seq (.region 14 (ro Tryd.f10 14) false) (.seq (.cond (.tmp 55) (.skip) (.exit 2)) (.seq (.block 3 (.seq (.region 15 (ro Tryd.f10 15) false) (.seq (.region 16 (ro Tryd.f10 16) false) (.seq (.region 17 (ro Tryd.f10 17) false) (.seq (.region 18 (ro Tryd.f10 18) false) (.seq (.region 19 (ro Tryd.f10 19) false) (.region 20 (ro Tryd.f10 20) false))))))) (.region 21 (ro Tryd.f10 21) false)))))))))))))))) (.region 22 (ro Tryd.f10 22) false))))))) (.seq (.region 23 (ro Tryd.f10 23) false) (.ret)))))
theorem body10 : Tryd.f10.body = some c10 := by kernel_rfl
theorem res10 : Tryd.f10.results.toList.mapM (trR Tryd.prog) = some [.t 2] := by kernel_rfl
theorem nt10 : Tryd.f10.ntmps = 85 := by kernel_rfl
theorem nm10 : (Tryd.f10.name == "runtime.NumGoroutine") = false := by kernel_rfl
def a10_0 : List AO := [⟨(some 2), none, .mv (.v .nils)⟩]
theorem tr10_0 : (ro Tryd.f10 0).toList.mapM (trO Tryd.prog 85 (ro Tryd.f10 0)) = some a10_0 := by kernel_rfl
def a10_1 : List AO := [⟨(some 3), none, .alloc 53 [.nils, (.str [])]⟩]
theorem tr10_1 : (ro Tryd.f10 1).toList.mapM (trO Tryd.prog 85 (ro Tryd.f10 1)) = some a10_1 := by kernel_rfl
def a10_2 : List AO := [⟨(some 12), none, .mkmap⟩,
  ⟨(some 4), none, .mv (.t 12)⟩]
theorem tr10_2 : (ro Tryd.f10 2).toList.mapM (trO Tryd.prog 85 (ro Tryd.f10 2)) = some a10_2 := by kernel_rfl
def a10_3 : List AO := [⟨(some 13), none, .mv (.t 0)⟩,
  ⟨(some 14), none, .len (.t 13)⟩,
  ⟨(some 15), none, .mv (.v (.int .i64 0))⟩]
theorem tr10_3 : (ro Tryd.f10 3).toList.mapM (trO Tryd.prog 85 (ro Tryd.f10 3)) = some a10_3 := by kernel_rfl
def a10_4 : List AO := [⟨(some 16), none, .bin .lss (.t 15) (.t 14)⟩]
theorem tr10_4 : (ro Tryd.f10 4).toList.mapM (trO Tryd.prog 85 (ro Tryd.f10 4)) = some a10_4 := by kernel_rfl
def a10_5 : List AO := [⟨(some 17), none, .mv (.t 15)⟩,
  ⟨(some 18), none, .idx 2 (.t 13) (.t 15)⟩,
  ⟨(some 19), none, .load (some 2) (.t 18)⟩,
  ⟨(some 6), none, .alloc 30 [(.str []), .nils]⟩,
  ⟨(some 5), none, .mv (.t 17)⟩,
  ⟨none, none, .store 2 (.t 6) (.t 19)⟩]
theorem tr10_5 : (ro Tryd.f10 5).toList.mapM (trO Tryd.prog 85 (ro Tryd.f10 5)) = some a10_5 := by kernel_rfl
def a10_6 : List AO := [⟨(some 20), none, .mv (.t 5)⟩,
  ⟨(some 21), none, .call 25 [(.t 20)]⟩,
  ⟨(some 22), none, .bin .add (.v (.str [99, 111, 110, 102, 105, 103, 32])) (.t 21)⟩,
  ⟨(some 7), none, .mv (.t 22)⟩]
theorem tr10_6 : (ro Tryd.f10 6).toList.mapM (trO Tryd.prog 85 (ro Tryd.f10 6)) = some a10_6 := by kernel_rfl
def a10_7 : List AO := [⟨(some 23), none, .mv (.t 7)⟩,
  ⟨(some 24), none, .fld 1 (.t 3)⟩,
  ⟨none, none, .store 1 (.t 24) (.t 23)⟩]
theorem tr10_7 : (ro Tryd.f10 7).toList.mapM (trO Tryd.prog 85 (ro Tryd.f10 7)) = some a10_7 := by kernel_rfl
def a10_8 : List AO := [⟨(some 25), none, .fld 0 (.t 6)⟩,
  ⟨(some 26), none, .load none (.t 25)⟩,
  ⟨(some 27), none, .call 27 [(.t 26), (.v (.int .i64 3)), (.v (.int .i64 3))]⟩,
  ⟨(some 28), none, .un .not (.t 27)⟩,
  ⟨(some 29), none, .call 26 [(.t 3), (.t 28), (.v (.int .i64 5))]⟩]
theorem tr10_8 : (ro Tryd.f10 8).toList.mapM (trO Tryd.prog 85 (ro Tryd.f10 8)) = some a10_8 := by kernel_rfl
def a10_9 : List AO := [⟨(some 30), none, .mv (.t 4)⟩,
  ⟨(some 31), none, .fld 0 (.t 6)⟩,
  ⟨(some 32), none, .load none (.t 31)⟩,
  ⟨(some 33), none, .look true false (.bool false) (.t 30) (.t 32)⟩,
  ⟨(some 34), none, .call 26 [(.t 3), (.t 33), (.v (.int .i64 6))]⟩]
theorem tr10_9 : (ro Tryd.f10 9).toList.mapM (trO Tryd.prog 85 (ro Tryd.f10 9)) = some a10_9 := by kernel_rfl
def a10_10 : List AO := [⟨(some 35), none, .fld 1 (.t 6)⟩,
  ⟨(some 36), none, .load none (.t 35)⟩,
  ⟨(some 37), none, .len (.t 36)⟩,
  ⟨(some 38), none, .bin .lss (.t 37) (.v (.int .i64 1))⟩,
  ⟨(some 39), none, .mv (.t 38)⟩,
  ⟨(some 40), some (39, false), .fld 1 (.t 6)⟩,
  ⟨(some 41), some (39, false), .load none (.t 40)⟩,
  ⟨(some 42), some (39, false), .len (.t 41)⟩,
  ⟨(some 43), some (39, false), .bin .gtr (.t 42) (.v (.int .i64 4))⟩,
  ⟨(some 44), none, .pick (.t 39) (.v (.bool true)) (.t 43)⟩,
  ⟨(some 45), none, .call 26 [(.t 3), (.t 44), (.v (.int .i64 4))]⟩]
theorem tr10_10 : (ro Tryd.f10 10).toList.mapM (trO Tryd.prog 85 (ro Tryd.f10 10)) = some a10_10 := by kernel_rfl
def a10_11 : List AO := [⟨(some 46), none, .mv (.t 4)⟩,
  ⟨(some 47), none, .fld 0 (.t 6)⟩,
  ⟨(some 48), none, .load none (.t 47)⟩,
  ⟨none, none, .mset true (.t 46) (.t 48) (.v (.bool true))⟩]
theorem tr10_11 : (ro Tryd.f10 11).toList.mapM (trO Tryd.prog 85 (ro Tryd.f10 11)) = some a10_11 := by kernel_rfl
def a10_12 : List AO := [⟨(some 49), none, .mkmap⟩,
  ⟨(some 50), none, .mkmap⟩,
  ⟨(some 8), none, .mv (.t 49)⟩,
  ⟨(some 9), none, .mv (.t 50)⟩]
theorem tr10_12 : (ro Tryd.f10 12).toList.mapM (trO Tryd.prog 85 (ro Tryd.f10 12)) = some a10_12 := by kernel_rfl
def a10_13 : List AO := [⟨(some 51), none, .fld 1 (.t 6)⟩,
  ⟨(some 52), none, .load none (.t 51)⟩,
  ⟨(some 53), none, .len (.t 52)⟩,
  ⟨(some 54), none, .mv (.v (.int .i64 0))⟩]
theorem tr10_13 : (ro Tryd.f10 13).toList.mapM (trO Tryd.prog 85 (ro Tryd.f10 13)) = some a10_13 := by kernel_rfl
def a10_14 : List AO := [⟨(some 55), none, .bin .lss (.t 54) (.t 53)⟩]
theorem tr10_14 : (ro Tryd.f10 14).toList.mapM (trO Tryd.prog 85 (ro Tryd.f10 14)) = some a10_14 := by kernel_rfl
def a10_15 : List AO := [⟨(some 56), none, .mv (.t 54)⟩,
  ⟨(some 57), none, .idx 4 (.t 52) (.t 54)⟩,
  ⟨(some 58), none, .load (some 4) (.t 57)⟩,
  ⟨(some 11), none, .alloc 38 [(.str []), (.int .i64 0), (.int .i64 0), .nils]⟩,
  ⟨(some 10), none, .mv (.t 56)⟩,
  ⟨none, none, .store 4 (.t 11) (.t 58)⟩]
theorem tr10_15 : (ro Tryd.f10 15).toList.mapM (trO Tryd.prog 85 (ro Tryd.f10 15)) = some a10_15 := by kernel_rfl
def a10_16 : List AO := [⟨(some 59), none, .mv (.t 7)⟩,
  ⟨(some 60), none, .bin .add (.t 59) (.v (.str [32, 99, 97, 98, 105, 110, 32]))⟩,
  ⟨(some 61), none, .mv (.t 10)⟩,
  ⟨(some 62), none, .call 25 [(.t 61)]⟩,
  ⟨(some 63), none, .bin .add (.t 60) (.t 62)⟩,
  ⟨(some 64), none, .fld 1 (.t 3)⟩,
  ⟨none, none, .store 1 (.t 64) (.t 63)⟩]
theorem tr10_16 : (ro Tryd.f10 16).toList.mapM (trO Tryd.prog 85 (ro Tryd.f10 16)) = some a10_16 := by kernel_rfl
def a10_17 : List AO := [⟨(some 65), none, .fld 0 (.t 11)⟩,
  ⟨(some 66), none, .load none (.t 65)⟩,
  ⟨(some 67), none, .call 27 [(.t 66), (.v (.int .i64 1)), (.v (.int .i64 8))]⟩,
  ⟨(some 68), none, .un .not (.t 67)⟩,
  ⟨(some 69), none, .call 26 [(.t 3), (.t 68), (.v (.int .i64 5))]⟩]
theorem tr10_17 : (ro Tryd.f10 17).toList.mapM (trO Tryd.prog 85 (ro Tryd.f10 17)) = some a10_17 := by kernel_rfl
def a10_18 : List AO := [⟨(some 70), none, .mv (.t 8)⟩,
  ⟨(some 71), none, .fld 0 (.t 11)⟩,
  ⟨(some 72), none, .load none (.t 71)⟩,
  ⟨(some 73), none, .look true false (.bool false) (.t 70) (.t 72)⟩,
  ⟨(some 74), none, .call 26 [(.t 3), (.t 73), (.v (.int .i64 6))]⟩]
theorem tr10_18 : (ro Tryd.f10 18).toList.mapM (trO Tryd.prog 85 (ro Tryd.f10 18)) = some a10_18 := by kernel_rfl
def a10_19 : List AO := [⟨(some 75), none, .mv (.t 8)⟩,
  ⟨(some 76), none, .fld 0 (.t 11)⟩,
  ⟨(some 77), none, .load none (.t 76)⟩,
  ⟨none, none, .mset true (.t 75) (.t 77) (.v (.bool true))⟩]
theorem tr10_19 : (ro Tryd.f10 19).toList.mapM (trO Tryd.prog 85 (ro Tryd.f10 19)) = some a10_19 := by kernel_rfl
def a10_20 : List AO := [⟨(some 78), none, .load (some 4) (.t 11)⟩,
  ⟨(some 79), none, .mv (.t 9)⟩,
  ⟨(some 80), none, .call 28 [(.t 3), (.t 78), (.t 79)]⟩]
theorem tr10_20 : (ro Tryd.f10 20).toList.mapM (trO Tryd.prog 85 (ro Tryd.f10 20)) = some a10_20 := by kernel_rfl
def a10_21 : List AO := [⟨(some 81), none, .bin .add (.t 54) (.v (.int .i64 1))⟩,
  ⟨(some 54), none, .mv (.t 81)⟩]
theorem tr10_21 : (ro Tryd.f10 21).toList.mapM (trO Tryd.prog 85 (ro Tryd.f10 21)) = some a10_21 := by kernel_rfl
def a10_22 : List AO := [⟨(some 82), none, .bin .add (.t 15) (.v (.int .i64 1))⟩,
  ⟨(some 15), none, .mv (.t 82)⟩]
theorem tr10_22 : (ro Tryd.f10 22).toList.mapM (trO Tryd.prog 85 (ro Tryd.f10 22)) = some a10_22 := by kernel_rfl
def a10_23 : List AO := [⟨(some 83), none, .fld 0 (.t 3)⟩,
  ⟨(some 84), none, .load none (.t 83)⟩,
  ⟨(some 2), none, .mv (.t 84)⟩]
theorem tr10_23 : (ro Tryd.f10 23).toList.mapM (trO Tryd.prog 85 (ro Tryd.f10 23)) = some a10_23 := by kernel_rfl
/-- airline/airlineref12.Check -/
noncomputable def c11 : Code := .seq (.region 0 (ro Tryd.f11 0) false) (.seq (.region 1 (ro Tryd.f11 1) false) (.seq (.seq (.region 2 (ro Tryd.f11 2) false) (.block 0 (.loop (.seq (.seq (.region 3 (ro Tryd.f11 3) false) (.cond (.tmp 11) (.skip) (.exit 0))) (.seq (.block 1 (.seq (.region 5 (ro Tryd.f11 5) false) (.seq (.seq (.region 6 (ro Tryd.f11 6) false) (.block 2 (.loop (.seq (.seq (.region 7 (ro Tryd.f11 7) false) (.cond (.tmp 18) (.skip) (.exit 2))) (.seq (.block 3 (.region 9 (ro Tryd.f11 9) true)) (.region 8 (ro Tryd.f11 8) false)))))) (.seq (.seq (.region 10 (ro Tryd.f11 10) false) (.cond (.tmp 41) (.region 11 (ro Tryd.f11 11) false) (.skip))) (.seq (.seq (.region 12 (ro Tryd.f11 12) false) (.cond (.tmp 47) (.region 13 (ro Tryd.f11 13) false) (.skip))) (.seq (.seq (.region 14 (ro Tryd.f11 14) false) (.cond (.tmp 68) (.region 15 (ro Tryd.f11 15) false) (.skip))) (.region 16 (ro Tryd.f11 16) false))))))) (.region 4 (ro Tryd.f11 4) false)))))) (.seq (.region 17 (ro Tryd.f11 17) false) (.ret))))
theorem body11 : Tryd.f11.body = some c11 := by kernel_rfl
theorem res11 : Tryd.f11.results.toList.mapM (trR Tryd.prog) = some [.t 2] := by kernel_rfl
theorem nt11 : Tryd.f11.ntmps = 83 := by kernel_rfl
theorem nm11 : (Tryd.f11.name == "runtime.NumGoroutine") = false := by kernel_rfl
def a11_0 : List AO := [⟨(some 2), none, .mv (.v .nils)⟩]
theorem tr11_0 : (ro Tryd.f11 0).toList.mapM (trO Tryd.prog 83 (ro Tryd.f11 0)) = some a11_0 := by kernel_rfl
def a11_1 : List AO := [⟨(some 3), none, .mv (.v .nils)⟩]
theorem tr11_1 : (ro Tryd.f11 1).toList.mapM (trO Tryd.prog 83 (ro Tryd.f11 1)) = some a11_1 := by kernel_rfl
def a11_2 : List AO := [⟨(some 4), none, .mv (.v (.int .i64 0))⟩]
theorem tr11_2 : (ro Tryd.f11 2).toList.mapM (trO Tryd.prog 83 (ro Tryd.f11 2)) = some a11_2 := by kernel_rfl
def a11_3 : List AO := [⟨(some 8), none, .mv (.t 4)⟩,
  ⟨(some 9), none, .mv (.t 0)⟩,
  ⟨(some 10), none, .len (.t 9)⟩,
  ⟨(some 11), none, .bin .lss (.t 8) (.t 10)⟩]
theorem tr11_3 : (ro Tryd.f11 3).toList.mapM (trO Tryd.prog 83 (ro Tryd.f11 3)) = some a11_3 := by kernel_rfl
def a11_5 : List AO := [⟨(some 14), none, .mv (.t 4)⟩,
  ⟨(some 15), none, .call 29 [(.v (.str [])), (.v (.str [99, 111, 110, 102, 105, 103])), (.t 14)]⟩,
  ⟨(some 5), none, .mv (.t 15)⟩,
  ⟨(some 6), none, .mv (.v (.bool false))⟩]
theorem tr11_5 : (ro Tryd.f11 5).toList.mapM (trO Tryd.prog 83 (ro Tryd.f11 5)) = some a11_5 := by kernel_rfl
def a11_6 : List AO := [⟨(some 7), none, .mv (.v (.int .i64 0))⟩]
theorem tr11_6 : (ro Tryd.f11 6).toList.mapM (trO Tryd.prog 83 (ro Tryd.f11 6)) = some a11_6 := by kernel_rfl
def a11_7 : List AO := [⟨(some 16), none, .mv (.t 7)⟩,
  ⟨(some 17), none, .mv (.t 4)⟩,
  ⟨(some 18), none, .bin .lss (.t 16) (.t 17)⟩]
theorem tr11_7 : (ro Tryd.f11 7).toList.mapM (trO Tryd.prog 83 (ro Tryd.f11 7)) = some a11_7 := by kernel_rfl
def a11_9 : List AO := [⟨(some 21), none, .mv (.t 6)⟩,
  ⟨(some 22), none, .mv (.t 21)⟩,
  ⟨(some 23), some (22, false), .mv (.t 0)⟩,
  ⟨(some 24), some (22, false), .mv (.t 7)⟩,
  ⟨(some 25), some (22, false), .idx 2 (.t 23) (.t 24)⟩,
  ⟨(some 26), some (22, false), .fld 0 (.t 25)⟩,
  ⟨(some 27), some (22, false), .load none (.t 26)⟩,
  ⟨(some 28), some (22, false), .mv (.t 0)⟩,
  ⟨(some 29), some (22, false), .mv (.t 4)⟩,
  ⟨(some 30), some (22, false), .idx 2 (.t 28) (.t 29)⟩,
  ⟨(some 31), some (22, false), .fld 0 (.t 30)⟩,
  ⟨(some 32), some (22, false), .load none (.t 31)⟩,
  ⟨(some 33), some (22, false), .bin .eql (.t 27) (.t 32)⟩,
  ⟨(some 34), none, .pick (.t 22) (.v (.bool true)) (.t 33)⟩,
  ⟨(some 6), none, .mv (.t 34)⟩]
theorem tr11_9 : (ro Tryd.f11 9).toList.mapM (trO Tryd.prog 83 (ro Tryd.f11 9)) = some a11_9 := by kernel_rfl
def d11_9 : List (List Nat) := [[], [0], [0, 1], [0, 1], [0, 1, 2, 3], [0, 1, 2, 3, 4], [0, 1, 2, 3, 4, 5], [0, 1], [0, 1], [0, 1, 7, 8], [0, 1, 7, 8, 9], [0, 1, 7, 8, 9, 10], [0, 1, 2, 3, 4, 5, 6, 7, 8, 9, 10, 11], [0, 1, 2, 3, 4, 5, 6, 7, 8, 9, 10, 11, 12], [0, 1, 2, 3, 4, 5, 6, 7, 8, 9, 10, 11, 12, 13]]
theorem ok11_9 : okReg (ro Tryd.f11 9) a11_9 d11_9 = true := by kernel_rfl
def a11_8 : List AO := [⟨(some 19), none, .mv (.t 7)⟩,
  ⟨(some 20), none, .bin .add (.t 19) (.v (.int .i64 1))⟩,
  ⟨(some 7), none, .mv (.t 20)⟩]
theorem tr11_8 : (ro Tryd.f11 8).toList.mapM (trO Tryd.prog 83 (ro Tryd.f11 8)) = some a11_8 := by kernel_rfl
def a11_10 : List AO := [⟨(some 35), none, .mv (.t 0)⟩,
  ⟨(some 36), none, .mv (.t 4)⟩,
  ⟨(some 37), none, .idx 2 (.t 35) (.t 36)⟩,
  ⟨(some 38), none, .fld 0 (.t 37)⟩,
  ⟨(some 39), none, .load none (.t 38)⟩,
  ⟨(some 40), none, .call 30 [(.t 39), (.v (.int .i64 3)), (.v (.int .i64 3))]⟩,
  ⟨(some 41), none, .un .not (.t 40)⟩]
theorem tr11_10 : (ro Tryd.f11 10).toList.mapM (trO Tryd.prog 83 (ro Tryd.f11 10)) = some a11_10 := by kernel_rfl
def a11_11 : List AO := [⟨(some 42), none, .mv (.t 3)⟩,
  ⟨(some 43), none, .mv (.t 5)⟩,
  ⟨(some 44), none, .build [(.int .i64 0), (.str [])] [(0, 1, (.v (.int .i64 5))), (1, 1, (.t 43))]⟩,
  ⟨(some 45), none, .slc 51 2 [(.t 44)]⟩,
  ⟨(some 46), none, .app 51 2 24 (.t 42) (.t 45)⟩,
  ⟨(some 3), none, .mv (.t 46)⟩]
theorem tr11_11 : (ro Tryd.f11 11).toList.mapM (trO Tryd.prog 83 (ro Tryd.f11 11)) = some a11_11 := by kernel_rfl
def a11_12 : List AO := [⟨(some 47), none, .mv (.t 6)⟩]
theorem tr11_12 : (ro Tryd.f11 12).toList.mapM (trO Tryd.prog 83 (ro Tryd.f11 12)) = some a11_12 := by kernel_rfl
def a11_13 : List AO := [⟨(some 48), none, .mv (.t 3)⟩,
  ⟨(some 49), none, .mv (.t 5)⟩,
  ⟨(some 50), none, .build [(.int .i64 0), (.str [])] [(0, 1, (.v (.int .i64 6))), (1, 1, (.t 49))]⟩,
  ⟨(some 51), none, .slc 51 2 [(.t 50)]⟩,
  ⟨(some 52), none, .app 51 2 24 (.t 48) (.t 51)⟩,
  ⟨(some 3), none, .mv (.t 52)⟩]
theorem tr11_13 : (ro Tryd.f11 13).toList.mapM (trO Tryd.prog 83 (ro Tryd.f11 13)) = some a11_13 := by kernel_rfl
def a11_14 : List AO := [⟨(some 53), none, .mv (.t 0)⟩,
  ⟨(some 54), none, .mv (.t 4)⟩,
  ⟨(some 55), none, .idx 2 (.t 53) (.t 54)⟩,
  ⟨(some 56), none, .fld 1 (.t 55)⟩,
  ⟨(some 57), none, .load none (.t 56)⟩,
  ⟨(some 58), none, .len (.t 57)⟩,
  ⟨(some 59), none, .bin .lss (.t 58) (.v (.int .i64 1))⟩,
  ⟨(some 60), none, .mv (.t 59)⟩,
  ⟨(some 61), some (60, false), .mv (.t 0)⟩,
  ⟨(some 62), some (60, false), .mv (.t 4)⟩,
  ⟨(some 63), some (60, false), .idx 2 (.t 61) (.t 62)⟩,
  ⟨(some 64), some (60, false), .fld 1 (.t 63)⟩,
  ⟨(some 65), some (60, false), .load none (.t 64)⟩,
  ⟨(some 66), some (60, false), .len (.t 65)⟩,
  ⟨(some 67), some (60, false), .bin .gtr (.t 66) (.v (.int .i64 4))⟩,
  ⟨(some 68), none, .pick (.t 60) (.v (.bool true)) (.t 67)⟩]
theorem tr11_14 : (ro Tryd.f11 14).toList.mapM (trO Tryd.prog 83 (ro Tryd.f11 14)) = some a11_14 := by kernel_rfl
def a11_15 : List AO := [⟨(some 69), none, .mv (.t 3)⟩,
  ⟨(some 70), none, .mv (.t 5)⟩,
  ⟨(some 71), none, .build [(.int .i64 0), (.str [])] [(0, 1, (.v (.int .i64 4))), (1, 1, (.t 70))]⟩,
  ⟨(some 72), none, .slc 51 2 [(.t 71)]⟩,
  ⟨(some 73), none, .app 51 2 24 (.t 69) (.t 72)⟩,
  ⟨(some 3), none, .mv (.t 73)⟩]
theorem tr11_15 : (ro Tryd.f11 15).toList.mapM (trO Tryd.prog 83 (ro Tryd.f11 15)) = some a11_15 := by kernel_rfl
def a11_16 : List AO := [⟨(some 74), none, .mv (.t 3)⟩,
  ⟨(some 75), none, .mv (.t 0)⟩,
  ⟨(some 76), none, .mv (.t 4)⟩,
  ⟨(some 77), none, .idx 2 (.t 75) (.t 76)⟩,
  ⟨(some 78), none, .load (some 2) (.t 77)⟩,
  ⟨(some 79), none, .mv (.t 5)⟩,
  ⟨(some 80), none, .call 31 [(.t 78), (.t 79)]⟩,
  ⟨(some 81), none, .app 51 2 24 (.t 74) (.t 80)⟩,
  ⟨(some 3), none, .mv (.t 81)⟩]
theorem tr11_16 : (ro Tryd.f11 16).toList.mapM (trO Tryd.prog 83 (ro Tryd.f11 16)) = some a11_16 := by kernel_rfl
def a11_4 : List AO := [⟨(some 12), none, .mv (.t 4)⟩,
  ⟨(some 13), none, .bin .add (.t 12) (.v (.int .i64 1))⟩,
  ⟨(some 4), none, .mv (.t 13)⟩]
theorem tr11_4 : (ro Tryd.f11 4).toList.mapM (trO Tryd.prog 83 (ro Tryd.f11 4)) = some a11_4 := by kernel_rfl
def a11_17 : List AO := [⟨(some 82), none, .mv (.t 3)⟩,
  ⟨(some 2), none, .mv (.t 82)⟩]
theorem tr11_17 : (ro Tryd.f11 17).toList.mapM (trO Tryd.prog 83 (ro Tryd.f11 17)) = some a11_17 := by kernel_rfl
/-- airline/cabin.Find -/
noncomputable def c12 : Code := .seq (.region 0 (ro Tryd.f12 0) false) (.seq (.seq (.region 1 (ro Tryd.f12 1) false) (.block 0 (.loop (.seq (.region 2 (ro Tryd.f12 2) false) (.seq (.cond (.tmp 11) (.skip) (.exit 0)) (.seq (.block 1 (.seq (.region 3 (ro Tryd.f12 3) false) (.seq (.region 4 (ro Tryd.f12 4) false) (.cond (.tmp 17) (.seq (.region 5 (ro Tryd.f12 5) false) (.ret)) (.skip))))) (.region 6 (ro Tryd.f12 6) false))))))) (.seq (.region 7 (ro Tryd.f12 7) false) (.ret)))
theorem body12 : Tryd.f12.body = some c12 := by kernel_rfl
theorem res12 : Tryd.f12.results.toList.mapM (trR Tryd.prog) = some [.c (some 2) 4, .t 5] := by kernel_rfl
theorem nt12 : Tryd.f12.ntmps = 21 := by kernel_rfl
theorem nm12 : (Tryd.f12.name == "runtime.NumGoroutine") = false := by kernel_rfl
def a12_0 : List AO := [⟨(some 4), none, .alloc 30 [(.str []), .nils]⟩,
  ⟨(some 5), none, .mv (.v (.bool false))⟩]
theorem tr12_0 : (ro Tryd.f12 0).toList.mapM (trO Tryd.prog 21 (ro Tryd.f12 0)) = some a12_0 := by kernel_rfl
def a12_1 : List AO := [⟨(some 8), none, .mv (.t 0)⟩,
  ⟨(some 9), none, .len (.t 8)⟩,
  ⟨(some 10), none, .mv (.v (.int .i64 0))⟩]
theorem tr12_1 : (ro Tryd.f12 1).toList.mapM (trO Tryd.prog 21 (ro Tryd.f12 1)) = some a12_1 := by kernel_rfl
def a12_2 : List AO := [⟨(some 11), none, .bin .lss (.t 10) (.t 9)⟩]
theorem tr12_2 : (ro Tryd.f12 2).toList.mapM (trO Tryd.prog 21 (ro Tryd.f12 2)) = some a12_2 := by kernel_rfl
def a12_3 : List AO := [⟨(some 12), none, .idx 2 (.t 8) (.t 10)⟩,
  ⟨(some 13), none, .load (some 2) (.t 12)⟩,
  ⟨(some 7), none, .alloc 30 [(.str []), .nils]⟩,
  ⟨none, none, .store 2 (.t 7) (.t 13)⟩]
theorem tr12_3 : (ro Tryd.f12 3).toList.mapM (trO Tryd.prog 21 (ro Tryd.f12 3)) = some a12_3 := by kernel_rfl
def a12_4 : List AO := [⟨(some 14), none, .fld 0 (.t 7)⟩,
  ⟨(some 15), none, .load none (.t 14)⟩,
  ⟨(some 16), none, .mv (.t 1)⟩,
  ⟨(some 17), none, .bin .eql (.t 15) (.t 16)⟩]
theorem tr12_4 : (ro Tryd.f12 4).toList.mapM (trO Tryd.prog 21 (ro Tryd.f12 4)) = some a12_4 := by kernel_rfl
def a12_5 : List AO := [⟨(some 18), none, .load (some 2) (.t 7)⟩,
  ⟨none, none, .store 2 (.t 4) (.t 18)⟩,
  ⟨(some 5), none, .mv (.v (.bool true))⟩]
theorem tr12_5 : (ro Tryd.f12 5).toList.mapM (trO Tryd.prog 21 (ro Tryd.f12 5)) = some a12_5 := by kernel_rfl
def a12_6 : List AO := [⟨(some 19), none, .bin .add (.t 10) (.v (.int .i64 1))⟩,
  ⟨(some 10), none, .mv (.t 19)⟩]
theorem tr12_6 : (ro Tryd.f12 6).toList.mapM (trO Tryd.prog 21 (ro Tryd.f12 6)) = some a12_6 := by kernel_rfl
def a12_7 : List AO := [⟨(some 20), none, .build [(.str []), .nils] []⟩,
  ⟨none, none, .store 2 (.t 4) (.t 20)⟩,
  ⟨(some 5), none, .mv (.v (.bool false))⟩]
theorem tr12_7 : (ro Tryd.f12 7).toList.mapM (trO Tryd.prog 21 (ro Tryd.f12 7)) = some a12_7 := by kernel_rfl
/-- airline/airlineref12.Find -/
noncomputable def c13 : Code := .seq (.region 0 (ro Tryd.f13 0) false) (.seq (.seq (.region 1 (ro Tryd.f13 1) false) (.block 0 (.loop (.seq (.seq (.region 2 (ro Tryd.f13 2) false) (.cond (.tmp 10) (.skip) (.exit 0))) (.seq (.block 1 (.seq (.region 4 (ro Tryd.f13 4) false) (.cond (.tmp 19) (.seq (.region 5 (ro Tryd.f13 5) false) (.ret)) (.skip)))) (.region 3 (ro Tryd.f13 3) false)))))) (.seq (.region 6 (ro Tryd.f13 6) false) (.ret)))
theorem body13 : Tryd.f13.body = some c13 := by kernel_rfl
theorem res13 : Tryd.f13.results.toList.mapM (trR Tryd.prog) = some [.c (some 2) 4, .t 5] := by kernel_rfl
theorem nt13 : Tryd.f13.ntmps = 25 := by kernel_rfl
theorem nm13 : (Tryd.f13.name == "runtime.NumGoroutine") = false := by kernel_rfl
def a13_0 : List AO := [⟨(some 4), none, .alloc 30 [(.str []), .nils]⟩,
  ⟨(some 5), none, .mv (.v (.bool false))⟩]
theorem tr13_0 : (ro Tryd.f13 0).toList.mapM (trO Tryd.prog 25 (ro Tryd.f13 0)) = some a13_0 := by kernel_rfl
def a13_1 : List AO := [⟨(some 6), none, .mv (.v (.int .i64 0))⟩]
theorem tr13_1 : (ro Tryd.f13 1).toList.mapM (trO Tryd.prog 25 (ro Tryd.f13 1)) = some a13_1 := by kernel_rfl
def a13_2 : List AO := [⟨(some 7), none, .mv (.t 6)⟩,
  ⟨(some 8), none, .mv (.t 0)⟩,
  ⟨(some 9), none, .len (.t 8)⟩,
  ⟨(some 10), none, .bin .lss (.t 7) (.t 9)⟩]
theorem tr13_2 : (ro Tryd.f13 2).toList.mapM (trO Tryd.prog 25 (ro Tryd.f13 2)) = some a13_2 := by kernel_rfl
def a13_4 : List AO := [⟨(some 13), none, .mv (.t 0)⟩,
  ⟨(some 14), none, .mv (.t 6)⟩,
  ⟨(some 15), none, .idx 2 (.t 13) (.t 14)⟩,
  ⟨(some 16), none, .fld 0 (.t 15)⟩,
  ⟨(some 17), none, .load none (.t 16)⟩,
  ⟨(some 18), none, .mv (.t 1)⟩,
  ⟨(some 19), none, .bin .eql (.t 17) (.t 18)⟩]
theorem tr13_4 : (ro Tryd.f13 4).toList.mapM (trO Tryd.prog 25 (ro Tryd.f13 4)) = some a13_4 := by kernel_rfl
def a13_5 : List AO := [⟨(some 20), none, .mv (.t 0)⟩,
  ⟨(some 21), none, .mv (.t 6)⟩,
  ⟨(some 22), none, .idx 2 (.t 20) (.t 21)⟩,
  ⟨(some 23), none, .load (some 2) (.t 22)⟩,
  ⟨none, none, .store 2 (.t 4) (.t 23)⟩,
  ⟨(some 5), none, .mv (.v (.bool true))⟩]
theorem tr13_5 : (ro Tryd.f13 5).toList.mapM (trO Tryd.prog 25 (ro Tryd.f13 5)) = some a13_5 := by kernel_rfl
def a13_3 : List AO := [⟨(some 11), none, .mv (.t 6)⟩,
  ⟨(some 12), none, .bin .add (.t 11) (.v (.int .i64 1))⟩,
  ⟨(some 6), none, .mv (.t 12)⟩]
theorem tr13_3 : (ro Tryd.f13 3).toList.mapM (trO Tryd.prog 25 (ro Tryd.f13 3)) = some a13_3 := by kernel_rfl
def a13_6 : List AO := [⟨(some 24), none, .build [(.str []), .nils] []⟩,
  ⟨none, none, .store 2 (.t 4) (.t 24)⟩,
  ⟨(some 5), none, .mv (.v (.bool false))⟩]
theorem tr13_6 : (ro Tryd.f13 6).toList.mapM (trO Tryd.prog 25 (ro Tryd.f13 6)) = some a13_6 := by kernel_rfl
/-- airline/airlinelaw12.Same -/
noncomputable def c14 : Code := .seq (.region 0 (ro Tryd.f14 0) false) (.seq (.seq (.region 1 (ro Tryd.f14 1) false) (.cond (.tmp 22) (.seq (.region 2 (ro Tryd.f14 2) false) (.ret)) (.skip))) (.seq (.seq (.region 3 (ro Tryd.f14 3) false) (.block 0 (.loop (.seq (.seq (.region 4 (ro Tryd.f14 4) false) (.cond (.tmp 27) (.skip) (.exit 0))) (.seq (.block 1 (.seq (.region 6 (ro Tryd.f14 6) true) (.seq (.seq (.region 7 (ro Tryd.f14 7) false) (.cond (.tmp 67) (.seq (.region 8 (ro Tryd.f14 8) false) (.ret)) (.skip))) (.seq (.region 9 (ro Tryd.f14 9) false) (.block 2 (.loop (.seq (.seq (.region 10 (ro Tryd.f14 10) false) (.cond (.tmp 72) (.skip) (.exit 2))) (.seq (.block 3 (.seq (.region 12 (ro Tryd.f14 12) true) (.cond (.tmp 85) (.seq (.region 13 (ro Tryd.f14 13) false) (.ret)) (.skip)))) (.region 11 (ro Tryd.f14 11) false))))))))) (.region 5 (ro Tryd.f14 5) false)))))) (.seq (.region 14 (ro Tryd.f14 14) false) (.ret))))
theorem body14 : Tryd.f14.body = some c14 := by kernel_rfl
theorem res14 : Tryd.f14.results.toList.mapM (trR Tryd.prog) = some [.t 4] := by kernel_rfl
theorem nt14 : Tryd.f14.ntmps = 86 := by kernel_rfl
theorem nm14 : (Tryd.f14.name == "runtime.NumGoroutine") = false := by kernel_rfl
def a14_0 : List AO := [⟨(some 2), none, .box 30 (.t 0)⟩,
  ⟨(some 3), none, .box 30 (.t 1)⟩,
  ⟨(some 4), none, .mv (.v (.bool false))⟩]
theorem tr14_0 : (ro Tryd.f14 0).toList.mapM (trO Tryd.prog 86 (ro Tryd.f14 0)) = some a14_0 := by kernel_rfl
def a14_1 : List AO := [⟨(some 9), none, .fld 0 (.t 2)⟩,
  ⟨(some 10), none, .load none (.t 9)⟩,
  ⟨(some 11), none, .fld 0 (.t 3)⟩,
  ⟨(some 12), none, .load none (.t 11)⟩,
  ⟨(some 13), none, .bin .neq (.t 10) (.t 12)⟩,
  ⟨(some 14), none, .mv (.t 13)⟩,
  ⟨(some 15), some (14, false), .fld 1 (.t 2)⟩,
  ⟨(some 16), some (14, false), .load none (.t 15)⟩,
  ⟨(some 17), some (14, false), .len (.t 16)⟩,
  ⟨(some 18), some (14, false), .fld 1 (.t 3)⟩,
  ⟨(some 19), some (14, false), .load none (.t 18)⟩,
  ⟨(some 20), some (14, false), .len (.t 19)⟩,
  ⟨(some 21), some (14, false), .bin .neq (.t 17) (.t 20)⟩,
  ⟨(some 22), none, .pick (.t 14) (.v (.bool true)) (.t 21)⟩]
theorem tr14_1 : (ro Tryd.f14 1).toList.mapM (trO Tryd.prog 86 (ro Tryd.f14 1)) = some a14_1 := by kernel_rfl
def a14_2 : List AO := [⟨(some 4), none, .mv (.v (.bool false))⟩]
theorem tr14_2 : (ro Tryd.f14 2).toList.mapM (trO Tryd.prog 86 (ro Tryd.f14 2)) = some a14_2 := by kernel_rfl
def a14_3 : List AO := [⟨(some 5), none, .mv (.v (.int .i64 0))⟩]
theorem tr14_3 : (ro Tryd.f14 3).toList.mapM (trO Tryd.prog 86 (ro Tryd.f14 3)) = some a14_3 := by kernel_rfl
def a14_4 : List AO := [⟨(some 23), none, .mv (.t 5)⟩,
  ⟨(some 24), none, .fld 1 (.t 2)⟩,
  ⟨(some 25), none, .load none (.t 24)⟩,
  ⟨(some 26), none, .len (.t 25)⟩,
  ⟨(some 27), none, .bin .lss (.t 23) (.t 26)⟩]
theorem tr14_4 : (ro Tryd.f14 4).toList.mapM (trO Tryd.prog 86 (ro Tryd.f14 4)) = some a14_4 := by kernel_rfl
def a14_6 : List AO := [⟨(some 30), none, .fld 1 (.t 2)⟩,
  ⟨(some 31), none, .load none (.t 30)⟩,
  ⟨(some 32), none, .mv (.t 5)⟩,
  ⟨(some 33), none, .idx 4 (.t 31) (.t 32)⟩,
  ⟨(some 34), none, .load (some 4) (.t 33)⟩,
  ⟨(some 35), none, .fld 1 (.t 3)⟩,
  ⟨(some 36), none, .load none (.t 35)⟩,
  ⟨(some 37), none, .mv (.t 5)⟩,
  ⟨(some 38), none, .idx 4 (.t 36) (.t 37)⟩,
  ⟨(some 39), none, .load (some 4) (.t 38)⟩,
  ⟨(some 6), none, .alloc 38 [(.str []), (.int .i64 0), (.int .i64 0), .nils]⟩,
  ⟨(some 7), none, .alloc 38 [(.str []), (.int .i64 0), (.int .i64 0), .nils]⟩,
  ⟨none, none, .store 4 (.t 6) (.t 34)⟩,
  ⟨none, none, .store 4 (.t 7) (.t 39)⟩]
theorem tr14_6 : (ro Tryd.f14 6).toList.mapM (trO Tryd.prog 86 (ro Tryd.f14 6)) = some a14_6 := by kernel_rfl
def d14_6 : List (List Nat) := [[], [0], [], [0, 1, 2], [0, 1, 2, 3], [], [5], [], [5, 6, 7], [5, 6, 7, 8], [], [], [0, 1, 2, 3, 4, 10, 11], [0, 1, 2, 3, 4, 5, 6, 7, 8, 9, 10, 11, 12]]
theorem ok14_6 : okReg (ro Tryd.f14 6) a14_6 d14_6 = true := by kernel_rfl
def a14_7 : List AO := [⟨(some 40), none, .fld 0 (.t 6)⟩,
  ⟨(some 41), none, .load none (.t 40)⟩,
  ⟨(some 42), none, .fld 0 (.t 7)⟩,
  ⟨(some 43), none, .load none (.t 42)⟩,
  ⟨(some 44), none, .bin .neq (.t 41) (.t 43)⟩,
  ⟨(some 45), none, .mv (.t 44)⟩,
  ⟨(some 46), some (45, false), .fld 1 (.t 6)⟩,
  ⟨(some 47), some (45, false), .load none (.t 46)⟩,
  ⟨(some 48), some (45, false), .fld 1 (.t 7)⟩,
  ⟨(some 49), some (45, false), .load none (.t 48)⟩,
  ⟨(some 50), some (45, false), .bin .neq (.t 47) (.t 49)⟩,
  ⟨(some 51), none, .pick (.t 45) (.v (.bool true)) (.t 50)⟩,
  ⟨(some 52), none, .mv (.t 51)⟩,
  ⟨(some 53), some (52, false), .fld 2 (.t 6)⟩,
  ⟨(some 54), some (52, false), .load none (.t 53)⟩,
  ⟨(some 55), some (52, false), .fld 2 (.t 7)⟩,
  ⟨(some 56), some (52, false), .load none (.t 55)⟩,
  ⟨(some 57), some (52, false), .bin .neq (.t 54) (.t 56)⟩,
  ⟨(some 58), none, .pick (.t 52) (.v (.bool true)) (.t 57)⟩,
  ⟨(some 59), none, .mv (.t 58)⟩,
  ⟨(some 60), some (59, false), .fld 3 (.t 6)⟩,
  ⟨(some 61), some (59, false), .load none (.t 60)⟩,
  ⟨(some 62), some (59, false), .len (.t 61)⟩,
  ⟨(some 63), some (59, false), .fld 3 (.t 7)⟩,
  ⟨(some 64), some (59, false), .load none (.t 63)⟩,
  ⟨(some 65), some (59, false), .len (.t 64)⟩,
  ⟨(some 66), some (59, false), .bin .neq (.t 62) (.t 65)⟩,
  ⟨(some 67), none, .pick (.t 59) (.v (.bool true)) (.t 66)⟩]
theorem tr14_7 : (ro Tryd.f14 7).toList.mapM (trO Tryd.prog 86 (ro Tryd.f14 7)) = some a14_7 := by kernel_rfl
def a14_8 : List AO := [⟨(some 4), none, .mv (.v (.bool false))⟩]
theorem tr14_8 : (ro Tryd.f14 8).toList.mapM (trO Tryd.prog 86 (ro Tryd.f14 8)) = some a14_8 := by kernel_rfl
def a14_9 : List AO := [⟨(some 8), none, .mv (.v (.int .i64 0))⟩]
theorem tr14_9 : (ro Tryd.f14 9).toList.mapM (trO Tryd.prog 86 (ro Tryd.f14 9)) = some a14_9 := by kernel_rfl
def a14_10 : List AO := [⟨(some 68), none, .mv (.t 8)⟩,
  ⟨(some 69), none, .fld 3 (.t 6)⟩,
  ⟨(some 70), none, .load none (.t 69)⟩,
  ⟨(some 71), none, .len (.t 70)⟩,
  ⟨(some 72), none, .bin .lss (.t 68) (.t 71)⟩]
theorem tr14_10 : (ro Tryd.f14 10).toList.mapM (trO Tryd.prog 86 (ro Tryd.f14 10)) = some a14_10 := by kernel_rfl
def a14_12 : List AO := [⟨(some 75), none, .fld 3 (.t 6)⟩,
  ⟨(some 76), none, .load none (.t 75)⟩,
  ⟨(some 77), none, .mv (.t 8)⟩,
  ⟨(some 78), none, .idx 2 (.t 76) (.t 77)⟩,
  ⟨(some 79), none, .load (some 2) (.t 78)⟩,
  ⟨(some 80), none, .fld 3 (.t 7)⟩,
  ⟨(some 81), none, .load none (.t 80)⟩,
  ⟨(some 82), none, .mv (.t 8)⟩,
  ⟨(some 83), none, .idx 2 (.t 81) (.t 82)⟩,
  ⟨(some 84), none, .load (some 2) (.t 83)⟩,
  ⟨(some 85), none, .bina [.s, .i .i64] .neq (.t 79) (.t 84)⟩]
theorem tr14_12 : (ro Tryd.f14 12).toList.mapM (trO Tryd.prog 86 (ro Tryd.f14 12)) = some a14_12 := by kernel_rfl
def d14_12 : List (List Nat) := [[], [0], [], [0, 1, 2], [0, 1, 2, 3], [], [5], [], [5, 6, 7], [5, 6, 7, 8], [0, 1, 2, 3, 4, 5, 6, 7, 8, 9]]
theorem ok14_12 : okReg (ro Tryd.f14 12) a14_12 d14_12 = true := by kernel_rfl
def a14_13 : List AO := [⟨(some 4), none, .mv (.v (.bool false))⟩]
theorem tr14_13 : (ro Tryd.f14 13).toList.mapM (trO Tryd.prog 86 (ro Tryd.f14 13)) = some a14_13 := by kernel_rfl
def a14_11 : List AO := [⟨(some 73), none, .mv (.t 8)⟩,
  ⟨(some 74), none, .bin .add (.t 73) (.v (.int .i64 1))⟩,
  ⟨(some 8), none, .mv (.t 74)⟩]
theorem tr14_11 : (ro Tryd.f14 11).toList.mapM (trO Tryd.prog 86 (ro Tryd.f14 11)) = some a14_11 := by kernel_rfl
def a14_5 : List AO := [⟨(some 28), none, .mv (.t 5)⟩,
  ⟨(some 29), none, .bin .add (.t 28) (.v (.int .i64 1))⟩,
  ⟨(some 5), none, .mv (.t 29)⟩]
theorem tr14_5 : (ro Tryd.f14 5).toList.mapM (trO Tryd.prog 86 (ro Tryd.f14 5)) = some a14_5 := by kernel_rfl
def a14_14 : List AO := [⟨(some 4), none, .mv (.v (.bool true))⟩]
theorem tr14_14 : (ro Tryd.f14 14).toList.mapM (trO Tryd.prog 86 (ro Tryd.f14 14)) = some a14_14 := by kernel_rfl
/-- airline/cabin.Place -/
noncomputable def c15 : Code := .seq (.region 0 (ro Tryd.f15 0) false) (.seq (.seq (.region 1 (ro Tryd.f15 1) false) (.block 0 (.loop (.seq (.region 2 (ro Tryd.f15 2) false) (.seq (.cond (.tmp 15) (.skip) (.exit 0)) (.seq (.block 1 (.seq (.region 3 (ro Tryd.f15 3) false) (.seq (.region 4 (ro Tryd.f15 4) false) (.block 2 (.loop (.seq (.region 5 (ro Tryd.f15 5) false) (.seq (.cond (.tmp 23) (.skip) (.exit 2)) (.seq (.block 3 (.seq (.region 6 (ro Tryd.f15 6) false) (.seq (.region 7 (ro Tryd.f15 7) false) (.cond (.tmp 30) (.seq (.region 8 (ro Tryd.f15 8) false) (.ret)) (.skip))))) (.region 9 (ro Tryd.f15 9) false))))))))) (.region 10 (ro Tryd.f15 10) false))))))) (.seq (.region 11 (ro Tryd.f15 11) false) (.ret)))
theorem body15 : Tryd.f15.body = some c15 := by kernel_rfl
theorem res15 : Tryd.f15.results.toList.mapM (trR Tryd.prog) = some [.t 4, .t 5, .t 6] := by kernel_rfl
theorem nt15 : Tryd.f15.ntmps = 35 := by kernel_rfl
theorem nm15 : (Tryd.f15.name == "runtime.NumGoroutine") = false := by kernel_rfl
def a15_0 : List AO := [⟨(some 2), none, .box 30 (.t 0)⟩,
  ⟨(some 4), none, .mv (.v (.int .i64 0))⟩,
  ⟨(some 5), none, .mv (.v (.int .i64 0))⟩,
  ⟨(some 6), none, .mv (.v (.bool false))⟩]
theorem tr15_0 : (ro Tryd.f15 0).toList.mapM (trO Tryd.prog 35 (ro Tryd.f15 0)) = some a15_0 := by kernel_rfl
def a15_1 : List AO := [⟨(some 11), none, .fld 1 (.t 2)⟩,
  ⟨(some 12), none, .load none (.t 11)⟩,
  ⟨(some 13), none, .len (.t 12)⟩,
  ⟨(some 14), none, .mv (.v (.int .i64 0))⟩]
theorem tr15_1 : (ro Tryd.f15 1).toList.mapM (trO Tryd.prog 35 (ro Tryd.f15 1)) = some a15_1 := by kernel_rfl
def a15_2 : List AO := [⟨(some 15), none, .bin .lss (.t 14) (.t 13)⟩]
theorem tr15_2 : (ro Tryd.f15 2).toList.mapM (trO Tryd.prog 35 (ro Tryd.f15 2)) = some a15_2 := by kernel_rfl
def a15_3 : List AO := [⟨(some 16), none, .mv (.t 14)⟩,
  ⟨(some 17), none, .idx 4 (.t 12) (.t 14)⟩,
  ⟨(some 18), none, .load (some 4) (.t 17)⟩,
  ⟨(some 8), none, .alloc 38 [(.str []), (.int .i64 0), (.int .i64 0), .nils]⟩,
  ⟨(some 7), none, .mv (.t 16)⟩,
  ⟨none, none, .store 4 (.t 8) (.t 18)⟩]
theorem tr15_3 : (ro Tryd.f15 3).toList.mapM (trO Tryd.prog 35 (ro Tryd.f15 3)) = some a15_3 := by kernel_rfl
def a15_4 : List AO := [⟨(some 19), none, .fld 3 (.t 8)⟩,
  ⟨(some 20), none, .load none (.t 19)⟩,
  ⟨(some 21), none, .len (.t 20)⟩,
  ⟨(some 22), none, .mv (.v (.int .i64 0))⟩]
theorem tr15_4 : (ro Tryd.f15 4).toList.mapM (trO Tryd.prog 35 (ro Tryd.f15 4)) = some a15_4 := by kernel_rfl
def a15_5 : List AO := [⟨(some 23), none, .bin .lss (.t 22) (.t 21)⟩]
theorem tr15_5 : (ro Tryd.f15 5).toList.mapM (trO Tryd.prog 35 (ro Tryd.f15 5)) = some a15_5 := by kernel_rfl
def a15_6 : List AO := [⟨(some 24), none, .mv (.t 22)⟩,
  ⟨(some 25), none, .idx 2 (.t 20) (.t 22)⟩,
  ⟨(some 26), none, .load (some 2) (.t 25)⟩,
  ⟨(some 10), none, .alloc 40 [(.str []), (.int .i64 0)]⟩,
  ⟨(some 9), none, .mv (.t 24)⟩,
  ⟨none, none, .store 2 (.t 10) (.t 26)⟩]
theorem tr15_6 : (ro Tryd.f15 6).toList.mapM (trO Tryd.prog 35 (ro Tryd.f15 6)) = some a15_6 := by kernel_rfl
def a15_7 : List AO := [⟨(some 27), none, .fld 0 (.t 10)⟩,
  ⟨(some 28), none, .load none (.t 27)⟩,
  ⟨(some 29), none, .mv (.t 1)⟩,
  ⟨(some 30), none, .bin .eql (.t 28) (.t 29)⟩]
theorem tr15_7 : (ro Tryd.f15 7).toList.mapM (trO Tryd.prog 35 (ro Tryd.f15 7)) = some a15_7 := by kernel_rfl
def a15_8 : List AO := [⟨(some 31), none, .mv (.t 7)⟩,
  ⟨(some 32), none, .mv (.t 9)⟩,
  ⟨(some 4), none, .mv (.t 31)⟩,
  ⟨(some 5), none, .mv (.t 32)⟩,
  ⟨(some 6), none, .mv (.v (.bool true))⟩]
theorem tr15_8 : (ro Tryd.f15 8).toList.mapM (trO Tryd.prog 35 (ro Tryd.f15 8)) = some a15_8 := by kernel_rfl
def a15_9 : List AO := [⟨(some 33), none, .bin .add (.t 22) (.v (.int .i64 1))⟩,
  ⟨(some 22), none, .mv (.t 33)⟩]
theorem tr15_9 : (ro Tryd.f15 9).toList.mapM (trO Tryd.prog 35 (ro Tryd.f15 9)) = some a15_9 := by kernel_rfl
def a15_10 : List AO := [⟨(some 34), none, .bin .add (.t 14) (.v (.int .i64 1))⟩,
  ⟨(some 14), none, .mv (.t 34)⟩]
theorem tr15_10 : (ro Tryd.f15 10).toList.mapM (trO Tryd.prog 35 (ro Tryd.f15 10)) = some a15_10 := by kernel_rfl
def a15_11 : List AO := [⟨(some 4), none, .mv (.v (.int .i64 0))⟩,
  ⟨(some 5), none, .mv (.v (.int .i64 0))⟩,
  ⟨(some 6), none, .mv (.v (.bool false))⟩]
theorem tr15_11 : (ro Tryd.f15 11).toList.mapM (trO Tryd.prog 35 (ro Tryd.f15 11)) = some a15_11 := by kernel_rfl
/-- airline/airlineref12.Place -/
noncomputable def c16 : Code := .seq (.region 0 (ro Tryd.f16 0) false) (.seq (.seq (.region 1 (ro Tryd.f16 1) false) (.block 0 (.loop (.seq (.seq (.region 2 (ro Tryd.f16 2) false) (.cond (.tmp 13) (.skip) (.exit 0))) (.seq (.block 1 (.seq (.region 4 (ro Tryd.f16 4) false) (.block 2 (.loop (.seq (.seq (.region 5 (ro Tryd.f16 5) false) (.cond (.tmp 24) (.skip) (.exit 2))) (.seq (.block 3 (.seq (.region 7 (ro Tryd.f16 7) false) (.cond (.tmp 38) (.seq (.region 8 (ro Tryd.f16 8) false) (.ret)) (.skip)))) (.region 6 (ro Tryd.f16 6) false))))))) (.region 3 (ro Tryd.f16 3) false)))))) (.seq (.region 9 (ro Tryd.f16 9) false) (.ret)))
theorem body16 : Tryd.f16.body = some c16 := by kernel_rfl
theorem res16 : Tryd.f16.results.toList.mapM (trR Tryd.prog) = some [.t 4, .t 5, .t 6] := by kernel_rfl
theorem nt16 : Tryd.f16.ntmps = 41 := by kernel_rfl
theorem nm16 : (Tryd.f16.name == "runtime.NumGoroutine") = false := by kernel_rfl
def a16_0 : List AO := [⟨(some 2), none, .box 30 (.t 0)⟩,
  ⟨(some 4), none, .mv (.v (.int .i64 0))⟩,
  ⟨(some 5), none, .mv (.v (.int .i64 0))⟩,
  ⟨(some 6), none, .mv (.v (.bool false))⟩]
theorem tr16_0 : (ro Tryd.f16 0).toList.mapM (trO Tryd.prog 41 (ro Tryd.f16 0)) = some a16_0 := by kernel_rfl
def a16_1 : List AO := [⟨(some 7), none, .mv (.v (.int .i64 0))⟩]
theorem tr16_1 : (ro Tryd.f16 1).toList.mapM (trO Tryd.prog 41 (ro Tryd.f16 1)) = some a16_1 := by kernel_rfl
def a16_2 : List AO := [⟨(some 9), none, .mv (.t 7)⟩,
  ⟨(some 10), none, .fld 1 (.t 2)⟩,
  ⟨(some 11), none, .load none (.t 10)⟩,
  ⟨(some 12), none, .len (.t 11)⟩,
  ⟨(some 13), none, .bin .lss (.t 9) (.t 12)⟩]
theorem tr16_2 : (ro Tryd.f16 2).toList.mapM (trO Tryd.prog 41 (ro Tryd.f16 2)) = some a16_2 := by kernel_rfl
def a16_4 : List AO := [⟨(some 8), none, .mv (.v (.int .i64 0))⟩]
theorem tr16_4 : (ro Tryd.f16 4).toList.mapM (trO Tryd.prog 41 (ro Tryd.f16 4)) = some a16_4 := by kernel_rfl
def a16_5 : List AO := [⟨(some 16), none, .mv (.t 8)⟩,
  ⟨(some 17), none, .fld 1 (.t 2)⟩,
  ⟨(some 18), none, .load none (.t 17)⟩,
  ⟨(some 19), none, .mv (.t 7)⟩,
  ⟨(some 20), none, .idx 4 (.t 18) (.t 19)⟩,
  ⟨(some 21), none, .fld 3 (.t 20)⟩,
  ⟨(some 22), none, .load none (.t 21)⟩,
  ⟨(some 23), none, .len (.t 22)⟩,
  ⟨(some 24), none, .bin .lss (.t 16) (.t 23)⟩]
theorem tr16_5 : (ro Tryd.f16 5).toList.mapM (trO Tryd.prog 41 (ro Tryd.f16 5)) = some a16_5 := by kernel_rfl
def a16_7 : List AO := [⟨(some 27), none, .fld 1 (.t 2)⟩,
  ⟨(some 28), none, .load none (.t 27)⟩,
  ⟨(some 29), none, .mv (.t 7)⟩,
  ⟨(some 30), none, .idx 4 (.t 28) (.t 29)⟩,
  ⟨(some 31), none, .fld 3 (.t 30)⟩,
  ⟨(some 32), none, .load none (.t 31)⟩,
  ⟨(some 33), none, .mv (.t 8)⟩,
  ⟨(some 34), none, .idx 2 (.t 32) (.t 33)⟩,
  ⟨(some 35), none, .fld 0 (.t 34)⟩,
  ⟨(some 36), none, .load none (.t 35)⟩,
  ⟨(some 37), none, .mv (.t 1)⟩,
  ⟨(some 38), none, .bin .eql (.t 36) (.t 37)⟩]
theorem tr16_7 : (ro Tryd.f16 7).toList.mapM (trO Tryd.prog 41 (ro Tryd.f16 7)) = some a16_7 := by kernel_rfl
def a16_8 : List AO := [⟨(some 39), none, .mv (.t 7)⟩,
  ⟨(some 40), none, .mv (.t 8)⟩,
  ⟨(some 4), none, .mv (.t 39)⟩,
  ⟨(some 5), none, .mv (.t 40)⟩,
  ⟨(some 6), none, .mv (.v (.bool true))⟩]
theorem tr16_8 : (ro Tryd.f16 8).toList.mapM (trO Tryd.prog 41 (ro Tryd.f16 8)) = some a16_8 := by kernel_rfl
def a16_6 : List AO := [⟨(some 25), none, .mv (.t 8)⟩,
  ⟨(some 26), none, .bin .add (.t 25) (.v (.int .i64 1))⟩,
  ⟨(some 8), none, .mv (.t 26)⟩]
theorem tr16_6 : (ro Tryd.f16 6).toList.mapM (trO Tryd.prog 41 (ro Tryd.f16 6)) = some a16_6 := by kernel_rfl
def a16_3 : List AO := [⟨(some 14), none, .mv (.t 7)⟩,
  ⟨(some 15), none, .bin .add (.t 14) (.v (.int .i64 1))⟩,
  ⟨(some 7), none, .mv (.t 15)⟩]
theorem tr16_3 : (ro Tryd.f16 3).toList.mapM (trO Tryd.prog 41 (ro Tryd.f16 3)) = some a16_3 := by kernel_rfl
def a16_9 : List AO := [⟨(some 4), none, .mv (.v (.int .i64 0))⟩,
  ⟨(some 5), none, .mv (.v (.int .i64 0))⟩,
  ⟨(some 6), none, .mv (.v (.bool false))⟩]
theorem tr16_9 : (ro Tryd.f16 9).toList.mapM (trO Tryd.prog 41 (ro Tryd.f16 9)) = some a16_9 := by kernel_rfl
/-- airline/cabin.Limits -/
noncomputable def c17 : Code := .seq (.region 0 (ro Tryd.f17 0) false) (.seq (.region 1 (ro Tryd.f17 1) false) (.seq (.seq (.region 2 (ro Tryd.f17 2) false) (.block 0 (.loop (.seq (.region 3 (ro Tryd.f17 3) false) (.seq (.cond (.tmp 12) (.skip) (.exit 0)) (.seq (.block 1 (.seq (.region 4 (ro Tryd.f17 4) false) (.seq (.region 5 (ro Tryd.f17 5) false) (.seq (.region 6 (ro Tryd.f17 6) false) (.cond (.tmp 20) (.region 7 (ro Tryd.f17 7) true) (.skip)))))) (.region 8 (ro Tryd.f17 8) false))))))) (.seq (.region 9 (ro Tryd.f17 9) false) (.ret))))
theorem body17 : Tryd.f17.body = some c17 := by kernel_rfl
theorem res17 : Tryd.f17.results.toList.mapM (trR Tryd.prog) = some [.t 2] := by kernel_rfl
theorem nt17 : Tryd.f17.ntmps = 36 := by kernel_rfl
theorem nm17 : (Tryd.f17.name == "runtime.NumGoroutine") = false := by kernel_rfl
def a17_0 : List AO := [⟨(some 1), none, .box 38 (.t 0)⟩,
  ⟨(some 2), none, .mv (.v .nils)⟩]
theorem tr17_0 : (ro Tryd.f17 0).toList.mapM (trO Tryd.prog 36 (ro Tryd.f17 0)) = some a17_0 := by kernel_rfl
def a17_1 : List AO := [⟨(some 5), none, .fld 3 (.t 1)⟩,
  ⟨(some 6), none, .load none (.t 5)⟩,
  ⟨(some 7), none, .len (.t 6)⟩,
  ⟨(some 8), none, .mks 3 1 8 [(.int .i64 0)] (.t 7) (.t 7)⟩,
  ⟨(some 3), none, .mv (.t 8)⟩]
theorem tr17_1 : (ro Tryd.f17 1).toList.mapM (trO Tryd.prog 36 (ro Tryd.f17 1)) = some a17_1 := by kernel_rfl
def a17_2 : List AO := [⟨(some 9), none, .mv (.t 3)⟩,
  ⟨(some 10), none, .len (.t 9)⟩,
  ⟨(some 11), none, .mv (.v (.int .i64 0))⟩]
theorem tr17_2 : (ro Tryd.f17 2).toList.mapM (trO Tryd.prog 36 (ro Tryd.f17 2)) = some a17_2 := by kernel_rfl
def a17_3 : List AO := [⟨(some 12), none, .bin .lss (.t 11) (.t 10)⟩]
theorem tr17_3 : (ro Tryd.f17 3).toList.mapM (trO Tryd.prog 36 (ro Tryd.f17 3)) = some a17_3 := by kernel_rfl
def a17_4 : List AO := [⟨(some 13), none, .mv (.t 11)⟩,
  ⟨(some 4), none, .mv (.t 13)⟩]
theorem tr17_4 : (ro Tryd.f17 4).toList.mapM (trO Tryd.prog 36 (ro Tryd.f17 4)) = some a17_4 := by kernel_rfl
def a17_5 : List AO := [⟨(some 14), none, .mv (.t 3)⟩,
  ⟨(some 15), none, .mv (.t 4)⟩,
  ⟨(some 16), none, .load (some 4) (.t 1)⟩,
  ⟨(some 17), none, .call 19 [(.t 16)]⟩,
  ⟨(some 18), none, .idx 1 (.t 14) (.t 15)⟩,
  ⟨none, none, .store 1 (.t 18) (.t 17)⟩]
theorem tr17_5 : (ro Tryd.f17 5).toList.mapM (trO Tryd.prog 36 (ro Tryd.f17 5)) = some a17_5 := by kernel_rfl
def a17_6 : List AO := [⟨(some 19), none, .mv (.t 4)⟩,
  ⟨(some 20), none, .bin .gtr (.t 19) (.v (.int .i64 0))⟩]
theorem tr17_6 : (ro Tryd.f17 6).toList.mapM (trO Tryd.prog 36 (ro Tryd.f17 6)) = some a17_6 := by kernel_rfl
def a17_7 : List AO := [⟨(some 21), none, .mv (.t 3)⟩,
  ⟨(some 22), none, .mv (.t 4)⟩,
  ⟨(some 23), none, .idx 1 (.t 21) (.t 22)⟩,
  ⟨(some 24), none, .load none (.t 23)⟩,
  ⟨(some 25), none, .fld 3 (.t 1)⟩,
  ⟨(some 26), none, .load none (.t 25)⟩,
  ⟨(some 27), none, .mv (.t 4)⟩,
  ⟨(some 28), none, .bin .sub (.t 27) (.v (.int .i64 1))⟩,
  ⟨(some 29), none, .idx 2 (.t 26) (.t 28)⟩,
  ⟨(some 30), none, .fld 1 (.t 29)⟩,
  ⟨(some 31), none, .load none (.t 30)⟩,
  ⟨(some 32), none, .bin .sub (.t 24) (.t 31)⟩,
  ⟨(some 33), none, .idx 1 (.t 21) (.t 22)⟩,
  ⟨none, none, .store 1 (.t 33) (.t 32)⟩]
theorem tr17_7 : (ro Tryd.f17 7).toList.mapM (trO Tryd.prog 36 (ro Tryd.f17 7)) = some a17_7 := by kernel_rfl
def d17_7 : List (List Nat) := [[], [], [0, 1], [0, 1, 2], [], [4], [], [6], [4, 5, 6, 7], [4, 5, 6, 7, 8], [4, 5, 6, 7, 8, 9], [0, 1, 2, 3, 4, 5, 6, 7, 8, 9, 10], [0, 1, 2, 3, 4, 5, 6, 7, 8, 9, 10, 11], [0, 1, 2, 3, 4, 5, 6, 7, 8, 9, 10, 11, 12]]
theorem ok17_7 : okReg (ro Tryd.f17 7) a17_7 d17_7 = true := by kernel_rfl
def a17_8 : List AO := [⟨(some 34), none, .bin .add (.t 11) (.v (.int .i64 1))⟩,
  ⟨(some 11), none, .mv (.t 34)⟩]
theorem tr17_8 : (ro Tryd.f17 8).toList.mapM (trO Tryd.prog 36 (ro Tryd.f17 8)) = some a17_8 := by kernel_rfl
def a17_9 : List AO := [⟨(some 35), none, .mv (.t 3)⟩,
  ⟨(some 2), none, .mv (.t 35)⟩]
theorem tr17_9 : (ro Tryd.f17 9).toList.mapM (trO Tryd.prog 36 (ro Tryd.f17 9)) = some a17_9 := by kernel_rfl
/-- airline/airlineref12.Limits -/
noncomputable def c18 : Code := .seq (.region 0 (ro Tryd.f18 0) false) (.seq (.region 1 (ro Tryd.f18 1) false) (.seq (.seq (.region 2 (ro Tryd.f18 2) false) (.block 0 (.loop (.seq (.seq (.region 3 (ro Tryd.f18 3) false) (.cond (.tmp 10) (.skip) (.exit 0))) (.seq (.block 1 (.seq (.region 5 (ro Tryd.f18 5) false) (.seq (.seq (.region 6 (ro Tryd.f18 6) false) (.cond (.tmp 16) (.region 7 (ro Tryd.f18 7) false) (.skip))) (.region 8 (ro Tryd.f18 8) false)))) (.region 4 (ro Tryd.f18 4) false)))))) (.seq (.region 9 (ro Tryd.f18 9) false) (.ret))))
theorem body18 : Tryd.f18.body = some c18 := by kernel_rfl
theorem res18 : Tryd.f18.results.toList.mapM (trR Tryd.prog) = some [.t 2] := by kernel_rfl
theorem nt18 : Tryd.f18.ntmps = 31 := by kernel_rfl
theorem nm18 : (Tryd.f18.name == "runtime.NumGoroutine") = false := by kernel_rfl
def a18_0 : List AO := [⟨(some 1), none, .box 38 (.t 0)⟩,
  ⟨(some 2), none, .mv (.v .nils)⟩]
theorem tr18_0 : (ro Tryd.f18 0).toList.mapM (trO Tryd.prog 31 (ro Tryd.f18 0)) = some a18_0 := by kernel_rfl
def a18_1 : List AO := [⟨(some 3), none, .mv (.v .nils)⟩]
theorem tr18_1 : (ro Tryd.f18 1).toList.mapM (trO Tryd.prog 31 (ro Tryd.f18 1)) = some a18_1 := by kernel_rfl
def a18_2 : List AO := [⟨(some 4), none, .mv (.v (.int .i64 0))⟩]
theorem tr18_2 : (ro Tryd.f18 2).toList.mapM (trO Tryd.prog 31 (ro Tryd.f18 2)) = some a18_2 := by kernel_rfl
def a18_3 : List AO := [⟨(some 6), none, .mv (.t 4)⟩,
  ⟨(some 7), none, .fld 3 (.t 1)⟩,
  ⟨(some 8), none, .load none (.t 7)⟩,
  ⟨(some 9), none, .len (.t 8)⟩,
  ⟨(some 10), none, .bin .lss (.t 6) (.t 9)⟩]
theorem tr18_3 : (ro Tryd.f18 3).toList.mapM (trO Tryd.prog 31 (ro Tryd.f18 3)) = some a18_3 := by kernel_rfl
def a18_5 : List AO := [⟨(some 13), none, .load (some 4) (.t 1)⟩,
  ⟨(some 14), none, .call 20 [(.t 13)]⟩,
  ⟨(some 5), none, .mv (.t 14)⟩]
theorem tr18_5 : (ro Tryd.f18 5).toList.mapM (trO Tryd.prog 31 (ro Tryd.f18 5)) = some a18_5 := by kernel_rfl
def a18_6 : List AO := [⟨(some 15), none, .mv (.t 4)⟩,
  ⟨(some 16), none, .bin .gtr (.t 15) (.v (.int .i64 0))⟩]
theorem tr18_6 : (ro Tryd.f18 6).toList.mapM (trO Tryd.prog 31 (ro Tryd.f18 6)) = some a18_6 := by kernel_rfl
def a18_7 : List AO := [⟨(some 17), none, .mv (.t 5)⟩,
  ⟨(some 18), none, .fld 3 (.t 1)⟩,
  ⟨(some 19), none, .load none (.t 18)⟩,
  ⟨(some 20), none, .mv (.t 4)⟩,
  ⟨(some 21), none, .bin .sub (.t 20) (.v (.int .i64 1))⟩,
  ⟨(some 22), none, .idx 2 (.t 19) (.t 21)⟩,
  ⟨(some 23), none, .fld 1 (.t 22)⟩,
  ⟨(some 24), none, .load none (.t 23)⟩,
  ⟨(some 25), none, .bin .sub (.t 17) (.t 24)⟩,
  ⟨(some 5), none, .mv (.t 25)⟩]
theorem tr18_7 : (ro Tryd.f18 7).toList.mapM (trO Tryd.prog 31 (ro Tryd.f18 7)) = some a18_7 := by kernel_rfl
def a18_8 : List AO := [⟨(some 26), none, .mv (.t 3)⟩,
  ⟨(some 27), none, .mv (.t 5)⟩,
  ⟨(some 28), none, .slc 3 1 [(.t 27)]⟩,
  ⟨(some 29), none, .app 3 1 8 (.t 26) (.t 28)⟩,
  ⟨(some 3), none, .mv (.t 29)⟩]
theorem tr18_8 : (ro Tryd.f18 8).toList.mapM (trO Tryd.prog 31 (ro Tryd.f18 8)) = some a18_8 := by kernel_rfl
def a18_4 : List AO := [⟨(some 11), none, .mv (.t 4)⟩,
  ⟨(some 12), none, .bin .add (.t 11) (.v (.int .i64 1))⟩,
  ⟨(some 4), none, .mv (.t 12)⟩]
theorem tr18_4 : (ro Tryd.f18 4).toList.mapM (trO Tryd.prog 31 (ro Tryd.f18 4)) = some a18_4 := by kernel_rfl
def a18_9 : List AO := [⟨(some 30), none, .mv (.t 3)⟩,
  ⟨(some 2), none, .mv (.t 30)⟩]
theorem tr18_9 : (ro Tryd.f18 9).toList.mapM (trO Tryd.prog 31 (ro Tryd.f18 9)) = some a18_9 := by kernel_rfl
/-- airline/cabin.Authorized -/
noncomputable def c19 : Code := .seq (.region 0 (ro Tryd.f19 0) false) (.seq (.region 1 (ro Tryd.f19 1) false) (.ret))
theorem body19 : Tryd.f19.body = some c19 := by kernel_rfl
theorem res19 : Tryd.f19.results.toList.mapM (trR Tryd.prog) = some [.t 2] := by kernel_rfl
theorem nt19 : Tryd.f19.ntmps = 8 := by kernel_rfl
theorem nm19 : (Tryd.f19.name == "runtime.NumGoroutine") = false := by kernel_rfl
def a19_0 : List AO := [⟨(some 1), none, .box 38 (.t 0)⟩,
  ⟨(some 2), none, .mv (.v (.int .i64 0))⟩]
theorem tr19_0 : (ro Tryd.f19 0).toList.mapM (trO Tryd.prog 8 (ro Tryd.f19 0)) = some a19_0 := by kernel_rfl
def a19_1 : List AO := [⟨(some 3), none, .fld 1 (.t 1)⟩,
  ⟨(some 4), none, .load none (.t 3)⟩,
  ⟨(some 5), none, .fld 2 (.t 1)⟩,
  ⟨(some 6), none, .load none (.t 5)⟩,
  ⟨(some 7), none, .bin .add (.t 4) (.t 6)⟩,
  ⟨(some 2), none, .mv (.t 7)⟩]
theorem tr19_1 : (ro Tryd.f19 1).toList.mapM (trO Tryd.prog 8 (ro Tryd.f19 1)) = some a19_1 := by kernel_rfl
/-- airline/airlineref12.Authorized -/
noncomputable def c20 : Code := .seq (.region 0 (ro Tryd.f20 0) false) (.seq (.region 1 (ro Tryd.f20 1) false) (.ret))
theorem body20 : Tryd.f20.body = some c20 := by kernel_rfl
theorem res20 : Tryd.f20.results.toList.mapM (trR Tryd.prog) = some [.t 2] := by kernel_rfl
theorem nt20 : Tryd.f20.ntmps = 8 := by kernel_rfl
theorem nm20 : (Tryd.f20.name == "runtime.NumGoroutine") = false := by kernel_rfl
def a20_0 : List AO := [⟨(some 1), none, .box 38 (.t 0)⟩,
  ⟨(some 2), none, .mv (.v (.int .i64 0))⟩]
theorem tr20_0 : (ro Tryd.f20 0).toList.mapM (trO Tryd.prog 8 (ro Tryd.f20 0)) = some a20_0 := by kernel_rfl
def a20_1 : List AO := [⟨(some 3), none, .fld 1 (.t 1)⟩,
  ⟨(some 4), none, .load none (.t 3)⟩,
  ⟨(some 5), none, .fld 2 (.t 1)⟩,
  ⟨(some 6), none, .load none (.t 5)⟩,
  ⟨(some 7), none, .bin .add (.t 4) (.t 6)⟩,
  ⟨(some 2), none, .mv (.t 7)⟩]
theorem tr20_1 : (ro Tryd.f20 1).toList.mapM (trO Tryd.prog 8 (ro Tryd.f20 1)) = some a20_1 := by kernel_rfl
/-- airline/cabin.Like -/
noncomputable def c21 : Code := .seq (.region 0 (ro Tryd.f21 0) false) (.seq (.region 1 (ro Tryd.f21 1) false) (.seq (.seq (.region 2 (ro Tryd.f21 2) false) (.cond (.tmp 23) (.seq (.region 3 (ro Tryd.f21 3) false) (.ret)) (.skip))) (.seq (.seq (.region 4 (ro Tryd.f21 4) false) (.seq (.region 5 (ro Tryd.f21 5) false) (.cond (.tmp 31) (.seq (.region 6 (ro Tryd.f21 6) false) (.ret)) (.skip)))) (.seq (.region 7 (ro Tryd.f21 7) false) (.seq (.seq (.region 8 (ro Tryd.f21 8) false) (.cond (.tmp 50) (.seq (.region 9 (ro Tryd.f21 9) false) (.ret)) (.skip))) (.seq (.region 10 (ro Tryd.f21 10) false) (.seq (.region 11 (ro Tryd.f21 11) false) (.ret))))))))
theorem body21 : Tryd.f21.body = some c21 := by kernel_rfl
theorem res21 : Tryd.f21.results.toList.mapM (trR Tryd.prog) = some [.t 6, .t 7] := by kernel_rfl
theorem nt21 : Tryd.f21.ntmps = 64 := by kernel_rfl
theorem nm21 : (Tryd.f21.name == "runtime.NumGoroutine") = false := by kernel_rfl
def a21_0 : List AO := [⟨(some 3), none, .box 30 (.t 0)⟩,
  ⟨(some 4), none, .box 30 (.t 1)⟩,
  ⟨(some 6), none, .mv (.v (.str []))⟩,
  ⟨(some 7), none, .mv (.v (.bool false))⟩]
theorem tr21_0 : (ro Tryd.f21 0).toList.mapM (trO Tryd.prog 64 (ro Tryd.f21 0)) = some a21_0 := by kernel_rfl
def a21_1 : List AO := [⟨(some 16), none, .load (some 2) (.t 3)⟩,
  ⟨(some 17), none, .mv (.t 2)⟩,
  ⟨(some 18), none, .call 15 [(.t 16), (.t 17)]⟩,
  ⟨(some 15), none, .mv (.t 18)⟩,
  ⟨(some 19), none, .ext 0 (.t 15)⟩,
  ⟨(some 20), none, .ext 1 (.t 15)⟩,
  ⟨(some 21), none, .ext 2 (.t 15)⟩,
  ⟨(some 8), none, .mv (.t 19)⟩,
  ⟨(some 9), none, .mv (.t 20)⟩,
  ⟨(some 10), none, .mv (.t 21)⟩]
theorem tr21_1 : (ro Tryd.f21 1).toList.mapM (trO Tryd.prog 64 (ro Tryd.f21 1)) = some a21_1 := by kernel_rfl
def a21_2 : List AO := [⟨(some 22), none, .mv (.t 10)⟩,
  ⟨(some 23), none, .un .not (.t 22)⟩]
theorem tr21_2 : (ro Tryd.f21 2).toList.mapM (trO Tryd.prog 64 (ro Tryd.f21 2)) = some a21_2 := by kernel_rfl
def a21_3 : List AO := [⟨(some 6), none, .mv (.v (.str []))⟩,
  ⟨(some 7), none, .mv (.v (.bool false))⟩]
theorem tr21_3 : (ro Tryd.f21 3).toList.mapM (trO Tryd.prog 64 (ro Tryd.f21 3)) = some a21_3 := by kernel_rfl
def a21_4 : List AO := [⟨(some 25), none, .load (some 2) (.t 4)⟩,
  ⟨(some 26), none, .mv (.t 2)⟩,
  ⟨(some 27), none, .call 15 [(.t 25), (.t 26)]⟩,
  ⟨(some 24), none, .mv (.t 27)⟩,
  ⟨(some 28), none, .ext 0 (.t 24)⟩,
  ⟨(some 29), none, .ext 1 (.t 24)⟩,
  ⟨(some 30), none, .ext 2 (.t 24)⟩,
  ⟨(some 11), none, .mv (.t 28)⟩,
  ⟨(some 12), none, .mv (.t 29)⟩,
  ⟨(some 13), none, .mv (.t 30)⟩]
theorem tr21_4 : (ro Tryd.f21 4).toList.mapM (trO Tryd.prog 64 (ro Tryd.f21 4)) = some a21_4 := by kernel_rfl
def a21_5 : List AO := [⟨(some 31), none, .mv (.t 13)⟩]
theorem tr21_5 : (ro Tryd.f21 5).toList.mapM (trO Tryd.prog 64 (ro Tryd.f21 5)) = some a21_5 := by kernel_rfl
def a21_6 : List AO := [⟨(some 32), none, .mv (.t 2)⟩,
  ⟨(some 6), none, .mv (.t 32)⟩,
  ⟨(some 7), none, .mv (.v (.bool true))⟩]
theorem tr21_6 : (ro Tryd.f21 6).toList.mapM (trO Tryd.prog 64 (ro Tryd.f21 6)) = some a21_6 := by kernel_rfl
def a21_7 : List AO := [⟨(some 33), none, .mv (.t 8)⟩,
  ⟨(some 34), none, .fld 1 (.t 4)⟩,
  ⟨(some 35), none, .load none (.t 34)⟩,
  ⟨(some 36), none, .len (.t 35)⟩,
  ⟨(some 37), none, .bin .sub (.t 36) (.v (.int .i64 1))⟩,
  ⟨(some 38), none, .mn (.t 33) (.t 37)⟩,
  ⟨(some 8), none, .mv (.t 38)⟩]
theorem tr21_7 : (ro Tryd.f21 7).toList.mapM (trO Tryd.prog 64 (ro Tryd.f21 7)) = some a21_7 := by kernel_rfl
def a21_8 : List AO := [⟨(some 39), none, .mv (.t 8)⟩,
  ⟨(some 40), none, .bin .lss (.t 39) (.v (.int .i64 0))⟩,
  ⟨(some 41), none, .mv (.t 40)⟩,
  ⟨(some 42), some (41, false), .fld 1 (.t 4)⟩,
  ⟨(some 43), some (41, false), .load none (.t 42)⟩,
  ⟨(some 44), some (41, false), .mv (.t 8)⟩,
  ⟨(some 45), some (41, false), .idx 4 (.t 43) (.t 44)⟩,
  ⟨(some 46), some (41, false), .fld 3 (.t 45)⟩,
  ⟨(some 47), some (41, false), .load none (.t 46)⟩,
  ⟨(some 48), some (41, false), .len (.t 47)⟩,
  ⟨(some 49), some (41, false), .bin .eql (.t 48) (.v (.int .i64 0))⟩,
  ⟨(some 50), none, .pick (.t 41) (.v (.bool true)) (.t 49)⟩]
theorem tr21_8 : (ro Tryd.f21 8).toList.mapM (trO Tryd.prog 64 (ro Tryd.f21 8)) = some a21_8 := by kernel_rfl
def a21_9 : List AO := [⟨(some 6), none, .mv (.v (.str []))⟩,
  ⟨(some 7), none, .mv (.v (.bool false))⟩]
theorem tr21_9 : (ro Tryd.f21 9).toList.mapM (trO Tryd.prog 64 (ro Tryd.f21 9)) = some a21_9 := by kernel_rfl
def a21_10 : List AO := [⟨(some 51), none, .fld 1 (.t 4)⟩,
  ⟨(some 52), none, .load none (.t 51)⟩,
  ⟨(some 53), none, .mv (.t 8)⟩,
  ⟨(some 54), none, .idx 4 (.t 52) (.t 53)⟩,
  ⟨(some 55), none, .fld 3 (.t 54)⟩,
  ⟨(some 56), none, .load none (.t 55)⟩,
  ⟨(some 14), none, .mv (.t 56)⟩]
theorem tr21_10 : (ro Tryd.f21 10).toList.mapM (trO Tryd.prog 64 (ro Tryd.f21 10)) = some a21_10 := by kernel_rfl
def a21_11 : List AO := [⟨(some 57), none, .mv (.t 14)⟩,
  ⟨(some 58), none, .mv (.t 14)⟩,
  ⟨(some 59), none, .len (.t 58)⟩,
  ⟨(some 60), none, .bin .sub (.t 59) (.v (.int .i64 1))⟩,
  ⟨(some 61), none, .idx 2 (.t 57) (.t 60)⟩,
  ⟨(some 62), none, .fld 0 (.t 61)⟩,
  ⟨(some 63), none, .load none (.t 62)⟩,
  ⟨(some 6), none, .mv (.t 63)⟩,
  ⟨(some 7), none, .mv (.v (.bool true))⟩]
theorem tr21_11 : (ro Tryd.f21 11).toList.mapM (trO Tryd.prog 64 (ro Tryd.f21 11)) = some a21_11 := by kernel_rfl
/-- airline/airlineref12.Like -/
noncomputable def c22 : Code := .seq (.region 0 (ro Tryd.f22 0) false) (.seq (.region 1 (ro Tryd.f22 1) false) (.seq (.seq (.region 2 (ro Tryd.f22 2) false) (.cond (.tmp 26) (.seq (.region 3 (ro Tryd.f22 3) false) (.ret)) (.skip))) (.seq (.region 4 (ro Tryd.f22 4) false) (.seq (.seq (.region 5 (ro Tryd.f22 5) false) (.cond (.tmp 34) (.seq (.region 6 (ro Tryd.f22 6) false) (.ret)) (.skip))) (.seq (.region 7 (ro Tryd.f22 7) false) (.seq (.seq (.region 8 (ro Tryd.f22 8) false) (.cond (.tmp 49) (.seq (.region 9 (ro Tryd.f22 9) false) (.ret)) (.skip))) (.seq (.region 10 (ro Tryd.f22 10) false) (.ret))))))))
theorem body22 : Tryd.f22.body = some c22 := by kernel_rfl
theorem res22 : Tryd.f22.results.toList.mapM (trR Tryd.prog) = some [.t 6, .t 7] := by kernel_rfl
theorem nt22 : Tryd.f22.ntmps = 57 := by kernel_rfl
theorem nm22 : (Tryd.f22.name == "runtime.NumGoroutine") = false := by kernel_rfl
def a22_0 : List AO := [⟨(some 3), none, .box 30 (.t 0)⟩,
  ⟨(some 4), none, .box 30 (.t 1)⟩,
  ⟨(some 6), none, .mv (.v (.str []))⟩,
  ⟨(some 7), none, .mv (.v (.bool false))⟩]
theorem tr22_0 : (ro Tryd.f22 0).toList.mapM (trO Tryd.prog 57 (ro Tryd.f22 0)) = some a22_0 := by kernel_rfl
def a22_1 : List AO := [⟨(some 13), none, .load (some 2) (.t 3)⟩,
  ⟨(some 14), none, .mv (.t 2)⟩,
  ⟨(some 15), none, .call 16 [(.t 13), (.t 14)]⟩,
  ⟨(some 12), none, .mv (.t 15)⟩,
  ⟨(some 16), none, .ext 0 (.t 12)⟩,
  ⟨(some 17), none, .ext 1 (.t 12)⟩,
  ⟨(some 18), none, .ext 2 (.t 12)⟩,
  ⟨(some 8), none, .mv (.t 16)⟩,
  ⟨(some 9), none, .mv (.t 17)⟩,
  ⟨(some 10), none, .mv (.t 18)⟩]
theorem tr22_1 : (ro Tryd.f22 1).toList.mapM (trO Tryd.prog 57 (ro Tryd.f22 1)) = some a22_1 := by kernel_rfl
def a22_2 : List AO := [⟨(some 19), none, .mv (.t 10)⟩,
  ⟨(some 20), none, .un .not (.t 19)⟩,
  ⟨(some 21), none, .mv (.t 20)⟩,
  ⟨(some 22), some (21, false), .fld 1 (.t 4)⟩,
  ⟨(some 23), some (21, false), .load none (.t 22)⟩,
  ⟨(some 24), some (21, false), .len (.t 23)⟩,
  ⟨(some 25), some (21, false), .bin .eql (.t 24) (.v (.int .i64 0))⟩,
  ⟨(some 26), none, .pick (.t 21) (.v (.bool true)) (.t 25)⟩]
theorem tr22_2 : (ro Tryd.f22 2).toList.mapM (trO Tryd.prog 57 (ro Tryd.f22 2)) = some a22_2 := by kernel_rfl
def a22_3 : List AO := [⟨(some 6), none, .mv (.v (.str []))⟩,
  ⟨(some 7), none, .mv (.v (.bool false))⟩]
theorem tr22_3 : (ro Tryd.f22 3).toList.mapM (trO Tryd.prog 57 (ro Tryd.f22 3)) = some a22_3 := by kernel_rfl
def a22_4 : List AO := [⟨(some 28), none, .load (some 2) (.t 4)⟩,
  ⟨(some 29), none, .mv (.t 2)⟩,
  ⟨(some 30), none, .call 16 [(.t 28), (.t 29)]⟩,
  ⟨(some 27), none, .mv (.t 30)⟩,
  ⟨(some 31), none, .ext 0 (.t 27)⟩,
  ⟨(some 32), none, .ext 1 (.t 27)⟩,
  ⟨(some 33), none, .ext 2 (.t 27)⟩,
  ⟨(some 10), none, .mv (.t 33)⟩]
theorem tr22_4 : (ro Tryd.f22 4).toList.mapM (trO Tryd.prog 57 (ro Tryd.f22 4)) = some a22_4 := by kernel_rfl
def a22_5 : List AO := [⟨(some 34), none, .mv (.t 10)⟩]
theorem tr22_5 : (ro Tryd.f22 5).toList.mapM (trO Tryd.prog 57 (ro Tryd.f22 5)) = some a22_5 := by kernel_rfl
def a22_6 : List AO := [⟨(some 35), none, .mv (.t 2)⟩,
  ⟨(some 6), none, .mv (.t 35)⟩,
  ⟨(some 7), none, .mv (.v (.bool true))⟩]
theorem tr22_6 : (ro Tryd.f22 6).toList.mapM (trO Tryd.prog 57 (ro Tryd.f22 6)) = some a22_6 := by kernel_rfl
def a22_7 : List AO := [⟨(some 36), none, .fld 1 (.t 4)⟩,
  ⟨(some 37), none, .load none (.t 36)⟩,
  ⟨(some 38), none, .mv (.t 8)⟩,
  ⟨(some 39), none, .fld 1 (.t 4)⟩,
  ⟨(some 40), none, .load none (.t 39)⟩,
  ⟨(some 41), none, .len (.t 40)⟩,
  ⟨(some 42), none, .bin .sub (.t 41) (.v (.int .i64 1))⟩,
  ⟨(some 43), none, .mn (.t 38) (.t 42)⟩,
  ⟨(some 44), none, .idx 4 (.t 37) (.t 43)⟩,
  ⟨(some 45), none, .fld 3 (.t 44)⟩,
  ⟨(some 46), none, .load none (.t 45)⟩,
  ⟨(some 11), none, .mv (.t 46)⟩]
theorem tr22_7 : (ro Tryd.f22 7).toList.mapM (trO Tryd.prog 57 (ro Tryd.f22 7)) = some a22_7 := by kernel_rfl
def a22_8 : List AO := [⟨(some 47), none, .mv (.t 11)⟩,
  ⟨(some 48), none, .len (.t 47)⟩,
  ⟨(some 49), none, .bin .eql (.t 48) (.v (.int .i64 0))⟩]
theorem tr22_8 : (ro Tryd.f22 8).toList.mapM (trO Tryd.prog 57 (ro Tryd.f22 8)) = some a22_8 := by kernel_rfl
def a22_9 : List AO := [⟨(some 6), none, .mv (.v (.str []))⟩,
  ⟨(some 7), none, .mv (.v (.bool false))⟩]
theorem tr22_9 : (ro Tryd.f22 9).toList.mapM (trO Tryd.prog 57 (ro Tryd.f22 9)) = some a22_9 := by kernel_rfl
def a22_10 : List AO := [⟨(some 50), none, .mv (.t 11)⟩,
  ⟨(some 51), none, .mv (.t 11)⟩,
  ⟨(some 52), none, .len (.t 51)⟩,
  ⟨(some 53), none, .bin .sub (.t 52) (.v (.int .i64 1))⟩,
  ⟨(some 54), none, .idx 2 (.t 50) (.t 53)⟩,
  ⟨(some 55), none, .fld 0 (.t 54)⟩,
  ⟨(some 56), none, .load none (.t 55)⟩,
  ⟨(some 6), none, .mv (.t 56)⟩,
  ⟨(some 7), none, .mv (.v (.bool true))⟩]
theorem tr22_10 : (ro Tryd.f22 10).toList.mapM (trO Tryd.prog 57 (ro Tryd.f22 10)) = some a22_10 := by kernel_rfl
/-- airline/airlinelaw12.sample -/
noncomputable def c23 : Code := .seq (.region 0 (ro Tryd.f23 0) false) (.seq (.region 1 (ro Tryd.f23 1) false) (.ret))
theorem body23 : Tryd.f23.body = some c23 := by kernel_rfl
theorem res23 : Tryd.f23.results.toList.mapM (trR Tryd.prog) = some [.c (some 2) 0] := by kernel_rfl
theorem nt23 : Tryd.f23.ntmps = 10 := by kernel_rfl
theorem nm23 : (Tryd.f23.name == "runtime.NumGoroutine") = false := by kernel_rfl
def a23_0 : List AO := [⟨(some 0), none, .alloc 30 [(.str []), .nils]⟩]
theorem tr23_0 : (ro Tryd.f23 0).toList.mapM (trO Tryd.prog 10 (ro Tryd.f23 0)) = some a23_0 := by kernel_rfl
def a23_1 : List AO := [⟨(some 1), none, .build [(.str []), (.int .i64 0)] [(0, 1, (.v (.str [70])))]⟩,
  ⟨(some 2), none, .slc 40 2 [(.t 1)]⟩,
  ⟨(some 3), none, .build [(.str []), (.int .i64 0), (.int .i64 0), .nils] [(0, 1, (.v (.str [70]))), (1, 1, (.v (.int .i64 4))), (3, 1, (.t 2))]⟩,
  ⟨(some 4), none, .build [(.str []), (.int .i64 0)] [(0, 1, (.v (.str [89]))), (1, 1, (.v (.int .i64 3)))]⟩,
  ⟨(some 5), none, .build [(.str []), (.int .i64 0)] [(0, 1, (.v (.str [77]))), (1, 1, (.v (.int .i64 5)))]⟩,
  ⟨(some 6), none, .slc 40 2 [(.t 4), (.t 5)]⟩,
  ⟨(some 7), none, .build [(.str []), (.int .i64 0), (.int .i64 0), .nils] [(0, 1, (.v (.str [89]))), (1, 1, (.v (.int .i64 10))), (2, 1, (.v (.int .i64 1))), (3, 1, (.t 6))]⟩,
  ⟨(some 8), none, .slc 38 4 [(.t 3), (.t 7)]⟩,
  ⟨(some 9), none, .build [(.str []), .nils] [(0, 1, (.v (.str [55, 55, 55]))), (1, 1, (.t 8))]⟩,
  ⟨none, none, .store 2 (.t 0) (.t 9)⟩]
theorem tr23_1 : (ro Tryd.f23 1).toList.mapM (trO Tryd.prog 10 (ro Tryd.f23 1)) = some a23_1 := by kernel_rfl
/-- airline/airlinelaw12.other -/
noncomputable def c24 : Code := .seq (.region 0 (ro Tryd.f24 0) false) (.seq (.region 1 (ro Tryd.f24 1) false) (.ret))
theorem body24 : Tryd.f24.body = some c24 := by kernel_rfl
theorem res24 : Tryd.f24.results.toList.mapM (trR Tryd.prog) = some [.c (some 2) 0] := by kernel_rfl
theorem nt24 : Tryd.f24.ntmps = 7 := by kernel_rfl
theorem nm24 : (Tryd.f24.name == "runtime.NumGoroutine") = false := by kernel_rfl
def a24_0 : List AO := [⟨(some 0), none, .alloc 30 [(.str []), .nils]⟩]
theorem tr24_0 : (ro Tryd.f24 0).toList.mapM (trO Tryd.prog 7 (ro Tryd.f24 0)) = some a24_0 := by kernel_rfl
def a24_1 : List AO := [⟨(some 1), none, .build [(.str []), (.int .i64 0)] [(0, 1, (.v (.str [89])))]⟩,
  ⟨(some 2), none, .build [(.str []), (.int .i64 0)] [(0, 1, (.v (.str [66])))]⟩,
  ⟨(some 3), none, .slc 40 2 [(.t 1), (.t 2)]⟩,
  ⟨(some 4), none, .build [(.str []), (.int .i64 0), (.int .i64 0), .nils] [(0, 1, (.v (.str [89]))), (1, 1, (.v (.int .i64 9))), (3, 1, (.t 3))]⟩,
  ⟨(some 5), none, .slc 38 4 [(.t 4)]⟩,
  ⟨(some 6), none, .build [(.str []), .nils] [(0, 1, (.v (.str [51, 50, 48]))), (1, 1, (.t 5))]⟩,
  ⟨none, none, .store 2 (.t 0) (.t 6)⟩]
theorem tr24_1 : (ro Tryd.f24 1).toList.mapM (trO Tryd.prog 7 (ro Tryd.f24 1)) = some a24_1 := by kernel_rfl
/-- airline/text.Decimal -/
noncomputable def c25 : Code := .seq (.region 0 (ro Tryd.f25 0) false) (.seq (.region 1 (ro Tryd.f25 1) false) (.ret))
theorem body25 : Tryd.f25.body = some c25 := by kernel_rfl
theorem res25 : Tryd.f25.results.toList.mapM (trR Tryd.prog) = some [.t 2] := by kernel_rfl
theorem nt25 : Tryd.f25.ntmps = 5 := by kernel_rfl
theorem nm25 : (Tryd.f25.name == "runtime.NumGoroutine") = false := by kernel_rfl
def a25_0 : List AO := [⟨(some 2), none, .mv (.v (.str []))⟩]
theorem tr25_0 : (ro Tryd.f25 0).toList.mapM (trO Tryd.prog 5 (ro Tryd.f25 0)) = some a25_0 := by kernel_rfl
def a25_1 : List AO := [⟨(some 3), none, .mv (.t 0)⟩,
  ⟨(some 4), none, .call 32 [(.t 3)]⟩,
  ⟨(some 2), none, .mv (.t 4)⟩]
theorem tr25_1 : (ro Tryd.f25 1).toList.mapM (trO Tryd.prog 5 (ro Tryd.f25 1)) = some a25_1 := by kernel_rfl
/-- (*airline/cabin.checker).add -/
noncomputable def c26 : Code := .seq (.region 0 (ro Tryd.f26 0) false) (.cond (.tmp 6) (.region 1 (ro Tryd.f26 1) true) (.skip))
theorem body26 : Tryd.f26.body = some c26 := by kernel_rfl
theorem res26 : Tryd.f26.results.toList.mapM (trR Tryd.prog) = some [] := by kernel_rfl
theorem nt26 : Tryd.f26.ntmps = 22 := by kernel_rfl
theorem nm26 : (Tryd.f26.name == "runtime.NumGoroutine") = false := by kernel_rfl
def a26_0 : List AO := [⟨(some 6), none, .mv (.t 1)⟩]
theorem tr26_0 : (ro Tryd.f26 0).toList.mapM (trO Tryd.prog 22 (ro Tryd.f26 0)) = some a26_0 := by kernel_rfl
def a26_1 : List AO := [⟨(some 7), none, .mv (.t 0)⟩,
  ⟨(some 8), none, .mv (.t 0)⟩,
  ⟨(some 9), none, .nchk (.t 8)⟩,
  ⟨(some 10), none, .fld 0 (.t 9)⟩,
  ⟨(some 11), none, .load none (.t 10)⟩,
  ⟨(some 12), none, .mv (.t 2)⟩,
  ⟨(some 13), none, .mv (.t 0)⟩,
  ⟨(some 14), none, .nchk (.t 13)⟩,
  ⟨(some 15), none, .fld 1 (.t 14)⟩,
  ⟨(some 16), none, .load none (.t 15)⟩,
  ⟨(some 17), none, .build [(.int .i64 0), (.str [])] [(0, 1, (.t 12)), (1, 1, (.t 16))]⟩,
  ⟨(some 18), none, .slc 51 2 [(.t 17)]⟩,
  ⟨(some 19), none, .app 51 2 24 (.t 11) (.t 18)⟩,
  ⟨(some 20), none, .nchk (.t 7)⟩,
  ⟨(some 21), none, .fld 0 (.t 20)⟩,
  ⟨none, none, .store 1 (.t 21) (.t 19)⟩]
theorem tr26_1 : (ro Tryd.f26 1).toList.mapM (trO Tryd.prog 22 (ro Tryd.f26 1)) = some a26_1 := by kernel_rfl
def d26_1 : List (List Nat) := [[], [], [1], [1, 2], [1, 2, 3], [], [], [6], [6, 7], [6, 7, 8], [5, 6, 7, 8, 9], [5, 6, 7, 8, 9, 10], [1, 2, 3, 4, 5, 6, 7, 8, 9, 10, 11], [0, 1, 2, 3, 4, 5, 6, 7, 8, 9, 10, 11, 12], [0, 1, 2, 3, 4, 5, 6, 7, 8, 9, 10, 11, 12, 13], [0, 1, 2, 3, 4, 5, 6, 7, 8, 9, 10, 11, 12, 13, 14]]
theorem ok26_1 : okReg (ro Tryd.f26 1) a26_1 d26_1 = true := by kernel_rfl
/-- airline/text.Code -/
noncomputable def c27 : Code := .seq (.region 0 (ro Tryd.f27 0) false) (.seq (.region 1 (ro Tryd.f27 1) false) (.ret))
theorem body27 : Tryd.f27.body = some c27 := by kernel_rfl
theorem res27 : Tryd.f27.results.toList.mapM (trR Tryd.prog) = some [.t 6] := by kernel_rfl
theorem nt27 : Tryd.f27.ntmps = 21 := by kernel_rfl
theorem nm27 : (Tryd.f27.name == "runtime.NumGoroutine") = false := by kernel_rfl
def a27_0 : List AO := [⟨(some 6), none, .mv (.v (.bool false))⟩]
theorem tr27_0 : (ro Tryd.f27 0).toList.mapM (trO Tryd.prog 21 (ro Tryd.f27 0)) = some a27_0 := by kernel_rfl
def a27_1 : List AO := [⟨(some 7), none, .mv (.t 0)⟩,
  ⟨(some 8), none, .slen (.t 7)⟩,
  ⟨(some 9), none, .mv (.t 1)⟩,
  ⟨(some 10), none, .bin .geq (.t 8) (.t 9)⟩,
  ⟨(some 11), none, .mv (.t 10)⟩,
  ⟨(some 12), some (11, true), .mv (.t 0)⟩,
  ⟨(some 13), some (11, true), .slen (.t 12)⟩,
  ⟨(some 14), some (11, true), .mv (.t 2)⟩,
  ⟨(some 15), some (11, true), .bin .leq (.t 13) (.t 14)⟩,
  ⟨(some 16), none, .pick (.t 11) (.t 15) (.v (.bool false))⟩,
  ⟨(some 17), none, .mv (.t 16)⟩,
  ⟨(some 18), some (17, true), .mv (.t 0)⟩,
  ⟨(some 19), some (17, true), .call 33 [(.t 18), (.v (.fn 34 []))]⟩,
  ⟨(some 20), none, .pick (.t 17) (.t 19) (.v (.bool false))⟩,
  ⟨(some 6), none, .mv (.t 20)⟩]
theorem tr27_1 : (ro Tryd.f27 1).toList.mapM (trO Tryd.prog 21 (ro Tryd.f27 1)) = some a27_1 := by kernel_rfl
/-- (*airline/cabin.checker).cabin -/
noncomputable def c28 : Code := .seq (.region 0 (ro Tryd.f28 0) false) (.seq (.region 1 (ro Tryd.f28 1) false) (.seq (.region 2 (ro Tryd.f28 2) false) (.seq (.region 3 (ro Tryd.f28 3) false) (.seq (.region 4 (ro Tryd.f28 4) false) (.seq (.region 5 (ro Tryd.f28 5) false) (.block 0 (.loop (.seq (.region 6 (ro Tryd.f28 6) false) (.seq (.cond (.tmp 51) (.skip) (.exit 0)) (.seq (.block 1 (.seq (.region 7 (ro Tryd.f28 7) false) (.seq (.region 8 (ro Tryd.f28 8) false) (.seq (.region 9 (ro Tryd.f28 9) false) (.seq (.region 10 (ro Tryd.f28 10) false) (.seq (.region 11 (ro Tryd.f28 11) false) (.region 12 (ro Tryd.f28 12) true))))))) (.region 13 (ro Tryd.f28 13) false)))))))))))
theorem body28 : Tryd.f28.body = some c28 := by kernel_rfl
theorem res28 : Tryd.f28.results.toList.mapM (trR Tryd.prog) = some [] := by kernel_rfl
theorem nt28 : Tryd.f28.ntmps = 111 := by kernel_rfl
theorem nm28 : (Tryd.f28.name == "runtime.NumGoroutine") = false := by kernel_rfl
def a28_0 : List AO := [⟨(some 4), none, .box 38 (.t 1)⟩]
theorem tr28_0 : (ro Tryd.f28 0).toList.mapM (trO Tryd.prog 111 (ro Tryd.f28 0)) = some a28_0 := by kernel_rfl
def a28_1 : List AO := [⟨(some 10), none, .mv (.t 0)⟩,
  ⟨(some 11), none, .nchk (.t 10)⟩,
  ⟨(some 12), none, .fld 1 (.t 11)⟩,
  ⟨(some 13), none, .load none (.t 12)⟩,
  ⟨(some 6), none, .mv (.t 13)⟩]
theorem tr28_1 : (ro Tryd.f28 1).toList.mapM (trO Tryd.prog 111 (ro Tryd.f28 1)) = some a28_1 := by kernel_rfl
def a28_2 : List AO := [⟨(some 14), none, .fld 1 (.t 4)⟩,
  ⟨(some 15), none, .load none (.t 14)⟩,
  ⟨(some 16), none, .bin .lss (.t 15) (.v (.int .i64 1))⟩,
  ⟨(some 17), none, .mv (.t 16)⟩,
  ⟨(some 18), some (17, false), .fld 1 (.t 4)⟩,
  ⟨(some 19), some (17, false), .load none (.t 18)⟩,
  ⟨(some 20), some (17, false), .bin .gtr (.t 19) (.v (.int .i64 999))⟩,
  ⟨(some 21), none, .pick (.t 17) (.v (.bool true)) (.t 20)⟩,
  ⟨(some 22), none, .mv (.t 21)⟩,
  ⟨(some 23), some (22, false), .fld 2 (.t 4)⟩,
  ⟨(some 24), some (22, false), .load none (.t 23)⟩,
  ⟨(some 25), some (22, false), .bin .lss (.t 24) (.v (.int .i64 0))⟩,
  ⟨(some 26), none, .pick (.t 22) (.v (.bool true)) (.t 25)⟩,
  ⟨(some 27), none, .mv (.t 26)⟩,
  ⟨(some 28), some (27, false), .fld 2 (.t 4)⟩,
  ⟨(some 29), some (27, false), .load none (.t 28)⟩,
  ⟨(some 30), some (27, false), .bin .gtr (.t 29) (.v (.int .i64 999))⟩,
  ⟨(some 31), none, .pick (.t 27) (.v (.bool true)) (.t 30)⟩,
  ⟨(some 7), none, .mv (.t 31)⟩]
theorem tr28_2 : (ro Tryd.f28 2).toList.mapM (trO Tryd.prog 111 (ro Tryd.f28 2)) = some a28_2 := by kernel_rfl
def a28_3 : List AO := [⟨(some 32), none, .mv (.t 0)⟩,
  ⟨(some 33), none, .mv (.t 7)⟩,
  ⟨(some 34), none, .call 26 [(.t 32), (.t 33), (.v (.int .i64 2))]⟩]
theorem tr28_3 : (ro Tryd.f28 3).toList.mapM (trO Tryd.prog 111 (ro Tryd.f28 3)) = some a28_3 := by kernel_rfl
def a28_4 : List AO := [⟨(some 35), none, .mv (.t 0)⟩,
  ⟨(some 36), none, .fld 3 (.t 4)⟩,
  ⟨(some 37), none, .load none (.t 36)⟩,
  ⟨(some 38), none, .len (.t 37)⟩,
  ⟨(some 39), none, .bin .lss (.t 38) (.v (.int .i64 1))⟩,
  ⟨(some 40), none, .mv (.t 39)⟩,
  ⟨(some 41), some (40, false), .fld 3 (.t 4)⟩,
  ⟨(some 42), some (40, false), .load none (.t 41)⟩,
  ⟨(some 43), some (40, false), .len (.t 42)⟩,
  ⟨(some 44), some (40, false), .bin .gtr (.t 43) (.v (.int .i64 26))⟩,
  ⟨(some 45), none, .pick (.t 40) (.v (.bool true)) (.t 44)⟩,
  ⟨(some 46), none, .call 26 [(.t 35), (.t 45), (.v (.int .i64 4))]⟩]
theorem tr28_4 : (ro Tryd.f28 4).toList.mapM (trO Tryd.prog 111 (ro Tryd.f28 4)) = some a28_4 := by kernel_rfl
def a28_5 : List AO := [⟨(some 47), none, .fld 3 (.t 4)⟩,
  ⟨(some 48), none, .load none (.t 47)⟩,
  ⟨(some 49), none, .len (.t 48)⟩,
  ⟨(some 50), none, .mv (.v (.int .i64 0))⟩]
theorem tr28_5 : (ro Tryd.f28 5).toList.mapM (trO Tryd.prog 111 (ro Tryd.f28 5)) = some a28_5 := by kernel_rfl
def a28_6 : List AO := [⟨(some 51), none, .bin .lss (.t 50) (.t 49)⟩]
theorem tr28_6 : (ro Tryd.f28 6).toList.mapM (trO Tryd.prog 111 (ro Tryd.f28 6)) = some a28_6 := by kernel_rfl
def a28_7 : List AO := [⟨(some 52), none, .mv (.t 50)⟩,
  ⟨(some 53), none, .idx 2 (.t 48) (.t 50)⟩,
  ⟨(some 54), none, .load (some 2) (.t 53)⟩,
  ⟨(some 9), none, .alloc 40 [(.str []), (.int .i64 0)]⟩,
  ⟨(some 8), none, .mv (.t 52)⟩,
  ⟨none, none, .store 2 (.t 9) (.t 54)⟩]
theorem tr28_7 : (ro Tryd.f28 7).toList.mapM (trO Tryd.prog 111 (ro Tryd.f28 7)) = some a28_7 := by kernel_rfl
def a28_8 : List AO := [⟨(some 55), none, .mv (.t 0)⟩,
  ⟨(some 56), none, .mv (.t 6)⟩,
  ⟨(some 57), none, .bin .add (.t 56) (.v (.str [32, 99, 108, 97, 115, 115, 32]))⟩,
  ⟨(some 58), none, .mv (.t 8)⟩,
  ⟨(some 59), none, .call 25 [(.t 58)]⟩,
  ⟨(some 60), none, .bin .add (.t 57) (.t 59)⟩,
  ⟨(some 61), none, .nchk (.t 55)⟩,
  ⟨(some 62), none, .fld 1 (.t 61)⟩,
  ⟨none, none, .store 1 (.t 62) (.t 60)⟩]
theorem tr28_8 : (ro Tryd.f28 8).toList.mapM (trO Tryd.prog 111 (ro Tryd.f28 8)) = some a28_8 := by kernel_rfl
def a28_9 : List AO := [⟨(some 63), none, .mv (.t 0)⟩,
  ⟨(some 64), none, .fld 0 (.t 9)⟩,
  ⟨(some 65), none, .load none (.t 64)⟩,
  ⟨(some 66), none, .call 37 [(.t 65)]⟩,
  ⟨(some 67), none, .un .not (.t 66)⟩,
  ⟨(some 68), none, .call 26 [(.t 63), (.t 67), (.v (.int .i64 16))]⟩]
theorem tr28_9 : (ro Tryd.f28 9).toList.mapM (trO Tryd.prog 111 (ro Tryd.f28 9)) = some a28_9 := by kernel_rfl
def a28_10 : List AO := [⟨(some 69), none, .mv (.t 0)⟩,
  ⟨(some 70), none, .mv (.t 2)⟩,
  ⟨(some 71), none, .fld 0 (.t 9)⟩,
  ⟨(some 72), none, .load none (.t 71)⟩,
  ⟨(some 73), none, .look true false (.bool false) (.t 70) (.t 72)⟩,
  ⟨(some 74), none, .call 26 [(.t 69), (.t 73), (.v (.int .i64 6))]⟩]
theorem tr28_10 : (ro Tryd.f28 10).toList.mapM (trO Tryd.prog 111 (ro Tryd.f28 10)) = some a28_10 := by kernel_rfl
def a28_11 : List AO := [⟨(some 75), none, .mv (.t 2)⟩,
  ⟨(some 76), none, .fld 0 (.t 9)⟩,
  ⟨(some 77), none, .load none (.t 76)⟩,
  ⟨none, none, .mset true (.t 75) (.t 77) (.v (.bool true))⟩]
theorem tr28_11 : (ro Tryd.f28 11).toList.mapM (trO Tryd.prog 111 (ro Tryd.f28 11)) = some a28_11 := by kernel_rfl
def a28_12 : List AO := [⟨(some 78), none, .mv (.t 0)⟩,
  ⟨(some 79), none, .fld 1 (.t 9)⟩,
  ⟨(some 80), none, .load none (.t 79)⟩,
  ⟨(some 81), none, .bin .lss (.t 80) (.v (.int .i64 0))⟩,
  ⟨(some 82), none, .mv (.t 81)⟩,
  ⟨(some 83), some (82, false), .mv (.t 8)⟩,
  ⟨(some 84), some (82, false), .bin .gtr (.t 83) (.v (.int .i64 0))⟩,
  ⟨(some 85), some (82, false), .mv (.t 84)⟩,
  ⟨(some 86), some (85, true), .fld 1 (.t 9)⟩,
  ⟨(some 87), some (85, true), .load none (.t 86)⟩,
  ⟨(some 88), some (85, true), .fld 3 (.t 4)⟩,
  ⟨(some 89), some (85, true), .load none (.t 88)⟩,
  ⟨(some 90), some (85, true), .mv (.t 8)⟩,
  ⟨(some 91), some (85, true), .bin .sub (.t 90) (.v (.int .i64 1))⟩,
  ⟨(some 92), some (85, true), .idx 2 (.t 89) (.t 91)⟩,
  ⟨(some 93), some (85, true), .fld 1 (.t 92)⟩,
  ⟨(some 94), some (85, true), .load none (.t 93)⟩,
  ⟨(some 95), some (85, true), .bin .lss (.t 87) (.t 94)⟩,
  ⟨(some 96), some (82, false), .pick (.t 85) (.t 95) (.v (.bool false))⟩,
  ⟨(some 97), none, .pick (.t 82) (.v (.bool true)) (.t 96)⟩,
  ⟨(some 98), none, .mv (.t 97)⟩,
  ⟨(some 99), some (98, false), .mv (.t 7)⟩,
  ⟨(some 100), some (98, false), .un .not (.t 99)⟩,
  ⟨(some 101), some (98, false), .mv (.t 100)⟩,
  ⟨(some 102), some (101, true), .fld 1 (.t 9)⟩,
  ⟨(some 103), some (101, true), .load none (.t 102)⟩,
  ⟨(some 104), some (101, true), .load (some 4) (.t 4)⟩,
  ⟨(some 105), some (101, true), .call 19 [(.t 104)]⟩,
  ⟨(some 106), some (101, true), .bin .gtr (.t 103) (.t 105)⟩,
  ⟨(some 107), some (98, false), .pick (.t 101) (.t 106) (.v (.bool false))⟩,
  ⟨(some 108), none, .pick (.t 98) (.v (.bool true)) (.t 107)⟩,
  ⟨(some 109), none, .call 26 [(.t 78), (.t 108), (.v (.int .i64 2))]⟩]
theorem tr28_12 : (ro Tryd.f28 12).toList.mapM (trO Tryd.prog 111 (ro Tryd.f28 12)) = some a28_12 := by kernel_rfl
def d28_12 : List (List Nat) := [[], [], [1], [1, 2], [1, 2, 3], [1, 2, 3, 4], [1, 2, 3, 4, 5], [1, 2, 3, 4, 5, 6], [1, 2, 3, 4, 5, 6, 7], [1, 2, 3, 4, 5, 6, 7, 8], [1, 2, 3, 4, 5, 6, 7], [1, 2, 3, 4, 5, 6, 7, 10], [1, 2, 3, 4, 5, 6, 7], [1, 2, 3, 4, 5, 6, 7, 12], [1, 2, 3, 4, 5, 6, 7, 10, 11, 12, 13], [1, 2, 3, 4, 5, 6, 7, 10, 11, 12, 13, 14], [1, 2, 3, 4, 5, 6, 7, 10, 11, 12, 13, 14, 15], [1, 2, 3, 4, 5, 6, 7, 8, 9, 10, 11, 12, 13, 14, 15, 16], [1, 2, 3, 4, 5, 6, 7, 8, 9, 10, 11, 12, 13, 14, 15, 16, 17], [1, 2, 3, 4, 5, 6, 7, 8, 9, 10, 11, 12, 13, 14, 15, 16, 17, 18], [1, 2, 3, 4, 5, 6, 7, 8, 9, 10, 11, 12, 13, 14, 15, 16, 17, 18, 19], [1, 2, 3, 4, 5, 6, 7, 8, 9, 10, 11, 12, 13, 14, 15, 16, 17, 18, 19, 20], [1, 2, 3, 4, 5, 6, 7, 8, 9, 10, 11, 12, 13, 14, 15, 16, 17, 18, 19, 20, 21], [1, 2, 3, 4, 5, 6, 7, 8, 9, 10, 11, 12, 13, 14, 15, 16, 17, 18, 19, 20, 21, 22], [1, 2, 3, 4, 5, 6, 7, 8, 9, 10, 11, 12, 13, 14, 15, 16, 17, 18, 19, 20, 21, 22, 23], [1, 2, 3, 4, 5, 6, 7, 8, 9, 10, 11, 12, 13, 14, 15, 16, 17, 18, 19, 20, 21, 22, 23, 24], [1, 2, 3, 4, 5, 6, 7, 8, 9, 10, 11, 12, 13, 14, 15, 16, 17, 18, 19, 20, 21, 22, 23], [1, 2, 3, 4, 5, 6, 7, 8, 9, 10, 11, 12, 13, 14, 15, 16, 17, 18, 19, 20, 21, 22, 23, 26], [1, 2, 3, 4, 5, 6, 7, 8, 9, 10, 11, 12, 13, 14, 15, 16, 17, 18, 19, 20, 21, 22, 23, 24, 25, 26, 27], [1, 2, 3, 4, 5, 6, 7, 8, 9, 10, 11, 12, 13, 14, 15, 16, 17, 18, 19, 20, 21, 22, 23, 24, 25, 26, 27, 28], [1, 2, 3, 4, 5, 6, 7, 8, 9, 10, 11, 12, 13, 14, 15, 16, 17, 18, 19, 20, 21, 22, 23, 24, 25, 26, 27, 28, 29], [0, 1, 2, 3, 4, 5, 6, 7, 8, 9, 10, 11, 12, 13, 14, 15, 16, 17, 18, 19, 20, 21, 22, 23, 24, 25, 26, 27, 28, 29, 30]]
theorem ok28_12 : okReg (ro Tryd.f28 12) a28_12 d28_12 = true := by kernel_rfl
def a28_13 : List AO := [⟨(some 110), none, .bin .add (.t 50) (.v (.int .i64 1))⟩,
  ⟨(some 50), none, .mv (.t 110)⟩]
theorem tr28_13 : (ro Tryd.f28 13).toList.mapM (trO Tryd.prog 111 (ro Tryd.f28 13)) = some a28_13 := by kernel_rfl
/-- airline/airlineref12.place -/
noncomputable def c29 : Code := .seq (.region 0 (ro Tryd.f29 0) false) (.seq (.seq (.region 1 (ro Tryd.f29 1) false) (.cond (.tmp 8) (.region 2 (ro Tryd.f29 2) false) (.skip))) (.seq (.region 3 (ro Tryd.f29 3) false) (.ret)))
theorem body29 : Tryd.f29.body = some c29 := by kernel_rfl
theorem res29 : Tryd.f29.results.toList.mapM (trR Tryd.prog) = some [.t 6] := by kernel_rfl
theorem nt29 : Tryd.f29.ntmps = 18 := by kernel_rfl
theorem nm29 : (Tryd.f29.name == "runtime.NumGoroutine") = false := by kernel_rfl
def a29_0 : List AO := [⟨(some 6), none, .mv (.v (.str []))⟩]
theorem tr29_0 : (ro Tryd.f29 0).toList.mapM (trO Tryd.prog 18 (ro Tryd.f29 0)) = some a29_0 := by kernel_rfl
def a29_1 : List AO := [⟨(some 7), none, .mv (.t 0)⟩,
  ⟨(some 8), none, .bin .neq (.t 7) (.v (.str []))⟩]
theorem tr29_1 : (ro Tryd.f29 1).toList.mapM (trO Tryd.prog 18 (ro Tryd.f29 1)) = some a29_1 := by kernel_rfl
def a29_2 : List AO := [⟨(some 9), none, .mv (.t 0)⟩,
  ⟨(some 10), none, .bin .add (.t 9) (.v (.str [32]))⟩,
  ⟨(some 0), none, .mv (.t 10)⟩]
theorem tr29_2 : (ro Tryd.f29 2).toList.mapM (trO Tryd.prog 18 (ro Tryd.f29 2)) = some a29_2 := by kernel_rfl
def a29_3 : List AO := [⟨(some 11), none, .mv (.t 0)⟩,
  ⟨(some 12), none, .mv (.t 1)⟩,
  ⟨(some 13), none, .bin .add (.t 11) (.t 12)⟩,
  ⟨(some 14), none, .bin .add (.t 13) (.v (.str [32]))⟩,
  ⟨(some 15), none, .mv (.t 2)⟩,
  ⟨(some 16), none, .call 38 [(.t 15)]⟩,
  ⟨(some 17), none, .bin .add (.t 14) (.t 16)⟩,
  ⟨(some 6), none, .mv (.t 17)⟩]
theorem tr29_3 : (ro Tryd.f29 3).toList.mapM (trO Tryd.prog 18 (ro Tryd.f29 3)) = some a29_3 := by kernel_rfl
/-- airline/airlineref01.Code -/
noncomputable def c30 : Code := .seq (.region 0 (ro Tryd.f30 0) false) (.seq (.seq (.region 1 (ro Tryd.f30 1) false) (.block 0 (.loop (.seq (.seq (.region 2 (ro Tryd.f30 2) false) (.cond (.tmp 11) (.skip) (.exit 0))) (.seq (.block 1 (.seq (.region 4 (ro Tryd.f30 4) false) (.cond (.tmp 25) (.seq (.region 5 (ro Tryd.f30 5) false) (.ret)) (.skip)))) (.region 3 (ro Tryd.f30 3) false)))))) (.seq (.region 6 (ro Tryd.f30 6) false) (.ret)))
theorem body30 : Tryd.f30.body = some c30 := by kernel_rfl
theorem res30 : Tryd.f30.results.toList.mapM (trR Tryd.prog) = some [.t 6] := by kernel_rfl
theorem nt30 : Tryd.f30.ntmps = 36 := by kernel_rfl
theorem nm30 : (Tryd.f30.name == "runtime.NumGoroutine") = false := by kernel_rfl
def a30_0 : List AO := [⟨(some 6), none, .mv (.v (.bool false))⟩]
theorem tr30_0 : (ro Tryd.f30 0).toList.mapM (trO Tryd.prog 36 (ro Tryd.f30 0)) = some a30_0 := by kernel_rfl
def a30_1 : List AO := [⟨(some 7), none, .mv (.v (.int .i64 0))⟩]
theorem tr30_1 : (ro Tryd.f30 1).toList.mapM (trO Tryd.prog 36 (ro Tryd.f30 1)) = some a30_1 := by kernel_rfl
def a30_2 : List AO := [⟨(some 8), none, .mv (.t 7)⟩,
  ⟨(some 9), none, .mv (.t 0)⟩,
  ⟨(some 10), none, .slen (.t 9)⟩,
  ⟨(some 11), none, .bin .lss (.t 8) (.t 10)⟩]
theorem tr30_2 : (ro Tryd.f30 2).toList.mapM (trO Tryd.prog 36 (ro Tryd.f30 2)) = some a30_2 := by kernel_rfl
def a30_4 : List AO := [⟨(some 14), none, .mv (.t 0)⟩,
  ⟨(some 15), none, .mv (.t 7)⟩,
  ⟨(some 16), none, .sidx (.t 14) (.t 15)⟩,
  ⟨(some 17), none, .call 39 [(.t 16)]⟩,
  ⟨(some 18), none, .un .not (.t 17)⟩,
  ⟨(some 19), none, .mv (.t 18)⟩,
  ⟨(some 20), some (19, true), .mv (.t 0)⟩,
  ⟨(some 21), some (19, true), .mv (.t 7)⟩,
  ⟨(some 22), some (19, true), .sidx (.t 20) (.t 21)⟩,
  ⟨(some 23), some (19, true), .call 40 [(.t 22)]⟩,
  ⟨(some 24), some (19, true), .un .not (.t 23)⟩,
  ⟨(some 25), none, .pick (.t 19) (.t 24) (.v (.bool false))⟩]
theorem tr30_4 : (ro Tryd.f30 4).toList.mapM (trO Tryd.prog 36 (ro Tryd.f30 4)) = some a30_4 := by kernel_rfl
def a30_5 : List AO := [⟨(some 6), none, .mv (.v (.bool false))⟩]
theorem tr30_5 : (ro Tryd.f30 5).toList.mapM (trO Tryd.prog 36 (ro Tryd.f30 5)) = some a30_5 := by kernel_rfl
def a30_3 : List AO := [⟨(some 12), none, .mv (.t 7)⟩,
  ⟨(some 13), none, .bin .add (.t 12) (.v (.int .i64 1))⟩,
  ⟨(some 7), none, .mv (.t 13)⟩]
theorem tr30_3 : (ro Tryd.f30 3).toList.mapM (trO Tryd.prog 36 (ro Tryd.f30 3)) = some a30_3 := by kernel_rfl
def a30_6 : List AO := [⟨(some 26), none, .mv (.t 0)⟩,
  ⟨(some 27), none, .slen (.t 26)⟩,
  ⟨(some 28), none, .mv (.t 1)⟩,
  ⟨(some 29), none, .bin .geq (.t 27) (.t 28)⟩,
  ⟨(some 30), none, .mv (.t 29)⟩,
  ⟨(some 31), some (30, true), .mv (.t 0)⟩,
  ⟨(some 32), some (30, true), .slen (.t 31)⟩,
  ⟨(some 33), some (30, true), .mv (.t 2)⟩,
  ⟨(some 34), some (30, true), .bin .leq (.t 32) (.t 33)⟩,
  ⟨(some 35), none, .pick (.t 30) (.t 34) (.v (.bool false))⟩,
  ⟨(some 6), none, .mv (.t 35)⟩]
theorem tr30_6 : (ro Tryd.f30 6).toList.mapM (trO Tryd.prog 36 (ro Tryd.f30 6)) = some a30_6 := by kernel_rfl
/-- airline/airlineref12.cabins -/
noncomputable def c31 : Code := .seq (.region 0 (ro Tryd.f31 0) false) (.seq (.region 1 (ro Tryd.f31 1) false) (.seq (.seq (.region 2 (ro Tryd.f31 2) false) (.block 0 (.loop (.seq (.seq (.region 3 (ro Tryd.f31 3) false) (.cond (.tmp 15) (.skip) (.exit 0))) (.seq (.block 1 (.seq (.region 5 (ro Tryd.f31 5) true) (.seq (.seq (.region 6 (ro Tryd.f31 6) false) (.block 2 (.loop (.seq (.seq (.region 7 (ro Tryd.f31 7) false) (.cond (.tmp 28) (.skip) (.exit 2))) (.seq (.block 3 (.region 9 (ro Tryd.f31 9) true)) (.region 8 (ro Tryd.f31 8) false)))))) (.seq (.seq (.region 10 (ro Tryd.f31 10) false) (.cond (.tmp 46) (.region 11 (ro Tryd.f31 11) false) (.skip))) (.seq (.seq (.region 12 (ro Tryd.f31 12) false) (.cond (.tmp 52) (.region 13 (ro Tryd.f31 13) false) (.skip))) (.seq (.seq (.region 14 (ro Tryd.f31 14) false) (.cond (.tmp 60) (.region 15 (ro Tryd.f31 15) false) (.skip))) (.seq (.seq (.region 16 (ro Tryd.f31 16) false) (.cond (.tmp 75) (.region 17 (ro Tryd.f31 17) false) (.skip))) (.region 18 (ro Tryd.f31 18) false)))))))) (.region 4 (ro Tryd.f31 4) false)))))) (.seq (.region 19 (ro Tryd.f31 19) false) (.ret))))
theorem body31 : Tryd.f31.body = some c31 := by kernel_rfl
theorem res31 : Tryd.f31.results.toList.mapM (trR Tryd.prog) = some [.t 4] := by kernel_rfl
theorem nt31 : Tryd.f31.ntmps = 88 := by kernel_rfl
theorem nm31 : (Tryd.f31.name == "runtime.NumGoroutine") = false := by kernel_rfl
def a31_0 : List AO := [⟨(some 2), none, .box 30 (.t 0)⟩,
  ⟨(some 4), none, .mv (.v .nils)⟩]
theorem tr31_0 : (ro Tryd.f31 0).toList.mapM (trO Tryd.prog 88 (ro Tryd.f31 0)) = some a31_0 := by kernel_rfl
def a31_1 : List AO := [⟨(some 5), none, .mv (.v .nils)⟩]
theorem tr31_1 : (ro Tryd.f31 1).toList.mapM (trO Tryd.prog 88 (ro Tryd.f31 1)) = some a31_1 := by kernel_rfl
def a31_2 : List AO := [⟨(some 6), none, .mv (.v (.int .i64 0))⟩]
theorem tr31_2 : (ro Tryd.f31 2).toList.mapM (trO Tryd.prog 88 (ro Tryd.f31 2)) = some a31_2 := by kernel_rfl
def a31_3 : List AO := [⟨(some 11), none, .mv (.t 6)⟩,
  ⟨(some 12), none, .fld 1 (.t 2)⟩,
  ⟨(some 13), none, .load none (.t 12)⟩,
  ⟨(some 14), none, .len (.t 13)⟩,
  ⟨(some 15), none, .bin .lss (.t 11) (.t 14)⟩]
theorem tr31_3 : (ro Tryd.f31 3).toList.mapM (trO Tryd.prog 88 (ro Tryd.f31 3)) = some a31_3 := by kernel_rfl
def a31_5 : List AO := [⟨(some 18), none, .mv (.t 1)⟩,
  ⟨(some 19), none, .mv (.t 6)⟩,
  ⟨(some 20), none, .call 29 [(.t 18), (.v (.str [99, 97, 98, 105, 110])), (.t 19)]⟩,
  ⟨(some 21), none, .fld 1 (.t 2)⟩,
  ⟨(some 22), none, .load none (.t 21)⟩,
  ⟨(some 23), none, .mv (.t 6)⟩,
  ⟨(some 24), none, .idx 4 (.t 22) (.t 23)⟩,
  ⟨(some 25), none, .load (some 4) (.t 24)⟩,
  ⟨(some 8), none, .alloc 38 [(.str []), (.int .i64 0), (.int .i64 0), .nils]⟩,
  ⟨(some 7), none, .mv (.t 20)⟩,
  ⟨none, none, .store 4 (.t 8) (.t 25)⟩,
  ⟨(some 9), none, .mv (.v (.bool false))⟩]
theorem tr31_5 : (ro Tryd.f31 5).toList.mapM (trO Tryd.prog 88 (ro Tryd.f31 5)) = some a31_5 := by kernel_rfl
def d31_5 : List (List Nat) := [[], [], [0, 1], [], [3], [], [3, 4, 5], [3, 4, 5, 6], [], [0, 1, 2, 8], [0, 1, 2, 3, 4, 5, 6, 7, 8, 9], [0, 1, 2, 3, 4, 5, 6, 7, 8, 9, 10]]
theorem ok31_5 : okReg (ro Tryd.f31 5) a31_5 d31_5 = true := by kernel_rfl
def a31_6 : List AO := [⟨(some 10), none, .mv (.v (.int .i64 0))⟩]
theorem tr31_6 : (ro Tryd.f31 6).toList.mapM (trO Tryd.prog 88 (ro Tryd.f31 6)) = some a31_6 := by kernel_rfl
def a31_7 : List AO := [⟨(some 26), none, .mv (.t 10)⟩,
  ⟨(some 27), none, .mv (.t 6)⟩,
  ⟨(some 28), none, .bin .lss (.t 26) (.t 27)⟩]
theorem tr31_7 : (ro Tryd.f31 7).toList.mapM (trO Tryd.prog 88 (ro Tryd.f31 7)) = some a31_7 := by kernel_rfl
def a31_9 : List AO := [⟨(some 31), none, .mv (.t 9)⟩,
  ⟨(some 32), none, .mv (.t 31)⟩,
  ⟨(some 33), some (32, false), .fld 1 (.t 2)⟩,
  ⟨(some 34), some (32, false), .load none (.t 33)⟩,
  ⟨(some 35), some (32, false), .mv (.t 10)⟩,
  ⟨(some 36), some (32, false), .idx 4 (.t 34) (.t 35)⟩,
  ⟨(some 37), some (32, false), .fld 0 (.t 36)⟩,
  ⟨(some 38), some (32, false), .load none (.t 37)⟩,
  ⟨(some 39), some (32, false), .fld 0 (.t 8)⟩,
  ⟨(some 40), some (32, false), .load none (.t 39)⟩,
  ⟨(some 41), some (32, false), .bin .eql (.t 38) (.t 40)⟩,
  ⟨(some 42), none, .pick (.t 32) (.v (.bool true)) (.t 41)⟩,
  ⟨(some 9), none, .mv (.t 42)⟩]
theorem tr31_9 : (ro Tryd.f31 9).toList.mapM (trO Tryd.prog 88 (ro Tryd.f31 9)) = some a31_9 := by kernel_rfl
def d31_9 : List (List Nat) := [[], [0], [0, 1], [0, 1, 2], [0, 1], [0, 1, 2, 3, 4], [0, 1, 2, 3, 4, 5], [0, 1, 2, 3, 4, 5, 6], [0, 1], [0, 1, 8], [0, 1, 2, 3, 4, 5, 6, 7, 8, 9], [0, 1, 2, 3, 4, 5, 6, 7, 8, 9, 10], [0, 1, 2, 3, 4, 5, 6, 7, 8, 9, 10, 11]]
theorem ok31_9 : okReg (ro Tryd.f31 9) a31_9 d31_9 = true := by kernel_rfl
def a31_8 : List AO := [⟨(some 29), none, .mv (.t 10)⟩,
  ⟨(some 30), none, .bin .add (.t 29) (.v (.int .i64 1))⟩,
  ⟨(some 10), none, .mv (.t 30)⟩]
theorem tr31_8 : (ro Tryd.f31 8).toList.mapM (trO Tryd.prog 88 (ro Tryd.f31 8)) = some a31_8 := by kernel_rfl
def a31_10 : List AO := [⟨(some 43), none, .fld 0 (.t 8)⟩,
  ⟨(some 44), none, .load none (.t 43)⟩,
  ⟨(some 45), none, .call 30 [(.t 44), (.v (.int .i64 1)), (.v (.int .i64 8))]⟩,
  ⟨(some 46), none, .un .not (.t 45)⟩]
theorem tr31_10 : (ro Tryd.f31 10).toList.mapM (trO Tryd.prog 88 (ro Tryd.f31 10)) = some a31_10 := by kernel_rfl
def a31_11 : List AO := [⟨(some 47), none, .mv (.t 5)⟩,
  ⟨(some 48), none, .mv (.t 7)⟩,
  ⟨(some 49), none, .build [(.int .i64 0), (.str [])] [(0, 1, (.v (.int .i64 5))), (1, 1, (.t 48))]⟩,
  ⟨(some 50), none, .slc 51 2 [(.t 49)]⟩,
  ⟨(some 51), none, .app 51 2 24 (.t 47) (.t 50)⟩,
  ⟨(some 5), none, .mv (.t 51)⟩]
theorem tr31_11 : (ro Tryd.f31 11).toList.mapM (trO Tryd.prog 88 (ro Tryd.f31 11)) = some a31_11 := by kernel_rfl
def a31_12 : List AO := [⟨(some 52), none, .mv (.t 9)⟩]
theorem tr31_12 : (ro Tryd.f31 12).toList.mapM (trO Tryd.prog 88 (ro Tryd.f31 12)) = some a31_12 := by kernel_rfl
def a31_13 : List AO := [⟨(some 53), none, .mv (.t 5)⟩,
  ⟨(some 54), none, .mv (.t 7)⟩,
  ⟨(some 55), none, .build [(.int .i64 0), (.str [])] [(0, 1, (.v (.int .i64 6))), (1, 1, (.t 54))]⟩,
  ⟨(some 56), none, .slc 51 2 [(.t 55)]⟩,
  ⟨(some 57), none, .app 51 2 24 (.t 53) (.t 56)⟩,
  ⟨(some 5), none, .mv (.t 57)⟩]
theorem tr31_13 : (ro Tryd.f31 13).toList.mapM (trO Tryd.prog 88 (ro Tryd.f31 13)) = some a31_13 := by kernel_rfl
def a31_14 : List AO := [⟨(some 58), none, .load (some 4) (.t 8)⟩,
  ⟨(some 59), none, .call 41 [(.t 58)]⟩,
  ⟨(some 60), none, .un .not (.t 59)⟩]
theorem tr31_14 : (ro Tryd.f31 14).toList.mapM (trO Tryd.prog 88 (ro Tryd.f31 14)) = some a31_14 := by kernel_rfl
def a31_15 : List AO := [⟨(some 61), none, .mv (.t 5)⟩,
  ⟨(some 62), none, .mv (.t 7)⟩,
  ⟨(some 63), none, .build [(.int .i64 0), (.str [])] [(0, 1, (.v (.int .i64 2))), (1, 1, (.t 62))]⟩,
  ⟨(some 64), none, .slc 51 2 [(.t 63)]⟩,
  ⟨(some 65), none, .app 51 2 24 (.t 61) (.t 64)⟩,
  ⟨(some 5), none, .mv (.t 65)⟩]
theorem tr31_15 : (ro Tryd.f31 15).toList.mapM (trO Tryd.prog 88 (ro Tryd.f31 15)) = some a31_15 := by kernel_rfl
def a31_16 : List AO := [⟨(some 66), none, .fld 3 (.t 8)⟩,
  ⟨(some 67), none, .load none (.t 66)⟩,
  ⟨(some 68), none, .len (.t 67)⟩,
  ⟨(some 69), none, .bin .lss (.t 68) (.v (.int .i64 1))⟩,
  ⟨(some 70), none, .mv (.t 69)⟩,
  ⟨(some 71), some (70, false), .fld 3 (.t 8)⟩,
  ⟨(some 72), some (70, false), .load none (.t 71)⟩,
  ⟨(some 73), some (70, false), .len (.t 72)⟩,
  ⟨(some 74), some (70, false), .bin .gtr (.t 73) (.v (.int .i64 26))⟩,
  ⟨(some 75), none, .pick (.t 70) (.v (.bool true)) (.t 74)⟩]
theorem tr31_16 : (ro Tryd.f31 16).toList.mapM (trO Tryd.prog 88 (ro Tryd.f31 16)) = some a31_16 := by kernel_rfl
def a31_17 : List AO := [⟨(some 76), none, .mv (.t 5)⟩,
  ⟨(some 77), none, .mv (.t 7)⟩,
  ⟨(some 78), none, .build [(.int .i64 0), (.str [])] [(0, 1, (.v (.int .i64 4))), (1, 1, (.t 77))]⟩,
  ⟨(some 79), none, .slc 51 2 [(.t 78)]⟩,
  ⟨(some 80), none, .app 51 2 24 (.t 76) (.t 79)⟩,
  ⟨(some 5), none, .mv (.t 80)⟩]
theorem tr31_17 : (ro Tryd.f31 17).toList.mapM (trO Tryd.prog 88 (ro Tryd.f31 17)) = some a31_17 := by kernel_rfl
def a31_18 : List AO := [⟨(some 81), none, .mv (.t 5)⟩,
  ⟨(some 82), none, .load (some 2) (.t 2)⟩,
  ⟨(some 83), none, .mv (.t 6)⟩,
  ⟨(some 84), none, .mv (.t 7)⟩,
  ⟨(some 85), none, .call 42 [(.t 82), (.t 83), (.t 84)]⟩,
  ⟨(some 86), none, .app 51 2 24 (.t 81) (.t 85)⟩,
  ⟨(some 5), none, .mv (.t 86)⟩]
theorem tr31_18 : (ro Tryd.f31 18).toList.mapM (trO Tryd.prog 88 (ro Tryd.f31 18)) = some a31_18 := by kernel_rfl
def a31_4 : List AO := [⟨(some 16), none, .mv (.t 6)⟩,
  ⟨(some 17), none, .bin .add (.t 16) (.v (.int .i64 1))⟩,
  ⟨(some 6), none, .mv (.t 17)⟩]
theorem tr31_4 : (ro Tryd.f31 4).toList.mapM (trO Tryd.prog 88 (ro Tryd.f31 4)) = some a31_4 := by kernel_rfl
def a31_19 : List AO := [⟨(some 87), none, .mv (.t 5)⟩,
  ⟨(some 4), none, .mv (.t 87)⟩]
theorem tr31_19 : (ro Tryd.f31 19).toList.mapM (trO Tryd.prog 88 (ro Tryd.f31 19)) = some a31_19 := by kernel_rfl
/-- airline/text.every -/
noncomputable def c33 : Code := .seq (.region 0 (ro Tryd.f33 0) false) (.seq (.seq (.region 1 (ro Tryd.f33 1) false) (.block 0 (.loop (.seq (.region 2 (ro Tryd.f33 2) false) (.seq (.cond (.tmp 9) (.skip) (.exit 0)) (.seq (.block 1 (.seq (.region 3 (ro Tryd.f33 3) false) (.seq (.region 4 (ro Tryd.f33 4) false) (.cond (.tmp 16) (.seq (.region 5 (ro Tryd.f33 5) false) (.ret)) (.skip))))) (.region 6 (ro Tryd.f33 6) false))))))) (.seq (.region 7 (ro Tryd.f33 7) false) (.ret)))
theorem body33 : Tryd.f33.body = some c33 := by kernel_rfl
theorem res33 : Tryd.f33.results.toList.mapM (trR Tryd.prog) = some [.t 4] := by kernel_rfl
theorem nt33 : Tryd.f33.ntmps = 18 := by kernel_rfl
theorem nm33 : (Tryd.f33.name == "runtime.NumGoroutine") = false := by kernel_rfl
def a33_0 : List AO := [⟨(some 4), none, .mv (.v (.bool false))⟩]
theorem tr33_0 : (ro Tryd.f33 0).toList.mapM (trO Tryd.prog 18 (ro Tryd.f33 0)) = some a33_0 := by kernel_rfl
def a33_1 : List AO := [⟨(some 6), none, .mv (.t 0)⟩,
  ⟨(some 7), none, .slen (.t 6)⟩,
  ⟨(some 8), none, .mv (.v (.int .i64 0))⟩]
theorem tr33_1 : (ro Tryd.f33 1).toList.mapM (trO Tryd.prog 18 (ro Tryd.f33 1)) = some a33_1 := by kernel_rfl
def a33_2 : List AO := [⟨(some 9), none, .bin .lss (.t 8) (.t 7)⟩]
theorem tr33_2 : (ro Tryd.f33 2).toList.mapM (trO Tryd.prog 18 (ro Tryd.f33 2)) = some a33_2 := by kernel_rfl
def a33_3 : List AO := [⟨(some 10), none, .mv (.t 8)⟩,
  ⟨(some 5), none, .mv (.t 10)⟩]
theorem tr33_3 : (ro Tryd.f33 3).toList.mapM (trO Tryd.prog 18 (ro Tryd.f33 3)) = some a33_3 := by kernel_rfl
def a33_4 : List AO := [⟨(some 11), none, .mv (.t 1)⟩,
  ⟨(some 12), none, .mv (.t 0)⟩,
  ⟨(some 13), none, .mv (.t 5)⟩,
  ⟨(some 14), none, .sidx (.t 12) (.t 13)⟩,
  ⟨(some 15), none, .callv (.t 11) [(.t 14)]⟩,
  ⟨(some 16), none, .un .not (.t 15)⟩]
theorem tr33_4 : (ro Tryd.f33 4).toList.mapM (trO Tryd.prog 18 (ro Tryd.f33 4)) = some a33_4 := by kernel_rfl
def a33_5 : List AO := [⟨(some 4), none, .mv (.v (.bool false))⟩]
theorem tr33_5 : (ro Tryd.f33 5).toList.mapM (trO Tryd.prog 18 (ro Tryd.f33 5)) = some a33_5 := by kernel_rfl
def a33_6 : List AO := [⟨(some 17), none, .bin .add (.t 8) (.v (.int .i64 1))⟩,
  ⟨(some 8), none, .mv (.t 17)⟩]
theorem tr33_6 : (ro Tryd.f33 6).toList.mapM (trO Tryd.prog 18 (ro Tryd.f33 6)) = some a33_6 := by kernel_rfl
def a33_7 : List AO := [⟨(some 4), none, .mv (.v (.bool true))⟩]
theorem tr33_7 : (ro Tryd.f33 7).toList.mapM (trO Tryd.prog 18 (ro Tryd.f33 7)) = some a33_7 := by kernel_rfl
/-- airline/text.Code 1 -/
noncomputable def c34 : Code := .seq (.region 0 (ro Tryd.f34 0) false) (.seq (.region 1 (ro Tryd.f34 1) false) (.ret))
theorem body34 : Tryd.f34.body = some c34 := by kernel_rfl
theorem res34 : Tryd.f34.results.toList.mapM (trR Tryd.prog) = some [.t 2] := by kernel_rfl
theorem nt34 : Tryd.f34.ntmps = 9 := by kernel_rfl
theorem nm34 : (Tryd.f34.name == "runtime.NumGoroutine") = false := by kernel_rfl
def a34_0 : List AO := [⟨(some 2), none, .mv (.v (.bool false))⟩]
theorem tr34_0 : (ro Tryd.f34 0).toList.mapM (trO Tryd.prog 9 (ro Tryd.f34 0)) = some a34_0 := by kernel_rfl
def a34_1 : List AO := [⟨(some 3), none, .mv (.t 0)⟩,
  ⟨(some 4), none, .call 35 [(.t 3)]⟩,
  ⟨(some 5), none, .mv (.t 4)⟩,
  ⟨(some 6), some (5, false), .mv (.t 0)⟩,
  ⟨(some 7), some (5, false), .call 36 [(.t 6)]⟩,
  ⟨(some 8), none, .pick (.t 5) (.v (.bool true)) (.t 7)⟩,
  ⟨(some 2), none, .mv (.t 8)⟩]
theorem tr34_1 : (ro Tryd.f34 1).toList.mapM (trO Tryd.prog 9 (ro Tryd.f34 1)) = some a34_1 := by kernel_rfl
/-- airline/text.capital -/
noncomputable def c35 : Code := .seq (.region 0 (ro Tryd.f35 0) false) (.seq (.region 1 (ro Tryd.f35 1) false) (.ret))
theorem body35 : Tryd.f35.body = some c35 := by kernel_rfl
theorem res35 : Tryd.f35.results.toList.mapM (trR Tryd.prog) = some [.t 2] := by kernel_rfl
theorem nt35 : Tryd.f35.ntmps = 9 := by kernel_rfl
theorem nm35 : (Tryd.f35.name == "runtime.NumGoroutine") = false := by kernel_rfl
def a35_0 : List AO := [⟨(some 2), none, .mv (.v (.bool false))⟩]
theorem tr35_0 : (ro Tryd.f35 0).toList.mapM (trO Tryd.prog 9 (ro Tryd.f35 0)) = some a35_0 := by kernel_rfl
def a35_1 : List AO := [⟨(some 3), none, .mv (.t 0)⟩,
  ⟨(some 4), none, .bin .geq (.t 3) (.v (.int .u8 65))⟩,
  ⟨(some 5), none, .mv (.t 4)⟩,
  ⟨(some 6), some (5, true), .mv (.t 0)⟩,
  ⟨(some 7), some (5, true), .bin .leq (.t 6) (.v (.int .u8 90))⟩,
  ⟨(some 8), none, .pick (.t 5) (.t 7) (.v (.bool false))⟩,
  ⟨(some 2), none, .mv (.t 8)⟩]
theorem tr35_1 : (ro Tryd.f35 1).toList.mapM (trO Tryd.prog 9 (ro Tryd.f35 1)) = some a35_1 := by kernel_rfl
/-- airline/text.digit -/
noncomputable def c36 : Code := .seq (.region 0 (ro Tryd.f36 0) false) (.seq (.region 1 (ro Tryd.f36 1) false) (.ret))
theorem body36 : Tryd.f36.body = some c36 := by kernel_rfl
theorem res36 : Tryd.f36.results.toList.mapM (trR Tryd.prog) = some [.t 2] := by kernel_rfl
theorem nt36 : Tryd.f36.ntmps = 9 := by kernel_rfl
theorem nm36 : (Tryd.f36.name == "runtime.NumGoroutine") = false := by kernel_rfl
def a36_0 : List AO := [⟨(some 2), none, .mv (.v (.bool false))⟩]
theorem tr36_0 : (ro Tryd.f36 0).toList.mapM (trO Tryd.prog 9 (ro Tryd.f36 0)) = some a36_0 := by kernel_rfl
def a36_1 : List AO := [⟨(some 3), none, .mv (.t 0)⟩,
  ⟨(some 4), none, .bin .geq (.t 3) (.v (.int .u8 48))⟩,
  ⟨(some 5), none, .mv (.t 4)⟩,
  ⟨(some 6), some (5, true), .mv (.t 0)⟩,
  ⟨(some 7), some (5, true), .bin .leq (.t 6) (.v (.int .u8 57))⟩,
  ⟨(some 8), none, .pick (.t 5) (.t 7) (.v (.bool false))⟩,
  ⟨(some 2), none, .mv (.t 8)⟩]
theorem tr36_1 : (ro Tryd.f36 1).toList.mapM (trO Tryd.prog 9 (ro Tryd.f36 1)) = some a36_1 := by kernel_rfl
/-- airline/text.Class -/
noncomputable def c37 : Code := .seq (.region 0 (ro Tryd.f37 0) false) (.seq (.region 1 (ro Tryd.f37 1) false) (.ret))
theorem body37 : Tryd.f37.body = some c37 := by kernel_rfl
theorem res37 : Tryd.f37.results.toList.mapM (trR Tryd.prog) = some [.t 2] := by kernel_rfl
theorem nt37 : Tryd.f37.ntmps = 11 := by kernel_rfl
theorem nm37 : (Tryd.f37.name == "runtime.NumGoroutine") = false := by kernel_rfl
def a37_0 : List AO := [⟨(some 2), none, .mv (.v (.bool false))⟩]
theorem tr37_0 : (ro Tryd.f37 0).toList.mapM (trO Tryd.prog 11 (ro Tryd.f37 0)) = some a37_0 := by kernel_rfl
def a37_1 : List AO := [⟨(some 3), none, .mv (.t 0)⟩,
  ⟨(some 4), none, .slen (.t 3)⟩,
  ⟨(some 5), none, .bin .eql (.t 4) (.v (.int .i64 1))⟩,
  ⟨(some 6), none, .mv (.t 5)⟩,
  ⟨(some 7), some (6, true), .mv (.t 0)⟩,
  ⟨(some 8), some (6, true), .sidx (.t 7) (.v (.int .i64 0))⟩,
  ⟨(some 9), some (6, true), .call 35 [(.t 8)]⟩,
  ⟨(some 10), none, .pick (.t 6) (.t 9) (.v (.bool false))⟩,
  ⟨(some 2), none, .mv (.t 10)⟩]
theorem tr37_1 : (ro Tryd.f37 1).toList.mapM (trO Tryd.prog 11 (ro Tryd.f37 1)) = some a37_1 := by kernel_rfl
/-- airline/airlineref01.Decimal -/
noncomputable def c38 : Code := .seq (.region 0 (ro Tryd.f38 0) false) (.seq (.seq (.region 1 (ro Tryd.f38 1) false) (.cond (.tmp 4) (.seq (.region 2 (ro Tryd.f38 2) false) (.ret)) (.skip))) (.seq (.region 3 (ro Tryd.f38 3) false) (.ret)))
theorem body38 : Tryd.f38.body = some c38 := by kernel_rfl
theorem res38 : Tryd.f38.results.toList.mapM (trR Tryd.prog) = some [.t 2] := by kernel_rfl
theorem nt38 : Tryd.f38.ntmps = 15 := by kernel_rfl
theorem nm38 : (Tryd.f38.name == "runtime.NumGoroutine") = false := by kernel_rfl
def a38_0 : List AO := [⟨(some 2), none, .mv (.v (.str []))⟩]
theorem tr38_0 : (ro Tryd.f38 0).toList.mapM (trO Tryd.prog 15 (ro Tryd.f38 0)) = some a38_0 := by kernel_rfl
def a38_1 : List AO := [⟨(some 3), none, .mv (.t 0)⟩,
  ⟨(some 4), none, .bin .lss (.t 3) (.v (.int .i64 0))⟩]
theorem tr38_1 : (ro Tryd.f38 1).toList.mapM (trO Tryd.prog 15 (ro Tryd.f38 1)) = some a38_1 := by kernel_rfl
def a38_2 : List AO := [⟨(some 5), none, .mv (.t 0)⟩,
  ⟨(some 6), none, .bin .add (.t 5) (.v (.int .i64 1))⟩,
  ⟨(some 7), none, .un .neg (.t 6)⟩,
  ⟨(some 8), none, .conv .u64 (.t 7)⟩,
  ⟨(some 9), none, .bin .add (.t 8) (.v (.int .u64 1))⟩,
  ⟨(some 10), none, .call 44 [(.t 9)]⟩,
  ⟨(some 11), none, .bin .add (.v (.str [45])) (.t 10)⟩,
  ⟨(some 2), none, .mv (.t 11)⟩]
theorem tr38_2 : (ro Tryd.f38 2).toList.mapM (trO Tryd.prog 15 (ro Tryd.f38 2)) = some a38_2 := by kernel_rfl
def a38_3 : List AO := [⟨(some 12), none, .mv (.t 0)⟩,
  ⟨(some 13), none, .conv .u64 (.t 12)⟩,
  ⟨(some 14), none, .call 44 [(.t 13)]⟩,
  ⟨(some 2), none, .mv (.t 14)⟩]
theorem tr38_3 : (ro Tryd.f38 3).toList.mapM (trO Tryd.prog 15 (ro Tryd.f38 3)) = some a38_3 := by kernel_rfl
/-- airline/airlineref01.upper -/
noncomputable def c39 : Code := .seq (.region 0 (ro Tryd.f39 0) false) (.seq (.region 1 (ro Tryd.f39 1) false) (.ret))
theorem body39 : Tryd.f39.body = some c39 := by kernel_rfl
theorem res39 : Tryd.f39.results.toList.mapM (trR Tryd.prog) = some [.t 2] := by kernel_rfl
theorem nt39 : Tryd.f39.ntmps = 9 := by kernel_rfl
theorem nm39 : (Tryd.f39.name == "runtime.NumGoroutine") = false := by kernel_rfl
def a39_0 : List AO := [⟨(some 2), none, .mv (.v (.bool false))⟩]
theorem tr39_0 : (ro Tryd.f39 0).toList.mapM (trO Tryd.prog 9 (ro Tryd.f39 0)) = some a39_0 := by kernel_rfl
def a39_1 : List AO := [⟨(some 3), none, .mv (.t 0)⟩,
  ⟨(some 4), none, .bin .geq (.t 3) (.v (.int .u8 65))⟩,
  ⟨(some 5), none, .mv (.t 4)⟩,
  ⟨(some 6), some (5, true), .mv (.t 0)⟩,
  ⟨(some 7), some (5, true), .bin .leq (.t 6) (.v (.int .u8 90))⟩,
  ⟨(some 8), none, .pick (.t 5) (.t 7) (.v (.bool false))⟩,
  ⟨(some 2), none, .mv (.t 8)⟩]
theorem tr39_1 : (ro Tryd.f39 1).toList.mapM (trO Tryd.prog 9 (ro Tryd.f39 1)) = some a39_1 := by kernel_rfl
/-- airline/airlineref01.digit -/
noncomputable def c40 : Code := .seq (.region 0 (ro Tryd.f40 0) false) (.seq (.region 1 (ro Tryd.f40 1) false) (.ret))
theorem body40 : Tryd.f40.body = some c40 := by kernel_rfl
theorem res40 : Tryd.f40.results.toList.mapM (trR Tryd.prog) = some [.t 2] := by kernel_rfl
theorem nt40 : Tryd.f40.ntmps = 9 := by kernel_rfl
theorem nm40 : (Tryd.f40.name == "runtime.NumGoroutine") = false := by kernel_rfl
def a40_0 : List AO := [⟨(some 2), none, .mv (.v (.bool false))⟩]
theorem tr40_0 : (ro Tryd.f40 0).toList.mapM (trO Tryd.prog 9 (ro Tryd.f40 0)) = some a40_0 := by kernel_rfl
def a40_1 : List AO := [⟨(some 3), none, .mv (.t 0)⟩,
  ⟨(some 4), none, .bin .geq (.t 3) (.v (.int .u8 48))⟩,
  ⟨(some 5), none, .mv (.t 4)⟩,
  ⟨(some 6), some (5, true), .mv (.t 0)⟩,
  ⟨(some 7), some (5, true), .bin .leq (.t 6) (.v (.int .u8 57))⟩,
  ⟨(some 8), none, .pick (.t 5) (.t 7) (.v (.bool false))⟩,
  ⟨(some 2), none, .mv (.t 8)⟩]
theorem tr40_1 : (ro Tryd.f40 1).toList.mapM (trO Tryd.prog 9 (ro Tryd.f40 1)) = some a40_1 := by kernel_rfl
/-- airline/airlineref12.inRange -/
noncomputable def c41 : Code := .seq (.region 0 (ro Tryd.f41 0) false) (.seq (.region 1 (ro Tryd.f41 1) false) (.ret))
theorem body41 : Tryd.f41.body = some c41 := by kernel_rfl
theorem res41 : Tryd.f41.results.toList.mapM (trR Tryd.prog) = some [.t 2] := by kernel_rfl
theorem nt41 : Tryd.f41.ntmps = 21 := by kernel_rfl
theorem nm41 : (Tryd.f41.name == "runtime.NumGoroutine") = false := by kernel_rfl
def a41_0 : List AO := [⟨(some 1), none, .box 38 (.t 0)⟩,
  ⟨(some 2), none, .mv (.v (.bool false))⟩]
theorem tr41_0 : (ro Tryd.f41 0).toList.mapM (trO Tryd.prog 21 (ro Tryd.f41 0)) = some a41_0 := by kernel_rfl
def a41_1 : List AO := [⟨(some 3), none, .fld 1 (.t 1)⟩,
  ⟨(some 4), none, .load none (.t 3)⟩,
  ⟨(some 5), none, .bin .geq (.t 4) (.v (.int .i64 1))⟩,
  ⟨(some 6), none, .mv (.t 5)⟩,
  ⟨(some 7), some (6, true), .fld 1 (.t 1)⟩,
  ⟨(some 8), some (6, true), .load none (.t 7)⟩,
  ⟨(some 9), some (6, true), .bin .leq (.t 8) (.v (.int .i64 999))⟩,
  ⟨(some 10), none, .pick (.t 6) (.t 9) (.v (.bool false))⟩,
  ⟨(some 11), none, .mv (.t 10)⟩,
  ⟨(some 12), some (11, true), .fld 2 (.t 1)⟩,
  ⟨(some 13), some (11, true), .load none (.t 12)⟩,
  ⟨(some 14), some (11, true), .bin .geq (.t 13) (.v (.int .i64 0))⟩,
  ⟨(some 15), none, .pick (.t 11) (.t 14) (.v (.bool false))⟩,
  ⟨(some 16), none, .mv (.t 15)⟩,
  ⟨(some 17), some (16, true), .fld 2 (.t 1)⟩,
  ⟨(some 18), some (16, true), .load none (.t 17)⟩,
  ⟨(some 19), some (16, true), .bin .leq (.t 18) (.v (.int .i64 999))⟩,
  ⟨(some 20), none, .pick (.t 16) (.t 19) (.v (.bool false))⟩,
  ⟨(some 2), none, .mv (.t 20)⟩]
theorem tr41_1 : (ro Tryd.f41 1).toList.mapM (trO Tryd.prog 21 (ro Tryd.f41 1)) = some a41_1 := by kernel_rfl
/-- airline/airlineref12.classes -/
noncomputable def c42 : Code := .seq (.region 0 (ro Tryd.f42 0) false) (.seq (.region 1 (ro Tryd.f42 1) false) (.seq (.region 2 (ro Tryd.f42 2) false) (.seq (.seq (.region 3 (ro Tryd.f42 3) false) (.block 0 (.loop (.seq (.seq (.region 4 (ro Tryd.f42 4) false) (.cond (.tmp 21) (.skip) (.exit 0))) (.seq (.block 1 (.seq (.region 6 (ro Tryd.f42 6) true) (.seq (.seq (.region 7 (ro Tryd.f42 7) false) (.cond (.tmp 35) (.region 8 (ro Tryd.f42 8) false) (.skip))) (.seq (.seq (.region 9 (ro Tryd.f42 9) false) (.cond (.tmp 44) (.region 10 (ro Tryd.f42 10) false) (.skip))) (.seq (.region 11 (ro Tryd.f42 11) true) (.cond (.tmp 79) (.region 12 (ro Tryd.f42 12) false) (.skip))))))) (.region 5 (ro Tryd.f42 5) false)))))) (.seq (.region 13 (ro Tryd.f42 13) false) (.ret)))))
theorem body42 : Tryd.f42.body = some c42 := by kernel_rfl
theorem res42 : Tryd.f42.results.toList.mapM (trR Tryd.prog) = some [.t 6] := by kernel_rfl
theorem nt42 : Tryd.f42.ntmps = 86 := by kernel_rfl
theorem nm42 : (Tryd.f42.name == "runtime.NumGoroutine") = false := by kernel_rfl
def a42_0 : List AO := [⟨(some 3), none, .box 30 (.t 0)⟩,
  ⟨(some 6), none, .mv (.v .nils)⟩]
theorem tr42_0 : (ro Tryd.f42 0).toList.mapM (trO Tryd.prog 86 (ro Tryd.f42 0)) = some a42_0 := by kernel_rfl
def a42_1 : List AO := [⟨(some 7), none, .mv (.v .nils)⟩]
theorem tr42_1 : (ro Tryd.f42 1).toList.mapM (trO Tryd.prog 86 (ro Tryd.f42 1)) = some a42_1 := by kernel_rfl
def a42_2 : List AO := [⟨(some 12), none, .fld 1 (.t 3)⟩,
  ⟨(some 13), none, .load none (.t 12)⟩,
  ⟨(some 14), none, .mv (.t 1)⟩,
  ⟨(some 15), none, .idx 4 (.t 13) (.t 14)⟩,
  ⟨(some 16), none, .load (some 4) (.t 15)⟩,
  ⟨(some 8), none, .alloc 38 [(.str []), (.int .i64 0), (.int .i64 0), .nils]⟩,
  ⟨none, none, .store 4 (.t 8) (.t 16)⟩]
theorem tr42_2 : (ro Tryd.f42 2).toList.mapM (trO Tryd.prog 86 (ro Tryd.f42 2)) = some a42_2 := by kernel_rfl
def a42_3 : List AO := [⟨(some 9), none, .mv (.v (.int .i64 0))⟩]
theorem tr42_3 : (ro Tryd.f42 3).toList.mapM (trO Tryd.prog 86 (ro Tryd.f42 3)) = some a42_3 := by kernel_rfl
def a42_4 : List AO := [⟨(some 17), none, .mv (.t 9)⟩,
  ⟨(some 18), none, .fld 3 (.t 8)⟩,
  ⟨(some 19), none, .load none (.t 18)⟩,
  ⟨(some 20), none, .len (.t 19)⟩,
  ⟨(some 21), none, .bin .lss (.t 17) (.t 20)⟩]
theorem tr42_4 : (ro Tryd.f42 4).toList.mapM (trO Tryd.prog 86 (ro Tryd.f42 4)) = some a42_4 := by kernel_rfl
def a42_6 : List AO := [⟨(some 24), none, .mv (.t 2)⟩,
  ⟨(some 25), none, .mv (.t 9)⟩,
  ⟨(some 26), none, .call 29 [(.t 24), (.v (.str [99, 108, 97, 115, 115])), (.t 25)]⟩,
  ⟨(some 27), none, .fld 3 (.t 8)⟩,
  ⟨(some 28), none, .load none (.t 27)⟩,
  ⟨(some 29), none, .mv (.t 9)⟩,
  ⟨(some 30), none, .idx 2 (.t 28) (.t 29)⟩,
  ⟨(some 31), none, .load (some 2) (.t 30)⟩,
  ⟨(some 11), none, .alloc 40 [(.str []), (.int .i64 0)]⟩,
  ⟨(some 10), none, .mv (.t 26)⟩,
  ⟨none, none, .store 2 (.t 11) (.t 31)⟩]
theorem tr42_6 : (ro Tryd.f42 6).toList.mapM (trO Tryd.prog 86 (ro Tryd.f42 6)) = some a42_6 := by kernel_rfl
def d42_6 : List (List Nat) := [[], [], [0, 1], [], [3], [], [3, 4, 5], [3, 4, 5, 6], [], [0, 1, 2, 8], [0, 1, 2, 3, 4, 5, 6, 7, 8, 9]]
theorem ok42_6 : okReg (ro Tryd.f42 6) a42_6 d42_6 = true := by kernel_rfl
def a42_7 : List AO := [⟨(some 32), none, .fld 0 (.t 11)⟩,
  ⟨(some 33), none, .load none (.t 32)⟩,
  ⟨(some 34), none, .call 45 [(.t 33)]⟩,
  ⟨(some 35), none, .un .not (.t 34)⟩]
theorem tr42_7 : (ro Tryd.f42 7).toList.mapM (trO Tryd.prog 86 (ro Tryd.f42 7)) = some a42_7 := by kernel_rfl
def a42_8 : List AO := [⟨(some 36), none, .mv (.t 7)⟩,
  ⟨(some 37), none, .mv (.t 10)⟩,
  ⟨(some 38), none, .build [(.int .i64 0), (.str [])] [(0, 1, (.v (.int .i64 16))), (1, 1, (.t 37))]⟩,
  ⟨(some 39), none, .slc 51 2 [(.t 38)]⟩,
  ⟨(some 40), none, .app 51 2 24 (.t 36) (.t 39)⟩,
  ⟨(some 7), none, .mv (.t 40)⟩]
theorem tr42_8 : (ro Tryd.f42 8).toList.mapM (trO Tryd.prog 86 (ro Tryd.f42 8)) = some a42_8 := by kernel_rfl
def a42_9 : List AO := [⟨(some 41), none, .load (some 2) (.t 3)⟩,
  ⟨(some 42), none, .mv (.t 1)⟩,
  ⟨(some 43), none, .mv (.t 9)⟩,
  ⟨(some 44), none, .call 46 [(.t 41), (.t 42), (.t 43)]⟩]
theorem tr42_9 : (ro Tryd.f42 9).toList.mapM (trO Tryd.prog 86 (ro Tryd.f42 9)) = some a42_9 := by kernel_rfl
def a42_10 : List AO := [⟨(some 45), none, .mv (.t 7)⟩,
  ⟨(some 46), none, .mv (.t 10)⟩,
  ⟨(some 47), none, .build [(.int .i64 0), (.str [])] [(0, 1, (.v (.int .i64 6))), (1, 1, (.t 46))]⟩,
  ⟨(some 48), none, .slc 51 2 [(.t 47)]⟩,
  ⟨(some 49), none, .app 51 2 24 (.t 45) (.t 48)⟩,
  ⟨(some 7), none, .mv (.t 49)⟩]
theorem tr42_10 : (ro Tryd.f42 10).toList.mapM (trO Tryd.prog 86 (ro Tryd.f42 10)) = some a42_10 := by kernel_rfl
def a42_11 : List AO := [⟨(some 50), none, .fld 1 (.t 11)⟩,
  ⟨(some 51), none, .load none (.t 50)⟩,
  ⟨(some 52), none, .bin .lss (.t 51) (.v (.int .i64 0))⟩,
  ⟨(some 53), none, .mv (.t 52)⟩,
  ⟨(some 54), some (53, false), .mv (.t 9)⟩,
  ⟨(some 55), some (53, false), .bin .gtr (.t 54) (.v (.int .i64 0))⟩,
  ⟨(some 56), some (53, false), .mv (.t 55)⟩,
  ⟨(some 57), some (56, true), .fld 1 (.t 11)⟩,
  ⟨(some 58), some (56, true), .load none (.t 57)⟩,
  ⟨(some 59), some (56, true), .fld 3 (.t 8)⟩,
  ⟨(some 60), some (56, true), .load none (.t 59)⟩,
  ⟨(some 61), some (56, true), .mv (.t 9)⟩,
  ⟨(some 62), some (56, true), .bin .sub (.t 61) (.v (.int .i64 1))⟩,
  ⟨(some 63), some (56, true), .idx 2 (.t 60) (.t 62)⟩,
  ⟨(some 64), some (56, true), .fld 1 (.t 63)⟩,
  ⟨(some 65), some (56, true), .load none (.t 64)⟩,
  ⟨(some 66), some (56, true), .bin .lss (.t 58) (.t 65)⟩,
  ⟨(some 67), some (53, false), .pick (.t 56) (.t 66) (.v (.bool false))⟩,
  ⟨(some 68), none, .pick (.t 53) (.v (.bool true)) (.t 67)⟩,
  ⟨(some 69), none, .mv (.t 68)⟩,
  ⟨(some 70), some (69, false), .load (some 4) (.t 8)⟩,
  ⟨(some 71), some (69, false), .call 41 [(.t 70)]⟩,
  ⟨(some 72), some (69, false), .mv (.t 71)⟩,
  ⟨(some 73), some (72, true), .fld 1 (.t 11)⟩,
  ⟨(some 74), some (72, true), .load none (.t 73)⟩,
  ⟨(some 75), some (72, true), .load (some 4) (.t 8)⟩,
  ⟨(some 76), some (72, true), .call 20 [(.t 75)]⟩,
  ⟨(some 77), some (72, true), .bin .gtr (.t 74) (.t 76)⟩,
  ⟨(some 78), some (69, false), .pick (.t 72) (.t 77) (.v (.bool false))⟩,
  ⟨(some 79), none, .pick (.t 69) (.v (.bool true)) (.t 78)⟩]
theorem tr42_11 : (ro Tryd.f42 11).toList.mapM (trO Tryd.prog 86 (ro Tryd.f42 11)) = some a42_11 := by kernel_rfl
def d42_11 : List (List Nat) := [[], [0], [0, 1], [0, 1, 2], [0, 1, 2, 3], [0, 1, 2, 3, 4], [0, 1, 2, 3, 4, 5], [0, 1, 2, 3, 4, 5, 6], [0, 1, 2, 3, 4, 5, 6, 7], [0, 1, 2, 3, 4, 5, 6], [0, 1, 2, 3, 4, 5, 6, 9], [0, 1, 2, 3, 4, 5, 6], [0, 1, 2, 3, 4, 5, 6, 11], [0, 1, 2, 3, 4, 5, 6, 9, 10, 11, 12], [0, 1, 2, 3, 4, 5, 6, 9, 10, 11, 12, 13], [0, 1, 2, 3, 4, 5, 6, 9, 10, 11, 12, 13, 14], [0, 1, 2, 3, 4, 5, 6, 7, 8, 9, 10, 11, 12, 13, 14, 15], [0, 1, 2, 3, 4, 5, 6, 7, 8, 9, 10, 11, 12, 13, 14, 15, 16], [0, 1, 2, 3, 4, 5, 6, 7, 8, 9, 10, 11, 12, 13, 14, 15, 16, 17], [0, 1, 2, 3, 4, 5, 6, 7, 8, 9, 10, 11, 12, 13, 14, 15, 16, 17, 18], [0, 1, 2, 3, 4, 5, 6, 7, 8, 9, 10, 11, 12, 13, 14, 15, 16, 17, 18, 19], [0, 1, 2, 3, 4, 5, 6, 7, 8, 9, 10, 11, 12, 13, 14, 15, 16, 17, 18, 19, 20], [0, 1, 2, 3, 4, 5, 6, 7, 8, 9, 10, 11, 12, 13, 14, 15, 16, 17, 18, 19, 20, 21], [0, 1, 2, 3, 4, 5, 6, 7, 8, 9, 10, 11, 12, 13, 14, 15, 16, 17, 18, 19, 20, 21, 22], [0, 1, 2, 3, 4, 5, 6, 7, 8, 9, 10, 11, 12, 13, 14, 15, 16, 17, 18, 19, 20, 21, 22, 23], [0, 1, 2, 3, 4, 5, 6, 7, 8, 9, 10, 11, 12, 13, 14, 15, 16, 17, 18, 19, 20, 21, 22], [0, 1, 2, 3, 4, 5, 6, 7, 8, 9, 10, 11, 12, 13, 14, 15, 16, 17, 18, 19, 20, 21, 22, 25], [0, 1, 2, 3, 4, 5, 6, 7, 8, 9, 10, 11, 12, 13, 14, 15, 16, 17, 18, 19, 20, 21, 22, 23, 24, 25, 26], [0, 1, 2, 3, 4, 5, 6, 7, 8, 9, 10, 11, 12, 13, 14, 15, 16, 17, 18, 19, 20, 21, 22, 23, 24, 25, 26, 27], [0, 1, 2, 3, 4, 5, 6, 7, 8, 9, 10, 11, 12, 13, 14, 15, 16, 17, 18, 19, 20, 21, 22, 23, 24, 25, 26, 27, 28]]
theorem ok42_11 : okReg (ro Tryd.f42 11) a42_11 d42_11 = true := by kernel_rfl
def a42_12 : List AO := [⟨(some 80), none, .mv (.t 7)⟩,
  ⟨(some 81), none, .mv (.t 10)⟩,
  ⟨(some 82), none, .build [(.int .i64 0), (.str [])] [(0, 1, (.v (.int .i64 2))), (1, 1, (.t 81))]⟩,
  ⟨(some 83), none, .slc 51 2 [(.t 82)]⟩,
  ⟨(some 84), none, .app 51 2 24 (.t 80) (.t 83)⟩,
  ⟨(some 7), none, .mv (.t 84)⟩]
theorem tr42_12 : (ro Tryd.f42 12).toList.mapM (trO Tryd.prog 86 (ro Tryd.f42 12)) = some a42_12 := by kernel_rfl
def a42_5 : List AO := [⟨(some 22), none, .mv (.t 9)⟩,
  ⟨(some 23), none, .bin .add (.t 22) (.v (.int .i64 1))⟩,
  ⟨(some 9), none, .mv (.t 23)⟩]
theorem tr42_5 : (ro Tryd.f42 5).toList.mapM (trO Tryd.prog 86 (ro Tryd.f42 5)) = some a42_5 := by kernel_rfl
def a42_13 : List AO := [⟨(some 85), none, .mv (.t 7)⟩,
  ⟨(some 6), none, .mv (.t 85)⟩]
theorem tr42_13 : (ro Tryd.f42 13).toList.mapM (trO Tryd.prog 86 (ro Tryd.f42 13)) = some a42_13 := by kernel_rfl
/-- airline/airlineref01.digits -/
noncomputable def c44 : Code := .seq (.region 0 (ro Tryd.f44 0) false) (.seq (.seq (.region 1 (ro Tryd.f44 1) false) (.cond (.tmp 4) (.seq (.region 2 (ro Tryd.f44 2) false) (.ret)) (.skip))) (.seq (.region 3 (ro Tryd.f44 3) true) (.ret)))
theorem body44 : Tryd.f44.body = some c44 := by kernel_rfl
theorem res44 : Tryd.f44.results.toList.mapM (trR Tryd.prog) = some [.t 2] := by kernel_rfl
theorem nt44 : Tryd.f44.ntmps = 19 := by kernel_rfl
theorem nm44 : (Tryd.f44.name == "runtime.NumGoroutine") = false := by kernel_rfl
def a44_0 : List AO := [⟨(some 2), none, .mv (.v (.str []))⟩]
theorem tr44_0 : (ro Tryd.f44 0).toList.mapM (trO Tryd.prog 19 (ro Tryd.f44 0)) = some a44_0 := by kernel_rfl
def a44_1 : List AO := [⟨(some 3), none, .mv (.t 0)⟩,
  ⟨(some 4), none, .bin .lss (.t 3) (.v (.int .u64 10))⟩]
theorem tr44_1 : (ro Tryd.f44 1).toList.mapM (trO Tryd.prog 19 (ro Tryd.f44 1)) = some a44_1 := by kernel_rfl
def a44_2 : List AO := [⟨(some 5), none, .mv (.t 0)⟩,
  ⟨(some 6), none, .mv (.t 0)⟩,
  ⟨(some 7), none, .bin .add (.t 6) (.v (.int .u64 1))⟩,
  ⟨(some 8), none, .ssub (some (.t 5)) (some (.t 7)) (.v (.str [48, 49, 50, 51, 52, 53, 54, 55, 56, 57]))⟩,
  ⟨(some 2), none, .mv (.t 8)⟩]
theorem tr44_2 : (ro Tryd.f44 2).toList.mapM (trO Tryd.prog 19 (ro Tryd.f44 2)) = some a44_2 := by kernel_rfl
def a44_3 : List AO := [⟨(some 9), none, .mv (.t 0)⟩,
  ⟨(some 10), none, .bin .quo (.t 9) (.v (.int .u64 10))⟩,
  ⟨(some 11), none, .call 44 [(.t 10)]⟩,
  ⟨(some 12), none, .mv (.t 0)⟩,
  ⟨(some 13), none, .bin .rem (.t 12) (.v (.int .u64 10))⟩,
  ⟨(some 14), none, .mv (.t 0)⟩,
  ⟨(some 15), none, .bin .rem (.t 14) (.v (.int .u64 10))⟩,
  ⟨(some 16), none, .bin .add (.t 15) (.v (.int .u64 1))⟩,
  ⟨(some 17), none, .ssub (some (.t 13)) (some (.t 16)) (.v (.str [48, 49, 50, 51, 52, 53, 54, 55, 56, 57]))⟩,
  ⟨(some 18), none, .bin .add (.t 11) (.t 17)⟩,
  ⟨(some 2), none, .mv (.t 18)⟩]
theorem tr44_3 : (ro Tryd.f44 3).toList.mapM (trO Tryd.prog 19 (ro Tryd.f44 3)) = some a44_3 := by kernel_rfl
def d44_3 : List (List Nat) := [[], [0], [0, 1], [], [3], [], [5], [5, 6], [3, 4, 5, 6, 7], [0, 1, 2, 3, 4, 5, 6, 7, 8], [0, 1, 2, 3, 4, 5, 6, 7, 8, 9]]
theorem ok44_3 : okReg (ro Tryd.f44 3) a44_3 d44_3 = true := by kernel_rfl
/-- airline/airlineref01.Class -/
noncomputable def c45 : Code := .seq (.region 0 (ro Tryd.f45 0) false) (.seq (.region 1 (ro Tryd.f45 1) false) (.ret))
theorem body45 : Tryd.f45.body = some c45 := by kernel_rfl
theorem res45 : Tryd.f45.results.toList.mapM (trR Tryd.prog) = some [.t 2] := by kernel_rfl
theorem nt45 : Tryd.f45.ntmps = 5 := by kernel_rfl
theorem nm45 : (Tryd.f45.name == "runtime.NumGoroutine") = false := by kernel_rfl
def a45_0 : List AO := [⟨(some 2), none, .mv (.v (.bool false))⟩]
theorem tr45_0 : (ro Tryd.f45 0).toList.mapM (trO Tryd.prog 5 (ro Tryd.f45 0)) = some a45_0 := by kernel_rfl
def a45_1 : List AO := [⟨(some 3), none, .mv (.t 0)⟩,
  ⟨(some 4), none, .call 48 [(.t 3), (.v (.int .i64 1))]⟩,
  ⟨(some 2), none, .mv (.t 4)⟩]
theorem tr45_1 : (ro Tryd.f45 1).toList.mapM (trO Tryd.prog 5 (ro Tryd.f45 1)) = some a45_1 := by kernel_rfl
/-- airline/airlineref12.occurs -/
noncomputable def c46 : Code := .seq (.region 0 (ro Tryd.f46 0) false) (.seq (.seq (.region 1 (ro Tryd.f46 1) false) (.block 0 (.loop (.seq (.seq (.region 2 (ro Tryd.f46 2) false) (.cond (.tmp 11) (.skip) (.exit 0))) (.seq (.block 1 (.seq (.region 4 (ro Tryd.f46 4) false) (.block 2 (.loop (.seq (.seq (.region 5 (ro Tryd.f46 5) false) (.cond (.tmp 22) (.skip) (.exit 2))) (.seq (.block 3 (.seq (.seq (.region 7 (ro Tryd.f46 7) false) (.cond (.tmp 32) (.seq (.region 8 (ro Tryd.f46 8) false) (.ret)) (.skip))) (.seq (.region 9 (ro Tryd.f46 9) true) (.cond (.tmp 53) (.seq (.region 10 (ro Tryd.f46 10) false) (.ret)) (.skip))))) (.region 6 (ro Tryd.f46 6) false))))))) (.region 3 (ro Tryd.f46 3) false)))))) (.seq (.region 11 (ro Tryd.f46 11) false) (.ret)))
theorem body46 : Tryd.f46.body = some c46 := by kernel_rfl
theorem res46 : Tryd.f46.results.toList.mapM (trR Tryd.prog) = some [.t 6] := by kernel_rfl
theorem nt46 : Tryd.f46.ntmps = 54 := by kernel_rfl
theorem nm46 : (Tryd.f46.name == "runtime.NumGoroutine") = false := by kernel_rfl
def a46_0 : List AO := [⟨(some 3), none, .box 30 (.t 0)⟩,
  ⟨(some 6), none, .mv (.v (.bool false))⟩]
theorem tr46_0 : (ro Tryd.f46 0).toList.mapM (trO Tryd.prog 54 (ro Tryd.f46 0)) = some a46_0 := by kernel_rfl
def a46_1 : List AO := [⟨(some 7), none, .mv (.v (.int .i64 0))⟩]
theorem tr46_1 : (ro Tryd.f46 1).toList.mapM (trO Tryd.prog 54 (ro Tryd.f46 1)) = some a46_1 := by kernel_rfl
def a46_2 : List AO := [⟨(some 9), none, .mv (.t 7)⟩,
  ⟨(some 10), none, .mv (.t 1)⟩,
  ⟨(some 11), none, .bin .leq (.t 9) (.t 10)⟩]
theorem tr46_2 : (ro Tryd.f46 2).toList.mapM (trO Tryd.prog 54 (ro Tryd.f46 2)) = some a46_2 := by kernel_rfl
def a46_4 : List AO := [⟨(some 8), none, .mv (.v (.int .i64 0))⟩]
theorem tr46_4 : (ro Tryd.f46 4).toList.mapM (trO Tryd.prog 54 (ro Tryd.f46 4)) = some a46_4 := by kernel_rfl
def a46_5 : List AO := [⟨(some 14), none, .mv (.t 8)⟩,
  ⟨(some 15), none, .fld 1 (.t 3)⟩,
  ⟨(some 16), none, .load none (.t 15)⟩,
  ⟨(some 17), none, .mv (.t 7)⟩,
  ⟨(some 18), none, .idx 4 (.t 16) (.t 17)⟩,
  ⟨(some 19), none, .fld 3 (.t 18)⟩,
  ⟨(some 20), none, .load none (.t 19)⟩,
  ⟨(some 21), none, .len (.t 20)⟩,
  ⟨(some 22), none, .bin .lss (.t 14) (.t 21)⟩]
theorem tr46_5 : (ro Tryd.f46 5).toList.mapM (trO Tryd.prog 54 (ro Tryd.f46 5)) = some a46_5 := by kernel_rfl
def a46_7 : List AO := [⟨(some 25), none, .mv (.t 7)⟩,
  ⟨(some 26), none, .mv (.t 1)⟩,
  ⟨(some 27), none, .bin .eql (.t 25) (.t 26)⟩,
  ⟨(some 28), none, .mv (.t 27)⟩,
  ⟨(some 29), some (28, true), .mv (.t 8)⟩,
  ⟨(some 30), some (28, true), .mv (.t 2)⟩,
  ⟨(some 31), some (28, true), .bin .eql (.t 29) (.t 30)⟩,
  ⟨(some 32), none, .pick (.t 28) (.t 31) (.v (.bool false))⟩]
theorem tr46_7 : (ro Tryd.f46 7).toList.mapM (trO Tryd.prog 54 (ro Tryd.f46 7)) = some a46_7 := by kernel_rfl
def a46_8 : List AO := [⟨(some 6), none, .mv (.v (.bool false))⟩]
theorem tr46_8 : (ro Tryd.f46 8).toList.mapM (trO Tryd.prog 54 (ro Tryd.f46 8)) = some a46_8 := by kernel_rfl
def a46_9 : List AO := [⟨(some 33), none, .fld 1 (.t 3)⟩,
  ⟨(some 34), none, .load none (.t 33)⟩,
  ⟨(some 35), none, .mv (.t 7)⟩,
  ⟨(some 36), none, .idx 4 (.t 34) (.t 35)⟩,
  ⟨(some 37), none, .fld 3 (.t 36)⟩,
  ⟨(some 38), none, .load none (.t 37)⟩,
  ⟨(some 39), none, .mv (.t 8)⟩,
  ⟨(some 40), none, .idx 2 (.t 38) (.t 39)⟩,
  ⟨(some 41), none, .fld 0 (.t 40)⟩,
  ⟨(some 42), none, .load none (.t 41)⟩,
  ⟨(some 43), none, .fld 1 (.t 3)⟩,
  ⟨(some 44), none, .load none (.t 43)⟩,
  ⟨(some 45), none, .mv (.t 1)⟩,
  ⟨(some 46), none, .idx 4 (.t 44) (.t 45)⟩,
  ⟨(some 47), none, .fld 3 (.t 46)⟩,
  ⟨(some 48), none, .load none (.t 47)⟩,
  ⟨(some 49), none, .mv (.t 2)⟩,
  ⟨(some 50), none, .idx 2 (.t 48) (.t 49)⟩,
  ⟨(some 51), none, .fld 0 (.t 50)⟩,
  ⟨(some 52), none, .load none (.t 51)⟩,
  ⟨(some 53), none, .bin .eql (.t 42) (.t 52)⟩]
theorem tr46_9 : (ro Tryd.f46 9).toList.mapM (trO Tryd.prog 54 (ro Tryd.f46 9)) = some a46_9 := by kernel_rfl
def d46_9 : List (List Nat) := [[], [0], [], [0, 1, 2], [0, 1, 2, 3], [0, 1, 2, 3, 4], [], [0, 1, 2, 3, 4, 5, 6], [0, 1, 2, 3, 4, 5, 6, 7], [0, 1, 2, 3, 4, 5, 6, 7, 8], [], [10], [], [10, 11, 12], [10, 11, 12, 13], [10, 11, 12, 13, 14], [], [10, 11, 12, 13, 14, 15, 16], [10, 11, 12, 13, 14, 15, 16, 17], [10, 11, 12, 13, 14, 15, 16, 17, 18], [0, 1, 2, 3, 4, 5, 6, 7, 8, 9, 10, 11, 12, 13, 14, 15, 16, 17, 18, 19]]
theorem ok46_9 : okReg (ro Tryd.f46 9) a46_9 d46_9 = true := by kernel_rfl
def a46_10 : List AO := [⟨(some 6), none, .mv (.v (.bool true))⟩]
theorem tr46_10 : (ro Tryd.f46 10).toList.mapM (trO Tryd.prog 54 (ro Tryd.f46 10)) = some a46_10 := by kernel_rfl
def a46_6 : List AO := [⟨(some 23), none, .mv (.t 8)⟩,
  ⟨(some 24), none, .bin .add (.t 23) (.v (.int .i64 1))⟩,
  ⟨(some 8), none, .mv (.t 24)⟩]
theorem tr46_6 : (ro Tryd.f46 6).toList.mapM (trO Tryd.prog 54 (ro Tryd.f46 6)) = some a46_6 := by kernel_rfl
def a46_3 : List AO := [⟨(some 12), none, .mv (.t 7)⟩,
  ⟨(some 13), none, .bin .add (.t 12) (.v (.int .i64 1))⟩,
  ⟨(some 7), none, .mv (.t 13)⟩]
theorem tr46_3 : (ro Tryd.f46 3).toList.mapM (trO Tryd.prog 54 (ro Tryd.f46 3)) = some a46_3 := by kernel_rfl
def a46_11 : List AO := [⟨(some 6), none, .mv (.v (.bool false))⟩]
theorem tr46_11 : (ro Tryd.f46 11).toList.mapM (trO Tryd.prog 54 (ro Tryd.f46 11)) = some a46_11 := by kernel_rfl
/-- airline/airlineref01.letters -/
noncomputable def c48 : Code := .seq (.region 0 (ro Tryd.f48 0) false) (.seq (.seq (.region 1 (ro Tryd.f48 1) false) (.block 0 (.loop (.seq (.seq (.region 2 (ro Tryd.f48 2) false) (.cond (.tmp 9) (.skip) (.exit 0))) (.seq (.block 1 (.seq (.region 4 (ro Tryd.f48 4) false) (.cond (.tmp 16) (.seq (.region 5 (ro Tryd.f48 5) false) (.ret)) (.skip)))) (.region 3 (ro Tryd.f48 3) false)))))) (.seq (.region 6 (ro Tryd.f48 6) false) (.ret)))
theorem body48 : Tryd.f48.body = some c48 := by kernel_rfl
theorem res48 : Tryd.f48.results.toList.mapM (trR Tryd.prog) = some [.t 4] := by kernel_rfl
theorem nt48 : Tryd.f48.ntmps = 21 := by kernel_rfl
theorem nm48 : (Tryd.f48.name == "runtime.NumGoroutine") = false := by kernel_rfl
def a48_0 : List AO := [⟨(some 4), none, .mv (.v (.bool false))⟩]
theorem tr48_0 : (ro Tryd.f48 0).toList.mapM (trO Tryd.prog 21 (ro Tryd.f48 0)) = some a48_0 := by kernel_rfl
def a48_1 : List AO := [⟨(some 5), none, .mv (.v (.int .i64 0))⟩]
theorem tr48_1 : (ro Tryd.f48 1).toList.mapM (trO Tryd.prog 21 (ro Tryd.f48 1)) = some a48_1 := by kernel_rfl
def a48_2 : List AO := [⟨(some 6), none, .mv (.t 5)⟩,
  ⟨(some 7), none, .mv (.t 0)⟩,
  ⟨(some 8), none, .slen (.t 7)⟩,
  ⟨(some 9), none, .bin .lss (.t 6) (.t 8)⟩]
theorem tr48_2 : (ro Tryd.f48 2).toList.mapM (trO Tryd.prog 21 (ro Tryd.f48 2)) = some a48_2 := by kernel_rfl
def a48_4 : List AO := [⟨(some 12), none, .mv (.t 0)⟩,
  ⟨(some 13), none, .mv (.t 5)⟩,
  ⟨(some 14), none, .sidx (.t 12) (.t 13)⟩,
  ⟨(some 15), none, .call 39 [(.t 14)]⟩,
  ⟨(some 16), none, .un .not (.t 15)⟩]
theorem tr48_4 : (ro Tryd.f48 4).toList.mapM (trO Tryd.prog 21 (ro Tryd.f48 4)) = some a48_4 := by kernel_rfl
def a48_5 : List AO := [⟨(some 4), none, .mv (.v (.bool false))⟩]
theorem tr48_5 : (ro Tryd.f48 5).toList.mapM (trO Tryd.prog 21 (ro Tryd.f48 5)) = some a48_5 := by kernel_rfl
def a48_3 : List AO := [⟨(some 10), none, .mv (.t 5)⟩,
  ⟨(some 11), none, .bin .add (.t 10) (.v (.int .i64 1))⟩,
  ⟨(some 5), none, .mv (.t 11)⟩]
theorem tr48_3 : (ro Tryd.f48 3).toList.mapM (trO Tryd.prog 21 (ro Tryd.f48 3)) = some a48_3 := by kernel_rfl
def a48_6 : List AO := [⟨(some 17), none, .mv (.t 0)⟩,
  ⟨(some 18), none, .slen (.t 17)⟩,
  ⟨(some 19), none, .mv (.t 1)⟩,
  ⟨(some 20), none, .bin .eql (.t 18) (.t 19)⟩,
  ⟨(some 4), none, .mv (.t 20)⟩]
theorem tr48_6 : (ro Tryd.f48 6).toList.mapM (trO Tryd.prog 21 (ro Tryd.f48 6)) = some a48_6 := by kernel_rfl
end Go.Proofs.YtopafipomaiabaaDoor
