/- The code of the functions, region by region, as abstract operations. -/
import Derived.Test.YtkdkjbneohdofaaDoorProg
import Derived.Test.YtkdkjbneohdofaaDoorAv21
namespace Go.Proofs.YtkdkjbneohdofaaDoor
open Go Go.RowKit
def findR : Code → Nat → Option (Array Oper)
  | .region i ops _, k => if i = k then some ops else none
  | .seq a b, k => (findR a k).or (findR b k)
  | .cond _ a b, k => (findR a k).or (findR b k)
  | .block _ c, k => findR c k
  | .loop c, k => findR c k
  | .scope c, k => findR c k
  | _, _ => none
def ro (f : Func) (k : Nat) : Array Oper := ((f.body.bind fun c => findR c k).getD #[])
noncomputable abbrev TR (f : Func) (n k : Nat) : Option (List AO) := (ro f k).toList.mapM (trO Tryd.prog n (ro f k))
theorem mixed : Tryd.prog.follows .mixedOrders = true := by kernel_rfl
/-- airline/airlinetop.TopRevenue -/
noncomputable def c3 : Code := .seq (.region 0 (ro Tryd.f3 0) false) (.seq (.seq (.region 1 (ro Tryd.f3 1) false) (.cond (.tmp 30) (.seq (.region 2 (ro Tryd.f3 2) false) (.ret)) (.skip))) (.seq (.region 3 (ro Tryd.f3 3) false) (.seq (.region 4 (ro Tryd.f3 4) false) (.seq (.seq (.region 5 (ro Tryd.f3 5) false) (.block 0 (.loop (.seq (.seq (.region 6 (ro Tryd.f3 6) false) (.cond (.tmp 35) (.skip) (.exit 0))) (.seq (.block 1 (.seq (.seq (.region 8 (ro Tryd.f3 8) true) (.cond (.tmp 58) (.seq (.region 9 (ro Tryd.f3 9) false) (.ret)) (.skip))) (.seq (.seq (.region 10 (ro Tryd.f3 10) false) (.block 2 (.loop (.seq (.seq (.region 11 (ro Tryd.f3 11) false) (.cond (.tmp 67) (.skip) (.exit 2))) (.seq (.block 3 (.seq (.region 13 (ro Tryd.f3 13) false) (.seq (.seq (.region 14 (ro Tryd.f3 14) false) (.cond (.tmp 85) (.seq (.region 15 (ro Tryd.f3 15) false) (.ret)) (.skip))) (.seq (.region 16 (ro Tryd.f3 16) false) (.cond (.tmp 100) (.region 17 (ro Tryd.f3 17) false) (.skip)))))) (.region 12 (ro Tryd.f3 12) false)))))) (.seq (.region 18 (ro Tryd.f3 18) true) (.seq (.seq (.region 19 (ro Tryd.f3 19) false) (.cond (.tmp 118) (.seq (.region 20 (ro Tryd.f3 20) false) (.ret)) (.skip))) (.seq (.region 21 (ro Tryd.f3 21) false) (.region 22 (ro Tryd.f3 22) false))))))) (.region 7 (ro Tryd.f3 7) false)))))) (.seq (.region 23 (ro Tryd.f3 23) false) (.seq (.region 24 (ro Tryd.f3 24) false) (.seq (.seq (.region 25 (ro Tryd.f3 25) false) (.cond (.tmp 146) (.seq (.region 26 (ro Tryd.f3 26) false) (.ret)) (.skip))) (.seq (.region 27 (ro Tryd.f3 27) false) (.seq (.seq (.region 28 (ro Tryd.f3 28) false) (.block 4 (.loop (.seq (.seq (.region 29 (ro Tryd.f3 29) false) (.cond (.tmp 150) (.skip) (.exit 4))) (.seq (.block 5 (.seq (.seq (.region 31 (ro Tryd.f3 31) false) (.cond (.tmp 167) (.seq (.region 32 (ro Tryd.f3 32) false) (.ret)) (.skip))) (.region 33 (ro Tryd.f3 33) false))) (.region 30 (ro Tryd.f3 30) false)))))) (.seq (.region 34 (ro Tryd.f3 34) false) (.ret)))))))))))
theorem body3 : Tryd.f3.body = some c3 := by kernel_rfl
theorem res3 : Tryd.f3.results.toList.mapM (trR Tryd.prog) = some [.t 6] := by kernel_rfl
theorem nt3 : Tryd.f3.ntmps = 181 := by kernel_rfl
theorem nm3 : (Tryd.f3.name == "runtime.NumGoroutine") = false := by kernel_rfl
def a3_0 : List AO := [⟨(some 6), none, .mv (.v (.bool false))⟩]
theorem tr3_0 : TR Tryd.f3 181 0 = some a3_0 := by kernel_rfl
def a3_1 : List AO := [⟨(some 21), none, .mv (.t 0)⟩,
  ⟨(some 22), none, .len (.t 21)⟩,
  ⟨(some 23), none, .bin .gtr (.t 22) (.v (.int .i64 8))⟩,
  ⟨(some 24), none, .mv (.t 23)⟩,
  ⟨(some 25), some (24, false), .mv (.t 1)⟩,
  ⟨(some 26), some (24, false), .len (.t 25)⟩,
  ⟨(some 27), some (24, false), .mv (.t 0)⟩,
  ⟨(some 28), some (24, false), .len (.t 27)⟩,
  ⟨(some 29), some (24, false), .bin .lss (.t 26) (.t 28)⟩,
  ⟨(some 30), none, .pick (.t 24) (.v (.bool true)) (.t 29)⟩]
theorem tr3_1 : TR Tryd.f3 181 1 = some a3_1 := by kernel_rfl
def a3_2 : List AO := [⟨(some 31), none, .call 4 []⟩,
  ⟨(some 6), none, .mv (.t 31)⟩]
theorem tr3_2 : TR Tryd.f3 181 2 = some a3_2 := by kernel_rfl
def a3_3 : List AO := [⟨(some 7), none, .mv (.v .nils)⟩]
theorem tr3_3 : TR Tryd.f3 181 3 = some a3_3 := by kernel_rfl
def a3_4 : List AO := [⟨(some 8), none, .mv (.v (.int .i64 0))⟩]
theorem tr3_4 : TR Tryd.f3 181 4 = some a3_4 := by kernel_rfl
def a3_5 : List AO := [⟨(some 9), none, .mv (.v (.int .i64 0))⟩]
theorem tr3_5 : TR Tryd.f3 181 5 = some a3_5 := by kernel_rfl
def a3_6 : List AO := [⟨(some 32), none, .mv (.t 9)⟩,
  ⟨(some 33), none, .mv (.t 0)⟩,
  ⟨(some 34), none, .len (.t 33)⟩,
  ⟨(some 35), none, .bin .lss (.t 32) (.t 34)⟩]
theorem tr3_6 : TR Tryd.f3 181 6 = some a3_6 := by kernel_rfl
def a3_8 : List AO := [⟨(some 38), none, .mv (.t 0)⟩,
  ⟨(some 39), none, .mv (.t 9)⟩,
  ⟨(some 40), none, .idx 10 (.t 38) (.t 39)⟩,
  ⟨(some 41), none, .fld 5 (.t 40)⟩,
  ⟨(some 42), none, .load none (.t 41)⟩,
  ⟨(some 43), none, .len (.t 42)⟩,
  ⟨(some 44), none, .bin .gtr (.t 43) (.v (.int .i64 8))⟩,
  ⟨(some 45), none, .mv (.t 44)⟩,
  ⟨(some 46), some (45, false), .mv (.t 1)⟩,
  ⟨(some 47), some (45, false), .mv (.t 9)⟩,
  ⟨(some 48), some (45, false), .idx 1 (.t 46) (.t 47)⟩,
  ⟨(some 49), some (45, false), .load none (.t 48)⟩,
  ⟨(some 50), some (45, false), .len (.t 49)⟩,
  ⟨(some 51), some (45, false), .mv (.t 0)⟩,
  ⟨(some 52), some (45, false), .mv (.t 9)⟩,
  ⟨(some 53), some (45, false), .idx 10 (.t 51) (.t 52)⟩,
  ⟨(some 54), some (45, false), .fld 5 (.t 53)⟩,
  ⟨(some 55), some (45, false), .load none (.t 54)⟩,
  ⟨(some 56), some (45, false), .len (.t 55)⟩,
  ⟨(some 57), some (45, false), .bin .neq (.t 50) (.t 56)⟩,
  ⟨(some 58), none, .pick (.t 45) (.v (.bool true)) (.t 57)⟩]
theorem tr3_8 : TR Tryd.f3 181 8 = some a3_8 := by kernel_rfl
def d3_8 : List (List Nat) := [[], [], [0, 1], [0, 1, 2], [0, 1, 2, 3], [0, 1, 2, 3, 4], [0, 1, 2, 3, 4, 5], [0, 1, 2, 3, 4, 5, 6], [0, 1, 2, 3, 4, 5, 6, 7], [0, 1, 2, 3, 4, 5, 6, 7], [0, 1, 2, 3, 4, 5, 6, 7, 8, 9], [0, 1, 2, 3, 4, 5, 6, 7, 8, 9, 10], [0, 1, 2, 3, 4, 5, 6, 7, 8, 9, 10, 11], [0, 1, 2, 3, 4, 5, 6, 7], [0, 1, 2, 3, 4, 5, 6, 7], [0, 1, 2, 3, 4, 5, 6, 7, 13, 14], [0, 1, 2, 3, 4, 5, 6, 7, 13, 14, 15], [0, 1, 2, 3, 4, 5, 6, 7, 13, 14, 15, 16], [0, 1, 2, 3, 4, 5, 6, 7, 13, 14, 15, 16, 17], [0, 1, 2, 3, 4, 5, 6, 7, 8, 9, 10, 11, 12, 13, 14, 15, 16, 17, 18], [0, 1, 2, 3, 4, 5, 6, 7, 8, 9, 10, 11, 12, 13, 14, 15, 16, 17, 18, 19]]
theorem ok3_8 : okReg (ro Tryd.f3 8) a3_8 d3_8 = true := by kernel_rfl
def a3_9 : List AO := [⟨(some 59), none, .call 4 []⟩,
  ⟨(some 6), none, .mv (.t 59)⟩]
theorem tr3_9 : TR Tryd.f3 181 9 = some a3_9 := by kernel_rfl
def a3_10 : List AO := [⟨(some 10), none, .mv (.v (.int .i64 0))⟩]
theorem tr3_10 : TR Tryd.f3 181 10 = some a3_10 := by kernel_rfl
def a3_11 : List AO := [⟨(some 60), none, .mv (.t 10)⟩,
  ⟨(some 61), none, .mv (.t 0)⟩,
  ⟨(some 62), none, .mv (.t 9)⟩,
  ⟨(some 63), none, .idx 10 (.t 61) (.t 62)⟩,
  ⟨(some 64), none, .fld 5 (.t 63)⟩,
  ⟨(some 65), none, .load none (.t 64)⟩,
  ⟨(some 66), none, .len (.t 65)⟩,
  ⟨(some 67), none, .bin .lss (.t 60) (.t 66)⟩]
theorem tr3_11 : TR Tryd.f3 181 11 = some a3_11 := by kernel_rfl
def a3_13 : List AO := [⟨(some 70), none, .mv (.t 0)⟩,
  ⟨(some 71), none, .mv (.t 9)⟩,
  ⟨(some 72), none, .idx 10 (.t 70) (.t 71)⟩,
  ⟨(some 73), none, .fld 5 (.t 72)⟩,
  ⟨(some 74), none, .load none (.t 73)⟩,
  ⟨(some 75), none, .mv (.t 10)⟩,
  ⟨(some 76), none, .idx 11 (.t 74) (.t 75)⟩,
  ⟨(some 77), none, .load (some 11) (.t 76)⟩,
  ⟨(some 11), none, .alloc 38 [(.str []), (.int .i64 0), (.int .i64 0), (.str []), (.str []), (.int .i64 0), (.int .i64 0), (.str []), (.str []), (.int .i64 0), (.int .i64 0)]⟩,
  ⟨none, none, .store 11 (.t 11) (.t 77)⟩]
theorem tr3_13 : TR Tryd.f3 181 13 = some a3_13 := by kernel_rfl
def a3_14 : List AO := [⟨(some 78), none, .fld 10 (.t 11)⟩,
  ⟨(some 79), none, .load none (.t 78)⟩,
  ⟨(some 80), none, .bin .lss (.t 79) (.v (.int .i64 0))⟩,
  ⟨(some 81), none, .mv (.t 80)⟩,
  ⟨(some 82), some (81, false), .fld 10 (.t 11)⟩,
  ⟨(some 83), some (81, false), .load none (.t 82)⟩,
  ⟨(some 84), some (81, false), .bin .gtr (.t 83) (.v (.int .i64 1073741824))⟩,
  ⟨(some 85), none, .pick (.t 81) (.v (.bool true)) (.t 84)⟩]
theorem tr3_14 : TR Tryd.f3 181 14 = some a3_14 := by kernel_rfl
def a3_15 : List AO := [⟨(some 86), none, .call 4 []⟩,
  ⟨(some 6), none, .mv (.t 86)⟩]
theorem tr3_15 : TR Tryd.f3 181 15 = some a3_15 := by kernel_rfl
def a3_16 : List AO := [⟨(some 87), none, .fld 9 (.t 11)⟩,
  ⟨(some 88), none, .load none (.t 87)⟩,
  ⟨(some 89), none, .bin .eql (.t 88) (.v (.int .i64 5))⟩,
  ⟨(some 90), none, .mv (.t 89)⟩,
  ⟨(some 91), some (90, true), .mv (.t 1)⟩,
  ⟨(some 92), some (90, true), .mv (.t 9)⟩,
  ⟨(some 93), some (90, true), .idx 1 (.t 91) (.t 92)⟩,
  ⟨(some 94), some (90, true), .load none (.t 93)⟩,
  ⟨(some 95), some (90, true), .mv (.t 10)⟩,
  ⟨(some 96), some (90, true), .idx 1 (.t 94) (.t 95)⟩,
  ⟨(some 97), some (90, true), .load none (.t 96)⟩,
  ⟨(some 98), some (90, true), .mv (.t 2)⟩,
  ⟨(some 99), some (90, true), .bin .neq (.t 97) (.t 98)⟩,
  ⟨(some 100), none, .pick (.t 90) (.t 99) (.v (.bool false))⟩]
theorem tr3_16 : TR Tryd.f3 181 16 = some a3_16 := by kernel_rfl
def a3_17 : List AO := [⟨(some 101), none, .mv (.t 8)⟩,
  ⟨(some 102), none, .fld 10 (.t 11)⟩,
  ⟨(some 103), none, .load none (.t 102)⟩,
  ⟨(some 104), none, .bin .add (.t 101) (.t 103)⟩,
  ⟨(some 8), none, .mv (.t 104)⟩]
theorem tr3_17 : TR Tryd.f3 181 17 = some a3_17 := by kernel_rfl
def a3_12 : List AO := [⟨(some 68), none, .mv (.t 10)⟩,
  ⟨(some 69), none, .bin .add (.t 68) (.v (.int .i64 1))⟩,
  ⟨(some 10), none, .mv (.t 69)⟩]
theorem tr3_12 : TR Tryd.f3 181 12 = some a3_12 := by kernel_rfl
def a3_18 : List AO := [⟨(some 106), none, .mv (.t 0)⟩,
  ⟨(some 107), none, .mv (.t 9)⟩,
  ⟨(some 108), none, .idx 10 (.t 106) (.t 107)⟩,
  ⟨(some 109), none, .load (some 10) (.t 108)⟩,
  ⟨(some 110), none, .mv (.t 1)⟩,
  ⟨(some 111), none, .mv (.t 9)⟩,
  ⟨(some 112), none, .idx 1 (.t 110) (.t 111)⟩,
  ⟨(some 113), none, .load none (.t 112)⟩,
  ⟨(some 114), none, .call 5 [(.t 109), (.t 113)]⟩,
  ⟨(some 105), none, .mv (.t 114)⟩,
  ⟨(some 115), none, .ext 0 (.t 105)⟩,
  ⟨(some 116), none, .ext 1 (.t 105)⟩,
  ⟨(some 12), none, .mv (.t 115)⟩,
  ⟨(some 13), none, .mv (.t 116)⟩]
theorem tr3_18 : TR Tryd.f3 181 18 = some a3_18 := by kernel_rfl
def d3_18 : List (List Nat) := [[], [], [0, 1], [0, 1, 2], [], [], [4, 5], [4, 5, 6], [0, 1, 2, 3, 4, 5, 6, 7], [0, 1, 2, 3, 4, 5, 6, 7, 8], [0, 1, 2, 3, 4, 5, 6, 7, 8, 9], [0, 1, 2, 3, 4, 5, 6, 7, 8, 9], [0, 1, 2, 3, 4, 5, 6, 7, 8, 9, 10], [0, 1, 2, 3, 4, 5, 6, 7, 8, 9, 10, 11, 12]]
theorem ok3_18 : okReg (ro Tryd.f3 18) a3_18 d3_18 = true := by kernel_rfl
def a3_19 : List AO := [⟨(some 117), none, .mv (.t 13)⟩,
  ⟨(some 118), none, .bin .neq (.t 117) (.v (.int .i64 0))⟩]
theorem tr3_19 : TR Tryd.f3 181 19 = some a3_19 := by kernel_rfl
def a3_20 : List AO := [⟨(some 6), none, .mv (.v (.bool false))⟩]
theorem tr3_20 : TR Tryd.f3 181 20 = some a3_20 := by kernel_rfl
def a3_21 : List AO := [⟨(some 119), none, .mv (.t 2)⟩,
  ⟨(some 120), none, .mv (.t 12)⟩,
  ⟨(some 121), none, .call 6 [(.t 119), (.t 120)]⟩,
  ⟨(some 14), none, .mv (.t 121)⟩]
theorem tr3_21 : TR Tryd.f3 181 21 = some a3_21 := by kernel_rfl
def a3_22 : List AO := [⟨(some 122), none, .mv (.t 7)⟩,
  ⟨(some 123), none, .mv (.t 14)⟩,
  ⟨(some 124), none, .app 49 3 40 (.t 122) (.t 123)⟩,
  ⟨(some 7), none, .mv (.t 124)⟩]
theorem tr3_22 : TR Tryd.f3 181 22 = some a3_22 := by kernel_rfl
def a3_7 : List AO := [⟨(some 36), none, .mv (.t 9)⟩,
  ⟨(some 37), none, .bin .add (.t 36) (.v (.int .i64 1))⟩,
  ⟨(some 9), none, .mv (.t 37)⟩]
theorem tr3_7 : TR Tryd.f3 181 7 = some a3_7 := by kernel_rfl
def a3_23 : List AO := [⟨(some 126), none, .mv (.t 7)⟩,
  ⟨(some 127), none, .call 7 [(.t 126)]⟩,
  ⟨(some 125), none, .mv (.t 127)⟩,
  ⟨(some 128), none, .ext 0 (.t 125)⟩,
  ⟨(some 129), none, .ext 1 (.t 125)⟩,
  ⟨(some 15), none, .mv (.t 128)⟩,
  ⟨(some 16), none, .mv (.t 129)⟩]
theorem tr3_23 : TR Tryd.f3 181 23 = some a3_23 := by kernel_rfl
def a3_24 : List AO := [⟨(some 131), none, .mv (.t 15)⟩,
  ⟨(some 132), none, .call 8 [(.t 131)]⟩,
  ⟨(some 130), none, .mv (.t 132)⟩,
  ⟨(some 133), none, .ext 0 (.t 130)⟩,
  ⟨(some 134), none, .ext 1 (.t 130)⟩,
  ⟨(some 17), none, .mv (.t 133)⟩,
  ⟨(some 18), none, .mv (.t 134)⟩]
theorem tr3_24 : TR Tryd.f3 181 24 = some a3_24 := by kernel_rfl
def a3_25 : List AO := [⟨(some 135), none, .mv (.t 16)⟩,
  ⟨(some 136), none, .bin .neq (.t 135) (.v (.int .i64 0))⟩,
  ⟨(some 137), none, .mv (.t 136)⟩,
  ⟨(some 138), some (137, false), .mv (.t 18)⟩,
  ⟨(some 139), some (137, false), .bin .neq (.t 138) (.v (.int .i64 0))⟩,
  ⟨(some 140), none, .pick (.t 137) (.v (.bool true)) (.t 139)⟩,
  ⟨(some 141), none, .mv (.t 140)⟩,
  ⟨(some 142), some (141, false), .mv (.t 7)⟩,
  ⟨(some 143), some (141, false), .mv (.t 17)⟩,
  ⟨(some 144), some (141, false), .call 9 [(.t 142), (.t 143)]⟩,
  ⟨(some 145), some (141, false), .un .not (.t 144)⟩,
  ⟨(some 146), none, .pick (.t 141) (.v (.bool true)) (.t 145)⟩]
theorem tr3_25 : TR Tryd.f3 181 25 = some a3_25 := by kernel_rfl
def a3_26 : List AO := [⟨(some 6), none, .mv (.v (.bool false))⟩]
theorem tr3_26 : TR Tryd.f3 181 26 = some a3_26 := by kernel_rfl
def a3_27 : List AO := [⟨(some 19), none, .mv (.v (.int .i64 0))⟩]
theorem tr3_27 : TR Tryd.f3 181 27 = some a3_27 := by kernel_rfl
def a3_28 : List AO := [⟨(some 20), none, .mv (.v (.int .i64 0))⟩]
theorem tr3_28 : TR Tryd.f3 181 28 = some a3_28 := by kernel_rfl
def a3_29 : List AO := [⟨(some 147), none, .mv (.t 20)⟩,
  ⟨(some 148), none, .mv (.t 17)⟩,
  ⟨(some 149), none, .len (.t 148)⟩,
  ⟨(some 150), none, .bin .lss (.t 147) (.t 149)⟩]
theorem tr3_29 : TR Tryd.f3 181 29 = some a3_29 := by kernel_rfl
def a3_31 : List AO := [⟨(some 153), none, .mv (.t 17)⟩,
  ⟨(some 154), none, .mv (.t 20)⟩,
  ⟨(some 155), none, .idx 3 (.t 153) (.t 154)⟩,
  ⟨(some 156), none, .fld 0 (.t 155)⟩,
  ⟨(some 157), none, .load none (.t 156)⟩,
  ⟨(some 158), none, .mv (.t 2)⟩,
  ⟨(some 159), none, .bin .neq (.t 157) (.t 158)⟩,
  ⟨(some 160), none, .mv (.t 159)⟩,
  ⟨(some 161), some (160, false), .mv (.t 17)⟩,
  ⟨(some 162), some (160, false), .mv (.t 20)⟩,
  ⟨(some 163), some (160, false), .idx 3 (.t 161) (.t 162)⟩,
  ⟨(some 164), some (160, false), .fld 2 (.t 163)⟩,
  ⟨(some 165), some (160, false), .load none (.t 164)⟩,
  ⟨(some 166), some (160, false), .bin .leq (.t 165) (.v (.int .i64 0))⟩,
  ⟨(some 167), none, .pick (.t 160) (.v (.bool true)) (.t 166)⟩]
theorem tr3_31 : TR Tryd.f3 181 31 = some a3_31 := by kernel_rfl
def a3_32 : List AO := [⟨(some 6), none, .mv (.v (.bool false))⟩]
theorem tr3_32 : TR Tryd.f3 181 32 = some a3_32 := by kernel_rfl
def a3_33 : List AO := [⟨(some 168), none, .mv (.t 19)⟩,
  ⟨(some 169), none, .mv (.t 17)⟩,
  ⟨(some 170), none, .mv (.t 20)⟩,
  ⟨(some 171), none, .idx 3 (.t 169) (.t 170)⟩,
  ⟨(some 172), none, .fld 2 (.t 171)⟩,
  ⟨(some 173), none, .load none (.t 172)⟩,
  ⟨(some 174), none, .bin .add (.t 168) (.t 173)⟩,
  ⟨(some 19), none, .mv (.t 174)⟩]
theorem tr3_33 : TR Tryd.f3 181 33 = some a3_33 := by kernel_rfl
def a3_30 : List AO := [⟨(some 151), none, .mv (.t 20)⟩,
  ⟨(some 152), none, .bin .add (.t 151) (.v (.int .i64 1))⟩,
  ⟨(some 20), none, .mv (.t 152)⟩]
theorem tr3_30 : TR Tryd.f3 181 30 = some a3_30 := by kernel_rfl
def a3_34 : List AO := [⟨(some 175), none, .mv (.t 19)⟩,
  ⟨(some 176), none, .mv (.t 8)⟩,
  ⟨(some 177), none, .bin .eql (.t 175) (.t 176)⟩,
  ⟨(some 178), none, .mv (.t 177)⟩,
  ⟨(some 179), some (178, true), .call 4 []⟩,
  ⟨(some 180), none, .pick (.t 178) (.t 179) (.v (.bool false))⟩,
  ⟨(some 6), none, .mv (.t 180)⟩]
theorem tr3_34 : TR Tryd.f3 181 34 = some a3_34 := by kernel_rfl
/-- airline/airlinetop.awake -/
noncomputable def c4 : Code := .seq (.region 0 (ro Tryd.f4 0) false) (.seq (.region 1 (ro Tryd.f4 1) false) (.ret))
theorem body4 : Tryd.f4.body = some c4 := by kernel_rfl
theorem res4 : Tryd.f4.results.toList.mapM (trR Tryd.prog) = some [.t 0] := by kernel_rfl
theorem nt4 : Tryd.f4.ntmps = 13 := by kernel_rfl
theorem nm4 : (Tryd.f4.name == "runtime.NumGoroutine") = false := by kernel_rfl
def a4_0 : List AO := [⟨(some 0), none, .mv (.v (.bool false))⟩]
theorem tr4_0 : TR Tryd.f4 13 0 = some a4_0 := by kernel_rfl
def a4_1 : List AO := [⟨(some 1), none, .call 10 [(.v (.int .i64 9497))]⟩,
  ⟨(some 2), none, .bin .eql (.t 1) (.v (.str [50, 48, 50, 54, 45, 48, 49, 45, 48, 49]))⟩,
  ⟨(some 3), none, .mv (.t 2)⟩,
  ⟨(some 4), some (3, true), .build [(.int .i64 0), (.int .i64 0), (.int .i64 0)] [(0, 1, (.v (.int .i64 9497))), (1, 1, (.v (.int .i64 9503))), (2, 1, (.v (.int .i64 96)))]⟩,
  ⟨(some 5), some (3, true), .call 11 [(.t 4)]⟩,
  ⟨(some 6), some (3, true), .bin .eql (.t 5) (.v (.int .i64 2))⟩,
  ⟨(some 7), none, .pick (.t 3) (.t 6) (.v (.bool false))⟩,
  ⟨(some 8), none, .mv (.t 7)⟩,
  ⟨(some 9), some (8, true), .build [(.int .i64 0), .nils] [(0, 1, (.v (.int .i64 60)))]⟩,
  ⟨(some 10), some (8, true), .call 12 [(.t 9), (.v (.int .i64 5))]⟩,
  ⟨(some 11), some (8, true), .bin .eql (.t 10) (.v (.int .i64 65))⟩,
  ⟨(some 12), none, .pick (.t 8) (.t 11) (.v (.bool false))⟩,
  ⟨(some 0), none, .mv (.t 12)⟩]
theorem tr4_1 : TR Tryd.f4 13 1 = some a4_1 := by kernel_rfl
/-- airline/prorate.Shares -/
noncomputable def c5 : Code := .seq (.region 0 (ro Tryd.f5 0) false) (.seq (.seq (.region 1 (ro Tryd.f5 1) false) (.cond (.tmp 20) (.seq (.region 2 (ro Tryd.f5 2) false) (.ret)) (.skip))) (.seq (.region 3 (ro Tryd.f5 3) false) (.seq (.seq (.region 4 (ro Tryd.f5 4) false) (.block 0 (.loop (.seq (.region 5 (ro Tryd.f5 5) false) (.seq (.cond (.tmp 26) (.skip) (.exit 0)) (.seq (.block 1 (.seq (.region 6 (ro Tryd.f5 6) false) (.seq (.region 7 (ro Tryd.f5 7) false) (.cond (.tmp 32) (.region 8 (ro Tryd.f5 8) true) (.skip))))) (.region 9 (ro Tryd.f5 9) false))))))) (.seq (.region 10 (ro Tryd.f5 10) false) (.seq (.region 11 (ro Tryd.f5 11) false) (.seq (.seq (.region 12 (ro Tryd.f5 12) false) (.block 2 (.loop (.seq (.region 13 (ro Tryd.f5 13) false) (.seq (.cond (.tmp 58) (.skip) (.exit 2)) (.seq (.block 3 (.seq (.region 14 (ro Tryd.f5 14) false) (.region 15 (ro Tryd.f5 15) false))) (.region 16 (ro Tryd.f5 16) false))))))) (.seq (.region 17 (ro Tryd.f5 17) false) (.ret))))))))
theorem body5 : Tryd.f5.body = some c5 := by kernel_rfl
theorem res5 : Tryd.f5.results.toList.mapM (trR Tryd.prog) = some [.t 4, .t 5] := by kernel_rfl
theorem nt5 : Tryd.f5.ntmps = 74 := by kernel_rfl
theorem nm5 : (Tryd.f5.name == "runtime.NumGoroutine") = false := by kernel_rfl
def a5_0 : List AO := [⟨(some 2), none, .box 31 (.t 0)⟩,
  ⟨(some 4), none, .mv (.v .nils)⟩,
  ⟨(some 5), none, .mv (.v (.int .i64 0))⟩]
theorem tr5_0 : TR Tryd.f5 74 0 = some a5_0 := by kernel_rfl
def a5_1 : List AO := [⟨(some 15), none, .mv (.t 1)⟩,
  ⟨(some 16), none, .len (.t 15)⟩,
  ⟨(some 17), none, .fld 5 (.t 2)⟩,
  ⟨(some 18), none, .load none (.t 17)⟩,
  ⟨(some 19), none, .len (.t 18)⟩,
  ⟨(some 20), none, .bin .neq (.t 16) (.t 19)⟩]
theorem tr5_1 : TR Tryd.f5 74 1 = some a5_1 := by kernel_rfl
def a5_2 : List AO := [⟨(some 4), none, .mv (.v .nils)⟩,
  ⟨(some 5), none, .mv (.v (.int .i64 2))⟩]
theorem tr5_2 : TR Tryd.f5 74 2 = some a5_2 := by kernel_rfl
def a5_3 : List AO := [⟨(some 21), none, .mkmap⟩,
  ⟨(some 6), none, .mv (.t 21)⟩]
theorem tr5_3 : TR Tryd.f5 74 3 = some a5_3 := by kernel_rfl
def a5_4 : List AO := [⟨(some 22), none, .fld 5 (.t 2)⟩,
  ⟨(some 23), none, .load none (.t 22)⟩,
  ⟨(some 24), none, .len (.t 23)⟩,
  ⟨(some 25), none, .mv (.v (.int .i64 0))⟩]
theorem tr5_4 : TR Tryd.f5 74 4 = some a5_4 := by kernel_rfl
def a5_5 : List AO := [⟨(some 26), none, .bin .lss (.t 25) (.t 24)⟩]
theorem tr5_5 : TR Tryd.f5 74 5 = some a5_5 := by kernel_rfl
def a5_6 : List AO := [⟨(some 27), none, .mv (.t 25)⟩,
  ⟨(some 28), none, .idx 11 (.t 23) (.t 25)⟩,
  ⟨(some 29), none, .load (some 11) (.t 28)⟩,
  ⟨(some 8), none, .alloc 38 [(.str []), (.int .i64 0), (.int .i64 0), (.str []), (.str []), (.int .i64 0), (.int .i64 0), (.str []), (.str []), (.int .i64 0), (.int .i64 0)]⟩,
  ⟨(some 7), none, .mv (.t 27)⟩,
  ⟨none, none, .store 11 (.t 8) (.t 29)⟩]
theorem tr5_6 : TR Tryd.f5 74 6 = some a5_6 := by kernel_rfl
def a5_7 : List AO := [⟨(some 30), none, .fld 9 (.t 8)⟩,
  ⟨(some 31), none, .load none (.t 30)⟩,
  ⟨(some 32), none, .bin .eql (.t 31) (.v (.int .i64 5))⟩]
theorem tr5_7 : TR Tryd.f5 74 7 = some a5_7 := by kernel_rfl
def a5_8 : List AO := [⟨(some 33), none, .mv (.t 6)⟩,
  ⟨(some 34), none, .mv (.t 1)⟩,
  ⟨(some 35), none, .mv (.t 7)⟩,
  ⟨(some 36), none, .idx 1 (.t 34) (.t 35)⟩,
  ⟨(some 37), none, .load none (.t 36)⟩,
  ⟨(some 38), none, .mv (.t 6)⟩,
  ⟨(some 39), none, .mv (.t 1)⟩,
  ⟨(some 40), none, .mv (.t 7)⟩,
  ⟨(some 41), none, .idx 1 (.t 39) (.t 40)⟩,
  ⟨(some 42), none, .load none (.t 41)⟩,
  ⟨(some 43), none, .look 0 false .nils (.t 38) (.t 42)⟩,
  ⟨(some 44), none, .fld 10 (.t 8)⟩,
  ⟨(some 45), none, .load none (.t 44)⟩,
  ⟨(some 46), none, .slc 3 1 false [(.t 45)]⟩,
  ⟨(some 47), none, .app 3 1 8 (.t 43) (.t 46)⟩,
  ⟨none, none, .mset 0 (.t 33) (.t 37) (.t 47)⟩]
theorem tr5_8 : TR Tryd.f5 74 8 = some a5_8 := by kernel_rfl
def d5_8 : List (List Nat) := [[], [], [], [1, 2], [1, 2, 3], [], [], [], [6, 7], [6, 7, 8], [5, 6, 7, 8, 9], [], [11], [11, 12], [5, 6, 7, 8, 9, 10, 11, 12, 13], [0, 1, 2, 3, 4, 5, 6, 7, 8, 9, 10, 11, 12, 13, 14]]
theorem ok5_8 : okReg (ro Tryd.f5 8) a5_8 d5_8 = true := by kernel_rfl
def a5_9 : List AO := [⟨(some 48), none, .bin .add (.t 25) (.v (.int .i64 1))⟩,
  ⟨(some 25), none, .mv (.t 48)⟩]
theorem tr5_9 : TR Tryd.f5 74 9 = some a5_9 := by kernel_rfl
def a5_10 : List AO := [⟨(some 50), none, .mv (.t 6)⟩,
  ⟨(some 51), none, .call 13 [(.t 50)]⟩,
  ⟨(some 49), none, .mv (.t 51)⟩,
  ⟨(some 52), none, .ext 0 (.t 49)⟩,
  ⟨(some 53), none, .ext 1 (.t 49)⟩,
  ⟨(some 54), none, .ext 2 (.t 49)⟩,
  ⟨(some 9), none, .mv (.t 52)⟩,
  ⟨(some 10), none, .mv (.t 53)⟩,
  ⟨(some 11), none, .mv (.t 54)⟩]
theorem tr5_10 : TR Tryd.f5 74 10 = some a5_10 := by kernel_rfl
def a5_11 : List AO := [⟨(some 12), none, .mv (.v .nils)⟩]
theorem tr5_11 : TR Tryd.f5 74 11 = some a5_11 := by kernel_rfl
def a5_12 : List AO := [⟨(some 55), none, .mv (.t 9)⟩,
  ⟨(some 56), none, .len (.t 55)⟩,
  ⟨(some 57), none, .mv (.v (.int .i64 0))⟩]
theorem tr5_12 : TR Tryd.f5 74 12 = some a5_12 := by kernel_rfl
def a5_13 : List AO := [⟨(some 58), none, .bin .lss (.t 57) (.t 56)⟩]
theorem tr5_13 : TR Tryd.f5 74 13 = some a5_13 := by kernel_rfl
def a5_14 : List AO := [⟨(some 59), none, .mv (.t 57)⟩,
  ⟨(some 60), none, .idx 1 (.t 55) (.t 57)⟩,
  ⟨(some 61), none, .load none (.t 60)⟩,
  ⟨(some 13), none, .mv (.t 59)⟩,
  ⟨(some 14), none, .mv (.t 61)⟩]
theorem tr5_14 : TR Tryd.f5 74 14 = some a5_14 := by kernel_rfl
def a5_15 : List AO := [⟨(some 62), none, .mv (.t 12)⟩,
  ⟨(some 63), none, .mv (.t 14)⟩,
  ⟨(some 64), none, .mv (.t 10)⟩,
  ⟨(some 65), none, .mv (.t 13)⟩,
  ⟨(some 66), none, .idx 1 (.t 64) (.t 65)⟩,
  ⟨(some 67), none, .load none (.t 66)⟩,
  ⟨(some 68), none, .build [(.str []), (.int .i64 0)] [(0, 1, (.t 63)), (1, 1, (.t 67))]⟩,
  ⟨(some 69), none, .slc 64 2 false [(.t 68)]⟩,
  ⟨(some 70), none, .app 64 2 24 (.t 62) (.t 69)⟩,
  ⟨(some 12), none, .mv (.t 70)⟩]
theorem tr5_15 : TR Tryd.f5 74 15 = some a5_15 := by kernel_rfl
def a5_16 : List AO := [⟨(some 71), none, .bin .add (.t 57) (.v (.int .i64 1))⟩,
  ⟨(some 57), none, .mv (.t 71)⟩]
theorem tr5_16 : TR Tryd.f5 74 16 = some a5_16 := by kernel_rfl
def a5_17 : List AO := [⟨(some 72), none, .mv (.t 12)⟩,
  ⟨(some 73), none, .mv (.t 11)⟩,
  ⟨(some 4), none, .mv (.t 72)⟩,
  ⟨(some 5), none, .mv (.t 73)⟩]
theorem tr5_17 : TR Tryd.f5 74 17 = some a5_17 := by kernel_rfl
/-- airline/settle.Bill -/
noncomputable def c6 : Code := .seq (.region 0 (ro Tryd.f6 0) false) (.seq (.region 1 (ro Tryd.f6 1) false) (.seq (.seq (.region 2 (ro Tryd.f6 2) false) (.block 0 (.loop (.seq (.region 3 (ro Tryd.f6 3) false) (.seq (.cond (.tmp 11) (.skip) (.exit 0)) (.seq (.block 1 (.seq (.region 4 (ro Tryd.f6 4) false) (.seq (.region 5 (ro Tryd.f6 5) false) (.cond (.tmp 22) (.region 6 (ro Tryd.f6 6) false) (.skip))))) (.region 7 (ro Tryd.f6 7) false))))))) (.seq (.region 8 (ro Tryd.f6 8) false) (.ret))))
theorem body6 : Tryd.f6.body = some c6 := by kernel_rfl
theorem res6 : Tryd.f6.results.toList.mapM (trR Tryd.prog) = some [.t 4] := by kernel_rfl
theorem nt6 : Tryd.f6.ntmps = 34 := by kernel_rfl
theorem nm6 : (Tryd.f6.name == "runtime.NumGoroutine") = false := by kernel_rfl
def a6_0 : List AO := [⟨(some 4), none, .mv (.v .nils)⟩]
theorem tr6_0 : TR Tryd.f6 34 0 = some a6_0 := by kernel_rfl
def a6_1 : List AO := [⟨(some 5), none, .mv (.v .nils)⟩]
theorem tr6_1 : TR Tryd.f6 34 1 = some a6_1 := by kernel_rfl
def a6_2 : List AO := [⟨(some 8), none, .mv (.t 1)⟩,
  ⟨(some 9), none, .len (.t 8)⟩,
  ⟨(some 10), none, .mv (.v (.int .i64 0))⟩]
theorem tr6_2 : TR Tryd.f6 34 2 = some a6_2 := by kernel_rfl
def a6_3 : List AO := [⟨(some 11), none, .bin .lss (.t 10) (.t 9)⟩]
theorem tr6_3 : TR Tryd.f6 34 3 = some a6_3 := by kernel_rfl
def a6_4 : List AO := [⟨(some 12), none, .idx 2 (.t 8) (.t 10)⟩,
  ⟨(some 13), none, .load (some 2) (.t 12)⟩,
  ⟨(some 7), none, .alloc 64 [(.str []), (.int .i64 0)]⟩,
  ⟨none, none, .store 2 (.t 7) (.t 13)⟩]
theorem tr6_4 : TR Tryd.f6 34 4 = some a6_4 := by kernel_rfl
def a6_5 : List AO := [⟨(some 14), none, .fld 0 (.t 7)⟩,
  ⟨(some 15), none, .load none (.t 14)⟩,
  ⟨(some 16), none, .mv (.t 0)⟩,
  ⟨(some 17), none, .bin .neq (.t 15) (.t 16)⟩,
  ⟨(some 18), none, .mv (.t 17)⟩,
  ⟨(some 19), some (18, true), .fld 1 (.t 7)⟩,
  ⟨(some 20), some (18, true), .load none (.t 19)⟩,
  ⟨(some 21), some (18, true), .bin .neq (.t 20) (.v (.int .i64 0))⟩,
  ⟨(some 22), none, .pick (.t 18) (.t 21) (.v (.bool false))⟩]
theorem tr6_5 : TR Tryd.f6 34 5 = some a6_5 := by kernel_rfl
def a6_6 : List AO := [⟨(some 23), none, .mv (.t 5)⟩,
  ⟨(some 24), none, .mv (.t 0)⟩,
  ⟨(some 25), none, .fld 0 (.t 7)⟩,
  ⟨(some 26), none, .load none (.t 25)⟩,
  ⟨(some 27), none, .fld 1 (.t 7)⟩,
  ⟨(some 28), none, .load none (.t 27)⟩,
  ⟨(some 29), none, .build [(.str []), (.str []), (.int .i64 0)] [(0, 1, (.t 24)), (1, 1, (.t 26)), (2, 1, (.t 28))]⟩,
  ⟨(some 30), none, .slc 49 3 false [(.t 29)]⟩,
  ⟨(some 31), none, .app 49 3 40 (.t 23) (.t 30)⟩,
  ⟨(some 5), none, .mv (.t 31)⟩]
theorem tr6_6 : TR Tryd.f6 34 6 = some a6_6 := by kernel_rfl
def a6_7 : List AO := [⟨(some 32), none, .bin .add (.t 10) (.v (.int .i64 1))⟩,
  ⟨(some 10), none, .mv (.t 32)⟩]
theorem tr6_7 : TR Tryd.f6 34 7 = some a6_7 := by kernel_rfl
def a6_8 : List AO := [⟨(some 33), none, .mv (.t 5)⟩,
  ⟨(some 4), none, .mv (.t 33)⟩]
theorem tr6_8 : TR Tryd.f6 34 8 = some a6_8 := by kernel_rfl
/-- airline/settle.Net -/
noncomputable def c7 : Code := .seq (.region 0 (ro Tryd.f7 0) false) (.seq (.region 1 (ro Tryd.f7 1) false) (.seq (.seq (.region 2 (ro Tryd.f7 2) false) (.block 0 (.loop (.seq (.region 3 (ro Tryd.f7 3) false) (.seq (.cond (.tmp 14) (.skip) (.exit 0)) (.seq (.block 1 (.seq (.region 4 (ro Tryd.f7 4) false) (.seq (.seq (.region 5 (ro Tryd.f7 5) false) (.cond (.tmp 19) (.seq (.region 6 (ro Tryd.f7 6) false) (.ret)) (.skip))) (.seq (.region 7 (ro Tryd.f7 7) false) (.region 8 (ro Tryd.f7 8) false))))) (.region 9 (ro Tryd.f7 9) false))))))) (.seq (.region 10 (ro Tryd.f7 10) false) (.seq (.seq (.region 11 (ro Tryd.f7 11) false) (.block 2 (.loop (.seq (.region 12 (ro Tryd.f7 12) false) (.seq (.cond (.tmp 40) (.skip) (.exit 2)) (.seq (.block 3 (.seq (.region 13 (ro Tryd.f7 13) false) (.seq (.seq (.region 14 (ro Tryd.f7 14) false) (.cond (.tmp 46) (.seq (.region 15 (ro Tryd.f7 15) false) (.ret)) (.skip))) (.region 16 (ro Tryd.f7 16) false)))) (.region 17 (ro Tryd.f7 17) false))))))) (.seq (.region 18 (ro Tryd.f7 18) false) (.ret))))))
theorem body7 : Tryd.f7.body = some c7 := by kernel_rfl
theorem res7 : Tryd.f7.results.toList.mapM (trR Tryd.prog) = some [.t 2, .t 3] := by kernel_rfl
theorem nt7 : Tryd.f7.ntmps = 57 := by kernel_rfl
theorem nm7 : (Tryd.f7.name == "runtime.NumGoroutine") = false := by kernel_rfl
def a7_0 : List AO := [⟨(some 2), none, .mv (.v .nils)⟩,
  ⟨(some 3), none, .mv (.v (.int .i64 0))⟩]
theorem tr7_0 : TR Tryd.f7 57 0 = some a7_0 := by kernel_rfl
def a7_1 : List AO := [⟨(some 10), none, .mkmap⟩,
  ⟨(some 4), none, .mv (.t 10)⟩]
theorem tr7_1 : TR Tryd.f7 57 1 = some a7_1 := by kernel_rfl
def a7_2 : List AO := [⟨(some 11), none, .mv (.t 0)⟩,
  ⟨(some 12), none, .len (.t 11)⟩,
  ⟨(some 13), none, .mv (.v (.int .i64 0))⟩]
theorem tr7_2 : TR Tryd.f7 57 2 = some a7_2 := by kernel_rfl
def a7_3 : List AO := [⟨(some 14), none, .bin .lss (.t 13) (.t 12)⟩]
theorem tr7_3 : TR Tryd.f7 57 3 = some a7_3 := by kernel_rfl
def a7_4 : List AO := [⟨(some 15), none, .idx 3 (.t 11) (.t 13)⟩,
  ⟨(some 16), none, .load (some 3) (.t 15)⟩,
  ⟨(some 6), none, .alloc 49 [(.str []), (.str []), (.int .i64 0)]⟩,
  ⟨none, none, .store 3 (.t 6) (.t 16)⟩]
theorem tr7_4 : TR Tryd.f7 57 4 = some a7_4 := by kernel_rfl
def a7_5 : List AO := [⟨(some 17), none, .fld 2 (.t 6)⟩,
  ⟨(some 18), none, .load none (.t 17)⟩,
  ⟨(some 19), none, .call 14 [(.t 18)]⟩]
theorem tr7_5 : TR Tryd.f7 57 5 = some a7_5 := by kernel_rfl
def a7_6 : List AO := [⟨(some 2), none, .mv (.v .nils)⟩,
  ⟨(some 3), none, .mv (.v (.int .i64 11))⟩]
theorem tr7_6 : TR Tryd.f7 57 6 = some a7_6 := by kernel_rfl
def a7_7 : List AO := [⟨(some 20), none, .mv (.t 4)⟩,
  ⟨(some 21), none, .fld 0 (.t 6)⟩,
  ⟨(some 22), none, .load none (.t 21)⟩,
  ⟨(some 23), none, .look 0 false (.int .i64 0) (.t 20) (.t 22)⟩,
  ⟨(some 24), none, .fld 2 (.t 6)⟩,
  ⟨(some 25), none, .load none (.t 24)⟩,
  ⟨(some 26), none, .bin .sub (.t 23) (.t 25)⟩,
  ⟨none, none, .mset 0 (.t 20) (.t 22) (.t 26)⟩]
theorem tr7_7 : TR Tryd.f7 57 7 = some a7_7 := by kernel_rfl
def a7_8 : List AO := [⟨(some 27), none, .mv (.t 4)⟩,
  ⟨(some 28), none, .fld 1 (.t 6)⟩,
  ⟨(some 29), none, .load none (.t 28)⟩,
  ⟨(some 30), none, .look 0 false (.int .i64 0) (.t 27) (.t 29)⟩,
  ⟨(some 31), none, .fld 2 (.t 6)⟩,
  ⟨(some 32), none, .load none (.t 31)⟩,
  ⟨(some 33), none, .bin .add (.t 30) (.t 32)⟩,
  ⟨none, none, .mset 0 (.t 27) (.t 29) (.t 33)⟩]
theorem tr7_8 : TR Tryd.f7 57 8 = some a7_8 := by kernel_rfl
def a7_9 : List AO := [⟨(some 34), none, .bin .add (.t 13) (.v (.int .i64 1))⟩,
  ⟨(some 13), none, .mv (.t 34)⟩]
theorem tr7_9 : TR Tryd.f7 57 9 = some a7_9 := by kernel_rfl
def a7_10 : List AO := [⟨(some 7), none, .mv (.v .nils)⟩]
theorem tr7_10 : TR Tryd.f7 57 10 = some a7_10 := by kernel_rfl
def a7_11 : List AO := [⟨(some 35), none, .mv (.t 4)⟩,
  ⟨(some 36), none, .call 16 [(.t 35)]⟩,
  ⟨(some 37), none, .call 15 [(.t 36)]⟩,
  ⟨(some 38), none, .len (.t 37)⟩,
  ⟨(some 39), none, .mv (.v (.int .i64 0))⟩]
theorem tr7_11 : TR Tryd.f7 57 11 = some a7_11 := by kernel_rfl
def a7_12 : List AO := [⟨(some 40), none, .bin .lss (.t 39) (.t 38)⟩]
theorem tr7_12 : TR Tryd.f7 57 12 = some a7_12 := by kernel_rfl
def a7_13 : List AO := [⟨(some 41), none, .idx 1 (.t 37) (.t 39)⟩,
  ⟨(some 42), none, .load none (.t 41)⟩,
  ⟨(some 9), none, .mv (.t 42)⟩]
theorem tr7_13 : TR Tryd.f7 57 13 = some a7_13 := by kernel_rfl
def a7_14 : List AO := [⟨(some 43), none, .mv (.t 4)⟩,
  ⟨(some 44), none, .mv (.t 9)⟩,
  ⟨(some 45), none, .look 0 false (.int .i64 0) (.t 43) (.t 44)⟩,
  ⟨(some 46), none, .call 14 [(.t 45)]⟩]
theorem tr7_14 : TR Tryd.f7 57 14 = some a7_14 := by kernel_rfl
def a7_15 : List AO := [⟨(some 2), none, .mv (.v .nils)⟩,
  ⟨(some 3), none, .mv (.v (.int .i64 11))⟩]
theorem tr7_15 : TR Tryd.f7 57 15 = some a7_15 := by kernel_rfl
def a7_16 : List AO := [⟨(some 47), none, .mv (.t 7)⟩,
  ⟨(some 48), none, .mv (.t 9)⟩,
  ⟨(some 49), none, .mv (.t 4)⟩,
  ⟨(some 50), none, .mv (.t 9)⟩,
  ⟨(some 51), none, .look 0 false (.int .i64 0) (.t 49) (.t 50)⟩,
  ⟨(some 52), none, .build [(.str []), (.int .i64 0)] [(0, 1, (.t 48)), (1, 1, (.t 51))]⟩,
  ⟨(some 53), none, .slc 64 2 false [(.t 52)]⟩,
  ⟨(some 54), none, .app 64 2 24 (.t 47) (.t 53)⟩,
  ⟨(some 7), none, .mv (.t 54)⟩]
theorem tr7_16 : TR Tryd.f7 57 16 = some a7_16 := by kernel_rfl
def a7_17 : List AO := [⟨(some 55), none, .bin .add (.t 39) (.v (.int .i64 1))⟩,
  ⟨(some 39), none, .mv (.t 55)⟩]
theorem tr7_17 : TR Tryd.f7 57 17 = some a7_17 := by kernel_rfl
def a7_18 : List AO := [⟨(some 56), none, .mv (.t 7)⟩,
  ⟨(some 2), none, .mv (.t 56)⟩,
  ⟨(some 3), none, .mv (.v (.int .i64 0))⟩]
theorem tr7_18 : TR Tryd.f7 57 18 = some a7_18 := by kernel_rfl
/-- airline/settle.Transfers -/
noncomputable def c8 : Code := .seq (.region 0 (ro Tryd.f8 0) false) (.seq (.seq (.region 1 (ro Tryd.f8 1) false) (.cond (.tmp 14) (.seq (.region 2 (ro Tryd.f8 2) false) (.ret)) (.skip))) (.seq (.region 3 (ro Tryd.f8 3) false) (.seq (.region 4 (ro Tryd.f8 4) false) (.seq (.seq (.region 5 (ro Tryd.f8 5) false) (.block 0 (.loop (.seq (.region 6 (ro Tryd.f8 6) false) (.seq (.cond (.tmp 19) (.skip) (.exit 0)) (.seq (.block 1 (.seq (.region 7 (ro Tryd.f8 7) false) (.seq (.seq (.region 8 (ro Tryd.f8 8) false) (.cond (.tmp 25) (.seq (.region 9 (ro Tryd.f8 9) false) (.ret)) (.skip))) (.seq (.region 10 (ro Tryd.f8 10) false) (.region 11 (ro Tryd.f8 11) false))))) (.region 12 (ro Tryd.f8 12) false))))))) (.seq (.seq (.region 13 (ro Tryd.f8 13) false) (.cond (.tmp 35) (.seq (.region 14 (ro Tryd.f8 14) false) (.ret)) (.skip))) (.seq (.region 15 (ro Tryd.f8 15) false) (.seq (.region 16 (ro Tryd.f8 16) false) (.seq (.region 17 (ro Tryd.f8 17) false) (.block 2 (.loop (.block 3 (.seq (.block 4 (.loop (.seq (.seq (.region 18 (ro Tryd.f8 18) false) (.cond (.tmp 49) (.skip) (.exit 4))) (.block 5 (.region 19 (ro Tryd.f8 19) false))))) (.seq (.block 6 (.loop (.seq (.seq (.region 20 (ro Tryd.f8 20) false) (.cond (.tmp 63) (.skip) (.exit 6))) (.block 7 (.region 21 (ro Tryd.f8 21) false))))) (.seq (.seq (.region 22 (ro Tryd.f8 22) false) (.cond (.tmp 75) (.seq (.region 23 (ro Tryd.f8 23) false) (.ret)) (.skip))) (.seq (.region 24 (ro Tryd.f8 24) true) (.seq (.region 25 (ro Tryd.f8 25) false) (.seq (.region 26 (ro Tryd.f8 26) false) (.region 27 (ro Tryd.f8 27) true))))))))))))))))))
theorem body8 : Tryd.f8.body = some c8 := by kernel_rfl
theorem res8 : Tryd.f8.results.toList.mapM (trR Tryd.prog) = some [.t 2, .t 3] := by kernel_rfl
theorem nt8 : Tryd.f8.ntmps = 122 := by kernel_rfl
theorem nm8 : (Tryd.f8.name == "runtime.NumGoroutine") = false := by kernel_rfl
def a8_0 : List AO := [⟨(some 2), none, .mv (.v .nils)⟩,
  ⟨(some 3), none, .mv (.v (.int .i64 0))⟩]
theorem tr8_0 : TR Tryd.f8 122 0 = some a8_0 := by kernel_rfl
def a8_1 : List AO := [⟨(some 13), none, .mv (.t 0)⟩,
  ⟨(some 14), none, .call 17 [(.t 13), (.v (.fn 18 []))]⟩]
theorem tr8_1 : TR Tryd.f8 122 1 = some a8_1 := by kernel_rfl
def a8_2 : List AO := [⟨(some 2), none, .mv (.v .nils)⟩,
  ⟨(some 3), none, .mv (.v (.int .i64 11))⟩]
theorem tr8_2 : TR Tryd.f8 122 2 = some a8_2 := by kernel_rfl
def a8_3 : List AO := [⟨(some 15), none, .mkmap⟩,
  ⟨(some 4), none, .mv (.t 15)⟩]
theorem tr8_3 : TR Tryd.f8 122 3 = some a8_3 := by kernel_rfl
def a8_4 : List AO := [⟨(some 5), none, .mv (.v (.int .i64 0))⟩]
theorem tr8_4 : TR Tryd.f8 122 4 = some a8_4 := by kernel_rfl
def a8_5 : List AO := [⟨(some 16), none, .mv (.t 0)⟩,
  ⟨(some 17), none, .len (.t 16)⟩,
  ⟨(some 18), none, .mv (.v (.int .i64 0))⟩]
theorem tr8_5 : TR Tryd.f8 122 5 = some a8_5 := by kernel_rfl
def a8_6 : List AO := [⟨(some 19), none, .bin .lss (.t 18) (.t 17)⟩]
theorem tr8_6 : TR Tryd.f8 122 6 = some a8_6 := by kernel_rfl
def a8_7 : List AO := [⟨(some 20), none, .idx 2 (.t 16) (.t 18)⟩,
  ⟨(some 21), none, .load (some 2) (.t 20)⟩,
  ⟨(some 7), none, .alloc 64 [(.str []), (.int .i64 0)]⟩,
  ⟨none, none, .store 2 (.t 7) (.t 21)⟩]
theorem tr8_7 : TR Tryd.f8 122 7 = some a8_7 := by kernel_rfl
def a8_8 : List AO := [⟨(some 22), none, .mv (.t 4)⟩,
  ⟨(some 23), none, .fld 0 (.t 7)⟩,
  ⟨(some 24), none, .load none (.t 23)⟩,
  ⟨(some 25), none, .look 0 false (.bool false) (.t 22) (.t 24)⟩]
theorem tr8_8 : TR Tryd.f8 122 8 = some a8_8 := by kernel_rfl
def a8_9 : List AO := [⟨(some 2), none, .mv (.v .nils)⟩,
  ⟨(some 3), none, .mv (.v (.int .i64 6))⟩]
theorem tr8_9 : TR Tryd.f8 122 9 = some a8_9 := by kernel_rfl
def a8_10 : List AO := [⟨(some 26), none, .mv (.t 4)⟩,
  ⟨(some 27), none, .fld 0 (.t 7)⟩,
  ⟨(some 28), none, .load none (.t 27)⟩,
  ⟨none, none, .mset 0 (.t 26) (.t 28) (.v (.bool true))⟩]
theorem tr8_10 : TR Tryd.f8 122 10 = some a8_10 := by kernel_rfl
def a8_11 : List AO := [⟨(some 29), none, .mv (.t 5)⟩,
  ⟨(some 30), none, .fld 1 (.t 7)⟩,
  ⟨(some 31), none, .load none (.t 30)⟩,
  ⟨(some 32), none, .bin .add (.t 29) (.t 31)⟩,
  ⟨(some 5), none, .mv (.t 32)⟩]
theorem tr8_11 : TR Tryd.f8 122 11 = some a8_11 := by kernel_rfl
def a8_12 : List AO := [⟨(some 33), none, .bin .add (.t 18) (.v (.int .i64 1))⟩,
  ⟨(some 18), none, .mv (.t 33)⟩]
theorem tr8_12 : TR Tryd.f8 122 12 = some a8_12 := by kernel_rfl
def a8_13 : List AO := [⟨(some 34), none, .mv (.t 5)⟩,
  ⟨(some 35), none, .bin .neq (.t 34) (.v (.int .i64 0))⟩]
theorem tr8_13 : TR Tryd.f8 122 13 = some a8_13 := by kernel_rfl
def a8_14 : List AO := [⟨(some 2), none, .mv (.v .nils)⟩,
  ⟨(some 3), none, .mv (.v (.int .i64 36))⟩]
theorem tr8_14 : TR Tryd.f8 122 14 = some a8_14 := by kernel_rfl
def a8_15 : List AO := [⟨(some 36), none, .mv (.t 0)⟩,
  ⟨(some 37), none, .call 19 [(.t 36)]⟩,
  ⟨(some 8), none, .mv (.t 37)⟩]
theorem tr8_15 : TR Tryd.f8 122 15 = some a8_15 := by kernel_rfl
def a8_16 : List AO := [⟨(some 9), none, .mv (.v .nils)⟩]
theorem tr8_16 : TR Tryd.f8 122 16 = some a8_16 := by kernel_rfl
def a8_17 : List AO := [⟨(some 10), none, .mv (.v (.int .i64 0))⟩,
  ⟨(some 11), none, .mv (.v (.int .i64 0))⟩]
theorem tr8_17 : TR Tryd.f8 122 17 = some a8_17 := by kernel_rfl
def a8_18 : List AO := [⟨(some 38), none, .mv (.t 10)⟩,
  ⟨(some 39), none, .mv (.t 8)⟩,
  ⟨(some 40), none, .len (.t 39)⟩,
  ⟨(some 41), none, .bin .lss (.t 38) (.t 40)⟩,
  ⟨(some 42), none, .mv (.t 41)⟩,
  ⟨(some 43), some (42, true), .mv (.t 8)⟩,
  ⟨(some 44), some (42, true), .mv (.t 10)⟩,
  ⟨(some 45), some (42, true), .idx 2 (.t 43) (.t 44)⟩,
  ⟨(some 46), some (42, true), .fld 1 (.t 45)⟩,
  ⟨(some 47), some (42, true), .load none (.t 46)⟩,
  ⟨(some 48), some (42, true), .bin .geq (.t 47) (.v (.int .i64 0))⟩,
  ⟨(some 49), none, .pick (.t 42) (.t 48) (.v (.bool false))⟩]
theorem tr8_18 : TR Tryd.f8 122 18 = some a8_18 := by kernel_rfl
def a8_19 : List AO := [⟨(some 50), none, .mv (.t 10)⟩,
  ⟨(some 51), none, .bin .add (.t 50) (.v (.int .i64 1))⟩,
  ⟨(some 10), none, .mv (.t 51)⟩]
theorem tr8_19 : TR Tryd.f8 122 19 = some a8_19 := by kernel_rfl
def a8_20 : List AO := [⟨(some 52), none, .mv (.t 11)⟩,
  ⟨(some 53), none, .mv (.t 8)⟩,
  ⟨(some 54), none, .len (.t 53)⟩,
  ⟨(some 55), none, .bin .lss (.t 52) (.t 54)⟩,
  ⟨(some 56), none, .mv (.t 55)⟩,
  ⟨(some 57), some (56, true), .mv (.t 8)⟩,
  ⟨(some 58), some (56, true), .mv (.t 11)⟩,
  ⟨(some 59), some (56, true), .idx 2 (.t 57) (.t 58)⟩,
  ⟨(some 60), some (56, true), .fld 1 (.t 59)⟩,
  ⟨(some 61), some (56, true), .load none (.t 60)⟩,
  ⟨(some 62), some (56, true), .bin .leq (.t 61) (.v (.int .i64 0))⟩,
  ⟨(some 63), none, .pick (.t 56) (.t 62) (.v (.bool false))⟩]
theorem tr8_20 : TR Tryd.f8 122 20 = some a8_20 := by kernel_rfl
def a8_21 : List AO := [⟨(some 64), none, .mv (.t 11)⟩,
  ⟨(some 65), none, .bin .add (.t 64) (.v (.int .i64 1))⟩,
  ⟨(some 11), none, .mv (.t 65)⟩]
theorem tr8_21 : TR Tryd.f8 122 21 = some a8_21 := by kernel_rfl
def a8_22 : List AO := [⟨(some 66), none, .mv (.t 10)⟩,
  ⟨(some 67), none, .mv (.t 8)⟩,
  ⟨(some 68), none, .len (.t 67)⟩,
  ⟨(some 69), none, .bin .eql (.t 66) (.t 68)⟩,
  ⟨(some 70), none, .mv (.t 69)⟩,
  ⟨(some 71), some (70, false), .mv (.t 11)⟩,
  ⟨(some 72), some (70, false), .mv (.t 8)⟩,
  ⟨(some 73), some (70, false), .len (.t 72)⟩,
  ⟨(some 74), some (70, false), .bin .eql (.t 71) (.t 73)⟩,
  ⟨(some 75), none, .pick (.t 70) (.v (.bool true)) (.t 74)⟩]
theorem tr8_22 : TR Tryd.f8 122 22 = some a8_22 := by kernel_rfl
def a8_23 : List AO := [⟨(some 76), none, .mv (.t 9)⟩,
  ⟨(some 2), none, .mv (.t 76)⟩,
  ⟨(some 3), none, .mv (.v (.int .i64 0))⟩]
theorem tr8_23 : TR Tryd.f8 122 23 = some a8_23 := by kernel_rfl
def a8_24 : List AO := [⟨(some 77), none, .mv (.t 8)⟩,
  ⟨(some 78), none, .mv (.t 10)⟩,
  ⟨(some 79), none, .idx 2 (.t 77) (.t 78)⟩,
  ⟨(some 80), none, .fld 1 (.t 79)⟩,
  ⟨(some 81), none, .load none (.t 80)⟩,
  ⟨(some 82), none, .un .neg (.t 81)⟩,
  ⟨(some 83), none, .mv (.t 8)⟩,
  ⟨(some 84), none, .mv (.t 11)⟩,
  ⟨(some 85), none, .idx 2 (.t 83) (.t 84)⟩,
  ⟨(some 86), none, .fld 1 (.t 85)⟩,
  ⟨(some 87), none, .load none (.t 86)⟩,
  ⟨(some 88), none, .mn (.t 82) (.t 87)⟩,
  ⟨(some 12), none, .mv (.t 88)⟩]
theorem tr8_24 : TR Tryd.f8 122 24 = some a8_24 := by kernel_rfl
def d8_24 : List (List Nat) := [[], [], [0, 1], [0, 1, 2], [0, 1, 2, 3], [0, 1, 2, 3, 4], [], [], [6, 7], [6, 7, 8], [6, 7, 8, 9], [0, 1, 2, 3, 4, 5, 6, 7, 8, 9, 10], [0, 1, 2, 3, 4, 5, 6, 7, 8, 9, 10, 11]]
theorem ok8_24 : okReg (ro Tryd.f8 24) a8_24 d8_24 = true := by kernel_rfl
def a8_25 : List AO := [⟨(some 89), none, .mv (.t 8)⟩,
  ⟨(some 90), none, .mv (.t 10)⟩,
  ⟨(some 91), none, .idx 2 (.t 89) (.t 90)⟩,
  ⟨(some 92), none, .fld 1 (.t 91)⟩,
  ⟨(some 93), none, .load none (.t 92)⟩,
  ⟨(some 94), none, .mv (.t 12)⟩,
  ⟨(some 95), none, .bin .add (.t 93) (.t 94)⟩,
  ⟨(some 96), none, .idx 2 (.t 89) (.t 90)⟩,
  ⟨(some 97), none, .fld 1 (.t 96)⟩,
  ⟨none, none, .store 1 (.t 97) (.t 95)⟩]
theorem tr8_25 : TR Tryd.f8 122 25 = some a8_25 := by kernel_rfl
def a8_26 : List AO := [⟨(some 98), none, .mv (.t 8)⟩,
  ⟨(some 99), none, .mv (.t 11)⟩,
  ⟨(some 100), none, .idx 2 (.t 98) (.t 99)⟩,
  ⟨(some 101), none, .fld 1 (.t 100)⟩,
  ⟨(some 102), none, .load none (.t 101)⟩,
  ⟨(some 103), none, .mv (.t 12)⟩,
  ⟨(some 104), none, .bin .sub (.t 102) (.t 103)⟩,
  ⟨(some 105), none, .idx 2 (.t 98) (.t 99)⟩,
  ⟨(some 106), none, .fld 1 (.t 105)⟩,
  ⟨none, none, .store 1 (.t 106) (.t 104)⟩]
theorem tr8_26 : TR Tryd.f8 122 26 = some a8_26 := by kernel_rfl
def a8_27 : List AO := [⟨(some 107), none, .mv (.t 9)⟩,
  ⟨(some 108), none, .mv (.t 8)⟩,
  ⟨(some 109), none, .mv (.t 10)⟩,
  ⟨(some 110), none, .idx 2 (.t 108) (.t 109)⟩,
  ⟨(some 111), none, .fld 0 (.t 110)⟩,
  ⟨(some 112), none, .load none (.t 111)⟩,
  ⟨(some 113), none, .mv (.t 8)⟩,
  ⟨(some 114), none, .mv (.t 11)⟩,
  ⟨(some 115), none, .idx 2 (.t 113) (.t 114)⟩,
  ⟨(some 116), none, .fld 0 (.t 115)⟩,
  ⟨(some 117), none, .load none (.t 116)⟩,
  ⟨(some 118), none, .mv (.t 12)⟩,
  ⟨(some 119), none, .build [(.str []), (.str []), (.int .i64 0)] [(0, 1, (.t 112)), (1, 1, (.t 117)), (2, 1, (.t 118))]⟩,
  ⟨(some 120), none, .slc 49 3 false [(.t 119)]⟩,
  ⟨(some 121), none, .app 49 3 40 (.t 107) (.t 120)⟩,
  ⟨(some 9), none, .mv (.t 121)⟩]
theorem tr8_27 : TR Tryd.f8 122 27 = some a8_27 := by kernel_rfl
def d8_27 : List (List Nat) := [[], [], [], [1, 2], [1, 2, 3], [1, 2, 3, 4], [], [], [6, 7], [6, 7, 8], [6, 7, 8, 9], [], [1, 2, 3, 4, 5, 6, 7, 8, 9, 10, 11], [1, 2, 3, 4, 5, 6, 7, 8, 9, 10, 11, 12], [0, 1, 2, 3, 4, 5, 6, 7, 8, 9, 10, 11, 12, 13], [0, 1, 2, 3, 4, 5, 6, 7, 8, 9, 10, 11, 12, 13, 14]]
theorem ok8_27 : okReg (ro Tryd.f8 27) a8_27 d8_27 = true := by kernel_rfl
/-- airline/settle.Settled -/
noncomputable def c9 : Code := .seq (.region 0 (ro Tryd.f9 0) false) (.seq (.region 1 (ro Tryd.f9 1) false) (.seq (.region 2 (ro Tryd.f9 2) false) (.seq (.seq (.region 3 (ro Tryd.f9 3) false) (.cond (.tmp 31) (.seq (.region 4 (ro Tryd.f9 4) false) (.ret)) (.skip))) (.seq (.region 5 (ro Tryd.f9 5) false) (.seq (.seq (.region 6 (ro Tryd.f9 6) false) (.block 0 (.loop (.seq (.region 7 (ro Tryd.f9 7) false) (.seq (.cond (.tmp 36) (.skip) (.exit 0)) (.seq (.block 1 (.seq (.region 8 (ro Tryd.f9 8) false) (.region 9 (ro Tryd.f9 9) false))) (.region 10 (ro Tryd.f9 10) false))))))) (.seq (.seq (.region 11 (ro Tryd.f9 11) false) (.block 2 (.loop (.seq (.region 12 (ro Tryd.f9 12) false) (.seq (.cond (.tmp 50) (.skip) (.exit 2)) (.seq (.block 3 (.seq (.region 13 (ro Tryd.f9 13) false) (.region 14 (ro Tryd.f9 14) false))) (.region 15 (ro Tryd.f9 15) false))))))) (.seq (.seq (.region 16 (ro Tryd.f9 16) false) (.block 4 (.loop (.seq (.region 17 (ro Tryd.f9 17) false) (.seq (.cond (.tmp 64) (.skip) (.exit 4)) (.block 5 (.seq (.region 18 (ro Tryd.f9 18) false) (.seq (.region 19 (ro Tryd.f9 19) false) (.cond (.tmp 68) (.seq (.region 20 (ro Tryd.f9 20) false) (.ret)) (.skip)))))))))) (.seq (.region 21 (ro Tryd.f9 21) false) (.ret)))))))))
theorem body9 : Tryd.f9.body = some c9 := by kernel_rfl
theorem res9 : Tryd.f9.results.toList.mapM (trR Tryd.prog) = some [.t 4] := by kernel_rfl
theorem nt9 : Tryd.f9.ntmps = 69 := by kernel_rfl
theorem nm9 : (Tryd.f9.name == "runtime.NumGoroutine") = false := by kernel_rfl
def a9_0 : List AO := [⟨(some 4), none, .mv (.v (.bool false))⟩]
theorem tr9_0 : TR Tryd.f9 69 0 = some a9_0 := by kernel_rfl
def a9_1 : List AO := [⟨(some 17), none, .mv (.t 0)⟩,
  ⟨(some 18), none, .call 7 [(.t 17)]⟩,
  ⟨(some 16), none, .mv (.t 18)⟩,
  ⟨(some 19), none, .ext 0 (.t 16)⟩,
  ⟨(some 20), none, .ext 1 (.t 16)⟩,
  ⟨(some 5), none, .mv (.t 19)⟩,
  ⟨(some 6), none, .mv (.t 20)⟩]
theorem tr9_1 : TR Tryd.f9 69 1 = some a9_1 := by kernel_rfl
def a9_2 : List AO := [⟨(some 22), none, .mv (.t 1)⟩,
  ⟨(some 23), none, .call 7 [(.t 22)]⟩,
  ⟨(some 21), none, .mv (.t 23)⟩,
  ⟨(some 24), none, .ext 0 (.t 21)⟩,
  ⟨(some 25), none, .ext 1 (.t 21)⟩,
  ⟨(some 7), none, .mv (.t 24)⟩,
  ⟨(some 8), none, .mv (.t 25)⟩]
theorem tr9_2 : TR Tryd.f9 69 2 = some a9_2 := by kernel_rfl
def a9_3 : List AO := [⟨(some 26), none, .mv (.t 6)⟩,
  ⟨(some 27), none, .bin .neq (.t 26) (.v (.int .i64 0))⟩,
  ⟨(some 28), none, .mv (.t 27)⟩,
  ⟨(some 29), some (28, false), .mv (.t 8)⟩,
  ⟨(some 30), some (28, false), .bin .neq (.t 29) (.v (.int .i64 0))⟩,
  ⟨(some 31), none, .pick (.t 28) (.v (.bool true)) (.t 30)⟩]
theorem tr9_3 : TR Tryd.f9 69 3 = some a9_3 := by kernel_rfl
def a9_4 : List AO := [⟨(some 4), none, .mv (.v (.bool false))⟩]
theorem tr9_4 : TR Tryd.f9 69 4 = some a9_4 := by kernel_rfl
def a9_5 : List AO := [⟨(some 32), none, .mkmap⟩,
  ⟨(some 9), none, .mv (.t 32)⟩]
theorem tr9_5 : TR Tryd.f9 69 5 = some a9_5 := by kernel_rfl
def a9_6 : List AO := [⟨(some 33), none, .mv (.t 5)⟩,
  ⟨(some 34), none, .len (.t 33)⟩,
  ⟨(some 35), none, .mv (.v (.int .i64 0))⟩]
theorem tr9_6 : TR Tryd.f9 69 6 = some a9_6 := by kernel_rfl
def a9_7 : List AO := [⟨(some 36), none, .bin .lss (.t 35) (.t 34)⟩]
theorem tr9_7 : TR Tryd.f9 69 7 = some a9_7 := by kernel_rfl
def a9_8 : List AO := [⟨(some 37), none, .idx 2 (.t 33) (.t 35)⟩,
  ⟨(some 38), none, .load (some 2) (.t 37)⟩,
  ⟨(some 11), none, .alloc 64 [(.str []), (.int .i64 0)]⟩,
  ⟨none, none, .store 2 (.t 11) (.t 38)⟩]
theorem tr9_8 : TR Tryd.f9 69 8 = some a9_8 := by kernel_rfl
def a9_9 : List AO := [⟨(some 39), none, .mv (.t 9)⟩,
  ⟨(some 40), none, .fld 0 (.t 11)⟩,
  ⟨(some 41), none, .load none (.t 40)⟩,
  ⟨(some 42), none, .look 0 false (.int .i64 0) (.t 39) (.t 41)⟩,
  ⟨(some 43), none, .fld 1 (.t 11)⟩,
  ⟨(some 44), none, .load none (.t 43)⟩,
  ⟨(some 45), none, .bin .add (.t 42) (.t 44)⟩,
  ⟨none, none, .mset 0 (.t 39) (.t 41) (.t 45)⟩]
theorem tr9_9 : TR Tryd.f9 69 9 = some a9_9 := by kernel_rfl
def a9_10 : List AO := [⟨(some 46), none, .bin .add (.t 35) (.v (.int .i64 1))⟩,
  ⟨(some 35), none, .mv (.t 46)⟩]
theorem tr9_10 : TR Tryd.f9 69 10 = some a9_10 := by kernel_rfl
def a9_11 : List AO := [⟨(some 47), none, .mv (.t 7)⟩,
  ⟨(some 48), none, .len (.t 47)⟩,
  ⟨(some 49), none, .mv (.v (.int .i64 0))⟩]
theorem tr9_11 : TR Tryd.f9 69 11 = some a9_11 := by kernel_rfl
def a9_12 : List AO := [⟨(some 50), none, .bin .lss (.t 49) (.t 48)⟩]
theorem tr9_12 : TR Tryd.f9 69 12 = some a9_12 := by kernel_rfl
def a9_13 : List AO := [⟨(some 51), none, .idx 2 (.t 47) (.t 49)⟩,
  ⟨(some 52), none, .load (some 2) (.t 51)⟩,
  ⟨(some 13), none, .alloc 64 [(.str []), (.int .i64 0)]⟩,
  ⟨none, none, .store 2 (.t 13) (.t 52)⟩]
theorem tr9_13 : TR Tryd.f9 69 13 = some a9_13 := by kernel_rfl
def a9_14 : List AO := [⟨(some 53), none, .mv (.t 9)⟩,
  ⟨(some 54), none, .fld 0 (.t 13)⟩,
  ⟨(some 55), none, .load none (.t 54)⟩,
  ⟨(some 56), none, .look 0 false (.int .i64 0) (.t 53) (.t 55)⟩,
  ⟨(some 57), none, .fld 1 (.t 13)⟩,
  ⟨(some 58), none, .load none (.t 57)⟩,
  ⟨(some 59), none, .bin .sub (.t 56) (.t 58)⟩,
  ⟨none, none, .mset 0 (.t 53) (.t 55) (.t 59)⟩]
theorem tr9_14 : TR Tryd.f9 69 14 = some a9_14 := by kernel_rfl
def a9_15 : List AO := [⟨(some 60), none, .bin .add (.t 49) (.v (.int .i64 1))⟩,
  ⟨(some 49), none, .mv (.t 60)⟩]
theorem tr9_15 : TR Tryd.f9 69 15 = some a9_15 := by kernel_rfl
-- region 16: not translated: !! range 65 t61
def a9_16p : List AO := [⟨(some 61), none, .mv (.t 9)⟩]
theorem tr9_16p : (ro Tryd.f9 16).toList.dropLast.mapM (trO Tryd.prog 69 (ro Tryd.f9 16)) = some a9_16p := by kernel_rfl
-- region 17: not translated: !! next false t62
-- region 18: not translated: !! entry t62
def a9_18s : List AO := [⟨(some 66), none, .ext 1 (.t 65)⟩,
  ⟨(some 15), none, .mv (.t 66)⟩]
theorem tr9_18s : (ro Tryd.f9 18).toList.tail.mapM (trO Tryd.prog 69 (ro Tryd.f9 18)) = some a9_18s := by kernel_rfl
def a9_19 : List AO := [⟨(some 67), none, .mv (.t 15)⟩,
  ⟨(some 68), none, .bin .neq (.t 67) (.v (.int .i64 0))⟩]
theorem tr9_19 : TR Tryd.f9 69 19 = some a9_19 := by kernel_rfl
def a9_20 : List AO := [⟨(some 4), none, .mv (.v (.bool false))⟩]
theorem tr9_20 : TR Tryd.f9 69 20 = some a9_20 := by kernel_rfl
def a9_21 : List AO := [⟨(some 4), none, .mv (.v (.bool true))⟩]
theorem tr9_21 : TR Tryd.f9 69 21 = some a9_21 := by kernel_rfl
/-- airline/calendar.Print -/
noncomputable def c10 : Code := .seq (.region 0 (ro Tryd.f10 0) false) (.seq (.region 1 (ro Tryd.f10 1) false) (.seq (.seq (.region 2 (ro Tryd.f10 2) false) (.cond (.tmp 13) (.seq (.region 3 (ro Tryd.f10 3) false) (.ret)) (.skip))) (.seq (.region 4 (ro Tryd.f10 4) false) (.ret))))
theorem body10 : Tryd.f10.body = some c10 := by kernel_rfl
theorem res10 : Tryd.f10.results.toList.mapM (trR Tryd.prog) = some [.t 2] := by kernel_rfl
theorem nt10 : Tryd.f10.ntmps = 29 := by kernel_rfl
theorem nm10 : (Tryd.f10.name == "runtime.NumGoroutine") = false := by kernel_rfl
def a10_0 : List AO := [⟨(some 2), none, .mv (.v (.str []))⟩]
theorem tr10_0 : TR Tryd.f10 29 0 = some a10_0 := by kernel_rfl
def a10_1 : List AO := [⟨(some 7), none, .mv (.t 0)⟩,
  ⟨(some 8), none, .call 20 [(.t 7)]⟩,
  ⟨(some 6), none, .mv (.t 8)⟩,
  ⟨(some 9), none, .ext 0 (.t 6)⟩,
  ⟨(some 10), none, .ext 1 (.t 6)⟩,
  ⟨(some 11), none, .ext 2 (.t 6)⟩,
  ⟨(some 3), none, .mv (.t 9)⟩,
  ⟨(some 4), none, .mv (.t 10)⟩,
  ⟨(some 5), none, .mv (.t 11)⟩]
theorem tr10_1 : TR Tryd.f10 29 1 = some a10_1 := by kernel_rfl
def a10_2 : List AO := [⟨(some 12), none, .mv (.t 3)⟩,
  ⟨(some 13), none, .bin .eql (.t 12) (.v (.int .i64 0))⟩]
theorem tr10_2 : TR Tryd.f10 29 2 = some a10_2 := by kernel_rfl
def a10_3 : List AO := [⟨(some 2), none, .mv (.v (.str []))⟩]
theorem tr10_3 : TR Tryd.f10 29 3 = some a10_3 := by kernel_rfl
def a10_4 : List AO := [⟨(some 14), none, .mv (.t 3)⟩,
  ⟨(some 15), none, .bin .quo (.t 14) (.v (.int .i64 100))⟩,
  ⟨(some 16), none, .call 21 [(.t 15)]⟩,
  ⟨(some 17), none, .mv (.t 3)⟩,
  ⟨(some 18), none, .bin .rem (.t 17) (.v (.int .i64 100))⟩,
  ⟨(some 19), none, .call 21 [(.t 18)]⟩,
  ⟨(some 20), none, .bin .add (.t 16) (.t 19)⟩,
  ⟨(some 21), none, .bin .add (.t 20) (.v (.str [45]))⟩,
  ⟨(some 22), none, .mv (.t 4)⟩,
  ⟨(some 23), none, .call 21 [(.t 22)]⟩,
  ⟨(some 24), none, .bin .add (.t 21) (.t 23)⟩,
  ⟨(some 25), none, .bin .add (.t 24) (.v (.str [45]))⟩,
  ⟨(some 26), none, .mv (.t 5)⟩,
  ⟨(some 27), none, .call 21 [(.t 26)]⟩,
  ⟨(some 28), none, .bin .add (.t 25) (.t 27)⟩,
  ⟨(some 2), none, .mv (.t 28)⟩]
theorem tr10_4 : TR Tryd.f10 29 4 = some a10_4 := by kernel_rfl
/-- airline/zone.Local -/
noncomputable def c12 : Code := .seq (.region 0 (ro Tryd.f12 0) false) (.seq (.region 1 (ro Tryd.f12 1) false) (.ret))
theorem body12 : Tryd.f12.body = some c12 := by kernel_rfl
theorem res12 : Tryd.f12.results.toList.mapM (trR Tryd.prog) = some [.t 4] := by kernel_rfl
theorem nt12 : Tryd.f12.ntmps = 10 := by kernel_rfl
theorem nm12 : (Tryd.f12.name == "runtime.NumGoroutine") = false := by kernel_rfl
def a12_0 : List AO := [⟨(some 2), none, .box 58 (.t 0)⟩,
  ⟨(some 4), none, .mv (.v (.int .i64 0))⟩]
theorem tr12_0 : TR Tryd.f12 10 0 = some a12_0 := by kernel_rfl
def a12_1 : List AO := [⟨(some 5), none, .mv (.t 1)⟩,
  ⟨(some 6), none, .load (some 2) (.t 2)⟩,
  ⟨(some 7), none, .mv (.t 1)⟩,
  ⟨(some 8), none, .call 23 [(.t 6), (.t 7)]⟩,
  ⟨(some 9), none, .bin .add (.t 5) (.t 8)⟩,
  ⟨(some 4), none, .mv (.t 9)⟩]
theorem tr12_1 : TR Tryd.f12 10 1 = some a12_1 := by kernel_rfl
/-- airline/prorate.sums -/
noncomputable def c13 : Code := .seq (.region 0 (ro Tryd.f13 0) false) (.seq (.region 1 (ro Tryd.f13 1) false) (.seq (.region 2 (ro Tryd.f13 2) false) (.seq (.seq (.region 3 (ro Tryd.f13 3) false) (.block 0 (.loop (.seq (.region 4 (ro Tryd.f13 4) false) (.seq (.cond (.tmp 17) (.skip) (.exit 0)) (.seq (.block 1 (.seq (.region 5 (ro Tryd.f13 5) false) (.seq (.region 6 (ro Tryd.f13 6) false) (.seq (.seq (.region 7 (ro Tryd.f13 7) false) (.cond (.tmp 28) (.seq (.region 8 (ro Tryd.f13 8) false) (.ret)) (.skip))) (.region 9 (ro Tryd.f13 9) false))))) (.region 10 (ro Tryd.f13 10) false))))))) (.seq (.region 11 (ro Tryd.f13 11) false) (.ret)))))
theorem body13 : Tryd.f13.body = some c13 := by kernel_rfl
theorem res13 : Tryd.f13.results.toList.mapM (trR Tryd.prog) = some [.t 2, .t 3, .t 4] := by kernel_rfl
theorem nt13 : Tryd.f13.ntmps = 37 := by kernel_rfl
theorem nm13 : (Tryd.f13.name == "runtime.NumGoroutine") = false := by kernel_rfl
def a13_0 : List AO := [⟨(some 2), none, .mv (.v .nils)⟩,
  ⟨(some 3), none, .mv (.v .nils)⟩,
  ⟨(some 4), none, .mv (.v (.int .i64 0))⟩]
theorem tr13_0 : TR Tryd.f13 37 0 = some a13_0 := by kernel_rfl
def a13_1 : List AO := [⟨(some 11), none, .mv (.t 0)⟩,
  ⟨(some 12), none, .call 24 [(.t 11)]⟩,
  ⟨(some 13), none, .call 15 [(.t 12)]⟩,
  ⟨(some 5), none, .mv (.t 13)⟩]
theorem tr13_1 : TR Tryd.f13 37 1 = some a13_1 := by kernel_rfl
def a13_2 : List AO := [⟨(some 6), none, .mv (.v .nils)⟩]
theorem tr13_2 : TR Tryd.f13 37 2 = some a13_2 := by kernel_rfl
def a13_3 : List AO := [⟨(some 14), none, .mv (.t 5)⟩,
  ⟨(some 15), none, .len (.t 14)⟩,
  ⟨(some 16), none, .mv (.v (.int .i64 0))⟩]
theorem tr13_3 : TR Tryd.f13 37 3 = some a13_3 := by kernel_rfl
def a13_4 : List AO := [⟨(some 17), none, .bin .lss (.t 16) (.t 15)⟩]
theorem tr13_4 : TR Tryd.f13 37 4 = some a13_4 := by kernel_rfl
def a13_5 : List AO := [⟨(some 18), none, .idx 1 (.t 14) (.t 16)⟩,
  ⟨(some 19), none, .load none (.t 18)⟩,
  ⟨(some 8), none, .mv (.t 19)⟩]
theorem tr13_5 : TR Tryd.f13 37 5 = some a13_5 := by kernel_rfl
def a13_6 : List AO := [⟨(some 21), none, .mv (.t 0)⟩,
  ⟨(some 22), none, .mv (.t 8)⟩,
  ⟨(some 23), none, .look 0 false .nils (.t 21) (.t 22)⟩,
  ⟨(some 24), none, .call 25 [(.t 23)]⟩,
  ⟨(some 20), none, .mv (.t 24)⟩,
  ⟨(some 25), none, .ext 0 (.t 20)⟩,
  ⟨(some 26), none, .ext 1 (.t 20)⟩,
  ⟨(some 9), none, .mv (.t 25)⟩,
  ⟨(some 10), none, .mv (.t 26)⟩]
theorem tr13_6 : TR Tryd.f13 37 6 = some a13_6 := by kernel_rfl
def a13_7 : List AO := [⟨(some 27), none, .mv (.t 10)⟩,
  ⟨(some 28), none, .bin .neq (.t 27) (.v (.int .i64 0))⟩]
theorem tr13_7 : TR Tryd.f13 37 7 = some a13_7 := by kernel_rfl
def a13_8 : List AO := [⟨(some 29), none, .mv (.t 10)⟩,
  ⟨(some 2), none, .mv (.v .nils)⟩,
  ⟨(some 3), none, .mv (.v .nils)⟩,
  ⟨(some 4), none, .mv (.t 29)⟩]
theorem tr13_8 : TR Tryd.f13 37 8 = some a13_8 := by kernel_rfl
def a13_9 : List AO := [⟨(some 30), none, .mv (.t 6)⟩,
  ⟨(some 31), none, .mv (.t 9)⟩,
  ⟨(some 32), none, .slc 3 1 false [(.t 31)]⟩,
  ⟨(some 33), none, .app 3 1 8 (.t 30) (.t 32)⟩,
  ⟨(some 6), none, .mv (.t 33)⟩]
theorem tr13_9 : TR Tryd.f13 37 9 = some a13_9 := by kernel_rfl
def a13_10 : List AO := [⟨(some 34), none, .bin .add (.t 16) (.v (.int .i64 1))⟩,
  ⟨(some 16), none, .mv (.t 34)⟩]
theorem tr13_10 : TR Tryd.f13 37 10 = some a13_10 := by kernel_rfl
def a13_11 : List AO := [⟨(some 35), none, .mv (.t 5)⟩,
  ⟨(some 36), none, .mv (.t 6)⟩,
  ⟨(some 2), none, .mv (.t 35)⟩,
  ⟨(some 3), none, .mv (.t 36)⟩,
  ⟨(some 4), none, .mv (.v (.int .i64 0))⟩]
theorem tr13_11 : TR Tryd.f13 37 11 = some a13_11 := by kernel_rfl
/-- airline/settle.out -/
noncomputable def c14 : Code := .seq (.region 0 (ro Tryd.f14 0) false) (.seq (.region 1 (ro Tryd.f14 1) false) (.ret))
theorem body14 : Tryd.f14.body = some c14 := by kernel_rfl
theorem res14 : Tryd.f14.results.toList.mapM (trR Tryd.prog) = some [.t 2] := by kernel_rfl
theorem nt14 : Tryd.f14.ntmps = 9 := by kernel_rfl
theorem nm14 : (Tryd.f14.name == "runtime.NumGoroutine") = false := by kernel_rfl
def a14_0 : List AO := [⟨(some 2), none, .mv (.v (.bool false))⟩]
theorem tr14_0 : TR Tryd.f14 9 0 = some a14_0 := by kernel_rfl
def a14_1 : List AO := [⟨(some 3), none, .mv (.t 0)⟩,
  ⟨(some 4), none, .bin .lss (.t 3) (.v (.int .i64 (-1099511627776)))⟩,
  ⟨(some 5), none, .mv (.t 4)⟩,
  ⟨(some 6), some (5, false), .mv (.t 0)⟩,
  ⟨(some 7), some (5, false), .bin .gtr (.t 6) (.v (.int .i64 1099511627776))⟩,
  ⟨(some 8), none, .pick (.t 5) (.v (.bool true)) (.t 7)⟩,
  ⟨(some 2), none, .mv (.t 8)⟩]
theorem tr14_1 : TR Tryd.f14 9 1 = some a14_1 := by kernel_rfl
/-- slices.Sorted[string] -/
noncomputable def c15 : Code := .seq (.region 0 (ro Tryd.f15 0) false) (.seq (.region 1 (ro Tryd.f15 1) false) (.seq (.region 2 (ro Tryd.f15 2) false) (.seq (.region 3 (ro Tryd.f15 3) false) (.ret))))
theorem body15 : Tryd.f15.body = some c15 := by kernel_rfl
theorem res15 : Tryd.f15.results.toList.mapM (trR Tryd.prog) = some [.t 2] := by kernel_rfl
theorem nt15 : Tryd.f15.ntmps = 9 := by kernel_rfl
theorem nm15 : (Tryd.f15.name == "runtime.NumGoroutine") = false := by kernel_rfl
def a15_0 : List AO := [⟨(some 2), none, .mv (.v .nils)⟩]
theorem tr15_0 : TR Tryd.f15 9 0 = some a15_0 := by kernel_rfl
def a15_1 : List AO := [⟨(some 4), none, .mv (.t 0)⟩,
  ⟨(some 5), none, .call 26 [(.t 4)]⟩,
  ⟨(some 3), none, .mv (.t 5)⟩]
theorem tr15_1 : TR Tryd.f15 9 1 = some a15_1 := by kernel_rfl
def a15_2 : List AO := [⟨(some 6), none, .mv (.t 3)⟩,
  ⟨(some 7), none, .call 27 [(.t 6)]⟩]
theorem tr15_2 : TR Tryd.f15 9 2 = some a15_2 := by kernel_rfl
def a15_3 : List AO := [⟨(some 8), none, .mv (.t 3)⟩,
  ⟨(some 2), none, .mv (.t 8)⟩]
theorem tr15_3 : TR Tryd.f15 9 3 = some a15_3 := by kernel_rfl
/-- maps.Keys[map[string]int,string,int] -/
noncomputable def c16 : Code := .seq (.region 0 (ro Tryd.f16 0) false) (.seq (.region 1 (ro Tryd.f16 1) false) (.ret))
theorem body16 : Tryd.f16.body = some c16 := by kernel_rfl
theorem res16 : Tryd.f16.results.toList.mapM (trR Tryd.prog) = some [.t 2] := by kernel_rfl
theorem nt16 : Tryd.f16.ntmps = 4 := by kernel_rfl
theorem nm16 : (Tryd.f16.name == "runtime.NumGoroutine") = false := by kernel_rfl
def a16_0 : List AO := [⟨(some 1), none, .box 65 (.t 0)⟩,
  ⟨(some 2), none, .mv (.v .any)⟩]
theorem tr16_0 : TR Tryd.f16 4 0 = some a16_0 := by kernel_rfl
def a16_1 : List AO := [⟨(some 3), none, .mkfn 28 [(.t 1)]⟩,
  ⟨(some 2), none, .mv (.t 3)⟩]
theorem tr16_1 : TR Tryd.f16 4 1 = some a16_1 := by kernel_rfl
/-- slices.ContainsFunc[[]airline/api.Post,airline/api.Post] -/
noncomputable def c17 : Code := .seq (.region 0 (ro Tryd.f17 0) false) (.seq (.region 1 (ro Tryd.f17 1) false) (.ret))
theorem body17 : Tryd.f17.body = some c17 := by kernel_rfl
theorem res17 : Tryd.f17.results.toList.mapM (trR Tryd.prog) = some [.t 4] := by kernel_rfl
theorem nt17 : Tryd.f17.ntmps = 9 := by kernel_rfl
theorem nm17 : (Tryd.f17.name == "runtime.NumGoroutine") = false := by kernel_rfl
def a17_0 : List AO := [⟨(some 4), none, .mv (.v (.bool false))⟩]
theorem tr17_0 : TR Tryd.f17 9 0 = some a17_0 := by kernel_rfl
def a17_1 : List AO := [⟨(some 5), none, .mv (.t 0)⟩,
  ⟨(some 6), none, .mv (.t 1)⟩,
  ⟨(some 7), none, .call 29 [(.t 5), (.t 6)]⟩,
  ⟨(some 8), none, .bin .geq (.t 7) (.v (.int .i64 0))⟩,
  ⟨(some 4), none, .mv (.t 8)⟩]
theorem tr17_1 : TR Tryd.f17 9 1 = some a17_1 := by kernel_rfl
/-- airline/settle.Transfers 1 -/
noncomputable def c18 : Code := .seq (.region 0 (ro Tryd.f18 0) false) (.seq (.region 1 (ro Tryd.f18 1) false) (.ret))
theorem body18 : Tryd.f18.body = some c18 := by kernel_rfl
theorem res18 : Tryd.f18.results.toList.mapM (trR Tryd.prog) = some [.t 2] := by kernel_rfl
theorem nt18 : Tryd.f18.ntmps = 6 := by kernel_rfl
theorem nm18 : (Tryd.f18.name == "runtime.NumGoroutine") = false := by kernel_rfl
def a18_0 : List AO := [⟨(some 1), none, .box 64 (.t 0)⟩,
  ⟨(some 2), none, .mv (.v (.bool false))⟩]
theorem tr18_0 : TR Tryd.f18 6 0 = some a18_0 := by kernel_rfl
def a18_1 : List AO := [⟨(some 3), none, .fld 1 (.t 1)⟩,
  ⟨(some 4), none, .load none (.t 3)⟩,
  ⟨(some 5), none, .call 14 [(.t 4)]⟩,
  ⟨(some 2), none, .mv (.t 5)⟩]
theorem tr18_1 : TR Tryd.f18 6 1 = some a18_1 := by kernel_rfl
/-- slices.Clone[[]airline/api.Post,airline/api.Post] -/
noncomputable def c19 : Code := .seq (.region 0 (ro Tryd.f19 0) false) (.seq (.seq (.region 1 (ro Tryd.f19 1) false) (.cond (.tmp 4) (.seq (.region 2 (ro Tryd.f19 2) false) (.ret)) (.skip))) (.seq (.region 3 (ro Tryd.f19 3) false) (.ret)))
theorem body19 : Tryd.f19.body = some c19 := by kernel_rfl
theorem res19 : Tryd.f19.results.toList.mapM (trR Tryd.prog) = some [.t 2] := by kernel_rfl
theorem nt19 : Tryd.f19.ntmps = 8 := by kernel_rfl
theorem nm19 : (Tryd.f19.name == "runtime.NumGoroutine") = false := by kernel_rfl
def a19_0 : List AO := [⟨(some 2), none, .mv (.v .nils)⟩]
theorem tr19_0 : TR Tryd.f19 8 0 = some a19_0 := by kernel_rfl
def a19_1 : List AO := [⟨(some 3), none, .mv (.t 0)⟩,
  ⟨(some 4), none, .binn .eql (.t 3) (.v .nils)⟩]
theorem tr19_1 : TR Tryd.f19 8 1 = some a19_1 := by kernel_rfl
def a19_2 : List AO := [⟨(some 2), none, .mv (.v .nils)⟩]
theorem tr19_2 : TR Tryd.f19 8 2 = some a19_2 := by kernel_rfl
def a19_3 : List AO := [⟨(some 5), none, .slc 64 2 false []⟩,
  ⟨(some 6), none, .mv (.t 0)⟩,
  ⟨(some 7), none, .app 64 2 24 (.t 5) (.t 6)⟩,
  ⟨(some 2), none, .mv (.t 7)⟩]
theorem tr19_3 : TR Tryd.f19 8 3 = some a19_3 := by kernel_rfl
/-- airline/calendar.Date -/
noncomputable def c20 : Code := .seq (.region 0 (ro Tryd.f20 0) false) (.seq (.seq (.region 1 (ro Tryd.f20 1) false) (.cond (.tmp 14) (.seq (.region 2 (ro Tryd.f20 2) false) (.ret)) (.skip))) (.seq (.region 3 (ro Tryd.f20 3) false) (.seq (.block 0 (.loop (.seq (.seq (.region 4 (ro Tryd.f20 4) false) (.cond (.tmp 22) (.skip) (.exit 0))) (.block 1 (.region 5 (ro Tryd.f20 5) false))))) (.seq (.region 6 (ro Tryd.f20 6) false) (.seq (.seq (.region 7 (ro Tryd.f20 7) false) (.block 2 (.loop (.seq (.region 8 (ro Tryd.f20 8) false) (.seq (.cond (.tmp 30) (.skip) (.exit 2)) (.seq (.block 3 (.seq (.region 9 (ro Tryd.f20 9) false) (.seq (.region 10 (ro Tryd.f20 10) false) (.seq (.seq (.region 11 (ro Tryd.f20 11) false) (.cond (.tmp 38) (.seq (.region 12 (ro Tryd.f20 12) false) (.ret)) (.skip))) (.region 13 (ro Tryd.f20 13) false))))) (.region 14 (ro Tryd.f20 14) false))))))) (.seq (.region 15 (ro Tryd.f20 15) false) (.ret)))))))
theorem body20 : Tryd.f20.body = some c20 := by kernel_rfl
theorem res20 : Tryd.f20.results.toList.mapM (trR Tryd.prog) = some [.t 2, .t 3, .t 4] := by kernel_rfl
theorem nt20 : Tryd.f20.ntmps = 48 := by kernel_rfl
theorem nm20 : (Tryd.f20.name == "runtime.NumGoroutine") = false := by kernel_rfl
def a20_0 : List AO := [⟨(some 2), none, .mv (.v (.int .i64 0))⟩,
  ⟨(some 3), none, .mv (.v (.int .i64 0))⟩,
  ⟨(some 4), none, .mv (.v (.int .i64 0))⟩]
theorem tr20_0 : TR Tryd.f20 48 0 = some a20_0 := by kernel_rfl
def a20_1 : List AO := [⟨(some 9), none, .mv (.t 0)⟩,
  ⟨(some 10), none, .bin .lss (.t 9) (.v (.int .i64 0))⟩,
  ⟨(some 11), none, .mv (.t 10)⟩,
  ⟨(some 12), some (11, false), .mv (.t 0)⟩,
  ⟨(some 13), some (11, false), .bin .geq (.t 12) (.v (.int .i64 36525))⟩,
  ⟨(some 14), none, .pick (.t 11) (.v (.bool true)) (.t 13)⟩]
theorem tr20_1 : TR Tryd.f20 48 1 = some a20_1 := by kernel_rfl
def a20_2 : List AO := [⟨(some 2), none, .mv (.v (.int .i64 0))⟩,
  ⟨(some 3), none, .mv (.v (.int .i64 0))⟩,
  ⟨(some 4), none, .mv (.v (.int .i64 0))⟩]
theorem tr20_2 : TR Tryd.f20 48 2 = some a20_2 := by kernel_rfl
def a20_3 : List AO := [⟨(some 15), none, .mv (.t 0)⟩,
  ⟨(some 16), none, .bin .quo (.t 15) (.v (.int .i64 366))⟩,
  ⟨(some 17), none, .bin .add (.v (.int .i64 2000)) (.t 16)⟩,
  ⟨(some 5), none, .mv (.t 17)⟩]
theorem tr20_3 : TR Tryd.f20 48 3 = some a20_3 := by kernel_rfl
def a20_4 : List AO := [⟨(some 18), none, .mv (.t 5)⟩,
  ⟨(some 19), none, .bin .add (.t 18) (.v (.int .i64 1))⟩,
  ⟨(some 20), none, .call 30 [(.t 19)]⟩,
  ⟨(some 21), none, .mv (.t 0)⟩,
  ⟨(some 22), none, .bin .leq (.t 20) (.t 21)⟩]
theorem tr20_4 : TR Tryd.f20 48 4 = some a20_4 := by kernel_rfl
def a20_5 : List AO := [⟨(some 23), none, .mv (.t 5)⟩,
  ⟨(some 24), none, .bin .add (.t 23) (.v (.int .i64 1))⟩,
  ⟨(some 5), none, .mv (.t 24)⟩]
theorem tr20_5 : TR Tryd.f20 48 5 = some a20_5 := by kernel_rfl
def a20_6 : List AO := [⟨(some 25), none, .mv (.t 0)⟩,
  ⟨(some 26), none, .mv (.t 5)⟩,
  ⟨(some 27), none, .call 30 [(.t 26)]⟩,
  ⟨(some 28), none, .bin .sub (.t 25) (.t 27)⟩,
  ⟨(some 6), none, .mv (.t 28)⟩]
theorem tr20_6 : TR Tryd.f20 48 6 = some a20_6 := by kernel_rfl
def a20_7 : List AO := [⟨(some 29), none, .mv (.v (.int .i64 0))⟩]
theorem tr20_7 : TR Tryd.f20 48 7 = some a20_7 := by kernel_rfl
def a20_8 : List AO := [⟨(some 30), none, .bin .lss (.t 29) (.v (.int .i64 12))⟩]
theorem tr20_8 : TR Tryd.f20 48 8 = some a20_8 := by kernel_rfl
def a20_9 : List AO := [⟨(some 31), none, .mv (.t 29)⟩,
  ⟨(some 7), none, .mv (.t 31)⟩]
theorem tr20_9 : TR Tryd.f20 48 9 = some a20_9 := by kernel_rfl
def a20_10 : List AO := [⟨(some 32), none, .mv (.t 5)⟩,
  ⟨(some 33), none, .mv (.t 7)⟩,
  ⟨(some 34), none, .bin .add (.t 33) (.v (.int .i64 1))⟩,
  ⟨(some 35), none, .call 31 [(.t 32), (.t 34)]⟩,
  ⟨(some 8), none, .mv (.t 35)⟩]
theorem tr20_10 : TR Tryd.f20 48 10 = some a20_10 := by kernel_rfl
def a20_11 : List AO := [⟨(some 36), none, .mv (.t 6)⟩,
  ⟨(some 37), none, .mv (.t 8)⟩,
  ⟨(some 38), none, .bin .lss (.t 36) (.t 37)⟩]
theorem tr20_11 : TR Tryd.f20 48 11 = some a20_11 := by kernel_rfl
def a20_12 : List AO := [⟨(some 39), none, .mv (.t 5)⟩,
  ⟨(some 40), none, .mv (.t 7)⟩,
  ⟨(some 41), none, .bin .add (.t 40) (.v (.int .i64 1))⟩,
  ⟨(some 42), none, .mv (.t 6)⟩,
  ⟨(some 43), none, .bin .add (.t 42) (.v (.int .i64 1))⟩,
  ⟨(some 2), none, .mv (.t 39)⟩,
  ⟨(some 3), none, .mv (.t 41)⟩,
  ⟨(some 4), none, .mv (.t 43)⟩]
theorem tr20_12 : TR Tryd.f20 48 12 = some a20_12 := by kernel_rfl
def a20_13 : List AO := [⟨(some 44), none, .mv (.t 6)⟩,
  ⟨(some 45), none, .mv (.t 8)⟩,
  ⟨(some 46), none, .bin .sub (.t 44) (.t 45)⟩,
  ⟨(some 6), none, .mv (.t 46)⟩]
theorem tr20_13 : TR Tryd.f20 48 13 = some a20_13 := by kernel_rfl
def a20_14 : List AO := [⟨(some 47), none, .bin .add (.t 29) (.v (.int .i64 1))⟩,
  ⟨(some 29), none, .mv (.t 47)⟩]
theorem tr20_14 : TR Tryd.f20 48 14 = some a20_14 := by kernel_rfl
def a20_15 : List AO := [⟨(some 2), none, .mv (.v (.int .i64 0))⟩,
  ⟨(some 3), none, .mv (.v (.int .i64 0))⟩,
  ⟨(some 4), none, .mv (.v (.int .i64 0))⟩]
theorem tr20_15 : TR Tryd.f20 48 15 = some a20_15 := by kernel_rfl
/-- airline/calendar.two -/
noncomputable def c21 : Code := .seq (.region 0 (ro Tryd.f21 0) false) (.seq (.region 1 (ro Tryd.f21 1) false) (.ret))
theorem body21 : Tryd.f21.body = some c21 := by kernel_rfl
theorem res21 : Tryd.f21.results.toList.mapM (trR Tryd.prog) = some [.t 2] := by kernel_rfl
theorem nt21 : Tryd.f21.ntmps = 13 := by kernel_rfl
theorem nm21 : (Tryd.f21.name == "runtime.NumGoroutine") = false := by kernel_rfl
def a21_0 : List AO := [⟨(some 2), none, .mv (.v (.str []))⟩]
theorem tr21_0 : TR Tryd.f21 13 0 = some a21_0 := by kernel_rfl
def a21_1 : List AO := [⟨(some 3), none, .mv (.t 0)⟩,
  ⟨(some 4), none, .bin .quo (.t 3) (.v (.int .i64 10))⟩,
  ⟨(some 5), none, .bin .add (.v (.int .i64 48)) (.t 4)⟩,
  ⟨(some 6), none, .conv .u8 (.t 5)⟩,
  ⟨(some 7), none, .mv (.t 0)⟩,
  ⟨(some 8), none, .bin .rem (.t 7) (.v (.int .i64 10))⟩,
  ⟨(some 9), none, .bin .add (.v (.int .i64 48)) (.t 8)⟩,
  ⟨(some 10), none, .conv .u8 (.t 9)⟩,
  ⟨(some 11), none, .slc 5 1 false [(.t 6), (.t 10)]⟩,
  ⟨(some 12), none, .b2s (.t 11)⟩,
  ⟨(some 2), none, .mv (.t 12)⟩]
theorem tr21_1 : TR Tryd.f21 13 1 = some a21_1 := by kernel_rfl
/-- airline/period.each -/
noncomputable def c22 : Code := .seq (.region 0 (ro Tryd.f22 0) false) (.seq (.region 1 (ro Tryd.f22 1) false) (.ret))
theorem body22 : Tryd.f22.body = some c22 := by kernel_rfl
theorem res22 : Tryd.f22.results.toList.mapM (trR Tryd.prog) = some [.t 2] := by kernel_rfl
theorem nt22 : Tryd.f22.ntmps = 4 := by kernel_rfl
theorem nm22 : (Tryd.f22.name == "runtime.NumGoroutine") = false := by kernel_rfl
def a22_0 : List AO := [⟨(some 1), none, .box 54 (.t 0)⟩,
  ⟨(some 2), none, .mv (.v .any)⟩]
theorem tr22_0 : TR Tryd.f22 4 0 = some a22_0 := by kernel_rfl
def a22_1 : List AO := [⟨(some 3), none, .mkfn 32 [(.t 1)]⟩,
  ⟨(some 2), none, .mv (.t 3)⟩]
theorem tr22_1 : TR Tryd.f22 4 1 = some a22_1 := by kernel_rfl
/-- airline/zone.Offset -/
noncomputable def c23 : Code := .seq (.region 0 (ro Tryd.f23 0) false) (.seq (.region 1 (ro Tryd.f23 1) false) (.seq (.seq (.region 2 (ro Tryd.f23 2) false) (.block 0 (.loop (.seq (.region 3 (ro Tryd.f23 3) false) (.seq (.cond (.tmp 14) (.skip) (.exit 0)) (.seq (.block 1 (.seq (.region 4 (ro Tryd.f23 4) false) (.seq (.seq (.region 5 (ro Tryd.f23 5) false) (.cond (.tmp 20) (.exit 0) (.skip))) (.region 6 (ro Tryd.f23 6) false)))) (.region 7 (ro Tryd.f23 7) false))))))) (.seq (.region 8 (ro Tryd.f23 8) false) (.ret))))
theorem body23 : Tryd.f23.body = some c23 := by kernel_rfl
theorem res23 : Tryd.f23.results.toList.mapM (trR Tryd.prog) = some [.t 4] := by kernel_rfl
theorem nt23 : Tryd.f23.ntmps = 25 := by kernel_rfl
theorem nm23 : (Tryd.f23.name == "runtime.NumGoroutine") = false := by kernel_rfl
def a23_0 : List AO := [⟨(some 2), none, .box 58 (.t 0)⟩,
  ⟨(some 4), none, .mv (.v (.int .i64 0))⟩]
theorem tr23_0 : TR Tryd.f23 25 0 = some a23_0 := by kernel_rfl
def a23_1 : List AO := [⟨(some 8), none, .fld 0 (.t 2)⟩,
  ⟨(some 9), none, .load none (.t 8)⟩,
  ⟨(some 5), none, .mv (.t 9)⟩]
theorem tr23_1 : TR Tryd.f23 25 1 = some a23_1 := by kernel_rfl
def a23_2 : List AO := [⟨(some 10), none, .fld 1 (.t 2)⟩,
  ⟨(some 11), none, .load none (.t 10)⟩,
  ⟨(some 12), none, .len (.t 11)⟩,
  ⟨(some 13), none, .mv (.v (.int .i64 0))⟩]
theorem tr23_2 : TR Tryd.f23 25 2 = some a23_2 := by kernel_rfl
def a23_3 : List AO := [⟨(some 14), none, .bin .lss (.t 13) (.t 12)⟩]
theorem tr23_3 : TR Tryd.f23 25 3 = some a23_3 := by kernel_rfl
def a23_4 : List AO := [⟨(some 15), none, .idx 2 (.t 11) (.t 13)⟩,
  ⟨(some 16), none, .load (some 2) (.t 15)⟩,
  ⟨(some 7), none, .alloc 92 [(.int .i64 0), (.int .i64 0)]⟩,
  ⟨none, none, .store 2 (.t 7) (.t 16)⟩]
theorem tr23_4 : TR Tryd.f23 25 4 = some a23_4 := by kernel_rfl
def a23_5 : List AO := [⟨(some 17), none, .fld 0 (.t 7)⟩,
  ⟨(some 18), none, .load none (.t 17)⟩,
  ⟨(some 19), none, .mv (.t 1)⟩,
  ⟨(some 20), none, .bin .gtr (.t 18) (.t 19)⟩]
theorem tr23_5 : TR Tryd.f23 25 5 = some a23_5 := by kernel_rfl
def a23_6 : List AO := [⟨(some 21), none, .fld 1 (.t 7)⟩,
  ⟨(some 22), none, .load none (.t 21)⟩,
  ⟨(some 5), none, .mv (.t 22)⟩]
theorem tr23_6 : TR Tryd.f23 25 6 = some a23_6 := by kernel_rfl
def a23_7 : List AO := [⟨(some 23), none, .bin .add (.t 13) (.v (.int .i64 1))⟩,
  ⟨(some 13), none, .mv (.t 23)⟩]
theorem tr23_7 : TR Tryd.f23 25 7 = some a23_7 := by kernel_rfl
def a23_8 : List AO := [⟨(some 24), none, .mv (.t 5)⟩,
  ⟨(some 4), none, .mv (.t 24)⟩]
theorem tr23_8 : TR Tryd.f23 25 8 = some a23_8 := by kernel_rfl
/-- maps.Keys[map[string][]int,string,[]int] -/
noncomputable def c24 : Code := .seq (.region 0 (ro Tryd.f24 0) false) (.seq (.region 1 (ro Tryd.f24 1) false) (.ret))
theorem body24 : Tryd.f24.body = some c24 := by kernel_rfl
theorem res24 : Tryd.f24.results.toList.mapM (trR Tryd.prog) = some [.t 2] := by kernel_rfl
theorem nt24 : Tryd.f24.ntmps = 4 := by kernel_rfl
theorem nm24 : (Tryd.f24.name == "runtime.NumGoroutine") = false := by kernel_rfl
def a24_0 : List AO := [⟨(some 1), none, .box 59 (.t 0)⟩,
  ⟨(some 2), none, .mv (.v .any)⟩]
theorem tr24_0 : TR Tryd.f24 4 0 = some a24_0 := by kernel_rfl
def a24_1 : List AO := [⟨(some 3), none, .mkfn 35 [(.t 1)]⟩,
  ⟨(some 2), none, .mv (.t 3)⟩]
theorem tr24_1 : TR Tryd.f24 4 1 = some a24_1 := by kernel_rfl
/-- airline/money.Sum -/
noncomputable def c25 : Code := .seq (.region 0 (ro Tryd.f25 0) false) (.seq (.region 1 (ro Tryd.f25 1) false) (.seq (.seq (.region 2 (ro Tryd.f25 2) false) (.block 0 (.loop (.seq (.region 3 (ro Tryd.f25 3) false) (.seq (.cond (.tmp 10) (.skip) (.exit 0)) (.seq (.block 1 (.seq (.region 4 (ro Tryd.f25 4) false) (.seq (.seq (.region 5 (ro Tryd.f25 5) false) (.cond (.tmp 22) (.seq (.region 6 (ro Tryd.f25 6) false) (.ret)) (.skip))) (.region 7 (ro Tryd.f25 7) false)))) (.region 8 (ro Tryd.f25 8) false))))))) (.seq (.region 9 (ro Tryd.f25 9) false) (.ret))))
theorem body25 : Tryd.f25.body = some c25 := by kernel_rfl
theorem res25 : Tryd.f25.results.toList.mapM (trR Tryd.prog) = some [.t 2, .t 3] := by kernel_rfl
theorem nt25 : Tryd.f25.ntmps = 28 := by kernel_rfl
theorem nm25 : (Tryd.f25.name == "runtime.NumGoroutine") = false := by kernel_rfl
def a25_0 : List AO := [⟨(some 2), none, .mv (.v (.int .i64 0))⟩,
  ⟨(some 3), none, .mv (.v (.int .i64 0))⟩]
theorem tr25_0 : TR Tryd.f25 28 0 = some a25_0 := by kernel_rfl
def a25_1 : List AO := [⟨(some 4), none, .mv (.v (.int .i64 0))⟩]
theorem tr25_1 : TR Tryd.f25 28 1 = some a25_1 := by kernel_rfl
def a25_2 : List AO := [⟨(some 7), none, .mv (.t 0)⟩,
  ⟨(some 8), none, .len (.t 7)⟩,
  ⟨(some 9), none, .mv (.v (.int .i64 0))⟩]
theorem tr25_2 : TR Tryd.f25 28 2 = some a25_2 := by kernel_rfl
def a25_3 : List AO := [⟨(some 10), none, .bin .lss (.t 9) (.t 8)⟩]
theorem tr25_3 : TR Tryd.f25 28 3 = some a25_3 := by kernel_rfl
def a25_4 : List AO := [⟨(some 11), none, .idx 1 (.t 7) (.t 9)⟩,
  ⟨(some 12), none, .load none (.t 11)⟩,
  ⟨(some 6), none, .mv (.t 12)⟩]
theorem tr25_4 : TR Tryd.f25 28 4 = some a25_4 := by kernel_rfl
def a25_5 : List AO := [⟨(some 13), none, .mv (.t 6)⟩,
  ⟨(some 14), none, .call 36 [(.t 13)]⟩,
  ⟨(some 15), none, .un .not (.t 14)⟩,
  ⟨(some 16), none, .mv (.t 15)⟩,
  ⟨(some 17), some (16, false), .mv (.t 4)⟩,
  ⟨(some 18), some (16, false), .mv (.t 6)⟩,
  ⟨(some 19), some (16, false), .bin .add (.t 17) (.t 18)⟩,
  ⟨(some 20), some (16, false), .call 36 [(.t 19)]⟩,
  ⟨(some 21), some (16, false), .un .not (.t 20)⟩,
  ⟨(some 22), none, .pick (.t 16) (.v (.bool true)) (.t 21)⟩]
theorem tr25_5 : TR Tryd.f25 28 5 = some a25_5 := by kernel_rfl
def a25_6 : List AO := [⟨(some 2), none, .mv (.v (.int .i64 0))⟩,
  ⟨(some 3), none, .mv (.v (.int .i64 11))⟩]
theorem tr25_6 : TR Tryd.f25 28 6 = some a25_6 := by kernel_rfl
def a25_7 : List AO := [⟨(some 23), none, .mv (.t 4)⟩,
  ⟨(some 24), none, .mv (.t 6)⟩,
  ⟨(some 25), none, .bin .add (.t 23) (.t 24)⟩,
  ⟨(some 4), none, .mv (.t 25)⟩]
theorem tr25_7 : TR Tryd.f25 28 7 = some a25_7 := by kernel_rfl
def a25_8 : List AO := [⟨(some 26), none, .bin .add (.t 9) (.v (.int .i64 1))⟩,
  ⟨(some 9), none, .mv (.t 26)⟩]
theorem tr25_8 : TR Tryd.f25 28 8 = some a25_8 := by kernel_rfl
def a25_9 : List AO := [⟨(some 27), none, .mv (.t 4)⟩,
  ⟨(some 2), none, .mv (.t 27)⟩,
  ⟨(some 3), none, .mv (.v (.int .i64 0))⟩]
theorem tr25_9 : TR Tryd.f25 28 9 = some a25_9 := by kernel_rfl
/-- slices.Collect[string] -/
noncomputable def c26 : Code := .seq (.region 0 (ro Tryd.f26 0) false) (.seq (.region 1 (ro Tryd.f26 1) false) (.ret))
theorem body26 : Tryd.f26.body = some c26 := by kernel_rfl
theorem res26 : Tryd.f26.results.toList.mapM (trR Tryd.prog) = some [.t 2] := by kernel_rfl
theorem nt26 : Tryd.f26.ntmps = 5 := by kernel_rfl
theorem nm26 : (Tryd.f26.name == "runtime.NumGoroutine") = false := by kernel_rfl
def a26_0 : List AO := [⟨(some 2), none, .mv (.v .nils)⟩]
theorem tr26_0 : TR Tryd.f26 5 0 = some a26_0 := by kernel_rfl
def a26_1 : List AO := [⟨(some 3), none, .mv (.t 0)⟩,
  ⟨(some 4), none, .call 37 [(.v .nils), (.t 3)]⟩,
  ⟨(some 2), none, .mv (.t 4)⟩]
theorem tr26_1 : TR Tryd.f26 5 1 = some a26_1 := by kernel_rfl
/-- slices.Sort[[]string,string] -/
noncomputable def c27 : Code := .seq (.region 0 (ro Tryd.f27 0) false) (.region 1 (ro Tryd.f27 1) false)
theorem body27 : Tryd.f27.body = some c27 := by kernel_rfl
theorem res27 : Tryd.f27.results.toList.mapM (trR Tryd.prog) = some [] := by kernel_rfl
theorem nt27 : Tryd.f27.ntmps = 11 := by kernel_rfl
theorem nm27 : (Tryd.f27.name == "runtime.NumGoroutine") = false := by kernel_rfl
def a27_0 : List AO := [⟨(some 3), none, .mv (.t 0)⟩,
  ⟨(some 4), none, .len (.t 3)⟩,
  ⟨(some 2), none, .mv (.t 4)⟩]
theorem tr27_0 : TR Tryd.f27 11 0 = some a27_0 := by kernel_rfl
def a27_1 : List AO := [⟨(some 5), none, .mv (.t 0)⟩,
  ⟨(some 6), none, .mv (.t 2)⟩,
  ⟨(some 7), none, .mv (.t 2)⟩,
  ⟨(some 8), none, .conv .u64 (.t 7)⟩,
  ⟨(some 9), none, .call 39 [(.t 8)]⟩,
  ⟨(some 10), none, .call 38 [(.t 5), (.v (.int .i64 0)), (.t 6), (.t 9)]⟩]
theorem tr27_1 : TR Tryd.f27 11 1 = some a27_1 := by kernel_rfl
/-- maps.Keys[map[string]int,string,int] 1 -/
noncomputable def c28 : Code := .seq (.region 0 (ro Tryd.f28 0) false) (.block 0 (.loop (.seq (.region 1 (ro Tryd.f28 1) false) (.seq (.cond (.tmp 7) (.skip) (.exit 0)) (.block 1 (.seq (.region 2 (ro Tryd.f28 2) false) (.seq (.region 3 (ro Tryd.f28 3) false) (.cond (.tmp 13) (.ret) (.skip)))))))))
theorem body28 : Tryd.f28.body = some c28 := by kernel_rfl
theorem res28 : Tryd.f28.results.toList.mapM (trR Tryd.prog) = some [] := by kernel_rfl
theorem nt28 : Tryd.f28.ntmps = 14 := by kernel_rfl
theorem nm28 : (Tryd.f28.name == "runtime.NumGoroutine") = false := by kernel_rfl
-- region 0: not translated: !! range 65 t4
def a28_0p : List AO := [⟨(some 4), none, .load none (.t 1)⟩]
theorem tr28_0p : (ro Tryd.f28 0).toList.dropLast.mapM (trO Tryd.prog 14 (ro Tryd.f28 0)) = some a28_0p := by kernel_rfl
-- region 1: not translated: !! next false t5
-- region 2: not translated: !! entry t5
def a28_2s : List AO := [⟨(some 9), none, .ext 0 (.t 8)⟩,
  ⟨(some 3), none, .mv (.t 9)⟩]
theorem tr28_2s : (ro Tryd.f28 2).toList.tail.mapM (trO Tryd.prog 14 (ro Tryd.f28 2)) = some a28_2s := by kernel_rfl
def a28_3 : List AO := [⟨(some 10), none, .mv (.t 0)⟩,
  ⟨(some 11), none, .mv (.t 3)⟩,
  ⟨(some 12), none, .callv (.t 10) [(.t 11)]⟩,
  ⟨(some 13), none, .un .not (.t 12)⟩]
theorem tr28_3 : TR Tryd.f28 14 3 = some a28_3 := by kernel_rfl
/-- slices.IndexFunc[[]airline/api.Post,airline/api.Post] -/
noncomputable def c29 : Code := .seq (.region 0 (ro Tryd.f29 0) false) (.seq (.seq (.region 1 (ro Tryd.f29 1) false) (.block 0 (.loop (.seq (.region 2 (ro Tryd.f29 2) false) (.seq (.cond (.tmp 9) (.skip) (.exit 0)) (.seq (.block 1 (.seq (.region 3 (ro Tryd.f29 3) false) (.seq (.region 4 (ro Tryd.f29 4) false) (.cond (.tmp 16) (.seq (.region 5 (ro Tryd.f29 5) false) (.ret)) (.skip))))) (.region 6 (ro Tryd.f29 6) false))))))) (.seq (.region 7 (ro Tryd.f29 7) false) (.ret)))
theorem body29 : Tryd.f29.body = some c29 := by kernel_rfl
theorem res29 : Tryd.f29.results.toList.mapM (trR Tryd.prog) = some [.t 4] := by kernel_rfl
theorem nt29 : Tryd.f29.ntmps = 19 := by kernel_rfl
theorem nm29 : (Tryd.f29.name == "runtime.NumGoroutine") = false := by kernel_rfl
def a29_0 : List AO := [⟨(some 4), none, .mv (.v (.int .i64 0))⟩]
theorem tr29_0 : TR Tryd.f29 19 0 = some a29_0 := by kernel_rfl
def a29_1 : List AO := [⟨(some 6), none, .mv (.t 0)⟩,
  ⟨(some 7), none, .len (.t 6)⟩,
  ⟨(some 8), none, .mv (.v (.int .i64 0))⟩]
theorem tr29_1 : TR Tryd.f29 19 1 = some a29_1 := by kernel_rfl
def a29_2 : List AO := [⟨(some 9), none, .bin .lss (.t 8) (.t 7)⟩]
theorem tr29_2 : TR Tryd.f29 19 2 = some a29_2 := by kernel_rfl
def a29_3 : List AO := [⟨(some 10), none, .mv (.t 8)⟩,
  ⟨(some 5), none, .mv (.t 10)⟩]
theorem tr29_3 : TR Tryd.f29 19 3 = some a29_3 := by kernel_rfl
def a29_4 : List AO := [⟨(some 11), none, .mv (.t 1)⟩,
  ⟨(some 12), none, .mv (.t 0)⟩,
  ⟨(some 13), none, .mv (.t 5)⟩,
  ⟨(some 14), none, .idx 2 (.t 12) (.t 13)⟩,
  ⟨(some 15), none, .load (some 2) (.t 14)⟩,
  ⟨(some 16), none, .callv (.t 11) [(.t 15)]⟩]
theorem tr29_4 : TR Tryd.f29 19 4 = some a29_4 := by kernel_rfl
def a29_5 : List AO := [⟨(some 17), none, .mv (.t 5)⟩,
  ⟨(some 4), none, .mv (.t 17)⟩]
theorem tr29_5 : TR Tryd.f29 19 5 = some a29_5 := by kernel_rfl
def a29_6 : List AO := [⟨(some 18), none, .bin .add (.t 8) (.v (.int .i64 1))⟩,
  ⟨(some 8), none, .mv (.t 18)⟩]
theorem tr29_6 : TR Tryd.f29 19 6 = some a29_6 := by kernel_rfl
def a29_7 : List AO := [⟨(some 4), none, .mv (.v (.int .i64 (-1)))⟩]
theorem tr29_7 : TR Tryd.f29 19 7 = some a29_7 := by kernel_rfl
/-- airline/calendar.first -/
noncomputable def c30 : Code := .seq (.region 0 (ro Tryd.f30 0) false) (.seq (.region 1 (ro Tryd.f30 1) false) (.seq (.region 2 (ro Tryd.f30 2) false) (.ret)))
theorem body30 : Tryd.f30.body = some c30 := by kernel_rfl
theorem res30 : Tryd.f30.results.toList.mapM (trR Tryd.prog) = some [.t 2] := by kernel_rfl
theorem nt30 : Tryd.f30.ntmps = 12 := by kernel_rfl
theorem nm30 : (Tryd.f30.name == "runtime.NumGoroutine") = false := by kernel_rfl
def a30_0 : List AO := [⟨(some 2), none, .mv (.v (.int .i64 0))⟩]
theorem tr30_0 : TR Tryd.f30 12 0 = some a30_0 := by kernel_rfl
def a30_1 : List AO := [⟨(some 4), none, .mv (.t 0)⟩,
  ⟨(some 5), none, .bin .sub (.t 4) (.v (.int .i64 2000))⟩,
  ⟨(some 3), none, .mv (.t 5)⟩]
theorem tr30_1 : TR Tryd.f30 12 1 = some a30_1 := by kernel_rfl
def a30_2 : List AO := [⟨(some 6), none, .mv (.t 3)⟩,
  ⟨(some 7), none, .bin .mul (.v (.int .i64 365)) (.t 6)⟩,
  ⟨(some 8), none, .mv (.t 3)⟩,
  ⟨(some 9), none, .bin .add (.t 8) (.v (.int .i64 3))⟩,
  ⟨(some 10), none, .bin .quo (.t 9) (.v (.int .i64 4))⟩,
  ⟨(some 11), none, .bin .add (.t 7) (.t 10)⟩,
  ⟨(some 2), none, .mv (.t 11)⟩]
theorem tr30_2 : TR Tryd.f30 12 2 = some a30_2 := by kernel_rfl
/-- airline/calendar.length -/
noncomputable def c31 : Code := .seq (.region 0 (ro Tryd.f31 0) false) (.seq (.seq (.region 1 (ro Tryd.f31 1) false) (.cond (.tmp 11) (.seq (.region 2 (ro Tryd.f31 2) false) (.ret)) (.skip))) (.seq (.region 3 (ro Tryd.f31 3) false) (.ret)))
theorem body31 : Tryd.f31.body = some c31 := by kernel_rfl
theorem res31 : Tryd.f31.results.toList.mapM (trR Tryd.prog) = some [.t 4] := by kernel_rfl
theorem nt31 : Tryd.f31.ntmps = 16 := by kernel_rfl
theorem nm31 : (Tryd.f31.name == "runtime.NumGoroutine") = false := by kernel_rfl
def a31_0 : List AO := [⟨(some 4), none, .mv (.v (.int .i64 0))⟩]
theorem tr31_0 : TR Tryd.f31 16 0 = some a31_0 := by kernel_rfl
def a31_1 : List AO := [⟨(some 5), none, .mv (.t 1)⟩,
  ⟨(some 6), none, .bin .eql (.t 5) (.v (.int .i64 2))⟩,
  ⟨(some 7), none, .mv (.t 6)⟩,
  ⟨(some 8), some (7, true), .mv (.t 0)⟩,
  ⟨(some 9), some (7, true), .bin .rem (.t 8) (.v (.int .i64 4))⟩,
  ⟨(some 10), some (7, true), .bin .eql (.t 9) (.v (.int .i64 0))⟩,
  ⟨(some 11), none, .pick (.t 7) (.t 10) (.v (.bool false))⟩]
theorem tr31_1 : TR Tryd.f31 16 1 = some a31_1 := by kernel_rfl
def a31_2 : List AO := [⟨(some 4), none, .mv (.v (.int .i64 29))⟩]
theorem tr31_2 : TR Tryd.f31 16 2 = some a31_2 := by kernel_rfl
-- region 3: not translated: !! indexAddr 97 glob0 t13
/-- airline/period.each 1 -/
noncomputable def c32 : Code := .seq (.seq (.region 0 (ro Tryd.f32 0) false) (.cond (.tmp 6) (.ret) (.skip))) (.seq (.region 1 (ro Tryd.f32 1) false) (.block 0 (.loop (.seq (.seq (.region 2 (ro Tryd.f32 2) false) (.cond (.tmp 12) (.skip) (.exit 0))) (.seq (.block 1 (.seq (.region 4 (ro Tryd.f32 4) false) (.cond (.tmp 24) (.ret) (.skip)))) (.region 3 (ro Tryd.f32 3) false))))))
theorem body32 : Tryd.f32.body = some c32 := by kernel_rfl
theorem res32 : Tryd.f32.results.toList.mapM (trR Tryd.prog) = some [] := by kernel_rfl
theorem nt32 : Tryd.f32.ntmps = 25 := by kernel_rfl
theorem nm32 : (Tryd.f32.name == "runtime.NumGoroutine") = false := by kernel_rfl
def a32_0 : List AO := [⟨(some 4), none, .load (some 3) (.t 1)⟩,
  ⟨(some 5), none, .call 33 [(.t 4)]⟩,
  ⟨(some 6), none, .bin .neq (.t 5) (.v (.int .i64 0))⟩]
theorem tr32_0 : TR Tryd.f32 25 0 = some a32_0 := by kernel_rfl
def a32_1 : List AO := [⟨(some 7), none, .fld 0 (.t 1)⟩,
  ⟨(some 8), none, .load none (.t 7)⟩,
  ⟨(some 3), none, .mv (.t 8)⟩]
theorem tr32_1 : TR Tryd.f32 25 1 = some a32_1 := by kernel_rfl
def a32_2 : List AO := [⟨(some 9), none, .mv (.t 3)⟩,
  ⟨(some 10), none, .fld 1 (.t 1)⟩,
  ⟨(some 11), none, .load none (.t 10)⟩,
  ⟨(some 12), none, .bin .leq (.t 9) (.t 11)⟩]
theorem tr32_2 : TR Tryd.f32 25 2 = some a32_2 := by kernel_rfl
def a32_4 : List AO := [⟨(some 15), none, .fld 2 (.t 1)⟩,
  ⟨(some 16), none, .load none (.t 15)⟩,
  ⟨(some 17), none, .mv (.t 3)⟩,
  ⟨(some 18), none, .call 34 [(.t 16), (.t 17)]⟩,
  ⟨(some 19), none, .mv (.t 18)⟩,
  ⟨(some 20), some (19, true), .mv (.t 0)⟩,
  ⟨(some 21), some (19, true), .mv (.t 3)⟩,
  ⟨(some 22), some (19, true), .callv (.t 20) [(.t 21)]⟩,
  ⟨(some 23), some (19, true), .un .not (.t 22)⟩,
  ⟨(some 24), none, .pick (.t 19) (.t 23) (.v (.bool false))⟩]
theorem tr32_4 : TR Tryd.f32 25 4 = some a32_4 := by kernel_rfl
def a32_3 : List AO := [⟨(some 13), none, .mv (.t 3)⟩,
  ⟨(some 14), none, .bin .add (.t 13) (.v (.int .i64 1))⟩,
  ⟨(some 3), none, .mv (.t 14)⟩]
theorem tr32_3 : TR Tryd.f32 25 3 = some a32_3 := by kernel_rfl
/-- airline/period.Check -/
noncomputable def c33 : Code := .seq (.region 0 (ro Tryd.f33 0) false) (.seq (.block 0 (.seq (.region 1 (ro Tryd.f33 1) false) (.cond (.tmp 3) (.seq (.region 2 (ro Tryd.f33 2) false) (.ret)) (.seq (.region 3 (ro Tryd.f33 3) false) (.cond (.tmp 19) (.seq (.region 4 (ro Tryd.f33 4) false) (.ret)) (.seq (.region 5 (ro Tryd.f33 5) false) (.cond (.tmp 26) (.seq (.region 6 (ro Tryd.f33 6) false) (.ret)) (.skip)))))))) (.seq (.region 7 (ro Tryd.f33 7) false) (.ret)))
theorem body33 : Tryd.f33.body = some c33 := by kernel_rfl
theorem res33 : Tryd.f33.results.toList.mapM (trR Tryd.prog) = some [.t 2] := by kernel_rfl
theorem nt33 : Tryd.f33.ntmps = 35 := by kernel_rfl
theorem nm33 : (Tryd.f33.name == "runtime.NumGoroutine") = false := by kernel_rfl
def a33_0 : List AO := [⟨(some 1), none, .box 54 (.t 0)⟩,
  ⟨(some 2), none, .mv (.v (.int .i64 0))⟩]
theorem tr33_0 : TR Tryd.f33 35 0 = some a33_0 := by kernel_rfl
def a33_1 : List AO := [⟨(some 4), none, .fld 0 (.t 1)⟩,
  ⟨(some 5), none, .load none (.t 4)⟩,
  ⟨(some 6), none, .bin .lss (.t 5) (.v (.int .i64 0))⟩,
  ⟨(some 7), none, .mv (.t 6)⟩,
  ⟨(some 8), some (7, false), .fld 1 (.t 1)⟩,
  ⟨(some 9), some (7, false), .load none (.t 8)⟩,
  ⟨(some 10), some (7, false), .fld 0 (.t 1)⟩,
  ⟨(some 11), some (7, false), .load none (.t 10)⟩,
  ⟨(some 12), some (7, false), .bin .lss (.t 9) (.t 11)⟩,
  ⟨(some 13), none, .pick (.t 7) (.v (.bool true)) (.t 12)⟩,
  ⟨(some 14), none, .mv (.t 13)⟩,
  ⟨(some 15), some (14, false), .fld 1 (.t 1)⟩,
  ⟨(some 16), some (14, false), .load none (.t 15)⟩,
  ⟨(some 17), some (14, false), .bin .geq (.t 16) (.v (.int .i64 36525))⟩,
  ⟨(some 18), none, .pick (.t 14) (.v (.bool true)) (.t 17)⟩,
  ⟨(some 3), none, .mv (.t 18)⟩]
theorem tr33_1 : TR Tryd.f33 35 1 = some a33_1 := by kernel_rfl
def a33_2 : List AO := [⟨(some 2), none, .mv (.v (.int .i64 12))⟩]
theorem tr33_2 : TR Tryd.f33 35 2 = some a33_2 := by kernel_rfl
def a33_3 : List AO := [⟨(some 20), none, .fld 1 (.t 1)⟩,
  ⟨(some 21), none, .load none (.t 20)⟩,
  ⟨(some 22), none, .fld 0 (.t 1)⟩,
  ⟨(some 23), none, .load none (.t 22)⟩,
  ⟨(some 24), none, .bin .sub (.t 21) (.t 23)⟩,
  ⟨(some 25), none, .bin .geq (.t 24) (.v (.int .i64 800))⟩,
  ⟨(some 19), none, .mv (.t 25)⟩]
theorem tr33_3 : TR Tryd.f33 35 3 = some a33_3 := by kernel_rfl
def a33_4 : List AO := [⟨(some 2), none, .mv (.v (.int .i64 4))⟩]
theorem tr33_4 : TR Tryd.f33 35 4 = some a33_4 := by kernel_rfl
def a33_5 : List AO := [⟨(some 27), none, .fld 2 (.t 1)⟩,
  ⟨(some 28), none, .load none (.t 27)⟩,
  ⟨(some 29), none, .bin .lss (.t 28) (.v (.int .i64 1))⟩,
  ⟨(some 30), none, .mv (.t 29)⟩,
  ⟨(some 31), some (30, false), .fld 2 (.t 1)⟩,
  ⟨(some 32), some (30, false), .load none (.t 31)⟩,
  ⟨(some 33), some (30, false), .bin .gtr (.t 32) (.v (.int .i64 127))⟩,
  ⟨(some 34), none, .pick (.t 30) (.v (.bool true)) (.t 33)⟩,
  ⟨(some 26), none, .mv (.t 34)⟩]
theorem tr33_5 : TR Tryd.f33 35 5 = some a33_5 := by kernel_rfl
def a33_6 : List AO := [⟨(some 2), none, .mv (.v (.int .i64 2))⟩]
theorem tr33_6 : TR Tryd.f33 35 6 = some a33_6 := by kernel_rfl
def a33_7 : List AO := [⟨(some 2), none, .mv (.v (.int .i64 0))⟩]
theorem tr33_7 : TR Tryd.f33 35 7 = some a33_7 := by kernel_rfl
/-- airline/period.on -/
noncomputable def c34 : Code := .seq (.region 0 (ro Tryd.f34 0) false) (.seq (.region 1 (ro Tryd.f34 1) false) (.ret))
theorem body34 : Tryd.f34.body = some c34 := by kernel_rfl
theorem res34 : Tryd.f34.results.toList.mapM (trR Tryd.prog) = some [.t 4] := by kernel_rfl
theorem nt34 : Tryd.f34.ntmps = 11 := by kernel_rfl
theorem nm34 : (Tryd.f34.name == "runtime.NumGoroutine") = false := by kernel_rfl
def a34_0 : List AO := [⟨(some 4), none, .mv (.v (.bool false))⟩]
theorem tr34_0 : TR Tryd.f34 11 0 = some a34_0 := by kernel_rfl
def a34_1 : List AO := [⟨(some 5), none, .mv (.t 0)⟩,
  ⟨(some 6), none, .mv (.t 1)⟩,
  ⟨(some 7), none, .call 40 [(.t 6)]⟩,
  ⟨(some 8), none, .bin .shr (.t 5) (.t 7)⟩,
  ⟨(some 9), none, .bin .and (.t 8) (.v (.int .i64 1))⟩,
  ⟨(some 10), none, .bin .eql (.t 9) (.v (.int .i64 1))⟩,
  ⟨(some 4), none, .mv (.t 10)⟩]
theorem tr34_1 : TR Tryd.f34 11 1 = some a34_1 := by kernel_rfl
/-- maps.Keys[map[string][]int,string,[]int] 1 -/
noncomputable def c35 : Code := .seq (.region 0 (ro Tryd.f35 0) false) (.block 0 (.loop (.seq (.region 1 (ro Tryd.f35 1) false) (.seq (.cond (.tmp 7) (.skip) (.exit 0)) (.block 1 (.seq (.region 2 (ro Tryd.f35 2) false) (.seq (.region 3 (ro Tryd.f35 3) false) (.cond (.tmp 13) (.ret) (.skip)))))))))
theorem body35 : Tryd.f35.body = some c35 := by kernel_rfl
theorem res35 : Tryd.f35.results.toList.mapM (trR Tryd.prog) = some [] := by kernel_rfl
theorem nt35 : Tryd.f35.ntmps = 14 := by kernel_rfl
theorem nm35 : (Tryd.f35.name == "runtime.NumGoroutine") = false := by kernel_rfl
-- region 0: not translated: !! range 59 t4
def a35_0p : List AO := [⟨(some 4), none, .load none (.t 1)⟩]
theorem tr35_0p : (ro Tryd.f35 0).toList.dropLast.mapM (trO Tryd.prog 14 (ro Tryd.f35 0)) = some a35_0p := by kernel_rfl
-- region 1: not translated: !! next false t5
-- region 2: not translated: !! entry t5
def a35_2s : List AO := [⟨(some 9), none, .ext 0 (.t 8)⟩,
  ⟨(some 3), none, .mv (.t 9)⟩]
theorem tr35_2s : (ro Tryd.f35 2).toList.tail.mapM (trO Tryd.prog 14 (ro Tryd.f35 2)) = some a35_2s := by kernel_rfl
def a35_3 : List AO := [⟨(some 10), none, .mv (.t 0)⟩,
  ⟨(some 11), none, .mv (.t 3)⟩,
  ⟨(some 12), none, .callv (.t 10) [(.t 11)]⟩,
  ⟨(some 13), none, .un .not (.t 12)⟩]
theorem tr35_3 : TR Tryd.f35 14 3 = some a35_3 := by kernel_rfl
/-- airline/money.fits -/
noncomputable def c36 : Code := .seq (.region 0 (ro Tryd.f36 0) false) (.seq (.region 1 (ro Tryd.f36 1) false) (.ret))
theorem body36 : Tryd.f36.body = some c36 := by kernel_rfl
theorem res36 : Tryd.f36.results.toList.mapM (trR Tryd.prog) = some [.t 2] := by kernel_rfl
theorem nt36 : Tryd.f36.ntmps = 9 := by kernel_rfl
theorem nm36 : (Tryd.f36.name == "runtime.NumGoroutine") = false := by kernel_rfl
def a36_0 : List AO := [⟨(some 2), none, .mv (.v (.bool false))⟩]
theorem tr36_0 : TR Tryd.f36 9 0 = some a36_0 := by kernel_rfl
def a36_1 : List AO := [⟨(some 3), none, .mv (.t 0)⟩,
  ⟨(some 4), none, .bin .geq (.t 3) (.v (.int .i64 (-1099511627776)))⟩,
  ⟨(some 5), none, .mv (.t 4)⟩,
  ⟨(some 6), some (5, true), .mv (.t 0)⟩,
  ⟨(some 7), some (5, true), .bin .leq (.t 6) (.v (.int .i64 1099511627776))⟩,
  ⟨(some 8), none, .pick (.t 5) (.t 7) (.v (.bool false))⟩,
  ⟨(some 2), none, .mv (.t 8)⟩]
theorem tr36_1 : TR Tryd.f36 9 1 = some a36_1 := by kernel_rfl
/-- airline/calendar.Weekday -/
noncomputable def c40 : Code := .seq (.region 0 (ro Tryd.f40 0) false) (.seq (.region 1 (ro Tryd.f40 1) false) (.ret))
theorem body40 : Tryd.f40.body = some c40 := by kernel_rfl
theorem res40 : Tryd.f40.results.toList.mapM (trR Tryd.prog) = some [.t 2] := by kernel_rfl
theorem nt40 : Tryd.f40.ntmps = 7 := by kernel_rfl
theorem nm40 : (Tryd.f40.name == "runtime.NumGoroutine") = false := by kernel_rfl
def a40_0 : List AO := [⟨(some 2), none, .mv (.v (.int .i64 0))⟩]
theorem tr40_0 : TR Tryd.f40 7 0 = some a40_0 := by kernel_rfl
def a40_1 : List AO := [⟨(some 3), none, .mv (.t 0)⟩,
  ⟨(some 4), none, .bin .rem (.t 3) (.v (.int .i64 7))⟩,
  ⟨(some 5), none, .bin .add (.t 4) (.v (.int .i64 12))⟩,
  ⟨(some 6), none, .bin .rem (.t 5) (.v (.int .i64 7))⟩,
  ⟨(some 2), none, .mv (.t 6)⟩]
theorem tr40_1 : TR Tryd.f40 7 1 = some a40_1 := by kernel_rfl
/-- cmp.Less[string] -/
noncomputable def c47 : Code := .seq (.region 0 (ro Tryd.f47 0) false) (.seq (.region 1 (ro Tryd.f47 1) false) (.ret))
theorem body47 : Tryd.f47.body = some c47 := by kernel_rfl
theorem res47 : Tryd.f47.results.toList.mapM (trR Tryd.prog) = some [.t 4] := by kernel_rfl
theorem nt47 : Tryd.f47.ntmps = 17 := by kernel_rfl
theorem nm47 : (Tryd.f47.name == "runtime.NumGoroutine") = false := by kernel_rfl
def a47_0 : List AO := [⟨(some 4), none, .mv (.v (.bool false))⟩]
theorem tr47_0 : TR Tryd.f47 17 0 = some a47_0 := by kernel_rfl
def a47_1 : List AO := [⟨(some 5), none, .mv (.t 0)⟩,
  ⟨(some 6), none, .call 57 [(.t 5)]⟩,
  ⟨(some 7), none, .mv (.t 6)⟩,
  ⟨(some 8), some (7, true), .mv (.t 1)⟩,
  ⟨(some 9), some (7, true), .call 57 [(.t 8)]⟩,
  ⟨(some 10), some (7, true), .un .not (.t 9)⟩,
  ⟨(some 11), none, .pick (.t 7) (.t 10) (.v (.bool false))⟩,
  ⟨(some 12), none, .mv (.t 11)⟩,
  ⟨(some 13), some (12, false), .mv (.t 0)⟩,
  ⟨(some 14), some (12, false), .mv (.t 1)⟩,
  ⟨(some 15), some (12, false), .bin .lss (.t 13) (.t 14)⟩,
  ⟨(some 16), none, .pick (.t 12) (.v (.bool true)) (.t 15)⟩,
  ⟨(some 4), none, .mv (.t 16)⟩]
theorem tr47_1 : TR Tryd.f47 17 1 = some a47_1 := by kernel_rfl
/-- cmp.isNaN[string] -/
noncomputable def c57 : Code := .seq (.region 0 (ro Tryd.f57 0) false) (.seq (.region 1 (ro Tryd.f57 1) false) (.ret))
theorem body57 : Tryd.f57.body = some c57 := by kernel_rfl
theorem res57 : Tryd.f57.results.toList.mapM (trR Tryd.prog) = some [.t 2] := by kernel_rfl
theorem nt57 : Tryd.f57.ntmps = 6 := by kernel_rfl
theorem nm57 : (Tryd.f57.name == "runtime.NumGoroutine") = false := by kernel_rfl
def a57_0 : List AO := [⟨(some 2), none, .mv (.v (.bool false))⟩]
theorem tr57_0 : TR Tryd.f57 6 0 = some a57_0 := by kernel_rfl
def a57_1 : List AO := [⟨(some 3), none, .mv (.t 0)⟩,
  ⟨(some 4), none, .mv (.t 0)⟩,
  ⟨(some 5), none, .bin .neq (.t 3) (.t 4)⟩,
  ⟨(some 2), none, .mv (.t 5)⟩]
theorem tr57_1 : TR Tryd.f57 6 1 = some a57_1 := by kernel_rfl
end Go.Proofs.YtkdkjbneohdofaaDoor
