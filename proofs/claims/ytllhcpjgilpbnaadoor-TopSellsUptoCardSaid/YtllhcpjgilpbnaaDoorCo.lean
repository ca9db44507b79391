import Derived.Test.YtllhcpjgilpbnaaDoorProg
import Derived.Test.YtllhcpjgilpbnaaDoorAv21
namespace Go.Proofs.YtllhcpjgilpbnaaDoor
open Go Go.RowKit
def findR : Code → Nat → Option (Array Oper)
  | .region i ops _, k => if i = k then some ops else none
  | .seq a b, k => (findR a k).or (findR b k)
  | .cond _ a b, k => (findR a k).or (findR b k)
  | .block _ c, k => findR c k
  | .loop c, k => findR c k
  | .scope c, k => findR c k
  | _, _ => none
def ro (f : Func) (k : Nat) : Array Oper := ((f.body.bind fun c => findR c k).getD #[])
noncomputable abbrev TR (f : Func) (n k : Nat) : Option (List AO) := (ro f k).toList.mapM (trO Tryd.prog n (ro f k))
theorem mixed : Tryd.prog.follows .mixedOrders = true := by kernel_rfl
noncomputable def c3 : Code := .seq (.region 0 (ro Tryd.f3 0) false) (.seq (.seq (.region 1 (ro Tryd.f3 1) false) (.cond (.tmp 43) (.seq (.region 2 (ro Tryd.f3 2) false) (.ret)) (.skip))) (.seq (.region 3 (ro Tryd.f3 3) false) (.seq (.region 4 (ro Tryd.f3 4) false) (.seq (.seq (.region 5 (ro Tryd.f3 5) false) (.cond (.tmp 56) (.seq (.region 6 (ro Tryd.f3 6) false) (.ret)) (.skip))) (.seq (.seq (.region 7 (ro Tryd.f3 7) false) (.block 0 (.loop (.seq (.seq (.region 8 (ro Tryd.f3 8) false) (.cond (.tmp 65) (.skip) (.exit 0))) (.seq (.block 1 (.seq (.region 10 (ro Tryd.f3 10) true) (.cond (.tmp 78) (.seq (.region 11 (ro Tryd.f3 11) false) (.ret)) (.skip)))) (.region 9 (ro Tryd.f3 9) false)))))) (.seq (.seq (.region 12 (ro Tryd.f3 12) false) (.block 2 (.loop (.seq (.seq (.region 13 (ro Tryd.f3 13) false) (.cond (.tmp 83) (.skip) (.exit 2))) (.seq (.block 3 (.seq (.region 15 (ro Tryd.f3 15) false) (.cond (.tmp 101) (.region 16 (ro Tryd.f3 16) true) (.skip)))) (.region 14 (ro Tryd.f3 14) false)))))) (.seq (.region 17 (ro Tryd.f3 17) false) (.seq (.seq (.region 18 (ro Tryd.f3 18) false) (.cond (.tmp 129) (.seq (.region 19 (ro Tryd.f3 19) false) (.ret)) (.skip))) (.seq (.seq (.region 20 (ro Tryd.f3 20) false) (.cond (.tmp 138) (.seq (.region 21 (ro Tryd.f3 21) false) (.ret)) (.skip))) (.seq (.seq (.region 22 (ro Tryd.f3 22) false) (.cond (.tmp 140) (.seq (.region 23 (ro Tryd.f3 23) false) (.cond (.tmp 161) (.seq (.region 24 (ro Tryd.f3 24) false) (.ret)) (.skip))) (.skip))) (.seq (.region 25 (ro Tryd.f3 25) false) (.ret))))))))))))
theorem body3 : Tryd.f3.body = some c3 := by kernel_rfl
theorem res3 : Tryd.f3.results.toList.mapM (trR Tryd.prog) = some [.t 10] := by kernel_rfl
theorem nt3 : Tryd.f3.ntmps = 171 := by kernel_rfl
theorem nm3 : (Tryd.f3.name == "runtime.NumGoroutine") = false := by kernel_rfl
def a3_0 : List AO := [⟨some 10, none, .mv (.v (.bool false))⟩]
theorem tr3_0 : TR Tryd.f3 171 0 = some a3_0 := by kernel_rfl
def a3_1 : List AO := [⟨some 18, none, .mv (.t 0)⟩,⟨some 19, none, .len (.t 18)⟩,⟨some 20, none, .bin .gtr (.t 19) (.v (.int .i64 4))⟩,⟨some 21, none, .mv (.t 20)⟩,⟨(some 22), some (21, false), .mv (.t 1)⟩,⟨(some 23), some (21, false), .len (.t 22)⟩,⟨(some 24), some (21, false), .bin .gtr (.t 23) (.v (.int .i64 4))⟩,⟨some 25, none, .pick (.t 21) (.v (.bool true)) (.t 24)⟩,⟨some 26, none, .mv (.t 25)⟩,⟨(some 27), some (26, false), .mv (.t 2)⟩,⟨(some 28), some (26, false), .len (.t 27)⟩,⟨(some 29), some (26, false), .mv (.t 1)⟩,⟨(some 30), some (26, false), .len (.t 29)⟩,⟨(some 31), some (26, false), .bin .lss (.t 28) (.t 30)⟩,⟨some 32, none, .pick (.t 26) (.v (.bool true)) (.t 31)⟩,⟨some 33, none, .mv (.t 32)⟩,⟨(some 34), some (33, false), .mv (.t 3)⟩,⟨(some 35), some (33, false), .len (.t 34)⟩,⟨(some 36), some (33, false), .bin .gtr (.t 35) (.v (.int .i64 12))⟩,⟨some 37, none, .pick (.t 33) (.v (.bool true)) (.t 36)⟩,⟨some 38, none, .mv (.t 37)⟩,⟨(some 39), some (38, false), .mv (.t 0)⟩,⟨(some 40), some (38, false), .call 4 [(.t 39)]⟩,⟨(some 41), some (38, false), .len (.t 40)⟩,⟨(some 42), some (38, false), .bin .gtr (.t 41) (.v (.int .i64 0))⟩,⟨some 43, none, .pick (.t 38) (.v (.bool true)) (.t 42)⟩]
theorem tr3_1 : TR Tryd.f3 171 1 = some a3_1 := by kernel_rfl
def a3_2 : List AO := [⟨some 44, none, .call 5 []⟩,⟨some 10, none, .mv (.t 44)⟩]
theorem tr3_2 : TR Tryd.f3 171 2 = some a3_2 := by kernel_rfl
def a3_3 : List AO := [⟨some 46, none, .mv (.t 0)⟩,⟨some 47, none, .call 6 [(.t 46)]⟩,⟨some 45, none, .mv (.t 47)⟩,⟨some 48, none, .ext 0 (.t 45)⟩,⟨some 49, none, .ext 1 (.t 45)⟩,⟨some 11, none, .mv (.t 48)⟩,⟨some 12, none, .mv (.t 49)⟩]
theorem tr3_3 : TR Tryd.f3 171 3 = some a3_3 := by kernel_rfl
def a3_4 : List AO := [⟨some 51, none, .mv (.t 0)⟩,⟨some 52, none, .call 7 [(.t 51)]⟩,⟨some 50, none, .mv (.t 52)⟩,⟨some 53, none, .ext 0 (.t 50)⟩,⟨some 54, none, .ext 1 (.t 50)⟩,⟨some 13, none, .mv (.t 53)⟩,⟨some 14, none, .mv (.t 54)⟩]
theorem tr3_4 : TR Tryd.f3 171 4 = some a3_4 := by kernel_rfl
def a3_5 : List AO := [⟨some 55, none, .mv (.t 11)⟩,⟨some 56, none, .binp false .eql (.t 55) (.v .nilp)⟩]
theorem tr3_5 : TR Tryd.f3 171 5 = some a3_5 := by kernel_rfl
def a3_7 : List AO := [⟨some 15, none, .mv (.v (.int .i64 0))⟩]
theorem tr3_7 : TR Tryd.f3 171 7 = some a3_7 := by kernel_rfl
def a3_8 : List AO := [⟨some 62, none, .mv (.t 15)⟩,⟨some 63, none, .mv (.t 1)⟩,⟨some 64, none, .len (.t 63)⟩,⟨some 65, none, .bin .lss (.t 62) (.t 64)⟩]
theorem tr3_8 : TR Tryd.f3 171 8 = some a3_8 := by kernel_rfl
def a3_10 : List AO := [⟨some 68, none, .mv (.t 11)⟩,⟨some 69, none, .mv (.t 1)⟩,⟨some 70, none, .mv (.t 15)⟩,⟨some 71, none, .idx 4 (.t 69) (.t 70)⟩,⟨some 72, none, .load (some 4) (.t 71)⟩,⟨some 73, none, .mv (.t 2)⟩,⟨some 74, none, .mv (.t 15)⟩,⟨some 75, none, .idx 1 (.t 73) (.t 74)⟩,⟨some 76, none, .load none (.t 75)⟩,⟨some 77, none, .call 8 [(.t 68), (.t 72), (.t 76)]⟩,⟨some 78, none, .bin .neq (.t 77) (.v (.int .i64 0))⟩]
theorem tr3_10 : TR Tryd.f3 171 10 = some a3_10 := by kernel_rfl
def d3_10 : List (List Nat) := [[], [], [], [1, 2], [1, 2, 3], [], [], [5, 6], [5, 6, 7], [0, 1, 2, 3, 4, 5, 6, 7, 8], [0, 1, 2, 3, 4, 5, 6, 7, 8, 9]]
theorem ok3_10 : okReg (ro Tryd.f3 10) a3_10 d3_10 = true := by kernel_rfl
def a3_11 : List AO := [⟨some 79, none, .call 5 []⟩,⟨some 10, none, .mv (.t 79)⟩]
theorem tr3_11 : TR Tryd.f3 171 11 = some a3_11 := by kernel_rfl
def a3_9 : List AO := [⟨some 66, none, .mv (.t 15)⟩,⟨some 67, none, .bin .add (.t 66) (.v (.int .i64 1))⟩,⟨some 15, none, .mv (.t 67)⟩]
theorem tr3_9 : TR Tryd.f3 171 9 = some a3_9 := by kernel_rfl
def a3_12 : List AO := [⟨some 16, none, .mv (.v (.int .i64 0))⟩]
theorem tr3_12 : TR Tryd.f3 171 12 = some a3_12 := by kernel_rfl
def a3_13 : List AO := [⟨some 80, none, .mv (.t 16)⟩,⟨some 81, none, .mv (.t 3)⟩,⟨some 82, none, .len (.t 81)⟩,⟨some 83, none, .bin .lss (.t 80) (.t 82)⟩]
theorem tr3_13 : TR Tryd.f3 171 13 = some a3_13 := by kernel_rfl
def a3_15 : List AO := [⟨some 86, none, .mv (.t 3)⟩,⟨some 87, none, .mv (.t 16)⟩,⟨some 88, none, .idx 3 (.t 86) (.t 87)⟩,⟨some 89, none, .fld 0 (.t 88)⟩,⟨some 90, none, .load none (.t 89)⟩,⟨some 91, none, .bin .geq (.t 90) (.v (.int .i64 0))⟩,⟨some 92, none, .mv (.t 91)⟩,⟨(some 93), some (92, true), .mv (.t 3)⟩,⟨(some 94), some (92, true), .mv (.t 16)⟩,⟨(some 95), some (92, true), .idx 3 (.t 93) (.t 94)⟩,⟨(some 96), some (92, true), .fld 0 (.t 95)⟩,⟨(some 97), some (92, true), .load none (.t 96)⟩,⟨(some 98), some (92, true), .mv (.t 1)⟩,⟨(some 99), some (92, true), .len (.t 98)⟩,⟨(some 100), some (92, true), .bin .lss (.t 97) (.t 99)⟩,⟨some 101, none, .pick (.t 92) (.t 100) (.v (.bool false))⟩]
theorem tr3_15 : TR Tryd.f3 171 15 = some a3_15 := by kernel_rfl
def a3_16 : List AO := [⟨some 102, none, .mv (.t 11)⟩,⟨some 103, none, .mv (.t 1)⟩,⟨some 104, none, .mv (.t 3)⟩,⟨some 105, none, .mv (.t 16)⟩,⟨some 106, none, .idx 3 (.t 104) (.t 105)⟩,⟨some 107, none, .fld 0 (.t 106)⟩,⟨some 108, none, .load none (.t 107)⟩,⟨some 109, none, .idx 4 (.t 103) (.t 108)⟩,⟨some 110, none, .load (some 4) (.t 109)⟩,⟨some 111, none, .slc 38 4 false [(.t 110)]⟩,⟨some 112, none, .mv (.t 3)⟩,⟨some 113, none, .mv (.t 16)⟩,⟨some 114, none, .idx 3 (.t 112) (.t 113)⟩,⟨some 115, none, .fld 1 (.t 114)⟩,⟨some 116, none, .load none (.t 115)⟩,⟨some 117, none, .mv (.t 3)⟩,⟨some 118, none, .mv (.t 16)⟩,⟨some 119, none, .idx 3 (.t 117) (.t 118)⟩,⟨some 120, none, .fld 2 (.t 119)⟩,⟨some 121, none, .load none (.t 120)⟩,⟨some 122, none, .call 9 [(.t 102), (.t 111), (.t 116), (.t 121)]⟩]
theorem tr3_16 : TR Tryd.f3 171 16 = some a3_16 := by kernel_rfl
def d3_16 : List (List Nat) := [[], [], [], [], [2, 3], [2, 3, 4], [2, 3, 4, 5], [1, 2, 3, 4, 5, 6], [1, 2, 3, 4, 5, 6, 7], [1, 2, 3, 4, 5, 6, 7, 8], [], [], [10, 11], [10, 11, 12], [10, 11, 12, 13], [], [], [15, 16], [15, 16, 17], [15, 16, 17, 18], [0, 1, 2, 3, 4, 5, 6, 7, 8, 9, 10, 11, 12, 13, 14, 15, 16, 17, 18, 19]]
theorem ok3_16 : okReg (ro Tryd.f3 16) a3_16 d3_16 = true := by kernel_rfl
def a3_14 : List AO := [⟨some 84, none, .mv (.t 16)⟩,⟨some 85, none, .bin .add (.t 84) (.v (.int .i64 1))⟩,⟨some 16, none, .mv (.t 85)⟩]
theorem tr3_14 : TR Tryd.f3 171 14 = some a3_14 := by kernel_rfl
def a3_17 : List AO := [⟨some 123, none, .mv (.t 11)⟩,⟨some 124, none, .mv (.t 1)⟩,⟨some 125, none, .mv (.t 4)⟩,⟨some 126, none, .call 10 [(.t 123), (.t 124), (.t 125)]⟩,⟨some 17, none, .mv (.t 126)⟩]
theorem tr3_17 : TR Tryd.f3 171 17 = some a3_17 := by kernel_rfl
def a3_18 : List AO := [⟨some 127, none, .mv (.t 1)⟩,⟨some 128, none, .len (.t 127)⟩,⟨some 129, none, .bin .eql (.t 128) (.v (.int .i64 0))⟩]
theorem tr3_18 : TR Tryd.f3 171 18 = some a3_18 := by kernel_rfl
def a3_19 : List AO := [⟨some 130, none, .call 5 []⟩,⟨some 10, none, .mv (.t 130)⟩]
theorem tr3_19 : TR Tryd.f3 171 19 = some a3_19 := by kernel_rfl
def a3_20 : List AO := [⟨some 131, none, .mv (.t 11)⟩,⟨some 132, none, .call 11 [(.t 131)]⟩,⟨some 133, none, .mv (.t 1)⟩,⟨some 134, none, .mv (.t 4)⟩,⟨some 135, none, .mv (.t 17)⟩,⟨some 136, none, .bin .add (.t 135) (.v (.int .i64 1))⟩,⟨some 137, none, .call 9 [(.t 132), (.t 133), (.t 134), (.t 136)]⟩,⟨some 138, none, .bin .eql (.t 137) (.v (.int .i64 0))⟩]
theorem tr3_20 : TR Tryd.f3 171 20 = some a3_20 := by kernel_rfl
def a3_22 : List AO := [⟨some 139, none, .mv (.t 17)⟩,⟨some 140, none, .bin .gtr (.t 139) (.v (.int .i64 0))⟩]
theorem tr3_22 : TR Tryd.f3 171 22 = some a3_22 := by kernel_rfl
def a3_23 : List AO := [⟨some 141, none, .mv (.t 11)⟩,⟨some 142, none, .mv (.t 1)⟩,⟨some 143, none, .mv (.t 4)⟩,⟨some 144, none, .mv (.t 17)⟩,⟨some 145, none, .call 9 [(.t 141), (.t 142), (.t 143), (.t 144)]⟩,⟨some 146, none, .bin .neq (.t 145) (.v (.int .i64 0))⟩,⟨some 147, none, .mv (.t 146)⟩,⟨(some 148), some (147, false), .mv (.t 11)⟩,⟨(some 149), some (147, false), .mv (.t 1)⟩,⟨(some 150), some (147, false), .mv (.t 4)⟩,⟨(some 151), some (147, false), .call 10 [(.t 148), (.t 149), (.t 150)]⟩,⟨(some 152), some (147, false), .bin .neq (.t 151) (.v (.int .i64 0))⟩,⟨some 153, none, .pick (.t 147) (.v (.bool true)) (.t 152)⟩,⟨some 154, none, .mv (.t 153)⟩,⟨(some 155), some (154, false), .mv (.t 11)⟩,⟨(some 156), some (154, false), .mv (.t 1)⟩,⟨(some 157), some (154, false), .mv (.t 4)⟩,⟨(some 158), some (154, false), .mv (.t 17)⟩,⟨(some 159), some (154, false), .call 12 [(.t 155), (.t 156), (.t 157), (.t 158)]⟩,⟨(some 160), some (154, false), .bin .neq (.t 159) (.v (.int .i64 0))⟩,⟨some 161, none, .pick (.t 154) (.v (.bool true)) (.t 160)⟩]
theorem tr3_23 : TR Tryd.f3 171 23 = some a3_23 := by kernel_rfl
def a3_25 : List AO := [⟨some 162, none, .mv (.t 11)⟩,⟨some 163, none, .mv (.t 1)⟩,⟨some 164, none, .mv (.t 4)⟩,⟨some 165, none, .call 10 [(.t 162), (.t 163), (.t 164)]⟩,⟨some 166, none, .mv (.t 17)⟩,⟨some 167, none, .bin .eql (.t 165) (.t 166)⟩,⟨some 168, none, .mv (.t 167)⟩,⟨(some 169), some (168, true), .call 5 []⟩,⟨some 170, none, .pick (.t 168) (.t 169) (.v (.bool false))⟩,⟨some 10, none, .mv (.t 170)⟩]
theorem tr3_25 : TR Tryd.f3 171 25 = some a3_25 := by kernel_rfl
noncomputable def c4 : Code := .seq (.region 0 (ro Tryd.f4 0) false) (.seq (.region 1 (ro Tryd.f4 1) false) (.seq (.seq (.region 2 (ro Tryd.f4 2) false) (.block 0 (.loop (.seq (.seq (.region 3 (ro Tryd.f4 3) false) (.cond (.tmp 11) (.skip) (.exit 0))) (.seq (.block 1 (.seq (.region 5 (ro Tryd.f4 5) false) (.seq (.seq (.region 6 (ro Tryd.f4 6) false) (.block 2 (.loop (.seq (.seq (.region 7 (ro Tryd.f4 7) false) (.cond (.tmp 18) (.skip) (.exit 2))) (.seq (.block 3 (.region 9 (ro Tryd.f4 9) true)) (.region 8 (ro Tryd.f4 8) false)))))) (.seq (.seq (.region 10 (ro Tryd.f4 10) false) (.cond (.tmp 41) (.region 11 (ro Tryd.f4 11) false) (.skip))) (.seq (.seq (.region 12 (ro Tryd.f4 12) false) (.cond (.tmp 47) (.region 13 (ro Tryd.f4 13) false) (.skip))) (.seq (.seq (.region 14 (ro Tryd.f4 14) false) (.cond (.tmp 68) (.region 15 (ro Tryd.f4 15) false) (.skip))) (.region 16 (ro Tryd.f4 16) false))))))) (.region 4 (ro Tryd.f4 4) false)))))) (.seq (.region 17 (ro Tryd.f4 17) false) (.ret))))
theorem body4 : Tryd.f4.body = some c4 := by kernel_rfl
theorem res4 : Tryd.f4.results.toList.mapM (trR Tryd.prog) = some [.t 2] := by kernel_rfl
theorem nt4 : Tryd.f4.ntmps = 83 := by kernel_rfl
theorem nm4 : (Tryd.f4.name == "runtime.NumGoroutine") = false := by kernel_rfl
def a4_0 : List AO := [⟨some 2, none, .mv (.v .nils)⟩]
theorem tr4_0 : TR Tryd.f4 83 0 = some a4_0 := by kernel_rfl
def a4_1 : List AO := [⟨some 3, none, .mv (.v .nils)⟩]
theorem tr4_1 : TR Tryd.f4 83 1 = some a4_1 := by kernel_rfl
def a4_2 : List AO := [⟨some 4, none, .mv (.v (.int .i64 0))⟩]
theorem tr4_2 : TR Tryd.f4 83 2 = some a4_2 := by kernel_rfl
def a4_3 : List AO := [⟨some 8, none, .mv (.t 4)⟩,⟨some 9, none, .mv (.t 0)⟩,⟨some 10, none, .len (.t 9)⟩,⟨some 11, none, .bin .lss (.t 8) (.t 10)⟩]
theorem tr4_3 : TR Tryd.f4 83 3 = some a4_3 := by kernel_rfl
def a4_5 : List AO := [⟨some 14, none, .mv (.t 4)⟩,⟨some 15, none, .call 13 [(.v (.str [])), (.v (.str [99, 111, 110, 102, 105, 103])), (.t 14)]⟩,⟨some 5, none, .mv (.t 15)⟩,⟨some 6, none, .mv (.v (.bool false))⟩]
theorem tr4_5 : TR Tryd.f4 83 5 = some a4_5 := by kernel_rfl
def a4_6 : List AO := [⟨some 7, none, .mv (.v (.int .i64 0))⟩]
theorem tr4_6 : TR Tryd.f4 83 6 = some a4_6 := by kernel_rfl
def a4_7 : List AO := [⟨some 16, none, .mv (.t 7)⟩,⟨some 17, none, .mv (.t 4)⟩,⟨some 18, none, .bin .lss (.t 16) (.t 17)⟩]
theorem tr4_7 : TR Tryd.f4 83 7 = some a4_7 := by kernel_rfl
def a4_9 : List AO := [⟨some 21, none, .mv (.t 6)⟩,⟨some 22, none, .mv (.t 21)⟩,⟨(some 23), some (22, false), .mv (.t 0)⟩,⟨(some 24), some (22, false), .mv (.t 7)⟩,⟨(some 25), some (22, false), .idx 2 (.t 23) (.t 24)⟩,⟨(some 26), some (22, false), .fld 0 (.t 25)⟩,⟨(some 27), some (22, false), .load none (.t 26)⟩,⟨(some 28), some (22, false), .mv (.t 0)⟩,⟨(some 29), some (22, false), .mv (.t 4)⟩,⟨(some 30), some (22, false), .idx 2 (.t 28) (.t 29)⟩,⟨(some 31), some (22, false), .fld 0 (.t 30)⟩,⟨(some 32), some (22, false), .load none (.t 31)⟩,⟨(some 33), some (22, false), .bin .eql (.t 27) (.t 32)⟩,⟨some 34, none, .pick (.t 22) (.v (.bool true)) (.t 33)⟩,⟨some 6, none, .mv (.t 34)⟩]
theorem tr4_9 : TR Tryd.f4 83 9 = some a4_9 := by kernel_rfl
def d4_9 : List (List Nat) := [[], [0], [0, 1], [0, 1], [0, 1, 2, 3], [0, 1, 2, 3, 4], [0, 1, 2, 3, 4, 5], [0, 1], [0, 1], [0, 1, 7, 8], [0, 1, 7, 8, 9], [0, 1, 7, 8, 9, 10], [0, 1, 2, 3, 4, 5, 6, 7, 8, 9, 10, 11], [0, 1, 2, 3, 4, 5, 6, 7, 8, 9, 10, 11, 12], [0, 1, 2, 3, 4, 5, 6, 7, 8, 9, 10, 11, 12, 13]]
theorem ok4_9 : okReg (ro Tryd.f4 9) a4_9 d4_9 = true := by kernel_rfl
def a4_8 : List AO := [⟨some 19, none, .mv (.t 7)⟩,⟨some 20, none, .bin .add (.t 19) (.v (.int .i64 1))⟩,⟨some 7, none, .mv (.t 20)⟩]
theorem tr4_8 : TR Tryd.f4 83 8 = some a4_8 := by kernel_rfl
def a4_10 : List AO := [⟨some 35, none, .mv (.t 0)⟩,⟨some 36, none, .mv (.t 4)⟩,⟨some 37, none, .idx 2 (.t 35) (.t 36)⟩,⟨some 38, none, .fld 0 (.t 37)⟩,⟨some 39, none, .load none (.t 38)⟩,⟨some 40, none, .call 14 [(.t 39), (.v (.int .i64 3)), (.v (.int .i64 3))]⟩,⟨some 41, none, .un .not (.t 40)⟩]
theorem tr4_10 : TR Tryd.f4 83 10 = some a4_10 := by kernel_rfl
def a4_11 : List AO := [⟨some 42, none, .mv (.t 3)⟩,⟨some 43, none, .mv (.t 5)⟩,⟨some 44, none, .build [(.int .i64 0), (.str [])] [(0, 1, (.v (.int .i64 5))), (1, 1, (.t 43))]⟩,⟨some 45, none, .slc 51 2 false [(.t 44)]⟩,⟨some 46, none, .app 51 2 24 (.t 42) (.t 45)⟩,⟨some 3, none, .mv (.t 46)⟩]
theorem tr4_11 : TR Tryd.f4 83 11 = some a4_11 := by kernel_rfl
def a4_12 : List AO := [⟨some 47, none, .mv (.t 6)⟩]
theorem tr4_12 : TR Tryd.f4 83 12 = some a4_12 := by kernel_rfl
def a4_13 : List AO := [⟨some 48, none, .mv (.t 3)⟩,⟨some 49, none, .mv (.t 5)⟩,⟨some 50, none, .build [(.int .i64 0), (.str [])] [(0, 1, (.v (.int .i64 6))), (1, 1, (.t 49))]⟩,⟨some 51, none, .slc 51 2 false [(.t 50)]⟩,⟨some 52, none, .app 51 2 24 (.t 48) (.t 51)⟩,⟨some 3, none, .mv (.t 52)⟩]
theorem tr4_13 : TR Tryd.f4 83 13 = some a4_13 := by kernel_rfl
def a4_14 : List AO := [⟨some 53, none, .mv (.t 0)⟩,⟨some 54, none, .mv (.t 4)⟩,⟨some 55, none, .idx 2 (.t 53) (.t 54)⟩,⟨some 56, none, .fld 1 (.t 55)⟩,⟨some 57, none, .load none (.t 56)⟩,⟨some 58, none, .len (.t 57)⟩,⟨some 59, none, .bin .lss (.t 58) (.v (.int .i64 1))⟩,⟨some 60, none, .mv (.t 59)⟩,⟨(some 61), some (60, false), .mv (.t 0)⟩,⟨(some 62), some (60, false), .mv (.t 4)⟩,⟨(some 63), some (60, false), .idx 2 (.t 61) (.t 62)⟩,⟨(some 64), some (60, false), .fld 1 (.t 63)⟩,⟨(some 65), some (60, false), .load none (.t 64)⟩,⟨(some 66), some (60, false), .len (.t 65)⟩,⟨(some 67), some (60, false), .bin .gtr (.t 66) (.v (.int .i64 4))⟩,⟨some 68, none, .pick (.t 60) (.v (.bool true)) (.t 67)⟩]
theorem tr4_14 : TR Tryd.f4 83 14 = some a4_14 := by kernel_rfl
def a4_15 : List AO := [⟨some 69, none, .mv (.t 3)⟩,⟨some 70, none, .mv (.t 5)⟩,⟨some 71, none, .build [(.int .i64 0), (.str [])] [(0, 1, (.v (.int .i64 4))), (1, 1, (.t 70))]⟩,⟨some 72, none, .slc 51 2 false [(.t 71)]⟩,⟨some 73, none, .app 51 2 24 (.t 69) (.t 72)⟩,⟨some 3, none, .mv (.t 73)⟩]
theorem tr4_15 : TR Tryd.f4 83 15 = some a4_15 := by kernel_rfl
def a4_16 : List AO := [⟨some 74, none, .mv (.t 3)⟩,⟨some 75, none, .mv (.t 0)⟩,⟨some 76, none, .mv (.t 4)⟩,⟨some 77, none, .idx 2 (.t 75) (.t 76)⟩,⟨some 78, none, .load (some 2) (.t 77)⟩,⟨some 79, none, .mv (.t 5)⟩,⟨some 80, none, .call 15 [(.t 78), (.t 79)]⟩,⟨some 81, none, .app 51 2 24 (.t 74) (.t 80)⟩,⟨some 3, none, .mv (.t 81)⟩]
theorem tr4_16 : TR Tryd.f4 83 16 = some a4_16 := by kernel_rfl
def a4_4 : List AO := [⟨some 12, none, .mv (.t 4)⟩,⟨some 13, none, .bin .add (.t 12) (.v (.int .i64 1))⟩,⟨some 4, none, .mv (.t 13)⟩]
theorem tr4_4 : TR Tryd.f4 83 4 = some a4_4 := by kernel_rfl
def a4_17 : List AO := [⟨some 82, none, .mv (.t 3)⟩,⟨some 2, none, .mv (.t 82)⟩]
theorem tr4_17 : TR Tryd.f4 83 17 = some a4_17 := by kernel_rfl
noncomputable def c5 : Code := .seq (.region 0 (ro Tryd.f5 0) false) (.seq (.region 1 (ro Tryd.f5 1) false) (.ret))
theorem body5 : Tryd.f5.body = some c5 := by kernel_rfl
theorem res5 : Tryd.f5.results.toList.mapM (trR Tryd.prog) = some [.t 0] := by kernel_rfl
theorem nt5 : Tryd.f5.ntmps = 13 := by kernel_rfl
theorem nm5 : (Tryd.f5.name == "runtime.NumGoroutine") = false := by kernel_rfl
def a5_0 : List AO := [⟨some 0, none, .mv (.v (.bool false))⟩]
theorem tr5_0 : TR Tryd.f5 13 0 = some a5_0 := by kernel_rfl
def a5_1 : List AO := [⟨some 1, none, .call 16 [(.v (.int .i64 9497))]⟩,⟨some 2, none, .bin .eql (.t 1) (.v (.str [50, 48, 50, 54, 45, 48, 49, 45, 48, 49]))⟩,⟨some 3, none, .mv (.t 2)⟩,⟨(some 4), some (3, true), .build [(.int .i64 0), (.int .i64 0), (.int .i64 0)] [(0, 1, (.v (.int .i64 9497))), (1, 1, (.v (.int .i64 9503))), (2, 1, (.v (.int .i64 96)))]⟩,⟨(some 5), some (3, true), .call 17 [(.t 4)]⟩,⟨(some 6), some (3, true), .bin .eql (.t 5) (.v (.int .i64 2))⟩,⟨some 7, none, .pick (.t 3) (.t 6) (.v (.bool false))⟩,⟨some 8, none, .mv (.t 7)⟩,⟨(some 9), some (8, true), .build [(.int .i64 0), .nils] [(0, 1, (.v (.int .i64 60)))]⟩,⟨(some 10), some (8, true), .call 18 [(.t 9), (.v (.int .i64 5))]⟩,⟨(some 11), some (8, true), .bin .eql (.t 10) (.v (.int .i64 65))⟩,⟨some 12, none, .pick (.t 8) (.t 11) (.v (.bool false))⟩,⟨some 0, none, .mv (.t 12)⟩]
theorem tr5_1 : TR Tryd.f5 13 1 = some a5_1 := by kernel_rfl
noncomputable def c6 : Code := .seq (.region 0 (ro Tryd.f6 0) false) (.seq (.seq (.region 1 (ro Tryd.f6 1) false) (.seq (.region 2 (ro Tryd.f6 2) false) (.cond (.tmp 9) (.seq (.region 3 (ro Tryd.f6 3) false) (.ret)) (.skip)))) (.seq (.region 4 (ro Tryd.f6 4) false) (.ret)))
theorem body6 : Tryd.f6.body = some c6 := by kernel_rfl
theorem res6 : Tryd.f6.results.toList.mapM (trR Tryd.prog) = some [.t 2, .t 3] := by kernel_rfl
theorem nt6 : Tryd.f6.ntmps = 15 := by kernel_rfl
theorem nm6 : (Tryd.f6.name == "runtime.NumGoroutine") = false := by kernel_rfl
def a6_0 : List AO := [⟨some 2, none, .mv (.v .nilp)⟩,⟨some 3, none, .mv (.v .nils)⟩]
theorem tr6_0 : TR Tryd.f6 15 0 = some a6_0 := by kernel_rfl
def a6_1 : List AO := [⟨some 5, none, .mv (.t 0)⟩,⟨some 6, none, .call 19 [(.t 5)]⟩,⟨some 4, none, .mv (.t 6)⟩]
theorem tr6_1 : TR Tryd.f6 15 1 = some a6_1 := by kernel_rfl
def a6_2 : List AO := [⟨some 7, none, .mv (.t 4)⟩,⟨some 8, none, .len (.t 7)⟩,⟨some 9, none, .bin .gtr (.t 8) (.v (.int .i64 0))⟩]
theorem tr6_2 : TR Tryd.f6 15 2 = some a6_2 := by kernel_rfl
def a6_4 : List AO := [⟨some 11, none, .mv (.t 0)⟩,⟨some 12, none, .mkmap⟩,⟨some 13, none, .build [.nils, .nilm] [(0, 1, (.t 11)), (1, 1, (.t 12))]⟩,⟨some 14, none, .box 63 (.t 13)⟩,⟨some 2, none, .mv (.t 14)⟩,⟨some 3, none, .mv (.v .nils)⟩]
theorem tr6_4 : TR Tryd.f6 15 4 = some a6_4 := by kernel_rfl
noncomputable def c7 : Code := .seq (.region 0 (ro Tryd.f7 0) false) (.seq (.region 1 (ro Tryd.f7 1) false) (.seq (.seq (.region 2 (ro Tryd.f7 2) false) (.cond (.tmp 9) (.seq (.region 3 (ro Tryd.f7 3) false) (.ret)) (.skip))) (.seq (.region 4 (ro Tryd.f7 4) false) (.ret))))
theorem body7 : Tryd.f7.body = some c7 := by kernel_rfl
theorem res7 : Tryd.f7.results.toList.mapM (trR Tryd.prog) = some [.t 2, .t 3] := by kernel_rfl
theorem nt7 : Tryd.f7.ntmps = 14 := by kernel_rfl
theorem nm7 : (Tryd.f7.name == "runtime.NumGoroutine") = false := by kernel_rfl
def a7_0 : List AO := [⟨some 2, none, .mv (.v .nilp)⟩,⟨some 3, none, .mv (.v .nils)⟩]
theorem tr7_0 : TR Tryd.f7 14 0 = some a7_0 := by kernel_rfl
def a7_1 : List AO := [⟨some 5, none, .mv (.t 0)⟩,⟨some 6, none, .call 4 [(.t 5)]⟩,⟨some 4, none, .mv (.t 6)⟩]
theorem tr7_1 : TR Tryd.f7 14 1 = some a7_1 := by kernel_rfl
def a7_2 : List AO := [⟨some 7, none, .mv (.t 4)⟩,⟨some 8, none, .len (.t 7)⟩,⟨some 9, none, .bin .gtr (.t 8) (.v (.int .i64 0))⟩]
theorem tr7_2 : TR Tryd.f7 14 2 = some a7_2 := by kernel_rfl
def a7_4 : List AO := [⟨some 11, none, .mv (.t 0)⟩,⟨some 12, none, .build [(.bool false), .nils, .nils] [(0, 1, (.v (.bool true))), (1, 1, (.t 11))]⟩,⟨some 13, none, .box 66 (.t 12)⟩,⟨some 2, none, .mv (.t 13)⟩,⟨some 3, none, .mv (.v .nils)⟩]
theorem tr7_4 : TR Tryd.f7 14 4 = some a7_4 := by kernel_rfl
noncomputable def c8 : Code := .seq (.region 0 (ro Tryd.f8 0) false) (.seq (.seq (.region 1 (ro Tryd.f8 1) false) (.cond (.tmp 11) (.seq (.region 2 (ro Tryd.f8 2) false) (.ret)) (.skip))) (.seq (.seq (.region 3 (ro Tryd.f8 3) true) (.cond (.tmp 18) (.seq (.region 4 (ro Tryd.f8 4) false) (.ret)) (.skip))) (.seq (.region 5 (ro Tryd.f8 5) false) (.seq (.seq (.region 6 (ro Tryd.f8 6) false) (.cond (.tmp 29) (.seq (.region 7 (ro Tryd.f8 7) false) (.ret)) (.skip))) (.seq (.region 8 (ro Tryd.f8 8) true) (.seq (.region 9 (ro Tryd.f8 9) false) (.ret)))))))
theorem body8 : Tryd.f8.body = some c8 := by kernel_rfl
theorem res8 : Tryd.f8.results.toList.mapM (trR Tryd.prog) = some [.t 6] := by kernel_rfl
theorem nt8 : Tryd.f8.ntmps = 40 := by kernel_rfl
theorem nm8 : (Tryd.f8.name == "runtime.NumGoroutine") = false := by kernel_rfl
def a8_0 : List AO := [⟨some 4, none, .box 38 (.t 1)⟩,⟨some 6, none, .mv (.v (.int .i64 0))⟩]
theorem tr8_0 : TR Tryd.f8 40 0 = some a8_0 := by kernel_rfl
def a8_1 : List AO := [⟨some 9, none, .mv (.t 0)⟩,⟨some 10, none, .call 20 [(.t 9)]⟩,⟨some 11, none, .un .not (.t 10)⟩]
theorem tr8_1 : TR Tryd.f8 40 1 = some a8_1 := by kernel_rfl
def a8_3 : List AO := [⟨some 12, none, .mv (.t 0)⟩,⟨some 13, none, .nchk (.t 12)⟩,⟨some 14, none, .fld 1 (.t 13)⟩,⟨some 15, none, .load none (.t 14)⟩,⟨some 16, none, .load (some 4) (.t 4)⟩,⟨some 17, none, .look 3 false .nilp (.t 15) (.t 16)⟩,⟨some 18, none, .binp false .neq (.t 17) (.v .nilp)⟩]
theorem tr8_3 : TR Tryd.f8 40 3 = some a8_3 := by kernel_rfl
def d8_3 : List (List Nat) := [[], [0], [0, 1], [0, 1, 2], [], [0, 1, 2, 3, 4], [0, 1, 2, 3, 4, 5]]
theorem ok8_3 : okReg (ro Tryd.f8 3) a8_3 d8_3 = true := by kernel_rfl
def a8_4 : List AO := [⟨some 6, none, .mv (.v (.int .i64 6))⟩]
theorem tr8_4 : TR Tryd.f8 40 4 = some a8_4 := by kernel_rfl
def a8_5 : List AO := [⟨some 20, none, .mv (.t 0)⟩,⟨some 21, none, .nchk (.t 20)⟩,⟨some 22, none, .fld 0 (.t 21)⟩,⟨some 23, none, .load none (.t 22)⟩,⟨some 24, none, .mv (.t 2)⟩,⟨some 25, none, .call 21 [(.t 23), (.t 24)]⟩,⟨some 19, none, .mv (.t 25)⟩,⟨some 26, none, .ext 0 (.t 19)⟩,⟨some 27, none, .ext 1 (.t 19)⟩,⟨some 7, none, .alloc 48 [(.str []), .nils]⟩,⟨none, none, .store 2 (.t 7) (.t 26)⟩,⟨some 8, none, .mv (.t 27)⟩]
theorem tr8_5 : TR Tryd.f8 40 5 = some a8_5 := by kernel_rfl
def a8_6 : List AO := [⟨some 28, none, .mv (.t 8)⟩,⟨some 29, none, .un .not (.t 28)⟩]
theorem tr8_6 : TR Tryd.f8 40 6 = some a8_6 := by kernel_rfl
def a8_7 : List AO := [⟨some 6, none, .mv (.v (.int .i64 7))⟩]
theorem tr8_7 : TR Tryd.f8 40 7 = some a8_7 := by kernel_rfl
def a8_8 : List AO := [⟨some 30, none, .mv (.t 0)⟩,⟨some 31, none, .nchk (.t 30)⟩,⟨some 32, none, .fld 1 (.t 31)⟩,⟨some 33, none, .load none (.t 32)⟩,⟨some 34, none, .load (some 4) (.t 4)⟩,⟨some 35, none, .load (some 2) (.t 7)⟩,⟨some 36, none, .load (some 2) (.t 7)⟩,⟨some 37, none, .call 22 [(.t 36)]⟩,⟨some 38, none, .build [(.str []), .nils, .nils, (.bool false)] [(0, 2, (.t 35)), (2, 1, (.t 37))]⟩,⟨some 39, none, .box 73 (.t 38)⟩,⟨none, none, .mset 3 (.t 33) (.t 34) (.t 39)⟩]
theorem tr8_8 : TR Tryd.f8 40 8 = some a8_8 := by kernel_rfl
def d8_8 : List (List Nat) := [[], [0], [0, 1], [0, 1, 2], [], [], [], [6], [5, 6, 7], [5, 6, 7, 8], [0, 1, 2, 3, 4, 5, 6, 7, 8, 9]]
theorem ok8_8 : okReg (ro Tryd.f8 8) a8_8 d8_8 = true := by kernel_rfl
def a8_9 : List AO := [⟨some 6, none, .mv (.v (.int .i64 0))⟩]
theorem tr8_9 : TR Tryd.f8 40 9 = some a8_9 := by kernel_rfl
noncomputable def c9 : Code := .seq (.region 0 (ro Tryd.f9 0) false) (.seq (.region 1 (ro Tryd.f9 1) false) (.seq (.seq (.region 2 (ro Tryd.f9 2) false) (.cond (.tmp 25) (.seq (.region 3 (ro Tryd.f9 3) false) (.ret)) (.skip))) (.seq (.seq (.region 4 (ro Tryd.f9 4) false) (.cond (.tmp 29) (.seq (.region 5 (ro Tryd.f9 5) false) (.ret)) (.skip))) (.seq (.seq (.region 6 (ro Tryd.f9 6) false) (.block 0 (.loop (.seq (.region 7 (ro Tryd.f9 7) false) (.seq (.cond (.tmp 33) (.skip) (.exit 0)) (.seq (.block 1 (.seq (.region 8 (ro Tryd.f9 8) false) (.seq (.region 9 (ro Tryd.f9 9) true) (.region 10 (ro Tryd.f9 10) true)))) (.region 11 (ro Tryd.f9 11) false))))))) (.seq (.region 12 (ro Tryd.f9 12) false) (.ret))))))
theorem body9 : Tryd.f9.body = some c9 := by kernel_rfl
theorem res9 : Tryd.f9.results.toList.mapM (trR Tryd.prog) = some [.t 8] := by kernel_rfl
theorem nt9 : Tryd.f9.ntmps = 60 := by kernel_rfl
theorem nm9 : (Tryd.f9.name == "runtime.NumGoroutine") = false := by kernel_rfl
def a9_0 : List AO := [⟨some 6, none, .box 9 (.t 2)⟩,⟨some 7, none, .box 3 (.t 3)⟩,⟨some 8, none, .mv (.v (.int .i64 0))⟩]
theorem tr9_0 : TR Tryd.f9 60 0 = some a9_0 := by kernel_rfl
def a9_1 : List AO := [⟨some 17, none, .mv (.t 0)⟩,⟨some 18, none, .mv (.t 1)⟩,⟨some 19, none, .load none (.t 6)⟩,⟨some 20, none, .load none (.t 7)⟩,⟨some 21, none, .call 23 [(.t 17), (.t 18), (.t 19), (.t 20), (.v (.bool true))]⟩,⟨some 16, none, .mv (.t 21)⟩,⟨some 22, none, .ext 0 (.t 16)⟩,⟨some 23, none, .ext 1 (.t 16)⟩,⟨some 9, none, .mv (.t 22)⟩,⟨some 10, none, .mv (.t 23)⟩]
theorem tr9_1 : TR Tryd.f9 60 1 = some a9_1 := by kernel_rfl
def a9_2 : List AO := [⟨some 24, none, .mv (.t 10)⟩,⟨some 25, none, .bin .neq (.t 24) (.v (.int .i64 0))⟩]
theorem tr9_2 : TR Tryd.f9 60 2 = some a9_2 := by kernel_rfl
def a9_3 : List AO := [⟨some 26, none, .mv (.t 10)⟩,⟨some 8, none, .mv (.t 26)⟩]
theorem tr9_3 : TR Tryd.f9 60 3 = some a9_3 := by kernel_rfl
def a9_4 : List AO := [⟨some 27, none, .mv (.t 9)⟩,⟨some 28, none, .mkfn 25 [(.t 6), (.t 7)]⟩,⟨some 29, none, .call 24 [(.t 27), (.t 28)]⟩]
theorem tr9_4 : TR Tryd.f9 60 4 = some a9_4 := by kernel_rfl
def a9_5 : List AO := [⟨some 8, none, .mv (.v (.int .i64 17))⟩]
theorem tr9_5 : TR Tryd.f9 60 5 = some a9_5 := by kernel_rfl
def a9_6 : List AO := [⟨some 30, none, .mv (.t 9)⟩,⟨some 31, none, .len (.t 30)⟩,⟨some 32, none, .mv (.v (.int .i64 0))⟩]
theorem tr9_6 : TR Tryd.f9 60 6 = some a9_6 := by kernel_rfl
def a9_7 : List AO := [⟨some 33, none, .bin .lss (.t 32) (.t 31)⟩]
theorem tr9_7 : TR Tryd.f9 60 7 = some a9_7 := by kernel_rfl
def a9_8 : List AO := [⟨some 34, none, .idx 1 (.t 30) (.t 32)⟩,⟨some 35, none, .load none (.t 34)⟩,⟨some 12, none, .mv (.t 35)⟩]
theorem tr9_8 : TR Tryd.f9 60 8 = some a9_8 := by kernel_rfl
def a9_9 : List AO := [⟨some 37, none, .mv (.t 12)⟩,⟨some 38, none, .nchk (.t 37)⟩,⟨some 39, none, .fld 0 (.t 38)⟩,⟨some 40, none, .load (some 2) (.t 39)⟩,⟨some 41, none, .load none (.t 6)⟩,⟨some 42, none, .call 27 [(.t 40), (.t 41)]⟩,⟨some 36, none, .mv (.t 42)⟩,⟨some 43, none, .ext 0 (.t 36)⟩,⟨some 44, none, .ext 1 (.t 36)⟩,⟨some 45, none, .ext 2 (.t 36)⟩,⟨some 13, none, .mv (.t 43)⟩,⟨some 14, none, .mv (.t 44)⟩,⟨some 15, none, .mv (.t 45)⟩]
theorem tr9_9 : TR Tryd.f9 60 9 = some a9_9 := by kernel_rfl
def d9_9 : List (List Nat) := [[], [0], [0, 1], [0, 1, 2], [], [0, 1, 2, 3, 4], [0, 1, 2, 3, 4, 5], [0, 1, 2, 3, 4, 5, 6], [0, 1, 2, 3, 4, 5, 6], [0, 1, 2, 3, 4, 5, 6], [0, 1, 2, 3, 4, 5, 6, 7], [0, 1, 2, 3, 4, 5, 6, 7, 8, 10], [0, 1, 2, 3, 4, 5, 6, 7, 8, 9, 10, 11]]
theorem ok9_9 : okReg (ro Tryd.f9 9) a9_9 d9_9 = true := by kernel_rfl
def a9_10 : List AO := [⟨some 46, none, .mv (.t 12)⟩,⟨some 47, none, .nchk (.t 46)⟩,⟨some 48, none, .fld 2 (.t 47)⟩,⟨some 49, none, .load none (.t 48)⟩,⟨some 50, none, .mv (.t 13)⟩,⟨some 51, none, .idx 1 (.t 49) (.t 50)⟩,⟨some 52, none, .load none (.t 51)⟩,⟨some 53, none, .mv (.t 14)⟩,⟨some 54, none, .idx 1 (.t 52) (.t 53)⟩,⟨some 55, none, .load none (.t 54)⟩,⟨some 56, none, .load none (.t 7)⟩,⟨some 57, none, .bin .add (.t 55) (.t 56)⟩,⟨some 58, none, .idx 1 (.t 52) (.t 53)⟩,⟨none, none, .store 1 (.t 58) (.t 57)⟩]
theorem tr9_10 : TR Tryd.f9 60 10 = some a9_10 := by kernel_rfl
def d9_10 : List (List Nat) := [[], [0], [0, 1], [0, 1, 2], [], [0, 1, 2, 3, 4], [0, 1, 2, 3, 4, 5], [], [0, 1, 2, 3, 4, 5, 6, 7], [0, 1, 2, 3, 4, 5, 6, 7, 8], [], [0, 1, 2, 3, 4, 5, 6, 7, 8, 9, 10], [0, 1, 2, 3, 4, 5, 6, 7, 8, 9, 10, 11], [0, 1, 2, 3, 4, 5, 6, 7, 8, 9, 10, 11, 12]]
theorem ok9_10 : okReg (ro Tryd.f9 10) a9_10 d9_10 = true := by kernel_rfl
def a9_11 : List AO := [⟨some 59, none, .bin .add (.t 32) (.v (.int .i64 1))⟩,⟨some 32, none, .mv (.t 59)⟩]
theorem tr9_11 : TR Tryd.f9 60 11 = some a9_11 := by kernel_rfl
def a9_12 : List AO := [⟨some 8, none, .mv (.v (.int .i64 0))⟩]
theorem tr9_12 : TR Tryd.f9 60 12 = some a9_12 := by kernel_rfl
noncomputable def c10 : Code := .seq (.region 0 (ro Tryd.f10 0) false) (.seq (.seq (.region 1 (ro Tryd.f10 1) false) (.cond (.tmp 13) (.seq (.region 2 (ro Tryd.f10 2) false) (.ret)) (.skip))) (.seq (.region 3 (ro Tryd.f10 3) false) (.seq (.seq (.region 4 (ro Tryd.f10 4) false) (.block 0 (.loop (.seq (.region 5 (ro Tryd.f10 5) false) (.seq (.cond (.tmp 24) (.skip) (.exit 0)) (.seq (.block 1 (.seq (.region 6 (ro Tryd.f10 6) false) (.region 7 (ro Tryd.f10 7) false))) (.region 8 (ro Tryd.f10 8) false))))))) (.seq (.region 9 (ro Tryd.f10 9) false) (.ret)))))
theorem body10 : Tryd.f10.body = some c10 := by kernel_rfl
theorem res10 : Tryd.f10.results.toList.mapM (trR Tryd.prog) = some [.t 6] := by kernel_rfl
theorem nt10 : Tryd.f10.ntmps = 35 := by kernel_rfl
theorem nm10 : (Tryd.f10.name == "runtime.NumGoroutine") = false := by kernel_rfl
def a10_0 : List AO := [⟨some 6, none, .mv (.v (.int .i64 0))⟩]
theorem tr10_0 : TR Tryd.f10 35 0 = some a10_0 := by kernel_rfl
def a10_1 : List AO := [⟨some 10, none, .mv (.t 0)⟩,⟨some 11, none, .mv (.t 1)⟩,⟨some 12, none, .call 28 [(.t 10), (.t 11)]⟩,⟨some 13, none, .un .not (.t 12)⟩]
theorem tr10_1 : TR Tryd.f10 35 1 = some a10_1 := by kernel_rfl
def a10_2 : List AO := [⟨some 6, none, .mv (.v (.int .i64 0))⟩]
theorem tr10_2 : TR Tryd.f10 35 2 = some a10_2 := by kernel_rfl
def a10_3 : List AO := [⟨some 14, none, .mv (.t 0)⟩,⟨some 15, none, .mv (.t 1)⟩,⟨some 16, none, .idx 4 (.t 15) (.v (.int .i64 0))⟩,⟨some 17, none, .load (some 4) (.t 16)⟩,⟨some 18, none, .mv (.t 2)⟩,⟨some 19, none, .call 29 [(.t 14), (.t 17), (.t 18)]⟩,⟨some 7, none, .mv (.t 19)⟩]
theorem tr10_3 : TR Tryd.f10 35 3 = some a10_3 := by kernel_rfl
def a10_4 : List AO := [⟨some 20, none, .mv (.t 1)⟩,⟨some 21, none, .sub 4 (some (.v (.int .i64 1))) none none (.t 20)⟩,⟨some 22, none, .len (.t 21)⟩,⟨some 23, none, .mv (.v (.int .i64 0))⟩]
theorem tr10_4 : TR Tryd.f10 35 4 = some a10_4 := by kernel_rfl
def a10_5 : List AO := [⟨some 24, none, .bin .lss (.t 23) (.t 22)⟩]
theorem tr10_5 : TR Tryd.f10 35 5 = some a10_5 := by kernel_rfl
def a10_6 : List AO := [⟨some 25, none, .idx 4 (.t 21) (.t 23)⟩,⟨some 26, none, .load (some 4) (.t 25)⟩,⟨some 9, none, .alloc 38 [(.str []), (.int .i64 0), (.int .i64 0), (.str [])]⟩,⟨none, none, .store 4 (.t 9) (.t 26)⟩]
theorem tr10_6 : TR Tryd.f10 35 6 = some a10_6 := by kernel_rfl
def a10_7 : List AO := [⟨some 27, none, .mv (.t 7)⟩,⟨some 28, none, .mv (.t 0)⟩,⟨some 29, none, .load (some 4) (.t 9)⟩,⟨some 30, none, .mv (.t 2)⟩,⟨some 31, none, .call 29 [(.t 28), (.t 29), (.t 30)]⟩,⟨some 32, none, .mn (.t 27) (.t 31)⟩,⟨some 7, none, .mv (.t 32)⟩]
theorem tr10_7 : TR Tryd.f10 35 7 = some a10_7 := by kernel_rfl
def a10_8 : List AO := [⟨some 33, none, .bin .add (.t 23) (.v (.int .i64 1))⟩,⟨some 23, none, .mv (.t 33)⟩]
theorem tr10_8 : TR Tryd.f10 35 8 = some a10_8 := by kernel_rfl
def a10_9 : List AO := [⟨some 34, none, .mv (.t 7)⟩,⟨some 6, none, .mv (.t 34)⟩]
theorem tr10_9 : TR Tryd.f10 35 9 = some a10_9 := by kernel_rfl
noncomputable def c11 : Code := .seq (.region 0 (ro Tryd.f11 0) false) (.seq (.seq (.region 1 (ro Tryd.f11 1) false) (.cond (.tmp 11) (.seq (.region 2 (ro Tryd.f11 2) false) (.ret)) (.skip))) (.seq (.region 3 (ro Tryd.f11 3) false) (.seq (.seq (.region 4 (ro Tryd.f11 4) false) (.block 0 (.loop (.seq (.region 5 (ro Tryd.f11 5) false) (.seq (.cond (.tmp 25) (.skip) (.exit 0)) (.block 1 (.seq (.region 6 (ro Tryd.f11 6) false) (.seq (.region 7 (ro Tryd.f11 7) true) (.seq (.seq (.region 8 (ro Tryd.f11 8) false) (.block 2 (.loop (.seq (.region 9 (ro Tryd.f11 9) false) (.seq (.cond (.tmp 45) (.skip) (.exit 2)) (.seq (.block 3 (.seq (.region 10 (ro Tryd.f11 10) false) (.region 11 (ro Tryd.f11 11) true))) (.region 12 (ro Tryd.f11 12) false))))))) (.region 13 (ro Tryd.f11 13) true)))))))))) (.seq (.region 14 (ro Tryd.f11 14) false) (.ret)))))
theorem body11 : Tryd.f11.body = some c11 := by kernel_rfl
theorem res11 : Tryd.f11.results.toList.mapM (trR Tryd.prog) = some [.t 2] := by kernel_rfl
theorem nt11 : Tryd.f11.ntmps = 67 := by kernel_rfl
theorem nm11 : (Tryd.f11.name == "runtime.NumGoroutine") = false := by kernel_rfl
def a11_0 : List AO := [⟨some 2, none, .mv (.v .nilp)⟩]
theorem tr11_0 : TR Tryd.f11 67 0 = some a11_0 := by kernel_rfl
def a11_1 : List AO := [⟨some 9, none, .mv (.t 0)⟩,⟨some 10, none, .call 20 [(.t 9)]⟩,⟨some 11, none, .un .not (.t 10)⟩]
theorem tr11_1 : TR Tryd.f11 67 1 = some a11_1 := by kernel_rfl
def a11_3 : List AO := [⟨some 12, none, .mv (.t 0)⟩,⟨some 13, none, .nchk (.t 12)⟩,⟨some 14, none, .fld 0 (.t 13)⟩,⟨some 15, none, .load none (.t 14)⟩,⟨some 16, none, .mkmap⟩,⟨some 17, none, .build [.nils, .nilm] [(0, 1, (.t 15)), (1, 1, (.t 16))]⟩,⟨some 18, none, .box 63 (.t 17)⟩,⟨some 3, none, .mv (.t 18)⟩]
theorem tr11_3 : TR Tryd.f11 67 3 = some a11_3 := by kernel_rfl
def a11_4p : List AO := [⟨some 19, none, .mv (.t 0)⟩,⟨some 20, none, .nchk (.t 19)⟩,⟨some 21, none, .fld 1 (.t 20)⟩,⟨some 22, none, .load none (.t 21)⟩]
theorem tr11_4p : (ro Tryd.f11 4).toList.dropLast.mapM (trO Tryd.prog 67 (ro Tryd.f11 4)) = some a11_4p := by kernel_rfl
def a11_6s : List AO := [⟨some 27, none, .ext 0 (.t 26)⟩,⟨some 28, none, .ext 1 (.t 26)⟩,⟨some 4, none, .alloc 38 [(.str []), (.int .i64 0), (.int .i64 0), (.str [])]⟩,⟨none, none, .store 4 (.t 4) (.t 27)⟩,⟨some 5, none, .mv (.t 28)⟩]
theorem tr11_6s : (ro Tryd.f11 6).toList.tail.mapM (trO Tryd.prog 67 (ro Tryd.f11 6)) = some a11_6s := by kernel_rfl
def a11_7 : List AO := [⟨some 29, none, .mv (.t 5)⟩,⟨some 30, none, .nchk (.t 29)⟩,⟨some 31, none, .fld 0 (.t 30)⟩,⟨some 32, none, .load (some 2) (.t 31)⟩,⟨some 33, none, .mv (.t 5)⟩,⟨some 34, none, .nchk (.t 33)⟩,⟨some 35, none, .fld 3 (.t 34)⟩,⟨some 36, none, .load none (.t 35)⟩,⟨some 37, none, .build [(.str []), .nils, .nils, (.bool false)] [(0, 2, (.t 32)), (3, 1, (.t 36))]⟩,⟨some 38, none, .box 73 (.t 37)⟩,⟨some 6, none, .mv (.t 38)⟩]
theorem tr11_7 : TR Tryd.f11 67 7 = some a11_7 := by kernel_rfl
def d11_7 : List (List Nat) := [[], [0], [0, 1], [0, 1, 2], [], [4], [4, 5], [4, 5, 6], [0, 1, 2, 3, 4, 5, 6, 7], [0, 1, 2, 3, 4, 5, 6, 7, 8], [0, 1, 2, 3, 4, 5, 6, 7, 8, 9]]
theorem ok11_7 : okReg (ro Tryd.f11 7) a11_7 d11_7 = true := by kernel_rfl
def a11_8 : List AO := [⟨some 39, none, .mv (.t 5)⟩,⟨some 40, none, .nchk (.t 39)⟩,⟨some 41, none, .fld 2 (.t 40)⟩,⟨some 42, none, .load none (.t 41)⟩,⟨some 43, none, .len (.t 42)⟩,⟨some 44, none, .mv (.v (.int .i64 0))⟩]
theorem tr11_8 : TR Tryd.f11 67 8 = some a11_8 := by kernel_rfl
def a11_9 : List AO := [⟨some 45, none, .bin .lss (.t 44) (.t 43)⟩]
theorem tr11_9 : TR Tryd.f11 67 9 = some a11_9 := by kernel_rfl
def a11_10 : List AO := [⟨some 46, none, .idx 1 (.t 42) (.t 44)⟩,⟨some 47, none, .load none (.t 46)⟩,⟨some 8, none, .mv (.t 47)⟩]
theorem tr11_10 : TR Tryd.f11 67 10 = some a11_10 := by kernel_rfl
def a11_11 : List AO := [⟨some 48, none, .mv (.t 6)⟩,⟨some 49, none, .mv (.t 6)⟩,⟨some 50, none, .nchk (.t 49)⟩,⟨some 51, none, .fld 2 (.t 50)⟩,⟨some 52, none, .load none (.t 51)⟩,⟨some 53, none, .mv (.t 8)⟩,⟨some 54, none, .call 30 [(.t 53)]⟩,⟨some 55, none, .slc 82 1 false [(.t 54)]⟩,⟨some 56, none, .app 82 1 24 (.t 52) (.t 55)⟩,⟨some 57, none, .nchk (.t 48)⟩,⟨some 58, none, .fld 2 (.t 57)⟩,⟨none, none, .store 1 (.t 58) (.t 56)⟩]
theorem tr11_11 : TR Tryd.f11 67 11 = some a11_11 := by kernel_rfl
def d11_11 : List (List Nat) := [[], [], [1], [1, 2], [1, 2, 3], [], [5], [5, 6], [1, 2, 3, 4, 5, 6, 7], [0, 1, 2, 3, 4, 5, 6, 7, 8], [0, 1, 2, 3, 4, 5, 6, 7, 8, 9], [0, 1, 2, 3, 4, 5, 6, 7, 8, 9, 10]]
theorem ok11_11 : okReg (ro Tryd.f11 11) a11_11 d11_11 = true := by kernel_rfl
def a11_12 : List AO := [⟨some 59, none, .bin .add (.t 44) (.v (.int .i64 1))⟩,⟨some 44, none, .mv (.t 59)⟩]
theorem tr11_12 : TR Tryd.f11 67 12 = some a11_12 := by kernel_rfl
def a11_13 : List AO := [⟨some 60, none, .mv (.t 3)⟩,⟨some 61, none, .nchk (.t 60)⟩,⟨some 62, none, .fld 1 (.t 61)⟩,⟨some 63, none, .load none (.t 62)⟩,⟨some 64, none, .load (some 4) (.t 4)⟩,⟨some 65, none, .mv (.t 6)⟩,⟨none, none, .mset 3 (.t 63) (.t 64) (.t 65)⟩]
theorem tr11_13 : TR Tryd.f11 67 13 = some a11_13 := by kernel_rfl
def d11_13 : List (List Nat) := [[], [0], [0, 1], [0, 1, 2], [], [], [0, 1, 2, 3, 4, 5]]
theorem ok11_13 : okReg (ro Tryd.f11 13) a11_13 d11_13 = true := by kernel_rfl
def a11_14 : List AO := [⟨some 66, none, .mv (.t 3)⟩,⟨some 2, none, .mv (.t 66)⟩]
theorem tr11_14 : TR Tryd.f11 67 14 = some a11_14 := by kernel_rfl
noncomputable def c12 : Code := .seq (.region 0 (ro Tryd.f12 0) false) (.seq (.region 1 (ro Tryd.f12 1) false) (.seq (.seq (.region 2 (ro Tryd.f12 2) false) (.cond (.tmp 30) (.seq (.region 3 (ro Tryd.f12 3) false) (.ret)) (.skip))) (.seq (.seq (.region 4 (ro Tryd.f12 4) false) (.block 0 (.loop (.seq (.region 5 (ro Tryd.f12 5) false) (.seq (.cond (.tmp 35) (.skip) (.exit 0)) (.seq (.block 1 (.seq (.region 6 (ro Tryd.f12 6) false) (.seq (.region 7 (ro Tryd.f12 7) false) (.seq (.region 8 (ro Tryd.f12 8) false) (.cond (.tmp 59) (.seq (.region 9 (ro Tryd.f12 9) false) (.ret)) (.skip)))))) (.region 10 (ro Tryd.f12 10) false))))))) (.seq (.seq (.region 11 (ro Tryd.f12 11) false) (.block 2 (.loop (.seq (.region 12 (ro Tryd.f12 12) false) (.seq (.cond (.tmp 64) (.skip) (.exit 2)) (.seq (.block 3 (.seq (.region 13 (ro Tryd.f12 13) false) (.seq (.region 14 (ro Tryd.f12 14) false) (.region 15 (ro Tryd.f12 15) false)))) (.region 16 (ro Tryd.f12 16) false))))))) (.seq (.region 17 (ro Tryd.f12 17) false) (.ret))))))
theorem body12 : Tryd.f12.body = some c12 := by kernel_rfl
theorem res12 : Tryd.f12.results.toList.mapM (trR Tryd.prog) = some [.t 8] := by kernel_rfl
theorem nt12 : Tryd.f12.ntmps = 91 := by kernel_rfl
theorem nm12 : (Tryd.f12.name == "runtime.NumGoroutine") = false := by kernel_rfl
def a12_0 : List AO := [⟨some 8, none, .mv (.v (.int .i64 0))⟩]
theorem tr12_0 : TR Tryd.f12 91 0 = some a12_0 := by kernel_rfl
def a12_1 : List AO := [⟨some 22, none, .mv (.t 0)⟩,⟨some 23, none, .mv (.t 1)⟩,⟨some 24, none, .mv (.t 2)⟩,⟨some 25, none, .mv (.t 3)⟩,⟨some 26, none, .call 23 [(.t 22), (.t 23), (.t 24), (.t 25), (.v (.bool false))]⟩,⟨some 21, none, .mv (.t 26)⟩,⟨some 27, none, .ext 0 (.t 21)⟩,⟨some 28, none, .ext 1 (.t 21)⟩,⟨some 9, none, .mv (.t 27)⟩,⟨some 10, none, .mv (.t 28)⟩]
theorem tr12_1 : TR Tryd.f12 91 1 = some a12_1 := by kernel_rfl
def a12_2 : List AO := [⟨some 29, none, .mv (.t 10)⟩,⟨some 30, none, .bin .neq (.t 29) (.v (.int .i64 0))⟩]
theorem tr12_2 : TR Tryd.f12 91 2 = some a12_2 := by kernel_rfl
def a12_4 : List AO := [⟨some 32, none, .mv (.t 9)⟩,⟨some 33, none, .len (.t 32)⟩,⟨some 34, none, .mv (.v (.int .i64 0))⟩]
theorem tr12_4 : TR Tryd.f12 91 4 = some a12_4 := by kernel_rfl
def a12_5 : List AO := [⟨some 35, none, .bin .lss (.t 34) (.t 33)⟩]
theorem tr12_5 : TR Tryd.f12 91 5 = some a12_5 := by kernel_rfl
def a12_6 : List AO := [⟨some 36, none, .idx 1 (.t 32) (.t 34)⟩,⟨some 37, none, .load none (.t 36)⟩,⟨some 12, none, .mv (.t 37)⟩]
theorem tr12_6 : TR Tryd.f12 91 6 = some a12_6 := by kernel_rfl
def a12_7 : List AO := [⟨some 39, none, .mv (.t 12)⟩,⟨some 40, none, .nchk (.t 39)⟩,⟨some 41, none, .fld 0 (.t 40)⟩,⟨some 42, none, .load (some 2) (.t 41)⟩,⟨some 43, none, .mv (.t 2)⟩,⟨some 44, none, .call 27 [(.t 42), (.t 43)]⟩,⟨some 38, none, .mv (.t 44)⟩,⟨some 45, none, .ext 0 (.t 38)⟩,⟨some 46, none, .ext 1 (.t 38)⟩,⟨some 47, none, .ext 2 (.t 38)⟩,⟨some 13, none, .mv (.t 45)⟩,⟨some 14, none, .mv (.t 46)⟩,⟨some 15, none, .mv (.t 47)⟩]
theorem tr12_7 : TR Tryd.f12 91 7 = some a12_7 := by kernel_rfl
def a12_8 : List AO := [⟨some 48, none, .mv (.t 12)⟩,⟨some 49, none, .nchk (.t 48)⟩,⟨some 50, none, .fld 2 (.t 49)⟩,⟨some 51, none, .load none (.t 50)⟩,⟨some 52, none, .mv (.t 13)⟩,⟨some 53, none, .idx 1 (.t 51) (.t 52)⟩,⟨some 54, none, .load none (.t 53)⟩,⟨some 55, none, .mv (.t 14)⟩,⟨some 56, none, .idx 1 (.t 54) (.t 55)⟩,⟨some 57, none, .load none (.t 56)⟩,⟨some 58, none, .mv (.t 3)⟩,⟨some 59, none, .bin .lss (.t 57) (.t 58)⟩]
theorem tr12_8 : TR Tryd.f12 91 8 = some a12_8 := by kernel_rfl
def a12_10 : List AO := [⟨some 60, none, .bin .add (.t 34) (.v (.int .i64 1))⟩,⟨some 34, none, .mv (.t 60)⟩]
theorem tr12_10 : TR Tryd.f12 91 10 = some a12_10 := by kernel_rfl
def a12_11 : List AO := [⟨some 61, none, .mv (.t 9)⟩,⟨some 62, none, .len (.t 61)⟩,⟨some 63, none, .mv (.v (.int .i64 0))⟩]
theorem tr12_11 : TR Tryd.f12 91 11 = some a12_11 := by kernel_rfl
def a12_12 : List AO := [⟨some 64, none, .bin .lss (.t 63) (.t 62)⟩]
theorem tr12_12 : TR Tryd.f12 91 12 = some a12_12 := by kernel_rfl
def a12_13 : List AO := [⟨some 65, none, .idx 1 (.t 61) (.t 63)⟩,⟨some 66, none, .load none (.t 65)⟩,⟨some 17, none, .mv (.t 66)⟩]
theorem tr12_13 : TR Tryd.f12 91 13 = some a12_13 := by kernel_rfl
def a12_14 : List AO := [⟨some 68, none, .mv (.t 17)⟩,⟨some 69, none, .nchk (.t 68)⟩,⟨some 70, none, .fld 0 (.t 69)⟩,⟨some 71, none, .load (some 2) (.t 70)⟩,⟨some 72, none, .mv (.t 2)⟩,⟨some 73, none, .call 27 [(.t 71), (.t 72)]⟩,⟨some 67, none, .mv (.t 73)⟩,⟨some 74, none, .ext 0 (.t 67)⟩,⟨some 75, none, .ext 1 (.t 67)⟩,⟨some 76, none, .ext 2 (.t 67)⟩,⟨some 18, none, .mv (.t 74)⟩,⟨some 19, none, .mv (.t 75)⟩,⟨some 20, none, .mv (.t 76)⟩]
theorem tr12_14 : TR Tryd.f12 91 14 = some a12_14 := by kernel_rfl
def a12_15 : List AO := [⟨some 77, none, .mv (.t 17)⟩,⟨some 78, none, .nchk (.t 77)⟩,⟨some 79, none, .fld 2 (.t 78)⟩,⟨some 80, none, .load none (.t 79)⟩,⟨some 81, none, .mv (.t 18)⟩,⟨some 82, none, .idx 1 (.t 80) (.t 81)⟩,⟨some 83, none, .load none (.t 82)⟩,⟨some 84, none, .mv (.t 19)⟩,⟨some 85, none, .idx 1 (.t 83) (.t 84)⟩,⟨some 86, none, .load none (.t 85)⟩,⟨some 87, none, .mv (.t 3)⟩,⟨some 88, none, .bin .sub (.t 86) (.t 87)⟩,⟨some 89, none, .idx 1 (.t 83) (.t 84)⟩,⟨none, none, .store 1 (.t 89) (.t 88)⟩]
theorem tr12_15 : TR Tryd.f12 91 15 = some a12_15 := by kernel_rfl
def a12_16 : List AO := [⟨some 90, none, .bin .add (.t 63) (.v (.int .i64 1))⟩,⟨some 63, none, .mv (.t 90)⟩]
theorem tr12_16 : TR Tryd.f12 91 16 = some a12_16 := by kernel_rfl
def a12_17 : List AO := [⟨some 8, none, .mv (.v (.int .i64 0))⟩]
theorem tr12_17 : TR Tryd.f12 91 17 = some a12_17 := by kernel_rfl
noncomputable def c13 : Code := .seq (.region 0 (ro Tryd.f13 0) false) (.seq (.seq (.region 1 (ro Tryd.f13 1) false) (.cond (.tmp 8) (.region 2 (ro Tryd.f13 2) false) (.skip))) (.seq (.region 3 (ro Tryd.f13 3) false) (.ret)))
theorem body13 : Tryd.f13.body = some c13 := by kernel_rfl
theorem res13 : Tryd.f13.results.toList.mapM (trR Tryd.prog) = some [.t 6] := by kernel_rfl
theorem nt13 : Tryd.f13.ntmps = 18 := by kernel_rfl
theorem nm13 : (Tryd.f13.name == "runtime.NumGoroutine") = false := by kernel_rfl
def a13_0 : List AO := [⟨some 6, none, .mv (.v (.str []))⟩]
theorem tr13_0 : TR Tryd.f13 18 0 = some a13_0 := by kernel_rfl
def a13_1 : List AO := [⟨some 7, none, .mv (.t 0)⟩,⟨some 8, none, .bin .neq (.t 7) (.v (.str []))⟩]
theorem tr13_1 : TR Tryd.f13 18 1 = some a13_1 := by kernel_rfl
def a13_2 : List AO := [⟨some 9, none, .mv (.t 0)⟩,⟨some 10, none, .bin .add (.t 9) (.v (.str [32]))⟩,⟨some 0, none, .mv (.t 10)⟩]
theorem tr13_2 : TR Tryd.f13 18 2 = some a13_2 := by kernel_rfl
def a13_3 : List AO := [⟨some 11, none, .mv (.t 0)⟩,⟨some 12, none, .mv (.t 1)⟩,⟨some 13, none, .bin .add (.t 11) (.t 12)⟩,⟨some 14, none, .bin .add (.t 13) (.v (.str [32]))⟩,⟨some 15, none, .mv (.t 2)⟩,⟨some 16, none, .call 31 [(.t 15)]⟩,⟨some 17, none, .bin .add (.t 14) (.t 16)⟩,⟨some 6, none, .mv (.t 17)⟩]
theorem tr13_3 : TR Tryd.f13 18 3 = some a13_3 := by kernel_rfl
noncomputable def c14 : Code := .seq (.region 0 (ro Tryd.f14 0) false) (.seq (.seq (.region 1 (ro Tryd.f14 1) false) (.block 0 (.loop (.seq (.seq (.region 2 (ro Tryd.f14 2) false) (.cond (.tmp 11) (.skip) (.exit 0))) (.seq (.block 1 (.seq (.region 4 (ro Tryd.f14 4) false) (.cond (.tmp 25) (.seq (.region 5 (ro Tryd.f14 5) false) (.ret)) (.skip)))) (.region 3 (ro Tryd.f14 3) false)))))) (.seq (.region 6 (ro Tryd.f14 6) false) (.ret)))
theorem body14 : Tryd.f14.body = some c14 := by kernel_rfl
theorem res14 : Tryd.f14.results.toList.mapM (trR Tryd.prog) = some [.t 6] := by kernel_rfl
theorem nt14 : Tryd.f14.ntmps = 36 := by kernel_rfl
theorem nm14 : (Tryd.f14.name == "runtime.NumGoroutine") = false := by kernel_rfl
def a14_0 : List AO := [⟨some 6, none, .mv (.v (.bool false))⟩]
theorem tr14_0 : TR Tryd.f14 36 0 = some a14_0 := by kernel_rfl
def a14_1 : List AO := [⟨some 7, none, .mv (.v (.int .i64 0))⟩]
theorem tr14_1 : TR Tryd.f14 36 1 = some a14_1 := by kernel_rfl
def a14_2 : List AO := [⟨some 8, none, .mv (.t 7)⟩,⟨some 9, none, .mv (.t 0)⟩,⟨some 10, none, .slen (.t 9)⟩,⟨some 11, none, .bin .lss (.t 8) (.t 10)⟩]
theorem tr14_2 : TR Tryd.f14 36 2 = some a14_2 := by kernel_rfl
def a14_4 : List AO := [⟨some 14, none, .mv (.t 0)⟩,⟨some 15, none, .mv (.t 7)⟩,⟨some 16, none, .sidx (.t 14) (.t 15)⟩,⟨some 17, none, .call 32 [(.t 16)]⟩,⟨some 18, none, .un .not (.t 17)⟩,⟨some 19, none, .mv (.t 18)⟩,⟨(some 20), some (19, true), .mv (.t 0)⟩,⟨(some 21), some (19, true), .mv (.t 7)⟩,⟨(some 22), some (19, true), .sidx (.t 20) (.t 21)⟩,⟨(some 23), some (19, true), .call 33 [(.t 22)]⟩,⟨(some 24), some (19, true), .un .not (.t 23)⟩,⟨some 25, none, .pick (.t 19) (.t 24) (.v (.bool false))⟩]
theorem tr14_4 : TR Tryd.f14 36 4 = some a14_4 := by kernel_rfl
def a14_5 : List AO := [⟨some 6, none, .mv (.v (.bool false))⟩]
theorem tr14_5 : TR Tryd.f14 36 5 = some a14_5 := by kernel_rfl
def a14_3 : List AO := [⟨some 12, none, .mv (.t 7)⟩,⟨some 13, none, .bin .add (.t 12) (.v (.int .i64 1))⟩,⟨some 7, none, .mv (.t 13)⟩]
theorem tr14_3 : TR Tryd.f14 36 3 = some a14_3 := by kernel_rfl
def a14_6 : List AO := [⟨some 26, none, .mv (.t 0)⟩,⟨some 27, none, .slen (.t 26)⟩,⟨some 28, none, .mv (.t 1)⟩,⟨some 29, none, .bin .geq (.t 27) (.t 28)⟩,⟨some 30, none, .mv (.t 29)⟩,⟨(some 31), some (30, true), .mv (.t 0)⟩,⟨(some 32), some (30, true), .slen (.t 31)⟩,⟨(some 33), some (30, true), .mv (.t 2)⟩,⟨(some 34), some (30, true), .bin .leq (.t 32) (.t 33)⟩,⟨some 35, none, .pick (.t 30) (.t 34) (.v (.bool false))⟩,⟨some 6, none, .mv (.t 35)⟩]
theorem tr14_6 : TR Tryd.f14 36 6 = some a14_6 := by kernel_rfl
noncomputable def c15 : Code := .seq (.region 0 (ro Tryd.f15 0) false) (.seq (.region 1 (ro Tryd.f15 1) false) (.seq (.seq (.region 2 (ro Tryd.f15 2) false) (.block 0 (.loop (.seq (.seq (.region 3 (ro Tryd.f15 3) false) (.cond (.tmp 15) (.skip) (.exit 0))) (.seq (.block 1 (.seq (.region 5 (ro Tryd.f15 5) true) (.seq (.seq (.region 6 (ro Tryd.f15 6) false) (.block 2 (.loop (.seq (.seq (.region 7 (ro Tryd.f15 7) false) (.cond (.tmp 28) (.skip) (.exit 2))) (.seq (.block 3 (.region 9 (ro Tryd.f15 9) true)) (.region 8 (ro Tryd.f15 8) false)))))) (.seq (.seq (.region 10 (ro Tryd.f15 10) false) (.cond (.tmp 46) (.region 11 (ro Tryd.f15 11) false) (.skip))) (.seq (.seq (.region 12 (ro Tryd.f15 12) false) (.cond (.tmp 52) (.region 13 (ro Tryd.f15 13) false) (.skip))) (.seq (.seq (.region 14 (ro Tryd.f15 14) false) (.cond (.tmp 60) (.region 15 (ro Tryd.f15 15) false) (.skip))) (.seq (.seq (.region 16 (ro Tryd.f15 16) false) (.cond (.tmp 75) (.region 17 (ro Tryd.f15 17) false) (.skip))) (.region 18 (ro Tryd.f15 18) false)))))))) (.region 4 (ro Tryd.f15 4) false)))))) (.seq (.region 19 (ro Tryd.f15 19) false) (.ret))))
theorem body15 : Tryd.f15.body = some c15 := by kernel_rfl
theorem res15 : Tryd.f15.results.toList.mapM (trR Tryd.prog) = some [.t 4] := by kernel_rfl
theorem nt15 : Tryd.f15.ntmps = 88 := by kernel_rfl
theorem nm15 : (Tryd.f15.name == "runtime.NumGoroutine") = false := by kernel_rfl
def a15_0 : List AO := [⟨some 2, none, .box 48 (.t 0)⟩,⟨some 4, none, .mv (.v .nils)⟩]
theorem tr15_0 : TR Tryd.f15 88 0 = some a15_0 := by kernel_rfl
def a15_1 : List AO := [⟨some 5, none, .mv (.v .nils)⟩]
theorem tr15_1 : TR Tryd.f15 88 1 = some a15_1 := by kernel_rfl
def a15_2 : List AO := [⟨some 6, none, .mv (.v (.int .i64 0))⟩]
theorem tr15_2 : TR Tryd.f15 88 2 = some a15_2 := by kernel_rfl
def a15_3 : List AO := [⟨some 11, none, .mv (.t 6)⟩,⟨some 12, none, .fld 1 (.t 2)⟩,⟨some 13, none, .load none (.t 12)⟩,⟨some 14, none, .len (.t 13)⟩,⟨some 15, none, .bin .lss (.t 11) (.t 14)⟩]
theorem tr15_3 : TR Tryd.f15 88 3 = some a15_3 := by kernel_rfl
def a15_5 : List AO := [⟨some 18, none, .mv (.t 1)⟩,⟨some 19, none, .mv (.t 6)⟩,⟨some 20, none, .call 13 [(.t 18), (.v (.str [99, 97, 98, 105, 110])), (.t 19)]⟩,⟨some 21, none, .fld 1 (.t 2)⟩,⟨some 22, none, .load none (.t 21)⟩,⟨some 23, none, .mv (.t 6)⟩,⟨some 24, none, .idx 4 (.t 22) (.t 23)⟩,⟨some 25, none, .load (some 4) (.t 24)⟩,⟨some 8, none, .alloc 89 [(.str []), (.int .i64 0), (.int .i64 0), .nils]⟩,⟨some 7, none, .mv (.t 20)⟩,⟨none, none, .store 4 (.t 8) (.t 25)⟩,⟨some 9, none, .mv (.v (.bool false))⟩]
theorem tr15_5 : TR Tryd.f15 88 5 = some a15_5 := by kernel_rfl
def d15_5 : List (List Nat) := [[], [], [0, 1], [], [3], [], [3, 4, 5], [3, 4, 5, 6], [], [0, 1, 2, 8], [0, 1, 2, 3, 4, 5, 6, 7, 8, 9], [0, 1, 2, 3, 4, 5, 6, 7, 8, 9, 10]]
theorem ok15_5 : okReg (ro Tryd.f15 5) a15_5 d15_5 = true := by kernel_rfl
def a15_6 : List AO := [⟨some 10, none, .mv (.v (.int .i64 0))⟩]
theorem tr15_6 : TR Tryd.f15 88 6 = some a15_6 := by kernel_rfl
def a15_7 : List AO := [⟨some 26, none, .mv (.t 10)⟩,⟨some 27, none, .mv (.t 6)⟩,⟨some 28, none, .bin .lss (.t 26) (.t 27)⟩]
theorem tr15_7 : TR Tryd.f15 88 7 = some a15_7 := by kernel_rfl
def a15_9 : List AO := [⟨some 31, none, .mv (.t 9)⟩,⟨some 32, none, .mv (.t 31)⟩,⟨(some 33), some (32, false), .fld 1 (.t 2)⟩,⟨(some 34), some (32, false), .load none (.t 33)⟩,⟨(some 35), some (32, false), .mv (.t 10)⟩,⟨(some 36), some (32, false), .idx 4 (.t 34) (.t 35)⟩,⟨(some 37), some (32, false), .fld 0 (.t 36)⟩,⟨(some 38), some (32, false), .load none (.t 37)⟩,⟨(some 39), some (32, false), .fld 0 (.t 8)⟩,⟨(some 40), some (32, false), .load none (.t 39)⟩,⟨(some 41), some (32, false), .bin .eql (.t 38) (.t 40)⟩,⟨some 42, none, .pick (.t 32) (.v (.bool true)) (.t 41)⟩,⟨some 9, none, .mv (.t 42)⟩]
theorem tr15_9 : TR Tryd.f15 88 9 = some a15_9 := by kernel_rfl
def d15_9 : List (List Nat) := [[], [0], [0, 1], [0, 1, 2], [0, 1], [0, 1, 2, 3, 4], [0, 1, 2, 3, 4, 5], [0, 1, 2, 3, 4, 5, 6], [0, 1], [0, 1, 8], [0, 1, 2, 3, 4, 5, 6, 7, 8, 9], [0, 1, 2, 3, 4, 5, 6, 7, 8, 9, 10], [0, 1, 2, 3, 4, 5, 6, 7, 8, 9, 10, 11]]
theorem ok15_9 : okReg (ro Tryd.f15 9) a15_9 d15_9 = true := by kernel_rfl
def a15_8 : List AO := [⟨some 29, none, .mv (.t 10)⟩,⟨some 30, none, .bin .add (.t 29) (.v (.int .i64 1))⟩,⟨some 10, none, .mv (.t 30)⟩]
theorem tr15_8 : TR Tryd.f15 88 8 = some a15_8 := by kernel_rfl
def a15_10 : List AO := [⟨some 43, none, .fld 0 (.t 8)⟩,⟨some 44, none, .load none (.t 43)⟩,⟨some 45, none, .call 14 [(.t 44), (.v (.int .i64 1)), (.v (.int .i64 8))]⟩,⟨some 46, none, .un .not (.t 45)⟩]
theorem tr15_10 : TR Tryd.f15 88 10 = some a15_10 := by kernel_rfl
def a15_11 : List AO := [⟨some 47, none, .mv (.t 5)⟩,⟨some 48, none, .mv (.t 7)⟩,⟨some 49, none, .build [(.int .i64 0), (.str [])] [(0, 1, (.v (.int .i64 5))), (1, 1, (.t 48))]⟩,⟨some 50, none, .slc 51 2 false [(.t 49)]⟩,⟨some 51, none, .app 51 2 24 (.t 47) (.t 50)⟩,⟨some 5, none, .mv (.t 51)⟩]
theorem tr15_11 : TR Tryd.f15 88 11 = some a15_11 := by kernel_rfl
def a15_12 : List AO := [⟨some 52, none, .mv (.t 9)⟩]
theorem tr15_12 : TR Tryd.f15 88 12 = some a15_12 := by kernel_rfl
def a15_13 : List AO := [⟨some 53, none, .mv (.t 5)⟩,⟨some 54, none, .mv (.t 7)⟩,⟨some 55, none, .build [(.int .i64 0), (.str [])] [(0, 1, (.v (.int .i64 6))), (1, 1, (.t 54))]⟩,⟨some 56, none, .slc 51 2 false [(.t 55)]⟩,⟨some 57, none, .app 51 2 24 (.t 53) (.t 56)⟩,⟨some 5, none, .mv (.t 57)⟩]
theorem tr15_13 : TR Tryd.f15 88 13 = some a15_13 := by kernel_rfl
def a15_14 : List AO := [⟨some 58, none, .load (some 4) (.t 8)⟩,⟨some 59, none, .call 34 [(.t 58)]⟩,⟨some 60, none, .un .not (.t 59)⟩]
theorem tr15_14 : TR Tryd.f15 88 14 = some a15_14 := by kernel_rfl
def a15_15 : List AO := [⟨some 61, none, .mv (.t 5)⟩,⟨some 62, none, .mv (.t 7)⟩,⟨some 63, none, .build [(.int .i64 0), (.str [])] [(0, 1, (.v (.int .i64 2))), (1, 1, (.t 62))]⟩,⟨some 64, none, .slc 51 2 false [(.t 63)]⟩,⟨some 65, none, .app 51 2 24 (.t 61) (.t 64)⟩,⟨some 5, none, .mv (.t 65)⟩]
theorem tr15_15 : TR Tryd.f15 88 15 = some a15_15 := by kernel_rfl
def a15_16 : List AO := [⟨some 66, none, .fld 3 (.t 8)⟩,⟨some 67, none, .load none (.t 66)⟩,⟨some 68, none, .len (.t 67)⟩,⟨some 69, none, .bin .lss (.t 68) (.v (.int .i64 1))⟩,⟨some 70, none, .mv (.t 69)⟩,⟨(some 71), some (70, false), .fld 3 (.t 8)⟩,⟨(some 72), some (70, false), .load none (.t 71)⟩,⟨(some 73), some (70, false), .len (.t 72)⟩,⟨(some 74), some (70, false), .bin .gtr (.t 73) (.v (.int .i64 26))⟩,⟨some 75, none, .pick (.t 70) (.v (.bool true)) (.t 74)⟩]
theorem tr15_16 : TR Tryd.f15 88 16 = some a15_16 := by kernel_rfl
def a15_17 : List AO := [⟨some 76, none, .mv (.t 5)⟩,⟨some 77, none, .mv (.t 7)⟩,⟨some 78, none, .build [(.int .i64 0), (.str [])] [(0, 1, (.v (.int .i64 4))), (1, 1, (.t 77))]⟩,⟨some 79, none, .slc 51 2 false [(.t 78)]⟩,⟨some 80, none, .app 51 2 24 (.t 76) (.t 79)⟩,⟨some 5, none, .mv (.t 80)⟩]
theorem tr15_17 : TR Tryd.f15 88 17 = some a15_17 := by kernel_rfl
def a15_18 : List AO := [⟨some 81, none, .mv (.t 5)⟩,⟨some 82, none, .load (some 2) (.t 2)⟩,⟨some 83, none, .mv (.t 6)⟩,⟨some 84, none, .mv (.t 7)⟩,⟨some 85, none, .call 35 [(.t 82), (.t 83), (.t 84)]⟩,⟨some 86, none, .app 51 2 24 (.t 81) (.t 85)⟩,⟨some 5, none, .mv (.t 86)⟩]
theorem tr15_18 : TR Tryd.f15 88 18 = some a15_18 := by kernel_rfl
def a15_4 : List AO := [⟨some 16, none, .mv (.t 6)⟩,⟨some 17, none, .bin .add (.t 16) (.v (.int .i64 1))⟩,⟨some 6, none, .mv (.t 17)⟩]
theorem tr15_4 : TR Tryd.f15 88 4 = some a15_4 := by kernel_rfl
def a15_19 : List AO := [⟨some 87, none, .mv (.t 5)⟩,⟨some 4, none, .mv (.t 87)⟩]
theorem tr15_19 : TR Tryd.f15 88 19 = some a15_19 := by kernel_rfl
noncomputable def c16 : Code := .seq (.region 0 (ro Tryd.f16 0) false) (.seq (.region 1 (ro Tryd.f16 1) false) (.seq (.seq (.region 2 (ro Tryd.f16 2) false) (.cond (.tmp 13) (.seq (.region 3 (ro Tryd.f16 3) false) (.ret)) (.skip))) (.seq (.region 4 (ro Tryd.f16 4) false) (.ret))))
theorem body16 : Tryd.f16.body = some c16 := by kernel_rfl
theorem res16 : Tryd.f16.results.toList.mapM (trR Tryd.prog) = some [.t 2] := by kernel_rfl
theorem nt16 : Tryd.f16.ntmps = 29 := by kernel_rfl
theorem nm16 : (Tryd.f16.name == "runtime.NumGoroutine") = false := by kernel_rfl
def a16_0 : List AO := [⟨some 2, none, .mv (.v (.str []))⟩]
theorem tr16_0 : TR Tryd.f16 29 0 = some a16_0 := by kernel_rfl
def a16_1 : List AO := [⟨some 7, none, .mv (.t 0)⟩,⟨some 8, none, .call 36 [(.t 7)]⟩,⟨some 6, none, .mv (.t 8)⟩,⟨some 9, none, .ext 0 (.t 6)⟩,⟨some 10, none, .ext 1 (.t 6)⟩,⟨some 11, none, .ext 2 (.t 6)⟩,⟨some 3, none, .mv (.t 9)⟩,⟨some 4, none, .mv (.t 10)⟩,⟨some 5, none, .mv (.t 11)⟩]
theorem tr16_1 : TR Tryd.f16 29 1 = some a16_1 := by kernel_rfl
def a16_2 : List AO := [⟨some 12, none, .mv (.t 3)⟩,⟨some 13, none, .bin .eql (.t 12) (.v (.int .i64 0))⟩]
theorem tr16_2 : TR Tryd.f16 29 2 = some a16_2 := by kernel_rfl
def a16_4 : List AO := [⟨some 14, none, .mv (.t 3)⟩,⟨some 15, none, .bin .quo (.t 14) (.v (.int .i64 100))⟩,⟨some 16, none, .call 37 [(.t 15)]⟩,⟨some 17, none, .mv (.t 3)⟩,⟨some 18, none, .bin .rem (.t 17) (.v (.int .i64 100))⟩,⟨some 19, none, .call 37 [(.t 18)]⟩,⟨some 20, none, .bin .add (.t 16) (.t 19)⟩,⟨some 21, none, .bin .add (.t 20) (.v (.str [45]))⟩,⟨some 22, none, .mv (.t 4)⟩,⟨some 23, none, .call 37 [(.t 22)]⟩,⟨some 24, none, .bin .add (.t 21) (.t 23)⟩,⟨some 25, none, .bin .add (.t 24) (.v (.str [45]))⟩,⟨some 26, none, .mv (.t 5)⟩,⟨some 27, none, .call 37 [(.t 26)]⟩,⟨some 28, none, .bin .add (.t 25) (.t 27)⟩,⟨some 2, none, .mv (.t 28)⟩]
theorem tr16_4 : TR Tryd.f16 29 4 = some a16_4 := by kernel_rfl
noncomputable def c18 : Code := .seq (.region 0 (ro Tryd.f18 0) false) (.seq (.region 1 (ro Tryd.f18 1) false) (.ret))
theorem body18 : Tryd.f18.body = some c18 := by kernel_rfl
theorem res18 : Tryd.f18.results.toList.mapM (trR Tryd.prog) = some [.t 4] := by kernel_rfl
theorem nt18 : Tryd.f18.ntmps = 10 := by kernel_rfl
theorem nm18 : (Tryd.f18.name == "runtime.NumGoroutine") = false := by kernel_rfl
def a18_0 : List AO := [⟨some 2, none, .box 60 (.t 0)⟩,⟨some 4, none, .mv (.v (.int .i64 0))⟩]
theorem tr18_0 : TR Tryd.f18 10 0 = some a18_0 := by kernel_rfl
def a18_1 : List AO := [⟨some 5, none, .mv (.t 1)⟩,⟨some 6, none, .load (some 2) (.t 2)⟩,⟨some 7, none, .mv (.t 1)⟩,⟨some 8, none, .call 39 [(.t 6), (.t 7)]⟩,⟨some 9, none, .bin .add (.t 5) (.t 8)⟩,⟨some 4, none, .mv (.t 9)⟩]
theorem tr18_1 : TR Tryd.f18 10 1 = some a18_1 := by kernel_rfl
noncomputable def c19 : Code := .seq (.region 0 (ro Tryd.f19 0) false) (.seq (.region 1 (ro Tryd.f19 1) false) (.seq (.region 2 (ro Tryd.f19 2) false) (.seq (.seq (.region 3 (ro Tryd.f19 3) false) (.block 0 (.loop (.seq (.region 4 (ro Tryd.f19 4) false) (.seq (.cond (.tmp 16) (.skip) (.exit 0)) (.seq (.block 1 (.seq (.region 5 (ro Tryd.f19 5) false) (.seq (.region 6 (ro Tryd.f19 6) false) (.seq (.region 7 (ro Tryd.f19 7) false) (.seq (.region 8 (ro Tryd.f19 8) false) (.seq (.region 9 (ro Tryd.f19 9) false) (.seq (.region 10 (ro Tryd.f19 10) false) (.seq (.region 11 (ro Tryd.f19 11) false) (.seq (.region 12 (ro Tryd.f19 12) false) (.seq (.region 13 (ro Tryd.f19 13) false) (.block 2 (.loop (.seq (.region 14 (ro Tryd.f19 14) false) (.seq (.cond (.tmp 55) (.skip) (.exit 2)) (.seq (.block 3 (.seq (.region 15 (ro Tryd.f19 15) false) (.seq (.region 16 (ro Tryd.f19 16) false) (.seq (.region 17 (ro Tryd.f19 17) false) (.seq (.region 18 (ro Tryd.f19 18) false) (.seq (.region 19 (ro Tryd.f19 19) false) (.region 20 (ro Tryd.f19 20) false))))))) (.region 21 (ro Tryd.f19 21) false)))))))))))))))) (.region 22 (ro Tryd.f19 22) false))))))) (.seq (.region 23 (ro Tryd.f19 23) false) (.ret)))))
theorem body19 : Tryd.f19.body = some c19 := by kernel_rfl
theorem res19 : Tryd.f19.results.toList.mapM (trR Tryd.prog) = some [.t 2] := by kernel_rfl
theorem nt19 : Tryd.f19.ntmps = 85 := by kernel_rfl
theorem nm19 : (Tryd.f19.name == "runtime.NumGoroutine") = false := by kernel_rfl
def a19_0 : List AO := [⟨some 2, none, .mv (.v .nils)⟩]
theorem tr19_0 : TR Tryd.f19 85 0 = some a19_0 := by kernel_rfl
def a19_1 : List AO := [⟨some 3, none, .alloc 98 [.nils, (.str [])]⟩]
theorem tr19_1 : TR Tryd.f19 85 1 = some a19_1 := by kernel_rfl
def a19_2 : List AO := [⟨some 12, none, .mkmap⟩,⟨some 4, none, .mv (.t 12)⟩]
theorem tr19_2 : TR Tryd.f19 85 2 = some a19_2 := by kernel_rfl
def a19_3 : List AO := [⟨some 13, none, .mv (.t 0)⟩,⟨some 14, none, .len (.t 13)⟩,⟨some 15, none, .mv (.v (.int .i64 0))⟩]
theorem tr19_3 : TR Tryd.f19 85 3 = some a19_3 := by kernel_rfl
def a19_4 : List AO := [⟨some 16, none, .bin .lss (.t 15) (.t 14)⟩]
theorem tr19_4 : TR Tryd.f19 85 4 = some a19_4 := by kernel_rfl
def a19_5 : List AO := [⟨some 17, none, .mv (.t 15)⟩,⟨some 18, none, .idx 2 (.t 13) (.t 15)⟩,⟨some 19, none, .load (some 2) (.t 18)⟩,⟨some 6, none, .alloc 48 [(.str []), .nils]⟩,⟨some 5, none, .mv (.t 17)⟩,⟨none, none, .store 2 (.t 6) (.t 19)⟩]
theorem tr19_5 : TR Tryd.f19 85 5 = some a19_5 := by kernel_rfl
def a19_6 : List AO := [⟨some 20, none, .mv (.t 5)⟩,⟨some 21, none, .call 40 [(.t 20)]⟩,⟨some 22, none, .bin .add (.v (.str [99, 111, 110, 102, 105, 103, 32])) (.t 21)⟩,⟨some 7, none, .mv (.t 22)⟩]
theorem tr19_6 : TR Tryd.f19 85 6 = some a19_6 := by kernel_rfl
def a19_7 : List AO := [⟨some 23, none, .mv (.t 7)⟩,⟨some 24, none, .fld 1 (.t 3)⟩,⟨none, none, .store 1 (.t 24) (.t 23)⟩]
theorem tr19_7 : TR Tryd.f19 85 7 = some a19_7 := by kernel_rfl
def a19_8 : List AO := [⟨some 25, none, .fld 0 (.t 6)⟩,⟨some 26, none, .load none (.t 25)⟩,⟨some 27, none, .call 42 [(.t 26), (.v (.int .i64 3)), (.v (.int .i64 3))]⟩,⟨some 28, none, .un .not (.t 27)⟩,⟨some 29, none, .call 41 [(.t 3), (.t 28), (.v (.int .i64 5))]⟩]
theorem tr19_8 : TR Tryd.f19 85 8 = some a19_8 := by kernel_rfl
def a19_9 : List AO := [⟨some 30, none, .mv (.t 4)⟩,⟨some 31, none, .fld 0 (.t 6)⟩,⟨some 32, none, .load none (.t 31)⟩,⟨some 33, none, .look 0 false (.bool false) (.t 30) (.t 32)⟩,⟨some 34, none, .call 41 [(.t 3), (.t 33), (.v (.int .i64 6))]⟩]
theorem tr19_9 : TR Tryd.f19 85 9 = some a19_9 := by kernel_rfl
def a19_10 : List AO := [⟨some 35, none, .fld 1 (.t 6)⟩,⟨some 36, none, .load none (.t 35)⟩,⟨some 37, none, .len (.t 36)⟩,⟨some 38, none, .bin .lss (.t 37) (.v (.int .i64 1))⟩,⟨some 39, none, .mv (.t 38)⟩,⟨(some 40), some (39, false), .fld 1 (.t 6)⟩,⟨(some 41), some (39, false), .load none (.t 40)⟩,⟨(some 42), some (39, false), .len (.t 41)⟩,⟨(some 43), some (39, false), .bin .gtr (.t 42) (.v (.int .i64 4))⟩,⟨some 44, none, .pick (.t 39) (.v (.bool true)) (.t 43)⟩,⟨some 45, none, .call 41 [(.t 3), (.t 44), (.v (.int .i64 4))]⟩]
theorem tr19_10 : TR Tryd.f19 85 10 = some a19_10 := by kernel_rfl
def a19_11 : List AO := [⟨some 46, none, .mv (.t 4)⟩,⟨some 47, none, .fld 0 (.t 6)⟩,⟨some 48, none, .load none (.t 47)⟩,⟨none, none, .mset 0 (.t 46) (.t 48) (.v (.bool true))⟩]
theorem tr19_11 : TR Tryd.f19 85 11 = some a19_11 := by kernel_rfl
def a19_12 : List AO := [⟨some 49, none, .mkmap⟩,⟨some 50, none, .mkmap⟩,⟨some 8, none, .mv (.t 49)⟩,⟨some 9, none, .mv (.t 50)⟩]
theorem tr19_12 : TR Tryd.f19 85 12 = some a19_12 := by kernel_rfl
def a19_13 : List AO := [⟨some 51, none, .fld 1 (.t 6)⟩,⟨some 52, none, .load none (.t 51)⟩,⟨some 53, none, .len (.t 52)⟩,⟨some 54, none, .mv (.v (.int .i64 0))⟩]
theorem tr19_13 : TR Tryd.f19 85 13 = some a19_13 := by kernel_rfl
def a19_14 : List AO := [⟨some 55, none, .bin .lss (.t 54) (.t 53)⟩]
theorem tr19_14 : TR Tryd.f19 85 14 = some a19_14 := by kernel_rfl
def a19_15 : List AO := [⟨some 56, none, .mv (.t 54)⟩,⟨some 57, none, .idx 4 (.t 52) (.t 54)⟩,⟨some 58, none, .load (some 4) (.t 57)⟩,⟨some 11, none, .alloc 89 [(.str []), (.int .i64 0), (.int .i64 0), .nils]⟩,⟨some 10, none, .mv (.t 56)⟩,⟨none, none, .store 4 (.t 11) (.t 58)⟩]
theorem tr19_15 : TR Tryd.f19 85 15 = some a19_15 := by kernel_rfl
def a19_16 : List AO := [⟨some 59, none, .mv (.t 7)⟩,⟨some 60, none, .bin .add (.t 59) (.v (.str [32, 99, 97, 98, 105, 110, 32]))⟩,⟨some 61, none, .mv (.t 10)⟩,⟨some 62, none, .call 40 [(.t 61)]⟩,⟨some 63, none, .bin .add (.t 60) (.t 62)⟩,⟨some 64, none, .fld 1 (.t 3)⟩,⟨none, none, .store 1 (.t 64) (.t 63)⟩]
theorem tr19_16 : TR Tryd.f19 85 16 = some a19_16 := by kernel_rfl
def a19_17 : List AO := [⟨some 65, none, .fld 0 (.t 11)⟩,⟨some 66, none, .load none (.t 65)⟩,⟨some 67, none, .call 42 [(.t 66), (.v (.int .i64 1)), (.v (.int .i64 8))]⟩,⟨some 68, none, .un .not (.t 67)⟩,⟨some 69, none, .call 41 [(.t 3), (.t 68), (.v (.int .i64 5))]⟩]
theorem tr19_17 : TR Tryd.f19 85 17 = some a19_17 := by kernel_rfl
def a19_18 : List AO := [⟨some 70, none, .mv (.t 8)⟩,⟨some 71, none, .fld 0 (.t 11)⟩,⟨some 72, none, .load none (.t 71)⟩,⟨some 73, none, .look 0 false (.bool false) (.t 70) (.t 72)⟩,⟨some 74, none, .call 41 [(.t 3), (.t 73), (.v (.int .i64 6))]⟩]
theorem tr19_18 : TR Tryd.f19 85 18 = some a19_18 := by kernel_rfl
def a19_19 : List AO := [⟨some 75, none, .mv (.t 8)⟩,⟨some 76, none, .fld 0 (.t 11)⟩,⟨some 77, none, .load none (.t 76)⟩,⟨none, none, .mset 0 (.t 75) (.t 77) (.v (.bool true))⟩]
theorem tr19_19 : TR Tryd.f19 85 19 = some a19_19 := by kernel_rfl
def a19_20 : List AO := [⟨some 78, none, .load (some 4) (.t 11)⟩,⟨some 79, none, .mv (.t 9)⟩,⟨some 80, none, .call 43 [(.t 3), (.t 78), (.t 79)]⟩]
theorem tr19_20 : TR Tryd.f19 85 20 = some a19_20 := by kernel_rfl
def a19_21 : List AO := [⟨some 81, none, .bin .add (.t 54) (.v (.int .i64 1))⟩,⟨some 54, none, .mv (.t 81)⟩]
theorem tr19_21 : TR Tryd.f19 85 21 = some a19_21 := by kernel_rfl
def a19_22 : List AO := [⟨some 82, none, .bin .add (.t 15) (.v (.int .i64 1))⟩,⟨some 15, none, .mv (.t 82)⟩]
theorem tr19_22 : TR Tryd.f19 85 22 = some a19_22 := by kernel_rfl
def a19_23 : List AO := [⟨some 83, none, .fld 0 (.t 3)⟩,⟨some 84, none, .load none (.t 83)⟩,⟨some 2, none, .mv (.t 84)⟩]
theorem tr19_23 : TR Tryd.f19 85 23 = some a19_23 := by kernel_rfl
noncomputable def c20 : Code := .seq (.region 0 (ro Tryd.f20 0) false) (.seq (.region 1 (ro Tryd.f20 1) false) (.ret))
theorem body20 : Tryd.f20.body = some c20 := by kernel_rfl
theorem res20 : Tryd.f20.results.toList.mapM (trR Tryd.prog) = some [.t 2] := by kernel_rfl
theorem nt20 : Tryd.f20.ntmps = 12 := by kernel_rfl
theorem nm20 : (Tryd.f20.name == "runtime.NumGoroutine") = false := by kernel_rfl
def a20_0 : List AO := [⟨some 2, none, .mv (.v (.bool false))⟩]
theorem tr20_0 : TR Tryd.f20 12 0 = some a20_0 := by kernel_rfl
def a20_1 : List AO := [⟨some 3, none, .mv (.t 0)⟩,⟨some 4, none, .binp false .neq (.t 3) (.v .nilp)⟩,⟨some 5, none, .mv (.t 4)⟩,⟨(some 6), some (5, true), .mv (.t 0)⟩,⟨(some 7), some (5, true), .nchk (.t 6)⟩,⟨(some 8), some (5, true), .fld 1 (.t 7)⟩,⟨(some 9), some (5, true), .load none (.t 8)⟩,⟨(some 10), some (5, true), .binp true .neq (.t 9) (.v .nilm)⟩,⟨some 11, none, .pick (.t 5) (.t 10) (.v (.bool false))⟩,⟨some 2, none, .mv (.t 11)⟩]
theorem tr20_1 : TR Tryd.f20 12 1 = some a20_1 := by kernel_rfl
noncomputable def c21 : Code := .seq (.region 0 (ro Tryd.f21 0) false) (.seq (.seq (.region 1 (ro Tryd.f21 1) false) (.block 0 (.loop (.seq (.region 2 (ro Tryd.f21 2) false) (.seq (.cond (.tmp 11) (.skip) (.exit 0)) (.seq (.block 1 (.seq (.region 3 (ro Tryd.f21 3) false) (.seq (.region 4 (ro Tryd.f21 4) false) (.cond (.tmp 17) (.seq (.region 5 (ro Tryd.f21 5) false) (.ret)) (.skip))))) (.region 6 (ro Tryd.f21 6) false))))))) (.seq (.region 7 (ro Tryd.f21 7) false) (.ret)))
theorem body21 : Tryd.f21.body = some c21 := by kernel_rfl
theorem res21 : Tryd.f21.results.toList.mapM (trR Tryd.prog) = some [.c (some 2) 4, .t 5] := by kernel_rfl
theorem nt21 : Tryd.f21.ntmps = 21 := by kernel_rfl
theorem nm21 : (Tryd.f21.name == "runtime.NumGoroutine") = false := by kernel_rfl
def a21_0 : List AO := [⟨some 4, none, .alloc 48 [(.str []), .nils]⟩,⟨some 5, none, .mv (.v (.bool false))⟩]
theorem tr21_0 : TR Tryd.f21 21 0 = some a21_0 := by kernel_rfl
def a21_1 : List AO := [⟨some 8, none, .mv (.t 0)⟩,⟨some 9, none, .len (.t 8)⟩,⟨some 10, none, .mv (.v (.int .i64 0))⟩]
theorem tr21_1 : TR Tryd.f21 21 1 = some a21_1 := by kernel_rfl
def a21_2 : List AO := [⟨some 11, none, .bin .lss (.t 10) (.t 9)⟩]
theorem tr21_2 : TR Tryd.f21 21 2 = some a21_2 := by kernel_rfl
def a21_3 : List AO := [⟨some 12, none, .idx 2 (.t 8) (.t 10)⟩,⟨some 13, none, .load (some 2) (.t 12)⟩,⟨some 7, none, .alloc 48 [(.str []), .nils]⟩,⟨none, none, .store 2 (.t 7) (.t 13)⟩]
theorem tr21_3 : TR Tryd.f21 21 3 = some a21_3 := by kernel_rfl
def a21_4 : List AO := [⟨some 14, none, .fld 0 (.t 7)⟩,⟨some 15, none, .load none (.t 14)⟩,⟨some 16, none, .mv (.t 1)⟩,⟨some 17, none, .bin .eql (.t 15) (.t 16)⟩]
theorem tr21_4 : TR Tryd.f21 21 4 = some a21_4 := by kernel_rfl
def a21_5 : List AO := [⟨some 18, none, .load (some 2) (.t 7)⟩,⟨none, none, .store 2 (.t 4) (.t 18)⟩,⟨some 5, none, .mv (.v (.bool true))⟩]
theorem tr21_5 : TR Tryd.f21 21 5 = some a21_5 := by kernel_rfl
def a21_6 : List AO := [⟨some 19, none, .bin .add (.t 10) (.v (.int .i64 1))⟩,⟨some 10, none, .mv (.t 19)⟩]
theorem tr21_6 : TR Tryd.f21 21 6 = some a21_6 := by kernel_rfl
def a21_7 : List AO := [⟨some 20, none, .build [(.str []), .nils] []⟩,⟨none, none, .store 2 (.t 4) (.t 20)⟩,⟨some 5, none, .mv (.v (.bool false))⟩]
theorem tr21_7 : TR Tryd.f21 21 7 = some a21_7 := by kernel_rfl
noncomputable def c22 : Code := .seq (.region 0 (ro Tryd.f22 0) false) (.seq (.region 1 (ro Tryd.f22 1) false) (.seq (.seq (.region 2 (ro Tryd.f22 2) false) (.block 0 (.loop (.seq (.region 3 (ro Tryd.f22 3) false) (.seq (.cond (.tmp 10) (.skip) (.exit 0)) (.seq (.block 1 (.seq (.region 4 (ro Tryd.f22 4) false) (.region 5 (ro Tryd.f22 5) false))) (.region 6 (ro Tryd.f22 6) false))))))) (.seq (.region 7 (ro Tryd.f22 7) false) (.ret))))
theorem body22 : Tryd.f22.body = some c22 := by kernel_rfl
theorem res22 : Tryd.f22.results.toList.mapM (trR Tryd.prog) = some [.t 2] := by kernel_rfl
theorem nt22 : Tryd.f22.ntmps = 22 := by kernel_rfl
theorem nm22 : (Tryd.f22.name == "runtime.NumGoroutine") = false := by kernel_rfl
def a22_0 : List AO := [⟨some 1, none, .box 48 (.t 0)⟩,⟨some 2, none, .mv (.v .nils)⟩]
theorem tr22_0 : TR Tryd.f22 22 0 = some a22_0 := by kernel_rfl
def a22_1 : List AO := [⟨some 3, none, .mv (.v .nils)⟩]
theorem tr22_1 : TR Tryd.f22 22 1 = some a22_1 := by kernel_rfl
def a22_2 : List AO := [⟨some 6, none, .fld 1 (.t 1)⟩,⟨some 7, none, .load none (.t 6)⟩,⟨some 8, none, .len (.t 7)⟩,⟨some 9, none, .mv (.v (.int .i64 0))⟩]
theorem tr22_2 : TR Tryd.f22 22 2 = some a22_2 := by kernel_rfl
def a22_3 : List AO := [⟨some 10, none, .bin .lss (.t 9) (.t 8)⟩]
theorem tr22_3 : TR Tryd.f22 22 3 = some a22_3 := by kernel_rfl
def a22_4 : List AO := [⟨some 11, none, .idx 4 (.t 7) (.t 9)⟩,⟨some 12, none, .load (some 4) (.t 11)⟩,⟨some 5, none, .alloc 89 [(.str []), (.int .i64 0), (.int .i64 0), .nils]⟩,⟨none, none, .store 4 (.t 5) (.t 12)⟩]
theorem tr22_4 : TR Tryd.f22 22 4 = some a22_4 := by kernel_rfl
def a22_5 : List AO := [⟨some 13, none, .mv (.t 3)⟩,⟨some 14, none, .fld 3 (.t 5)⟩,⟨some 15, none, .load none (.t 14)⟩,⟨some 16, none, .len (.t 15)⟩,⟨some 17, none, .mks 3 1 8 [(.int .i64 0)] (.t 16) (.t 16)⟩,⟨some 18, none, .slc 82 1 false [(.t 17)]⟩,⟨some 19, none, .app 82 1 24 (.t 13) (.t 18)⟩,⟨some 3, none, .mv (.t 19)⟩]
theorem tr22_5 : TR Tryd.f22 22 5 = some a22_5 := by kernel_rfl
def a22_6 : List AO := [⟨some 20, none, .bin .add (.t 9) (.v (.int .i64 1))⟩,⟨some 9, none, .mv (.t 20)⟩]
theorem tr22_6 : TR Tryd.f22 22 6 = some a22_6 := by kernel_rfl
def a22_7 : List AO := [⟨some 21, none, .mv (.t 3)⟩,⟨some 2, none, .mv (.t 21)⟩]
theorem tr22_7 : TR Tryd.f22 22 7 = some a22_7 := by kernel_rfl
noncomputable def c23 : Code := .seq (.region 0 (ro Tryd.f23 0) false) (.seq (.seq (.region 1 (ro Tryd.f23 1) false) (.cond (.tmp 25) (.seq (.region 2 (ro Tryd.f23 2) false) (.ret)) (.skip))) (.seq (.seq (.region 3 (ro Tryd.f23 3) false) (.cond (.tmp 32) (.seq (.region 4 (ro Tryd.f23 4) false) (.ret)) (.skip))) (.seq (.seq (.region 5 (ro Tryd.f23 5) false) (.block 0 (.loop (.seq (.region 6 (ro Tryd.f23 6) false) (.seq (.cond (.tmp 36) (.skip) (.exit 0)) (.seq (.block 1 (.seq (.region 7 (ro Tryd.f23 7) false) (.seq (.region 8 (ro Tryd.f23 8) false) (.block 2 (.loop (.seq (.region 9 (ro Tryd.f23 9) false) (.seq (.cond (.tmp 40) (.skip) (.exit 2)) (.seq (.block 3 (.seq (.region 10 (ro Tryd.f23 10) false) (.seq (.region 11 (ro Tryd.f23 11) true) (.cond (.tmp 50) (.seq (.region 12 (ro Tryd.f23 12) false) (.ret)) (.skip))))) (.region 13 (ro Tryd.f23 13) false))))))))) (.region 14 (ro Tryd.f23 14) false))))))) (.seq (.region 15 (ro Tryd.f23 15) false) (.seq (.seq (.region 16 (ro Tryd.f23 16) false) (.block 4 (.loop (.seq (.region 17 (ro Tryd.f23 17) false) (.seq (.cond (.tmp 56) (.skip) (.exit 4)) (.seq (.block 5 (.seq (.region 18 (ro Tryd.f23 18) false) (.seq (.region 19 (ro Tryd.f23 19) true) (.seq (.seq (.region 20 (ro Tryd.f23 20) false) (.cond (.tmp 66) (.seq (.region 21 (ro Tryd.f23 21) false) (.ret)) (.skip))) (.region 22 (ro Tryd.f23 22) false))))) (.region 23 (ro Tryd.f23 23) false))))))) (.seq (.seq (.region 24 (ro Tryd.f23 24) false) (.cond (.tmp 76) (.seq (.region 25 (ro Tryd.f23 25) false) (.ret)) (.skip))) (.seq (.seq (.region 26 (ro Tryd.f23 26) false) (.block 6 (.loop (.seq (.region 27 (ro Tryd.f23 27) false) (.seq (.cond (.tmp 80) (.skip) (.exit 6)) (.seq (.block 7 (.seq (.region 28 (ro Tryd.f23 28) false) (.seq (.region 29 (ro Tryd.f23 29) false) (.seq (.region 30 (ro Tryd.f23 30) false) (.cond (.tmp 94) (.seq (.region 31 (ro Tryd.f23 31) false) (.ret)) (.skip)))))) (.region 32 (ro Tryd.f23 32) false))))))) (.seq (.region 33 (ro Tryd.f23 33) false) (.ret)))))))))
theorem body23 : Tryd.f23.body = some c23 := by kernel_rfl
theorem res23 : Tryd.f23.results.toList.mapM (trR Tryd.prog) = some [.t 10, .t 11] := by kernel_rfl
theorem nt23 : Tryd.f23.ntmps = 97 := by kernel_rfl
theorem nm23 : (Tryd.f23.name == "runtime.NumGoroutine") = false := by kernel_rfl
def a23_0 : List AO := [⟨some 10, none, .mv (.v .nils)⟩,⟨some 11, none, .mv (.v (.int .i64 0))⟩]
theorem tr23_0 : TR Tryd.f23 97 0 = some a23_0 := by kernel_rfl
def a23_1 : List AO := [⟨some 23, none, .mv (.t 0)⟩,⟨some 24, none, .call 20 [(.t 23)]⟩,⟨some 25, none, .un .not (.t 24)⟩]
theorem tr23_1 : TR Tryd.f23 97 1 = some a23_1 := by kernel_rfl
def a23_3 : List AO := [⟨some 26, none, .mv (.t 3)⟩,⟨some 27, none, .bin .lss (.t 26) (.v (.int .i64 1))⟩,⟨some 28, none, .mv (.t 27)⟩,⟨(some 29), some (28, false), .mv (.t 1)⟩,⟨(some 30), some (28, false), .len (.t 29)⟩,⟨(some 31), some (28, false), .bin .eql (.t 30) (.v (.int .i64 0))⟩,⟨some 32, none, .pick (.t 28) (.v (.bool true)) (.t 31)⟩]
theorem tr23_3 : TR Tryd.f23 97 3 = some a23_3 := by kernel_rfl
def a23_4 : List AO := [⟨some 10, none, .mv (.v .nils)⟩,⟨some 11, none, .mv (.v (.int .i64 2))⟩]
theorem tr23_4 : TR Tryd.f23 97 4 = some a23_4 := by kernel_rfl
def a23_5 : List AO := [⟨some 33, none, .mv (.t 1)⟩,⟨some 34, none, .len (.t 33)⟩,⟨some 35, none, .mv (.v (.int .i64 0))⟩]
theorem tr23_5 : TR Tryd.f23 97 5 = some a23_5 := by kernel_rfl
def a23_6 : List AO := [⟨some 36, none, .bin .lss (.t 35) (.t 34)⟩]
theorem tr23_6 : TR Tryd.f23 97 6 = some a23_6 := by kernel_rfl
def a23_7 : List AO := [⟨some 37, none, .mv (.t 35)⟩,⟨some 12, none, .mv (.t 37)⟩]
theorem tr23_7 : TR Tryd.f23 97 7 = some a23_7 := by kernel_rfl
def a23_8 : List AO := [⟨some 38, none, .mv (.t 12)⟩,⟨some 39, none, .mv (.v (.int .i64 0))⟩]
theorem tr23_8 : TR Tryd.f23 97 8 = some a23_8 := by kernel_rfl
def a23_9 : List AO := [⟨some 40, none, .bin .lss (.t 39) (.t 38)⟩]
theorem tr23_9 : TR Tryd.f23 97 9 = some a23_9 := by kernel_rfl
def a23_10 : List AO := [⟨some 41, none, .mv (.t 39)⟩,⟨some 13, none, .mv (.t 41)⟩]
theorem tr23_10 : TR Tryd.f23 97 10 = some a23_10 := by kernel_rfl
def a23_11 : List AO := [⟨some 42, none, .mv (.t 1)⟩,⟨some 43, none, .mv (.t 13)⟩,⟨some 44, none, .idx 4 (.t 42) (.t 43)⟩,⟨some 45, none, .load (some 4) (.t 44)⟩,⟨some 46, none, .mv (.t 1)⟩,⟨some 47, none, .mv (.t 12)⟩,⟨some 48, none, .idx 4 (.t 46) (.t 47)⟩,⟨some 49, none, .load (some 4) (.t 48)⟩,⟨some 50, none, .bina [.s, .i .i64, .i .i64, .s] .eql (.t 45) (.t 49)⟩]
theorem tr23_11 : TR Tryd.f23 97 11 = some a23_11 := by kernel_rfl
def d23_11 : List (List Nat) := [[], [], [0, 1], [0, 1, 2], [], [], [4, 5], [4, 5, 6], [0, 1, 2, 3, 4, 5, 6, 7]]
theorem ok23_11 : okReg (ro Tryd.f23 11) a23_11 d23_11 = true := by kernel_rfl
def a23_12 : List AO := [⟨some 10, none, .mv (.v .nils)⟩,⟨some 11, none, .mv (.v (.int .i64 6))⟩]
theorem tr23_12 : TR Tryd.f23 97 12 = some a23_12 := by kernel_rfl
def a23_13 : List AO := [⟨some 51, none, .bin .add (.t 39) (.v (.int .i64 1))⟩,⟨some 39, none, .mv (.t 51)⟩]
theorem tr23_13 : TR Tryd.f23 97 13 = some a23_13 := by kernel_rfl
def a23_14 : List AO := [⟨some 52, none, .bin .add (.t 35) (.v (.int .i64 1))⟩,⟨some 35, none, .mv (.t 52)⟩]
theorem tr23_14 : TR Tryd.f23 97 14 = some a23_14 := by kernel_rfl
def a23_15 : List AO := [⟨some 14, none, .mv (.v .nils)⟩]
theorem tr23_15 : TR Tryd.f23 97 15 = some a23_15 := by kernel_rfl
def a23_16 : List AO := [⟨some 53, none, .mv (.t 1)⟩,⟨some 54, none, .len (.t 53)⟩,⟨some 55, none, .mv (.v (.int .i64 0))⟩]
theorem tr23_16 : TR Tryd.f23 97 16 = some a23_16 := by kernel_rfl
def a23_17 : List AO := [⟨some 56, none, .bin .lss (.t 55) (.t 54)⟩]
theorem tr23_17 : TR Tryd.f23 97 17 = some a23_17 := by kernel_rfl
def a23_18 : List AO := [⟨some 57, none, .idx 4 (.t 53) (.t 55)⟩,⟨some 58, none, .load (some 4) (.t 57)⟩,⟨some 16, none, .alloc 38 [(.str []), (.int .i64 0), (.int .i64 0), (.str [])]⟩,⟨none, none, .store 4 (.t 16) (.t 58)⟩]
theorem tr23_18 : TR Tryd.f23 97 18 = some a23_18 := by kernel_rfl
def a23_19 : List AO := [⟨some 59, none, .mv (.t 0)⟩,⟨some 60, none, .nchk (.t 59)⟩,⟨some 61, none, .fld 1 (.t 60)⟩,⟨some 62, none, .load none (.t 61)⟩,⟨some 63, none, .load (some 4) (.t 16)⟩,⟨some 64, none, .look 3 false .nilp (.t 62) (.t 63)⟩,⟨some 17, none, .mv (.t 64)⟩]
theorem tr23_19 : TR Tryd.f23 97 19 = some a23_19 := by kernel_rfl
def d23_19 : List (List Nat) := [[], [0], [0, 1], [0, 1, 2], [], [0, 1, 2, 3, 4], [0, 1, 2, 3, 4, 5]]
theorem ok23_19 : okReg (ro Tryd.f23 19) a23_19 d23_19 = true := by kernel_rfl
def a23_20 : List AO := [⟨some 65, none, .mv (.t 17)⟩,⟨some 66, none, .binp false .eql (.t 65) (.v .nilp)⟩]
theorem tr23_20 : TR Tryd.f23 97 20 = some a23_20 := by kernel_rfl
def a23_21 : List AO := [⟨some 10, none, .mv (.v .nils)⟩,⟨some 11, none, .mv (.v (.int .i64 7))⟩]
theorem tr23_21 : TR Tryd.f23 97 21 = some a23_21 := by kernel_rfl
def a23_22 : List AO := [⟨some 67, none, .mv (.t 14)⟩,⟨some 68, none, .mv (.t 17)⟩,⟨some 69, none, .slc 67 1 false [(.t 68)]⟩,⟨some 70, none, .app 67 1 8 (.t 67) (.t 69)⟩,⟨some 14, none, .mv (.t 70)⟩]
theorem tr23_22 : TR Tryd.f23 97 22 = some a23_22 := by kernel_rfl
def a23_23 : List AO := [⟨some 71, none, .bin .add (.t 55) (.v (.int .i64 1))⟩,⟨some 55, none, .mv (.t 71)⟩]
theorem tr23_23 : TR Tryd.f23 97 23 = some a23_23 := by kernel_rfl
def a23_24 : List AO := [⟨some 72, none, .mv (.t 4)⟩,⟨some 73, none, .mv (.t 72)⟩,⟨(some 74), some (73, true), .mv (.t 14)⟩,⟨(some 75), some (73, true), .call 24 [(.t 74), (.v (.fn 44 []))]⟩,⟨some 76, none, .pick (.t 73) (.t 75) (.v (.bool false))⟩]
theorem tr23_24 : TR Tryd.f23 97 24 = some a23_24 := by kernel_rfl
def a23_26 : List AO := [⟨some 77, none, .mv (.t 14)⟩,⟨some 78, none, .len (.t 77)⟩,⟨some 79, none, .mv (.v (.int .i64 0))⟩]
theorem tr23_26 : TR Tryd.f23 97 26 = some a23_26 := by kernel_rfl
def a23_27 : List AO := [⟨some 80, none, .bin .lss (.t 79) (.t 78)⟩]
theorem tr23_27 : TR Tryd.f23 97 27 = some a23_27 := by kernel_rfl
def a23_28 : List AO := [⟨some 81, none, .idx 1 (.t 77) (.t 79)⟩,⟨some 82, none, .load none (.t 81)⟩,⟨some 19, none, .mv (.t 82)⟩]
theorem tr23_28 : TR Tryd.f23 97 28 = some a23_28 := by kernel_rfl
def a23_29 : List AO := [⟨some 84, none, .mv (.t 19)⟩,⟨some 85, none, .nchk (.t 84)⟩,⟨some 86, none, .fld 0 (.t 85)⟩,⟨some 87, none, .load (some 2) (.t 86)⟩,⟨some 88, none, .mv (.t 2)⟩,⟨some 89, none, .call 27 [(.t 87), (.t 88)]⟩,⟨some 83, none, .mv (.t 89)⟩,⟨some 90, none, .ext 0 (.t 83)⟩,⟨some 91, none, .ext 1 (.t 83)⟩,⟨some 92, none, .ext 2 (.t 83)⟩,⟨some 20, none, .mv (.t 90)⟩,⟨some 21, none, .mv (.t 91)⟩,⟨some 22, none, .mv (.t 92)⟩]
theorem tr23_29 : TR Tryd.f23 97 29 = some a23_29 := by kernel_rfl
def a23_30 : List AO := [⟨some 93, none, .mv (.t 22)⟩,⟨some 94, none, .un .not (.t 93)⟩]
theorem tr23_30 : TR Tryd.f23 97 30 = some a23_30 := by kernel_rfl
def a23_31 : List AO := [⟨some 10, none, .mv (.v .nils)⟩,⟨some 11, none, .mv (.v (.int .i64 16))⟩]
theorem tr23_31 : TR Tryd.f23 97 31 = some a23_31 := by kernel_rfl
def a23_32 : List AO := [⟨some 95, none, .bin .add (.t 79) (.v (.int .i64 1))⟩,⟨some 79, none, .mv (.t 95)⟩]
theorem tr23_32 : TR Tryd.f23 97 32 = some a23_32 := by kernel_rfl
def a23_33 : List AO := [⟨some 96, none, .mv (.t 14)⟩,⟨some 10, none, .mv (.t 96)⟩,⟨some 11, none, .mv (.v (.int .i64 0))⟩]
theorem tr23_33 : TR Tryd.f23 97 33 = some a23_33 := by kernel_rfl
noncomputable def c24 : Code := .seq (.region 0 (ro Tryd.f24 0) false) (.seq (.region 1 (ro Tryd.f24 1) false) (.ret))
theorem body24 : Tryd.f24.body = some c24 := by kernel_rfl
theorem res24 : Tryd.f24.results.toList.mapM (trR Tryd.prog) = some [.t 4] := by kernel_rfl
theorem nt24 : Tryd.f24.ntmps = 9 := by kernel_rfl
theorem nm24 : (Tryd.f24.name == "runtime.NumGoroutine") = false := by kernel_rfl
def a24_0 : List AO := [⟨some 4, none, .mv (.v (.bool false))⟩]
theorem tr24_0 : TR Tryd.f24 9 0 = some a24_0 := by kernel_rfl
def a24_1 : List AO := [⟨some 5, none, .mv (.t 0)⟩,⟨some 6, none, .mv (.t 1)⟩,⟨some 7, none, .call 45 [(.t 5), (.t 6)]⟩,⟨some 8, none, .bin .geq (.t 7) (.v (.int .i64 0))⟩,⟨some 4, none, .mv (.t 8)⟩]
theorem tr24_1 : TR Tryd.f24 9 1 = some a24_1 := by kernel_rfl
noncomputable def c25 : Code := .seq (.region 0 (ro Tryd.f25 0) false) (.seq (.region 1 (ro Tryd.f25 1) true) (.ret))
theorem body25 : Tryd.f25.body = some c25 := by kernel_rfl
theorem res25 : Tryd.f25.results.toList.mapM (trR Tryd.prog) = some [.t 4] := by kernel_rfl
theorem nt25 : Tryd.f25.ntmps = 10 := by kernel_rfl
theorem nm25 : (Tryd.f25.name == "runtime.NumGoroutine") = false := by kernel_rfl
def a25_0 : List AO := [⟨some 4, none, .mv (.v (.bool false))⟩]
theorem tr25_0 : TR Tryd.f25 10 0 = some a25_0 := by kernel_rfl
def a25_1 : List AO := [⟨some 5, none, .mv (.t 0)⟩,⟨some 6, none, .load none (.t 1)⟩,⟨some 7, none, .call 26 [(.t 5), (.t 6)]⟩,⟨some 8, none, .load none (.t 2)⟩,⟨some 9, none, .bin .lss (.t 7) (.t 8)⟩,⟨some 4, none, .mv (.t 9)⟩]
theorem tr25_1 : TR Tryd.f25 10 1 = some a25_1 := by kernel_rfl
noncomputable def c26 : Code := .seq (.region 0 (ro Tryd.f26 0) false) (.seq (.region 1 (ro Tryd.f26 1) false) (.seq (.seq (.region 2 (ro Tryd.f26 2) false) (.cond (.tmp 20) (.seq (.region 3 (ro Tryd.f26 3) false) (.ret)) (.skip))) (.seq (.region 4 (ro Tryd.f26 4) true) (.seq (.seq (.region 5 (ro Tryd.f26 5) false) (.cond (.tmp 40) (.seq (.region 6 (ro Tryd.f26 6) false) (.ret)) (.skip))) (.seq (.region 7 (ro Tryd.f26 7) false) (.ret))))))
theorem body26 : Tryd.f26.body = some c26 := by kernel_rfl
theorem res26 : Tryd.f26.results.toList.mapM (trR Tryd.prog) = some [.t 4] := by kernel_rfl
theorem nt26 : Tryd.f26.ntmps = 45 := by kernel_rfl
theorem nm26 : (Tryd.f26.name == "runtime.NumGoroutine") = false := by kernel_rfl
def a26_0 : List AO := [⟨some 4, none, .mv (.v (.int .i64 0))⟩]
theorem tr26_0 : TR Tryd.f26 45 0 = some a26_0 := by kernel_rfl
def a26_1 : List AO := [⟨some 10, none, .mv (.t 0)⟩,⟨some 11, none, .nchk (.t 10)⟩,⟨some 12, none, .fld 0 (.t 11)⟩,⟨some 13, none, .load (some 2) (.t 12)⟩,⟨some 14, none, .mv (.t 1)⟩,⟨some 15, none, .call 27 [(.t 13), (.t 14)]⟩,⟨some 9, none, .mv (.t 15)⟩,⟨some 16, none, .ext 0 (.t 9)⟩,⟨some 17, none, .ext 1 (.t 9)⟩,⟨some 18, none, .ext 2 (.t 9)⟩,⟨some 5, none, .mv (.t 16)⟩,⟨some 6, none, .mv (.t 17)⟩,⟨some 7, none, .mv (.t 18)⟩]
theorem tr26_1 : TR Tryd.f26 45 1 = some a26_1 := by kernel_rfl
def a26_2 : List AO := [⟨some 19, none, .mv (.t 7)⟩,⟨some 20, none, .un .not (.t 19)⟩]
theorem tr26_2 : TR Tryd.f26 45 2 = some a26_2 := by kernel_rfl
def a26_3 : List AO := [⟨some 4, none, .mv (.v (.int .i64 0))⟩]
theorem tr26_3 : TR Tryd.f26 45 3 = some a26_3 := by kernel_rfl
def a26_4 : List AO := [⟨some 21, none, .mv (.t 0)⟩,⟨some 22, none, .nchk (.t 21)⟩,⟨some 23, none, .fld 0 (.t 22)⟩,⟨some 24, none, .fld 1 (.t 23)⟩,⟨some 25, none, .load none (.t 24)⟩,⟨some 26, none, .mv (.t 5)⟩,⟨some 27, none, .idx 4 (.t 25) (.t 26)⟩,⟨some 28, none, .load (some 4) (.t 27)⟩,⟨some 29, none, .mv (.t 0)⟩,⟨some 30, none, .nchk (.t 29)⟩,⟨some 31, none, .fld 2 (.t 30)⟩,⟨some 32, none, .load none (.t 31)⟩,⟨some 33, none, .mv (.t 5)⟩,⟨some 34, none, .idx 1 (.t 32) (.t 33)⟩,⟨some 35, none, .load none (.t 34)⟩,⟨some 36, none, .call 46 [(.t 28), (.t 35)]⟩,⟨some 8, none, .mv (.t 36)⟩]
theorem tr26_4 : TR Tryd.f26 45 4 = some a26_4 := by kernel_rfl
def d26_4 : List (List Nat) := [[], [0], [0, 1], [0, 1, 2], [0, 1, 2, 3], [], [0, 1, 2, 3, 4, 5], [0, 1, 2, 3, 4, 5, 6], [], [8], [8, 9], [8, 9, 10], [], [8, 9, 10, 11, 12], [8, 9, 10, 11, 12, 13], [0, 1, 2, 3, 4, 5, 6, 7, 8, 9, 10, 11, 12, 13, 14], [0, 1, 2, 3, 4, 5, 6, 7, 8, 9, 10, 11, 12, 13, 14, 15]]
theorem ok26_4 : okReg (ro Tryd.f26 4) a26_4 d26_4 = true := by kernel_rfl
def a26_5 : List AO := [⟨some 37, none, .mv (.t 6)⟩,⟨some 38, none, .mv (.t 8)⟩,⟨some 39, none, .len (.t 38)⟩,⟨some 40, none, .bin .geq (.t 37) (.t 39)⟩]
theorem tr26_5 : TR Tryd.f26 45 5 = some a26_5 := by kernel_rfl
def a26_6 : List AO := [⟨some 4, none, .mv (.v (.int .i64 0))⟩]
theorem tr26_6 : TR Tryd.f26 45 6 = some a26_6 := by kernel_rfl
def a26_7 : List AO := [⟨some 41, none, .mv (.t 8)⟩,⟨some 42, none, .mv (.t 6)⟩,⟨some 43, none, .idx 1 (.t 41) (.t 42)⟩,⟨some 44, none, .load none (.t 43)⟩,⟨some 4, none, .mv (.t 44)⟩]
theorem tr26_7 : TR Tryd.f26 45 7 = some a26_7 := by kernel_rfl
noncomputable def c27 : Code := .seq (.region 0 (ro Tryd.f27 0) false) (.seq (.seq (.region 1 (ro Tryd.f27 1) false) (.block 0 (.loop (.seq (.region 2 (ro Tryd.f27 2) false) (.seq (.cond (.tmp 15) (.skip) (.exit 0)) (.seq (.block 1 (.seq (.region 3 (ro Tryd.f27 3) false) (.seq (.region 4 (ro Tryd.f27 4) false) (.block 2 (.loop (.seq (.region 5 (ro Tryd.f27 5) false) (.seq (.cond (.tmp 23) (.skip) (.exit 2)) (.seq (.block 3 (.seq (.region 6 (ro Tryd.f27 6) false) (.seq (.region 7 (ro Tryd.f27 7) false) (.cond (.tmp 30) (.seq (.region 8 (ro Tryd.f27 8) false) (.ret)) (.skip))))) (.region 9 (ro Tryd.f27 9) false))))))))) (.region 10 (ro Tryd.f27 10) false))))))) (.seq (.region 11 (ro Tryd.f27 11) false) (.ret)))
theorem body27 : Tryd.f27.body = some c27 := by kernel_rfl
theorem res27 : Tryd.f27.results.toList.mapM (trR Tryd.prog) = some [.t 4, .t 5, .t 6] := by kernel_rfl
theorem nt27 : Tryd.f27.ntmps = 35 := by kernel_rfl
theorem nm27 : (Tryd.f27.name == "runtime.NumGoroutine") = false := by kernel_rfl
def a27_0 : List AO := [⟨some 2, none, .box 48 (.t 0)⟩,⟨some 4, none, .mv (.v (.int .i64 0))⟩,⟨some 5, none, .mv (.v (.int .i64 0))⟩,⟨some 6, none, .mv (.v (.bool false))⟩]
theorem tr27_0 : TR Tryd.f27 35 0 = some a27_0 := by kernel_rfl
def a27_1 : List AO := [⟨some 11, none, .fld 1 (.t 2)⟩,⟨some 12, none, .load none (.t 11)⟩,⟨some 13, none, .len (.t 12)⟩,⟨some 14, none, .mv (.v (.int .i64 0))⟩]
theorem tr27_1 : TR Tryd.f27 35 1 = some a27_1 := by kernel_rfl
def a27_2 : List AO := [⟨some 15, none, .bin .lss (.t 14) (.t 13)⟩]
theorem tr27_2 : TR Tryd.f27 35 2 = some a27_2 := by kernel_rfl
def a27_3 : List AO := [⟨some 16, none, .mv (.t 14)⟩,⟨some 17, none, .idx 4 (.t 12) (.t 14)⟩,⟨some 18, none, .load (some 4) (.t 17)⟩,⟨some 8, none, .alloc 89 [(.str []), (.int .i64 0), (.int .i64 0), .nils]⟩,⟨some 7, none, .mv (.t 16)⟩,⟨none, none, .store 4 (.t 8) (.t 18)⟩]
theorem tr27_3 : TR Tryd.f27 35 3 = some a27_3 := by kernel_rfl
def a27_4 : List AO := [⟨some 19, none, .fld 3 (.t 8)⟩,⟨some 20, none, .load none (.t 19)⟩,⟨some 21, none, .len (.t 20)⟩,⟨some 22, none, .mv (.v (.int .i64 0))⟩]
theorem tr27_4 : TR Tryd.f27 35 4 = some a27_4 := by kernel_rfl
def a27_5 : List AO := [⟨some 23, none, .bin .lss (.t 22) (.t 21)⟩]
theorem tr27_5 : TR Tryd.f27 35 5 = some a27_5 := by kernel_rfl
def a27_6 : List AO := [⟨some 24, none, .mv (.t 22)⟩,⟨some 25, none, .idx 2 (.t 20) (.t 22)⟩,⟨some 26, none, .load (some 2) (.t 25)⟩,⟨some 10, none, .alloc 105 [(.str []), (.int .i64 0)]⟩,⟨some 9, none, .mv (.t 24)⟩,⟨none, none, .store 2 (.t 10) (.t 26)⟩]
theorem tr27_6 : TR Tryd.f27 35 6 = some a27_6 := by kernel_rfl
def a27_7 : List AO := [⟨some 27, none, .fld 0 (.t 10)⟩,⟨some 28, none, .load none (.t 27)⟩,⟨some 29, none, .mv (.t 1)⟩,⟨some 30, none, .bin .eql (.t 28) (.t 29)⟩]
theorem tr27_7 : TR Tryd.f27 35 7 = some a27_7 := by kernel_rfl
def a27_8 : List AO := [⟨some 31, none, .mv (.t 7)⟩,⟨some 32, none, .mv (.t 9)⟩,⟨some 4, none, .mv (.t 31)⟩,⟨some 5, none, .mv (.t 32)⟩,⟨some 6, none, .mv (.v (.bool true))⟩]
theorem tr27_8 : TR Tryd.f27 35 8 = some a27_8 := by kernel_rfl
def a27_9 : List AO := [⟨some 33, none, .bin .add (.t 22) (.v (.int .i64 1))⟩,⟨some 22, none, .mv (.t 33)⟩]
theorem tr27_9 : TR Tryd.f27 35 9 = some a27_9 := by kernel_rfl
def a27_10 : List AO := [⟨some 34, none, .bin .add (.t 14) (.v (.int .i64 1))⟩,⟨some 14, none, .mv (.t 34)⟩]
theorem tr27_10 : TR Tryd.f27 35 10 = some a27_10 := by kernel_rfl
def a27_11 : List AO := [⟨some 4, none, .mv (.v (.int .i64 0))⟩,⟨some 5, none, .mv (.v (.int .i64 0))⟩,⟨some 6, none, .mv (.v (.bool false))⟩]
theorem tr27_11 : TR Tryd.f27 35 11 = some a27_11 := by kernel_rfl
noncomputable def c28 : Code := .seq (.region 0 (ro Tryd.f28 0) false) (.seq (.region 1 (ro Tryd.f28 1) false) (.seq (.seq (.region 2 (ro Tryd.f28 2) false) (.block 0 (.loop (.seq (.region 3 (ro Tryd.f28 3) false) (.seq (.cond (.tmp 14) (.skip) (.exit 0)) (.seq (.block 1 (.seq (.region 4 (ro Tryd.f28 4) false) (.seq (.seq (.region 5 (ro Tryd.f28 5) false) (.seq (.region 6 (ro Tryd.f28 6) false) (.cond (.tmp 29) (.seq (.region 7 (ro Tryd.f28 7) false) (.ret)) (.skip)))) (.region 8 (ro Tryd.f28 8) false)))) (.region 9 (ro Tryd.f28 9) false))))))) (.seq (.region 10 (ro Tryd.f28 10) false) (.ret))))
theorem body28 : Tryd.f28.body = some c28 := by kernel_rfl
theorem res28 : Tryd.f28.results.toList.mapM (trR Tryd.prog) = some [.t 4] := by kernel_rfl
theorem nt28 : Tryd.f28.ntmps = 36 := by kernel_rfl
theorem nm28 : (Tryd.f28.name == "runtime.NumGoroutine") = false := by kernel_rfl
def a28_0 : List AO := [⟨some 4, none, .mv (.v (.bool false))⟩]
theorem tr28_0 : TR Tryd.f28 36 0 = some a28_0 := by kernel_rfl
def a28_1 : List AO := [⟨some 10, none, .mkmap⟩,⟨some 5, none, .mv (.t 10)⟩]
theorem tr28_1 : TR Tryd.f28 36 1 = some a28_1 := by kernel_rfl
def a28_2 : List AO := [⟨some 11, none, .mv (.t 1)⟩,⟨some 12, none, .len (.t 11)⟩,⟨some 13, none, .mv (.v (.int .i64 0))⟩]
theorem tr28_2 : TR Tryd.f28 36 2 = some a28_2 := by kernel_rfl
def a28_3 : List AO := [⟨some 14, none, .bin .lss (.t 13) (.t 12)⟩]
theorem tr28_3 : TR Tryd.f28 36 3 = some a28_3 := by kernel_rfl
def a28_4 : List AO := [⟨some 15, none, .idx 4 (.t 11) (.t 13)⟩,⟨some 16, none, .load (some 4) (.t 15)⟩,⟨some 7, none, .alloc 38 [(.str []), (.int .i64 0), (.int .i64 0), (.str [])]⟩,⟨none, none, .store 4 (.t 7) (.t 16)⟩]
theorem tr28_4 : TR Tryd.f28 36 4 = some a28_4 := by kernel_rfl
def a28_5 : List AO := [⟨some 18, none, .mv (.t 0)⟩,⟨some 19, none, .load (some 4) (.t 7)⟩,⟨some 20, none, .call 47 [(.t 18), (.t 19)]⟩,⟨some 17, none, .mv (.t 20)⟩,⟨some 21, none, .ext 0 (.t 17)⟩,⟨some 22, none, .ext 1 (.t 17)⟩,⟨some 8, none, .mv (.t 21)⟩,⟨some 9, none, .mv (.t 22)⟩]
theorem tr28_5 : TR Tryd.f28 36 5 = some a28_5 := by kernel_rfl
def a28_6 : List AO := [⟨some 23, none, .mv (.t 9)⟩,⟨some 24, none, .un .not (.t 23)⟩,⟨some 25, none, .mv (.t 24)⟩,⟨(some 26), some (25, false), .mv (.t 5)⟩,⟨(some 27), some (25, false), .load (some 4) (.t 7)⟩,⟨(some 28), some (25, false), .look 3 false (.bool false) (.t 26) (.t 27)⟩,⟨some 29, none, .pick (.t 25) (.v (.bool true)) (.t 28)⟩]
theorem tr28_6 : TR Tryd.f28 36 6 = some a28_6 := by kernel_rfl
def a28_8 : List AO := [⟨some 30, none, .mv (.t 5)⟩,⟨some 31, none, .load (some 4) (.t 7)⟩,⟨none, none, .mset 3 (.t 30) (.t 31) (.v (.bool true))⟩]
theorem tr28_8 : TR Tryd.f28 36 8 = some a28_8 := by kernel_rfl
def a28_9 : List AO := [⟨some 32, none, .bin .add (.t 13) (.v (.int .i64 1))⟩,⟨some 13, none, .mv (.t 32)⟩]
theorem tr28_9 : TR Tryd.f28 36 9 = some a28_9 := by kernel_rfl
def a28_10 : List AO := [⟨some 33, none, .mv (.t 1)⟩,⟨some 34, none, .len (.t 33)⟩,⟨some 35, none, .bin .gtr (.t 34) (.v (.int .i64 0))⟩,⟨some 4, none, .mv (.t 35)⟩]
theorem tr28_10 : TR Tryd.f28 36 10 = some a28_10 := by kernel_rfl
noncomputable def c29 : Code := .seq (.region 0 (ro Tryd.f29 0) false) (.seq (.region 1 (ro Tryd.f29 1) false) (.seq (.seq (.region 2 (ro Tryd.f29 2) false) (.cond (.tmp 18) (.seq (.region 3 (ro Tryd.f29 3) false) (.ret)) (.skip))) (.seq (.region 4 (ro Tryd.f29 4) false) (.ret))))
theorem body29 : Tryd.f29.body = some c29 := by kernel_rfl
theorem res29 : Tryd.f29.results.toList.mapM (trR Tryd.prog) = some [.t 6] := by kernel_rfl
theorem nt29 : Tryd.f29.ntmps = 22 := by kernel_rfl
theorem nm29 : (Tryd.f29.name == "runtime.NumGoroutine") = false := by kernel_rfl
def a29_0 : List AO := [⟨some 4, none, .box 38 (.t 1)⟩,⟨some 6, none, .mv (.v (.int .i64 0))⟩]
theorem tr29_0 : TR Tryd.f29 22 0 = some a29_0 := by kernel_rfl
def a29_1 : List AO := [⟨some 8, none, .mv (.t 0)⟩,⟨some 9, none, .load (some 4) (.t 4)⟩,⟨some 10, none, .call 48 [(.t 8), (.t 9)]⟩,⟨some 7, none, .mv (.t 10)⟩]
theorem tr29_1 : TR Tryd.f29 22 1 = some a29_1 := by kernel_rfl
def a29_2 : List AO := [⟨some 11, none, .mv (.t 7)⟩,⟨some 12, none, .binp false .eql (.t 11) (.v .nilp)⟩,⟨some 13, none, .mv (.t 12)⟩,⟨(some 14), some (13, false), .mv (.t 7)⟩,⟨(some 15), some (13, false), .nchk (.t 14)⟩,⟨(some 16), some (13, false), .fld 3 (.t 15)⟩,⟨(some 17), some (13, false), .load none (.t 16)⟩,⟨some 18, none, .pick (.t 13) (.v (.bool true)) (.t 17)⟩]
theorem tr29_2 : TR Tryd.f29 22 2 = some a29_2 := by kernel_rfl
def a29_3 : List AO := [⟨some 6, none, .mv (.v (.int .i64 0))⟩]
theorem tr29_3 : TR Tryd.f29 22 3 = some a29_3 := by kernel_rfl
def a29_4 : List AO := [⟨some 19, none, .mv (.t 7)⟩,⟨some 20, none, .mv (.t 2)⟩,⟨some 21, none, .call 26 [(.t 19), (.t 20)]⟩,⟨some 6, none, .mv (.t 21)⟩]
theorem tr29_4 : TR Tryd.f29 22 4 = some a29_4 := by kernel_rfl
noncomputable def c30 : Code := .seq (.region 0 (ro Tryd.f30 0) false) (.seq (.seq (.region 1 (ro Tryd.f30 1) false) (.cond (.tmp 4) (.seq (.region 2 (ro Tryd.f30 2) false) (.ret)) (.skip))) (.seq (.region 3 (ro Tryd.f30 3) false) (.ret)))
theorem body30 : Tryd.f30.body = some c30 := by kernel_rfl
theorem res30 : Tryd.f30.results.toList.mapM (trR Tryd.prog) = some [.t 2] := by kernel_rfl
theorem nt30 : Tryd.f30.ntmps = 8 := by kernel_rfl
theorem nm30 : (Tryd.f30.name == "runtime.NumGoroutine") = false := by kernel_rfl
def a30_0 : List AO := [⟨some 2, none, .mv (.v .nils)⟩]
theorem tr30_0 : TR Tryd.f30 8 0 = some a30_0 := by kernel_rfl
def a30_1 : List AO := [⟨some 3, none, .mv (.t 0)⟩,⟨some 4, none, .binn .eql (.t 3) (.v .nils)⟩]
theorem tr30_1 : TR Tryd.f30 8 1 = some a30_1 := by kernel_rfl
def a30_3 : List AO := [⟨some 5, none, .slc 3 1 false []⟩,⟨some 6, none, .mv (.t 0)⟩,⟨some 7, none, .app 3 1 8 (.t 5) (.t 6)⟩,⟨some 2, none, .mv (.t 7)⟩]
theorem tr30_3 : TR Tryd.f30 8 3 = some a30_3 := by kernel_rfl
noncomputable def c31 : Code := .seq (.region 0 (ro Tryd.f31 0) false) (.seq (.seq (.region 1 (ro Tryd.f31 1) false) (.cond (.tmp 4) (.seq (.region 2 (ro Tryd.f31 2) false) (.ret)) (.skip))) (.seq (.region 3 (ro Tryd.f31 3) false) (.ret)))
theorem body31 : Tryd.f31.body = some c31 := by kernel_rfl
theorem res31 : Tryd.f31.results.toList.mapM (trR Tryd.prog) = some [.t 2] := by kernel_rfl
theorem nt31 : Tryd.f31.ntmps = 15 := by kernel_rfl
theorem nm31 : (Tryd.f31.name == "runtime.NumGoroutine") = false := by kernel_rfl
def a31_0 : List AO := [⟨some 2, none, .mv (.v (.str []))⟩]
theorem tr31_0 : TR Tryd.f31 15 0 = some a31_0 := by kernel_rfl
def a31_1 : List AO := [⟨some 3, none, .mv (.t 0)⟩,⟨some 4, none, .bin .lss (.t 3) (.v (.int .i64 0))⟩]
theorem tr31_1 : TR Tryd.f31 15 1 = some a31_1 := by kernel_rfl
def a31_2 : List AO := [⟨some 5, none, .mv (.t 0)⟩,⟨some 6, none, .bin .add (.t 5) (.v (.int .i64 1))⟩,⟨some 7, none, .un .neg (.t 6)⟩,⟨some 8, none, .conv .u64 (.t 7)⟩,⟨some 9, none, .bin .add (.t 8) (.v (.int .u64 1))⟩,⟨some 10, none, .call 49 [(.t 9)]⟩,⟨some 11, none, .bin .add (.v (.str [45])) (.t 10)⟩,⟨some 2, none, .mv (.t 11)⟩]
theorem tr31_2 : TR Tryd.f31 15 2 = some a31_2 := by kernel_rfl
def a31_3 : List AO := [⟨some 12, none, .mv (.t 0)⟩,⟨some 13, none, .conv .u64 (.t 12)⟩,⟨some 14, none, .call 49 [(.t 13)]⟩,⟨some 2, none, .mv (.t 14)⟩]
theorem tr31_3 : TR Tryd.f31 15 3 = some a31_3 := by kernel_rfl
noncomputable def c32 : Code := .seq (.region 0 (ro Tryd.f32 0) false) (.seq (.region 1 (ro Tryd.f32 1) false) (.ret))
theorem body32 : Tryd.f32.body = some c32 := by kernel_rfl
theorem res32 : Tryd.f32.results.toList.mapM (trR Tryd.prog) = some [.t 2] := by kernel_rfl
theorem nt32 : Tryd.f32.ntmps = 9 := by kernel_rfl
theorem nm32 : (Tryd.f32.name == "runtime.NumGoroutine") = false := by kernel_rfl
def a32_0 : List AO := [⟨some 2, none, .mv (.v (.bool false))⟩]
theorem tr32_0 : TR Tryd.f32 9 0 = some a32_0 := by kernel_rfl
def a32_1 : List AO := [⟨some 3, none, .mv (.t 0)⟩,⟨some 4, none, .bin .geq (.t 3) (.v (.int .u8 65))⟩,⟨some 5, none, .mv (.t 4)⟩,⟨(some 6), some (5, true), .mv (.t 0)⟩,⟨(some 7), some (5, true), .bin .leq (.t 6) (.v (.int .u8 90))⟩,⟨some 8, none, .pick (.t 5) (.t 7) (.v (.bool false))⟩,⟨some 2, none, .mv (.t 8)⟩]
theorem tr32_1 : TR Tryd.f32 9 1 = some a32_1 := by kernel_rfl
noncomputable def c33 : Code := .seq (.region 0 (ro Tryd.f33 0) false) (.seq (.region 1 (ro Tryd.f33 1) false) (.ret))
theorem body33 : Tryd.f33.body = some c33 := by kernel_rfl
theorem res33 : Tryd.f33.results.toList.mapM (trR Tryd.prog) = some [.t 2] := by kernel_rfl
theorem nt33 : Tryd.f33.ntmps = 9 := by kernel_rfl
theorem nm33 : (Tryd.f33.name == "runtime.NumGoroutine") = false := by kernel_rfl
def a33_0 : List AO := [⟨some 2, none, .mv (.v (.bool false))⟩]
theorem tr33_0 : TR Tryd.f33 9 0 = some a33_0 := by kernel_rfl
def a33_1 : List AO := [⟨some 3, none, .mv (.t 0)⟩,⟨some 4, none, .bin .geq (.t 3) (.v (.int .u8 48))⟩,⟨some 5, none, .mv (.t 4)⟩,⟨(some 6), some (5, true), .mv (.t 0)⟩,⟨(some 7), some (5, true), .bin .leq (.t 6) (.v (.int .u8 57))⟩,⟨some 8, none, .pick (.t 5) (.t 7) (.v (.bool false))⟩,⟨some 2, none, .mv (.t 8)⟩]
theorem tr33_1 : TR Tryd.f33 9 1 = some a33_1 := by kernel_rfl
noncomputable def c34 : Code := .seq (.region 0 (ro Tryd.f34 0) false) (.seq (.region 1 (ro Tryd.f34 1) false) (.ret))
theorem body34 : Tryd.f34.body = some c34 := by kernel_rfl
theorem res34 : Tryd.f34.results.toList.mapM (trR Tryd.prog) = some [.t 2] := by kernel_rfl
theorem nt34 : Tryd.f34.ntmps = 21 := by kernel_rfl
theorem nm34 : (Tryd.f34.name == "runtime.NumGoroutine") = false := by kernel_rfl
def a34_0 : List AO := [⟨some 1, none, .box 89 (.t 0)⟩,⟨some 2, none, .mv (.v (.bool false))⟩]
theorem tr34_0 : TR Tryd.f34 21 0 = some a34_0 := by kernel_rfl
def a34_1 : List AO := [⟨some 3, none, .fld 1 (.t 1)⟩,⟨some 4, none, .load none (.t 3)⟩,⟨some 5, none, .bin .geq (.t 4) (.v (.int .i64 1))⟩,⟨some 6, none, .mv (.t 5)⟩,⟨(some 7), some (6, true), .fld 1 (.t 1)⟩,⟨(some 8), some (6, true), .load none (.t 7)⟩,⟨(some 9), some (6, true), .bin .leq (.t 8) (.v (.int .i64 999))⟩,⟨some 10, none, .pick (.t 6) (.t 9) (.v (.bool false))⟩,⟨some 11, none, .mv (.t 10)⟩,⟨(some 12), some (11, true), .fld 2 (.t 1)⟩,⟨(some 13), some (11, true), .load none (.t 12)⟩,⟨(some 14), some (11, true), .bin .geq (.t 13) (.v (.int .i64 0))⟩,⟨some 15, none, .pick (.t 11) (.t 14) (.v (.bool false))⟩,⟨some 16, none, .mv (.t 15)⟩,⟨(some 17), some (16, true), .fld 2 (.t 1)⟩,⟨(some 18), some (16, true), .load none (.t 17)⟩,⟨(some 19), some (16, true), .bin .leq (.t 18) (.v (.int .i64 999))⟩,⟨some 20, none, .pick (.t 16) (.t 19) (.v (.bool false))⟩,⟨some 2, none, .mv (.t 20)⟩]
theorem tr34_1 : TR Tryd.f34 21 1 = some a34_1 := by kernel_rfl
noncomputable def c35 : Code := .seq (.region 0 (ro Tryd.f35 0) false) (.seq (.region 1 (ro Tryd.f35 1) false) (.seq (.region 2 (ro Tryd.f35 2) false) (.seq (.seq (.region 3 (ro Tryd.f35 3) false) (.block 0 (.loop (.seq (.seq (.region 4 (ro Tryd.f35 4) false) (.cond (.tmp 21) (.skip) (.exit 0))) (.seq (.block 1 (.seq (.region 6 (ro Tryd.f35 6) true) (.seq (.seq (.region 7 (ro Tryd.f35 7) false) (.cond (.tmp 35) (.region 8 (ro Tryd.f35 8) false) (.skip))) (.seq (.seq (.region 9 (ro Tryd.f35 9) false) (.cond (.tmp 44) (.region 10 (ro Tryd.f35 10) false) (.skip))) (.seq (.region 11 (ro Tryd.f35 11) true) (.cond (.tmp 79) (.region 12 (ro Tryd.f35 12) false) (.skip))))))) (.region 5 (ro Tryd.f35 5) false)))))) (.seq (.region 13 (ro Tryd.f35 13) false) (.ret)))))
theorem body35 : Tryd.f35.body = some c35 := by kernel_rfl
theorem res35 : Tryd.f35.results.toList.mapM (trR Tryd.prog) = some [.t 6] := by kernel_rfl
theorem nt35 : Tryd.f35.ntmps = 86 := by kernel_rfl
theorem nm35 : (Tryd.f35.name == "runtime.NumGoroutine") = false := by kernel_rfl
def a35_0 : List AO := [⟨some 3, none, .box 48 (.t 0)⟩,⟨some 6, none, .mv (.v .nils)⟩]
theorem tr35_0 : TR Tryd.f35 86 0 = some a35_0 := by kernel_rfl
def a35_1 : List AO := [⟨some 7, none, .mv (.v .nils)⟩]
theorem tr35_1 : TR Tryd.f35 86 1 = some a35_1 := by kernel_rfl
def a35_2 : List AO := [⟨some 12, none, .fld 1 (.t 3)⟩,⟨some 13, none, .load none (.t 12)⟩,⟨some 14, none, .mv (.t 1)⟩,⟨some 15, none, .idx 4 (.t 13) (.t 14)⟩,⟨some 16, none, .load (some 4) (.t 15)⟩,⟨some 8, none, .alloc 89 [(.str []), (.int .i64 0), (.int .i64 0), .nils]⟩,⟨none, none, .store 4 (.t 8) (.t 16)⟩]
theorem tr35_2 : TR Tryd.f35 86 2 = some a35_2 := by kernel_rfl
def a35_3 : List AO := [⟨some 9, none, .mv (.v (.int .i64 0))⟩]
theorem tr35_3 : TR Tryd.f35 86 3 = some a35_3 := by kernel_rfl
def a35_4 : List AO := [⟨some 17, none, .mv (.t 9)⟩,⟨some 18, none, .fld 3 (.t 8)⟩,⟨some 19, none, .load none (.t 18)⟩,⟨some 20, none, .len (.t 19)⟩,⟨some 21, none, .bin .lss (.t 17) (.t 20)⟩]
theorem tr35_4 : TR Tryd.f35 86 4 = some a35_4 := by kernel_rfl
def a35_6 : List AO := [⟨some 24, none, .mv (.t 2)⟩,⟨some 25, none, .mv (.t 9)⟩,⟨some 26, none, .call 13 [(.t 24), (.v (.str [99, 108, 97, 115, 115])), (.t 25)]⟩,⟨some 27, none, .fld 3 (.t 8)⟩,⟨some 28, none, .load none (.t 27)⟩,⟨some 29, none, .mv (.t 9)⟩,⟨some 30, none, .idx 2 (.t 28) (.t 29)⟩,⟨some 31, none, .load (some 2) (.t 30)⟩,⟨some 11, none, .alloc 105 [(.str []), (.int .i64 0)]⟩,⟨some 10, none, .mv (.t 26)⟩,⟨none, none, .store 2 (.t 11) (.t 31)⟩]
theorem tr35_6 : TR Tryd.f35 86 6 = some a35_6 := by kernel_rfl
def d35_6 : List (List Nat) := [[], [], [0, 1], [], [3], [], [3, 4, 5], [3, 4, 5, 6], [], [0, 1, 2, 8], [0, 1, 2, 3, 4, 5, 6, 7, 8, 9]]
theorem ok35_6 : okReg (ro Tryd.f35 6) a35_6 d35_6 = true := by kernel_rfl
def a35_7 : List AO := [⟨some 32, none, .fld 0 (.t 11)⟩,⟨some 33, none, .load none (.t 32)⟩,⟨some 34, none, .call 50 [(.t 33)]⟩,⟨some 35, none, .un .not (.t 34)⟩]
theorem tr35_7 : TR Tryd.f35 86 7 = some a35_7 := by kernel_rfl
def a35_8 : List AO := [⟨some 36, none, .mv (.t 7)⟩,⟨some 37, none, .mv (.t 10)⟩,⟨some 38, none, .build [(.int .i64 0), (.str [])] [(0, 1, (.v (.int .i64 16))), (1, 1, (.t 37))]⟩,⟨some 39, none, .slc 51 2 false [(.t 38)]⟩,⟨some 40, none, .app 51 2 24 (.t 36) (.t 39)⟩,⟨some 7, none, .mv (.t 40)⟩]
theorem tr35_8 : TR Tryd.f35 86 8 = some a35_8 := by kernel_rfl
def a35_9 : List AO := [⟨some 41, none, .load (some 2) (.t 3)⟩,⟨some 42, none, .mv (.t 1)⟩,⟨some 43, none, .mv (.t 9)⟩,⟨some 44, none, .call 51 [(.t 41), (.t 42), (.t 43)]⟩]
theorem tr35_9 : TR Tryd.f35 86 9 = some a35_9 := by kernel_rfl
def a35_10 : List AO := [⟨some 45, none, .mv (.t 7)⟩,⟨some 46, none, .mv (.t 10)⟩,⟨some 47, none, .build [(.int .i64 0), (.str [])] [(0, 1, (.v (.int .i64 6))), (1, 1, (.t 46))]⟩,⟨some 48, none, .slc 51 2 false [(.t 47)]⟩,⟨some 49, none, .app 51 2 24 (.t 45) (.t 48)⟩,⟨some 7, none, .mv (.t 49)⟩]
theorem tr35_10 : TR Tryd.f35 86 10 = some a35_10 := by kernel_rfl
def a35_11 : List AO := [⟨some 50, none, .fld 1 (.t 11)⟩,⟨some 51, none, .load none (.t 50)⟩,⟨some 52, none, .bin .lss (.t 51) (.v (.int .i64 0))⟩,⟨some 53, none, .mv (.t 52)⟩,⟨(some 54), some (53, false), .mv (.t 9)⟩,⟨(some 55), some (53, false), .bin .gtr (.t 54) (.v (.int .i64 0))⟩,⟨(some 56), some (53, false), .mv (.t 55)⟩,⟨(some 57), some (56, true), .fld 1 (.t 11)⟩,⟨(some 58), some (56, true), .load none (.t 57)⟩,⟨(some 59), some (56, true), .fld 3 (.t 8)⟩,⟨(some 60), some (56, true), .load none (.t 59)⟩,⟨(some 61), some (56, true), .mv (.t 9)⟩,⟨(some 62), some (56, true), .bin .sub (.t 61) (.v (.int .i64 1))⟩,⟨(some 63), some (56, true), .idx 2 (.t 60) (.t 62)⟩,⟨(some 64), some (56, true), .fld 1 (.t 63)⟩,⟨(some 65), some (56, true), .load none (.t 64)⟩,⟨(some 66), some (56, true), .bin .lss (.t 58) (.t 65)⟩,⟨(some 67), some (53, false), .pick (.t 56) (.t 66) (.v (.bool false))⟩,⟨some 68, none, .pick (.t 53) (.v (.bool true)) (.t 67)⟩,⟨some 69, none, .mv (.t 68)⟩,⟨(some 70), some (69, false), .load (some 4) (.t 8)⟩,⟨(some 71), some (69, false), .call 34 [(.t 70)]⟩,⟨(some 72), some (69, false), .mv (.t 71)⟩,⟨(some 73), some (72, true), .fld 1 (.t 11)⟩,⟨(some 74), some (72, true), .load none (.t 73)⟩,⟨(some 75), some (72, true), .load (some 4) (.t 8)⟩,⟨(some 76), some (72, true), .call 52 [(.t 75)]⟩,⟨(some 77), some (72, true), .bin .gtr (.t 74) (.t 76)⟩,⟨(some 78), some (69, false), .pick (.t 72) (.t 77) (.v (.bool false))⟩,⟨some 79, none, .pick (.t 69) (.v (.bool true)) (.t 78)⟩]
theorem tr35_11 : TR Tryd.f35 86 11 = some a35_11 := by kernel_rfl
def d35_11 : List (List Nat) := [[], [0], [0, 1], [0, 1, 2], [0, 1, 2, 3], [0, 1, 2, 3, 4], [0, 1, 2, 3, 4, 5], [0, 1, 2, 3, 4, 5, 6], [0, 1, 2, 3, 4, 5, 6, 7], [0, 1, 2, 3, 4, 5, 6], [0, 1, 2, 3, 4, 5, 6, 9], [0, 1, 2, 3, 4, 5, 6], [0, 1, 2, 3, 4, 5, 6, 11], [0, 1, 2, 3, 4, 5, 6, 9, 10, 11, 12], [0, 1, 2, 3, 4, 5, 6, 9, 10, 11, 12, 13], [0, 1, 2, 3, 4, 5, 6, 9, 10, 11, 12, 13, 14], [0, 1, 2, 3, 4, 5, 6, 7, 8, 9, 10, 11, 12, 13, 14, 15], [0, 1, 2, 3, 4, 5, 6, 7, 8, 9, 10, 11, 12, 13, 14, 15, 16], [0, 1, 2, 3, 4, 5, 6, 7, 8, 9, 10, 11, 12, 13, 14, 15, 16, 17], [0, 1, 2, 3, 4, 5, 6, 7, 8, 9, 10, 11, 12, 13, 14, 15, 16, 17, 18], [0, 1, 2, 3, 4, 5, 6, 7, 8, 9, 10, 11, 12, 13, 14, 15, 16, 17, 18, 19], [0, 1, 2, 3, 4, 5, 6, 7, 8, 9, 10, 11, 12, 13, 14, 15, 16, 17, 18, 19, 20], [0, 1, 2, 3, 4, 5, 6, 7, 8, 9, 10, 11, 12, 13, 14, 15, 16, 17, 18, 19, 20, 21], [0, 1, 2, 3, 4, 5, 6, 7, 8, 9, 10, 11, 12, 13, 14, 15, 16, 17, 18, 19, 20, 21, 22], [0, 1, 2, 3, 4, 5, 6, 7, 8, 9, 10, 11, 12, 13, 14, 15, 16, 17, 18, 19, 20, 21, 22, 23], [0, 1, 2, 3, 4, 5, 6, 7, 8, 9, 10, 11, 12, 13, 14, 15, 16, 17, 18, 19, 20, 21, 22], [0, 1, 2, 3, 4, 5, 6, 7, 8, 9, 10, 11, 12, 13, 14, 15, 16, 17, 18, 19, 20, 21, 22, 25], [0, 1, 2, 3, 4, 5, 6, 7, 8, 9, 10, 11, 12, 13, 14, 15, 16, 17, 18, 19, 20, 21, 22, 23, 24, 25, 26], [0, 1, 2, 3, 4, 5, 6, 7, 8, 9, 10, 11, 12, 13, 14, 15, 16, 17, 18, 19, 20, 21, 22, 23, 24, 25, 26, 27], [0, 1, 2, 3, 4, 5, 6, 7, 8, 9, 10, 11, 12, 13, 14, 15, 16, 17, 18, 19, 20, 21, 22, 23, 24, 25, 26, 27, 28]]
theorem ok35_11 : okReg (ro Tryd.f35 11) a35_11 d35_11 = true := by kernel_rfl
def a35_12 : List AO := [⟨some 80, none, .mv (.t 7)⟩,⟨some 81, none, .mv (.t 10)⟩,⟨some 82, none, .build [(.int .i64 0), (.str [])] [(0, 1, (.v (.int .i64 2))), (1, 1, (.t 81))]⟩,⟨some 83, none, .slc 51 2 false [(.t 82)]⟩,⟨some 84, none, .app 51 2 24 (.t 80) (.t 83)⟩,⟨some 7, none, .mv (.t 84)⟩]
theorem tr35_12 : TR Tryd.f35 86 12 = some a35_12 := by kernel_rfl
def a35_5 : List AO := [⟨some 22, none, .mv (.t 9)⟩,⟨some 23, none, .bin .add (.t 22) (.v (.int .i64 1))⟩,⟨some 9, none, .mv (.t 23)⟩]
theorem tr35_5 : TR Tryd.f35 86 5 = some a35_5 := by kernel_rfl
def a35_13 : List AO := [⟨some 85, none, .mv (.t 7)⟩,⟨some 6, none, .mv (.t 85)⟩]
theorem tr35_13 : TR Tryd.f35 86 13 = some a35_13 := by kernel_rfl
noncomputable def c36 : Code := .seq (.region 0 (ro Tryd.f36 0) false) (.seq (.seq (.region 1 (ro Tryd.f36 1) false) (.cond (.tmp 14) (.seq (.region 2 (ro Tryd.f36 2) false) (.ret)) (.skip))) (.seq (.region 3 (ro Tryd.f36 3) false) (.seq (.block 0 (.loop (.seq (.seq (.region 4 (ro Tryd.f36 4) false) (.cond (.tmp 22) (.skip) (.exit 0))) (.block 1 (.region 5 (ro Tryd.f36 5) false))))) (.seq (.region 6 (ro Tryd.f36 6) false) (.seq (.seq (.region 7 (ro Tryd.f36 7) false) (.block 2 (.loop (.seq (.region 8 (ro Tryd.f36 8) false) (.seq (.cond (.tmp 30) (.skip) (.exit 2)) (.seq (.block 3 (.seq (.region 9 (ro Tryd.f36 9) false) (.seq (.region 10 (ro Tryd.f36 10) false) (.seq (.seq (.region 11 (ro Tryd.f36 11) false) (.cond (.tmp 38) (.seq (.region 12 (ro Tryd.f36 12) false) (.ret)) (.skip))) (.region 13 (ro Tryd.f36 13) false))))) (.region 14 (ro Tryd.f36 14) false))))))) (.seq (.region 15 (ro Tryd.f36 15) false) (.ret)))))))
theorem body36 : Tryd.f36.body = some c36 := by kernel_rfl
theorem res36 : Tryd.f36.results.toList.mapM (trR Tryd.prog) = some [.t 2, .t 3, .t 4] := by kernel_rfl
theorem nt36 : Tryd.f36.ntmps = 48 := by kernel_rfl
theorem nm36 : (Tryd.f36.name == "runtime.NumGoroutine") = false := by kernel_rfl
def a36_0 : List AO := [⟨some 2, none, .mv (.v (.int .i64 0))⟩,⟨some 3, none, .mv (.v (.int .i64 0))⟩,⟨some 4, none, .mv (.v (.int .i64 0))⟩]
theorem tr36_0 : TR Tryd.f36 48 0 = some a36_0 := by kernel_rfl
def a36_1 : List AO := [⟨some 9, none, .mv (.t 0)⟩,⟨some 10, none, .bin .lss (.t 9) (.v (.int .i64 0))⟩,⟨some 11, none, .mv (.t 10)⟩,⟨(some 12), some (11, false), .mv (.t 0)⟩,⟨(some 13), some (11, false), .bin .geq (.t 12) (.v (.int .i64 36525))⟩,⟨some 14, none, .pick (.t 11) (.v (.bool true)) (.t 13)⟩]
theorem tr36_1 : TR Tryd.f36 48 1 = some a36_1 := by kernel_rfl
def a36_3 : List AO := [⟨some 15, none, .mv (.t 0)⟩,⟨some 16, none, .bin .quo (.t 15) (.v (.int .i64 366))⟩,⟨some 17, none, .bin .add (.v (.int .i64 2000)) (.t 16)⟩,⟨some 5, none, .mv (.t 17)⟩]
theorem tr36_3 : TR Tryd.f36 48 3 = some a36_3 := by kernel_rfl
def a36_4 : List AO := [⟨some 18, none, .mv (.t 5)⟩,⟨some 19, none, .bin .add (.t 18) (.v (.int .i64 1))⟩,⟨some 20, none, .call 53 [(.t 19)]⟩,⟨some 21, none, .mv (.t 0)⟩,⟨some 22, none, .bin .leq (.t 20) (.t 21)⟩]
theorem tr36_4 : TR Tryd.f36 48 4 = some a36_4 := by kernel_rfl
def a36_5 : List AO := [⟨some 23, none, .mv (.t 5)⟩,⟨some 24, none, .bin .add (.t 23) (.v (.int .i64 1))⟩,⟨some 5, none, .mv (.t 24)⟩]
theorem tr36_5 : TR Tryd.f36 48 5 = some a36_5 := by kernel_rfl
def a36_6 : List AO := [⟨some 25, none, .mv (.t 0)⟩,⟨some 26, none, .mv (.t 5)⟩,⟨some 27, none, .call 53 [(.t 26)]⟩,⟨some 28, none, .bin .sub (.t 25) (.t 27)⟩,⟨some 6, none, .mv (.t 28)⟩]
theorem tr36_6 : TR Tryd.f36 48 6 = some a36_6 := by kernel_rfl
def a36_7 : List AO := [⟨some 29, none, .mv (.v (.int .i64 0))⟩]
theorem tr36_7 : TR Tryd.f36 48 7 = some a36_7 := by kernel_rfl
def a36_8 : List AO := [⟨some 30, none, .bin .lss (.t 29) (.v (.int .i64 12))⟩]
theorem tr36_8 : TR Tryd.f36 48 8 = some a36_8 := by kernel_rfl
def a36_9 : List AO := [⟨some 31, none, .mv (.t 29)⟩,⟨some 7, none, .mv (.t 31)⟩]
theorem tr36_9 : TR Tryd.f36 48 9 = some a36_9 := by kernel_rfl
def a36_10 : List AO := [⟨some 32, none, .mv (.t 5)⟩,⟨some 33, none, .mv (.t 7)⟩,⟨some 34, none, .bin .add (.t 33) (.v (.int .i64 1))⟩,⟨some 35, none, .call 54 [(.t 32), (.t 34)]⟩,⟨some 8, none, .mv (.t 35)⟩]
theorem tr36_10 : TR Tryd.f36 48 10 = some a36_10 := by kernel_rfl
def a36_11 : List AO := [⟨some 36, none, .mv (.t 6)⟩,⟨some 37, none, .mv (.t 8)⟩,⟨some 38, none, .bin .lss (.t 36) (.t 37)⟩]
theorem tr36_11 : TR Tryd.f36 48 11 = some a36_11 := by kernel_rfl
def a36_12 : List AO := [⟨some 39, none, .mv (.t 5)⟩,⟨some 40, none, .mv (.t 7)⟩,⟨some 41, none, .bin .add (.t 40) (.v (.int .i64 1))⟩,⟨some 42, none, .mv (.t 6)⟩,⟨some 43, none, .bin .add (.t 42) (.v (.int .i64 1))⟩,⟨some 2, none, .mv (.t 39)⟩,⟨some 3, none, .mv (.t 41)⟩,⟨some 4, none, .mv (.t 43)⟩]
theorem tr36_12 : TR Tryd.f36 48 12 = some a36_12 := by kernel_rfl
noncomputable def c37 : Code := .seq (.region 0 (ro Tryd.f37 0) false) (.seq (.region 1 (ro Tryd.f37 1) false) (.ret))
theorem body37 : Tryd.f37.body = some c37 := by kernel_rfl
theorem res37 : Tryd.f37.results.toList.mapM (trR Tryd.prog) = some [.t 2] := by kernel_rfl
theorem nt37 : Tryd.f37.ntmps = 13 := by kernel_rfl
theorem nm37 : (Tryd.f37.name == "runtime.NumGoroutine") = false := by kernel_rfl
def a37_0 : List AO := [⟨some 2, none, .mv (.v (.str []))⟩]
theorem tr37_0 : TR Tryd.f37 13 0 = some a37_0 := by kernel_rfl
def a37_1 : List AO := [⟨some 3, none, .mv (.t 0)⟩,⟨some 4, none, .bin .quo (.t 3) (.v (.int .i64 10))⟩,⟨some 5, none, .bin .add (.v (.int .i64 48)) (.t 4)⟩,⟨some 6, none, .conv .u8 (.t 5)⟩,⟨some 7, none, .mv (.t 0)⟩,⟨some 8, none, .bin .rem (.t 7) (.v (.int .i64 10))⟩,⟨some 9, none, .bin .add (.v (.int .i64 48)) (.t 8)⟩,⟨some 10, none, .conv .u8 (.t 9)⟩,⟨some 11, none, .slc 5 1 false [(.t 6), (.t 10)]⟩,⟨some 12, none, .b2s (.t 11)⟩,⟨some 2, none, .mv (.t 12)⟩]
theorem tr37_1 : TR Tryd.f37 13 1 = some a37_1 := by kernel_rfl
noncomputable def c39 : Code := .seq (.region 0 (ro Tryd.f39 0) false) (.seq (.region 1 (ro Tryd.f39 1) false) (.seq (.seq (.region 2 (ro Tryd.f39 2) false) (.block 0 (.loop (.seq (.region 3 (ro Tryd.f39 3) false) (.seq (.cond (.tmp 14) (.skip) (.exit 0)) (.seq (.block 1 (.seq (.region 4 (ro Tryd.f39 4) false) (.seq (.seq (.region 5 (ro Tryd.f39 5) false) (.cond (.tmp 20) (.exit 0) (.skip))) (.region 6 (ro Tryd.f39 6) false)))) (.region 7 (ro Tryd.f39 7) false))))))) (.seq (.region 8 (ro Tryd.f39 8) false) (.ret))))
theorem body39 : Tryd.f39.body = some c39 := by kernel_rfl
theorem res39 : Tryd.f39.results.toList.mapM (trR Tryd.prog) = some [.t 4] := by kernel_rfl
theorem nt39 : Tryd.f39.ntmps = 25 := by kernel_rfl
theorem nm39 : (Tryd.f39.name == "runtime.NumGoroutine") = false := by kernel_rfl
def a39_0 : List AO := [⟨some 2, none, .box 60 (.t 0)⟩,⟨some 4, none, .mv (.v (.int .i64 0))⟩]
theorem tr39_0 : TR Tryd.f39 25 0 = some a39_0 := by kernel_rfl
def a39_1 : List AO := [⟨some 8, none, .fld 0 (.t 2)⟩,⟨some 9, none, .load none (.t 8)⟩,⟨some 5, none, .mv (.t 9)⟩]
theorem tr39_1 : TR Tryd.f39 25 1 = some a39_1 := by kernel_rfl
def a39_2 : List AO := [⟨some 10, none, .fld 1 (.t 2)⟩,⟨some 11, none, .load none (.t 10)⟩,⟨some 12, none, .len (.t 11)⟩,⟨some 13, none, .mv (.v (.int .i64 0))⟩]
theorem tr39_2 : TR Tryd.f39 25 2 = some a39_2 := by kernel_rfl
def a39_3 : List AO := [⟨some 14, none, .bin .lss (.t 13) (.t 12)⟩]
theorem tr39_3 : TR Tryd.f39 25 3 = some a39_3 := by kernel_rfl
def a39_8 : List AO := [⟨some 24, none, .mv (.t 5)⟩,⟨some 4, none, .mv (.t 24)⟩]
theorem tr39_8 : TR Tryd.f39 25 8 = some a39_8 := by kernel_rfl
noncomputable def c40 : Code := .seq (.region 0 (ro Tryd.f40 0) false) (.seq (.region 1 (ro Tryd.f40 1) false) (.ret))
theorem body40 : Tryd.f40.body = some c40 := by kernel_rfl
theorem res40 : Tryd.f40.results.toList.mapM (trR Tryd.prog) = some [.t 2] := by kernel_rfl
theorem nt40 : Tryd.f40.ntmps = 5 := by kernel_rfl
theorem nm40 : (Tryd.f40.name == "runtime.NumGoroutine") = false := by kernel_rfl
def a40_0 : List AO := [⟨some 2, none, .mv (.v (.str []))⟩]
theorem tr40_0 : TR Tryd.f40 5 0 = some a40_0 := by kernel_rfl
def a40_1 : List AO := [⟨some 3, none, .mv (.t 0)⟩,⟨some 4, none, .call 58 [(.t 3)]⟩,⟨some 2, none, .mv (.t 4)⟩]
theorem tr40_1 : TR Tryd.f40 5 1 = some a40_1 := by kernel_rfl
noncomputable def c41 : Code := .seq (.region 0 (ro Tryd.f41 0) false) (.cond (.tmp 6) (.region 1 (ro Tryd.f41 1) true) (.skip))
theorem body41 : Tryd.f41.body = some c41 := by kernel_rfl
theorem res41 : Tryd.f41.results.toList.mapM (trR Tryd.prog) = some [] := by kernel_rfl
theorem nt41 : Tryd.f41.ntmps = 22 := by kernel_rfl
theorem nm41 : (Tryd.f41.name == "runtime.NumGoroutine") = false := by kernel_rfl
def a41_0 : List AO := [⟨some 6, none, .mv (.t 1)⟩]
theorem tr41_0 : TR Tryd.f41 22 0 = some a41_0 := by kernel_rfl
def a41_1 : List AO := [⟨some 7, none, .mv (.t 0)⟩,⟨some 8, none, .mv (.t 0)⟩,⟨some 9, none, .nchk (.t 8)⟩,⟨some 10, none, .fld 0 (.t 9)⟩,⟨some 11, none, .load none (.t 10)⟩,⟨some 12, none, .mv (.t 2)⟩,⟨some 13, none, .mv (.t 0)⟩,⟨some 14, none, .nchk (.t 13)⟩,⟨some 15, none, .fld 1 (.t 14)⟩,⟨some 16, none, .load none (.t 15)⟩,⟨some 17, none, .build [(.int .i64 0), (.str [])] [(0, 1, (.t 12)), (1, 1, (.t 16))]⟩,⟨some 18, none, .slc 51 2 false [(.t 17)]⟩,⟨some 19, none, .app 51 2 24 (.t 11) (.t 18)⟩,⟨some 20, none, .nchk (.t 7)⟩,⟨some 21, none, .fld 0 (.t 20)⟩,⟨none, none, .store 1 (.t 21) (.t 19)⟩]
theorem tr41_1 : TR Tryd.f41 22 1 = some a41_1 := by kernel_rfl
def d41_1 : List (List Nat) := [[], [], [1], [1, 2], [1, 2, 3], [], [], [6], [6, 7], [6, 7, 8], [5, 6, 7, 8, 9], [5, 6, 7, 8, 9, 10], [1, 2, 3, 4, 5, 6, 7, 8, 9, 10, 11], [0, 1, 2, 3, 4, 5, 6, 7, 8, 9, 10, 11, 12], [0, 1, 2, 3, 4, 5, 6, 7, 8, 9, 10, 11, 12, 13], [0, 1, 2, 3, 4, 5, 6, 7, 8, 9, 10, 11, 12, 13, 14]]
theorem ok41_1 : okReg (ro Tryd.f41 1) a41_1 d41_1 = true := by kernel_rfl
noncomputable def c42 : Code := .seq (.region 0 (ro Tryd.f42 0) false) (.seq (.region 1 (ro Tryd.f42 1) false) (.ret))
theorem body42 : Tryd.f42.body = some c42 := by kernel_rfl
theorem res42 : Tryd.f42.results.toList.mapM (trR Tryd.prog) = some [.t 6] := by kernel_rfl
theorem nt42 : Tryd.f42.ntmps = 21 := by kernel_rfl
theorem nm42 : (Tryd.f42.name == "runtime.NumGoroutine") = false := by kernel_rfl
def a42_0 : List AO := [⟨some 6, none, .mv (.v (.bool false))⟩]
theorem tr42_0 : TR Tryd.f42 21 0 = some a42_0 := by kernel_rfl
def a42_1 : List AO := [⟨some 7, none, .mv (.t 0)⟩,⟨some 8, none, .slen (.t 7)⟩,⟨some 9, none, .mv (.t 1)⟩,⟨some 10, none, .bin .geq (.t 8) (.t 9)⟩,⟨some 11, none, .mv (.t 10)⟩,⟨(some 12), some (11, true), .mv (.t 0)⟩,⟨(some 13), some (11, true), .slen (.t 12)⟩,⟨(some 14), some (11, true), .mv (.t 2)⟩,⟨(some 15), some (11, true), .bin .leq (.t 13) (.t 14)⟩,⟨some 16, none, .pick (.t 11) (.t 15) (.v (.bool false))⟩,⟨some 17, none, .mv (.t 16)⟩,⟨(some 18), some (17, true), .mv (.t 0)⟩,⟨(some 19), some (17, true), .call 59 [(.t 18), (.v (.fn 60 []))]⟩,⟨some 20, none, .pick (.t 17) (.t 19) (.v (.bool false))⟩,⟨some 6, none, .mv (.t 20)⟩]
theorem tr42_1 : TR Tryd.f42 21 1 = some a42_1 := by kernel_rfl
noncomputable def c43 : Code := .seq (.region 0 (ro Tryd.f43 0) false) (.seq (.region 1 (ro Tryd.f43 1) false) (.seq (.region 2 (ro Tryd.f43 2) false) (.seq (.region 3 (ro Tryd.f43 3) false) (.seq (.region 4 (ro Tryd.f43 4) false) (.seq (.region 5 (ro Tryd.f43 5) false) (.block 0 (.loop (.seq (.region 6 (ro Tryd.f43 6) false) (.seq (.cond (.tmp 51) (.skip) (.exit 0)) (.seq (.block 1 (.seq (.region 7 (ro Tryd.f43 7) false) (.seq (.region 8 (ro Tryd.f43 8) false) (.seq (.region 9 (ro Tryd.f43 9) false) (.seq (.region 10 (ro Tryd.f43 10) false) (.seq (.region 11 (ro Tryd.f43 11) false) (.region 12 (ro Tryd.f43 12) true))))))) (.region 13 (ro Tryd.f43 13) false)))))))))))
theorem body43 : Tryd.f43.body = some c43 := by kernel_rfl
theorem res43 : Tryd.f43.results.toList.mapM (trR Tryd.prog) = some [] := by kernel_rfl
theorem nt43 : Tryd.f43.ntmps = 111 := by kernel_rfl
theorem nm43 : (Tryd.f43.name == "runtime.NumGoroutine") = false := by kernel_rfl
def a43_0 : List AO := [⟨some 4, none, .box 89 (.t 1)⟩]
theorem tr43_0 : TR Tryd.f43 111 0 = some a43_0 := by kernel_rfl
def a43_1 : List AO := [⟨some 10, none, .mv (.t 0)⟩,⟨some 11, none, .nchk (.t 10)⟩,⟨some 12, none, .fld 1 (.t 11)⟩,⟨some 13, none, .load none (.t 12)⟩,⟨some 6, none, .mv (.t 13)⟩]
theorem tr43_1 : TR Tryd.f43 111 1 = some a43_1 := by kernel_rfl
def a43_2 : List AO := [⟨some 14, none, .fld 1 (.t 4)⟩,⟨some 15, none, .load none (.t 14)⟩,⟨some 16, none, .bin .lss (.t 15) (.v (.int .i64 1))⟩,⟨some 17, none, .mv (.t 16)⟩,⟨(some 18), some (17, false), .fld 1 (.t 4)⟩,⟨(some 19), some (17, false), .load none (.t 18)⟩,⟨(some 20), some (17, false), .bin .gtr (.t 19) (.v (.int .i64 999))⟩,⟨some 21, none, .pick (.t 17) (.v (.bool true)) (.t 20)⟩,⟨some 22, none, .mv (.t 21)⟩,⟨(some 23), some (22, false), .fld 2 (.t 4)⟩,⟨(some 24), some (22, false), .load none (.t 23)⟩,⟨(some 25), some (22, false), .bin .lss (.t 24) (.v (.int .i64 0))⟩,⟨some 26, none, .pick (.t 22) (.v (.bool true)) (.t 25)⟩,⟨some 27, none, .mv (.t 26)⟩,⟨(some 28), some (27, false), .fld 2 (.t 4)⟩,⟨(some 29), some (27, false), .load none (.t 28)⟩,⟨(some 30), some (27, false), .bin .gtr (.t 29) (.v (.int .i64 999))⟩,⟨some 31, none, .pick (.t 27) (.v (.bool true)) (.t 30)⟩,⟨some 7, none, .mv (.t 31)⟩]
theorem tr43_2 : TR Tryd.f43 111 2 = some a43_2 := by kernel_rfl
def a43_3 : List AO := [⟨some 32, none, .mv (.t 0)⟩,⟨some 33, none, .mv (.t 7)⟩,⟨some 34, none, .call 41 [(.t 32), (.t 33), (.v (.int .i64 2))]⟩]
theorem tr43_3 : TR Tryd.f43 111 3 = some a43_3 := by kernel_rfl
def a43_4 : List AO := [⟨some 35, none, .mv (.t 0)⟩,⟨some 36, none, .fld 3 (.t 4)⟩,⟨some 37, none, .load none (.t 36)⟩,⟨some 38, none, .len (.t 37)⟩,⟨some 39, none, .bin .lss (.t 38) (.v (.int .i64 1))⟩,⟨some 40, none, .mv (.t 39)⟩,⟨(some 41), some (40, false), .fld 3 (.t 4)⟩,⟨(some 42), some (40, false), .load none (.t 41)⟩,⟨(some 43), some (40, false), .len (.t 42)⟩,⟨(some 44), some (40, false), .bin .gtr (.t 43) (.v (.int .i64 26))⟩,⟨some 45, none, .pick (.t 40) (.v (.bool true)) (.t 44)⟩,⟨some 46, none, .call 41 [(.t 35), (.t 45), (.v (.int .i64 4))]⟩]
theorem tr43_4 : TR Tryd.f43 111 4 = some a43_4 := by kernel_rfl
def a43_5 : List AO := [⟨some 47, none, .fld 3 (.t 4)⟩,⟨some 48, none, .load none (.t 47)⟩,⟨some 49, none, .len (.t 48)⟩,⟨some 50, none, .mv (.v (.int .i64 0))⟩]
theorem tr43_5 : TR Tryd.f43 111 5 = some a43_5 := by kernel_rfl
def a43_6 : List AO := [⟨some 51, none, .bin .lss (.t 50) (.t 49)⟩]
theorem tr43_6 : TR Tryd.f43 111 6 = some a43_6 := by kernel_rfl
def a43_7 : List AO := [⟨some 52, none, .mv (.t 50)⟩,⟨some 53, none, .idx 2 (.t 48) (.t 50)⟩,⟨some 54, none, .load (some 2) (.t 53)⟩,⟨some 9, none, .alloc 105 [(.str []), (.int .i64 0)]⟩,⟨some 8, none, .mv (.t 52)⟩,⟨none, none, .store 2 (.t 9) (.t 54)⟩]
theorem tr43_7 : TR Tryd.f43 111 7 = some a43_7 := by kernel_rfl
def a43_8 : List AO := [⟨some 55, none, .mv (.t 0)⟩,⟨some 56, none, .mv (.t 6)⟩,⟨some 57, none, .bin .add (.t 56) (.v (.str [32, 99, 108, 97, 115, 115, 32]))⟩,⟨some 58, none, .mv (.t 8)⟩,⟨some 59, none, .call 40 [(.t 58)]⟩,⟨some 60, none, .bin .add (.t 57) (.t 59)⟩,⟨some 61, none, .nchk (.t 55)⟩,⟨some 62, none, .fld 1 (.t 61)⟩,⟨none, none, .store 1 (.t 62) (.t 60)⟩]
theorem tr43_8 : TR Tryd.f43 111 8 = some a43_8 := by kernel_rfl
def a43_9 : List AO := [⟨some 63, none, .mv (.t 0)⟩,⟨some 64, none, .fld 0 (.t 9)⟩,⟨some 65, none, .load none (.t 64)⟩,⟨some 66, none, .call 63 [(.t 65)]⟩,⟨some 67, none, .un .not (.t 66)⟩,⟨some 68, none, .call 41 [(.t 63), (.t 67), (.v (.int .i64 16))]⟩]
theorem tr43_9 : TR Tryd.f43 111 9 = some a43_9 := by kernel_rfl
def a43_10 : List AO := [⟨some 69, none, .mv (.t 0)⟩,⟨some 70, none, .mv (.t 2)⟩,⟨some 71, none, .fld 0 (.t 9)⟩,⟨some 72, none, .load none (.t 71)⟩,⟨some 73, none, .look 0 false (.bool false) (.t 70) (.t 72)⟩,⟨some 74, none, .call 41 [(.t 69), (.t 73), (.v (.int .i64 6))]⟩]
theorem tr43_10 : TR Tryd.f43 111 10 = some a43_10 := by kernel_rfl
def a43_11 : List AO := [⟨some 75, none, .mv (.t 2)⟩,⟨some 76, none, .fld 0 (.t 9)⟩,⟨some 77, none, .load none (.t 76)⟩,⟨none, none, .mset 0 (.t 75) (.t 77) (.v (.bool true))⟩]
theorem tr43_11 : TR Tryd.f43 111 11 = some a43_11 := by kernel_rfl
def a43_12 : List AO := [⟨some 78, none, .mv (.t 0)⟩,⟨some 79, none, .fld 1 (.t 9)⟩,⟨some 80, none, .load none (.t 79)⟩,⟨some 81, none, .bin .lss (.t 80) (.v (.int .i64 0))⟩,⟨some 82, none, .mv (.t 81)⟩,⟨(some 83), some (82, false), .mv (.t 8)⟩,⟨(some 84), some (82, false), .bin .gtr (.t 83) (.v (.int .i64 0))⟩,⟨(some 85), some (82, false), .mv (.t 84)⟩,⟨(some 86), some (85, true), .fld 1 (.t 9)⟩,⟨(some 87), some (85, true), .load none (.t 86)⟩,⟨(some 88), some (85, true), .fld 3 (.t 4)⟩,⟨(some 89), some (85, true), .load none (.t 88)⟩,⟨(some 90), some (85, true), .mv (.t 8)⟩,⟨(some 91), some (85, true), .bin .sub (.t 90) (.v (.int .i64 1))⟩,⟨(some 92), some (85, true), .idx 2 (.t 89) (.t 91)⟩,⟨(some 93), some (85, true), .fld 1 (.t 92)⟩,⟨(some 94), some (85, true), .load none (.t 93)⟩,⟨(some 95), some (85, true), .bin .lss (.t 87) (.t 94)⟩,⟨(some 96), some (82, false), .pick (.t 85) (.t 95) (.v (.bool false))⟩,⟨some 97, none, .pick (.t 82) (.v (.bool true)) (.t 96)⟩,⟨some 98, none, .mv (.t 97)⟩,⟨(some 99), some (98, false), .mv (.t 7)⟩,⟨(some 100), some (98, false), .un .not (.t 99)⟩,⟨(some 101), some (98, false), .mv (.t 100)⟩,⟨(some 102), some (101, true), .fld 1 (.t 9)⟩,⟨(some 103), some (101, true), .load none (.t 102)⟩,⟨(some 104), some (101, true), .load (some 4) (.t 4)⟩,⟨(some 105), some (101, true), .call 64 [(.t 104)]⟩,⟨(some 106), some (101, true), .bin .gtr (.t 103) (.t 105)⟩,⟨(some 107), some (98, false), .pick (.t 101) (.t 106) (.v (.bool false))⟩,⟨some 108, none, .pick (.t 98) (.v (.bool true)) (.t 107)⟩,⟨some 109, none, .call 41 [(.t 78), (.t 108), (.v (.int .i64 2))]⟩]
theorem tr43_12 : TR Tryd.f43 111 12 = some a43_12 := by kernel_rfl
def d43_12 : List (List Nat) := [[], [], [1], [1, 2], [1, 2, 3], [1, 2, 3, 4], [1, 2, 3, 4, 5], [1, 2, 3, 4, 5, 6], [1, 2, 3, 4, 5, 6, 7], [1, 2, 3, 4, 5, 6, 7, 8], [1, 2, 3, 4, 5, 6, 7], [1, 2, 3, 4, 5, 6, 7, 10], [1, 2, 3, 4, 5, 6, 7], [1, 2, 3, 4, 5, 6, 7, 12], [1, 2, 3, 4, 5, 6, 7, 10, 11, 12, 13], [1, 2, 3, 4, 5, 6, 7, 10, 11, 12, 13, 14], [1, 2, 3, 4, 5, 6, 7, 10, 11, 12, 13, 14, 15], [1, 2, 3, 4, 5, 6, 7, 8, 9, 10, 11, 12, 13, 14, 15, 16], [1, 2, 3, 4, 5, 6, 7, 8, 9, 10, 11, 12, 13, 14, 15, 16, 17], [1, 2, 3, 4, 5, 6, 7, 8, 9, 10, 11, 12, 13, 14, 15, 16, 17, 18], [1, 2, 3, 4, 5, 6, 7, 8, 9, 10, 11, 12, 13, 14, 15, 16, 17, 18, 19], [1, 2, 3, 4, 5, 6, 7, 8, 9, 10, 11, 12, 13, 14, 15, 16, 17, 18, 19, 20], [1, 2, 3, 4, 5, 6, 7, 8, 9, 10, 11, 12, 13, 14, 15, 16, 17, 18, 19, 20, 21], [1, 2, 3, 4, 5, 6, 7, 8, 9, 10, 11, 12, 13, 14, 15, 16, 17, 18, 19, 20, 21, 22], [1, 2, 3, 4, 5, 6, 7, 8, 9, 10, 11, 12, 13, 14, 15, 16, 17, 18, 19, 20, 21, 22, 23], [1, 2, 3, 4, 5, 6, 7, 8, 9, 10, 11, 12, 13, 14, 15, 16, 17, 18, 19, 20, 21, 22, 23, 24], [1, 2, 3, 4, 5, 6, 7, 8, 9, 10, 11, 12, 13, 14, 15, 16, 17, 18, 19, 20, 21, 22, 23], [1, 2, 3, 4, 5, 6, 7, 8, 9, 10, 11, 12, 13, 14, 15, 16, 17, 18, 19, 20, 21, 22, 23, 26], [1, 2, 3, 4, 5, 6, 7, 8, 9, 10, 11, 12, 13, 14, 15, 16, 17, 18, 19, 20, 21, 22, 23, 24, 25, 26, 27], [1, 2, 3, 4, 5, 6, 7, 8, 9, 10, 11, 12, 13, 14, 15, 16, 17, 18, 19, 20, 21, 22, 23, 24, 25, 26, 27, 28], [1, 2, 3, 4, 5, 6, 7, 8, 9, 10, 11, 12, 13, 14, 15, 16, 17, 18, 19, 20, 21, 22, 23, 24, 25, 26, 27, 28, 29], [0, 1, 2, 3, 4, 5, 6, 7, 8, 9, 10, 11, 12, 13, 14, 15, 16, 17, 18, 19, 20, 21, 22, 23, 24, 25, 26, 27, 28, 29, 30]]
theorem ok43_12 : okReg (ro Tryd.f43 12) a43_12 d43_12 = true := by kernel_rfl
def a43_13 : List AO := [⟨some 110, none, .bin .add (.t 50) (.v (.int .i64 1))⟩,⟨some 50, none, .mv (.t 110)⟩]
theorem tr43_13 : TR Tryd.f43 111 13 = some a43_13 := by kernel_rfl
noncomputable def c44 : Code := .seq (.region 0 (ro Tryd.f44 0) false) (.seq (.region 1 (ro Tryd.f44 1) false) (.ret))
theorem body44 : Tryd.f44.body = some c44 := by kernel_rfl
theorem res44 : Tryd.f44.results.toList.mapM (trR Tryd.prog) = some [.t 2] := by kernel_rfl
theorem nt44 : Tryd.f44.ntmps = 7 := by kernel_rfl
theorem nm44 : (Tryd.f44.name == "runtime.NumGoroutine") = false := by kernel_rfl
def a44_0 : List AO := [⟨some 2, none, .mv (.v (.bool false))⟩]
theorem tr44_0 : TR Tryd.f44 7 0 = some a44_0 := by kernel_rfl
def a44_1 : List AO := [⟨some 3, none, .mv (.t 0)⟩,⟨some 4, none, .nchk (.t 3)⟩,⟨some 5, none, .fld 3 (.t 4)⟩,⟨some 6, none, .load none (.t 5)⟩,⟨some 2, none, .mv (.t 6)⟩]
theorem tr44_1 : TR Tryd.f44 7 1 = some a44_1 := by kernel_rfl
noncomputable def c45 : Code := .seq (.region 0 (ro Tryd.f45 0) false) (.seq (.seq (.region 1 (ro Tryd.f45 1) false) (.block 0 (.loop (.seq (.region 2 (ro Tryd.f45 2) false) (.seq (.cond (.tmp 9) (.skip) (.exit 0)) (.seq (.block 1 (.seq (.region 3 (ro Tryd.f45 3) false) (.seq (.region 4 (ro Tryd.f45 4) false) (.cond (.tmp 16) (.seq (.region 5 (ro Tryd.f45 5) false) (.ret)) (.skip))))) (.region 6 (ro Tryd.f45 6) false))))))) (.seq (.region 7 (ro Tryd.f45 7) false) (.ret)))
theorem body45 : Tryd.f45.body = some c45 := by kernel_rfl
theorem res45 : Tryd.f45.results.toList.mapM (trR Tryd.prog) = some [.t 4] := by kernel_rfl
theorem nt45 : Tryd.f45.ntmps = 19 := by kernel_rfl
theorem nm45 : (Tryd.f45.name == "runtime.NumGoroutine") = false := by kernel_rfl
def a45_0 : List AO := [⟨some 4, none, .mv (.v (.int .i64 0))⟩]
theorem tr45_0 : TR Tryd.f45 19 0 = some a45_0 := by kernel_rfl
def a45_1 : List AO := [⟨some 6, none, .mv (.t 0)⟩,⟨some 7, none, .len (.t 6)⟩,⟨some 8, none, .mv (.v (.int .i64 0))⟩]
theorem tr45_1 : TR Tryd.f45 19 1 = some a45_1 := by kernel_rfl
def a45_2 : List AO := [⟨some 9, none, .bin .lss (.t 8) (.t 7)⟩]
theorem tr45_2 : TR Tryd.f45 19 2 = some a45_2 := by kernel_rfl
def a45_3 : List AO := [⟨some 10, none, .mv (.t 8)⟩,⟨some 5, none, .mv (.t 10)⟩]
theorem tr45_3 : TR Tryd.f45 19 3 = some a45_3 := by kernel_rfl
def a45_4 : List AO := [⟨some 11, none, .mv (.t 1)⟩,⟨some 12, none, .mv (.t 0)⟩,⟨some 13, none, .mv (.t 5)⟩,⟨some 14, none, .idx 1 (.t 12) (.t 13)⟩,⟨some 15, none, .load none (.t 14)⟩,⟨some 16, none, .callv (.t 11) [(.t 15)]⟩]
theorem tr45_4 : TR Tryd.f45 19 4 = some a45_4 := by kernel_rfl
def a45_5 : List AO := [⟨some 17, none, .mv (.t 5)⟩,⟨some 4, none, .mv (.t 17)⟩]
theorem tr45_5 : TR Tryd.f45 19 5 = some a45_5 := by kernel_rfl
def a45_6 : List AO := [⟨some 18, none, .bin .add (.t 8) (.v (.int .i64 1))⟩,⟨some 8, none, .mv (.t 18)⟩]
theorem tr45_6 : TR Tryd.f45 19 6 = some a45_6 := by kernel_rfl
def a45_7 : List AO := [⟨some 4, none, .mv (.v (.int .i64 (-1)))⟩]
theorem tr45_7 : TR Tryd.f45 19 7 = some a45_7 := by kernel_rfl
noncomputable def c46 : Code := .seq (.region 0 (ro Tryd.f46 0) false) (.seq (.seq (.region 1 (ro Tryd.f46 1) false) (.cond (.tmp 12) (.seq (.region 2 (ro Tryd.f46 2) false) (.ret)) (.skip))) (.seq (.region 3 (ro Tryd.f46 3) false) (.seq (.region 4 (ro Tryd.f46 4) false) (.seq (.seq (.region 5 (ro Tryd.f46 5) false) (.block 0 (.loop (.seq (.region 6 (ro Tryd.f46 6) false) (.seq (.cond (.tmp 19) (.skip) (.exit 0)) (.seq (.block 1 (.seq (.region 7 (ro Tryd.f46 7) false) (.seq (.region 8 (ro Tryd.f46 8) false) (.region 9 (ro Tryd.f46 9) false)))) (.region 10 (ro Tryd.f46 10) false))))))) (.seq (.region 11 (ro Tryd.f46 11) false) (.ret))))))
theorem body46 : Tryd.f46.body = some c46 := by kernel_rfl
theorem res46 : Tryd.f46.results.toList.mapM (trR Tryd.prog) = some [.t 4] := by kernel_rfl
theorem nt46 : Tryd.f46.ntmps = 33 := by kernel_rfl
theorem nm46 : (Tryd.f46.name == "runtime.NumGoroutine") = false := by kernel_rfl
def a46_0 : List AO := [⟨some 2, none, .box 89 (.t 0)⟩,⟨some 4, none, .mv (.v .nils)⟩]
theorem tr46_0 : TR Tryd.f46 33 0 = some a46_0 := by kernel_rfl
def a46_1 : List AO := [⟨some 9, none, .load (some 4) (.t 2)⟩,⟨some 10, none, .mv (.t 1)⟩,⟨some 11, none, .call 65 [(.t 9), (.t 10)]⟩,⟨some 12, none, .un .not (.t 11)⟩]
theorem tr46_1 : TR Tryd.f46 33 1 = some a46_1 := by kernel_rfl
def a46_2 : List AO := [⟨some 4, none, .mv (.v .nils)⟩]
theorem tr46_2 : TR Tryd.f46 33 2 = some a46_2 := by kernel_rfl
def a46_3 : List AO := [⟨some 13, none, .load (some 4) (.t 2)⟩,⟨some 14, none, .mv (.t 1)⟩,⟨some 15, none, .call 66 [(.t 13), (.t 14)]⟩,⟨some 5, none, .mv (.t 15)⟩]
theorem tr46_3 : TR Tryd.f46 33 3 = some a46_3 := by kernel_rfl
def a46_4 : List AO := [⟨some 6, none, .mv (.v (.int .i64 1099511627776))⟩]
theorem tr46_4 : TR Tryd.f46 33 4 = some a46_4 := by kernel_rfl
def a46_5 : List AO := [⟨some 16, none, .mv (.t 5)⟩,⟨some 17, none, .len (.t 16)⟩,⟨some 18, none, .mv (.v (.int .i64 0))⟩]
theorem tr46_5 : TR Tryd.f46 33 5 = some a46_5 := by kernel_rfl
def a46_6 : List AO := [⟨some 19, none, .bin .lss (.t 18) (.t 17)⟩]
theorem tr46_6 : TR Tryd.f46 33 6 = some a46_6 := by kernel_rfl
def a46_7 : List AO := [⟨some 20, none, .mv (.t 18)⟩,⟨some 21, none, .idx 1 (.t 16) (.t 18)⟩,⟨some 22, none, .load none (.t 21)⟩,⟨some 7, none, .mv (.t 20)⟩,⟨some 8, none, .mv (.t 22)⟩]
theorem tr46_7 : TR Tryd.f46 33 7 = some a46_7 := by kernel_rfl
def a46_8 : List AO := [⟨some 23, none, .mv (.t 6)⟩,⟨some 24, none, .mv (.t 8)⟩,⟨some 25, none, .mn (.t 23) (.t 24)⟩,⟨some 6, none, .mv (.t 25)⟩]
theorem tr46_8 : TR Tryd.f46 33 8 = some a46_8 := by kernel_rfl
def a46_9 : List AO := [⟨some 26, none, .mv (.t 5)⟩,⟨some 27, none, .mv (.t 7)⟩,⟨some 28, none, .mv (.t 6)⟩,⟨some 29, none, .mx (.v (.int .i64 0)) (.t 28)⟩,⟨some 30, none, .idx 1 (.t 26) (.t 27)⟩,⟨none, none, .store 1 (.t 30) (.t 29)⟩]
theorem tr46_9 : TR Tryd.f46 33 9 = some a46_9 := by kernel_rfl
def a46_10 : List AO := [⟨some 31, none, .bin .add (.t 18) (.v (.int .i64 1))⟩,⟨some 18, none, .mv (.t 31)⟩]
theorem tr46_10 : TR Tryd.f46 33 10 = some a46_10 := by kernel_rfl
def a46_11 : List AO := [⟨some 32, none, .mv (.t 5)⟩,⟨some 4, none, .mv (.t 32)⟩]
theorem tr46_11 : TR Tryd.f46 33 11 = some a46_11 := by kernel_rfl
noncomputable def c47 : Code := .seq (.region 0 (ro Tryd.f47 0) false) (.seq (.region 1 (ro Tryd.f47 1) false) (.seq (.seq (.region 2 (ro Tryd.f47 2) false) (.cond (.tmp 11) (.seq (.region 3 (ro Tryd.f47 3) false) (.ret)) (.skip))) (.seq (.region 4 (ro Tryd.f47 4) false) (.ret))))
theorem body47 : Tryd.f47.body = some c47 := by kernel_rfl
theorem res47 : Tryd.f47.results.toList.mapM (trR Tryd.prog) = some [.t 4, .t 5] := by kernel_rfl
theorem nt47 : Tryd.f47.ntmps = 17 := by kernel_rfl
theorem nm47 : (Tryd.f47.name == "runtime.NumGoroutine") = false := by kernel_rfl
def a47_0 : List AO := [⟨some 3, none, .box 38 (.t 1)⟩,⟨some 4, none, .mv (.v (.str []))⟩,⟨some 5, none, .mv (.v (.bool false))⟩]
theorem tr47_0 : TR Tryd.f47 17 0 = some a47_0 := by kernel_rfl
def a47_1 : List AO := [⟨some 7, none, .mv (.t 0)⟩,⟨some 8, none, .load (some 4) (.t 3)⟩,⟨some 9, none, .call 48 [(.t 7), (.t 8)]⟩,⟨some 6, none, .mv (.t 9)⟩]
theorem tr47_1 : TR Tryd.f47 17 1 = some a47_1 := by kernel_rfl
def a47_2 : List AO := [⟨some 10, none, .mv (.t 6)⟩,⟨some 11, none, .binp false .eql (.t 10) (.v .nilp)⟩]
theorem tr47_2 : TR Tryd.f47 17 2 = some a47_2 := by kernel_rfl
def a47_3 : List AO := [⟨some 4, none, .mv (.v (.str []))⟩,⟨some 5, none, .mv (.v (.bool false))⟩]
theorem tr47_3 : TR Tryd.f47 17 3 = some a47_3 := by kernel_rfl
def a47_4 : List AO := [⟨some 12, none, .mv (.t 6)⟩,⟨some 13, none, .nchk (.t 12)⟩,⟨some 14, none, .fld 0 (.t 13)⟩,⟨some 15, none, .fld 0 (.t 14)⟩,⟨some 16, none, .load none (.t 15)⟩,⟨some 4, none, .mv (.t 16)⟩,⟨some 5, none, .mv (.v (.bool true))⟩]
theorem tr47_4 : TR Tryd.f47 17 4 = some a47_4 := by kernel_rfl
noncomputable def c48 : Code := .seq (.region 0 (ro Tryd.f48 0) false) (.seq (.seq (.region 1 (ro Tryd.f48 1) false) (.cond (.tmp 7) (.seq (.region 2 (ro Tryd.f48 2) false) (.ret)) (.skip))) (.seq (.region 3 (ro Tryd.f48 3) true) (.ret)))
theorem body48 : Tryd.f48.body = some c48 := by kernel_rfl
theorem res48 : Tryd.f48.results.toList.mapM (trR Tryd.prog) = some [.t 4] := by kernel_rfl
theorem nt48 : Tryd.f48.ntmps = 14 := by kernel_rfl
theorem nm48 : (Tryd.f48.name == "runtime.NumGoroutine") = false := by kernel_rfl
def a48_0 : List AO := [⟨some 3, none, .box 38 (.t 1)⟩,⟨some 4, none, .mv (.v .nilp)⟩]
theorem tr48_0 : TR Tryd.f48 14 0 = some a48_0 := by kernel_rfl
def a48_1 : List AO := [⟨some 5, none, .mv (.t 0)⟩,⟨some 6, none, .call 20 [(.t 5)]⟩,⟨some 7, none, .un .not (.t 6)⟩]
theorem tr48_1 : TR Tryd.f48 14 1 = some a48_1 := by kernel_rfl
def a48_3 : List AO := [⟨some 8, none, .mv (.t 0)⟩,⟨some 9, none, .nchk (.t 8)⟩,⟨some 10, none, .fld 1 (.t 9)⟩,⟨some 11, none, .load none (.t 10)⟩,⟨some 12, none, .load (some 4) (.t 3)⟩,⟨some 13, none, .look 3 false .nilp (.t 11) (.t 12)⟩,⟨some 4, none, .mv (.t 13)⟩]
theorem tr48_3 : TR Tryd.f48 14 3 = some a48_3 := by kernel_rfl
def d48_3 : List (List Nat) := [[], [0], [0, 1], [0, 1, 2], [], [0, 1, 2, 3, 4], [0, 1, 2, 3, 4, 5]]
theorem ok48_3 : okReg (ro Tryd.f48 3) a48_3 d48_3 = true := by kernel_rfl
noncomputable def c49 : Code := .seq (.region 0 (ro Tryd.f49 0) false) (.seq (.seq (.region 1 (ro Tryd.f49 1) false) (.cond (.tmp 4) (.seq (.region 2 (ro Tryd.f49 2) false) (.ret)) (.skip))) (.seq (.region 3 (ro Tryd.f49 3) true) (.ret)))
theorem body49 : Tryd.f49.body = some c49 := by kernel_rfl
theorem res49 : Tryd.f49.results.toList.mapM (trR Tryd.prog) = some [.t 2] := by kernel_rfl
theorem nt49 : Tryd.f49.ntmps = 19 := by kernel_rfl
theorem nm49 : (Tryd.f49.name == "runtime.NumGoroutine") = false := by kernel_rfl
def a49_0 : List AO := [⟨some 2, none, .mv (.v (.str []))⟩]
theorem tr49_0 : TR Tryd.f49 19 0 = some a49_0 := by kernel_rfl
def a49_1 : List AO := [⟨some 3, none, .mv (.t 0)⟩,⟨some 4, none, .bin .lss (.t 3) (.v (.int .u64 10))⟩]
theorem tr49_1 : TR Tryd.f49 19 1 = some a49_1 := by kernel_rfl
def a49_2 : List AO := [⟨some 5, none, .mv (.t 0)⟩,⟨some 6, none, .mv (.t 0)⟩,⟨some 7, none, .bin .add (.t 6) (.v (.int .u64 1))⟩,⟨some 8, none, .ssub (some (.t 5)) (some (.t 7)) (.v (.str [48, 49, 50, 51, 52, 53, 54, 55, 56, 57]))⟩,⟨some 2, none, .mv (.t 8)⟩]
theorem tr49_2 : TR Tryd.f49 19 2 = some a49_2 := by kernel_rfl
def a49_3 : List AO := [⟨some 9, none, .mv (.t 0)⟩,⟨some 10, none, .bin .quo (.t 9) (.v (.int .u64 10))⟩,⟨some 11, none, .call 49 [(.t 10)]⟩,⟨some 12, none, .mv (.t 0)⟩,⟨some 13, none, .bin .rem (.t 12) (.v (.int .u64 10))⟩,⟨some 14, none, .mv (.t 0)⟩,⟨some 15, none, .bin .rem (.t 14) (.v (.int .u64 10))⟩,⟨some 16, none, .bin .add (.t 15) (.v (.int .u64 1))⟩,⟨some 17, none, .ssub (some (.t 13)) (some (.t 16)) (.v (.str [48, 49, 50, 51, 52, 53, 54, 55, 56, 57]))⟩,⟨some 18, none, .bin .add (.t 11) (.t 17)⟩,⟨some 2, none, .mv (.t 18)⟩]
theorem tr49_3 : TR Tryd.f49 19 3 = some a49_3 := by kernel_rfl
def d49_3 : List (List Nat) := [[], [0], [0, 1], [], [3], [], [5], [5, 6], [3, 4, 5, 6, 7], [0, 1, 2, 3, 4, 5, 6, 7, 8], [0, 1, 2, 3, 4, 5, 6, 7, 8, 9]]
theorem ok49_3 : okReg (ro Tryd.f49 3) a49_3 d49_3 = true := by kernel_rfl
noncomputable def c50 : Code := .seq (.region 0 (ro Tryd.f50 0) false) (.seq (.region 1 (ro Tryd.f50 1) false) (.ret))
theorem body50 : Tryd.f50.body = some c50 := by kernel_rfl
theorem res50 : Tryd.f50.results.toList.mapM (trR Tryd.prog) = some [.t 2] := by kernel_rfl
theorem nt50 : Tryd.f50.ntmps = 5 := by kernel_rfl
theorem nm50 : (Tryd.f50.name == "runtime.NumGoroutine") = false := by kernel_rfl
def a50_0 : List AO := [⟨some 2, none, .mv (.v (.bool false))⟩]
theorem tr50_0 : TR Tryd.f50 5 0 = some a50_0 := by kernel_rfl
def a50_1 : List AO := [⟨some 3, none, .mv (.t 0)⟩,⟨some 4, none, .call 67 [(.t 3), (.v (.int .i64 1))]⟩,⟨some 2, none, .mv (.t 4)⟩]
theorem tr50_1 : TR Tryd.f50 5 1 = some a50_1 := by kernel_rfl
noncomputable def c51 : Code := .seq (.region 0 (ro Tryd.f51 0) false) (.seq (.seq (.region 1 (ro Tryd.f51 1) false) (.block 0 (.loop (.seq (.seq (.region 2 (ro Tryd.f51 2) false) (.cond (.tmp 11) (.skip) (.exit 0))) (.seq (.block 1 (.seq (.region 4 (ro Tryd.f51 4) false) (.block 2 (.loop (.seq (.seq (.region 5 (ro Tryd.f51 5) false) (.cond (.tmp 22) (.skip) (.exit 2))) (.seq (.block 3 (.seq (.seq (.region 7 (ro Tryd.f51 7) false) (.cond (.tmp 32) (.seq (.region 8 (ro Tryd.f51 8) false) (.ret)) (.skip))) (.seq (.region 9 (ro Tryd.f51 9) true) (.cond (.tmp 53) (.seq (.region 10 (ro Tryd.f51 10) false) (.ret)) (.skip))))) (.region 6 (ro Tryd.f51 6) false))))))) (.region 3 (ro Tryd.f51 3) false)))))) (.seq (.region 11 (ro Tryd.f51 11) false) (.ret)))
theorem body51 : Tryd.f51.body = some c51 := by kernel_rfl
theorem res51 : Tryd.f51.results.toList.mapM (trR Tryd.prog) = some [.t 6] := by kernel_rfl
theorem nt51 : Tryd.f51.ntmps = 54 := by kernel_rfl
theorem nm51 : (Tryd.f51.name == "runtime.NumGoroutine") = false := by kernel_rfl
def a51_0 : List AO := [⟨some 3, none, .box 48 (.t 0)⟩,⟨some 6, none, .mv (.v (.bool false))⟩]
theorem tr51_0 : TR Tryd.f51 54 0 = some a51_0 := by kernel_rfl
def a51_1 : List AO := [⟨some 7, none, .mv (.v (.int .i64 0))⟩]
theorem tr51_1 : TR Tryd.f51 54 1 = some a51_1 := by kernel_rfl
def a51_2 : List AO := [⟨some 9, none, .mv (.t 7)⟩,⟨some 10, none, .mv (.t 1)⟩,⟨some 11, none, .bin .leq (.t 9) (.t 10)⟩]
theorem tr51_2 : TR Tryd.f51 54 2 = some a51_2 := by kernel_rfl
def a51_4 : List AO := [⟨some 8, none, .mv (.v (.int .i64 0))⟩]
theorem tr51_4 : TR Tryd.f51 54 4 = some a51_4 := by kernel_rfl
def a51_5 : List AO := [⟨some 14, none, .mv (.t 8)⟩,⟨some 15, none, .fld 1 (.t 3)⟩,⟨some 16, none, .load none (.t 15)⟩,⟨some 17, none, .mv (.t 7)⟩,⟨some 18, none, .idx 4 (.t 16) (.t 17)⟩,⟨some 19, none, .fld 3 (.t 18)⟩,⟨some 20, none, .load none (.t 19)⟩,⟨some 21, none, .len (.t 20)⟩,⟨some 22, none, .bin .lss (.t 14) (.t 21)⟩]
theorem tr51_5 : TR Tryd.f51 54 5 = some a51_5 := by kernel_rfl
def a51_7 : List AO := [⟨some 25, none, .mv (.t 7)⟩,⟨some 26, none, .mv (.t 1)⟩,⟨some 27, none, .bin .eql (.t 25) (.t 26)⟩,⟨some 28, none, .mv (.t 27)⟩,⟨(some 29), some (28, true), .mv (.t 8)⟩,⟨(some 30), some (28, true), .mv (.t 2)⟩,⟨(some 31), some (28, true), .bin .eql (.t 29) (.t 30)⟩,⟨some 32, none, .pick (.t 28) (.t 31) (.v (.bool false))⟩]
theorem tr51_7 : TR Tryd.f51 54 7 = some a51_7 := by kernel_rfl
def a51_8 : List AO := [⟨some 6, none, .mv (.v (.bool false))⟩]
theorem tr51_8 : TR Tryd.f51 54 8 = some a51_8 := by kernel_rfl
def a51_9 : List AO := [⟨some 33, none, .fld 1 (.t 3)⟩,⟨some 34, none, .load none (.t 33)⟩,⟨some 35, none, .mv (.t 7)⟩,⟨some 36, none, .idx 4 (.t 34) (.t 35)⟩,⟨some 37, none, .fld 3 (.t 36)⟩,⟨some 38, none, .load none (.t 37)⟩,⟨some 39, none, .mv (.t 8)⟩,⟨some 40, none, .idx 2 (.t 38) (.t 39)⟩,⟨some 41, none, .fld 0 (.t 40)⟩,⟨some 42, none, .load none (.t 41)⟩,⟨some 43, none, .fld 1 (.t 3)⟩,⟨some 44, none, .load none (.t 43)⟩,⟨some 45, none, .mv (.t 1)⟩,⟨some 46, none, .idx 4 (.t 44) (.t 45)⟩,⟨some 47, none, .fld 3 (.t 46)⟩,⟨some 48, none, .load none (.t 47)⟩,⟨some 49, none, .mv (.t 2)⟩,⟨some 50, none, .idx 2 (.t 48) (.t 49)⟩,⟨some 51, none, .fld 0 (.t 50)⟩,⟨some 52, none, .load none (.t 51)⟩,⟨some 53, none, .bin .eql (.t 42) (.t 52)⟩]
theorem tr51_9 : TR Tryd.f51 54 9 = some a51_9 := by kernel_rfl
def d51_9 : List (List Nat) := [[], [0], [], [0, 1, 2], [0, 1, 2, 3], [0, 1, 2, 3, 4], [], [0, 1, 2, 3, 4, 5, 6], [0, 1, 2, 3, 4, 5, 6, 7], [0, 1, 2, 3, 4, 5, 6, 7, 8], [], [10], [], [10, 11, 12], [10, 11, 12, 13], [10, 11, 12, 13, 14], [], [10, 11, 12, 13, 14, 15, 16], [10, 11, 12, 13, 14, 15, 16, 17], [10, 11, 12, 13, 14, 15, 16, 17, 18], [0, 1, 2, 3, 4, 5, 6, 7, 8, 9, 10, 11, 12, 13, 14, 15, 16, 17, 18, 19]]
theorem ok51_9 : okReg (ro Tryd.f51 9) a51_9 d51_9 = true := by kernel_rfl
def a51_10 : List AO := [⟨some 6, none, .mv (.v (.bool true))⟩]
theorem tr51_10 : TR Tryd.f51 54 10 = some a51_10 := by kernel_rfl
def a51_6 : List AO := [⟨some 23, none, .mv (.t 8)⟩,⟨some 24, none, .bin .add (.t 23) (.v (.int .i64 1))⟩,⟨some 8, none, .mv (.t 24)⟩]
theorem tr51_6 : TR Tryd.f51 54 6 = some a51_6 := by kernel_rfl
def a51_3 : List AO := [⟨some 12, none, .mv (.t 7)⟩,⟨some 13, none, .bin .add (.t 12) (.v (.int .i64 1))⟩,⟨some 7, none, .mv (.t 13)⟩]
theorem tr51_3 : TR Tryd.f51 54 3 = some a51_3 := by kernel_rfl
noncomputable def c52 : Code := .seq (.region 0 (ro Tryd.f52 0) false) (.seq (.region 1 (ro Tryd.f52 1) false) (.ret))
theorem body52 : Tryd.f52.body = some c52 := by kernel_rfl
theorem res52 : Tryd.f52.results.toList.mapM (trR Tryd.prog) = some [.t 2] := by kernel_rfl
theorem nt52 : Tryd.f52.ntmps = 8 := by kernel_rfl
theorem nm52 : (Tryd.f52.name == "runtime.NumGoroutine") = false := by kernel_rfl
def a52_0 : List AO := [⟨some 1, none, .box 89 (.t 0)⟩,⟨some 2, none, .mv (.v (.int .i64 0))⟩]
theorem tr52_0 : TR Tryd.f52 8 0 = some a52_0 := by kernel_rfl
def a52_1 : List AO := [⟨some 3, none, .fld 1 (.t 1)⟩,⟨some 4, none, .load none (.t 3)⟩,⟨some 5, none, .fld 2 (.t 1)⟩,⟨some 6, none, .load none (.t 5)⟩,⟨some 7, none, .bin .add (.t 4) (.t 6)⟩,⟨some 2, none, .mv (.t 7)⟩]
theorem tr52_1 : TR Tryd.f52 8 1 = some a52_1 := by kernel_rfl
noncomputable def c53 : Code := .seq (.region 0 (ro Tryd.f53 0) false) (.seq (.region 1 (ro Tryd.f53 1) false) (.seq (.region 2 (ro Tryd.f53 2) false) (.ret)))
theorem body53 : Tryd.f53.body = some c53 := by kernel_rfl
theorem res53 : Tryd.f53.results.toList.mapM (trR Tryd.prog) = some [.t 2] := by kernel_rfl
theorem nt53 : Tryd.f53.ntmps = 12 := by kernel_rfl
theorem nm53 : (Tryd.f53.name == "runtime.NumGoroutine") = false := by kernel_rfl
def a53_0 : List AO := [⟨some 2, none, .mv (.v (.int .i64 0))⟩]
theorem tr53_0 : TR Tryd.f53 12 0 = some a53_0 := by kernel_rfl
def a53_1 : List AO := [⟨some 4, none, .mv (.t 0)⟩,⟨some 5, none, .bin .sub (.t 4) (.v (.int .i64 2000))⟩,⟨some 3, none, .mv (.t 5)⟩]
theorem tr53_1 : TR Tryd.f53 12 1 = some a53_1 := by kernel_rfl
def a53_2 : List AO := [⟨some 6, none, .mv (.t 3)⟩,⟨some 7, none, .bin .mul (.v (.int .i64 365)) (.t 6)⟩,⟨some 8, none, .mv (.t 3)⟩,⟨some 9, none, .bin .add (.t 8) (.v (.int .i64 3))⟩,⟨some 10, none, .bin .quo (.t 9) (.v (.int .i64 4))⟩,⟨some 11, none, .bin .add (.t 7) (.t 10)⟩,⟨some 2, none, .mv (.t 11)⟩]
theorem tr53_2 : TR Tryd.f53 12 2 = some a53_2 := by kernel_rfl
noncomputable def c54 : Code := .seq (.region 0 (ro Tryd.f54 0) false) (.seq (.seq (.region 1 (ro Tryd.f54 1) false) (.cond (.tmp 11) (.seq (.region 2 (ro Tryd.f54 2) false) (.ret)) (.skip))) (.seq (.region 3 (ro Tryd.f54 3) false) (.ret)))
theorem body54 : Tryd.f54.body = some c54 := by kernel_rfl
theorem nm54 : (Tryd.f54.name == "runtime.NumGoroutine") = false := by kernel_rfl
noncomputable def c59 : Code := .seq (.region 0 (ro Tryd.f59 0) false) (.seq (.seq (.region 1 (ro Tryd.f59 1) false) (.block 0 (.loop (.seq (.region 2 (ro Tryd.f59 2) false) (.seq (.cond (.tmp 9) (.skip) (.exit 0)) (.seq (.block 1 (.seq (.region 3 (ro Tryd.f59 3) false) (.seq (.region 4 (ro Tryd.f59 4) false) (.cond (.tmp 16) (.seq (.region 5 (ro Tryd.f59 5) false) (.ret)) (.skip))))) (.region 6 (ro Tryd.f59 6) false))))))) (.seq (.region 7 (ro Tryd.f59 7) false) (.ret)))
theorem body59 : Tryd.f59.body = some c59 := by kernel_rfl
theorem res59 : Tryd.f59.results.toList.mapM (trR Tryd.prog) = some [.t 4] := by kernel_rfl
theorem nt59 : Tryd.f59.ntmps = 18 := by kernel_rfl
theorem nm59 : (Tryd.f59.name == "runtime.NumGoroutine") = false := by kernel_rfl
def a59_0 : List AO := [⟨some 4, none, .mv (.v (.bool false))⟩]
theorem tr59_0 : TR Tryd.f59 18 0 = some a59_0 := by kernel_rfl
def a59_1 : List AO := [⟨some 6, none, .mv (.t 0)⟩,⟨some 7, none, .slen (.t 6)⟩,⟨some 8, none, .mv (.v (.int .i64 0))⟩]
theorem tr59_1 : TR Tryd.f59 18 1 = some a59_1 := by kernel_rfl
def a59_2 : List AO := [⟨some 9, none, .bin .lss (.t 8) (.t 7)⟩]
theorem tr59_2 : TR Tryd.f59 18 2 = some a59_2 := by kernel_rfl
def a59_3 : List AO := [⟨some 10, none, .mv (.t 8)⟩,⟨some 5, none, .mv (.t 10)⟩]
theorem tr59_3 : TR Tryd.f59 18 3 = some a59_3 := by kernel_rfl
def a59_4 : List AO := [⟨some 11, none, .mv (.t 1)⟩,⟨some 12, none, .mv (.t 0)⟩,⟨some 13, none, .mv (.t 5)⟩,⟨some 14, none, .sidx (.t 12) (.t 13)⟩,⟨some 15, none, .callv (.t 11) [(.t 14)]⟩,⟨some 16, none, .un .not (.t 15)⟩]
theorem tr59_4 : TR Tryd.f59 18 4 = some a59_4 := by kernel_rfl
def a59_5 : List AO := [⟨some 4, none, .mv (.v (.bool false))⟩]
theorem tr59_5 : TR Tryd.f59 18 5 = some a59_5 := by kernel_rfl
def a59_6 : List AO := [⟨some 17, none, .bin .add (.t 8) (.v (.int .i64 1))⟩,⟨some 8, none, .mv (.t 17)⟩]
theorem tr59_6 : TR Tryd.f59 18 6 = some a59_6 := by kernel_rfl
def a59_7 : List AO := [⟨some 4, none, .mv (.v (.bool true))⟩]
theorem tr59_7 : TR Tryd.f59 18 7 = some a59_7 := by kernel_rfl
noncomputable def c60 : Code := .seq (.region 0 (ro Tryd.f60 0) false) (.seq (.region 1 (ro Tryd.f60 1) false) (.ret))
theorem body60 : Tryd.f60.body = some c60 := by kernel_rfl
theorem res60 : Tryd.f60.results.toList.mapM (trR Tryd.prog) = some [.t 2] := by kernel_rfl
theorem nt60 : Tryd.f60.ntmps = 9 := by kernel_rfl
theorem nm60 : (Tryd.f60.name == "runtime.NumGoroutine") = false := by kernel_rfl
def a60_0 : List AO := [⟨some 2, none, .mv (.v (.bool false))⟩]
theorem tr60_0 : TR Tryd.f60 9 0 = some a60_0 := by kernel_rfl
def a60_1 : List AO := [⟨some 3, none, .mv (.t 0)⟩,⟨some 4, none, .call 61 [(.t 3)]⟩,⟨some 5, none, .mv (.t 4)⟩,⟨(some 6), some (5, false), .mv (.t 0)⟩,⟨(some 7), some (5, false), .call 62 [(.t 6)]⟩,⟨some 8, none, .pick (.t 5) (.v (.bool true)) (.t 7)⟩,⟨some 2, none, .mv (.t 8)⟩]
theorem tr60_1 : TR Tryd.f60 9 1 = some a60_1 := by kernel_rfl
noncomputable def c61 : Code := .seq (.region 0 (ro Tryd.f61 0) false) (.seq (.region 1 (ro Tryd.f61 1) false) (.ret))
theorem body61 : Tryd.f61.body = some c61 := by kernel_rfl
theorem res61 : Tryd.f61.results.toList.mapM (trR Tryd.prog) = some [.t 2] := by kernel_rfl
theorem nt61 : Tryd.f61.ntmps = 9 := by kernel_rfl
theorem nm61 : (Tryd.f61.name == "runtime.NumGoroutine") = false := by kernel_rfl
def a61_0 : List AO := [⟨some 2, none, .mv (.v (.bool false))⟩]
theorem tr61_0 : TR Tryd.f61 9 0 = some a61_0 := by kernel_rfl
def a61_1 : List AO := [⟨some 3, none, .mv (.t 0)⟩,⟨some 4, none, .bin .geq (.t 3) (.v (.int .u8 65))⟩,⟨some 5, none, .mv (.t 4)⟩,⟨(some 6), some (5, true), .mv (.t 0)⟩,⟨(some 7), some (5, true), .bin .leq (.t 6) (.v (.int .u8 90))⟩,⟨some 8, none, .pick (.t 5) (.t 7) (.v (.bool false))⟩,⟨some 2, none, .mv (.t 8)⟩]
theorem tr61_1 : TR Tryd.f61 9 1 = some a61_1 := by kernel_rfl
noncomputable def c62 : Code := .seq (.region 0 (ro Tryd.f62 0) false) (.seq (.region 1 (ro Tryd.f62 1) false) (.ret))
theorem body62 : Tryd.f62.body = some c62 := by kernel_rfl
theorem res62 : Tryd.f62.results.toList.mapM (trR Tryd.prog) = some [.t 2] := by kernel_rfl
theorem nt62 : Tryd.f62.ntmps = 9 := by kernel_rfl
theorem nm62 : (Tryd.f62.name == "runtime.NumGoroutine") = false := by kernel_rfl
def a62_0 : List AO := [⟨some 2, none, .mv (.v (.bool false))⟩]
theorem tr62_0 : TR Tryd.f62 9 0 = some a62_0 := by kernel_rfl
def a62_1 : List AO := [⟨some 3, none, .mv (.t 0)⟩,⟨some 4, none, .bin .geq (.t 3) (.v (.int .u8 48))⟩,⟨some 5, none, .mv (.t 4)⟩,⟨(some 6), some (5, true), .mv (.t 0)⟩,⟨(some 7), some (5, true), .bin .leq (.t 6) (.v (.int .u8 57))⟩,⟨some 8, none, .pick (.t 5) (.t 7) (.v (.bool false))⟩,⟨some 2, none, .mv (.t 8)⟩]
theorem tr62_1 : TR Tryd.f62 9 1 = some a62_1 := by kernel_rfl
noncomputable def c63 : Code := .seq (.region 0 (ro Tryd.f63 0) false) (.seq (.region 1 (ro Tryd.f63 1) false) (.ret))
theorem body63 : Tryd.f63.body = some c63 := by kernel_rfl
theorem res63 : Tryd.f63.results.toList.mapM (trR Tryd.prog) = some [.t 2] := by kernel_rfl
theorem nt63 : Tryd.f63.ntmps = 11 := by kernel_rfl
theorem nm63 : (Tryd.f63.name == "runtime.NumGoroutine") = false := by kernel_rfl
def a63_0 : List AO := [⟨some 2, none, .mv (.v (.bool false))⟩]
theorem tr63_0 : TR Tryd.f63 11 0 = some a63_0 := by kernel_rfl
def a63_1 : List AO := [⟨some 3, none, .mv (.t 0)⟩,⟨some 4, none, .slen (.t 3)⟩,⟨some 5, none, .bin .eql (.t 4) (.v (.int .i64 1))⟩,⟨some 6, none, .mv (.t 5)⟩,⟨(some 7), some (6, true), .mv (.t 0)⟩,⟨(some 8), some (6, true), .sidx (.t 7) (.v (.int .i64 0))⟩,⟨(some 9), some (6, true), .call 61 [(.t 8)]⟩,⟨some 10, none, .pick (.t 6) (.t 9) (.v (.bool false))⟩,⟨some 2, none, .mv (.t 10)⟩]
theorem tr63_1 : TR Tryd.f63 11 1 = some a63_1 := by kernel_rfl
noncomputable def c64 : Code := .seq (.region 0 (ro Tryd.f64 0) false) (.seq (.region 1 (ro Tryd.f64 1) false) (.ret))
theorem body64 : Tryd.f64.body = some c64 := by kernel_rfl
theorem res64 : Tryd.f64.results.toList.mapM (trR Tryd.prog) = some [.t 2] := by kernel_rfl
theorem nt64 : Tryd.f64.ntmps = 8 := by kernel_rfl
theorem nm64 : (Tryd.f64.name == "runtime.NumGoroutine") = false := by kernel_rfl
def a64_0 : List AO := [⟨some 1, none, .box 89 (.t 0)⟩,⟨some 2, none, .mv (.v (.int .i64 0))⟩]
theorem tr64_0 : TR Tryd.f64 8 0 = some a64_0 := by kernel_rfl
def a64_1 : List AO := [⟨some 3, none, .fld 1 (.t 1)⟩,⟨some 4, none, .load none (.t 3)⟩,⟨some 5, none, .fld 2 (.t 1)⟩,⟨some 6, none, .load none (.t 5)⟩,⟨some 7, none, .bin .add (.t 4) (.t 6)⟩,⟨some 2, none, .mv (.t 7)⟩]
theorem tr64_1 : TR Tryd.f64 8 1 = some a64_1 := by kernel_rfl
noncomputable def c65 : Code := .seq (.region 0 (ro Tryd.f65 0) false) (.seq (.seq (.region 1 (ro Tryd.f65 1) false) (.cond (.tmp 10) (.seq (.region 2 (ro Tryd.f65 2) false) (.ret)) (.skip))) (.seq (.region 3 (ro Tryd.f65 3) false) (.ret)))
theorem body65 : Tryd.f65.body = some c65 := by kernel_rfl
theorem res65 : Tryd.f65.results.toList.mapM (trR Tryd.prog) = some [.t 4] := by kernel_rfl
theorem nt65 : Tryd.f65.ntmps = 14 := by kernel_rfl
theorem nm65 : (Tryd.f65.name == "runtime.NumGoroutine") = false := by kernel_rfl
def a65_0 : List AO := [⟨some 2, none, .box 89 (.t 0)⟩,⟨some 4, none, .mv (.v (.bool false))⟩]
theorem tr65_0 : TR Tryd.f65 14 0 = some a65_0 := by kernel_rfl
def a65_1 : List AO := [⟨some 5, none, .mv (.t 1)⟩,⟨some 6, none, .len (.t 5)⟩,⟨some 7, none, .fld 3 (.t 2)⟩,⟨some 8, none, .load none (.t 7)⟩,⟨some 9, none, .len (.t 8)⟩,⟨some 10, none, .bin .neq (.t 6) (.t 9)⟩]
theorem tr65_1 : TR Tryd.f65 14 1 = some a65_1 := by kernel_rfl
def a65_2 : List AO := [⟨some 4, none, .mv (.v (.bool false))⟩]
theorem tr65_2 : TR Tryd.f65 14 2 = some a65_2 := by kernel_rfl
def a65_3 : List AO := [⟨some 11, none, .mv (.t 1)⟩,⟨some 12, none, .call 70 [(.t 11), (.v (.fn 71 []))]⟩,⟨some 13, none, .un .not (.t 12)⟩,⟨some 4, none, .mv (.t 13)⟩]
theorem tr65_3 : TR Tryd.f65 14 3 = some a65_3 := by kernel_rfl
noncomputable def c66 : Code := .seq (.region 0 (ro Tryd.f66 0) false) (.seq (.region 1 (ro Tryd.f66 1) false) (.seq (.region 2 (ro Tryd.f66 2) false) (.seq (.seq (.region 3 (ro Tryd.f66 3) false) (.block 0 (.loop (.seq (.seq (.region 4 (ro Tryd.f66 4) false) (.cond (.tmp 15) (.skip) (.exit 0))) (.seq (.block 1 (.seq (.region 6 (ro Tryd.f66 6) false) (.region 7 (ro Tryd.f66 7) false))) (.region 5 (ro Tryd.f66 5) false)))))) (.seq (.region 8 (ro Tryd.f66 8) false) (.ret)))))
theorem body66 : Tryd.f66.body = some c66 := by kernel_rfl
theorem res66 : Tryd.f66.results.toList.mapM (trR Tryd.prog) = some [.t 4] := by kernel_rfl
theorem nt66 : Tryd.f66.ntmps = 32 := by kernel_rfl
theorem nm66 : (Tryd.f66.name == "runtime.NumGoroutine") = false := by kernel_rfl
def a66_0 : List AO := [⟨some 2, none, .box 89 (.t 0)⟩,⟨some 4, none, .mv (.v .nils)⟩]
theorem tr66_0 : TR Tryd.f66 32 0 = some a66_0 := by kernel_rfl
def a66_1 : List AO := [⟨some 8, none, .load (some 4) (.t 2)⟩,⟨some 9, none, .call 72 [(.t 8)]⟩,⟨some 10, none, .call 30 [(.t 9)]⟩,⟨some 5, none, .mv (.t 10)⟩]
theorem tr66_1 : TR Tryd.f66 32 1 = some a66_1 := by kernel_rfl
def a66_2 : List AO := [⟨some 6, none, .mv (.v (.int .i64 0))⟩]
theorem tr66_2 : TR Tryd.f66 32 2 = some a66_2 := by kernel_rfl
def a66_3 : List AO := [⟨some 11, none, .mv (.t 5)⟩,⟨some 12, none, .len (.t 11)⟩,⟨some 13, none, .bin .sub (.t 12) (.v (.int .i64 1))⟩,⟨some 7, none, .mv (.t 13)⟩]
theorem tr66_3 : TR Tryd.f66 32 3 = some a66_3 := by kernel_rfl
def a66_4 : List AO := [⟨some 14, none, .mv (.t 7)⟩,⟨some 15, none, .bin .geq (.t 14) (.v (.int .i64 0))⟩]
theorem tr66_4 : TR Tryd.f66 32 4 = some a66_4 := by kernel_rfl
def a66_6 : List AO := [⟨some 18, none, .mv (.t 6)⟩,⟨some 19, none, .mv (.t 1)⟩,⟨some 20, none, .mv (.t 7)⟩,⟨some 21, none, .idx 1 (.t 19) (.t 20)⟩,⟨some 22, none, .load none (.t 21)⟩,⟨some 23, none, .bin .add (.t 18) (.t 22)⟩,⟨some 6, none, .mv (.t 23)⟩]
theorem tr66_6 : TR Tryd.f66 32 6 = some a66_6 := by kernel_rfl
def a66_7 : List AO := [⟨some 24, none, .mv (.t 5)⟩,⟨some 25, none, .mv (.t 7)⟩,⟨some 26, none, .idx 1 (.t 24) (.t 25)⟩,⟨some 27, none, .load none (.t 26)⟩,⟨some 28, none, .mv (.t 6)⟩,⟨some 29, none, .bin .sub (.t 27) (.t 28)⟩,⟨some 30, none, .idx 1 (.t 24) (.t 25)⟩,⟨none, none, .store 1 (.t 30) (.t 29)⟩]
theorem tr66_7 : TR Tryd.f66 32 7 = some a66_7 := by kernel_rfl
def a66_5 : List AO := [⟨some 16, none, .mv (.t 7)⟩,⟨some 17, none, .bin .sub (.t 16) (.v (.int .i64 1))⟩,⟨some 7, none, .mv (.t 17)⟩]
theorem tr66_5 : TR Tryd.f66 32 5 = some a66_5 := by kernel_rfl
def a66_8 : List AO := [⟨some 31, none, .mv (.t 5)⟩,⟨some 4, none, .mv (.t 31)⟩]
theorem tr66_8 : TR Tryd.f66 32 8 = some a66_8 := by kernel_rfl
noncomputable def c67 : Code := .seq (.region 0 (ro Tryd.f67 0) false) (.seq (.seq (.region 1 (ro Tryd.f67 1) false) (.block 0 (.loop (.seq (.seq (.region 2 (ro Tryd.f67 2) false) (.cond (.tmp 9) (.skip) (.exit 0))) (.seq (.block 1 (.seq (.region 4 (ro Tryd.f67 4) false) (.cond (.tmp 16) (.seq (.region 5 (ro Tryd.f67 5) false) (.ret)) (.skip)))) (.region 3 (ro Tryd.f67 3) false)))))) (.seq (.region 6 (ro Tryd.f67 6) false) (.ret)))
theorem body67 : Tryd.f67.body = some c67 := by kernel_rfl
theorem res67 : Tryd.f67.results.toList.mapM (trR Tryd.prog) = some [.t 4] := by kernel_rfl
theorem nt67 : Tryd.f67.ntmps = 21 := by kernel_rfl
theorem nm67 : (Tryd.f67.name == "runtime.NumGoroutine") = false := by kernel_rfl
def a67_0 : List AO := [⟨some 4, none, .mv (.v (.bool false))⟩]
theorem tr67_0 : TR Tryd.f67 21 0 = some a67_0 := by kernel_rfl
def a67_1 : List AO := [⟨some 5, none, .mv (.v (.int .i64 0))⟩]
theorem tr67_1 : TR Tryd.f67 21 1 = some a67_1 := by kernel_rfl
def a67_2 : List AO := [⟨some 6, none, .mv (.t 5)⟩,⟨some 7, none, .mv (.t 0)⟩,⟨some 8, none, .slen (.t 7)⟩,⟨some 9, none, .bin .lss (.t 6) (.t 8)⟩]
theorem tr67_2 : TR Tryd.f67 21 2 = some a67_2 := by kernel_rfl
def a67_4 : List AO := [⟨some 12, none, .mv (.t 0)⟩,⟨some 13, none, .mv (.t 5)⟩,⟨some 14, none, .sidx (.t 12) (.t 13)⟩,⟨some 15, none, .call 32 [(.t 14)]⟩,⟨some 16, none, .un .not (.t 15)⟩]
theorem tr67_4 : TR Tryd.f67 21 4 = some a67_4 := by kernel_rfl
def a67_5 : List AO := [⟨some 4, none, .mv (.v (.bool false))⟩]
theorem tr67_5 : TR Tryd.f67 21 5 = some a67_5 := by kernel_rfl
def a67_3 : List AO := [⟨some 10, none, .mv (.t 5)⟩,⟨some 11, none, .bin .add (.t 10) (.v (.int .i64 1))⟩,⟨some 5, none, .mv (.t 11)⟩]
theorem tr67_3 : TR Tryd.f67 21 3 = some a67_3 := by kernel_rfl
def a67_6 : List AO := [⟨some 17, none, .mv (.t 0)⟩,⟨some 18, none, .slen (.t 17)⟩,⟨some 19, none, .mv (.t 1)⟩,⟨some 20, none, .bin .eql (.t 18) (.t 19)⟩,⟨some 4, none, .mv (.t 20)⟩]
theorem tr67_6 : TR Tryd.f67 21 6 = some a67_6 := by kernel_rfl
noncomputable def c70 : Code := .seq (.region 0 (ro Tryd.f70 0) false) (.seq (.region 1 (ro Tryd.f70 1) false) (.ret))
theorem body70 : Tryd.f70.body = some c70 := by kernel_rfl
theorem res70 : Tryd.f70.results.toList.mapM (trR Tryd.prog) = some [.t 4] := by kernel_rfl
theorem nt70 : Tryd.f70.ntmps = 9 := by kernel_rfl
theorem nm70 : (Tryd.f70.name == "runtime.NumGoroutine") = false := by kernel_rfl
def a70_0 : List AO := [⟨some 4, none, .mv (.v (.bool false))⟩]
theorem tr70_0 : TR Tryd.f70 9 0 = some a70_0 := by kernel_rfl
def a70_1 : List AO := [⟨some 5, none, .mv (.t 0)⟩,⟨some 6, none, .mv (.t 1)⟩,⟨some 7, none, .call 74 [(.t 5), (.t 6)]⟩,⟨some 8, none, .bin .geq (.t 7) (.v (.int .i64 0))⟩,⟨some 4, none, .mv (.t 8)⟩]
theorem tr70_1 : TR Tryd.f70 9 1 = some a70_1 := by kernel_rfl
noncomputable def c71 : Code := .seq (.region 0 (ro Tryd.f71 0) false) (.seq (.region 1 (ro Tryd.f71 1) false) (.ret))
theorem body71 : Tryd.f71.body = some c71 := by kernel_rfl
theorem res71 : Tryd.f71.results.toList.mapM (trR Tryd.prog) = some [.t 2] := by kernel_rfl
theorem nt71 : Tryd.f71.ntmps = 9 := by kernel_rfl
theorem nm71 : (Tryd.f71.name == "runtime.NumGoroutine") = false := by kernel_rfl
def a71_0 : List AO := [⟨some 2, none, .mv (.v (.bool false))⟩]
theorem tr71_0 : TR Tryd.f71 9 0 = some a71_0 := by kernel_rfl
def a71_1 : List AO := [⟨some 3, none, .mv (.t 0)⟩,⟨some 4, none, .bin .lss (.t 3) (.v (.int .i64 0))⟩,⟨some 5, none, .mv (.t 4)⟩,⟨(some 6), some (5, false), .mv (.t 0)⟩,⟨(some 7), some (5, false), .bin .gtr (.t 6) (.v (.int .i64 9999))⟩,⟨some 8, none, .pick (.t 5) (.v (.bool true)) (.t 7)⟩,⟨some 2, none, .mv (.t 8)⟩]
theorem tr71_1 : TR Tryd.f71 9 1 = some a71_1 := by kernel_rfl
noncomputable def c72 : Code := .seq (.region 0 (ro Tryd.f72 0) false) (.seq (.region 1 (ro Tryd.f72 1) false) (.seq (.seq (.region 2 (ro Tryd.f72 2) false) (.block 0 (.loop (.seq (.region 3 (ro Tryd.f72 3) false) (.seq (.cond (.tmp 12) (.skip) (.exit 0)) (.seq (.block 1 (.seq (.region 4 (ro Tryd.f72 4) false) (.seq (.region 5 (ro Tryd.f72 5) false) (.seq (.region 6 (ro Tryd.f72 6) false) (.cond (.tmp 20) (.region 7 (ro Tryd.f72 7) true) (.skip)))))) (.region 8 (ro Tryd.f72 8) false))))))) (.seq (.region 9 (ro Tryd.f72 9) false) (.ret))))
theorem body72 : Tryd.f72.body = some c72 := by kernel_rfl
theorem res72 : Tryd.f72.results.toList.mapM (trR Tryd.prog) = some [.t 2] := by kernel_rfl
theorem nt72 : Tryd.f72.ntmps = 36 := by kernel_rfl
theorem nm72 : (Tryd.f72.name == "runtime.NumGoroutine") = false := by kernel_rfl
def a72_0 : List AO := [⟨some 1, none, .box 89 (.t 0)⟩,⟨some 2, none, .mv (.v .nils)⟩]
theorem tr72_0 : TR Tryd.f72 36 0 = some a72_0 := by kernel_rfl
def a72_1 : List AO := [⟨some 5, none, .fld 3 (.t 1)⟩,⟨some 6, none, .load none (.t 5)⟩,⟨some 7, none, .len (.t 6)⟩,⟨some 8, none, .mks 3 1 8 [(.int .i64 0)] (.t 7) (.t 7)⟩,⟨some 3, none, .mv (.t 8)⟩]
theorem tr72_1 : TR Tryd.f72 36 1 = some a72_1 := by kernel_rfl
def a72_2 : List AO := [⟨some 9, none, .mv (.t 3)⟩,⟨some 10, none, .len (.t 9)⟩,⟨some 11, none, .mv (.v (.int .i64 0))⟩]
theorem tr72_2 : TR Tryd.f72 36 2 = some a72_2 := by kernel_rfl
def a72_3 : List AO := [⟨some 12, none, .bin .lss (.t 11) (.t 10)⟩]
theorem tr72_3 : TR Tryd.f72 36 3 = some a72_3 := by kernel_rfl
def a72_4 : List AO := [⟨some 13, none, .mv (.t 11)⟩,⟨some 4, none, .mv (.t 13)⟩]
theorem tr72_4 : TR Tryd.f72 36 4 = some a72_4 := by kernel_rfl
def a72_5 : List AO := [⟨some 14, none, .mv (.t 3)⟩,⟨some 15, none, .mv (.t 4)⟩,⟨some 16, none, .load (some 4) (.t 1)⟩,⟨some 17, none, .call 64 [(.t 16)]⟩,⟨some 18, none, .idx 1 (.t 14) (.t 15)⟩,⟨none, none, .store 1 (.t 18) (.t 17)⟩]
theorem tr72_5 : TR Tryd.f72 36 5 = some a72_5 := by kernel_rfl
def a72_6 : List AO := [⟨some 19, none, .mv (.t 4)⟩,⟨some 20, none, .bin .gtr (.t 19) (.v (.int .i64 0))⟩]
theorem tr72_6 : TR Tryd.f72 36 6 = some a72_6 := by kernel_rfl
def a72_7 : List AO := [⟨some 21, none, .mv (.t 3)⟩,⟨some 22, none, .mv (.t 4)⟩,⟨some 23, none, .idx 1 (.t 21) (.t 22)⟩,⟨some 24, none, .load none (.t 23)⟩,⟨some 25, none, .fld 3 (.t 1)⟩,⟨some 26, none, .load none (.t 25)⟩,⟨some 27, none, .mv (.t 4)⟩,⟨some 28, none, .bin .sub (.t 27) (.v (.int .i64 1))⟩,⟨some 29, none, .idx 2 (.t 26) (.t 28)⟩,⟨some 30, none, .fld 1 (.t 29)⟩,⟨some 31, none, .load none (.t 30)⟩,⟨some 32, none, .bin .sub (.t 24) (.t 31)⟩,⟨some 33, none, .idx 1 (.t 21) (.t 22)⟩,⟨none, none, .store 1 (.t 33) (.t 32)⟩]
theorem tr72_7 : TR Tryd.f72 36 7 = some a72_7 := by kernel_rfl
def d72_7 : List (List Nat) := [[], [], [0, 1], [0, 1, 2], [], [4], [], [6], [4, 5, 6, 7], [4, 5, 6, 7, 8], [4, 5, 6, 7, 8, 9], [0, 1, 2, 3, 4, 5, 6, 7, 8, 9, 10], [0, 1, 2, 3, 4, 5, 6, 7, 8, 9, 10, 11], [0, 1, 2, 3, 4, 5, 6, 7, 8, 9, 10, 11, 12]]
theorem ok72_7 : okReg (ro Tryd.f72 7) a72_7 d72_7 = true := by kernel_rfl
def a72_8 : List AO := [⟨some 34, none, .bin .add (.t 11) (.v (.int .i64 1))⟩,⟨some 11, none, .mv (.t 34)⟩]
theorem tr72_8 : TR Tryd.f72 36 8 = some a72_8 := by kernel_rfl
def a72_9 : List AO := [⟨some 35, none, .mv (.t 3)⟩,⟨some 2, none, .mv (.t 35)⟩]
theorem tr72_9 : TR Tryd.f72 36 9 = some a72_9 := by kernel_rfl
noncomputable def c74 : Code := .seq (.region 0 (ro Tryd.f74 0) false) (.seq (.seq (.region 1 (ro Tryd.f74 1) false) (.block 0 (.loop (.seq (.region 2 (ro Tryd.f74 2) false) (.seq (.cond (.tmp 9) (.skip) (.exit 0)) (.seq (.block 1 (.seq (.region 3 (ro Tryd.f74 3) false) (.seq (.region 4 (ro Tryd.f74 4) false) (.cond (.tmp 16) (.seq (.region 5 (ro Tryd.f74 5) false) (.ret)) (.skip))))) (.region 6 (ro Tryd.f74 6) false))))))) (.seq (.region 7 (ro Tryd.f74 7) false) (.ret)))
theorem body74 : Tryd.f74.body = some c74 := by kernel_rfl
theorem res74 : Tryd.f74.results.toList.mapM (trR Tryd.prog) = some [.t 4] := by kernel_rfl
theorem nt74 : Tryd.f74.ntmps = 19 := by kernel_rfl
theorem nm74 : (Tryd.f74.name == "runtime.NumGoroutine") = false := by kernel_rfl
def a74_0 : List AO := [⟨some 4, none, .mv (.v (.int .i64 0))⟩]
theorem tr74_0 : TR Tryd.f74 19 0 = some a74_0 := by kernel_rfl
def a74_1 : List AO := [⟨some 6, none, .mv (.t 0)⟩,⟨some 7, none, .len (.t 6)⟩,⟨some 8, none, .mv (.v (.int .i64 0))⟩]
theorem tr74_1 : TR Tryd.f74 19 1 = some a74_1 := by kernel_rfl
def a74_2 : List AO := [⟨some 9, none, .bin .lss (.t 8) (.t 7)⟩]
theorem tr74_2 : TR Tryd.f74 19 2 = some a74_2 := by kernel_rfl
def a74_3 : List AO := [⟨some 10, none, .mv (.t 8)⟩,⟨some 5, none, .mv (.t 10)⟩]
theorem tr74_3 : TR Tryd.f74 19 3 = some a74_3 := by kernel_rfl
def a74_4 : List AO := [⟨some 11, none, .mv (.t 1)⟩,⟨some 12, none, .mv (.t 0)⟩,⟨some 13, none, .mv (.t 5)⟩,⟨some 14, none, .idx 1 (.t 12) (.t 13)⟩,⟨some 15, none, .load none (.t 14)⟩,⟨some 16, none, .callv (.t 11) [(.t 15)]⟩]
theorem tr74_4 : TR Tryd.f74 19 4 = some a74_4 := by kernel_rfl
def a74_5 : List AO := [⟨some 17, none, .mv (.t 5)⟩,⟨some 4, none, .mv (.t 17)⟩]
theorem tr74_5 : TR Tryd.f74 19 5 = some a74_5 := by kernel_rfl
def a74_6 : List AO := [⟨some 18, none, .bin .add (.t 8) (.v (.int .i64 1))⟩,⟨some 8, none, .mv (.t 18)⟩]
theorem tr74_6 : TR Tryd.f74 19 6 = some a74_6 := by kernel_rfl
def a74_7 : List AO := [⟨some 4, none, .mv (.v (.int .i64 (-1)))⟩]
theorem tr74_7 : TR Tryd.f74 19 7 = some a74_7 := by kernel_rfl
end Go.Proofs.YtllhcpjgilpbnaaDoor
