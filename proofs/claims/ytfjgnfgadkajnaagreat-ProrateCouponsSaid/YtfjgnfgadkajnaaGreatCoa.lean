/- The code of the functions, region by region, as abstract operations. -/
import Derived.Test.YtfjgnfgadkajnaaGreatProg
import Derived.Test.YtfjgnfgadkajnaaGreatAv21
namespace Go.Proofs.YtfjgnfgadkajnaaGreat
open Go Go.RowKit
def findR : Code → Nat → Option (Array Oper)
  | .region i ops _, k => if i = k then some ops else none
  | .seq a b, k => (findR a k).or (findR b k)
  | .cond _ a b, k => (findR a k).or (findR b k)
  | .block _ c, k => findR c k
  | .loop c, k => findR c k
  | .scope c, k => findR c k
  | _, _ => none
def ro (f : Func) (k : Nat) : Array Oper := ((f.body.bind fun c => findR c k).getD #[])
noncomputable abbrev TR (f : Func) (n k : Nat) : Option (List AO) := (ro f k).toList.mapM (trO Tryz.prog n (ro f k))
theorem mixed : Tryz.prog.follows .mixedOrders = true := by kernel_rfl
/-- airline/airlinelaw39.ProrateCoupons -/
noncomputable def c3 : Code := .seq (.region 0 (ro Tryz.f3 0) false) (.seq (.seq (.region 1 (ro Tryz.f3 1) false) (.cond (.tmp 15) (.seq (.region 2 (ro Tryz.f3 2) false) (.ret)) (.skip))) (.seq (.region 3 (ro Tryz.f3 3) false) (.seq (.region 4 (ro Tryz.f3 4) false) (.seq (.region 5 (ro Tryz.f3 5) true) (.ret)))))
theorem body3 : Tryz.f3.body = some c3 := by kernel_rfl
theorem res3 : Tryz.f3.results.toList.mapM (trR Tryz.prog) = some [.t 6] := by kernel_rfl
theorem nt3 : Tryz.f3.ntmps = 51 := by kernel_rfl
theorem nm3 : (Tryz.f3.name == "runtime.NumGoroutine") = false := by kernel_rfl
def a3_0 : List AO := [⟨(some 3), none, .box 25 (.t 0)⟩,
  ⟨(some 5), none, .box 31 (.t 2)⟩,
  ⟨(some 6), none, .mv (.v (.bool false))⟩]
theorem tr3_0 : TR Tryz.f3 51 0 = some a3_0 := by kernel_rfl
def a3_1 : List AO := [⟨(some 11), none, .load (some 2) (.t 3)⟩,
  ⟨(some 12), none, .mv (.t 1)⟩,
  ⟨(some 13), none, .load (some 5) (.t 5)⟩,
  ⟨(some 14), none, .call 4 [(.t 11), (.t 12), (.t 13)]⟩,
  ⟨(some 15), none, .un .not (.t 14)⟩]
theorem tr3_1 : TR Tryz.f3 51 1 = some a3_1 := by kernel_rfl
def a3_2 : List AO := [⟨(some 16), none, .call 5 []⟩,
  ⟨(some 6), none, .mv (.t 16)⟩]
theorem tr3_2 : TR Tryz.f3 51 2 = some a3_2 := by kernel_rfl
def a3_3 : List AO := [⟨(some 18), none, .load (some 2) (.t 3)⟩,
  ⟨(some 19), none, .mv (.t 1)⟩,
  ⟨(some 20), none, .load (some 5) (.t 5)⟩,
  ⟨(some 21), none, .call 6 [(.t 18), (.t 19), (.t 20)]⟩,
  ⟨(some 17), none, .mv (.t 21)⟩,
  ⟨(some 22), none, .ext 0 (.t 17)⟩,
  ⟨(some 23), none, .ext 1 (.t 17)⟩,
  ⟨(some 7), none, .mv (.t 22)⟩,
  ⟨(some 8), none, .mv (.t 23)⟩]
theorem tr3_3 : TR Tryz.f3 51 3 = some a3_3 := by kernel_rfl
def a3_4 : List AO := [⟨(some 25), none, .load (some 2) (.t 3)⟩,
  ⟨(some 26), none, .mv (.t 1)⟩,
  ⟨(some 27), none, .load (some 5) (.t 5)⟩,
  ⟨(some 28), none, .call 7 [(.t 25), (.t 26), (.t 27)]⟩,
  ⟨(some 24), none, .mv (.t 28)⟩,
  ⟨(some 29), none, .ext 0 (.t 24)⟩,
  ⟨(some 30), none, .ext 1 (.t 24)⟩,
  ⟨(some 9), none, .mv (.t 29)⟩,
  ⟨(some 10), none, .mv (.t 30)⟩]
theorem tr3_4 : TR Tryz.f3 51 4 = some a3_4 := by kernel_rfl
def a3_5 : List AO := [⟨(some 31), none, .mv (.t 7)⟩,
  ⟨(some 32), none, .mv (.t 9)⟩,
  ⟨(some 33), none, .call 8 [(.t 31), (.t 32)]⟩,
  ⟨(some 34), none, .mv (.t 33)⟩,
  ⟨(some 35), some (34, true), .mv (.t 8)⟩,
  ⟨(some 36), some (34, true), .mv (.t 10)⟩,
  ⟨(some 37), some (34, true), .bin .eql (.t 35) (.t 36)⟩,
  ⟨(some 38), none, .pick (.t 34) (.t 37) (.v (.bool false))⟩,
  ⟨(some 39), none, .mv (.t 38)⟩,
  ⟨(some 40), some (39, true), .load (some 2) (.t 3)⟩,
  ⟨(some 41), some (39, true), .mv (.t 1)⟩,
  ⟨(some 42), some (39, true), .call 9 [(.t 40), (.t 41)]⟩,
  ⟨(some 43), some (39, true), .load (some 2) (.t 3)⟩,
  ⟨(some 44), some (39, true), .mv (.t 1)⟩,
  ⟨(some 45), some (39, true), .call 10 [(.t 43), (.t 44)]⟩,
  ⟨(some 46), some (39, true), .call 8 [(.t 42), (.t 45)]⟩,
  ⟨(some 47), none, .pick (.t 39) (.t 46) (.v (.bool false))⟩,
  ⟨(some 48), none, .mv (.t 47)⟩,
  ⟨(some 49), some (48, true), .call 5 []⟩,
  ⟨(some 50), none, .pick (.t 48) (.t 49) (.v (.bool false))⟩,
  ⟨(some 6), none, .mv (.t 50)⟩]
theorem tr3_5 : TR Tryz.f3 51 5 = some a3_5 := by kernel_rfl
def d3_5 : List (List Nat) := [[], [], [0, 1], [0, 1, 2], [0, 1, 2, 3], [0, 1, 2, 3], [0, 1, 2, 3, 4, 5], [0, 1, 2, 3, 4, 5, 6], [0, 1, 2, 3, 4, 5, 6, 7], [0, 1, 2, 3, 4, 5, 6, 7, 8], [0, 1, 2, 3, 4, 5, 6, 7, 8], [0, 1, 2, 3, 4, 5, 6, 7, 8, 9, 10], [0, 1, 2, 3, 4, 5, 6, 7, 8], [0, 1, 2, 3, 4, 5, 6, 7, 8], [0, 1, 2, 3, 4, 5, 6, 7, 8, 9, 10, 11, 12, 13], [0, 1, 2, 3, 4, 5, 6, 7, 8, 9, 10, 11, 12, 13, 14], [0, 1, 2, 3, 4, 5, 6, 7, 8, 9, 10, 11, 12, 13, 14, 15], [0, 1, 2, 3, 4, 5, 6, 7, 8, 9, 10, 11, 12, 13, 14, 15, 16], [0, 1, 2, 3, 4, 5, 6, 7, 8, 9, 10, 11, 12, 13, 14, 15, 16, 17], [0, 1, 2, 3, 4, 5, 6, 7, 8, 9, 10, 11, 12, 13, 14, 15, 16, 17, 18], [0, 1, 2, 3, 4, 5, 6, 7, 8, 9, 10, 11, 12, 13, 14, 15, 16, 17, 18, 19]]
theorem ok3_5 : okReg (ro Tryz.f3 5) a3_5 d3_5 = true := by kernel_rfl
/-- airline/airlinelaw39.right -/
noncomputable def c4 : Code := .seq (.region 0 (ro Tryz.f4 0) false) (.seq (.region 1 (ro Tryz.f4 1) false) (.ret))
theorem body4 : Tryz.f4.body = some c4 := by kernel_rfl
theorem res4 : Tryz.f4.results.toList.mapM (trR Tryz.prog) = some [.t 6] := by kernel_rfl
theorem nt4 : Tryz.f4.ntmps = 34 := by kernel_rfl
theorem nm4 : (Tryz.f4.name == "runtime.NumGoroutine") = false := by kernel_rfl
def a4_0 : List AO := [⟨(some 3), none, .box 25 (.t 0)⟩,
  ⟨(some 5), none, .box 31 (.t 2)⟩,
  ⟨(some 6), none, .mv (.v (.bool false))⟩]
theorem tr4_0 : TR Tryz.f4 34 0 = some a4_0 := by kernel_rfl
def a4_1 : List AO := [⟨(some 7), none, .fld 0 (.t 3)⟩,
  ⟨(some 8), none, .load none (.t 7)⟩,
  ⟨(some 9), none, .len (.t 8)⟩,
  ⟨(some 10), none, .bin .leq (.t 9) (.v (.int .i64 20))⟩,
  ⟨(some 11), none, .mv (.t 10)⟩,
  ⟨(some 12), some (11, true), .fld 1 (.t 3)⟩,
  ⟨(some 13), some (11, true), .load none (.t 12)⟩,
  ⟨(some 14), some (11, true), .len (.t 13)⟩,
  ⟨(some 15), some (11, true), .bin .leq (.t 14) (.v (.int .i64 40))⟩,
  ⟨(some 16), none, .pick (.t 11) (.t 15) (.v (.bool false))⟩,
  ⟨(some 17), none, .mv (.t 16)⟩,
  ⟨(some 18), some (17, true), .mv (.t 1)⟩,
  ⟨(some 19), some (17, true), .len (.t 18)⟩,
  ⟨(some 20), some (17, true), .bin .leq (.t 19) (.v (.int .i64 8))⟩,
  ⟨(some 21), none, .pick (.t 17) (.t 20) (.v (.bool false))⟩,
  ⟨(some 22), none, .mv (.t 21)⟩,
  ⟨(some 23), some (22, true), .fld 0 (.t 5)⟩,
  ⟨(some 24), some (22, true), .load none (.t 23)⟩,
  ⟨(some 25), some (22, true), .len (.t 24)⟩,
  ⟨(some 26), some (22, true), .bin .leq (.t 25) (.v (.int .i64 10))⟩,
  ⟨(some 27), none, .pick (.t 22) (.t 26) (.v (.bool false))⟩,
  ⟨(some 28), none, .mv (.t 27)⟩,
  ⟨(some 29), some (28, true), .load (some 2) (.t 3)⟩,
  ⟨(some 30), some (28, true), .call 11 [(.t 29)]⟩,
  ⟨(some 31), some (28, true), .len (.t 30)⟩,
  ⟨(some 32), some (28, true), .bin .eql (.t 31) (.v (.int .i64 0))⟩,
  ⟨(some 33), none, .pick (.t 28) (.t 32) (.v (.bool false))⟩,
  ⟨(some 6), none, .mv (.t 33)⟩]
theorem tr4_1 : TR Tryz.f4 34 1 = some a4_1 := by kernel_rfl
/-- airline/airlinelaw39.awake -/
noncomputable def c5 : Code := .seq (.region 0 (ro Tryz.f5 0) false) (.seq (.region 1 (ro Tryz.f5 1) false) (.seq (.region 2 (ro Tryz.f5 2) false) (.seq (.region 3 (ro Tryz.f5 3) false) (.seq (.region 4 (ro Tryz.f5 4) false) (.seq (.region 5 (ro Tryz.f5 5) false) (.seq (.region 6 (ro Tryz.f5 6) false) (.ret)))))))
theorem body5 : Tryz.f5.body = some c5 := by kernel_rfl
theorem res5 : Tryz.f5.results.toList.mapM (trR Tryz.prog) = some [.t 0] := by kernel_rfl
theorem nt5 : Tryz.f5.ntmps = 71 := by kernel_rfl
theorem nm5 : (Tryz.f5.name == "runtime.NumGoroutine") = false := by kernel_rfl
def a5_0 : List AO := [⟨(some 0), none, .mv (.v (.bool false))⟩]
theorem tr5_0 : TR Tryz.f5 71 0 = some a5_0 := by kernel_rfl
def a5_1 : List AO := [⟨(some 8), none, .build [(.str []), (.str []), (.str []), (.int .i64 0), .nils] [(0, 1, (.v (.str [76, 72, 82]))), (1, 1, (.v (.str [76, 79, 78]))), (2, 1, (.v (.str [71, 66])))]⟩,
  ⟨(some 9), none, .build [(.str []), (.str []), (.str []), (.int .i64 0), .nils] [(0, 1, (.v (.str [74, 70, 75]))), (1, 1, (.v (.str [78, 89, 67]))), (2, 1, (.v (.str [85, 83])))]⟩,
  ⟨(some 10), none, .build [(.str []), (.str []), (.str []), (.int .i64 0), .nils] [(0, 1, (.v (.str [67, 68, 71]))), (1, 1, (.v (.str [80, 65, 82]))), (2, 1, (.v (.str [70, 82])))]⟩,
  ⟨(some 11), none, .slc 46 5 false [(.t 8), (.t 9), (.t 10)]⟩,
  ⟨(some 12), none, .build [(.str []), (.str []), (.int .i64 0)] [(0, 1, (.v (.str [76, 79, 78]))), (1, 1, (.v (.str [78, 89, 67]))), (2, 1, (.v (.int .i64 3458)))]⟩,
  ⟨(some 13), none, .build [(.str []), (.str []), (.int .i64 0)] [(0, 1, (.v (.str [76, 79, 78]))), (1, 1, (.v (.str [80, 65, 82]))), (2, 1, (.v (.int .i64 214)))]⟩,
  ⟨(some 14), none, .slc 48 3 false [(.t 12), (.t 13)]⟩,
  ⟨(some 15), none, .build [.nils, .nils] [(0, 1, (.t 11)), (1, 1, (.t 14))]⟩,
  ⟨(some 1), none, .alloc 25 [.nils, .nils]⟩,
  ⟨none, none, .store 2 (.t 1) (.t 15)⟩]
theorem tr5_1 : TR Tryz.f5 71 1 = some a5_1 := by kernel_rfl
def a5_2 : List AO := [⟨(some 16), none, .build [(.str []), (.int .i64 0), (.int .i64 0), (.str []), (.str []), (.int .i64 0), (.int .i64 0)] [(3, 1, (.v (.str [74, 70, 75]))), (4, 1, (.v (.str [76, 72, 82])))]⟩,
  ⟨(some 17), none, .build [(.str []), (.int .i64 0), (.int .i64 0), (.str []), (.str []), (.int .i64 0), (.int .i64 0), (.str [])] [(0, 7, (.t 16))]⟩,
  ⟨(some 18), none, .build [(.str []), (.int .i64 0), (.int .i64 0), (.str []), (.str []), (.int .i64 0), (.int .i64 0)] [(3, 1, (.v (.str [76, 72, 82]))), (4, 1, (.v (.str [67, 68, 71])))]⟩,
  ⟨(some 19), none, .build [(.str []), (.int .i64 0), (.int .i64 0), (.str []), (.str []), (.int .i64 0), (.int .i64 0), (.str [])] [(0, 7, (.t 18))]⟩,
  ⟨(some 20), none, .slc 52 8 false [(.t 17), (.t 19)]⟩,
  ⟨(some 2), none, .mv (.t 20)⟩]
theorem tr5_2 : TR Tryz.f5 71 2 = some a5_2 := by kernel_rfl
def a5_3 : List AO := [⟨(some 22), none, .load (some 2) (.t 1)⟩,
  ⟨(some 23), none, .mv (.t 2)⟩,
  ⟨(some 24), none, .build [(.int .i64 0), (.int .i64 0), (.int .i64 0), (.int .i64 0)] [(1, 1, (.v (.int .i64 2))), (3, 1, (.v (.int .i64 10000)))]⟩,
  ⟨(some 25), none, .slc 54 4 false [(.t 24)]⟩,
  ⟨(some 26), none, .build [.nils, .nils, .nils, (.int .i64 0), (.int .i64 0)] [(0, 1, (.t 25))]⟩,
  ⟨(some 27), none, .call 6 [(.t 22), (.t 23), (.t 26)]⟩,
  ⟨(some 21), none, .mv (.t 27)⟩,
  ⟨(some 28), none, .ext 0 (.t 21)⟩,
  ⟨(some 29), none, .ext 1 (.t 21)⟩,
  ⟨(some 3), none, .mv (.t 28)⟩,
  ⟨(some 4), none, .mv (.t 29)⟩]
theorem tr5_3 : TR Tryz.f5 71 3 = some a5_3 := by kernel_rfl
def a5_4 : List AO := [⟨(some 30), none, .build [(.str []), (.int .i64 0), (.int .i64 0), (.str []), (.str []), (.int .i64 0), (.int .i64 0), (.str []), (.str []), (.int .i64 0), (.int .i64 0)] [(9, 1, (.v (.int .i64 5))), (10, 1, (.v (.int .i64 1000)))]⟩,
  ⟨(some 31), none, .build [(.str []), (.int .i64 0), (.int .i64 0), (.str []), (.str []), (.int .i64 0), (.int .i64 0), (.str []), (.str []), (.int .i64 0), (.int .i64 0)] [(9, 1, (.v (.int .i64 5))), (10, 1, (.v (.int .i64 2000)))]⟩,
  ⟨(some 32), none, .build [(.str []), (.int .i64 0), (.int .i64 0), (.str []), (.str []), (.int .i64 0), (.int .i64 0), (.str []), (.str []), (.int .i64 0), (.int .i64 0)] [(9, 1, (.v (.int .i64 5))), (10, 1, (.v (.int .i64 500)))]⟩,
  ⟨(some 33), none, .slc 56 11 false [(.t 30), (.t 31), (.t 32)]⟩,
  ⟨(some 34), none, .build [(.int .i64 0), (.str []), (.str []), (.str []), (.str []), .nils, (.int .i64 0), .nils, (.int .i64 0), (.int .i64 0)] [(5, 1, (.t 33))]⟩,
  ⟨(some 5), none, .alloc 61 [(.int .i64 0), (.str []), (.str []), (.str []), (.str []), .nils, (.int .i64 0), .nils, (.int .i64 0), (.int .i64 0)]⟩,
  ⟨none, none, .store 10 (.t 5) (.t 34)⟩]
theorem tr5_4 : TR Tryz.f5 71 4 = some a5_4 := by kernel_rfl
def a5_5 : List AO := [⟨(some 36), none, .load (some 10) (.t 5)⟩,
  ⟨(some 37), none, .slc 9 1 false [(.v (.str [66, 65])), (.v (.str [65, 70])), (.v (.str [66, 65]))]⟩,
  ⟨(some 38), none, .call 12 [(.t 36), (.t 37)]⟩,
  ⟨(some 35), none, .mv (.t 38)⟩,
  ⟨(some 39), none, .ext 0 (.t 35)⟩,
  ⟨(some 40), none, .ext 1 (.t 35)⟩,
  ⟨(some 6), none, .mv (.t 39)⟩,
  ⟨(some 7), none, .mv (.t 40)⟩]
theorem tr5_5 : TR Tryz.f5 71 5 = some a5_5 := by kernel_rfl
def a5_6 : List AO := [⟨(some 41), none, .mv (.t 4)⟩,
  ⟨(some 42), none, .bin .eql (.t 41) (.v (.int .i64 0))⟩,
  ⟨(some 43), none, .mv (.t 42)⟩,
  ⟨(some 44), some (43, true), .mv (.t 7)⟩,
  ⟨(some 45), some (43, true), .bin .eql (.t 44) (.v (.int .i64 0))⟩,
  ⟨(some 46), none, .pick (.t 43) (.t 45) (.v (.bool false))⟩,
  ⟨(some 47), none, .mv (.t 46)⟩,
  ⟨(some 48), some (47, true), .mv (.t 3)⟩,
  ⟨(some 49), some (47, true), .slc 3 1 false [(.v (.int .i64 9417)), (.v (.int .i64 583))]⟩,
  ⟨(some 50), some (47, true), .call 8 [(.t 48), (.t 49)]⟩,
  ⟨(some 51), none, .pick (.t 47) (.t 50) (.v (.bool false))⟩,
  ⟨(some 52), none, .mv (.t 51)⟩,
  ⟨(some 53), some (52, true), .mv (.t 6)⟩,
  ⟨(some 54), some (52, true), .len (.t 53)⟩,
  ⟨(some 55), some (52, true), .bin .eql (.t 54) (.v (.int .i64 2))⟩,
  ⟨(some 56), none, .pick (.t 52) (.t 55) (.v (.bool false))⟩,
  ⟨(some 57), none, .mv (.t 56)⟩,
  ⟨(some 58), some (57, true), .mv (.t 6)⟩,
  ⟨(some 59), some (57, true), .idx 2 (.t 58) (.v (.int .i64 0))⟩,
  ⟨(some 60), some (57, true), .load (some 2) (.t 59)⟩,
  ⟨(some 61), some (57, true), .build [(.str []), (.int .i64 0)] [(0, 1, (.v (.str [65, 70]))), (1, 1, (.v (.int .i64 2000)))]⟩,
  ⟨(some 62), some (57, true), .bina [.s, .i .i64] .eql (.t 60) (.t 61)⟩,
  ⟨(some 63), none, .pick (.t 57) (.t 62) (.v (.bool false))⟩,
  ⟨(some 64), none, .mv (.t 63)⟩,
  ⟨(some 65), some (64, true), .mv (.t 6)⟩,
  ⟨(some 66), some (64, true), .idx 2 (.t 65) (.v (.int .i64 1))⟩,
  ⟨(some 67), some (64, true), .load (some 2) (.t 66)⟩,
  ⟨(some 68), some (64, true), .build [(.str []), (.int .i64 0)] [(0, 1, (.v (.str [66, 65]))), (1, 1, (.v (.int .i64 1500)))]⟩,
  ⟨(some 69), some (64, true), .bina [.s, .i .i64] .eql (.t 67) (.t 68)⟩,
  ⟨(some 70), none, .pick (.t 64) (.t 69) (.v (.bool false))⟩,
  ⟨(some 0), none, .mv (.t 70)⟩]
theorem tr5_6 : TR Tryz.f5 71 6 = some a5_6 := by kernel_rfl
/-- airline/prorate.Coupons -/
noncomputable def c6 : Code := .seq (.region 0 (ro Tryz.f6 0) false) (.seq (.seq (.region 1 (ro Tryz.f6 1) false) (.cond (.tmp 19) (.seq (.region 2 (ro Tryz.f6 2) false) (.ret)) (.skip))) (.seq (.region 3 (ro Tryz.f6 3) false) (.seq (.region 4 (ro Tryz.f6 4) false) (.seq (.seq (.region 5 (ro Tryz.f6 5) false) (.block 0 (.loop (.seq (.region 6 (ro Tryz.f6 6) false) (.seq (.cond (.tmp 27) (.skip) (.exit 0)) (.seq (.block 1 (.seq (.region 7 (ro Tryz.f6 7) false) (.seq (.region 8 (ro Tryz.f6 8) true) (.seq (.seq (.region 9 (ro Tryz.f6 9) false) (.cond (.tmp 43) (.seq (.region 10 (ro Tryz.f6 10) false) (.ret)) (.skip))) (.region 11 (ro Tryz.f6 11) false))))) (.region 12 (ro Tryz.f6 12) false))))))) (.seq (.region 13 (ro Tryz.f6 13) false) (.ret))))))
theorem body6 : Tryz.f6.body = some c6 := by kernel_rfl
theorem res6 : Tryz.f6.results.toList.mapM (trR Tryz.prog) = some [.t 6, .t 7] := by kernel_rfl
theorem nt6 : Tryz.f6.ntmps = 50 := by kernel_rfl
theorem nm6 : (Tryz.f6.name == "runtime.NumGoroutine") = false := by kernel_rfl
def a6_0 : List AO := [⟨(some 3), none, .box 25 (.t 0)⟩,
  ⟨(some 5), none, .box 31 (.t 2)⟩,
  ⟨(some 6), none, .mv (.v .nils)⟩,
  ⟨(some 7), none, .mv (.v (.int .i64 0))⟩]
theorem tr6_0 : TR Tryz.f6 50 0 = some a6_0 := by kernel_rfl
def a6_1 : List AO := [⟨(some 14), none, .fld 0 (.t 5)⟩,
  ⟨(some 15), none, .load none (.t 14)⟩,
  ⟨(some 16), none, .mv (.t 1)⟩,
  ⟨(some 17), none, .len (.t 16)⟩,
  ⟨(some 18), none, .call 13 [(.t 15), (.t 17)]⟩,
  ⟨(some 19), none, .un .not (.t 18)⟩]
theorem tr6_1 : TR Tryz.f6 50 1 = some a6_1 := by kernel_rfl
def a6_2 : List AO := [⟨(some 6), none, .mv (.v .nils)⟩,
  ⟨(some 7), none, .mv (.v (.int .i64 2))⟩]
theorem tr6_2 : TR Tryz.f6 50 2 = some a6_2 := by kernel_rfl
def a6_3 : List AO := [⟨(some 20), none, .load (some 2) (.t 3)⟩,
  ⟨(some 21), none, .mv (.t 1)⟩,
  ⟨(some 22), none, .call 9 [(.t 20), (.t 21)]⟩,
  ⟨(some 8), none, .mv (.t 22)⟩]
theorem tr6_3 : TR Tryz.f6 50 3 = some a6_3 := by kernel_rfl
def a6_4 : List AO := [⟨(some 9), none, .mv (.v .nils)⟩]
theorem tr6_4 : TR Tryz.f6 50 4 = some a6_4 := by kernel_rfl
def a6_5 : List AO := [⟨(some 23), none, .fld 0 (.t 5)⟩,
  ⟨(some 24), none, .load none (.t 23)⟩,
  ⟨(some 25), none, .len (.t 24)⟩,
  ⟨(some 26), none, .mv (.v (.int .i64 0))⟩]
theorem tr6_5 : TR Tryz.f6 50 5 = some a6_5 := by kernel_rfl
def a6_6 : List AO := [⟨(some 27), none, .bin .lss (.t 26) (.t 25)⟩]
theorem tr6_6 : TR Tryz.f6 50 6 = some a6_6 := by kernel_rfl
def a6_7 : List AO := [⟨(some 28), none, .idx 4 (.t 24) (.t 26)⟩,
  ⟨(some 29), none, .load (some 4) (.t 28)⟩,
  ⟨(some 11), none, .alloc 54 [(.int .i64 0), (.int .i64 0), (.int .i64 0), (.int .i64 0)]⟩,
  ⟨none, none, .store 4 (.t 11) (.t 29)⟩]
theorem tr6_7 : TR Tryz.f6 50 7 = some a6_7 := by kernel_rfl
def a6_8 : List AO := [⟨(some 31), none, .fld 3 (.t 11)⟩,
  ⟨(some 32), none, .load none (.t 31)⟩,
  ⟨(some 33), none, .mv (.t 8)⟩,
  ⟨(some 34), none, .fld 0 (.t 11)⟩,
  ⟨(some 35), none, .load none (.t 34)⟩,
  ⟨(some 36), none, .fld 1 (.t 11)⟩,
  ⟨(some 37), none, .load none (.t 36)⟩,
  ⟨(some 38), none, .sub 1 (some (.t 35)) (some (.t 37)) none (.t 33)⟩,
  ⟨(some 39), none, .call 14 [(.t 32), (.t 38)]⟩,
  ⟨(some 30), none, .mv (.t 39)⟩,
  ⟨(some 40), none, .ext 0 (.t 30)⟩,
  ⟨(some 41), none, .ext 1 (.t 30)⟩,
  ⟨(some 12), none, .mv (.t 40)⟩,
  ⟨(some 13), none, .mv (.t 41)⟩]
theorem tr6_8 : TR Tryz.f6 50 8 = some a6_8 := by kernel_rfl
def d6_8 : List (List Nat) := [[], [0], [], [], [3], [], [5], [2, 3, 4, 5, 6], [0, 1, 2, 3, 4, 5, 6, 7], [0, 1, 2, 3, 4, 5, 6, 7, 8], [0, 1, 2, 3, 4, 5, 6, 7, 8, 9], [0, 1, 2, 3, 4, 5, 6, 7, 8, 9], [0, 1, 2, 3, 4, 5, 6, 7, 8, 9, 10], [0, 1, 2, 3, 4, 5, 6, 7, 8, 9, 10, 11, 12]]
theorem ok6_8 : okReg (ro Tryz.f6 8) a6_8 d6_8 = true := by kernel_rfl
def a6_9 : List AO := [⟨(some 42), none, .mv (.t 13)⟩,
  ⟨(some 43), none, .bin .neq (.t 42) (.v (.int .i64 0))⟩]
theorem tr6_9 : TR Tryz.f6 50 9 = some a6_9 := by kernel_rfl
def a6_10 : List AO := [⟨(some 44), none, .mv (.t 13)⟩,
  ⟨(some 6), none, .mv (.v .nils)⟩,
  ⟨(some 7), none, .mv (.t 44)⟩]
theorem tr6_10 : TR Tryz.f6 50 10 = some a6_10 := by kernel_rfl
def a6_11 : List AO := [⟨(some 45), none, .mv (.t 9)⟩,
  ⟨(some 46), none, .mv (.t 12)⟩,
  ⟨(some 47), none, .app 3 1 8 (.t 45) (.t 46)⟩,
  ⟨(some 9), none, .mv (.t 47)⟩]
theorem tr6_11 : TR Tryz.f6 50 11 = some a6_11 := by kernel_rfl
def a6_12 : List AO := [⟨(some 48), none, .bin .add (.t 26) (.v (.int .i64 1))⟩,
  ⟨(some 26), none, .mv (.t 48)⟩]
theorem tr6_12 : TR Tryz.f6 50 12 = some a6_12 := by kernel_rfl
def a6_13 : List AO := [⟨(some 49), none, .mv (.t 9)⟩,
  ⟨(some 6), none, .mv (.t 49)⟩,
  ⟨(some 7), none, .mv (.v (.int .i64 0))⟩]
theorem tr6_13 : TR Tryz.f6 50 13 = some a6_13 := by kernel_rfl
/-- airline/airlineref39.Coupons -/
noncomputable def c7 : Code := .seq (.region 0 (ro Tryz.f7 0) false) (.seq (.seq (.region 1 (ro Tryz.f7 1) false) (.cond (.tmp 19) (.seq (.region 2 (ro Tryz.f7 2) false) (.ret)) (.skip))) (.seq (.region 3 (ro Tryz.f7 3) false) (.seq (.region 4 (ro Tryz.f7 4) false) (.seq (.seq (.region 5 (ro Tryz.f7 5) false) (.block 0 (.loop (.seq (.seq (.region 6 (ro Tryz.f7 6) false) (.cond (.tmp 27) (.skip) (.exit 0))) (.seq (.block 1 (.seq (.region 8 (ro Tryz.f7 8) false) (.seq (.region 9 (ro Tryz.f7 9) true) (.seq (.seq (.region 10 (ro Tryz.f7 10) false) (.cond (.tmp 48) (.seq (.region 11 (ro Tryz.f7 11) false) (.ret)) (.skip))) (.region 12 (ro Tryz.f7 12) false))))) (.region 7 (ro Tryz.f7 7) false)))))) (.seq (.region 13 (ro Tryz.f7 13) false) (.ret))))))
theorem body7 : Tryz.f7.body = some c7 := by kernel_rfl
theorem res7 : Tryz.f7.results.toList.mapM (trR Tryz.prog) = some [.t 6, .t 7] := by kernel_rfl
theorem nt7 : Tryz.f7.ntmps = 54 := by kernel_rfl
theorem nm7 : (Tryz.f7.name == "runtime.NumGoroutine") = false := by kernel_rfl
def a7_0 : List AO := [⟨(some 3), none, .box 25 (.t 0)⟩,
  ⟨(some 5), none, .box 31 (.t 2)⟩,
  ⟨(some 6), none, .mv (.v .nils)⟩,
  ⟨(some 7), none, .mv (.v (.int .i64 0))⟩]
theorem tr7_0 : TR Tryz.f7 54 0 = some a7_0 := by kernel_rfl
def a7_1 : List AO := [⟨(some 14), none, .fld 0 (.t 5)⟩,
  ⟨(some 15), none, .load none (.t 14)⟩,
  ⟨(some 16), none, .mv (.t 1)⟩,
  ⟨(some 17), none, .len (.t 16)⟩,
  ⟨(some 18), none, .call 15 [(.t 15), (.t 17)]⟩,
  ⟨(some 19), none, .un .not (.t 18)⟩]
theorem tr7_1 : TR Tryz.f7 54 1 = some a7_1 := by kernel_rfl
def a7_2 : List AO := [⟨(some 6), none, .mv (.v .nils)⟩,
  ⟨(some 7), none, .mv (.v (.int .i64 2))⟩]
theorem tr7_2 : TR Tryz.f7 54 2 = some a7_2 := by kernel_rfl
def a7_3 : List AO := [⟨(some 20), none, .load (some 2) (.t 3)⟩,
  ⟨(some 21), none, .mv (.t 1)⟩,
  ⟨(some 22), none, .call 10 [(.t 20), (.t 21)]⟩,
  ⟨(some 8), none, .mv (.t 22)⟩]
theorem tr7_3 : TR Tryz.f7 54 3 = some a7_3 := by kernel_rfl
def a7_4 : List AO := [⟨(some 9), none, .mv (.v .nils)⟩]
theorem tr7_4 : TR Tryz.f7 54 4 = some a7_4 := by kernel_rfl
def a7_5 : List AO := [⟨(some 10), none, .mv (.v (.int .i64 0))⟩]
theorem tr7_5 : TR Tryz.f7 54 5 = some a7_5 := by kernel_rfl
def a7_6 : List AO := [⟨(some 23), none, .mv (.t 10)⟩,
  ⟨(some 24), none, .fld 0 (.t 5)⟩,
  ⟨(some 25), none, .load none (.t 24)⟩,
  ⟨(some 26), none, .len (.t 25)⟩,
  ⟨(some 27), none, .bin .lss (.t 23) (.t 26)⟩]
theorem tr7_6 : TR Tryz.f7 54 6 = some a7_6 := by kernel_rfl
def a7_8 : List AO := [⟨(some 30), none, .fld 0 (.t 5)⟩,
  ⟨(some 31), none, .load none (.t 30)⟩,
  ⟨(some 32), none, .mv (.t 10)⟩,
  ⟨(some 33), none, .idx 4 (.t 31) (.t 32)⟩,
  ⟨(some 34), none, .load (some 4) (.t 33)⟩,
  ⟨(some 11), none, .alloc 54 [(.int .i64 0), (.int .i64 0), (.int .i64 0), (.int .i64 0)]⟩,
  ⟨none, none, .store 4 (.t 11) (.t 34)⟩]
theorem tr7_8 : TR Tryz.f7 54 8 = some a7_8 := by kernel_rfl
def a7_9 : List AO := [⟨(some 36), none, .fld 3 (.t 11)⟩,
  ⟨(some 37), none, .load none (.t 36)⟩,
  ⟨(some 38), none, .mv (.t 8)⟩,
  ⟨(some 39), none, .fld 0 (.t 11)⟩,
  ⟨(some 40), none, .load none (.t 39)⟩,
  ⟨(some 41), none, .fld 1 (.t 11)⟩,
  ⟨(some 42), none, .load none (.t 41)⟩,
  ⟨(some 43), none, .sub 1 (some (.t 40)) (some (.t 42)) none (.t 38)⟩,
  ⟨(some 44), none, .call 16 [(.t 37), (.t 43)]⟩,
  ⟨(some 35), none, .mv (.t 44)⟩,
  ⟨(some 45), none, .ext 0 (.t 35)⟩,
  ⟨(some 46), none, .ext 1 (.t 35)⟩,
  ⟨(some 12), none, .mv (.t 45)⟩,
  ⟨(some 13), none, .mv (.t 46)⟩]
theorem tr7_9 : TR Tryz.f7 54 9 = some a7_9 := by kernel_rfl
def d7_9 : List (List Nat) := [[], [0], [], [], [3], [], [5], [2, 3, 4, 5, 6], [0, 1, 2, 3, 4, 5, 6, 7], [0, 1, 2, 3, 4, 5, 6, 7, 8], [0, 1, 2, 3, 4, 5, 6, 7, 8, 9], [0, 1, 2, 3, 4, 5, 6, 7, 8, 9], [0, 1, 2, 3, 4, 5, 6, 7, 8, 9, 10], [0, 1, 2, 3, 4, 5, 6, 7, 8, 9, 10, 11, 12]]
theorem ok7_9 : okReg (ro Tryz.f7 9) a7_9 d7_9 = true := by kernel_rfl
def a7_10 : List AO := [⟨(some 47), none, .mv (.t 13)⟩,
  ⟨(some 48), none, .bin .neq (.t 47) (.v (.int .i64 0))⟩]
theorem tr7_10 : TR Tryz.f7 54 10 = some a7_10 := by kernel_rfl
def a7_11 : List AO := [⟨(some 49), none, .mv (.t 13)⟩,
  ⟨(some 6), none, .mv (.v .nils)⟩,
  ⟨(some 7), none, .mv (.t 49)⟩]
theorem tr7_11 : TR Tryz.f7 54 11 = some a7_11 := by kernel_rfl
def a7_12 : List AO := [⟨(some 50), none, .mv (.t 9)⟩,
  ⟨(some 51), none, .mv (.t 12)⟩,
  ⟨(some 52), none, .app 3 1 8 (.t 50) (.t 51)⟩,
  ⟨(some 9), none, .mv (.t 52)⟩]
theorem tr7_12 : TR Tryz.f7 54 12 = some a7_12 := by kernel_rfl
def a7_7 : List AO := [⟨(some 28), none, .mv (.t 10)⟩,
  ⟨(some 29), none, .bin .add (.t 28) (.v (.int .i64 1))⟩,
  ⟨(some 10), none, .mv (.t 29)⟩]
theorem tr7_7 : TR Tryz.f7 54 7 = some a7_7 := by kernel_rfl
def a7_13 : List AO := [⟨(some 53), none, .mv (.t 9)⟩,
  ⟨(some 6), none, .mv (.t 53)⟩,
  ⟨(some 7), none, .mv (.v (.int .i64 0))⟩]
theorem tr7_13 : TR Tryz.f7 54 13 = some a7_13 := by kernel_rfl
/-- airline/airlineref13.Same -/
noncomputable def c8 : Code := .seq (.region 0 (ro Tryz.f8 0) false) (.seq (.seq (.region 1 (ro Tryz.f8 1) false) (.cond (.tmp 10) (.seq (.region 2 (ro Tryz.f8 2) false) (.ret)) (.skip))) (.seq (.seq (.region 3 (ro Tryz.f8 3) false) (.block 0 (.loop (.seq (.seq (.region 4 (ro Tryz.f8 4) false) (.cond (.tmp 14) (.skip) (.exit 0))) (.seq (.block 1 (.seq (.region 6 (ro Tryz.f8 6) true) (.cond (.tmp 25) (.seq (.region 7 (ro Tryz.f8 7) false) (.ret)) (.skip)))) (.region 5 (ro Tryz.f8 5) false)))))) (.seq (.region 8 (ro Tryz.f8 8) false) (.ret))))
theorem body8 : Tryz.f8.body = some c8 := by kernel_rfl
theorem res8 : Tryz.f8.results.toList.mapM (trR Tryz.prog) = some [.t 4] := by kernel_rfl
theorem nt8 : Tryz.f8.ntmps = 26 := by kernel_rfl
theorem nm8 : (Tryz.f8.name == "runtime.NumGoroutine") = false := by kernel_rfl
def a8_0 : List AO := [⟨(some 4), none, .mv (.v (.bool false))⟩]
theorem tr8_0 : TR Tryz.f8 26 0 = some a8_0 := by kernel_rfl
def a8_1 : List AO := [⟨(some 6), none, .mv (.t 0)⟩,
  ⟨(some 7), none, .len (.t 6)⟩,
  ⟨(some 8), none, .mv (.t 1)⟩,
  ⟨(some 9), none, .len (.t 8)⟩,
  ⟨(some 10), none, .bin .neq (.t 7) (.t 9)⟩]
theorem tr8_1 : TR Tryz.f8 26 1 = some a8_1 := by kernel_rfl
def a8_2 : List AO := [⟨(some 4), none, .mv (.v (.bool false))⟩]
theorem tr8_2 : TR Tryz.f8 26 2 = some a8_2 := by kernel_rfl
def a8_3 : List AO := [⟨(some 5), none, .mv (.v (.int .i64 0))⟩]
theorem tr8_3 : TR Tryz.f8 26 3 = some a8_3 := by kernel_rfl
def a8_4 : List AO := [⟨(some 11), none, .mv (.t 5)⟩,
  ⟨(some 12), none, .mv (.t 0)⟩,
  ⟨(some 13), none, .len (.t 12)⟩,
  ⟨(some 14), none, .bin .lss (.t 11) (.t 13)⟩]
theorem tr8_4 : TR Tryz.f8 26 4 = some a8_4 := by kernel_rfl
def a8_6 : List AO := [⟨(some 17), none, .mv (.t 0)⟩,
  ⟨(some 18), none, .mv (.t 5)⟩,
  ⟨(some 19), none, .idx 1 (.t 17) (.t 18)⟩,
  ⟨(some 20), none, .load none (.t 19)⟩,
  ⟨(some 21), none, .mv (.t 1)⟩,
  ⟨(some 22), none, .mv (.t 5)⟩,
  ⟨(some 23), none, .idx 1 (.t 21) (.t 22)⟩,
  ⟨(some 24), none, .load none (.t 23)⟩,
  ⟨(some 25), none, .bin .neq (.t 20) (.t 24)⟩]
theorem tr8_6 : TR Tryz.f8 26 6 = some a8_6 := by kernel_rfl
def d8_6 : List (List Nat) := [[], [], [0, 1], [0, 1, 2], [], [], [4, 5], [4, 5, 6], [0, 1, 2, 3, 4, 5, 6, 7]]
theorem ok8_6 : okReg (ro Tryz.f8 6) a8_6 d8_6 = true := by kernel_rfl
def a8_7 : List AO := [⟨(some 4), none, .mv (.v (.bool false))⟩]
theorem tr8_7 : TR Tryz.f8 26 7 = some a8_7 := by kernel_rfl
def a8_5 : List AO := [⟨(some 15), none, .mv (.t 5)⟩,
  ⟨(some 16), none, .bin .add (.t 15) (.v (.int .i64 1))⟩,
  ⟨(some 5), none, .mv (.t 16)⟩]
theorem tr8_5 : TR Tryz.f8 26 5 = some a8_5 := by kernel_rfl
def a8_8 : List AO := [⟨(some 4), none, .mv (.v (.bool true))⟩]
theorem tr8_8 : TR Tryz.f8 26 8 = some a8_8 := by kernel_rfl
/-- airline/prorate.Weights -/
noncomputable def c9 : Code := .seq (.region 0 (ro Tryz.f9 0) false) (.seq (.region 1 (ro Tryz.f9 1) false) (.seq (.seq (.region 2 (ro Tryz.f9 2) false) (.block 0 (.loop (.seq (.region 3 (ro Tryz.f9 3) false) (.seq (.cond (.tmp 16) (.skip) (.exit 0)) (.seq (.block 1 (.seq (.region 4 (ro Tryz.f9 4) false) (.seq (.region 5 (ro Tryz.f9 5) false) (.seq (.seq (.region 6 (ro Tryz.f9 6) false) (.cond (.tmp 35) (.region 7 (ro Tryz.f9 7) false) (.skip))) (.region 8 (ro Tryz.f9 8) false))))) (.region 9 (ro Tryz.f9 9) false))))))) (.seq (.region 10 (ro Tryz.f9 10) false) (.ret))))
theorem body9 : Tryz.f9.body = some c9 := by kernel_rfl
theorem res9 : Tryz.f9.results.toList.mapM (trR Tryz.prog) = some [.t 4] := by kernel_rfl
theorem nt9 : Tryz.f9.ntmps = 42 := by kernel_rfl
theorem nm9 : (Tryz.f9.name == "runtime.NumGoroutine") = false := by kernel_rfl
def a9_0 : List AO := [⟨(some 2), none, .box 25 (.t 0)⟩,
  ⟨(some 4), none, .mv (.v .nils)⟩]
theorem tr9_0 : TR Tryz.f9 42 0 = some a9_0 := by kernel_rfl
def a9_1 : List AO := [⟨(some 10), none, .mv (.t 1)⟩,
  ⟨(some 11), none, .len (.t 10)⟩,
  ⟨(some 12), none, .mks 3 1 8 [(.int .i64 0)] (.v (.int .i64 0)) (.t 11)⟩,
  ⟨(some 5), none, .mv (.t 12)⟩]
theorem tr9_1 : TR Tryz.f9 42 1 = some a9_1 := by kernel_rfl
def a9_2 : List AO := [⟨(some 13), none, .mv (.t 1)⟩,
  ⟨(some 14), none, .len (.t 13)⟩,
  ⟨(some 15), none, .mv (.v (.int .i64 0))⟩]
theorem tr9_2 : TR Tryz.f9 42 2 = some a9_2 := by kernel_rfl
def a9_3 : List AO := [⟨(some 16), none, .bin .lss (.t 15) (.t 14)⟩]
theorem tr9_3 : TR Tryz.f9 42 3 = some a9_3 := by kernel_rfl
def a9_4 : List AO := [⟨(some 17), none, .idx 8 (.t 13) (.t 15)⟩,
  ⟨(some 18), none, .load (some 8) (.t 17)⟩,
  ⟨(some 7), none, .alloc 52 [(.str []), (.int .i64 0), (.int .i64 0), (.str []), (.str []), (.int .i64 0), (.int .i64 0), (.str [])]⟩,
  ⟨none, none, .store 8 (.t 7) (.t 18)⟩]
theorem tr9_4 : TR Tryz.f9 42 4 = some a9_4 := by kernel_rfl
def a9_5 : List AO := [⟨(some 20), none, .load (some 2) (.t 2)⟩,
  ⟨(some 21), none, .fld 0 (.t 7)⟩,
  ⟨(some 22), none, .fld 3 (.t 21)⟩,
  ⟨(some 23), none, .load none (.t 22)⟩,
  ⟨(some 24), none, .fld 0 (.t 7)⟩,
  ⟨(some 25), none, .fld 4 (.t 24)⟩,
  ⟨(some 26), none, .load none (.t 25)⟩,
  ⟨(some 27), none, .call 17 [(.t 20), (.t 23), (.t 26)]⟩,
  ⟨(some 19), none, .mv (.t 27)⟩,
  ⟨(some 28), none, .ext 0 (.t 19)⟩,
  ⟨(some 29), none, .ext 1 (.t 19)⟩,
  ⟨(some 8), none, .mv (.t 28)⟩,
  ⟨(some 9), none, .mv (.t 29)⟩]
theorem tr9_5 : TR Tryz.f9 42 5 = some a9_5 := by kernel_rfl
def a9_6 : List AO := [⟨(some 30), none, .mv (.t 9)⟩,
  ⟨(some 31), none, .bin .neq (.t 30) (.v (.int .i64 0))⟩,
  ⟨(some 32), none, .mv (.t 31)⟩,
  ⟨(some 33), some (32, false), .mv (.t 8)⟩,
  ⟨(some 34), some (32, false), .bin .eql (.t 33) (.v (.int .i64 0))⟩,
  ⟨(some 35), none, .pick (.t 32) (.v (.bool true)) (.t 34)⟩]
theorem tr9_6 : TR Tryz.f9 42 6 = some a9_6 := by kernel_rfl
def a9_7 : List AO := [⟨(some 8), none, .mv (.v (.int .i64 1))⟩]
theorem tr9_7 : TR Tryz.f9 42 7 = some a9_7 := by kernel_rfl
def a9_8 : List AO := [⟨(some 36), none, .mv (.t 5)⟩,
  ⟨(some 37), none, .mv (.t 8)⟩,
  ⟨(some 38), none, .slc 3 1 false [(.t 37)]⟩,
  ⟨(some 39), none, .app 3 1 8 (.t 36) (.t 38)⟩,
  ⟨(some 5), none, .mv (.t 39)⟩]
theorem tr9_8 : TR Tryz.f9 42 8 = some a9_8 := by kernel_rfl
def a9_9 : List AO := [⟨(some 40), none, .bin .add (.t 15) (.v (.int .i64 1))⟩,
  ⟨(some 15), none, .mv (.t 40)⟩]
theorem tr9_9 : TR Tryz.f9 42 9 = some a9_9 := by kernel_rfl
def a9_10 : List AO := [⟨(some 41), none, .mv (.t 5)⟩,
  ⟨(some 4), none, .mv (.t 41)⟩]
theorem tr9_10 : TR Tryz.f9 42 10 = some a9_10 := by kernel_rfl
/-- airline/airlineref39.Weights -/
noncomputable def c10 : Code := .seq (.region 0 (ro Tryz.f10 0) false) (.seq (.region 1 (ro Tryz.f10 1) false) (.seq (.seq (.region 2 (ro Tryz.f10 2) false) (.block 0 (.loop (.seq (.seq (.region 3 (ro Tryz.f10 3) false) (.cond (.tmp 12) (.skip) (.exit 0))) (.seq (.block 1 (.seq (.region 5 (ro Tryz.f10 5) true) (.seq (.seq (.region 6 (ro Tryz.f10 6) false) (.cond (.tmp 37) (.region 7 (ro Tryz.f10 7) false) (.skip))) (.region 8 (ro Tryz.f10 8) false)))) (.region 4 (ro Tryz.f10 4) false)))))) (.seq (.region 9 (ro Tryz.f10 9) false) (.ret))))
theorem body10 : Tryz.f10.body = some c10 := by kernel_rfl
theorem res10 : Tryz.f10.results.toList.mapM (trR Tryz.prog) = some [.t 4] := by kernel_rfl
theorem nt10 : Tryz.f10.ntmps = 43 := by kernel_rfl
theorem nm10 : (Tryz.f10.name == "runtime.NumGoroutine") = false := by kernel_rfl
def a10_0 : List AO := [⟨(some 2), none, .box 25 (.t 0)⟩,
  ⟨(some 4), none, .mv (.v .nils)⟩]
theorem tr10_0 : TR Tryz.f10 43 0 = some a10_0 := by kernel_rfl
def a10_1 : List AO := [⟨(some 5), none, .mv (.v .nils)⟩]
theorem tr10_1 : TR Tryz.f10 43 1 = some a10_1 := by kernel_rfl
def a10_2 : List AO := [⟨(some 6), none, .mv (.v (.int .i64 0))⟩]
theorem tr10_2 : TR Tryz.f10 43 2 = some a10_2 := by kernel_rfl
def a10_3 : List AO := [⟨(some 9), none, .mv (.t 6)⟩,
  ⟨(some 10), none, .mv (.t 1)⟩,
  ⟨(some 11), none, .len (.t 10)⟩,
  ⟨(some 12), none, .bin .lss (.t 9) (.t 11)⟩]
theorem tr10_3 : TR Tryz.f10 43 3 = some a10_3 := by kernel_rfl
def a10_5 : List AO := [⟨(some 16), none, .load (some 2) (.t 2)⟩,
  ⟨(some 17), none, .mv (.t 1)⟩,
  ⟨(some 18), none, .mv (.t 6)⟩,
  ⟨(some 19), none, .idx 8 (.t 17) (.t 18)⟩,
  ⟨(some 20), none, .fld 0 (.t 19)⟩,
  ⟨(some 21), none, .fld 3 (.t 20)⟩,
  ⟨(some 22), none, .load none (.t 21)⟩,
  ⟨(some 23), none, .mv (.t 1)⟩,
  ⟨(some 24), none, .mv (.t 6)⟩,
  ⟨(some 25), none, .idx 8 (.t 23) (.t 24)⟩,
  ⟨(some 26), none, .fld 0 (.t 25)⟩,
  ⟨(some 27), none, .fld 4 (.t 26)⟩,
  ⟨(some 28), none, .load none (.t 27)⟩,
  ⟨(some 29), none, .call 18 [(.t 16), (.t 22), (.t 28)]⟩,
  ⟨(some 15), none, .mv (.t 29)⟩,
  ⟨(some 30), none, .ext 0 (.t 15)⟩,
  ⟨(some 31), none, .ext 1 (.t 15)⟩,
  ⟨(some 7), none, .mv (.t 30)⟩,
  ⟨(some 8), none, .mv (.t 31)⟩]
theorem tr10_5 : TR Tryz.f10 43 5 = some a10_5 := by kernel_rfl
def d10_5 : List (List Nat) := [[], [], [], [1, 2], [1, 2, 3], [1, 2, 3, 4], [1, 2, 3, 4, 5], [], [], [7, 8], [7, 8, 9], [7, 8, 9, 10], [7, 8, 9, 10, 11], [0, 1, 2, 3, 4, 5, 6, 7, 8, 9, 10, 11, 12], [0, 1, 2, 3, 4, 5, 6, 7, 8, 9, 10, 11, 12, 13], [0, 1, 2, 3, 4, 5, 6, 7, 8, 9, 10, 11, 12, 13, 14], [0, 1, 2, 3, 4, 5, 6, 7, 8, 9, 10, 11, 12, 13, 14], [0, 1, 2, 3, 4, 5, 6, 7, 8, 9, 10, 11, 12, 13, 14, 15], [0, 1, 2, 3, 4, 5, 6, 7, 8, 9, 10, 11, 12, 13, 14, 15, 16, 17]]
theorem ok10_5 : okReg (ro Tryz.f10 5) a10_5 d10_5 = true := by kernel_rfl
def a10_6 : List AO := [⟨(some 32), none, .mv (.t 8)⟩,
  ⟨(some 33), none, .bin .neq (.t 32) (.v (.int .i64 0))⟩,
  ⟨(some 34), none, .mv (.t 33)⟩,
  ⟨(some 35), some (34, false), .mv (.t 7)⟩,
  ⟨(some 36), some (34, false), .bin .lss (.t 35) (.v (.int .i64 1))⟩,
  ⟨(some 37), none, .pick (.t 34) (.v (.bool true)) (.t 36)⟩]
theorem tr10_6 : TR Tryz.f10 43 6 = some a10_6 := by kernel_rfl
def a10_7 : List AO := [⟨(some 7), none, .mv (.v (.int .i64 1))⟩]
theorem tr10_7 : TR Tryz.f10 43 7 = some a10_7 := by kernel_rfl
def a10_8 : List AO := [⟨(some 38), none, .mv (.t 5)⟩,
  ⟨(some 39), none, .mv (.t 7)⟩,
  ⟨(some 40), none, .slc 3 1 false [(.t 39)]⟩,
  ⟨(some 41), none, .app 3 1 8 (.t 38) (.t 40)⟩,
  ⟨(some 5), none, .mv (.t 41)⟩]
theorem tr10_8 : TR Tryz.f10 43 8 = some a10_8 := by kernel_rfl
def a10_4 : List AO := [⟨(some 13), none, .mv (.t 6)⟩,
  ⟨(some 14), none, .bin .add (.t 13) (.v (.int .i64 1))⟩,
  ⟨(some 6), none, .mv (.t 14)⟩]
theorem tr10_4 : TR Tryz.f10 43 4 = some a10_4 := by kernel_rfl
def a10_9 : List AO := [⟨(some 42), none, .mv (.t 5)⟩,
  ⟨(some 4), none, .mv (.t 42)⟩]
theorem tr10_9 : TR Tryz.f10 43 9 = some a10_9 := by kernel_rfl
/-- airline/airlineref06.Check -/
noncomputable def c11 : Code := .seq (.region 0 (ro Tryz.f11 0) false) (.seq (.region 1 (ro Tryz.f11 1) false) (.seq (.seq (.region 2 (ro Tryz.f11 2) false) (.block 0 (.loop (.seq (.seq (.region 3 (ro Tryz.f11 3) false) (.cond (.tmp 14) (.skip) (.exit 0))) (.seq (.block 1 (.seq (.region 5 (ro Tryz.f11 5) false) (.seq (.region 6 (ro Tryz.f11 6) false) (.block 2 (.loop (.seq (.seq (.region 7 (ro Tryz.f11 7) false) (.cond (.tmp 23) (.skip) (.exit 2))) (.seq (.block 3 (.region 9 (ro Tryz.f11 9) true)) (.region 8 (ro Tryz.f11 8) false)))))))) (.region 4 (ro Tryz.f11 4) false)))))) (.seq (.seq (.region 10 (ro Tryz.f11 10) false) (.block 4 (.loop (.seq (.seq (.region 11 (ro Tryz.f11 11) false) (.cond (.tmp 41) (.skip) (.exit 4))) (.seq (.block 5 (.seq (.region 13 (ro Tryz.f11 13) false) (.seq (.region 14 (ro Tryz.f11 14) false) (.block 6 (.loop (.seq (.seq (.region 15 (ro Tryz.f11 15) false) (.cond (.tmp 50) (.skip) (.exit 6))) (.seq (.block 7 (.region 17 (ro Tryz.f11 17) true)) (.region 16 (ro Tryz.f11 16) false)))))))) (.region 12 (ro Tryz.f11 12) false)))))) (.seq (.region 18 (ro Tryz.f11 18) false) (.ret)))))
theorem body11 : Tryz.f11.body = some c11 := by kernel_rfl
theorem res11 : Tryz.f11.results.toList.mapM (trR Tryz.prog) = some [.t 2] := by kernel_rfl
theorem nt11 : Tryz.f11.ntmps = 65 := by kernel_rfl
theorem nm11 : (Tryz.f11.name == "runtime.NumGoroutine") = false := by kernel_rfl
def a11_0 : List AO := [⟨(some 1), none, .box 25 (.t 0)⟩,
  ⟨(some 2), none, .mv (.v .nils)⟩]
theorem tr11_0 : TR Tryz.f11 65 0 = some a11_0 := by kernel_rfl
def a11_1 : List AO := [⟨(some 3), none, .mv (.v .nils)⟩]
theorem tr11_1 : TR Tryz.f11 65 1 = some a11_1 := by kernel_rfl
def a11_2 : List AO := [⟨(some 4), none, .mv (.v (.int .i64 0))⟩]
theorem tr11_2 : TR Tryz.f11 65 2 = some a11_2 := by kernel_rfl
def a11_3 : List AO := [⟨(some 10), none, .mv (.t 4)⟩,
  ⟨(some 11), none, .fld 0 (.t 1)⟩,
  ⟨(some 12), none, .load none (.t 11)⟩,
  ⟨(some 13), none, .len (.t 12)⟩,
  ⟨(some 14), none, .bin .lss (.t 10) (.t 13)⟩]
theorem tr11_3 : TR Tryz.f11 65 3 = some a11_3 := by kernel_rfl
def a11_5 : List AO := [⟨(some 17), none, .load (some 2) (.t 1)⟩,
  ⟨(some 18), none, .mv (.t 4)⟩,
  ⟨(some 19), none, .call 19 [(.t 17), (.t 18)]⟩,
  ⟨(some 5), none, .mv (.t 19)⟩]
theorem tr11_5 : TR Tryz.f11 65 5 = some a11_5 := by kernel_rfl
def a11_6 : List AO := [⟨(some 6), none, .mv (.v (.int .i64 0))⟩]
theorem tr11_6 : TR Tryz.f11 65 6 = some a11_6 := by kernel_rfl
def a11_7 : List AO := [⟨(some 20), none, .mv (.t 6)⟩,
  ⟨(some 21), none, .mv (.t 5)⟩,
  ⟨(some 22), none, .len (.t 21)⟩,
  ⟨(some 23), none, .bin .lss (.t 20) (.t 22)⟩]
theorem tr11_7 : TR Tryz.f11 65 7 = some a11_7 := by kernel_rfl
def a11_9 : List AO := [⟨(some 26), none, .mv (.t 3)⟩,
  ⟨(some 27), none, .mv (.t 5)⟩,
  ⟨(some 28), none, .mv (.t 6)⟩,
  ⟨(some 29), none, .idx 1 (.t 27) (.t 28)⟩,
  ⟨(some 30), none, .load none (.t 29)⟩,
  ⟨(some 31), none, .mv (.t 4)⟩,
  ⟨(some 32), none, .call 20 [(.t 31)]⟩,
  ⟨(some 33), none, .bin .add (.v (.str [97, 105, 114, 112, 111, 114, 116, 32])) (.t 32)⟩,
  ⟨(some 34), none, .build [(.int .i64 0), (.str [])] [(0, 1, (.t 30)), (1, 1, (.t 33))]⟩,
  ⟨(some 35), none, .slc 76 2 false [(.t 34)]⟩,
  ⟨(some 36), none, .app 76 2 24 (.t 26) (.t 35)⟩,
  ⟨(some 3), none, .mv (.t 36)⟩]
theorem tr11_9 : TR Tryz.f11 65 9 = some a11_9 := by kernel_rfl
def d11_9 : List (List Nat) := [[], [], [], [1, 2], [1, 2, 3], [], [5], [5, 6], [1, 2, 3, 4, 5, 6, 7], [1, 2, 3, 4, 5, 6, 7, 8], [0, 1, 2, 3, 4, 5, 6, 7, 8, 9], [0, 1, 2, 3, 4, 5, 6, 7, 8, 9, 10]]
theorem ok11_9 : okReg (ro Tryz.f11 9) a11_9 d11_9 = true := by kernel_rfl
def a11_8 : List AO := [⟨(some 24), none, .mv (.t 6)⟩,
  ⟨(some 25), none, .bin .add (.t 24) (.v (.int .i64 1))⟩,
  ⟨(some 6), none, .mv (.t 25)⟩]
theorem tr11_8 : TR Tryz.f11 65 8 = some a11_8 := by kernel_rfl
def a11_4 : List AO := [⟨(some 15), none, .mv (.t 4)⟩,
  ⟨(some 16), none, .bin .add (.t 15) (.v (.int .i64 1))⟩,
  ⟨(some 4), none, .mv (.t 16)⟩]
theorem tr11_4 : TR Tryz.f11 65 4 = some a11_4 := by kernel_rfl
def a11_10 : List AO := [⟨(some 7), none, .mv (.v (.int .i64 0))⟩]
theorem tr11_10 : TR Tryz.f11 65 10 = some a11_10 := by kernel_rfl
def a11_11 : List AO := [⟨(some 37), none, .mv (.t 7)⟩,
  ⟨(some 38), none, .fld 1 (.t 1)⟩,
  ⟨(some 39), none, .load none (.t 38)⟩,
  ⟨(some 40), none, .len (.t 39)⟩,
  ⟨(some 41), none, .bin .lss (.t 37) (.t 40)⟩]
theorem tr11_11 : TR Tryz.f11 65 11 = some a11_11 := by kernel_rfl
def a11_13 : List AO := [⟨(some 44), none, .load (some 2) (.t 1)⟩,
  ⟨(some 45), none, .mv (.t 7)⟩,
  ⟨(some 46), none, .call 21 [(.t 44), (.t 45)]⟩,
  ⟨(some 8), none, .mv (.t 46)⟩]
theorem tr11_13 : TR Tryz.f11 65 13 = some a11_13 := by kernel_rfl
def a11_14 : List AO := [⟨(some 9), none, .mv (.v (.int .i64 0))⟩]
theorem tr11_14 : TR Tryz.f11 65 14 = some a11_14 := by kernel_rfl
def a11_15 : List AO := [⟨(some 47), none, .mv (.t 9)⟩,
  ⟨(some 48), none, .mv (.t 8)⟩,
  ⟨(some 49), none, .len (.t 48)⟩,
  ⟨(some 50), none, .bin .lss (.t 47) (.t 49)⟩]
theorem tr11_15 : TR Tryz.f11 65 15 = some a11_15 := by kernel_rfl
def a11_17 : List AO := [⟨(some 53), none, .mv (.t 3)⟩,
  ⟨(some 54), none, .mv (.t 8)⟩,
  ⟨(some 55), none, .mv (.t 9)⟩,
  ⟨(some 56), none, .idx 1 (.t 54) (.t 55)⟩,
  ⟨(some 57), none, .load none (.t 56)⟩,
  ⟨(some 58), none, .mv (.t 7)⟩,
  ⟨(some 59), none, .call 20 [(.t 58)]⟩,
  ⟨(some 60), none, .bin .add (.v (.str [100, 105, 115, 116, 97, 110, 99, 101, 32])) (.t 59)⟩,
  ⟨(some 61), none, .build [(.int .i64 0), (.str [])] [(0, 1, (.t 57)), (1, 1, (.t 60))]⟩,
  ⟨(some 62), none, .slc 76 2 false [(.t 61)]⟩,
  ⟨(some 63), none, .app 76 2 24 (.t 53) (.t 62)⟩,
  ⟨(some 3), none, .mv (.t 63)⟩]
theorem tr11_17 : TR Tryz.f11 65 17 = some a11_17 := by kernel_rfl
def d11_17 : List (List Nat) := [[], [], [], [1, 2], [1, 2, 3], [], [5], [5, 6], [1, 2, 3, 4, 5, 6, 7], [1, 2, 3, 4, 5, 6, 7, 8], [0, 1, 2, 3, 4, 5, 6, 7, 8, 9], [0, 1, 2, 3, 4, 5, 6, 7, 8, 9, 10]]
theorem ok11_17 : okReg (ro Tryz.f11 17) a11_17 d11_17 = true := by kernel_rfl
def a11_16 : List AO := [⟨(some 51), none, .mv (.t 9)⟩,
  ⟨(some 52), none, .bin .add (.t 51) (.v (.int .i64 1))⟩,
  ⟨(some 9), none, .mv (.t 52)⟩]
theorem tr11_16 : TR Tryz.f11 65 16 = some a11_16 := by kernel_rfl
def a11_12 : List AO := [⟨(some 42), none, .mv (.t 7)⟩,
  ⟨(some 43), none, .bin .add (.t 42) (.v (.int .i64 1))⟩,
  ⟨(some 7), none, .mv (.t 43)⟩]
theorem tr11_12 : TR Tryz.f11 65 12 = some a11_12 := by kernel_rfl
def a11_18 : List AO := [⟨(some 64), none, .mv (.t 3)⟩,
  ⟨(some 2), none, .mv (.t 64)⟩]
theorem tr11_18 : TR Tryz.f11 65 18 = some a11_18 := by kernel_rfl
/-- airline/prorate.Shares -/
noncomputable def c12 : Code := .seq (.region 0 (ro Tryz.f12 0) false) (.seq (.seq (.region 1 (ro Tryz.f12 1) false) (.cond (.tmp 20) (.seq (.region 2 (ro Tryz.f12 2) false) (.ret)) (.skip))) (.seq (.region 3 (ro Tryz.f12 3) false) (.seq (.seq (.region 4 (ro Tryz.f12 4) false) (.block 0 (.loop (.seq (.region 5 (ro Tryz.f12 5) false) (.seq (.cond (.tmp 26) (.skip) (.exit 0)) (.seq (.block 1 (.seq (.region 6 (ro Tryz.f12 6) false) (.seq (.region 7 (ro Tryz.f12 7) false) (.cond (.tmp 32) (.region 8 (ro Tryz.f12 8) true) (.skip))))) (.region 9 (ro Tryz.f12 9) false))))))) (.seq (.region 10 (ro Tryz.f12 10) false) (.seq (.region 11 (ro Tryz.f12 11) false) (.seq (.seq (.region 12 (ro Tryz.f12 12) false) (.block 2 (.loop (.seq (.region 13 (ro Tryz.f12 13) false) (.seq (.cond (.tmp 58) (.skip) (.exit 2)) (.seq (.block 3 (.seq (.region 14 (ro Tryz.f12 14) false) (.region 15 (ro Tryz.f12 15) false))) (.region 16 (ro Tryz.f12 16) false))))))) (.seq (.region 17 (ro Tryz.f12 17) false) (.ret))))))))
theorem body12 : Tryz.f12.body = some c12 := by kernel_rfl
theorem res12 : Tryz.f12.results.toList.mapM (trR Tryz.prog) = some [.t 4, .t 5] := by kernel_rfl
theorem nt12 : Tryz.f12.ntmps = 74 := by kernel_rfl
theorem nm12 : (Tryz.f12.name == "runtime.NumGoroutine") = false := by kernel_rfl
def a12_0 : List AO := [⟨(some 2), none, .box 61 (.t 0)⟩,
  ⟨(some 4), none, .mv (.v .nils)⟩,
  ⟨(some 5), none, .mv (.v (.int .i64 0))⟩]
theorem tr12_0 : TR Tryz.f12 74 0 = some a12_0 := by kernel_rfl
def a12_1 : List AO := [⟨(some 15), none, .mv (.t 1)⟩,
  ⟨(some 16), none, .len (.t 15)⟩,
  ⟨(some 17), none, .fld 5 (.t 2)⟩,
  ⟨(some 18), none, .load none (.t 17)⟩,
  ⟨(some 19), none, .len (.t 18)⟩,
  ⟨(some 20), none, .bin .neq (.t 16) (.t 19)⟩]
theorem tr12_1 : TR Tryz.f12 74 1 = some a12_1 := by kernel_rfl
def a12_2 : List AO := [⟨(some 4), none, .mv (.v .nils)⟩,
  ⟨(some 5), none, .mv (.v (.int .i64 2))⟩]
theorem tr12_2 : TR Tryz.f12 74 2 = some a12_2 := by kernel_rfl
def a12_3 : List AO := [⟨(some 21), none, .mkmap⟩,
  ⟨(some 6), none, .mv (.t 21)⟩]
theorem tr12_3 : TR Tryz.f12 74 3 = some a12_3 := by kernel_rfl
def a12_4 : List AO := [⟨(some 22), none, .fld 5 (.t 2)⟩,
  ⟨(some 23), none, .load none (.t 22)⟩,
  ⟨(some 24), none, .len (.t 23)⟩,
  ⟨(some 25), none, .mv (.v (.int .i64 0))⟩]
theorem tr12_4 : TR Tryz.f12 74 4 = some a12_4 := by kernel_rfl
def a12_5 : List AO := [⟨(some 26), none, .bin .lss (.t 25) (.t 24)⟩]
theorem tr12_5 : TR Tryz.f12 74 5 = some a12_5 := by kernel_rfl
def a12_6 : List AO := [⟨(some 27), none, .mv (.t 25)⟩,
  ⟨(some 28), none, .idx 11 (.t 23) (.t 25)⟩,
  ⟨(some 29), none, .load (some 11) (.t 28)⟩,
  ⟨(some 8), none, .alloc 56 [(.str []), (.int .i64 0), (.int .i64 0), (.str []), (.str []), (.int .i64 0), (.int .i64 0), (.str []), (.str []), (.int .i64 0), (.int .i64 0)]⟩,
  ⟨(some 7), none, .mv (.t 27)⟩,
  ⟨none, none, .store 11 (.t 8) (.t 29)⟩]
theorem tr12_6 : TR Tryz.f12 74 6 = some a12_6 := by kernel_rfl
def a12_7 : List AO := [⟨(some 30), none, .fld 9 (.t 8)⟩,
  ⟨(some 31), none, .load none (.t 30)⟩,
  ⟨(some 32), none, .bin .eql (.t 31) (.v (.int .i64 5))⟩]
theorem tr12_7 : TR Tryz.f12 74 7 = some a12_7 := by kernel_rfl
def a12_8 : List AO := [⟨(some 33), none, .mv (.t 6)⟩,
  ⟨(some 34), none, .mv (.t 1)⟩,
  ⟨(some 35), none, .mv (.t 7)⟩,
  ⟨(some 36), none, .idx 1 (.t 34) (.t 35)⟩,
  ⟨(some 37), none, .load none (.t 36)⟩,
  ⟨(some 38), none, .mv (.t 6)⟩,
  ⟨(some 39), none, .mv (.t 1)⟩,
  ⟨(some 40), none, .mv (.t 7)⟩,
  ⟨(some 41), none, .idx 1 (.t 39) (.t 40)⟩,
  ⟨(some 42), none, .load none (.t 41)⟩,
  ⟨(some 43), none, .look 0 false .nils (.t 38) (.t 42)⟩,
  ⟨(some 44), none, .fld 10 (.t 8)⟩,
  ⟨(some 45), none, .load none (.t 44)⟩,
  ⟨(some 46), none, .slc 3 1 false [(.t 45)]⟩,
  ⟨(some 47), none, .app 3 1 8 (.t 43) (.t 46)⟩,
  ⟨none, none, .mset 0 (.t 33) (.t 37) (.t 47)⟩]
theorem tr12_8 : TR Tryz.f12 74 8 = some a12_8 := by kernel_rfl
def d12_8 : List (List Nat) := [[], [], [], [1, 2], [1, 2, 3], [], [], [], [6, 7], [6, 7, 8], [5, 6, 7, 8, 9], [], [11], [11, 12], [5, 6, 7, 8, 9, 10, 11, 12, 13], [0, 1, 2, 3, 4, 5, 6, 7, 8, 9, 10, 11, 12, 13, 14]]
theorem ok12_8 : okReg (ro Tryz.f12 8) a12_8 d12_8 = true := by kernel_rfl
def a12_9 : List AO := [⟨(some 48), none, .bin .add (.t 25) (.v (.int .i64 1))⟩,
  ⟨(some 25), none, .mv (.t 48)⟩]
theorem tr12_9 : TR Tryz.f12 74 9 = some a12_9 := by kernel_rfl
def a12_10 : List AO := [⟨(some 50), none, .mv (.t 6)⟩,
  ⟨(some 51), none, .call 22 [(.t 50)]⟩,
  ⟨(some 49), none, .mv (.t 51)⟩,
  ⟨(some 52), none, .ext 0 (.t 49)⟩,
  ⟨(some 53), none, .ext 1 (.t 49)⟩,
  ⟨(some 54), none, .ext 2 (.t 49)⟩,
  ⟨(some 9), none, .mv (.t 52)⟩,
  ⟨(some 10), none, .mv (.t 53)⟩,
  ⟨(some 11), none, .mv (.t 54)⟩]
theorem tr12_10 : TR Tryz.f12 74 10 = some a12_10 := by kernel_rfl
def a12_11 : List AO := [⟨(some 12), none, .mv (.v .nils)⟩]
theorem tr12_11 : TR Tryz.f12 74 11 = some a12_11 := by kernel_rfl
def a12_12 : List AO := [⟨(some 55), none, .mv (.t 9)⟩,
  ⟨(some 56), none, .len (.t 55)⟩,
  ⟨(some 57), none, .mv (.v (.int .i64 0))⟩]
theorem tr12_12 : TR Tryz.f12 74 12 = some a12_12 := by kernel_rfl
def a12_13 : List AO := [⟨(some 58), none, .bin .lss (.t 57) (.t 56)⟩]
theorem tr12_13 : TR Tryz.f12 74 13 = some a12_13 := by kernel_rfl
def a12_14 : List AO := [⟨(some 59), none, .mv (.t 57)⟩,
  ⟨(some 60), none, .idx 1 (.t 55) (.t 57)⟩,
  ⟨(some 61), none, .load none (.t 60)⟩,
  ⟨(some 13), none, .mv (.t 59)⟩,
  ⟨(some 14), none, .mv (.t 61)⟩]
theorem tr12_14 : TR Tryz.f12 74 14 = some a12_14 := by kernel_rfl
def a12_15 : List AO := [⟨(some 62), none, .mv (.t 12)⟩,
  ⟨(some 63), none, .mv (.t 14)⟩,
  ⟨(some 64), none, .mv (.t 10)⟩,
  ⟨(some 65), none, .mv (.t 13)⟩,
  ⟨(some 66), none, .idx 1 (.t 64) (.t 65)⟩,
  ⟨(some 67), none, .load none (.t 66)⟩,
  ⟨(some 68), none, .build [(.str []), (.int .i64 0)] [(0, 1, (.t 63)), (1, 1, (.t 67))]⟩,
  ⟨(some 69), none, .slc 67 2 false [(.t 68)]⟩,
  ⟨(some 70), none, .app 67 2 24 (.t 62) (.t 69)⟩,
  ⟨(some 12), none, .mv (.t 70)⟩]
theorem tr12_15 : TR Tryz.f12 74 15 = some a12_15 := by kernel_rfl
def a12_16 : List AO := [⟨(some 71), none, .bin .add (.t 57) (.v (.int .i64 1))⟩,
  ⟨(some 57), none, .mv (.t 71)⟩]
theorem tr12_16 : TR Tryz.f12 74 16 = some a12_16 := by kernel_rfl
def a12_17 : List AO := [⟨(some 72), none, .mv (.t 12)⟩,
  ⟨(some 73), none, .mv (.t 11)⟩,
  ⟨(some 4), none, .mv (.t 72)⟩,
  ⟨(some 5), none, .mv (.t 73)⟩]
theorem tr12_17 : TR Tryz.f12 74 17 = some a12_17 := by kernel_rfl
/-- airline/prorate.divides -/
noncomputable def c13 : Code := .seq (.region 0 (ro Tryz.f13 0) false) (.seq (.region 1 (ro Tryz.f13 1) false) (.seq (.seq (.region 2 (ro Tryz.f13 2) false) (.block 0 (.loop (.seq (.region 3 (ro Tryz.f13 3) false) (.seq (.cond (.tmp 11) (.skip) (.exit 0)) (.seq (.block 1 (.seq (.region 4 (ro Tryz.f13 4) false) (.seq (.seq (.region 5 (ro Tryz.f13 5) false) (.cond (.tmp 29) (.seq (.region 6 (ro Tryz.f13 6) false) (.ret)) (.skip))) (.region 7 (ro Tryz.f13 7) false)))) (.region 8 (ro Tryz.f13 8) false))))))) (.seq (.region 9 (ro Tryz.f13 9) false) (.ret))))
theorem body13 : Tryz.f13.body = some c13 := by kernel_rfl
theorem res13 : Tryz.f13.results.toList.mapM (trR Tryz.prog) = some [.t 4] := by kernel_rfl
theorem nt13 : Tryz.f13.ntmps = 36 := by kernel_rfl
theorem nm13 : (Tryz.f13.name == "runtime.NumGoroutine") = false := by kernel_rfl
def a13_0 : List AO := [⟨(some 4), none, .mv (.v (.bool false))⟩]
theorem tr13_0 : TR Tryz.f13 36 0 = some a13_0 := by kernel_rfl
def a13_1 : List AO := [⟨(some 5), none, .mv (.v (.int .i64 0))⟩]
theorem tr13_1 : TR Tryz.f13 36 1 = some a13_1 := by kernel_rfl
def a13_2 : List AO := [⟨(some 8), none, .mv (.t 0)⟩,
  ⟨(some 9), none, .len (.t 8)⟩,
  ⟨(some 10), none, .mv (.v (.int .i64 0))⟩]
theorem tr13_2 : TR Tryz.f13 36 2 = some a13_2 := by kernel_rfl
def a13_3 : List AO := [⟨(some 11), none, .bin .lss (.t 10) (.t 9)⟩]
theorem tr13_3 : TR Tryz.f13 36 3 = some a13_3 := by kernel_rfl
def a13_4 : List AO := [⟨(some 12), none, .idx 4 (.t 8) (.t 10)⟩,
  ⟨(some 13), none, .load (some 4) (.t 12)⟩,
  ⟨(some 7), none, .alloc 54 [(.int .i64 0), (.int .i64 0), (.int .i64 0), (.int .i64 0)]⟩,
  ⟨none, none, .store 4 (.t 7) (.t 13)⟩]
theorem tr13_4 : TR Tryz.f13 36 4 = some a13_4 := by kernel_rfl
def a13_5 : List AO := [⟨(some 14), none, .fld 0 (.t 7)⟩,
  ⟨(some 15), none, .load none (.t 14)⟩,
  ⟨(some 16), none, .mv (.t 5)⟩,
  ⟨(some 17), none, .bin .neq (.t 15) (.t 16)⟩,
  ⟨(some 18), none, .mv (.t 17)⟩,
  ⟨(some 19), some (18, false), .fld 1 (.t 7)⟩,
  ⟨(some 20), some (18, false), .load none (.t 19)⟩,
  ⟨(some 21), some (18, false), .mv (.t 5)⟩,
  ⟨(some 22), some (18, false), .bin .leq (.t 20) (.t 21)⟩,
  ⟨(some 23), none, .pick (.t 18) (.v (.bool true)) (.t 22)⟩,
  ⟨(some 24), none, .mv (.t 23)⟩,
  ⟨(some 25), some (24, false), .fld 1 (.t 7)⟩,
  ⟨(some 26), some (24, false), .load none (.t 25)⟩,
  ⟨(some 27), some (24, false), .mv (.t 1)⟩,
  ⟨(some 28), some (24, false), .bin .gtr (.t 26) (.t 27)⟩,
  ⟨(some 29), none, .pick (.t 24) (.v (.bool true)) (.t 28)⟩]
theorem tr13_5 : TR Tryz.f13 36 5 = some a13_5 := by kernel_rfl
def a13_6 : List AO := [⟨(some 4), none, .mv (.v (.bool false))⟩]
theorem tr13_6 : TR Tryz.f13 36 6 = some a13_6 := by kernel_rfl
def a13_7 : List AO := [⟨(some 30), none, .fld 1 (.t 7)⟩,
  ⟨(some 31), none, .load none (.t 30)⟩,
  ⟨(some 5), none, .mv (.t 31)⟩]
theorem tr13_7 : TR Tryz.f13 36 7 = some a13_7 := by kernel_rfl
def a13_8 : List AO := [⟨(some 32), none, .bin .add (.t 10) (.v (.int .i64 1))⟩,
  ⟨(some 10), none, .mv (.t 32)⟩]
theorem tr13_8 : TR Tryz.f13 36 8 = some a13_8 := by kernel_rfl
def a13_9 : List AO := [⟨(some 33), none, .mv (.t 5)⟩,
  ⟨(some 34), none, .mv (.t 1)⟩,
  ⟨(some 35), none, .bin .eql (.t 33) (.t 34)⟩,
  ⟨(some 4), none, .mv (.t 35)⟩]
theorem tr13_9 : TR Tryz.f13 36 9 = some a13_9 := by kernel_rfl
/-- airline/money.Split -/
noncomputable def c14 : Code := .seq (.region 0 (ro Tryz.f14 0) false) (.seq (.region 1 (ro Tryz.f14 1) false) (.seq (.seq (.region 2 (ro Tryz.f14 2) false) (.cond (.tmp 28) (.seq (.region 3 (ro Tryz.f14 3) false) (.ret)) (.skip))) (.seq (.seq (.region 4 (ro Tryz.f14 4) false) (.cond (.tmp 36) (.seq (.region 5 (ro Tryz.f14 5) false) (.ret)) (.skip))) (.seq (.region 6 (ro Tryz.f14 6) false) (.seq (.seq (.region 7 (ro Tryz.f14 7) false) (.cond (.tmp 41) (.region 8 (ro Tryz.f14 8) false) (.skip))) (.seq (.region 9 (ro Tryz.f14 9) true) (.seq (.region 10 (ro Tryz.f14 10) false) (.seq (.seq (.region 11 (ro Tryz.f14 11) false) (.block 0 (.loop (.seq (.region 12 (ro Tryz.f14 12) false) (.seq (.cond (.tmp 52) (.skip) (.exit 0)) (.seq (.block 1 (.seq (.region 13 (ro Tryz.f14 13) false) (.seq (.region 14 (ro Tryz.f14 14) false) (.seq (.region 15 (ro Tryz.f14 15) false) (.region 16 (ro Tryz.f14 16) false))))) (.region 17 (ro Tryz.f14 17) false))))))) (.seq (.region 18 (ro Tryz.f14 18) false) (.seq (.seq (.region 19 (ro Tryz.f14 19) false) (.block 2 (.loop (.seq (.region 20 (ro Tryz.f14 20) false) (.seq (.cond (.tmp 83) (.skip) (.exit 2)) (.seq (.block 3 (.seq (.region 21 (ro Tryz.f14 21) false) (.region 22 (ro Tryz.f14 22) false))) (.region 23 (ro Tryz.f14 23) false))))))) (.seq (.region 24 (ro Tryz.f14 24) false) (.seq (.seq (.region 25 (ro Tryz.f14 25) false) (.block 4 (.loop (.seq (.region 26 (ro Tryz.f14 26) false) (.seq (.cond (.tmp 97) (.skip) (.exit 4)) (.seq (.block 5 (.seq (.region 27 (ro Tryz.f14 27) false) (.seq (.region 28 (ro Tryz.f14 28) false) (.cond (.tmp 101) (.region 29 (ro Tryz.f14 29) false) (.skip))))) (.region 30 (ro Tryz.f14 30) false))))))) (.seq (.region 31 (ro Tryz.f14 31) false) (.ret))))))))))))))
theorem body14 : Tryz.f14.body = some c14 := by kernel_rfl
theorem res14 : Tryz.f14.results.toList.mapM (trR Tryz.prog) = some [.t 4, .t 5] := by kernel_rfl
theorem nt14 : Tryz.f14.ntmps = 107 := by kernel_rfl
theorem nm14 : (Tryz.f14.name == "runtime.NumGoroutine") = false := by kernel_rfl
def a14_0 : List AO := [⟨(some 4), none, .mv (.v .nils)⟩,
  ⟨(some 5), none, .mv (.v (.int .i64 0))⟩]
theorem tr14_0 : TR Tryz.f14 107 0 = some a14_0 := by kernel_rfl
def a14_1 : List AO := [⟨(some 23), none, .mv (.t 1)⟩,
  ⟨(some 24), none, .call 23 [(.t 23)]⟩,
  ⟨(some 22), none, .mv (.t 24)⟩,
  ⟨(some 25), none, .ext 0 (.t 22)⟩,
  ⟨(some 26), none, .ext 1 (.t 22)⟩,
  ⟨(some 6), none, .mv (.t 25)⟩,
  ⟨(some 7), none, .mv (.t 26)⟩]
theorem tr14_1 : TR Tryz.f14 107 1 = some a14_1 := by kernel_rfl
def a14_2 : List AO := [⟨(some 27), none, .mv (.t 7)⟩,
  ⟨(some 28), none, .bin .neq (.t 27) (.v (.int .i64 0))⟩]
theorem tr14_2 : TR Tryz.f14 107 2 = some a14_2 := by kernel_rfl
def a14_3 : List AO := [⟨(some 29), none, .mv (.t 7)⟩,
  ⟨(some 4), none, .mv (.v .nils)⟩,
  ⟨(some 5), none, .mv (.t 29)⟩]
theorem tr14_3 : TR Tryz.f14 107 3 = some a14_3 := by kernel_rfl
def a14_4 : List AO := [⟨(some 30), none, .mv (.t 0)⟩,
  ⟨(some 31), none, .call 24 [(.t 30)]⟩,
  ⟨(some 32), none, .un .not (.t 31)⟩,
  ⟨(some 33), none, .mv (.t 32)⟩,
  ⟨(some 34), some (33, false), .mv (.t 6)⟩,
  ⟨(some 35), some (33, false), .bin .gtr (.t 34) (.v (.int .i64 1099511627776))⟩,
  ⟨(some 36), none, .pick (.t 33) (.v (.bool true)) (.t 35)⟩]
theorem tr14_4 : TR Tryz.f14 107 4 = some a14_4 := by kernel_rfl
def a14_5 : List AO := [⟨(some 4), none, .mv (.v .nils)⟩,
  ⟨(some 5), none, .mv (.v (.int .i64 11))⟩]
theorem tr14_5 : TR Tryz.f14 107 5 = some a14_5 := by kernel_rfl
def a14_6 : List AO := [⟨(some 37), none, .mv (.t 0)⟩,
  ⟨(some 38), none, .call 25 [(.t 37)]⟩,
  ⟨(some 39), none, .conv .i64 (.t 38)⟩,
  ⟨(some 8), none, .alloc 3 [(.int .i64 0)]⟩,
  ⟨(some 9), none, .alloc 3 [(.int .i64 0)]⟩,
  ⟨none, none, .store 1 (.t 8) (.t 39)⟩,
  ⟨none, none, .store 1 (.t 9) (.v (.int .i64 1))⟩]
theorem tr14_6 : TR Tryz.f14 107 6 = some a14_6 := by kernel_rfl
def a14_7 : List AO := [⟨(some 40), none, .mv (.t 0)⟩,
  ⟨(some 41), none, .bin .lss (.t 40) (.v (.int .i64 0))⟩]
theorem tr14_7 : TR Tryz.f14 107 7 = some a14_7 := by kernel_rfl
def a14_8 : List AO := [⟨none, none, .store 1 (.t 9) (.v (.int .i64 (-1)))⟩]
theorem tr14_8 : TR Tryz.f14 107 8 = some a14_8 := by kernel_rfl
def a14_9 : List AO := [⟨(some 42), none, .mv (.t 1)⟩,
  ⟨(some 43), none, .len (.t 42)⟩,
  ⟨(some 44), none, .mks 3 1 8 [(.int .i64 0)] (.t 43) (.t 43)⟩,
  ⟨(some 45), none, .mv (.t 1)⟩,
  ⟨(some 46), none, .len (.t 45)⟩,
  ⟨(some 47), none, .mks 82 1 8 [(.int .u64 0)] (.t 46) (.t 46)⟩,
  ⟨(some 10), none, .alloc 34 [.nils]⟩,
  ⟨(some 11), none, .alloc 84 [.nils]⟩,
  ⟨none, none, .store 1 (.t 10) (.t 44)⟩,
  ⟨none, none, .store 1 (.t 11) (.t 47)⟩]
theorem tr14_9 : TR Tryz.f14 107 9 = some a14_9 := by kernel_rfl
def d14_9 : List (List Nat) := [[], [0], [0, 1], [], [3], [3, 4], [], [], [0, 1, 2, 6, 7], [0, 1, 2, 3, 4, 5, 6, 7, 8]]
theorem ok14_9 : okReg (ro Tryz.f14 9) a14_9 d14_9 = true := by kernel_rfl
def a14_10 : List AO := [⟨(some 48), none, .mkfn 26 [(.t 10), (.t 9), (.t 8)]⟩,
  ⟨(some 12), none, .mv (.t 48)⟩]
theorem tr14_10 : TR Tryz.f14 107 10 = some a14_10 := by kernel_rfl
def a14_11 : List AO := [⟨(some 49), none, .mv (.t 1)⟩,
  ⟨(some 50), none, .len (.t 49)⟩,
  ⟨(some 51), none, .mv (.v (.int .i64 0))⟩]
theorem tr14_11 : TR Tryz.f14 107 11 = some a14_11 := by kernel_rfl
def a14_12 : List AO := [⟨(some 52), none, .bin .lss (.t 51) (.t 50)⟩]
theorem tr14_12 : TR Tryz.f14 107 12 = some a14_12 := by kernel_rfl
def a14_13 : List AO := [⟨(some 53), none, .mv (.t 51)⟩,
  ⟨(some 54), none, .idx 1 (.t 49) (.t 51)⟩,
  ⟨(some 55), none, .load none (.t 54)⟩,
  ⟨(some 13), none, .mv (.t 53)⟩,
  ⟨(some 14), none, .mv (.t 55)⟩]
theorem tr14_13 : TR Tryz.f14 107 13 = some a14_13 := by kernel_rfl
def a14_14 : List AO := [⟨(some 57), none, .mv (.t 0)⟩,
  ⟨(some 58), none, .call 25 [(.t 57)]⟩,
  ⟨(some 59), none, .mv (.t 14)⟩,
  ⟨(some 60), none, .conv .u64 (.t 59)⟩,
  ⟨(some 61), none, .mv (.t 6)⟩,
  ⟨(some 62), none, .conv .u64 (.t 61)⟩,
  ⟨(some 63), none, .call 27 [(.t 58), (.t 60), (.t 62)]⟩,
  ⟨(some 56), none, .mv (.t 63)⟩,
  ⟨(some 64), none, .ext 0 (.t 56)⟩,
  ⟨(some 65), none, .ext 1 (.t 56)⟩,
  ⟨(some 66), none, .ext 2 (.t 56)⟩,
  ⟨(some 15), none, .mv (.t 64)⟩,
  ⟨(some 16), none, .mv (.t 65)⟩,
  ⟨(some 17), none, .mv (.t 66)⟩]
theorem tr14_14 : TR Tryz.f14 107 14 = some a14_14 := by kernel_rfl
def a14_15 : List AO := [⟨(some 67), none, .load none (.t 11)⟩,
  ⟨(some 68), none, .mv (.t 13)⟩,
  ⟨(some 69), none, .mv (.t 16)⟩,
  ⟨(some 70), none, .idx 1 (.t 67) (.t 68)⟩,
  ⟨none, none, .store 1 (.t 70) (.t 69)⟩]
theorem tr14_15 : TR Tryz.f14 107 15 = some a14_15 := by kernel_rfl
def a14_16 : List AO := [⟨(some 71), none, .mv (.t 12)⟩,
  ⟨(some 72), none, .mv (.t 13)⟩,
  ⟨(some 73), none, .mv (.t 15)⟩,
  ⟨(some 74), none, .conv .i64 (.t 73)⟩,
  ⟨(some 75), none, .callv (.t 71) [(.t 72), (.t 74)]⟩]
theorem tr14_16 : TR Tryz.f14 107 16 = some a14_16 := by kernel_rfl
def a14_17 : List AO := [⟨(some 76), none, .bin .add (.t 51) (.v (.int .i64 1))⟩,
  ⟨(some 51), none, .mv (.t 76)⟩]
theorem tr14_17 : TR Tryz.f14 107 17 = some a14_17 := by kernel_rfl
def a14_18 : List AO := [⟨(some 77), none, .mv (.t 1)⟩,
  ⟨(some 78), none, .len (.t 77)⟩,
  ⟨(some 79), none, .mks 3 1 8 [(.int .i64 0)] (.t 78) (.t 78)⟩,
  ⟨(some 18), none, .alloc 34 [.nils]⟩,
  ⟨none, none, .store 1 (.t 18) (.t 79)⟩]
theorem tr14_18 : TR Tryz.f14 107 18 = some a14_18 := by kernel_rfl
def a14_19 : List AO := [⟨(some 80), none, .load none (.t 18)⟩,
  ⟨(some 81), none, .len (.t 80)⟩,
  ⟨(some 82), none, .mv (.v (.int .i64 0))⟩]
theorem tr14_19 : TR Tryz.f14 107 19 = some a14_19 := by kernel_rfl
def a14_20 : List AO := [⟨(some 83), none, .bin .lss (.t 82) (.t 81)⟩]
theorem tr14_20 : TR Tryz.f14 107 20 = some a14_20 := by kernel_rfl
def a14_21 : List AO := [⟨(some 84), none, .mv (.t 82)⟩,
  ⟨(some 19), none, .mv (.t 84)⟩]
theorem tr14_21 : TR Tryz.f14 107 21 = some a14_21 := by kernel_rfl
def a14_22 : List AO := [⟨(some 85), none, .load none (.t 18)⟩,
  ⟨(some 86), none, .mv (.t 19)⟩,
  ⟨(some 87), none, .mv (.t 19)⟩,
  ⟨(some 88), none, .idx 1 (.t 85) (.t 86)⟩,
  ⟨none, none, .store 1 (.t 88) (.t 87)⟩]
theorem tr14_22 : TR Tryz.f14 107 22 = some a14_22 := by kernel_rfl
def a14_23 : List AO := [⟨(some 89), none, .bin .add (.t 82) (.v (.int .i64 1))⟩,
  ⟨(some 82), none, .mv (.t 89)⟩]
theorem tr14_23 : TR Tryz.f14 107 23 = some a14_23 := by kernel_rfl
def a14_24 : List AO := [⟨(some 90), none, .load none (.t 18)⟩,
  ⟨(some 91), none, .mki 34 (.t 90)⟩,
  ⟨(some 92), none, .mkfn 29 [(.t 11), (.t 18)]⟩,
  ⟨(some 93), none, .call 28 [(.t 91), (.t 92)]⟩]
theorem tr14_24 : TR Tryz.f14 107 24 = some a14_24 := by kernel_rfl
def a14_25 : List AO := [⟨(some 94), none, .load none (.t 18)⟩,
  ⟨(some 95), none, .len (.t 94)⟩,
  ⟨(some 96), none, .mv (.v (.int .i64 0))⟩]
theorem tr14_25 : TR Tryz.f14 107 25 = some a14_25 := by kernel_rfl
def a14_26 : List AO := [⟨(some 97), none, .bin .lss (.t 96) (.t 95)⟩]
theorem tr14_26 : TR Tryz.f14 107 26 = some a14_26 := by kernel_rfl
def a14_27 : List AO := [⟨(some 98), none, .idx 1 (.t 94) (.t 96)⟩,
  ⟨(some 99), none, .load none (.t 98)⟩,
  ⟨(some 21), none, .mv (.t 99)⟩]
theorem tr14_27 : TR Tryz.f14 107 27 = some a14_27 := by kernel_rfl
def a14_28 : List AO := [⟨(some 100), none, .load none (.t 8)⟩,
  ⟨(some 101), none, .bin .gtr (.t 100) (.v (.int .i64 0))⟩]
theorem tr14_28 : TR Tryz.f14 107 28 = some a14_28 := by kernel_rfl
def a14_29 : List AO := [⟨(some 102), none, .mv (.t 12)⟩,
  ⟨(some 103), none, .mv (.t 21)⟩,
  ⟨(some 104), none, .callv (.t 102) [(.t 103), (.v (.int .i64 1))]⟩]
theorem tr14_29 : TR Tryz.f14 107 29 = some a14_29 := by kernel_rfl
def a14_30 : List AO := [⟨(some 105), none, .bin .add (.t 96) (.v (.int .i64 1))⟩,
  ⟨(some 96), none, .mv (.t 105)⟩]
theorem tr14_30 : TR Tryz.f14 107 30 = some a14_30 := by kernel_rfl
def a14_31 : List AO := [⟨(some 106), none, .load none (.t 10)⟩,
  ⟨(some 4), none, .mv (.t 106)⟩,
  ⟨(some 5), none, .mv (.v (.int .i64 0))⟩]
theorem tr14_31 : TR Tryz.f14 107 31 = some a14_31 := by kernel_rfl
/-- airline/airlineref39.Divides -/
noncomputable def c15 : Code := .seq (.region 0 (ro Tryz.f15 0) false) (.seq (.region 1 (ro Tryz.f15 1) false) (.seq (.seq (.region 2 (ro Tryz.f15 2) false) (.block 0 (.loop (.seq (.seq (.region 3 (ro Tryz.f15 3) false) (.cond (.tmp 10) (.skip) (.exit 0))) (.seq (.block 1 (.seq (.seq (.region 5 (ro Tryz.f15 5) false) (.cond (.tmp 37) (.seq (.region 6 (ro Tryz.f15 6) false) (.ret)) (.skip))) (.region 7 (ro Tryz.f15 7) false))) (.region 4 (ro Tryz.f15 4) false)))))) (.seq (.region 8 (ro Tryz.f15 8) false) (.ret))))
theorem body15 : Tryz.f15.body = some c15 := by kernel_rfl
theorem res15 : Tryz.f15.results.toList.mapM (trR Tryz.prog) = some [.t 4] := by kernel_rfl
theorem nt15 : Tryz.f15.ntmps = 46 := by kernel_rfl
theorem nm15 : (Tryz.f15.name == "runtime.NumGoroutine") = false := by kernel_rfl
def a15_0 : List AO := [⟨(some 4), none, .mv (.v (.bool false))⟩]
theorem tr15_0 : TR Tryz.f15 46 0 = some a15_0 := by kernel_rfl
def a15_1 : List AO := [⟨(some 5), none, .mv (.v (.int .i64 0))⟩]
theorem tr15_1 : TR Tryz.f15 46 1 = some a15_1 := by kernel_rfl
def a15_2 : List AO := [⟨(some 6), none, .mv (.v (.int .i64 0))⟩]
theorem tr15_2 : TR Tryz.f15 46 2 = some a15_2 := by kernel_rfl
def a15_3 : List AO := [⟨(some 7), none, .mv (.t 6)⟩,
  ⟨(some 8), none, .mv (.t 0)⟩,
  ⟨(some 9), none, .len (.t 8)⟩,
  ⟨(some 10), none, .bin .lss (.t 7) (.t 9)⟩]
theorem tr15_3 : TR Tryz.f15 46 3 = some a15_3 := by kernel_rfl
def a15_5 : List AO := [⟨(some 13), none, .mv (.t 0)⟩,
  ⟨(some 14), none, .mv (.t 6)⟩,
  ⟨(some 15), none, .idx 4 (.t 13) (.t 14)⟩,
  ⟨(some 16), none, .fld 0 (.t 15)⟩,
  ⟨(some 17), none, .load none (.t 16)⟩,
  ⟨(some 18), none, .mv (.t 5)⟩,
  ⟨(some 19), none, .bin .neq (.t 17) (.t 18)⟩,
  ⟨(some 20), none, .mv (.t 19)⟩,
  ⟨(some 21), some (20, false), .mv (.t 0)⟩,
  ⟨(some 22), some (20, false), .mv (.t 6)⟩,
  ⟨(some 23), some (20, false), .idx 4 (.t 21) (.t 22)⟩,
  ⟨(some 24), some (20, false), .fld 1 (.t 23)⟩,
  ⟨(some 25), some (20, false), .load none (.t 24)⟩,
  ⟨(some 26), some (20, false), .mv (.t 5)⟩,
  ⟨(some 27), some (20, false), .bin .leq (.t 25) (.t 26)⟩,
  ⟨(some 28), none, .pick (.t 20) (.v (.bool true)) (.t 27)⟩,
  ⟨(some 29), none, .mv (.t 28)⟩,
  ⟨(some 30), some (29, false), .mv (.t 0)⟩,
  ⟨(some 31), some (29, false), .mv (.t 6)⟩,
  ⟨(some 32), some (29, false), .idx 4 (.t 30) (.t 31)⟩,
  ⟨(some 33), some (29, false), .fld 1 (.t 32)⟩,
  ⟨(some 34), some (29, false), .load none (.t 33)⟩,
  ⟨(some 35), some (29, false), .mv (.t 1)⟩,
  ⟨(some 36), some (29, false), .bin .gtr (.t 34) (.t 35)⟩,
  ⟨(some 37), none, .pick (.t 29) (.v (.bool true)) (.t 36)⟩]
theorem tr15_5 : TR Tryz.f15 46 5 = some a15_5 := by kernel_rfl
def a15_6 : List AO := [⟨(some 4), none, .mv (.v (.bool false))⟩]
theorem tr15_6 : TR Tryz.f15 46 6 = some a15_6 := by kernel_rfl
def a15_7 : List AO := [⟨(some 38), none, .mv (.t 0)⟩,
  ⟨(some 39), none, .mv (.t 6)⟩,
  ⟨(some 40), none, .idx 4 (.t 38) (.t 39)⟩,
  ⟨(some 41), none, .fld 1 (.t 40)⟩,
  ⟨(some 42), none, .load none (.t 41)⟩,
  ⟨(some 5), none, .mv (.t 42)⟩]
theorem tr15_7 : TR Tryz.f15 46 7 = some a15_7 := by kernel_rfl
def a15_4 : List AO := [⟨(some 11), none, .mv (.t 6)⟩,
  ⟨(some 12), none, .bin .add (.t 11) (.v (.int .i64 1))⟩,
  ⟨(some 6), none, .mv (.t 12)⟩]
theorem tr15_4 : TR Tryz.f15 46 4 = some a15_4 := by kernel_rfl
def a15_8 : List AO := [⟨(some 43), none, .mv (.t 5)⟩,
  ⟨(some 44), none, .mv (.t 1)⟩,
  ⟨(some 45), none, .bin .eql (.t 43) (.t 44)⟩,
  ⟨(some 4), none, .mv (.t 45)⟩]
theorem tr15_8 : TR Tryz.f15 46 8 = some a15_8 := by kernel_rfl
/-- airline/airlineref02.Split -/
noncomputable def c16 : Code := .seq (.region 0 (ro Tryz.f16 0) false) (.seq (.region 1 (ro Tryz.f16 1) false) (.seq (.seq (.region 2 (ro Tryz.f16 2) false) (.cond (.tmp 22) (.seq (.region 3 (ro Tryz.f16 3) false) (.ret)) (.skip))) (.seq (.seq (.region 4 (ro Tryz.f16 4) false) (.cond (.tmp 26) (.seq (.region 5 (ro Tryz.f16 5) false) (.ret)) (.skip))) (.seq (.region 6 (ro Tryz.f16 6) false) (.seq (.region 7 (ro Tryz.f16 7) false) (.seq (.seq (.region 8 (ro Tryz.f16 8) false) (.block 0 (.loop (.seq (.seq (.region 9 (ro Tryz.f16 9) false) (.cond (.tmp 32) (.skip) (.exit 0))) (.seq (.block 1 (.seq (.region 11 (ro Tryz.f16 11) true) (.seq (.region 12 (ro Tryz.f16 12) false) (.seq (.region 13 (ro Tryz.f16 13) false) (.region 14 (ro Tryz.f16 14) false))))) (.region 10 (ro Tryz.f16 10) false)))))) (.seq (.block 2 (.loop (.seq (.seq (.region 15 (ro Tryz.f16 15) false) (.cond (.tmp 58) (.skip) (.exit 2))) (.block 3 (.seq (.region 16 (ro Tryz.f16 16) false) (.seq (.region 17 (ro Tryz.f16 17) false) (.seq (.region 18 (ro Tryz.f16 18) false) (.region 19 (ro Tryz.f16 19) false)))))))) (.seq (.seq (.region 20 (ro Tryz.f16 20) false) (.block 4 (.loop (.seq (.seq (.region 21 (ro Tryz.f16 21) false) (.cond (.tmp 75) (.skip) (.exit 4))) (.seq (.block 5 (.seq (.region 23 (ro Tryz.f16 23) false) (.cond (.tmp 79) (.region 24 (ro Tryz.f16 24) false) (.skip)))) (.region 22 (ro Tryz.f16 22) false)))))) (.seq (.region 25 (ro Tryz.f16 25) false) (.ret))))))))))
theorem body16 : Tryz.f16.body = some c16 := by kernel_rfl
theorem res16 : Tryz.f16.results.toList.mapM (trR Tryz.prog) = some [.t 4, .t 5] := by kernel_rfl
theorem nt16 : Tryz.f16.ntmps = 89 := by kernel_rfl
theorem nm16 : (Tryz.f16.name == "runtime.NumGoroutine") = false := by kernel_rfl
def a16_0 : List AO := [⟨(some 4), none, .mv (.v .nils)⟩,
  ⟨(some 5), none, .mv (.v (.int .i64 0))⟩]
theorem tr16_0 : TR Tryz.f16 89 0 = some a16_0 := by kernel_rfl
def a16_1 : List AO := [⟨(some 17), none, .mv (.t 1)⟩,
  ⟨(some 18), none, .call 30 [(.t 17)]⟩,
  ⟨(some 16), none, .mv (.t 18)⟩,
  ⟨(some 19), none, .ext 0 (.t 16)⟩,
  ⟨(some 20), none, .ext 1 (.t 16)⟩,
  ⟨(some 6), none, .mv (.t 19)⟩,
  ⟨(some 7), none, .mv (.t 20)⟩]
theorem tr16_1 : TR Tryz.f16 89 1 = some a16_1 := by kernel_rfl
def a16_2 : List AO := [⟨(some 21), none, .mv (.t 7)⟩,
  ⟨(some 22), none, .bin .neq (.t 21) (.v (.int .i64 0))⟩]
theorem tr16_2 : TR Tryz.f16 89 2 = some a16_2 := by kernel_rfl
def a16_3 : List AO := [⟨(some 23), none, .mv (.t 7)⟩,
  ⟨(some 4), none, .mv (.v .nils)⟩,
  ⟨(some 5), none, .mv (.t 23)⟩]
theorem tr16_3 : TR Tryz.f16 89 3 = some a16_3 := by kernel_rfl
def a16_4 : List AO := [⟨(some 24), none, .mv (.t 0)⟩,
  ⟨(some 25), none, .call 31 [(.t 24)]⟩,
  ⟨(some 26), none, .un .not (.t 25)⟩]
theorem tr16_4 : TR Tryz.f16 89 4 = some a16_4 := by kernel_rfl
def a16_5 : List AO := [⟨(some 4), none, .mv (.v .nils)⟩,
  ⟨(some 5), none, .mv (.v (.int .i64 11))⟩]
theorem tr16_5 : TR Tryz.f16 89 5 = some a16_5 := by kernel_rfl
def a16_6 : List AO := [⟨(some 8), none, .mv (.v .nils)⟩,
  ⟨(some 9), none, .mv (.v .nils)⟩]
theorem tr16_6 : TR Tryz.f16 89 6 = some a16_6 := by kernel_rfl
def a16_7 : List AO := [⟨(some 27), none, .mv (.t 0)⟩,
  ⟨(some 28), none, .call 32 [(.t 27)]⟩,
  ⟨(some 10), none, .mv (.t 28)⟩]
theorem tr16_7 : TR Tryz.f16 89 7 = some a16_7 := by kernel_rfl
def a16_8 : List AO := [⟨(some 11), none, .mv (.v (.int .i64 0))⟩]
theorem tr16_8 : TR Tryz.f16 89 8 = some a16_8 := by kernel_rfl
def a16_9 : List AO := [⟨(some 29), none, .mv (.t 11)⟩,
  ⟨(some 30), none, .mv (.t 1)⟩,
  ⟨(some 31), none, .len (.t 30)⟩,
  ⟨(some 32), none, .bin .lss (.t 29) (.t 31)⟩]
theorem tr16_9 : TR Tryz.f16 89 9 = some a16_9 := by kernel_rfl
def a16_11 : List AO := [⟨(some 36), none, .mv (.t 0)⟩,
  ⟨(some 37), none, .call 32 [(.t 36)]⟩,
  ⟨(some 38), none, .mv (.t 1)⟩,
  ⟨(some 39), none, .mv (.t 11)⟩,
  ⟨(some 40), none, .idx 1 (.t 38) (.t 39)⟩,
  ⟨(some 41), none, .load none (.t 40)⟩,
  ⟨(some 42), none, .mv (.t 6)⟩,
  ⟨(some 43), none, .call 33 [(.t 37), (.t 41), (.t 42)]⟩,
  ⟨(some 35), none, .mv (.t 43)⟩,
  ⟨(some 44), none, .ext 0 (.t 35)⟩,
  ⟨(some 45), none, .ext 1 (.t 35)⟩,
  ⟨(some 12), none, .mv (.t 44)⟩,
  ⟨(some 13), none, .mv (.t 45)⟩]
theorem tr16_11 : TR Tryz.f16 89 11 = some a16_11 := by kernel_rfl
def d16_11 : List (List Nat) := [[], [0], [], [], [2, 3], [2, 3, 4], [], [0, 1, 2, 3, 4, 5, 6], [0, 1, 2, 3, 4, 5, 6, 7], [0, 1, 2, 3, 4, 5, 6, 7, 8], [0, 1, 2, 3, 4, 5, 6, 7, 8], [0, 1, 2, 3, 4, 5, 6, 7, 8, 9], [0, 1, 2, 3, 4, 5, 6, 7, 8, 9, 10, 11]]
theorem ok16_11 : okReg (ro Tryz.f16 11) a16_11 d16_11 = true := by kernel_rfl
def a16_12 : List AO := [⟨(some 46), none, .mv (.t 8)⟩,
  ⟨(some 47), none, .mv (.t 12)⟩,
  ⟨(some 48), none, .slc 3 1 false [(.t 47)]⟩,
  ⟨(some 49), none, .app 3 1 8 (.t 46) (.t 48)⟩,
  ⟨(some 8), none, .mv (.t 49)⟩]
theorem tr16_12 : TR Tryz.f16 89 12 = some a16_12 := by kernel_rfl
def a16_13 : List AO := [⟨(some 50), none, .mv (.t 9)⟩,
  ⟨(some 51), none, .mv (.t 13)⟩,
  ⟨(some 52), none, .slc 3 1 false [(.t 51)]⟩,
  ⟨(some 53), none, .app 3 1 8 (.t 50) (.t 52)⟩,
  ⟨(some 9), none, .mv (.t 53)⟩]
theorem tr16_13 : TR Tryz.f16 89 13 = some a16_13 := by kernel_rfl
def a16_14 : List AO := [⟨(some 54), none, .mv (.t 10)⟩,
  ⟨(some 55), none, .mv (.t 12)⟩,
  ⟨(some 56), none, .bin .sub (.t 54) (.t 55)⟩,
  ⟨(some 10), none, .mv (.t 56)⟩]
theorem tr16_14 : TR Tryz.f16 89 14 = some a16_14 := by kernel_rfl
def a16_10 : List AO := [⟨(some 33), none, .mv (.t 11)⟩,
  ⟨(some 34), none, .bin .add (.t 33) (.v (.int .i64 1))⟩,
  ⟨(some 11), none, .mv (.t 34)⟩]
theorem tr16_10 : TR Tryz.f16 89 10 = some a16_10 := by kernel_rfl
def a16_15 : List AO := [⟨(some 57), none, .mv (.t 10)⟩,
  ⟨(some 58), none, .bin .gtr (.t 57) (.v (.int .i64 0))⟩]
theorem tr16_15 : TR Tryz.f16 89 15 = some a16_15 := by kernel_rfl
def a16_16 : List AO := [⟨(some 59), none, .mv (.t 9)⟩,
  ⟨(some 60), none, .call 34 [(.t 59)]⟩,
  ⟨(some 14), none, .mv (.t 60)⟩]
theorem tr16_16 : TR Tryz.f16 89 16 = some a16_16 := by kernel_rfl
def a16_17 : List AO := [⟨(some 61), none, .mv (.t 8)⟩,
  ⟨(some 62), none, .mv (.t 14)⟩,
  ⟨(some 63), none, .idx 1 (.t 61) (.t 62)⟩,
  ⟨(some 64), none, .load none (.t 63)⟩,
  ⟨(some 65), none, .bin .add (.t 64) (.v (.int .i64 1))⟩,
  ⟨(some 66), none, .idx 1 (.t 61) (.t 62)⟩,
  ⟨none, none, .store 1 (.t 66) (.t 65)⟩]
theorem tr16_17 : TR Tryz.f16 89 17 = some a16_17 := by kernel_rfl
def a16_18 : List AO := [⟨(some 67), none, .mv (.t 9)⟩,
  ⟨(some 68), none, .mv (.t 14)⟩,
  ⟨(some 69), none, .idx 1 (.t 67) (.t 68)⟩,
  ⟨none, none, .store 1 (.t 69) (.v (.int .i64 (-1)))⟩]
theorem tr16_18 : TR Tryz.f16 89 18 = some a16_18 := by kernel_rfl
def a16_19 : List AO := [⟨(some 70), none, .mv (.t 10)⟩,
  ⟨(some 71), none, .bin .sub (.t 70) (.v (.int .i64 1))⟩,
  ⟨(some 10), none, .mv (.t 71)⟩]
theorem tr16_19 : TR Tryz.f16 89 19 = some a16_19 := by kernel_rfl
def a16_20 : List AO := [⟨(some 15), none, .mv (.v (.int .i64 0))⟩]
theorem tr16_20 : TR Tryz.f16 89 20 = some a16_20 := by kernel_rfl
def a16_21 : List AO := [⟨(some 72), none, .mv (.t 15)⟩,
  ⟨(some 73), none, .mv (.t 8)⟩,
  ⟨(some 74), none, .len (.t 73)⟩,
  ⟨(some 75), none, .bin .lss (.t 72) (.t 74)⟩]
theorem tr16_21 : TR Tryz.f16 89 21 = some a16_21 := by kernel_rfl
def a16_23 : List AO := [⟨(some 78), none, .mv (.t 0)⟩,
  ⟨(some 79), none, .bin .lss (.t 78) (.v (.int .i64 0))⟩]
theorem tr16_23 : TR Tryz.f16 89 23 = some a16_23 := by kernel_rfl
def a16_24 : List AO := [⟨(some 80), none, .mv (.t 8)⟩,
  ⟨(some 81), none, .mv (.t 15)⟩,
  ⟨(some 82), none, .mv (.t 8)⟩,
  ⟨(some 83), none, .mv (.t 15)⟩,
  ⟨(some 84), none, .idx 1 (.t 82) (.t 83)⟩,
  ⟨(some 85), none, .load none (.t 84)⟩,
  ⟨(some 86), none, .un .neg (.t 85)⟩,
  ⟨(some 87), none, .idx 1 (.t 80) (.t 81)⟩,
  ⟨none, none, .store 1 (.t 87) (.t 86)⟩]
theorem tr16_24 : TR Tryz.f16 89 24 = some a16_24 := by kernel_rfl
def a16_22 : List AO := [⟨(some 76), none, .mv (.t 15)⟩,
  ⟨(some 77), none, .bin .add (.t 76) (.v (.int .i64 1))⟩,
  ⟨(some 15), none, .mv (.t 77)⟩]
theorem tr16_22 : TR Tryz.f16 89 22 = some a16_22 := by kernel_rfl
def a16_25 : List AO := [⟨(some 88), none, .mv (.t 8)⟩,
  ⟨(some 4), none, .mv (.t 88)⟩,
  ⟨(some 5), none, .mv (.v (.int .i64 0))⟩]
theorem tr16_25 : TR Tryz.f16 89 25 = some a16_25 := by kernel_rfl
/-- airline/places.Miles -/
noncomputable def c17 : Code := .seq (.region 0 (ro Tryz.f17 0) false) (.seq (.region 1 (ro Tryz.f17 1) true) (.seq (.seq (.region 2 (ro Tryz.f17 2) false) (.cond (.tmp 30) (.seq (.region 3 (ro Tryz.f17 3) false) (.ret)) (.skip))) (.seq (.region 4 (ro Tryz.f17 4) false) (.seq (.region 5 (ro Tryz.f17 5) false) (.seq (.seq (.region 6 (ro Tryz.f17 6) false) (.block 0 (.loop (.seq (.seq (.region 7 (ro Tryz.f17 7) false) (.cond (.tmp 35) (.skip) (.exit 0))) (.block 1 (.seq (.region 8 (ro Tryz.f17 8) false) (.seq (.region 9 (ro Tryz.f17 9) false) (.block 2 (.loop (.seq (.region 10 (ro Tryz.f17 10) false) (.seq (.cond (.tmp 40) (.skip) (.exit 2)) (.seq (.block 3 (.seq (.region 11 (ro Tryz.f17 11) false) (.seq (.region 12 (ro Tryz.f17 12) false) (.cond (.tmp 44) (.seq (.region 13 (ro Tryz.f17 13) false) (.seq (.region 14 (ro Tryz.f17 14) false) (.region 15 (ro Tryz.f17 15) false))) (.skip))))) (.region 16 (ro Tryz.f17 16) false))))))))))))) (.seq (.region 17 (ro Tryz.f17 17) false) (.seq (.seq (.region 18 (ro Tryz.f17 18) false) (.cond (.tmp 76) (.seq (.region 19 (ro Tryz.f17 19) false) (.ret)) (.skip))) (.seq (.region 20 (ro Tryz.f17 20) false) (.ret)))))))))
theorem body17 : Tryz.f17.body = some c17 := by kernel_rfl
theorem res17 : Tryz.f17.results.toList.mapM (trR Tryz.prog) = some [.t 6, .t 7] := by kernel_rfl
theorem nt17 : Tryz.f17.ntmps = 78 := by kernel_rfl
theorem nm17 : (Tryz.f17.name == "runtime.NumGoroutine") = false := by kernel_rfl
def a17_0 : List AO := [⟨(some 3), none, .box 25 (.t 0)⟩,
  ⟨(some 6), none, .mv (.v (.int .i64 0))⟩,
  ⟨(some 7), none, .mv (.v (.int .i64 0))⟩]
theorem tr17_0 : TR Tryz.f17 78 0 = some a17_0 := by kernel_rfl
def a17_1 : List AO := [⟨(some 19), none, .load (some 2) (.t 3)⟩,
  ⟨(some 20), none, .mv (.t 1)⟩,
  ⟨(some 21), none, .call 35 [(.t 19), (.t 20)]⟩,
  ⟨(some 22), none, .load (some 2) (.t 3)⟩,
  ⟨(some 23), none, .mv (.t 2)⟩,
  ⟨(some 24), none, .call 35 [(.t 22), (.t 23)]⟩,
  ⟨(some 8), none, .mv (.t 21)⟩,
  ⟨(some 9), none, .mv (.t 24)⟩]
theorem tr17_1 : TR Tryz.f17 78 1 = some a17_1 := by kernel_rfl
def d17_1 : List (List Nat) := [[], [], [0, 1], [], [], [0, 1, 2, 3, 4], [0, 1, 2, 3, 4, 5], [0, 1, 2, 3, 4, 5, 6]]
theorem ok17_1 : okReg (ro Tryz.f17 1) a17_1 d17_1 = true := by kernel_rfl
def a17_2 : List AO := [⟨(some 25), none, .mv (.t 8)⟩,
  ⟨(some 26), none, .bin .eql (.t 25) (.v (.str []))⟩,
  ⟨(some 27), none, .mv (.t 26)⟩,
  ⟨(some 28), some (27, false), .mv (.t 9)⟩,
  ⟨(some 29), some (27, false), .bin .eql (.t 28) (.v (.str []))⟩,
  ⟨(some 30), none, .pick (.t 27) (.v (.bool true)) (.t 29)⟩]
theorem tr17_2 : TR Tryz.f17 78 2 = some a17_2 := by kernel_rfl
def a17_3 : List AO := [⟨(some 6), none, .mv (.v (.int .i64 0))⟩,
  ⟨(some 7), none, .mv (.v (.int .i64 14))⟩]
theorem tr17_3 : TR Tryz.f17 78 3 = some a17_3 := by kernel_rfl
def a17_4 : List AO := [⟨(some 31), none, .mkmap⟩,
  ⟨(some 32), none, .mv (.t 8)⟩,
  ⟨none, none, .mset 0 (.t 31) (.t 32) (.v (.int .i64 0))⟩,
  ⟨(some 33), none, .mv (.t 31)⟩,
  ⟨(some 10), none, .alloc 95 [.nilm]⟩,
  ⟨none, none, .store 1 (.t 10) (.t 33)⟩]
theorem tr17_4 : TR Tryz.f17 78 4 = some a17_4 := by kernel_rfl
def a17_5 : List AO := [⟨(some 34), none, .mkfn 36 [(.t 10)]⟩,
  ⟨(some 11), none, .mv (.t 34)⟩]
theorem tr17_5 : TR Tryz.f17 78 5 = some a17_5 := by kernel_rfl
def a17_6 : List AO := [⟨(some 12), none, .mv (.v (.bool true))⟩]
theorem tr17_6 : TR Tryz.f17 78 6 = some a17_6 := by kernel_rfl
def a17_7 : List AO := [⟨(some 35), none, .mv (.t 12)⟩]
theorem tr17_7 : TR Tryz.f17 78 7 = some a17_7 := by kernel_rfl
def a17_8 : List AO := [⟨(some 12), none, .mv (.v (.bool false))⟩]
theorem tr17_8 : TR Tryz.f17 78 8 = some a17_8 := by kernel_rfl
def a17_9 : List AO := [⟨(some 36), none, .fld 1 (.t 3)⟩,
  ⟨(some 37), none, .load none (.t 36)⟩,
  ⟨(some 38), none, .len (.t 37)⟩,
  ⟨(some 39), none, .mv (.v (.int .i64 0))⟩]
theorem tr17_9 : TR Tryz.f17 78 9 = some a17_9 := by kernel_rfl
def a17_10 : List AO := [⟨(some 40), none, .bin .lss (.t 39) (.t 38)⟩]
theorem tr17_10 : TR Tryz.f17 78 10 = some a17_10 := by kernel_rfl
def a17_11 : List AO := [⟨(some 41), none, .idx 3 (.t 37) (.t 39)⟩,
  ⟨(some 42), none, .load (some 3) (.t 41)⟩,
  ⟨(some 14), none, .alloc 48 [(.str []), (.str []), (.int .i64 0)]⟩,
  ⟨none, none, .store 3 (.t 14) (.t 42)⟩]
theorem tr17_11 : TR Tryz.f17 78 11 = some a17_11 := by kernel_rfl
def a17_12 : List AO := [⟨(some 43), none, .load (some 3) (.t 14)⟩,
  ⟨(some 44), none, .call 37 [(.t 43)]⟩]
theorem tr17_12 : TR Tryz.f17 78 12 = some a17_12 := by kernel_rfl
def a17_13 : List AO := [⟨(some 45), none, .mv (.t 11)⟩,
  ⟨(some 46), none, .fld 0 (.t 14)⟩,
  ⟨(some 47), none, .load none (.t 46)⟩,
  ⟨(some 48), none, .fld 1 (.t 14)⟩,
  ⟨(some 49), none, .load none (.t 48)⟩,
  ⟨(some 50), none, .fld 2 (.t 14)⟩,
  ⟨(some 51), none, .load none (.t 50)⟩,
  ⟨(some 52), none, .callv (.t 45) [(.t 47), (.t 49), (.t 51)]⟩,
  ⟨(some 15), none, .mv (.t 52)⟩]
theorem tr17_13 : TR Tryz.f17 78 13 = some a17_13 := by kernel_rfl
def a17_14 : List AO := [⟨(some 53), none, .mv (.t 11)⟩,
  ⟨(some 54), none, .fld 1 (.t 14)⟩,
  ⟨(some 55), none, .load none (.t 54)⟩,
  ⟨(some 56), none, .fld 0 (.t 14)⟩,
  ⟨(some 57), none, .load none (.t 56)⟩,
  ⟨(some 58), none, .fld 2 (.t 14)⟩,
  ⟨(some 59), none, .load none (.t 58)⟩,
  ⟨(some 60), none, .callv (.t 53) [(.t 55), (.t 57), (.t 59)]⟩,
  ⟨(some 16), none, .mv (.t 60)⟩]
theorem tr17_14 : TR Tryz.f17 78 14 = some a17_14 := by kernel_rfl
def a17_15 : List AO := [⟨(some 61), none, .mv (.t 12)⟩,
  ⟨(some 62), none, .mv (.t 61)⟩,
  ⟨(some 63), some (62, false), .mv (.t 15)⟩,
  ⟨(some 64), none, .pick (.t 62) (.v (.bool true)) (.t 63)⟩,
  ⟨(some 65), none, .mv (.t 64)⟩,
  ⟨(some 66), some (65, false), .mv (.t 16)⟩,
  ⟨(some 67), none, .pick (.t 65) (.v (.bool true)) (.t 66)⟩,
  ⟨(some 12), none, .mv (.t 67)⟩]
theorem tr17_15 : TR Tryz.f17 78 15 = some a17_15 := by kernel_rfl
def a17_16 : List AO := [⟨(some 68), none, .bin .add (.t 39) (.v (.int .i64 1))⟩,
  ⟨(some 39), none, .mv (.t 68)⟩]
theorem tr17_16 : TR Tryz.f17 78 16 = some a17_16 := by kernel_rfl
def a17_17 : List AO := [⟨(some 70), none, .load none (.t 10)⟩,
  ⟨(some 71), none, .mv (.t 9)⟩,
  ⟨(some 72), none, .look 0 true (.int .i64 0) (.t 70) (.t 71)⟩,
  ⟨(some 69), none, .mv (.t 72)⟩,
  ⟨(some 73), none, .ext 0 (.t 69)⟩,
  ⟨(some 74), none, .ext 1 (.t 69)⟩,
  ⟨(some 17), none, .mv (.t 73)⟩,
  ⟨(some 18), none, .mv (.t 74)⟩]
theorem tr17_17 : TR Tryz.f17 78 17 = some a17_17 := by kernel_rfl
def a17_18 : List AO := [⟨(some 75), none, .mv (.t 18)⟩,
  ⟨(some 76), none, .un .not (.t 75)⟩]
theorem tr17_18 : TR Tryz.f17 78 18 = some a17_18 := by kernel_rfl
def a17_19 : List AO := [⟨(some 6), none, .mv (.v (.int .i64 0))⟩,
  ⟨(some 7), none, .mv (.v (.int .i64 7))⟩]
theorem tr17_19 : TR Tryz.f17 78 19 = some a17_19 := by kernel_rfl
def a17_20 : List AO := [⟨(some 77), none, .mv (.t 17)⟩,
  ⟨(some 6), none, .mv (.t 77)⟩,
  ⟨(some 7), none, .mv (.v (.int .i64 0))⟩]
theorem tr17_20 : TR Tryz.f17 78 20 = some a17_20 := by kernel_rfl
/-- airline/airlineref06.Miles -/
noncomputable def c18 : Code := .seq (.region 0 (ro Tryz.f18 0) false) (.seq (.region 1 (ro Tryz.f18 1) true) (.seq (.seq (.region 2 (ro Tryz.f18 2) false) (.cond (.tmp 29) (.seq (.region 3 (ro Tryz.f18 3) false) (.ret)) (.skip))) (.seq (.region 4 (ro Tryz.f18 4) false) (.seq (.region 5 (ro Tryz.f18 5) false) (.seq (.block 0 (.loop (.seq (.seq (.region 6 (ro Tryz.f18 6) false) (.cond (.tmp 33) (.skip) (.exit 0))) (.block 1 (.seq (.region 7 (ro Tryz.f18 7) false) (.seq (.region 8 (ro Tryz.f18 8) false) (.block 2 (.loop (.seq (.seq (.region 9 (ro Tryz.f18 9) false) (.cond (.tmp 38) (.skip) (.exit 2))) (.seq (.block 3 (.seq (.region 11 (ro Tryz.f18 11) false) (.seq (.seq (.region 12 (ro Tryz.f18 12) false) (.cond (.tmp 48) (.exit 3) (.skip))) (.seq (.region 13 (ro Tryz.f18 13) true) (.seq (.region 14 (ro Tryz.f18 14) false) (.seq (.seq (.region 15 (ro Tryz.f18 15) false) (.cond (.tmp 58) (.seq (.region 16 (ro Tryz.f18 16) false) (.region 17 (ro Tryz.f18 17) false)) (.skip))) (.seq (.region 18 (ro Tryz.f18 18) false) (.cond (.tmp 75) (.seq (.region 19 (ro Tryz.f18 19) false) (.region 20 (ro Tryz.f18 20) false)) (.skip))))))))) (.region 10 (ro Tryz.f18 10) false))))))))))) (.seq (.region 21 (ro Tryz.f18 21) false) (.seq (.seq (.region 22 (ro Tryz.f18 22) false) (.cond (.tmp 95) (.seq (.region 23 (ro Tryz.f18 23) false) (.ret)) (.skip))) (.seq (.region 24 (ro Tryz.f18 24) false) (.ret)))))))))
theorem body18 : Tryz.f18.body = some c18 := by kernel_rfl
theorem res18 : Tryz.f18.results.toList.mapM (trR Tryz.prog) = some [.t 6, .t 7] := by kernel_rfl
theorem nt18 : Tryz.f18.ntmps = 97 := by kernel_rfl
theorem nm18 : (Tryz.f18.name == "runtime.NumGoroutine") = false := by kernel_rfl
def a18_0 : List AO := [⟨(some 3), none, .box 25 (.t 0)⟩,
  ⟨(some 6), none, .mv (.v (.int .i64 0))⟩,
  ⟨(some 7), none, .mv (.v (.int .i64 0))⟩]
theorem tr18_0 : TR Tryz.f18 97 0 = some a18_0 := by kernel_rfl
def a18_1 : List AO := [⟨(some 18), none, .load (some 2) (.t 3)⟩,
  ⟨(some 19), none, .mv (.t 1)⟩,
  ⟨(some 20), none, .call 38 [(.t 18), (.t 19)]⟩,
  ⟨(some 21), none, .load (some 2) (.t 3)⟩,
  ⟨(some 22), none, .mv (.t 2)⟩,
  ⟨(some 23), none, .call 38 [(.t 21), (.t 22)]⟩,
  ⟨(some 8), none, .mv (.t 20)⟩,
  ⟨(some 9), none, .mv (.t 23)⟩]
theorem tr18_1 : TR Tryz.f18 97 1 = some a18_1 := by kernel_rfl
def d18_1 : List (List Nat) := [[], [], [0, 1], [], [], [0, 1, 2, 3, 4], [0, 1, 2, 3, 4, 5], [0, 1, 2, 3, 4, 5, 6]]
theorem ok18_1 : okReg (ro Tryz.f18 1) a18_1 d18_1 = true := by kernel_rfl
def a18_2 : List AO := [⟨(some 24), none, .mv (.t 8)⟩,
  ⟨(some 25), none, .bin .eql (.t 24) (.v (.str []))⟩,
  ⟨(some 26), none, .mv (.t 25)⟩,
  ⟨(some 27), some (26, false), .mv (.t 9)⟩,
  ⟨(some 28), some (26, false), .bin .eql (.t 27) (.v (.str []))⟩,
  ⟨(some 29), none, .pick (.t 26) (.v (.bool true)) (.t 28)⟩]
theorem tr18_2 : TR Tryz.f18 97 2 = some a18_2 := by kernel_rfl
def a18_3 : List AO := [⟨(some 6), none, .mv (.v (.int .i64 0))⟩,
  ⟨(some 7), none, .mv (.v (.int .i64 14))⟩]
theorem tr18_3 : TR Tryz.f18 97 3 = some a18_3 := by kernel_rfl
def a18_4 : List AO := [⟨(some 30), none, .mv (.t 8)⟩,
  ⟨(some 31), none, .build [(.str []), (.int .i64 0)] [(0, 1, (.t 30)), (1, 1, (.v (.int .i64 0)))]⟩,
  ⟨(some 32), none, .slc 100 2 false [(.t 31)]⟩,
  ⟨(some 10), none, .mv (.t 32)⟩]
theorem tr18_4 : TR Tryz.f18 97 4 = some a18_4 := by kernel_rfl
def a18_5 : List AO := [⟨(some 11), none, .mv (.v (.bool true))⟩]
theorem tr18_5 : TR Tryz.f18 97 5 = some a18_5 := by kernel_rfl
def a18_6 : List AO := [⟨(some 33), none, .mv (.t 11)⟩]
theorem tr18_6 : TR Tryz.f18 97 6 = some a18_6 := by kernel_rfl
def a18_7 : List AO := [⟨(some 11), none, .mv (.v (.bool false))⟩]
theorem tr18_7 : TR Tryz.f18 97 7 = some a18_7 := by kernel_rfl
def a18_8 : List AO := [⟨(some 12), none, .mv (.v (.int .i64 0))⟩]
theorem tr18_8 : TR Tryz.f18 97 8 = some a18_8 := by kernel_rfl
def a18_9 : List AO := [⟨(some 34), none, .mv (.t 12)⟩,
  ⟨(some 35), none, .fld 1 (.t 3)⟩,
  ⟨(some 36), none, .load none (.t 35)⟩,
  ⟨(some 37), none, .len (.t 36)⟩,
  ⟨(some 38), none, .bin .lss (.t 34) (.t 37)⟩]
theorem tr18_9 : TR Tryz.f18 97 9 = some a18_9 := by kernel_rfl
def a18_11 : List AO := [⟨(some 41), none, .fld 1 (.t 3)⟩,
  ⟨(some 42), none, .load none (.t 41)⟩,
  ⟨(some 43), none, .mv (.t 12)⟩,
  ⟨(some 44), none, .idx 3 (.t 42) (.t 43)⟩,
  ⟨(some 45), none, .load (some 3) (.t 44)⟩,
  ⟨(some 13), none, .alloc 48 [(.str []), (.str []), (.int .i64 0)]⟩,
  ⟨none, none, .store 3 (.t 13) (.t 45)⟩]
theorem tr18_11 : TR Tryz.f18 97 11 = some a18_11 := by kernel_rfl
def a18_12 : List AO := [⟨(some 46), none, .load (some 3) (.t 13)⟩,
  ⟨(some 47), none, .call 39 [(.t 46)]⟩,
  ⟨(some 48), none, .un .not (.t 47)⟩]
theorem tr18_12 : TR Tryz.f18 97 12 = some a18_12 := by kernel_rfl
def a18_13 : List AO := [⟨(some 49), none, .mv (.t 10)⟩,
  ⟨(some 50), none, .fld 0 (.t 13)⟩,
  ⟨(some 51), none, .load none (.t 50)⟩,
  ⟨(some 52), none, .call 40 [(.t 49), (.t 51)]⟩,
  ⟨(some 53), none, .mv (.t 10)⟩,
  ⟨(some 54), none, .fld 1 (.t 13)⟩,
  ⟨(some 55), none, .load none (.t 54)⟩,
  ⟨(some 56), none, .call 40 [(.t 53), (.t 55)]⟩,
  ⟨(some 14), none, .mv (.t 52)⟩,
  ⟨(some 15), none, .mv (.t 56)⟩]
theorem tr18_13 : TR Tryz.f18 97 13 = some a18_13 := by kernel_rfl
def d18_13 : List (List Nat) := [[], [], [1], [0, 1, 2], [], [], [5], [0, 1, 2, 3, 4, 5, 6], [0, 1, 2, 3, 4, 5, 6, 7], [0, 1, 2, 3, 4, 5, 6, 7, 8]]
theorem ok18_13 : okReg (ro Tryz.f18 13) a18_13 d18_13 = true := by kernel_rfl
def a18_14 : List AO := [⟨(some 16), none, .mv (.v (.bool false))⟩]
theorem tr18_14 : TR Tryz.f18 97 14 = some a18_14 := by kernel_rfl
def a18_15 : List AO := [⟨(some 57), none, .mv (.t 14)⟩,
  ⟨(some 58), none, .bin .geq (.t 57) (.v (.int .i64 0))⟩]
theorem tr18_15 : TR Tryz.f18 97 15 = some a18_15 := by kernel_rfl
def a18_16 : List AO := [⟨(some 60), none, .mv (.t 10)⟩,
  ⟨(some 61), none, .fld 1 (.t 13)⟩,
  ⟨(some 62), none, .load none (.t 61)⟩,
  ⟨(some 63), none, .mv (.t 14)⟩,
  ⟨(some 64), none, .fld 2 (.t 13)⟩,
  ⟨(some 65), none, .load none (.t 64)⟩,
  ⟨(some 66), none, .bin .add (.t 63) (.t 65)⟩,
  ⟨(some 67), none, .call 41 [(.t 60), (.t 62), (.t 66)]⟩,
  ⟨(some 59), none, .mv (.t 67)⟩,
  ⟨(some 68), none, .ext 0 (.t 59)⟩,
  ⟨(some 69), none, .ext 1 (.t 59)⟩,
  ⟨(some 10), none, .mv (.t 68)⟩,
  ⟨(some 16), none, .mv (.t 69)⟩]
theorem tr18_16 : TR Tryz.f18 97 16 = some a18_16 := by kernel_rfl
def a18_17 : List AO := [⟨(some 70), none, .mv (.t 11)⟩,
  ⟨(some 71), none, .mv (.t 70)⟩,
  ⟨(some 72), some (71, false), .mv (.t 16)⟩,
  ⟨(some 73), none, .pick (.t 71) (.v (.bool true)) (.t 72)⟩,
  ⟨(some 11), none, .mv (.t 73)⟩]
theorem tr18_17 : TR Tryz.f18 97 17 = some a18_17 := by kernel_rfl
def a18_18 : List AO := [⟨(some 74), none, .mv (.t 15)⟩,
  ⟨(some 75), none, .bin .geq (.t 74) (.v (.int .i64 0))⟩]
theorem tr18_18 : TR Tryz.f18 97 18 = some a18_18 := by kernel_rfl
def a18_19 : List AO := [⟨(some 77), none, .mv (.t 10)⟩,
  ⟨(some 78), none, .fld 0 (.t 13)⟩,
  ⟨(some 79), none, .load none (.t 78)⟩,
  ⟨(some 80), none, .mv (.t 15)⟩,
  ⟨(some 81), none, .fld 2 (.t 13)⟩,
  ⟨(some 82), none, .load none (.t 81)⟩,
  ⟨(some 83), none, .bin .add (.t 80) (.t 82)⟩,
  ⟨(some 84), none, .call 41 [(.t 77), (.t 79), (.t 83)]⟩,
  ⟨(some 76), none, .mv (.t 84)⟩,
  ⟨(some 85), none, .ext 0 (.t 76)⟩,
  ⟨(some 86), none, .ext 1 (.t 76)⟩,
  ⟨(some 10), none, .mv (.t 85)⟩,
  ⟨(some 16), none, .mv (.t 86)⟩]
theorem tr18_19 : TR Tryz.f18 97 19 = some a18_19 := by kernel_rfl
def a18_20 : List AO := [⟨(some 87), none, .mv (.t 11)⟩,
  ⟨(some 88), none, .mv (.t 87)⟩,
  ⟨(some 89), some (88, false), .mv (.t 16)⟩,
  ⟨(some 90), none, .pick (.t 88) (.v (.bool true)) (.t 89)⟩,
  ⟨(some 11), none, .mv (.t 90)⟩]
theorem tr18_20 : TR Tryz.f18 97 20 = some a18_20 := by kernel_rfl
def a18_10 : List AO := [⟨(some 39), none, .mv (.t 12)⟩,
  ⟨(some 40), none, .bin .add (.t 39) (.v (.int .i64 1))⟩,
  ⟨(some 12), none, .mv (.t 40)⟩]
theorem tr18_10 : TR Tryz.f18 97 10 = some a18_10 := by kernel_rfl
def a18_21 : List AO := [⟨(some 91), none, .mv (.t 10)⟩,
  ⟨(some 92), none, .mv (.t 9)⟩,
  ⟨(some 93), none, .call 40 [(.t 91), (.t 92)]⟩,
  ⟨(some 17), none, .mv (.t 93)⟩]
theorem tr18_21 : TR Tryz.f18 97 21 = some a18_21 := by kernel_rfl
def a18_22 : List AO := [⟨(some 94), none, .mv (.t 17)⟩,
  ⟨(some 95), none, .bin .lss (.t 94) (.v (.int .i64 0))⟩]
theorem tr18_22 : TR Tryz.f18 97 22 = some a18_22 := by kernel_rfl
def a18_23 : List AO := [⟨(some 6), none, .mv (.v (.int .i64 0))⟩,
  ⟨(some 7), none, .mv (.v (.int .i64 7))⟩]
theorem tr18_23 : TR Tryz.f18 97 23 = some a18_23 := by kernel_rfl
def a18_24 : List AO := [⟨(some 96), none, .mv (.t 17)⟩,
  ⟨(some 6), none, .mv (.t 96)⟩,
  ⟨(some 7), none, .mv (.v (.int .i64 0))⟩]
theorem tr18_24 : TR Tryz.f18 97 24 = some a18_24 := by kernel_rfl
/-- airline/airlineref06.airport -/
noncomputable def c19 : Code := .seq (.region 0 (ro Tryz.f19 0) false) (.seq (.region 1 (ro Tryz.f19 1) false) (.seq (.region 2 (ro Tryz.f19 2) false) (.seq (.seq (.region 3 (ro Tryz.f19 3) false) (.cond (.tmp 31) (.region 4 (ro Tryz.f19 4) false) (.skip))) (.seq (.region 5 (ro Tryz.f19 5) false) (.seq (.seq (.region 6 (ro Tryz.f19 6) false) (.block 0 (.loop (.seq (.seq (.region 7 (ro Tryz.f19 7) false) (.cond (.tmp 37) (.skip) (.exit 0))) (.seq (.block 1 (.seq (.region 9 (ro Tryz.f19 9) true) (.region 10 (ro Tryz.f19 10) true))) (.region 8 (ro Tryz.f19 8) false)))))) (.seq (.seq (.region 11 (ro Tryz.f19 11) false) (.cond (.tmp 75) (.region 12 (ro Tryz.f19 12) false) (.skip))) (.seq (.seq (.region 13 (ro Tryz.f19 13) false) (.cond (.tmp 79) (.region 14 (ro Tryz.f19 14) false) (.skip))) (.seq (.region 15 (ro Tryz.f19 15) false) (.seq (.seq (.region 16 (ro Tryz.f19 16) false) (.cond (.tmp 87) (.region 17 (ro Tryz.f19 17) false) (.skip))) (.seq (.region 18 (ro Tryz.f19 18) false) (.ret)))))))))))
theorem body19 : Tryz.f19.body = some c19 := by kernel_rfl
theorem res19 : Tryz.f19.results.toList.mapM (trR Tryz.prog) = some [.t 4] := by kernel_rfl
theorem nt19 : Tryz.f19.ntmps = 93 := by kernel_rfl
theorem nm19 : (Tryz.f19.name == "runtime.NumGoroutine") = false := by kernel_rfl
def a19_0 : List AO := [⟨(some 2), none, .box 25 (.t 0)⟩,
  ⟨(some 4), none, .mv (.v .nils)⟩]
theorem tr19_0 : TR Tryz.f19 93 0 = some a19_0 := by kernel_rfl
def a19_1 : List AO := [⟨(some 5), none, .mv (.v .nils)⟩]
theorem tr19_1 : TR Tryz.f19 93 1 = some a19_1 := by kernel_rfl
def a19_2 : List AO := [⟨(some 11), none, .fld 0 (.t 2)⟩,
  ⟨(some 12), none, .load none (.t 11)⟩,
  ⟨(some 13), none, .mv (.t 1)⟩,
  ⟨(some 14), none, .idx 5 (.t 12) (.t 13)⟩,
  ⟨(some 15), none, .load (some 5) (.t 14)⟩,
  ⟨(some 6), none, .alloc 46 [(.str []), (.str []), (.str []), (.int .i64 0), .nils]⟩,
  ⟨none, none, .store 5 (.t 6) (.t 15)⟩]
theorem tr19_2 : TR Tryz.f19 93 2 = some a19_2 := by kernel_rfl
def a19_3 : List AO := [⟨(some 16), none, .fld 0 (.t 6)⟩,
  ⟨(some 17), none, .load none (.t 16)⟩,
  ⟨(some 18), none, .call 42 [(.t 17)]⟩,
  ⟨(some 19), none, .un .not (.t 18)⟩,
  ⟨(some 20), none, .mv (.t 19)⟩,
  ⟨(some 21), some (20, false), .fld 1 (.t 6)⟩,
  ⟨(some 22), some (20, false), .load none (.t 21)⟩,
  ⟨(some 23), some (20, false), .call 42 [(.t 22)]⟩,
  ⟨(some 24), some (20, false), .un .not (.t 23)⟩,
  ⟨(some 25), none, .pick (.t 20) (.v (.bool true)) (.t 24)⟩,
  ⟨(some 26), none, .mv (.t 25)⟩,
  ⟨(some 27), some (26, false), .fld 2 (.t 6)⟩,
  ⟨(some 28), some (26, false), .load none (.t 27)⟩,
  ⟨(some 29), some (26, false), .call 43 [(.t 28)]⟩,
  ⟨(some 30), some (26, false), .un .not (.t 29)⟩,
  ⟨(some 31), none, .pick (.t 26) (.v (.bool true)) (.t 30)⟩]
theorem tr19_3 : TR Tryz.f19 93 3 = some a19_3 := by kernel_rfl
def a19_4 : List AO := [⟨(some 32), none, .mv (.t 5)⟩,
  ⟨(some 33), none, .slc 35 1 false [(.v (.int .i64 5))]⟩,
  ⟨(some 34), none, .app 35 1 8 (.t 32) (.t 33)⟩,
  ⟨(some 5), none, .mv (.t 34)⟩]
theorem tr19_4 : TR Tryz.f19 93 4 = some a19_4 := by kernel_rfl
def a19_5 : List AO := [⟨(some 7), none, .mv (.v (.bool false))⟩,
  ⟨(some 8), none, .mv (.v (.bool false))⟩]
theorem tr19_5 : TR Tryz.f19 93 5 = some a19_5 := by kernel_rfl
def a19_6 : List AO := [⟨(some 9), none, .mv (.v (.int .i64 0))⟩]
theorem tr19_6 : TR Tryz.f19 93 6 = some a19_6 := by kernel_rfl
def a19_7 : List AO := [⟨(some 35), none, .mv (.t 9)⟩,
  ⟨(some 36), none, .mv (.t 1)⟩,
  ⟨(some 37), none, .bin .lss (.t 35) (.t 36)⟩]
theorem tr19_7 : TR Tryz.f19 93 7 = some a19_7 := by kernel_rfl
def a19_9 : List AO := [⟨(some 40), none, .mv (.t 7)⟩,
  ⟨(some 41), none, .mv (.t 40)⟩,
  ⟨(some 42), some (41, false), .fld 0 (.t 2)⟩,
  ⟨(some 43), some (41, false), .load none (.t 42)⟩,
  ⟨(some 44), some (41, false), .mv (.t 9)⟩,
  ⟨(some 45), some (41, false), .idx 5 (.t 43) (.t 44)⟩,
  ⟨(some 46), some (41, false), .fld 0 (.t 45)⟩,
  ⟨(some 47), some (41, false), .load none (.t 46)⟩,
  ⟨(some 48), some (41, false), .fld 0 (.t 6)⟩,
  ⟨(some 49), some (41, false), .load none (.t 48)⟩,
  ⟨(some 50), some (41, false), .bin .eql (.t 47) (.t 49)⟩,
  ⟨(some 51), none, .pick (.t 41) (.v (.bool true)) (.t 50)⟩,
  ⟨(some 7), none, .mv (.t 51)⟩]
theorem tr19_9 : TR Tryz.f19 93 9 = some a19_9 := by kernel_rfl
def d19_9 : List (List Nat) := [[], [0], [0, 1], [0, 1, 2], [0, 1], [0, 1, 2, 3, 4], [0, 1, 2, 3, 4, 5], [0, 1, 2, 3, 4, 5, 6], [0, 1], [0, 1, 8], [0, 1, 2, 3, 4, 5, 6, 7, 8, 9], [0, 1, 2, 3, 4, 5, 6, 7, 8, 9, 10], [0, 1, 2, 3, 4, 5, 6, 7, 8, 9, 10, 11]]
theorem ok19_9 : okReg (ro Tryz.f19 9) a19_9 d19_9 = true := by kernel_rfl
def a19_10 : List AO := [⟨(some 52), none, .mv (.t 8)⟩,
  ⟨(some 53), none, .mv (.t 52)⟩,
  ⟨(some 54), some (53, false), .fld 0 (.t 2)⟩,
  ⟨(some 55), some (53, false), .load none (.t 54)⟩,
  ⟨(some 56), some (53, false), .mv (.t 9)⟩,
  ⟨(some 57), some (53, false), .idx 5 (.t 55) (.t 56)⟩,
  ⟨(some 58), some (53, false), .fld 1 (.t 57)⟩,
  ⟨(some 59), some (53, false), .load none (.t 58)⟩,
  ⟨(some 60), some (53, false), .fld 1 (.t 6)⟩,
  ⟨(some 61), some (53, false), .load none (.t 60)⟩,
  ⟨(some 62), some (53, false), .bin .eql (.t 59) (.t 61)⟩,
  ⟨(some 63), some (53, false), .mv (.t 62)⟩,
  ⟨(some 64), some (63, true), .fld 0 (.t 2)⟩,
  ⟨(some 65), some (63, true), .load none (.t 64)⟩,
  ⟨(some 66), some (63, true), .mv (.t 9)⟩,
  ⟨(some 67), some (63, true), .idx 5 (.t 65) (.t 66)⟩,
  ⟨(some 68), some (63, true), .fld 2 (.t 67)⟩,
  ⟨(some 69), some (63, true), .load none (.t 68)⟩,
  ⟨(some 70), some (63, true), .fld 2 (.t 6)⟩,
  ⟨(some 71), some (63, true), .load none (.t 70)⟩,
  ⟨(some 72), some (63, true), .bin .neq (.t 69) (.t 71)⟩,
  ⟨(some 73), some (53, false), .pick (.t 63) (.t 72) (.v (.bool false))⟩,
  ⟨(some 74), none, .pick (.t 53) (.v (.bool true)) (.t 73)⟩,
  ⟨(some 8), none, .mv (.t 74)⟩]
theorem tr19_10 : TR Tryz.f19 93 10 = some a19_10 := by kernel_rfl
def d19_10 : List (List Nat) := [[], [0], [0, 1], [0, 1, 2], [0, 1], [0, 1, 2, 3, 4], [0, 1, 2, 3, 4, 5], [0, 1, 2, 3, 4, 5, 6], [0, 1], [0, 1, 8], [0, 1, 2, 3, 4, 5, 6, 7, 8, 9], [0, 1, 2, 3, 4, 5, 6, 7, 8, 9, 10], [0, 1, 2, 3, 4, 5, 6, 7, 8, 9, 10, 11], [0, 1, 2, 3, 4, 5, 6, 7, 8, 9, 10, 11, 12], [0, 1, 2, 3, 4, 5, 6, 7, 8, 9, 10, 11], [0, 1, 2, 3, 4, 5, 6, 7, 8, 9, 10, 11, 12, 13, 14], [0, 1, 2, 3, 4, 5, 6, 7, 8, 9, 10, 11, 12, 13, 14, 15], [0, 1, 2, 3, 4, 5, 6, 7, 8, 9, 10, 11, 12, 13, 14, 15, 16], [0, 1, 2, 3, 4, 5, 6, 7, 8, 9, 10, 11], [0, 1, 2, 3, 4, 5, 6, 7, 8, 9, 10, 11, 18], [0, 1, 2, 3, 4, 5, 6, 7, 8, 9, 10, 11, 12, 13, 14, 15, 16, 17, 18, 19], [0, 1, 2, 3, 4, 5, 6, 7, 8, 9, 10, 11, 12, 13, 14, 15, 16, 17, 18, 19, 20], [0, 1, 2, 3, 4, 5, 6, 7, 8, 9, 10, 11, 12, 13, 14, 15, 16, 17, 18, 19, 20, 21], [0, 1, 2, 3, 4, 5, 6, 7, 8, 9, 10, 11, 12, 13, 14, 15, 16, 17, 18, 19, 20, 21, 22]]
theorem ok19_10 : okReg (ro Tryz.f19 10) a19_10 d19_10 = true := by kernel_rfl
def a19_8 : List AO := [⟨(some 38), none, .mv (.t 9)⟩,
  ⟨(some 39), none, .bin .add (.t 38) (.v (.int .i64 1))⟩,
  ⟨(some 9), none, .mv (.t 39)⟩]
theorem tr19_8 : TR Tryz.f19 93 8 = some a19_8 := by kernel_rfl
def a19_11 : List AO := [⟨(some 75), none, .mv (.t 7)⟩]
theorem tr19_11 : TR Tryz.f19 93 11 = some a19_11 := by kernel_rfl
def a19_12 : List AO := [⟨(some 76), none, .mv (.t 5)⟩,
  ⟨(some 77), none, .slc 35 1 false [(.v (.int .i64 6))]⟩,
  ⟨(some 78), none, .app 35 1 8 (.t 76) (.t 77)⟩,
  ⟨(some 5), none, .mv (.t 78)⟩]
theorem tr19_12 : TR Tryz.f19 93 12 = some a19_12 := by kernel_rfl
def a19_13 : List AO := [⟨(some 79), none, .mv (.t 8)⟩]
theorem tr19_13 : TR Tryz.f19 93 13 = some a19_13 := by kernel_rfl
def a19_14 : List AO := [⟨(some 80), none, .mv (.t 5)⟩,
  ⟨(some 81), none, .slc 35 1 false [(.v (.int .i64 8))]⟩,
  ⟨(some 82), none, .app 35 1 8 (.t 80) (.t 81)⟩,
  ⟨(some 5), none, .mv (.t 82)⟩]
theorem tr19_14 : TR Tryz.f19 93 14 = some a19_14 := by kernel_rfl
def a19_15 : List AO := [⟨(some 83), none, .fld 3 (.t 6)⟩,
  ⟨(some 84), none, .load (some 2) (.t 83)⟩,
  ⟨(some 85), none, .call 44 [(.t 84)]⟩,
  ⟨(some 10), none, .mv (.t 85)⟩]
theorem tr19_15 : TR Tryz.f19 93 15 = some a19_15 := by kernel_rfl
def a19_16 : List AO := [⟨(some 86), none, .mv (.t 10)⟩,
  ⟨(some 87), none, .bin .neq (.t 86) (.v (.int .i64 0))⟩]
theorem tr19_16 : TR Tryz.f19 93 16 = some a19_16 := by kernel_rfl
def a19_17 : List AO := [⟨(some 88), none, .mv (.t 5)⟩,
  ⟨(some 89), none, .mv (.t 10)⟩,
  ⟨(some 90), none, .slc 35 1 false [(.t 89)]⟩,
  ⟨(some 91), none, .app 35 1 8 (.t 88) (.t 90)⟩,
  ⟨(some 5), none, .mv (.t 91)⟩]
theorem tr19_17 : TR Tryz.f19 93 17 = some a19_17 := by kernel_rfl
def a19_18 : List AO := [⟨(some 92), none, .mv (.t 5)⟩,
  ⟨(some 4), none, .mv (.t 92)⟩]
theorem tr19_18 : TR Tryz.f19 93 18 = some a19_18 := by kernel_rfl
/-- airline/airlineref01.Decimal -/
noncomputable def c20 : Code := .seq (.region 0 (ro Tryz.f20 0) false) (.seq (.seq (.region 1 (ro Tryz.f20 1) false) (.cond (.tmp 4) (.seq (.region 2 (ro Tryz.f20 2) false) (.ret)) (.skip))) (.seq (.region 3 (ro Tryz.f20 3) false) (.ret)))
theorem body20 : Tryz.f20.body = some c20 := by kernel_rfl
theorem res20 : Tryz.f20.results.toList.mapM (trR Tryz.prog) = some [.t 2] := by kernel_rfl
theorem nt20 : Tryz.f20.ntmps = 15 := by kernel_rfl
theorem nm20 : (Tryz.f20.name == "runtime.NumGoroutine") = false := by kernel_rfl
def a20_0 : List AO := [⟨(some 2), none, .mv (.v (.str []))⟩]
theorem tr20_0 : TR Tryz.f20 15 0 = some a20_0 := by kernel_rfl
def a20_1 : List AO := [⟨(some 3), none, .mv (.t 0)⟩,
  ⟨(some 4), none, .bin .lss (.t 3) (.v (.int .i64 0))⟩]
theorem tr20_1 : TR Tryz.f20 15 1 = some a20_1 := by kernel_rfl
def a20_2 : List AO := [⟨(some 5), none, .mv (.t 0)⟩,
  ⟨(some 6), none, .bin .add (.t 5) (.v (.int .i64 1))⟩,
  ⟨(some 7), none, .un .neg (.t 6)⟩,
  ⟨(some 8), none, .conv .u64 (.t 7)⟩,
  ⟨(some 9), none, .bin .add (.t 8) (.v (.int .u64 1))⟩,
  ⟨(some 10), none, .call 45 [(.t 9)]⟩,
  ⟨(some 11), none, .bin .add (.v (.str [45])) (.t 10)⟩,
  ⟨(some 2), none, .mv (.t 11)⟩]
theorem tr20_2 : TR Tryz.f20 15 2 = some a20_2 := by kernel_rfl
def a20_3 : List AO := [⟨(some 12), none, .mv (.t 0)⟩,
  ⟨(some 13), none, .conv .u64 (.t 12)⟩,
  ⟨(some 14), none, .call 45 [(.t 13)]⟩,
  ⟨(some 2), none, .mv (.t 14)⟩]
theorem tr20_3 : TR Tryz.f20 15 3 = some a20_3 := by kernel_rfl
/-- airline/airlineref06.distance -/
noncomputable def c21 : Code := .seq (.region 0 (ro Tryz.f21 0) false) (.seq (.region 1 (ro Tryz.f21 1) false) (.seq (.region 2 (ro Tryz.f21 2) false) (.seq (.region 3 (ro Tryz.f21 3) false) (.seq (.region 4 (ro Tryz.f21 4) false) (.seq (.seq (.region 5 (ro Tryz.f21 5) false) (.cond (.tmp 38) (.region 6 (ro Tryz.f21 6) false) (.skip))) (.seq (.region 7 (ro Tryz.f21 7) false) (.seq (.seq (.region 8 (ro Tryz.f21 8) false) (.block 0 (.loop (.seq (.seq (.region 9 (ro Tryz.f21 9) false) (.cond (.tmp 44) (.skip) (.exit 0))) (.seq (.block 1 (.seq (.region 11 (ro Tryz.f21 11) false) (.region 12 (ro Tryz.f21 12) false))) (.region 10 (ro Tryz.f21 10) false)))))) (.seq (.seq (.region 13 (ro Tryz.f21 13) false) (.cond (.tmp 81) (.region 14 (ro Tryz.f21 14) false) (.skip))) (.seq (.seq (.region 15 (ro Tryz.f21 15) false) (.cond (.tmp 94) (.region 16 (ro Tryz.f21 16) false) (.skip))) (.seq (.region 17 (ro Tryz.f21 17) false) (.ret)))))))))))
theorem body21 : Tryz.f21.body = some c21 := by kernel_rfl
theorem res21 : Tryz.f21.results.toList.mapM (trR Tryz.prog) = some [.t 4] := by kernel_rfl
theorem nt21 : Tryz.f21.ntmps = 99 := by kernel_rfl
theorem nm21 : (Tryz.f21.name == "runtime.NumGoroutine") = false := by kernel_rfl
def a21_0 : List AO := [⟨(some 2), none, .box 25 (.t 0)⟩,
  ⟨(some 4), none, .mv (.v .nils)⟩]
theorem tr21_0 : TR Tryz.f21 99 0 = some a21_0 := by kernel_rfl
def a21_1 : List AO := [⟨(some 5), none, .mv (.v .nils)⟩]
theorem tr21_1 : TR Tryz.f21 99 1 = some a21_1 := by kernel_rfl
def a21_2 : List AO := [⟨(some 14), none, .fld 1 (.t 2)⟩,
  ⟨(some 15), none, .load none (.t 14)⟩,
  ⟨(some 16), none, .mv (.t 1)⟩,
  ⟨(some 17), none, .idx 3 (.t 15) (.t 16)⟩,
  ⟨(some 18), none, .load (some 3) (.t 17)⟩,
  ⟨(some 6), none, .alloc 48 [(.str []), (.str []), (.int .i64 0)]⟩,
  ⟨none, none, .store 3 (.t 6) (.t 18)⟩]
theorem tr21_2 : TR Tryz.f21 99 2 = some a21_2 := by kernel_rfl
def a21_3 : List AO := [⟨(some 20), none, .load (some 2) (.t 2)⟩,
  ⟨(some 21), none, .fld 0 (.t 6)⟩,
  ⟨(some 22), none, .load none (.t 21)⟩,
  ⟨(some 23), none, .call 46 [(.t 20), (.t 22)]⟩,
  ⟨(some 19), none, .mv (.t 23)⟩,
  ⟨(some 24), none, .ext 0 (.t 19)⟩,
  ⟨(some 25), none, .ext 1 (.t 19)⟩,
  ⟨(some 7), none, .alloc 46 [(.str []), (.str []), (.str []), (.int .i64 0), .nils]⟩,
  ⟨none, none, .store 5 (.t 7) (.t 24)⟩,
  ⟨(some 8), none, .mv (.t 25)⟩]
theorem tr21_3 : TR Tryz.f21 99 3 = some a21_3 := by kernel_rfl
def a21_4 : List AO := [⟨(some 27), none, .load (some 2) (.t 2)⟩,
  ⟨(some 28), none, .fld 1 (.t 6)⟩,
  ⟨(some 29), none, .load none (.t 28)⟩,
  ⟨(some 30), none, .call 46 [(.t 27), (.t 29)]⟩,
  ⟨(some 26), none, .mv (.t 30)⟩,
  ⟨(some 31), none, .ext 0 (.t 26)⟩,
  ⟨(some 32), none, .ext 1 (.t 26)⟩,
  ⟨(some 9), none, .alloc 46 [(.str []), (.str []), (.str []), (.int .i64 0), .nils]⟩,
  ⟨none, none, .store 5 (.t 9) (.t 31)⟩,
  ⟨(some 10), none, .mv (.t 32)⟩]
theorem tr21_4 : TR Tryz.f21 99 4 = some a21_4 := by kernel_rfl
def a21_5 : List AO := [⟨(some 33), none, .mv (.t 8)⟩,
  ⟨(some 34), none, .un .not (.t 33)⟩,
  ⟨(some 35), none, .mv (.t 34)⟩,
  ⟨(some 36), some (35, false), .mv (.t 10)⟩,
  ⟨(some 37), some (35, false), .un .not (.t 36)⟩,
  ⟨(some 38), none, .pick (.t 35) (.v (.bool true)) (.t 37)⟩]
theorem tr21_5 : TR Tryz.f21 99 5 = some a21_5 := by kernel_rfl
def a21_6 : List AO := [⟨(some 39), none, .mv (.t 5)⟩,
  ⟨(some 40), none, .slc 35 1 false [(.v (.int .i64 14))]⟩,
  ⟨(some 41), none, .app 35 1 8 (.t 39) (.t 40)⟩,
  ⟨(some 5), none, .mv (.t 41)⟩]
theorem tr21_6 : TR Tryz.f21 99 6 = some a21_6 := by kernel_rfl
def a21_7 : List AO := [⟨(some 11), none, .mv (.v (.bool false))⟩]
theorem tr21_7 : TR Tryz.f21 99 7 = some a21_7 := by kernel_rfl
def a21_8 : List AO := [⟨(some 12), none, .mv (.v (.int .i64 0))⟩]
theorem tr21_8 : TR Tryz.f21 99 8 = some a21_8 := by kernel_rfl
def a21_9 : List AO := [⟨(some 42), none, .mv (.t 12)⟩,
  ⟨(some 43), none, .mv (.t 1)⟩,
  ⟨(some 44), none, .bin .lss (.t 42) (.t 43)⟩]
theorem tr21_9 : TR Tryz.f21 99 9 = some a21_9 := by kernel_rfl
def a21_11 : List AO := [⟨(some 47), none, .fld 1 (.t 2)⟩,
  ⟨(some 48), none, .load none (.t 47)⟩,
  ⟨(some 49), none, .mv (.t 12)⟩,
  ⟨(some 50), none, .idx 3 (.t 48) (.t 49)⟩,
  ⟨(some 51), none, .load (some 3) (.t 50)⟩,
  ⟨(some 13), none, .alloc 48 [(.str []), (.str []), (.int .i64 0)]⟩,
  ⟨none, none, .store 3 (.t 13) (.t 51)⟩]
theorem tr21_11 : TR Tryz.f21 99 11 = some a21_11 := by kernel_rfl
def a21_12 : List AO := [⟨(some 52), none, .mv (.t 11)⟩,
  ⟨(some 53), none, .mv (.t 52)⟩,
  ⟨(some 54), some (53, false), .fld 0 (.t 13)⟩,
  ⟨(some 55), some (53, false), .load none (.t 54)⟩,
  ⟨(some 56), some (53, false), .fld 0 (.t 6)⟩,
  ⟨(some 57), some (53, false), .load none (.t 56)⟩,
  ⟨(some 58), some (53, false), .bin .eql (.t 55) (.t 57)⟩,
  ⟨(some 59), some (53, false), .mv (.t 58)⟩,
  ⟨(some 60), some (59, true), .fld 1 (.t 13)⟩,
  ⟨(some 61), some (59, true), .load none (.t 60)⟩,
  ⟨(some 62), some (59, true), .fld 1 (.t 6)⟩,
  ⟨(some 63), some (59, true), .load none (.t 62)⟩,
  ⟨(some 64), some (59, true), .bin .eql (.t 61) (.t 63)⟩,
  ⟨(some 65), some (53, false), .pick (.t 59) (.t 64) (.v (.bool false))⟩,
  ⟨(some 66), none, .pick (.t 53) (.v (.bool true)) (.t 65)⟩,
  ⟨(some 67), none, .mv (.t 66)⟩,
  ⟨(some 68), some (67, false), .fld 0 (.t 13)⟩,
  ⟨(some 69), some (67, false), .load none (.t 68)⟩,
  ⟨(some 70), some (67, false), .fld 1 (.t 6)⟩,
  ⟨(some 71), some (67, false), .load none (.t 70)⟩,
  ⟨(some 72), some (67, false), .bin .eql (.t 69) (.t 71)⟩,
  ⟨(some 73), some (67, false), .mv (.t 72)⟩,
  ⟨(some 74), some (73, true), .fld 1 (.t 13)⟩,
  ⟨(some 75), some (73, true), .load none (.t 74)⟩,
  ⟨(some 76), some (73, true), .fld 0 (.t 6)⟩,
  ⟨(some 77), some (73, true), .load none (.t 76)⟩,
  ⟨(some 78), some (73, true), .bin .eql (.t 75) (.t 77)⟩,
  ⟨(some 79), some (67, false), .pick (.t 73) (.t 78) (.v (.bool false))⟩,
  ⟨(some 80), none, .pick (.t 67) (.v (.bool true)) (.t 79)⟩,
  ⟨(some 11), none, .mv (.t 80)⟩]
theorem tr21_12 : TR Tryz.f21 99 12 = some a21_12 := by kernel_rfl
def a21_10 : List AO := [⟨(some 45), none, .mv (.t 12)⟩,
  ⟨(some 46), none, .bin .add (.t 45) (.v (.int .i64 1))⟩,
  ⟨(some 12), none, .mv (.t 46)⟩]
theorem tr21_10 : TR Tryz.f21 99 10 = some a21_10 := by kernel_rfl
def a21_13 : List AO := [⟨(some 81), none, .mv (.t 11)⟩]
theorem tr21_13 : TR Tryz.f21 99 13 = some a21_13 := by kernel_rfl
def a21_14 : List AO := [⟨(some 82), none, .mv (.t 5)⟩,
  ⟨(some 83), none, .slc 35 1 false [(.v (.int .i64 6))]⟩,
  ⟨(some 84), none, .app 35 1 8 (.t 82) (.t 83)⟩,
  ⟨(some 5), none, .mv (.t 84)⟩]
theorem tr21_14 : TR Tryz.f21 99 14 = some a21_14 := by kernel_rfl
def a21_15 : List AO := [⟨(some 85), none, .load (some 3) (.t 6)⟩,
  ⟨(some 86), none, .call 39 [(.t 85)]⟩,
  ⟨(some 87), none, .un .not (.t 86)⟩,
  ⟨(some 88), none, .mv (.t 87)⟩,
  ⟨(some 89), some (88, false), .fld 0 (.t 6)⟩,
  ⟨(some 90), some (88, false), .load none (.t 89)⟩,
  ⟨(some 91), some (88, false), .fld 1 (.t 6)⟩,
  ⟨(some 92), some (88, false), .load none (.t 91)⟩,
  ⟨(some 93), some (88, false), .bin .eql (.t 90) (.t 92)⟩,
  ⟨(some 94), none, .pick (.t 88) (.v (.bool true)) (.t 93)⟩]
theorem tr21_15 : TR Tryz.f21 99 15 = some a21_15 := by kernel_rfl
def a21_16 : List AO := [⟨(some 95), none, .mv (.t 5)⟩,
  ⟨(some 96), none, .slc 35 1 false [(.v (.int .i64 2))]⟩,
  ⟨(some 97), none, .app 35 1 8 (.t 95) (.t 96)⟩,
  ⟨(some 5), none, .mv (.t 97)⟩]
theorem tr21_16 : TR Tryz.f21 99 16 = some a21_16 := by kernel_rfl
def a21_17 : List AO := [⟨(some 98), none, .mv (.t 5)⟩,
  ⟨(some 4), none, .mv (.t 98)⟩]
theorem tr21_17 : TR Tryz.f21 99 17 = some a21_17 := by kernel_rfl
/-- airline/prorate.sums -/
noncomputable def c22 : Code := .seq (.region 0 (ro Tryz.f22 0) false) (.seq (.region 1 (ro Tryz.f22 1) false) (.seq (.region 2 (ro Tryz.f22 2) false) (.seq (.seq (.region 3 (ro Tryz.f22 3) false) (.block 0 (.loop (.seq (.region 4 (ro Tryz.f22 4) false) (.seq (.cond (.tmp 17) (.skip) (.exit 0)) (.seq (.block 1 (.seq (.region 5 (ro Tryz.f22 5) false) (.seq (.region 6 (ro Tryz.f22 6) false) (.seq (.seq (.region 7 (ro Tryz.f22 7) false) (.cond (.tmp 28) (.seq (.region 8 (ro Tryz.f22 8) false) (.ret)) (.skip))) (.region 9 (ro Tryz.f22 9) false))))) (.region 10 (ro Tryz.f22 10) false))))))) (.seq (.region 11 (ro Tryz.f22 11) false) (.ret)))))
theorem body22 : Tryz.f22.body = some c22 := by kernel_rfl
theorem res22 : Tryz.f22.results.toList.mapM (trR Tryz.prog) = some [.t 2, .t 3, .t 4] := by kernel_rfl
theorem nt22 : Tryz.f22.ntmps = 37 := by kernel_rfl
theorem nm22 : (Tryz.f22.name == "runtime.NumGoroutine") = false := by kernel_rfl
def a22_0 : List AO := [⟨(some 2), none, .mv (.v .nils)⟩,
  ⟨(some 3), none, .mv (.v .nils)⟩,
  ⟨(some 4), none, .mv (.v (.int .i64 0))⟩]
theorem tr22_0 : TR Tryz.f22 37 0 = some a22_0 := by kernel_rfl
def a22_1 : List AO := [⟨(some 11), none, .mv (.t 0)⟩,
  ⟨(some 12), none, .call 48 [(.t 11)]⟩,
  ⟨(some 13), none, .call 47 [(.t 12)]⟩,
  ⟨(some 5), none, .mv (.t 13)⟩]
theorem tr22_1 : TR Tryz.f22 37 1 = some a22_1 := by kernel_rfl
def a22_2 : List AO := [⟨(some 6), none, .mv (.v .nils)⟩]
theorem tr22_2 : TR Tryz.f22 37 2 = some a22_2 := by kernel_rfl
def a22_3 : List AO := [⟨(some 14), none, .mv (.t 5)⟩,
  ⟨(some 15), none, .len (.t 14)⟩,
  ⟨(some 16), none, .mv (.v (.int .i64 0))⟩]
theorem tr22_3 : TR Tryz.f22 37 3 = some a22_3 := by kernel_rfl
def a22_4 : List AO := [⟨(some 17), none, .bin .lss (.t 16) (.t 15)⟩]
theorem tr22_4 : TR Tryz.f22 37 4 = some a22_4 := by kernel_rfl
def a22_5 : List AO := [⟨(some 18), none, .idx 1 (.t 14) (.t 16)⟩,
  ⟨(some 19), none, .load none (.t 18)⟩,
  ⟨(some 8), none, .mv (.t 19)⟩]
theorem tr22_5 : TR Tryz.f22 37 5 = some a22_5 := by kernel_rfl
def a22_6 : List AO := [⟨(some 21), none, .mv (.t 0)⟩,
  ⟨(some 22), none, .mv (.t 8)⟩,
  ⟨(some 23), none, .look 0 false .nils (.t 21) (.t 22)⟩,
  ⟨(some 24), none, .call 49 [(.t 23)]⟩,
  ⟨(some 20), none, .mv (.t 24)⟩,
  ⟨(some 25), none, .ext 0 (.t 20)⟩,
  ⟨(some 26), none, .ext 1 (.t 20)⟩,
  ⟨(some 9), none, .mv (.t 25)⟩,
  ⟨(some 10), none, .mv (.t 26)⟩]
theorem tr22_6 : TR Tryz.f22 37 6 = some a22_6 := by kernel_rfl
def a22_7 : List AO := [⟨(some 27), none, .mv (.t 10)⟩,
  ⟨(some 28), none, .bin .neq (.t 27) (.v (.int .i64 0))⟩]
theorem tr22_7 : TR Tryz.f22 37 7 = some a22_7 := by kernel_rfl
def a22_8 : List AO := [⟨(some 29), none, .mv (.t 10)⟩,
  ⟨(some 2), none, .mv (.v .nils)⟩,
  ⟨(some 3), none, .mv (.v .nils)⟩,
  ⟨(some 4), none, .mv (.t 29)⟩]
theorem tr22_8 : TR Tryz.f22 37 8 = some a22_8 := by kernel_rfl
def a22_9 : List AO := [⟨(some 30), none, .mv (.t 6)⟩,
  ⟨(some 31), none, .mv (.t 9)⟩,
  ⟨(some 32), none, .slc 3 1 false [(.t 31)]⟩,
  ⟨(some 33), none, .app 3 1 8 (.t 30) (.t 32)⟩,
  ⟨(some 6), none, .mv (.t 33)⟩]
theorem tr22_9 : TR Tryz.f22 37 9 = some a22_9 := by kernel_rfl
def a22_10 : List AO := [⟨(some 34), none, .bin .add (.t 16) (.v (.int .i64 1))⟩,
  ⟨(some 16), none, .mv (.t 34)⟩]
theorem tr22_10 : TR Tryz.f22 37 10 = some a22_10 := by kernel_rfl
def a22_11 : List AO := [⟨(some 35), none, .mv (.t 5)⟩,
  ⟨(some 36), none, .mv (.t 6)⟩,
  ⟨(some 2), none, .mv (.t 35)⟩,
  ⟨(some 3), none, .mv (.t 36)⟩,
  ⟨(some 4), none, .mv (.v (.int .i64 0))⟩]
theorem tr22_11 : TR Tryz.f22 37 11 = some a22_11 := by kernel_rfl
/-- airline/money.total -/
noncomputable def c23 : Code := .seq (.region 0 (ro Tryz.f23 0) false) (.seq (.region 1 (ro Tryz.f23 1) false) (.seq (.seq (.region 2 (ro Tryz.f23 2) false) (.block 0 (.loop (.seq (.region 3 (ro Tryz.f23 3) false) (.seq (.cond (.tmp 10) (.skip) (.exit 0)) (.seq (.block 1 (.seq (.region 4 (ro Tryz.f23 4) false) (.seq (.seq (.region 5 (ro Tryz.f23 5) false) (.cond (.tmp 14) (.seq (.region 6 (ro Tryz.f23 6) false) (.ret)) (.skip))) (.seq (.region 7 (ro Tryz.f23 7) false) (.cond (.tmp 16) (.region 8 (ro Tryz.f23 8) false) (.skip)))))) (.region 9 (ro Tryz.f23 9) false))))))) (.seq (.seq (.region 10 (ro Tryz.f23 10) false) (.cond (.tmp 23) (.seq (.region 11 (ro Tryz.f23 11) false) (.ret)) (.skip))) (.seq (.region 12 (ro Tryz.f23 12) false) (.ret)))))
theorem body23 : Tryz.f23.body = some c23 := by kernel_rfl
theorem res23 : Tryz.f23.results.toList.mapM (trR Tryz.prog) = some [.t 2, .t 3] := by kernel_rfl
theorem nt23 : Tryz.f23.ntmps = 25 := by kernel_rfl
theorem nm23 : (Tryz.f23.name == "runtime.NumGoroutine") = false := by kernel_rfl
def a23_0 : List AO := [⟨(some 2), none, .mv (.v (.int .i64 0))⟩,
  ⟨(some 3), none, .mv (.v (.int .i64 0))⟩]
theorem tr23_0 : TR Tryz.f23 25 0 = some a23_0 := by kernel_rfl
def a23_1 : List AO := [⟨(some 4), none, .mv (.v (.int .i64 0))⟩]
theorem tr23_1 : TR Tryz.f23 25 1 = some a23_1 := by kernel_rfl
def a23_2 : List AO := [⟨(some 7), none, .mv (.t 0)⟩,
  ⟨(some 8), none, .len (.t 7)⟩,
  ⟨(some 9), none, .mv (.v (.int .i64 0))⟩]
theorem tr23_2 : TR Tryz.f23 25 2 = some a23_2 := by kernel_rfl
def a23_3 : List AO := [⟨(some 10), none, .bin .lss (.t 9) (.t 8)⟩]
theorem tr23_3 : TR Tryz.f23 25 3 = some a23_3 := by kernel_rfl
def a23_4 : List AO := [⟨(some 11), none, .idx 1 (.t 7) (.t 9)⟩,
  ⟨(some 12), none, .load none (.t 11)⟩,
  ⟨(some 6), none, .mv (.t 12)⟩]
theorem tr23_4 : TR Tryz.f23 25 4 = some a23_4 := by kernel_rfl
def a23_5 : List AO := [⟨(some 13), none, .mv (.t 6)⟩,
  ⟨(some 14), none, .bin .lss (.t 13) (.v (.int .i64 0))⟩]
theorem tr23_5 : TR Tryz.f23 25 5 = some a23_5 := by kernel_rfl
def a23_6 : List AO := [⟨(some 2), none, .mv (.v (.int .i64 0))⟩,
  ⟨(some 3), none, .mv (.v (.int .i64 2))⟩]
theorem tr23_6 : TR Tryz.f23 25 6 = some a23_6 := by kernel_rfl
def a23_7 : List AO := [⟨(some 15), none, .mv (.t 4)⟩,
  ⟨(some 16), none, .bin .leq (.t 15) (.v (.int .i64 1099511627776))⟩]
theorem tr23_7 : TR Tryz.f23 25 7 = some a23_7 := by kernel_rfl
def a23_8 : List AO := [⟨(some 17), none, .mv (.t 4)⟩,
  ⟨(some 18), none, .mv (.t 6)⟩,
  ⟨(some 19), none, .mn (.t 18) (.v (.int .i64 1099511627777))⟩,
  ⟨(some 20), none, .bin .add (.t 17) (.t 19)⟩,
  ⟨(some 4), none, .mv (.t 20)⟩]
theorem tr23_8 : TR Tryz.f23 25 8 = some a23_8 := by kernel_rfl
def a23_9 : List AO := [⟨(some 21), none, .bin .add (.t 9) (.v (.int .i64 1))⟩,
  ⟨(some 9), none, .mv (.t 21)⟩]
theorem tr23_9 : TR Tryz.f23 25 9 = some a23_9 := by kernel_rfl
def a23_10 : List AO := [⟨(some 22), none, .mv (.t 4)⟩,
  ⟨(some 23), none, .bin .eql (.t 22) (.v (.int .i64 0))⟩]
theorem tr23_10 : TR Tryz.f23 25 10 = some a23_10 := by kernel_rfl
def a23_11 : List AO := [⟨(some 2), none, .mv (.v (.int .i64 0))⟩,
  ⟨(some 3), none, .mv (.v (.int .i64 2))⟩]
theorem tr23_11 : TR Tryz.f23 25 11 = some a23_11 := by kernel_rfl
def a23_12 : List AO := [⟨(some 24), none, .mv (.t 4)⟩,
  ⟨(some 2), none, .mv (.t 24)⟩,
  ⟨(some 3), none, .mv (.v (.int .i64 0))⟩]
theorem tr23_12 : TR Tryz.f23 25 12 = some a23_12 := by kernel_rfl
/-- airline/money.fits -/
noncomputable def c24 : Code := .seq (.region 0 (ro Tryz.f24 0) false) (.seq (.region 1 (ro Tryz.f24 1) false) (.ret))
theorem body24 : Tryz.f24.body = some c24 := by kernel_rfl
theorem res24 : Tryz.f24.results.toList.mapM (trR Tryz.prog) = some [.t 2] := by kernel_rfl
theorem nt24 : Tryz.f24.ntmps = 9 := by kernel_rfl
theorem nm24 : (Tryz.f24.name == "runtime.NumGoroutine") = false := by kernel_rfl
def a24_0 : List AO := [⟨(some 2), none, .mv (.v (.bool false))⟩]
theorem tr24_0 : TR Tryz.f24 9 0 = some a24_0 := by kernel_rfl
def a24_1 : List AO := [⟨(some 3), none, .mv (.t 0)⟩,
  ⟨(some 4), none, .bin .geq (.t 3) (.v (.int .i64 (-1099511627776)))⟩,
  ⟨(some 5), none, .mv (.t 4)⟩,
  ⟨(some 6), some (5, true), .mv (.t 0)⟩,
  ⟨(some 7), some (5, true), .bin .leq (.t 6) (.v (.int .i64 1099511627776))⟩,
  ⟨(some 8), none, .pick (.t 5) (.t 7) (.v (.bool false))⟩,
  ⟨(some 2), none, .mv (.t 8)⟩]
theorem tr24_1 : TR Tryz.f24 9 1 = some a24_1 := by kernel_rfl
/-- airline/money.Split 1 -/
noncomputable def c26 : Code := .seq (.region 0 (ro Tryz.f26 0) true) (.region 1 (ro Tryz.f26 1) false)
theorem body26 : Tryz.f26.body = some c26 := by kernel_rfl
theorem res26 : Tryz.f26.results.toList.mapM (trR Tryz.prog) = some [] := by kernel_rfl
theorem nt26 : Tryz.f26.ntmps = 19 := by kernel_rfl
theorem nm26 : (Tryz.f26.name == "runtime.NumGoroutine") = false := by kernel_rfl
def a26_0 : List AO := [⟨(some 7), none, .load none (.t 2)⟩,
  ⟨(some 8), none, .mv (.t 0)⟩,
  ⟨(some 9), none, .idx 1 (.t 7) (.t 8)⟩,
  ⟨(some 10), none, .load none (.t 9)⟩,
  ⟨(some 11), none, .load none (.t 3)⟩,
  ⟨(some 12), none, .mv (.t 1)⟩,
  ⟨(some 13), none, .bin .mul (.t 11) (.t 12)⟩,
  ⟨(some 14), none, .bin .add (.t 10) (.t 13)⟩,
  ⟨(some 15), none, .idx 1 (.t 7) (.t 8)⟩,
  ⟨none, none, .store 1 (.t 15) (.t 14)⟩]
theorem tr26_0 : TR Tryz.f26 19 0 = some a26_0 := by kernel_rfl
def d26_0 : List (List Nat) := [[], [], [0, 1], [0, 1, 2], [], [], [4, 5], [0, 1, 2, 3, 4, 5, 6], [0, 1, 2, 3, 4, 5, 6, 7], [0, 1, 2, 3, 4, 5, 6, 7, 8]]
theorem ok26_0 : okReg (ro Tryz.f26 0) a26_0 d26_0 = true := by kernel_rfl
def a26_1 : List AO := [⟨(some 16), none, .load none (.t 4)⟩,
  ⟨(some 17), none, .mv (.t 1)⟩,
  ⟨(some 18), none, .bin .sub (.t 16) (.t 17)⟩,
  ⟨none, none, .store 1 (.t 4) (.t 18)⟩]
theorem tr26_1 : TR Tryz.f26 19 1 = some a26_1 := by kernel_rfl
/-- airline/money.scale -/
noncomputable def c27 : Code := .seq (.region 0 (ro Tryz.f27 0) false) (.seq (.region 1 (ro Tryz.f27 1) false) (.seq (.seq (.region 2 (ro Tryz.f27 2) false) (.cond (.tmp 21) (.seq (.region 3 (ro Tryz.f27 3) false) (.ret)) (.skip))) (.seq (.region 4 (ro Tryz.f27 4) false) (.seq (.region 5 (ro Tryz.f27 5) false) (.ret)))))
theorem body27 : Tryz.f27.body = some c27 := by kernel_rfl
theorem res27 : Tryz.f27.results.toList.mapM (trR Tryz.prog) = some [.t 6, .t 7, .t 8] := by kernel_rfl
theorem nt27 : Tryz.f27.ntmps = 31 := by kernel_rfl
theorem nm27 : (Tryz.f27.name == "runtime.NumGoroutine") = false := by kernel_rfl
def a27_0 : List AO := [⟨(some 6), none, .mv (.v (.int .u64 0))⟩,
  ⟨(some 7), none, .mv (.v (.int .u64 0))⟩,
  ⟨(some 8), none, .mv (.v (.bool false))⟩]
theorem tr27_0 : TR Tryz.f27 31 0 = some a27_0 := by kernel_rfl
def a27_1 : List AO := [⟨(some 14), none, .mv (.t 0)⟩,
  ⟨(some 15), none, .mv (.t 1)⟩,
  ⟨(some 16), none, .call 50 [(.t 14), (.t 15)]⟩,
  ⟨(some 13), none, .mv (.t 16)⟩,
  ⟨(some 17), none, .ext 0 (.t 13)⟩,
  ⟨(some 18), none, .ext 1 (.t 13)⟩,
  ⟨(some 9), none, .mv (.t 17)⟩,
  ⟨(some 10), none, .mv (.t 18)⟩]
theorem tr27_1 : TR Tryz.f27 31 1 = some a27_1 := by kernel_rfl
def a27_2 : List AO := [⟨(some 19), none, .mv (.t 9)⟩,
  ⟨(some 20), none, .mv (.t 2)⟩,
  ⟨(some 21), none, .bin .geq (.t 19) (.t 20)⟩]
theorem tr27_2 : TR Tryz.f27 31 2 = some a27_2 := by kernel_rfl
def a27_4 : List AO := [⟨(some 23), none, .mv (.t 9)⟩,
  ⟨(some 24), none, .mv (.t 10)⟩,
  ⟨(some 25), none, .mv (.t 2)⟩,
  ⟨(some 26), none, .call 51 [(.t 23), (.t 24), (.t 25)]⟩,
  ⟨(some 22), none, .mv (.t 26)⟩,
  ⟨(some 27), none, .ext 0 (.t 22)⟩,
  ⟨(some 28), none, .ext 1 (.t 22)⟩,
  ⟨(some 11), none, .mv (.t 27)⟩,
  ⟨(some 12), none, .mv (.t 28)⟩]
theorem tr27_4 : TR Tryz.f27 31 4 = some a27_4 := by kernel_rfl
def a27_5 : List AO := [⟨(some 29), none, .mv (.t 11)⟩,
  ⟨(some 30), none, .mv (.t 12)⟩,
  ⟨(some 6), none, .mv (.t 29)⟩,
  ⟨(some 7), none, .mv (.t 30)⟩,
  ⟨(some 8), none, .mv (.v (.bool true))⟩]
theorem tr27_5 : TR Tryz.f27 31 5 = some a27_5 := by kernel_rfl
/-- airline/money.Split 2 -/
noncomputable def c29 : Code := .seq (.region 0 (ro Tryz.f29 0) false) (.seq (.region 1 (ro Tryz.f29 1) true) (.ret))
theorem body29 : Tryz.f29.body = some c29 := by kernel_rfl
theorem res29 : Tryz.f29.results.toList.mapM (trR Tryz.prog) = some [.t 6] := by kernel_rfl
theorem nt29 : Tryz.f29.ntmps = 22 := by kernel_rfl
theorem nm29 : (Tryz.f29.name == "runtime.NumGoroutine") = false := by kernel_rfl
def a29_0 : List AO := [⟨(some 6), none, .mv (.v (.bool false))⟩]
theorem tr29_0 : TR Tryz.f29 22 0 = some a29_0 := by kernel_rfl
def a29_1 : List AO := [⟨(some 7), none, .load none (.t 2)⟩,
  ⟨(some 8), none, .load none (.t 3)⟩,
  ⟨(some 9), none, .mv (.t 0)⟩,
  ⟨(some 10), none, .idx 1 (.t 8) (.t 9)⟩,
  ⟨(some 11), none, .load none (.t 10)⟩,
  ⟨(some 12), none, .idx 1 (.t 7) (.t 11)⟩,
  ⟨(some 13), none, .load none (.t 12)⟩,
  ⟨(some 14), none, .load none (.t 2)⟩,
  ⟨(some 15), none, .load none (.t 3)⟩,
  ⟨(some 16), none, .mv (.t 1)⟩,
  ⟨(some 17), none, .idx 1 (.t 15) (.t 16)⟩,
  ⟨(some 18), none, .load none (.t 17)⟩,
  ⟨(some 19), none, .idx 1 (.t 14) (.t 18)⟩,
  ⟨(some 20), none, .load none (.t 19)⟩,
  ⟨(some 21), none, .bin .gtr (.t 13) (.t 20)⟩,
  ⟨(some 6), none, .mv (.t 21)⟩]
theorem tr29_1 : TR Tryz.f29 22 1 = some a29_1 := by kernel_rfl
def d29_1 : List (List Nat) := [[], [], [], [1, 2], [1, 2, 3], [0, 1, 2, 3, 4], [0, 1, 2, 3, 4, 5], [], [], [], [8, 9], [8, 9, 10], [7, 8, 9, 10, 11], [7, 8, 9, 10, 11, 12], [0, 1, 2, 3, 4, 5, 6, 7, 8, 9, 10, 11, 12, 13], [0, 1, 2, 3, 4, 5, 6, 7, 8, 9, 10, 11, 12, 13, 14]]
theorem ok29_1 : okReg (ro Tryz.f29 1) a29_1 d29_1 = true := by kernel_rfl
/-- airline/airlineref02.weigh -/
noncomputable def c30 : Code := .seq (.region 0 (ro Tryz.f30 0) false) (.seq (.region 1 (ro Tryz.f30 1) false) (.seq (.seq (.region 2 (ro Tryz.f30 2) false) (.block 0 (.loop (.seq (.seq (.region 3 (ro Tryz.f30 3) false) (.cond (.tmp 10) (.skip) (.exit 0))) (.seq (.block 1 (.seq (.region 5 (ro Tryz.f30 5) false) (.cond (.tmp 17) (.seq (.region 6 (ro Tryz.f30 6) false) (.ret)) (.skip)))) (.region 4 (ro Tryz.f30 4) false)))))) (.seq (.seq (.region 7 (ro Tryz.f30 7) false) (.block 2 (.loop (.seq (.seq (.region 8 (ro Tryz.f30 8) false) (.cond (.tmp 21) (.skip) (.exit 2))) (.seq (.block 3 (.seq (.seq (.region 10 (ro Tryz.f30 10) false) (.cond (.tmp 30) (.seq (.region 11 (ro Tryz.f30 11) false) (.ret)) (.skip))) (.region 12 (ro Tryz.f30 12) false))) (.region 9 (ro Tryz.f30 9) false)))))) (.seq (.seq (.region 13 (ro Tryz.f30 13) false) (.cond (.tmp 38) (.seq (.region 14 (ro Tryz.f30 14) false) (.ret)) (.skip))) (.seq (.region 15 (ro Tryz.f30 15) false) (.ret))))))
theorem body30 : Tryz.f30.body = some c30 := by kernel_rfl
theorem res30 : Tryz.f30.results.toList.mapM (trR Tryz.prog) = some [.t 2, .t 3] := by kernel_rfl
theorem nt30 : Tryz.f30.ntmps = 40 := by kernel_rfl
theorem nm30 : (Tryz.f30.name == "runtime.NumGoroutine") = false := by kernel_rfl
def a30_0 : List AO := [⟨(some 2), none, .mv (.v (.int .i64 0))⟩,
  ⟨(some 3), none, .mv (.v (.int .i64 0))⟩]
theorem tr30_0 : TR Tryz.f30 40 0 = some a30_0 := by kernel_rfl
def a30_1 : List AO := [⟨(some 4), none, .mv (.v (.int .i64 0))⟩]
theorem tr30_1 : TR Tryz.f30 40 1 = some a30_1 := by kernel_rfl
def a30_2 : List AO := [⟨(some 5), none, .mv (.v (.int .i64 0))⟩]
theorem tr30_2 : TR Tryz.f30 40 2 = some a30_2 := by kernel_rfl
def a30_3 : List AO := [⟨(some 7), none, .mv (.t 5)⟩,
  ⟨(some 8), none, .mv (.t 0)⟩,
  ⟨(some 9), none, .len (.t 8)⟩,
  ⟨(some 10), none, .bin .lss (.t 7) (.t 9)⟩]
theorem tr30_3 : TR Tryz.f30 40 3 = some a30_3 := by kernel_rfl
def a30_5 : List AO := [⟨(some 13), none, .mv (.t 0)⟩,
  ⟨(some 14), none, .mv (.t 5)⟩,
  ⟨(some 15), none, .idx 1 (.t 13) (.t 14)⟩,
  ⟨(some 16), none, .load none (.t 15)⟩,
  ⟨(some 17), none, .bin .lss (.t 16) (.v (.int .i64 0))⟩]
theorem tr30_5 : TR Tryz.f30 40 5 = some a30_5 := by kernel_rfl
def a30_6 : List AO := [⟨(some 2), none, .mv (.v (.int .i64 0))⟩,
  ⟨(some 3), none, .mv (.v (.int .i64 2))⟩]
theorem tr30_6 : TR Tryz.f30 40 6 = some a30_6 := by kernel_rfl
def a30_4 : List AO := [⟨(some 11), none, .mv (.t 5)⟩,
  ⟨(some 12), none, .bin .add (.t 11) (.v (.int .i64 1))⟩,
  ⟨(some 5), none, .mv (.t 12)⟩]
theorem tr30_4 : TR Tryz.f30 40 4 = some a30_4 := by kernel_rfl
def a30_7 : List AO := [⟨(some 6), none, .mv (.v (.int .i64 0))⟩]
theorem tr30_7 : TR Tryz.f30 40 7 = some a30_7 := by kernel_rfl
def a30_8 : List AO := [⟨(some 18), none, .mv (.t 6)⟩,
  ⟨(some 19), none, .mv (.t 0)⟩,
  ⟨(some 20), none, .len (.t 19)⟩,
  ⟨(some 21), none, .bin .lss (.t 18) (.t 20)⟩]
theorem tr30_8 : TR Tryz.f30 40 8 = some a30_8 := by kernel_rfl
def a30_10 : List AO := [⟨(some 24), none, .mv (.t 0)⟩,
  ⟨(some 25), none, .mv (.t 6)⟩,
  ⟨(some 26), none, .idx 1 (.t 24) (.t 25)⟩,
  ⟨(some 27), none, .load none (.t 26)⟩,
  ⟨(some 28), none, .mv (.t 4)⟩,
  ⟨(some 29), none, .bin .sub (.v (.int .i64 1099511627776)) (.t 28)⟩,
  ⟨(some 30), none, .bin .gtr (.t 27) (.t 29)⟩]
theorem tr30_10 : TR Tryz.f30 40 10 = some a30_10 := by kernel_rfl
def a30_11 : List AO := [⟨(some 2), none, .mv (.v (.int .i64 0))⟩,
  ⟨(some 3), none, .mv (.v (.int .i64 11))⟩]
theorem tr30_11 : TR Tryz.f30 40 11 = some a30_11 := by kernel_rfl
def a30_12 : List AO := [⟨(some 31), none, .mv (.t 4)⟩,
  ⟨(some 32), none, .mv (.t 0)⟩,
  ⟨(some 33), none, .mv (.t 6)⟩,
  ⟨(some 34), none, .idx 1 (.t 32) (.t 33)⟩,
  ⟨(some 35), none, .load none (.t 34)⟩,
  ⟨(some 36), none, .bin .add (.t 31) (.t 35)⟩,
  ⟨(some 4), none, .mv (.t 36)⟩]
theorem tr30_12 : TR Tryz.f30 40 12 = some a30_12 := by kernel_rfl
def a30_9 : List AO := [⟨(some 22), none, .mv (.t 6)⟩,
  ⟨(some 23), none, .bin .add (.t 22) (.v (.int .i64 1))⟩,
  ⟨(some 6), none, .mv (.t 23)⟩]
theorem tr30_9 : TR Tryz.f30 40 9 = some a30_9 := by kernel_rfl
def a30_13 : List AO := [⟨(some 37), none, .mv (.t 4)⟩,
  ⟨(some 38), none, .bin .eql (.t 37) (.v (.int .i64 0))⟩]
theorem tr30_13 : TR Tryz.f30 40 13 = some a30_13 := by kernel_rfl
def a30_14 : List AO := [⟨(some 2), none, .mv (.v (.int .i64 0))⟩,
  ⟨(some 3), none, .mv (.v (.int .i64 2))⟩]
theorem tr30_14 : TR Tryz.f30 40 14 = some a30_14 := by kernel_rfl
def a30_15 : List AO := [⟨(some 39), none, .mv (.t 4)⟩,
  ⟨(some 2), none, .mv (.t 39)⟩,
  ⟨(some 3), none, .mv (.v (.int .i64 0))⟩]
theorem tr30_15 : TR Tryz.f30 40 15 = some a30_15 := by kernel_rfl
/-- airline/airlineref02.Amount -/
noncomputable def c31 : Code := .seq (.region 0 (ro Tryz.f31 0) false) (.seq (.region 1 (ro Tryz.f31 1) false) (.ret))
theorem body31 : Tryz.f31.body = some c31 := by kernel_rfl
theorem res31 : Tryz.f31.results.toList.mapM (trR Tryz.prog) = some [.t 2] := by kernel_rfl
theorem nt31 : Tryz.f31.ntmps = 9 := by kernel_rfl
theorem nm31 : (Tryz.f31.name == "runtime.NumGoroutine") = false := by kernel_rfl
def a31_0 : List AO := [⟨(some 2), none, .mv (.v (.bool false))⟩]
theorem tr31_0 : TR Tryz.f31 9 0 = some a31_0 := by kernel_rfl
def a31_1 : List AO := [⟨(some 3), none, .mv (.t 0)⟩,
  ⟨(some 4), none, .bin .geq (.t 3) (.v (.int .i64 (-1099511627776)))⟩,
  ⟨(some 5), none, .mv (.t 4)⟩,
  ⟨(some 6), some (5, true), .mv (.t 0)⟩,
  ⟨(some 7), some (5, true), .bin .leq (.t 6) (.v (.int .i64 1099511627776))⟩,
  ⟨(some 8), none, .pick (.t 5) (.t 7) (.v (.bool false))⟩,
  ⟨(some 2), none, .mv (.t 8)⟩]
theorem tr31_1 : TR Tryz.f31 9 1 = some a31_1 := by kernel_rfl
/-- airline/airlineref02.size -/
noncomputable def c32 : Code := .seq (.region 0 (ro Tryz.f32 0) false) (.seq (.seq (.region 1 (ro Tryz.f32 1) false) (.cond (.tmp 4) (.seq (.region 2 (ro Tryz.f32 2) false) (.ret)) (.skip))) (.seq (.region 3 (ro Tryz.f32 3) false) (.ret)))
theorem body32 : Tryz.f32.body = some c32 := by kernel_rfl
theorem res32 : Tryz.f32.results.toList.mapM (trR Tryz.prog) = some [.t 2] := by kernel_rfl
theorem nt32 : Tryz.f32.ntmps = 8 := by kernel_rfl
theorem nm32 : (Tryz.f32.name == "runtime.NumGoroutine") = false := by kernel_rfl
def a32_0 : List AO := [⟨(some 2), none, .mv (.v (.int .i64 0))⟩]
theorem tr32_0 : TR Tryz.f32 8 0 = some a32_0 := by kernel_rfl
def a32_1 : List AO := [⟨(some 3), none, .mv (.t 0)⟩,
  ⟨(some 4), none, .bin .lss (.t 3) (.v (.int .i64 0))⟩]
theorem tr32_1 : TR Tryz.f32 8 1 = some a32_1 := by kernel_rfl
def a32_2 : List AO := [⟨(some 5), none, .mv (.t 0)⟩,
  ⟨(some 6), none, .un .neg (.t 5)⟩,
  ⟨(some 2), none, .mv (.t 6)⟩]
theorem tr32_2 : TR Tryz.f32 8 2 = some a32_2 := by kernel_rfl
def a32_3 : List AO := [⟨(some 7), none, .mv (.t 0)⟩,
  ⟨(some 2), none, .mv (.t 7)⟩]
theorem tr32_3 : TR Tryz.f32 8 3 = some a32_3 := by kernel_rfl
/-- airline/airlineref02.share -/
noncomputable def c33 : Code := .seq (.region 0 (ro Tryz.f33 0) false) (.seq (.region 1 (ro Tryz.f33 1) false) (.seq (.seq (.region 2 (ro Tryz.f33 2) false) (.block 0 (.loop (.seq (.seq (.region 3 (ro Tryz.f33 3) false) (.cond (.tmp 12) (.skip) (.exit 0))) (.seq (.block 1 (.seq (.region 5 (ro Tryz.f33 5) false) (.seq (.seq (.region 6 (ro Tryz.f33 6) false) (.cond (.tmp 23) (.region 7 (ro Tryz.f33 7) false) (.skip))) (.block 2 (.loop (.seq (.seq (.region 8 (ro Tryz.f33 8) false) (.cond (.tmp 29) (.skip) (.exit 2))) (.block 3 (.region 9 (ro Tryz.f33 9) false)))))))) (.region 4 (ro Tryz.f33 4) false)))))) (.seq (.region 10 (ro Tryz.f33 10) false) (.ret))))
theorem body33 : Tryz.f33.body = some c33 := by kernel_rfl
theorem res33 : Tryz.f33.results.toList.mapM (trR Tryz.prog) = some [.t 6, .t 7] := by kernel_rfl
theorem nt33 : Tryz.f33.ntmps = 37 := by kernel_rfl
theorem nm33 : (Tryz.f33.name == "runtime.NumGoroutine") = false := by kernel_rfl
def a33_0 : List AO := [⟨(some 6), none, .mv (.v (.int .i64 0))⟩,
  ⟨(some 7), none, .mv (.v (.int .i64 0))⟩]
theorem tr33_0 : TR Tryz.f33 37 0 = some a33_0 := by kernel_rfl
def a33_1 : List AO := [⟨(some 8), none, .mv (.v (.int .i64 0))⟩,
  ⟨(some 9), none, .mv (.v (.int .i64 0))⟩]
theorem tr33_1 : TR Tryz.f33 37 1 = some a33_1 := by kernel_rfl
def a33_2 : List AO := [⟨(some 10), none, .mv (.v (.int .i64 1099511627776))⟩]
theorem tr33_2 : TR Tryz.f33 37 2 = some a33_2 := by kernel_rfl
def a33_3 : List AO := [⟨(some 11), none, .mv (.t 10)⟩,
  ⟨(some 12), none, .bin .gtr (.t 11) (.v (.int .i64 0))⟩]
theorem tr33_3 : TR Tryz.f33 37 3 = some a33_3 := by kernel_rfl
def a33_5 : List AO := [⟨(some 15), none, .mv (.t 8)⟩,
  ⟨(some 16), none, .bin .mul (.v (.int .i64 2)) (.t 15)⟩,
  ⟨(some 17), none, .mv (.t 9)⟩,
  ⟨(some 18), none, .bin .mul (.v (.int .i64 2)) (.t 17)⟩,
  ⟨(some 8), none, .mv (.t 16)⟩,
  ⟨(some 9), none, .mv (.t 18)⟩]
theorem tr33_5 : TR Tryz.f33 37 5 = some a33_5 := by kernel_rfl
def a33_6 : List AO := [⟨(some 19), none, .mv (.t 0)⟩,
  ⟨(some 20), none, .mv (.t 10)⟩,
  ⟨(some 21), none, .bin .quo (.t 19) (.t 20)⟩,
  ⟨(some 22), none, .bin .rem (.t 21) (.v (.int .i64 2))⟩,
  ⟨(some 23), none, .bin .eql (.t 22) (.v (.int .i64 1))⟩]
theorem tr33_6 : TR Tryz.f33 37 6 = some a33_6 := by kernel_rfl
def a33_7 : List AO := [⟨(some 24), none, .mv (.t 9)⟩,
  ⟨(some 25), none, .mv (.t 1)⟩,
  ⟨(some 26), none, .bin .add (.t 24) (.t 25)⟩,
  ⟨(some 9), none, .mv (.t 26)⟩]
theorem tr33_7 : TR Tryz.f33 37 7 = some a33_7 := by kernel_rfl
def a33_8 : List AO := [⟨(some 27), none, .mv (.t 9)⟩,
  ⟨(some 28), none, .mv (.t 2)⟩,
  ⟨(some 29), none, .bin .geq (.t 27) (.t 28)⟩]
theorem tr33_8 : TR Tryz.f33 37 8 = some a33_8 := by kernel_rfl
def a33_9 : List AO := [⟨(some 30), none, .mv (.t 8)⟩,
  ⟨(some 31), none, .bin .add (.t 30) (.v (.int .i64 1))⟩,
  ⟨(some 32), none, .mv (.t 9)⟩,
  ⟨(some 33), none, .mv (.t 2)⟩,
  ⟨(some 34), none, .bin .sub (.t 32) (.t 33)⟩,
  ⟨(some 8), none, .mv (.t 31)⟩,
  ⟨(some 9), none, .mv (.t 34)⟩]
theorem tr33_9 : TR Tryz.f33 37 9 = some a33_9 := by kernel_rfl
def a33_4 : List AO := [⟨(some 13), none, .mv (.t 10)⟩,
  ⟨(some 14), none, .bin .quo (.t 13) (.v (.int .i64 2))⟩,
  ⟨(some 10), none, .mv (.t 14)⟩]
theorem tr33_4 : TR Tryz.f33 37 4 = some a33_4 := by kernel_rfl
def a33_10 : List AO := [⟨(some 35), none, .mv (.t 8)⟩,
  ⟨(some 36), none, .mv (.t 9)⟩,
  ⟨(some 6), none, .mv (.t 35)⟩,
  ⟨(some 7), none, .mv (.t 36)⟩]
theorem tr33_10 : TR Tryz.f33 37 10 = some a33_10 := by kernel_rfl
/-- airline/airlineref02.greatest -/
noncomputable def c34 : Code := .seq (.region 0 (ro Tryz.f34 0) false) (.seq (.region 1 (ro Tryz.f34 1) false) (.seq (.seq (.region 2 (ro Tryz.f34 2) false) (.block 0 (.loop (.seq (.seq (.region 3 (ro Tryz.f34 3) false) (.cond (.tmp 8) (.skip) (.exit 0))) (.seq (.block 1 (.seq (.region 5 (ro Tryz.f34 5) true) (.cond (.tmp 19) (.region 6 (ro Tryz.f34 6) false) (.skip)))) (.region 4 (ro Tryz.f34 4) false)))))) (.seq (.region 7 (ro Tryz.f34 7) false) (.ret))))
theorem body34 : Tryz.f34.body = some c34 := by kernel_rfl
theorem res34 : Tryz.f34.results.toList.mapM (trR Tryz.prog) = some [.t 2] := by kernel_rfl
theorem nt34 : Tryz.f34.ntmps = 22 := by kernel_rfl
theorem nm34 : (Tryz.f34.name == "runtime.NumGoroutine") = false := by kernel_rfl
def a34_0 : List AO := [⟨(some 2), none, .mv (.v (.int .i64 0))⟩]
theorem tr34_0 : TR Tryz.f34 22 0 = some a34_0 := by kernel_rfl
def a34_1 : List AO := [⟨(some 3), none, .mv (.v (.int .i64 0))⟩]
theorem tr34_1 : TR Tryz.f34 22 1 = some a34_1 := by kernel_rfl
def a34_2 : List AO := [⟨(some 4), none, .mv (.v (.int .i64 0))⟩]
theorem tr34_2 : TR Tryz.f34 22 2 = some a34_2 := by kernel_rfl
def a34_3 : List AO := [⟨(some 5), none, .mv (.t 4)⟩,
  ⟨(some 6), none, .mv (.t 0)⟩,
  ⟨(some 7), none, .len (.t 6)⟩,
  ⟨(some 8), none, .bin .lss (.t 5) (.t 7)⟩]
theorem tr34_3 : TR Tryz.f34 22 3 = some a34_3 := by kernel_rfl
def a34_5 : List AO := [⟨(some 11), none, .mv (.t 0)⟩,
  ⟨(some 12), none, .mv (.t 4)⟩,
  ⟨(some 13), none, .idx 1 (.t 11) (.t 12)⟩,
  ⟨(some 14), none, .load none (.t 13)⟩,
  ⟨(some 15), none, .mv (.t 0)⟩,
  ⟨(some 16), none, .mv (.t 3)⟩,
  ⟨(some 17), none, .idx 1 (.t 15) (.t 16)⟩,
  ⟨(some 18), none, .load none (.t 17)⟩,
  ⟨(some 19), none, .bin .gtr (.t 14) (.t 18)⟩]
theorem tr34_5 : TR Tryz.f34 22 5 = some a34_5 := by kernel_rfl
def d34_5 : List (List Nat) := [[], [], [0, 1], [0, 1, 2], [], [], [4, 5], [4, 5, 6], [0, 1, 2, 3, 4, 5, 6, 7]]
theorem ok34_5 : okReg (ro Tryz.f34 5) a34_5 d34_5 = true := by kernel_rfl
def a34_6 : List AO := [⟨(some 20), none, .mv (.t 4)⟩,
  ⟨(some 3), none, .mv (.t 20)⟩]
theorem tr34_6 : TR Tryz.f34 22 6 = some a34_6 := by kernel_rfl
def a34_4 : List AO := [⟨(some 9), none, .mv (.t 4)⟩,
  ⟨(some 10), none, .bin .add (.t 9) (.v (.int .i64 1))⟩,
  ⟨(some 4), none, .mv (.t 10)⟩]
theorem tr34_4 : TR Tryz.f34 22 4 = some a34_4 := by kernel_rfl
def a34_7 : List AO := [⟨(some 21), none, .mv (.t 3)⟩,
  ⟨(some 2), none, .mv (.t 21)⟩]
theorem tr34_7 : TR Tryz.f34 22 7 = some a34_7 := by kernel_rfl
/-- airline/places.City -/
noncomputable def c35 : Code := .seq (.region 0 (ro Tryz.f35 0) false) (.seq (.seq (.region 1 (ro Tryz.f35 1) false) (.seq (.region 2 (ro Tryz.f35 2) false) (.cond (.tmp 15) (.seq (.region 3 (ro Tryz.f35 3) false) (.ret)) (.skip)))) (.seq (.seq (.region 4 (ro Tryz.f35 4) false) (.seq (.region 5 (ro Tryz.f35 5) false) (.cond (.tmp 24) (.seq (.region 6 (ro Tryz.f35 6) false) (.ret)) (.skip)))) (.seq (.region 7 (ro Tryz.f35 7) false) (.ret))))
theorem body35 : Tryz.f35.body = some c35 := by kernel_rfl
theorem res35 : Tryz.f35.results.toList.mapM (trR Tryz.prog) = some [.t 4] := by kernel_rfl
theorem nt35 : Tryz.f35.ntmps = 26 := by kernel_rfl
theorem nm35 : (Tryz.f35.name == "runtime.NumGoroutine") = false := by kernel_rfl
def a35_0 : List AO := [⟨(some 2), none, .box 25 (.t 0)⟩,
  ⟨(some 4), none, .mv (.v (.str []))⟩]
theorem tr35_0 : TR Tryz.f35 26 0 = some a35_0 := by kernel_rfl
def a35_1 : List AO := [⟨(some 10), none, .load (some 2) (.t 2)⟩,
  ⟨(some 11), none, .mv (.t 1)⟩,
  ⟨(some 12), none, .call 56 [(.t 10), (.t 11)]⟩,
  ⟨(some 9), none, .mv (.t 12)⟩,
  ⟨(some 13), none, .ext 0 (.t 9)⟩,
  ⟨(some 14), none, .ext 1 (.t 9)⟩,
  ⟨(some 5), none, .alloc 46 [(.str []), (.str []), (.str []), (.int .i64 0), .nils]⟩,
  ⟨none, none, .store 5 (.t 5) (.t 13)⟩,
  ⟨(some 6), none, .mv (.t 14)⟩]
theorem tr35_1 : TR Tryz.f35 26 1 = some a35_1 := by kernel_rfl
def a35_2 : List AO := [⟨(some 15), none, .mv (.t 6)⟩]
theorem tr35_2 : TR Tryz.f35 26 2 = some a35_2 := by kernel_rfl
def a35_3 : List AO := [⟨(some 16), none, .fld 1 (.t 5)⟩,
  ⟨(some 17), none, .load none (.t 16)⟩,
  ⟨(some 4), none, .mv (.t 17)⟩]
theorem tr35_3 : TR Tryz.f35 26 3 = some a35_3 := by kernel_rfl
def a35_4 : List AO := [⟨(some 19), none, .load (some 2) (.t 2)⟩,
  ⟨(some 20), none, .mv (.t 1)⟩,
  ⟨(some 21), none, .call 57 [(.t 19), (.t 20)]⟩,
  ⟨(some 18), none, .mv (.t 21)⟩,
  ⟨(some 22), none, .ext 0 (.t 18)⟩,
  ⟨(some 23), none, .ext 1 (.t 18)⟩,
  ⟨(some 7), none, .alloc 46 [(.str []), (.str []), (.str []), (.int .i64 0), .nils]⟩,
  ⟨none, none, .store 5 (.t 7) (.t 22)⟩,
  ⟨(some 8), none, .mv (.t 23)⟩]
theorem tr35_4 : TR Tryz.f35 26 4 = some a35_4 := by kernel_rfl
def a35_5 : List AO := [⟨(some 24), none, .mv (.t 8)⟩]
theorem tr35_5 : TR Tryz.f35 26 5 = some a35_5 := by kernel_rfl
def a35_6 : List AO := [⟨(some 25), none, .mv (.t 1)⟩,
  ⟨(some 4), none, .mv (.t 25)⟩]
theorem tr35_6 : TR Tryz.f35 26 6 = some a35_6 := by kernel_rfl
def a35_7 : List AO := [⟨(some 4), none, .mv (.v (.str []))⟩]
theorem tr35_7 : TR Tryz.f35 26 7 = some a35_7 := by kernel_rfl
/-- airline/places.Miles 1 -/
noncomputable def c36 : Code := .seq (.region 0 (ro Tryz.f36 0) false) (.seq (.region 1 (ro Tryz.f36 1) false) (.seq (.region 2 (ro Tryz.f36 2) false) (.seq (.seq (.region 3 (ro Tryz.f36 3) false) (.cond (.tmp 35) (.seq (.region 4 (ro Tryz.f36 4) false) (.ret)) (.skip))) (.seq (.region 5 (ro Tryz.f36 5) false) (.seq (.region 6 (ro Tryz.f36 6) false) (.ret))))))
theorem body36 : Tryz.f36.body = some c36 := by kernel_rfl
theorem res36 : Tryz.f36.results.toList.mapM (trR Tryz.prog) = some [.t 7] := by kernel_rfl
theorem nt36 : Tryz.f36.ntmps = 41 := by kernel_rfl
theorem nm36 : (Tryz.f36.name == "runtime.NumGoroutine") = false := by kernel_rfl
def a36_0 : List AO := [⟨(some 7), none, .mv (.v (.bool false))⟩]
theorem tr36_0 : TR Tryz.f36 41 0 = some a36_0 := by kernel_rfl
def a36_1 : List AO := [⟨(some 13), none, .load none (.t 3)⟩,
  ⟨(some 14), none, .mv (.t 0)⟩,
  ⟨(some 15), none, .look 0 true (.int .i64 0) (.t 13) (.t 14)⟩,
  ⟨(some 12), none, .mv (.t 15)⟩,
  ⟨(some 16), none, .ext 0 (.t 12)⟩,
  ⟨(some 17), none, .ext 1 (.t 12)⟩,
  ⟨(some 8), none, .mv (.t 16)⟩,
  ⟨(some 9), none, .mv (.t 17)⟩]
theorem tr36_1 : TR Tryz.f36 41 1 = some a36_1 := by kernel_rfl
def a36_2 : List AO := [⟨(some 19), none, .load none (.t 3)⟩,
  ⟨(some 20), none, .mv (.t 1)⟩,
  ⟨(some 21), none, .look 0 true (.int .i64 0) (.t 19) (.t 20)⟩,
  ⟨(some 18), none, .mv (.t 21)⟩,
  ⟨(some 22), none, .ext 0 (.t 18)⟩,
  ⟨(some 23), none, .ext 1 (.t 18)⟩,
  ⟨(some 10), none, .mv (.t 22)⟩,
  ⟨(some 11), none, .mv (.t 23)⟩]
theorem tr36_2 : TR Tryz.f36 41 2 = some a36_2 := by kernel_rfl
def a36_3 : List AO := [⟨(some 24), none, .mv (.t 9)⟩,
  ⟨(some 25), none, .un .not (.t 24)⟩,
  ⟨(some 26), none, .mv (.t 25)⟩,
  ⟨(some 27), some (26, false), .mv (.t 11)⟩,
  ⟨(some 28), some (26, false), .mv (.t 27)⟩,
  ⟨(some 29), some (28, true), .mv (.t 10)⟩,
  ⟨(some 30), some (28, true), .mv (.t 8)⟩,
  ⟨(some 31), some (28, true), .mv (.t 2)⟩,
  ⟨(some 32), some (28, true), .bin .add (.t 30) (.t 31)⟩,
  ⟨(some 33), some (28, true), .bin .leq (.t 29) (.t 32)⟩,
  ⟨(some 34), some (26, false), .pick (.t 28) (.t 33) (.v (.bool false))⟩,
  ⟨(some 35), none, .pick (.t 26) (.v (.bool true)) (.t 34)⟩]
theorem tr36_3 : TR Tryz.f36 41 3 = some a36_3 := by kernel_rfl
def a36_4 : List AO := [⟨(some 7), none, .mv (.v (.bool false))⟩]
theorem tr36_4 : TR Tryz.f36 41 4 = some a36_4 := by kernel_rfl
def a36_5 : List AO := [⟨(some 36), none, .load none (.t 3)⟩,
  ⟨(some 37), none, .mv (.t 1)⟩,
  ⟨(some 38), none, .mv (.t 8)⟩,
  ⟨(some 39), none, .mv (.t 2)⟩,
  ⟨(some 40), none, .bin .add (.t 38) (.t 39)⟩,
  ⟨none, none, .mset 0 (.t 36) (.t 37) (.t 40)⟩]
theorem tr36_5 : TR Tryz.f36 41 5 = some a36_5 := by kernel_rfl
def a36_6 : List AO := [⟨(some 7), none, .mv (.v (.bool true))⟩]
theorem tr36_6 : TR Tryz.f36 41 6 = some a36_6 := by kernel_rfl
/-- airline/places.usable -/
noncomputable def c37 : Code := .seq (.region 0 (ro Tryz.f37 0) false) (.seq (.region 1 (ro Tryz.f37 1) false) (.ret))
theorem body37 : Tryz.f37.body = some c37 := by kernel_rfl
theorem res37 : Tryz.f37.results.toList.mapM (trR Tryz.prog) = some [.t 2] := by kernel_rfl
theorem nt37 : Tryz.f37.ntmps = 11 := by kernel_rfl
theorem nm37 : (Tryz.f37.name == "runtime.NumGoroutine") = false := by kernel_rfl
def a37_0 : List AO := [⟨(some 1), none, .box 48 (.t 0)⟩,
  ⟨(some 2), none, .mv (.v (.bool false))⟩]
theorem tr37_0 : TR Tryz.f37 11 0 = some a37_0 := by kernel_rfl
def a37_1 : List AO := [⟨(some 3), none, .fld 2 (.t 1)⟩,
  ⟨(some 4), none, .load none (.t 3)⟩,
  ⟨(some 5), none, .bin .geq (.t 4) (.v (.int .i64 1))⟩,
  ⟨(some 6), none, .mv (.t 5)⟩,
  ⟨(some 7), some (6, true), .fld 2 (.t 1)⟩,
  ⟨(some 8), some (6, true), .load none (.t 7)⟩,
  ⟨(some 9), some (6, true), .bin .leq (.t 8) (.v (.int .i64 20000))⟩,
  ⟨(some 10), none, .pick (.t 6) (.t 9) (.v (.bool false))⟩,
  ⟨(some 2), none, .mv (.t 10)⟩]
theorem tr37_1 : TR Tryz.f37 11 1 = some a37_1 := by kernel_rfl
/-- airline/airlineref06.City -/
noncomputable def c38 : Code := .seq (.region 0 (ro Tryz.f38 0) false) (.seq (.region 1 (ro Tryz.f38 1) false) (.seq (.seq (.region 2 (ro Tryz.f38 2) false) (.cond (.tmp 13) (.seq (.region 3 (ro Tryz.f38 3) false) (.ret)) (.skip))) (.seq (.region 4 (ro Tryz.f38 4) false) (.seq (.seq (.region 5 (ro Tryz.f38 5) false) (.cond (.tmp 22) (.seq (.region 6 (ro Tryz.f38 6) false) (.ret)) (.skip))) (.seq (.region 7 (ro Tryz.f38 7) false) (.ret))))))
theorem body38 : Tryz.f38.body = some c38 := by kernel_rfl
theorem res38 : Tryz.f38.results.toList.mapM (trR Tryz.prog) = some [.t 4] := by kernel_rfl
theorem nt38 : Tryz.f38.ntmps = 24 := by kernel_rfl
theorem nm38 : (Tryz.f38.name == "runtime.NumGoroutine") = false := by kernel_rfl
def a38_0 : List AO := [⟨(some 2), none, .box 25 (.t 0)⟩,
  ⟨(some 4), none, .mv (.v (.str []))⟩]
theorem tr38_0 : TR Tryz.f38 24 0 = some a38_0 := by kernel_rfl
def a38_1 : List AO := [⟨(some 8), none, .load (some 2) (.t 2)⟩,
  ⟨(some 9), none, .mv (.t 1)⟩,
  ⟨(some 10), none, .call 58 [(.t 8), (.t 9)]⟩,
  ⟨(some 7), none, .mv (.t 10)⟩,
  ⟨(some 11), none, .ext 0 (.t 7)⟩,
  ⟨(some 12), none, .ext 1 (.t 7)⟩,
  ⟨(some 5), none, .alloc 46 [(.str []), (.str []), (.str []), (.int .i64 0), .nils]⟩,
  ⟨none, none, .store 5 (.t 5) (.t 11)⟩,
  ⟨(some 6), none, .mv (.t 12)⟩]
theorem tr38_1 : TR Tryz.f38 24 1 = some a38_1 := by kernel_rfl
def a38_2 : List AO := [⟨(some 13), none, .mv (.t 6)⟩]
theorem tr38_2 : TR Tryz.f38 24 2 = some a38_2 := by kernel_rfl
def a38_3 : List AO := [⟨(some 14), none, .fld 1 (.t 5)⟩,
  ⟨(some 15), none, .load none (.t 14)⟩,
  ⟨(some 4), none, .mv (.t 15)⟩]
theorem tr38_3 : TR Tryz.f38 24 3 = some a38_3 := by kernel_rfl
def a38_4 : List AO := [⟨(some 17), none, .load (some 2) (.t 2)⟩,
  ⟨(some 18), none, .mv (.t 1)⟩,
  ⟨(some 19), none, .call 46 [(.t 17), (.t 18)]⟩,
  ⟨(some 16), none, .mv (.t 19)⟩,
  ⟨(some 20), none, .ext 0 (.t 16)⟩,
  ⟨(some 21), none, .ext 1 (.t 16)⟩,
  ⟨(some 6), none, .mv (.t 21)⟩]
theorem tr38_4 : TR Tryz.f38 24 4 = some a38_4 := by kernel_rfl
def a38_5 : List AO := [⟨(some 22), none, .mv (.t 6)⟩]
theorem tr38_5 : TR Tryz.f38 24 5 = some a38_5 := by kernel_rfl
def a38_6 : List AO := [⟨(some 23), none, .mv (.t 1)⟩,
  ⟨(some 4), none, .mv (.t 23)⟩]
theorem tr38_6 : TR Tryz.f38 24 6 = some a38_6 := by kernel_rfl
def a38_7 : List AO := [⟨(some 4), none, .mv (.v (.str []))⟩]
theorem tr38_7 : TR Tryz.f38 24 7 = some a38_7 := by kernel_rfl
/-- airline/airlineref06.Usable -/
noncomputable def c39 : Code := .seq (.region 0 (ro Tryz.f39 0) false) (.seq (.region 1 (ro Tryz.f39 1) false) (.ret))
theorem body39 : Tryz.f39.body = some c39 := by kernel_rfl
theorem res39 : Tryz.f39.results.toList.mapM (trR Tryz.prog) = some [.t 2] := by kernel_rfl
theorem nt39 : Tryz.f39.ntmps = 11 := by kernel_rfl
theorem nm39 : (Tryz.f39.name == "runtime.NumGoroutine") = false := by kernel_rfl
def a39_0 : List AO := [⟨(some 1), none, .box 48 (.t 0)⟩,
  ⟨(some 2), none, .mv (.v (.bool false))⟩]
theorem tr39_0 : TR Tryz.f39 11 0 = some a39_0 := by kernel_rfl
def a39_1 : List AO := [⟨(some 3), none, .fld 2 (.t 1)⟩,
  ⟨(some 4), none, .load none (.t 3)⟩,
  ⟨(some 5), none, .bin .geq (.t 4) (.v (.int .i64 1))⟩,
  ⟨(some 6), none, .mv (.t 5)⟩,
  ⟨(some 7), some (6, true), .fld 2 (.t 1)⟩,
  ⟨(some 8), some (6, true), .load none (.t 7)⟩,
  ⟨(some 9), some (6, true), .bin .leq (.t 8) (.v (.int .i64 20000))⟩,
  ⟨(some 10), none, .pick (.t 6) (.t 9) (.v (.bool false))⟩,
  ⟨(some 2), none, .mv (.t 10)⟩]
theorem tr39_1 : TR Tryz.f39 11 1 = some a39_1 := by kernel_rfl
/-- airline/airlineref06.reached -/
noncomputable def c40 : Code := .seq (.region 0 (ro Tryz.f40 0) false) (.seq (.seq (.region 1 (ro Tryz.f40 1) false) (.block 0 (.loop (.seq (.seq (.region 2 (ro Tryz.f40 2) false) (.cond (.tmp 9) (.skip) (.exit 0))) (.seq (.block 1 (.seq (.region 4 (ro Tryz.f40 4) false) (.cond (.tmp 18) (.seq (.region 5 (ro Tryz.f40 5) false) (.ret)) (.skip)))) (.region 3 (ro Tryz.f40 3) false)))))) (.seq (.region 6 (ro Tryz.f40 6) false) (.ret)))
theorem body40 : Tryz.f40.body = some c40 := by kernel_rfl
theorem res40 : Tryz.f40.results.toList.mapM (trR Tryz.prog) = some [.t 4] := by kernel_rfl
theorem nt40 : Tryz.f40.ntmps = 24 := by kernel_rfl
theorem nm40 : (Tryz.f40.name == "runtime.NumGoroutine") = false := by kernel_rfl
def a40_0 : List AO := [⟨(some 4), none, .mv (.v (.int .i64 0))⟩]
theorem tr40_0 : TR Tryz.f40 24 0 = some a40_0 := by kernel_rfl
def a40_1 : List AO := [⟨(some 5), none, .mv (.v (.int .i64 0))⟩]
theorem tr40_1 : TR Tryz.f40 24 1 = some a40_1 := by kernel_rfl
def a40_2 : List AO := [⟨(some 6), none, .mv (.t 5)⟩,
  ⟨(some 7), none, .mv (.t 0)⟩,
  ⟨(some 8), none, .len (.t 7)⟩,
  ⟨(some 9), none, .bin .lss (.t 6) (.t 8)⟩]
theorem tr40_2 : TR Tryz.f40 24 2 = some a40_2 := by kernel_rfl
def a40_4 : List AO := [⟨(some 12), none, .mv (.t 0)⟩,
  ⟨(some 13), none, .mv (.t 5)⟩,
  ⟨(some 14), none, .idx 2 (.t 12) (.t 13)⟩,
  ⟨(some 15), none, .fld 0 (.t 14)⟩,
  ⟨(some 16), none, .load none (.t 15)⟩,
  ⟨(some 17), none, .mv (.t 1)⟩,
  ⟨(some 18), none, .bin .eql (.t 16) (.t 17)⟩]
theorem tr40_4 : TR Tryz.f40 24 4 = some a40_4 := by kernel_rfl
def a40_5 : List AO := [⟨(some 19), none, .mv (.t 0)⟩,
  ⟨(some 20), none, .mv (.t 5)⟩,
  ⟨(some 21), none, .idx 2 (.t 19) (.t 20)⟩,
  ⟨(some 22), none, .fld 1 (.t 21)⟩,
  ⟨(some 23), none, .load none (.t 22)⟩,
  ⟨(some 4), none, .mv (.t 23)⟩]
theorem tr40_5 : TR Tryz.f40 24 5 = some a40_5 := by kernel_rfl
def a40_3 : List AO := [⟨(some 10), none, .mv (.t 5)⟩,
  ⟨(some 11), none, .bin .add (.t 10) (.v (.int .i64 1))⟩,
  ⟨(some 5), none, .mv (.t 11)⟩]
theorem tr40_3 : TR Tryz.f40 24 3 = some a40_3 := by kernel_rfl
def a40_6 : List AO := [⟨(some 4), none, .mv (.v (.int .i64 (-1)))⟩]
theorem tr40_6 : TR Tryz.f40 24 6 = some a40_6 := by kernel_rfl
/-- airline/airlineref06.reach -/
noncomputable def c41 : Code := .seq (.region 0 (ro Tryz.f41 0) false) (.seq (.seq (.region 1 (ro Tryz.f41 1) false) (.block 0 (.loop (.seq (.seq (.region 2 (ro Tryz.f41 2) false) (.cond (.tmp 12) (.skip) (.exit 0))) (.seq (.block 1 (.seq (.region 4 (ro Tryz.f41 4) false) (.cond (.tmp 21) (.seq (.seq (.region 5 (ro Tryz.f41 5) false) (.cond (.tmp 28) (.seq (.region 6 (ro Tryz.f41 6) false) (.ret)) (.skip))) (.seq (.region 7 (ro Tryz.f41 7) false) (.seq (.region 8 (ro Tryz.f41 8) false) (.ret)))) (.skip)))) (.region 3 (ro Tryz.f41 3) false)))))) (.seq (.region 9 (ro Tryz.f41 9) false) (.ret)))
theorem body41 : Tryz.f41.body = some c41 := by kernel_rfl
theorem res41 : Tryz.f41.results.toList.mapM (trR Tryz.prog) = some [.t 6, .t 7] := by kernel_rfl
theorem nt41 : Tryz.f41.ntmps = 42 := by kernel_rfl
theorem nm41 : (Tryz.f41.name == "runtime.NumGoroutine") = false := by kernel_rfl
def a41_0 : List AO := [⟨(some 6), none, .mv (.v .nils)⟩,
  ⟨(some 7), none, .mv (.v (.bool false))⟩]
theorem tr41_0 : TR Tryz.f41 42 0 = some a41_0 := by kernel_rfl
def a41_1 : List AO := [⟨(some 8), none, .mv (.v (.int .i64 0))⟩]
theorem tr41_1 : TR Tryz.f41 42 1 = some a41_1 := by kernel_rfl
def a41_2 : List AO := [⟨(some 9), none, .mv (.t 8)⟩,
  ⟨(some 10), none, .mv (.t 0)⟩,
  ⟨(some 11), none, .len (.t 10)⟩,
  ⟨(some 12), none, .bin .lss (.t 9) (.t 11)⟩]
theorem tr41_2 : TR Tryz.f41 42 2 = some a41_2 := by kernel_rfl
def a41_4 : List AO := [⟨(some 15), none, .mv (.t 0)⟩,
  ⟨(some 16), none, .mv (.t 8)⟩,
  ⟨(some 17), none, .idx 2 (.t 15) (.t 16)⟩,
  ⟨(some 18), none, .fld 0 (.t 17)⟩,
  ⟨(some 19), none, .load none (.t 18)⟩,
  ⟨(some 20), none, .mv (.t 1)⟩,
  ⟨(some 21), none, .bin .eql (.t 19) (.t 20)⟩]
theorem tr41_4 : TR Tryz.f41 42 4 = some a41_4 := by kernel_rfl
def a41_5 : List AO := [⟨(some 22), none, .mv (.t 0)⟩,
  ⟨(some 23), none, .mv (.t 8)⟩,
  ⟨(some 24), none, .idx 2 (.t 22) (.t 23)⟩,
  ⟨(some 25), none, .fld 1 (.t 24)⟩,
  ⟨(some 26), none, .load none (.t 25)⟩,
  ⟨(some 27), none, .mv (.t 2)⟩,
  ⟨(some 28), none, .bin .leq (.t 26) (.t 27)⟩]
theorem tr41_5 : TR Tryz.f41 42 5 = some a41_5 := by kernel_rfl
def a41_6 : List AO := [⟨(some 29), none, .mv (.t 0)⟩,
  ⟨(some 6), none, .mv (.t 29)⟩,
  ⟨(some 7), none, .mv (.v (.bool false))⟩]
theorem tr41_6 : TR Tryz.f41 42 6 = some a41_6 := by kernel_rfl
def a41_7 : List AO := [⟨(some 30), none, .mv (.t 0)⟩,
  ⟨(some 31), none, .mv (.t 8)⟩,
  ⟨(some 32), none, .mv (.t 2)⟩,
  ⟨(some 33), none, .idx 2 (.t 30) (.t 31)⟩,
  ⟨(some 34), none, .fld 1 (.t 33)⟩,
  ⟨none, none, .store 1 (.t 34) (.t 32)⟩]
theorem tr41_7 : TR Tryz.f41 42 7 = some a41_7 := by kernel_rfl
def a41_8 : List AO := [⟨(some 35), none, .mv (.t 0)⟩,
  ⟨(some 6), none, .mv (.t 35)⟩,
  ⟨(some 7), none, .mv (.v (.bool true))⟩]
theorem tr41_8 : TR Tryz.f41 42 8 = some a41_8 := by kernel_rfl
def a41_3 : List AO := [⟨(some 13), none, .mv (.t 8)⟩,
  ⟨(some 14), none, .bin .add (.t 13) (.v (.int .i64 1))⟩,
  ⟨(some 8), none, .mv (.t 14)⟩]
theorem tr41_3 : TR Tryz.f41 42 3 = some a41_3 := by kernel_rfl
def a41_9 : List AO := [⟨(some 36), none, .mv (.t 0)⟩,
  ⟨(some 37), none, .mv (.t 1)⟩,
  ⟨(some 38), none, .mv (.t 2)⟩,
  ⟨(some 39), none, .build [(.str []), (.int .i64 0)] [(0, 1, (.t 37)), (1, 1, (.t 38))]⟩,
  ⟨(some 40), none, .slc 100 2 false [(.t 39)]⟩,
  ⟨(some 41), none, .app 100 2 24 (.t 36) (.t 40)⟩,
  ⟨(some 6), none, .mv (.t 41)⟩,
  ⟨(some 7), none, .mv (.v (.bool true))⟩]
theorem tr41_9 : TR Tryz.f41 42 9 = some a41_9 := by kernel_rfl
/-- airline/airlineref01.Airport -/
noncomputable def c42 : Code := .seq (.region 0 (ro Tryz.f42 0) false) (.seq (.region 1 (ro Tryz.f42 1) false) (.ret))
theorem body42 : Tryz.f42.body = some c42 := by kernel_rfl
theorem res42 : Tryz.f42.results.toList.mapM (trR Tryz.prog) = some [.t 2] := by kernel_rfl
theorem nt42 : Tryz.f42.ntmps = 5 := by kernel_rfl
theorem nm42 : (Tryz.f42.name == "runtime.NumGoroutine") = false := by kernel_rfl
def a42_0 : List AO := [⟨(some 2), none, .mv (.v (.bool false))⟩]
theorem tr42_0 : TR Tryz.f42 5 0 = some a42_0 := by kernel_rfl
def a42_1 : List AO := [⟨(some 3), none, .mv (.t 0)⟩,
  ⟨(some 4), none, .call 59 [(.t 3), (.v (.int .i64 3))]⟩,
  ⟨(some 2), none, .mv (.t 4)⟩]
theorem tr42_1 : TR Tryz.f42 5 1 = some a42_1 := by kernel_rfl
/-- airline/airlineref01.Country -/
noncomputable def c43 : Code := .seq (.region 0 (ro Tryz.f43 0) false) (.seq (.region 1 (ro Tryz.f43 1) false) (.ret))
theorem body43 : Tryz.f43.body = some c43 := by kernel_rfl
theorem res43 : Tryz.f43.results.toList.mapM (trR Tryz.prog) = some [.t 2] := by kernel_rfl
theorem nt43 : Tryz.f43.ntmps = 5 := by kernel_rfl
theorem nm43 : (Tryz.f43.name == "runtime.NumGoroutine") = false := by kernel_rfl
def a43_0 : List AO := [⟨(some 2), none, .mv (.v (.bool false))⟩]
theorem tr43_0 : TR Tryz.f43 5 0 = some a43_0 := by kernel_rfl
def a43_1 : List AO := [⟨(some 3), none, .mv (.t 0)⟩,
  ⟨(some 4), none, .call 59 [(.t 3), (.v (.int .i64 2))]⟩,
  ⟨(some 2), none, .mv (.t 4)⟩]
theorem tr43_1 : TR Tryz.f43 5 1 = some a43_1 := by kernel_rfl
/-- airline/airlineref05.Check -/
noncomputable def c44 : Code := .seq (.region 0 (ro Tryz.f44 0) false) (.seq (.seq (.region 1 (ro Tryz.f44 1) false) (.cond (.tmp 8) (.seq (.region 2 (ro Tryz.f44 2) false) (.ret)) (.skip))) (.seq (.seq (.region 3 (ro Tryz.f44 3) false) (.cond (.tmp 12) (.seq (.region 4 (ro Tryz.f44 4) false) (.ret)) (.skip))) (.seq (.seq (.region 5 (ro Tryz.f44 5) false) (.block 0 (.loop (.seq (.seq (.region 6 (ro Tryz.f44 6) false) (.cond (.tmp 17) (.skip) (.exit 0))) (.seq (.block 1 (.seq (.region 8 (ro Tryz.f44 8) false) (.seq (.seq (.region 9 (ro Tryz.f44 9) true) (.cond (.tmp 49) (.seq (.region 10 (ro Tryz.f44 10) false) (.ret)) (.skip))) (.seq (.region 11 (ro Tryz.f44 11) false) (.cond (.tmp 53) (.seq (.region 12 (ro Tryz.f44 12) false) (.ret)) (.skip)))))) (.region 7 (ro Tryz.f44 7) false)))))) (.seq (.region 13 (ro Tryz.f44 13) false) (.ret)))))
theorem body44 : Tryz.f44.body = some c44 := by kernel_rfl
theorem res44 : Tryz.f44.results.toList.mapM (trR Tryz.prog) = some [.t 2] := by kernel_rfl
theorem nt44 : Tryz.f44.ntmps = 54 := by kernel_rfl
theorem nm44 : (Tryz.f44.name == "runtime.NumGoroutine") = false := by kernel_rfl
def a44_0 : List AO := [⟨(some 1), none, .box 44 (.t 0)⟩,
  ⟨(some 2), none, .mv (.v (.int .i64 0))⟩]
theorem tr44_0 : TR Tryz.f44 54 0 = some a44_0 := by kernel_rfl
def a44_1 : List AO := [⟨(some 5), none, .fld 1 (.t 1)⟩,
  ⟨(some 6), none, .load none (.t 5)⟩,
  ⟨(some 7), none, .len (.t 6)⟩,
  ⟨(some 8), none, .bin .gtr (.t 7) (.v (.int .i64 256))⟩]
theorem tr44_1 : TR Tryz.f44 54 1 = some a44_1 := by kernel_rfl
def a44_2 : List AO := [⟨(some 2), none, .mv (.v (.int .i64 4))⟩]
theorem tr44_2 : TR Tryz.f44 54 2 = some a44_2 := by kernel_rfl
def a44_3 : List AO := [⟨(some 9), none, .fld 0 (.t 1)⟩,
  ⟨(some 10), none, .load none (.t 9)⟩,
  ⟨(some 11), none, .call 60 [(.t 10)]⟩,
  ⟨(some 12), none, .un .not (.t 11)⟩]
theorem tr44_3 : TR Tryz.f44 54 3 = some a44_3 := by kernel_rfl
def a44_4 : List AO := [⟨(some 2), none, .mv (.v (.int .i64 2))⟩]
theorem tr44_4 : TR Tryz.f44 54 4 = some a44_4 := by kernel_rfl
def a44_5 : List AO := [⟨(some 3), none, .mv (.v (.int .i64 0))⟩]
theorem tr44_5 : TR Tryz.f44 54 5 = some a44_5 := by kernel_rfl
def a44_6 : List AO := [⟨(some 13), none, .mv (.t 3)⟩,
  ⟨(some 14), none, .fld 1 (.t 1)⟩,
  ⟨(some 15), none, .load none (.t 14)⟩,
  ⟨(some 16), none, .len (.t 15)⟩,
  ⟨(some 17), none, .bin .lss (.t 13) (.t 16)⟩]
theorem tr44_6 : TR Tryz.f44 54 6 = some a44_6 := by kernel_rfl
def a44_8 : List AO := [⟨(some 20), none, .fld 1 (.t 1)⟩,
  ⟨(some 21), none, .load none (.t 20)⟩,
  ⟨(some 22), none, .mv (.t 3)⟩,
  ⟨(some 23), none, .idx 2 (.t 21) (.t 22)⟩,
  ⟨(some 24), none, .load (some 2) (.t 23)⟩,
  ⟨(some 4), none, .alloc 130 [(.int .i64 0), (.int .i64 0)]⟩,
  ⟨none, none, .store 2 (.t 4) (.t 24)⟩]
theorem tr44_8 : TR Tryz.f44 54 8 = some a44_8 := by kernel_rfl
def a44_9 : List AO := [⟨(some 25), none, .fld 0 (.t 4)⟩,
  ⟨(some 26), none, .load none (.t 25)⟩,
  ⟨(some 27), none, .bin .lss (.t 26) (.v (.int .i64 0))⟩,
  ⟨(some 28), none, .mv (.t 27)⟩,
  ⟨(some 29), some (28, false), .fld 0 (.t 4)⟩,
  ⟨(some 30), some (28, false), .load none (.t 29)⟩,
  ⟨(some 31), some (28, false), .bin .geq (.t 30) (.v (.int .i64 52596000))⟩,
  ⟨(some 32), none, .pick (.t 28) (.v (.bool true)) (.t 31)⟩,
  ⟨(some 33), none, .mv (.t 32)⟩,
  ⟨(some 34), some (33, false), .mv (.t 3)⟩,
  ⟨(some 35), some (33, false), .bin .gtr (.t 34) (.v (.int .i64 0))⟩,
  ⟨(some 36), some (33, false), .mv (.t 35)⟩,
  ⟨(some 37), some (36, true), .fld 0 (.t 4)⟩,
  ⟨(some 38), some (36, true), .load none (.t 37)⟩,
  ⟨(some 39), some (36, true), .fld 1 (.t 1)⟩,
  ⟨(some 40), some (36, true), .load none (.t 39)⟩,
  ⟨(some 41), some (36, true), .mv (.t 3)⟩,
  ⟨(some 42), some (36, true), .bin .sub (.t 41) (.v (.int .i64 1))⟩,
  ⟨(some 43), some (36, true), .idx 2 (.t 40) (.t 42)⟩,
  ⟨(some 44), some (36, true), .fld 0 (.t 43)⟩,
  ⟨(some 45), some (36, true), .load none (.t 44)⟩,
  ⟨(some 46), some (36, true), .bin .sub (.t 38) (.t 45)⟩,
  ⟨(some 47), some (36, true), .bin .lss (.t 46) (.v (.int .i64 2880))⟩,
  ⟨(some 48), some (33, false), .pick (.t 36) (.t 47) (.v (.bool false))⟩,
  ⟨(some 49), none, .pick (.t 33) (.v (.bool true)) (.t 48)⟩]
theorem tr44_9 : TR Tryz.f44 54 9 = some a44_9 := by kernel_rfl
def d44_9 : List (List Nat) := [[], [0], [0, 1], [0, 1, 2], [0, 1, 2, 3], [0, 1, 2, 3, 4], [0, 1, 2, 3, 4, 5], [0, 1, 2, 3, 4, 5, 6], [0, 1, 2, 3, 4, 5, 6, 7], [0, 1, 2, 3, 4, 5, 6, 7, 8], [0, 1, 2, 3, 4, 5, 6, 7, 8, 9], [0, 1, 2, 3, 4, 5, 6, 7, 8, 9, 10], [0, 1, 2, 3, 4, 5, 6, 7, 8, 9, 10, 11], [0, 1, 2, 3, 4, 5, 6, 7, 8, 9, 10, 11, 12], [0, 1, 2, 3, 4, 5, 6, 7, 8, 9, 10, 11], [0, 1, 2, 3, 4, 5, 6, 7, 8, 9, 10, 11, 14], [0, 1, 2, 3, 4, 5, 6, 7, 8, 9, 10, 11], [0, 1, 2, 3, 4, 5, 6, 7, 8, 9, 10, 11, 16], [0, 1, 2, 3, 4, 5, 6, 7, 8, 9, 10, 11, 14, 15, 16, 17], [0, 1, 2, 3, 4, 5, 6, 7, 8, 9, 10, 11, 14, 15, 16, 17, 18], [0, 1, 2, 3, 4, 5, 6, 7, 8, 9, 10, 11, 14, 15, 16, 17, 18, 19], [0, 1, 2, 3, 4, 5, 6, 7, 8, 9, 10, 11, 12, 13, 14, 15, 16, 17, 18, 19, 20], [0, 1, 2, 3, 4, 5, 6, 7, 8, 9, 10, 11, 12, 13, 14, 15, 16, 17, 18, 19, 20, 21], [0, 1, 2, 3, 4, 5, 6, 7, 8, 9, 10, 11, 12, 13, 14, 15, 16, 17, 18, 19, 20, 21, 22], [0, 1, 2, 3, 4, 5, 6, 7, 8, 9, 10, 11, 12, 13, 14, 15, 16, 17, 18, 19, 20, 21, 22, 23]]
theorem ok44_9 : okReg (ro Tryz.f44 9) a44_9 d44_9 = true := by kernel_rfl
def a44_10 : List AO := [⟨(some 2), none, .mv (.v (.int .i64 13))⟩]
theorem tr44_10 : TR Tryz.f44 54 10 = some a44_10 := by kernel_rfl
def a44_11 : List AO := [⟨(some 50), none, .fld 1 (.t 4)⟩,
  ⟨(some 51), none, .load none (.t 50)⟩,
  ⟨(some 52), none, .call 60 [(.t 51)]⟩,
  ⟨(some 53), none, .un .not (.t 52)⟩]
theorem tr44_11 : TR Tryz.f44 54 11 = some a44_11 := by kernel_rfl
def a44_12 : List AO := [⟨(some 2), none, .mv (.v (.int .i64 2))⟩]
theorem tr44_12 : TR Tryz.f44 54 12 = some a44_12 := by kernel_rfl
def a44_7 : List AO := [⟨(some 18), none, .mv (.t 3)⟩,
  ⟨(some 19), none, .bin .add (.t 18) (.v (.int .i64 1))⟩,
  ⟨(some 3), none, .mv (.t 19)⟩]
theorem tr44_7 : TR Tryz.f44 54 7 = some a44_7 := by kernel_rfl
def a44_13 : List AO := [⟨(some 2), none, .mv (.v (.int .i64 0))⟩]
theorem tr44_13 : TR Tryz.f44 54 13 = some a44_13 := by kernel_rfl
/-- airline/airlineref01.digits -/
noncomputable def c45 : Code := .seq (.region 0 (ro Tryz.f45 0) false) (.seq (.seq (.region 1 (ro Tryz.f45 1) false) (.cond (.tmp 4) (.seq (.region 2 (ro Tryz.f45 2) false) (.ret)) (.skip))) (.seq (.region 3 (ro Tryz.f45 3) true) (.ret)))
theorem body45 : Tryz.f45.body = some c45 := by kernel_rfl
theorem res45 : Tryz.f45.results.toList.mapM (trR Tryz.prog) = some [.t 2] := by kernel_rfl
theorem nt45 : Tryz.f45.ntmps = 19 := by kernel_rfl
theorem nm45 : (Tryz.f45.name == "runtime.NumGoroutine") = false := by kernel_rfl
def a45_0 : List AO := [⟨(some 2), none, .mv (.v (.str []))⟩]
theorem tr45_0 : TR Tryz.f45 19 0 = some a45_0 := by kernel_rfl
def a45_1 : List AO := [⟨(some 3), none, .mv (.t 0)⟩,
  ⟨(some 4), none, .bin .lss (.t 3) (.v (.int .u64 10))⟩]
theorem tr45_1 : TR Tryz.f45 19 1 = some a45_1 := by kernel_rfl
def a45_2 : List AO := [⟨(some 5), none, .mv (.t 0)⟩,
  ⟨(some 6), none, .mv (.t 0)⟩,
  ⟨(some 7), none, .bin .add (.t 6) (.v (.int .u64 1))⟩,
  ⟨(some 8), none, .ssub (some (.t 5)) (some (.t 7)) (.v (.str [48, 49, 50, 51, 52, 53, 54, 55, 56, 57]))⟩,
  ⟨(some 2), none, .mv (.t 8)⟩]
theorem tr45_2 : TR Tryz.f45 19 2 = some a45_2 := by kernel_rfl
def a45_3 : List AO := [⟨(some 9), none, .mv (.t 0)⟩,
  ⟨(some 10), none, .bin .quo (.t 9) (.v (.int .u64 10))⟩,
  ⟨(some 11), none, .call 45 [(.t 10)]⟩,
  ⟨(some 12), none, .mv (.t 0)⟩,
  ⟨(some 13), none, .bin .rem (.t 12) (.v (.int .u64 10))⟩,
  ⟨(some 14), none, .mv (.t 0)⟩,
  ⟨(some 15), none, .bin .rem (.t 14) (.v (.int .u64 10))⟩,
  ⟨(some 16), none, .bin .add (.t 15) (.v (.int .u64 1))⟩,
  ⟨(some 17), none, .ssub (some (.t 13)) (some (.t 16)) (.v (.str [48, 49, 50, 51, 52, 53, 54, 55, 56, 57]))⟩,
  ⟨(some 18), none, .bin .add (.t 11) (.t 17)⟩,
  ⟨(some 2), none, .mv (.t 18)⟩]
theorem tr45_3 : TR Tryz.f45 19 3 = some a45_3 := by kernel_rfl
def d45_3 : List (List Nat) := [[], [0], [0, 1], [], [3], [], [5], [5, 6], [3, 4, 5, 6, 7], [0, 1, 2, 3, 4, 5, 6, 7, 8], [0, 1, 2, 3, 4, 5, 6, 7, 8, 9]]
theorem ok45_3 : okReg (ro Tryz.f45 3) a45_3 d45_3 = true := by kernel_rfl
/-- airline/airlineref06.town -/
noncomputable def c46 : Code := .seq (.region 0 (ro Tryz.f46 0) false) (.seq (.seq (.region 1 (ro Tryz.f46 1) false) (.block 0 (.loop (.seq (.seq (.region 2 (ro Tryz.f46 2) false) (.cond (.tmp 11) (.skip) (.exit 0))) (.seq (.block 1 (.seq (.region 4 (ro Tryz.f46 4) false) (.cond (.tmp 21) (.seq (.region 5 (ro Tryz.f46 5) false) (.ret)) (.skip)))) (.region 3 (ro Tryz.f46 3) false)))))) (.seq (.region 6 (ro Tryz.f46 6) false) (.ret)))
theorem body46 : Tryz.f46.body = some c46 := by kernel_rfl
theorem res46 : Tryz.f46.results.toList.mapM (trR Tryz.prog) = some [.c (some 5) 4, .t 5] := by kernel_rfl
theorem nt46 : Tryz.f46.ntmps = 28 := by kernel_rfl
theorem nm46 : (Tryz.f46.name == "runtime.NumGoroutine") = false := by kernel_rfl
def a46_0 : List AO := [⟨(some 2), none, .box 25 (.t 0)⟩,
  ⟨(some 4), none, .alloc 46 [(.str []), (.str []), (.str []), (.int .i64 0), .nils]⟩,
  ⟨(some 5), none, .mv (.v (.bool false))⟩]
theorem tr46_0 : TR Tryz.f46 28 0 = some a46_0 := by kernel_rfl
def a46_1 : List AO := [⟨(some 6), none, .mv (.v (.int .i64 0))⟩]
theorem tr46_1 : TR Tryz.f46 28 1 = some a46_1 := by kernel_rfl
def a46_2 : List AO := [⟨(some 7), none, .mv (.t 6)⟩,
  ⟨(some 8), none, .fld 0 (.t 2)⟩,
  ⟨(some 9), none, .load none (.t 8)⟩,
  ⟨(some 10), none, .len (.t 9)⟩,
  ⟨(some 11), none, .bin .lss (.t 7) (.t 10)⟩]
theorem tr46_2 : TR Tryz.f46 28 2 = some a46_2 := by kernel_rfl
def a46_4 : List AO := [⟨(some 14), none, .fld 0 (.t 2)⟩,
  ⟨(some 15), none, .load none (.t 14)⟩,
  ⟨(some 16), none, .mv (.t 6)⟩,
  ⟨(some 17), none, .idx 5 (.t 15) (.t 16)⟩,
  ⟨(some 18), none, .fld 1 (.t 17)⟩,
  ⟨(some 19), none, .load none (.t 18)⟩,
  ⟨(some 20), none, .mv (.t 1)⟩,
  ⟨(some 21), none, .bin .eql (.t 19) (.t 20)⟩]
theorem tr46_4 : TR Tryz.f46 28 4 = some a46_4 := by kernel_rfl
def a46_5 : List AO := [⟨(some 22), none, .fld 0 (.t 2)⟩,
  ⟨(some 23), none, .load none (.t 22)⟩,
  ⟨(some 24), none, .mv (.t 6)⟩,
  ⟨(some 25), none, .idx 5 (.t 23) (.t 24)⟩,
  ⟨(some 26), none, .load (some 5) (.t 25)⟩,
  ⟨none, none, .store 5 (.t 4) (.t 26)⟩,
  ⟨(some 5), none, .mv (.v (.bool true))⟩]
theorem tr46_5 : TR Tryz.f46 28 5 = some a46_5 := by kernel_rfl
def a46_3 : List AO := [⟨(some 12), none, .mv (.t 6)⟩,
  ⟨(some 13), none, .bin .add (.t 12) (.v (.int .i64 1))⟩,
  ⟨(some 6), none, .mv (.t 13)⟩]
theorem tr46_3 : TR Tryz.f46 28 3 = some a46_3 := by kernel_rfl
def a46_6 : List AO := [⟨(some 27), none, .build [(.str []), (.str []), (.str []), (.int .i64 0), .nils] []⟩,
  ⟨none, none, .store 5 (.t 4) (.t 27)⟩,
  ⟨(some 5), none, .mv (.v (.bool false))⟩]
theorem tr46_6 : TR Tryz.f46 28 6 = some a46_6 := by kernel_rfl
/-- airline/money.Sum -/
noncomputable def c49 : Code := .seq (.region 0 (ro Tryz.f49 0) false) (.seq (.region 1 (ro Tryz.f49 1) false) (.seq (.seq (.region 2 (ro Tryz.f49 2) false) (.block 0 (.loop (.seq (.region 3 (ro Tryz.f49 3) false) (.seq (.cond (.tmp 10) (.skip) (.exit 0)) (.seq (.block 1 (.seq (.region 4 (ro Tryz.f49 4) false) (.seq (.seq (.region 5 (ro Tryz.f49 5) false) (.cond (.tmp 22) (.seq (.region 6 (ro Tryz.f49 6) false) (.ret)) (.skip))) (.region 7 (ro Tryz.f49 7) false)))) (.region 8 (ro Tryz.f49 8) false))))))) (.seq (.region 9 (ro Tryz.f49 9) false) (.ret))))
theorem body49 : Tryz.f49.body = some c49 := by kernel_rfl
theorem res49 : Tryz.f49.results.toList.mapM (trR Tryz.prog) = some [.t 2, .t 3] := by kernel_rfl
theorem nt49 : Tryz.f49.ntmps = 28 := by kernel_rfl
theorem nm49 : (Tryz.f49.name == "runtime.NumGoroutine") = false := by kernel_rfl
def a49_0 : List AO := [⟨(some 2), none, .mv (.v (.int .i64 0))⟩,
  ⟨(some 3), none, .mv (.v (.int .i64 0))⟩]
theorem tr49_0 : TR Tryz.f49 28 0 = some a49_0 := by kernel_rfl
def a49_1 : List AO := [⟨(some 4), none, .mv (.v (.int .i64 0))⟩]
theorem tr49_1 : TR Tryz.f49 28 1 = some a49_1 := by kernel_rfl
def a49_2 : List AO := [⟨(some 7), none, .mv (.t 0)⟩,
  ⟨(some 8), none, .len (.t 7)⟩,
  ⟨(some 9), none, .mv (.v (.int .i64 0))⟩]
theorem tr49_2 : TR Tryz.f49 28 2 = some a49_2 := by kernel_rfl
def a49_3 : List AO := [⟨(some 10), none, .bin .lss (.t 9) (.t 8)⟩]
theorem tr49_3 : TR Tryz.f49 28 3 = some a49_3 := by kernel_rfl
def a49_4 : List AO := [⟨(some 11), none, .idx 1 (.t 7) (.t 9)⟩,
  ⟨(some 12), none, .load none (.t 11)⟩,
  ⟨(some 6), none, .mv (.t 12)⟩]
theorem tr49_4 : TR Tryz.f49 28 4 = some a49_4 := by kernel_rfl
def a49_5 : List AO := [⟨(some 13), none, .mv (.t 6)⟩,
  ⟨(some 14), none, .call 24 [(.t 13)]⟩,
  ⟨(some 15), none, .un .not (.t 14)⟩,
  ⟨(some 16), none, .mv (.t 15)⟩,
  ⟨(some 17), some (16, false), .mv (.t 4)⟩,
  ⟨(some 18), some (16, false), .mv (.t 6)⟩,
  ⟨(some 19), some (16, false), .bin .add (.t 17) (.t 18)⟩,
  ⟨(some 20), some (16, false), .call 24 [(.t 19)]⟩,
  ⟨(some 21), some (16, false), .un .not (.t 20)⟩,
  ⟨(some 22), none, .pick (.t 16) (.v (.bool true)) (.t 21)⟩]
theorem tr49_5 : TR Tryz.f49 28 5 = some a49_5 := by kernel_rfl
def a49_6 : List AO := [⟨(some 2), none, .mv (.v (.int .i64 0))⟩,
  ⟨(some 3), none, .mv (.v (.int .i64 11))⟩]
theorem tr49_6 : TR Tryz.f49 28 6 = some a49_6 := by kernel_rfl
def a49_7 : List AO := [⟨(some 23), none, .mv (.t 4)⟩,
  ⟨(some 24), none, .mv (.t 6)⟩,
  ⟨(some 25), none, .bin .add (.t 23) (.t 24)⟩,
  ⟨(some 4), none, .mv (.t 25)⟩]
theorem tr49_7 : TR Tryz.f49 28 7 = some a49_7 := by kernel_rfl
def a49_8 : List AO := [⟨(some 26), none, .bin .add (.t 9) (.v (.int .i64 1))⟩,
  ⟨(some 9), none, .mv (.t 26)⟩]
theorem tr49_8 : TR Tryz.f49 28 8 = some a49_8 := by kernel_rfl
def a49_9 : List AO := [⟨(some 27), none, .mv (.t 4)⟩,
  ⟨(some 2), none, .mv (.t 27)⟩,
  ⟨(some 3), none, .mv (.v (.int .i64 0))⟩]
theorem tr49_9 : TR Tryz.f49 28 9 = some a49_9 := by kernel_rfl
/-- math/bits.Div64 -/
noncomputable def c51 : Code := .seq (.region 0 (ro Tryz.f51 0) false) (.seq (.seq (.region 1 (ro Tryz.f51 1) false) (.cond (.tmp 20) (.region 2 (ro Tryz.f51 2) false) (.skip))) (.seq (.seq (.region 3 (ro Tryz.f51 3) false) (.cond (.tmp 24) (.region 4 (ro Tryz.f51 4) false) (.skip))) (.seq (.seq (.region 5 (ro Tryz.f51 5) false) (.cond (.tmp 27) (.seq (.region 6 (ro Tryz.f51 6) true) (.ret)) (.skip))) (.seq (.region 7 (ro Tryz.f51 7) false) (.seq (.region 8 (ro Tryz.f51 8) false) (.seq (.region 9 (ro Tryz.f51 9) false) (.seq (.region 10 (ro Tryz.f51 10) false) (.seq (.region 11 (ro Tryz.f51 11) false) (.seq (.region 12 (ro Tryz.f51 12) false) (.seq (.region 13 (ro Tryz.f51 13) false) (.seq (.region 14 (ro Tryz.f51 14) false) (.seq (.region 15 (ro Tryz.f51 15) false) (.seq (.region 16 (ro Tryz.f51 16) false) (.seq (.block 0 (.loop (.seq (.seq (.region 17 (ro Tryz.f51 17) false) (.cond (.tmp 78) (.skip) (.exit 0))) (.block 1 (.seq (.region 18 (ro Tryz.f51 18) false) (.seq (.region 19 (ro Tryz.f51 19) false) (.seq (.region 20 (ro Tryz.f51 20) false) (.cond (.tmp 85) (.exit 0) (.skip))))))))) (.seq (.region 21 (ro Tryz.f51 21) false) (.seq (.region 22 (ro Tryz.f51 22) false) (.seq (.region 23 (ro Tryz.f51 23) false) (.seq (.block 2 (.loop (.seq (.seq (.region 24 (ro Tryz.f51 24) false) (.cond (.tmp 113) (.skip) (.exit 2))) (.block 3 (.seq (.region 25 (ro Tryz.f51 25) false) (.seq (.region 26 (ro Tryz.f51 26) false) (.seq (.region 27 (ro Tryz.f51 27) false) (.cond (.tmp 120) (.exit 2) (.skip))))))))) (.seq (.region 28 (ro Tryz.f51 28) false) (.ret))))))))))))))))))))
theorem body51 : Tryz.f51.body = some c51 := by kernel_rfl
theorem res51 : Tryz.f51.results.toList.mapM (trR Tryz.prog) = some [.t 6, .t 7] := by kernel_rfl
theorem nt51 : Tryz.f51.ntmps = 135 := by kernel_rfl
theorem nm51 : (Tryz.f51.name == "runtime.NumGoroutine") = false := by kernel_rfl
def a51_0 : List AO := [⟨(some 6), none, .mv (.v (.int .u64 0))⟩,
  ⟨(some 7), none, .mv (.v (.int .u64 0))⟩]
theorem tr51_0 : TR Tryz.f51 135 0 = some a51_0 := by kernel_rfl
def a51_1 : List AO := [⟨(some 19), none, .mv (.t 2)⟩,
  ⟨(some 20), none, .bin .eql (.t 19) (.v (.int .u64 0))⟩]
theorem tr51_1 : TR Tryz.f51 135 1 = some a51_1 := by kernel_rfl
-- region 2: not translated: !! load glob0
def a51_3 : List AO := [⟨(some 22), none, .mv (.t 2)⟩,
  ⟨(some 23), none, .mv (.t 0)⟩,
  ⟨(some 24), none, .bin .leq (.t 22) (.t 23)⟩]
theorem tr51_3 : TR Tryz.f51 135 3 = some a51_3 := by kernel_rfl
-- region 4: not translated: !! load glob1
def a51_5 : List AO := [⟨(some 26), none, .mv (.t 0)⟩,
  ⟨(some 27), none, .bin .eql (.t 26) (.v (.int .u64 0))⟩]
theorem tr51_5 : TR Tryz.f51 135 5 = some a51_5 := by kernel_rfl
def a51_6 : List AO := [⟨(some 28), none, .mv (.t 1)⟩,
  ⟨(some 29), none, .mv (.t 2)⟩,
  ⟨(some 30), none, .bin .quo (.t 28) (.t 29)⟩,
  ⟨(some 31), none, .mv (.t 1)⟩,
  ⟨(some 32), none, .mv (.t 2)⟩,
  ⟨(some 33), none, .bin .rem (.t 31) (.t 32)⟩,
  ⟨(some 6), none, .mv (.t 30)⟩,
  ⟨(some 7), none, .mv (.t 33)⟩]
theorem tr51_6 : TR Tryz.f51 135 6 = some a51_6 := by kernel_rfl
def d51_6 : List (List Nat) := [[], [], [0, 1], [], [], [3, 4], [0, 1, 2], [0, 1, 2, 3, 4, 5, 6]]
theorem ok51_6 : okReg (ro Tryz.f51 6) a51_6 d51_6 = true := by kernel_rfl
def a51_7 : List AO := [⟨(some 34), none, .mv (.t 2)⟩,
  ⟨(some 35), none, .call 64 [(.t 34)]⟩,
  ⟨(some 36), none, .conv .u64 (.t 35)⟩,
  ⟨(some 8), none, .mv (.t 36)⟩]
theorem tr51_7 : TR Tryz.f51 135 7 = some a51_7 := by kernel_rfl
def a51_8 : List AO := [⟨(some 37), none, .mv (.t 2)⟩,
  ⟨(some 38), none, .mv (.t 8)⟩,
  ⟨(some 39), none, .bin .shl (.t 37) (.t 38)⟩,
  ⟨(some 2), none, .mv (.t 39)⟩]
theorem tr51_8 : TR Tryz.f51 135 8 = some a51_8 := by kernel_rfl
def a51_9 : List AO := [⟨(some 40), none, .mv (.t 2)⟩,
  ⟨(some 41), none, .bin .shr (.t 40) (.v (.int .u64 32))⟩,
  ⟨(some 9), none, .mv (.t 41)⟩]
theorem tr51_9 : TR Tryz.f51 135 9 = some a51_9 := by kernel_rfl
def a51_10 : List AO := [⟨(some 42), none, .mv (.t 2)⟩,
  ⟨(some 43), none, .bin .and (.t 42) (.v (.int .u64 4294967295))⟩,
  ⟨(some 10), none, .mv (.t 43)⟩]
theorem tr51_10 : TR Tryz.f51 135 10 = some a51_10 := by kernel_rfl
def a51_11 : List AO := [⟨(some 44), none, .mv (.t 0)⟩,
  ⟨(some 45), none, .mv (.t 8)⟩,
  ⟨(some 46), none, .bin .shl (.t 44) (.t 45)⟩,
  ⟨(some 47), none, .mv (.t 1)⟩,
  ⟨(some 48), none, .mv (.t 8)⟩,
  ⟨(some 49), none, .bin .sub (.v (.int .u64 64)) (.t 48)⟩,
  ⟨(some 50), none, .bin .shr (.t 47) (.t 49)⟩,
  ⟨(some 51), none, .bin .or (.t 46) (.t 50)⟩,
  ⟨(some 11), none, .mv (.t 51)⟩]
theorem tr51_11 : TR Tryz.f51 135 11 = some a51_11 := by kernel_rfl
def a51_12 : List AO := [⟨(some 52), none, .mv (.t 1)⟩,
  ⟨(some 53), none, .mv (.t 8)⟩,
  ⟨(some 54), none, .bin .shl (.t 52) (.t 53)⟩,
  ⟨(some 12), none, .mv (.t 54)⟩]
theorem tr51_12 : TR Tryz.f51 135 12 = some a51_12 := by kernel_rfl
def a51_13 : List AO := [⟨(some 55), none, .mv (.t 12)⟩,
  ⟨(some 56), none, .bin .shr (.t 55) (.v (.int .u64 32))⟩,
  ⟨(some 13), none, .mv (.t 56)⟩]
theorem tr51_13 : TR Tryz.f51 135 13 = some a51_13 := by kernel_rfl
def a51_14 : List AO := [⟨(some 57), none, .mv (.t 12)⟩,
  ⟨(some 58), none, .bin .and (.t 57) (.v (.int .u64 4294967295))⟩,
  ⟨(some 14), none, .mv (.t 58)⟩]
theorem tr51_14 : TR Tryz.f51 135 14 = some a51_14 := by kernel_rfl
def a51_15 : List AO := [⟨(some 59), none, .mv (.t 11)⟩,
  ⟨(some 60), none, .mv (.t 9)⟩,
  ⟨(some 61), none, .bin .quo (.t 59) (.t 60)⟩,
  ⟨(some 15), none, .mv (.t 61)⟩]
theorem tr51_15 : TR Tryz.f51 135 15 = some a51_15 := by kernel_rfl
def a51_16 : List AO := [⟨(some 62), none, .mv (.t 11)⟩,
  ⟨(some 63), none, .mv (.t 15)⟩,
  ⟨(some 64), none, .mv (.t 9)⟩,
  ⟨(some 65), none, .bin .mul (.t 63) (.t 64)⟩,
  ⟨(some 66), none, .bin .sub (.t 62) (.t 65)⟩,
  ⟨(some 16), none, .mv (.t 66)⟩]
theorem tr51_16 : TR Tryz.f51 135 16 = some a51_16 := by kernel_rfl
def a51_17 : List AO := [⟨(some 67), none, .mv (.t 15)⟩,
  ⟨(some 68), none, .bin .geq (.t 67) (.v (.int .u64 4294967296))⟩,
  ⟨(some 69), none, .mv (.t 68)⟩,
  ⟨(some 70), some (69, false), .mv (.t 15)⟩,
  ⟨(some 71), some (69, false), .mv (.t 10)⟩,
  ⟨(some 72), some (69, false), .bin .mul (.t 70) (.t 71)⟩,
  ⟨(some 73), some (69, false), .mv (.t 16)⟩,
  ⟨(some 74), some (69, false), .bin .mul (.v (.int .u64 4294967296)) (.t 73)⟩,
  ⟨(some 75), some (69, false), .mv (.t 13)⟩,
  ⟨(some 76), some (69, false), .bin .add (.t 74) (.t 75)⟩,
  ⟨(some 77), some (69, false), .bin .gtr (.t 72) (.t 76)⟩,
  ⟨(some 78), none, .pick (.t 69) (.v (.bool true)) (.t 77)⟩]
theorem tr51_17 : TR Tryz.f51 135 17 = some a51_17 := by kernel_rfl
def a51_18 : List AO := [⟨(some 79), none, .mv (.t 15)⟩,
  ⟨(some 80), none, .bin .sub (.t 79) (.v (.int .u64 1))⟩,
  ⟨(some 15), none, .mv (.t 80)⟩]
theorem tr51_18 : TR Tryz.f51 135 18 = some a51_18 := by kernel_rfl
def a51_19 : List AO := [⟨(some 81), none, .mv (.t 16)⟩,
  ⟨(some 82), none, .mv (.t 9)⟩,
  ⟨(some 83), none, .bin .add (.t 81) (.t 82)⟩,
  ⟨(some 16), none, .mv (.t 83)⟩]
theorem tr51_19 : TR Tryz.f51 135 19 = some a51_19 := by kernel_rfl
def a51_20 : List AO := [⟨(some 84), none, .mv (.t 16)⟩,
  ⟨(some 85), none, .bin .geq (.t 84) (.v (.int .u64 4294967296))⟩]
theorem tr51_20 : TR Tryz.f51 135 20 = some a51_20 := by kernel_rfl
def a51_21 : List AO := [⟨(some 86), none, .mv (.t 11)⟩,
  ⟨(some 87), none, .bin .mul (.t 86) (.v (.int .u64 4294967296))⟩,
  ⟨(some 88), none, .mv (.t 13)⟩,
  ⟨(some 89), none, .bin .add (.t 87) (.t 88)⟩,
  ⟨(some 90), none, .mv (.t 15)⟩,
  ⟨(some 91), none, .mv (.t 2)⟩,
  ⟨(some 92), none, .bin .mul (.t 90) (.t 91)⟩,
  ⟨(some 93), none, .bin .sub (.t 89) (.t 92)⟩,
  ⟨(some 17), none, .mv (.t 93)⟩]
theorem tr51_21 : TR Tryz.f51 135 21 = some a51_21 := by kernel_rfl
def a51_22 : List AO := [⟨(some 94), none, .mv (.t 17)⟩,
  ⟨(some 95), none, .mv (.t 9)⟩,
  ⟨(some 96), none, .bin .quo (.t 94) (.t 95)⟩,
  ⟨(some 18), none, .mv (.t 96)⟩]
theorem tr51_22 : TR Tryz.f51 135 22 = some a51_22 := by kernel_rfl
def a51_23 : List AO := [⟨(some 97), none, .mv (.t 17)⟩,
  ⟨(some 98), none, .mv (.t 18)⟩,
  ⟨(some 99), none, .mv (.t 9)⟩,
  ⟨(some 100), none, .bin .mul (.t 98) (.t 99)⟩,
  ⟨(some 101), none, .bin .sub (.t 97) (.t 100)⟩,
  ⟨(some 16), none, .mv (.t 101)⟩]
theorem tr51_23 : TR Tryz.f51 135 23 = some a51_23 := by kernel_rfl
def a51_24 : List AO := [⟨(some 102), none, .mv (.t 18)⟩,
  ⟨(some 103), none, .bin .geq (.t 102) (.v (.int .u64 4294967296))⟩,
  ⟨(some 104), none, .mv (.t 103)⟩,
  ⟨(some 105), some (104, false), .mv (.t 18)⟩,
  ⟨(some 106), some (104, false), .mv (.t 10)⟩,
  ⟨(some 107), some (104, false), .bin .mul (.t 105) (.t 106)⟩,
  ⟨(some 108), some (104, false), .mv (.t 16)⟩,
  ⟨(some 109), some (104, false), .bin .mul (.v (.int .u64 4294967296)) (.t 108)⟩,
  ⟨(some 110), some (104, false), .mv (.t 14)⟩,
  ⟨(some 111), some (104, false), .bin .add (.t 109) (.t 110)⟩,
  ⟨(some 112), some (104, false), .bin .gtr (.t 107) (.t 111)⟩,
  ⟨(some 113), none, .pick (.t 104) (.v (.bool true)) (.t 112)⟩]
theorem tr51_24 : TR Tryz.f51 135 24 = some a51_24 := by kernel_rfl
def a51_25 : List AO := [⟨(some 114), none, .mv (.t 18)⟩,
  ⟨(some 115), none, .bin .sub (.t 114) (.v (.int .u64 1))⟩,
  ⟨(some 18), none, .mv (.t 115)⟩]
theorem tr51_25 : TR Tryz.f51 135 25 = some a51_25 := by kernel_rfl
def a51_26 : List AO := [⟨(some 116), none, .mv (.t 16)⟩,
  ⟨(some 117), none, .mv (.t 9)⟩,
  ⟨(some 118), none, .bin .add (.t 116) (.t 117)⟩,
  ⟨(some 16), none, .mv (.t 118)⟩]
theorem tr51_26 : TR Tryz.f51 135 26 = some a51_26 := by kernel_rfl
def a51_27 : List AO := [⟨(some 119), none, .mv (.t 16)⟩,
  ⟨(some 120), none, .bin .geq (.t 119) (.v (.int .u64 4294967296))⟩]
theorem tr51_27 : TR Tryz.f51 135 27 = some a51_27 := by kernel_rfl
def a51_28 : List AO := [⟨(some 121), none, .mv (.t 15)⟩,
  ⟨(some 122), none, .bin .mul (.t 121) (.v (.int .u64 4294967296))⟩,
  ⟨(some 123), none, .mv (.t 18)⟩,
  ⟨(some 124), none, .bin .add (.t 122) (.t 123)⟩,
  ⟨(some 125), none, .mv (.t 17)⟩,
  ⟨(some 126), none, .bin .mul (.t 125) (.v (.int .u64 4294967296))⟩,
  ⟨(some 127), none, .mv (.t 14)⟩,
  ⟨(some 128), none, .bin .add (.t 126) (.t 127)⟩,
  ⟨(some 129), none, .mv (.t 18)⟩,
  ⟨(some 130), none, .mv (.t 2)⟩,
  ⟨(some 131), none, .bin .mul (.t 129) (.t 130)⟩,
  ⟨(some 132), none, .bin .sub (.t 128) (.t 131)⟩,
  ⟨(some 133), none, .mv (.t 8)⟩,
  ⟨(some 134), none, .bin .shr (.t 132) (.t 133)⟩,
  ⟨(some 6), none, .mv (.t 124)⟩,
  ⟨(some 7), none, .mv (.t 134)⟩]
theorem tr51_28 : TR Tryz.f51 135 28 = some a51_28 := by kernel_rfl
/-- sort.stable_func -/
noncomputable def c54 : Code := .seq (.region 0 (ro Tryz.f54 0) false) (.seq (.region 1 (ro Tryz.f54 1) false) (.seq (.region 2 (ro Tryz.f54 2) false) (.seq (.block 0 (.loop (.seq (.seq (.region 3 (ro Tryz.f54 3) false) (.cond (.tmp 11) (.skip) (.exit 0))) (.block 1 (.seq (.region 4 (ro Tryz.f54 4) false) (.seq (.region 5 (ro Tryz.f54 5) false) (.region 6 (ro Tryz.f54 6) false))))))) (.seq (.region 7 (ro Tryz.f54 7) false) (.block 2 (.loop (.seq (.seq (.region 8 (ro Tryz.f54 8) false) (.cond (.tmp 26) (.skip) (.exit 2))) (.block 3 (.seq (.region 9 (ro Tryz.f54 9) false) (.seq (.block 4 (.loop (.seq (.seq (.region 10 (ro Tryz.f54 10) false) (.cond (.tmp 31) (.skip) (.exit 4))) (.block 5 (.seq (.region 11 (ro Tryz.f54 11) false) (.seq (.region 12 (ro Tryz.f54 12) false) (.region 13 (ro Tryz.f54 13) false))))))) (.seq (.seq (.region 14 (ro Tryz.f54 14) false) (.seq (.region 15 (ro Tryz.f54 15) false) (.cond (.tmp 49) (.region 16 (ro Tryz.f54 16) false) (.skip)))) (.region 17 (ro Tryz.f54 17) false))))))))))))
theorem body54 : Tryz.f54.body = some c54 := by kernel_rfl
theorem res54 : Tryz.f54.results.toList.mapM (trR Tryz.prog) = some [] := by kernel_rfl
theorem nt54 : Tryz.f54.ntmps = 57 := by kernel_rfl
theorem nm54 : (Tryz.f54.name == "runtime.NumGoroutine") = false := by kernel_rfl
def a54_0 : List AO := [⟨(some 2), none, .box 126 (.t 0)⟩]
theorem tr54_0 : TR Tryz.f54 57 0 = some a54_0 := by kernel_rfl
def a54_1 : List AO := [⟨(some 4), none, .mv (.v (.int .i64 20))⟩]
theorem tr54_1 : TR Tryz.f54 57 1 = some a54_1 := by kernel_rfl
def a54_2 : List AO := [⟨(some 8), none, .mv (.t 4)⟩,
  ⟨(some 5), none, .mv (.v (.int .i64 0))⟩,
  ⟨(some 6), none, .mv (.t 8)⟩]
theorem tr54_2 : TR Tryz.f54 57 2 = some a54_2 := by kernel_rfl
def a54_3 : List AO := [⟨(some 9), none, .mv (.t 6)⟩,
  ⟨(some 10), none, .mv (.t 1)⟩,
  ⟨(some 11), none, .bin .leq (.t 9) (.t 10)⟩]
theorem tr54_3 : TR Tryz.f54 57 3 = some a54_3 := by kernel_rfl
def a54_4 : List AO := [⟨(some 12), none, .load (some 2) (.t 2)⟩,
  ⟨(some 13), none, .mv (.t 5)⟩,
  ⟨(some 14), none, .mv (.t 6)⟩,
  ⟨(some 15), none, .call 74 [(.t 12), (.t 13), (.t 14)]⟩]
theorem tr54_4 : TR Tryz.f54 57 4 = some a54_4 := by kernel_rfl
def a54_5 : List AO := [⟨(some 16), none, .mv (.t 6)⟩,
  ⟨(some 5), none, .mv (.t 16)⟩]
theorem tr54_5 : TR Tryz.f54 57 5 = some a54_5 := by kernel_rfl
def a54_6 : List AO := [⟨(some 17), none, .mv (.t 6)⟩,
  ⟨(some 18), none, .mv (.t 4)⟩,
  ⟨(some 19), none, .bin .add (.t 17) (.t 18)⟩,
  ⟨(some 6), none, .mv (.t 19)⟩]
theorem tr54_6 : TR Tryz.f54 57 6 = some a54_6 := by kernel_rfl
def a54_7 : List AO := [⟨(some 20), none, .load (some 2) (.t 2)⟩,
  ⟨(some 21), none, .mv (.t 5)⟩,
  ⟨(some 22), none, .mv (.t 1)⟩,
  ⟨(some 23), none, .call 74 [(.t 20), (.t 21), (.t 22)]⟩]
theorem tr54_7 : TR Tryz.f54 57 7 = some a54_7 := by kernel_rfl
def a54_8 : List AO := [⟨(some 24), none, .mv (.t 4)⟩,
  ⟨(some 25), none, .mv (.t 1)⟩,
  ⟨(some 26), none, .bin .lss (.t 24) (.t 25)⟩]
theorem tr54_8 : TR Tryz.f54 57 8 = some a54_8 := by kernel_rfl
def a54_9 : List AO := [⟨(some 27), none, .mv (.t 4)⟩,
  ⟨(some 28), none, .bin .mul (.v (.int .i64 2)) (.t 27)⟩,
  ⟨(some 5), none, .mv (.v (.int .i64 0))⟩,
  ⟨(some 6), none, .mv (.t 28)⟩]
theorem tr54_9 : TR Tryz.f54 57 9 = some a54_9 := by kernel_rfl
def a54_10 : List AO := [⟨(some 29), none, .mv (.t 6)⟩,
  ⟨(some 30), none, .mv (.t 1)⟩,
  ⟨(some 31), none, .bin .leq (.t 29) (.t 30)⟩]
theorem tr54_10 : TR Tryz.f54 57 10 = some a54_10 := by kernel_rfl
def a54_11 : List AO := [⟨(some 32), none, .load (some 2) (.t 2)⟩,
  ⟨(some 33), none, .mv (.t 5)⟩,
  ⟨(some 34), none, .mv (.t 5)⟩,
  ⟨(some 35), none, .mv (.t 4)⟩,
  ⟨(some 36), none, .bin .add (.t 34) (.t 35)⟩,
  ⟨(some 37), none, .mv (.t 6)⟩,
  ⟨(some 38), none, .call 75 [(.t 32), (.t 33), (.t 36), (.t 37)]⟩]
theorem tr54_11 : TR Tryz.f54 57 11 = some a54_11 := by kernel_rfl
def a54_12 : List AO := [⟨(some 39), none, .mv (.t 6)⟩,
  ⟨(some 5), none, .mv (.t 39)⟩]
theorem tr54_12 : TR Tryz.f54 57 12 = some a54_12 := by kernel_rfl
def a54_13 : List AO := [⟨(some 40), none, .mv (.t 6)⟩,
  ⟨(some 41), none, .mv (.t 4)⟩,
  ⟨(some 42), none, .bin .mul (.v (.int .i64 2)) (.t 41)⟩,
  ⟨(some 43), none, .bin .add (.t 40) (.t 42)⟩,
  ⟨(some 6), none, .mv (.t 43)⟩]
theorem tr54_13 : TR Tryz.f54 57 13 = some a54_13 := by kernel_rfl
def a54_14 : List AO := [⟨(some 44), none, .mv (.t 5)⟩,
  ⟨(some 45), none, .mv (.t 4)⟩,
  ⟨(some 46), none, .bin .add (.t 44) (.t 45)⟩,
  ⟨(some 7), none, .mv (.t 46)⟩]
theorem tr54_14 : TR Tryz.f54 57 14 = some a54_14 := by kernel_rfl
def a54_15 : List AO := [⟨(some 47), none, .mv (.t 7)⟩,
  ⟨(some 48), none, .mv (.t 1)⟩,
  ⟨(some 49), none, .bin .lss (.t 47) (.t 48)⟩]
theorem tr54_15 : TR Tryz.f54 57 15 = some a54_15 := by kernel_rfl
def a54_16 : List AO := [⟨(some 50), none, .load (some 2) (.t 2)⟩,
  ⟨(some 51), none, .mv (.t 5)⟩,
  ⟨(some 52), none, .mv (.t 7)⟩,
  ⟨(some 53), none, .mv (.t 1)⟩,
  ⟨(some 54), none, .call 75 [(.t 50), (.t 51), (.t 52), (.t 53)]⟩]
theorem tr54_16 : TR Tryz.f54 57 16 = some a54_16 := by kernel_rfl
def a54_17 : List AO := [⟨(some 55), none, .mv (.t 4)⟩,
  ⟨(some 56), none, .bin .mul (.t 55) (.v (.int .i64 2))⟩,
  ⟨(some 4), none, .mv (.t 56)⟩]
theorem tr54_17 : TR Tryz.f54 57 17 = some a54_17 := by kernel_rfl
/-- airline/places.Find -/
noncomputable def c56 : Code := .seq (.region 0 (ro Tryz.f56 0) false) (.seq (.seq (.region 1 (ro Tryz.f56 1) false) (.block 0 (.loop (.seq (.region 2 (ro Tryz.f56 2) false) (.seq (.cond (.tmp 12) (.skip) (.exit 0)) (.seq (.block 1 (.seq (.region 3 (ro Tryz.f56 3) false) (.seq (.region 4 (ro Tryz.f56 4) false) (.cond (.tmp 18) (.seq (.region 5 (ro Tryz.f56 5) false) (.ret)) (.skip))))) (.region 6 (ro Tryz.f56 6) false))))))) (.seq (.region 7 (ro Tryz.f56 7) false) (.ret)))
theorem body56 : Tryz.f56.body = some c56 := by kernel_rfl
theorem res56 : Tryz.f56.results.toList.mapM (trR Tryz.prog) = some [.c (some 5) 4, .t 5] := by kernel_rfl
theorem nt56 : Tryz.f56.ntmps = 22 := by kernel_rfl
theorem nm56 : (Tryz.f56.name == "runtime.NumGoroutine") = false := by kernel_rfl
def a56_0 : List AO := [⟨(some 2), none, .box 25 (.t 0)⟩,
  ⟨(some 4), none, .alloc 46 [(.str []), (.str []), (.str []), (.int .i64 0), .nils]⟩,
  ⟨(some 5), none, .mv (.v (.bool false))⟩]
theorem tr56_0 : TR Tryz.f56 22 0 = some a56_0 := by kernel_rfl
def a56_1 : List AO := [⟨(some 8), none, .fld 0 (.t 2)⟩,
  ⟨(some 9), none, .load none (.t 8)⟩,
  ⟨(some 10), none, .len (.t 9)⟩,
  ⟨(some 11), none, .mv (.v (.int .i64 0))⟩]
theorem tr56_1 : TR Tryz.f56 22 1 = some a56_1 := by kernel_rfl
def a56_2 : List AO := [⟨(some 12), none, .bin .lss (.t 11) (.t 10)⟩]
theorem tr56_2 : TR Tryz.f56 22 2 = some a56_2 := by kernel_rfl
def a56_3 : List AO := [⟨(some 13), none, .idx 5 (.t 9) (.t 11)⟩,
  ⟨(some 14), none, .load (some 5) (.t 13)⟩,
  ⟨(some 7), none, .alloc 46 [(.str []), (.str []), (.str []), (.int .i64 0), .nils]⟩,
  ⟨none, none, .store 5 (.t 7) (.t 14)⟩]
theorem tr56_3 : TR Tryz.f56 22 3 = some a56_3 := by kernel_rfl
def a56_4 : List AO := [⟨(some 15), none, .fld 0 (.t 7)⟩,
  ⟨(some 16), none, .load none (.t 15)⟩,
  ⟨(some 17), none, .mv (.t 1)⟩,
  ⟨(some 18), none, .bin .eql (.t 16) (.t 17)⟩]
theorem tr56_4 : TR Tryz.f56 22 4 = some a56_4 := by kernel_rfl
def a56_5 : List AO := [⟨(some 19), none, .load (some 5) (.t 7)⟩,
  ⟨none, none, .store 5 (.t 4) (.t 19)⟩,
  ⟨(some 5), none, .mv (.v (.bool true))⟩]
theorem tr56_5 : TR Tryz.f56 22 5 = some a56_5 := by kernel_rfl
def a56_6 : List AO := [⟨(some 20), none, .bin .add (.t 11) (.v (.int .i64 1))⟩,
  ⟨(some 11), none, .mv (.t 20)⟩]
theorem tr56_6 : TR Tryz.f56 22 6 = some a56_6 := by kernel_rfl
def a56_7 : List AO := [⟨(some 21), none, .build [(.str []), (.str []), (.str []), (.int .i64 0), .nils] []⟩,
  ⟨none, none, .store 5 (.t 4) (.t 21)⟩,
  ⟨(some 5), none, .mv (.v (.bool false))⟩]
theorem tr56_7 : TR Tryz.f56 22 7 = some a56_7 := by kernel_rfl
/-- airline/places.town -/
noncomputable def c57 : Code := .seq (.region 0 (ro Tryz.f57 0) false) (.seq (.seq (.region 1 (ro Tryz.f57 1) false) (.block 0 (.loop (.seq (.region 2 (ro Tryz.f57 2) false) (.seq (.cond (.tmp 12) (.skip) (.exit 0)) (.seq (.block 1 (.seq (.region 3 (ro Tryz.f57 3) false) (.seq (.region 4 (ro Tryz.f57 4) false) (.cond (.tmp 18) (.seq (.region 5 (ro Tryz.f57 5) false) (.ret)) (.skip))))) (.region 6 (ro Tryz.f57 6) false))))))) (.seq (.region 7 (ro Tryz.f57 7) false) (.ret)))
theorem body57 : Tryz.f57.body = some c57 := by kernel_rfl
theorem res57 : Tryz.f57.results.toList.mapM (trR Tryz.prog) = some [.c (some 5) 4, .t 5] := by kernel_rfl
theorem nt57 : Tryz.f57.ntmps = 22 := by kernel_rfl
theorem nm57 : (Tryz.f57.name == "runtime.NumGoroutine") = false := by kernel_rfl
def a57_0 : List AO := [⟨(some 2), none, .box 25 (.t 0)⟩,
  ⟨(some 4), none, .alloc 46 [(.str []), (.str []), (.str []), (.int .i64 0), .nils]⟩,
  ⟨(some 5), none, .mv (.v (.bool false))⟩]
theorem tr57_0 : TR Tryz.f57 22 0 = some a57_0 := by kernel_rfl
def a57_1 : List AO := [⟨(some 8), none, .fld 0 (.t 2)⟩,
  ⟨(some 9), none, .load none (.t 8)⟩,
  ⟨(some 10), none, .len (.t 9)⟩,
  ⟨(some 11), none, .mv (.v (.int .i64 0))⟩]
theorem tr57_1 : TR Tryz.f57 22 1 = some a57_1 := by kernel_rfl
def a57_2 : List AO := [⟨(some 12), none, .bin .lss (.t 11) (.t 10)⟩]
theorem tr57_2 : TR Tryz.f57 22 2 = some a57_2 := by kernel_rfl
def a57_3 : List AO := [⟨(some 13), none, .idx 5 (.t 9) (.t 11)⟩,
  ⟨(some 14), none, .load (some 5) (.t 13)⟩,
  ⟨(some 7), none, .alloc 46 [(.str []), (.str []), (.str []), (.int .i64 0), .nils]⟩,
  ⟨none, none, .store 5 (.t 7) (.t 14)⟩]
theorem tr57_3 : TR Tryz.f57 22 3 = some a57_3 := by kernel_rfl
def a57_4 : List AO := [⟨(some 15), none, .fld 1 (.t 7)⟩,
  ⟨(some 16), none, .load none (.t 15)⟩,
  ⟨(some 17), none, .mv (.t 1)⟩,
  ⟨(some 18), none, .bin .eql (.t 16) (.t 17)⟩]
theorem tr57_4 : TR Tryz.f57 22 4 = some a57_4 := by kernel_rfl
def a57_5 : List AO := [⟨(some 19), none, .load (some 5) (.t 7)⟩,
  ⟨none, none, .store 5 (.t 4) (.t 19)⟩,
  ⟨(some 5), none, .mv (.v (.bool true))⟩]
theorem tr57_5 : TR Tryz.f57 22 5 = some a57_5 := by kernel_rfl
def a57_6 : List AO := [⟨(some 20), none, .bin .add (.t 11) (.v (.int .i64 1))⟩,
  ⟨(some 11), none, .mv (.t 20)⟩]
theorem tr57_6 : TR Tryz.f57 22 6 = some a57_6 := by kernel_rfl
def a57_7 : List AO := [⟨(some 21), none, .build [(.str []), (.str []), (.str []), (.int .i64 0), .nils] []⟩,
  ⟨none, none, .store 5 (.t 4) (.t 21)⟩,
  ⟨(some 5), none, .mv (.v (.bool false))⟩]
theorem tr57_7 : TR Tryz.f57 22 7 = some a57_7 := by kernel_rfl
end Go.Proofs.YtfjgnfgadkajnaaGreat
