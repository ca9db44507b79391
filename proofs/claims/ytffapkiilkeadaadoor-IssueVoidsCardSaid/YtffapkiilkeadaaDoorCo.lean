/- The code of the functions, region by region, as abstract operations. -/
import Derived.Test.YtffapkiilkeadaaDoorProg
import Derived.Test.YtffapkiilkeadaaDoorAv21
namespace Go.Proofs.YtffapkiilkeadaaDoor
open Go Go.RowKit
def findR : Code → Nat → Option (Array Oper)
  | .region i ops _, k => if i = k then some ops else none
  | .seq a b, k => (findR a k).or (findR b k)
  | .cond _ a b, k => (findR a k).or (findR b k)
  | .block _ c, k => findR c k
  | .loop c, k => findR c k
  | .scope c, k => findR c k
  | _, _ => none
def ro (f : Func) (k : Nat) : Array Oper := ((f.body.bind fun c => findR c k).getD #[])
noncomputable abbrev TR (f : Func) (n k : Nat) : Option (List AO) := (ro f k).toList.mapM (trO Tryd.prog n (ro f k))
theorem mixed : Tryd.prog.follows .mixedOrders = true := by kernel_rfl
/-- airline/airlinelaw40.IssueChecks -/
noncomputable def c3 : Code := .seq (.region 0 (ro Tryd.f3 0) false) (.seq (.seq (.region 1 (ro Tryd.f3 1) false) (.cond (.tmp 32) (.seq (.region 2 (ro Tryd.f3 2) false) (.ret)) (.skip))) (.seq (.region 3 (ro Tryd.f3 3) true) (.ret)))
theorem body3 : Tryd.f3.body = some c3 := by kernel_rfl
theorem res3 : Tryd.f3.results.toList.mapM (trR Tryd.prog) = some [.t 2] := by kernel_rfl
theorem nt3 : Tryd.f3.ntmps = 42 := by kernel_rfl
theorem nm3 : (Tryd.f3.name == "runtime.NumGoroutine") = false := by kernel_rfl
def a3_0 : List AO := [⟨(some 1), none, .box 27 (.t 0)⟩,
  ⟨(some 2), none, .mv (.v (.bool false))⟩]
theorem tr3_0 : TR Tryd.f3 42 0 = some a3_0 := by kernel_rfl
def a3_1 : List AO := [⟨(some 3), none, .fld 5 (.t 1)⟩,
  ⟨(some 4), none, .load none (.t 3)⟩,
  ⟨(some 5), none, .len (.t 4)⟩,
  ⟨(some 6), none, .bin .gtr (.t 5) (.v (.int .i64 50))⟩,
  ⟨(some 7), none, .mv (.t 6)⟩,
  ⟨(some 8), some (7, false), .fld 7 (.t 1)⟩,
  ⟨(some 9), some (7, false), .load none (.t 8)⟩,
  ⟨(some 10), some (7, false), .len (.t 9)⟩,
  ⟨(some 11), some (7, false), .bin .gtr (.t 10) (.v (.int .i64 50))⟩,
  ⟨(some 12), none, .pick (.t 7) (.v (.bool true)) (.t 11)⟩,
  ⟨(some 13), none, .mv (.t 12)⟩,
  ⟨(some 14), some (13, false), .fld 1 (.t 1)⟩,
  ⟨(some 15), some (13, false), .load none (.t 14)⟩,
  ⟨(some 16), some (13, false), .slen (.t 15)⟩,
  ⟨(some 17), some (13, false), .bin .gtr (.t 16) (.v (.int .i64 100))⟩,
  ⟨(some 18), none, .pick (.t 13) (.v (.bool true)) (.t 17)⟩,
  ⟨(some 19), none, .mv (.t 18)⟩,
  ⟨(some 20), some (19, false), .fld 2 (.t 1)⟩,
  ⟨(some 21), some (19, false), .fld 0 (.t 20)⟩,
  ⟨(some 22), some (19, false), .load none (.t 21)⟩,
  ⟨(some 23), some (19, false), .slen (.t 22)⟩,
  ⟨(some 24), some (19, false), .bin .gtr (.t 23) (.v (.int .i64 200))⟩,
  ⟨(some 25), none, .pick (.t 19) (.v (.bool true)) (.t 24)⟩,
  ⟨(some 26), none, .mv (.t 25)⟩,
  ⟨(some 27), some (26, false), .fld 2 (.t 1)⟩,
  ⟨(some 28), some (26, false), .fld 1 (.t 27)⟩,
  ⟨(some 29), some (26, false), .load none (.t 28)⟩,
  ⟨(some 30), some (26, false), .slen (.t 29)⟩,
  ⟨(some 31), some (26, false), .bin .gtr (.t 30) (.v (.int .i64 200))⟩,
  ⟨(some 32), none, .pick (.t 26) (.v (.bool true)) (.t 31)⟩]
theorem tr3_1 : TR Tryd.f3 42 1 = some a3_1 := by kernel_rfl
def a3_2 : List AO := [⟨(some 33), none, .call 6 []⟩,
  ⟨(some 2), none, .mv (.t 33)⟩]
theorem tr3_2 : TR Tryd.f3 42 2 = some a3_2 := by kernel_rfl
def a3_3 : List AO := [⟨(some 34), none, .load (some 10) (.t 1)⟩,
  ⟨(some 35), none, .call 8 [(.t 34)]⟩,
  ⟨(some 36), none, .load (some 10) (.t 1)⟩,
  ⟨(some 37), none, .call 9 [(.t 36)]⟩,
  ⟨(some 38), none, .call 7 [(.t 35), (.t 37)]⟩,
  ⟨(some 39), none, .mv (.t 38)⟩,
  ⟨(some 40), some (39, true), .call 6 []⟩,
  ⟨(some 41), none, .pick (.t 39) (.t 40) (.v (.bool false))⟩,
  ⟨(some 2), none, .mv (.t 41)⟩]
theorem tr3_3 : TR Tryd.f3 42 3 = some a3_3 := by kernel_rfl
def d3_3 : List (List Nat) := [[], [0], [], [0, 1, 2], [0, 1, 2, 3], [0, 1, 2, 3, 4], [0, 1, 2, 3, 4, 5], [0, 1, 2, 3, 4, 5, 6], [0, 1, 2, 3, 4, 5, 6, 7]]
theorem ok3_3 : okReg (ro Tryd.f3 3) a3_3 d3_3 = true := by kernel_rfl
/-- airline/airlinelaw40.IssueVoids -/
noncomputable def c4 : Code := .seq (.region 0 (ro Tryd.f4 0) false) (.seq (.seq (.region 1 (ro Tryd.f4 1) false) (.cond (.tmp 20) (.seq (.region 2 (ro Tryd.f4 2) false) (.ret)) (.skip))) (.seq (.region 3 (ro Tryd.f4 3) false) (.seq (.region 4 (ro Tryd.f4 4) false) (.seq (.seq (.region 5 (ro Tryd.f4 5) false) (.cond (.tmp 42) (.seq (.region 6 (ro Tryd.f4 6) false) (.ret)) (.skip))) (.seq (.seq (.region 7 (ro Tryd.f4 7) false) (.cond (.tmp 44) (.seq (.region 8 (ro Tryd.f4 8) false) (.seq (.region 9 (ro Tryd.f4 9) false) (.ret))) (.skip))) (.seq (.region 10 (ro Tryd.f4 10) false) (.ret)))))))
theorem body4 : Tryd.f4.body = some c4 := by kernel_rfl
theorem res4 : Tryd.f4.results.toList.mapM (trR Tryd.prog) = some [.t 4] := by kernel_rfl
theorem nt4 : Tryd.f4.ntmps = 57 := by kernel_rfl
theorem nm4 : (Tryd.f4.name == "runtime.NumGoroutine") = false := by kernel_rfl
def a4_0 : List AO := [⟨(some 2), none, .box 27 (.t 0)⟩,
  ⟨(some 4), none, .mv (.v (.bool false))⟩]
theorem tr4_0 : TR Tryd.f4 57 0 = some a4_0 := by kernel_rfl
def a4_1 : List AO := [⟨(some 11), none, .fld 5 (.t 2)⟩,
  ⟨(some 12), none, .load none (.t 11)⟩,
  ⟨(some 13), none, .len (.t 12)⟩,
  ⟨(some 14), none, .bin .gtr (.t 13) (.v (.int .i64 50))⟩,
  ⟨(some 15), none, .mv (.t 14)⟩,
  ⟨(some 16), some (15, false), .fld 7 (.t 2)⟩,
  ⟨(some 17), some (15, false), .load none (.t 16)⟩,
  ⟨(some 18), some (15, false), .len (.t 17)⟩,
  ⟨(some 19), some (15, false), .bin .gtr (.t 18) (.v (.int .i64 50))⟩,
  ⟨(some 20), none, .pick (.t 15) (.v (.bool true)) (.t 19)⟩]
theorem tr4_1 : TR Tryd.f4 57 1 = some a4_1 := by kernel_rfl
def a4_2 : List AO := [⟨(some 21), none, .call 6 []⟩,
  ⟨(some 4), none, .mv (.t 21)⟩]
theorem tr4_2 : TR Tryd.f4 57 2 = some a4_2 := by kernel_rfl
def a4_3 : List AO := [⟨(some 23), none, .load (some 10) (.t 2)⟩,
  ⟨(some 24), none, .mv (.t 1)⟩,
  ⟨(some 25), none, .call 10 [(.t 23), (.t 24)]⟩,
  ⟨(some 22), none, .mv (.t 25)⟩,
  ⟨(some 26), none, .ext 0 (.t 22)⟩,
  ⟨(some 27), none, .ext 1 (.t 22)⟩,
  ⟨(some 5), none, .alloc 27 [(.int .i64 0), (.str []), (.str []), (.str []), (.str []), .nils, (.int .i64 0), .nils, (.int .i64 0), (.int .i64 0)]⟩,
  ⟨none, none, .store 10 (.t 5) (.t 26)⟩,
  ⟨(some 6), none, .mv (.t 27)⟩]
theorem tr4_3 : TR Tryd.f4 57 3 = some a4_3 := by kernel_rfl
def a4_4 : List AO := [⟨(some 29), none, .load (some 10) (.t 2)⟩,
  ⟨(some 30), none, .mv (.t 1)⟩,
  ⟨(some 31), none, .call 11 [(.t 29), (.t 30)]⟩,
  ⟨(some 28), none, .mv (.t 31)⟩,
  ⟨(some 32), none, .ext 0 (.t 28)⟩,
  ⟨(some 33), none, .ext 1 (.t 28)⟩,
  ⟨(some 7), none, .alloc 27 [(.int .i64 0), (.str []), (.str []), (.str []), (.str []), .nils, (.int .i64 0), .nils, (.int .i64 0), (.int .i64 0)]⟩,
  ⟨none, none, .store 10 (.t 7) (.t 32)⟩,
  ⟨(some 8), none, .mv (.t 33)⟩]
theorem tr4_4 : TR Tryd.f4 57 4 = some a4_4 := by kernel_rfl
def a4_5 : List AO := [⟨(some 34), none, .mv (.t 6)⟩,
  ⟨(some 35), none, .mv (.t 8)⟩,
  ⟨(some 36), none, .bin .neq (.t 34) (.t 35)⟩,
  ⟨(some 37), none, .mv (.t 36)⟩,
  ⟨(some 38), some (37, false), .load (some 10) (.t 5)⟩,
  ⟨(some 39), some (37, false), .load (some 10) (.t 7)⟩,
  ⟨(some 40), some (37, false), .call 12 [(.t 38), (.t 39)]⟩,
  ⟨(some 41), some (37, false), .un .not (.t 40)⟩,
  ⟨(some 42), none, .pick (.t 37) (.v (.bool true)) (.t 41)⟩]
theorem tr4_5 : TR Tryd.f4 57 5 = some a4_5 := by kernel_rfl
def a4_6 : List AO := [⟨(some 4), none, .mv (.v (.bool false))⟩]
theorem tr4_6 : TR Tryd.f4 57 6 = some a4_6 := by kernel_rfl
def a4_7 : List AO := [⟨(some 43), none, .mv (.t 6)⟩,
  ⟨(some 44), none, .bin .eql (.t 43) (.v (.int .i64 0))⟩]
theorem tr4_7 : TR Tryd.f4 57 7 = some a4_7 := by kernel_rfl
def a4_8 : List AO := [⟨(some 46), none, .load (some 10) (.t 5)⟩,
  ⟨(some 47), none, .mv (.t 1)⟩,
  ⟨(some 48), none, .call 10 [(.t 46), (.t 47)]⟩,
  ⟨(some 45), none, .mv (.t 48)⟩,
  ⟨(some 49), none, .ext 0 (.t 45)⟩,
  ⟨(some 50), none, .ext 1 (.t 45)⟩,
  ⟨(some 9), none, .alloc 27 [(.int .i64 0), (.str []), (.str []), (.str []), (.str []), .nils, (.int .i64 0), .nils, (.int .i64 0), (.int .i64 0)]⟩,
  ⟨none, none, .store 10 (.t 9) (.t 49)⟩,
  ⟨(some 10), none, .mv (.t 50)⟩]
theorem tr4_8 : TR Tryd.f4 57 8 = some a4_8 := by kernel_rfl
def a4_9 : List AO := [⟨(some 51), none, .mv (.t 10)⟩,
  ⟨(some 52), none, .bin .neq (.t 51) (.v (.int .i64 0))⟩,
  ⟨(some 53), none, .mv (.t 52)⟩,
  ⟨(some 54), some (53, true), .call 6 []⟩,
  ⟨(some 55), none, .pick (.t 53) (.t 54) (.v (.bool false))⟩,
  ⟨(some 4), none, .mv (.t 55)⟩]
theorem tr4_9 : TR Tryd.f4 57 9 = some a4_9 := by kernel_rfl
def a4_10 : List AO := [⟨(some 56), none, .call 6 []⟩,
  ⟨(some 4), none, .mv (.t 56)⟩]
theorem tr4_10 : TR Tryd.f4 57 10 = some a4_10 := by kernel_rfl
/-- airline/airlinelaw40.IssueSame -/
noncomputable def c5 : Code := .seq (.region 0 (ro Tryd.f5 0) false) (.seq (.seq (.region 1 (ro Tryd.f5 1) false) (.cond (.tmp 26) (.seq (.region 2 (ro Tryd.f5 2) false) (.ret)) (.skip))) (.seq (.region 3 (ro Tryd.f5 3) true) (.ret)))
theorem body5 : Tryd.f5.body = some c5 := by kernel_rfl
theorem res5 : Tryd.f5.results.toList.mapM (trR Tryd.prog) = some [.t 4] := by kernel_rfl
theorem nt5 : Tryd.f5.ntmps = 43 := by kernel_rfl
theorem nm5 : (Tryd.f5.name == "runtime.NumGoroutine") = false := by kernel_rfl
def a5_0 : List AO := [⟨(some 2), none, .box 27 (.t 0)⟩,
  ⟨(some 3), none, .box 27 (.t 1)⟩,
  ⟨(some 4), none, .mv (.v (.bool false))⟩]
theorem tr5_0 : TR Tryd.f5 43 0 = some a5_0 := by kernel_rfl
def a5_1 : List AO := [⟨(some 5), none, .fld 5 (.t 2)⟩,
  ⟨(some 6), none, .load none (.t 5)⟩,
  ⟨(some 7), none, .len (.t 6)⟩,
  ⟨(some 8), none, .bin .gtr (.t 7) (.v (.int .i64 50))⟩,
  ⟨(some 9), none, .mv (.t 8)⟩,
  ⟨(some 10), some (9, false), .fld 5 (.t 3)⟩,
  ⟨(some 11), some (9, false), .load none (.t 10)⟩,
  ⟨(some 12), some (9, false), .len (.t 11)⟩,
  ⟨(some 13), some (9, false), .bin .gtr (.t 12) (.v (.int .i64 50))⟩,
  ⟨(some 14), none, .pick (.t 9) (.v (.bool true)) (.t 13)⟩,
  ⟨(some 15), none, .mv (.t 14)⟩,
  ⟨(some 16), some (15, false), .fld 7 (.t 2)⟩,
  ⟨(some 17), some (15, false), .load none (.t 16)⟩,
  ⟨(some 18), some (15, false), .len (.t 17)⟩,
  ⟨(some 19), some (15, false), .bin .gtr (.t 18) (.v (.int .i64 50))⟩,
  ⟨(some 20), none, .pick (.t 15) (.v (.bool true)) (.t 19)⟩,
  ⟨(some 21), none, .mv (.t 20)⟩,
  ⟨(some 22), some (21, false), .fld 7 (.t 3)⟩,
  ⟨(some 23), some (21, false), .load none (.t 22)⟩,
  ⟨(some 24), some (21, false), .len (.t 23)⟩,
  ⟨(some 25), some (21, false), .bin .gtr (.t 24) (.v (.int .i64 50))⟩,
  ⟨(some 26), none, .pick (.t 21) (.v (.bool true)) (.t 25)⟩]
theorem tr5_1 : TR Tryd.f5 43 1 = some a5_1 := by kernel_rfl
def a5_2 : List AO := [⟨(some 27), none, .call 6 []⟩,
  ⟨(some 4), none, .mv (.t 27)⟩]
theorem tr5_2 : TR Tryd.f5 43 2 = some a5_2 := by kernel_rfl
def a5_3 : List AO := [⟨(some 28), none, .load (some 10) (.t 2)⟩,
  ⟨(some 29), none, .load (some 10) (.t 3)⟩,
  ⟨(some 30), none, .call 13 [(.t 28), (.t 29)]⟩,
  ⟨(some 31), none, .load (some 10) (.t 2)⟩,
  ⟨(some 32), none, .load (some 10) (.t 3)⟩,
  ⟨(some 33), none, .call 12 [(.t 31), (.t 32)]⟩,
  ⟨(some 34), none, .binb .eql (.t 30) (.t 33)⟩,
  ⟨(some 35), none, .mv (.t 34)⟩,
  ⟨(some 36), some (35, true), .load (some 10) (.t 2)⟩,
  ⟨(some 37), some (35, true), .load (some 10) (.t 2)⟩,
  ⟨(some 38), some (35, true), .call 13 [(.t 36), (.t 37)]⟩,
  ⟨(some 39), none, .pick (.t 35) (.t 38) (.v (.bool false))⟩,
  ⟨(some 40), none, .mv (.t 39)⟩,
  ⟨(some 41), some (40, true), .call 6 []⟩,
  ⟨(some 42), none, .pick (.t 40) (.t 41) (.v (.bool false))⟩,
  ⟨(some 4), none, .mv (.t 42)⟩]
theorem tr5_3 : TR Tryd.f5 43 3 = some a5_3 := by kernel_rfl
def d5_3 : List (List Nat) := [[], [], [0, 1], [], [], [0, 1, 2, 3, 4], [0, 1, 2, 3, 4, 5], [0, 1, 2, 3, 4, 5, 6], [0, 1, 2, 3, 4, 5, 6, 7], [0, 1, 2, 3, 4, 5, 6, 7], [0, 1, 2, 3, 4, 5, 6, 7, 8, 9], [0, 1, 2, 3, 4, 5, 6, 7, 8, 9, 10], [0, 1, 2, 3, 4, 5, 6, 7, 8, 9, 10, 11], [0, 1, 2, 3, 4, 5, 6, 7, 8, 9, 10, 11, 12], [0, 1, 2, 3, 4, 5, 6, 7, 8, 9, 10, 11, 12, 13], [0, 1, 2, 3, 4, 5, 6, 7, 8, 9, 10, 11, 12, 13, 14]]
theorem ok5_3 : okReg (ro Tryd.f5 3) a5_3 d5_3 = true := by kernel_rfl
/-- airline/airlinelaw40.exampleHolds -/
noncomputable def c6 : Code := .seq (.region 0 (ro Tryd.f6 0) false) (.seq (.region 1 (ro Tryd.f6 1) false) (.seq (.region 2 (ro Tryd.f6 2) false) (.seq (.region 3 (ro Tryd.f6 3) false) (.seq (.region 4 (ro Tryd.f6 4) false) (.ret)))))
theorem body6 : Tryd.f6.body = some c6 := by kernel_rfl
theorem res6 : Tryd.f6.results.toList.mapM (trR Tryd.prog) = some [.t 0] := by kernel_rfl
theorem nt6 : Tryd.f6.ntmps = 45 := by kernel_rfl
theorem nm6 : (Tryd.f6.name == "runtime.NumGoroutine") = false := by kernel_rfl
def a6_0 : List AO := [⟨(some 0), none, .mv (.v (.bool false))⟩]
theorem tr6_0 : TR Tryd.f6 45 0 = some a6_0 := by kernel_rfl
def a6_1 : List AO := [⟨(some 6), none, .build [(.str []), (.int .i64 0), (.int .i64 0), (.str []), (.str []), (.int .i64 0), (.int .i64 0), (.str []), (.str []), (.int .i64 0), (.int .i64 0)] [(9, 1, (.v (.int .i64 1)))]⟩,
  ⟨(some 7), none, .slc 43 11 false [(.t 6)]⟩,
  ⟨(some 8), none, .build [(.int .i64 0), (.str []), (.str []), (.str []), (.str []), .nils, (.int .i64 0), .nils, (.int .i64 0), (.int .i64 0)] [(5, 1, (.t 7)), (9, 1, (.v (.int .i64 5)))]⟩,
  ⟨(some 1), none, .alloc 27 [(.int .i64 0), (.str []), (.str []), (.str []), (.str []), .nils, (.int .i64 0), .nils, (.int .i64 0), (.int .i64 0)]⟩,
  ⟨none, none, .store 10 (.t 1) (.t 8)⟩]
theorem tr6_1 : TR Tryd.f6 45 1 = some a6_1 := by kernel_rfl
def a6_2 : List AO := [⟨(some 10), none, .load (some 10) (.t 1)⟩,
  ⟨(some 11), none, .call 10 [(.t 10), (.v (.int .i64 5))]⟩,
  ⟨(some 9), none, .mv (.t 11)⟩,
  ⟨(some 12), none, .ext 0 (.t 9)⟩,
  ⟨(some 13), none, .ext 1 (.t 9)⟩,
  ⟨(some 2), none, .alloc 27 [(.int .i64 0), (.str []), (.str []), (.str []), (.str []), .nils, (.int .i64 0), .nils, (.int .i64 0), (.int .i64 0)]⟩,
  ⟨none, none, .store 10 (.t 2) (.t 12)⟩,
  ⟨(some 3), none, .mv (.t 13)⟩]
theorem tr6_2 : TR Tryd.f6 45 2 = some a6_2 := by kernel_rfl
def a6_3 : List AO := [⟨(some 15), none, .load (some 10) (.t 2)⟩,
  ⟨(some 16), none, .call 10 [(.t 15), (.v (.int .i64 5))]⟩,
  ⟨(some 14), none, .mv (.t 16)⟩,
  ⟨(some 17), none, .ext 0 (.t 14)⟩,
  ⟨(some 18), none, .ext 1 (.t 14)⟩,
  ⟨(some 4), none, .alloc 27 [(.int .i64 0), (.str []), (.str []), (.str []), (.str []), .nils, (.int .i64 0), .nils, (.int .i64 0), (.int .i64 0)]⟩,
  ⟨none, none, .store 10 (.t 4) (.t 17)⟩,
  ⟨(some 5), none, .mv (.t 18)⟩]
theorem tr6_3 : TR Tryd.f6 45 3 = some a6_3 := by kernel_rfl
def a6_4 : List AO := [⟨(some 19), none, .mv (.t 3)⟩,
  ⟨(some 20), none, .bin .eql (.t 19) (.v (.int .i64 0))⟩,
  ⟨(some 21), none, .mv (.t 20)⟩,
  ⟨(some 22), some (21, true), .fld 5 (.t 2)⟩,
  ⟨(some 23), some (21, true), .load none (.t 22)⟩,
  ⟨(some 24), some (21, true), .len (.t 23)⟩,
  ⟨(some 25), some (21, true), .bin .eql (.t 24) (.v (.int .i64 1))⟩,
  ⟨(some 26), none, .pick (.t 21) (.t 25) (.v (.bool false))⟩,
  ⟨(some 27), none, .mv (.t 26)⟩,
  ⟨(some 28), some (27, true), .fld 5 (.t 2)⟩,
  ⟨(some 29), some (27, true), .load none (.t 28)⟩,
  ⟨(some 30), some (27, true), .idx 11 (.t 29) (.v (.int .i64 0))⟩,
  ⟨(some 31), some (27, true), .fld 9 (.t 30)⟩,
  ⟨(some 32), some (27, true), .load none (.t 31)⟩,
  ⟨(some 33), some (27, true), .bin .eql (.t 32) (.v (.int .i64 8))⟩,
  ⟨(some 34), none, .pick (.t 27) (.t 33) (.v (.bool false))⟩,
  ⟨(some 35), none, .mv (.t 34)⟩,
  ⟨(some 36), some (35, true), .mv (.t 5)⟩,
  ⟨(some 37), some (35, true), .bin .eql (.t 36) (.v (.int .i64 27))⟩,
  ⟨(some 38), none, .pick (.t 35) (.t 37) (.v (.bool false))⟩,
  ⟨(some 39), none, .mv (.t 38)⟩,
  ⟨(some 40), some (39, true), .load (some 10) (.t 1)⟩,
  ⟨(some 41), some (39, true), .call 8 [(.t 40)]⟩,
  ⟨(some 42), some (39, true), .len (.t 41)⟩,
  ⟨(some 43), some (39, true), .bin .gtr (.t 42) (.v (.int .i64 0))⟩,
  ⟨(some 44), none, .pick (.t 39) (.t 43) (.v (.bool false))⟩,
  ⟨(some 0), none, .mv (.t 44)⟩]
theorem tr6_4 : TR Tryd.f6 45 4 = some a6_4 := by kernel_rfl
/-- airline/airlinelaw40.faults -/
noncomputable def c7 : Code := .seq (.region 0 (ro Tryd.f7 0) false) (.seq (.seq (.region 1 (ro Tryd.f7 1) false) (.cond (.tmp 10) (.seq (.region 2 (ro Tryd.f7 2) false) (.ret)) (.skip))) (.seq (.seq (.region 3 (ro Tryd.f7 3) false) (.block 0 (.loop (.seq (.seq (.region 4 (ro Tryd.f7 4) false) (.cond (.tmp 14) (.skip) (.exit 0))) (.seq (.block 1 (.seq (.region 6 (ro Tryd.f7 6) true) (.cond (.tmp 25) (.seq (.region 7 (ro Tryd.f7 7) false) (.ret)) (.skip)))) (.region 5 (ro Tryd.f7 5) false)))))) (.seq (.region 8 (ro Tryd.f7 8) false) (.ret))))
theorem body7 : Tryd.f7.body = some c7 := by kernel_rfl
theorem res7 : Tryd.f7.results.toList.mapM (trR Tryd.prog) = some [.t 4] := by kernel_rfl
theorem nt7 : Tryd.f7.ntmps = 26 := by kernel_rfl
theorem nm7 : (Tryd.f7.name == "runtime.NumGoroutine") = false := by kernel_rfl
def a7_0 : List AO := [⟨(some 4), none, .mv (.v (.bool false))⟩]
theorem tr7_0 : TR Tryd.f7 26 0 = some a7_0 := by kernel_rfl
def a7_1 : List AO := [⟨(some 6), none, .mv (.t 0)⟩,
  ⟨(some 7), none, .len (.t 6)⟩,
  ⟨(some 8), none, .mv (.t 1)⟩,
  ⟨(some 9), none, .len (.t 8)⟩,
  ⟨(some 10), none, .bin .neq (.t 7) (.t 9)⟩]
theorem tr7_1 : TR Tryd.f7 26 1 = some a7_1 := by kernel_rfl
def a7_2 : List AO := [⟨(some 4), none, .mv (.v (.bool false))⟩]
theorem tr7_2 : TR Tryd.f7 26 2 = some a7_2 := by kernel_rfl
def a7_3 : List AO := [⟨(some 5), none, .mv (.v (.int .i64 0))⟩]
theorem tr7_3 : TR Tryd.f7 26 3 = some a7_3 := by kernel_rfl
def a7_4 : List AO := [⟨(some 11), none, .mv (.t 5)⟩,
  ⟨(some 12), none, .mv (.t 0)⟩,
  ⟨(some 13), none, .len (.t 12)⟩,
  ⟨(some 14), none, .bin .lss (.t 11) (.t 13)⟩]
theorem tr7_4 : TR Tryd.f7 26 4 = some a7_4 := by kernel_rfl
def a7_6 : List AO := [⟨(some 17), none, .mv (.t 0)⟩,
  ⟨(some 18), none, .mv (.t 5)⟩,
  ⟨(some 19), none, .idx 2 (.t 17) (.t 18)⟩,
  ⟨(some 20), none, .load (some 2) (.t 19)⟩,
  ⟨(some 21), none, .mv (.t 1)⟩,
  ⟨(some 22), none, .mv (.t 5)⟩,
  ⟨(some 23), none, .idx 2 (.t 21) (.t 22)⟩,
  ⟨(some 24), none, .load (some 2) (.t 23)⟩,
  ⟨(some 25), none, .bina [.i .i64, .s] .neq (.t 20) (.t 24)⟩]
theorem tr7_6 : TR Tryd.f7 26 6 = some a7_6 := by kernel_rfl
def d7_6 : List (List Nat) := [[], [], [0, 1], [0, 1, 2], [], [], [4, 5], [4, 5, 6], [0, 1, 2, 3, 4, 5, 6, 7]]
theorem ok7_6 : okReg (ro Tryd.f7 6) a7_6 d7_6 = true := by kernel_rfl
def a7_7 : List AO := [⟨(some 4), none, .mv (.v (.bool false))⟩]
theorem tr7_7 : TR Tryd.f7 26 7 = some a7_7 := by kernel_rfl
def a7_5 : List AO := [⟨(some 15), none, .mv (.t 5)⟩,
  ⟨(some 16), none, .bin .add (.t 15) (.v (.int .i64 1))⟩,
  ⟨(some 5), none, .mv (.t 16)⟩]
theorem tr7_5 : TR Tryd.f7 26 5 = some a7_5 := by kernel_rfl
def a7_8 : List AO := [⟨(some 4), none, .mv (.v (.bool true))⟩]
theorem tr7_8 : TR Tryd.f7 26 8 = some a7_8 := by kernel_rfl
/-- airline/issue.Check -/
noncomputable def c8 : Code := .seq (.region 0 (ro Tryd.f8 0) false) (.seq (.region 1 (ro Tryd.f8 1) false) (.seq (.region 2 (ro Tryd.f8 2) false) (.seq (.region 3 (ro Tryd.f8 3) false) (.seq (.region 4 (ro Tryd.f8 4) false) (.seq (.region 5 (ro Tryd.f8 5) false) (.seq (.region 6 (ro Tryd.f8 6) false) (.seq (.seq (.region 7 (ro Tryd.f8 7) false) (.cond (.tmp 57) (.region 8 (ro Tryd.f8 8) false) (.region 9 (ro Tryd.f8 9) false))) (.seq (.region 10 (ro Tryd.f8 10) false) (.seq (.seq (.region 11 (ro Tryd.f8 11) false) (.block 0 (.loop (.seq (.region 12 (ro Tryd.f8 12) false) (.seq (.cond (.tmp 74) (.skip) (.exit 0)) (.seq (.block 1 (.seq (.region 13 (ro Tryd.f8 13) false) (.seq (.seq (.region 14 (ro Tryd.f8 14) false) (.cond (.tmp 86) (.seq (.region 15 (ro Tryd.f8 15) false) (.exit 1)) (.skip))) (.region 16 (ro Tryd.f8 16) false)))) (.region 17 (ro Tryd.f8 17) false))))))) (.seq (.region 18 (ro Tryd.f8 18) false) (.seq (.region 19 (ro Tryd.f8 19) false) (.seq (.region 20 (ro Tryd.f8 20) false) (.ret)))))))))))))
theorem body8 : Tryd.f8.body = some c8 := by kernel_rfl
theorem res8 : Tryd.f8.results.toList.mapM (trR Tryd.prog) = some [.t 2] := by kernel_rfl
theorem nt8 : Tryd.f8.ntmps = 111 := by kernel_rfl
theorem nm8 : (Tryd.f8.name == "runtime.NumGoroutine") = false := by kernel_rfl
def a8_0 : List AO := [⟨(some 1), none, .box 27 (.t 0)⟩,
  ⟨(some 2), none, .mv (.v .nils)⟩]
theorem tr8_0 : TR Tryd.f8 111 0 = some a8_0 := by kernel_rfl
def a8_1 : List AO := [⟨(some 10), none, .build [.nils] []⟩,
  ⟨(some 11), none, .box 48 (.t 10)⟩,
  ⟨(some 3), none, .mv (.t 11)⟩]
theorem tr8_1 : TR Tryd.f8 111 1 = some a8_1 := by kernel_rfl
def a8_2 : List AO := [⟨(some 12), none, .mv (.t 3)⟩,
  ⟨(some 13), none, .fld 0 (.t 1)⟩,
  ⟨(some 14), none, .load none (.t 13)⟩,
  ⟨(some 15), none, .call 15 [(.t 14)]⟩,
  ⟨(some 16), none, .un .not (.t 15)⟩,
  ⟨(some 17), none, .call 14 [(.t 12), (.t 16), (.v (.int .i64 2)), (.v (.str [110, 117, 109, 98, 101, 114]))]⟩]
theorem tr8_2 : TR Tryd.f8 111 2 = some a8_2 := by kernel_rfl
def a8_3 : List AO := [⟨(some 18), none, .mv (.t 3)⟩,
  ⟨(some 19), none, .fld 1 (.t 1)⟩,
  ⟨(some 20), none, .load none (.t 19)⟩,
  ⟨(some 21), none, .call 16 [(.t 20)]⟩,
  ⟨(some 22), none, .un .not (.t 21)⟩,
  ⟨(some 23), none, .call 14 [(.t 18), (.t 22), (.v (.int .i64 5)), (.v (.str [108, 111, 99, 97, 116, 111, 114]))]⟩]
theorem tr8_3 : TR Tryd.f8 111 3 = some a8_3 := by kernel_rfl
def a8_4 : List AO := [⟨(some 24), none, .mv (.t 3)⟩,
  ⟨(some 25), none, .fld 2 (.t 1)⟩,
  ⟨(some 26), none, .fld 0 (.t 25)⟩,
  ⟨(some 27), none, .load none (.t 26)⟩,
  ⟨(some 28), none, .call 17 [(.t 27)]⟩,
  ⟨(some 29), none, .un .not (.t 28)⟩,
  ⟨(some 30), none, .mv (.t 29)⟩,
  ⟨(some 31), some (30, false), .fld 2 (.t 1)⟩,
  ⟨(some 32), some (30, false), .fld 1 (.t 31)⟩,
  ⟨(some 33), some (30, false), .load none (.t 32)⟩,
  ⟨(some 34), some (30, false), .call 17 [(.t 33)]⟩,
  ⟨(some 35), some (30, false), .un .not (.t 34)⟩,
  ⟨(some 36), none, .pick (.t 30) (.v (.bool true)) (.t 35)⟩,
  ⟨(some 37), none, .mv (.t 36)⟩,
  ⟨(some 38), some (37, false), .fld 2 (.t 1)⟩,
  ⟨(some 39), some (37, false), .fld 2 (.t 38)⟩,
  ⟨(some 40), some (37, false), .load none (.t 39)⟩,
  ⟨(some 41), some (37, false), .call 18 [(.t 40), (.v (.int .i64 3)), (.v (.int .i64 3))]⟩,
  ⟨(some 42), some (37, false), .un .not (.t 41)⟩,
  ⟨(some 43), none, .pick (.t 37) (.v (.bool true)) (.t 42)⟩,
  ⟨(some 44), none, .call 14 [(.t 24), (.t 43), (.v (.int .i64 5)), (.v (.str [112, 101, 114, 115, 111, 110]))]⟩]
theorem tr8_4 : TR Tryd.f8 111 4 = some a8_4 := by kernel_rfl
def a8_5 : List AO := [⟨(some 46), none, .mv (.t 3)⟩,
  ⟨(some 47), none, .fld 5 (.t 1)⟩,
  ⟨(some 48), none, .load none (.t 47)⟩,
  ⟨(some 49), none, .call 19 [(.t 46), (.t 48)]⟩,
  ⟨(some 45), none, .mv (.t 49)⟩,
  ⟨(some 50), none, .ext 0 (.t 45)⟩,
  ⟨(some 51), none, .ext 1 (.t 45)⟩,
  ⟨(some 4), none, .mv (.t 50)⟩,
  ⟨(some 5), none, .mv (.t 51)⟩]
theorem tr8_5 : TR Tryd.f8 111 5 = some a8_5 := by kernel_rfl
def a8_6 : List AO := [⟨(some 6), none, .mv (.v (.bool true))⟩]
theorem tr8_6 : TR Tryd.f8 111 6 = some a8_6 := by kernel_rfl
def a8_7 : List AO := [⟨(some 52), none, .mv (.t 3)⟩,
  ⟨(some 53), none, .fld 6 (.t 1)⟩,
  ⟨(some 54), none, .load none (.t 53)⟩,
  ⟨(some 55), none, .call 20 [(.t 54)]⟩,
  ⟨(some 56), none, .un .not (.t 55)⟩,
  ⟨(some 57), none, .call 14 [(.t 52), (.t 56), (.v (.int .i64 11)), (.v (.str [102, 97, 114, 101]))]⟩]
theorem tr8_7 : TR Tryd.f8 111 7 = some a8_7 := by kernel_rfl
def a8_8 : List AO := [⟨(some 6), none, .mv (.v (.bool false))⟩]
theorem tr8_8 : TR Tryd.f8 111 8 = some a8_8 := by kernel_rfl
def a8_9 : List AO := [⟨(some 58), none, .mv (.t 3)⟩,
  ⟨(some 59), none, .mv (.t 5)⟩,
  ⟨(some 60), none, .mv (.t 59)⟩,
  ⟨(some 61), some (60, true), .mv (.t 4)⟩,
  ⟨(some 62), some (60, true), .fld 6 (.t 1)⟩,
  ⟨(some 63), some (60, true), .load none (.t 62)⟩,
  ⟨(some 64), some (60, true), .bin .neq (.t 61) (.t 63)⟩,
  ⟨(some 65), none, .pick (.t 60) (.t 64) (.v (.bool false))⟩,
  ⟨(some 66), none, .call 14 [(.t 58), (.t 65), (.v (.int .i64 36)), (.v (.str [102, 97, 114, 101]))]⟩]
theorem tr8_9 : TR Tryd.f8 111 9 = some a8_9 := by kernel_rfl
def a8_10 : List AO := [⟨(some 67), none, .fld 6 (.t 1)⟩,
  ⟨(some 68), none, .load none (.t 67)⟩,
  ⟨(some 7), none, .mv (.t 68)⟩]
theorem tr8_10 : TR Tryd.f8 111 10 = some a8_10 := by kernel_rfl
def a8_11 : List AO := [⟨(some 69), none, .fld 7 (.t 1)⟩,
  ⟨(some 70), none, .load none (.t 69)⟩,
  ⟨(some 71), none, .call 21 [(.t 70)]⟩,
  ⟨(some 72), none, .len (.t 71)⟩,
  ⟨(some 73), none, .mv (.v (.int .i64 0))⟩]
theorem tr8_11 : TR Tryd.f8 111 11 = some a8_11 := by kernel_rfl
def a8_12 : List AO := [⟨(some 74), none, .bin .lss (.t 73) (.t 72)⟩]
theorem tr8_12 : TR Tryd.f8 111 12 = some a8_12 := by kernel_rfl
def a8_13 : List AO := [⟨(some 75), none, .mv (.t 73)⟩,
  ⟨(some 76), none, .idx 2 (.t 71) (.t 73)⟩,
  ⟨(some 77), none, .load (some 2) (.t 76)⟩,
  ⟨(some 9), none, .alloc 57 [(.str []), (.int .i64 0)]⟩,
  ⟨(some 8), none, .mv (.t 75)⟩,
  ⟨none, none, .store 2 (.t 9) (.t 77)⟩]
theorem tr8_13 : TR Tryd.f8 111 13 = some a8_13 := by kernel_rfl
def a8_14 : List AO := [⟨(some 78), none, .mv (.t 3)⟩,
  ⟨(some 79), none, .fld 1 (.t 9)⟩,
  ⟨(some 80), none, .load none (.t 79)⟩,
  ⟨(some 81), none, .call 20 [(.t 80)]⟩,
  ⟨(some 82), none, .un .not (.t 81)⟩,
  ⟨(some 83), none, .mv (.t 8)⟩,
  ⟨(some 84), none, .call 22 [(.t 83)]⟩,
  ⟨(some 85), none, .bin .add (.v (.str [116, 97, 120, 101, 115, 46])) (.t 84)⟩,
  ⟨(some 86), none, .call 14 [(.t 78), (.t 82), (.v (.int .i64 11)), (.t 85)]⟩]
theorem tr8_14 : TR Tryd.f8 111 14 = some a8_14 := by kernel_rfl
def a8_15 : List AO := [⟨(some 6), none, .mv (.v (.bool false))⟩]
theorem tr8_15 : TR Tryd.f8 111 15 = some a8_15 := by kernel_rfl
def a8_16 : List AO := [⟨(some 87), none, .mv (.t 7)⟩,
  ⟨(some 88), none, .fld 1 (.t 9)⟩,
  ⟨(some 89), none, .load none (.t 88)⟩,
  ⟨(some 90), none, .bin .add (.t 87) (.t 89)⟩,
  ⟨(some 7), none, .mv (.t 90)⟩]
theorem tr8_16 : TR Tryd.f8 111 16 = some a8_16 := by kernel_rfl
def a8_17 : List AO := [⟨(some 91), none, .bin .add (.t 73) (.v (.int .i64 1))⟩,
  ⟨(some 73), none, .mv (.t 91)⟩]
theorem tr8_17 : TR Tryd.f8 111 17 = some a8_17 := by kernel_rfl
def a8_18 : List AO := [⟨(some 92), none, .mv (.t 3)⟩,
  ⟨(some 93), none, .mv (.t 6)⟩,
  ⟨(some 94), none, .mv (.t 93)⟩,
  ⟨(some 95), some (94, true), .mv (.t 7)⟩,
  ⟨(some 96), some (94, true), .fld 8 (.t 1)⟩,
  ⟨(some 97), some (94, true), .load none (.t 96)⟩,
  ⟨(some 98), some (94, true), .bin .neq (.t 95) (.t 97)⟩,
  ⟨(some 99), none, .pick (.t 94) (.t 98) (.v (.bool false))⟩,
  ⟨(some 100), none, .call 14 [(.t 92), (.t 99), (.v (.int .i64 36)), (.v (.str [116, 111, 116, 97, 108]))]⟩]
theorem tr8_18 : TR Tryd.f8 111 18 = some a8_18 := by kernel_rfl
def a8_19 : List AO := [⟨(some 101), none, .mv (.t 3)⟩,
  ⟨(some 102), none, .fld 9 (.t 1)⟩,
  ⟨(some 103), none, .load none (.t 102)⟩,
  ⟨(some 104), none, .call 23 [(.t 103)]⟩,
  ⟨(some 105), none, .un .not (.t 104)⟩,
  ⟨(some 106), none, .call 14 [(.t 101), (.t 105), (.v (.int .i64 12)), (.v (.str [105, 115, 115, 117, 101, 100]))]⟩]
theorem tr8_19 : TR Tryd.f8 111 19 = some a8_19 := by kernel_rfl
def a8_20 : List AO := [⟨(some 107), none, .mv (.t 3)⟩,
  ⟨(some 108), none, .nchk (.t 107)⟩,
  ⟨(some 109), none, .fld 0 (.t 108)⟩,
  ⟨(some 110), none, .load none (.t 109)⟩,
  ⟨(some 2), none, .mv (.t 110)⟩]
theorem tr8_20 : TR Tryd.f8 111 20 = some a8_20 := by kernel_rfl
/-- airline/airlineref40.Check -/
noncomputable def c9 : Code := .seq (.region 0 (ro Tryd.f9 0) false) (.seq (.region 1 (ro Tryd.f9 1) false) (.seq (.seq (.region 2 (ro Tryd.f9 2) false) (.cond (.tmp 7) (.region 3 (ro Tryd.f9 3) false) (.skip))) (.seq (.seq (.region 4 (ro Tryd.f9 4) false) (.cond (.tmp 15) (.region 5 (ro Tryd.f9 5) false) (.skip))) (.seq (.seq (.region 6 (ro Tryd.f9 6) false) (.cond (.tmp 38) (.region 7 (ro Tryd.f9 7) false) (.skip))) (.seq (.region 8 (ro Tryd.f9 8) false) (.seq (.region 9 (ro Tryd.f9 9) false) (.seq (.seq (.region 10 (ro Tryd.f9 10) false) (.cond (.tmp 59) (.region 11 (ro Tryd.f9 11) false) (.skip))) (.seq (.region 12 (ro Tryd.f9 12) false) (.ret)))))))))
theorem body9 : Tryd.f9.body = some c9 := by kernel_rfl
theorem res9 : Tryd.f9.results.toList.mapM (trR Tryd.prog) = some [.t 2] := by kernel_rfl
theorem nt9 : Tryd.f9.ntmps = 65 := by kernel_rfl
theorem nm9 : (Tryd.f9.name == "runtime.NumGoroutine") = false := by kernel_rfl
def a9_0 : List AO := [⟨(some 1), none, .box 27 (.t 0)⟩,
  ⟨(some 2), none, .mv (.v .nils)⟩]
theorem tr9_0 : TR Tryd.f9 65 0 = some a9_0 := by kernel_rfl
def a9_1 : List AO := [⟨(some 3), none, .mv (.v .nils)⟩]
theorem tr9_1 : TR Tryd.f9 65 1 = some a9_1 := by kernel_rfl
def a9_2 : List AO := [⟨(some 4), none, .fld 0 (.t 1)⟩,
  ⟨(some 5), none, .load none (.t 4)⟩,
  ⟨(some 6), none, .call 24 [(.t 5)]⟩,
  ⟨(some 7), none, .un .not (.t 6)⟩]
theorem tr9_2 : TR Tryd.f9 65 2 = some a9_2 := by kernel_rfl
def a9_3 : List AO := [⟨(some 8), none, .mv (.t 3)⟩,
  ⟨(some 9), none, .build [(.int .i64 0), (.str [])] [(0, 1, (.v (.int .i64 2))), (1, 1, (.v (.str [110, 117, 109, 98, 101, 114])))]⟩,
  ⟨(some 10), none, .slc 45 2 false [(.t 9)]⟩,
  ⟨(some 11), none, .app 45 2 24 (.t 8) (.t 10)⟩,
  ⟨(some 3), none, .mv (.t 11)⟩]
theorem tr9_3 : TR Tryd.f9 65 3 = some a9_3 := by kernel_rfl
def a9_4 : List AO := [⟨(some 12), none, .fld 1 (.t 1)⟩,
  ⟨(some 13), none, .load none (.t 12)⟩,
  ⟨(some 14), none, .call 25 [(.t 13)]⟩,
  ⟨(some 15), none, .un .not (.t 14)⟩]
theorem tr9_4 : TR Tryd.f9 65 4 = some a9_4 := by kernel_rfl
def a9_5 : List AO := [⟨(some 16), none, .mv (.t 3)⟩,
  ⟨(some 17), none, .build [(.int .i64 0), (.str [])] [(0, 1, (.v (.int .i64 5))), (1, 1, (.v (.str [108, 111, 99, 97, 116, 111, 114])))]⟩,
  ⟨(some 18), none, .slc 45 2 false [(.t 17)]⟩,
  ⟨(some 19), none, .app 45 2 24 (.t 16) (.t 18)⟩,
  ⟨(some 3), none, .mv (.t 19)⟩]
theorem tr9_5 : TR Tryd.f9 65 5 = some a9_5 := by kernel_rfl
def a9_6 : List AO := [⟨(some 20), none, .fld 2 (.t 1)⟩,
  ⟨(some 21), none, .fld 0 (.t 20)⟩,
  ⟨(some 22), none, .load none (.t 21)⟩,
  ⟨(some 23), none, .call 26 [(.t 22)]⟩,
  ⟨(some 24), none, .un .not (.t 23)⟩,
  ⟨(some 25), none, .mv (.t 24)⟩,
  ⟨(some 26), some (25, false), .fld 2 (.t 1)⟩,
  ⟨(some 27), some (25, false), .fld 1 (.t 26)⟩,
  ⟨(some 28), some (25, false), .load none (.t 27)⟩,
  ⟨(some 29), some (25, false), .call 26 [(.t 28)]⟩,
  ⟨(some 30), some (25, false), .un .not (.t 29)⟩,
  ⟨(some 31), none, .pick (.t 25) (.v (.bool true)) (.t 30)⟩,
  ⟨(some 32), none, .mv (.t 31)⟩,
  ⟨(some 33), some (32, false), .fld 2 (.t 1)⟩,
  ⟨(some 34), some (32, false), .fld 2 (.t 33)⟩,
  ⟨(some 35), some (32, false), .load none (.t 34)⟩,
  ⟨(some 36), some (32, false), .call 27 [(.t 35), (.v (.int .i64 3)), (.v (.int .i64 3))]⟩,
  ⟨(some 37), some (32, false), .un .not (.t 36)⟩,
  ⟨(some 38), none, .pick (.t 32) (.v (.bool true)) (.t 37)⟩]
theorem tr9_6 : TR Tryd.f9 65 6 = some a9_6 := by kernel_rfl
def a9_7 : List AO := [⟨(some 39), none, .mv (.t 3)⟩,
  ⟨(some 40), none, .build [(.int .i64 0), (.str [])] [(0, 1, (.v (.int .i64 5))), (1, 1, (.v (.str [112, 101, 114, 115, 111, 110])))]⟩,
  ⟨(some 41), none, .slc 45 2 false [(.t 40)]⟩,
  ⟨(some 42), none, .app 45 2 24 (.t 39) (.t 41)⟩,
  ⟨(some 3), none, .mv (.t 42)⟩]
theorem tr9_7 : TR Tryd.f9 65 7 = some a9_7 := by kernel_rfl
def a9_8 : List AO := [⟨(some 43), none, .mv (.t 3)⟩,
  ⟨(some 44), none, .fld 5 (.t 1)⟩,
  ⟨(some 45), none, .load none (.t 44)⟩,
  ⟨(some 46), none, .call 28 [(.t 45)]⟩,
  ⟨(some 47), none, .app 45 2 24 (.t 43) (.t 46)⟩,
  ⟨(some 3), none, .mv (.t 47)⟩]
theorem tr9_8 : TR Tryd.f9 65 8 = some a9_8 := by kernel_rfl
def a9_9 : List AO := [⟨(some 48), none, .mv (.t 3)⟩,
  ⟨(some 49), none, .load (some 10) (.t 1)⟩,
  ⟨(some 50), none, .call 29 [(.t 49)]⟩,
  ⟨(some 51), none, .app 45 2 24 (.t 48) (.t 50)⟩,
  ⟨(some 3), none, .mv (.t 51)⟩]
theorem tr9_9 : TR Tryd.f9 65 9 = some a9_9 := by kernel_rfl
def a9_10 : List AO := [⟨(some 52), none, .fld 9 (.t 1)⟩,
  ⟨(some 53), none, .load none (.t 52)⟩,
  ⟨(some 54), none, .bin .lss (.t 53) (.v (.int .i64 0))⟩,
  ⟨(some 55), none, .mv (.t 54)⟩,
  ⟨(some 56), some (55, false), .fld 9 (.t 1)⟩,
  ⟨(some 57), some (55, false), .load none (.t 56)⟩,
  ⟨(some 58), some (55, false), .bin .geq (.t 57) (.v (.int .i64 36525))⟩,
  ⟨(some 59), none, .pick (.t 55) (.v (.bool true)) (.t 58)⟩]
theorem tr9_10 : TR Tryd.f9 65 10 = some a9_10 := by kernel_rfl
def a9_11 : List AO := [⟨(some 60), none, .mv (.t 3)⟩,
  ⟨(some 61), none, .build [(.int .i64 0), (.str [])] [(0, 1, (.v (.int .i64 12))), (1, 1, (.v (.str [105, 115, 115, 117, 101, 100])))]⟩,
  ⟨(some 62), none, .slc 45 2 false [(.t 61)]⟩,
  ⟨(some 63), none, .app 45 2 24 (.t 60) (.t 62)⟩,
  ⟨(some 3), none, .mv (.t 63)⟩]
theorem tr9_11 : TR Tryd.f9 65 11 = some a9_11 := by kernel_rfl
def a9_12 : List AO := [⟨(some 64), none, .mv (.t 3)⟩,
  ⟨(some 2), none, .mv (.t 64)⟩]
theorem tr9_12 : TR Tryd.f9 65 12 = some a9_12 := by kernel_rfl
/-- airline/issue.Void -/
noncomputable def c10 : Code := .seq (.region 0 (ro Tryd.f10 0) false) (.seq (.block 0 (.seq (.region 1 (ro Tryd.f10 1) false) (.cond (.tmp 10) (.seq (.region 2 (ro Tryd.f10 2) false) (.ret)) (.seq (.region 3 (ro Tryd.f10 3) false) (.cond (.tmp 16) (.seq (.region 4 (ro Tryd.f10 4) false) (.ret)) (.skip)))))) (.seq (.region 5 (ro Tryd.f10 5) false) (.seq (.seq (.region 6 (ro Tryd.f10 6) false) (.block 1 (.loop (.seq (.region 7 (ro Tryd.f10 7) false) (.seq (.cond (.tmp 30) (.skip) (.exit 1)) (.seq (.block 2 (.seq (.region 8 (ro Tryd.f10 8) false) (.seq (.region 9 (ro Tryd.f10 9) false) (.seq (.seq (.region 10 (ro Tryd.f10 10) false) (.cond (.tmp 41) (.seq (.region 11 (ro Tryd.f10 11) false) (.ret)) (.skip))) (.region 12 (ro Tryd.f10 12) false))))) (.region 13 (ro Tryd.f10 13) false))))))) (.seq (.region 14 (ro Tryd.f10 14) false) (.ret)))))
theorem body10 : Tryd.f10.body = some c10 := by kernel_rfl
theorem res10 : Tryd.f10.results.toList.mapM (trR Tryd.prog) = some [.c (some 10) 4, .t 5] := by kernel_rfl
theorem nt10 : Tryd.f10.ntmps = 52 := by kernel_rfl
theorem nm10 : (Tryd.f10.name == "runtime.NumGoroutine") = false := by kernel_rfl
def a10_0 : List AO := [⟨(some 2), none, .box 27 (.t 0)⟩,
  ⟨(some 4), none, .alloc 27 [(.int .i64 0), (.str []), (.str []), (.str []), (.str []), .nils, (.int .i64 0), .nils, (.int .i64 0), (.int .i64 0)]⟩,
  ⟨(some 5), none, .mv (.v (.int .i64 0))⟩]
theorem tr10_0 : TR Tryd.f10 52 0 = some a10_0 := by kernel_rfl
def a10_1 : List AO := [⟨(some 11), none, .fld 5 (.t 2)⟩,
  ⟨(some 12), none, .load none (.t 11)⟩,
  ⟨(some 13), none, .len (.t 12)⟩,
  ⟨(some 14), none, .bin .eql (.t 13) (.v (.int .i64 0))⟩,
  ⟨(some 10), none, .mv (.t 14)⟩]
theorem tr10_1 : TR Tryd.f10 52 1 = some a10_1 := by kernel_rfl
def a10_2 : List AO := [⟨(some 15), none, .build [(.int .i64 0), (.str []), (.str []), (.str []), (.str []), .nils, (.int .i64 0), .nils, (.int .i64 0), (.int .i64 0)] []⟩,
  ⟨none, none, .store 10 (.t 4) (.t 15)⟩,
  ⟨(some 5), none, .mv (.v (.int .i64 2))⟩]
theorem tr10_2 : TR Tryd.f10 52 2 = some a10_2 := by kernel_rfl
def a10_3 : List AO := [⟨(some 17), none, .mv (.t 1)⟩,
  ⟨(some 18), none, .fld 9 (.t 2)⟩,
  ⟨(some 19), none, .load none (.t 18)⟩,
  ⟨(some 20), none, .bin .neq (.t 17) (.t 19)⟩,
  ⟨(some 16), none, .mv (.t 20)⟩]
theorem tr10_3 : TR Tryd.f10 52 3 = some a10_3 := by kernel_rfl
def a10_4 : List AO := [⟨(some 21), none, .build [(.int .i64 0), (.str []), (.str []), (.str []), (.str []), .nils, (.int .i64 0), .nils, (.int .i64 0), (.int .i64 0)] []⟩,
  ⟨none, none, .store 10 (.t 4) (.t 21)⟩,
  ⟨(some 5), none, .mv (.v (.int .i64 26))⟩]
theorem tr10_4 : TR Tryd.f10 52 4 = some a10_4 := by kernel_rfl
def a10_5 : List AO := [⟨(some 22), none, .fld 5 (.t 2)⟩,
  ⟨(some 23), none, .load none (.t 22)⟩,
  ⟨(some 24), none, .call 30 [(.t 23)]⟩,
  ⟨(some 25), none, .fld 5 (.t 2)⟩,
  ⟨none, none, .store 1 (.t 25) (.t 24)⟩]
theorem tr10_5 : TR Tryd.f10 52 5 = some a10_5 := by kernel_rfl
def a10_6 : List AO := [⟨(some 26), none, .fld 5 (.t 2)⟩,
  ⟨(some 27), none, .load none (.t 26)⟩,
  ⟨(some 28), none, .len (.t 27)⟩,
  ⟨(some 29), none, .mv (.v (.int .i64 0))⟩]
theorem tr10_6 : TR Tryd.f10 52 6 = some a10_6 := by kernel_rfl
def a10_7 : List AO := [⟨(some 30), none, .bin .lss (.t 29) (.t 28)⟩]
theorem tr10_7 : TR Tryd.f10 52 7 = some a10_7 := by kernel_rfl
def a10_8 : List AO := [⟨(some 31), none, .mv (.t 29)⟩,
  ⟨(some 32), none, .idx 11 (.t 27) (.t 29)⟩,
  ⟨(some 33), none, .load (some 11) (.t 32)⟩,
  ⟨(some 7), none, .alloc 43 [(.str []), (.int .i64 0), (.int .i64 0), (.str []), (.str []), (.int .i64 0), (.int .i64 0), (.str []), (.str []), (.int .i64 0), (.int .i64 0)]⟩,
  ⟨(some 6), none, .mv (.t 31)⟩,
  ⟨none, none, .store 11 (.t 7) (.t 33)⟩]
theorem tr10_8 : TR Tryd.f10 52 8 = some a10_8 := by kernel_rfl
def a10_9 : List AO := [⟨(some 35), none, .fld 9 (.t 7)⟩,
  ⟨(some 36), none, .load none (.t 35)⟩,
  ⟨(some 37), none, .call 31 [(.t 36), (.v (.int .i64 10))]⟩,
  ⟨(some 34), none, .mv (.t 37)⟩,
  ⟨(some 38), none, .ext 0 (.t 34)⟩,
  ⟨(some 39), none, .ext 1 (.t 34)⟩,
  ⟨(some 8), none, .mv (.t 38)⟩,
  ⟨(some 9), none, .mv (.t 39)⟩]
theorem tr10_9 : TR Tryd.f10 52 9 = some a10_9 := by kernel_rfl
def a10_10 : List AO := [⟨(some 40), none, .mv (.t 9)⟩,
  ⟨(some 41), none, .bin .neq (.t 40) (.v (.int .i64 0))⟩]
theorem tr10_10 : TR Tryd.f10 52 10 = some a10_10 := by kernel_rfl
def a10_11 : List AO := [⟨(some 42), none, .build [(.int .i64 0), (.str []), (.str []), (.str []), (.str []), .nils, (.int .i64 0), .nils, (.int .i64 0), (.int .i64 0)] []⟩,
  ⟨(some 43), none, .mv (.t 9)⟩,
  ⟨none, none, .store 10 (.t 4) (.t 42)⟩,
  ⟨(some 5), none, .mv (.t 43)⟩]
theorem tr10_11 : TR Tryd.f10 52 11 = some a10_11 := by kernel_rfl
def a10_12 : List AO := [⟨(some 44), none, .fld 5 (.t 2)⟩,
  ⟨(some 45), none, .load none (.t 44)⟩,
  ⟨(some 46), none, .mv (.t 6)⟩,
  ⟨(some 47), none, .mv (.t 8)⟩,
  ⟨(some 48), none, .idx 11 (.t 45) (.t 46)⟩,
  ⟨(some 49), none, .fld 9 (.t 48)⟩,
  ⟨none, none, .store 1 (.t 49) (.t 47)⟩]
theorem tr10_12 : TR Tryd.f10 52 12 = some a10_12 := by kernel_rfl
def a10_13 : List AO := [⟨(some 50), none, .bin .add (.t 29) (.v (.int .i64 1))⟩,
  ⟨(some 29), none, .mv (.t 50)⟩]
theorem tr10_13 : TR Tryd.f10 52 13 = some a10_13 := by kernel_rfl
def a10_14 : List AO := [⟨(some 51), none, .load (some 10) (.t 2)⟩,
  ⟨none, none, .store 10 (.t 4) (.t 51)⟩,
  ⟨(some 5), none, .mv (.v (.int .i64 0))⟩]
theorem tr10_14 : TR Tryd.f10 52 14 = some a10_14 := by kernel_rfl
/-- airline/airlineref40.Void -/
noncomputable def c11 : Code := .seq (.region 0 (ro Tryd.f11 0) false) (.seq (.seq (.region 1 (ro Tryd.f11 1) false) (.cond (.tmp 14) (.seq (.region 2 (ro Tryd.f11 2) false) (.ret)) (.skip))) (.seq (.seq (.region 3 (ro Tryd.f11 3) false) (.cond (.tmp 19) (.seq (.region 4 (ro Tryd.f11 4) false) (.ret)) (.skip))) (.seq (.region 5 (ro Tryd.f11 5) false) (.seq (.seq (.region 6 (ro Tryd.f11 6) false) (.block 0 (.loop (.seq (.seq (.region 7 (ro Tryd.f11 7) false) (.cond (.tmp 25) (.skip) (.exit 0))) (.seq (.block 1 (.seq (.region 9 (ro Tryd.f11 9) false) (.seq (.region 10 (ro Tryd.f11 10) false) (.seq (.seq (.region 11 (ro Tryd.f11 11) false) (.cond (.tmp 40) (.seq (.region 12 (ro Tryd.f11 12) false) (.ret)) (.skip))) (.seq (.region 13 (ro Tryd.f11 13) false) (.region 14 (ro Tryd.f11 14) false)))))) (.region 8 (ro Tryd.f11 8) false)))))) (.seq (.region 15 (ro Tryd.f11 15) false) (.seq (.region 16 (ro Tryd.f11 16) false) (.ret)))))))
theorem body11 : Tryd.f11.body = some c11 := by kernel_rfl
theorem res11 : Tryd.f11.results.toList.mapM (trR Tryd.prog) = some [.c (some 10) 4, .t 5] := by kernel_rfl
theorem nt11 : Tryd.f11.ntmps = 52 := by kernel_rfl
theorem nm11 : (Tryd.f11.name == "runtime.NumGoroutine") = false := by kernel_rfl
def a11_0 : List AO := [⟨(some 2), none, .box 27 (.t 0)⟩,
  ⟨(some 4), none, .alloc 27 [(.int .i64 0), (.str []), (.str []), (.str []), (.str []), .nils, (.int .i64 0), .nils, (.int .i64 0), (.int .i64 0)]⟩,
  ⟨(some 5), none, .mv (.v (.int .i64 0))⟩]
theorem tr11_0 : TR Tryd.f11 52 0 = some a11_0 := by kernel_rfl
def a11_1 : List AO := [⟨(some 11), none, .fld 5 (.t 2)⟩,
  ⟨(some 12), none, .load none (.t 11)⟩,
  ⟨(some 13), none, .len (.t 12)⟩,
  ⟨(some 14), none, .bin .eql (.t 13) (.v (.int .i64 0))⟩]
theorem tr11_1 : TR Tryd.f11 52 1 = some a11_1 := by kernel_rfl
def a11_2 : List AO := [⟨(some 15), none, .build [(.int .i64 0), (.str []), (.str []), (.str []), (.str []), .nils, (.int .i64 0), .nils, (.int .i64 0), (.int .i64 0)] []⟩,
  ⟨none, none, .store 10 (.t 4) (.t 15)⟩,
  ⟨(some 5), none, .mv (.v (.int .i64 2))⟩]
theorem tr11_2 : TR Tryd.f11 52 2 = some a11_2 := by kernel_rfl
def a11_3 : List AO := [⟨(some 16), none, .mv (.t 1)⟩,
  ⟨(some 17), none, .fld 9 (.t 2)⟩,
  ⟨(some 18), none, .load none (.t 17)⟩,
  ⟨(some 19), none, .bin .neq (.t 16) (.t 18)⟩]
theorem tr11_3 : TR Tryd.f11 52 3 = some a11_3 := by kernel_rfl
def a11_4 : List AO := [⟨(some 20), none, .build [(.int .i64 0), (.str []), (.str []), (.str []), (.str []), .nils, (.int .i64 0), .nils, (.int .i64 0), (.int .i64 0)] []⟩,
  ⟨none, none, .store 10 (.t 4) (.t 20)⟩,
  ⟨(some 5), none, .mv (.v (.int .i64 26))⟩]
theorem tr11_4 : TR Tryd.f11 52 4 = some a11_4 := by kernel_rfl
def a11_5 : List AO := [⟨(some 6), none, .mv (.v .nils)⟩]
theorem tr11_5 : TR Tryd.f11 52 5 = some a11_5 := by kernel_rfl
def a11_6 : List AO := [⟨(some 7), none, .mv (.v (.int .i64 0))⟩]
theorem tr11_6 : TR Tryd.f11 52 6 = some a11_6 := by kernel_rfl
def a11_7 : List AO := [⟨(some 21), none, .mv (.t 7)⟩,
  ⟨(some 22), none, .fld 5 (.t 2)⟩,
  ⟨(some 23), none, .load none (.t 22)⟩,
  ⟨(some 24), none, .len (.t 23)⟩,
  ⟨(some 25), none, .bin .lss (.t 21) (.t 24)⟩]
theorem tr11_7 : TR Tryd.f11 52 7 = some a11_7 := by kernel_rfl
def a11_9 : List AO := [⟨(some 28), none, .fld 5 (.t 2)⟩,
  ⟨(some 29), none, .load none (.t 28)⟩,
  ⟨(some 30), none, .mv (.t 7)⟩,
  ⟨(some 31), none, .idx 11 (.t 29) (.t 30)⟩,
  ⟨(some 32), none, .load (some 11) (.t 31)⟩,
  ⟨(some 8), none, .alloc 43 [(.str []), (.int .i64 0), (.int .i64 0), (.str []), (.str []), (.int .i64 0), (.int .i64 0), (.str []), (.str []), (.int .i64 0), (.int .i64 0)]⟩,
  ⟨none, none, .store 11 (.t 8) (.t 32)⟩]
theorem tr11_9 : TR Tryd.f11 52 9 = some a11_9 := by kernel_rfl
def a11_10 : List AO := [⟨(some 34), none, .fld 9 (.t 8)⟩,
  ⟨(some 35), none, .load none (.t 34)⟩,
  ⟨(some 36), none, .call 32 [(.t 35), (.v (.int .i64 10))]⟩,
  ⟨(some 33), none, .mv (.t 36)⟩,
  ⟨(some 37), none, .ext 0 (.t 33)⟩,
  ⟨(some 38), none, .ext 1 (.t 33)⟩,
  ⟨(some 9), none, .mv (.t 37)⟩,
  ⟨(some 10), none, .mv (.t 38)⟩]
theorem tr11_10 : TR Tryd.f11 52 10 = some a11_10 := by kernel_rfl
def a11_11 : List AO := [⟨(some 39), none, .mv (.t 10)⟩,
  ⟨(some 40), none, .bin .neq (.t 39) (.v (.int .i64 0))⟩]
theorem tr11_11 : TR Tryd.f11 52 11 = some a11_11 := by kernel_rfl
def a11_12 : List AO := [⟨(some 41), none, .build [(.int .i64 0), (.str []), (.str []), (.str []), (.str []), .nils, (.int .i64 0), .nils, (.int .i64 0), (.int .i64 0)] []⟩,
  ⟨(some 42), none, .mv (.t 10)⟩,
  ⟨none, none, .store 10 (.t 4) (.t 41)⟩,
  ⟨(some 5), none, .mv (.t 42)⟩]
theorem tr11_12 : TR Tryd.f11 52 12 = some a11_12 := by kernel_rfl
def a11_13 : List AO := [⟨(some 43), none, .mv (.t 9)⟩,
  ⟨(some 44), none, .fld 9 (.t 8)⟩,
  ⟨none, none, .store 1 (.t 44) (.t 43)⟩]
theorem tr11_13 : TR Tryd.f11 52 13 = some a11_13 := by kernel_rfl
def a11_14 : List AO := [⟨(some 45), none, .mv (.t 6)⟩,
  ⟨(some 46), none, .load (some 11) (.t 8)⟩,
  ⟨(some 47), none, .slc 43 11 false [(.t 46)]⟩,
  ⟨(some 48), none, .app 43 11 128 (.t 45) (.t 47)⟩,
  ⟨(some 6), none, .mv (.t 48)⟩]
theorem tr11_14 : TR Tryd.f11 52 14 = some a11_14 := by kernel_rfl
def a11_8 : List AO := [⟨(some 26), none, .mv (.t 7)⟩,
  ⟨(some 27), none, .bin .add (.t 26) (.v (.int .i64 1))⟩,
  ⟨(some 7), none, .mv (.t 27)⟩]
theorem tr11_8 : TR Tryd.f11 52 8 = some a11_8 := by kernel_rfl
def a11_15 : List AO := [⟨(some 49), none, .mv (.t 6)⟩,
  ⟨(some 50), none, .fld 5 (.t 2)⟩,
  ⟨none, none, .store 1 (.t 50) (.t 49)⟩]
theorem tr11_15 : TR Tryd.f11 52 15 = some a11_15 := by kernel_rfl
def a11_16 : List AO := [⟨(some 51), none, .load (some 10) (.t 2)⟩,
  ⟨none, none, .store 10 (.t 4) (.t 51)⟩,
  ⟨(some 5), none, .mv (.v (.int .i64 0))⟩]
theorem tr11_16 : TR Tryd.f11 52 16 = some a11_16 := by kernel_rfl
/-- airline/airlineref40.Same -/
noncomputable def c12 : Code := .seq (.region 0 (ro Tryd.f12 0) false) (.seq (.seq (.region 1 (ro Tryd.f12 1) false) (.cond (.tmp 64) (.seq (.region 2 (ro Tryd.f12 2) false) (.ret)) (.skip))) (.seq (.seq (.region 3 (ro Tryd.f12 3) false) (.block 0 (.loop (.seq (.seq (.region 4 (ro Tryd.f12 4) false) (.cond (.tmp 69) (.skip) (.exit 0))) (.seq (.block 1 (.seq (.region 6 (ro Tryd.f12 6) true) (.cond (.tmp 82) (.seq (.region 7 (ro Tryd.f12 7) false) (.ret)) (.skip)))) (.region 5 (ro Tryd.f12 5) false)))))) (.seq (.seq (.region 8 (ro Tryd.f12 8) false) (.block 2 (.loop (.seq (.seq (.region 9 (ro Tryd.f12 9) false) (.cond (.tmp 87) (.skip) (.exit 2))) (.seq (.block 3 (.seq (.region 11 (ro Tryd.f12 11) true) (.cond (.tmp 100) (.seq (.region 12 (ro Tryd.f12 12) false) (.ret)) (.skip)))) (.region 10 (ro Tryd.f12 10) false)))))) (.seq (.region 13 (ro Tryd.f12 13) false) (.ret)))))
theorem body12 : Tryd.f12.body = some c12 := by kernel_rfl
theorem res12 : Tryd.f12.results.toList.mapM (trR Tryd.prog) = some [.t 4] := by kernel_rfl
theorem nt12 : Tryd.f12.ntmps = 101 := by kernel_rfl
theorem nm12 : (Tryd.f12.name == "runtime.NumGoroutine") = false := by kernel_rfl
def a12_0 : List AO := [⟨(some 2), none, .box 27 (.t 0)⟩,
  ⟨(some 3), none, .box 27 (.t 1)⟩,
  ⟨(some 4), none, .mv (.v (.bool false))⟩]
theorem tr12_0 : TR Tryd.f12 101 0 = some a12_0 := by kernel_rfl
def a12_1 : List AO := [⟨(some 7), none, .fld 0 (.t 2)⟩,
  ⟨(some 8), none, .load none (.t 7)⟩,
  ⟨(some 9), none, .fld 0 (.t 3)⟩,
  ⟨(some 10), none, .load none (.t 9)⟩,
  ⟨(some 11), none, .bin .neq (.t 8) (.t 10)⟩,
  ⟨(some 12), none, .mv (.t 11)⟩,
  ⟨(some 13), some (12, false), .fld 1 (.t 2)⟩,
  ⟨(some 14), some (12, false), .load none (.t 13)⟩,
  ⟨(some 15), some (12, false), .fld 1 (.t 3)⟩,
  ⟨(some 16), some (12, false), .load none (.t 15)⟩,
  ⟨(some 17), some (12, false), .bin .neq (.t 14) (.t 16)⟩,
  ⟨(some 18), none, .pick (.t 12) (.v (.bool true)) (.t 17)⟩,
  ⟨(some 19), none, .mv (.t 18)⟩,
  ⟨(some 20), some (19, false), .fld 2 (.t 2)⟩,
  ⟨(some 21), some (19, false), .load (some 3) (.t 20)⟩,
  ⟨(some 22), some (19, false), .fld 2 (.t 3)⟩,
  ⟨(some 23), some (19, false), .load (some 3) (.t 22)⟩,
  ⟨(some 24), some (19, false), .bina [.s, .s, .s] .neq (.t 21) (.t 23)⟩,
  ⟨(some 25), none, .pick (.t 19) (.v (.bool true)) (.t 24)⟩,
  ⟨(some 26), none, .mv (.t 25)⟩,
  ⟨(some 27), some (26, false), .fld 6 (.t 2)⟩,
  ⟨(some 28), some (26, false), .load none (.t 27)⟩,
  ⟨(some 29), some (26, false), .fld 6 (.t 3)⟩,
  ⟨(some 30), some (26, false), .load none (.t 29)⟩,
  ⟨(some 31), some (26, false), .bin .neq (.t 28) (.t 30)⟩,
  ⟨(some 32), none, .pick (.t 26) (.v (.bool true)) (.t 31)⟩,
  ⟨(some 33), none, .mv (.t 32)⟩,
  ⟨(some 34), some (33, false), .fld 8 (.t 2)⟩,
  ⟨(some 35), some (33, false), .load none (.t 34)⟩,
  ⟨(some 36), some (33, false), .fld 8 (.t 3)⟩,
  ⟨(some 37), some (33, false), .load none (.t 36)⟩,
  ⟨(some 38), some (33, false), .bin .neq (.t 35) (.t 37)⟩,
  ⟨(some 39), none, .pick (.t 33) (.v (.bool true)) (.t 38)⟩,
  ⟨(some 40), none, .mv (.t 39)⟩,
  ⟨(some 41), some (40, false), .fld 9 (.t 2)⟩,
  ⟨(some 42), some (40, false), .load none (.t 41)⟩,
  ⟨(some 43), some (40, false), .fld 9 (.t 3)⟩,
  ⟨(some 44), some (40, false), .load none (.t 43)⟩,
  ⟨(some 45), some (40, false), .bin .neq (.t 42) (.t 44)⟩,
  ⟨(some 46), none, .pick (.t 40) (.v (.bool true)) (.t 45)⟩,
  ⟨(some 47), none, .mv (.t 46)⟩,
  ⟨(some 48), some (47, false), .fld 5 (.t 2)⟩,
  ⟨(some 49), some (47, false), .load none (.t 48)⟩,
  ⟨(some 50), some (47, false), .len (.t 49)⟩,
  ⟨(some 51), some (47, false), .fld 5 (.t 3)⟩,
  ⟨(some 52), some (47, false), .load none (.t 51)⟩,
  ⟨(some 53), some (47, false), .len (.t 52)⟩,
  ⟨(some 54), some (47, false), .bin .neq (.t 50) (.t 53)⟩,
  ⟨(some 55), none, .pick (.t 47) (.v (.bool true)) (.t 54)⟩,
  ⟨(some 56), none, .mv (.t 55)⟩,
  ⟨(some 57), some (56, false), .fld 7 (.t 2)⟩,
  ⟨(some 58), some (56, false), .load none (.t 57)⟩,
  ⟨(some 59), some (56, false), .len (.t 58)⟩,
  ⟨(some 60), some (56, false), .fld 7 (.t 3)⟩,
  ⟨(some 61), some (56, false), .load none (.t 60)⟩,
  ⟨(some 62), some (56, false), .len (.t 61)⟩,
  ⟨(some 63), some (56, false), .bin .neq (.t 59) (.t 62)⟩,
  ⟨(some 64), none, .pick (.t 56) (.v (.bool true)) (.t 63)⟩]
theorem tr12_1 : TR Tryd.f12 101 1 = some a12_1 := by kernel_rfl
def a12_2 : List AO := [⟨(some 4), none, .mv (.v (.bool false))⟩]
theorem tr12_2 : TR Tryd.f12 101 2 = some a12_2 := by kernel_rfl
def a12_3 : List AO := [⟨(some 5), none, .mv (.v (.int .i64 0))⟩]
theorem tr12_3 : TR Tryd.f12 101 3 = some a12_3 := by kernel_rfl
def a12_4 : List AO := [⟨(some 65), none, .mv (.t 5)⟩,
  ⟨(some 66), none, .fld 5 (.t 2)⟩,
  ⟨(some 67), none, .load none (.t 66)⟩,
  ⟨(some 68), none, .len (.t 67)⟩,
  ⟨(some 69), none, .bin .lss (.t 65) (.t 68)⟩]
theorem tr12_4 : TR Tryd.f12 101 4 = some a12_4 := by kernel_rfl
def a12_6 : List AO := [⟨(some 72), none, .fld 5 (.t 2)⟩,
  ⟨(some 73), none, .load none (.t 72)⟩,
  ⟨(some 74), none, .mv (.t 5)⟩,
  ⟨(some 75), none, .idx 11 (.t 73) (.t 74)⟩,
  ⟨(some 76), none, .load (some 11) (.t 75)⟩,
  ⟨(some 77), none, .fld 5 (.t 3)⟩,
  ⟨(some 78), none, .load none (.t 77)⟩,
  ⟨(some 79), none, .mv (.t 5)⟩,
  ⟨(some 80), none, .idx 11 (.t 78) (.t 79)⟩,
  ⟨(some 81), none, .load (some 11) (.t 80)⟩,
  ⟨(some 82), none, .bina [.s, .i .i64, .i .i64, .s, .s, .i .i64, .i .i64, .s, .s, .i .i64, .i .i64] .neq (.t 76) (.t 81)⟩]
theorem tr12_6 : TR Tryd.f12 101 6 = some a12_6 := by kernel_rfl
def d12_6 : List (List Nat) := [[], [0], [], [0, 1, 2], [0, 1, 2, 3], [], [5], [], [5, 6, 7], [5, 6, 7, 8], [0, 1, 2, 3, 4, 5, 6, 7, 8, 9]]
theorem ok12_6 : okReg (ro Tryd.f12 6) a12_6 d12_6 = true := by kernel_rfl
def a12_7 : List AO := [⟨(some 4), none, .mv (.v (.bool false))⟩]
theorem tr12_7 : TR Tryd.f12 101 7 = some a12_7 := by kernel_rfl
def a12_5 : List AO := [⟨(some 70), none, .mv (.t 5)⟩,
  ⟨(some 71), none, .bin .add (.t 70) (.v (.int .i64 1))⟩,
  ⟨(some 5), none, .mv (.t 71)⟩]
theorem tr12_5 : TR Tryd.f12 101 5 = some a12_5 := by kernel_rfl
def a12_8 : List AO := [⟨(some 6), none, .mv (.v (.int .i64 0))⟩]
theorem tr12_8 : TR Tryd.f12 101 8 = some a12_8 := by kernel_rfl
def a12_9 : List AO := [⟨(some 83), none, .mv (.t 6)⟩,
  ⟨(some 84), none, .fld 7 (.t 2)⟩,
  ⟨(some 85), none, .load none (.t 84)⟩,
  ⟨(some 86), none, .len (.t 85)⟩,
  ⟨(some 87), none, .bin .lss (.t 83) (.t 86)⟩]
theorem tr12_9 : TR Tryd.f12 101 9 = some a12_9 := by kernel_rfl
def a12_11 : List AO := [⟨(some 90), none, .fld 7 (.t 2)⟩,
  ⟨(some 91), none, .load none (.t 90)⟩,
  ⟨(some 92), none, .mv (.t 6)⟩,
  ⟨(some 93), none, .idx 2 (.t 91) (.t 92)⟩,
  ⟨(some 94), none, .load (some 2) (.t 93)⟩,
  ⟨(some 95), none, .fld 7 (.t 3)⟩,
  ⟨(some 96), none, .load none (.t 95)⟩,
  ⟨(some 97), none, .mv (.t 6)⟩,
  ⟨(some 98), none, .idx 2 (.t 96) (.t 97)⟩,
  ⟨(some 99), none, .load (some 2) (.t 98)⟩,
  ⟨(some 100), none, .bina [.s, .i .i64] .neq (.t 94) (.t 99)⟩]
theorem tr12_11 : TR Tryd.f12 101 11 = some a12_11 := by kernel_rfl
def d12_11 : List (List Nat) := [[], [0], [], [0, 1, 2], [0, 1, 2, 3], [], [5], [], [5, 6, 7], [5, 6, 7, 8], [0, 1, 2, 3, 4, 5, 6, 7, 8, 9]]
theorem ok12_11 : okReg (ro Tryd.f12 11) a12_11 d12_11 = true := by kernel_rfl
def a12_12 : List AO := [⟨(some 4), none, .mv (.v (.bool false))⟩]
theorem tr12_12 : TR Tryd.f12 101 12 = some a12_12 := by kernel_rfl
def a12_10 : List AO := [⟨(some 88), none, .mv (.t 6)⟩,
  ⟨(some 89), none, .bin .add (.t 88) (.v (.int .i64 1))⟩,
  ⟨(some 6), none, .mv (.t 89)⟩]
theorem tr12_10 : TR Tryd.f12 101 10 = some a12_10 := by kernel_rfl
def a12_13 : List AO := [⟨(some 4), none, .mv (.v (.bool true))⟩]
theorem tr12_13 : TR Tryd.f12 101 13 = some a12_13 := by kernel_rfl
/-- airline/issue.Same -/
noncomputable def c13 : Code := .seq (.region 0 (ro Tryd.f13 0) false) (.seq (.region 1 (ro Tryd.f13 1) false) (.ret))
theorem body13 : Tryd.f13.body = some c13 := by kernel_rfl
theorem res13 : Tryd.f13.results.toList.mapM (trR Tryd.prog) = some [.t 4] := by kernel_rfl
theorem nt13 : Tryd.f13.ntmps = 59 := by kernel_rfl
theorem nm13 : (Tryd.f13.name == "runtime.NumGoroutine") = false := by kernel_rfl
def a13_0 : List AO := [⟨(some 2), none, .box 27 (.t 0)⟩,
  ⟨(some 3), none, .box 27 (.t 1)⟩,
  ⟨(some 4), none, .mv (.v (.bool false))⟩]
theorem tr13_0 : TR Tryd.f13 59 0 = some a13_0 := by kernel_rfl
def a13_1 : List AO := [⟨(some 5), none, .fld 0 (.t 2)⟩,
  ⟨(some 6), none, .load none (.t 5)⟩,
  ⟨(some 7), none, .fld 0 (.t 3)⟩,
  ⟨(some 8), none, .load none (.t 7)⟩,
  ⟨(some 9), none, .bin .eql (.t 6) (.t 8)⟩,
  ⟨(some 10), none, .mv (.t 9)⟩,
  ⟨(some 11), some (10, true), .fld 1 (.t 2)⟩,
  ⟨(some 12), some (10, true), .load none (.t 11)⟩,
  ⟨(some 13), some (10, true), .fld 1 (.t 3)⟩,
  ⟨(some 14), some (10, true), .load none (.t 13)⟩,
  ⟨(some 15), some (10, true), .bin .eql (.t 12) (.t 14)⟩,
  ⟨(some 16), none, .pick (.t 10) (.t 15) (.v (.bool false))⟩,
  ⟨(some 17), none, .mv (.t 16)⟩,
  ⟨(some 18), some (17, true), .fld 2 (.t 2)⟩,
  ⟨(some 19), some (17, true), .load (some 3) (.t 18)⟩,
  ⟨(some 20), some (17, true), .fld 2 (.t 3)⟩,
  ⟨(some 21), some (17, true), .load (some 3) (.t 20)⟩,
  ⟨(some 22), some (17, true), .bina [.s, .s, .s] .eql (.t 19) (.t 21)⟩,
  ⟨(some 23), none, .pick (.t 17) (.t 22) (.v (.bool false))⟩,
  ⟨(some 24), none, .mv (.t 23)⟩,
  ⟨(some 25), some (24, true), .fld 5 (.t 2)⟩,
  ⟨(some 26), some (24, true), .load none (.t 25)⟩,
  ⟨(some 27), some (24, true), .fld 5 (.t 3)⟩,
  ⟨(some 28), some (24, true), .load none (.t 27)⟩,
  ⟨(some 29), some (24, true), .call 33 [(.t 26), (.t 28)]⟩,
  ⟨(some 30), none, .pick (.t 24) (.t 29) (.v (.bool false))⟩,
  ⟨(some 31), none, .mv (.t 30)⟩,
  ⟨(some 32), some (31, true), .fld 6 (.t 2)⟩,
  ⟨(some 33), some (31, true), .load none (.t 32)⟩,
  ⟨(some 34), some (31, true), .fld 6 (.t 3)⟩,
  ⟨(some 35), some (31, true), .load none (.t 34)⟩,
  ⟨(some 36), some (31, true), .bin .eql (.t 33) (.t 35)⟩,
  ⟨(some 37), none, .pick (.t 31) (.t 36) (.v (.bool false))⟩,
  ⟨(some 38), none, .mv (.t 37)⟩,
  ⟨(some 39), some (38, true), .fld 7 (.t 2)⟩,
  ⟨(some 40), some (38, true), .load none (.t 39)⟩,
  ⟨(some 41), some (38, true), .fld 7 (.t 3)⟩,
  ⟨(some 42), some (38, true), .load none (.t 41)⟩,
  ⟨(some 43), some (38, true), .call 34 [(.t 40), (.t 42)]⟩,
  ⟨(some 44), none, .pick (.t 38) (.t 43) (.v (.bool false))⟩,
  ⟨(some 45), none, .mv (.t 44)⟩,
  ⟨(some 46), some (45, true), .fld 8 (.t 2)⟩,
  ⟨(some 47), some (45, true), .load none (.t 46)⟩,
  ⟨(some 48), some (45, true), .fld 8 (.t 3)⟩,
  ⟨(some 49), some (45, true), .load none (.t 48)⟩,
  ⟨(some 50), some (45, true), .bin .eql (.t 47) (.t 49)⟩,
  ⟨(some 51), none, .pick (.t 45) (.t 50) (.v (.bool false))⟩,
  ⟨(some 52), none, .mv (.t 51)⟩,
  ⟨(some 53), some (52, true), .fld 9 (.t 2)⟩,
  ⟨(some 54), some (52, true), .load none (.t 53)⟩,
  ⟨(some 55), some (52, true), .fld 9 (.t 3)⟩,
  ⟨(some 56), some (52, true), .load none (.t 55)⟩,
  ⟨(some 57), some (52, true), .bin .eql (.t 54) (.t 56)⟩,
  ⟨(some 58), none, .pick (.t 52) (.t 57) (.v (.bool false))⟩,
  ⟨(some 4), none, .mv (.t 58)⟩]
theorem tr13_1 : TR Tryd.f13 59 1 = some a13_1 := by kernel_rfl
/-- (*airline/issue.faults).add -/
noncomputable def c14 : Code := .seq (.region 0 (ro Tryd.f14 0) false) (.seq (.seq (.region 1 (ro Tryd.f14 1) false) (.cond (.tmp 9) (.region 2 (ro Tryd.f14 2) false) (.skip))) (.seq (.region 3 (ro Tryd.f14 3) false) (.ret)))
theorem body14 : Tryd.f14.body = some c14 := by kernel_rfl
theorem res14 : Tryd.f14.results.toList.mapM (trR Tryd.prog) = some [.t 8] := by kernel_rfl
theorem nt14 : Tryd.f14.ntmps = 23 := by kernel_rfl
theorem nm14 : (Tryd.f14.name == "runtime.NumGoroutine") = false := by kernel_rfl
def a14_0 : List AO := [⟨(some 8), none, .mv (.v (.bool false))⟩]
theorem tr14_0 : TR Tryd.f14 23 0 = some a14_0 := by kernel_rfl
def a14_1 : List AO := [⟨(some 9), none, .mv (.t 1)⟩]
theorem tr14_1 : TR Tryd.f14 23 1 = some a14_1 := by kernel_rfl
def a14_2 : List AO := [⟨(some 10), none, .mv (.t 0)⟩,
  ⟨(some 11), none, .mv (.t 0)⟩,
  ⟨(some 12), none, .nchk (.t 11)⟩,
  ⟨(some 13), none, .fld 0 (.t 12)⟩,
  ⟨(some 14), none, .load none (.t 13)⟩,
  ⟨(some 15), none, .mv (.t 2)⟩,
  ⟨(some 16), none, .mv (.t 3)⟩,
  ⟨(some 17), none, .build [(.int .i64 0), (.str [])] [(0, 1, (.t 15)), (1, 1, (.t 16))]⟩,
  ⟨(some 18), none, .slc 45 2 false [(.t 17)]⟩,
  ⟨(some 19), none, .app 45 2 24 (.t 14) (.t 18)⟩,
  ⟨(some 20), none, .nchk (.t 10)⟩,
  ⟨(some 21), none, .fld 0 (.t 20)⟩,
  ⟨none, none, .store 1 (.t 21) (.t 19)⟩]
theorem tr14_2 : TR Tryd.f14 23 2 = some a14_2 := by kernel_rfl
def a14_3 : List AO := [⟨(some 22), none, .mv (.t 1)⟩,
  ⟨(some 8), none, .mv (.t 22)⟩]
theorem tr14_3 : TR Tryd.f14 23 3 = some a14_3 := by kernel_rfl
/-- airline/docnum.Right -/
noncomputable def c15 : Code := .seq (.region 0 (ro Tryd.f15 0) false) (.seq (.region 1 (ro Tryd.f15 1) false) (.seq (.region 2 (ro Tryd.f15 2) false) (.ret)))
theorem body15 : Tryd.f15.body = some c15 := by kernel_rfl
theorem res15 : Tryd.f15.results.toList.mapM (trR Tryd.prog) = some [.t 2] := by kernel_rfl
theorem nt15 : Tryd.f15.ntmps = 13 := by kernel_rfl
theorem nm15 : (Tryd.f15.name == "runtime.NumGoroutine") = false := by kernel_rfl
def a15_0 : List AO := [⟨(some 2), none, .mv (.v (.bool false))⟩]
theorem tr15_0 : TR Tryd.f15 13 0 = some a15_0 := by kernel_rfl
def a15_1 : List AO := [⟨(some 7), none, .mv (.t 0)⟩,
  ⟨(some 8), none, .call 35 [(.t 7)]⟩,
  ⟨(some 6), none, .mv (.t 8)⟩,
  ⟨(some 9), none, .ext 0 (.t 6)⟩,
  ⟨(some 10), none, .ext 1 (.t 6)⟩,
  ⟨(some 11), none, .ext 2 (.t 6)⟩,
  ⟨(some 3), none, .mv (.t 9)⟩,
  ⟨(some 4), none, .mv (.t 10)⟩,
  ⟨(some 5), none, .mv (.t 11)⟩]
theorem tr15_1 : TR Tryd.f15 13 1 = some a15_1 := by kernel_rfl
def a15_2 : List AO := [⟨(some 12), none, .mv (.t 5)⟩,
  ⟨(some 2), none, .mv (.t 12)⟩]
theorem tr15_2 : TR Tryd.f15 13 2 = some a15_2 := by kernel_rfl
/-- airline/locator.Right -/
noncomputable def c16 : Code := .seq (.region 0 (ro Tryd.f16 0) false) (.seq (.region 1 (ro Tryd.f16 1) false) (.seq (.region 2 (ro Tryd.f16 2) false) (.ret)))
theorem body16 : Tryd.f16.body = some c16 := by kernel_rfl
theorem res16 : Tryd.f16.results.toList.mapM (trR Tryd.prog) = some [.t 2] := by kernel_rfl
theorem nt16 : Tryd.f16.ntmps = 12 := by kernel_rfl
theorem nm16 : (Tryd.f16.name == "runtime.NumGoroutine") = false := by kernel_rfl
def a16_0 : List AO := [⟨(some 2), none, .mv (.v (.bool false))⟩]
theorem tr16_0 : TR Tryd.f16 12 0 = some a16_0 := by kernel_rfl
def a16_1 : List AO := [⟨(some 6), none, .mv (.t 0)⟩,
  ⟨(some 7), none, .call 36 [(.t 6)]⟩,
  ⟨(some 5), none, .mv (.t 7)⟩,
  ⟨(some 8), none, .ext 0 (.t 5)⟩,
  ⟨(some 9), none, .ext 1 (.t 5)⟩,
  ⟨(some 3), none, .mv (.t 8)⟩,
  ⟨(some 4), none, .mv (.t 9)⟩]
theorem tr16_1 : TR Tryd.f16 12 1 = some a16_1 := by kernel_rfl
def a16_2 : List AO := [⟨(some 10), none, .mv (.t 4)⟩,
  ⟨(some 11), none, .bin .eql (.t 10) (.v (.int .i64 0))⟩,
  ⟨(some 2), none, .mv (.t 11)⟩]
theorem tr16_2 : TR Tryd.f16 12 2 = some a16_2 := by kernel_rfl
/-- airline/text.Name -/
noncomputable def c17 : Code := .seq (.region 0 (ro Tryd.f17 0) false) (.seq (.seq (.region 1 (ro Tryd.f17 1) false) (.cond (.tmp 7) (.seq (.region 2 (ro Tryd.f17 2) false) (.ret)) (.skip))) (.seq (.seq (.region 3 (ro Tryd.f17 3) false) (.block 0 (.loop (.seq (.region 4 (ro Tryd.f17 4) false) (.seq (.cond (.tmp 12) (.skip) (.exit 0)) (.seq (.block 1 (.seq (.region 5 (ro Tryd.f17 5) false) (.seq (.region 6 (ro Tryd.f17 6) false) (.cond (.tmp 21) (.seq (.region 7 (ro Tryd.f17 7) false) (.ret)) (.skip))))) (.region 8 (ro Tryd.f17 8) false))))))) (.seq (.region 9 (ro Tryd.f17 9) false) (.ret))))
theorem body17 : Tryd.f17.body = some c17 := by kernel_rfl
theorem res17 : Tryd.f17.results.toList.mapM (trR Tryd.prog) = some [.t 2] := by kernel_rfl
theorem nt17 : Tryd.f17.ntmps = 23 := by kernel_rfl
theorem nm17 : (Tryd.f17.name == "runtime.NumGoroutine") = false := by kernel_rfl
def a17_0 : List AO := [⟨(some 2), none, .mv (.v (.bool false))⟩]
theorem tr17_0 : TR Tryd.f17 23 0 = some a17_0 := by kernel_rfl
def a17_1 : List AO := [⟨(some 5), none, .mv (.t 0)⟩,
  ⟨(some 6), none, .slen (.t 5)⟩,
  ⟨(some 7), none, .bin .gtr (.t 6) (.v (.int .i64 30))⟩]
theorem tr17_1 : TR Tryd.f17 23 1 = some a17_1 := by kernel_rfl
def a17_2 : List AO := [⟨(some 2), none, .mv (.v (.bool false))⟩]
theorem tr17_2 : TR Tryd.f17 23 2 = some a17_2 := by kernel_rfl
def a17_3 : List AO := [⟨(some 8), none, .mv (.t 0)⟩,
  ⟨(some 9), none, .call 37 [(.t 8), (.v (.str [32]))]⟩,
  ⟨(some 10), none, .len (.t 9)⟩,
  ⟨(some 11), none, .mv (.v (.int .i64 0))⟩]
theorem tr17_3 : TR Tryd.f17 23 3 = some a17_3 := by kernel_rfl
def a17_4 : List AO := [⟨(some 12), none, .bin .lss (.t 11) (.t 10)⟩]
theorem tr17_4 : TR Tryd.f17 23 4 = some a17_4 := by kernel_rfl
def a17_5 : List AO := [⟨(some 13), none, .idx 1 (.t 9) (.t 11)⟩,
  ⟨(some 14), none, .load none (.t 13)⟩,
  ⟨(some 4), none, .mv (.t 14)⟩]
theorem tr17_5 : TR Tryd.f17 23 5 = some a17_5 := by kernel_rfl
def a17_6 : List AO := [⟨(some 15), none, .mv (.t 4)⟩,
  ⟨(some 16), none, .bin .eql (.t 15) (.v (.str []))⟩,
  ⟨(some 17), none, .mv (.t 16)⟩,
  ⟨(some 18), some (17, false), .mv (.t 4)⟩,
  ⟨(some 19), some (17, false), .call 38 [(.t 18), (.v (.fn 39 []))]⟩,
  ⟨(some 20), some (17, false), .un .not (.t 19)⟩,
  ⟨(some 21), none, .pick (.t 17) (.v (.bool true)) (.t 20)⟩]
theorem tr17_6 : TR Tryd.f17 23 6 = some a17_6 := by kernel_rfl
def a17_7 : List AO := [⟨(some 2), none, .mv (.v (.bool false))⟩]
theorem tr17_7 : TR Tryd.f17 23 7 = some a17_7 := by kernel_rfl
def a17_8 : List AO := [⟨(some 22), none, .bin .add (.t 11) (.v (.int .i64 1))⟩,
  ⟨(some 11), none, .mv (.t 22)⟩]
theorem tr17_8 : TR Tryd.f17 23 8 = some a17_8 := by kernel_rfl
def a17_9 : List AO := [⟨(some 2), none, .mv (.v (.bool true))⟩]
theorem tr17_9 : TR Tryd.f17 23 9 = some a17_9 := by kernel_rfl
/-- airline/text.Code -/
noncomputable def c18 : Code := .seq (.region 0 (ro Tryd.f18 0) false) (.seq (.region 1 (ro Tryd.f18 1) false) (.ret))
theorem body18 : Tryd.f18.body = some c18 := by kernel_rfl
theorem res18 : Tryd.f18.results.toList.mapM (trR Tryd.prog) = some [.t 6] := by kernel_rfl
theorem nt18 : Tryd.f18.ntmps = 21 := by kernel_rfl
theorem nm18 : (Tryd.f18.name == "runtime.NumGoroutine") = false := by kernel_rfl
def a18_0 : List AO := [⟨(some 6), none, .mv (.v (.bool false))⟩]
theorem tr18_0 : TR Tryd.f18 21 0 = some a18_0 := by kernel_rfl
def a18_1 : List AO := [⟨(some 7), none, .mv (.t 0)⟩,
  ⟨(some 8), none, .slen (.t 7)⟩,
  ⟨(some 9), none, .mv (.t 1)⟩,
  ⟨(some 10), none, .bin .geq (.t 8) (.t 9)⟩,
  ⟨(some 11), none, .mv (.t 10)⟩,
  ⟨(some 12), some (11, true), .mv (.t 0)⟩,
  ⟨(some 13), some (11, true), .slen (.t 12)⟩,
  ⟨(some 14), some (11, true), .mv (.t 2)⟩,
  ⟨(some 15), some (11, true), .bin .leq (.t 13) (.t 14)⟩,
  ⟨(some 16), none, .pick (.t 11) (.t 15) (.v (.bool false))⟩,
  ⟨(some 17), none, .mv (.t 16)⟩,
  ⟨(some 18), some (17, true), .mv (.t 0)⟩,
  ⟨(some 19), some (17, true), .call 38 [(.t 18), (.v (.fn 40 []))]⟩,
  ⟨(some 20), none, .pick (.t 17) (.t 19) (.v (.bool false))⟩,
  ⟨(some 6), none, .mv (.t 20)⟩]
theorem tr18_1 : TR Tryd.f18 21 1 = some a18_1 := by kernel_rfl
/-- (*airline/issue.faults).coupons -/
noncomputable def c19 : Code := .seq (.region 0 (ro Tryd.f19 0) false) (.seq (.region 1 (ro Tryd.f19 1) false) (.seq (.region 2 (ro Tryd.f19 2) false) (.seq (.seq (.region 3 (ro Tryd.f19 3) false) (.block 0 (.loop (.seq (.region 4 (ro Tryd.f19 4) false) (.seq (.cond (.tmp 25) (.skip) (.exit 0)) (.seq (.block 1 (.seq (.region 5 (ro Tryd.f19 5) false) (.seq (.region 6 (ro Tryd.f19 6) false) (.seq (.region 7 (ro Tryd.f19 7) false) (.seq (.region 8 (ro Tryd.f19 8) false) (.seq (.seq (.region 9 (ro Tryd.f19 9) false) (.cond (.tmp 57) (.seq (.region 10 (ro Tryd.f19 10) false) (.exit 1)) (.skip))) (.region 11 (ro Tryd.f19 11) false))))))) (.region 12 (ro Tryd.f19 12) false))))))) (.seq (.region 13 (ro Tryd.f19 13) false) (.ret)))))
theorem body19 : Tryd.f19.body = some c19 := by kernel_rfl
theorem res19 : Tryd.f19.results.toList.mapM (trR Tryd.prog) = some [.t 4, .t 5] := by kernel_rfl
theorem nt19 : Tryd.f19.ntmps = 65 := by kernel_rfl
theorem nm19 : (Tryd.f19.name == "runtime.NumGoroutine") = false := by kernel_rfl
def a19_0 : List AO := [⟨(some 4), none, .mv (.v (.int .i64 0))⟩,
  ⟨(some 5), none, .mv (.v (.bool false))⟩]
theorem tr19_0 : TR Tryd.f19 65 0 = some a19_0 := by kernel_rfl
def a19_1 : List AO := [⟨(some 11), none, .mv (.t 0)⟩,
  ⟨(some 12), none, .mv (.t 1)⟩,
  ⟨(some 13), none, .len (.t 12)⟩,
  ⟨(some 14), none, .bin .lss (.t 13) (.v (.int .i64 1))⟩,
  ⟨(some 15), none, .mv (.t 14)⟩,
  ⟨(some 16), some (15, false), .mv (.t 1)⟩,
  ⟨(some 17), some (15, false), .len (.t 16)⟩,
  ⟨(some 18), some (15, false), .bin .gtr (.t 17) (.v (.int .i64 6))⟩,
  ⟨(some 19), none, .pick (.t 15) (.v (.bool true)) (.t 18)⟩,
  ⟨(some 20), none, .call 14 [(.t 11), (.t 19), (.v (.int .i64 4)), (.v (.str [99, 111, 117, 112, 111, 110, 115]))]⟩]
theorem tr19_1 : TR Tryd.f19 65 1 = some a19_1 := by kernel_rfl
def a19_2 : List AO := [⟨(some 6), none, .mv (.v (.int .i64 0))⟩,
  ⟨(some 7), none, .mv (.v (.bool true))⟩]
theorem tr19_2 : TR Tryd.f19 65 2 = some a19_2 := by kernel_rfl
def a19_3 : List AO := [⟨(some 21), none, .mv (.t 1)⟩,
  ⟨(some 22), none, .call 42 [(.t 21)]⟩,
  ⟨(some 23), none, .len (.t 22)⟩,
  ⟨(some 24), none, .mv (.v (.int .i64 0))⟩]
theorem tr19_3 : TR Tryd.f19 65 3 = some a19_3 := by kernel_rfl
def a19_4 : List AO := [⟨(some 25), none, .bin .lss (.t 24) (.t 23)⟩]
theorem tr19_4 : TR Tryd.f19 65 4 = some a19_4 := by kernel_rfl
def a19_5 : List AO := [⟨(some 26), none, .mv (.t 24)⟩,
  ⟨(some 27), none, .idx 11 (.t 22) (.t 24)⟩,
  ⟨(some 28), none, .load (some 11) (.t 27)⟩,
  ⟨(some 9), none, .alloc 43 [(.str []), (.int .i64 0), (.int .i64 0), (.str []), (.str []), (.int .i64 0), (.int .i64 0), (.str []), (.str []), (.int .i64 0), (.int .i64 0)]⟩,
  ⟨(some 8), none, .mv (.t 26)⟩,
  ⟨none, none, .store 11 (.t 9) (.t 28)⟩]
theorem tr19_5 : TR Tryd.f19 65 5 = some a19_5 := by kernel_rfl
def a19_6 : List AO := [⟨(some 29), none, .mv (.t 8)⟩,
  ⟨(some 30), none, .call 22 [(.t 29)]⟩,
  ⟨(some 31), none, .bin .add (.v (.str [99, 111, 117, 112, 111, 110, 115, 46])) (.t 30)⟩,
  ⟨(some 10), none, .mv (.t 31)⟩]
theorem tr19_6 : TR Tryd.f19 65 6 = some a19_6 := by kernel_rfl
def a19_7 : List AO := [⟨(some 32), none, .mv (.t 0)⟩,
  ⟨(some 33), none, .fld 9 (.t 9)⟩,
  ⟨(some 34), none, .load none (.t 33)⟩,
  ⟨(some 35), none, .bin .lss (.t 34) (.v (.int .i64 1))⟩,
  ⟨(some 36), none, .mv (.t 35)⟩,
  ⟨(some 37), some (36, false), .fld 9 (.t 9)⟩,
  ⟨(some 38), some (36, false), .load none (.t 37)⟩,
  ⟨(some 39), some (36, false), .bin .gtr (.t 38) (.v (.int .i64 8))⟩,
  ⟨(some 40), none, .pick (.t 36) (.v (.bool true)) (.t 39)⟩,
  ⟨(some 41), none, .mv (.t 10)⟩,
  ⟨(some 42), none, .call 14 [(.t 32), (.t 40), (.v (.int .i64 8)), (.t 41)]⟩]
theorem tr19_7 : TR Tryd.f19 65 7 = some a19_7 := by kernel_rfl
def a19_8 : List AO := [⟨(some 43), none, .mv (.t 0)⟩,
  ⟨(some 44), none, .fld 0 (.t 9)⟩,
  ⟨(some 45), none, .fld 7 (.t 44)⟩,
  ⟨(some 46), none, .load none (.t 45)⟩,
  ⟨(some 47), none, .call 43 [(.t 46)]⟩,
  ⟨(some 48), none, .un .not (.t 47)⟩,
  ⟨(some 49), none, .mv (.t 10)⟩,
  ⟨(some 50), none, .call 14 [(.t 43), (.t 48), (.v (.int .i64 16)), (.t 49)]⟩]
theorem tr19_8 : TR Tryd.f19 65 8 = some a19_8 := by kernel_rfl
def a19_9 : List AO := [⟨(some 51), none, .mv (.t 0)⟩,
  ⟨(some 52), none, .fld 10 (.t 9)⟩,
  ⟨(some 53), none, .load none (.t 52)⟩,
  ⟨(some 54), none, .call 20 [(.t 53)]⟩,
  ⟨(some 55), none, .un .not (.t 54)⟩,
  ⟨(some 56), none, .mv (.t 10)⟩,
  ⟨(some 57), none, .call 14 [(.t 51), (.t 55), (.v (.int .i64 11)), (.t 56)]⟩]
theorem tr19_9 : TR Tryd.f19 65 9 = some a19_9 := by kernel_rfl
def a19_10 : List AO := [⟨(some 7), none, .mv (.v (.bool false))⟩]
theorem tr19_10 : TR Tryd.f19 65 10 = some a19_10 := by kernel_rfl
def a19_11 : List AO := [⟨(some 58), none, .mv (.t 6)⟩,
  ⟨(some 59), none, .fld 10 (.t 9)⟩,
  ⟨(some 60), none, .load none (.t 59)⟩,
  ⟨(some 61), none, .bin .add (.t 58) (.t 60)⟩,
  ⟨(some 6), none, .mv (.t 61)⟩]
theorem tr19_11 : TR Tryd.f19 65 11 = some a19_11 := by kernel_rfl
def a19_12 : List AO := [⟨(some 62), none, .bin .add (.t 24) (.v (.int .i64 1))⟩,
  ⟨(some 24), none, .mv (.t 62)⟩]
theorem tr19_12 : TR Tryd.f19 65 12 = some a19_12 := by kernel_rfl
def a19_13 : List AO := [⟨(some 63), none, .mv (.t 6)⟩,
  ⟨(some 64), none, .mv (.t 7)⟩,
  ⟨(some 4), none, .mv (.t 63)⟩,
  ⟨(some 5), none, .mv (.t 64)⟩]
theorem tr19_13 : TR Tryd.f19 65 13 = some a19_13 := by kernel_rfl
/-- airline/issue.amount -/
noncomputable def c20 : Code := .seq (.region 0 (ro Tryd.f20 0) false) (.seq (.region 1 (ro Tryd.f20 1) false) (.ret))
theorem body20 : Tryd.f20.body = some c20 := by kernel_rfl
theorem res20 : Tryd.f20.results.toList.mapM (trR Tryd.prog) = some [.t 2] := by kernel_rfl
theorem nt20 : Tryd.f20.ntmps = 9 := by kernel_rfl
theorem nm20 : (Tryd.f20.name == "runtime.NumGoroutine") = false := by kernel_rfl
def a20_0 : List AO := [⟨(some 2), none, .mv (.v (.bool false))⟩]
theorem tr20_0 : TR Tryd.f20 9 0 = some a20_0 := by kernel_rfl
def a20_1 : List AO := [⟨(some 3), none, .mv (.t 0)⟩,
  ⟨(some 4), none, .bin .geq (.t 3) (.v (.int .i64 0))⟩,
  ⟨(some 5), none, .mv (.t 4)⟩,
  ⟨(some 6), some (5, true), .mv (.t 0)⟩,
  ⟨(some 7), some (5, true), .bin .leq (.t 6) (.v (.int .i64 1099511627776))⟩,
  ⟨(some 8), none, .pick (.t 5) (.t 7) (.v (.bool false))⟩,
  ⟨(some 2), none, .mv (.t 8)⟩]
theorem tr20_1 : TR Tryd.f20 9 1 = some a20_1 := by kernel_rfl
/-- airline/issue.first[airline/api.Charge] -/
noncomputable def c21 : Code := .seq (.region 0 (ro Tryd.f21 0) false) (.seq (.region 1 (ro Tryd.f21 1) false) (.ret))
theorem body21 : Tryd.f21.body = some c21 := by kernel_rfl
theorem res21 : Tryd.f21.results.toList.mapM (trR Tryd.prog) = some [.t 2] := by kernel_rfl
theorem nt21 : Tryd.f21.ntmps = 8 := by kernel_rfl
theorem nm21 : (Tryd.f21.name == "runtime.NumGoroutine") = false := by kernel_rfl
def a21_0 : List AO := [⟨(some 2), none, .mv (.v .nils)⟩]
theorem tr21_0 : TR Tryd.f21 8 0 = some a21_0 := by kernel_rfl
def a21_1 : List AO := [⟨(some 3), none, .mv (.t 0)⟩,
  ⟨(some 4), none, .mv (.t 0)⟩,
  ⟨(some 5), none, .len (.t 4)⟩,
  ⟨(some 6), none, .mn (.t 5) (.v (.int .i64 1024))⟩,
  ⟨(some 7), none, .sub 2 none (some (.t 6)) none (.t 3)⟩,
  ⟨(some 2), none, .mv (.t 7)⟩]
theorem tr21_1 : TR Tryd.f21 8 1 = some a21_1 := by kernel_rfl
/-- airline/issue.day -/
noncomputable def c23 : Code := .seq (.region 0 (ro Tryd.f23 0) false) (.seq (.region 1 (ro Tryd.f23 1) false) (.ret))
theorem body23 : Tryd.f23.body = some c23 := by kernel_rfl
theorem res23 : Tryd.f23.results.toList.mapM (trR Tryd.prog) = some [.t 2] := by kernel_rfl
theorem nt23 : Tryd.f23.ntmps = 9 := by kernel_rfl
theorem nm23 : (Tryd.f23.name == "runtime.NumGoroutine") = false := by kernel_rfl
def a23_0 : List AO := [⟨(some 2), none, .mv (.v (.bool false))⟩]
theorem tr23_0 : TR Tryd.f23 9 0 = some a23_0 := by kernel_rfl
def a23_1 : List AO := [⟨(some 3), none, .mv (.t 0)⟩,
  ⟨(some 4), none, .bin .geq (.t 3) (.v (.int .i64 0))⟩,
  ⟨(some 5), none, .mv (.t 4)⟩,
  ⟨(some 6), some (5, true), .mv (.t 0)⟩,
  ⟨(some 7), some (5, true), .bin .lss (.t 6) (.v (.int .i64 36525))⟩,
  ⟨(some 8), none, .pick (.t 5) (.t 7) (.v (.bool false))⟩,
  ⟨(some 2), none, .mv (.t 8)⟩]
theorem tr23_1 : TR Tryd.f23 9 1 = some a23_1 := by kernel_rfl
/-- airline/airlineref37.Right -/
noncomputable def c24 : Code := .seq (.region 0 (ro Tryd.f24 0) false) (.seq (.seq (.region 1 (ro Tryd.f24 1) false) (.cond (.tmp 6) (.seq (.region 2 (ro Tryd.f24 2) false) (.ret)) (.skip))) (.seq (.region 3 (ro Tryd.f24 3) false) (.seq (.region 4 (ro Tryd.f24 4) false) (.ret))))
theorem body24 : Tryd.f24.body = some c24 := by kernel_rfl
theorem res24 : Tryd.f24.results.toList.mapM (trR Tryd.prog) = some [.t 2] := by kernel_rfl
theorem nt24 : Tryd.f24.ntmps = 24 := by kernel_rfl
theorem nm24 : (Tryd.f24.name == "runtime.NumGoroutine") = false := by kernel_rfl
def a24_0 : List AO := [⟨(some 2), none, .mv (.v (.bool false))⟩]
theorem tr24_0 : TR Tryd.f24 24 0 = some a24_0 := by kernel_rfl
def a24_1 : List AO := [⟨(some 5), none, .mv (.t 0)⟩,
  ⟨(some 6), none, .bin .lss (.t 5) (.v (.int .i64 0))⟩]
theorem tr24_1 : TR Tryd.f24 24 1 = some a24_1 := by kernel_rfl
def a24_2 : List AO := [⟨(some 2), none, .mv (.v (.bool false))⟩]
theorem tr24_2 : TR Tryd.f24 24 2 = some a24_2 := by kernel_rfl
def a24_3 : List AO := [⟨(some 8), none, .mv (.t 0)⟩,
  ⟨(some 9), none, .bin .quo (.t 8) (.v (.int .i64 10))⟩,
  ⟨(some 10), none, .bin .quo (.t 9) (.v (.int .i64 10000000000))⟩,
  ⟨(some 11), none, .mv (.t 0)⟩,
  ⟨(some 12), none, .bin .quo (.t 11) (.v (.int .i64 10))⟩,
  ⟨(some 13), none, .bin .rem (.t 12) (.v (.int .i64 10000000000))⟩,
  ⟨(some 14), none, .call 45 [(.t 10), (.t 13)]⟩,
  ⟨(some 7), none, .mv (.t 14)⟩,
  ⟨(some 15), none, .ext 0 (.t 7)⟩,
  ⟨(some 16), none, .ext 1 (.t 7)⟩,
  ⟨(some 3), none, .mv (.t 15)⟩,
  ⟨(some 4), none, .mv (.t 16)⟩]
theorem tr24_3 : TR Tryd.f24 24 3 = some a24_3 := by kernel_rfl
def a24_4 : List AO := [⟨(some 17), none, .mv (.t 4)⟩,
  ⟨(some 18), none, .bin .eql (.t 17) (.v (.int .i64 0))⟩,
  ⟨(some 19), none, .mv (.t 18)⟩,
  ⟨(some 20), some (19, true), .mv (.t 3)⟩,
  ⟨(some 21), some (19, true), .mv (.t 0)⟩,
  ⟨(some 22), some (19, true), .bin .eql (.t 20) (.t 21)⟩,
  ⟨(some 23), none, .pick (.t 19) (.t 22) (.v (.bool false))⟩,
  ⟨(some 2), none, .mv (.t 23)⟩]
theorem tr24_4 : TR Tryd.f24 24 4 = some a24_4 := by kernel_rfl
/-- airline/airlineref34.Right -/
noncomputable def c25 : Code := .seq (.region 0 (ro Tryd.f25 0) false) (.seq (.region 1 (ro Tryd.f25 1) false) (.seq (.region 2 (ro Tryd.f25 2) false) (.ret)))
theorem body25 : Tryd.f25.body = some c25 := by kernel_rfl
theorem res25 : Tryd.f25.results.toList.mapM (trR Tryd.prog) = some [.t 2] := by kernel_rfl
theorem nt25 : Tryd.f25.ntmps = 12 := by kernel_rfl
theorem nm25 : (Tryd.f25.name == "runtime.NumGoroutine") = false := by kernel_rfl
def a25_0 : List AO := [⟨(some 2), none, .mv (.v (.bool false))⟩]
theorem tr25_0 : TR Tryd.f25 12 0 = some a25_0 := by kernel_rfl
def a25_1 : List AO := [⟨(some 6), none, .mv (.t 0)⟩,
  ⟨(some 7), none, .call 46 [(.t 6)]⟩,
  ⟨(some 5), none, .mv (.t 7)⟩,
  ⟨(some 8), none, .ext 0 (.t 5)⟩,
  ⟨(some 9), none, .ext 1 (.t 5)⟩,
  ⟨(some 3), none, .mv (.t 8)⟩,
  ⟨(some 4), none, .mv (.t 9)⟩]
theorem tr25_1 : TR Tryd.f25 12 1 = some a25_1 := by kernel_rfl
def a25_2 : List AO := [⟨(some 10), none, .mv (.t 4)⟩,
  ⟨(some 11), none, .bin .eql (.t 10) (.v (.int .i64 0))⟩,
  ⟨(some 2), none, .mv (.t 11)⟩]
theorem tr25_2 : TR Tryd.f25 12 2 = some a25_2 := by kernel_rfl
/-- airline/airlineref01.Name -/
noncomputable def c26 : Code := .seq (.region 0 (ro Tryd.f26 0) false) (.seq (.seq (.region 1 (ro Tryd.f26 1) false) (.cond (.tmp 24) (.seq (.region 2 (ro Tryd.f26 2) false) (.ret)) (.skip))) (.seq (.seq (.region 3 (ro Tryd.f26 3) false) (.block 0 (.loop (.seq (.seq (.region 4 (ro Tryd.f26 4) false) (.cond (.tmp 28) (.skip) (.exit 0))) (.seq (.block 1 (.seq (.region 6 (ro Tryd.f26 6) false) (.cond (.tmp 48) (.seq (.region 7 (ro Tryd.f26 7) false) (.ret)) (.skip)))) (.region 5 (ro Tryd.f26 5) false)))))) (.seq (.region 8 (ro Tryd.f26 8) false) (.ret))))
theorem body26 : Tryd.f26.body = some c26 := by kernel_rfl
theorem res26 : Tryd.f26.results.toList.mapM (trR Tryd.prog) = some [.t 2] := by kernel_rfl
theorem nt26 : Tryd.f26.ntmps = 49 := by kernel_rfl
theorem nm26 : (Tryd.f26.name == "runtime.NumGoroutine") = false := by kernel_rfl
def a26_0 : List AO := [⟨(some 2), none, .mv (.v (.bool false))⟩]
theorem tr26_0 : TR Tryd.f26 49 0 = some a26_0 := by kernel_rfl
def a26_1 : List AO := [⟨(some 4), none, .mv (.t 0)⟩,
  ⟨(some 5), none, .slen (.t 4)⟩,
  ⟨(some 6), none, .bin .lss (.t 5) (.v (.int .i64 1))⟩,
  ⟨(some 7), none, .mv (.t 6)⟩,
  ⟨(some 8), some (7, false), .mv (.t 0)⟩,
  ⟨(some 9), some (7, false), .slen (.t 8)⟩,
  ⟨(some 10), some (7, false), .bin .gtr (.t 9) (.v (.int .i64 30))⟩,
  ⟨(some 11), none, .pick (.t 7) (.v (.bool true)) (.t 10)⟩,
  ⟨(some 12), none, .mv (.t 11)⟩,
  ⟨(some 13), some (12, false), .mv (.t 0)⟩,
  ⟨(some 14), some (12, false), .sidx (.t 13) (.v (.int .i64 0))⟩,
  ⟨(some 15), some (12, false), .bin .eql (.t 14) (.v (.int .u8 32))⟩,
  ⟨(some 16), none, .pick (.t 12) (.v (.bool true)) (.t 15)⟩,
  ⟨(some 17), none, .mv (.t 16)⟩,
  ⟨(some 18), some (17, false), .mv (.t 0)⟩,
  ⟨(some 19), some (17, false), .mv (.t 0)⟩,
  ⟨(some 20), some (17, false), .slen (.t 19)⟩,
  ⟨(some 21), some (17, false), .bin .sub (.t 20) (.v (.int .i64 1))⟩,
  ⟨(some 22), some (17, false), .sidx (.t 18) (.t 21)⟩,
  ⟨(some 23), some (17, false), .bin .eql (.t 22) (.v (.int .u8 32))⟩,
  ⟨(some 24), none, .pick (.t 17) (.v (.bool true)) (.t 23)⟩]
theorem tr26_1 : TR Tryd.f26 49 1 = some a26_1 := by kernel_rfl
def a26_2 : List AO := [⟨(some 2), none, .mv (.v (.bool false))⟩]
theorem tr26_2 : TR Tryd.f26 49 2 = some a26_2 := by kernel_rfl
def a26_3 : List AO := [⟨(some 3), none, .mv (.v (.int .i64 0))⟩]
theorem tr26_3 : TR Tryd.f26 49 3 = some a26_3 := by kernel_rfl
def a26_4 : List AO := [⟨(some 25), none, .mv (.t 3)⟩,
  ⟨(some 26), none, .mv (.t 0)⟩,
  ⟨(some 27), none, .slen (.t 26)⟩,
  ⟨(some 28), none, .bin .lss (.t 25) (.t 27)⟩]
theorem tr26_4 : TR Tryd.f26 49 4 = some a26_4 := by kernel_rfl
def a26_6 : List AO := [⟨(some 31), none, .mv (.t 0)⟩,
  ⟨(some 32), none, .mv (.t 3)⟩,
  ⟨(some 33), none, .sidx (.t 31) (.t 32)⟩,
  ⟨(some 34), none, .call 47 [(.t 33)]⟩,
  ⟨(some 35), none, .un .not (.t 34)⟩,
  ⟨(some 36), none, .mv (.t 35)⟩,
  ⟨(some 37), some (36, true), .mv (.t 0)⟩,
  ⟨(some 38), some (36, true), .mv (.t 3)⟩,
  ⟨(some 39), some (36, true), .sidx (.t 37) (.t 38)⟩,
  ⟨(some 40), some (36, true), .bin .neq (.t 39) (.v (.int .u8 32))⟩,
  ⟨(some 41), some (36, true), .mv (.t 40)⟩,
  ⟨(some 42), some (41, false), .mv (.t 0)⟩,
  ⟨(some 43), some (41, false), .mv (.t 3)⟩,
  ⟨(some 44), some (41, false), .bin .sub (.t 43) (.v (.int .i64 1))⟩,
  ⟨(some 45), some (41, false), .sidx (.t 42) (.t 44)⟩,
  ⟨(some 46), some (41, false), .bin .eql (.t 45) (.v (.int .u8 32))⟩,
  ⟨(some 47), some (36, true), .pick (.t 41) (.v (.bool true)) (.t 46)⟩,
  ⟨(some 48), none, .pick (.t 36) (.t 47) (.v (.bool false))⟩]
theorem tr26_6 : TR Tryd.f26 49 6 = some a26_6 := by kernel_rfl
def a26_7 : List AO := [⟨(some 2), none, .mv (.v (.bool false))⟩]
theorem tr26_7 : TR Tryd.f26 49 7 = some a26_7 := by kernel_rfl
def a26_5 : List AO := [⟨(some 29), none, .mv (.t 3)⟩,
  ⟨(some 30), none, .bin .add (.t 29) (.v (.int .i64 1))⟩,
  ⟨(some 3), none, .mv (.t 30)⟩]
theorem tr26_5 : TR Tryd.f26 49 5 = some a26_5 := by kernel_rfl
def a26_8 : List AO := [⟨(some 2), none, .mv (.v (.bool true))⟩]
theorem tr26_8 : TR Tryd.f26 49 8 = some a26_8 := by kernel_rfl
/-- airline/airlineref01.Code -/
noncomputable def c27 : Code := .seq (.region 0 (ro Tryd.f27 0) false) (.seq (.seq (.region 1 (ro Tryd.f27 1) false) (.block 0 (.loop (.seq (.seq (.region 2 (ro Tryd.f27 2) false) (.cond (.tmp 11) (.skip) (.exit 0))) (.seq (.block 1 (.seq (.region 4 (ro Tryd.f27 4) false) (.cond (.tmp 25) (.seq (.region 5 (ro Tryd.f27 5) false) (.ret)) (.skip)))) (.region 3 (ro Tryd.f27 3) false)))))) (.seq (.region 6 (ro Tryd.f27 6) false) (.ret)))
theorem body27 : Tryd.f27.body = some c27 := by kernel_rfl
theorem res27 : Tryd.f27.results.toList.mapM (trR Tryd.prog) = some [.t 6] := by kernel_rfl
theorem nt27 : Tryd.f27.ntmps = 36 := by kernel_rfl
theorem nm27 : (Tryd.f27.name == "runtime.NumGoroutine") = false := by kernel_rfl
def a27_0 : List AO := [⟨(some 6), none, .mv (.v (.bool false))⟩]
theorem tr27_0 : TR Tryd.f27 36 0 = some a27_0 := by kernel_rfl
def a27_1 : List AO := [⟨(some 7), none, .mv (.v (.int .i64 0))⟩]
theorem tr27_1 : TR Tryd.f27 36 1 = some a27_1 := by kernel_rfl
def a27_2 : List AO := [⟨(some 8), none, .mv (.t 7)⟩,
  ⟨(some 9), none, .mv (.t 0)⟩,
  ⟨(some 10), none, .slen (.t 9)⟩,
  ⟨(some 11), none, .bin .lss (.t 8) (.t 10)⟩]
theorem tr27_2 : TR Tryd.f27 36 2 = some a27_2 := by kernel_rfl
def a27_4 : List AO := [⟨(some 14), none, .mv (.t 0)⟩,
  ⟨(some 15), none, .mv (.t 7)⟩,
  ⟨(some 16), none, .sidx (.t 14) (.t 15)⟩,
  ⟨(some 17), none, .call 47 [(.t 16)]⟩,
  ⟨(some 18), none, .un .not (.t 17)⟩,
  ⟨(some 19), none, .mv (.t 18)⟩,
  ⟨(some 20), some (19, true), .mv (.t 0)⟩,
  ⟨(some 21), some (19, true), .mv (.t 7)⟩,
  ⟨(some 22), some (19, true), .sidx (.t 20) (.t 21)⟩,
  ⟨(some 23), some (19, true), .call 48 [(.t 22)]⟩,
  ⟨(some 24), some (19, true), .un .not (.t 23)⟩,
  ⟨(some 25), none, .pick (.t 19) (.t 24) (.v (.bool false))⟩]
theorem tr27_4 : TR Tryd.f27 36 4 = some a27_4 := by kernel_rfl
def a27_5 : List AO := [⟨(some 6), none, .mv (.v (.bool false))⟩]
theorem tr27_5 : TR Tryd.f27 36 5 = some a27_5 := by kernel_rfl
def a27_3 : List AO := [⟨(some 12), none, .mv (.t 7)⟩,
  ⟨(some 13), none, .bin .add (.t 12) (.v (.int .i64 1))⟩,
  ⟨(some 7), none, .mv (.t 13)⟩]
theorem tr27_3 : TR Tryd.f27 36 3 = some a27_3 := by kernel_rfl
def a27_6 : List AO := [⟨(some 26), none, .mv (.t 0)⟩,
  ⟨(some 27), none, .slen (.t 26)⟩,
  ⟨(some 28), none, .mv (.t 1)⟩,
  ⟨(some 29), none, .bin .geq (.t 27) (.t 28)⟩,
  ⟨(some 30), none, .mv (.t 29)⟩,
  ⟨(some 31), some (30, true), .mv (.t 0)⟩,
  ⟨(some 32), some (30, true), .slen (.t 31)⟩,
  ⟨(some 33), some (30, true), .mv (.t 2)⟩,
  ⟨(some 34), some (30, true), .bin .leq (.t 32) (.t 33)⟩,
  ⟨(some 35), none, .pick (.t 30) (.t 34) (.v (.bool false))⟩,
  ⟨(some 6), none, .mv (.t 35)⟩]
theorem tr27_6 : TR Tryd.f27 36 6 = some a27_6 := by kernel_rfl
/-- airline/airlineref40.coupons -/
noncomputable def c28 : Code := .seq (.region 0 (ro Tryd.f28 0) false) (.seq (.region 1 (ro Tryd.f28 1) false) (.seq (.seq (.region 2 (ro Tryd.f28 2) false) (.cond (.tmp 13) (.region 3 (ro Tryd.f28 3) false) (.skip))) (.seq (.seq (.region 4 (ro Tryd.f28 4) false) (.block 0 (.loop (.seq (.seq (.region 5 (ro Tryd.f28 5) false) (.cond (.tmp 25) (.skip) (.exit 0))) (.seq (.block 1 (.seq (.region 7 (ro Tryd.f28 7) false) (.seq (.seq (.region 8 (ro Tryd.f28 8) false) (.cond (.tmp 43) (.region 9 (ro Tryd.f28 9) false) (.skip))) (.seq (.seq (.region 10 (ro Tryd.f28 10) false) (.cond (.tmp 56) (.region 11 (ro Tryd.f28 11) false) (.skip))) (.seq (.region 12 (ro Tryd.f28 12) false) (.cond (.tmp 67) (.region 13 (ro Tryd.f28 13) false) (.skip))))))) (.region 6 (ro Tryd.f28 6) false)))))) (.seq (.region 14 (ro Tryd.f28 14) false) (.ret)))))
theorem body28 : Tryd.f28.body = some c28 := by kernel_rfl
theorem res28 : Tryd.f28.results.toList.mapM (trR Tryd.prog) = some [.t 2] := by kernel_rfl
theorem nt28 : Tryd.f28.ntmps = 74 := by kernel_rfl
theorem nm28 : (Tryd.f28.name == "runtime.NumGoroutine") = false := by kernel_rfl
def a28_0 : List AO := [⟨(some 2), none, .mv (.v .nils)⟩]
theorem tr28_0 : TR Tryd.f28 74 0 = some a28_0 := by kernel_rfl
def a28_1 : List AO := [⟨(some 3), none, .mv (.v .nils)⟩]
theorem tr28_1 : TR Tryd.f28 74 1 = some a28_1 := by kernel_rfl
def a28_2 : List AO := [⟨(some 6), none, .mv (.t 0)⟩,
  ⟨(some 7), none, .len (.t 6)⟩,
  ⟨(some 8), none, .bin .eql (.t 7) (.v (.int .i64 0))⟩,
  ⟨(some 9), none, .mv (.t 8)⟩,
  ⟨(some 10), some (9, false), .mv (.t 0)⟩,
  ⟨(some 11), some (9, false), .len (.t 10)⟩,
  ⟨(some 12), some (9, false), .bin .gtr (.t 11) (.v (.int .i64 6))⟩,
  ⟨(some 13), none, .pick (.t 9) (.v (.bool true)) (.t 12)⟩]
theorem tr28_2 : TR Tryd.f28 74 2 = some a28_2 := by kernel_rfl
def a28_3 : List AO := [⟨(some 14), none, .mv (.t 3)⟩,
  ⟨(some 15), none, .build [(.int .i64 0), (.str [])] [(0, 1, (.v (.int .i64 4))), (1, 1, (.v (.str [99, 111, 117, 112, 111, 110, 115])))]⟩,
  ⟨(some 16), none, .slc 45 2 false [(.t 15)]⟩,
  ⟨(some 17), none, .app 45 2 24 (.t 14) (.t 16)⟩,
  ⟨(some 3), none, .mv (.t 17)⟩]
theorem tr28_3 : TR Tryd.f28 74 3 = some a28_3 := by kernel_rfl
def a28_4 : List AO := [⟨(some 4), none, .mv (.v (.int .i64 0))⟩]
theorem tr28_4 : TR Tryd.f28 74 4 = some a28_4 := by kernel_rfl
def a28_5 : List AO := [⟨(some 18), none, .mv (.t 4)⟩,
  ⟨(some 19), none, .mv (.t 0)⟩,
  ⟨(some 20), none, .len (.t 19)⟩,
  ⟨(some 21), none, .bin .lss (.t 18) (.t 20)⟩,
  ⟨(some 22), none, .mv (.t 21)⟩,
  ⟨(some 23), some (22, true), .mv (.t 4)⟩,
  ⟨(some 24), some (22, true), .bin .lss (.t 23) (.v (.int .i64 1024))⟩,
  ⟨(some 25), none, .pick (.t 22) (.t 24) (.v (.bool false))⟩]
theorem tr28_5 : TR Tryd.f28 74 5 = some a28_5 := by kernel_rfl
def a28_7 : List AO := [⟨(some 28), none, .mv (.t 4)⟩,
  ⟨(some 29), none, .call 49 [(.v (.str [99, 111, 117, 112, 111, 110, 115])), (.t 28)]⟩,
  ⟨(some 5), none, .mv (.t 29)⟩]
theorem tr28_7 : TR Tryd.f28 74 7 = some a28_7 := by kernel_rfl
def a28_8 : List AO := [⟨(some 30), none, .mv (.t 0)⟩,
  ⟨(some 31), none, .mv (.t 4)⟩,
  ⟨(some 32), none, .idx 11 (.t 30) (.t 31)⟩,
  ⟨(some 33), none, .fld 9 (.t 32)⟩,
  ⟨(some 34), none, .load none (.t 33)⟩,
  ⟨(some 35), none, .bin .lss (.t 34) (.v (.int .i64 1))⟩,
  ⟨(some 36), none, .mv (.t 35)⟩,
  ⟨(some 37), some (36, false), .mv (.t 0)⟩,
  ⟨(some 38), some (36, false), .mv (.t 4)⟩,
  ⟨(some 39), some (36, false), .idx 11 (.t 37) (.t 38)⟩,
  ⟨(some 40), some (36, false), .fld 9 (.t 39)⟩,
  ⟨(some 41), some (36, false), .load none (.t 40)⟩,
  ⟨(some 42), some (36, false), .bin .gtr (.t 41) (.v (.int .i64 8))⟩,
  ⟨(some 43), none, .pick (.t 36) (.v (.bool true)) (.t 42)⟩]
theorem tr28_8 : TR Tryd.f28 74 8 = some a28_8 := by kernel_rfl
def a28_9 : List AO := [⟨(some 44), none, .mv (.t 3)⟩,
  ⟨(some 45), none, .mv (.t 5)⟩,
  ⟨(some 46), none, .build [(.int .i64 0), (.str [])] [(0, 1, (.v (.int .i64 8))), (1, 1, (.t 45))]⟩,
  ⟨(some 47), none, .slc 45 2 false [(.t 46)]⟩,
  ⟨(some 48), none, .app 45 2 24 (.t 44) (.t 47)⟩,
  ⟨(some 3), none, .mv (.t 48)⟩]
theorem tr28_9 : TR Tryd.f28 74 9 = some a28_9 := by kernel_rfl
def a28_10 : List AO := [⟨(some 49), none, .mv (.t 0)⟩,
  ⟨(some 50), none, .mv (.t 4)⟩,
  ⟨(some 51), none, .idx 11 (.t 49) (.t 50)⟩,
  ⟨(some 52), none, .fld 0 (.t 51)⟩,
  ⟨(some 53), none, .fld 7 (.t 52)⟩,
  ⟨(some 54), none, .load none (.t 53)⟩,
  ⟨(some 55), none, .call 50 [(.t 54)]⟩,
  ⟨(some 56), none, .un .not (.t 55)⟩]
theorem tr28_10 : TR Tryd.f28 74 10 = some a28_10 := by kernel_rfl
def a28_11 : List AO := [⟨(some 57), none, .mv (.t 3)⟩,
  ⟨(some 58), none, .mv (.t 5)⟩,
  ⟨(some 59), none, .build [(.int .i64 0), (.str [])] [(0, 1, (.v (.int .i64 16))), (1, 1, (.t 58))]⟩,
  ⟨(some 60), none, .slc 45 2 false [(.t 59)]⟩,
  ⟨(some 61), none, .app 45 2 24 (.t 57) (.t 60)⟩,
  ⟨(some 3), none, .mv (.t 61)⟩]
theorem tr28_11 : TR Tryd.f28 74 11 = some a28_11 := by kernel_rfl
def a28_12 : List AO := [⟨(some 62), none, .mv (.t 0)⟩,
  ⟨(some 63), none, .mv (.t 4)⟩,
  ⟨(some 64), none, .idx 11 (.t 62) (.t 63)⟩,
  ⟨(some 65), none, .fld 10 (.t 64)⟩,
  ⟨(some 66), none, .load none (.t 65)⟩,
  ⟨(some 67), none, .call 51 [(.t 66)]⟩]
theorem tr28_12 : TR Tryd.f28 74 12 = some a28_12 := by kernel_rfl
def a28_13 : List AO := [⟨(some 68), none, .mv (.t 3)⟩,
  ⟨(some 69), none, .mv (.t 5)⟩,
  ⟨(some 70), none, .build [(.int .i64 0), (.str [])] [(0, 1, (.v (.int .i64 11))), (1, 1, (.t 69))]⟩,
  ⟨(some 71), none, .slc 45 2 false [(.t 70)]⟩,
  ⟨(some 72), none, .app 45 2 24 (.t 68) (.t 71)⟩,
  ⟨(some 3), none, .mv (.t 72)⟩]
theorem tr28_13 : TR Tryd.f28 74 13 = some a28_13 := by kernel_rfl
def a28_6 : List AO := [⟨(some 26), none, .mv (.t 4)⟩,
  ⟨(some 27), none, .bin .add (.t 26) (.v (.int .i64 1))⟩,
  ⟨(some 4), none, .mv (.t 27)⟩]
theorem tr28_6 : TR Tryd.f28 74 6 = some a28_6 := by kernel_rfl
def a28_14 : List AO := [⟨(some 73), none, .mv (.t 3)⟩,
  ⟨(some 2), none, .mv (.t 73)⟩]
theorem tr28_14 : TR Tryd.f28 74 14 = some a28_14 := by kernel_rfl
/-- airline/airlineref40.sums -/
noncomputable def c29 : Code := .seq (.region 0 (ro Tryd.f29 0) false) (.seq (.region 1 (ro Tryd.f29 1) false) (.seq (.region 2 (ro Tryd.f29 2) false) (.seq (.seq (.region 3 (ro Tryd.f29 3) false) (.block 0 (.loop (.seq (.seq (.region 4 (ro Tryd.f29 4) false) (.cond (.tmp 18) (.skip) (.exit 0))) (.seq (.block 1 (.seq (.region 6 (ro Tryd.f29 6) false) (.seq (.region 7 (ro Tryd.f29 7) false) (.cond (.tmp 32) (.region 8 (ro Tryd.f29 8) false) (.skip))))) (.region 5 (ro Tryd.f29 5) false)))))) (.seq (.region 9 (ro Tryd.f29 9) false) (.seq (.seq (.region 10 (ro Tryd.f29 10) false) (.cond (.tmp 44) (.region 11 (ro Tryd.f29 11) false) (.seq (.region 12 (ro Tryd.f29 12) false) (.cond (.tmp 56) (.region 13 (ro Tryd.f29 13) false) (.skip))))) (.seq (.region 14 (ro Tryd.f29 14) false) (.seq (.seq (.region 15 (ro Tryd.f29 15) false) (.block 2 (.loop (.seq (.seq (.region 16 (ro Tryd.f29 16) false) (.cond (.tmp 69) (.skip) (.exit 2))) (.seq (.block 3 (.seq (.region 18 (ro Tryd.f29 18) false) (.cond (.tmp 78) (.seq (.region 19 (ro Tryd.f29 19) false) (.region 20 (ro Tryd.f29 20) false)) (.region 21 (ro Tryd.f29 21) false)))) (.region 17 (ro Tryd.f29 17) false)))))) (.seq (.seq (.region 22 (ro Tryd.f29 22) false) (.cond (.tmp 103) (.region 23 (ro Tryd.f29 23) false) (.skip))) (.seq (.region 24 (ro Tryd.f29 24) false) (.ret))))))))))
theorem body29 : Tryd.f29.body = some c29 := by kernel_rfl
theorem res29 : Tryd.f29.results.toList.mapM (trR Tryd.prog) = some [.t 2] := by kernel_rfl
theorem nt29 : Tryd.f29.ntmps = 109 := by kernel_rfl
theorem nm29 : (Tryd.f29.name == "runtime.NumGoroutine") = false := by kernel_rfl
def a29_0 : List AO := [⟨(some 1), none, .box 27 (.t 0)⟩,
  ⟨(some 2), none, .mv (.v .nils)⟩]
theorem tr29_0 : TR Tryd.f29 109 0 = some a29_0 := by kernel_rfl
def a29_1 : List AO := [⟨(some 3), none, .mv (.v .nils)⟩]
theorem tr29_1 : TR Tryd.f29 109 1 = some a29_1 := by kernel_rfl
def a29_2 : List AO := [⟨(some 4), none, .mv (.v (.int .i64 0))⟩,
  ⟨(some 5), none, .mv (.v (.bool false))⟩]
theorem tr29_2 : TR Tryd.f29 109 2 = some a29_2 := by kernel_rfl
def a29_3 : List AO := [⟨(some 6), none, .mv (.v (.int .i64 0))⟩]
theorem tr29_3 : TR Tryd.f29 109 3 = some a29_3 := by kernel_rfl
def a29_4 : List AO := [⟨(some 10), none, .mv (.t 6)⟩,
  ⟨(some 11), none, .fld 5 (.t 1)⟩,
  ⟨(some 12), none, .load none (.t 11)⟩,
  ⟨(some 13), none, .len (.t 12)⟩,
  ⟨(some 14), none, .bin .lss (.t 10) (.t 13)⟩,
  ⟨(some 15), none, .mv (.t 14)⟩,
  ⟨(some 16), some (15, true), .mv (.t 6)⟩,
  ⟨(some 17), some (15, true), .bin .lss (.t 16) (.v (.int .i64 1024))⟩,
  ⟨(some 18), none, .pick (.t 15) (.t 17) (.v (.bool false))⟩]
theorem tr29_4 : TR Tryd.f29 109 4 = some a29_4 := by kernel_rfl
def a29_6 : List AO := [⟨(some 21), none, .mv (.t 5)⟩,
  ⟨(some 22), none, .mv (.t 21)⟩,
  ⟨(some 23), some (22, false), .fld 5 (.t 1)⟩,
  ⟨(some 24), some (22, false), .load none (.t 23)⟩,
  ⟨(some 25), some (22, false), .mv (.t 6)⟩,
  ⟨(some 26), some (22, false), .idx 11 (.t 24) (.t 25)⟩,
  ⟨(some 27), some (22, false), .fld 10 (.t 26)⟩,
  ⟨(some 28), some (22, false), .load none (.t 27)⟩,
  ⟨(some 29), some (22, false), .call 51 [(.t 28)]⟩,
  ⟨(some 30), none, .pick (.t 22) (.v (.bool true)) (.t 29)⟩,
  ⟨(some 5), none, .mv (.t 30)⟩]
theorem tr29_6 : TR Tryd.f29 109 6 = some a29_6 := by kernel_rfl
def a29_7 : List AO := [⟨(some 31), none, .mv (.t 5)⟩,
  ⟨(some 32), none, .un .not (.t 31)⟩]
theorem tr29_7 : TR Tryd.f29 109 7 = some a29_7 := by kernel_rfl
def a29_8 : List AO := [⟨(some 33), none, .mv (.t 4)⟩,
  ⟨(some 34), none, .fld 5 (.t 1)⟩,
  ⟨(some 35), none, .load none (.t 34)⟩,
  ⟨(some 36), none, .mv (.t 6)⟩,
  ⟨(some 37), none, .idx 11 (.t 35) (.t 36)⟩,
  ⟨(some 38), none, .fld 10 (.t 37)⟩,
  ⟨(some 39), none, .load none (.t 38)⟩,
  ⟨(some 40), none, .bin .add (.t 33) (.t 39)⟩,
  ⟨(some 4), none, .mv (.t 40)⟩]
theorem tr29_8 : TR Tryd.f29 109 8 = some a29_8 := by kernel_rfl
def a29_5 : List AO := [⟨(some 19), none, .mv (.t 6)⟩,
  ⟨(some 20), none, .bin .add (.t 19) (.v (.int .i64 1))⟩,
  ⟨(some 6), none, .mv (.t 20)⟩]
theorem tr29_5 : TR Tryd.f29 109 5 = some a29_5 := by kernel_rfl
def a29_9 : List AO := [⟨(some 41), none, .fld 6 (.t 1)⟩,
  ⟨(some 42), none, .load none (.t 41)⟩,
  ⟨(some 43), none, .call 51 [(.t 42)]⟩,
  ⟨(some 7), none, .mv (.t 43)⟩]
theorem tr29_9 : TR Tryd.f29 109 9 = some a29_9 := by kernel_rfl
def a29_10 : List AO := [⟨(some 44), none, .mv (.t 7)⟩]
theorem tr29_10 : TR Tryd.f29 109 10 = some a29_10 := by kernel_rfl
def a29_11 : List AO := [⟨(some 45), none, .mv (.t 3)⟩,
  ⟨(some 46), none, .build [(.int .i64 0), (.str [])] [(0, 1, (.v (.int .i64 11))), (1, 1, (.v (.str [102, 97, 114, 101])))]⟩,
  ⟨(some 47), none, .slc 45 2 false [(.t 46)]⟩,
  ⟨(some 48), none, .app 45 2 24 (.t 45) (.t 47)⟩,
  ⟨(some 3), none, .mv (.t 48)⟩]
theorem tr29_11 : TR Tryd.f29 109 11 = some a29_11 := by kernel_rfl
def a29_12 : List AO := [⟨(some 49), none, .mv (.t 5)⟩,
  ⟨(some 50), none, .un .not (.t 49)⟩,
  ⟨(some 51), none, .mv (.t 50)⟩,
  ⟨(some 52), some (51, true), .mv (.t 4)⟩,
  ⟨(some 53), some (51, true), .fld 6 (.t 1)⟩,
  ⟨(some 54), some (51, true), .load none (.t 53)⟩,
  ⟨(some 55), some (51, true), .bin .neq (.t 52) (.t 54)⟩,
  ⟨(some 56), none, .pick (.t 51) (.t 55) (.v (.bool false))⟩]
theorem tr29_12 : TR Tryd.f29 109 12 = some a29_12 := by kernel_rfl
def a29_13 : List AO := [⟨(some 57), none, .mv (.t 3)⟩,
  ⟨(some 58), none, .build [(.int .i64 0), (.str [])] [(0, 1, (.v (.int .i64 36))), (1, 1, (.v (.str [102, 97, 114, 101])))]⟩,
  ⟨(some 59), none, .slc 45 2 false [(.t 58)]⟩,
  ⟨(some 60), none, .app 45 2 24 (.t 57) (.t 59)⟩,
  ⟨(some 3), none, .mv (.t 60)⟩]
theorem tr29_13 : TR Tryd.f29 109 13 = some a29_13 := by kernel_rfl
def a29_14 : List AO := [⟨(some 8), none, .mv (.v (.int .i64 0))⟩]
theorem tr29_14 : TR Tryd.f29 109 14 = some a29_14 := by kernel_rfl
def a29_15 : List AO := [⟨(some 9), none, .mv (.v (.int .i64 0))⟩]
theorem tr29_15 : TR Tryd.f29 109 15 = some a29_15 := by kernel_rfl
def a29_16 : List AO := [⟨(some 61), none, .mv (.t 9)⟩,
  ⟨(some 62), none, .fld 7 (.t 1)⟩,
  ⟨(some 63), none, .load none (.t 62)⟩,
  ⟨(some 64), none, .len (.t 63)⟩,
  ⟨(some 65), none, .bin .lss (.t 61) (.t 64)⟩,
  ⟨(some 66), none, .mv (.t 65)⟩,
  ⟨(some 67), some (66, true), .mv (.t 9)⟩,
  ⟨(some 68), some (66, true), .bin .lss (.t 67) (.v (.int .i64 1024))⟩,
  ⟨(some 69), none, .pick (.t 66) (.t 68) (.v (.bool false))⟩]
theorem tr29_16 : TR Tryd.f29 109 16 = some a29_16 := by kernel_rfl
def a29_18 : List AO := [⟨(some 72), none, .fld 7 (.t 1)⟩,
  ⟨(some 73), none, .load none (.t 72)⟩,
  ⟨(some 74), none, .mv (.t 9)⟩,
  ⟨(some 75), none, .idx 2 (.t 73) (.t 74)⟩,
  ⟨(some 76), none, .fld 1 (.t 75)⟩,
  ⟨(some 77), none, .load none (.t 76)⟩,
  ⟨(some 78), none, .call 51 [(.t 77)]⟩]
theorem tr29_18 : TR Tryd.f29 109 18 = some a29_18 := by kernel_rfl
def a29_19 : List AO := [⟨(some 79), none, .mv (.t 3)⟩,
  ⟨(some 80), none, .mv (.t 9)⟩,
  ⟨(some 81), none, .call 49 [(.v (.str [116, 97, 120, 101, 115])), (.t 80)]⟩,
  ⟨(some 82), none, .build [(.int .i64 0), (.str [])] [(0, 1, (.v (.int .i64 11))), (1, 1, (.t 81))]⟩,
  ⟨(some 83), none, .slc 45 2 false [(.t 82)]⟩,
  ⟨(some 84), none, .app 45 2 24 (.t 79) (.t 83)⟩,
  ⟨(some 3), none, .mv (.t 84)⟩]
theorem tr29_19 : TR Tryd.f29 109 19 = some a29_19 := by kernel_rfl
def a29_20 : List AO := [⟨(some 7), none, .mv (.v (.bool true))⟩]
theorem tr29_20 : TR Tryd.f29 109 20 = some a29_20 := by kernel_rfl
def a29_21 : List AO := [⟨(some 85), none, .mv (.t 8)⟩,
  ⟨(some 86), none, .fld 7 (.t 1)⟩,
  ⟨(some 87), none, .load none (.t 86)⟩,
  ⟨(some 88), none, .mv (.t 9)⟩,
  ⟨(some 89), none, .idx 2 (.t 87) (.t 88)⟩,
  ⟨(some 90), none, .fld 1 (.t 89)⟩,
  ⟨(some 91), none, .load none (.t 90)⟩,
  ⟨(some 92), none, .bin .add (.t 85) (.t 91)⟩,
  ⟨(some 8), none, .mv (.t 92)⟩]
theorem tr29_21 : TR Tryd.f29 109 21 = some a29_21 := by kernel_rfl
def a29_17 : List AO := [⟨(some 70), none, .mv (.t 9)⟩,
  ⟨(some 71), none, .bin .add (.t 70) (.v (.int .i64 1))⟩,
  ⟨(some 9), none, .mv (.t 71)⟩]
theorem tr29_17 : TR Tryd.f29 109 17 = some a29_17 := by kernel_rfl
def a29_22 : List AO := [⟨(some 93), none, .mv (.t 7)⟩,
  ⟨(some 94), none, .un .not (.t 93)⟩,
  ⟨(some 95), none, .mv (.t 94)⟩,
  ⟨(some 96), some (95, true), .fld 8 (.t 1)⟩,
  ⟨(some 97), some (95, true), .load none (.t 96)⟩,
  ⟨(some 98), some (95, true), .fld 6 (.t 1)⟩,
  ⟨(some 99), some (95, true), .load none (.t 98)⟩,
  ⟨(some 100), some (95, true), .mv (.t 8)⟩,
  ⟨(some 101), some (95, true), .bin .add (.t 99) (.t 100)⟩,
  ⟨(some 102), some (95, true), .bin .neq (.t 97) (.t 101)⟩,
  ⟨(some 103), none, .pick (.t 95) (.t 102) (.v (.bool false))⟩]
theorem tr29_22 : TR Tryd.f29 109 22 = some a29_22 := by kernel_rfl
def a29_23 : List AO := [⟨(some 104), none, .mv (.t 3)⟩,
  ⟨(some 105), none, .build [(.int .i64 0), (.str [])] [(0, 1, (.v (.int .i64 36))), (1, 1, (.v (.str [116, 111, 116, 97, 108])))]⟩,
  ⟨(some 106), none, .slc 45 2 false [(.t 105)]⟩,
  ⟨(some 107), none, .app 45 2 24 (.t 104) (.t 106)⟩,
  ⟨(some 3), none, .mv (.t 107)⟩]
theorem tr29_23 : TR Tryd.f29 109 23 = some a29_23 := by kernel_rfl
def a29_24 : List AO := [⟨(some 108), none, .mv (.t 3)⟩,
  ⟨(some 2), none, .mv (.t 108)⟩]
theorem tr29_24 : TR Tryd.f29 109 24 = some a29_24 := by kernel_rfl
/-- slices.Clone[[]airline/api.Coupon,airline/api.Coupon] -/
noncomputable def c30 : Code := .seq (.region 0 (ro Tryd.f30 0) false) (.seq (.seq (.region 1 (ro Tryd.f30 1) false) (.cond (.tmp 4) (.seq (.region 2 (ro Tryd.f30 2) false) (.ret)) (.skip))) (.seq (.region 3 (ro Tryd.f30 3) false) (.ret)))
theorem body30 : Tryd.f30.body = some c30 := by kernel_rfl
theorem res30 : Tryd.f30.results.toList.mapM (trR Tryd.prog) = some [.t 2] := by kernel_rfl
theorem nt30 : Tryd.f30.ntmps = 8 := by kernel_rfl
theorem nm30 : (Tryd.f30.name == "runtime.NumGoroutine") = false := by kernel_rfl
def a30_0 : List AO := [⟨(some 2), none, .mv (.v .nils)⟩]
theorem tr30_0 : TR Tryd.f30 8 0 = some a30_0 := by kernel_rfl
def a30_1 : List AO := [⟨(some 3), none, .mv (.t 0)⟩,
  ⟨(some 4), none, .binn .eql (.t 3) (.v .nils)⟩]
theorem tr30_1 : TR Tryd.f30 8 1 = some a30_1 := by kernel_rfl
def a30_2 : List AO := [⟨(some 2), none, .mv (.v .nils)⟩]
theorem tr30_2 : TR Tryd.f30 8 2 = some a30_2 := by kernel_rfl
def a30_3 : List AO := [⟨(some 5), none, .slc 43 11 false []⟩,
  ⟨(some 6), none, .mv (.t 0)⟩,
  ⟨(some 7), none, .app 43 11 128 (.t 5) (.t 6)⟩,
  ⟨(some 2), none, .mv (.t 7)⟩]
theorem tr30_3 : TR Tryd.f30 8 3 = some a30_3 := by kernel_rfl
/-- airline/coupon.Next -/
noncomputable def c31 : Code := .seq (.region 0 (ro Tryd.f31 0) false) (.seq (.seq (.region 1 (ro Tryd.f31 1) false) (.cond (.tmp 20) (.seq (.region 2 (ro Tryd.f31 2) false) (.ret)) (.skip))) (.seq (.seq (.region 3 (ro Tryd.f31 3) false) (.cond (.tmp 26) (.seq (.region 4 (ro Tryd.f31 4) false) (.ret)) (.skip))) (.seq (.seq (.region 5 (ro Tryd.f31 5) false) (.seq (.region 6 (ro Tryd.f31 6) false) (.cond (.tmp 31) (.seq (.region 7 (ro Tryd.f31 7) false) (.ret)) (.skip)))) (.seq (.region 8 (ro Tryd.f31 8) false) (.ret)))))
theorem body31 : Tryd.f31.body = some c31 := by kernel_rfl
theorem res31 : Tryd.f31.results.toList.mapM (trR Tryd.prog) = some [.t 4, .t 5] := by kernel_rfl
theorem nt31 : Tryd.f31.ntmps = 33 := by kernel_rfl
theorem nm31 : (Tryd.f31.name == "runtime.NumGoroutine") = false := by kernel_rfl
def a31_0 : List AO := [⟨(some 4), none, .mv (.v (.int .i64 0))⟩,
  ⟨(some 5), none, .mv (.v (.int .i64 0))⟩]
theorem tr31_0 : TR Tryd.f31 33 0 = some a31_0 := by kernel_rfl
def a31_1 : List AO := [⟨(some 7), none, .mv (.t 0)⟩,
  ⟨(some 8), none, .bin .lss (.t 7) (.v (.int .i64 1))⟩,
  ⟨(some 9), none, .mv (.t 8)⟩,
  ⟨(some 10), some (9, false), .mv (.t 0)⟩,
  ⟨(some 11), some (9, false), .bin .gtr (.t 10) (.v (.int .i64 8))⟩,
  ⟨(some 12), none, .pick (.t 9) (.v (.bool true)) (.t 11)⟩,
  ⟨(some 13), none, .mv (.t 12)⟩,
  ⟨(some 14), some (13, false), .mv (.t 1)⟩,
  ⟨(some 15), some (13, false), .bin .lss (.t 14) (.v (.int .i64 1))⟩,
  ⟨(some 16), none, .pick (.t 13) (.v (.bool true)) (.t 15)⟩,
  ⟨(some 17), none, .mv (.t 16)⟩,
  ⟨(some 18), some (17, false), .mv (.t 1)⟩,
  ⟨(some 19), some (17, false), .bin .gtr (.t 18) (.v (.int .i64 10))⟩,
  ⟨(some 20), none, .pick (.t 17) (.v (.bool true)) (.t 19)⟩]
theorem tr31_1 : TR Tryd.f31 33 1 = some a31_1 := by kernel_rfl
def a31_2 : List AO := [⟨(some 4), none, .mv (.v (.int .i64 0))⟩,
  ⟨(some 5), none, .mv (.v (.int .i64 8))⟩]
theorem tr31_2 : TR Tryd.f31 33 2 = some a31_2 := by kernel_rfl
def a31_3 : List AO := [⟨(some 21), none, .mv (.t 0)⟩,
  ⟨(some 22), none, .bin .eql (.t 21) (.v (.int .i64 2))⟩,
  ⟨(some 23), none, .mv (.t 22)⟩,
  ⟨(some 24), some (23, true), .mv (.t 1)⟩,
  ⟨(some 25), some (23, true), .bin .geq (.t 24) (.v (.int .i64 8))⟩,
  ⟨(some 26), none, .pick (.t 23) (.t 25) (.v (.bool false))⟩]
theorem tr31_3 : TR Tryd.f31 33 3 = some a31_3 := by kernel_rfl
def a31_4 : List AO := [⟨(some 4), none, .mv (.v (.int .i64 0))⟩,
  ⟨(some 5), none, .mv (.v (.int .i64 28))⟩]
theorem tr31_4 : TR Tryd.f31 33 4 = some a31_4 := by kernel_rfl
def a31_5 : List AO := [⟨(some 27), none, .mv (.t 0)⟩,
  ⟨(some 28), none, .mv (.t 1)⟩,
  ⟨(some 29), none, .call 52 [(.t 27), (.t 28)]⟩,
  ⟨(some 6), none, .mv (.t 29)⟩]
theorem tr31_5 : TR Tryd.f31 33 5 = some a31_5 := by kernel_rfl
def a31_6 : List AO := [⟨(some 30), none, .mv (.t 6)⟩,
  ⟨(some 31), none, .bin .neq (.t 30) (.v (.int .i64 0))⟩]
theorem tr31_6 : TR Tryd.f31 33 6 = some a31_6 := by kernel_rfl
def a31_7 : List AO := [⟨(some 32), none, .mv (.t 6)⟩,
  ⟨(some 4), none, .mv (.t 32)⟩,
  ⟨(some 5), none, .mv (.v (.int .i64 0))⟩]
theorem tr31_7 : TR Tryd.f31 33 7 = some a31_7 := by kernel_rfl
def a31_8 : List AO := [⟨(some 4), none, .mv (.v (.int .i64 0))⟩,
  ⟨(some 5), none, .mv (.v (.int .i64 27))⟩]
theorem tr31_8 : TR Tryd.f31 33 8 = some a31_8 := by kernel_rfl
/-- airline/airlineref38.Next -/
noncomputable def c32 : Code := .seq (.region 0 (ro Tryd.f32 0) false) (.seq (.seq (.region 1 (ro Tryd.f32 1) false) (.cond (.tmp 16) (.seq (.region 2 (ro Tryd.f32 2) false) (.ret)) (.skip))) (.seq (.seq (.region 3 (ro Tryd.f32 3) false) (.cond (.tmp 22) (.seq (.region 4 (ro Tryd.f32 4) false) (.ret)) (.skip))) (.seq (.seq (.region 5 (ro Tryd.f32 5) false) (.cond (.tmp 26) (.seq (.region 6 (ro Tryd.f32 6) false) (.ret)) (.skip))) (.seq (.region 7 (ro Tryd.f32 7) false) (.ret)))))
theorem body32 : Tryd.f32.body = some c32 := by kernel_rfl
theorem res32 : Tryd.f32.results.toList.mapM (trR Tryd.prog) = some [.t 4, .t 5] := by kernel_rfl
theorem nt32 : Tryd.f32.ntmps = 30 := by kernel_rfl
theorem nm32 : (Tryd.f32.name == "runtime.NumGoroutine") = false := by kernel_rfl
def a32_0 : List AO := [⟨(some 4), none, .mv (.v (.int .i64 0))⟩,
  ⟨(some 5), none, .mv (.v (.int .i64 0))⟩]
theorem tr32_0 : TR Tryd.f32 30 0 = some a32_0 := by kernel_rfl
def a32_1 : List AO := [⟨(some 6), none, .mv (.t 0)⟩,
  ⟨(some 7), none, .call 53 [(.t 6)]⟩,
  ⟨(some 8), none, .un .not (.t 7)⟩,
  ⟨(some 9), none, .mv (.t 8)⟩,
  ⟨(some 10), some (9, false), .mv (.t 1)⟩,
  ⟨(some 11), some (9, false), .bin .lss (.t 10) (.v (.int .i64 1))⟩,
  ⟨(some 12), none, .pick (.t 9) (.v (.bool true)) (.t 11)⟩,
  ⟨(some 13), none, .mv (.t 12)⟩,
  ⟨(some 14), some (13, false), .mv (.t 1)⟩,
  ⟨(some 15), some (13, false), .bin .gtr (.t 14) (.v (.int .i64 10))⟩,
  ⟨(some 16), none, .pick (.t 13) (.v (.bool true)) (.t 15)⟩]
theorem tr32_1 : TR Tryd.f32 30 1 = some a32_1 := by kernel_rfl
def a32_2 : List AO := [⟨(some 4), none, .mv (.v (.int .i64 0))⟩,
  ⟨(some 5), none, .mv (.v (.int .i64 8))⟩]
theorem tr32_2 : TR Tryd.f32 30 2 = some a32_2 := by kernel_rfl
def a32_3 : List AO := [⟨(some 17), none, .mv (.t 0)⟩,
  ⟨(some 18), none, .bin .eql (.t 17) (.v (.int .i64 2))⟩,
  ⟨(some 19), none, .mv (.t 18)⟩,
  ⟨(some 20), some (19, true), .mv (.t 1)⟩,
  ⟨(some 21), some (19, true), .bin .geq (.t 20) (.v (.int .i64 8))⟩,
  ⟨(some 22), none, .pick (.t 19) (.t 21) (.v (.bool false))⟩]
theorem tr32_3 : TR Tryd.f32 30 3 = some a32_3 := by kernel_rfl
def a32_4 : List AO := [⟨(some 4), none, .mv (.v (.int .i64 0))⟩,
  ⟨(some 5), none, .mv (.v (.int .i64 28))⟩]
theorem tr32_4 : TR Tryd.f32 30 4 = some a32_4 := by kernel_rfl
def a32_5 : List AO := [⟨(some 23), none, .mv (.t 0)⟩,
  ⟨(some 24), none, .mv (.t 1)⟩,
  ⟨(some 25), none, .call 54 [(.t 23), (.t 24)]⟩,
  ⟨(some 26), none, .bin .eql (.t 25) (.v (.int .i64 0))⟩]
theorem tr32_5 : TR Tryd.f32 30 5 = some a32_5 := by kernel_rfl
def a32_6 : List AO := [⟨(some 4), none, .mv (.v (.int .i64 0))⟩,
  ⟨(some 5), none, .mv (.v (.int .i64 27))⟩]
theorem tr32_6 : TR Tryd.f32 30 6 = some a32_6 := by kernel_rfl
def a32_7 : List AO := [⟨(some 27), none, .mv (.t 0)⟩,
  ⟨(some 28), none, .mv (.t 1)⟩,
  ⟨(some 29), none, .call 54 [(.t 27), (.t 28)]⟩,
  ⟨(some 4), none, .mv (.t 29)⟩,
  ⟨(some 5), none, .mv (.v (.int .i64 0))⟩]
theorem tr32_7 : TR Tryd.f32 30 7 = some a32_7 := by kernel_rfl
/-- slices.Equal[[]airline/api.Coupon,airline/api.Coupon] -/
noncomputable def c33 : Code := .seq (.region 0 (ro Tryd.f33 0) false) (.seq (.seq (.region 1 (ro Tryd.f33 1) false) (.cond (.tmp 10) (.seq (.region 2 (ro Tryd.f33 2) false) (.ret)) (.skip))) (.seq (.seq (.region 3 (ro Tryd.f33 3) false) (.block 0 (.loop (.seq (.region 4 (ro Tryd.f33 4) false) (.seq (.cond (.tmp 14) (.skip) (.exit 0)) (.seq (.block 1 (.seq (.region 5 (ro Tryd.f33 5) false) (.seq (.region 6 (ro Tryd.f33 6) true) (.cond (.tmp 24) (.seq (.region 7 (ro Tryd.f33 7) false) (.ret)) (.skip))))) (.region 8 (ro Tryd.f33 8) false))))))) (.seq (.region 9 (ro Tryd.f33 9) false) (.ret))))
theorem body33 : Tryd.f33.body = some c33 := by kernel_rfl
theorem res33 : Tryd.f33.results.toList.mapM (trR Tryd.prog) = some [.t 4] := by kernel_rfl
theorem nt33 : Tryd.f33.ntmps = 26 := by kernel_rfl
theorem nm33 : (Tryd.f33.name == "runtime.NumGoroutine") = false := by kernel_rfl
def a33_0 : List AO := [⟨(some 4), none, .mv (.v (.bool false))⟩]
theorem tr33_0 : TR Tryd.f33 26 0 = some a33_0 := by kernel_rfl
def a33_1 : List AO := [⟨(some 6), none, .mv (.t 0)⟩,
  ⟨(some 7), none, .len (.t 6)⟩,
  ⟨(some 8), none, .mv (.t 1)⟩,
  ⟨(some 9), none, .len (.t 8)⟩,
  ⟨(some 10), none, .bin .neq (.t 7) (.t 9)⟩]
theorem tr33_1 : TR Tryd.f33 26 1 = some a33_1 := by kernel_rfl
def a33_2 : List AO := [⟨(some 4), none, .mv (.v (.bool false))⟩]
theorem tr33_2 : TR Tryd.f33 26 2 = some a33_2 := by kernel_rfl
def a33_3 : List AO := [⟨(some 11), none, .mv (.t 0)⟩,
  ⟨(some 12), none, .len (.t 11)⟩,
  ⟨(some 13), none, .mv (.v (.int .i64 0))⟩]
theorem tr33_3 : TR Tryd.f33 26 3 = some a33_3 := by kernel_rfl
def a33_4 : List AO := [⟨(some 14), none, .bin .lss (.t 13) (.t 12)⟩]
theorem tr33_4 : TR Tryd.f33 26 4 = some a33_4 := by kernel_rfl
def a33_5 : List AO := [⟨(some 15), none, .mv (.t 13)⟩,
  ⟨(some 5), none, .mv (.t 15)⟩]
theorem tr33_5 : TR Tryd.f33 26 5 = some a33_5 := by kernel_rfl
def a33_6 : List AO := [⟨(some 16), none, .mv (.t 0)⟩,
  ⟨(some 17), none, .mv (.t 5)⟩,
  ⟨(some 18), none, .idx 11 (.t 16) (.t 17)⟩,
  ⟨(some 19), none, .load (some 11) (.t 18)⟩,
  ⟨(some 20), none, .mv (.t 1)⟩,
  ⟨(some 21), none, .mv (.t 5)⟩,
  ⟨(some 22), none, .idx 11 (.t 20) (.t 21)⟩,
  ⟨(some 23), none, .load (some 11) (.t 22)⟩,
  ⟨(some 24), none, .bina [.s, .i .i64, .i .i64, .s, .s, .i .i64, .i .i64, .s, .s, .i .i64, .i .i64] .neq (.t 19) (.t 23)⟩]
theorem tr33_6 : TR Tryd.f33 26 6 = some a33_6 := by kernel_rfl
def d33_6 : List (List Nat) := [[], [], [0, 1], [0, 1, 2], [], [], [4, 5], [4, 5, 6], [0, 1, 2, 3, 4, 5, 6, 7]]
theorem ok33_6 : okReg (ro Tryd.f33 6) a33_6 d33_6 = true := by kernel_rfl
def a33_7 : List AO := [⟨(some 4), none, .mv (.v (.bool false))⟩]
theorem tr33_7 : TR Tryd.f33 26 7 = some a33_7 := by kernel_rfl
def a33_8 : List AO := [⟨(some 25), none, .bin .add (.t 13) (.v (.int .i64 1))⟩,
  ⟨(some 13), none, .mv (.t 25)⟩]
theorem tr33_8 : TR Tryd.f33 26 8 = some a33_8 := by kernel_rfl
def a33_9 : List AO := [⟨(some 4), none, .mv (.v (.bool true))⟩]
theorem tr33_9 : TR Tryd.f33 26 9 = some a33_9 := by kernel_rfl
/-- slices.Equal[[]airline/api.Charge,airline/api.Charge] -/
noncomputable def c34 : Code := .seq (.region 0 (ro Tryd.f34 0) false) (.seq (.seq (.region 1 (ro Tryd.f34 1) false) (.cond (.tmp 10) (.seq (.region 2 (ro Tryd.f34 2) false) (.ret)) (.skip))) (.seq (.seq (.region 3 (ro Tryd.f34 3) false) (.block 0 (.loop (.seq (.region 4 (ro Tryd.f34 4) false) (.seq (.cond (.tmp 14) (.skip) (.exit 0)) (.seq (.block 1 (.seq (.region 5 (ro Tryd.f34 5) false) (.seq (.region 6 (ro Tryd.f34 6) true) (.cond (.tmp 24) (.seq (.region 7 (ro Tryd.f34 7) false) (.ret)) (.skip))))) (.region 8 (ro Tryd.f34 8) false))))))) (.seq (.region 9 (ro Tryd.f34 9) false) (.ret))))
theorem body34 : Tryd.f34.body = some c34 := by kernel_rfl
theorem res34 : Tryd.f34.results.toList.mapM (trR Tryd.prog) = some [.t 4] := by kernel_rfl
theorem nt34 : Tryd.f34.ntmps = 26 := by kernel_rfl
theorem nm34 : (Tryd.f34.name == "runtime.NumGoroutine") = false := by kernel_rfl
def a34_0 : List AO := [⟨(some 4), none, .mv (.v (.bool false))⟩]
theorem tr34_0 : TR Tryd.f34 26 0 = some a34_0 := by kernel_rfl
def a34_1 : List AO := [⟨(some 6), none, .mv (.t 0)⟩,
  ⟨(some 7), none, .len (.t 6)⟩,
  ⟨(some 8), none, .mv (.t 1)⟩,
  ⟨(some 9), none, .len (.t 8)⟩,
  ⟨(some 10), none, .bin .neq (.t 7) (.t 9)⟩]
theorem tr34_1 : TR Tryd.f34 26 1 = some a34_1 := by kernel_rfl
def a34_2 : List AO := [⟨(some 4), none, .mv (.v (.bool false))⟩]
theorem tr34_2 : TR Tryd.f34 26 2 = some a34_2 := by kernel_rfl
def a34_3 : List AO := [⟨(some 11), none, .mv (.t 0)⟩,
  ⟨(some 12), none, .len (.t 11)⟩,
  ⟨(some 13), none, .mv (.v (.int .i64 0))⟩]
theorem tr34_3 : TR Tryd.f34 26 3 = some a34_3 := by kernel_rfl
def a34_4 : List AO := [⟨(some 14), none, .bin .lss (.t 13) (.t 12)⟩]
theorem tr34_4 : TR Tryd.f34 26 4 = some a34_4 := by kernel_rfl
def a34_5 : List AO := [⟨(some 15), none, .mv (.t 13)⟩,
  ⟨(some 5), none, .mv (.t 15)⟩]
theorem tr34_5 : TR Tryd.f34 26 5 = some a34_5 := by kernel_rfl
def a34_6 : List AO := [⟨(some 16), none, .mv (.t 0)⟩,
  ⟨(some 17), none, .mv (.t 5)⟩,
  ⟨(some 18), none, .idx 2 (.t 16) (.t 17)⟩,
  ⟨(some 19), none, .load (some 2) (.t 18)⟩,
  ⟨(some 20), none, .mv (.t 1)⟩,
  ⟨(some 21), none, .mv (.t 5)⟩,
  ⟨(some 22), none, .idx 2 (.t 20) (.t 21)⟩,
  ⟨(some 23), none, .load (some 2) (.t 22)⟩,
  ⟨(some 24), none, .bina [.s, .i .i64] .neq (.t 19) (.t 23)⟩]
theorem tr34_6 : TR Tryd.f34 26 6 = some a34_6 := by kernel_rfl
def d34_6 : List (List Nat) := [[], [], [0, 1], [0, 1, 2], [], [], [4, 5], [4, 5, 6], [0, 1, 2, 3, 4, 5, 6, 7]]
theorem ok34_6 : okReg (ro Tryd.f34 6) a34_6 d34_6 = true := by kernel_rfl
def a34_7 : List AO := [⟨(some 4), none, .mv (.v (.bool false))⟩]
theorem tr34_7 : TR Tryd.f34 26 7 = some a34_7 := by kernel_rfl
def a34_8 : List AO := [⟨(some 25), none, .bin .add (.t 13) (.v (.int .i64 1))⟩,
  ⟨(some 13), none, .mv (.t 25)⟩]
theorem tr34_8 : TR Tryd.f34 26 8 = some a34_8 := by kernel_rfl
def a34_9 : List AO := [⟨(some 4), none, .mv (.v (.bool true))⟩]
theorem tr34_9 : TR Tryd.f34 26 9 = some a34_9 := by kernel_rfl
/-- airline/docnum.parts -/
noncomputable def c35 : Code := .seq (.region 0 (ro Tryd.f35 0) false) (.seq (.region 1 (ro Tryd.f35 1) false) (.seq (.region 2 (ro Tryd.f35 2) false) (.seq (.seq (.region 3 (ro Tryd.f35 3) false) (.cond (.tmp 27) (.seq (.region 4 (ro Tryd.f35 4) false) (.ret)) (.skip))) (.seq (.region 5 (ro Tryd.f35 5) false) (.ret)))))
theorem body35 : Tryd.f35.body = some c35 := by kernel_rfl
theorem res35 : Tryd.f35.results.toList.mapM (trR Tryd.prog) = some [.t 2, .t 3, .t 4] := by kernel_rfl
theorem nt35 : Tryd.f35.ntmps = 30 := by kernel_rfl
theorem nm35 : (Tryd.f35.name == "runtime.NumGoroutine") = false := by kernel_rfl
def a35_0 : List AO := [⟨(some 2), none, .mv (.v (.int .i64 0))⟩,
  ⟨(some 3), none, .mv (.v (.int .i64 0))⟩,
  ⟨(some 4), none, .mv (.v (.bool false))⟩]
theorem tr35_0 : TR Tryd.f35 30 0 = some a35_0 := by kernel_rfl
def a35_1 : List AO := [⟨(some 9), none, .mv (.t 0)⟩,
  ⟨(some 10), none, .bin .quo (.t 9) (.v (.int .i64 10))⟩,
  ⟨(some 11), none, .bin .quo (.t 10) (.v (.int .i64 10000000000))⟩,
  ⟨(some 12), none, .mv (.t 0)⟩,
  ⟨(some 13), none, .bin .quo (.t 12) (.v (.int .i64 10))⟩,
  ⟨(some 14), none, .bin .rem (.t 13) (.v (.int .i64 10000000000))⟩,
  ⟨(some 5), none, .mv (.t 11)⟩,
  ⟨(some 6), none, .mv (.t 14)⟩]
theorem tr35_1 : TR Tryd.f35 30 1 = some a35_1 := by kernel_rfl
def a35_2 : List AO := [⟨(some 16), none, .mv (.t 5)⟩,
  ⟨(some 17), none, .mv (.t 6)⟩,
  ⟨(some 18), none, .call 55 [(.t 16), (.t 17)]⟩,
  ⟨(some 15), none, .mv (.t 18)⟩,
  ⟨(some 19), none, .ext 0 (.t 15)⟩,
  ⟨(some 20), none, .ext 1 (.t 15)⟩,
  ⟨(some 7), none, .mv (.t 19)⟩,
  ⟨(some 8), none, .mv (.t 20)⟩]
theorem tr35_2 : TR Tryd.f35 30 2 = some a35_2 := by kernel_rfl
def a35_3 : List AO := [⟨(some 21), none, .mv (.t 8)⟩,
  ⟨(some 22), none, .bin .neq (.t 21) (.v (.int .i64 0))⟩,
  ⟨(some 23), none, .mv (.t 22)⟩,
  ⟨(some 24), some (23, false), .mv (.t 7)⟩,
  ⟨(some 25), some (23, false), .mv (.t 0)⟩,
  ⟨(some 26), some (23, false), .bin .neq (.t 24) (.t 25)⟩,
  ⟨(some 27), none, .pick (.t 23) (.v (.bool true)) (.t 26)⟩]
theorem tr35_3 : TR Tryd.f35 30 3 = some a35_3 := by kernel_rfl
def a35_4 : List AO := [⟨(some 2), none, .mv (.v (.int .i64 0))⟩,
  ⟨(some 3), none, .mv (.v (.int .i64 0))⟩,
  ⟨(some 4), none, .mv (.v (.bool false))⟩]
theorem tr35_4 : TR Tryd.f35 30 4 = some a35_4 := by kernel_rfl
def a35_5 : List AO := [⟨(some 28), none, .mv (.t 5)⟩,
  ⟨(some 29), none, .mv (.t 6)⟩,
  ⟨(some 2), none, .mv (.t 28)⟩,
  ⟨(some 3), none, .mv (.t 29)⟩,
  ⟨(some 4), none, .mv (.v (.bool true))⟩]
theorem tr35_5 : TR Tryd.f35 30 5 = some a35_5 := by kernel_rfl
/-- airline/locator.Number -/
noncomputable def c36 : Code := .seq (.region 0 (ro Tryd.f36 0) false) (.seq (.seq (.region 1 (ro Tryd.f36 1) false) (.cond (.tmp 10) (.seq (.region 2 (ro Tryd.f36 2) false) (.ret)) (.skip))) (.seq (.region 3 (ro Tryd.f36 3) false) (.seq (.region 4 (ro Tryd.f36 4) false) (.seq (.seq (.region 5 (ro Tryd.f36 5) false) (.block 0 (.loop (.seq (.region 6 (ro Tryd.f36 6) false) (.seq (.cond (.tmp 12) (.skip) (.exit 0)) (.seq (.block 1 (.seq (.region 7 (ro Tryd.f36 7) false) (.seq (.region 8 (ro Tryd.f36 8) false) (.seq (.seq (.region 9 (ro Tryd.f36 9) false) (.cond (.tmp 19) (.seq (.region 10 (ro Tryd.f36 10) false) (.ret)) (.skip))) (.seq (.region 11 (ro Tryd.f36 11) false) (.region 12 (ro Tryd.f36 12) false)))))) (.region 13 (ro Tryd.f36 13) false))))))) (.seq (.seq (.region 14 (ro Tryd.f36 14) true) (.cond (.tmp 33) (.seq (.region 15 (ro Tryd.f36 15) false) (.ret)) (.skip))) (.seq (.region 16 (ro Tryd.f36 16) false) (.ret)))))))
theorem body36 : Tryd.f36.body = some c36 := by kernel_rfl
theorem res36 : Tryd.f36.results.toList.mapM (trR Tryd.prog) = some [.t 2, .t 3] := by kernel_rfl
theorem nt36 : Tryd.f36.ntmps = 35 := by kernel_rfl
theorem nm36 : (Tryd.f36.name == "runtime.NumGoroutine") = false := by kernel_rfl
def a36_0 : List AO := [⟨(some 2), none, .mv (.v (.int .i64 0))⟩,
  ⟨(some 3), none, .mv (.v (.int .i64 0))⟩]
theorem tr36_0 : TR Tryd.f36 35 0 = some a36_0 := by kernel_rfl
def a36_1 : List AO := [⟨(some 8), none, .mv (.t 0)⟩,
  ⟨(some 9), none, .slen (.t 8)⟩,
  ⟨(some 10), none, .bin .neq (.t 9) (.v (.int .i64 6))⟩]
theorem tr36_1 : TR Tryd.f36 35 1 = some a36_1 := by kernel_rfl
def a36_2 : List AO := [⟨(some 2), none, .mv (.v (.int .i64 0))⟩,
  ⟨(some 3), none, .mv (.v (.int .i64 3))⟩]
theorem tr36_2 : TR Tryd.f36 35 2 = some a36_2 := by kernel_rfl
def a36_3 : List AO := [⟨(some 4), none, .alloc 74 [(.int .i64 0), (.int .i64 0), (.int .i64 0), (.int .i64 0), (.int .i64 0)]⟩]
theorem tr36_3 : TR Tryd.f36 35 3 = some a36_3 := by kernel_rfl
def a36_4 : List AO := [⟨(some 5), none, .mv (.v (.int .i64 0))⟩]
theorem tr36_4 : TR Tryd.f36 35 4 = some a36_4 := by kernel_rfl
def a36_5 : List AO := [⟨(some 11), none, .mv (.v (.int .i64 0))⟩]
theorem tr36_5 : TR Tryd.f36 35 5 = some a36_5 := by kernel_rfl
def a36_6 : List AO := [⟨(some 12), none, .bin .lss (.t 11) (.v (.int .i64 5))⟩]
theorem tr36_6 : TR Tryd.f36 35 6 = some a36_6 := by kernel_rfl
def a36_7 : List AO := [⟨(some 13), none, .mv (.t 11)⟩,
  ⟨(some 6), none, .mv (.t 13)⟩]
theorem tr36_7 : TR Tryd.f36 35 7 = some a36_7 := by kernel_rfl
def a36_8 : List AO := [⟨(some 14), none, .mv (.t 0)⟩,
  ⟨(some 15), none, .mv (.t 6)⟩,
  ⟨(some 16), none, .sidx (.t 14) (.t 15)⟩,
  ⟨(some 17), none, .call 56 [(.v (.str [50, 51, 52, 53, 54, 55, 56, 57, 65, 66, 67, 68, 69, 70, 71, 72, 74, 75, 76, 77, 78, 80, 81, 82, 83, 84, 85, 86, 87, 88, 89, 90])), (.t 16)]⟩,
  ⟨(some 7), none, .mv (.t 17)⟩]
theorem tr36_8 : TR Tryd.f36 35 8 = some a36_8 := by kernel_rfl
def a36_9 : List AO := [⟨(some 18), none, .mv (.t 7)⟩,
  ⟨(some 19), none, .bin .lss (.t 18) (.v (.int .i64 0))⟩]
theorem tr36_9 : TR Tryd.f36 35 9 = some a36_9 := by kernel_rfl
def a36_10 : List AO := [⟨(some 2), none, .mv (.v (.int .i64 0))⟩,
  ⟨(some 3), none, .mv (.v (.int .i64 3))⟩]
theorem tr36_10 : TR Tryd.f36 35 10 = some a36_10 := by kernel_rfl
def a36_11 : List AO := [⟨(some 20), none, .mv (.t 6)⟩,
  ⟨(some 21), none, .mv (.t 7)⟩,
  ⟨(some 22), none, .idxa 1 5 (.t 4) (.t 20)⟩,
  ⟨none, none, .store 1 (.t 22) (.t 21)⟩]
theorem tr36_11 : TR Tryd.f36 35 11 = some a36_11 := by kernel_rfl
def a36_12 : List AO := [⟨(some 23), none, .mv (.t 5)⟩,
  ⟨(some 24), none, .bin .mul (.t 23) (.v (.int .i64 32))⟩,
  ⟨(some 25), none, .mv (.t 7)⟩,
  ⟨(some 26), none, .bin .add (.t 24) (.t 25)⟩,
  ⟨(some 5), none, .mv (.t 26)⟩]
theorem tr36_12 : TR Tryd.f36 35 12 = some a36_12 := by kernel_rfl
def a36_13 : List AO := [⟨(some 27), none, .bin .add (.t 11) (.v (.int .i64 1))⟩,
  ⟨(some 11), none, .mv (.t 27)⟩]
theorem tr36_13 : TR Tryd.f36 35 13 = some a36_13 := by kernel_rfl
def a36_14 : List AO := [⟨(some 28), none, .mv (.t 0)⟩,
  ⟨(some 29), none, .sidx (.t 28) (.v (.int .i64 5))⟩,
  ⟨(some 30), none, .load (some 5) (.t 4)⟩,
  ⟨(some 31), none, .call 57 [(.t 30)]⟩,
  ⟨(some 32), none, .sidx (.v (.str [50, 51, 52, 53, 54, 55, 56, 57, 65, 66, 67, 68, 69, 70, 71, 72, 74, 75, 76, 77, 78, 80, 81, 82, 83, 84, 85, 86, 87, 88, 89, 90])) (.t 31)⟩,
  ⟨(some 33), none, .bin .neq (.t 29) (.t 32)⟩]
theorem tr36_14 : TR Tryd.f36 35 14 = some a36_14 := by kernel_rfl
def d36_14 : List (List Nat) := [[], [0], [], [2], [2, 3], [0, 1, 2, 3, 4]]
theorem ok36_14 : okReg (ro Tryd.f36 14) a36_14 d36_14 = true := by kernel_rfl
def a36_15 : List AO := [⟨(some 2), none, .mv (.v (.int .i64 0))⟩,
  ⟨(some 3), none, .mv (.v (.int .i64 3))⟩]
theorem tr36_15 : TR Tryd.f36 35 15 = some a36_15 := by kernel_rfl
def a36_16 : List AO := [⟨(some 34), none, .mv (.t 5)⟩,
  ⟨(some 2), none, .mv (.t 34)⟩,
  ⟨(some 3), none, .mv (.v (.int .i64 0))⟩]
theorem tr36_16 : TR Tryd.f36 35 16 = some a36_16 := by kernel_rfl
/-- strings.Split -/
noncomputable def c37 : Code := .seq (.region 0 (ro Tryd.f37 0) false) (.seq (.region 1 (ro Tryd.f37 1) false) (.ret))
theorem body37 : Tryd.f37.body = some c37 := by kernel_rfl
theorem res37 : Tryd.f37.results.toList.mapM (trR Tryd.prog) = some [.t 4] := by kernel_rfl
theorem nt37 : Tryd.f37.ntmps = 8 := by kernel_rfl
theorem nm37 : (Tryd.f37.name == "runtime.NumGoroutine") = false := by kernel_rfl
def a37_0 : List AO := [⟨(some 4), none, .mv (.v .nils)⟩]
theorem tr37_0 : TR Tryd.f37 8 0 = some a37_0 := by kernel_rfl
def a37_1 : List AO := [⟨(some 5), none, .mv (.t 0)⟩,
  ⟨(some 6), none, .mv (.t 1)⟩,
  ⟨(some 7), none, .call 58 [(.t 5), (.t 6), (.v (.int .i64 0)), (.v (.int .i64 (-1)))]⟩,
  ⟨(some 4), none, .mv (.t 7)⟩]
theorem tr37_1 : TR Tryd.f37 8 1 = some a37_1 := by kernel_rfl
/-- airline/text.every -/
noncomputable def c38 : Code := .seq (.region 0 (ro Tryd.f38 0) false) (.seq (.seq (.region 1 (ro Tryd.f38 1) false) (.block 0 (.loop (.seq (.region 2 (ro Tryd.f38 2) false) (.seq (.cond (.tmp 9) (.skip) (.exit 0)) (.seq (.block 1 (.seq (.region 3 (ro Tryd.f38 3) false) (.seq (.region 4 (ro Tryd.f38 4) false) (.cond (.tmp 16) (.seq (.region 5 (ro Tryd.f38 5) false) (.ret)) (.skip))))) (.region 6 (ro Tryd.f38 6) false))))))) (.seq (.region 7 (ro Tryd.f38 7) false) (.ret)))
theorem body38 : Tryd.f38.body = some c38 := by kernel_rfl
theorem res38 : Tryd.f38.results.toList.mapM (trR Tryd.prog) = some [.t 4] := by kernel_rfl
theorem nt38 : Tryd.f38.ntmps = 18 := by kernel_rfl
theorem nm38 : (Tryd.f38.name == "runtime.NumGoroutine") = false := by kernel_rfl
def a38_0 : List AO := [⟨(some 4), none, .mv (.v (.bool false))⟩]
theorem tr38_0 : TR Tryd.f38 18 0 = some a38_0 := by kernel_rfl
def a38_1 : List AO := [⟨(some 6), none, .mv (.t 0)⟩,
  ⟨(some 7), none, .slen (.t 6)⟩,
  ⟨(some 8), none, .mv (.v (.int .i64 0))⟩]
theorem tr38_1 : TR Tryd.f38 18 1 = some a38_1 := by kernel_rfl
def a38_2 : List AO := [⟨(some 9), none, .bin .lss (.t 8) (.t 7)⟩]
theorem tr38_2 : TR Tryd.f38 18 2 = some a38_2 := by kernel_rfl
def a38_3 : List AO := [⟨(some 10), none, .mv (.t 8)⟩,
  ⟨(some 5), none, .mv (.t 10)⟩]
theorem tr38_3 : TR Tryd.f38 18 3 = some a38_3 := by kernel_rfl
def a38_4 : List AO := [⟨(some 11), none, .mv (.t 1)⟩,
  ⟨(some 12), none, .mv (.t 0)⟩,
  ⟨(some 13), none, .mv (.t 5)⟩,
  ⟨(some 14), none, .sidx (.t 12) (.t 13)⟩,
  ⟨(some 15), none, .callv (.t 11) [(.t 14)]⟩,
  ⟨(some 16), none, .un .not (.t 15)⟩]
theorem tr38_4 : TR Tryd.f38 18 4 = some a38_4 := by kernel_rfl
def a38_5 : List AO := [⟨(some 4), none, .mv (.v (.bool false))⟩]
theorem tr38_5 : TR Tryd.f38 18 5 = some a38_5 := by kernel_rfl
def a38_6 : List AO := [⟨(some 17), none, .bin .add (.t 8) (.v (.int .i64 1))⟩,
  ⟨(some 8), none, .mv (.t 17)⟩]
theorem tr38_6 : TR Tryd.f38 18 6 = some a38_6 := by kernel_rfl
def a38_7 : List AO := [⟨(some 4), none, .mv (.v (.bool true))⟩]
theorem tr38_7 : TR Tryd.f38 18 7 = some a38_7 := by kernel_rfl
/-- airline/text.capital -/
noncomputable def c39 : Code := .seq (.region 0 (ro Tryd.f39 0) false) (.seq (.region 1 (ro Tryd.f39 1) false) (.ret))
theorem body39 : Tryd.f39.body = some c39 := by kernel_rfl
theorem res39 : Tryd.f39.results.toList.mapM (trR Tryd.prog) = some [.t 2] := by kernel_rfl
theorem nt39 : Tryd.f39.ntmps = 9 := by kernel_rfl
theorem nm39 : (Tryd.f39.name == "runtime.NumGoroutine") = false := by kernel_rfl
def a39_0 : List AO := [⟨(some 2), none, .mv (.v (.bool false))⟩]
theorem tr39_0 : TR Tryd.f39 9 0 = some a39_0 := by kernel_rfl
def a39_1 : List AO := [⟨(some 3), none, .mv (.t 0)⟩,
  ⟨(some 4), none, .bin .geq (.t 3) (.v (.int .u8 65))⟩,
  ⟨(some 5), none, .mv (.t 4)⟩,
  ⟨(some 6), some (5, true), .mv (.t 0)⟩,
  ⟨(some 7), some (5, true), .bin .leq (.t 6) (.v (.int .u8 90))⟩,
  ⟨(some 8), none, .pick (.t 5) (.t 7) (.v (.bool false))⟩,
  ⟨(some 2), none, .mv (.t 8)⟩]
theorem tr39_1 : TR Tryd.f39 9 1 = some a39_1 := by kernel_rfl
/-- airline/text.Code 1 -/
noncomputable def c40 : Code := .seq (.region 0 (ro Tryd.f40 0) false) (.seq (.region 1 (ro Tryd.f40 1) false) (.ret))
theorem body40 : Tryd.f40.body = some c40 := by kernel_rfl
theorem res40 : Tryd.f40.results.toList.mapM (trR Tryd.prog) = some [.t 2] := by kernel_rfl
theorem nt40 : Tryd.f40.ntmps = 9 := by kernel_rfl
theorem nm40 : (Tryd.f40.name == "runtime.NumGoroutine") = false := by kernel_rfl
def a40_0 : List AO := [⟨(some 2), none, .mv (.v (.bool false))⟩]
theorem tr40_0 : TR Tryd.f40 9 0 = some a40_0 := by kernel_rfl
def a40_1 : List AO := [⟨(some 3), none, .mv (.t 0)⟩,
  ⟨(some 4), none, .call 39 [(.t 3)]⟩,
  ⟨(some 5), none, .mv (.t 4)⟩,
  ⟨(some 6), some (5, false), .mv (.t 0)⟩,
  ⟨(some 7), some (5, false), .call 41 [(.t 6)]⟩,
  ⟨(some 8), none, .pick (.t 5) (.v (.bool true)) (.t 7)⟩,
  ⟨(some 2), none, .mv (.t 8)⟩]
theorem tr40_1 : TR Tryd.f40 9 1 = some a40_1 := by kernel_rfl
/-- airline/text.digit -/
noncomputable def c41 : Code := .seq (.region 0 (ro Tryd.f41 0) false) (.seq (.region 1 (ro Tryd.f41 1) false) (.ret))
theorem body41 : Tryd.f41.body = some c41 := by kernel_rfl
theorem res41 : Tryd.f41.results.toList.mapM (trR Tryd.prog) = some [.t 2] := by kernel_rfl
theorem nt41 : Tryd.f41.ntmps = 9 := by kernel_rfl
theorem nm41 : (Tryd.f41.name == "runtime.NumGoroutine") = false := by kernel_rfl
def a41_0 : List AO := [⟨(some 2), none, .mv (.v (.bool false))⟩]
theorem tr41_0 : TR Tryd.f41 9 0 = some a41_0 := by kernel_rfl
def a41_1 : List AO := [⟨(some 3), none, .mv (.t 0)⟩,
  ⟨(some 4), none, .bin .geq (.t 3) (.v (.int .u8 48))⟩,
  ⟨(some 5), none, .mv (.t 4)⟩,
  ⟨(some 6), some (5, true), .mv (.t 0)⟩,
  ⟨(some 7), some (5, true), .bin .leq (.t 6) (.v (.int .u8 57))⟩,
  ⟨(some 8), none, .pick (.t 5) (.t 7) (.v (.bool false))⟩,
  ⟨(some 2), none, .mv (.t 8)⟩]
theorem tr41_1 : TR Tryd.f41 9 1 = some a41_1 := by kernel_rfl
/-- airline/issue.first[airline/api.Coupon] -/
noncomputable def c42 : Code := .seq (.region 0 (ro Tryd.f42 0) false) (.seq (.region 1 (ro Tryd.f42 1) false) (.ret))
theorem body42 : Tryd.f42.body = some c42 := by kernel_rfl
theorem res42 : Tryd.f42.results.toList.mapM (trR Tryd.prog) = some [.t 2] := by kernel_rfl
theorem nt42 : Tryd.f42.ntmps = 8 := by kernel_rfl
theorem nm42 : (Tryd.f42.name == "runtime.NumGoroutine") = false := by kernel_rfl
def a42_0 : List AO := [⟨(some 2), none, .mv (.v .nils)⟩]
theorem tr42_0 : TR Tryd.f42 8 0 = some a42_0 := by kernel_rfl
def a42_1 : List AO := [⟨(some 3), none, .mv (.t 0)⟩,
  ⟨(some 4), none, .mv (.t 0)⟩,
  ⟨(some 5), none, .len (.t 4)⟩,
  ⟨(some 6), none, .mn (.t 5) (.v (.int .i64 1024))⟩,
  ⟨(some 7), none, .sub 11 none (some (.t 6)) none (.t 3)⟩,
  ⟨(some 2), none, .mv (.t 7)⟩]
theorem tr42_1 : TR Tryd.f42 8 1 = some a42_1 := by kernel_rfl
/-- airline/text.Class -/
noncomputable def c43 : Code := .seq (.region 0 (ro Tryd.f43 0) false) (.seq (.region 1 (ro Tryd.f43 1) false) (.ret))
theorem body43 : Tryd.f43.body = some c43 := by kernel_rfl
theorem res43 : Tryd.f43.results.toList.mapM (trR Tryd.prog) = some [.t 2] := by kernel_rfl
theorem nt43 : Tryd.f43.ntmps = 11 := by kernel_rfl
theorem nm43 : (Tryd.f43.name == "runtime.NumGoroutine") = false := by kernel_rfl
def a43_0 : List AO := [⟨(some 2), none, .mv (.v (.bool false))⟩]
theorem tr43_0 : TR Tryd.f43 11 0 = some a43_0 := by kernel_rfl
def a43_1 : List AO := [⟨(some 3), none, .mv (.t 0)⟩,
  ⟨(some 4), none, .slen (.t 3)⟩,
  ⟨(some 5), none, .bin .eql (.t 4) (.v (.int .i64 1))⟩,
  ⟨(some 6), none, .mv (.t 5)⟩,
  ⟨(some 7), some (6, true), .mv (.t 0)⟩,
  ⟨(some 8), some (6, true), .sidx (.t 7) (.v (.int .i64 0))⟩,
  ⟨(some 9), some (6, true), .call 39 [(.t 8)]⟩,
  ⟨(some 10), none, .pick (.t 6) (.t 9) (.v (.bool false))⟩,
  ⟨(some 2), none, .mv (.t 10)⟩]
theorem tr43_1 : TR Tryd.f43 11 1 = some a43_1 := by kernel_rfl
/-- airline/airlineref37.Make -/
noncomputable def c45 : Code := .seq (.region 0 (ro Tryd.f45 0) false) (.seq (.seq (.region 1 (ro Tryd.f45 1) false) (.cond (.tmp 20) (.seq (.region 2 (ro Tryd.f45 2) false) (.ret)) (.skip))) (.seq (.region 3 (ro Tryd.f45 3) false) (.seq (.region 4 (ro Tryd.f45 4) false) (.ret))))
theorem body45 : Tryd.f45.body = some c45 := by kernel_rfl
theorem res45 : Tryd.f45.results.toList.mapM (trR Tryd.prog) = some [.t 4, .t 5] := by kernel_rfl
theorem nt45 : Tryd.f45.ntmps = 30 := by kernel_rfl
theorem nm45 : (Tryd.f45.name == "runtime.NumGoroutine") = false := by kernel_rfl
def a45_0 : List AO := [⟨(some 4), none, .mv (.v (.int .i64 0))⟩,
  ⟨(some 5), none, .mv (.v (.int .i64 0))⟩]
theorem tr45_0 : TR Tryd.f45 30 0 = some a45_0 := by kernel_rfl
def a45_1 : List AO := [⟨(some 7), none, .mv (.t 0)⟩,
  ⟨(some 8), none, .bin .lss (.t 7) (.v (.int .i64 1))⟩,
  ⟨(some 9), none, .mv (.t 8)⟩,
  ⟨(some 10), some (9, false), .mv (.t 0)⟩,
  ⟨(some 11), some (9, false), .bin .gtr (.t 10) (.v (.int .i64 999))⟩,
  ⟨(some 12), none, .pick (.t 9) (.v (.bool true)) (.t 11)⟩,
  ⟨(some 13), none, .mv (.t 12)⟩,
  ⟨(some 14), some (13, false), .mv (.t 1)⟩,
  ⟨(some 15), some (13, false), .bin .lss (.t 14) (.v (.int .i64 0))⟩,
  ⟨(some 16), none, .pick (.t 13) (.v (.bool true)) (.t 15)⟩,
  ⟨(some 17), none, .mv (.t 16)⟩,
  ⟨(some 18), some (17, false), .mv (.t 1)⟩,
  ⟨(some 19), some (17, false), .bin .geq (.t 18) (.v (.int .i64 10000000000))⟩,
  ⟨(some 20), none, .pick (.t 17) (.v (.bool true)) (.t 19)⟩]
theorem tr45_1 : TR Tryd.f45 30 1 = some a45_1 := by kernel_rfl
def a45_2 : List AO := [⟨(some 4), none, .mv (.v (.int .i64 0))⟩,
  ⟨(some 5), none, .mv (.v (.int .i64 2))⟩]
theorem tr45_2 : TR Tryd.f45 30 2 = some a45_2 := by kernel_rfl
def a45_3 : List AO := [⟨(some 21), none, .mv (.t 0)⟩,
  ⟨(some 22), none, .bin .mul (.t 21) (.v (.int .i64 10000000000))⟩,
  ⟨(some 23), none, .mv (.t 1)⟩,
  ⟨(some 24), none, .bin .add (.t 22) (.t 23)⟩,
  ⟨(some 6), none, .mv (.t 24)⟩]
theorem tr45_3 : TR Tryd.f45 30 3 = some a45_3 := by kernel_rfl
def a45_4 : List AO := [⟨(some 25), none, .mv (.t 6)⟩,
  ⟨(some 26), none, .bin .mul (.v (.int .i64 10)) (.t 25)⟩,
  ⟨(some 27), none, .mv (.t 6)⟩,
  ⟨(some 28), none, .bin .rem (.t 27) (.v (.int .i64 7))⟩,
  ⟨(some 29), none, .bin .add (.t 26) (.t 28)⟩,
  ⟨(some 4), none, .mv (.t 29)⟩,
  ⟨(some 5), none, .mv (.v (.int .i64 0))⟩]
theorem tr45_4 : TR Tryd.f45 30 4 = some a45_4 := by kernel_rfl
/-- airline/airlineref34.Number -/
noncomputable def c46 : Code := .seq (.region 0 (ro Tryd.f46 0) false) (.seq (.region 1 (ro Tryd.f46 1) false) (.seq (.seq (.region 2 (ro Tryd.f46 2) false) (.block 0 (.loop (.seq (.seq (.region 3 (ro Tryd.f46 3) false) (.cond (.tmp 15) (.skip) (.exit 0))) (.seq (.block 1 (.seq (.seq (.region 5 (ro Tryd.f46 5) false) (.cond (.tmp 22) (.seq (.region 6 (ro Tryd.f46 6) false) (.ret)) (.skip))) (.region 7 (ro Tryd.f46 7) false))) (.region 4 (ro Tryd.f46 4) false)))))) (.seq (.region 8 (ro Tryd.f46 8) false) (.seq (.seq (.region 9 (ro Tryd.f46 9) false) (.cond (.tmp 37) (.seq (.region 10 (ro Tryd.f46 10) false) (.ret)) (.skip))) (.seq (.region 11 (ro Tryd.f46 11) false) (.ret))))))
theorem body46 : Tryd.f46.body = some c46 := by kernel_rfl
theorem res46 : Tryd.f46.results.toList.mapM (trR Tryd.prog) = some [.t 2, .t 3] := by kernel_rfl
theorem nt46 : Tryd.f46.ntmps = 39 := by kernel_rfl
theorem nm46 : (Tryd.f46.name == "runtime.NumGoroutine") = false := by kernel_rfl
def a46_0 : List AO := [⟨(some 2), none, .mv (.v (.int .i64 0))⟩,
  ⟨(some 3), none, .mv (.v (.int .i64 0))⟩]
theorem tr46_0 : TR Tryd.f46 39 0 = some a46_0 := by kernel_rfl
def a46_1 : List AO := [⟨(some 4), none, .mv (.v (.int .i64 0))⟩]
theorem tr46_1 : TR Tryd.f46 39 1 = some a46_1 := by kernel_rfl
def a46_2 : List AO := [⟨(some 5), none, .mv (.v (.int .i64 0))⟩]
theorem tr46_2 : TR Tryd.f46 39 2 = some a46_2 := by kernel_rfl
def a46_3 : List AO := [⟨(some 8), none, .mv (.t 5)⟩,
  ⟨(some 9), none, .mv (.t 0)⟩,
  ⟨(some 10), none, .slen (.t 9)⟩,
  ⟨(some 11), none, .bin .lss (.t 8) (.t 10)⟩,
  ⟨(some 12), none, .mv (.t 11)⟩,
  ⟨(some 13), some (12, true), .mv (.t 5)⟩,
  ⟨(some 14), some (12, true), .bin .lss (.t 13) (.v (.int .i64 5))⟩,
  ⟨(some 15), none, .pick (.t 12) (.t 14) (.v (.bool false))⟩]
theorem tr46_3 : TR Tryd.f46 39 3 = some a46_3 := by kernel_rfl
def a46_5 : List AO := [⟨(some 18), none, .mv (.t 0)⟩,
  ⟨(some 19), none, .mv (.t 5)⟩,
  ⟨(some 20), none, .sidx (.t 18) (.t 19)⟩,
  ⟨(some 21), none, .call 60 [(.t 20)]⟩,
  ⟨(some 22), none, .bin .lss (.t 21) (.v (.int .i64 0))⟩]
theorem tr46_5 : TR Tryd.f46 39 5 = some a46_5 := by kernel_rfl
def a46_6 : List AO := [⟨(some 2), none, .mv (.v (.int .i64 0))⟩,
  ⟨(some 3), none, .mv (.v (.int .i64 3))⟩]
theorem tr46_6 : TR Tryd.f46 39 6 = some a46_6 := by kernel_rfl
def a46_7 : List AO := [⟨(some 23), none, .mv (.t 4)⟩,
  ⟨(some 24), none, .bin .mul (.v (.int .i64 32)) (.t 23)⟩,
  ⟨(some 25), none, .mv (.t 0)⟩,
  ⟨(some 26), none, .mv (.t 5)⟩,
  ⟨(some 27), none, .sidx (.t 25) (.t 26)⟩,
  ⟨(some 28), none, .call 60 [(.t 27)]⟩,
  ⟨(some 29), none, .bin .add (.t 24) (.t 28)⟩,
  ⟨(some 4), none, .mv (.t 29)⟩]
theorem tr46_7 : TR Tryd.f46 39 7 = some a46_7 := by kernel_rfl
def a46_4 : List AO := [⟨(some 16), none, .mv (.t 5)⟩,
  ⟨(some 17), none, .bin .add (.t 16) (.v (.int .i64 1))⟩,
  ⟨(some 5), none, .mv (.t 17)⟩]
theorem tr46_4 : TR Tryd.f46 39 4 = some a46_4 := by kernel_rfl
def a46_8 : List AO := [⟨(some 31), none, .mv (.t 4)⟩,
  ⟨(some 32), none, .call 61 [(.t 31)]⟩,
  ⟨(some 30), none, .mv (.t 32)⟩,
  ⟨(some 33), none, .ext 0 (.t 30)⟩,
  ⟨(some 34), none, .ext 1 (.t 30)⟩,
  ⟨(some 6), none, .mv (.t 33)⟩,
  ⟨(some 7), none, .mv (.t 34)⟩]
theorem tr46_8 : TR Tryd.f46 39 8 = some a46_8 := by kernel_rfl
def a46_9 : List AO := [⟨(some 35), none, .mv (.t 6)⟩,
  ⟨(some 36), none, .mv (.t 0)⟩,
  ⟨(some 37), none, .bin .neq (.t 35) (.t 36)⟩]
theorem tr46_9 : TR Tryd.f46 39 9 = some a46_9 := by kernel_rfl
def a46_10 : List AO := [⟨(some 2), none, .mv (.v (.int .i64 0))⟩,
  ⟨(some 3), none, .mv (.v (.int .i64 3))⟩]
theorem tr46_10 : TR Tryd.f46 39 10 = some a46_10 := by kernel_rfl
def a46_11 : List AO := [⟨(some 38), none, .mv (.t 4)⟩,
  ⟨(some 2), none, .mv (.t 38)⟩,
  ⟨(some 3), none, .mv (.v (.int .i64 0))⟩]
theorem tr46_11 : TR Tryd.f46 39 11 = some a46_11 := by kernel_rfl
/-- airline/airlineref01.upper -/
noncomputable def c47 : Code := .seq (.region 0 (ro Tryd.f47 0) false) (.seq (.region 1 (ro Tryd.f47 1) false) (.ret))
theorem body47 : Tryd.f47.body = some c47 := by kernel_rfl
theorem res47 : Tryd.f47.results.toList.mapM (trR Tryd.prog) = some [.t 2] := by kernel_rfl
theorem nt47 : Tryd.f47.ntmps = 9 := by kernel_rfl
theorem nm47 : (Tryd.f47.name == "runtime.NumGoroutine") = false := by kernel_rfl
def a47_0 : List AO := [⟨(some 2), none, .mv (.v (.bool false))⟩]
theorem tr47_0 : TR Tryd.f47 9 0 = some a47_0 := by kernel_rfl
def a47_1 : List AO := [⟨(some 3), none, .mv (.t 0)⟩,
  ⟨(some 4), none, .bin .geq (.t 3) (.v (.int .u8 65))⟩,
  ⟨(some 5), none, .mv (.t 4)⟩,
  ⟨(some 6), some (5, true), .mv (.t 0)⟩,
  ⟨(some 7), some (5, true), .bin .leq (.t 6) (.v (.int .u8 90))⟩,
  ⟨(some 8), none, .pick (.t 5) (.t 7) (.v (.bool false))⟩,
  ⟨(some 2), none, .mv (.t 8)⟩]
theorem tr47_1 : TR Tryd.f47 9 1 = some a47_1 := by kernel_rfl
/-- airline/airlineref01.digit -/
noncomputable def c48 : Code := .seq (.region 0 (ro Tryd.f48 0) false) (.seq (.region 1 (ro Tryd.f48 1) false) (.ret))
theorem body48 : Tryd.f48.body = some c48 := by kernel_rfl
theorem res48 : Tryd.f48.results.toList.mapM (trR Tryd.prog) = some [.t 2] := by kernel_rfl
theorem nt48 : Tryd.f48.ntmps = 9 := by kernel_rfl
theorem nm48 : (Tryd.f48.name == "runtime.NumGoroutine") = false := by kernel_rfl
def a48_0 : List AO := [⟨(some 2), none, .mv (.v (.bool false))⟩]
theorem tr48_0 : TR Tryd.f48 9 0 = some a48_0 := by kernel_rfl
def a48_1 : List AO := [⟨(some 3), none, .mv (.t 0)⟩,
  ⟨(some 4), none, .bin .geq (.t 3) (.v (.int .u8 48))⟩,
  ⟨(some 5), none, .mv (.t 4)⟩,
  ⟨(some 6), some (5, true), .mv (.t 0)⟩,
  ⟨(some 7), some (5, true), .bin .leq (.t 6) (.v (.int .u8 57))⟩,
  ⟨(some 8), none, .pick (.t 5) (.t 7) (.v (.bool false))⟩,
  ⟨(some 2), none, .mv (.t 8)⟩]
theorem tr48_1 : TR Tryd.f48 9 1 = some a48_1 := by kernel_rfl
/-- airline/airlineref40.index -/
noncomputable def c49 : Code := .seq (.region 0 (ro Tryd.f49 0) false) (.seq (.region 1 (ro Tryd.f49 1) false) (.ret))
theorem body49 : Tryd.f49.body = some c49 := by kernel_rfl
theorem res49 : Tryd.f49.results.toList.mapM (trR Tryd.prog) = some [.t 4] := by kernel_rfl
theorem nt49 : Tryd.f49.ntmps = 10 := by kernel_rfl
theorem nm49 : (Tryd.f49.name == "runtime.NumGoroutine") = false := by kernel_rfl
def a49_0 : List AO := [⟨(some 4), none, .mv (.v (.str []))⟩]
theorem tr49_0 : TR Tryd.f49 10 0 = some a49_0 := by kernel_rfl
def a49_1 : List AO := [⟨(some 5), none, .mv (.t 0)⟩,
  ⟨(some 6), none, .bin .add (.t 5) (.v (.str [46]))⟩,
  ⟨(some 7), none, .mv (.t 1)⟩,
  ⟨(some 8), none, .call 62 [(.t 7)]⟩,
  ⟨(some 9), none, .bin .add (.t 6) (.t 8)⟩,
  ⟨(some 4), none, .mv (.t 9)⟩]
theorem tr49_1 : TR Tryd.f49 10 1 = some a49_1 := by kernel_rfl
/-- airline/airlineref01.Class -/
noncomputable def c50 : Code := .seq (.region 0 (ro Tryd.f50 0) false) (.seq (.region 1 (ro Tryd.f50 1) false) (.ret))
theorem body50 : Tryd.f50.body = some c50 := by kernel_rfl
theorem res50 : Tryd.f50.results.toList.mapM (trR Tryd.prog) = some [.t 2] := by kernel_rfl
theorem nt50 : Tryd.f50.ntmps = 5 := by kernel_rfl
theorem nm50 : (Tryd.f50.name == "runtime.NumGoroutine") = false := by kernel_rfl
def a50_0 : List AO := [⟨(some 2), none, .mv (.v (.bool false))⟩]
theorem tr50_0 : TR Tryd.f50 5 0 = some a50_0 := by kernel_rfl
def a50_1 : List AO := [⟨(some 3), none, .mv (.t 0)⟩,
  ⟨(some 4), none, .call 63 [(.t 3), (.v (.int .i64 1))]⟩,
  ⟨(some 2), none, .mv (.t 4)⟩]
theorem tr50_1 : TR Tryd.f50 5 1 = some a50_1 := by kernel_rfl
/-- airline/airlineref40.over -/
noncomputable def c51 : Code := .seq (.region 0 (ro Tryd.f51 0) false) (.seq (.region 1 (ro Tryd.f51 1) false) (.ret))
theorem body51 : Tryd.f51.body = some c51 := by kernel_rfl
theorem res51 : Tryd.f51.results.toList.mapM (trR Tryd.prog) = some [.t 2] := by kernel_rfl
theorem nt51 : Tryd.f51.ntmps = 9 := by kernel_rfl
theorem nm51 : (Tryd.f51.name == "runtime.NumGoroutine") = false := by kernel_rfl
def a51_0 : List AO := [⟨(some 2), none, .mv (.v (.bool false))⟩]
theorem tr51_0 : TR Tryd.f51 9 0 = some a51_0 := by kernel_rfl
def a51_1 : List AO := [⟨(some 3), none, .mv (.t 0)⟩,
  ⟨(some 4), none, .bin .lss (.t 3) (.v (.int .i64 0))⟩,
  ⟨(some 5), none, .mv (.t 4)⟩,
  ⟨(some 6), some (5, false), .mv (.t 0)⟩,
  ⟨(some 7), some (5, false), .bin .gtr (.t 6) (.v (.int .i64 1099511627776))⟩,
  ⟨(some 8), none, .pick (.t 5) (.v (.bool true)) (.t 7)⟩,
  ⟨(some 2), none, .mv (.t 8)⟩]
theorem tr51_1 : TR Tryd.f51 9 1 = some a51_1 := by kernel_rfl
/-- airline/coupon.next -/
noncomputable def c52 : Code := .seq (.region 0 (ro Tryd.f52 0) false) (.seq (.seq (.region 1 (ro Tryd.f52 1) false) (.block 0 (.seq (.region 2 (ro Tryd.f52 2) false) (.cond (.tmp 8) (.seq (.region 3 (ro Tryd.f52 3) false) (.ret)) (.seq (.seq (.region 4 (ro Tryd.f52 4) false) (.cond (.tmp 11) (.skip) (.seq (.region 5 (ro Tryd.f52 5) false) (.cond (.tmp 11) (.skip) (.region 6 (ro Tryd.f52 6) false))))) (.cond (.tmp 11) (.seq (.region 7 (ro Tryd.f52 7) false) (.ret)) (.seq (.region 8 (ro Tryd.f52 8) false) (.cond (.tmp 18) (.seq (.region 9 (ro Tryd.f52 9) false) (.ret)) (.seq (.region 10 (ro Tryd.f52 10) false) (.cond (.tmp 21) (.seq (.region 11 (ro Tryd.f52 11) false) (.ret)) (.seq (.region 12 (ro Tryd.f52 12) false) (.cond (.tmp 24) (.seq (.region 13 (ro Tryd.f52 13) false) (.ret)) (.seq (.seq (.region 14 (ro Tryd.f52 14) false) (.cond (.tmp 27) (.skip) (.region 15 (ro Tryd.f52 15) false))) (.cond (.tmp 27) (.seq (.region 16 (ro Tryd.f52 16) false) (.ret)) (.seq (.region 17 (ro Tryd.f52 17) false) (.cond (.tmp 32) (.seq (.region 18 (ro Tryd.f52 18) false) (.ret)) (.seq (.region 19 (ro Tryd.f52 19) false) (.cond (.tmp 35) (.seq (.region 20 (ro Tryd.f52 20) false) (.ret)) (.skip))))))))))))))))))) (.seq (.region 21 (ro Tryd.f52 21) false) (.ret)))
theorem body52 : Tryd.f52.body = some c52 := by kernel_rfl
theorem res52 : Tryd.f52.results.toList.mapM (trR Tryd.prog) = some [.t 4] := by kernel_rfl
theorem nt52 : Tryd.f52.ntmps = 38 := by kernel_rfl
theorem nm52 : (Tryd.f52.name == "runtime.NumGoroutine") = false := by kernel_rfl
def a52_0 : List AO := [⟨(some 4), none, .mv (.v (.int .i64 0))⟩]
theorem tr52_0 : TR Tryd.f52 38 0 = some a52_0 := by kernel_rfl
def a52_1 : List AO := [⟨(some 5), none, .mv (.t 0)⟩,
  ⟨(some 6), none, .mv (.t 1)⟩,
  ⟨(some 7), none, .build [(.int .i64 0), (.int .i64 0)] [(0, 1, (.t 5)), (1, 1, (.t 6))]⟩]
theorem tr52_1 : TR Tryd.f52 38 1 = some a52_1 := by kernel_rfl
def a52_2 : List AO := [⟨(some 9), none, .build [(.int .i64 0), (.int .i64 0)] [(0, 1, (.v (.int .i64 1))), (1, 1, (.v (.int .i64 1)))]⟩,
  ⟨(some 10), none, .bina [.i .i64, .i .i64] .eql (.t 7) (.t 9)⟩,
  ⟨(some 8), none, .mv (.t 10)⟩]
theorem tr52_2 : TR Tryd.f52 38 2 = some a52_2 := by kernel_rfl
def a52_3 : List AO := [⟨(some 4), none, .mv (.v (.int .i64 2))⟩]
theorem tr52_3 : TR Tryd.f52 38 3 = some a52_3 := by kernel_rfl
def a52_4 : List AO := [⟨(some 12), none, .build [(.int .i64 0), (.int .i64 0)] [(0, 1, (.v (.int .i64 1))), (1, 1, (.v (.int .i64 3)))]⟩,
  ⟨(some 13), none, .bina [.i .i64, .i .i64] .eql (.t 7) (.t 12)⟩,
  ⟨(some 11), none, .mv (.t 13)⟩]
theorem tr52_4 : TR Tryd.f52 38 4 = some a52_4 := by kernel_rfl
def a52_5 : List AO := [⟨(some 14), none, .build [(.int .i64 0), (.int .i64 0)] [(0, 1, (.v (.int .i64 2))), (1, 1, (.v (.int .i64 3)))]⟩,
  ⟨(some 15), none, .bina [.i .i64, .i .i64] .eql (.t 7) (.t 14)⟩,
  ⟨(some 11), none, .mv (.t 15)⟩]
theorem tr52_5 : TR Tryd.f52 38 5 = some a52_5 := by kernel_rfl
def a52_6 : List AO := [⟨(some 16), none, .build [(.int .i64 0), (.int .i64 0)] [(0, 1, (.v (.int .i64 4))), (1, 1, (.v (.int .i64 6)))]⟩,
  ⟨(some 17), none, .bina [.i .i64, .i .i64] .eql (.t 7) (.t 16)⟩,
  ⟨(some 11), none, .mv (.t 17)⟩]
theorem tr52_6 : TR Tryd.f52 38 6 = some a52_6 := by kernel_rfl
def a52_7 : List AO := [⟨(some 4), none, .mv (.v (.int .i64 3))⟩]
theorem tr52_7 : TR Tryd.f52 38 7 = some a52_7 := by kernel_rfl
def a52_8 : List AO := [⟨(some 19), none, .build [(.int .i64 0), (.int .i64 0)] [(0, 1, (.v (.int .i64 1))), (1, 1, (.v (.int .i64 8)))]⟩,
  ⟨(some 20), none, .bina [.i .i64, .i .i64] .eql (.t 7) (.t 19)⟩,
  ⟨(some 18), none, .mv (.t 20)⟩]
theorem tr52_8 : TR Tryd.f52 38 8 = some a52_8 := by kernel_rfl
def a52_9 : List AO := [⟨(some 4), none, .mv (.v (.int .i64 6))⟩]
theorem tr52_9 : TR Tryd.f52 38 9 = some a52_9 := by kernel_rfl
def a52_10 : List AO := [⟨(some 22), none, .build [(.int .i64 0), (.int .i64 0)] [(0, 1, (.v (.int .i64 1))), (1, 1, (.v (.int .i64 9)))]⟩,
  ⟨(some 23), none, .bina [.i .i64, .i .i64] .eql (.t 7) (.t 22)⟩,
  ⟨(some 21), none, .mv (.t 23)⟩]
theorem tr52_10 : TR Tryd.f52 38 10 = some a52_10 := by kernel_rfl
def a52_11 : List AO := [⟨(some 4), none, .mv (.v (.int .i64 7))⟩]
theorem tr52_11 : TR Tryd.f52 38 11 = some a52_11 := by kernel_rfl
def a52_12 : List AO := [⟨(some 25), none, .build [(.int .i64 0), (.int .i64 0)] [(0, 1, (.v (.int .i64 1))), (1, 1, (.v (.int .i64 10)))]⟩,
  ⟨(some 26), none, .bina [.i .i64, .i .i64] .eql (.t 7) (.t 25)⟩,
  ⟨(some 24), none, .mv (.t 26)⟩]
theorem tr52_12 : TR Tryd.f52 38 12 = some a52_12 := by kernel_rfl
def a52_13 : List AO := [⟨(some 4), none, .mv (.v (.int .i64 8))⟩]
theorem tr52_13 : TR Tryd.f52 38 13 = some a52_13 := by kernel_rfl
def a52_14 : List AO := [⟨(some 28), none, .build [(.int .i64 0), (.int .i64 0)] [(0, 1, (.v (.int .i64 2))), (1, 1, (.v (.int .i64 2)))]⟩,
  ⟨(some 29), none, .bina [.i .i64, .i .i64] .eql (.t 7) (.t 28)⟩,
  ⟨(some 27), none, .mv (.t 29)⟩]
theorem tr52_14 : TR Tryd.f52 38 14 = some a52_14 := by kernel_rfl
def a52_15 : List AO := [⟨(some 30), none, .build [(.int .i64 0), (.int .i64 0)] [(0, 1, (.v (.int .i64 3))), (1, 1, (.v (.int .i64 4)))]⟩,
  ⟨(some 31), none, .bina [.i .i64, .i .i64] .eql (.t 7) (.t 30)⟩,
  ⟨(some 27), none, .mv (.t 31)⟩]
theorem tr52_15 : TR Tryd.f52 38 15 = some a52_15 := by kernel_rfl
def a52_16 : List AO := [⟨(some 4), none, .mv (.v (.int .i64 1))⟩]
theorem tr52_16 : TR Tryd.f52 38 16 = some a52_16 := by kernel_rfl
def a52_17 : List AO := [⟨(some 33), none, .build [(.int .i64 0), (.int .i64 0)] [(0, 1, (.v (.int .i64 3))), (1, 1, (.v (.int .i64 5)))]⟩,
  ⟨(some 34), none, .bina [.i .i64, .i .i64] .eql (.t 7) (.t 33)⟩,
  ⟨(some 32), none, .mv (.t 34)⟩]
theorem tr52_17 : TR Tryd.f52 38 17 = some a52_17 := by kernel_rfl
def a52_18 : List AO := [⟨(some 4), none, .mv (.v (.int .i64 4))⟩]
theorem tr52_18 : TR Tryd.f52 38 18 = some a52_18 := by kernel_rfl
def a52_19 : List AO := [⟨(some 36), none, .build [(.int .i64 0), (.int .i64 0)] [(0, 1, (.v (.int .i64 4))), (1, 1, (.v (.int .i64 7)))]⟩,
  ⟨(some 37), none, .bina [.i .i64, .i .i64] .eql (.t 7) (.t 36)⟩,
  ⟨(some 35), none, .mv (.t 37)⟩]
theorem tr52_19 : TR Tryd.f52 38 19 = some a52_19 := by kernel_rfl
def a52_20 : List AO := [⟨(some 4), none, .mv (.v (.int .i64 5))⟩]
theorem tr52_20 : TR Tryd.f52 38 20 = some a52_20 := by kernel_rfl
def a52_21 : List AO := [⟨(some 4), none, .mv (.v (.int .i64 0))⟩]
theorem tr52_21 : TR Tryd.f52 38 21 = some a52_21 := by kernel_rfl
/-- airline/airlineref38.known -/
noncomputable def c53 : Code := .seq (.region 0 (ro Tryd.f53 0) false) (.seq (.region 1 (ro Tryd.f53 1) false) (.ret))
theorem body53 : Tryd.f53.body = some c53 := by kernel_rfl
theorem res53 : Tryd.f53.results.toList.mapM (trR Tryd.prog) = some [.t 2] := by kernel_rfl
theorem nt53 : Tryd.f53.ntmps = 9 := by kernel_rfl
theorem nm53 : (Tryd.f53.name == "runtime.NumGoroutine") = false := by kernel_rfl
def a53_0 : List AO := [⟨(some 2), none, .mv (.v (.bool false))⟩]
theorem tr53_0 : TR Tryd.f53 9 0 = some a53_0 := by kernel_rfl
def a53_1 : List AO := [⟨(some 3), none, .mv (.t 0)⟩,
  ⟨(some 4), none, .bin .geq (.t 3) (.v (.int .i64 1))⟩,
  ⟨(some 5), none, .mv (.t 4)⟩,
  ⟨(some 6), some (5, true), .mv (.t 0)⟩,
  ⟨(some 7), some (5, true), .bin .leq (.t 6) (.v (.int .i64 8))⟩,
  ⟨(some 8), none, .pick (.t 5) (.t 7) (.v (.bool false))⟩,
  ⟨(some 2), none, .mv (.t 8)⟩]
theorem tr53_1 : TR Tryd.f53 9 1 = some a53_1 := by kernel_rfl
/-- airline/airlineref38.after -/
noncomputable def c54 : Code := .seq (.region 0 (ro Tryd.f54 0) false) (.seq (.seq (.region 1 (ro Tryd.f54 1) false) (.block 0 (.seq (.region 2 (ro Tryd.f54 2) false) (.cond (.tmp 9) (.seq (.region 3 (ro Tryd.f54 3) false) (.ret)) (.seq (.seq (.region 4 (ro Tryd.f54 4) false) (.cond (.tmp 11) (.skip) (.seq (.region 5 (ro Tryd.f54 5) false) (.cond (.tmp 11) (.skip) (.region 6 (ro Tryd.f54 6) false))))) (.cond (.tmp 11) (.seq (.region 7 (ro Tryd.f54 7) false) (.ret)) (.seq (.region 8 (ro Tryd.f54 8) false) (.cond (.tmp 15) (.seq (.region 9 (ro Tryd.f54 9) false) (.ret)) (.seq (.region 10 (ro Tryd.f54 10) false) (.cond (.tmp 17) (.seq (.region 11 (ro Tryd.f54 11) false) (.ret)) (.seq (.region 12 (ro Tryd.f54 12) false) (.cond (.tmp 19) (.seq (.region 13 (ro Tryd.f54 13) false) (.ret)) (.seq (.seq (.region 14 (ro Tryd.f54 14) false) (.cond (.tmp 21) (.skip) (.region 15 (ro Tryd.f54 15) false))) (.cond (.tmp 21) (.seq (.region 16 (ro Tryd.f54 16) false) (.ret)) (.seq (.region 17 (ro Tryd.f54 17) false) (.cond (.tmp 24) (.seq (.region 18 (ro Tryd.f54 18) false) (.ret)) (.seq (.region 19 (ro Tryd.f54 19) false) (.cond (.tmp 26) (.seq (.region 20 (ro Tryd.f54 20) false) (.ret)) (.skip))))))))))))))))))) (.seq (.region 21 (ro Tryd.f54 21) false) (.ret)))
theorem body54 : Tryd.f54.body = some c54 := by kernel_rfl
theorem res54 : Tryd.f54.results.toList.mapM (trR Tryd.prog) = some [.t 4] := by kernel_rfl
theorem nt54 : Tryd.f54.ntmps = 28 := by kernel_rfl
theorem nm54 : (Tryd.f54.name == "runtime.NumGoroutine") = false := by kernel_rfl
def a54_0 : List AO := [⟨(some 4), none, .mv (.v (.int .i64 0))⟩]
theorem tr54_0 : TR Tryd.f54 28 0 = some a54_0 := by kernel_rfl
def a54_1 : List AO := [⟨(some 5), none, .mv (.t 0)⟩,
  ⟨(some 6), none, .bin .mul (.v (.int .i64 100)) (.t 5)⟩,
  ⟨(some 7), none, .mv (.t 1)⟩,
  ⟨(some 8), none, .bin .add (.t 6) (.t 7)⟩]
theorem tr54_1 : TR Tryd.f54 28 1 = some a54_1 := by kernel_rfl
def a54_2 : List AO := [⟨(some 10), none, .bin .eql (.t 8) (.v (.int .i64 101))⟩,
  ⟨(some 9), none, .mv (.t 10)⟩]
theorem tr54_2 : TR Tryd.f54 28 2 = some a54_2 := by kernel_rfl
def a54_3 : List AO := [⟨(some 4), none, .mv (.v (.int .i64 2))⟩]
theorem tr54_3 : TR Tryd.f54 28 3 = some a54_3 := by kernel_rfl
def a54_4 : List AO := [⟨(some 12), none, .bin .eql (.t 8) (.v (.int .i64 103))⟩,
  ⟨(some 11), none, .mv (.t 12)⟩]
theorem tr54_4 : TR Tryd.f54 28 4 = some a54_4 := by kernel_rfl
def a54_5 : List AO := [⟨(some 13), none, .bin .eql (.t 8) (.v (.int .i64 203))⟩,
  ⟨(some 11), none, .mv (.t 13)⟩]
theorem tr54_5 : TR Tryd.f54 28 5 = some a54_5 := by kernel_rfl
def a54_6 : List AO := [⟨(some 14), none, .bin .eql (.t 8) (.v (.int .i64 406))⟩,
  ⟨(some 11), none, .mv (.t 14)⟩]
theorem tr54_6 : TR Tryd.f54 28 6 = some a54_6 := by kernel_rfl
def a54_7 : List AO := [⟨(some 4), none, .mv (.v (.int .i64 3))⟩]
theorem tr54_7 : TR Tryd.f54 28 7 = some a54_7 := by kernel_rfl
def a54_8 : List AO := [⟨(some 16), none, .bin .eql (.t 8) (.v (.int .i64 108))⟩,
  ⟨(some 15), none, .mv (.t 16)⟩]
theorem tr54_8 : TR Tryd.f54 28 8 = some a54_8 := by kernel_rfl
def a54_9 : List AO := [⟨(some 4), none, .mv (.v (.int .i64 6))⟩]
theorem tr54_9 : TR Tryd.f54 28 9 = some a54_9 := by kernel_rfl
def a54_10 : List AO := [⟨(some 18), none, .bin .eql (.t 8) (.v (.int .i64 109))⟩,
  ⟨(some 17), none, .mv (.t 18)⟩]
theorem tr54_10 : TR Tryd.f54 28 10 = some a54_10 := by kernel_rfl
def a54_11 : List AO := [⟨(some 4), none, .mv (.v (.int .i64 7))⟩]
theorem tr54_11 : TR Tryd.f54 28 11 = some a54_11 := by kernel_rfl
def a54_12 : List AO := [⟨(some 20), none, .bin .eql (.t 8) (.v (.int .i64 110))⟩,
  ⟨(some 19), none, .mv (.t 20)⟩]
theorem tr54_12 : TR Tryd.f54 28 12 = some a54_12 := by kernel_rfl
def a54_13 : List AO := [⟨(some 4), none, .mv (.v (.int .i64 8))⟩]
theorem tr54_13 : TR Tryd.f54 28 13 = some a54_13 := by kernel_rfl
def a54_14 : List AO := [⟨(some 22), none, .bin .eql (.t 8) (.v (.int .i64 202))⟩,
  ⟨(some 21), none, .mv (.t 22)⟩]
theorem tr54_14 : TR Tryd.f54 28 14 = some a54_14 := by kernel_rfl
def a54_15 : List AO := [⟨(some 23), none, .bin .eql (.t 8) (.v (.int .i64 304))⟩,
  ⟨(some 21), none, .mv (.t 23)⟩]
theorem tr54_15 : TR Tryd.f54 28 15 = some a54_15 := by kernel_rfl
def a54_16 : List AO := [⟨(some 4), none, .mv (.v (.int .i64 1))⟩]
theorem tr54_16 : TR Tryd.f54 28 16 = some a54_16 := by kernel_rfl
def a54_17 : List AO := [⟨(some 25), none, .bin .eql (.t 8) (.v (.int .i64 305))⟩,
  ⟨(some 24), none, .mv (.t 25)⟩]
theorem tr54_17 : TR Tryd.f54 28 17 = some a54_17 := by kernel_rfl
def a54_18 : List AO := [⟨(some 4), none, .mv (.v (.int .i64 4))⟩]
theorem tr54_18 : TR Tryd.f54 28 18 = some a54_18 := by kernel_rfl
def a54_19 : List AO := [⟨(some 27), none, .bin .eql (.t 8) (.v (.int .i64 407))⟩,
  ⟨(some 26), none, .mv (.t 27)⟩]
theorem tr54_19 : TR Tryd.f54 28 19 = some a54_19 := by kernel_rfl
def a54_20 : List AO := [⟨(some 4), none, .mv (.v (.int .i64 5))⟩]
theorem tr54_20 : TR Tryd.f54 28 20 = some a54_20 := by kernel_rfl
def a54_21 : List AO := [⟨(some 4), none, .mv (.v (.int .i64 0))⟩]
theorem tr54_21 : TR Tryd.f54 28 21 = some a54_21 := by kernel_rfl
/-- airline/docnum.Make -/
noncomputable def c55 : Code := .seq (.region 0 (ro Tryd.f55 0) false) (.seq (.seq (.region 1 (ro Tryd.f55 1) false) (.cond (.tmp 19) (.seq (.region 2 (ro Tryd.f55 2) false) (.ret)) (.skip))) (.seq (.region 3 (ro Tryd.f55 3) false) (.ret)))
theorem body55 : Tryd.f55.body = some c55 := by kernel_rfl
theorem res55 : Tryd.f55.results.toList.mapM (trR Tryd.prog) = some [.t 4, .t 5] := by kernel_rfl
theorem nt55 : Tryd.f55.ntmps = 29 := by kernel_rfl
theorem nm55 : (Tryd.f55.name == "runtime.NumGoroutine") = false := by kernel_rfl
def a55_0 : List AO := [⟨(some 4), none, .mv (.v (.int .i64 0))⟩,
  ⟨(some 5), none, .mv (.v (.int .i64 0))⟩]
theorem tr55_0 : TR Tryd.f55 29 0 = some a55_0 := by kernel_rfl
def a55_1 : List AO := [⟨(some 6), none, .mv (.t 0)⟩,
  ⟨(some 7), none, .bin .lss (.t 6) (.v (.int .i64 1))⟩,
  ⟨(some 8), none, .mv (.t 7)⟩,
  ⟨(some 9), some (8, false), .mv (.t 0)⟩,
  ⟨(some 10), some (8, false), .bin .geq (.t 9) (.v (.int .i64 1000))⟩,
  ⟨(some 11), none, .pick (.t 8) (.v (.bool true)) (.t 10)⟩,
  ⟨(some 12), none, .mv (.t 11)⟩,
  ⟨(some 13), some (12, false), .mv (.t 1)⟩,
  ⟨(some 14), some (12, false), .bin .lss (.t 13) (.v (.int .i64 0))⟩,
  ⟨(some 15), none, .pick (.t 12) (.v (.bool true)) (.t 14)⟩,
  ⟨(some 16), none, .mv (.t 15)⟩,
  ⟨(some 17), some (16, false), .mv (.t 1)⟩,
  ⟨(some 18), some (16, false), .bin .geq (.t 17) (.v (.int .i64 10000000000))⟩,
  ⟨(some 19), none, .pick (.t 16) (.v (.bool true)) (.t 18)⟩]
theorem tr55_1 : TR Tryd.f55 29 1 = some a55_1 := by kernel_rfl
def a55_2 : List AO := [⟨(some 4), none, .mv (.v (.int .i64 0))⟩,
  ⟨(some 5), none, .mv (.v (.int .i64 2))⟩]
theorem tr55_2 : TR Tryd.f55 29 2 = some a55_2 := by kernel_rfl
def a55_3 : List AO := [⟨(some 20), none, .mv (.t 0)⟩,
  ⟨(some 21), none, .bin .mul (.t 20) (.v (.int .i64 10000000000))⟩,
  ⟨(some 22), none, .mv (.t 1)⟩,
  ⟨(some 23), none, .bin .add (.t 21) (.t 22)⟩,
  ⟨(some 24), none, .bin .mul (.t 23) (.v (.int .i64 10))⟩,
  ⟨(some 25), none, .mv (.t 0)⟩,
  ⟨(some 26), none, .mv (.t 1)⟩,
  ⟨(some 27), none, .call 64 [(.t 25), (.t 26)]⟩,
  ⟨(some 28), none, .bin .add (.t 24) (.t 27)⟩,
  ⟨(some 4), none, .mv (.t 28)⟩,
  ⟨(some 5), none, .mv (.v (.int .i64 0))⟩]
theorem tr55_3 : TR Tryd.f55 29 3 = some a55_3 := by kernel_rfl
/-- strings.IndexByte -/
noncomputable def c56 : Code := .seq (.region 0 (ro Tryd.f56 0) false) (.seq (.region 1 (ro Tryd.f56 1) false) (.ret))
theorem body56 : Tryd.f56.body = some c56 := by kernel_rfl
theorem res56 : Tryd.f56.results.toList.mapM (trR Tryd.prog) = some [.t 4] := by kernel_rfl
theorem nt56 : Tryd.f56.ntmps = 8 := by kernel_rfl
theorem nm56 : (Tryd.f56.name == "runtime.NumGoroutine") = false := by kernel_rfl
def a56_0 : List AO := [⟨(some 4), none, .mv (.v (.int .i64 0))⟩]
theorem tr56_0 : TR Tryd.f56 8 0 = some a56_0 := by kernel_rfl
def a56_1 : List AO := [⟨(some 5), none, .mv (.t 0)⟩,
  ⟨(some 6), none, .mv (.t 1)⟩,
  ⟨(some 7), none, .call 65 [(.t 5), (.t 6)]⟩,
  ⟨(some 4), none, .mv (.t 7)⟩]
theorem tr56_1 : TR Tryd.f56 8 1 = some a56_1 := by kernel_rfl
/-- airline/locator.check -/
noncomputable def c57 : Code := .seq (.region 0 (ro Tryd.f57 0) false) (.seq (.region 1 (ro Tryd.f57 1) false) (.seq (.seq (.region 2 (ro Tryd.f57 2) false) (.block 0 (.loop (.seq (.region 3 (ro Tryd.f57 3) false) (.seq (.cond (.tmp 8) (.skip) (.exit 0)) (.seq (.block 1 (.seq (.region 4 (ro Tryd.f57 4) false) (.region 5 (ro Tryd.f57 5) false))) (.region 6 (ro Tryd.f57 6) false))))))) (.seq (.region 7 (ro Tryd.f57 7) false) (.ret))))
theorem body57 : Tryd.f57.body = some c57 := by kernel_rfl
theorem res57 : Tryd.f57.results.toList.mapM (trR Tryd.prog) = some [.t 2] := by kernel_rfl
theorem nt57 : Tryd.f57.ntmps = 21 := by kernel_rfl
theorem nm57 : (Tryd.f57.name == "runtime.NumGoroutine") = false := by kernel_rfl
def a57_0 : List AO := [⟨(some 1), none, .box 74 (.t 0)⟩,
  ⟨(some 2), none, .mv (.v (.int .i64 0))⟩]
theorem tr57_0 : TR Tryd.f57 21 0 = some a57_0 := by kernel_rfl
def a57_1 : List AO := [⟨(some 3), none, .mv (.v (.int .i64 0))⟩]
theorem tr57_1 : TR Tryd.f57 21 1 = some a57_1 := by kernel_rfl
def a57_2 : List AO := [⟨(some 6), none, .load (some 5) (.t 1)⟩,
  ⟨(some 7), none, .mv (.v (.int .i64 0))⟩]
theorem tr57_2 : TR Tryd.f57 21 2 = some a57_2 := by kernel_rfl
def a57_3 : List AO := [⟨(some 8), none, .bin .lss (.t 7) (.v (.int .i64 5))⟩]
theorem tr57_3 : TR Tryd.f57 21 3 = some a57_3 := by kernel_rfl
def a57_4 : List AO := [⟨(some 9), none, .mv (.t 7)⟩,
  ⟨(some 10), none, .idxv false 1 5 (.t 6) (.t 7)⟩,
  ⟨(some 4), none, .mv (.t 9)⟩,
  ⟨(some 5), none, .mv (.t 10)⟩]
theorem tr57_4 : TR Tryd.f57 21 4 = some a57_4 := by kernel_rfl
def a57_5 : List AO := [⟨(some 11), none, .mv (.t 3)⟩,
  ⟨(some 12), none, .mv (.t 4)⟩,
  ⟨(some 13), none, .bin .mul (.v (.int .i64 2)) (.t 12)⟩,
  ⟨(some 14), none, .bin .add (.t 13) (.v (.int .i64 1))⟩,
  ⟨(some 15), none, .mv (.t 5)⟩,
  ⟨(some 16), none, .bin .mul (.t 14) (.t 15)⟩,
  ⟨(some 17), none, .bin .add (.t 11) (.t 16)⟩,
  ⟨(some 3), none, .mv (.t 17)⟩]
theorem tr57_5 : TR Tryd.f57 21 5 = some a57_5 := by kernel_rfl
def a57_6 : List AO := [⟨(some 18), none, .bin .add (.t 7) (.v (.int .i64 1))⟩,
  ⟨(some 7), none, .mv (.t 18)⟩]
theorem tr57_6 : TR Tryd.f57 21 6 = some a57_6 := by kernel_rfl
def a57_7 : List AO := [⟨(some 19), none, .mv (.t 3)⟩,
  ⟨(some 20), none, .bin .rem (.t 19) (.v (.int .i64 32))⟩,
  ⟨(some 2), none, .mv (.t 20)⟩]
theorem tr57_7 : TR Tryd.f57 21 7 = some a57_7 := by kernel_rfl
/-- strings.genSplit -/
noncomputable def c58 : Code := .seq (.region 0 (ro Tryd.f58 0) false) (.seq (.seq (.region 1 (ro Tryd.f58 1) false) (.cond (.tmp 13) (.seq (.region 2 (ro Tryd.f58 2) false) (.ret)) (.skip))) (.seq (.seq (.region 3 (ro Tryd.f58 3) false) (.cond (.tmp 15) (.seq (.region 4 (ro Tryd.f58 4) false) (.ret)) (.skip))) (.seq (.seq (.region 5 (ro Tryd.f58 5) false) (.cond (.tmp 20) (.region 6 (ro Tryd.f58 6) false) (.skip))) (.seq (.region 7 (ro Tryd.f58 7) false) (.seq (.region 8 (ro Tryd.f58 8) false) (.seq (.region 9 (ro Tryd.f58 9) false) (.seq (.region 10 (ro Tryd.f58 10) false) (.seq (.block 0 (.loop (.seq (.seq (.region 11 (ro Tryd.f58 11) false) (.cond (.tmp 36) (.skip) (.exit 0))) (.block 1 (.seq (.region 12 (ro Tryd.f58 12) false) (.seq (.seq (.region 13 (ro Tryd.f58 13) false) (.cond (.tmp 41) (.exit 0) (.skip))) (.seq (.region 14 (ro Tryd.f58 14) false) (.seq (.region 15 (ro Tryd.f58 15) false) (.region 16 (ro Tryd.f58 16) false))))))))) (.seq (.region 17 (ro Tryd.f58 17) false) (.seq (.region 18 (ro Tryd.f58 18) false) (.ret)))))))))))
theorem body58 : Tryd.f58.body = some c58 := by kernel_rfl
theorem res58 : Tryd.f58.results.toList.mapM (trR Tryd.prog) = some [.t 8] := by kernel_rfl
theorem nt58 : Tryd.f58.ntmps = 66 := by kernel_rfl
theorem nm58 : (Tryd.f58.name == "runtime.NumGoroutine") = false := by kernel_rfl
def a58_0 : List AO := [⟨(some 8), none, .mv (.v .nils)⟩]
theorem tr58_0 : TR Tryd.f58 66 0 = some a58_0 := by kernel_rfl
def a58_1 : List AO := [⟨(some 12), none, .mv (.t 3)⟩,
  ⟨(some 13), none, .bin .eql (.t 12) (.v (.int .i64 0))⟩]
theorem tr58_1 : TR Tryd.f58 66 1 = some a58_1 := by kernel_rfl
def a58_2 : List AO := [⟨(some 8), none, .mv (.v .nils)⟩]
theorem tr58_2 : TR Tryd.f58 66 2 = some a58_2 := by kernel_rfl
def a58_3 : List AO := [⟨(some 14), none, .mv (.t 1)⟩,
  ⟨(some 15), none, .bin .eql (.t 14) (.v (.str []))⟩]
theorem tr58_3 : TR Tryd.f58 66 3 = some a58_3 := by kernel_rfl
def a58_4 : List AO := [⟨(some 16), none, .mv (.t 0)⟩,
  ⟨(some 17), none, .mv (.t 3)⟩,
  ⟨(some 18), none, .call 66 [(.t 16), (.t 17)]⟩,
  ⟨(some 8), none, .mv (.t 18)⟩]
theorem tr58_4 : TR Tryd.f58 66 4 = some a58_4 := by kernel_rfl
def a58_5 : List AO := [⟨(some 19), none, .mv (.t 3)⟩,
  ⟨(some 20), none, .bin .lss (.t 19) (.v (.int .i64 0))⟩]
theorem tr58_5 : TR Tryd.f58 66 5 = some a58_5 := by kernel_rfl
def a58_6 : List AO := [⟨(some 21), none, .mv (.t 0)⟩,
  ⟨(some 22), none, .mv (.t 1)⟩,
  ⟨(some 23), none, .call 67 [(.t 21), (.t 22)]⟩,
  ⟨(some 24), none, .bin .add (.t 23) (.v (.int .i64 1))⟩,
  ⟨(some 3), none, .mv (.t 24)⟩]
theorem tr58_6 : TR Tryd.f58 66 6 = some a58_6 := by kernel_rfl
def a58_7 : List AO := [⟨(some 25), none, .mv (.t 3)⟩,
  ⟨(some 26), none, .mv (.t 0)⟩,
  ⟨(some 27), none, .slen (.t 26)⟩,
  ⟨(some 28), none, .bin .add (.t 27) (.v (.int .i64 1))⟩,
  ⟨(some 29), none, .mn (.t 25) (.t 28)⟩,
  ⟨(some 3), none, .mv (.t 29)⟩]
theorem tr58_7 : TR Tryd.f58 66 7 = some a58_7 := by kernel_rfl
def a58_8 : List AO := [⟨(some 30), none, .mv (.t 3)⟩,
  ⟨(some 31), none, .mks 9 1 16 [(.str [])] (.t 30) (.t 30)⟩,
  ⟨(some 9), none, .mv (.t 31)⟩]
theorem tr58_8 : TR Tryd.f58 66 8 = some a58_8 := by kernel_rfl
def a58_9 : List AO := [⟨(some 32), none, .mv (.t 3)⟩,
  ⟨(some 33), none, .bin .sub (.t 32) (.v (.int .i64 1))⟩,
  ⟨(some 3), none, .mv (.t 33)⟩]
theorem tr58_9 : TR Tryd.f58 66 9 = some a58_9 := by kernel_rfl
def a58_10 : List AO := [⟨(some 10), none, .mv (.v (.int .i64 0))⟩]
theorem tr58_10 : TR Tryd.f58 66 10 = some a58_10 := by kernel_rfl
def a58_11 : List AO := [⟨(some 34), none, .mv (.t 10)⟩,
  ⟨(some 35), none, .mv (.t 3)⟩,
  ⟨(some 36), none, .bin .lss (.t 34) (.t 35)⟩]
theorem tr58_11 : TR Tryd.f58 66 11 = some a58_11 := by kernel_rfl
def a58_12 : List AO := [⟨(some 37), none, .mv (.t 0)⟩,
  ⟨(some 38), none, .mv (.t 1)⟩,
  ⟨(some 39), none, .call 68 [(.t 37), (.t 38)]⟩,
  ⟨(some 11), none, .mv (.t 39)⟩]
theorem tr58_12 : TR Tryd.f58 66 12 = some a58_12 := by kernel_rfl
def a58_13 : List AO := [⟨(some 40), none, .mv (.t 11)⟩,
  ⟨(some 41), none, .bin .lss (.t 40) (.v (.int .i64 0))⟩]
theorem tr58_13 : TR Tryd.f58 66 13 = some a58_13 := by kernel_rfl
def a58_14 : List AO := [⟨(some 42), none, .mv (.t 9)⟩,
  ⟨(some 43), none, .mv (.t 10)⟩,
  ⟨(some 44), none, .mv (.t 0)⟩,
  ⟨(some 45), none, .mv (.t 11)⟩,
  ⟨(some 46), none, .mv (.t 2)⟩,
  ⟨(some 47), none, .bin .add (.t 45) (.t 46)⟩,
  ⟨(some 48), none, .ssub none (some (.t 47)) (.t 44)⟩,
  ⟨(some 49), none, .idx 1 (.t 42) (.t 43)⟩,
  ⟨none, none, .store 1 (.t 49) (.t 48)⟩]
theorem tr58_14 : TR Tryd.f58 66 14 = some a58_14 := by kernel_rfl
def a58_15 : List AO := [⟨(some 50), none, .mv (.t 0)⟩,
  ⟨(some 51), none, .mv (.t 11)⟩,
  ⟨(some 52), none, .mv (.t 1)⟩,
  ⟨(some 53), none, .slen (.t 52)⟩,
  ⟨(some 54), none, .bin .add (.t 51) (.t 53)⟩,
  ⟨(some 55), none, .ssub (some (.t 54)) none (.t 50)⟩,
  ⟨(some 0), none, .mv (.t 55)⟩]
theorem tr58_15 : TR Tryd.f58 66 15 = some a58_15 := by kernel_rfl
def a58_16 : List AO := [⟨(some 56), none, .mv (.t 10)⟩,
  ⟨(some 57), none, .bin .add (.t 56) (.v (.int .i64 1))⟩,
  ⟨(some 10), none, .mv (.t 57)⟩]
theorem tr58_16 : TR Tryd.f58 66 16 = some a58_16 := by kernel_rfl
def a58_17 : List AO := [⟨(some 58), none, .mv (.t 9)⟩,
  ⟨(some 59), none, .mv (.t 10)⟩,
  ⟨(some 60), none, .mv (.t 0)⟩,
  ⟨(some 61), none, .idx 1 (.t 58) (.t 59)⟩,
  ⟨none, none, .store 1 (.t 61) (.t 60)⟩]
theorem tr58_17 : TR Tryd.f58 66 17 = some a58_17 := by kernel_rfl
def a58_18 : List AO := [⟨(some 62), none, .mv (.t 9)⟩,
  ⟨(some 63), none, .mv (.t 10)⟩,
  ⟨(some 64), none, .bin .add (.t 63) (.v (.int .i64 1))⟩,
  ⟨(some 65), none, .sub 1 none (some (.t 64)) none (.t 62)⟩,
  ⟨(some 8), none, .mv (.t 65)⟩]
theorem tr58_18 : TR Tryd.f58 66 18 = some a58_18 := by kernel_rfl
/-- airline/airlineref34.value -/
noncomputable def c60 : Code := .seq (.region 0 (ro Tryd.f60 0) false) (.seq (.seq (.region 1 (ro Tryd.f60 1) false) (.block 0 (.loop (.seq (.seq (.region 2 (ro Tryd.f60 2) false) (.cond (.tmp 5) (.skip) (.exit 0))) (.seq (.block 1 (.seq (.region 4 (ro Tryd.f60 4) false) (.cond (.tmp 11) (.seq (.region 5 (ro Tryd.f60 5) false) (.ret)) (.skip)))) (.region 3 (ro Tryd.f60 3) false)))))) (.seq (.region 6 (ro Tryd.f60 6) false) (.ret)))
theorem body60 : Tryd.f60.body = some c60 := by kernel_rfl
theorem res60 : Tryd.f60.results.toList.mapM (trR Tryd.prog) = some [.t 2] := by kernel_rfl
theorem nt60 : Tryd.f60.ntmps = 13 := by kernel_rfl
theorem nm60 : (Tryd.f60.name == "runtime.NumGoroutine") = false := by kernel_rfl
def a60_0 : List AO := [⟨(some 2), none, .mv (.v (.int .i64 0))⟩]
theorem tr60_0 : TR Tryd.f60 13 0 = some a60_0 := by kernel_rfl
def a60_1 : List AO := [⟨(some 3), none, .mv (.v (.int .i64 0))⟩]
theorem tr60_1 : TR Tryd.f60 13 1 = some a60_1 := by kernel_rfl
def a60_2 : List AO := [⟨(some 4), none, .mv (.t 3)⟩,
  ⟨(some 5), none, .bin .lss (.t 4) (.v (.int .i64 32))⟩]
theorem tr60_2 : TR Tryd.f60 13 2 = some a60_2 := by kernel_rfl
def a60_4 : List AO := [⟨(some 8), none, .mv (.t 3)⟩,
  ⟨(some 9), none, .sidx (.v (.str [50, 51, 52, 53, 54, 55, 56, 57, 65, 66, 67, 68, 69, 70, 71, 72, 74, 75, 76, 77, 78, 80, 81, 82, 83, 84, 85, 86, 87, 88, 89, 90])) (.t 8)⟩,
  ⟨(some 10), none, .mv (.t 0)⟩,
  ⟨(some 11), none, .bin .eql (.t 9) (.t 10)⟩]
theorem tr60_4 : TR Tryd.f60 13 4 = some a60_4 := by kernel_rfl
def a60_5 : List AO := [⟨(some 12), none, .mv (.t 3)⟩,
  ⟨(some 2), none, .mv (.t 12)⟩]
theorem tr60_5 : TR Tryd.f60 13 5 = some a60_5 := by kernel_rfl
def a60_3 : List AO := [⟨(some 6), none, .mv (.t 3)⟩,
  ⟨(some 7), none, .bin .add (.t 6) (.v (.int .i64 1))⟩,
  ⟨(some 3), none, .mv (.t 7)⟩]
theorem tr60_3 : TR Tryd.f60 13 3 = some a60_3 := by kernel_rfl
def a60_6 : List AO := [⟨(some 2), none, .mv (.v (.int .i64 (-1)))⟩]
theorem tr60_6 : TR Tryd.f60 13 6 = some a60_6 := by kernel_rfl
/-- airline/airlineref34.Of -/
noncomputable def c61 : Code := .seq (.region 0 (ro Tryd.f61 0) false) (.seq (.seq (.region 1 (ro Tryd.f61 1) false) (.cond (.tmp 12) (.seq (.region 2 (ro Tryd.f61 2) false) (.ret)) (.skip))) (.seq (.region 3 (ro Tryd.f61 3) false) (.seq (.region 4 (ro Tryd.f61 4) false) (.seq (.seq (.region 5 (ro Tryd.f61 5) false) (.block 0 (.loop (.seq (.seq (.region 6 (ro Tryd.f61 6) false) (.cond (.tmp 14) (.skip) (.exit 0))) (.seq (.block 1 (.seq (.region 8 (ro Tryd.f61 8) false) (.seq (.region 9 (ro Tryd.f61 9) false) (.region 10 (ro Tryd.f61 10) false)))) (.region 7 (ro Tryd.f61 7) false)))))) (.seq (.region 11 (ro Tryd.f61 11) false) (.ret))))))
theorem body61 : Tryd.f61.body = some c61 := by kernel_rfl
theorem res61 : Tryd.f61.results.toList.mapM (trR Tryd.prog) = some [.t 2, .t 3] := by kernel_rfl
theorem nt61 : Tryd.f61.ntmps = 43 := by kernel_rfl
theorem nm61 : (Tryd.f61.name == "runtime.NumGoroutine") = false := by kernel_rfl
def a61_0 : List AO := [⟨(some 2), none, .mv (.v (.str []))⟩,
  ⟨(some 3), none, .mv (.v (.int .i64 0))⟩]
theorem tr61_0 : TR Tryd.f61 43 0 = some a61_0 := by kernel_rfl
def a61_1 : List AO := [⟨(some 7), none, .mv (.t 0)⟩,
  ⟨(some 8), none, .bin .lss (.t 7) (.v (.int .i64 0))⟩,
  ⟨(some 9), none, .mv (.t 8)⟩,
  ⟨(some 10), some (9, false), .mv (.t 0)⟩,
  ⟨(some 11), some (9, false), .bin .gtr (.t 10) (.v (.int .i64 33554431))⟩,
  ⟨(some 12), none, .pick (.t 9) (.v (.bool true)) (.t 11)⟩]
theorem tr61_1 : TR Tryd.f61 43 1 = some a61_1 := by kernel_rfl
def a61_2 : List AO := [⟨(some 2), none, .mv (.v (.str []))⟩,
  ⟨(some 3), none, .mv (.v (.int .i64 2))⟩]
theorem tr61_2 : TR Tryd.f61 43 2 = some a61_2 := by kernel_rfl
def a61_3 : List AO := [⟨(some 4), none, .mv (.v (.str []))⟩]
theorem tr61_3 : TR Tryd.f61 43 3 = some a61_3 := by kernel_rfl
def a61_4 : List AO := [⟨(some 5), none, .mv (.v (.int .i64 0))⟩]
theorem tr61_4 : TR Tryd.f61 43 4 = some a61_4 := by kernel_rfl
def a61_5 : List AO := [⟨(some 6), none, .mv (.v (.int .i64 4))⟩]
theorem tr61_5 : TR Tryd.f61 43 5 = some a61_5 := by kernel_rfl
def a61_6 : List AO := [⟨(some 13), none, .mv (.t 6)⟩,
  ⟨(some 14), none, .bin .geq (.t 13) (.v (.int .i64 0))⟩]
theorem tr61_6 : TR Tryd.f61 43 6 = some a61_6 := by kernel_rfl
def a61_8 : List AO := [⟨(some 17), none, .mv (.t 0)⟩,
  ⟨(some 18), none, .bin .rem (.t 17) (.v (.int .i64 32))⟩,
  ⟨(some 19), none, .mv (.t 0)⟩,
  ⟨(some 20), none, .bin .rem (.t 19) (.v (.int .i64 32))⟩,
  ⟨(some 21), none, .bin .add (.t 20) (.v (.int .i64 1))⟩,
  ⟨(some 22), none, .ssub (some (.t 18)) (some (.t 21)) (.v (.str [50, 51, 52, 53, 54, 55, 56, 57, 65, 66, 67, 68, 69, 70, 71, 72, 74, 75, 76, 77, 78, 80, 81, 82, 83, 84, 85, 86, 87, 88, 89, 90]))⟩,
  ⟨(some 23), none, .mv (.t 4)⟩,
  ⟨(some 24), none, .bin .add (.t 22) (.t 23)⟩,
  ⟨(some 4), none, .mv (.t 24)⟩]
theorem tr61_8 : TR Tryd.f61 43 8 = some a61_8 := by kernel_rfl
def a61_9 : List AO := [⟨(some 25), none, .mv (.t 5)⟩,
  ⟨(some 26), none, .mv (.t 6)⟩,
  ⟨(some 27), none, .bin .mul (.v (.int .i64 2)) (.t 26)⟩,
  ⟨(some 28), none, .bin .add (.t 27) (.v (.int .i64 1))⟩,
  ⟨(some 29), none, .mv (.t 0)⟩,
  ⟨(some 30), none, .bin .rem (.t 29) (.v (.int .i64 32))⟩,
  ⟨(some 31), none, .bin .mul (.t 28) (.t 30)⟩,
  ⟨(some 32), none, .bin .add (.t 25) (.t 31)⟩,
  ⟨(some 5), none, .mv (.t 32)⟩]
theorem tr61_9 : TR Tryd.f61 43 9 = some a61_9 := by kernel_rfl
def a61_10 : List AO := [⟨(some 33), none, .mv (.t 0)⟩,
  ⟨(some 34), none, .bin .quo (.t 33) (.v (.int .i64 32))⟩,
  ⟨(some 0), none, .mv (.t 34)⟩]
theorem tr61_10 : TR Tryd.f61 43 10 = some a61_10 := by kernel_rfl
def a61_7 : List AO := [⟨(some 15), none, .mv (.t 6)⟩,
  ⟨(some 16), none, .bin .sub (.t 15) (.v (.int .i64 1))⟩,
  ⟨(some 6), none, .mv (.t 16)⟩]
theorem tr61_7 : TR Tryd.f61 43 7 = some a61_7 := by kernel_rfl
def a61_11 : List AO := [⟨(some 35), none, .mv (.t 4)⟩,
  ⟨(some 36), none, .mv (.t 5)⟩,
  ⟨(some 37), none, .bin .rem (.t 36) (.v (.int .i64 32))⟩,
  ⟨(some 38), none, .mv (.t 5)⟩,
  ⟨(some 39), none, .bin .rem (.t 38) (.v (.int .i64 32))⟩,
  ⟨(some 40), none, .bin .add (.t 39) (.v (.int .i64 1))⟩,
  ⟨(some 41), none, .ssub (some (.t 37)) (some (.t 40)) (.v (.str [50, 51, 52, 53, 54, 55, 56, 57, 65, 66, 67, 68, 69, 70, 71, 72, 74, 75, 76, 77, 78, 80, 81, 82, 83, 84, 85, 86, 87, 88, 89, 90]))⟩,
  ⟨(some 42), none, .bin .add (.t 35) (.t 41)⟩,
  ⟨(some 2), none, .mv (.t 42)⟩,
  ⟨(some 3), none, .mv (.v (.int .i64 0))⟩]
theorem tr61_11 : TR Tryd.f61 43 11 = some a61_11 := by kernel_rfl
/-- airline/airlineref01.Decimal -/
noncomputable def c62 : Code := .seq (.region 0 (ro Tryd.f62 0) false) (.seq (.seq (.region 1 (ro Tryd.f62 1) false) (.cond (.tmp 4) (.seq (.region 2 (ro Tryd.f62 2) false) (.ret)) (.skip))) (.seq (.region 3 (ro Tryd.f62 3) false) (.ret)))
theorem body62 : Tryd.f62.body = some c62 := by kernel_rfl
theorem res62 : Tryd.f62.results.toList.mapM (trR Tryd.prog) = some [.t 2] := by kernel_rfl
theorem nt62 : Tryd.f62.ntmps = 15 := by kernel_rfl
theorem nm62 : (Tryd.f62.name == "runtime.NumGoroutine") = false := by kernel_rfl
def a62_0 : List AO := [⟨(some 2), none, .mv (.v (.str []))⟩]
theorem tr62_0 : TR Tryd.f62 15 0 = some a62_0 := by kernel_rfl
def a62_1 : List AO := [⟨(some 3), none, .mv (.t 0)⟩,
  ⟨(some 4), none, .bin .lss (.t 3) (.v (.int .i64 0))⟩]
theorem tr62_1 : TR Tryd.f62 15 1 = some a62_1 := by kernel_rfl
def a62_2 : List AO := [⟨(some 5), none, .mv (.t 0)⟩,
  ⟨(some 6), none, .bin .add (.t 5) (.v (.int .i64 1))⟩,
  ⟨(some 7), none, .un .neg (.t 6)⟩,
  ⟨(some 8), none, .conv .u64 (.t 7)⟩,
  ⟨(some 9), none, .bin .add (.t 8) (.v (.int .u64 1))⟩,
  ⟨(some 10), none, .call 73 [(.t 9)]⟩,
  ⟨(some 11), none, .bin .add (.v (.str [45])) (.t 10)⟩,
  ⟨(some 2), none, .mv (.t 11)⟩]
theorem tr62_2 : TR Tryd.f62 15 2 = some a62_2 := by kernel_rfl
def a62_3 : List AO := [⟨(some 12), none, .mv (.t 0)⟩,
  ⟨(some 13), none, .conv .u64 (.t 12)⟩,
  ⟨(some 14), none, .call 73 [(.t 13)]⟩,
  ⟨(some 2), none, .mv (.t 14)⟩]
theorem tr62_3 : TR Tryd.f62 15 3 = some a62_3 := by kernel_rfl
/-- airline/airlineref01.letters -/
noncomputable def c63 : Code := .seq (.region 0 (ro Tryd.f63 0) false) (.seq (.seq (.region 1 (ro Tryd.f63 1) false) (.block 0 (.loop (.seq (.seq (.region 2 (ro Tryd.f63 2) false) (.cond (.tmp 9) (.skip) (.exit 0))) (.seq (.block 1 (.seq (.region 4 (ro Tryd.f63 4) false) (.cond (.tmp 16) (.seq (.region 5 (ro Tryd.f63 5) false) (.ret)) (.skip)))) (.region 3 (ro Tryd.f63 3) false)))))) (.seq (.region 6 (ro Tryd.f63 6) false) (.ret)))
theorem body63 : Tryd.f63.body = some c63 := by kernel_rfl
theorem res63 : Tryd.f63.results.toList.mapM (trR Tryd.prog) = some [.t 4] := by kernel_rfl
theorem nt63 : Tryd.f63.ntmps = 21 := by kernel_rfl
theorem nm63 : (Tryd.f63.name == "runtime.NumGoroutine") = false := by kernel_rfl
def a63_0 : List AO := [⟨(some 4), none, .mv (.v (.bool false))⟩]
theorem tr63_0 : TR Tryd.f63 21 0 = some a63_0 := by kernel_rfl
def a63_1 : List AO := [⟨(some 5), none, .mv (.v (.int .i64 0))⟩]
theorem tr63_1 : TR Tryd.f63 21 1 = some a63_1 := by kernel_rfl
def a63_2 : List AO := [⟨(some 6), none, .mv (.t 5)⟩,
  ⟨(some 7), none, .mv (.t 0)⟩,
  ⟨(some 8), none, .slen (.t 7)⟩,
  ⟨(some 9), none, .bin .lss (.t 6) (.t 8)⟩]
theorem tr63_2 : TR Tryd.f63 21 2 = some a63_2 := by kernel_rfl
def a63_4 : List AO := [⟨(some 12), none, .mv (.t 0)⟩,
  ⟨(some 13), none, .mv (.t 5)⟩,
  ⟨(some 14), none, .sidx (.t 12) (.t 13)⟩,
  ⟨(some 15), none, .call 47 [(.t 14)]⟩,
  ⟨(some 16), none, .un .not (.t 15)⟩]
theorem tr63_4 : TR Tryd.f63 21 4 = some a63_4 := by kernel_rfl
def a63_5 : List AO := [⟨(some 4), none, .mv (.v (.bool false))⟩]
theorem tr63_5 : TR Tryd.f63 21 5 = some a63_5 := by kernel_rfl
def a63_3 : List AO := [⟨(some 10), none, .mv (.t 5)⟩,
  ⟨(some 11), none, .bin .add (.t 10) (.v (.int .i64 1))⟩,
  ⟨(some 5), none, .mv (.t 11)⟩]
theorem tr63_3 : TR Tryd.f63 21 3 = some a63_3 := by kernel_rfl
def a63_6 : List AO := [⟨(some 17), none, .mv (.t 0)⟩,
  ⟨(some 18), none, .slen (.t 17)⟩,
  ⟨(some 19), none, .mv (.t 1)⟩,
  ⟨(some 20), none, .bin .eql (.t 18) (.t 19)⟩,
  ⟨(some 4), none, .mv (.t 20)⟩]
theorem tr63_6 : TR Tryd.f63 21 6 = some a63_6 := by kernel_rfl
/-- airline/docnum.check -/
noncomputable def c64 : Code := .seq (.region 0 (ro Tryd.f64 0) false) (.seq (.region 1 (ro Tryd.f64 1) false) (.ret))
theorem body64 : Tryd.f64.body = some c64 := by kernel_rfl
theorem res64 : Tryd.f64.results.toList.mapM (trR Tryd.prog) = some [.t 4] := by kernel_rfl
theorem nt64 : Tryd.f64.ntmps = 10 := by kernel_rfl
theorem nm64 : (Tryd.f64.name == "runtime.NumGoroutine") = false := by kernel_rfl
def a64_0 : List AO := [⟨(some 4), none, .mv (.v (.int .i64 0))⟩]
theorem tr64_0 : TR Tryd.f64 10 0 = some a64_0 := by kernel_rfl
def a64_1 : List AO := [⟨(some 5), none, .mv (.t 0)⟩,
  ⟨(some 6), none, .bin .mul (.t 5) (.v (.int .i64 10000000000))⟩,
  ⟨(some 7), none, .mv (.t 1)⟩,
  ⟨(some 8), none, .bin .add (.t 6) (.t 7)⟩,
  ⟨(some 9), none, .bin .rem (.t 8) (.v (.int .i64 7))⟩,
  ⟨(some 4), none, .mv (.t 9)⟩]
theorem tr64_1 : TR Tryd.f64 10 1 = some a64_1 := by kernel_rfl
/-- strings.explode -/
noncomputable def c66 : Code := .seq (.region 0 (ro Tryd.f66 0) false) (.seq (.region 1 (ro Tryd.f66 1) false) (.seq (.seq (.region 2 (ro Tryd.f66 2) false) (.cond (.tmp 18) (.region 3 (ro Tryd.f66 3) false) (.skip))) (.seq (.region 4 (ro Tryd.f66 4) false) (.seq (.seq (.region 5 (ro Tryd.f66 5) false) (.block 0 (.loop (.seq (.seq (.region 6 (ro Tryd.f66 6) false) (.cond (.tmp 25) (.skip) (.exit 0))) (.seq (.block 1 (.seq (.region 8 (ro Tryd.f66 8) false) (.seq (.region 9 (ro Tryd.f66 9) false) (.region 10 (ro Tryd.f66 10) false)))) (.region 7 (ro Tryd.f66 7) false)))))) (.seq (.seq (.region 11 (ro Tryd.f66 11) false) (.cond (.tmp 43) (.region 12 (ro Tryd.f66 12) false) (.skip))) (.seq (.region 13 (ro Tryd.f66 13) false) (.ret)))))))
theorem body66 : Tryd.f66.body = some c66 := by kernel_rfl
theorem res66 : Tryd.f66.results.toList.mapM (trR Tryd.prog) = some [.t 4] := by kernel_rfl
theorem nt66 : Tryd.f66.ntmps = 50 := by kernel_rfl
theorem nm66 : (Tryd.f66.name == "runtime.NumGoroutine") = false := by kernel_rfl
def a66_0 : List AO := [⟨(some 4), none, .mv (.v .nils)⟩]
theorem tr66_0 : TR Tryd.f66 50 0 = some a66_0 := by kernel_rfl
def a66_1 : List AO := [⟨(some 10), none, .mv (.t 0)⟩,
  ⟨(some 11), none, .call 75 [(.t 10)]⟩,
  ⟨(some 5), none, .mv (.t 11)⟩]
theorem tr66_1 : TR Tryd.f66 50 1 = some a66_1 := by kernel_rfl
def a66_2 : List AO := [⟨(some 12), none, .mv (.t 1)⟩,
  ⟨(some 13), none, .bin .lss (.t 12) (.v (.int .i64 0))⟩,
  ⟨(some 14), none, .mv (.t 13)⟩,
  ⟨(some 15), some (14, false), .mv (.t 1)⟩,
  ⟨(some 16), some (14, false), .mv (.t 5)⟩,
  ⟨(some 17), some (14, false), .bin .gtr (.t 15) (.t 16)⟩,
  ⟨(some 18), none, .pick (.t 14) (.v (.bool true)) (.t 17)⟩]
theorem tr66_2 : TR Tryd.f66 50 2 = some a66_2 := by kernel_rfl
def a66_3 : List AO := [⟨(some 19), none, .mv (.t 5)⟩,
  ⟨(some 1), none, .mv (.t 19)⟩]
theorem tr66_3 : TR Tryd.f66 50 3 = some a66_3 := by kernel_rfl
def a66_4 : List AO := [⟨(some 20), none, .mv (.t 1)⟩,
  ⟨(some 21), none, .mks 9 1 16 [(.str [])] (.t 20) (.t 20)⟩,
  ⟨(some 6), none, .mv (.t 21)⟩]
theorem tr66_4 : TR Tryd.f66 50 4 = some a66_4 := by kernel_rfl
def a66_5 : List AO := [⟨(some 7), none, .mv (.v (.int .i64 0))⟩]
theorem tr66_5 : TR Tryd.f66 50 5 = some a66_5 := by kernel_rfl
def a66_6 : List AO := [⟨(some 22), none, .mv (.t 7)⟩,
  ⟨(some 23), none, .mv (.t 1)⟩,
  ⟨(some 24), none, .bin .sub (.t 23) (.v (.int .i64 1))⟩,
  ⟨(some 25), none, .bin .lss (.t 22) (.t 24)⟩]
theorem tr66_6 : TR Tryd.f66 50 6 = some a66_6 := by kernel_rfl
def a66_8 : List AO := [⟨(some 29), none, .mv (.t 0)⟩,
  ⟨(some 30), none, .call 76 [(.t 29)]⟩,
  ⟨(some 28), none, .mv (.t 30)⟩,
  ⟨(some 31), none, .ext 0 (.t 28)⟩,
  ⟨(some 32), none, .ext 1 (.t 28)⟩,
  ⟨(some 8), none, .mv (.t 31)⟩,
  ⟨(some 9), none, .mv (.t 32)⟩]
theorem tr66_8 : TR Tryd.f66 50 8 = some a66_8 := by kernel_rfl
def a66_9 : List AO := [⟨(some 33), none, .mv (.t 6)⟩,
  ⟨(some 34), none, .mv (.t 7)⟩,
  ⟨(some 35), none, .mv (.t 0)⟩,
  ⟨(some 36), none, .mv (.t 9)⟩,
  ⟨(some 37), none, .ssub none (some (.t 36)) (.t 35)⟩,
  ⟨(some 38), none, .idx 1 (.t 33) (.t 34)⟩,
  ⟨none, none, .store 1 (.t 38) (.t 37)⟩]
theorem tr66_9 : TR Tryd.f66 50 9 = some a66_9 := by kernel_rfl
def a66_10 : List AO := [⟨(some 39), none, .mv (.t 0)⟩,
  ⟨(some 40), none, .mv (.t 9)⟩,
  ⟨(some 41), none, .ssub (some (.t 40)) none (.t 39)⟩,
  ⟨(some 0), none, .mv (.t 41)⟩]
theorem tr66_10 : TR Tryd.f66 50 10 = some a66_10 := by kernel_rfl
def a66_7 : List AO := [⟨(some 26), none, .mv (.t 7)⟩,
  ⟨(some 27), none, .bin .add (.t 26) (.v (.int .i64 1))⟩,
  ⟨(some 7), none, .mv (.t 27)⟩]
theorem tr66_7 : TR Tryd.f66 50 7 = some a66_7 := by kernel_rfl
def a66_11 : List AO := [⟨(some 42), none, .mv (.t 1)⟩,
  ⟨(some 43), none, .bin .gtr (.t 42) (.v (.int .i64 0))⟩]
theorem tr66_11 : TR Tryd.f66 50 11 = some a66_11 := by kernel_rfl
def a66_12 : List AO := [⟨(some 44), none, .mv (.t 6)⟩,
  ⟨(some 45), none, .mv (.t 1)⟩,
  ⟨(some 46), none, .bin .sub (.t 45) (.v (.int .i64 1))⟩,
  ⟨(some 47), none, .mv (.t 0)⟩,
  ⟨(some 48), none, .idx 1 (.t 44) (.t 46)⟩,
  ⟨none, none, .store 1 (.t 48) (.t 47)⟩]
theorem tr66_12 : TR Tryd.f66 50 12 = some a66_12 := by kernel_rfl
def a66_13 : List AO := [⟨(some 49), none, .mv (.t 6)⟩,
  ⟨(some 4), none, .mv (.t 49)⟩]
theorem tr66_13 : TR Tryd.f66 50 13 = some a66_13 := by kernel_rfl
/-- strings.Count -/
noncomputable def c67 : Code := .seq (.region 0 (ro Tryd.f67 0) false) (.seq (.seq (.region 1 (ro Tryd.f67 1) false) (.cond (.tmp 9) (.seq (.region 2 (ro Tryd.f67 2) false) (.ret)) (.skip))) (.seq (.seq (.region 3 (ro Tryd.f67 3) false) (.cond (.tmp 15) (.seq (.region 4 (ro Tryd.f67 4) false) (.ret)) (.skip))) (.seq (.region 5 (ro Tryd.f67 5) false) (.block 0 (.loop (.block 1 (.seq (.region 6 (ro Tryd.f67 6) false) (.seq (.seq (.region 7 (ro Tryd.f67 7) false) (.cond (.tmp 24) (.seq (.region 8 (ro Tryd.f67 8) false) (.ret)) (.skip))) (.seq (.region 9 (ro Tryd.f67 9) false) (.region 10 (ro Tryd.f67 10) false))))))))))
theorem body67 : Tryd.f67.body = some c67 := by kernel_rfl
theorem res67 : Tryd.f67.results.toList.mapM (trR Tryd.prog) = some [.t 4] := by kernel_rfl
theorem nt67 : Tryd.f67.ntmps = 34 := by kernel_rfl
theorem nm67 : (Tryd.f67.name == "runtime.NumGoroutine") = false := by kernel_rfl
def a67_0 : List AO := [⟨(some 4), none, .mv (.v (.int .i64 0))⟩]
theorem tr67_0 : TR Tryd.f67 34 0 = some a67_0 := by kernel_rfl
def a67_1 : List AO := [⟨(some 7), none, .mv (.t 1)⟩,
  ⟨(some 8), none, .slen (.t 7)⟩,
  ⟨(some 9), none, .bin .eql (.t 8) (.v (.int .i64 0))⟩]
theorem tr67_1 : TR Tryd.f67 34 1 = some a67_1 := by kernel_rfl
def a67_2 : List AO := [⟨(some 10), none, .mv (.t 0)⟩,
  ⟨(some 11), none, .call 75 [(.t 10)]⟩,
  ⟨(some 12), none, .bin .add (.t 11) (.v (.int .i64 1))⟩,
  ⟨(some 4), none, .mv (.t 12)⟩]
theorem tr67_2 : TR Tryd.f67 34 2 = some a67_2 := by kernel_rfl
def a67_3 : List AO := [⟨(some 13), none, .mv (.t 1)⟩,
  ⟨(some 14), none, .slen (.t 13)⟩,
  ⟨(some 15), none, .bin .eql (.t 14) (.v (.int .i64 1))⟩]
theorem tr67_3 : TR Tryd.f67 34 3 = some a67_3 := by kernel_rfl
-- region 4: not translated: !! call value func77 types #[9, 5] func77 t16 t18
def a67_5 : List AO := [⟨(some 5), none, .mv (.v (.int .i64 0))⟩]
theorem tr67_5 : TR Tryd.f67 34 5 = some a67_5 := by kernel_rfl
def a67_6 : List AO := [⟨(some 20), none, .mv (.t 0)⟩,
  ⟨(some 21), none, .mv (.t 1)⟩,
  ⟨(some 22), none, .call 68 [(.t 20), (.t 21)]⟩,
  ⟨(some 6), none, .mv (.t 22)⟩]
theorem tr67_6 : TR Tryd.f67 34 6 = some a67_6 := by kernel_rfl
def a67_7 : List AO := [⟨(some 23), none, .mv (.t 6)⟩,
  ⟨(some 24), none, .bin .eql (.t 23) (.v (.int .i64 (-1)))⟩]
theorem tr67_7 : TR Tryd.f67 34 7 = some a67_7 := by kernel_rfl
def a67_8 : List AO := [⟨(some 25), none, .mv (.t 5)⟩,
  ⟨(some 4), none, .mv (.t 25)⟩]
theorem tr67_8 : TR Tryd.f67 34 8 = some a67_8 := by kernel_rfl
def a67_9 : List AO := [⟨(some 26), none, .mv (.t 5)⟩,
  ⟨(some 27), none, .bin .add (.t 26) (.v (.int .i64 1))⟩,
  ⟨(some 5), none, .mv (.t 27)⟩]
theorem tr67_9 : TR Tryd.f67 34 9 = some a67_9 := by kernel_rfl
def a67_10 : List AO := [⟨(some 28), none, .mv (.t 0)⟩,
  ⟨(some 29), none, .mv (.t 6)⟩,
  ⟨(some 30), none, .mv (.t 1)⟩,
  ⟨(some 31), none, .slen (.t 30)⟩,
  ⟨(some 32), none, .bin .add (.t 29) (.t 31)⟩,
  ⟨(some 33), none, .ssub (some (.t 32)) none (.t 28)⟩,
  ⟨(some 0), none, .mv (.t 33)⟩]
theorem tr67_10 : TR Tryd.f67 34 10 = some a67_10 := by kernel_rfl
/-- strings.Index -/
noncomputable def c68 : Code := .seq (.region 0 (ro Tryd.f68 0) false) (.seq (.region 1 (ro Tryd.f68 1) false) (.ret))
theorem body68 : Tryd.f68.body = some c68 := by kernel_rfl
theorem res68 : Tryd.f68.results.toList.mapM (trR Tryd.prog) = some [.t 4] := by kernel_rfl
theorem nt68 : Tryd.f68.ntmps = 8 := by kernel_rfl
theorem nm68 : (Tryd.f68.name == "runtime.NumGoroutine") = false := by kernel_rfl
def a68_0 : List AO := [⟨(some 4), none, .mv (.v (.int .i64 0))⟩]
theorem tr68_0 : TR Tryd.f68 8 0 = some a68_0 := by kernel_rfl
def a68_1 : List AO := [⟨(some 5), none, .mv (.t 0)⟩,
  ⟨(some 6), none, .mv (.t 1)⟩,
  ⟨(some 7), none, .call 78 [(.t 5), (.t 6)]⟩,
  ⟨(some 4), none, .mv (.t 7)⟩]
theorem tr68_1 : TR Tryd.f68 8 1 = some a68_1 := by kernel_rfl
/-- airline/airlineref01.digits -/
noncomputable def c73 : Code := .seq (.region 0 (ro Tryd.f73 0) false) (.seq (.seq (.region 1 (ro Tryd.f73 1) false) (.cond (.tmp 4) (.seq (.region 2 (ro Tryd.f73 2) false) (.ret)) (.skip))) (.seq (.region 3 (ro Tryd.f73 3) true) (.ret)))
theorem body73 : Tryd.f73.body = some c73 := by kernel_rfl
theorem res73 : Tryd.f73.results.toList.mapM (trR Tryd.prog) = some [.t 2] := by kernel_rfl
theorem nt73 : Tryd.f73.ntmps = 19 := by kernel_rfl
theorem nm73 : (Tryd.f73.name == "runtime.NumGoroutine") = false := by kernel_rfl
def a73_0 : List AO := [⟨(some 2), none, .mv (.v (.str []))⟩]
theorem tr73_0 : TR Tryd.f73 19 0 = some a73_0 := by kernel_rfl
def a73_1 : List AO := [⟨(some 3), none, .mv (.t 0)⟩,
  ⟨(some 4), none, .bin .lss (.t 3) (.v (.int .u64 10))⟩]
theorem tr73_1 : TR Tryd.f73 19 1 = some a73_1 := by kernel_rfl
def a73_2 : List AO := [⟨(some 5), none, .mv (.t 0)⟩,
  ⟨(some 6), none, .mv (.t 0)⟩,
  ⟨(some 7), none, .bin .add (.t 6) (.v (.int .u64 1))⟩,
  ⟨(some 8), none, .ssub (some (.t 5)) (some (.t 7)) (.v (.str [48, 49, 50, 51, 52, 53, 54, 55, 56, 57]))⟩,
  ⟨(some 2), none, .mv (.t 8)⟩]
theorem tr73_2 : TR Tryd.f73 19 2 = some a73_2 := by kernel_rfl
def a73_3 : List AO := [⟨(some 9), none, .mv (.t 0)⟩,
  ⟨(some 10), none, .bin .quo (.t 9) (.v (.int .u64 10))⟩,
  ⟨(some 11), none, .call 73 [(.t 10)]⟩,
  ⟨(some 12), none, .mv (.t 0)⟩,
  ⟨(some 13), none, .bin .rem (.t 12) (.v (.int .u64 10))⟩,
  ⟨(some 14), none, .mv (.t 0)⟩,
  ⟨(some 15), none, .bin .rem (.t 14) (.v (.int .u64 10))⟩,
  ⟨(some 16), none, .bin .add (.t 15) (.v (.int .u64 1))⟩,
  ⟨(some 17), none, .ssub (some (.t 13)) (some (.t 16)) (.v (.str [48, 49, 50, 51, 52, 53, 54, 55, 56, 57]))⟩,
  ⟨(some 18), none, .bin .add (.t 11) (.t 17)⟩,
  ⟨(some 2), none, .mv (.t 18)⟩]
theorem tr73_3 : TR Tryd.f73 19 3 = some a73_3 := by kernel_rfl
def d73_3 : List (List Nat) := [[], [0], [0, 1], [], [3], [], [5], [5, 6], [3, 4, 5, 6, 7], [0, 1, 2, 3, 4, 5, 6, 7, 8], [0, 1, 2, 3, 4, 5, 6, 7, 8, 9]]
theorem ok73_3 : okReg (ro Tryd.f73 3) a73_3 d73_3 = true := by kernel_rfl
end Go.Proofs.YtffapkiilkeadaaDoor
