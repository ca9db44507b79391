/- The code of the functions, region by region, as abstract operations. -/
import Derived.Test.YtailckanpheciaaDoorCoa
namespace Go.Proofs.YtailckanpheciaaDoor
open Go Go.RowKit
/-- airline/places.town -/
noncomputable def c54 : Code := .seq (.region 0 (ro Tryd.f54 0) false) (.seq (.seq (.region 1 (ro Tryd.f54 1) false) (.block 0 (.loop (.seq (.region 2 (ro Tryd.f54 2) false) (.seq (.cond (.tmp 12) (.skip) (.exit 0)) (.seq (.block 1 (.seq (.region 3 (ro Tryd.f54 3) false) (.seq (.region 4 (ro Tryd.f54 4) false) (.cond (.tmp 18) (.seq (.region 5 (ro Tryd.f54 5) false) (.ret)) (.skip))))) (.region 6 (ro Tryd.f54 6) false))))))) (.seq (.region 7 (ro Tryd.f54 7) false) (.ret)))
theorem body54 : Tryd.f54.body = some c54 := by kernel_rfl
theorem res54 : Tryd.f54.results.toList.mapM (trR Tryd.prog) = some [.c (some 5) 4, .t 5] := by kernel_rfl
theorem nt54 : Tryd.f54.ntmps = 22 := by kernel_rfl
theorem nm54 : (Tryd.f54.name == "runtime.NumGoroutine") = false := by kernel_rfl
def a54_0 : List AO := [⟨(some 2), none, .box 31 (.t 0)⟩,
  ⟨(some 4), none, .alloc 81 [(.str []), (.str []), (.str []), (.int .i64 0), .nils]⟩,
  ⟨(some 5), none, .mv (.v (.bool false))⟩]
theorem tr54_0 : (ro Tryd.f54 0).toList.mapM (trO Tryd.prog 22 (ro Tryd.f54 0)) = some a54_0 := by kernel_rfl
def a54_1 : List AO := [⟨(some 8), none, .fld 0 (.t 2)⟩,
  ⟨(some 9), none, .load none (.t 8)⟩,
  ⟨(some 10), none, .len (.t 9)⟩,
  ⟨(some 11), none, .mv (.v (.int .i64 0))⟩]
theorem tr54_1 : (ro Tryd.f54 1).toList.mapM (trO Tryd.prog 22 (ro Tryd.f54 1)) = some a54_1 := by kernel_rfl
def a54_2 : List AO := [⟨(some 12), none, .bin .lss (.t 11) (.t 10)⟩]
theorem tr54_2 : (ro Tryd.f54 2).toList.mapM (trO Tryd.prog 22 (ro Tryd.f54 2)) = some a54_2 := by kernel_rfl
def a54_3 : List AO := [⟨(some 13), none, .idx 5 (.t 9) (.t 11)⟩,
  ⟨(some 14), none, .load (some 5) (.t 13)⟩,
  ⟨(some 7), none, .alloc 81 [(.str []), (.str []), (.str []), (.int .i64 0), .nils]⟩,
  ⟨none, none, .store 5 (.t 7) (.t 14)⟩]
theorem tr54_3 : (ro Tryd.f54 3).toList.mapM (trO Tryd.prog 22 (ro Tryd.f54 3)) = some a54_3 := by kernel_rfl
def a54_4 : List AO := [⟨(some 15), none, .fld 1 (.t 7)⟩,
  ⟨(some 16), none, .load none (.t 15)⟩,
  ⟨(some 17), none, .mv (.t 1)⟩,
  ⟨(some 18), none, .bin .eql (.t 16) (.t 17)⟩]
theorem tr54_4 : (ro Tryd.f54 4).toList.mapM (trO Tryd.prog 22 (ro Tryd.f54 4)) = some a54_4 := by kernel_rfl
def a54_5 : List AO := [⟨(some 19), none, .load (some 5) (.t 7)⟩,
  ⟨none, none, .store 5 (.t 4) (.t 19)⟩,
  ⟨(some 5), none, .mv (.v (.bool true))⟩]
theorem tr54_5 : (ro Tryd.f54 5).toList.mapM (trO Tryd.prog 22 (ro Tryd.f54 5)) = some a54_5 := by kernel_rfl
def a54_6 : List AO := [⟨(some 20), none, .bin .add (.t 11) (.v (.int .i64 1))⟩,
  ⟨(some 11), none, .mv (.t 20)⟩]
theorem tr54_6 : (ro Tryd.f54 6).toList.mapM (trO Tryd.prog 22 (ro Tryd.f54 6)) = some a54_6 := by kernel_rfl
def a54_7 : List AO := [⟨(some 21), none, .build [(.str []), (.str []), (.str []), (.int .i64 0), .nils] []⟩,
  ⟨none, none, .store 5 (.t 4) (.t 21)⟩,
  ⟨(some 5), none, .mv (.v (.bool false))⟩]
theorem tr54_7 : (ro Tryd.f54 7).toList.mapM (trO Tryd.prog 22 (ro Tryd.f54 7)) = some a54_7 := by kernel_rfl
/-- airline/airlineref27.scoped -/
noncomputable def c55 : Code := .seq (.region 0 (ro Tryd.f55 0) false) (.seq (.region 1 (ro Tryd.f55 1) true) (.seq (.seq (.region 2 (ro Tryd.f55 2) false) (.block 0 (.seq (.region 3 (ro Tryd.f55 3) false) (.cond (.tmp 25) (.seq (.region 4 (ro Tryd.f55 4) false) (.ret)) (.seq (.region 5 (ro Tryd.f55 5) false) (.cond (.tmp 31) (.seq (.region 6 (ro Tryd.f55 6) false) (.ret)) (.skip))))))) (.seq (.region 7 (ro Tryd.f55 7) false) (.ret))))
theorem body55 : Tryd.f55.body = some c55 := by kernel_rfl
theorem res55 : Tryd.f55.results.toList.mapM (trR Tryd.prog) = some [.t 6] := by kernel_rfl
theorem nt55 : Tryd.f55.ntmps = 40 := by kernel_rfl
theorem nm55 : (Tryd.f55.name == "runtime.NumGoroutine") = false := by kernel_rfl
def a55_0 : List AO := [⟨(some 3), none, .box 31 (.t 0)⟩,
  ⟨(some 4), none, .box 34 (.t 1)⟩,
  ⟨(some 5), none, .box 46 (.t 2)⟩,
  ⟨(some 6), none, .mv (.v (.bool false))⟩]
theorem tr55_0 : (ro Tryd.f55 0).toList.mapM (trO Tryd.prog 40 (ro Tryd.f55 0)) = some a55_0 := by kernel_rfl
def a55_1 : List AO := [⟨(some 9), none, .load (some 2) (.t 3)⟩,
  ⟨(some 10), none, .fld 3 (.t 5)⟩,
  ⟨(some 11), none, .load none (.t 10)⟩,
  ⟨(some 12), none, .call 56 [(.t 9), (.t 11)]⟩,
  ⟨(some 13), none, .fld 2 (.t 4)⟩,
  ⟨(some 14), none, .load none (.t 13)⟩,
  ⟨(some 15), none, .bin .eql (.t 12) (.t 14)⟩,
  ⟨(some 16), none, .load (some 2) (.t 3)⟩,
  ⟨(some 17), none, .fld 4 (.t 5)⟩,
  ⟨(some 18), none, .load none (.t 17)⟩,
  ⟨(some 19), none, .call 56 [(.t 16), (.t 18)]⟩,
  ⟨(some 20), none, .fld 2 (.t 4)⟩,
  ⟨(some 21), none, .load none (.t 20)⟩,
  ⟨(some 22), none, .bin .eql (.t 19) (.t 21)⟩,
  ⟨(some 7), none, .mv (.t 15)⟩,
  ⟨(some 8), none, .mv (.t 22)⟩]
theorem tr55_1 : (ro Tryd.f55 1).toList.mapM (trO Tryd.prog 40 (ro Tryd.f55 1)) = some a55_1 := by kernel_rfl
def d55_1 : List (List Nat) := [[], [], [1], [0, 1, 2], [], [4], [0, 1, 2, 3, 4, 5], [], [], [8], [0, 1, 2, 3, 7, 8, 9], [], [11], [0, 1, 2, 3, 7, 8, 9, 10, 11, 12], [0, 1, 2, 3, 4, 5, 6, 7, 8, 9, 10], [0, 1, 2, 3, 4, 5, 6, 7, 8, 9, 10, 11, 12, 13, 14]]
theorem ok55_1 : okReg (ro Tryd.f55 1) a55_1 d55_1 = true := by kernel_rfl
def a55_2 : List AO := [⟨(some 23), none, .fld 4 (.t 4)⟩,
  ⟨(some 24), none, .load none (.t 23)⟩]
theorem tr55_2 : (ro Tryd.f55 2).toList.mapM (trO Tryd.prog 40 (ro Tryd.f55 2)) = some a55_2 := by kernel_rfl
def a55_3 : List AO := [⟨(some 26), none, .bin .eql (.t 24) (.v (.int .i64 0))⟩,
  ⟨(some 25), none, .mv (.t 26)⟩]
theorem tr55_3 : (ro Tryd.f55 3).toList.mapM (trO Tryd.prog 40 (ro Tryd.f55 3)) = some a55_3 := by kernel_rfl
def a55_4 : List AO := [⟨(some 27), none, .mv (.t 7)⟩,
  ⟨(some 28), none, .mv (.t 27)⟩,
  ⟨(some 29), some (28, false), .mv (.t 8)⟩,
  ⟨(some 30), none, .pick (.t 28) (.v (.bool true)) (.t 29)⟩,
  ⟨(some 6), none, .mv (.t 30)⟩]
theorem tr55_4 : (ro Tryd.f55 4).toList.mapM (trO Tryd.prog 40 (ro Tryd.f55 4)) = some a55_4 := by kernel_rfl
def a55_5 : List AO := [⟨(some 32), none, .bin .eql (.t 24) (.v (.int .i64 1))⟩,
  ⟨(some 31), none, .mv (.t 32)⟩]
theorem tr55_5 : (ro Tryd.f55 5).toList.mapM (trO Tryd.prog 40 (ro Tryd.f55 5)) = some a55_5 := by kernel_rfl
def a55_6 : List AO := [⟨(some 33), none, .mv (.t 7)⟩,
  ⟨(some 34), none, .mv (.t 33)⟩,
  ⟨(some 35), some (34, true), .mv (.t 8)⟩,
  ⟨(some 36), none, .pick (.t 34) (.t 35) (.v (.bool false))⟩,
  ⟨(some 6), none, .mv (.t 36)⟩]
theorem tr55_6 : (ro Tryd.f55 6).toList.mapM (trO Tryd.prog 40 (ro Tryd.f55 6)) = some a55_6 := by kernel_rfl
def a55_7 : List AO := [⟨(some 37), none, .mv (.t 7)⟩,
  ⟨(some 38), none, .mv (.t 8)⟩,
  ⟨(some 39), none, .binb .neq (.t 37) (.t 38)⟩,
  ⟨(some 6), none, .mv (.t 39)⟩]
theorem tr55_7 : (ro Tryd.f55 7).toList.mapM (trO Tryd.prog 40 (ro Tryd.f55 7)) = some a55_7 := by kernel_rfl
/-- airline/airlineref06.Country -/
noncomputable def c56 : Code := .seq (.region 0 (ro Tryd.f56 0) false) (.seq (.region 1 (ro Tryd.f56 1) false) (.seq (.seq (.region 2 (ro Tryd.f56 2) false) (.cond (.tmp 14) (.region 3 (ro Tryd.f56 3) false) (.skip))) (.seq (.region 4 (ro Tryd.f56 4) false) (.ret))))
theorem body56 : Tryd.f56.body = some c56 := by kernel_rfl
theorem res56 : Tryd.f56.results.toList.mapM (trR Tryd.prog) = some [.t 4] := by kernel_rfl
theorem nt56 : Tryd.f56.ntmps = 23 := by kernel_rfl
theorem nm56 : (Tryd.f56.name == "runtime.NumGoroutine") = false := by kernel_rfl
def a56_0 : List AO := [⟨(some 2), none, .box 31 (.t 0)⟩,
  ⟨(some 4), none, .mv (.v (.str []))⟩]
theorem tr56_0 : (ro Tryd.f56 0).toList.mapM (trO Tryd.prog 23 (ro Tryd.f56 0)) = some a56_0 := by kernel_rfl
def a56_1 : List AO := [⟨(some 8), none, .load (some 2) (.t 2)⟩,
  ⟨(some 9), none, .mv (.t 1)⟩,
  ⟨(some 10), none, .call 73 [(.t 8), (.t 9)]⟩,
  ⟨(some 7), none, .mv (.t 10)⟩,
  ⟨(some 11), none, .ext 0 (.t 7)⟩,
  ⟨(some 12), none, .ext 1 (.t 7)⟩,
  ⟨(some 5), none, .alloc 81 [(.str []), (.str []), (.str []), (.int .i64 0), .nils]⟩,
  ⟨none, none, .store 5 (.t 5) (.t 11)⟩,
  ⟨(some 6), none, .mv (.t 12)⟩]
theorem tr56_1 : (ro Tryd.f56 1).toList.mapM (trO Tryd.prog 23 (ro Tryd.f56 1)) = some a56_1 := by kernel_rfl
def a56_2 : List AO := [⟨(some 13), none, .mv (.t 6)⟩,
  ⟨(some 14), none, .un .not (.t 13)⟩]
theorem tr56_2 : (ro Tryd.f56 2).toList.mapM (trO Tryd.prog 23 (ro Tryd.f56 2)) = some a56_2 := by kernel_rfl
def a56_3 : List AO := [⟨(some 16), none, .load (some 2) (.t 2)⟩,
  ⟨(some 17), none, .mv (.t 1)⟩,
  ⟨(some 18), none, .call 71 [(.t 16), (.t 17)]⟩,
  ⟨(some 15), none, .mv (.t 18)⟩,
  ⟨(some 19), none, .ext 0 (.t 15)⟩,
  ⟨(some 20), none, .ext 1 (.t 15)⟩,
  ⟨none, none, .store 5 (.t 5) (.t 19)⟩]
theorem tr56_3 : (ro Tryd.f56 3).toList.mapM (trO Tryd.prog 23 (ro Tryd.f56 3)) = some a56_3 := by kernel_rfl
def a56_4 : List AO := [⟨(some 21), none, .fld 2 (.t 5)⟩,
  ⟨(some 22), none, .load none (.t 21)⟩,
  ⟨(some 4), none, .mv (.t 22)⟩]
theorem tr56_4 : (ro Tryd.f56 4).toList.mapM (trO Tryd.prog 23 (ro Tryd.f56 4)) = some a56_4 := by kernel_rfl
/-- airline/airlineref27.transit -/
noncomputable def c57 : Code := .seq (.region 0 (ro Tryd.f57 0) false) (.seq (.region 1 (ro Tryd.f57 1) false) (.ret))
theorem body57 : Tryd.f57.body = some c57 := by kernel_rfl
theorem res57 : Tryd.f57.results.toList.mapM (trR Tryd.prog) = some [.t 6] := by kernel_rfl
theorem nt57 : Tryd.f57.ntmps = 29 := by kernel_rfl
theorem nm57 : (Tryd.f57.name == "runtime.NumGoroutine") = false := by kernel_rfl
def a57_0 : List AO := [⟨(some 3), none, .box 34 (.t 0)⟩,
  ⟨(some 4), none, .box 46 (.t 1)⟩,
  ⟨(some 5), none, .box 46 (.t 2)⟩,
  ⟨(some 6), none, .mv (.v (.bool false))⟩]
theorem tr57_0 : (ro Tryd.f57 0).toList.mapM (trO Tryd.prog 29 (ro Tryd.f57 0)) = some a57_0 := by kernel_rfl
def a57_1 : List AO := [⟨(some 7), none, .fld 4 (.t 4)⟩,
  ⟨(some 8), none, .load none (.t 7)⟩,
  ⟨(some 9), none, .fld 3 (.t 5)⟩,
  ⟨(some 10), none, .load none (.t 9)⟩,
  ⟨(some 11), none, .bin .eql (.t 8) (.t 10)⟩,
  ⟨(some 12), none, .mv (.t 11)⟩,
  ⟨(some 13), some (12, true), .fld 5 (.t 5)⟩,
  ⟨(some 14), some (12, true), .load none (.t 13)⟩,
  ⟨(some 15), some (12, true), .fld 6 (.t 4)⟩,
  ⟨(some 16), some (12, true), .load none (.t 15)⟩,
  ⟨(some 17), some (12, true), .bin .geq (.t 14) (.t 16)⟩,
  ⟨(some 18), none, .pick (.t 12) (.t 17) (.v (.bool false))⟩,
  ⟨(some 19), none, .mv (.t 18)⟩,
  ⟨(some 20), some (19, true), .fld 5 (.t 5)⟩,
  ⟨(some 21), some (19, true), .load none (.t 20)⟩,
  ⟨(some 22), some (19, true), .fld 6 (.t 4)⟩,
  ⟨(some 23), some (19, true), .load none (.t 22)⟩,
  ⟨(some 24), some (19, true), .bin .sub (.t 21) (.t 23)⟩,
  ⟨(some 25), some (19, true), .fld 5 (.t 3)⟩,
  ⟨(some 26), some (19, true), .load none (.t 25)⟩,
  ⟨(some 27), some (19, true), .bin .leq (.t 24) (.t 26)⟩,
  ⟨(some 28), none, .pick (.t 19) (.t 27) (.v (.bool false))⟩,
  ⟨(some 6), none, .mv (.t 28)⟩]
theorem tr57_1 : (ro Tryd.f57 1).toList.mapM (trO Tryd.prog 29 (ro Tryd.f57 1)) = some a57_1 := by kernel_rfl
/-- airline/money.fits -/
noncomputable def c58 : Code := .seq (.region 0 (ro Tryd.f58 0) false) (.seq (.region 1 (ro Tryd.f58 1) false) (.ret))
theorem body58 : Tryd.f58.body = some c58 := by kernel_rfl
theorem res58 : Tryd.f58.results.toList.mapM (trR Tryd.prog) = some [.t 2] := by kernel_rfl
theorem nt58 : Tryd.f58.ntmps = 9 := by kernel_rfl
theorem nm58 : (Tryd.f58.name == "runtime.NumGoroutine") = false := by kernel_rfl
def a58_0 : List AO := [⟨(some 2), none, .mv (.v (.bool false))⟩]
theorem tr58_0 : (ro Tryd.f58 0).toList.mapM (trO Tryd.prog 9 (ro Tryd.f58 0)) = some a58_0 := by kernel_rfl
def a58_1 : List AO := [⟨(some 3), none, .mv (.t 0)⟩,
  ⟨(some 4), none, .bin .geq (.t 3) (.v (.int .i64 (-1099511627776)))⟩,
  ⟨(some 5), none, .mv (.t 4)⟩,
  ⟨(some 6), some (5, true), .mv (.t 0)⟩,
  ⟨(some 7), some (5, true), .bin .leq (.t 6) (.v (.int .i64 1099511627776))⟩,
  ⟨(some 8), none, .pick (.t 5) (.t 7) (.v (.bool false))⟩,
  ⟨(some 2), none, .mv (.t 8)⟩]
theorem tr58_1 : (ro Tryd.f58 1).toList.mapM (trO Tryd.prog 9 (ro Tryd.f58 1)) = some a58_1 := by kernel_rfl
/-- airline/money.scale -/
noncomputable def c59 : Code := .seq (.region 0 (ro Tryd.f59 0) false) (.seq (.region 1 (ro Tryd.f59 1) false) (.seq (.seq (.region 2 (ro Tryd.f59 2) false) (.cond (.tmp 21) (.seq (.region 3 (ro Tryd.f59 3) false) (.ret)) (.skip))) (.seq (.region 4 (ro Tryd.f59 4) false) (.seq (.region 5 (ro Tryd.f59 5) false) (.ret)))))
theorem body59 : Tryd.f59.body = some c59 := by kernel_rfl
theorem res59 : Tryd.f59.results.toList.mapM (trR Tryd.prog) = some [.t 6, .t 7, .t 8] := by kernel_rfl
theorem nt59 : Tryd.f59.ntmps = 31 := by kernel_rfl
theorem nm59 : (Tryd.f59.name == "runtime.NumGoroutine") = false := by kernel_rfl
def a59_0 : List AO := [⟨(some 6), none, .mv (.v (.int .u64 0))⟩,
  ⟨(some 7), none, .mv (.v (.int .u64 0))⟩,
  ⟨(some 8), none, .mv (.v (.bool false))⟩]
theorem tr59_0 : (ro Tryd.f59 0).toList.mapM (trO Tryd.prog 31 (ro Tryd.f59 0)) = some a59_0 := by kernel_rfl
def a59_1 : List AO := [⟨(some 14), none, .mv (.t 0)⟩,
  ⟨(some 15), none, .mv (.t 1)⟩,
  ⟨(some 16), none, .call 74 [(.t 14), (.t 15)]⟩,
  ⟨(some 13), none, .mv (.t 16)⟩,
  ⟨(some 17), none, .ext 0 (.t 13)⟩,
  ⟨(some 18), none, .ext 1 (.t 13)⟩,
  ⟨(some 9), none, .mv (.t 17)⟩,
  ⟨(some 10), none, .mv (.t 18)⟩]
theorem tr59_1 : (ro Tryd.f59 1).toList.mapM (trO Tryd.prog 31 (ro Tryd.f59 1)) = some a59_1 := by kernel_rfl
def a59_2 : List AO := [⟨(some 19), none, .mv (.t 9)⟩,
  ⟨(some 20), none, .mv (.t 2)⟩,
  ⟨(some 21), none, .bin .geq (.t 19) (.t 20)⟩]
theorem tr59_2 : (ro Tryd.f59 2).toList.mapM (trO Tryd.prog 31 (ro Tryd.f59 2)) = some a59_2 := by kernel_rfl
def a59_3 : List AO := [⟨(some 6), none, .mv (.v (.int .u64 0))⟩,
  ⟨(some 7), none, .mv (.v (.int .u64 0))⟩,
  ⟨(some 8), none, .mv (.v (.bool false))⟩]
theorem tr59_3 : (ro Tryd.f59 3).toList.mapM (trO Tryd.prog 31 (ro Tryd.f59 3)) = some a59_3 := by kernel_rfl
def a59_4 : List AO := [⟨(some 23), none, .mv (.t 9)⟩,
  ⟨(some 24), none, .mv (.t 10)⟩,
  ⟨(some 25), none, .mv (.t 2)⟩,
  ⟨(some 26), none, .call 75 [(.t 23), (.t 24), (.t 25)]⟩,
  ⟨(some 22), none, .mv (.t 26)⟩,
  ⟨(some 27), none, .ext 0 (.t 22)⟩,
  ⟨(some 28), none, .ext 1 (.t 22)⟩,
  ⟨(some 11), none, .mv (.t 27)⟩,
  ⟨(some 12), none, .mv (.t 28)⟩]
theorem tr59_4 : (ro Tryd.f59 4).toList.mapM (trO Tryd.prog 31 (ro Tryd.f59 4)) = some a59_4 := by kernel_rfl
def a59_5 : List AO := [⟨(some 29), none, .mv (.t 11)⟩,
  ⟨(some 30), none, .mv (.t 12)⟩,
  ⟨(some 6), none, .mv (.t 29)⟩,
  ⟨(some 7), none, .mv (.t 30)⟩,
  ⟨(some 8), none, .mv (.v (.bool true))⟩]
theorem tr59_5 : (ro Tryd.f59 5).toList.mapM (trO Tryd.prog 31 (ro Tryd.f59 5)) = some a59_5 := by kernel_rfl
/-- airline/money.size -/
noncomputable def c60 : Code := .seq (.region 0 (ro Tryd.f60 0) false) (.seq (.seq (.region 1 (ro Tryd.f60 1) false) (.cond (.tmp 4) (.seq (.region 2 (ro Tryd.f60 2) false) (.ret)) (.skip))) (.seq (.region 3 (ro Tryd.f60 3) false) (.ret)))
theorem body60 : Tryd.f60.body = some c60 := by kernel_rfl
theorem res60 : Tryd.f60.results.toList.mapM (trR Tryd.prog) = some [.t 2] := by kernel_rfl
theorem nt60 : Tryd.f60.ntmps = 10 := by kernel_rfl
theorem nm60 : (Tryd.f60.name == "runtime.NumGoroutine") = false := by kernel_rfl
def a60_0 : List AO := [⟨(some 2), none, .mv (.v (.int .u64 0))⟩]
theorem tr60_0 : (ro Tryd.f60 0).toList.mapM (trO Tryd.prog 10 (ro Tryd.f60 0)) = some a60_0 := by kernel_rfl
def a60_1 : List AO := [⟨(some 3), none, .mv (.t 0)⟩,
  ⟨(some 4), none, .bin .lss (.t 3) (.v (.int .i64 0))⟩]
theorem tr60_1 : (ro Tryd.f60 1).toList.mapM (trO Tryd.prog 10 (ro Tryd.f60 1)) = some a60_1 := by kernel_rfl
def a60_2 : List AO := [⟨(some 5), none, .mv (.t 0)⟩,
  ⟨(some 6), none, .conv .u64 (.t 5)⟩,
  ⟨(some 7), none, .un .neg (.t 6)⟩,
  ⟨(some 2), none, .mv (.t 7)⟩]
theorem tr60_2 : (ro Tryd.f60 2).toList.mapM (trO Tryd.prog 10 (ro Tryd.f60 2)) = some a60_2 := by kernel_rfl
def a60_3 : List AO := [⟨(some 8), none, .mv (.t 0)⟩,
  ⟨(some 9), none, .conv .u64 (.t 8)⟩,
  ⟨(some 2), none, .mv (.t 9)⟩]
theorem tr60_3 : (ro Tryd.f60 3).toList.mapM (trO Tryd.prog 10 (ro Tryd.f60 3)) = some a60_3 := by kernel_rfl
/-- airline/airlineref02.Amount -/
noncomputable def c61 : Code := .seq (.region 0 (ro Tryd.f61 0) false) (.seq (.region 1 (ro Tryd.f61 1) false) (.ret))
theorem body61 : Tryd.f61.body = some c61 := by kernel_rfl
theorem res61 : Tryd.f61.results.toList.mapM (trR Tryd.prog) = some [.t 2] := by kernel_rfl
theorem nt61 : Tryd.f61.ntmps = 9 := by kernel_rfl
theorem nm61 : (Tryd.f61.name == "runtime.NumGoroutine") = false := by kernel_rfl
def a61_0 : List AO := [⟨(some 2), none, .mv (.v (.bool false))⟩]
theorem tr61_0 : (ro Tryd.f61 0).toList.mapM (trO Tryd.prog 9 (ro Tryd.f61 0)) = some a61_0 := by kernel_rfl
def a61_1 : List AO := [⟨(some 3), none, .mv (.t 0)⟩,
  ⟨(some 4), none, .bin .geq (.t 3) (.v (.int .i64 (-1099511627776)))⟩,
  ⟨(some 5), none, .mv (.t 4)⟩,
  ⟨(some 6), some (5, true), .mv (.t 0)⟩,
  ⟨(some 7), some (5, true), .bin .leq (.t 6) (.v (.int .i64 1099511627776))⟩,
  ⟨(some 8), none, .pick (.t 5) (.t 7) (.v (.bool false))⟩,
  ⟨(some 2), none, .mv (.t 8)⟩]
theorem tr61_1 : (ro Tryd.f61 1).toList.mapM (trO Tryd.prog 9 (ro Tryd.f61 1)) = some a61_1 := by kernel_rfl
/-- airline/airlineref02.floor -/
noncomputable def c62 : Code := .seq (.region 0 (ro Tryd.f62 0) false) (.seq (.region 1 (ro Tryd.f62 1) true) (.seq (.seq (.region 2 (ro Tryd.f62 2) false) (.cond (.tmp 15) (.seq (.region 3 (ro Tryd.f62 3) false) (.ret)) (.skip))) (.seq (.region 4 (ro Tryd.f62 4) false) (.ret))))
theorem body62 : Tryd.f62.body = some c62 := by kernel_rfl
theorem res62 : Tryd.f62.results.toList.mapM (trR Tryd.prog) = some [.t 4, .t 5] := by kernel_rfl
theorem nt62 : Tryd.f62.ntmps = 23 := by kernel_rfl
theorem nm62 : (Tryd.f62.name == "runtime.NumGoroutine") = false := by kernel_rfl
def a62_0 : List AO := [⟨(some 4), none, .mv (.v (.int .i64 0))⟩,
  ⟨(some 5), none, .mv (.v (.int .i64 0))⟩]
theorem tr62_0 : (ro Tryd.f62 0).toList.mapM (trO Tryd.prog 23 (ro Tryd.f62 0)) = some a62_0 := by kernel_rfl
def a62_1 : List AO := [⟨(some 8), none, .mv (.t 0)⟩,
  ⟨(some 9), none, .mv (.t 1)⟩,
  ⟨(some 10), none, .bin .quo (.t 8) (.t 9)⟩,
  ⟨(some 11), none, .mv (.t 0)⟩,
  ⟨(some 12), none, .mv (.t 1)⟩,
  ⟨(some 13), none, .bin .rem (.t 11) (.t 12)⟩,
  ⟨(some 6), none, .mv (.t 10)⟩,
  ⟨(some 7), none, .mv (.t 13)⟩]
theorem tr62_1 : (ro Tryd.f62 1).toList.mapM (trO Tryd.prog 23 (ro Tryd.f62 1)) = some a62_1 := by kernel_rfl
def d62_1 : List (List Nat) := [[], [], [0, 1], [], [], [3, 4], [0, 1, 2], [0, 1, 2, 3, 4, 5, 6]]
theorem ok62_1 : okReg (ro Tryd.f62 1) a62_1 d62_1 = true := by kernel_rfl
def a62_2 : List AO := [⟨(some 14), none, .mv (.t 7)⟩,
  ⟨(some 15), none, .bin .lss (.t 14) (.v (.int .i64 0))⟩]
theorem tr62_2 : (ro Tryd.f62 2).toList.mapM (trO Tryd.prog 23 (ro Tryd.f62 2)) = some a62_2 := by kernel_rfl
def a62_3 : List AO := [⟨(some 16), none, .mv (.t 6)⟩,
  ⟨(some 17), none, .bin .sub (.t 16) (.v (.int .i64 1))⟩,
  ⟨(some 18), none, .mv (.t 7)⟩,
  ⟨(some 19), none, .mv (.t 1)⟩,
  ⟨(some 20), none, .bin .add (.t 18) (.t 19)⟩,
  ⟨(some 4), none, .mv (.t 17)⟩,
  ⟨(some 5), none, .mv (.t 20)⟩]
theorem tr62_3 : (ro Tryd.f62 3).toList.mapM (trO Tryd.prog 23 (ro Tryd.f62 3)) = some a62_3 := by kernel_rfl
def a62_4 : List AO := [⟨(some 21), none, .mv (.t 6)⟩,
  ⟨(some 22), none, .mv (.t 7)⟩,
  ⟨(some 4), none, .mv (.t 21)⟩,
  ⟨(some 5), none, .mv (.t 22)⟩]
theorem tr62_4 : (ro Tryd.f62 4).toList.mapM (trO Tryd.prog 23 (ro Tryd.f62 4)) = some a62_4 := by kernel_rfl
/-- airline/airlineref02.size -/
noncomputable def c63 : Code := .seq (.region 0 (ro Tryd.f63 0) false) (.seq (.seq (.region 1 (ro Tryd.f63 1) false) (.cond (.tmp 4) (.seq (.region 2 (ro Tryd.f63 2) false) (.ret)) (.skip))) (.seq (.region 3 (ro Tryd.f63 3) false) (.ret)))
theorem body63 : Tryd.f63.body = some c63 := by kernel_rfl
theorem res63 : Tryd.f63.results.toList.mapM (trR Tryd.prog) = some [.t 2] := by kernel_rfl
theorem nt63 : Tryd.f63.ntmps = 8 := by kernel_rfl
theorem nm63 : (Tryd.f63.name == "runtime.NumGoroutine") = false := by kernel_rfl
def a63_0 : List AO := [⟨(some 2), none, .mv (.v (.int .i64 0))⟩]
theorem tr63_0 : (ro Tryd.f63 0).toList.mapM (trO Tryd.prog 8 (ro Tryd.f63 0)) = some a63_0 := by kernel_rfl
def a63_1 : List AO := [⟨(some 3), none, .mv (.t 0)⟩,
  ⟨(some 4), none, .bin .lss (.t 3) (.v (.int .i64 0))⟩]
theorem tr63_1 : (ro Tryd.f63 1).toList.mapM (trO Tryd.prog 8 (ro Tryd.f63 1)) = some a63_1 := by kernel_rfl
def a63_2 : List AO := [⟨(some 5), none, .mv (.t 0)⟩,
  ⟨(some 6), none, .un .neg (.t 5)⟩,
  ⟨(some 2), none, .mv (.t 6)⟩]
theorem tr63_2 : (ro Tryd.f63 2).toList.mapM (trO Tryd.prog 8 (ro Tryd.f63 2)) = some a63_2 := by kernel_rfl
def a63_3 : List AO := [⟨(some 7), none, .mv (.t 0)⟩,
  ⟨(some 2), none, .mv (.t 7)⟩]
theorem tr63_3 : (ro Tryd.f63 3).toList.mapM (trO Tryd.prog 8 (ro Tryd.f63 3)) = some a63_3 := by kernel_rfl
/-- airline/airlineref02.Add -/
noncomputable def c64 : Code := .seq (.region 0 (ro Tryd.f64 0) false) (.seq (.seq (.region 1 (ro Tryd.f64 1) false) (.cond (.tmp 20) (.seq (.region 2 (ro Tryd.f64 2) false) (.ret)) (.skip))) (.seq (.region 3 (ro Tryd.f64 3) false) (.ret)))
theorem body64 : Tryd.f64.body = some c64 := by kernel_rfl
theorem res64 : Tryd.f64.results.toList.mapM (trR Tryd.prog) = some [.t 4, .t 5] := by kernel_rfl
theorem nt64 : Tryd.f64.ntmps = 24 := by kernel_rfl
theorem nm64 : (Tryd.f64.name == "runtime.NumGoroutine") = false := by kernel_rfl
def a64_0 : List AO := [⟨(some 4), none, .mv (.v (.int .i64 0))⟩,
  ⟨(some 5), none, .mv (.v (.int .i64 0))⟩]
theorem tr64_0 : (ro Tryd.f64 0).toList.mapM (trO Tryd.prog 24 (ro Tryd.f64 0)) = some a64_0 := by kernel_rfl
def a64_1 : List AO := [⟨(some 6), none, .mv (.t 0)⟩,
  ⟨(some 7), none, .call 61 [(.t 6)]⟩,
  ⟨(some 8), none, .un .not (.t 7)⟩,
  ⟨(some 9), none, .mv (.t 8)⟩,
  ⟨(some 10), some (9, false), .mv (.t 1)⟩,
  ⟨(some 11), some (9, false), .call 61 [(.t 10)]⟩,
  ⟨(some 12), some (9, false), .un .not (.t 11)⟩,
  ⟨(some 13), none, .pick (.t 9) (.v (.bool true)) (.t 12)⟩,
  ⟨(some 14), none, .mv (.t 13)⟩,
  ⟨(some 15), some (14, false), .mv (.t 0)⟩,
  ⟨(some 16), some (14, false), .mv (.t 1)⟩,
  ⟨(some 17), some (14, false), .bin .add (.t 15) (.t 16)⟩,
  ⟨(some 18), some (14, false), .call 61 [(.t 17)]⟩,
  ⟨(some 19), some (14, false), .un .not (.t 18)⟩,
  ⟨(some 20), none, .pick (.t 14) (.v (.bool true)) (.t 19)⟩]
theorem tr64_1 : (ro Tryd.f64 1).toList.mapM (trO Tryd.prog 24 (ro Tryd.f64 1)) = some a64_1 := by kernel_rfl
def a64_2 : List AO := [⟨(some 4), none, .mv (.v (.int .i64 0))⟩,
  ⟨(some 5), none, .mv (.v (.int .i64 11))⟩]
theorem tr64_2 : (ro Tryd.f64 2).toList.mapM (trO Tryd.prog 24 (ro Tryd.f64 2)) = some a64_2 := by kernel_rfl
def a64_3 : List AO := [⟨(some 21), none, .mv (.t 0)⟩,
  ⟨(some 22), none, .mv (.t 1)⟩,
  ⟨(some 23), none, .bin .add (.t 21) (.t 22)⟩,
  ⟨(some 4), none, .mv (.t 23)⟩,
  ⟨(some 5), none, .mv (.v (.int .i64 0))⟩]
theorem tr64_3 : (ro Tryd.f64 3).toList.mapM (trO Tryd.prog 24 (ro Tryd.f64 3)) = some a64_3 := by kernel_rfl
/-- airline/airlineref01.upper -/
noncomputable def c66 : Code := .seq (.region 0 (ro Tryd.f66 0) false) (.seq (.region 1 (ro Tryd.f66 1) false) (.ret))
theorem body66 : Tryd.f66.body = some c66 := by kernel_rfl
theorem res66 : Tryd.f66.results.toList.mapM (trR Tryd.prog) = some [.t 2] := by kernel_rfl
theorem nt66 : Tryd.f66.ntmps = 9 := by kernel_rfl
theorem nm66 : (Tryd.f66.name == "runtime.NumGoroutine") = false := by kernel_rfl
def a66_0 : List AO := [⟨(some 2), none, .mv (.v (.bool false))⟩]
theorem tr66_0 : (ro Tryd.f66 0).toList.mapM (trO Tryd.prog 9 (ro Tryd.f66 0)) = some a66_0 := by kernel_rfl
def a66_1 : List AO := [⟨(some 3), none, .mv (.t 0)⟩,
  ⟨(some 4), none, .bin .geq (.t 3) (.v (.int .u8 65))⟩,
  ⟨(some 5), none, .mv (.t 4)⟩,
  ⟨(some 6), some (5, true), .mv (.t 0)⟩,
  ⟨(some 7), some (5, true), .bin .leq (.t 6) (.v (.int .u8 90))⟩,
  ⟨(some 8), none, .pick (.t 5) (.t 7) (.v (.bool false))⟩,
  ⟨(some 2), none, .mv (.t 8)⟩]
theorem tr66_1 : (ro Tryd.f66 1).toList.mapM (trO Tryd.prog 9 (ro Tryd.f66 1)) = some a66_1 := by kernel_rfl
/-- airline/airlineref01.digit -/
noncomputable def c67 : Code := .seq (.region 0 (ro Tryd.f67 0) false) (.seq (.region 1 (ro Tryd.f67 1) false) (.ret))
theorem body67 : Tryd.f67.body = some c67 := by kernel_rfl
theorem res67 : Tryd.f67.results.toList.mapM (trR Tryd.prog) = some [.t 2] := by kernel_rfl
theorem nt67 : Tryd.f67.ntmps = 9 := by kernel_rfl
theorem nm67 : (Tryd.f67.name == "runtime.NumGoroutine") = false := by kernel_rfl
def a67_0 : List AO := [⟨(some 2), none, .mv (.v (.bool false))⟩]
theorem tr67_0 : (ro Tryd.f67 0).toList.mapM (trO Tryd.prog 9 (ro Tryd.f67 0)) = some a67_0 := by kernel_rfl
def a67_1 : List AO := [⟨(some 3), none, .mv (.t 0)⟩,
  ⟨(some 4), none, .bin .geq (.t 3) (.v (.int .u8 48))⟩,
  ⟨(some 5), none, .mv (.t 4)⟩,
  ⟨(some 6), some (5, true), .mv (.t 0)⟩,
  ⟨(some 7), some (5, true), .bin .leq (.t 6) (.v (.int .u8 57))⟩,
  ⟨(some 8), none, .pick (.t 5) (.t 7) (.v (.bool false))⟩,
  ⟨(some 2), none, .mv (.t 8)⟩]
theorem tr67_1 : (ro Tryd.f67 1).toList.mapM (trO Tryd.prog 9 (ro Tryd.f67 1)) = some a67_1 := by kernel_rfl
/-- airline/airlineref01.letters -/
noncomputable def c68 : Code := .seq (.region 0 (ro Tryd.f68 0) false) (.seq (.seq (.region 1 (ro Tryd.f68 1) false) (.block 0 (.loop (.seq (.seq (.region 2 (ro Tryd.f68 2) false) (.cond (.tmp 9) (.skip) (.exit 0))) (.seq (.block 1 (.seq (.region 4 (ro Tryd.f68 4) false) (.cond (.tmp 16) (.seq (.region 5 (ro Tryd.f68 5) false) (.ret)) (.skip)))) (.region 3 (ro Tryd.f68 3) false)))))) (.seq (.region 6 (ro Tryd.f68 6) false) (.ret)))
theorem body68 : Tryd.f68.body = some c68 := by kernel_rfl
theorem res68 : Tryd.f68.results.toList.mapM (trR Tryd.prog) = some [.t 4] := by kernel_rfl
theorem nt68 : Tryd.f68.ntmps = 21 := by kernel_rfl
theorem nm68 : (Tryd.f68.name == "runtime.NumGoroutine") = false := by kernel_rfl
def a68_0 : List AO := [⟨(some 4), none, .mv (.v (.bool false))⟩]
theorem tr68_0 : (ro Tryd.f68 0).toList.mapM (trO Tryd.prog 21 (ro Tryd.f68 0)) = some a68_0 := by kernel_rfl
def a68_1 : List AO := [⟨(some 5), none, .mv (.v (.int .i64 0))⟩]
theorem tr68_1 : (ro Tryd.f68 1).toList.mapM (trO Tryd.prog 21 (ro Tryd.f68 1)) = some a68_1 := by kernel_rfl
def a68_2 : List AO := [⟨(some 6), none, .mv (.t 5)⟩,
  ⟨(some 7), none, .mv (.t 0)⟩,
  ⟨(some 8), none, .slen (.t 7)⟩,
  ⟨(some 9), none, .bin .lss (.t 6) (.t 8)⟩]
theorem tr68_2 : (ro Tryd.f68 2).toList.mapM (trO Tryd.prog 21 (ro Tryd.f68 2)) = some a68_2 := by kernel_rfl
def a68_4 : List AO := [⟨(some 12), none, .mv (.t 0)⟩,
  ⟨(some 13), none, .mv (.t 5)⟩,
  ⟨(some 14), none, .sidx (.t 12) (.t 13)⟩,
  ⟨(some 15), none, .call 66 [(.t 14)]⟩,
  ⟨(some 16), none, .un .not (.t 15)⟩]
theorem tr68_4 : (ro Tryd.f68 4).toList.mapM (trO Tryd.prog 21 (ro Tryd.f68 4)) = some a68_4 := by kernel_rfl
def a68_5 : List AO := [⟨(some 4), none, .mv (.v (.bool false))⟩]
theorem tr68_5 : (ro Tryd.f68 5).toList.mapM (trO Tryd.prog 21 (ro Tryd.f68 5)) = some a68_5 := by kernel_rfl
def a68_3 : List AO := [⟨(some 10), none, .mv (.t 5)⟩,
  ⟨(some 11), none, .bin .add (.t 10) (.v (.int .i64 1))⟩,
  ⟨(some 5), none, .mv (.t 11)⟩]
theorem tr68_3 : (ro Tryd.f68 3).toList.mapM (trO Tryd.prog 21 (ro Tryd.f68 3)) = some a68_3 := by kernel_rfl
def a68_6 : List AO := [⟨(some 17), none, .mv (.t 0)⟩,
  ⟨(some 18), none, .slen (.t 17)⟩,
  ⟨(some 19), none, .mv (.t 1)⟩,
  ⟨(some 20), none, .bin .eql (.t 18) (.t 19)⟩,
  ⟨(some 4), none, .mv (.t 20)⟩]
theorem tr68_6 : (ro Tryd.f68 6).toList.mapM (trO Tryd.prog 21 (ro Tryd.f68 6)) = some a68_6 := by kernel_rfl
/-- airline/airlineref01.Airport -/
noncomputable def c69 : Code := .seq (.region 0 (ro Tryd.f69 0) false) (.seq (.region 1 (ro Tryd.f69 1) false) (.ret))
theorem body69 : Tryd.f69.body = some c69 := by kernel_rfl
theorem res69 : Tryd.f69.results.toList.mapM (trR Tryd.prog) = some [.t 2] := by kernel_rfl
theorem nt69 : Tryd.f69.ntmps = 5 := by kernel_rfl
theorem nm69 : (Tryd.f69.name == "runtime.NumGoroutine") = false := by kernel_rfl
def a69_0 : List AO := [⟨(some 2), none, .mv (.v (.bool false))⟩]
theorem tr69_0 : (ro Tryd.f69 0).toList.mapM (trO Tryd.prog 5 (ro Tryd.f69 0)) = some a69_0 := by kernel_rfl
def a69_1 : List AO := [⟨(some 3), none, .mv (.t 0)⟩,
  ⟨(some 4), none, .call 68 [(.t 3), (.v (.int .i64 3))]⟩,
  ⟨(some 2), none, .mv (.t 4)⟩]
theorem tr69_1 : (ro Tryd.f69 1).toList.mapM (trO Tryd.prog 5 (ro Tryd.f69 1)) = some a69_1 := by kernel_rfl
/-- airline/airlineref05.Check -/
noncomputable def c70 : Code := .seq (.region 0 (ro Tryd.f70 0) false) (.seq (.seq (.region 1 (ro Tryd.f70 1) false) (.cond (.tmp 8) (.seq (.region 2 (ro Tryd.f70 2) false) (.ret)) (.skip))) (.seq (.seq (.region 3 (ro Tryd.f70 3) false) (.cond (.tmp 12) (.seq (.region 4 (ro Tryd.f70 4) false) (.ret)) (.skip))) (.seq (.seq (.region 5 (ro Tryd.f70 5) false) (.block 0 (.loop (.seq (.seq (.region 6 (ro Tryd.f70 6) false) (.cond (.tmp 17) (.skip) (.exit 0))) (.seq (.block 1 (.seq (.region 8 (ro Tryd.f70 8) false) (.seq (.seq (.region 9 (ro Tryd.f70 9) true) (.cond (.tmp 49) (.seq (.region 10 (ro Tryd.f70 10) false) (.ret)) (.skip))) (.seq (.region 11 (ro Tryd.f70 11) false) (.cond (.tmp 53) (.seq (.region 12 (ro Tryd.f70 12) false) (.ret)) (.skip)))))) (.region 7 (ro Tryd.f70 7) false)))))) (.seq (.region 13 (ro Tryd.f70 13) false) (.ret)))))
theorem body70 : Tryd.f70.body = some c70 := by kernel_rfl
theorem res70 : Tryd.f70.results.toList.mapM (trR Tryd.prog) = some [.t 2] := by kernel_rfl
theorem nt70 : Tryd.f70.ntmps = 54 := by kernel_rfl
theorem nm70 : (Tryd.f70.name == "runtime.NumGoroutine") = false := by kernel_rfl
def a70_0 : List AO := [⟨(some 1), none, .box 79 (.t 0)⟩,
  ⟨(some 2), none, .mv (.v (.int .i64 0))⟩]
theorem tr70_0 : (ro Tryd.f70 0).toList.mapM (trO Tryd.prog 54 (ro Tryd.f70 0)) = some a70_0 := by kernel_rfl
def a70_1 : List AO := [⟨(some 5), none, .fld 1 (.t 1)⟩,
  ⟨(some 6), none, .load none (.t 5)⟩,
  ⟨(some 7), none, .len (.t 6)⟩,
  ⟨(some 8), none, .bin .gtr (.t 7) (.v (.int .i64 256))⟩]
theorem tr70_1 : (ro Tryd.f70 1).toList.mapM (trO Tryd.prog 54 (ro Tryd.f70 1)) = some a70_1 := by kernel_rfl
def a70_2 : List AO := [⟨(some 2), none, .mv (.v (.int .i64 4))⟩]
theorem tr70_2 : (ro Tryd.f70 2).toList.mapM (trO Tryd.prog 54 (ro Tryd.f70 2)) = some a70_2 := by kernel_rfl
def a70_3 : List AO := [⟨(some 9), none, .fld 0 (.t 1)⟩,
  ⟨(some 10), none, .load none (.t 9)⟩,
  ⟨(some 11), none, .call 77 [(.t 10)]⟩,
  ⟨(some 12), none, .un .not (.t 11)⟩]
theorem tr70_3 : (ro Tryd.f70 3).toList.mapM (trO Tryd.prog 54 (ro Tryd.f70 3)) = some a70_3 := by kernel_rfl
def a70_4 : List AO := [⟨(some 2), none, .mv (.v (.int .i64 2))⟩]
theorem tr70_4 : (ro Tryd.f70 4).toList.mapM (trO Tryd.prog 54 (ro Tryd.f70 4)) = some a70_4 := by kernel_rfl
def a70_5 : List AO := [⟨(some 3), none, .mv (.v (.int .i64 0))⟩]
theorem tr70_5 : (ro Tryd.f70 5).toList.mapM (trO Tryd.prog 54 (ro Tryd.f70 5)) = some a70_5 := by kernel_rfl
def a70_6 : List AO := [⟨(some 13), none, .mv (.t 3)⟩,
  ⟨(some 14), none, .fld 1 (.t 1)⟩,
  ⟨(some 15), none, .load none (.t 14)⟩,
  ⟨(some 16), none, .len (.t 15)⟩,
  ⟨(some 17), none, .bin .lss (.t 13) (.t 16)⟩]
theorem tr70_6 : (ro Tryd.f70 6).toList.mapM (trO Tryd.prog 54 (ro Tryd.f70 6)) = some a70_6 := by kernel_rfl
def a70_8 : List AO := [⟨(some 20), none, .fld 1 (.t 1)⟩,
  ⟨(some 21), none, .load none (.t 20)⟩,
  ⟨(some 22), none, .mv (.t 3)⟩,
  ⟨(some 23), none, .idx 2 (.t 21) (.t 22)⟩,
  ⟨(some 24), none, .load (some 2) (.t 23)⟩,
  ⟨(some 4), none, .alloc 105 [(.int .i64 0), (.int .i64 0)]⟩,
  ⟨none, none, .store 2 (.t 4) (.t 24)⟩]
theorem tr70_8 : (ro Tryd.f70 8).toList.mapM (trO Tryd.prog 54 (ro Tryd.f70 8)) = some a70_8 := by kernel_rfl
def a70_9 : List AO := [⟨(some 25), none, .fld 0 (.t 4)⟩,
  ⟨(some 26), none, .load none (.t 25)⟩,
  ⟨(some 27), none, .bin .lss (.t 26) (.v (.int .i64 0))⟩,
  ⟨(some 28), none, .mv (.t 27)⟩,
  ⟨(some 29), some (28, false), .fld 0 (.t 4)⟩,
  ⟨(some 30), some (28, false), .load none (.t 29)⟩,
  ⟨(some 31), some (28, false), .bin .geq (.t 30) (.v (.int .i64 52596000))⟩,
  ⟨(some 32), none, .pick (.t 28) (.v (.bool true)) (.t 31)⟩,
  ⟨(some 33), none, .mv (.t 32)⟩,
  ⟨(some 34), some (33, false), .mv (.t 3)⟩,
  ⟨(some 35), some (33, false), .bin .gtr (.t 34) (.v (.int .i64 0))⟩,
  ⟨(some 36), some (33, false), .mv (.t 35)⟩,
  ⟨(some 37), some (36, true), .fld 0 (.t 4)⟩,
  ⟨(some 38), some (36, true), .load none (.t 37)⟩,
  ⟨(some 39), some (36, true), .fld 1 (.t 1)⟩,
  ⟨(some 40), some (36, true), .load none (.t 39)⟩,
  ⟨(some 41), some (36, true), .mv (.t 3)⟩,
  ⟨(some 42), some (36, true), .bin .sub (.t 41) (.v (.int .i64 1))⟩,
  ⟨(some 43), some (36, true), .idx 2 (.t 40) (.t 42)⟩,
  ⟨(some 44), some (36, true), .fld 0 (.t 43)⟩,
  ⟨(some 45), some (36, true), .load none (.t 44)⟩,
  ⟨(some 46), some (36, true), .bin .sub (.t 38) (.t 45)⟩,
  ⟨(some 47), some (36, true), .bin .lss (.t 46) (.v (.int .i64 2880))⟩,
  ⟨(some 48), some (33, false), .pick (.t 36) (.t 47) (.v (.bool false))⟩,
  ⟨(some 49), none, .pick (.t 33) (.v (.bool true)) (.t 48)⟩]
theorem tr70_9 : (ro Tryd.f70 9).toList.mapM (trO Tryd.prog 54 (ro Tryd.f70 9)) = some a70_9 := by kernel_rfl
def d70_9 : List (List Nat) := [[], [0], [0, 1], [0, 1, 2], [0, 1, 2, 3], [0, 1, 2, 3, 4], [0, 1, 2, 3, 4, 5], [0, 1, 2, 3, 4, 5, 6], [0, 1, 2, 3, 4, 5, 6, 7], [0, 1, 2, 3, 4, 5, 6, 7, 8], [0, 1, 2, 3, 4, 5, 6, 7, 8, 9], [0, 1, 2, 3, 4, 5, 6, 7, 8, 9, 10], [0, 1, 2, 3, 4, 5, 6, 7, 8, 9, 10, 11], [0, 1, 2, 3, 4, 5, 6, 7, 8, 9, 10, 11, 12], [0, 1, 2, 3, 4, 5, 6, 7, 8, 9, 10, 11], [0, 1, 2, 3, 4, 5, 6, 7, 8, 9, 10, 11, 14], [0, 1, 2, 3, 4, 5, 6, 7, 8, 9, 10, 11], [0, 1, 2, 3, 4, 5, 6, 7, 8, 9, 10, 11, 16], [0, 1, 2, 3, 4, 5, 6, 7, 8, 9, 10, 11, 14, 15, 16, 17], [0, 1, 2, 3, 4, 5, 6, 7, 8, 9, 10, 11, 14, 15, 16, 17, 18], [0, 1, 2, 3, 4, 5, 6, 7, 8, 9, 10, 11, 14, 15, 16, 17, 18, 19], [0, 1, 2, 3, 4, 5, 6, 7, 8, 9, 10, 11, 12, 13, 14, 15, 16, 17, 18, 19, 20], [0, 1, 2, 3, 4, 5, 6, 7, 8, 9, 10, 11, 12, 13, 14, 15, 16, 17, 18, 19, 20, 21], [0, 1, 2, 3, 4, 5, 6, 7, 8, 9, 10, 11, 12, 13, 14, 15, 16, 17, 18, 19, 20, 21, 22], [0, 1, 2, 3, 4, 5, 6, 7, 8, 9, 10, 11, 12, 13, 14, 15, 16, 17, 18, 19, 20, 21, 22, 23]]
theorem ok70_9 : okReg (ro Tryd.f70 9) a70_9 d70_9 = true := by kernel_rfl
def a70_10 : List AO := [⟨(some 2), none, .mv (.v (.int .i64 13))⟩]
theorem tr70_10 : (ro Tryd.f70 10).toList.mapM (trO Tryd.prog 54 (ro Tryd.f70 10)) = some a70_10 := by kernel_rfl
def a70_11 : List AO := [⟨(some 50), none, .fld 1 (.t 4)⟩,
  ⟨(some 51), none, .load none (.t 50)⟩,
  ⟨(some 52), none, .call 77 [(.t 51)]⟩,
  ⟨(some 53), none, .un .not (.t 52)⟩]
theorem tr70_11 : (ro Tryd.f70 11).toList.mapM (trO Tryd.prog 54 (ro Tryd.f70 11)) = some a70_11 := by kernel_rfl
def a70_12 : List AO := [⟨(some 2), none, .mv (.v (.int .i64 2))⟩]
theorem tr70_12 : (ro Tryd.f70 12).toList.mapM (trO Tryd.prog 54 (ro Tryd.f70 12)) = some a70_12 := by kernel_rfl
def a70_7 : List AO := [⟨(some 18), none, .mv (.t 3)⟩,
  ⟨(some 19), none, .bin .add (.t 18) (.v (.int .i64 1))⟩,
  ⟨(some 3), none, .mv (.t 19)⟩]
theorem tr70_7 : (ro Tryd.f70 7).toList.mapM (trO Tryd.prog 54 (ro Tryd.f70 7)) = some a70_7 := by kernel_rfl
def a70_13 : List AO := [⟨(some 2), none, .mv (.v (.int .i64 0))⟩]
theorem tr70_13 : (ro Tryd.f70 13).toList.mapM (trO Tryd.prog 54 (ro Tryd.f70 13)) = some a70_13 := by kernel_rfl
/-- airline/airlineref06.town -/
noncomputable def c71 : Code := .seq (.region 0 (ro Tryd.f71 0) false) (.seq (.seq (.region 1 (ro Tryd.f71 1) false) (.block 0 (.loop (.seq (.seq (.region 2 (ro Tryd.f71 2) false) (.cond (.tmp 11) (.skip) (.exit 0))) (.seq (.block 1 (.seq (.region 4 (ro Tryd.f71 4) false) (.cond (.tmp 21) (.seq (.region 5 (ro Tryd.f71 5) false) (.ret)) (.skip)))) (.region 3 (ro Tryd.f71 3) false)))))) (.seq (.region 6 (ro Tryd.f71 6) false) (.ret)))
theorem body71 : Tryd.f71.body = some c71 := by kernel_rfl
theorem res71 : Tryd.f71.results.toList.mapM (trR Tryd.prog) = some [.c (some 5) 4, .t 5] := by kernel_rfl
theorem nt71 : Tryd.f71.ntmps = 28 := by kernel_rfl
theorem nm71 : (Tryd.f71.name == "runtime.NumGoroutine") = false := by kernel_rfl
def a71_0 : List AO := [⟨(some 2), none, .box 31 (.t 0)⟩,
  ⟨(some 4), none, .alloc 81 [(.str []), (.str []), (.str []), (.int .i64 0), .nils]⟩,
  ⟨(some 5), none, .mv (.v (.bool false))⟩]
theorem tr71_0 : (ro Tryd.f71 0).toList.mapM (trO Tryd.prog 28 (ro Tryd.f71 0)) = some a71_0 := by kernel_rfl
def a71_1 : List AO := [⟨(some 6), none, .mv (.v (.int .i64 0))⟩]
theorem tr71_1 : (ro Tryd.f71 1).toList.mapM (trO Tryd.prog 28 (ro Tryd.f71 1)) = some a71_1 := by kernel_rfl
def a71_2 : List AO := [⟨(some 7), none, .mv (.t 6)⟩,
  ⟨(some 8), none, .fld 0 (.t 2)⟩,
  ⟨(some 9), none, .load none (.t 8)⟩,
  ⟨(some 10), none, .len (.t 9)⟩,
  ⟨(some 11), none, .bin .lss (.t 7) (.t 10)⟩]
theorem tr71_2 : (ro Tryd.f71 2).toList.mapM (trO Tryd.prog 28 (ro Tryd.f71 2)) = some a71_2 := by kernel_rfl
def a71_4 : List AO := [⟨(some 14), none, .fld 0 (.t 2)⟩,
  ⟨(some 15), none, .load none (.t 14)⟩,
  ⟨(some 16), none, .mv (.t 6)⟩,
  ⟨(some 17), none, .idx 5 (.t 15) (.t 16)⟩,
  ⟨(some 18), none, .fld 1 (.t 17)⟩,
  ⟨(some 19), none, .load none (.t 18)⟩,
  ⟨(some 20), none, .mv (.t 1)⟩,
  ⟨(some 21), none, .bin .eql (.t 19) (.t 20)⟩]
theorem tr71_4 : (ro Tryd.f71 4).toList.mapM (trO Tryd.prog 28 (ro Tryd.f71 4)) = some a71_4 := by kernel_rfl
def a71_5 : List AO := [⟨(some 22), none, .fld 0 (.t 2)⟩,
  ⟨(some 23), none, .load none (.t 22)⟩,
  ⟨(some 24), none, .mv (.t 6)⟩,
  ⟨(some 25), none, .idx 5 (.t 23) (.t 24)⟩,
  ⟨(some 26), none, .load (some 5) (.t 25)⟩,
  ⟨none, none, .store 5 (.t 4) (.t 26)⟩,
  ⟨(some 5), none, .mv (.v (.bool true))⟩]
theorem tr71_5 : (ro Tryd.f71 5).toList.mapM (trO Tryd.prog 28 (ro Tryd.f71 5)) = some a71_5 := by kernel_rfl
def a71_3 : List AO := [⟨(some 12), none, .mv (.t 6)⟩,
  ⟨(some 13), none, .bin .add (.t 12) (.v (.int .i64 1))⟩,
  ⟨(some 6), none, .mv (.t 13)⟩]
theorem tr71_3 : (ro Tryd.f71 3).toList.mapM (trO Tryd.prog 28 (ro Tryd.f71 3)) = some a71_3 := by kernel_rfl
def a71_6 : List AO := [⟨(some 27), none, .build [(.str []), (.str []), (.str []), (.int .i64 0), .nils] []⟩,
  ⟨none, none, .store 5 (.t 4) (.t 27)⟩,
  ⟨(some 5), none, .mv (.v (.bool false))⟩]
theorem tr71_6 : (ro Tryd.f71 6).toList.mapM (trO Tryd.prog 28 (ro Tryd.f71 6)) = some a71_6 := by kernel_rfl
/-- airline/airlineref06.Usable -/
noncomputable def c72 : Code := .seq (.region 0 (ro Tryd.f72 0) false) (.seq (.region 1 (ro Tryd.f72 1) false) (.ret))
theorem body72 : Tryd.f72.body = some c72 := by kernel_rfl
theorem res72 : Tryd.f72.results.toList.mapM (trR Tryd.prog) = some [.t 2] := by kernel_rfl
theorem nt72 : Tryd.f72.ntmps = 11 := by kernel_rfl
theorem nm72 : (Tryd.f72.name == "runtime.NumGoroutine") = false := by kernel_rfl
def a72_0 : List AO := [⟨(some 1), none, .box 98 (.t 0)⟩,
  ⟨(some 2), none, .mv (.v (.bool false))⟩]
theorem tr72_0 : (ro Tryd.f72 0).toList.mapM (trO Tryd.prog 11 (ro Tryd.f72 0)) = some a72_0 := by kernel_rfl
def a72_1 : List AO := [⟨(some 3), none, .fld 2 (.t 1)⟩,
  ⟨(some 4), none, .load none (.t 3)⟩,
  ⟨(some 5), none, .bin .geq (.t 4) (.v (.int .i64 1))⟩,
  ⟨(some 6), none, .mv (.t 5)⟩,
  ⟨(some 7), some (6, true), .fld 2 (.t 1)⟩,
  ⟨(some 8), some (6, true), .load none (.t 7)⟩,
  ⟨(some 9), some (6, true), .bin .leq (.t 8) (.v (.int .i64 20000))⟩,
  ⟨(some 10), none, .pick (.t 6) (.t 9) (.v (.bool false))⟩,
  ⟨(some 2), none, .mv (.t 10)⟩]
theorem tr72_1 : (ro Tryd.f72 1).toList.mapM (trO Tryd.prog 11 (ro Tryd.f72 1)) = some a72_1 := by kernel_rfl
/-- airline/airlineref06.Find -/
noncomputable def c73 : Code := .seq (.region 0 (ro Tryd.f73 0) false) (.seq (.seq (.region 1 (ro Tryd.f73 1) false) (.block 0 (.loop (.seq (.seq (.region 2 (ro Tryd.f73 2) false) (.cond (.tmp 11) (.skip) (.exit 0))) (.seq (.block 1 (.seq (.region 4 (ro Tryd.f73 4) false) (.cond (.tmp 21) (.seq (.region 5 (ro Tryd.f73 5) false) (.ret)) (.skip)))) (.region 3 (ro Tryd.f73 3) false)))))) (.seq (.region 6 (ro Tryd.f73 6) false) (.ret)))
theorem body73 : Tryd.f73.body = some c73 := by kernel_rfl
theorem res73 : Tryd.f73.results.toList.mapM (trR Tryd.prog) = some [.c (some 5) 4, .t 5] := by kernel_rfl
theorem nt73 : Tryd.f73.ntmps = 28 := by kernel_rfl
theorem nm73 : (Tryd.f73.name == "runtime.NumGoroutine") = false := by kernel_rfl
def a73_0 : List AO := [⟨(some 2), none, .box 31 (.t 0)⟩,
  ⟨(some 4), none, .alloc 81 [(.str []), (.str []), (.str []), (.int .i64 0), .nils]⟩,
  ⟨(some 5), none, .mv (.v (.bool false))⟩]
theorem tr73_0 : (ro Tryd.f73 0).toList.mapM (trO Tryd.prog 28 (ro Tryd.f73 0)) = some a73_0 := by kernel_rfl
def a73_1 : List AO := [⟨(some 6), none, .mv (.v (.int .i64 0))⟩]
theorem tr73_1 : (ro Tryd.f73 1).toList.mapM (trO Tryd.prog 28 (ro Tryd.f73 1)) = some a73_1 := by kernel_rfl
def a73_2 : List AO := [⟨(some 7), none, .mv (.t 6)⟩,
  ⟨(some 8), none, .fld 0 (.t 2)⟩,
  ⟨(some 9), none, .load none (.t 8)⟩,
  ⟨(some 10), none, .len (.t 9)⟩,
  ⟨(some 11), none, .bin .lss (.t 7) (.t 10)⟩]
theorem tr73_2 : (ro Tryd.f73 2).toList.mapM (trO Tryd.prog 28 (ro Tryd.f73 2)) = some a73_2 := by kernel_rfl
def a73_4 : List AO := [⟨(some 14), none, .fld 0 (.t 2)⟩,
  ⟨(some 15), none, .load none (.t 14)⟩,
  ⟨(some 16), none, .mv (.t 6)⟩,
  ⟨(some 17), none, .idx 5 (.t 15) (.t 16)⟩,
  ⟨(some 18), none, .fld 0 (.t 17)⟩,
  ⟨(some 19), none, .load none (.t 18)⟩,
  ⟨(some 20), none, .mv (.t 1)⟩,
  ⟨(some 21), none, .bin .eql (.t 19) (.t 20)⟩]
theorem tr73_4 : (ro Tryd.f73 4).toList.mapM (trO Tryd.prog 28 (ro Tryd.f73 4)) = some a73_4 := by kernel_rfl
def a73_5 : List AO := [⟨(some 22), none, .fld 0 (.t 2)⟩,
  ⟨(some 23), none, .load none (.t 22)⟩,
  ⟨(some 24), none, .mv (.t 6)⟩,
  ⟨(some 25), none, .idx 5 (.t 23) (.t 24)⟩,
  ⟨(some 26), none, .load (some 5) (.t 25)⟩,
  ⟨none, none, .store 5 (.t 4) (.t 26)⟩,
  ⟨(some 5), none, .mv (.v (.bool true))⟩]
theorem tr73_5 : (ro Tryd.f73 5).toList.mapM (trO Tryd.prog 28 (ro Tryd.f73 5)) = some a73_5 := by kernel_rfl
def a73_3 : List AO := [⟨(some 12), none, .mv (.t 6)⟩,
  ⟨(some 13), none, .bin .add (.t 12) (.v (.int .i64 1))⟩,
  ⟨(some 6), none, .mv (.t 13)⟩]
theorem tr73_3 : (ro Tryd.f73 3).toList.mapM (trO Tryd.prog 28 (ro Tryd.f73 3)) = some a73_3 := by kernel_rfl
def a73_6 : List AO := [⟨(some 27), none, .build [(.str []), (.str []), (.str []), (.int .i64 0), .nils] []⟩,
  ⟨none, none, .store 5 (.t 4) (.t 27)⟩,
  ⟨(some 5), none, .mv (.v (.bool false))⟩]
theorem tr73_6 : (ro Tryd.f73 6).toList.mapM (trO Tryd.prog 28 (ro Tryd.f73 6)) = some a73_6 := by kernel_rfl
/-- math/bits.Div64 -/
noncomputable def c75 : Code := .seq (.region 0 (ro Tryd.f75 0) false) (.seq (.seq (.region 1 (ro Tryd.f75 1) false) (.cond (.tmp 20) (.region 2 (ro Tryd.f75 2) false) (.skip))) (.seq (.seq (.region 3 (ro Tryd.f75 3) false) (.cond (.tmp 24) (.region 4 (ro Tryd.f75 4) false) (.skip))) (.seq (.seq (.region 5 (ro Tryd.f75 5) false) (.cond (.tmp 27) (.seq (.region 6 (ro Tryd.f75 6) true) (.ret)) (.skip))) (.seq (.region 7 (ro Tryd.f75 7) false) (.seq (.region 8 (ro Tryd.f75 8) false) (.seq (.region 9 (ro Tryd.f75 9) false) (.seq (.region 10 (ro Tryd.f75 10) false) (.seq (.region 11 (ro Tryd.f75 11) false) (.seq (.region 12 (ro Tryd.f75 12) false) (.seq (.region 13 (ro Tryd.f75 13) false) (.seq (.region 14 (ro Tryd.f75 14) false) (.seq (.region 15 (ro Tryd.f75 15) false) (.seq (.region 16 (ro Tryd.f75 16) false) (.seq (.block 0 (.loop (.seq (.seq (.region 17 (ro Tryd.f75 17) false) (.cond (.tmp 78) (.skip) (.exit 0))) (.block 1 (.seq (.region 18 (ro Tryd.f75 18) false) (.seq (.region 19 (ro Tryd.f75 19) false) (.seq (.region 20 (ro Tryd.f75 20) false) (.cond (.tmp 85) (.exit 0) (.skip))))))))) (.seq (.region 21 (ro Tryd.f75 21) false) (.seq (.region 22 (ro Tryd.f75 22) false) (.seq (.region 23 (ro Tryd.f75 23) false) (.seq (.block 2 (.loop (.seq (.seq (.region 24 (ro Tryd.f75 24) false) (.cond (.tmp 113) (.skip) (.exit 2))) (.block 3 (.seq (.region 25 (ro Tryd.f75 25) false) (.seq (.region 26 (ro Tryd.f75 26) false) (.seq (.region 27 (ro Tryd.f75 27) false) (.cond (.tmp 120) (.exit 2) (.skip))))))))) (.seq (.region 28 (ro Tryd.f75 28) false) (.ret))))))))))))))))))))
theorem body75 : Tryd.f75.body = some c75 := by kernel_rfl
theorem res75 : Tryd.f75.results.toList.mapM (trR Tryd.prog) = some [.t 6, .t 7] := by kernel_rfl
theorem nt75 : Tryd.f75.ntmps = 135 := by kernel_rfl
theorem nm75 : (Tryd.f75.name == "runtime.NumGoroutine") = false := by kernel_rfl
def a75_0 : List AO := [⟨(some 6), none, .mv (.v (.int .u64 0))⟩,
  ⟨(some 7), none, .mv (.v (.int .u64 0))⟩]
theorem tr75_0 : (ro Tryd.f75 0).toList.mapM (trO Tryd.prog 135 (ro Tryd.f75 0)) = some a75_0 := by kernel_rfl
def a75_1 : List AO := [⟨(some 19), none, .mv (.t 2)⟩,
  ⟨(some 20), none, .bin .eql (.t 19) (.v (.int .u64 0))⟩]
theorem tr75_1 : (ro Tryd.f75 1).toList.mapM (trO Tryd.prog 135 (ro Tryd.f75 1)) = some a75_1 := by kernel_rfl
-- region 2: not translated: !! load glob0
def a75_3 : List AO := [⟨(some 22), none, .mv (.t 2)⟩,
  ⟨(some 23), none, .mv (.t 0)⟩,
  ⟨(some 24), none, .bin .leq (.t 22) (.t 23)⟩]
theorem tr75_3 : (ro Tryd.f75 3).toList.mapM (trO Tryd.prog 135 (ro Tryd.f75 3)) = some a75_3 := by kernel_rfl
-- region 4: not translated: !! load glob1
def a75_5 : List AO := [⟨(some 26), none, .mv (.t 0)⟩,
  ⟨(some 27), none, .bin .eql (.t 26) (.v (.int .u64 0))⟩]
theorem tr75_5 : (ro Tryd.f75 5).toList.mapM (trO Tryd.prog 135 (ro Tryd.f75 5)) = some a75_5 := by kernel_rfl
def a75_6 : List AO := [⟨(some 28), none, .mv (.t 1)⟩,
  ⟨(some 29), none, .mv (.t 2)⟩,
  ⟨(some 30), none, .bin .quo (.t 28) (.t 29)⟩,
  ⟨(some 31), none, .mv (.t 1)⟩,
  ⟨(some 32), none, .mv (.t 2)⟩,
  ⟨(some 33), none, .bin .rem (.t 31) (.t 32)⟩,
  ⟨(some 6), none, .mv (.t 30)⟩,
  ⟨(some 7), none, .mv (.t 33)⟩]
theorem tr75_6 : (ro Tryd.f75 6).toList.mapM (trO Tryd.prog 135 (ro Tryd.f75 6)) = some a75_6 := by kernel_rfl
def d75_6 : List (List Nat) := [[], [], [0, 1], [], [], [3, 4], [0, 1, 2], [0, 1, 2, 3, 4, 5, 6]]
theorem ok75_6 : okReg (ro Tryd.f75 6) a75_6 d75_6 = true := by kernel_rfl
def a75_7 : List AO := [⟨(some 34), none, .mv (.t 2)⟩,
  ⟨(some 35), none, .call 78 [(.t 34)]⟩,
  ⟨(some 36), none, .conv .u64 (.t 35)⟩,
  ⟨(some 8), none, .mv (.t 36)⟩]
theorem tr75_7 : (ro Tryd.f75 7).toList.mapM (trO Tryd.prog 135 (ro Tryd.f75 7)) = some a75_7 := by kernel_rfl
def a75_8 : List AO := [⟨(some 37), none, .mv (.t 2)⟩,
  ⟨(some 38), none, .mv (.t 8)⟩,
  ⟨(some 39), none, .bin .shl (.t 37) (.t 38)⟩,
  ⟨(some 2), none, .mv (.t 39)⟩]
theorem tr75_8 : (ro Tryd.f75 8).toList.mapM (trO Tryd.prog 135 (ro Tryd.f75 8)) = some a75_8 := by kernel_rfl
def a75_9 : List AO := [⟨(some 40), none, .mv (.t 2)⟩,
  ⟨(some 41), none, .bin .shr (.t 40) (.v (.int .u64 32))⟩,
  ⟨(some 9), none, .mv (.t 41)⟩]
theorem tr75_9 : (ro Tryd.f75 9).toList.mapM (trO Tryd.prog 135 (ro Tryd.f75 9)) = some a75_9 := by kernel_rfl
def a75_10 : List AO := [⟨(some 42), none, .mv (.t 2)⟩,
  ⟨(some 43), none, .bin .and (.t 42) (.v (.int .u64 4294967295))⟩,
  ⟨(some 10), none, .mv (.t 43)⟩]
theorem tr75_10 : (ro Tryd.f75 10).toList.mapM (trO Tryd.prog 135 (ro Tryd.f75 10)) = some a75_10 := by kernel_rfl
def a75_11 : List AO := [⟨(some 44), none, .mv (.t 0)⟩,
  ⟨(some 45), none, .mv (.t 8)⟩,
  ⟨(some 46), none, .bin .shl (.t 44) (.t 45)⟩,
  ⟨(some 47), none, .mv (.t 1)⟩,
  ⟨(some 48), none, .mv (.t 8)⟩,
  ⟨(some 49), none, .bin .sub (.v (.int .u64 64)) (.t 48)⟩,
  ⟨(some 50), none, .bin .shr (.t 47) (.t 49)⟩,
  ⟨(some 51), none, .bin .or (.t 46) (.t 50)⟩,
  ⟨(some 11), none, .mv (.t 51)⟩]
theorem tr75_11 : (ro Tryd.f75 11).toList.mapM (trO Tryd.prog 135 (ro Tryd.f75 11)) = some a75_11 := by kernel_rfl
def a75_12 : List AO := [⟨(some 52), none, .mv (.t 1)⟩,
  ⟨(some 53), none, .mv (.t 8)⟩,
  ⟨(some 54), none, .bin .shl (.t 52) (.t 53)⟩,
  ⟨(some 12), none, .mv (.t 54)⟩]
theorem tr75_12 : (ro Tryd.f75 12).toList.mapM (trO Tryd.prog 135 (ro Tryd.f75 12)) = some a75_12 := by kernel_rfl
def a75_13 : List AO := [⟨(some 55), none, .mv (.t 12)⟩,
  ⟨(some 56), none, .bin .shr (.t 55) (.v (.int .u64 32))⟩,
  ⟨(some 13), none, .mv (.t 56)⟩]
theorem tr75_13 : (ro Tryd.f75 13).toList.mapM (trO Tryd.prog 135 (ro Tryd.f75 13)) = some a75_13 := by kernel_rfl
def a75_14 : List AO := [⟨(some 57), none, .mv (.t 12)⟩,
  ⟨(some 58), none, .bin .and (.t 57) (.v (.int .u64 4294967295))⟩,
  ⟨(some 14), none, .mv (.t 58)⟩]
theorem tr75_14 : (ro Tryd.f75 14).toList.mapM (trO Tryd.prog 135 (ro Tryd.f75 14)) = some a75_14 := by kernel_rfl
def a75_15 : List AO := [⟨(some 59), none, .mv (.t 11)⟩,
  ⟨(some 60), none, .mv (.t 9)⟩,
  ⟨(some 61), none, .bin .quo (.t 59) (.t 60)⟩,
  ⟨(some 15), none, .mv (.t 61)⟩]
theorem tr75_15 : (ro Tryd.f75 15).toList.mapM (trO Tryd.prog 135 (ro Tryd.f75 15)) = some a75_15 := by kernel_rfl
def a75_16 : List AO := [⟨(some 62), none, .mv (.t 11)⟩,
  ⟨(some 63), none, .mv (.t 15)⟩,
  ⟨(some 64), none, .mv (.t 9)⟩,
  ⟨(some 65), none, .bin .mul (.t 63) (.t 64)⟩,
  ⟨(some 66), none, .bin .sub (.t 62) (.t 65)⟩,
  ⟨(some 16), none, .mv (.t 66)⟩]
theorem tr75_16 : (ro Tryd.f75 16).toList.mapM (trO Tryd.prog 135 (ro Tryd.f75 16)) = some a75_16 := by kernel_rfl
def a75_17 : List AO := [⟨(some 67), none, .mv (.t 15)⟩,
  ⟨(some 68), none, .bin .geq (.t 67) (.v (.int .u64 4294967296))⟩,
  ⟨(some 69), none, .mv (.t 68)⟩,
  ⟨(some 70), some (69, false), .mv (.t 15)⟩,
  ⟨(some 71), some (69, false), .mv (.t 10)⟩,
  ⟨(some 72), some (69, false), .bin .mul (.t 70) (.t 71)⟩,
  ⟨(some 73), some (69, false), .mv (.t 16)⟩,
  ⟨(some 74), some (69, false), .bin .mul (.v (.int .u64 4294967296)) (.t 73)⟩,
  ⟨(some 75), some (69, false), .mv (.t 13)⟩,
  ⟨(some 76), some (69, false), .bin .add (.t 74) (.t 75)⟩,
  ⟨(some 77), some (69, false), .bin .gtr (.t 72) (.t 76)⟩,
  ⟨(some 78), none, .pick (.t 69) (.v (.bool true)) (.t 77)⟩]
theorem tr75_17 : (ro Tryd.f75 17).toList.mapM (trO Tryd.prog 135 (ro Tryd.f75 17)) = some a75_17 := by kernel_rfl
def a75_18 : List AO := [⟨(some 79), none, .mv (.t 15)⟩,
  ⟨(some 80), none, .bin .sub (.t 79) (.v (.int .u64 1))⟩,
  ⟨(some 15), none, .mv (.t 80)⟩]
theorem tr75_18 : (ro Tryd.f75 18).toList.mapM (trO Tryd.prog 135 (ro Tryd.f75 18)) = some a75_18 := by kernel_rfl
def a75_19 : List AO := [⟨(some 81), none, .mv (.t 16)⟩,
  ⟨(some 82), none, .mv (.t 9)⟩,
  ⟨(some 83), none, .bin .add (.t 81) (.t 82)⟩,
  ⟨(some 16), none, .mv (.t 83)⟩]
theorem tr75_19 : (ro Tryd.f75 19).toList.mapM (trO Tryd.prog 135 (ro Tryd.f75 19)) = some a75_19 := by kernel_rfl
def a75_20 : List AO := [⟨(some 84), none, .mv (.t 16)⟩,
  ⟨(some 85), none, .bin .geq (.t 84) (.v (.int .u64 4294967296))⟩]
theorem tr75_20 : (ro Tryd.f75 20).toList.mapM (trO Tryd.prog 135 (ro Tryd.f75 20)) = some a75_20 := by kernel_rfl
def a75_21 : List AO := [⟨(some 86), none, .mv (.t 11)⟩,
  ⟨(some 87), none, .bin .mul (.t 86) (.v (.int .u64 4294967296))⟩,
  ⟨(some 88), none, .mv (.t 13)⟩,
  ⟨(some 89), none, .bin .add (.t 87) (.t 88)⟩,
  ⟨(some 90), none, .mv (.t 15)⟩,
  ⟨(some 91), none, .mv (.t 2)⟩,
  ⟨(some 92), none, .bin .mul (.t 90) (.t 91)⟩,
  ⟨(some 93), none, .bin .sub (.t 89) (.t 92)⟩,
  ⟨(some 17), none, .mv (.t 93)⟩]
theorem tr75_21 : (ro Tryd.f75 21).toList.mapM (trO Tryd.prog 135 (ro Tryd.f75 21)) = some a75_21 := by kernel_rfl
def a75_22 : List AO := [⟨(some 94), none, .mv (.t 17)⟩,
  ⟨(some 95), none, .mv (.t 9)⟩,
  ⟨(some 96), none, .bin .quo (.t 94) (.t 95)⟩,
  ⟨(some 18), none, .mv (.t 96)⟩]
theorem tr75_22 : (ro Tryd.f75 22).toList.mapM (trO Tryd.prog 135 (ro Tryd.f75 22)) = some a75_22 := by kernel_rfl
def a75_23 : List AO := [⟨(some 97), none, .mv (.t 17)⟩,
  ⟨(some 98), none, .mv (.t 18)⟩,
  ⟨(some 99), none, .mv (.t 9)⟩,
  ⟨(some 100), none, .bin .mul (.t 98) (.t 99)⟩,
  ⟨(some 101), none, .bin .sub (.t 97) (.t 100)⟩,
  ⟨(some 16), none, .mv (.t 101)⟩]
theorem tr75_23 : (ro Tryd.f75 23).toList.mapM (trO Tryd.prog 135 (ro Tryd.f75 23)) = some a75_23 := by kernel_rfl
def a75_24 : List AO := [⟨(some 102), none, .mv (.t 18)⟩,
  ⟨(some 103), none, .bin .geq (.t 102) (.v (.int .u64 4294967296))⟩,
  ⟨(some 104), none, .mv (.t 103)⟩,
  ⟨(some 105), some (104, false), .mv (.t 18)⟩,
  ⟨(some 106), some (104, false), .mv (.t 10)⟩,
  ⟨(some 107), some (104, false), .bin .mul (.t 105) (.t 106)⟩,
  ⟨(some 108), some (104, false), .mv (.t 16)⟩,
  ⟨(some 109), some (104, false), .bin .mul (.v (.int .u64 4294967296)) (.t 108)⟩,
  ⟨(some 110), some (104, false), .mv (.t 14)⟩,
  ⟨(some 111), some (104, false), .bin .add (.t 109) (.t 110)⟩,
  ⟨(some 112), some (104, false), .bin .gtr (.t 107) (.t 111)⟩,
  ⟨(some 113), none, .pick (.t 104) (.v (.bool true)) (.t 112)⟩]
theorem tr75_24 : (ro Tryd.f75 24).toList.mapM (trO Tryd.prog 135 (ro Tryd.f75 24)) = some a75_24 := by kernel_rfl
def a75_25 : List AO := [⟨(some 114), none, .mv (.t 18)⟩,
  ⟨(some 115), none, .bin .sub (.t 114) (.v (.int .u64 1))⟩,
  ⟨(some 18), none, .mv (.t 115)⟩]
theorem tr75_25 : (ro Tryd.f75 25).toList.mapM (trO Tryd.prog 135 (ro Tryd.f75 25)) = some a75_25 := by kernel_rfl
def a75_26 : List AO := [⟨(some 116), none, .mv (.t 16)⟩,
  ⟨(some 117), none, .mv (.t 9)⟩,
  ⟨(some 118), none, .bin .add (.t 116) (.t 117)⟩,
  ⟨(some 16), none, .mv (.t 118)⟩]
theorem tr75_26 : (ro Tryd.f75 26).toList.mapM (trO Tryd.prog 135 (ro Tryd.f75 26)) = some a75_26 := by kernel_rfl
def a75_27 : List AO := [⟨(some 119), none, .mv (.t 16)⟩,
  ⟨(some 120), none, .bin .geq (.t 119) (.v (.int .u64 4294967296))⟩]
theorem tr75_27 : (ro Tryd.f75 27).toList.mapM (trO Tryd.prog 135 (ro Tryd.f75 27)) = some a75_27 := by kernel_rfl
def a75_28 : List AO := [⟨(some 121), none, .mv (.t 15)⟩,
  ⟨(some 122), none, .bin .mul (.t 121) (.v (.int .u64 4294967296))⟩,
  ⟨(some 123), none, .mv (.t 18)⟩,
  ⟨(some 124), none, .bin .add (.t 122) (.t 123)⟩,
  ⟨(some 125), none, .mv (.t 17)⟩,
  ⟨(some 126), none, .bin .mul (.t 125) (.v (.int .u64 4294967296))⟩,
  ⟨(some 127), none, .mv (.t 14)⟩,
  ⟨(some 128), none, .bin .add (.t 126) (.t 127)⟩,
  ⟨(some 129), none, .mv (.t 18)⟩,
  ⟨(some 130), none, .mv (.t 2)⟩,
  ⟨(some 131), none, .bin .mul (.t 129) (.t 130)⟩,
  ⟨(some 132), none, .bin .sub (.t 128) (.t 131)⟩,
  ⟨(some 133), none, .mv (.t 8)⟩,
  ⟨(some 134), none, .bin .shr (.t 132) (.t 133)⟩,
  ⟨(some 6), none, .mv (.t 124)⟩,
  ⟨(some 7), none, .mv (.t 134)⟩]
theorem tr75_28 : (ro Tryd.f75 28).toList.mapM (trO Tryd.prog 135 (ro Tryd.f75 28)) = some a75_28 := by kernel_rfl
/-- airline/airlineref05.offset -/
noncomputable def c77 : Code := .seq (.region 0 (ro Tryd.f77 0) false) (.seq (.region 1 (ro Tryd.f77 1) false) (.ret))
theorem body77 : Tryd.f77.body = some c77 := by kernel_rfl
theorem res77 : Tryd.f77.results.toList.mapM (trR Tryd.prog) = some [.t 2] := by kernel_rfl
theorem nt77 : Tryd.f77.ntmps = 9 := by kernel_rfl
theorem nm77 : (Tryd.f77.name == "runtime.NumGoroutine") = false := by kernel_rfl
def a77_0 : List AO := [⟨(some 2), none, .mv (.v (.bool false))⟩]
theorem tr77_0 : (ro Tryd.f77 0).toList.mapM (trO Tryd.prog 9 (ro Tryd.f77 0)) = some a77_0 := by kernel_rfl
def a77_1 : List AO := [⟨(some 3), none, .mv (.t 0)⟩,
  ⟨(some 4), none, .bin .geq (.t 3) (.v (.int .i64 (-840)))⟩,
  ⟨(some 5), none, .mv (.t 4)⟩,
  ⟨(some 6), some (5, true), .mv (.t 0)⟩,
  ⟨(some 7), some (5, true), .bin .leq (.t 6) (.v (.int .i64 840))⟩,
  ⟨(some 8), none, .pick (.t 5) (.t 7) (.v (.bool false))⟩,
  ⟨(some 2), none, .mv (.t 8)⟩]
theorem tr77_1 : (ro Tryd.f77 1).toList.mapM (trO Tryd.prog 9 (ro Tryd.f77 1)) = some a77_1 := by kernel_rfl
end Go.Proofs.YtailckanpheciaaDoor
