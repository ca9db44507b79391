/- The code of the functions, region by region, as abstract operations. -/
import Derived.Test.YtfjgnfgadkajnaaCoa
namespace Go.Proofs.Ytfjgnfgadkajnaa
open Go Go.RowKit
/-- sort.stable_func -/
noncomputable def c50 : Code := .seq (.region 0 (ro Try.f50 0) false) (.seq (.region 1 (ro Try.f50 1) false) (.seq (.region 2 (ro Try.f50 2) false) (.seq (.block 0 (.loop (.seq (.seq (.region 3 (ro Try.f50 3) false) (.cond (.tmp 11) (.skip) (.exit 0))) (.block 1 (.seq (.region 4 (ro Try.f50 4) false) (.seq (.region 5 (ro Try.f50 5) false) (.region 6 (ro Try.f50 6) false))))))) (.seq (.region 7 (ro Try.f50 7) false) (.block 2 (.loop (.seq (.seq (.region 8 (ro Try.f50 8) false) (.cond (.tmp 26) (.skip) (.exit 2))) (.block 3 (.seq (.region 9 (ro Try.f50 9) false) (.seq (.block 4 (.loop (.seq (.seq (.region 10 (ro Try.f50 10) false) (.cond (.tmp 31) (.skip) (.exit 4))) (.block 5 (.seq (.region 11 (ro Try.f50 11) false) (.seq (.region 12 (ro Try.f50 12) false) (.region 13 (ro Try.f50 13) false))))))) (.seq (.seq (.region 14 (ro Try.f50 14) false) (.seq (.region 15 (ro Try.f50 15) false) (.cond (.tmp 49) (.region 16 (ro Try.f50 16) false) (.skip)))) (.region 17 (ro Try.f50 17) false))))))))))))
theorem body50 : Try.f50.body = some c50 := by kernel_rfl
theorem res50 : Try.f50.results.toList.mapM (trR Try.prog) = some [] := by kernel_rfl
theorem nt50 : Try.f50.ntmps = 57 := by kernel_rfl
theorem nm50 : (Try.f50.name == "runtime.NumGoroutine") = false := by kernel_rfl
def a50_0 : List AO := [⟨(some 2), none, .box 125 (.t 0)⟩]
theorem tr50_0 : TR Try.f50 57 0 = some a50_0 := by kernel_rfl
def a50_1 : List AO := [⟨(some 4), none, .mv (.v (.int .i64 20))⟩]
theorem tr50_1 : TR Try.f50 57 1 = some a50_1 := by kernel_rfl
def a50_2 : List AO := [⟨(some 8), none, .mv (.t 4)⟩,
  ⟨(some 5), none, .mv (.v (.int .i64 0))⟩,
  ⟨(some 6), none, .mv (.t 8)⟩]
theorem tr50_2 : TR Try.f50 57 2 = some a50_2 := by kernel_rfl
def a50_3 : List AO := [⟨(some 9), none, .mv (.t 6)⟩,
  ⟨(some 10), none, .mv (.t 1)⟩,
  ⟨(some 11), none, .bin .leq (.t 9) (.t 10)⟩]
theorem tr50_3 : TR Try.f50 57 3 = some a50_3 := by kernel_rfl
def a50_4 : List AO := [⟨(some 12), none, .load (some 2) (.t 2)⟩,
  ⟨(some 13), none, .mv (.t 5)⟩,
  ⟨(some 14), none, .mv (.t 6)⟩,
  ⟨(some 15), none, .call 70 [(.t 12), (.t 13), (.t 14)]⟩]
theorem tr50_4 : TR Try.f50 57 4 = some a50_4 := by kernel_rfl
def a50_5 : List AO := [⟨(some 16), none, .mv (.t 6)⟩,
  ⟨(some 5), none, .mv (.t 16)⟩]
theorem tr50_5 : TR Try.f50 57 5 = some a50_5 := by kernel_rfl
def a50_6 : List AO := [⟨(some 17), none, .mv (.t 6)⟩,
  ⟨(some 18), none, .mv (.t 4)⟩,
  ⟨(some 19), none, .bin .add (.t 17) (.t 18)⟩,
  ⟨(some 6), none, .mv (.t 19)⟩]
theorem tr50_6 : TR Try.f50 57 6 = some a50_6 := by kernel_rfl
def a50_7 : List AO := [⟨(some 20), none, .load (some 2) (.t 2)⟩,
  ⟨(some 21), none, .mv (.t 5)⟩,
  ⟨(some 22), none, .mv (.t 1)⟩,
  ⟨(some 23), none, .call 70 [(.t 20), (.t 21), (.t 22)]⟩]
theorem tr50_7 : TR Try.f50 57 7 = some a50_7 := by kernel_rfl
def a50_8 : List AO := [⟨(some 24), none, .mv (.t 4)⟩,
  ⟨(some 25), none, .mv (.t 1)⟩,
  ⟨(some 26), none, .bin .lss (.t 24) (.t 25)⟩]
theorem tr50_8 : TR Try.f50 57 8 = some a50_8 := by kernel_rfl
def a50_9 : List AO := [⟨(some 27), none, .mv (.t 4)⟩,
  ⟨(some 28), none, .bin .mul (.v (.int .i64 2)) (.t 27)⟩,
  ⟨(some 5), none, .mv (.v (.int .i64 0))⟩,
  ⟨(some 6), none, .mv (.t 28)⟩]
theorem tr50_9 : TR Try.f50 57 9 = some a50_9 := by kernel_rfl
def a50_10 : List AO := [⟨(some 29), none, .mv (.t 6)⟩,
  ⟨(some 30), none, .mv (.t 1)⟩,
  ⟨(some 31), none, .bin .leq (.t 29) (.t 30)⟩]
theorem tr50_10 : TR Try.f50 57 10 = some a50_10 := by kernel_rfl
def a50_11 : List AO := [⟨(some 32), none, .load (some 2) (.t 2)⟩,
  ⟨(some 33), none, .mv (.t 5)⟩,
  ⟨(some 34), none, .mv (.t 5)⟩,
  ⟨(some 35), none, .mv (.t 4)⟩,
  ⟨(some 36), none, .bin .add (.t 34) (.t 35)⟩,
  ⟨(some 37), none, .mv (.t 6)⟩,
  ⟨(some 38), none, .call 71 [(.t 32), (.t 33), (.t 36), (.t 37)]⟩]
theorem tr50_11 : TR Try.f50 57 11 = some a50_11 := by kernel_rfl
def a50_12 : List AO := [⟨(some 39), none, .mv (.t 6)⟩,
  ⟨(some 5), none, .mv (.t 39)⟩]
theorem tr50_12 : TR Try.f50 57 12 = some a50_12 := by kernel_rfl
def a50_13 : List AO := [⟨(some 40), none, .mv (.t 6)⟩,
  ⟨(some 41), none, .mv (.t 4)⟩,
  ⟨(some 42), none, .bin .mul (.v (.int .i64 2)) (.t 41)⟩,
  ⟨(some 43), none, .bin .add (.t 40) (.t 42)⟩,
  ⟨(some 6), none, .mv (.t 43)⟩]
theorem tr50_13 : TR Try.f50 57 13 = some a50_13 := by kernel_rfl
def a50_14 : List AO := [⟨(some 44), none, .mv (.t 5)⟩,
  ⟨(some 45), none, .mv (.t 4)⟩,
  ⟨(some 46), none, .bin .add (.t 44) (.t 45)⟩,
  ⟨(some 7), none, .mv (.t 46)⟩]
theorem tr50_14 : TR Try.f50 57 14 = some a50_14 := by kernel_rfl
def a50_15 : List AO := [⟨(some 47), none, .mv (.t 7)⟩,
  ⟨(some 48), none, .mv (.t 1)⟩,
  ⟨(some 49), none, .bin .lss (.t 47) (.t 48)⟩]
theorem tr50_15 : TR Try.f50 57 15 = some a50_15 := by kernel_rfl
def a50_16 : List AO := [⟨(some 50), none, .load (some 2) (.t 2)⟩,
  ⟨(some 51), none, .mv (.t 5)⟩,
  ⟨(some 52), none, .mv (.t 7)⟩,
  ⟨(some 53), none, .mv (.t 1)⟩,
  ⟨(some 54), none, .call 71 [(.t 50), (.t 51), (.t 52), (.t 53)]⟩]
theorem tr50_16 : TR Try.f50 57 16 = some a50_16 := by kernel_rfl
def a50_17 : List AO := [⟨(some 55), none, .mv (.t 4)⟩,
  ⟨(some 56), none, .bin .mul (.t 55) (.v (.int .i64 2))⟩,
  ⟨(some 4), none, .mv (.t 56)⟩]
theorem tr50_17 : TR Try.f50 57 17 = some a50_17 := by kernel_rfl
/-- airline/airlineref01.letters -/
noncomputable def c56 : Code := .seq (.region 0 (ro Try.f56 0) false) (.seq (.seq (.region 1 (ro Try.f56 1) false) (.block 0 (.loop (.seq (.seq (.region 2 (ro Try.f56 2) false) (.cond (.tmp 9) (.skip) (.exit 0))) (.seq (.block 1 (.seq (.region 4 (ro Try.f56 4) false) (.cond (.tmp 16) (.seq (.region 5 (ro Try.f56 5) false) (.ret)) (.skip)))) (.region 3 (ro Try.f56 3) false)))))) (.seq (.region 6 (ro Try.f56 6) false) (.ret)))
theorem body56 : Try.f56.body = some c56 := by kernel_rfl
theorem res56 : Try.f56.results.toList.mapM (trR Try.prog) = some [.t 4] := by kernel_rfl
theorem nt56 : Try.f56.ntmps = 21 := by kernel_rfl
theorem nm56 : (Try.f56.name == "runtime.NumGoroutine") = false := by kernel_rfl
def a56_0 : List AO := [⟨(some 4), none, .mv (.v (.bool false))⟩]
theorem tr56_0 : TR Try.f56 21 0 = some a56_0 := by kernel_rfl
def a56_1 : List AO := [⟨(some 5), none, .mv (.v (.int .i64 0))⟩]
theorem tr56_1 : TR Try.f56 21 1 = some a56_1 := by kernel_rfl
def a56_2 : List AO := [⟨(some 6), none, .mv (.t 5)⟩,
  ⟨(some 7), none, .mv (.t 0)⟩,
  ⟨(some 8), none, .slen (.t 7)⟩,
  ⟨(some 9), none, .bin .lss (.t 6) (.t 8)⟩]
theorem tr56_2 : TR Try.f56 21 2 = some a56_2 := by kernel_rfl
def a56_4 : List AO := [⟨(some 12), none, .mv (.t 0)⟩,
  ⟨(some 13), none, .mv (.t 5)⟩,
  ⟨(some 14), none, .sidx (.t 12) (.t 13)⟩,
  ⟨(some 15), none, .call 75 [(.t 14)]⟩,
  ⟨(some 16), none, .un .not (.t 15)⟩]
theorem tr56_4 : TR Try.f56 21 4 = some a56_4 := by kernel_rfl
def a56_5 : List AO := [⟨(some 4), none, .mv (.v (.bool false))⟩]
theorem tr56_5 : TR Try.f56 21 5 = some a56_5 := by kernel_rfl
def a56_3 : List AO := [⟨(some 10), none, .mv (.t 5)⟩,
  ⟨(some 11), none, .bin .add (.t 10) (.v (.int .i64 1))⟩,
  ⟨(some 5), none, .mv (.t 11)⟩]
theorem tr56_3 : TR Try.f56 21 3 = some a56_3 := by kernel_rfl
def a56_6 : List AO := [⟨(some 17), none, .mv (.t 0)⟩,
  ⟨(some 18), none, .slen (.t 17)⟩,
  ⟨(some 19), none, .mv (.t 1)⟩,
  ⟨(some 20), none, .bin .eql (.t 18) (.t 19)⟩,
  ⟨(some 4), none, .mv (.t 20)⟩]
theorem tr56_6 : TR Try.f56 21 6 = some a56_6 := by kernel_rfl
/-- airline/airlineref05.offset -/
noncomputable def c57 : Code := .seq (.region 0 (ro Try.f57 0) false) (.seq (.region 1 (ro Try.f57 1) false) (.ret))
theorem body57 : Try.f57.body = some c57 := by kernel_rfl
theorem res57 : Try.f57.results.toList.mapM (trR Try.prog) = some [.t 2] := by kernel_rfl
theorem nt57 : Try.f57.ntmps = 9 := by kernel_rfl
theorem nm57 : (Try.f57.name == "runtime.NumGoroutine") = false := by kernel_rfl
def a57_0 : List AO := [⟨(some 2), none, .mv (.v (.bool false))⟩]
theorem tr57_0 : TR Try.f57 9 0 = some a57_0 := by kernel_rfl
def a57_1 : List AO := [⟨(some 3), none, .mv (.t 0)⟩,
  ⟨(some 4), none, .bin .geq (.t 3) (.v (.int .i64 (-840)))⟩,
  ⟨(some 5), none, .mv (.t 4)⟩,
  ⟨(some 6), some (5, true), .mv (.t 0)⟩,
  ⟨(some 7), some (5, true), .bin .leq (.t 6) (.v (.int .i64 840))⟩,
  ⟨(some 8), none, .pick (.t 5) (.t 7) (.v (.bool false))⟩,
  ⟨(some 2), none, .mv (.t 8)⟩]
theorem tr57_1 : TR Try.f57 9 1 = some a57_1 := by kernel_rfl
/-- airline/places.Find -/
noncomputable def c58 : Code := .seq (.region 0 (ro Try.f58 0) false) (.seq (.seq (.region 1 (ro Try.f58 1) false) (.block 0 (.loop (.seq (.region 2 (ro Try.f58 2) false) (.seq (.cond (.tmp 12) (.skip) (.exit 0)) (.seq (.block 1 (.seq (.region 3 (ro Try.f58 3) false) (.seq (.region 4 (ro Try.f58 4) false) (.cond (.tmp 18) (.seq (.region 5 (ro Try.f58 5) false) (.ret)) (.skip))))) (.region 6 (ro Try.f58 6) false))))))) (.seq (.region 7 (ro Try.f58 7) false) (.ret)))
theorem body58 : Try.f58.body = some c58 := by kernel_rfl
theorem res58 : Try.f58.results.toList.mapM (trR Try.prog) = some [.c (some 5) 4, .t 5] := by kernel_rfl
theorem nt58 : Try.f58.ntmps = 22 := by kernel_rfl
theorem nm58 : (Try.f58.name == "runtime.NumGoroutine") = false := by kernel_rfl
def a58_0 : List AO := [⟨(some 2), none, .box 25 (.t 0)⟩,
  ⟨(some 4), none, .alloc 70 [(.str []), (.str []), (.str []), (.int .i64 0), .nils]⟩,
  ⟨(some 5), none, .mv (.v (.bool false))⟩]
theorem tr58_0 : TR Try.f58 22 0 = some a58_0 := by kernel_rfl
def a58_1 : List AO := [⟨(some 8), none, .fld 0 (.t 2)⟩,
  ⟨(some 9), none, .load none (.t 8)⟩,
  ⟨(some 10), none, .len (.t 9)⟩,
  ⟨(some 11), none, .mv (.v (.int .i64 0))⟩]
theorem tr58_1 : TR Try.f58 22 1 = some a58_1 := by kernel_rfl
def a58_2 : List AO := [⟨(some 12), none, .bin .lss (.t 11) (.t 10)⟩]
theorem tr58_2 : TR Try.f58 22 2 = some a58_2 := by kernel_rfl
def a58_3 : List AO := [⟨(some 13), none, .idx 5 (.t 9) (.t 11)⟩,
  ⟨(some 14), none, .load (some 5) (.t 13)⟩,
  ⟨(some 7), none, .alloc 70 [(.str []), (.str []), (.str []), (.int .i64 0), .nils]⟩,
  ⟨none, none, .store 5 (.t 7) (.t 14)⟩]
theorem tr58_3 : TR Try.f58 22 3 = some a58_3 := by kernel_rfl
def a58_4 : List AO := [⟨(some 15), none, .fld 0 (.t 7)⟩,
  ⟨(some 16), none, .load none (.t 15)⟩,
  ⟨(some 17), none, .mv (.t 1)⟩,
  ⟨(some 18), none, .bin .eql (.t 16) (.t 17)⟩]
theorem tr58_4 : TR Try.f58 22 4 = some a58_4 := by kernel_rfl
def a58_5 : List AO := [⟨(some 19), none, .load (some 5) (.t 7)⟩,
  ⟨none, none, .store 5 (.t 4) (.t 19)⟩,
  ⟨(some 5), none, .mv (.v (.bool true))⟩]
theorem tr58_5 : TR Try.f58 22 5 = some a58_5 := by kernel_rfl
def a58_6 : List AO := [⟨(some 20), none, .bin .add (.t 11) (.v (.int .i64 1))⟩,
  ⟨(some 11), none, .mv (.t 20)⟩]
theorem tr58_6 : TR Try.f58 22 6 = some a58_6 := by kernel_rfl
def a58_7 : List AO := [⟨(some 21), none, .build [(.str []), (.str []), (.str []), (.int .i64 0), .nils] []⟩,
  ⟨none, none, .store 5 (.t 4) (.t 21)⟩,
  ⟨(some 5), none, .mv (.v (.bool false))⟩]
theorem tr58_7 : TR Try.f58 22 7 = some a58_7 := by kernel_rfl
/-- airline/places.town -/
noncomputable def c59 : Code := .seq (.region 0 (ro Try.f59 0) false) (.seq (.seq (.region 1 (ro Try.f59 1) false) (.block 0 (.loop (.seq (.region 2 (ro Try.f59 2) false) (.seq (.cond (.tmp 12) (.skip) (.exit 0)) (.seq (.block 1 (.seq (.region 3 (ro Try.f59 3) false) (.seq (.region 4 (ro Try.f59 4) false) (.cond (.tmp 18) (.seq (.region 5 (ro Try.f59 5) false) (.ret)) (.skip))))) (.region 6 (ro Try.f59 6) false))))))) (.seq (.region 7 (ro Try.f59 7) false) (.ret)))
theorem body59 : Try.f59.body = some c59 := by kernel_rfl
theorem res59 : Try.f59.results.toList.mapM (trR Try.prog) = some [.c (some 5) 4, .t 5] := by kernel_rfl
theorem nt59 : Try.f59.ntmps = 22 := by kernel_rfl
theorem nm59 : (Try.f59.name == "runtime.NumGoroutine") = false := by kernel_rfl
def a59_0 : List AO := [⟨(some 2), none, .box 25 (.t 0)⟩,
  ⟨(some 4), none, .alloc 70 [(.str []), (.str []), (.str []), (.int .i64 0), .nils]⟩,
  ⟨(some 5), none, .mv (.v (.bool false))⟩]
theorem tr59_0 : TR Try.f59 22 0 = some a59_0 := by kernel_rfl
def a59_1 : List AO := [⟨(some 8), none, .fld 0 (.t 2)⟩,
  ⟨(some 9), none, .load none (.t 8)⟩,
  ⟨(some 10), none, .len (.t 9)⟩,
  ⟨(some 11), none, .mv (.v (.int .i64 0))⟩]
theorem tr59_1 : TR Try.f59 22 1 = some a59_1 := by kernel_rfl
def a59_2 : List AO := [⟨(some 12), none, .bin .lss (.t 11) (.t 10)⟩]
theorem tr59_2 : TR Try.f59 22 2 = some a59_2 := by kernel_rfl
def a59_3 : List AO := [⟨(some 13), none, .idx 5 (.t 9) (.t 11)⟩,
  ⟨(some 14), none, .load (some 5) (.t 13)⟩,
  ⟨(some 7), none, .alloc 70 [(.str []), (.str []), (.str []), (.int .i64 0), .nils]⟩,
  ⟨none, none, .store 5 (.t 7) (.t 14)⟩]
theorem tr59_3 : TR Try.f59 22 3 = some a59_3 := by kernel_rfl
def a59_4 : List AO := [⟨(some 15), none, .fld 1 (.t 7)⟩,
  ⟨(some 16), none, .load none (.t 15)⟩,
  ⟨(some 17), none, .mv (.t 1)⟩,
  ⟨(some 18), none, .bin .eql (.t 16) (.t 17)⟩]
theorem tr59_4 : TR Try.f59 22 4 = some a59_4 := by kernel_rfl
def a59_5 : List AO := [⟨(some 19), none, .load (some 5) (.t 7)⟩,
  ⟨none, none, .store 5 (.t 4) (.t 19)⟩,
  ⟨(some 5), none, .mv (.v (.bool true))⟩]
theorem tr59_5 : TR Try.f59 22 5 = some a59_5 := by kernel_rfl
def a59_6 : List AO := [⟨(some 20), none, .bin .add (.t 11) (.v (.int .i64 1))⟩,
  ⟨(some 11), none, .mv (.t 20)⟩]
theorem tr59_6 : TR Try.f59 22 6 = some a59_6 := by kernel_rfl
def a59_7 : List AO := [⟨(some 21), none, .build [(.str []), (.str []), (.str []), (.int .i64 0), .nils] []⟩,
  ⟨none, none, .store 5 (.t 4) (.t 21)⟩,
  ⟨(some 5), none, .mv (.v (.bool false))⟩]
theorem tr59_7 : TR Try.f59 22 7 = some a59_7 := by kernel_rfl
/-- sort.insertionSort_func -/
noncomputable def c70 : Code := .seq (.region 0 (ro Try.f70 0) false) (.seq (.region 1 (ro Try.f70 1) false) (.block 0 (.loop (.seq (.seq (.region 2 (ro Try.f70 2) false) (.cond (.tmp 12) (.skip) (.exit 0))) (.seq (.block 1 (.seq (.region 4 (ro Try.f70 4) false) (.block 2 (.loop (.seq (.seq (.region 5 (ro Try.f70 5) false) (.cond (.tmp 26) (.skip) (.exit 2))) (.seq (.block 3 (.region 7 (ro Try.f70 7) false)) (.region 6 (ro Try.f70 6) false))))))) (.region 3 (ro Try.f70 3) false))))))
theorem body70 : Try.f70.body = some c70 := by kernel_rfl
theorem res70 : Try.f70.results.toList.mapM (trR Try.prog) = some [] := by kernel_rfl
theorem nt70 : Try.f70.ntmps = 35 := by kernel_rfl
theorem nm70 : (Try.f70.name == "runtime.NumGoroutine") = false := by kernel_rfl
def a70_0 : List AO := [⟨(some 3), none, .box 125 (.t 0)⟩]
theorem tr70_0 : TR Try.f70 35 0 = some a70_0 := by kernel_rfl
def a70_1 : List AO := [⟨(some 8), none, .mv (.t 1)⟩,
  ⟨(some 9), none, .bin .add (.t 8) (.v (.int .i64 1))⟩,
  ⟨(some 6), none, .mv (.t 9)⟩]
theorem tr70_1 : TR Try.f70 35 1 = some a70_1 := by kernel_rfl
def a70_2 : List AO := [⟨(some 10), none, .mv (.t 6)⟩,
  ⟨(some 11), none, .mv (.t 2)⟩,
  ⟨(some 12), none, .bin .lss (.t 10) (.t 11)⟩]
theorem tr70_2 : TR Try.f70 35 2 = some a70_2 := by kernel_rfl
def a70_4 : List AO := [⟨(some 15), none, .mv (.t 6)⟩,
  ⟨(some 7), none, .mv (.t 15)⟩]
theorem tr70_4 : TR Try.f70 35 4 = some a70_4 := by kernel_rfl
def a70_5 : List AO := [⟨(some 16), none, .mv (.t 7)⟩,
  ⟨(some 17), none, .mv (.t 1)⟩,
  ⟨(some 18), none, .bin .gtr (.t 16) (.t 17)⟩,
  ⟨(some 19), none, .mv (.t 18)⟩,
  ⟨(some 20), some (19, true), .fld 0 (.t 3)⟩,
  ⟨(some 21), some (19, true), .load none (.t 20)⟩,
  ⟨(some 22), some (19, true), .mv (.t 7)⟩,
  ⟨(some 23), some (19, true), .mv (.t 7)⟩,
  ⟨(some 24), some (19, true), .bin .sub (.t 23) (.v (.int .i64 1))⟩,
  ⟨(some 25), some (19, true), .callv (.t 21) [(.t 22), (.t 24)]⟩,
  ⟨(some 26), none, .pick (.t 19) (.t 25) (.v (.bool false))⟩]
theorem tr70_5 : TR Try.f70 35 5 = some a70_5 := by kernel_rfl
def a70_7 : List AO := [⟨(some 29), none, .fld 1 (.t 3)⟩,
  ⟨(some 30), none, .load none (.t 29)⟩,
  ⟨(some 31), none, .mv (.t 7)⟩,
  ⟨(some 32), none, .mv (.t 7)⟩,
  ⟨(some 33), none, .bin .sub (.t 32) (.v (.int .i64 1))⟩,
  ⟨(some 34), none, .callv (.t 30) [(.t 31), (.t 33)]⟩]
theorem tr70_7 : TR Try.f70 35 7 = some a70_7 := by kernel_rfl
def a70_6 : List AO := [⟨(some 27), none, .mv (.t 7)⟩,
  ⟨(some 28), none, .bin .sub (.t 27) (.v (.int .i64 1))⟩,
  ⟨(some 7), none, .mv (.t 28)⟩]
theorem tr70_6 : TR Try.f70 35 6 = some a70_6 := by kernel_rfl
def a70_3 : List AO := [⟨(some 13), none, .mv (.t 6)⟩,
  ⟨(some 14), none, .bin .add (.t 13) (.v (.int .i64 1))⟩,
  ⟨(some 6), none, .mv (.t 14)⟩]
theorem tr70_3 : TR Try.f70 35 3 = some a70_3 := by kernel_rfl
/-- sort.symMerge_func -/
noncomputable def c71 : Code := .seq (.region 0 (ro Try.f71 0) false) (.seq (.seq (.region 1 (ro Try.f71 1) false) (.cond (.tmp 26) (.seq (.region 2 (ro Try.f71 2) false) (.seq (.region 3 (ro Try.f71 3) false) (.seq (.block 0 (.loop (.seq (.seq (.region 4 (ro Try.f71 4) false) (.cond (.tmp 31) (.skip) (.exit 0))) (.block 1 (.seq (.region 5 (ro Try.f71 5) false) (.seq (.region 6 (ro Try.f71 6) false) (.cond (.tmp 42) (.region 7 (ro Try.f71 7) false) (.region 8 (ro Try.f71 8) false)))))))) (.seq (.seq (.region 9 (ro Try.f71 9) false) (.block 2 (.loop (.seq (.seq (.region 10 (ro Try.f71 10) false) (.cond (.tmp 50) (.skip) (.exit 2))) (.seq (.block 3 (.region 12 (ro Try.f71 12) false)) (.region 11 (ro Try.f71 11) false)))))) (.ret))))) (.skip))) (.seq (.seq (.region 13 (ro Try.f71 13) false) (.cond (.tmp 62) (.seq (.region 14 (ro Try.f71 14) false) (.seq (.region 15 (ro Try.f71 15) false) (.seq (.block 4 (.loop (.seq (.seq (.region 16 (ro Try.f71 16) false) (.cond (.tmp 67) (.skip) (.exit 4))) (.block 5 (.seq (.region 17 (ro Try.f71 17) false) (.seq (.region 18 (ro Try.f71 18) false) (.cond (.tmp 79) (.region 19 (ro Try.f71 19) false) (.region 20 (ro Try.f71 20) false)))))))) (.seq (.seq (.region 21 (ro Try.f71 21) false) (.block 6 (.loop (.seq (.seq (.region 22 (ro Try.f71 22) false) (.cond (.tmp 86) (.skip) (.exit 6))) (.seq (.block 7 (.region 24 (ro Try.f71 24) false)) (.region 23 (ro Try.f71 23) false)))))) (.ret))))) (.skip))) (.seq (.region 25 (ro Try.f71 25) false) (.seq (.region 26 (ro Try.f71 26) false) (.seq (.region 27 (ro Try.f71 27) false) (.seq (.seq (.region 28 (ro Try.f71 28) false) (.cond (.tmp 106) (.seq (.region 29 (ro Try.f71 29) false) (.region 30 (ro Try.f71 30) false)) (.seq (.region 31 (ro Try.f71 31) false) (.region 32 (ro Try.f71 32) false)))) (.seq (.region 33 (ro Try.f71 33) false) (.seq (.block 8 (.loop (.seq (.seq (.region 34 (ro Try.f71 34) false) (.cond (.tmp 117) (.skip) (.exit 8))) (.block 9 (.seq (.region 35 (ro Try.f71 35) false) (.seq (.region 36 (ro Try.f71 36) false) (.cond (.tmp 131) (.region 37 (ro Try.f71 37) false) (.region 38 (ro Try.f71 38) false)))))))) (.seq (.region 39 (ro Try.f71 39) false) (.seq (.seq (.region 40 (ro Try.f71 40) false) (.cond (.tmp 145) (.region 41 (ro Try.f71 41) false) (.skip))) (.seq (.seq (.region 42 (ro Try.f71 42) false) (.cond (.tmp 158) (.region 43 (ro Try.f71 43) false) (.skip))) (.seq (.region 44 (ro Try.f71 44) false) (.cond (.tmp 171) (.region 45 (ro Try.f71 45) false) (.skip))))))))))))))
theorem body71 : Try.f71.body = some c71 := by kernel_rfl
theorem res71 : Try.f71.results.toList.mapM (trR Try.prog) = some [] := by kernel_rfl
theorem nt71 : Try.f71.ntmps = 177 := by kernel_rfl
theorem nm71 : (Try.f71.name == "runtime.NumGoroutine") = false := by kernel_rfl
def a71_0 : List AO := [⟨(some 4), none, .box 125 (.t 0)⟩]
theorem tr71_0 : TR Try.f71 177 0 = some a71_0 := by kernel_rfl
def a71_1 : List AO := [⟨(some 23), none, .mv (.t 2)⟩,
  ⟨(some 24), none, .mv (.t 1)⟩,
  ⟨(some 25), none, .bin .sub (.t 23) (.t 24)⟩,
  ⟨(some 26), none, .bin .eql (.t 25) (.v (.int .i64 1))⟩]
theorem tr71_1 : TR Try.f71 177 1 = some a71_1 := by kernel_rfl
def a71_2 : List AO := [⟨(some 27), none, .mv (.t 2)⟩,
  ⟨(some 8), none, .mv (.t 27)⟩]
theorem tr71_2 : TR Try.f71 177 2 = some a71_2 := by kernel_rfl
def a71_3 : List AO := [⟨(some 28), none, .mv (.t 3)⟩,
  ⟨(some 9), none, .mv (.t 28)⟩]
theorem tr71_3 : TR Try.f71 177 3 = some a71_3 := by kernel_rfl
def a71_4 : List AO := [⟨(some 29), none, .mv (.t 8)⟩,
  ⟨(some 30), none, .mv (.t 9)⟩,
  ⟨(some 31), none, .bin .lss (.t 29) (.t 30)⟩]
theorem tr71_4 : TR Try.f71 177 4 = some a71_4 := by kernel_rfl
def a71_5 : List AO := [⟨(some 32), none, .mv (.t 8)⟩,
  ⟨(some 33), none, .mv (.t 9)⟩,
  ⟨(some 34), none, .bin .add (.t 32) (.t 33)⟩,
  ⟨(some 35), none, .conv .u64 (.t 34)⟩,
  ⟨(some 36), none, .bin .shr (.t 35) (.v (.int .u64 1))⟩,
  ⟨(some 37), none, .conv .i64 (.t 36)⟩,
  ⟨(some 10), none, .mv (.t 37)⟩]
theorem tr71_5 : TR Try.f71 177 5 = some a71_5 := by kernel_rfl
def a71_6 : List AO := [⟨(some 38), none, .fld 0 (.t 4)⟩,
  ⟨(some 39), none, .load none (.t 38)⟩,
  ⟨(some 40), none, .mv (.t 10)⟩,
  ⟨(some 41), none, .mv (.t 1)⟩,
  ⟨(some 42), none, .callv (.t 39) [(.t 40), (.t 41)]⟩]
theorem tr71_6 : TR Try.f71 177 6 = some a71_6 := by kernel_rfl
def a71_7 : List AO := [⟨(some 43), none, .mv (.t 10)⟩,
  ⟨(some 44), none, .bin .add (.t 43) (.v (.int .i64 1))⟩,
  ⟨(some 8), none, .mv (.t 44)⟩]
theorem tr71_7 : TR Try.f71 177 7 = some a71_7 := by kernel_rfl
def a71_8 : List AO := [⟨(some 45), none, .mv (.t 10)⟩,
  ⟨(some 9), none, .mv (.t 45)⟩]
theorem tr71_8 : TR Try.f71 177 8 = some a71_8 := by kernel_rfl
def a71_9 : List AO := [⟨(some 46), none, .mv (.t 1)⟩,
  ⟨(some 11), none, .mv (.t 46)⟩]
theorem tr71_9 : TR Try.f71 177 9 = some a71_9 := by kernel_rfl
def a71_10 : List AO := [⟨(some 47), none, .mv (.t 11)⟩,
  ⟨(some 48), none, .mv (.t 8)⟩,
  ⟨(some 49), none, .bin .sub (.t 48) (.v (.int .i64 1))⟩,
  ⟨(some 50), none, .bin .lss (.t 47) (.t 49)⟩]
theorem tr71_10 : TR Try.f71 177 10 = some a71_10 := by kernel_rfl
def a71_12 : List AO := [⟨(some 53), none, .fld 1 (.t 4)⟩,
  ⟨(some 54), none, .load none (.t 53)⟩,
  ⟨(some 55), none, .mv (.t 11)⟩,
  ⟨(some 56), none, .mv (.t 11)⟩,
  ⟨(some 57), none, .bin .add (.t 56) (.v (.int .i64 1))⟩,
  ⟨(some 58), none, .callv (.t 54) [(.t 55), (.t 57)]⟩]
theorem tr71_12 : TR Try.f71 177 12 = some a71_12 := by kernel_rfl
def a71_11 : List AO := [⟨(some 51), none, .mv (.t 11)⟩,
  ⟨(some 52), none, .bin .add (.t 51) (.v (.int .i64 1))⟩,
  ⟨(some 11), none, .mv (.t 52)⟩]
theorem tr71_11 : TR Try.f71 177 11 = some a71_11 := by kernel_rfl
def a71_13 : List AO := [⟨(some 59), none, .mv (.t 3)⟩,
  ⟨(some 60), none, .mv (.t 2)⟩,
  ⟨(some 61), none, .bin .sub (.t 59) (.t 60)⟩,
  ⟨(some 62), none, .bin .eql (.t 61) (.v (.int .i64 1))⟩]
theorem tr71_13 : TR Try.f71 177 13 = some a71_13 := by kernel_rfl
def a71_14 : List AO := [⟨(some 63), none, .mv (.t 1)⟩,
  ⟨(some 12), none, .mv (.t 63)⟩]
theorem tr71_14 : TR Try.f71 177 14 = some a71_14 := by kernel_rfl
def a71_15 : List AO := [⟨(some 64), none, .mv (.t 2)⟩,
  ⟨(some 13), none, .mv (.t 64)⟩]
theorem tr71_15 : TR Try.f71 177 15 = some a71_15 := by kernel_rfl
def a71_16 : List AO := [⟨(some 65), none, .mv (.t 12)⟩,
  ⟨(some 66), none, .mv (.t 13)⟩,
  ⟨(some 67), none, .bin .lss (.t 65) (.t 66)⟩]
theorem tr71_16 : TR Try.f71 177 16 = some a71_16 := by kernel_rfl
def a71_17 : List AO := [⟨(some 68), none, .mv (.t 12)⟩,
  ⟨(some 69), none, .mv (.t 13)⟩,
  ⟨(some 70), none, .bin .add (.t 68) (.t 69)⟩,
  ⟨(some 71), none, .conv .u64 (.t 70)⟩,
  ⟨(some 72), none, .bin .shr (.t 71) (.v (.int .u64 1))⟩,
  ⟨(some 73), none, .conv .i64 (.t 72)⟩,
  ⟨(some 14), none, .mv (.t 73)⟩]
theorem tr71_17 : TR Try.f71 177 17 = some a71_17 := by kernel_rfl
def a71_18 : List AO := [⟨(some 74), none, .fld 0 (.t 4)⟩,
  ⟨(some 75), none, .load none (.t 74)⟩,
  ⟨(some 76), none, .mv (.t 2)⟩,
  ⟨(some 77), none, .mv (.t 14)⟩,
  ⟨(some 78), none, .callv (.t 75) [(.t 76), (.t 77)]⟩,
  ⟨(some 79), none, .un .not (.t 78)⟩]
theorem tr71_18 : TR Try.f71 177 18 = some a71_18 := by kernel_rfl
def a71_19 : List AO := [⟨(some 80), none, .mv (.t 14)⟩,
  ⟨(some 81), none, .bin .add (.t 80) (.v (.int .i64 1))⟩,
  ⟨(some 12), none, .mv (.t 81)⟩]
theorem tr71_19 : TR Try.f71 177 19 = some a71_19 := by kernel_rfl
def a71_20 : List AO := [⟨(some 82), none, .mv (.t 14)⟩,
  ⟨(some 13), none, .mv (.t 82)⟩]
theorem tr71_20 : TR Try.f71 177 20 = some a71_20 := by kernel_rfl
def a71_21 : List AO := [⟨(some 83), none, .mv (.t 2)⟩,
  ⟨(some 15), none, .mv (.t 83)⟩]
theorem tr71_21 : TR Try.f71 177 21 = some a71_21 := by kernel_rfl
def a71_22 : List AO := [⟨(some 84), none, .mv (.t 15)⟩,
  ⟨(some 85), none, .mv (.t 12)⟩,
  ⟨(some 86), none, .bin .gtr (.t 84) (.t 85)⟩]
theorem tr71_22 : TR Try.f71 177 22 = some a71_22 := by kernel_rfl
def a71_24 : List AO := [⟨(some 89), none, .fld 1 (.t 4)⟩,
  ⟨(some 90), none, .load none (.t 89)⟩,
  ⟨(some 91), none, .mv (.t 15)⟩,
  ⟨(some 92), none, .mv (.t 15)⟩,
  ⟨(some 93), none, .bin .sub (.t 92) (.v (.int .i64 1))⟩,
  ⟨(some 94), none, .callv (.t 90) [(.t 91), (.t 93)]⟩]
theorem tr71_24 : TR Try.f71 177 24 = some a71_24 := by kernel_rfl
def a71_23 : List AO := [⟨(some 87), none, .mv (.t 15)⟩,
  ⟨(some 88), none, .bin .sub (.t 87) (.v (.int .i64 1))⟩,
  ⟨(some 15), none, .mv (.t 88)⟩]
theorem tr71_23 : TR Try.f71 177 23 = some a71_23 := by kernel_rfl
def a71_25 : List AO := [⟨(some 95), none, .mv (.t 1)⟩,
  ⟨(some 96), none, .mv (.t 3)⟩,
  ⟨(some 97), none, .bin .add (.t 95) (.t 96)⟩,
  ⟨(some 98), none, .conv .u64 (.t 97)⟩,
  ⟨(some 99), none, .bin .shr (.t 98) (.v (.int .u64 1))⟩,
  ⟨(some 100), none, .conv .i64 (.t 99)⟩,
  ⟨(some 16), none, .mv (.t 100)⟩]
theorem tr71_25 : TR Try.f71 177 25 = some a71_25 := by kernel_rfl
def a71_26 : List AO := [⟨(some 101), none, .mv (.t 16)⟩,
  ⟨(some 102), none, .mv (.t 2)⟩,
  ⟨(some 103), none, .bin .add (.t 101) (.t 102)⟩,
  ⟨(some 17), none, .mv (.t 103)⟩]
theorem tr71_26 : TR Try.f71 177 26 = some a71_26 := by kernel_rfl
def a71_27 : List AO := [⟨(some 18), none, .mv (.v (.int .i64 0))⟩,
  ⟨(some 19), none, .mv (.v (.int .i64 0))⟩]
theorem tr71_27 : TR Try.f71 177 27 = some a71_27 := by kernel_rfl
def a71_28 : List AO := [⟨(some 104), none, .mv (.t 2)⟩,
  ⟨(some 105), none, .mv (.t 16)⟩,
  ⟨(some 106), none, .bin .gtr (.t 104) (.t 105)⟩]
theorem tr71_28 : TR Try.f71 177 28 = some a71_28 := by kernel_rfl
def a71_29 : List AO := [⟨(some 107), none, .mv (.t 17)⟩,
  ⟨(some 108), none, .mv (.t 3)⟩,
  ⟨(some 109), none, .bin .sub (.t 107) (.t 108)⟩,
  ⟨(some 18), none, .mv (.t 109)⟩]
theorem tr71_29 : TR Try.f71 177 29 = some a71_29 := by kernel_rfl
def a71_30 : List AO := [⟨(some 110), none, .mv (.t 16)⟩,
  ⟨(some 19), none, .mv (.t 110)⟩]
theorem tr71_30 : TR Try.f71 177 30 = some a71_30 := by kernel_rfl
def a71_31 : List AO := [⟨(some 111), none, .mv (.t 1)⟩,
  ⟨(some 18), none, .mv (.t 111)⟩]
theorem tr71_31 : TR Try.f71 177 31 = some a71_31 := by kernel_rfl
def a71_32 : List AO := [⟨(some 112), none, .mv (.t 2)⟩,
  ⟨(some 19), none, .mv (.t 112)⟩]
theorem tr71_32 : TR Try.f71 177 32 = some a71_32 := by kernel_rfl
def a71_33 : List AO := [⟨(some 113), none, .mv (.t 17)⟩,
  ⟨(some 114), none, .bin .sub (.t 113) (.v (.int .i64 1))⟩,
  ⟨(some 20), none, .mv (.t 114)⟩]
theorem tr71_33 : TR Try.f71 177 33 = some a71_33 := by kernel_rfl
def a71_34 : List AO := [⟨(some 115), none, .mv (.t 18)⟩,
  ⟨(some 116), none, .mv (.t 19)⟩,
  ⟨(some 117), none, .bin .lss (.t 115) (.t 116)⟩]
theorem tr71_34 : TR Try.f71 177 34 = some a71_34 := by kernel_rfl
def a71_35 : List AO := [⟨(some 118), none, .mv (.t 18)⟩,
  ⟨(some 119), none, .mv (.t 19)⟩,
  ⟨(some 120), none, .bin .add (.t 118) (.t 119)⟩,
  ⟨(some 121), none, .conv .u64 (.t 120)⟩,
  ⟨(some 122), none, .bin .shr (.t 121) (.v (.int .u64 1))⟩,
  ⟨(some 123), none, .conv .i64 (.t 122)⟩,
  ⟨(some 21), none, .mv (.t 123)⟩]
theorem tr71_35 : TR Try.f71 177 35 = some a71_35 := by kernel_rfl
def a71_36 : List AO := [⟨(some 124), none, .fld 0 (.t 4)⟩,
  ⟨(some 125), none, .load none (.t 124)⟩,
  ⟨(some 126), none, .mv (.t 20)⟩,
  ⟨(some 127), none, .mv (.t 21)⟩,
  ⟨(some 128), none, .bin .sub (.t 126) (.t 127)⟩,
  ⟨(some 129), none, .mv (.t 21)⟩,
  ⟨(some 130), none, .callv (.t 125) [(.t 128), (.t 129)]⟩,
  ⟨(some 131), none, .un .not (.t 130)⟩]
theorem tr71_36 : TR Try.f71 177 36 = some a71_36 := by kernel_rfl
def a71_37 : List AO := [⟨(some 132), none, .mv (.t 21)⟩,
  ⟨(some 133), none, .bin .add (.t 132) (.v (.int .i64 1))⟩,
  ⟨(some 18), none, .mv (.t 133)⟩]
theorem tr71_37 : TR Try.f71 177 37 = some a71_37 := by kernel_rfl
def a71_38 : List AO := [⟨(some 134), none, .mv (.t 21)⟩,
  ⟨(some 19), none, .mv (.t 134)⟩]
theorem tr71_38 : TR Try.f71 177 38 = some a71_38 := by kernel_rfl
def a71_39 : List AO := [⟨(some 135), none, .mv (.t 17)⟩,
  ⟨(some 136), none, .mv (.t 18)⟩,
  ⟨(some 137), none, .bin .sub (.t 135) (.t 136)⟩,
  ⟨(some 22), none, .mv (.t 137)⟩]
theorem tr71_39 : TR Try.f71 177 39 = some a71_39 := by kernel_rfl
def a71_40 : List AO := [⟨(some 138), none, .mv (.t 18)⟩,
  ⟨(some 139), none, .mv (.t 2)⟩,
  ⟨(some 140), none, .bin .lss (.t 138) (.t 139)⟩,
  ⟨(some 141), none, .mv (.t 140)⟩,
  ⟨(some 142), some (141, true), .mv (.t 2)⟩,
  ⟨(some 143), some (141, true), .mv (.t 22)⟩,
  ⟨(some 144), some (141, true), .bin .lss (.t 142) (.t 143)⟩,
  ⟨(some 145), none, .pick (.t 141) (.t 144) (.v (.bool false))⟩]
theorem tr71_40 : TR Try.f71 177 40 = some a71_40 := by kernel_rfl
def a71_41 : List AO := [⟨(some 146), none, .load (some 2) (.t 4)⟩,
  ⟨(some 147), none, .mv (.t 18)⟩,
  ⟨(some 148), none, .mv (.t 2)⟩,
  ⟨(some 149), none, .mv (.t 22)⟩,
  ⟨(some 150), none, .call 77 [(.t 146), (.t 147), (.t 148), (.t 149)]⟩]
theorem tr71_41 : TR Try.f71 177 41 = some a71_41 := by kernel_rfl
def a71_42 : List AO := [⟨(some 151), none, .mv (.t 1)⟩,
  ⟨(some 152), none, .mv (.t 18)⟩,
  ⟨(some 153), none, .bin .lss (.t 151) (.t 152)⟩,
  ⟨(some 154), none, .mv (.t 153)⟩,
  ⟨(some 155), some (154, true), .mv (.t 18)⟩,
  ⟨(some 156), some (154, true), .mv (.t 16)⟩,
  ⟨(some 157), some (154, true), .bin .lss (.t 155) (.t 156)⟩,
  ⟨(some 158), none, .pick (.t 154) (.t 157) (.v (.bool false))⟩]
theorem tr71_42 : TR Try.f71 177 42 = some a71_42 := by kernel_rfl
def a71_43 : List AO := [⟨(some 159), none, .load (some 2) (.t 4)⟩,
  ⟨(some 160), none, .mv (.t 1)⟩,
  ⟨(some 161), none, .mv (.t 18)⟩,
  ⟨(some 162), none, .mv (.t 16)⟩,
  ⟨(some 163), none, .call 71 [(.t 159), (.t 160), (.t 161), (.t 162)]⟩]
theorem tr71_43 : TR Try.f71 177 43 = some a71_43 := by kernel_rfl
def a71_44 : List AO := [⟨(some 164), none, .mv (.t 16)⟩,
  ⟨(some 165), none, .mv (.t 22)⟩,
  ⟨(some 166), none, .bin .lss (.t 164) (.t 165)⟩,
  ⟨(some 167), none, .mv (.t 166)⟩,
  ⟨(some 168), some (167, true), .mv (.t 22)⟩,
  ⟨(some 169), some (167, true), .mv (.t 3)⟩,
  ⟨(some 170), some (167, true), .bin .lss (.t 168) (.t 169)⟩,
  ⟨(some 171), none, .pick (.t 167) (.t 170) (.v (.bool false))⟩]
theorem tr71_44 : TR Try.f71 177 44 = some a71_44 := by kernel_rfl
def a71_45 : List AO := [⟨(some 172), none, .load (some 2) (.t 4)⟩,
  ⟨(some 173), none, .mv (.t 16)⟩,
  ⟨(some 174), none, .mv (.t 22)⟩,
  ⟨(some 175), none, .mv (.t 3)⟩,
  ⟨(some 176), none, .call 71 [(.t 172), (.t 173), (.t 174), (.t 175)]⟩]
theorem tr71_45 : TR Try.f71 177 45 = some a71_45 := by kernel_rfl
/-- airline/airlineref01.upper -/
noncomputable def c75 : Code := .seq (.region 0 (ro Try.f75 0) false) (.seq (.region 1 (ro Try.f75 1) false) (.ret))
theorem body75 : Try.f75.body = some c75 := by kernel_rfl
theorem res75 : Try.f75.results.toList.mapM (trR Try.prog) = some [.t 2] := by kernel_rfl
theorem nt75 : Try.f75.ntmps = 9 := by kernel_rfl
theorem nm75 : (Try.f75.name == "runtime.NumGoroutine") = false := by kernel_rfl
def a75_0 : List AO := [⟨(some 2), none, .mv (.v (.bool false))⟩]
theorem tr75_0 : TR Try.f75 9 0 = some a75_0 := by kernel_rfl
def a75_1 : List AO := [⟨(some 3), none, .mv (.t 0)⟩,
  ⟨(some 4), none, .bin .geq (.t 3) (.v (.int .u8 65))⟩,
  ⟨(some 5), none, .mv (.t 4)⟩,
  ⟨(some 6), some (5, true), .mv (.t 0)⟩,
  ⟨(some 7), some (5, true), .bin .leq (.t 6) (.v (.int .u8 90))⟩,
  ⟨(some 8), none, .pick (.t 5) (.t 7) (.v (.bool false))⟩,
  ⟨(some 2), none, .mv (.t 8)⟩]
theorem tr75_1 : TR Try.f75 9 1 = some a75_1 := by kernel_rfl
/-- sort.rotate_func -/
noncomputable def c77 : Code := .seq (.region 0 (ro Try.f77 0) false) (.seq (.region 1 (ro Try.f77 1) false) (.seq (.region 2 (ro Try.f77 2) false) (.seq (.block 0 (.loop (.seq (.seq (.region 3 (ro Try.f77 3) false) (.cond (.tmp 18) (.skip) (.exit 0))) (.block 1 (.seq (.region 4 (ro Try.f77 4) false) (.cond (.tmp 21) (.seq (.region 5 (ro Try.f77 5) false) (.region 6 (ro Try.f77 6) false)) (.seq (.region 7 (ro Try.f77 7) false) (.region 8 (ro Try.f77 8) false)))))))) (.region 9 (ro Try.f77 9) false))))
theorem body77 : Try.f77.body = some c77 := by kernel_rfl
theorem res77 : Try.f77.results.toList.mapM (trR Try.prog) = some [] := by kernel_rfl
theorem nt77 : Try.f77.ntmps = 53 := by kernel_rfl
theorem nm77 : (Try.f77.name == "runtime.NumGoroutine") = false := by kernel_rfl
def a77_0 : List AO := [⟨(some 4), none, .box 125 (.t 0)⟩]
theorem tr77_0 : TR Try.f77 53 0 = some a77_0 := by kernel_rfl
def a77_1 : List AO := [⟨(some 10), none, .mv (.t 2)⟩,
  ⟨(some 11), none, .mv (.t 1)⟩,
  ⟨(some 12), none, .bin .sub (.t 10) (.t 11)⟩,
  ⟨(some 8), none, .mv (.t 12)⟩]
theorem tr77_1 : TR Try.f77 53 1 = some a77_1 := by kernel_rfl
def a77_2 : List AO := [⟨(some 13), none, .mv (.t 3)⟩,
  ⟨(some 14), none, .mv (.t 2)⟩,
  ⟨(some 15), none, .bin .sub (.t 13) (.t 14)⟩,
  ⟨(some 9), none, .mv (.t 15)⟩]
theorem tr77_2 : TR Try.f77 53 2 = some a77_2 := by kernel_rfl
def a77_3 : List AO := [⟨(some 16), none, .mv (.t 8)⟩,
  ⟨(some 17), none, .mv (.t 9)⟩,
  ⟨(some 18), none, .bin .neq (.t 16) (.t 17)⟩]
theorem tr77_3 : TR Try.f77 53 3 = some a77_3 := by kernel_rfl
def a77_4 : List AO := [⟨(some 19), none, .mv (.t 8)⟩,
  ⟨(some 20), none, .mv (.t 9)⟩,
  ⟨(some 21), none, .bin .gtr (.t 19) (.t 20)⟩]
theorem tr77_4 : TR Try.f77 53 4 = some a77_4 := by kernel_rfl
def a77_5 : List AO := [⟨(some 22), none, .load (some 2) (.t 4)⟩,
  ⟨(some 23), none, .mv (.t 2)⟩,
  ⟨(some 24), none, .mv (.t 8)⟩,
  ⟨(some 25), none, .bin .sub (.t 23) (.t 24)⟩,
  ⟨(some 26), none, .mv (.t 2)⟩,
  ⟨(some 27), none, .mv (.t 9)⟩,
  ⟨(some 28), none, .call 88 [(.t 22), (.t 25), (.t 26), (.t 27)]⟩]
theorem tr77_5 : TR Try.f77 53 5 = some a77_5 := by kernel_rfl
def a77_6 : List AO := [⟨(some 29), none, .mv (.t 8)⟩,
  ⟨(some 30), none, .mv (.t 9)⟩,
  ⟨(some 31), none, .bin .sub (.t 29) (.t 30)⟩,
  ⟨(some 8), none, .mv (.t 31)⟩]
theorem tr77_6 : TR Try.f77 53 6 = some a77_6 := by kernel_rfl
def a77_7 : List AO := [⟨(some 32), none, .load (some 2) (.t 4)⟩,
  ⟨(some 33), none, .mv (.t 2)⟩,
  ⟨(some 34), none, .mv (.t 8)⟩,
  ⟨(some 35), none, .bin .sub (.t 33) (.t 34)⟩,
  ⟨(some 36), none, .mv (.t 2)⟩,
  ⟨(some 37), none, .mv (.t 9)⟩,
  ⟨(some 38), none, .bin .add (.t 36) (.t 37)⟩,
  ⟨(some 39), none, .mv (.t 8)⟩,
  ⟨(some 40), none, .bin .sub (.t 38) (.t 39)⟩,
  ⟨(some 41), none, .mv (.t 8)⟩,
  ⟨(some 42), none, .call 88 [(.t 32), (.t 35), (.t 40), (.t 41)]⟩]
theorem tr77_7 : TR Try.f77 53 7 = some a77_7 := by kernel_rfl
def a77_8 : List AO := [⟨(some 43), none, .mv (.t 9)⟩,
  ⟨(some 44), none, .mv (.t 8)⟩,
  ⟨(some 45), none, .bin .sub (.t 43) (.t 44)⟩,
  ⟨(some 9), none, .mv (.t 45)⟩]
theorem tr77_8 : TR Try.f77 53 8 = some a77_8 := by kernel_rfl
def a77_9 : List AO := [⟨(some 46), none, .load (some 2) (.t 4)⟩,
  ⟨(some 47), none, .mv (.t 2)⟩,
  ⟨(some 48), none, .mv (.t 8)⟩,
  ⟨(some 49), none, .bin .sub (.t 47) (.t 48)⟩,
  ⟨(some 50), none, .mv (.t 2)⟩,
  ⟨(some 51), none, .mv (.t 8)⟩,
  ⟨(some 52), none, .call 88 [(.t 46), (.t 49), (.t 50), (.t 51)]⟩]
theorem tr77_9 : TR Try.f77 53 9 = some a77_9 := by kernel_rfl
/-- sort.swapRange_func -/
noncomputable def c88 : Code := .seq (.region 0 (ro Try.f88 0) false) (.seq (.region 1 (ro Try.f88 1) false) (.block 0 (.loop (.seq (.seq (.region 2 (ro Try.f88 2) false) (.cond (.tmp 11) (.skip) (.exit 0))) (.seq (.block 1 (.region 4 (ro Try.f88 4) false)) (.region 3 (ro Try.f88 3) false))))))
theorem body88 : Try.f88.body = some c88 := by kernel_rfl
theorem res88 : Try.f88.results.toList.mapM (trR Try.prog) = some [] := by kernel_rfl
theorem nt88 : Try.f88.ntmps = 23 := by kernel_rfl
theorem nm88 : (Try.f88.name == "runtime.NumGoroutine") = false := by kernel_rfl
def a88_0 : List AO := [⟨(some 4), none, .box 125 (.t 0)⟩]
theorem tr88_0 : TR Try.f88 23 0 = some a88_0 := by kernel_rfl
def a88_1 : List AO := [⟨(some 8), none, .mv (.v (.int .i64 0))⟩]
theorem tr88_1 : TR Try.f88 23 1 = some a88_1 := by kernel_rfl
def a88_2 : List AO := [⟨(some 9), none, .mv (.t 8)⟩,
  ⟨(some 10), none, .mv (.t 3)⟩,
  ⟨(some 11), none, .bin .lss (.t 9) (.t 10)⟩]
theorem tr88_2 : TR Try.f88 23 2 = some a88_2 := by kernel_rfl
def a88_4 : List AO := [⟨(some 14), none, .fld 1 (.t 4)⟩,
  ⟨(some 15), none, .load none (.t 14)⟩,
  ⟨(some 16), none, .mv (.t 1)⟩,
  ⟨(some 17), none, .mv (.t 8)⟩,
  ⟨(some 18), none, .bin .add (.t 16) (.t 17)⟩,
  ⟨(some 19), none, .mv (.t 2)⟩,
  ⟨(some 20), none, .mv (.t 8)⟩,
  ⟨(some 21), none, .bin .add (.t 19) (.t 20)⟩,
  ⟨(some 22), none, .callv (.t 15) [(.t 18), (.t 21)]⟩]
theorem tr88_4 : TR Try.f88 23 4 = some a88_4 := by kernel_rfl
def a88_3 : List AO := [⟨(some 12), none, .mv (.t 8)⟩,
  ⟨(some 13), none, .bin .add (.t 12) (.v (.int .i64 1))⟩,
  ⟨(some 8), none, .mv (.t 13)⟩]
theorem tr88_3 : TR Try.f88 23 3 = some a88_3 := by kernel_rfl
end Go.Proofs.Ytfjgnfgadkajnaa
