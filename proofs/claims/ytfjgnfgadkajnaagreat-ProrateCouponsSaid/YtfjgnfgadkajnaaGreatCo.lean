/- The code of the functions, region by region, as abstract operations. -/
import Derived.Test.YtfjgnfgadkajnaaGreatCoa
namespace Go.Proofs.YtfjgnfgadkajnaaGreat
open Go Go.RowKit
/-- airline/airlineref06.Find -/
noncomputable def c58 : Code := .seq (.region 0 (ro Tryz.f58 0) false) (.seq (.seq (.region 1 (ro Tryz.f58 1) false) (.block 0 (.loop (.seq (.seq (.region 2 (ro Tryz.f58 2) false) (.cond (.tmp 11) (.skip) (.exit 0))) (.seq (.block 1 (.seq (.region 4 (ro Tryz.f58 4) false) (.cond (.tmp 21) (.seq (.region 5 (ro Tryz.f58 5) false) (.ret)) (.skip)))) (.region 3 (ro Tryz.f58 3) false)))))) (.seq (.region 6 (ro Tryz.f58 6) false) (.ret)))
theorem body58 : Tryz.f58.body = some c58 := by kernel_rfl
theorem res58 : Tryz.f58.results.toList.mapM (trR Tryz.prog) = some [.c (some 5) 4, .t 5] := by kernel_rfl
theorem nt58 : Tryz.f58.ntmps = 28 := by kernel_rfl
theorem nm58 : (Tryz.f58.name == "runtime.NumGoroutine") = false := by kernel_rfl
def a58_0 : List AO := [⟨(some 2), none, .box 25 (.t 0)⟩,
  ⟨(some 4), none, .alloc 46 [(.str []), (.str []), (.str []), (.int .i64 0), .nils]⟩,
  ⟨(some 5), none, .mv (.v (.bool false))⟩]
theorem tr58_0 : TR Tryz.f58 28 0 = some a58_0 := by kernel_rfl
def a58_1 : List AO := [⟨(some 6), none, .mv (.v (.int .i64 0))⟩]
theorem tr58_1 : TR Tryz.f58 28 1 = some a58_1 := by kernel_rfl
def a58_2 : List AO := [⟨(some 7), none, .mv (.t 6)⟩,
  ⟨(some 8), none, .fld 0 (.t 2)⟩,
  ⟨(some 9), none, .load none (.t 8)⟩,
  ⟨(some 10), none, .len (.t 9)⟩,
  ⟨(some 11), none, .bin .lss (.t 7) (.t 10)⟩]
theorem tr58_2 : TR Tryz.f58 28 2 = some a58_2 := by kernel_rfl
def a58_4 : List AO := [⟨(some 14), none, .fld 0 (.t 2)⟩,
  ⟨(some 15), none, .load none (.t 14)⟩,
  ⟨(some 16), none, .mv (.t 6)⟩,
  ⟨(some 17), none, .idx 5 (.t 15) (.t 16)⟩,
  ⟨(some 18), none, .fld 0 (.t 17)⟩,
  ⟨(some 19), none, .load none (.t 18)⟩,
  ⟨(some 20), none, .mv (.t 1)⟩,
  ⟨(some 21), none, .bin .eql (.t 19) (.t 20)⟩]
theorem tr58_4 : TR Tryz.f58 28 4 = some a58_4 := by kernel_rfl
def a58_5 : List AO := [⟨(some 22), none, .fld 0 (.t 2)⟩,
  ⟨(some 23), none, .load none (.t 22)⟩,
  ⟨(some 24), none, .mv (.t 6)⟩,
  ⟨(some 25), none, .idx 5 (.t 23) (.t 24)⟩,
  ⟨(some 26), none, .load (some 5) (.t 25)⟩,
  ⟨none, none, .store 5 (.t 4) (.t 26)⟩,
  ⟨(some 5), none, .mv (.v (.bool true))⟩]
theorem tr58_5 : TR Tryz.f58 28 5 = some a58_5 := by kernel_rfl
def a58_3 : List AO := [⟨(some 12), none, .mv (.t 6)⟩,
  ⟨(some 13), none, .bin .add (.t 12) (.v (.int .i64 1))⟩,
  ⟨(some 6), none, .mv (.t 13)⟩]
theorem tr58_3 : TR Tryz.f58 28 3 = some a58_3 := by kernel_rfl
def a58_6 : List AO := [⟨(some 27), none, .build [(.str []), (.str []), (.str []), (.int .i64 0), .nils] []⟩,
  ⟨none, none, .store 5 (.t 4) (.t 27)⟩,
  ⟨(some 5), none, .mv (.v (.bool false))⟩]
theorem tr58_6 : TR Tryz.f58 28 6 = some a58_6 := by kernel_rfl
/-- airline/airlineref01.letters -/
noncomputable def c59 : Code := .seq (.region 0 (ro Tryz.f59 0) false) (.seq (.seq (.region 1 (ro Tryz.f59 1) false) (.block 0 (.loop (.seq (.seq (.region 2 (ro Tryz.f59 2) false) (.cond (.tmp 9) (.skip) (.exit 0))) (.seq (.block 1 (.seq (.region 4 (ro Tryz.f59 4) false) (.cond (.tmp 16) (.seq (.region 5 (ro Tryz.f59 5) false) (.ret)) (.skip)))) (.region 3 (ro Tryz.f59 3) false)))))) (.seq (.region 6 (ro Tryz.f59 6) false) (.ret)))
theorem body59 : Tryz.f59.body = some c59 := by kernel_rfl
theorem res59 : Tryz.f59.results.toList.mapM (trR Tryz.prog) = some [.t 4] := by kernel_rfl
theorem nt59 : Tryz.f59.ntmps = 21 := by kernel_rfl
theorem nm59 : (Tryz.f59.name == "runtime.NumGoroutine") = false := by kernel_rfl
def a59_0 : List AO := [⟨(some 4), none, .mv (.v (.bool false))⟩]
theorem tr59_0 : TR Tryz.f59 21 0 = some a59_0 := by kernel_rfl
def a59_1 : List AO := [⟨(some 5), none, .mv (.v (.int .i64 0))⟩]
theorem tr59_1 : TR Tryz.f59 21 1 = some a59_1 := by kernel_rfl
def a59_2 : List AO := [⟨(some 6), none, .mv (.t 5)⟩,
  ⟨(some 7), none, .mv (.t 0)⟩,
  ⟨(some 8), none, .slen (.t 7)⟩,
  ⟨(some 9), none, .bin .lss (.t 6) (.t 8)⟩]
theorem tr59_2 : TR Tryz.f59 21 2 = some a59_2 := by kernel_rfl
def a59_4 : List AO := [⟨(some 12), none, .mv (.t 0)⟩,
  ⟨(some 13), none, .mv (.t 5)⟩,
  ⟨(some 14), none, .sidx (.t 12) (.t 13)⟩,
  ⟨(some 15), none, .call 76 [(.t 14)]⟩,
  ⟨(some 16), none, .un .not (.t 15)⟩]
theorem tr59_4 : TR Tryz.f59 21 4 = some a59_4 := by kernel_rfl
def a59_5 : List AO := [⟨(some 4), none, .mv (.v (.bool false))⟩]
theorem tr59_5 : TR Tryz.f59 21 5 = some a59_5 := by kernel_rfl
def a59_3 : List AO := [⟨(some 10), none, .mv (.t 5)⟩,
  ⟨(some 11), none, .bin .add (.t 10) (.v (.int .i64 1))⟩,
  ⟨(some 5), none, .mv (.t 11)⟩]
theorem tr59_3 : TR Tryz.f59 21 3 = some a59_3 := by kernel_rfl
def a59_6 : List AO := [⟨(some 17), none, .mv (.t 0)⟩,
  ⟨(some 18), none, .slen (.t 17)⟩,
  ⟨(some 19), none, .mv (.t 1)⟩,
  ⟨(some 20), none, .bin .eql (.t 18) (.t 19)⟩,
  ⟨(some 4), none, .mv (.t 20)⟩]
theorem tr59_6 : TR Tryz.f59 21 6 = some a59_6 := by kernel_rfl
/-- airline/airlineref05.offset -/
noncomputable def c60 : Code := .seq (.region 0 (ro Tryz.f60 0) false) (.seq (.region 1 (ro Tryz.f60 1) false) (.ret))
theorem body60 : Tryz.f60.body = some c60 := by kernel_rfl
theorem res60 : Tryz.f60.results.toList.mapM (trR Tryz.prog) = some [.t 2] := by kernel_rfl
theorem nt60 : Tryz.f60.ntmps = 9 := by kernel_rfl
theorem nm60 : (Tryz.f60.name == "runtime.NumGoroutine") = false := by kernel_rfl
def a60_0 : List AO := [⟨(some 2), none, .mv (.v (.bool false))⟩]
theorem tr60_0 : TR Tryz.f60 9 0 = some a60_0 := by kernel_rfl
def a60_1 : List AO := [⟨(some 3), none, .mv (.t 0)⟩,
  ⟨(some 4), none, .bin .geq (.t 3) (.v (.int .i64 (-840)))⟩,
  ⟨(some 5), none, .mv (.t 4)⟩,
  ⟨(some 6), some (5, true), .mv (.t 0)⟩,
  ⟨(some 7), some (5, true), .bin .leq (.t 6) (.v (.int .i64 840))⟩,
  ⟨(some 8), none, .pick (.t 5) (.t 7) (.v (.bool false))⟩,
  ⟨(some 2), none, .mv (.t 8)⟩]
theorem tr60_1 : TR Tryz.f60 9 1 = some a60_1 := by kernel_rfl
/-- sort.insertionSort_func -/
noncomputable def c74 : Code := .seq (.region 0 (ro Tryz.f74 0) false) (.seq (.region 1 (ro Tryz.f74 1) false) (.block 0 (.loop (.seq (.seq (.region 2 (ro Tryz.f74 2) false) (.cond (.tmp 12) (.skip) (.exit 0))) (.seq (.block 1 (.seq (.region 4 (ro Tryz.f74 4) false) (.block 2 (.loop (.seq (.seq (.region 5 (ro Tryz.f74 5) false) (.cond (.tmp 26) (.skip) (.exit 2))) (.seq (.block 3 (.region 7 (ro Tryz.f74 7) false)) (.region 6 (ro Tryz.f74 6) false))))))) (.region 3 (ro Tryz.f74 3) false))))))
theorem body74 : Tryz.f74.body = some c74 := by kernel_rfl
theorem res74 : Tryz.f74.results.toList.mapM (trR Tryz.prog) = some [] := by kernel_rfl
theorem nt74 : Tryz.f74.ntmps = 35 := by kernel_rfl
theorem nm74 : (Tryz.f74.name == "runtime.NumGoroutine") = false := by kernel_rfl
def a74_0 : List AO := [⟨(some 3), none, .box 126 (.t 0)⟩]
theorem tr74_0 : TR Tryz.f74 35 0 = some a74_0 := by kernel_rfl
def a74_1 : List AO := [⟨(some 8), none, .mv (.t 1)⟩,
  ⟨(some 9), none, .bin .add (.t 8) (.v (.int .i64 1))⟩,
  ⟨(some 6), none, .mv (.t 9)⟩]
theorem tr74_1 : TR Tryz.f74 35 1 = some a74_1 := by kernel_rfl
def a74_2 : List AO := [⟨(some 10), none, .mv (.t 6)⟩,
  ⟨(some 11), none, .mv (.t 2)⟩,
  ⟨(some 12), none, .bin .lss (.t 10) (.t 11)⟩]
theorem tr74_2 : TR Tryz.f74 35 2 = some a74_2 := by kernel_rfl
def a74_4 : List AO := [⟨(some 15), none, .mv (.t 6)⟩,
  ⟨(some 7), none, .mv (.t 15)⟩]
theorem tr74_4 : TR Tryz.f74 35 4 = some a74_4 := by kernel_rfl
def a74_5 : List AO := [⟨(some 16), none, .mv (.t 7)⟩,
  ⟨(some 17), none, .mv (.t 1)⟩,
  ⟨(some 18), none, .bin .gtr (.t 16) (.t 17)⟩,
  ⟨(some 19), none, .mv (.t 18)⟩,
  ⟨(some 20), some (19, true), .fld 0 (.t 3)⟩,
  ⟨(some 21), some (19, true), .load none (.t 20)⟩,
  ⟨(some 22), some (19, true), .mv (.t 7)⟩,
  ⟨(some 23), some (19, true), .mv (.t 7)⟩,
  ⟨(some 24), some (19, true), .bin .sub (.t 23) (.v (.int .i64 1))⟩,
  ⟨(some 25), some (19, true), .callv (.t 21) [(.t 22), (.t 24)]⟩,
  ⟨(some 26), none, .pick (.t 19) (.t 25) (.v (.bool false))⟩]
theorem tr74_5 : TR Tryz.f74 35 5 = some a74_5 := by kernel_rfl
def a74_7 : List AO := [⟨(some 29), none, .fld 1 (.t 3)⟩,
  ⟨(some 30), none, .load none (.t 29)⟩,
  ⟨(some 31), none, .mv (.t 7)⟩,
  ⟨(some 32), none, .mv (.t 7)⟩,
  ⟨(some 33), none, .bin .sub (.t 32) (.v (.int .i64 1))⟩,
  ⟨(some 34), none, .callv (.t 30) [(.t 31), (.t 33)]⟩]
theorem tr74_7 : TR Tryz.f74 35 7 = some a74_7 := by kernel_rfl
def a74_6 : List AO := [⟨(some 27), none, .mv (.t 7)⟩,
  ⟨(some 28), none, .bin .sub (.t 27) (.v (.int .i64 1))⟩,
  ⟨(some 7), none, .mv (.t 28)⟩]
theorem tr74_6 : TR Tryz.f74 35 6 = some a74_6 := by kernel_rfl
def a74_3 : List AO := [⟨(some 13), none, .mv (.t 6)⟩,
  ⟨(some 14), none, .bin .add (.t 13) (.v (.int .i64 1))⟩,
  ⟨(some 6), none, .mv (.t 14)⟩]
theorem tr74_3 : TR Tryz.f74 35 3 = some a74_3 := by kernel_rfl
/-- sort.symMerge_func -/
noncomputable def c75 : Code := .seq (.region 0 (ro Tryz.f75 0) false) (.seq (.seq (.region 1 (ro Tryz.f75 1) false) (.cond (.tmp 26) (.seq (.region 2 (ro Tryz.f75 2) false) (.seq (.region 3 (ro Tryz.f75 3) false) (.seq (.block 0 (.loop (.seq (.seq (.region 4 (ro Tryz.f75 4) false) (.cond (.tmp 31) (.skip) (.exit 0))) (.block 1 (.seq (.region 5 (ro Tryz.f75 5) false) (.seq (.region 6 (ro Tryz.f75 6) false) (.cond (.tmp 42) (.region 7 (ro Tryz.f75 7) false) (.region 8 (ro Tryz.f75 8) false)))))))) (.seq (.seq (.region 9 (ro Tryz.f75 9) false) (.block 2 (.loop (.seq (.seq (.region 10 (ro Tryz.f75 10) false) (.cond (.tmp 50) (.skip) (.exit 2))) (.seq (.block 3 (.region 12 (ro Tryz.f75 12) false)) (.region 11 (ro Tryz.f75 11) false)))))) (.ret))))) (.skip))) (.seq (.seq (.region 13 (ro Tryz.f75 13) false) (.cond (.tmp 62) (.seq (.region 14 (ro Tryz.f75 14) false) (.seq (.region 15 (ro Tryz.f75 15) false) (.seq (.block 4 (.loop (.seq (.seq (.region 16 (ro Tryz.f75 16) false) (.cond (.tmp 67) (.skip) (.exit 4))) (.block 5 (.seq (.region 17 (ro Tryz.f75 17) false) (.seq (.region 18 (ro Tryz.f75 18) false) (.cond (.tmp 79) (.region 19 (ro Tryz.f75 19) false) (.region 20 (ro Tryz.f75 20) false)))))))) (.seq (.seq (.region 21 (ro Tryz.f75 21) false) (.block 6 (.loop (.seq (.seq (.region 22 (ro Tryz.f75 22) false) (.cond (.tmp 86) (.skip) (.exit 6))) (.seq (.block 7 (.region 24 (ro Tryz.f75 24) false)) (.region 23 (ro Tryz.f75 23) false)))))) (.ret))))) (.skip))) (.seq (.region 25 (ro Tryz.f75 25) false) (.seq (.region 26 (ro Tryz.f75 26) false) (.seq (.region 27 (ro Tryz.f75 27) false) (.seq (.seq (.region 28 (ro Tryz.f75 28) false) (.cond (.tmp 106) (.seq (.region 29 (ro Tryz.f75 29) false) (.region 30 (ro Tryz.f75 30) false)) (.seq (.region 31 (ro Tryz.f75 31) false) (.region 32 (ro Tryz.f75 32) false)))) (.seq (.region 33 (ro Tryz.f75 33) false) (.seq (.block 8 (.loop (.seq (.seq (.region 34 (ro Tryz.f75 34) false) (.cond (.tmp 117) (.skip) (.exit 8))) (.block 9 (.seq (.region 35 (ro Tryz.f75 35) false) (.seq (.region 36 (ro Tryz.f75 36) false) (.cond (.tmp 131) (.region 37 (ro Tryz.f75 37) false) (.region 38 (ro Tryz.f75 38) false)))))))) (.seq (.region 39 (ro Tryz.f75 39) false) (.seq (.seq (.region 40 (ro Tryz.f75 40) false) (.cond (.tmp 145) (.region 41 (ro Tryz.f75 41) false) (.skip))) (.seq (.seq (.region 42 (ro Tryz.f75 42) false) (.cond (.tmp 158) (.region 43 (ro Tryz.f75 43) false) (.skip))) (.seq (.region 44 (ro Tryz.f75 44) false) (.cond (.tmp 171) (.region 45 (ro Tryz.f75 45) false) (.skip))))))))))))))
theorem body75 : Tryz.f75.body = some c75 := by kernel_rfl
theorem res75 : Tryz.f75.results.toList.mapM (trR Tryz.prog) = some [] := by kernel_rfl
theorem nt75 : Tryz.f75.ntmps = 177 := by kernel_rfl
theorem nm75 : (Tryz.f75.name == "runtime.NumGoroutine") = false := by kernel_rfl
def a75_0 : List AO := [⟨(some 4), none, .box 126 (.t 0)⟩]
theorem tr75_0 : TR Tryz.f75 177 0 = some a75_0 := by kernel_rfl
def a75_1 : List AO := [⟨(some 23), none, .mv (.t 2)⟩,
  ⟨(some 24), none, .mv (.t 1)⟩,
  ⟨(some 25), none, .bin .sub (.t 23) (.t 24)⟩,
  ⟨(some 26), none, .bin .eql (.t 25) (.v (.int .i64 1))⟩]
theorem tr75_1 : TR Tryz.f75 177 1 = some a75_1 := by kernel_rfl
def a75_2 : List AO := [⟨(some 27), none, .mv (.t 2)⟩,
  ⟨(some 8), none, .mv (.t 27)⟩]
theorem tr75_2 : TR Tryz.f75 177 2 = some a75_2 := by kernel_rfl
def a75_3 : List AO := [⟨(some 28), none, .mv (.t 3)⟩,
  ⟨(some 9), none, .mv (.t 28)⟩]
theorem tr75_3 : TR Tryz.f75 177 3 = some a75_3 := by kernel_rfl
def a75_4 : List AO := [⟨(some 29), none, .mv (.t 8)⟩,
  ⟨(some 30), none, .mv (.t 9)⟩,
  ⟨(some 31), none, .bin .lss (.t 29) (.t 30)⟩]
theorem tr75_4 : TR Tryz.f75 177 4 = some a75_4 := by kernel_rfl
def a75_5 : List AO := [⟨(some 32), none, .mv (.t 8)⟩,
  ⟨(some 33), none, .mv (.t 9)⟩,
  ⟨(some 34), none, .bin .add (.t 32) (.t 33)⟩,
  ⟨(some 35), none, .conv .u64 (.t 34)⟩,
  ⟨(some 36), none, .bin .shr (.t 35) (.v (.int .u64 1))⟩,
  ⟨(some 37), none, .conv .i64 (.t 36)⟩,
  ⟨(some 10), none, .mv (.t 37)⟩]
theorem tr75_5 : TR Tryz.f75 177 5 = some a75_5 := by kernel_rfl
def a75_6 : List AO := [⟨(some 38), none, .fld 0 (.t 4)⟩,
  ⟨(some 39), none, .load none (.t 38)⟩,
  ⟨(some 40), none, .mv (.t 10)⟩,
  ⟨(some 41), none, .mv (.t 1)⟩,
  ⟨(some 42), none, .callv (.t 39) [(.t 40), (.t 41)]⟩]
theorem tr75_6 : TR Tryz.f75 177 6 = some a75_6 := by kernel_rfl
def a75_7 : List AO := [⟨(some 43), none, .mv (.t 10)⟩,
  ⟨(some 44), none, .bin .add (.t 43) (.v (.int .i64 1))⟩,
  ⟨(some 8), none, .mv (.t 44)⟩]
theorem tr75_7 : TR Tryz.f75 177 7 = some a75_7 := by kernel_rfl
def a75_8 : List AO := [⟨(some 45), none, .mv (.t 10)⟩,
  ⟨(some 9), none, .mv (.t 45)⟩]
theorem tr75_8 : TR Tryz.f75 177 8 = some a75_8 := by kernel_rfl
def a75_9 : List AO := [⟨(some 46), none, .mv (.t 1)⟩,
  ⟨(some 11), none, .mv (.t 46)⟩]
theorem tr75_9 : TR Tryz.f75 177 9 = some a75_9 := by kernel_rfl
def a75_10 : List AO := [⟨(some 47), none, .mv (.t 11)⟩,
  ⟨(some 48), none, .mv (.t 8)⟩,
  ⟨(some 49), none, .bin .sub (.t 48) (.v (.int .i64 1))⟩,
  ⟨(some 50), none, .bin .lss (.t 47) (.t 49)⟩]
theorem tr75_10 : TR Tryz.f75 177 10 = some a75_10 := by kernel_rfl
def a75_12 : List AO := [⟨(some 53), none, .fld 1 (.t 4)⟩,
  ⟨(some 54), none, .load none (.t 53)⟩,
  ⟨(some 55), none, .mv (.t 11)⟩,
  ⟨(some 56), none, .mv (.t 11)⟩,
  ⟨(some 57), none, .bin .add (.t 56) (.v (.int .i64 1))⟩,
  ⟨(some 58), none, .callv (.t 54) [(.t 55), (.t 57)]⟩]
theorem tr75_12 : TR Tryz.f75 177 12 = some a75_12 := by kernel_rfl
def a75_11 : List AO := [⟨(some 51), none, .mv (.t 11)⟩,
  ⟨(some 52), none, .bin .add (.t 51) (.v (.int .i64 1))⟩,
  ⟨(some 11), none, .mv (.t 52)⟩]
theorem tr75_11 : TR Tryz.f75 177 11 = some a75_11 := by kernel_rfl
def a75_13 : List AO := [⟨(some 59), none, .mv (.t 3)⟩,
  ⟨(some 60), none, .mv (.t 2)⟩,
  ⟨(some 61), none, .bin .sub (.t 59) (.t 60)⟩,
  ⟨(some 62), none, .bin .eql (.t 61) (.v (.int .i64 1))⟩]
theorem tr75_13 : TR Tryz.f75 177 13 = some a75_13 := by kernel_rfl
def a75_14 : List AO := [⟨(some 63), none, .mv (.t 1)⟩,
  ⟨(some 12), none, .mv (.t 63)⟩]
theorem tr75_14 : TR Tryz.f75 177 14 = some a75_14 := by kernel_rfl
def a75_15 : List AO := [⟨(some 64), none, .mv (.t 2)⟩,
  ⟨(some 13), none, .mv (.t 64)⟩]
theorem tr75_15 : TR Tryz.f75 177 15 = some a75_15 := by kernel_rfl
def a75_16 : List AO := [⟨(some 65), none, .mv (.t 12)⟩,
  ⟨(some 66), none, .mv (.t 13)⟩,
  ⟨(some 67), none, .bin .lss (.t 65) (.t 66)⟩]
theorem tr75_16 : TR Tryz.f75 177 16 = some a75_16 := by kernel_rfl
def a75_17 : List AO := [⟨(some 68), none, .mv (.t 12)⟩,
  ⟨(some 69), none, .mv (.t 13)⟩,
  ⟨(some 70), none, .bin .add (.t 68) (.t 69)⟩,
  ⟨(some 71), none, .conv .u64 (.t 70)⟩,
  ⟨(some 72), none, .bin .shr (.t 71) (.v (.int .u64 1))⟩,
  ⟨(some 73), none, .conv .i64 (.t 72)⟩,
  ⟨(some 14), none, .mv (.t 73)⟩]
theorem tr75_17 : TR Tryz.f75 177 17 = some a75_17 := by kernel_rfl
def a75_18 : List AO := [⟨(some 74), none, .fld 0 (.t 4)⟩,
  ⟨(some 75), none, .load none (.t 74)⟩,
  ⟨(some 76), none, .mv (.t 2)⟩,
  ⟨(some 77), none, .mv (.t 14)⟩,
  ⟨(some 78), none, .callv (.t 75) [(.t 76), (.t 77)]⟩,
  ⟨(some 79), none, .un .not (.t 78)⟩]
theorem tr75_18 : TR Tryz.f75 177 18 = some a75_18 := by kernel_rfl
def a75_19 : List AO := [⟨(some 80), none, .mv (.t 14)⟩,
  ⟨(some 81), none, .bin .add (.t 80) (.v (.int .i64 1))⟩,
  ⟨(some 12), none, .mv (.t 81)⟩]
theorem tr75_19 : TR Tryz.f75 177 19 = some a75_19 := by kernel_rfl
def a75_20 : List AO := [⟨(some 82), none, .mv (.t 14)⟩,
  ⟨(some 13), none, .mv (.t 82)⟩]
theorem tr75_20 : TR Tryz.f75 177 20 = some a75_20 := by kernel_rfl
def a75_21 : List AO := [⟨(some 83), none, .mv (.t 2)⟩,
  ⟨(some 15), none, .mv (.t 83)⟩]
theorem tr75_21 : TR Tryz.f75 177 21 = some a75_21 := by kernel_rfl
def a75_22 : List AO := [⟨(some 84), none, .mv (.t 15)⟩,
  ⟨(some 85), none, .mv (.t 12)⟩,
  ⟨(some 86), none, .bin .gtr (.t 84) (.t 85)⟩]
theorem tr75_22 : TR Tryz.f75 177 22 = some a75_22 := by kernel_rfl
def a75_24 : List AO := [⟨(some 89), none, .fld 1 (.t 4)⟩,
  ⟨(some 90), none, .load none (.t 89)⟩,
  ⟨(some 91), none, .mv (.t 15)⟩,
  ⟨(some 92), none, .mv (.t 15)⟩,
  ⟨(some 93), none, .bin .sub (.t 92) (.v (.int .i64 1))⟩,
  ⟨(some 94), none, .callv (.t 90) [(.t 91), (.t 93)]⟩]
theorem tr75_24 : TR Tryz.f75 177 24 = some a75_24 := by kernel_rfl
def a75_23 : List AO := [⟨(some 87), none, .mv (.t 15)⟩,
  ⟨(some 88), none, .bin .sub (.t 87) (.v (.int .i64 1))⟩,
  ⟨(some 15), none, .mv (.t 88)⟩]
theorem tr75_23 : TR Tryz.f75 177 23 = some a75_23 := by kernel_rfl
def a75_25 : List AO := [⟨(some 95), none, .mv (.t 1)⟩,
  ⟨(some 96), none, .mv (.t 3)⟩,
  ⟨(some 97), none, .bin .add (.t 95) (.t 96)⟩,
  ⟨(some 98), none, .conv .u64 (.t 97)⟩,
  ⟨(some 99), none, .bin .shr (.t 98) (.v (.int .u64 1))⟩,
  ⟨(some 100), none, .conv .i64 (.t 99)⟩,
  ⟨(some 16), none, .mv (.t 100)⟩]
theorem tr75_25 : TR Tryz.f75 177 25 = some a75_25 := by kernel_rfl
def a75_26 : List AO := [⟨(some 101), none, .mv (.t 16)⟩,
  ⟨(some 102), none, .mv (.t 2)⟩,
  ⟨(some 103), none, .bin .add (.t 101) (.t 102)⟩,
  ⟨(some 17), none, .mv (.t 103)⟩]
theorem tr75_26 : TR Tryz.f75 177 26 = some a75_26 := by kernel_rfl
def a75_27 : List AO := [⟨(some 18), none, .mv (.v (.int .i64 0))⟩,
  ⟨(some 19), none, .mv (.v (.int .i64 0))⟩]
theorem tr75_27 : TR Tryz.f75 177 27 = some a75_27 := by kernel_rfl
def a75_28 : List AO := [⟨(some 104), none, .mv (.t 2)⟩,
  ⟨(some 105), none, .mv (.t 16)⟩,
  ⟨(some 106), none, .bin .gtr (.t 104) (.t 105)⟩]
theorem tr75_28 : TR Tryz.f75 177 28 = some a75_28 := by kernel_rfl
def a75_29 : List AO := [⟨(some 107), none, .mv (.t 17)⟩,
  ⟨(some 108), none, .mv (.t 3)⟩,
  ⟨(some 109), none, .bin .sub (.t 107) (.t 108)⟩,
  ⟨(some 18), none, .mv (.t 109)⟩]
theorem tr75_29 : TR Tryz.f75 177 29 = some a75_29 := by kernel_rfl
def a75_30 : List AO := [⟨(some 110), none, .mv (.t 16)⟩,
  ⟨(some 19), none, .mv (.t 110)⟩]
theorem tr75_30 : TR Tryz.f75 177 30 = some a75_30 := by kernel_rfl
def a75_31 : List AO := [⟨(some 111), none, .mv (.t 1)⟩,
  ⟨(some 18), none, .mv (.t 111)⟩]
theorem tr75_31 : TR Tryz.f75 177 31 = some a75_31 := by kernel_rfl
def a75_32 : List AO := [⟨(some 112), none, .mv (.t 2)⟩,
  ⟨(some 19), none, .mv (.t 112)⟩]
theorem tr75_32 : TR Tryz.f75 177 32 = some a75_32 := by kernel_rfl
def a75_33 : List AO := [⟨(some 113), none, .mv (.t 17)⟩,
  ⟨(some 114), none, .bin .sub (.t 113) (.v (.int .i64 1))⟩,
  ⟨(some 20), none, .mv (.t 114)⟩]
theorem tr75_33 : TR Tryz.f75 177 33 = some a75_33 := by kernel_rfl
def a75_34 : List AO := [⟨(some 115), none, .mv (.t 18)⟩,
  ⟨(some 116), none, .mv (.t 19)⟩,
  ⟨(some 117), none, .bin .lss (.t 115) (.t 116)⟩]
theorem tr75_34 : TR Tryz.f75 177 34 = some a75_34 := by kernel_rfl
def a75_35 : List AO := [⟨(some 118), none, .mv (.t 18)⟩,
  ⟨(some 119), none, .mv (.t 19)⟩,
  ⟨(some 120), none, .bin .add (.t 118) (.t 119)⟩,
  ⟨(some 121), none, .conv .u64 (.t 120)⟩,
  ⟨(some 122), none, .bin .shr (.t 121) (.v (.int .u64 1))⟩,
  ⟨(some 123), none, .conv .i64 (.t 122)⟩,
  ⟨(some 21), none, .mv (.t 123)⟩]
theorem tr75_35 : TR Tryz.f75 177 35 = some a75_35 := by kernel_rfl
def a75_36 : List AO := [⟨(some 124), none, .fld 0 (.t 4)⟩,
  ⟨(some 125), none, .load none (.t 124)⟩,
  ⟨(some 126), none, .mv (.t 20)⟩,
  ⟨(some 127), none, .mv (.t 21)⟩,
  ⟨(some 128), none, .bin .sub (.t 126) (.t 127)⟩,
  ⟨(some 129), none, .mv (.t 21)⟩,
  ⟨(some 130), none, .callv (.t 125) [(.t 128), (.t 129)]⟩,
  ⟨(some 131), none, .un .not (.t 130)⟩]
theorem tr75_36 : TR Tryz.f75 177 36 = some a75_36 := by kernel_rfl
def a75_37 : List AO := [⟨(some 132), none, .mv (.t 21)⟩,
  ⟨(some 133), none, .bin .add (.t 132) (.v (.int .i64 1))⟩,
  ⟨(some 18), none, .mv (.t 133)⟩]
theorem tr75_37 : TR Tryz.f75 177 37 = some a75_37 := by kernel_rfl
def a75_38 : List AO := [⟨(some 134), none, .mv (.t 21)⟩,
  ⟨(some 19), none, .mv (.t 134)⟩]
theorem tr75_38 : TR Tryz.f75 177 38 = some a75_38 := by kernel_rfl
def a75_39 : List AO := [⟨(some 135), none, .mv (.t 17)⟩,
  ⟨(some 136), none, .mv (.t 18)⟩,
  ⟨(some 137), none, .bin .sub (.t 135) (.t 136)⟩,
  ⟨(some 22), none, .mv (.t 137)⟩]
theorem tr75_39 : TR Tryz.f75 177 39 = some a75_39 := by kernel_rfl
def a75_40 : List AO := [⟨(some 138), none, .mv (.t 18)⟩,
  ⟨(some 139), none, .mv (.t 2)⟩,
  ⟨(some 140), none, .bin .lss (.t 138) (.t 139)⟩,
  ⟨(some 141), none, .mv (.t 140)⟩,
  ⟨(some 142), some (141, true), .mv (.t 2)⟩,
  ⟨(some 143), some (141, true), .mv (.t 22)⟩,
  ⟨(some 144), some (141, true), .bin .lss (.t 142) (.t 143)⟩,
  ⟨(some 145), none, .pick (.t 141) (.t 144) (.v (.bool false))⟩]
theorem tr75_40 : TR Tryz.f75 177 40 = some a75_40 := by kernel_rfl
def a75_41 : List AO := [⟨(some 146), none, .load (some 2) (.t 4)⟩,
  ⟨(some 147), none, .mv (.t 18)⟩,
  ⟨(some 148), none, .mv (.t 2)⟩,
  ⟨(some 149), none, .mv (.t 22)⟩,
  ⟨(some 150), none, .call 81 [(.t 146), (.t 147), (.t 148), (.t 149)]⟩]
theorem tr75_41 : TR Tryz.f75 177 41 = some a75_41 := by kernel_rfl
def a75_42 : List AO := [⟨(some 151), none, .mv (.t 1)⟩,
  ⟨(some 152), none, .mv (.t 18)⟩,
  ⟨(some 153), none, .bin .lss (.t 151) (.t 152)⟩,
  ⟨(some 154), none, .mv (.t 153)⟩,
  ⟨(some 155), some (154, true), .mv (.t 18)⟩,
  ⟨(some 156), some (154, true), .mv (.t 16)⟩,
  ⟨(some 157), some (154, true), .bin .lss (.t 155) (.t 156)⟩,
  ⟨(some 158), none, .pick (.t 154) (.t 157) (.v (.bool false))⟩]
theorem tr75_42 : TR Tryz.f75 177 42 = some a75_42 := by kernel_rfl
def a75_43 : List AO := [⟨(some 159), none, .load (some 2) (.t 4)⟩,
  ⟨(some 160), none, .mv (.t 1)⟩,
  ⟨(some 161), none, .mv (.t 18)⟩,
  ⟨(some 162), none, .mv (.t 16)⟩,
  ⟨(some 163), none, .call 75 [(.t 159), (.t 160), (.t 161), (.t 162)]⟩]
theorem tr75_43 : TR Tryz.f75 177 43 = some a75_43 := by kernel_rfl
def a75_44 : List AO := [⟨(some 164), none, .mv (.t 16)⟩,
  ⟨(some 165), none, .mv (.t 22)⟩,
  ⟨(some 166), none, .bin .lss (.t 164) (.t 165)⟩,
  ⟨(some 167), none, .mv (.t 166)⟩,
  ⟨(some 168), some (167, true), .mv (.t 22)⟩,
  ⟨(some 169), some (167, true), .mv (.t 3)⟩,
  ⟨(some 170), some (167, true), .bin .lss (.t 168) (.t 169)⟩,
  ⟨(some 171), none, .pick (.t 167) (.t 170) (.v (.bool false))⟩]
theorem tr75_44 : TR Tryz.f75 177 44 = some a75_44 := by kernel_rfl
def a75_45 : List AO := [⟨(some 172), none, .load (some 2) (.t 4)⟩,
  ⟨(some 173), none, .mv (.t 16)⟩,
  ⟨(some 174), none, .mv (.t 22)⟩,
  ⟨(some 175), none, .mv (.t 3)⟩,
  ⟨(some 176), none, .call 75 [(.t 172), (.t 173), (.t 174), (.t 175)]⟩]
theorem tr75_45 : TR Tryz.f75 177 45 = some a75_45 := by kernel_rfl
/-- airline/airlineref01.upper -/
noncomputable def c76 : Code := .seq (.region 0 (ro Tryz.f76 0) false) (.seq (.region 1 (ro Tryz.f76 1) false) (.ret))
theorem body76 : Tryz.f76.body = some c76 := by kernel_rfl
theorem res76 : Tryz.f76.results.toList.mapM (trR Tryz.prog) = some [.t 2] := by kernel_rfl
theorem nt76 : Tryz.f76.ntmps = 9 := by kernel_rfl
theorem nm76 : (Tryz.f76.name == "runtime.NumGoroutine") = false := by kernel_rfl
def a76_0 : List AO := [⟨(some 2), none, .mv (.v (.bool false))⟩]
theorem tr76_0 : TR Tryz.f76 9 0 = some a76_0 := by kernel_rfl
def a76_1 : List AO := [⟨(some 3), none, .mv (.t 0)⟩,
  ⟨(some 4), none, .bin .geq (.t 3) (.v (.int .u8 65))⟩,
  ⟨(some 5), none, .mv (.t 4)⟩,
  ⟨(some 6), some (5, true), .mv (.t 0)⟩,
  ⟨(some 7), some (5, true), .bin .leq (.t 6) (.v (.int .u8 90))⟩,
  ⟨(some 8), none, .pick (.t 5) (.t 7) (.v (.bool false))⟩,
  ⟨(some 2), none, .mv (.t 8)⟩]
theorem tr76_1 : TR Tryz.f76 9 1 = some a76_1 := by kernel_rfl
/-- sort.rotate_func -/
noncomputable def c81 : Code := .seq (.region 0 (ro Tryz.f81 0) false) (.seq (.region 1 (ro Tryz.f81 1) false) (.seq (.region 2 (ro Tryz.f81 2) false) (.seq (.block 0 (.loop (.seq (.seq (.region 3 (ro Tryz.f81 3) false) (.cond (.tmp 18) (.skip) (.exit 0))) (.block 1 (.seq (.region 4 (ro Tryz.f81 4) false) (.cond (.tmp 21) (.seq (.region 5 (ro Tryz.f81 5) false) (.region 6 (ro Tryz.f81 6) false)) (.seq (.region 7 (ro Tryz.f81 7) false) (.region 8 (ro Tryz.f81 8) false)))))))) (.region 9 (ro Tryz.f81 9) false))))
theorem body81 : Tryz.f81.body = some c81 := by kernel_rfl
theorem res81 : Tryz.f81.results.toList.mapM (trR Tryz.prog) = some [] := by kernel_rfl
theorem nt81 : Tryz.f81.ntmps = 53 := by kernel_rfl
theorem nm81 : (Tryz.f81.name == "runtime.NumGoroutine") = false := by kernel_rfl
def a81_0 : List AO := [⟨(some 4), none, .box 126 (.t 0)⟩]
theorem tr81_0 : TR Tryz.f81 53 0 = some a81_0 := by kernel_rfl
def a81_1 : List AO := [⟨(some 10), none, .mv (.t 2)⟩,
  ⟨(some 11), none, .mv (.t 1)⟩,
  ⟨(some 12), none, .bin .sub (.t 10) (.t 11)⟩,
  ⟨(some 8), none, .mv (.t 12)⟩]
theorem tr81_1 : TR Tryz.f81 53 1 = some a81_1 := by kernel_rfl
def a81_2 : List AO := [⟨(some 13), none, .mv (.t 3)⟩,
  ⟨(some 14), none, .mv (.t 2)⟩,
  ⟨(some 15), none, .bin .sub (.t 13) (.t 14)⟩,
  ⟨(some 9), none, .mv (.t 15)⟩]
theorem tr81_2 : TR Tryz.f81 53 2 = some a81_2 := by kernel_rfl
def a81_3 : List AO := [⟨(some 16), none, .mv (.t 8)⟩,
  ⟨(some 17), none, .mv (.t 9)⟩,
  ⟨(some 18), none, .bin .neq (.t 16) (.t 17)⟩]
theorem tr81_3 : TR Tryz.f81 53 3 = some a81_3 := by kernel_rfl
def a81_4 : List AO := [⟨(some 19), none, .mv (.t 8)⟩,
  ⟨(some 20), none, .mv (.t 9)⟩,
  ⟨(some 21), none, .bin .gtr (.t 19) (.t 20)⟩]
theorem tr81_4 : TR Tryz.f81 53 4 = some a81_4 := by kernel_rfl
def a81_5 : List AO := [⟨(some 22), none, .load (some 2) (.t 4)⟩,
  ⟨(some 23), none, .mv (.t 2)⟩,
  ⟨(some 24), none, .mv (.t 8)⟩,
  ⟨(some 25), none, .bin .sub (.t 23) (.t 24)⟩,
  ⟨(some 26), none, .mv (.t 2)⟩,
  ⟨(some 27), none, .mv (.t 9)⟩,
  ⟨(some 28), none, .call 92 [(.t 22), (.t 25), (.t 26), (.t 27)]⟩]
theorem tr81_5 : TR Tryz.f81 53 5 = some a81_5 := by kernel_rfl
def a81_6 : List AO := [⟨(some 29), none, .mv (.t 8)⟩,
  ⟨(some 30), none, .mv (.t 9)⟩,
  ⟨(some 31), none, .bin .sub (.t 29) (.t 30)⟩,
  ⟨(some 8), none, .mv (.t 31)⟩]
theorem tr81_6 : TR Tryz.f81 53 6 = some a81_6 := by kernel_rfl
def a81_7 : List AO := [⟨(some 32), none, .load (some 2) (.t 4)⟩,
  ⟨(some 33), none, .mv (.t 2)⟩,
  ⟨(some 34), none, .mv (.t 8)⟩,
  ⟨(some 35), none, .bin .sub (.t 33) (.t 34)⟩,
  ⟨(some 36), none, .mv (.t 2)⟩,
  ⟨(some 37), none, .mv (.t 9)⟩,
  ⟨(some 38), none, .bin .add (.t 36) (.t 37)⟩,
  ⟨(some 39), none, .mv (.t 8)⟩,
  ⟨(some 40), none, .bin .sub (.t 38) (.t 39)⟩,
  ⟨(some 41), none, .mv (.t 8)⟩,
  ⟨(some 42), none, .call 92 [(.t 32), (.t 35), (.t 40), (.t 41)]⟩]
theorem tr81_7 : TR Tryz.f81 53 7 = some a81_7 := by kernel_rfl
def a81_8 : List AO := [⟨(some 43), none, .mv (.t 9)⟩,
  ⟨(some 44), none, .mv (.t 8)⟩,
  ⟨(some 45), none, .bin .sub (.t 43) (.t 44)⟩,
  ⟨(some 9), none, .mv (.t 45)⟩]
theorem tr81_8 : TR Tryz.f81 53 8 = some a81_8 := by kernel_rfl
def a81_9 : List AO := [⟨(some 46), none, .load (some 2) (.t 4)⟩,
  ⟨(some 47), none, .mv (.t 2)⟩,
  ⟨(some 48), none, .mv (.t 8)⟩,
  ⟨(some 49), none, .bin .sub (.t 47) (.t 48)⟩,
  ⟨(some 50), none, .mv (.t 2)⟩,
  ⟨(some 51), none, .mv (.t 8)⟩,
  ⟨(some 52), none, .call 92 [(.t 46), (.t 49), (.t 50), (.t 51)]⟩]
theorem tr81_9 : TR Tryz.f81 53 9 = some a81_9 := by kernel_rfl
/-- sort.swapRange_func -/
noncomputable def c92 : Code := .seq (.region 0 (ro Tryz.f92 0) false) (.seq (.region 1 (ro Tryz.f92 1) false) (.block 0 (.loop (.seq (.seq (.region 2 (ro Tryz.f92 2) false) (.cond (.tmp 11) (.skip) (.exit 0))) (.seq (.block 1 (.region 4 (ro Tryz.f92 4) false)) (.region 3 (ro Tryz.f92 3) false))))))
theorem body92 : Tryz.f92.body = some c92 := by kernel_rfl
theorem res92 : Tryz.f92.results.toList.mapM (trR Tryz.prog) = some [] := by kernel_rfl
theorem nt92 : Tryz.f92.ntmps = 23 := by kernel_rfl
theorem nm92 : (Tryz.f92.name == "runtime.NumGoroutine") = false := by kernel_rfl
def a92_0 : List AO := [⟨(some 4), none, .box 126 (.t 0)⟩]
theorem tr92_0 : TR Tryz.f92 23 0 = some a92_0 := by kernel_rfl
def a92_1 : List AO := [⟨(some 8), none, .mv (.v (.int .i64 0))⟩]
theorem tr92_1 : TR Tryz.f92 23 1 = some a92_1 := by kernel_rfl
def a92_2 : List AO := [⟨(some 9), none, .mv (.t 8)⟩,
  ⟨(some 10), none, .mv (.t 3)⟩,
  ⟨(some 11), none, .bin .lss (.t 9) (.t 10)⟩]
theorem tr92_2 : TR Tryz.f92 23 2 = some a92_2 := by kernel_rfl
def a92_4 : List AO := [⟨(some 14), none, .fld 1 (.t 4)⟩,
  ⟨(some 15), none, .load none (.t 14)⟩,
  ⟨(some 16), none, .mv (.t 1)⟩,
  ⟨(some 17), none, .mv (.t 8)⟩,
  ⟨(some 18), none, .bin .add (.t 16) (.t 17)⟩,
  ⟨(some 19), none, .mv (.t 2)⟩,
  ⟨(some 20), none, .mv (.t 8)⟩,
  ⟨(some 21), none, .bin .add (.t 19) (.t 20)⟩,
  ⟨(some 22), none, .callv (.t 15) [(.t 18), (.t 21)]⟩]
theorem tr92_4 : TR Tryz.f92 23 4 = some a92_4 := by kernel_rfl
def a92_3 : List AO := [⟨(some 12), none, .mv (.t 8)⟩,
  ⟨(some 13), none, .bin .add (.t 12) (.v (.int .i64 1))⟩,
  ⟨(some 8), none, .mv (.t 13)⟩]
theorem tr92_3 : TR Tryz.f92 23 3 = some a92_3 := by kernel_rfl
end Go.Proofs.YtfjgnfgadkajnaaGreat
