/- The code of the functions, region by region, as abstract operations. -/
import Derived.Test.YtbakkdnhbeldcaaDoorCoa
namespace Go.Proofs.YtbakkdnhbeldcaaDoor
open Go Go.RowKit
/-- strings.explode -/
noncomputable def c68 : Code := .seq (.region 0 (ro Tryd.f68 0) false) (.seq (.region 1 (ro Tryd.f68 1) false) (.seq (.seq (.region 2 (ro Tryd.f68 2) false) (.cond (.tmp 18) (.region 3 (ro Tryd.f68 3) false) (.skip))) (.seq (.region 4 (ro Tryd.f68 4) false) (.seq (.seq (.region 5 (ro Tryd.f68 5) false) (.block 0 (.loop (.seq (.seq (.region 6 (ro Tryd.f68 6) false) (.cond (.tmp 25) (.skip) (.exit 0))) (.seq (.block 1 (.seq (.region 8 (ro Tryd.f68 8) false) (.seq (.region 9 (ro Tryd.f68 9) false) (.region 10 (ro Tryd.f68 10) false)))) (.region 7 (ro Tryd.f68 7) false)))))) (.seq (.seq (.region 11 (ro Tryd.f68 11) false) (.cond (.tmp 43) (.region 12 (ro Tryd.f68 12) false) (.skip))) (.seq (.region 13 (ro Tryd.f68 13) false) (.ret)))))))
theorem body68 : Tryd.f68.body = some c68 := by kernel_rfl
theorem res68 : Tryd.f68.results.toList.mapM (trR Tryd.prog) = some [.t 4] := by kernel_rfl
theorem nt68 : Tryd.f68.ntmps = 50 := by kernel_rfl
theorem nm68 : (Tryd.f68.name == "runtime.NumGoroutine") = false := by kernel_rfl
def a68_0 : List AO := [⟨(some 4), none, .mv (.v .nils)⟩]
theorem tr68_0 : (ro Tryd.f68 0).toList.mapM (trO Tryd.prog 50 (ro Tryd.f68 0)) = some a68_0 := by kernel_rfl
def a68_1 : List AO := [⟨(some 10), none, .mv (.t 0)⟩,
  ⟨(some 11), none, .call 46 [(.t 10)]⟩,
  ⟨(some 5), none, .mv (.t 11)⟩]
theorem tr68_1 : (ro Tryd.f68 1).toList.mapM (trO Tryd.prog 50 (ro Tryd.f68 1)) = some a68_1 := by kernel_rfl
def a68_2 : List AO := [⟨(some 12), none, .mv (.t 1)⟩,
  ⟨(some 13), none, .bin .lss (.t 12) (.v (.int .i64 0))⟩,
  ⟨(some 14), none, .mv (.t 13)⟩,
  ⟨(some 15), some (14, false), .mv (.t 1)⟩,
  ⟨(some 16), some (14, false), .mv (.t 5)⟩,
  ⟨(some 17), some (14, false), .bin .gtr (.t 15) (.t 16)⟩,
  ⟨(some 18), none, .pick (.t 14) (.v (.bool true)) (.t 17)⟩]
theorem tr68_2 : (ro Tryd.f68 2).toList.mapM (trO Tryd.prog 50 (ro Tryd.f68 2)) = some a68_2 := by kernel_rfl
def a68_3 : List AO := [⟨(some 19), none, .mv (.t 5)⟩,
  ⟨(some 1), none, .mv (.t 19)⟩]
theorem tr68_3 : (ro Tryd.f68 3).toList.mapM (trO Tryd.prog 50 (ro Tryd.f68 3)) = some a68_3 := by kernel_rfl
def a68_4 : List AO := [⟨(some 20), none, .mv (.t 1)⟩,
  ⟨(some 21), none, .mks 9 1 16 [(.str [])] (.t 20) (.t 20)⟩,
  ⟨(some 6), none, .mv (.t 21)⟩]
theorem tr68_4 : (ro Tryd.f68 4).toList.mapM (trO Tryd.prog 50 (ro Tryd.f68 4)) = some a68_4 := by kernel_rfl
def a68_5 : List AO := [⟨(some 7), none, .mv (.v (.int .i64 0))⟩]
theorem tr68_5 : (ro Tryd.f68 5).toList.mapM (trO Tryd.prog 50 (ro Tryd.f68 5)) = some a68_5 := by kernel_rfl
def a68_6 : List AO := [⟨(some 22), none, .mv (.t 7)⟩,
  ⟨(some 23), none, .mv (.t 1)⟩,
  ⟨(some 24), none, .bin .sub (.t 23) (.v (.int .i64 1))⟩,
  ⟨(some 25), none, .bin .lss (.t 22) (.t 24)⟩]
theorem tr68_6 : (ro Tryd.f68 6).toList.mapM (trO Tryd.prog 50 (ro Tryd.f68 6)) = some a68_6 := by kernel_rfl
def a68_8 : List AO := [⟨(some 29), none, .mv (.t 0)⟩,
  ⟨(some 30), none, .call 75 [(.t 29)]⟩,
  ⟨(some 28), none, .mv (.t 30)⟩,
  ⟨(some 31), none, .ext 0 (.t 28)⟩,
  ⟨(some 32), none, .ext 1 (.t 28)⟩,
  ⟨(some 8), none, .mv (.t 31)⟩,
  ⟨(some 9), none, .mv (.t 32)⟩]
theorem tr68_8 : (ro Tryd.f68 8).toList.mapM (trO Tryd.prog 50 (ro Tryd.f68 8)) = some a68_8 := by kernel_rfl
def a68_9 : List AO := [⟨(some 33), none, .mv (.t 6)⟩,
  ⟨(some 34), none, .mv (.t 7)⟩,
  ⟨(some 35), none, .mv (.t 0)⟩,
  ⟨(some 36), none, .mv (.t 9)⟩,
  ⟨(some 37), none, .ssub none (some (.t 36)) (.t 35)⟩,
  ⟨(some 38), none, .idx 1 (.t 33) (.t 34)⟩,
  ⟨none, none, .store 1 (.t 38) (.t 37)⟩]
theorem tr68_9 : (ro Tryd.f68 9).toList.mapM (trO Tryd.prog 50 (ro Tryd.f68 9)) = some a68_9 := by kernel_rfl
def a68_10 : List AO := [⟨(some 39), none, .mv (.t 0)⟩,
  ⟨(some 40), none, .mv (.t 9)⟩,
  ⟨(some 41), none, .ssub (some (.t 40)) none (.t 39)⟩,
  ⟨(some 0), none, .mv (.t 41)⟩]
theorem tr68_10 : (ro Tryd.f68 10).toList.mapM (trO Tryd.prog 50 (ro Tryd.f68 10)) = some a68_10 := by kernel_rfl
def a68_7 : List AO := [⟨(some 26), none, .mv (.t 7)⟩,
  ⟨(some 27), none, .bin .add (.t 26) (.v (.int .i64 1))⟩,
  ⟨(some 7), none, .mv (.t 27)⟩]
theorem tr68_7 : (ro Tryd.f68 7).toList.mapM (trO Tryd.prog 50 (ro Tryd.f68 7)) = some a68_7 := by kernel_rfl
def a68_11 : List AO := [⟨(some 42), none, .mv (.t 1)⟩,
  ⟨(some 43), none, .bin .gtr (.t 42) (.v (.int .i64 0))⟩]
theorem tr68_11 : (ro Tryd.f68 11).toList.mapM (trO Tryd.prog 50 (ro Tryd.f68 11)) = some a68_11 := by kernel_rfl
def a68_12 : List AO := [⟨(some 44), none, .mv (.t 6)⟩,
  ⟨(some 45), none, .mv (.t 1)⟩,
  ⟨(some 46), none, .bin .sub (.t 45) (.v (.int .i64 1))⟩,
  ⟨(some 47), none, .mv (.t 0)⟩,
  ⟨(some 48), none, .idx 1 (.t 44) (.t 46)⟩,
  ⟨none, none, .store 1 (.t 48) (.t 47)⟩]
theorem tr68_12 : (ro Tryd.f68 12).toList.mapM (trO Tryd.prog 50 (ro Tryd.f68 12)) = some a68_12 := by kernel_rfl
def a68_13 : List AO := [⟨(some 49), none, .mv (.t 6)⟩,
  ⟨(some 4), none, .mv (.t 49)⟩]
theorem tr68_13 : (ro Tryd.f68 13).toList.mapM (trO Tryd.prog 50 (ro Tryd.f68 13)) = some a68_13 := by kernel_rfl
end Go.Proofs.YtbakkdnhbeldcaaDoor
