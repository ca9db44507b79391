/- The code of the functions, region by region, as abstract operations. -/
import Derived.Test.YtajobknfhbnjcaaProg
import Derived.Test.YtajobknfhbnjcaaAv21
namespace Go.Proofs.Ytajobknfhbnjcaa
open Go Go.RowKit
def findR : Code → Nat → Option (Array Oper)
  | .region i ops _, k => if i = k then some ops else none
  | .seq a b, k => (findR a k).or (findR b k)
  | .cond _ a b, k => (findR a k).or (findR b k)
  | .block _ c, k => findR c k
  | .loop c, k => findR c k
  | .scope c, k => findR c k
  | _, _ => none
def ro (f : Func) (k : Nat) : Array Oper := ((f.body.bind fun c => findR c k).getD #[])
theorem mixed : Try.prog.follows .mixedOrders = true := by kernel_rfl
/-- airline/airlinelaw54.SettleNets -/
noncomputable def c3 : Code := .seq (.region 0 (ro Try.f3 0) false) (.seq (.seq (.region 1 (ro Try.f3 1) false) (.cond (.tmp 11) (.seq (.region 2 (ro Try.f3 2) false) (.ret)) (.skip))) (.seq (.region 3 (ro Try.f3 3) false) (.seq (.region 4 (ro Try.f3 4) false) (.seq (.seq (.region 5 (ro Try.f3 5) false) (.cond (.tmp 31) (.seq (.region 6 (ro Try.f3 6) false) (.ret)) (.skip))) (.seq (.region 7 (ro Try.f3 7) false) (.seq (.seq (.region 8 (ro Try.f3 8) false) (.block 0 (.loop (.seq (.seq (.region 9 (ro Try.f3 9) false) (.cond (.tmp 35) (.skip) (.exit 0))) (.seq (.block 1 (.region 11 (ro Try.f3 11) false)) (.region 10 (ro Try.f3 10) false)))))) (.seq (.region 12 (ro Try.f3 12) false) (.ret))))))))
theorem body3 : Try.f3.body = some c3 := by kernel_rfl
theorem res3 : Try.f3.results.toList.mapM (trR Try.prog) = some [.t 2] := by kernel_rfl
theorem nt3 : Try.f3.ntmps = 50 := by kernel_rfl
theorem nm3 : (Try.f3.name == "runtime.NumGoroutine") = false := by kernel_rfl
def a3_0 : List AO := [⟨(some 2), none, .mv (.v (.bool false))⟩]
theorem tr3_0 : (ro Try.f3 0).toList.mapM (trO Try.prog 50 (ro Try.f3 0)) = some a3_0 := by kernel_rfl
def a3_1 : List AO := [⟨(some 9), none, .mv (.t 0)⟩,
  ⟨(some 10), none, .len (.t 9)⟩,
  ⟨(some 11), none, .bin .gtr (.t 10) (.v (.int .i64 80))⟩]
theorem tr3_1 : (ro Try.f3 1).toList.mapM (trO Try.prog 50 (ro Try.f3 1)) = some a3_1 := by kernel_rfl
def a3_2 : List AO := [⟨(some 12), none, .call 8 []⟩,
  ⟨(some 2), none, .mv (.t 12)⟩]
theorem tr3_2 : (ro Try.f3 2).toList.mapM (trO Try.prog 50 (ro Try.f3 2)) = some a3_2 := by kernel_rfl
def a3_3 : List AO := [⟨(some 14), none, .mv (.t 0)⟩,
  ⟨(some 15), none, .call 9 [(.t 14)]⟩,
  ⟨(some 13), none, .mv (.t 15)⟩,
  ⟨(some 16), none, .ext 0 (.t 13)⟩,
  ⟨(some 17), none, .ext 1 (.t 13)⟩,
  ⟨(some 3), none, .mv (.t 16)⟩,
  ⟨(some 4), none, .mv (.t 17)⟩]
theorem tr3_3 : (ro Try.f3 3).toList.mapM (trO Try.prog 50 (ro Try.f3 3)) = some a3_3 := by kernel_rfl
def a3_4 : List AO := [⟨(some 19), none, .mv (.t 0)⟩,
  ⟨(some 20), none, .call 10 [(.t 19)]⟩,
  ⟨(some 18), none, .mv (.t 20)⟩,
  ⟨(some 21), none, .ext 0 (.t 18)⟩,
  ⟨(some 22), none, .ext 1 (.t 18)⟩,
  ⟨(some 5), none, .mv (.t 21)⟩,
  ⟨(some 6), none, .mv (.t 22)⟩]
theorem tr3_4 : (ro Try.f3 4).toList.mapM (trO Try.prog 50 (ro Try.f3 4)) = some a3_4 := by kernel_rfl
def a3_5 : List AO := [⟨(some 23), none, .mv (.t 3)⟩,
  ⟨(some 24), none, .mv (.t 5)⟩,
  ⟨(some 25), none, .call 11 [(.t 23), (.t 24)]⟩,
  ⟨(some 26), none, .un .not (.t 25)⟩,
  ⟨(some 27), none, .mv (.t 26)⟩,
  ⟨(some 28), some (27, false), .mv (.t 4)⟩,
  ⟨(some 29), some (27, false), .mv (.t 6)⟩,
  ⟨(some 30), some (27, false), .bin .neq (.t 28) (.t 29)⟩,
  ⟨(some 31), none, .pick (.t 27) (.v (.bool true)) (.t 30)⟩]
theorem tr3_5 : (ro Try.f3 5).toList.mapM (trO Try.prog 50 (ro Try.f3 5)) = some a3_5 := by kernel_rfl
def a3_6 : List AO := [⟨(some 2), none, .mv (.v (.bool false))⟩]
theorem tr3_6 : (ro Try.f3 6).toList.mapM (trO Try.prog 50 (ro Try.f3 6)) = some a3_6 := by kernel_rfl
def a3_7 : List AO := [⟨(some 7), none, .mv (.v (.int .i64 0))⟩]
theorem tr3_7 : (ro Try.f3 7).toList.mapM (trO Try.prog 50 (ro Try.f3 7)) = some a3_7 := by kernel_rfl
def a3_8 : List AO := [⟨(some 8), none, .mv (.v (.int .i64 0))⟩]
theorem tr3_8 : (ro Try.f3 8).toList.mapM (trO Try.prog 50 (ro Try.f3 8)) = some a3_8 := by kernel_rfl
def a3_9 : List AO := [⟨(some 32), none, .mv (.t 8)⟩,
  ⟨(some 33), none, .mv (.t 3)⟩,
  ⟨(some 34), none, .len (.t 33)⟩,
  ⟨(some 35), none, .bin .lss (.t 32) (.t 34)⟩]
theorem tr3_9 : (ro Try.f3 9).toList.mapM (trO Try.prog 50 (ro Try.f3 9)) = some a3_9 := by kernel_rfl
def a3_11 : List AO := [⟨(some 38), none, .mv (.t 7)⟩,
  ⟨(some 39), none, .mv (.t 3)⟩,
  ⟨(some 40), none, .mv (.t 8)⟩,
  ⟨(some 41), none, .idx 2 (.t 39) (.t 40)⟩,
  ⟨(some 42), none, .fld 1 (.t 41)⟩,
  ⟨(some 43), none, .load none (.t 42)⟩,
  ⟨(some 44), none, .bin .add (.t 38) (.t 43)⟩,
  ⟨(some 7), none, .mv (.t 44)⟩]
theorem tr3_11 : (ro Try.f3 11).toList.mapM (trO Try.prog 50 (ro Try.f3 11)) = some a3_11 := by kernel_rfl
def a3_10 : List AO := [⟨(some 36), none, .mv (.t 8)⟩,
  ⟨(some 37), none, .bin .add (.t 36) (.v (.int .i64 1))⟩,
  ⟨(some 8), none, .mv (.t 37)⟩]
theorem tr3_10 : (ro Try.f3 10).toList.mapM (trO Try.prog 50 (ro Try.f3 10)) = some a3_10 := by kernel_rfl
def a3_12 : List AO := [⟨(some 45), none, .mv (.t 7)⟩,
  ⟨(some 46), none, .bin .eql (.t 45) (.v (.int .i64 0))⟩,
  ⟨(some 47), none, .mv (.t 46)⟩,
  ⟨(some 48), some (47, true), .call 8 []⟩,
  ⟨(some 49), none, .pick (.t 47) (.t 48) (.v (.bool false))⟩,
  ⟨(some 2), none, .mv (.t 49)⟩]
theorem tr3_12 : (ro Try.f3 12).toList.mapM (trO Try.prog 50 (ro Try.f3 12)) = some a3_12 := by kernel_rfl
/-- airline/airlinelaw54.SettleTransfers -/
noncomputable def c4 : Code := .seq (.region 0 (ro Try.f4 0) false) (.seq (.seq (.region 1 (ro Try.f4 1) false) (.cond (.tmp 9) (.seq (.region 2 (ro Try.f4 2) false) (.ret)) (.skip))) (.seq (.region 3 (ro Try.f4 3) false) (.seq (.region 4 (ro Try.f4 4) false) (.seq (.region 5 (ro Try.f4 5) false) (.ret)))))
theorem body4 : Try.f4.body = some c4 := by kernel_rfl
theorem res4 : Try.f4.results.toList.mapM (trR Try.prog) = some [.t 2] := by kernel_rfl
theorem nt4 : Try.f4.ntmps = 32 := by kernel_rfl
theorem nm4 : (Try.f4.name == "runtime.NumGoroutine") = false := by kernel_rfl
def a4_0 : List AO := [⟨(some 2), none, .mv (.v (.bool false))⟩]
theorem tr4_0 : (ro Try.f4 0).toList.mapM (trO Try.prog 32 (ro Try.f4 0)) = some a4_0 := by kernel_rfl
def a4_1 : List AO := [⟨(some 7), none, .mv (.t 0)⟩,
  ⟨(some 8), none, .len (.t 7)⟩,
  ⟨(some 9), none, .bin .gtr (.t 8) (.v (.int .i64 80))⟩]
theorem tr4_1 : (ro Try.f4 1).toList.mapM (trO Try.prog 32 (ro Try.f4 1)) = some a4_1 := by kernel_rfl
def a4_2 : List AO := [⟨(some 10), none, .call 8 []⟩,
  ⟨(some 2), none, .mv (.t 10)⟩]
theorem tr4_2 : (ro Try.f4 2).toList.mapM (trO Try.prog 32 (ro Try.f4 2)) = some a4_2 := by kernel_rfl
def a4_3 : List AO := [⟨(some 12), none, .mv (.t 0)⟩,
  ⟨(some 13), none, .call 12 [(.t 12)]⟩,
  ⟨(some 11), none, .mv (.t 13)⟩,
  ⟨(some 14), none, .ext 0 (.t 11)⟩,
  ⟨(some 15), none, .ext 1 (.t 11)⟩,
  ⟨(some 3), none, .mv (.t 14)⟩,
  ⟨(some 4), none, .mv (.t 15)⟩]
theorem tr4_3 : (ro Try.f4 3).toList.mapM (trO Try.prog 32 (ro Try.f4 3)) = some a4_3 := by kernel_rfl
def a4_4 : List AO := [⟨(some 17), none, .mv (.t 0)⟩,
  ⟨(some 18), none, .call 13 [(.t 17)]⟩,
  ⟨(some 16), none, .mv (.t 18)⟩,
  ⟨(some 19), none, .ext 0 (.t 16)⟩,
  ⟨(some 20), none, .ext 1 (.t 16)⟩,
  ⟨(some 5), none, .mv (.t 19)⟩,
  ⟨(some 6), none, .mv (.t 20)⟩]
theorem tr4_4 : (ro Try.f4 4).toList.mapM (trO Try.prog 32 (ro Try.f4 4)) = some a4_4 := by kernel_rfl
def a4_5 : List AO := [⟨(some 21), none, .mv (.t 3)⟩,
  ⟨(some 22), none, .mv (.t 5)⟩,
  ⟨(some 23), none, .call 14 [(.t 21), (.t 22)]⟩,
  ⟨(some 24), none, .mv (.t 23)⟩,
  ⟨(some 25), some (24, true), .mv (.t 4)⟩,
  ⟨(some 26), some (24, true), .mv (.t 6)⟩,
  ⟨(some 27), some (24, true), .bin .eql (.t 25) (.t 26)⟩,
  ⟨(some 28), none, .pick (.t 24) (.t 27) (.v (.bool false))⟩,
  ⟨(some 29), none, .mv (.t 28)⟩,
  ⟨(some 30), some (29, true), .call 8 []⟩,
  ⟨(some 31), none, .pick (.t 29) (.t 30) (.v (.bool false))⟩,
  ⟨(some 2), none, .mv (.t 31)⟩]
theorem tr4_5 : (ro Try.f4 5).toList.mapM (trO Try.prog 32 (ro Try.f4 5)) = some a4_5 := by kernel_rfl
/-- airline/airlinelaw54.SettleFew -/
noncomputable def c5 : Code := .seq (.region 0 (ro Try.f5 0) false) (.seq (.seq (.region 1 (ro Try.f5 1) false) (.cond (.tmp 11) (.seq (.region 2 (ro Try.f5 2) false) (.ret)) (.skip))) (.seq (.region 3 (ro Try.f5 3) false) (.seq (.seq (.region 4 (ro Try.f5 4) false) (.cond (.tmp 19) (.seq (.region 5 (ro Try.f5 5) false) (.ret)) (.skip))) (.seq (.region 6 (ro Try.f5 6) false) (.seq (.seq (.region 7 (ro Try.f5 7) false) (.block 0 (.loop (.seq (.seq (.region 8 (ro Try.f5 8) false) (.cond (.tmp 29) (.skip) (.exit 0))) (.seq (.block 1 (.seq (.region 10 (ro Try.f5 10) false) (.cond (.tmp 37) (.region 11 (ro Try.f5 11) false) (.skip)))) (.region 9 (ro Try.f5 9) false)))))) (.seq (.seq (.region 12 (ro Try.f5 12) false) (.cond (.tmp 45) (.seq (.region 13 (ro Try.f5 13) false) (.ret)) (.skip))) (.seq (.seq (.region 14 (ro Try.f5 14) false) (.block 2 (.loop (.seq (.seq (.region 15 (ro Try.f5 15) false) (.cond (.tmp 49) (.skip) (.exit 2))) (.seq (.block 3 (.seq (.seq (.region 17 (ro Try.f5 17) false) (.cond (.tmp 57) (.seq (.region 18 (ro Try.f5 18) false) (.ret)) (.skip))) (.seq (.region 19 (ro Try.f5 19) false) (.block 4 (.loop (.seq (.seq (.region 20 (ro Try.f5 20) false) (.cond (.tmp 61) (.skip) (.exit 4))) (.seq (.block 5 (.seq (.region 22 (ro Try.f5 22) true) (.cond (.tmp 74) (.seq (.region 23 (ro Try.f5 23) false) (.ret)) (.skip)))) (.region 21 (ro Try.f5 21) false)))))))) (.region 16 (ro Try.f5 16) false)))))) (.seq (.region 24 (ro Try.f5 24) false) (.ret)))))))))
theorem body5 : Try.f5.body = some c5 := by kernel_rfl
theorem res5 : Try.f5.results.toList.mapM (trR Try.prog) = some [.t 2] := by kernel_rfl
theorem nt5 : Try.f5.ntmps = 76 := by kernel_rfl
theorem nm5 : (Try.f5.name == "runtime.NumGoroutine") = false := by kernel_rfl
def a5_0 : List AO := [⟨(some 2), none, .mv (.v (.bool false))⟩]
theorem tr5_0 : (ro Try.f5 0).toList.mapM (trO Try.prog 76 (ro Try.f5 0)) = some a5_0 := by kernel_rfl
def a5_1 : List AO := [⟨(some 9), none, .mv (.t 0)⟩,
  ⟨(some 10), none, .len (.t 9)⟩,
  ⟨(some 11), none, .bin .gtr (.t 10) (.v (.int .i64 80))⟩]
theorem tr5_1 : (ro Try.f5 1).toList.mapM (trO Try.prog 76 (ro Try.f5 1)) = some a5_1 := by kernel_rfl
def a5_2 : List AO := [⟨(some 12), none, .call 8 []⟩,
  ⟨(some 2), none, .mv (.t 12)⟩]
theorem tr5_2 : (ro Try.f5 2).toList.mapM (trO Try.prog 76 (ro Try.f5 2)) = some a5_2 := by kernel_rfl
def a5_3 : List AO := [⟨(some 14), none, .mv (.t 0)⟩,
  ⟨(some 15), none, .call 12 [(.t 14)]⟩,
  ⟨(some 13), none, .mv (.t 15)⟩,
  ⟨(some 16), none, .ext 0 (.t 13)⟩,
  ⟨(some 17), none, .ext 1 (.t 13)⟩,
  ⟨(some 3), none, .mv (.t 16)⟩,
  ⟨(some 4), none, .mv (.t 17)⟩]
theorem tr5_3 : (ro Try.f5 3).toList.mapM (trO Try.prog 76 (ro Try.f5 3)) = some a5_3 := by kernel_rfl
def a5_4 : List AO := [⟨(some 18), none, .mv (.t 4)⟩,
  ⟨(some 19), none, .bin .neq (.t 18) (.v (.int .i64 0))⟩]
theorem tr5_4 : (ro Try.f5 4).toList.mapM (trO Try.prog 76 (ro Try.f5 4)) = some a5_4 := by kernel_rfl
def a5_5 : List AO := [⟨(some 20), none, .mv (.t 3)⟩,
  ⟨(some 21), none, .len (.t 20)⟩,
  ⟨(some 22), none, .bin .eql (.t 21) (.v (.int .i64 0))⟩,
  ⟨(some 23), none, .mv (.t 22)⟩,
  ⟨(some 24), some (23, true), .call 8 []⟩,
  ⟨(some 25), none, .pick (.t 23) (.t 24) (.v (.bool false))⟩,
  ⟨(some 2), none, .mv (.t 25)⟩]
theorem tr5_5 : (ro Try.f5 5).toList.mapM (trO Try.prog 76 (ro Try.f5 5)) = some a5_5 := by kernel_rfl
def a5_6 : List AO := [⟨(some 5), none, .mv (.v (.int .i64 0))⟩]
theorem tr5_6 : (ro Try.f5 6).toList.mapM (trO Try.prog 76 (ro Try.f5 6)) = some a5_6 := by kernel_rfl
def a5_7 : List AO := [⟨(some 6), none, .mv (.v (.int .i64 0))⟩]
theorem tr5_7 : (ro Try.f5 7).toList.mapM (trO Try.prog 76 (ro Try.f5 7)) = some a5_7 := by kernel_rfl
def a5_8 : List AO := [⟨(some 26), none, .mv (.t 6)⟩,
  ⟨(some 27), none, .mv (.t 0)⟩,
  ⟨(some 28), none, .len (.t 27)⟩,
  ⟨(some 29), none, .bin .lss (.t 26) (.t 28)⟩]
theorem tr5_8 : (ro Try.f5 8).toList.mapM (trO Try.prog 76 (ro Try.f5 8)) = some a5_8 := by kernel_rfl
def a5_10 : List AO := [⟨(some 32), none, .mv (.t 0)⟩,
  ⟨(some 33), none, .mv (.t 6)⟩,
  ⟨(some 34), none, .idx 2 (.t 32) (.t 33)⟩,
  ⟨(some 35), none, .fld 1 (.t 34)⟩,
  ⟨(some 36), none, .load none (.t 35)⟩,
  ⟨(some 37), none, .bin .neq (.t 36) (.v (.int .i64 0))⟩]
theorem tr5_10 : (ro Try.f5 10).toList.mapM (trO Try.prog 76 (ro Try.f5 10)) = some a5_10 := by kernel_rfl
def a5_11 : List AO := [⟨(some 38), none, .mv (.t 5)⟩,
  ⟨(some 39), none, .bin .add (.t 38) (.v (.int .i64 1))⟩,
  ⟨(some 5), none, .mv (.t 39)⟩]
theorem tr5_11 : (ro Try.f5 11).toList.mapM (trO Try.prog 76 (ro Try.f5 11)) = some a5_11 := by kernel_rfl
def a5_9 : List AO := [⟨(some 30), none, .mv (.t 6)⟩,
  ⟨(some 31), none, .bin .add (.t 30) (.v (.int .i64 1))⟩,
  ⟨(some 6), none, .mv (.t 31)⟩]
theorem tr5_9 : (ro Try.f5 9).toList.mapM (trO Try.prog 76 (ro Try.f5 9)) = some a5_9 := by kernel_rfl
def a5_12 : List AO := [⟨(some 40), none, .mv (.t 3)⟩,
  ⟨(some 41), none, .len (.t 40)⟩,
  ⟨(some 42), none, .mv (.t 5)⟩,
  ⟨(some 43), none, .bin .sub (.t 42) (.v (.int .i64 1))⟩,
  ⟨(some 44), none, .mx (.t 43) (.v (.int .i64 0))⟩,
  ⟨(some 45), none, .bin .gtr (.t 41) (.t 44)⟩]
theorem tr5_12 : (ro Try.f5 12).toList.mapM (trO Try.prog 76 (ro Try.f5 12)) = some a5_12 := by kernel_rfl
def a5_13 : List AO := [⟨(some 2), none, .mv (.v (.bool false))⟩]
theorem tr5_13 : (ro Try.f5 13).toList.mapM (trO Try.prog 76 (ro Try.f5 13)) = some a5_13 := by kernel_rfl
def a5_14 : List AO := [⟨(some 7), none, .mv (.v (.int .i64 0))⟩]
theorem tr5_14 : (ro Try.f5 14).toList.mapM (trO Try.prog 76 (ro Try.f5 14)) = some a5_14 := by kernel_rfl
def a5_15 : List AO := [⟨(some 46), none, .mv (.t 7)⟩,
  ⟨(some 47), none, .mv (.t 3)⟩,
  ⟨(some 48), none, .len (.t 47)⟩,
  ⟨(some 49), none, .bin .lss (.t 46) (.t 48)⟩]
theorem tr5_15 : (ro Try.f5 15).toList.mapM (trO Try.prog 76 (ro Try.f5 15)) = some a5_15 := by kernel_rfl
def a5_17 : List AO := [⟨(some 52), none, .mv (.t 3)⟩,
  ⟨(some 53), none, .mv (.t 7)⟩,
  ⟨(some 54), none, .idx 3 (.t 52) (.t 53)⟩,
  ⟨(some 55), none, .fld 2 (.t 54)⟩,
  ⟨(some 56), none, .load none (.t 55)⟩,
  ⟨(some 57), none, .bin .lss (.t 56) (.v (.int .i64 1))⟩]
theorem tr5_17 : (ro Try.f5 17).toList.mapM (trO Try.prog 76 (ro Try.f5 17)) = some a5_17 := by kernel_rfl
def a5_18 : List AO := [⟨(some 2), none, .mv (.v (.bool false))⟩]
theorem tr5_18 : (ro Try.f5 18).toList.mapM (trO Try.prog 76 (ro Try.f5 18)) = some a5_18 := by kernel_rfl
def a5_19 : List AO := [⟨(some 8), none, .mv (.v (.int .i64 0))⟩]
theorem tr5_19 : (ro Try.f5 19).toList.mapM (trO Try.prog 76 (ro Try.f5 19)) = some a5_19 := by kernel_rfl
def a5_20 : List AO := [⟨(some 58), none, .mv (.t 8)⟩,
  ⟨(some 59), none, .mv (.t 3)⟩,
  ⟨(some 60), none, .len (.t 59)⟩,
  ⟨(some 61), none, .bin .lss (.t 58) (.t 60)⟩]
theorem tr5_20 : (ro Try.f5 20).toList.mapM (trO Try.prog 76 (ro Try.f5 20)) = some a5_20 := by kernel_rfl
def a5_22 : List AO := [⟨(some 64), none, .mv (.t 3)⟩,
  ⟨(some 65), none, .mv (.t 7)⟩,
  ⟨(some 66), none, .idx 3 (.t 64) (.t 65)⟩,
  ⟨(some 67), none, .fld 0 (.t 66)⟩,
  ⟨(some 68), none, .load none (.t 67)⟩,
  ⟨(some 69), none, .mv (.t 3)⟩,
  ⟨(some 70), none, .mv (.t 8)⟩,
  ⟨(some 71), none, .idx 3 (.t 69) (.t 70)⟩,
  ⟨(some 72), none, .fld 1 (.t 71)⟩,
  ⟨(some 73), none, .load none (.t 72)⟩,
  ⟨(some 74), none, .bin .eql (.t 68) (.t 73)⟩]
theorem tr5_22 : (ro Try.f5 22).toList.mapM (trO Try.prog 76 (ro Try.f5 22)) = some a5_22 := by kernel_rfl
def d5_22 : List (List Nat) := [[], [], [0, 1], [0, 1, 2], [0, 1, 2, 3], [], [], [5, 6], [5, 6, 7], [5, 6, 7, 8], [0, 1, 2, 3, 4, 5, 6, 7, 8, 9]]
theorem ok5_22 : okReg (ro Try.f5 22) a5_22 d5_22 = true := by kernel_rfl
def a5_23 : List AO := [⟨(some 2), none, .mv (.v (.bool false))⟩]
theorem tr5_23 : (ro Try.f5 23).toList.mapM (trO Try.prog 76 (ro Try.f5 23)) = some a5_23 := by kernel_rfl
def a5_21 : List AO := [⟨(some 62), none, .mv (.t 8)⟩,
  ⟨(some 63), none, .bin .add (.t 62) (.v (.int .i64 1))⟩,
  ⟨(some 8), none, .mv (.t 63)⟩]
theorem tr5_21 : (ro Try.f5 21).toList.mapM (trO Try.prog 76 (ro Try.f5 21)) = some a5_21 := by kernel_rfl
def a5_16 : List AO := [⟨(some 50), none, .mv (.t 7)⟩,
  ⟨(some 51), none, .bin .add (.t 50) (.v (.int .i64 1))⟩,
  ⟨(some 7), none, .mv (.t 51)⟩]
theorem tr5_16 : (ro Try.f5 16).toList.mapM (trO Try.prog 76 (ro Try.f5 16)) = some a5_16 := by kernel_rfl
def a5_24 : List AO := [⟨(some 75), none, .call 8 []⟩,
  ⟨(some 2), none, .mv (.t 75)⟩]
theorem tr5_24 : (ro Try.f5 24).toList.mapM (trO Try.prog 76 (ro Try.f5 24)) = some a5_24 := by kernel_rfl
/-- airline/airlinelaw54.SettleSettles -/
noncomputable def c6 : Code := .seq (.region 0 (ro Try.f6 0) false) (.seq (.seq (.region 1 (ro Try.f6 1) false) (.cond (.tmp 16) (.seq (.region 2 (ro Try.f6 2) false) (.ret)) (.skip))) (.seq (.seq (.region 3 (ro Try.f6 3) false) (.cond (.tmp 24) (.seq (.region 4 (ro Try.f6 4) false) (.ret)) (.skip))) (.seq (.region 5 (ro Try.f6 5) false) (.seq (.region 6 (ro Try.f6 6) false) (.seq (.region 7 (ro Try.f6 7) false) (.ret))))))
theorem body6 : Try.f6.body = some c6 := by kernel_rfl
theorem res6 : Try.f6.results.toList.mapM (trR Try.prog) = some [.t 4] := by kernel_rfl
theorem nt6 : Try.f6.ntmps = 49 := by kernel_rfl
theorem nm6 : (Try.f6.name == "runtime.NumGoroutine") = false := by kernel_rfl
def a6_0 : List AO := [⟨(some 4), none, .mv (.v (.bool false))⟩]
theorem tr6_0 : (ro Try.f6 0).toList.mapM (trO Try.prog 49 (ro Try.f6 0)) = some a6_0 := by kernel_rfl
def a6_1 : List AO := [⟨(some 9), none, .mv (.t 0)⟩,
  ⟨(some 10), none, .len (.t 9)⟩,
  ⟨(some 11), none, .bin .gtr (.t 10) (.v (.int .i64 80))⟩,
  ⟨(some 12), none, .mv (.t 11)⟩,
  ⟨(some 13), some (12, false), .mv (.t 1)⟩,
  ⟨(some 14), some (12, false), .len (.t 13)⟩,
  ⟨(some 15), some (12, false), .bin .gtr (.t 14) (.v (.int .i64 80))⟩,
  ⟨(some 16), none, .pick (.t 12) (.v (.bool true)) (.t 15)⟩]
theorem tr6_1 : (ro Try.f6 1).toList.mapM (trO Try.prog 49 (ro Try.f6 1)) = some a6_1 := by kernel_rfl
def a6_2 : List AO := [⟨(some 17), none, .call 8 []⟩,
  ⟨(some 4), none, .mv (.t 17)⟩]
theorem tr6_2 : (ro Try.f6 2).toList.mapM (trO Try.prog 49 (ro Try.f6 2)) = some a6_2 := by kernel_rfl
def a6_3 : List AO := [⟨(some 18), none, .mv (.t 0)⟩,
  ⟨(some 19), none, .mv (.t 1)⟩,
  ⟨(some 20), none, .call 15 [(.t 18), (.t 19)]⟩,
  ⟨(some 21), none, .mv (.t 0)⟩,
  ⟨(some 22), none, .mv (.t 1)⟩,
  ⟨(some 23), none, .call 16 [(.t 21), (.t 22)]⟩,
  ⟨(some 24), none, .binb .neq (.t 20) (.t 23)⟩]
theorem tr6_3 : (ro Try.f6 3).toList.mapM (trO Try.prog 49 (ro Try.f6 3)) = some a6_3 := by kernel_rfl
def a6_4 : List AO := [⟨(some 4), none, .mv (.v (.bool false))⟩]
theorem tr6_4 : (ro Try.f6 4).toList.mapM (trO Try.prog 49 (ro Try.f6 4)) = some a6_4 := by kernel_rfl
def a6_5 : List AO := [⟨(some 26), none, .mv (.t 0)⟩,
  ⟨(some 27), none, .call 9 [(.t 26)]⟩,
  ⟨(some 25), none, .mv (.t 27)⟩,
  ⟨(some 28), none, .ext 0 (.t 25)⟩,
  ⟨(some 29), none, .ext 1 (.t 25)⟩,
  ⟨(some 5), none, .mv (.t 28)⟩,
  ⟨(some 6), none, .mv (.t 29)⟩]
theorem tr6_5 : (ro Try.f6 5).toList.mapM (trO Try.prog 49 (ro Try.f6 5)) = some a6_5 := by kernel_rfl
def a6_6 : List AO := [⟨(some 31), none, .mv (.t 5)⟩,
  ⟨(some 32), none, .call 12 [(.t 31)]⟩,
  ⟨(some 30), none, .mv (.t 32)⟩,
  ⟨(some 33), none, .ext 0 (.t 30)⟩,
  ⟨(some 34), none, .ext 1 (.t 30)⟩,
  ⟨(some 7), none, .mv (.t 33)⟩,
  ⟨(some 8), none, .mv (.t 34)⟩]
theorem tr6_6 : (ro Try.f6 6).toList.mapM (trO Try.prog 49 (ro Try.f6 6)) = some a6_6 := by kernel_rfl
def a6_7 : List AO := [⟨(some 35), none, .mv (.t 6)⟩,
  ⟨(some 36), none, .bin .neq (.t 35) (.v (.int .i64 0))⟩,
  ⟨(some 37), none, .mv (.t 36)⟩,
  ⟨(some 38), some (37, false), .mv (.t 8)⟩,
  ⟨(some 39), some (37, false), .bin .eql (.t 38) (.v (.int .i64 0))⟩,
  ⟨(some 40), some (37, false), .mv (.t 39)⟩,
  ⟨(some 41), some (40, true), .mv (.t 0)⟩,
  ⟨(some 42), some (40, true), .mv (.t 7)⟩,
  ⟨(some 43), some (40, true), .call 15 [(.t 41), (.t 42)]⟩,
  ⟨(some 44), some (37, false), .pick (.t 40) (.t 43) (.v (.bool false))⟩,
  ⟨(some 45), none, .pick (.t 37) (.v (.bool true)) (.t 44)⟩,
  ⟨(some 46), none, .mv (.t 45)⟩,
  ⟨(some 47), some (46, true), .call 8 []⟩,
  ⟨(some 48), none, .pick (.t 46) (.t 47) (.v (.bool false))⟩,
  ⟨(some 4), none, .mv (.t 48)⟩]
theorem tr6_7 : (ro Try.f6 7).toList.mapM (trO Try.prog 49 (ro Try.f6 7)) = some a6_7 := by kernel_rfl
/-- airline/airlinelaw54.SettleBills -/
noncomputable def c7 : Code := .seq (.region 0 (ro Try.f7 0) false) (.seq (.seq (.region 1 (ro Try.f7 1) false) (.cond (.tmp 13) (.seq (.region 2 (ro Try.f7 2) false) (.ret)) (.skip))) (.seq (.region 3 (ro Try.f7 3) false) (.seq (.seq (.region 4 (ro Try.f7 4) false) (.cond (.tmp 23) (.seq (.region 5 (ro Try.f7 5) false) (.ret)) (.skip))) (.seq (.region 6 (ro Try.f7 6) false) (.seq (.seq (.region 7 (ro Try.f7 7) false) (.cond (.tmp 30) (.seq (.region 8 (ro Try.f7 8) false) (.ret)) (.skip))) (.seq (.seq (.region 9 (ro Try.f7 9) false) (.block 0 (.loop (.seq (.seq (.region 10 (ro Try.f7 10) false) (.cond (.tmp 35) (.skip) (.exit 0))) (.seq (.block 1 (.seq (.region 12 (ro Try.f7 12) false) (.seq (.seq (.region 13 (ro Try.f7 13) false) (.block 2 (.loop (.seq (.seq (.region 14 (ro Try.f7 14) false) (.cond (.tmp 41) (.skip) (.exit 2))) (.seq (.block 3 (.seq (.region 16 (ro Try.f7 16) true) (.cond (.tmp 72) (.region 17 (ro Try.f7 17) false) (.skip)))) (.region 15 (ro Try.f7 15) false)))))) (.seq (.region 18 (ro Try.f7 18) true) (.cond (.tmp 118) (.seq (.region 19 (ro Try.f7 19) false) (.ret)) (.skip)))))) (.region 11 (ro Try.f7 11) false)))))) (.seq (.region 20 (ro Try.f7 20) false) (.ret))))))))
theorem body7 : Try.f7.body = some c7 := by kernel_rfl
theorem res7 : Try.f7.results.toList.mapM (trR Try.prog) = some [.t 4] := by kernel_rfl
theorem nt7 : Try.f7.ntmps = 120 := by kernel_rfl
theorem nm7 : (Try.f7.name == "runtime.NumGoroutine") = false := by kernel_rfl
def a7_0 : List AO := [⟨(some 4), none, .mv (.v (.bool false))⟩]
theorem tr7_0 : (ro Try.f7 0).toList.mapM (trO Try.prog 120 (ro Try.f7 0)) = some a7_0 := by kernel_rfl
def a7_1 : List AO := [⟨(some 11), none, .mv (.t 1)⟩,
  ⟨(some 12), none, .len (.t 11)⟩,
  ⟨(some 13), none, .bin .gtr (.t 12) (.v (.int .i64 80))⟩]
theorem tr7_1 : (ro Try.f7 1).toList.mapM (trO Try.prog 120 (ro Try.f7 1)) = some a7_1 := by kernel_rfl
def a7_2 : List AO := [⟨(some 14), none, .call 8 []⟩,
  ⟨(some 4), none, .mv (.t 14)⟩]
theorem tr7_2 : (ro Try.f7 2).toList.mapM (trO Try.prog 120 (ro Try.f7 2)) = some a7_2 := by kernel_rfl
def a7_3 : List AO := [⟨(some 15), none, .mv (.t 0)⟩,
  ⟨(some 16), none, .mv (.t 1)⟩,
  ⟨(some 17), none, .call 17 [(.t 15), (.t 16)]⟩,
  ⟨(some 5), none, .mv (.t 17)⟩]
theorem tr7_3 : (ro Try.f7 3).toList.mapM (trO Try.prog 120 (ro Try.f7 3)) = some a7_3 := by kernel_rfl
def a7_4 : List AO := [⟨(some 18), none, .mv (.t 5)⟩,
  ⟨(some 19), none, .mv (.t 0)⟩,
  ⟨(some 20), none, .mv (.t 1)⟩,
  ⟨(some 21), none, .call 18 [(.t 19), (.t 20)]⟩,
  ⟨(some 22), none, .call 14 [(.t 18), (.t 21)]⟩,
  ⟨(some 23), none, .un .not (.t 22)⟩]
theorem tr7_4 : (ro Try.f7 4).toList.mapM (trO Try.prog 120 (ro Try.f7 4)) = some a7_4 := by kernel_rfl
def a7_5 : List AO := [⟨(some 4), none, .mv (.v (.bool false))⟩]
theorem tr7_5 : (ro Try.f7 5).toList.mapM (trO Try.prog 120 (ro Try.f7 5)) = some a7_5 := by kernel_rfl
def a7_6 : List AO := [⟨(some 25), none, .mv (.t 5)⟩,
  ⟨(some 26), none, .call 9 [(.t 25)]⟩,
  ⟨(some 24), none, .mv (.t 26)⟩,
  ⟨(some 27), none, .ext 0 (.t 24)⟩,
  ⟨(some 28), none, .ext 1 (.t 24)⟩,
  ⟨(some 6), none, .mv (.t 27)⟩,
  ⟨(some 7), none, .mv (.t 28)⟩]
theorem tr7_6 : (ro Try.f7 6).toList.mapM (trO Try.prog 120 (ro Try.f7 6)) = some a7_6 := by kernel_rfl
def a7_7 : List AO := [⟨(some 29), none, .mv (.t 7)⟩,
  ⟨(some 30), none, .bin .neq (.t 29) (.v (.int .i64 0))⟩]
theorem tr7_7 : (ro Try.f7 7).toList.mapM (trO Try.prog 120 (ro Try.f7 7)) = some a7_7 := by kernel_rfl
def a7_8 : List AO := [⟨(some 31), none, .call 8 []⟩,
  ⟨(some 4), none, .mv (.t 31)⟩]
theorem tr7_8 : (ro Try.f7 8).toList.mapM (trO Try.prog 120 (ro Try.f7 8)) = some a7_8 := by kernel_rfl
def a7_9 : List AO := [⟨(some 8), none, .mv (.v (.int .i64 0))⟩]
theorem tr7_9 : (ro Try.f7 9).toList.mapM (trO Try.prog 120 (ro Try.f7 9)) = some a7_9 := by kernel_rfl
def a7_10 : List AO := [⟨(some 32), none, .mv (.t 8)⟩,
  ⟨(some 33), none, .mv (.t 6)⟩,
  ⟨(some 34), none, .len (.t 33)⟩,
  ⟨(some 35), none, .bin .lss (.t 32) (.t 34)⟩]
theorem tr7_10 : (ro Try.f7 10).toList.mapM (trO Try.prog 120 (ro Try.f7 10)) = some a7_10 := by kernel_rfl
def a7_12 : List AO := [⟨(some 9), none, .mv (.v (.int .i64 0))⟩]
theorem tr7_12 : (ro Try.f7 12).toList.mapM (trO Try.prog 120 (ro Try.f7 12)) = some a7_12 := by kernel_rfl
def a7_13 : List AO := [⟨(some 10), none, .mv (.v (.int .i64 0))⟩]
theorem tr7_13 : (ro Try.f7 13).toList.mapM (trO Try.prog 120 (ro Try.f7 13)) = some a7_13 := by kernel_rfl
def a7_14 : List AO := [⟨(some 38), none, .mv (.t 10)⟩,
  ⟨(some 39), none, .mv (.t 1)⟩,
  ⟨(some 40), none, .len (.t 39)⟩,
  ⟨(some 41), none, .bin .lss (.t 38) (.t 40)⟩]
theorem tr7_14 : (ro Try.f7 14).toList.mapM (trO Try.prog 120 (ro Try.f7 14)) = some a7_14 := by kernel_rfl
def a7_16 : List AO := [⟨(some 44), none, .mv (.t 1)⟩,
  ⟨(some 45), none, .mv (.t 10)⟩,
  ⟨(some 46), none, .idx 2 (.t 44) (.t 45)⟩,
  ⟨(some 47), none, .fld 0 (.t 46)⟩,
  ⟨(some 48), none, .load none (.t 47)⟩,
  ⟨(some 49), none, .mv (.t 6)⟩,
  ⟨(some 50), none, .mv (.t 8)⟩,
  ⟨(some 51), none, .idx 2 (.t 49) (.t 50)⟩,
  ⟨(some 52), none, .fld 0 (.t 51)⟩,
  ⟨(some 53), none, .load none (.t 52)⟩,
  ⟨(some 54), none, .bin .eql (.t 48) (.t 53)⟩,
  ⟨(some 55), none, .mv (.t 54)⟩,
  ⟨(some 56), some (55, false), .mv (.t 6)⟩,
  ⟨(some 57), some (55, false), .mv (.t 8)⟩,
  ⟨(some 58), some (55, false), .idx 2 (.t 56) (.t 57)⟩,
  ⟨(some 59), some (55, false), .fld 0 (.t 58)⟩,
  ⟨(some 60), some (55, false), .load none (.t 59)⟩,
  ⟨(some 61), some (55, false), .mv (.t 0)⟩,
  ⟨(some 62), some (55, false), .bin .eql (.t 60) (.t 61)⟩,
  ⟨(some 63), some (55, false), .mv (.t 62)⟩,
  ⟨(some 64), some (63, true), .mv (.t 1)⟩,
  ⟨(some 65), some (63, true), .mv (.t 10)⟩,
  ⟨(some 66), some (63, true), .idx 2 (.t 64) (.t 65)⟩,
  ⟨(some 67), some (63, true), .fld 0 (.t 66)⟩,
  ⟨(some 68), some (63, true), .load none (.t 67)⟩,
  ⟨(some 69), some (63, true), .mv (.t 0)⟩,
  ⟨(some 70), some (63, true), .bin .neq (.t 68) (.t 69)⟩,
  ⟨(some 71), some (55, false), .pick (.t 63) (.t 70) (.v (.bool false))⟩,
  ⟨(some 72), none, .pick (.t 55) (.v (.bool true)) (.t 71)⟩]
theorem tr7_16 : (ro Try.f7 16).toList.mapM (trO Try.prog 120 (ro Try.f7 16)) = some a7_16 := by kernel_rfl
def d7_16 : List (List Nat) := [[], [], [0, 1], [0, 1, 2], [0, 1, 2, 3], [], [], [5, 6], [5, 6, 7], [5, 6, 7, 8], [0, 1, 2, 3, 4, 5, 6, 7, 8, 9], [0, 1, 2, 3, 4, 5, 6, 7, 8, 9, 10], [0, 1, 2, 3, 4, 5, 6, 7, 8, 9, 10, 11], [0, 1, 2, 3, 4, 5, 6, 7, 8, 9, 10, 11], [0, 1, 2, 3, 4, 5, 6, 7, 8, 9, 10, 11, 12, 13], [0, 1, 2, 3, 4, 5, 6, 7, 8, 9, 10, 11, 12, 13, 14], [0, 1, 2, 3, 4, 5, 6, 7, 8, 9, 10, 11, 12, 13, 14, 15], [0, 1, 2, 3, 4, 5, 6, 7, 8, 9, 10, 11], [0, 1, 2, 3, 4, 5, 6, 7, 8, 9, 10, 11, 12, 13, 14, 15, 16, 17], [0, 1, 2, 3, 4, 5, 6, 7, 8, 9, 10, 11, 12, 13, 14, 15, 16, 17, 18], [0, 1, 2, 3, 4, 5, 6, 7, 8, 9, 10, 11, 12, 13, 14, 15, 16, 17, 18, 19], [0, 1, 2, 3, 4, 5, 6, 7, 8, 9, 10, 11, 12, 13, 14, 15, 16, 17, 18, 19], [0, 1, 2, 3, 4, 5, 6, 7, 8, 9, 10, 11, 12, 13, 14, 15, 16, 17, 18, 19, 20, 21], [0, 1, 2, 3, 4, 5, 6, 7, 8, 9, 10, 11, 12, 13, 14, 15, 16, 17, 18, 19, 20, 21, 22], [0, 1, 2, 3, 4, 5, 6, 7, 8, 9, 10, 11, 12, 13, 14, 15, 16, 17, 18, 19, 20, 21, 22, 23], [0, 1, 2, 3, 4, 5, 6, 7, 8, 9, 10, 11, 12, 13, 14, 15, 16, 17, 18, 19], [0, 1, 2, 3, 4, 5, 6, 7, 8, 9, 10, 11, 12, 13, 14, 15, 16, 17, 18, 19, 20, 21, 22, 23, 24, 25], [0, 1, 2, 3, 4, 5, 6, 7, 8, 9, 10, 11, 12, 13, 14, 15, 16, 17, 18, 19, 20, 21, 22, 23, 24, 25, 26], [0, 1, 2, 3, 4, 5, 6, 7, 8, 9, 10, 11, 12, 13, 14, 15, 16, 17, 18, 19, 20, 21, 22, 23, 24, 25, 26, 27]]
theorem ok7_16 : okReg (ro Try.f7 16) a7_16 d7_16 = true := by kernel_rfl
def a7_17 : List AO := [⟨(some 73), none, .mv (.t 9)⟩,
  ⟨(some 74), none, .mv (.t 1)⟩,
  ⟨(some 75), none, .mv (.t 10)⟩,
  ⟨(some 76), none, .idx 2 (.t 74) (.t 75)⟩,
  ⟨(some 77), none, .fld 1 (.t 76)⟩,
  ⟨(some 78), none, .load none (.t 77)⟩,
  ⟨(some 79), none, .bin .add (.t 73) (.t 78)⟩,
  ⟨(some 9), none, .mv (.t 79)⟩]
theorem tr7_17 : (ro Try.f7 17).toList.mapM (trO Try.prog 120 (ro Try.f7 17)) = some a7_17 := by kernel_rfl
def a7_15 : List AO := [⟨(some 42), none, .mv (.t 10)⟩,
  ⟨(some 43), none, .bin .add (.t 42) (.v (.int .i64 1))⟩,
  ⟨(some 10), none, .mv (.t 43)⟩]
theorem tr7_15 : (ro Try.f7 15).toList.mapM (trO Try.prog 120 (ro Try.f7 15)) = some a7_15 := by kernel_rfl
def a7_18 : List AO := [⟨(some 80), none, .mv (.t 6)⟩,
  ⟨(some 81), none, .mv (.t 8)⟩,
  ⟨(some 82), none, .idx 2 (.t 80) (.t 81)⟩,
  ⟨(some 83), none, .fld 0 (.t 82)⟩,
  ⟨(some 84), none, .load none (.t 83)⟩,
  ⟨(some 85), none, .mv (.t 0)⟩,
  ⟨(some 86), none, .bin .eql (.t 84) (.t 85)⟩,
  ⟨(some 87), none, .mv (.t 86)⟩,
  ⟨(some 88), some (87, true), .mv (.t 6)⟩,
  ⟨(some 89), some (87, true), .mv (.t 8)⟩,
  ⟨(some 90), some (87, true), .idx 2 (.t 88) (.t 89)⟩,
  ⟨(some 91), some (87, true), .fld 1 (.t 90)⟩,
  ⟨(some 92), some (87, true), .load none (.t 91)⟩,
  ⟨(some 93), some (87, true), .mv (.t 9)⟩,
  ⟨(some 94), some (87, true), .un .neg (.t 93)⟩,
  ⟨(some 95), some (87, true), .mv (.t 1)⟩,
  ⟨(some 96), some (87, true), .mv (.t 0)⟩,
  ⟨(some 97), some (87, true), .call 19 [(.t 95), (.t 96)]⟩,
  ⟨(some 98), some (87, true), .bin .add (.t 94) (.t 97)⟩,
  ⟨(some 99), some (87, true), .bin .neq (.t 92) (.t 98)⟩,
  ⟨(some 100), none, .pick (.t 87) (.t 99) (.v (.bool false))⟩,
  ⟨(some 101), none, .mv (.t 100)⟩,
  ⟨(some 102), some (101, false), .mv (.t 6)⟩,
  ⟨(some 103), some (101, false), .mv (.t 8)⟩,
  ⟨(some 104), some (101, false), .idx 2 (.t 102) (.t 103)⟩,
  ⟨(some 105), some (101, false), .fld 0 (.t 104)⟩,
  ⟨(some 106), some (101, false), .load none (.t 105)⟩,
  ⟨(some 107), some (101, false), .mv (.t 0)⟩,
  ⟨(some 108), some (101, false), .bin .neq (.t 106) (.t 107)⟩,
  ⟨(some 109), some (101, false), .mv (.t 108)⟩,
  ⟨(some 110), some (109, true), .mv (.t 6)⟩,
  ⟨(some 111), some (109, true), .mv (.t 8)⟩,
  ⟨(some 112), some (109, true), .idx 2 (.t 110) (.t 111)⟩,
  ⟨(some 113), some (109, true), .fld 1 (.t 112)⟩,
  ⟨(some 114), some (109, true), .load none (.t 113)⟩,
  ⟨(some 115), some (109, true), .mv (.t 9)⟩,
  ⟨(some 116), some (109, true), .bin .neq (.t 114) (.t 115)⟩,
  ⟨(some 117), some (101, false), .pick (.t 109) (.t 116) (.v (.bool false))⟩,
  ⟨(some 118), none, .pick (.t 101) (.v (.bool true)) (.t 117)⟩]
theorem tr7_18 : (ro Try.f7 18).toList.mapM (trO Try.prog 120 (ro Try.f7 18)) = some a7_18 := by kernel_rfl
def d7_18 : List (List Nat) := [[], [], [0, 1], [0, 1, 2], [0, 1, 2, 3], [], [0, 1, 2, 3, 4, 5], [0, 1, 2, 3, 4, 5, 6], [0, 1, 2, 3, 4, 5, 6, 7], [0, 1, 2, 3, 4, 5, 6, 7], [0, 1, 2, 3, 4, 5, 6, 7, 8, 9], [0, 1, 2, 3, 4, 5, 6, 7, 8, 9, 10], [0, 1, 2, 3, 4, 5, 6, 7, 8, 9, 10, 11], [0, 1, 2, 3, 4, 5, 6, 7], [0, 1, 2, 3, 4, 5, 6, 7, 13], [0, 1, 2, 3, 4, 5, 6, 7], [0, 1, 2, 3, 4, 5, 6, 7], [0, 1, 2, 3, 4, 5, 6, 7, 15, 16], [0, 1, 2, 3, 4, 5, 6, 7, 13, 14, 15, 16, 17], [0, 1, 2, 3, 4, 5, 6, 7, 8, 9, 10, 11, 12, 13, 14, 15, 16, 17, 18], [0, 1, 2, 3, 4, 5, 6, 7, 8, 9, 10, 11, 12, 13, 14, 15, 16, 17, 18, 19], [0, 1, 2, 3, 4, 5, 6, 7, 8, 9, 10, 11, 12, 13, 14, 15, 16, 17, 18, 19, 20], [0, 1, 2, 3, 4, 5, 6, 7, 8, 9, 10, 11, 12, 13, 14, 15, 16, 17, 18, 19, 20, 21], [0, 1, 2, 3, 4, 5, 6, 7, 8, 9, 10, 11, 12, 13, 14, 15, 16, 17, 18, 19, 20, 21], [0, 1, 2, 3, 4, 5, 6, 7, 8, 9, 10, 11, 12, 13, 14, 15, 16, 17, 18, 19, 20, 21, 22, 23], [0, 1, 2, 3, 4, 5, 6, 7, 8, 9, 10, 11, 12, 13, 14, 15, 16, 17, 18, 19, 20, 21, 22, 23, 24], [0, 1, 2, 3, 4, 5, 6, 7, 8, 9, 10, 11, 12, 13, 14, 15, 16, 17, 18, 19, 20, 21, 22, 23, 24, 25], [0, 1, 2, 3, 4, 5, 6, 7, 8, 9, 10, 11, 12, 13, 14, 15, 16, 17, 18, 19, 20, 21], [0, 1, 2, 3, 4, 5, 6, 7, 8, 9, 10, 11, 12, 13, 14, 15, 16, 17, 18, 19, 20, 21, 22, 23, 24, 25, 26, 27], [0, 1, 2, 3, 4, 5, 6, 7, 8, 9, 10, 11, 12, 13, 14, 15, 16, 17, 18, 19, 20, 21, 22, 23, 24, 25, 26, 27, 28], [0, 1, 2, 3, 4, 5, 6, 7, 8, 9, 10, 11, 12, 13, 14, 15, 16, 17, 18, 19, 20, 21, 22, 23, 24, 25, 26, 27, 28, 29], [0, 1, 2, 3, 4, 5, 6, 7, 8, 9, 10, 11, 12, 13, 14, 15, 16, 17, 18, 19, 20, 21, 22, 23, 24, 25, 26, 27, 28, 29], [0, 1, 2, 3, 4, 5, 6, 7, 8, 9, 10, 11, 12, 13, 14, 15, 16, 17, 18, 19, 20, 21, 22, 23, 24, 25, 26, 27, 28, 29, 30, 31], [0, 1, 2, 3, 4, 5, 6, 7, 8, 9, 10, 11, 12, 13, 14, 15, 16, 17, 18, 19, 20, 21, 22, 23, 24, 25, 26, 27, 28, 29, 30, 31, 32], [0, 1, 2, 3, 4, 5, 6, 7, 8, 9, 10, 11, 12, 13, 14, 15, 16, 17, 18, 19, 20, 21, 22, 23, 24, 25, 26, 27, 28, 29, 30, 31, 32, 33], [0, 1, 2, 3, 4, 5, 6, 7, 8, 9, 10, 11, 12, 13, 14, 15, 16, 17, 18, 19, 20, 21, 22, 23, 24, 25, 26, 27, 28, 29], [0, 1, 2, 3, 4, 5, 6, 7, 8, 9, 10, 11, 12, 13, 14, 15, 16, 17, 18, 19, 20, 21, 22, 23, 24, 25, 26, 27, 28, 29, 30, 31, 32, 33, 34, 35], [0, 1, 2, 3, 4, 5, 6, 7, 8, 9, 10, 11, 12, 13, 14, 15, 16, 17, 18, 19, 20, 21, 22, 23, 24, 25, 26, 27, 28, 29, 30, 31, 32, 33, 34, 35, 36], [0, 1, 2, 3, 4, 5, 6, 7, 8, 9, 10, 11, 12, 13, 14, 15, 16, 17, 18, 19, 20, 21, 22, 23, 24, 25, 26, 27, 28, 29, 30, 31, 32, 33, 34, 35, 36, 37]]
theorem ok7_18 : okReg (ro Try.f7 18) a7_18 d7_18 = true := by kernel_rfl
def a7_19 : List AO := [⟨(some 4), none, .mv (.v (.bool false))⟩]
theorem tr7_19 : (ro Try.f7 19).toList.mapM (trO Try.prog 120 (ro Try.f7 19)) = some a7_19 := by kernel_rfl
def a7_11 : List AO := [⟨(some 36), none, .mv (.t 8)⟩,
  ⟨(some 37), none, .bin .add (.t 36) (.v (.int .i64 1))⟩,
  ⟨(some 8), none, .mv (.t 37)⟩]
theorem tr7_11 : (ro Try.f7 11).toList.mapM (trO Try.prog 120 (ro Try.f7 11)) = some a7_11 := by kernel_rfl
def a7_20 : List AO := [⟨(some 119), none, .call 8 []⟩,
  ⟨(some 4), none, .mv (.t 119)⟩]
theorem tr7_20 : (ro Try.f7 20).toList.mapM (trO Try.prog 120 (ro Try.f7 20)) = some a7_20 := by kernel_rfl
/-- airline/airlinelaw54.awake -/
noncomputable def c8 : Code := .seq (.region 0 (ro Try.f8 0) false) (.seq (.region 1 (ro Try.f8 1) false) (.seq (.region 2 (ro Try.f8 2) false) (.seq (.region 3 (ro Try.f8 3) false) (.seq (.region 4 (ro Try.f8 4) false) (.seq (.region 5 (ro Try.f8 5) false) (.seq (.region 6 (ro Try.f8 6) false) (.ret)))))))
theorem body8 : Try.f8.body = some c8 := by kernel_rfl
theorem res8 : Try.f8.results.toList.mapM (trR Try.prog) = some [.t 0] := by kernel_rfl
theorem nt8 : Try.f8.ntmps = 76 := by kernel_rfl
theorem nm8 : (Try.f8.name == "runtime.NumGoroutine") = false := by kernel_rfl
def a8_0 : List AO := [⟨(some 0), none, .mv (.v (.bool false))⟩]
theorem tr8_0 : (ro Try.f8 0).toList.mapM (trO Try.prog 76 (ro Try.f8 0)) = some a8_0 := by kernel_rfl
def a8_1 : List AO := [⟨(some 9), none, .build [(.str []), (.str []), (.int .i64 0)] [(0, 1, (.v (.str [65]))), (1, 1, (.v (.str [66]))), (2, 1, (.v (.int .i64 500)))]⟩,
  ⟨(some 10), none, .build [(.str []), (.str []), (.int .i64 0)] [(0, 1, (.v (.str [66]))), (1, 1, (.v (.str [67]))), (2, 1, (.v (.int .i64 200)))]⟩,
  ⟨(some 11), none, .slc 37 3 false [(.t 9), (.t 10)]⟩,
  ⟨(some 1), none, .mv (.t 11)⟩]
theorem tr8_1 : (ro Try.f8 1).toList.mapM (trO Try.prog 76 (ro Try.f8 1)) = some a8_1 := by kernel_rfl
def a8_2 : List AO := [⟨(some 13), none, .mv (.t 1)⟩,
  ⟨(some 14), none, .call 9 [(.t 13)]⟩,
  ⟨(some 12), none, .mv (.t 14)⟩,
  ⟨(some 15), none, .ext 0 (.t 12)⟩,
  ⟨(some 16), none, .ext 1 (.t 12)⟩,
  ⟨(some 2), none, .mv (.t 15)⟩,
  ⟨(some 3), none, .mv (.t 16)⟩]
theorem tr8_2 : (ro Try.f8 2).toList.mapM (trO Try.prog 76 (ro Try.f8 2)) = some a8_2 := by kernel_rfl
def a8_3 : List AO := [⟨(some 18), none, .mv (.t 2)⟩,
  ⟨(some 19), none, .call 12 [(.t 18)]⟩,
  ⟨(some 17), none, .mv (.t 19)⟩,
  ⟨(some 20), none, .ext 0 (.t 17)⟩,
  ⟨(some 21), none, .ext 1 (.t 17)⟩,
  ⟨(some 4), none, .mv (.t 20)⟩,
  ⟨(some 5), none, .mv (.t 21)⟩]
theorem tr8_3 : (ro Try.f8 3).toList.mapM (trO Try.prog 76 (ro Try.f8 3)) = some a8_3 := by kernel_rfl
def a8_4 : List AO := [⟨(some 23), none, .build [(.str []), (.int .i64 0)] [(0, 1, (.v (.str [65]))), (1, 1, (.v (.int .i64 1)))]⟩,
  ⟨(some 24), none, .slc 30 2 false [(.t 23)]⟩,
  ⟨(some 25), none, .call 12 [(.t 24)]⟩,
  ⟨(some 22), none, .mv (.t 25)⟩,
  ⟨(some 26), none, .ext 0 (.t 22)⟩,
  ⟨(some 27), none, .ext 1 (.t 22)⟩,
  ⟨(some 6), none, .mv (.t 26)⟩,
  ⟨(some 7), none, .mv (.t 27)⟩]
theorem tr8_4 : (ro Try.f8 4).toList.mapM (trO Try.prog 76 (ro Try.f8 4)) = some a8_4 := by kernel_rfl
def a8_5 : List AO := [⟨(some 28), none, .build [(.str []), (.int .i64 0)] [(0, 1, (.v (.str [66, 65]))), (1, 1, (.v (.int .i64 100)))]⟩,
  ⟨(some 29), none, .build [(.str []), (.int .i64 0)] [(0, 1, (.v (.str [65, 70]))), (1, 1, (.v (.int .i64 50)))]⟩,
  ⟨(some 30), none, .build [(.str []), (.int .i64 0)] [(0, 1, (.v (.str [85, 50])))]⟩,
  ⟨(some 31), none, .slc 30 2 false [(.t 28), (.t 29), (.t 30)]⟩,
  ⟨(some 32), none, .call 17 [(.v (.str [66, 65])), (.t 31)]⟩,
  ⟨(some 8), none, .mv (.t 32)⟩]
theorem tr8_5 : (ro Try.f8 5).toList.mapM (trO Try.prog 76 (ro Try.f8 5)) = some a8_5 := by kernel_rfl
def a8_6 : List AO := [⟨(some 33), none, .mv (.t 3)⟩,
  ⟨(some 34), none, .bin .eql (.t 33) (.v (.int .i64 0))⟩,
  ⟨(some 35), none, .mv (.t 34)⟩,
  ⟨(some 36), some (35, true), .mv (.t 2)⟩,
  ⟨(some 37), some (35, true), .build [(.str []), (.int .i64 0)] [(0, 1, (.v (.str [65]))), (1, 1, (.v (.int .i64 (-500))))]⟩,
  ⟨(some 38), some (35, true), .build [(.str []), (.int .i64 0)] [(0, 1, (.v (.str [66]))), (1, 1, (.v (.int .i64 300)))]⟩,
  ⟨(some 39), some (35, true), .build [(.str []), (.int .i64 0)] [(0, 1, (.v (.str [67]))), (1, 1, (.v (.int .i64 200)))]⟩,
  ⟨(some 40), some (35, true), .slc 30 2 false [(.t 37), (.t 38), (.t 39)]⟩,
  ⟨(some 41), some (35, true), .call 11 [(.t 36), (.t 40)]⟩,
  ⟨(some 42), none, .pick (.t 35) (.t 41) (.v (.bool false))⟩,
  ⟨(some 43), none, .mv (.t 42)⟩,
  ⟨(some 44), some (43, true), .mv (.t 5)⟩,
  ⟨(some 45), some (43, true), .bin .eql (.t 44) (.v (.int .i64 0))⟩,
  ⟨(some 46), none, .pick (.t 43) (.t 45) (.v (.bool false))⟩,
  ⟨(some 47), none, .mv (.t 46)⟩,
  ⟨(some 48), some (47, true), .mv (.t 4)⟩,
  ⟨(some 49), some (47, true), .build [(.str []), (.str []), (.int .i64 0)] [(0, 1, (.v (.str [65]))), (1, 1, (.v (.str [66]))), (2, 1, (.v (.int .i64 300)))]⟩,
  ⟨(some 50), some (47, true), .build [(.str []), (.str []), (.int .i64 0)] [(0, 1, (.v (.str [65]))), (1, 1, (.v (.str [67]))), (2, 1, (.v (.int .i64 200)))]⟩,
  ⟨(some 51), some (47, true), .slc 37 3 false [(.t 49), (.t 50)]⟩,
  ⟨(some 52), some (47, true), .call 14 [(.t 48), (.t 51)]⟩,
  ⟨(some 53), none, .pick (.t 47) (.t 52) (.v (.bool false))⟩,
  ⟨(some 54), none, .mv (.t 53)⟩,
  ⟨(some 55), some (54, true), .mv (.t 7)⟩,
  ⟨(some 56), some (54, true), .bin .eql (.t 55) (.v (.int .i64 36))⟩,
  ⟨(some 57), none, .pick (.t 54) (.t 56) (.v (.bool false))⟩,
  ⟨(some 58), none, .mv (.t 57)⟩,
  ⟨(some 59), some (58, true), .mv (.t 1)⟩,
  ⟨(some 60), some (58, true), .mv (.t 4)⟩,
  ⟨(some 61), some (58, true), .call 15 [(.t 59), (.t 60)]⟩,
  ⟨(some 62), none, .pick (.t 58) (.t 61) (.v (.bool false))⟩,
  ⟨(some 63), none, .mv (.t 62)⟩,
  ⟨(some 64), some (63, true), .mv (.t 1)⟩,
  ⟨(some 65), some (63, true), .mv (.t 4)⟩,
  ⟨(some 66), some (63, true), .sub 3 none (some (.v (.int .i64 1))) none (.t 65)⟩,
  ⟨(some 67), some (63, true), .call 15 [(.t 64), (.t 66)]⟩,
  ⟨(some 68), some (63, true), .un .not (.t 67)⟩,
  ⟨(some 69), none, .pick (.t 63) (.t 68) (.v (.bool false))⟩,
  ⟨(some 70), none, .mv (.t 69)⟩,
  ⟨(some 71), some (70, true), .mv (.t 8)⟩,
  ⟨(some 72), some (70, true), .build [(.str []), (.str []), (.int .i64 0)] [(0, 1, (.v (.str [66, 65]))), (1, 1, (.v (.str [65, 70]))), (2, 1, (.v (.int .i64 50)))]⟩,
  ⟨(some 73), some (70, true), .slc 37 3 false [(.t 72)]⟩,
  ⟨(some 74), some (70, true), .call 14 [(.t 71), (.t 73)]⟩,
  ⟨(some 75), none, .pick (.t 70) (.t 74) (.v (.bool false))⟩,
  ⟨(some 0), none, .mv (.t 75)⟩]
theorem tr8_6 : (ro Try.f8 6).toList.mapM (trO Try.prog 76 (ro Try.f8 6)) = some a8_6 := by kernel_rfl
/-- airline/settle.Net -/
noncomputable def c9 : Code := .seq (.region 0 (ro Try.f9 0) false) (.seq (.region 1 (ro Try.f9 1) false) (.seq (.seq (.region 2 (ro Try.f9 2) false) (.block 0 (.loop (.seq (.region 3 (ro Try.f9 3) false) (.seq (.cond (.tmp 14) (.skip) (.exit 0)) (.seq (.block 1 (.seq (.region 4 (ro Try.f9 4) false) (.seq (.seq (.region 5 (ro Try.f9 5) false) (.cond (.tmp 19) (.seq (.region 6 (ro Try.f9 6) false) (.ret)) (.skip))) (.seq (.region 7 (ro Try.f9 7) false) (.region 8 (ro Try.f9 8) false))))) (.region 9 (ro Try.f9 9) false))))))) (.seq (.region 10 (ro Try.f9 10) false) (.seq (.seq (.region 11 (ro Try.f9 11) false) (.block 2 (.loop (.seq (.region 12 (ro Try.f9 12) false) (.seq (.cond (.tmp 40) (.skip) (.exit 2)) (.seq (.block 3 (.seq (.region 13 (ro Try.f9 13) false) (.seq (.seq (.region 14 (ro Try.f9 14) false) (.cond (.tmp 46) (.seq (.region 15 (ro Try.f9 15) false) (.ret)) (.skip))) (.region 16 (ro Try.f9 16) false)))) (.region 17 (ro Try.f9 17) false))))))) (.seq (.region 18 (ro Try.f9 18) false) (.ret))))))
theorem body9 : Try.f9.body = some c9 := by kernel_rfl
theorem res9 : Try.f9.results.toList.mapM (trR Try.prog) = some [.t 2, .t 3] := by kernel_rfl
theorem nt9 : Try.f9.ntmps = 57 := by kernel_rfl
theorem nm9 : (Try.f9.name == "runtime.NumGoroutine") = false := by kernel_rfl
def a9_0 : List AO := [⟨(some 2), none, .mv (.v .nils)⟩,
  ⟨(some 3), none, .mv (.v (.int .i64 0))⟩]
theorem tr9_0 : (ro Try.f9 0).toList.mapM (trO Try.prog 57 (ro Try.f9 0)) = some a9_0 := by kernel_rfl
def a9_1 : List AO := [⟨(some 10), none, .mkmap⟩,
  ⟨(some 4), none, .mv (.t 10)⟩]
theorem tr9_1 : (ro Try.f9 1).toList.mapM (trO Try.prog 57 (ro Try.f9 1)) = some a9_1 := by kernel_rfl
def a9_2 : List AO := [⟨(some 11), none, .mv (.t 0)⟩,
  ⟨(some 12), none, .len (.t 11)⟩,
  ⟨(some 13), none, .mv (.v (.int .i64 0))⟩]
theorem tr9_2 : (ro Try.f9 2).toList.mapM (trO Try.prog 57 (ro Try.f9 2)) = some a9_2 := by kernel_rfl
def a9_3 : List AO := [⟨(some 14), none, .bin .lss (.t 13) (.t 12)⟩]
theorem tr9_3 : (ro Try.f9 3).toList.mapM (trO Try.prog 57 (ro Try.f9 3)) = some a9_3 := by kernel_rfl
def a9_4 : List AO := [⟨(some 15), none, .idx 3 (.t 11) (.t 13)⟩,
  ⟨(some 16), none, .load (some 3) (.t 15)⟩,
  ⟨(some 6), none, .alloc 37 [(.str []), (.str []), (.int .i64 0)]⟩,
  ⟨none, none, .store 3 (.t 6) (.t 16)⟩]
theorem tr9_4 : (ro Try.f9 4).toList.mapM (trO Try.prog 57 (ro Try.f9 4)) = some a9_4 := by kernel_rfl
def a9_5 : List AO := [⟨(some 17), none, .fld 2 (.t 6)⟩,
  ⟨(some 18), none, .load none (.t 17)⟩,
  ⟨(some 19), none, .call 20 [(.t 18)]⟩]
theorem tr9_5 : (ro Try.f9 5).toList.mapM (trO Try.prog 57 (ro Try.f9 5)) = some a9_5 := by kernel_rfl
def a9_6 : List AO := [⟨(some 2), none, .mv (.v .nils)⟩,
  ⟨(some 3), none, .mv (.v (.int .i64 11))⟩]
theorem tr9_6 : (ro Try.f9 6).toList.mapM (trO Try.prog 57 (ro Try.f9 6)) = some a9_6 := by kernel_rfl
def a9_7 : List AO := [⟨(some 20), none, .mv (.t 4)⟩,
  ⟨(some 21), none, .fld 0 (.t 6)⟩,
  ⟨(some 22), none, .load none (.t 21)⟩,
  ⟨(some 23), none, .look 0 false (.int .i64 0) (.t 20) (.t 22)⟩,
  ⟨(some 24), none, .fld 2 (.t 6)⟩,
  ⟨(some 25), none, .load none (.t 24)⟩,
  ⟨(some 26), none, .bin .sub (.t 23) (.t 25)⟩,
  ⟨none, none, .mset 0 (.t 20) (.t 22) (.t 26)⟩]
theorem tr9_7 : (ro Try.f9 7).toList.mapM (trO Try.prog 57 (ro Try.f9 7)) = some a9_7 := by kernel_rfl
def a9_8 : List AO := [⟨(some 27), none, .mv (.t 4)⟩,
  ⟨(some 28), none, .fld 1 (.t 6)⟩,
  ⟨(some 29), none, .load none (.t 28)⟩,
  ⟨(some 30), none, .look 0 false (.int .i64 0) (.t 27) (.t 29)⟩,
  ⟨(some 31), none, .fld 2 (.t 6)⟩,
  ⟨(some 32), none, .load none (.t 31)⟩,
  ⟨(some 33), none, .bin .add (.t 30) (.t 32)⟩,
  ⟨none, none, .mset 0 (.t 27) (.t 29) (.t 33)⟩]
theorem tr9_8 : (ro Try.f9 8).toList.mapM (trO Try.prog 57 (ro Try.f9 8)) = some a9_8 := by kernel_rfl
def a9_9 : List AO := [⟨(some 34), none, .bin .add (.t 13) (.v (.int .i64 1))⟩,
  ⟨(some 13), none, .mv (.t 34)⟩]
theorem tr9_9 : (ro Try.f9 9).toList.mapM (trO Try.prog 57 (ro Try.f9 9)) = some a9_9 := by kernel_rfl
def a9_10 : List AO := [⟨(some 7), none, .mv (.v .nils)⟩]
theorem tr9_10 : (ro Try.f9 10).toList.mapM (trO Try.prog 57 (ro Try.f9 10)) = some a9_10 := by kernel_rfl
def a9_11 : List AO := [⟨(some 35), none, .mv (.t 4)⟩,
  ⟨(some 36), none, .call 22 [(.t 35)]⟩,
  ⟨(some 37), none, .call 21 [(.t 36)]⟩,
  ⟨(some 38), none, .len (.t 37)⟩,
  ⟨(some 39), none, .mv (.v (.int .i64 0))⟩]
theorem tr9_11 : (ro Try.f9 11).toList.mapM (trO Try.prog 57 (ro Try.f9 11)) = some a9_11 := by kernel_rfl
def a9_12 : List AO := [⟨(some 40), none, .bin .lss (.t 39) (.t 38)⟩]
theorem tr9_12 : (ro Try.f9 12).toList.mapM (trO Try.prog 57 (ro Try.f9 12)) = some a9_12 := by kernel_rfl
def a9_13 : List AO := [⟨(some 41), none, .idx 1 (.t 37) (.t 39)⟩,
  ⟨(some 42), none, .load none (.t 41)⟩,
  ⟨(some 9), none, .mv (.t 42)⟩]
theorem tr9_13 : (ro Try.f9 13).toList.mapM (trO Try.prog 57 (ro Try.f9 13)) = some a9_13 := by kernel_rfl
def a9_14 : List AO := [⟨(some 43), none, .mv (.t 4)⟩,
  ⟨(some 44), none, .mv (.t 9)⟩,
  ⟨(some 45), none, .look 0 false (.int .i64 0) (.t 43) (.t 44)⟩,
  ⟨(some 46), none, .call 20 [(.t 45)]⟩]
theorem tr9_14 : (ro Try.f9 14).toList.mapM (trO Try.prog 57 (ro Try.f9 14)) = some a9_14 := by kernel_rfl
def a9_15 : List AO := [⟨(some 2), none, .mv (.v .nils)⟩,
  ⟨(some 3), none, .mv (.v (.int .i64 11))⟩]
theorem tr9_15 : (ro Try.f9 15).toList.mapM (trO Try.prog 57 (ro Try.f9 15)) = some a9_15 := by kernel_rfl
def a9_16 : List AO := [⟨(some 47), none, .mv (.t 7)⟩,
  ⟨(some 48), none, .mv (.t 9)⟩,
  ⟨(some 49), none, .mv (.t 4)⟩,
  ⟨(some 50), none, .mv (.t 9)⟩,
  ⟨(some 51), none, .look 0 false (.int .i64 0) (.t 49) (.t 50)⟩,
  ⟨(some 52), none, .build [(.str []), (.int .i64 0)] [(0, 1, (.t 48)), (1, 1, (.t 51))]⟩,
  ⟨(some 53), none, .slc 30 2 false [(.t 52)]⟩,
  ⟨(some 54), none, .app 30 2 24 (.t 47) (.t 53)⟩,
  ⟨(some 7), none, .mv (.t 54)⟩]
theorem tr9_16 : (ro Try.f9 16).toList.mapM (trO Try.prog 57 (ro Try.f9 16)) = some a9_16 := by kernel_rfl
def a9_17 : List AO := [⟨(some 55), none, .bin .add (.t 39) (.v (.int .i64 1))⟩,
  ⟨(some 39), none, .mv (.t 55)⟩]
theorem tr9_17 : (ro Try.f9 17).toList.mapM (trO Try.prog 57 (ro Try.f9 17)) = some a9_17 := by kernel_rfl
def a9_18 : List AO := [⟨(some 56), none, .mv (.t 7)⟩,
  ⟨(some 2), none, .mv (.t 56)⟩,
  ⟨(some 3), none, .mv (.v (.int .i64 0))⟩]
theorem tr9_18 : (ro Try.f9 18).toList.mapM (trO Try.prog 57 (ro Try.f9 18)) = some a9_18 := by kernel_rfl
/-- airline/airlineref54.Net -/
noncomputable def c10 : Code := .seq (.region 0 (ro Try.f10 0) false) (.seq (.region 1 (ro Try.f10 1) false) (.seq (.seq (.region 2 (ro Try.f10 2) false) (.block 0 (.loop (.seq (.seq (.region 3 (ro Try.f10 3) false) (.cond (.tmp 11) (.skip) (.exit 0))) (.seq (.block 1 (.seq (.region 5 (ro Try.f10 5) false) (.cond (.tmp 20) (.seq (.region 6 (ro Try.f10 6) false) (.ret)) (.skip)))) (.region 4 (ro Try.f10 4) false)))))) (.seq (.seq (.region 7 (ro Try.f10 7) false) (.block 2 (.loop (.seq (.seq (.region 8 (ro Try.f10 8) false) (.cond (.tmp 24) (.skip) (.exit 2))) (.seq (.block 3 (.seq (.region 10 (ro Try.f10 10) true) (.region 11 (ro Try.f10 11) true))) (.region 9 (ro Try.f10 9) false)))))) (.seq (.seq (.region 12 (ro Try.f10 12) false) (.block 4 (.loop (.seq (.seq (.region 13 (ro Try.f10 13) false) (.cond (.tmp 55) (.skip) (.exit 4))) (.seq (.block 5 (.seq (.region 15 (ro Try.f10 15) false) (.cond (.tmp 64) (.seq (.region 16 (ro Try.f10 16) false) (.ret)) (.skip)))) (.region 14 (ro Try.f10 14) false)))))) (.seq (.region 17 (ro Try.f10 17) false) (.ret))))))
theorem body10 : Try.f10.body = some c10 := by kernel_rfl
theorem res10 : Try.f10.results.toList.mapM (trR Try.prog) = some [.t 2, .t 3] := by kernel_rfl
theorem nt10 : Try.f10.ntmps = 66 := by kernel_rfl
theorem nm10 : (Try.f10.name == "runtime.NumGoroutine") = false := by kernel_rfl
def a10_0 : List AO := [⟨(some 2), none, .mv (.v .nils)⟩,
  ⟨(some 3), none, .mv (.v (.int .i64 0))⟩]
theorem tr10_0 : (ro Try.f10 0).toList.mapM (trO Try.prog 66 (ro Try.f10 0)) = some a10_0 := by kernel_rfl
def a10_1 : List AO := [⟨(some 4), none, .mv (.v .nils)⟩]
theorem tr10_1 : (ro Try.f10 1).toList.mapM (trO Try.prog 66 (ro Try.f10 1)) = some a10_1 := by kernel_rfl
def a10_2 : List AO := [⟨(some 5), none, .mv (.v (.int .i64 0))⟩]
theorem tr10_2 : (ro Try.f10 2).toList.mapM (trO Try.prog 66 (ro Try.f10 2)) = some a10_2 := by kernel_rfl
def a10_3 : List AO := [⟨(some 8), none, .mv (.t 5)⟩,
  ⟨(some 9), none, .mv (.t 0)⟩,
  ⟨(some 10), none, .len (.t 9)⟩,
  ⟨(some 11), none, .bin .lss (.t 8) (.t 10)⟩]
theorem tr10_3 : (ro Try.f10 3).toList.mapM (trO Try.prog 66 (ro Try.f10 3)) = some a10_3 := by kernel_rfl
def a10_5 : List AO := [⟨(some 14), none, .mv (.t 0)⟩,
  ⟨(some 15), none, .mv (.t 5)⟩,
  ⟨(some 16), none, .idx 3 (.t 14) (.t 15)⟩,
  ⟨(some 17), none, .fld 2 (.t 16)⟩,
  ⟨(some 18), none, .load none (.t 17)⟩,
  ⟨(some 19), none, .call 23 [(.t 18)]⟩,
  ⟨(some 20), none, .un .not (.t 19)⟩]
theorem tr10_5 : (ro Try.f10 5).toList.mapM (trO Try.prog 66 (ro Try.f10 5)) = some a10_5 := by kernel_rfl
def a10_6 : List AO := [⟨(some 2), none, .mv (.v .nils)⟩,
  ⟨(some 3), none, .mv (.v (.int .i64 11))⟩]
theorem tr10_6 : (ro Try.f10 6).toList.mapM (trO Try.prog 66 (ro Try.f10 6)) = some a10_6 := by kernel_rfl
def a10_4 : List AO := [⟨(some 12), none, .mv (.t 5)⟩,
  ⟨(some 13), none, .bin .add (.t 12) (.v (.int .i64 1))⟩,
  ⟨(some 5), none, .mv (.t 13)⟩]
theorem tr10_4 : (ro Try.f10 4).toList.mapM (trO Try.prog 66 (ro Try.f10 4)) = some a10_4 := by kernel_rfl
def a10_7 : List AO := [⟨(some 6), none, .mv (.v (.int .i64 0))⟩]
theorem tr10_7 : (ro Try.f10 7).toList.mapM (trO Try.prog 66 (ro Try.f10 7)) = some a10_7 := by kernel_rfl
def a10_8 : List AO := [⟨(some 21), none, .mv (.t 6)⟩,
  ⟨(some 22), none, .mv (.t 0)⟩,
  ⟨(some 23), none, .len (.t 22)⟩,
  ⟨(some 24), none, .bin .lss (.t 21) (.t 23)⟩]
theorem tr10_8 : (ro Try.f10 8).toList.mapM (trO Try.prog 66 (ro Try.f10 8)) = some a10_8 := by kernel_rfl
def a10_10 : List AO := [⟨(some 27), none, .mv (.t 4)⟩,
  ⟨(some 28), none, .mv (.t 0)⟩,
  ⟨(some 29), none, .mv (.t 6)⟩,
  ⟨(some 30), none, .idx 3 (.t 28) (.t 29)⟩,
  ⟨(some 31), none, .fld 0 (.t 30)⟩,
  ⟨(some 32), none, .load none (.t 31)⟩,
  ⟨(some 33), none, .mv (.t 0)⟩,
  ⟨(some 34), none, .mv (.t 6)⟩,
  ⟨(some 35), none, .idx 3 (.t 33) (.t 34)⟩,
  ⟨(some 36), none, .fld 2 (.t 35)⟩,
  ⟨(some 37), none, .load none (.t 36)⟩,
  ⟨(some 38), none, .un .neg (.t 37)⟩,
  ⟨(some 39), none, .call 24 [(.t 27), (.t 32), (.t 38)]⟩,
  ⟨(some 4), none, .mv (.t 39)⟩]
theorem tr10_10 : (ro Try.f10 10).toList.mapM (trO Try.prog 66 (ro Try.f10 10)) = some a10_10 := by kernel_rfl
def d10_10 : List (List Nat) := [[], [], [], [1, 2], [1, 2, 3], [1, 2, 3, 4], [], [], [6, 7], [6, 7, 8], [6, 7, 8, 9], [6, 7, 8, 9, 10], [0, 1, 2, 3, 4, 5, 6, 7, 8, 9, 10, 11], [0, 1, 2, 3, 4, 5, 6, 7, 8, 9, 10, 11, 12]]
theorem ok10_10 : okReg (ro Try.f10 10) a10_10 d10_10 = true := by kernel_rfl
def a10_11 : List AO := [⟨(some 40), none, .mv (.t 4)⟩,
  ⟨(some 41), none, .mv (.t 0)⟩,
  ⟨(some 42), none, .mv (.t 6)⟩,
  ⟨(some 43), none, .idx 3 (.t 41) (.t 42)⟩,
  ⟨(some 44), none, .fld 1 (.t 43)⟩,
  ⟨(some 45), none, .load none (.t 44)⟩,
  ⟨(some 46), none, .mv (.t 0)⟩,
  ⟨(some 47), none, .mv (.t 6)⟩,
  ⟨(some 48), none, .idx 3 (.t 46) (.t 47)⟩,
  ⟨(some 49), none, .fld 2 (.t 48)⟩,
  ⟨(some 50), none, .load none (.t 49)⟩,
  ⟨(some 51), none, .call 24 [(.t 40), (.t 45), (.t 50)]⟩,
  ⟨(some 4), none, .mv (.t 51)⟩]
theorem tr10_11 : (ro Try.f10 11).toList.mapM (trO Try.prog 66 (ro Try.f10 11)) = some a10_11 := by kernel_rfl
def d10_11 : List (List Nat) := [[], [], [], [1, 2], [1, 2, 3], [1, 2, 3, 4], [], [], [6, 7], [6, 7, 8], [6, 7, 8, 9], [0, 1, 2, 3, 4, 5, 6, 7, 8, 9, 10], [0, 1, 2, 3, 4, 5, 6, 7, 8, 9, 10, 11]]
theorem ok10_11 : okReg (ro Try.f10 11) a10_11 d10_11 = true := by kernel_rfl
def a10_9 : List AO := [⟨(some 25), none, .mv (.t 6)⟩,
  ⟨(some 26), none, .bin .add (.t 25) (.v (.int .i64 1))⟩,
  ⟨(some 6), none, .mv (.t 26)⟩]
theorem tr10_9 : (ro Try.f10 9).toList.mapM (trO Try.prog 66 (ro Try.f10 9)) = some a10_9 := by kernel_rfl
def a10_12 : List AO := [⟨(some 7), none, .mv (.v (.int .i64 0))⟩]
theorem tr10_12 : (ro Try.f10 12).toList.mapM (trO Try.prog 66 (ro Try.f10 12)) = some a10_12 := by kernel_rfl
def a10_13 : List AO := [⟨(some 52), none, .mv (.t 7)⟩,
  ⟨(some 53), none, .mv (.t 4)⟩,
  ⟨(some 54), none, .len (.t 53)⟩,
  ⟨(some 55), none, .bin .lss (.t 52) (.t 54)⟩]
theorem tr10_13 : (ro Try.f10 13).toList.mapM (trO Try.prog 66 (ro Try.f10 13)) = some a10_13 := by kernel_rfl
def a10_15 : List AO := [⟨(some 58), none, .mv (.t 4)⟩,
  ⟨(some 59), none, .mv (.t 7)⟩,
  ⟨(some 60), none, .idx 2 (.t 58) (.t 59)⟩,
  ⟨(some 61), none, .fld 1 (.t 60)⟩,
  ⟨(some 62), none, .load none (.t 61)⟩,
  ⟨(some 63), none, .call 23 [(.t 62)]⟩,
  ⟨(some 64), none, .un .not (.t 63)⟩]
theorem tr10_15 : (ro Try.f10 15).toList.mapM (trO Try.prog 66 (ro Try.f10 15)) = some a10_15 := by kernel_rfl
def a10_16 : List AO := [⟨(some 2), none, .mv (.v .nils)⟩,
  ⟨(some 3), none, .mv (.v (.int .i64 11))⟩]
theorem tr10_16 : (ro Try.f10 16).toList.mapM (trO Try.prog 66 (ro Try.f10 16)) = some a10_16 := by kernel_rfl
def a10_14 : List AO := [⟨(some 56), none, .mv (.t 7)⟩,
  ⟨(some 57), none, .bin .add (.t 56) (.v (.int .i64 1))⟩,
  ⟨(some 7), none, .mv (.t 57)⟩]
theorem tr10_14 : (ro Try.f10 14).toList.mapM (trO Try.prog 66 (ro Try.f10 14)) = some a10_14 := by kernel_rfl
def a10_17 : List AO := [⟨(some 65), none, .mv (.t 4)⟩,
  ⟨(some 2), none, .mv (.t 65)⟩,
  ⟨(some 3), none, .mv (.v (.int .i64 0))⟩]
theorem tr10_17 : (ro Try.f10 17).toList.mapM (trO Try.prog 66 (ro Try.f10 17)) = some a10_17 := by kernel_rfl
/-- airline/airlinelaw54.posts -/
noncomputable def c11 : Code := .seq (.region 0 (ro Try.f11 0) false) (.seq (.seq (.region 1 (ro Try.f11 1) false) (.cond (.tmp 10) (.seq (.region 2 (ro Try.f11 2) false) (.ret)) (.skip))) (.seq (.seq (.region 3 (ro Try.f11 3) false) (.block 0 (.loop (.seq (.seq (.region 4 (ro Try.f11 4) false) (.cond (.tmp 14) (.skip) (.exit 0))) (.seq (.block 1 (.seq (.region 6 (ro Try.f11 6) true) (.cond (.tmp 25) (.seq (.region 7 (ro Try.f11 7) false) (.ret)) (.skip)))) (.region 5 (ro Try.f11 5) false)))))) (.seq (.region 8 (ro Try.f11 8) false) (.ret))))
theorem body11 : Try.f11.body = some c11 := by kernel_rfl
theorem res11 : Try.f11.results.toList.mapM (trR Try.prog) = some [.t 4] := by kernel_rfl
theorem nt11 : Try.f11.ntmps = 26 := by kernel_rfl
theorem nm11 : (Try.f11.name == "runtime.NumGoroutine") = false := by kernel_rfl
def a11_0 : List AO := [⟨(some 4), none, .mv (.v (.bool false))⟩]
theorem tr11_0 : (ro Try.f11 0).toList.mapM (trO Try.prog 26 (ro Try.f11 0)) = some a11_0 := by kernel_rfl
def a11_1 : List AO := [⟨(some 6), none, .mv (.t 0)⟩,
  ⟨(some 7), none, .len (.t 6)⟩,
  ⟨(some 8), none, .mv (.t 1)⟩,
  ⟨(some 9), none, .len (.t 8)⟩,
  ⟨(some 10), none, .bin .neq (.t 7) (.t 9)⟩]
theorem tr11_1 : (ro Try.f11 1).toList.mapM (trO Try.prog 26 (ro Try.f11 1)) = some a11_1 := by kernel_rfl
def a11_2 : List AO := [⟨(some 4), none, .mv (.v (.bool false))⟩]
theorem tr11_2 : (ro Try.f11 2).toList.mapM (trO Try.prog 26 (ro Try.f11 2)) = some a11_2 := by kernel_rfl
def a11_3 : List AO := [⟨(some 5), none, .mv (.v (.int .i64 0))⟩]
theorem tr11_3 : (ro Try.f11 3).toList.mapM (trO Try.prog 26 (ro Try.f11 3)) = some a11_3 := by kernel_rfl
def a11_4 : List AO := [⟨(some 11), none, .mv (.t 5)⟩,
  ⟨(some 12), none, .mv (.t 0)⟩,
  ⟨(some 13), none, .len (.t 12)⟩,
  ⟨(some 14), none, .bin .lss (.t 11) (.t 13)⟩]
theorem tr11_4 : (ro Try.f11 4).toList.mapM (trO Try.prog 26 (ro Try.f11 4)) = some a11_4 := by kernel_rfl
def a11_6 : List AO := [⟨(some 17), none, .mv (.t 0)⟩,
  ⟨(some 18), none, .mv (.t 5)⟩,
  ⟨(some 19), none, .idx 2 (.t 17) (.t 18)⟩,
  ⟨(some 20), none, .load (some 2) (.t 19)⟩,
  ⟨(some 21), none, .mv (.t 1)⟩,
  ⟨(some 22), none, .mv (.t 5)⟩,
  ⟨(some 23), none, .idx 2 (.t 21) (.t 22)⟩,
  ⟨(some 24), none, .load (some 2) (.t 23)⟩,
  ⟨(some 25), none, .bina [.s, .i .i64] .neq (.t 20) (.t 24)⟩]
theorem tr11_6 : (ro Try.f11 6).toList.mapM (trO Try.prog 26 (ro Try.f11 6)) = some a11_6 := by kernel_rfl
def d11_6 : List (List Nat) := [[], [], [0, 1], [0, 1, 2], [], [], [4, 5], [4, 5, 6], [0, 1, 2, 3, 4, 5, 6, 7]]
theorem ok11_6 : okReg (ro Try.f11 6) a11_6 d11_6 = true := by kernel_rfl
def a11_7 : List AO := [⟨(some 4), none, .mv (.v (.bool false))⟩]
theorem tr11_7 : (ro Try.f11 7).toList.mapM (trO Try.prog 26 (ro Try.f11 7)) = some a11_7 := by kernel_rfl
def a11_5 : List AO := [⟨(some 15), none, .mv (.t 5)⟩,
  ⟨(some 16), none, .bin .add (.t 15) (.v (.int .i64 1))⟩,
  ⟨(some 5), none, .mv (.t 16)⟩]
theorem tr11_5 : (ro Try.f11 5).toList.mapM (trO Try.prog 26 (ro Try.f11 5)) = some a11_5 := by kernel_rfl
def a11_8 : List AO := [⟨(some 4), none, .mv (.v (.bool true))⟩]
theorem tr11_8 : (ro Try.f11 8).toList.mapM (trO Try.prog 26 (ro Try.f11 8)) = some a11_8 := by kernel_rfl
/-- airline/settle.Transfers -/
noncomputable def c12 : Code := .seq (.region 0 (ro Try.f12 0) false) (.seq (.seq (.region 1 (ro Try.f12 1) false) (.cond (.tmp 14) (.seq (.region 2 (ro Try.f12 2) false) (.ret)) (.skip))) (.seq (.region 3 (ro Try.f12 3) false) (.seq (.region 4 (ro Try.f12 4) false) (.seq (.seq (.region 5 (ro Try.f12 5) false) (.block 0 (.loop (.seq (.region 6 (ro Try.f12 6) false) (.seq (.cond (.tmp 19) (.skip) (.exit 0)) (.seq (.block 1 (.seq (.region 7 (ro Try.f12 7) false) (.seq (.seq (.region 8 (ro Try.f12 8) false) (.cond (.tmp 25) (.seq (.region 9 (ro Try.f12 9) false) (.ret)) (.skip))) (.seq (.region 10 (ro Try.f12 10) false) (.region 11 (ro Try.f12 11) false))))) (.region 12 (ro Try.f12 12) false))))))) (.seq (.seq (.region 13 (ro Try.f12 13) false) (.cond (.tmp 35) (.seq (.region 14 (ro Try.f12 14) false) (.ret)) (.skip))) (.seq (.region 15 (ro Try.f12 15) false) (.seq (.region 16 (ro Try.f12 16) false) (.seq (.region 17 (ro Try.f12 17) false) (.block 2 (.loop (.block 3 (.seq (.block 4 (.loop (.seq (.seq (.region 18 (ro Try.f12 18) false) (.cond (.tmp 49) (.skip) (.exit 4))) (.block 5 (.region 19 (ro Try.f12 19) false))))) (.seq (.block 6 (.loop (.seq (.seq (.region 20 (ro Try.f12 20) false) (.cond (.tmp 63) (.skip) (.exit 6))) (.block 7 (.region 21 (ro Try.f12 21) false))))) (.seq (.seq (.region 22 (ro Try.f12 22) false) (.cond (.tmp 75) (.seq (.region 23 (ro Try.f12 23) false) (.ret)) (.skip))) (.seq (.region 24 (ro Try.f12 24) true) (.seq (.region 25 (ro Try.f12 25) false) (.seq (.region 26 (ro Try.f12 26) false) (.region 27 (ro Try.f12 27) true))))))))))))))))))
theorem body12 : Try.f12.body = some c12 := by kernel_rfl
theorem res12 : Try.f12.results.toList.mapM (trR Try.prog) = some [.t 2, .t 3] := by kernel_rfl
theorem nt12 : Try.f12.ntmps = 122 := by kernel_rfl
theorem nm12 : (Try.f12.name == "runtime.NumGoroutine") = false := by kernel_rfl
def a12_0 : List AO := [⟨(some 2), none, .mv (.v .nils)⟩,
  ⟨(some 3), none, .mv (.v (.int .i64 0))⟩]
theorem tr12_0 : (ro Try.f12 0).toList.mapM (trO Try.prog 122 (ro Try.f12 0)) = some a12_0 := by kernel_rfl
def a12_1 : List AO := [⟨(some 13), none, .mv (.t 0)⟩,
  ⟨(some 14), none, .call 25 [(.t 13), (.v (.fn 26 []))]⟩]
theorem tr12_1 : (ro Try.f12 1).toList.mapM (trO Try.prog 122 (ro Try.f12 1)) = some a12_1 := by kernel_rfl
def a12_2 : List AO := [⟨(some 2), none, .mv (.v .nils)⟩,
  ⟨(some 3), none, .mv (.v (.int .i64 11))⟩]
theorem tr12_2 : (ro Try.f12 2).toList.mapM (trO Try.prog 122 (ro Try.f12 2)) = some a12_2 := by kernel_rfl
def a12_3 : List AO := [⟨(some 15), none, .mkmap⟩,
  ⟨(some 4), none, .mv (.t 15)⟩]
theorem tr12_3 : (ro Try.f12 3).toList.mapM (trO Try.prog 122 (ro Try.f12 3)) = some a12_3 := by kernel_rfl
def a12_4 : List AO := [⟨(some 5), none, .mv (.v (.int .i64 0))⟩]
theorem tr12_4 : (ro Try.f12 4).toList.mapM (trO Try.prog 122 (ro Try.f12 4)) = some a12_4 := by kernel_rfl
def a12_5 : List AO := [⟨(some 16), none, .mv (.t 0)⟩,
  ⟨(some 17), none, .len (.t 16)⟩,
  ⟨(some 18), none, .mv (.v (.int .i64 0))⟩]
theorem tr12_5 : (ro Try.f12 5).toList.mapM (trO Try.prog 122 (ro Try.f12 5)) = some a12_5 := by kernel_rfl
def a12_6 : List AO := [⟨(some 19), none, .bin .lss (.t 18) (.t 17)⟩]
theorem tr12_6 : (ro Try.f12 6).toList.mapM (trO Try.prog 122 (ro Try.f12 6)) = some a12_6 := by kernel_rfl
def a12_7 : List AO := [⟨(some 20), none, .idx 2 (.t 16) (.t 18)⟩,
  ⟨(some 21), none, .load (some 2) (.t 20)⟩,
  ⟨(some 7), none, .alloc 30 [(.str []), (.int .i64 0)]⟩,
  ⟨none, none, .store 2 (.t 7) (.t 21)⟩]
theorem tr12_7 : (ro Try.f12 7).toList.mapM (trO Try.prog 122 (ro Try.f12 7)) = some a12_7 := by kernel_rfl
def a12_8 : List AO := [⟨(some 22), none, .mv (.t 4)⟩,
  ⟨(some 23), none, .fld 0 (.t 7)⟩,
  ⟨(some 24), none, .load none (.t 23)⟩,
  ⟨(some 25), none, .look 0 false (.bool false) (.t 22) (.t 24)⟩]
theorem tr12_8 : (ro Try.f12 8).toList.mapM (trO Try.prog 122 (ro Try.f12 8)) = some a12_8 := by kernel_rfl
def a12_9 : List AO := [⟨(some 2), none, .mv (.v .nils)⟩,
  ⟨(some 3), none, .mv (.v (.int .i64 6))⟩]
theorem tr12_9 : (ro Try.f12 9).toList.mapM (trO Try.prog 122 (ro Try.f12 9)) = some a12_9 := by kernel_rfl
def a12_10 : List AO := [⟨(some 26), none, .mv (.t 4)⟩,
  ⟨(some 27), none, .fld 0 (.t 7)⟩,
  ⟨(some 28), none, .load none (.t 27)⟩,
  ⟨none, none, .mset 0 (.t 26) (.t 28) (.v (.bool true))⟩]
theorem tr12_10 : (ro Try.f12 10).toList.mapM (trO Try.prog 122 (ro Try.f12 10)) = some a12_10 := by kernel_rfl
def a12_11 : List AO := [⟨(some 29), none, .mv (.t 5)⟩,
  ⟨(some 30), none, .fld 1 (.t 7)⟩,
  ⟨(some 31), none, .load none (.t 30)⟩,
  ⟨(some 32), none, .bin .add (.t 29) (.t 31)⟩,
  ⟨(some 5), none, .mv (.t 32)⟩]
theorem tr12_11 : (ro Try.f12 11).toList.mapM (trO Try.prog 122 (ro Try.f12 11)) = some a12_11 := by kernel_rfl
def a12_12 : List AO := [⟨(some 33), none, .bin .add (.t 18) (.v (.int .i64 1))⟩,
  ⟨(some 18), none, .mv (.t 33)⟩]
theorem tr12_12 : (ro Try.f12 12).toList.mapM (trO Try.prog 122 (ro Try.f12 12)) = some a12_12 := by kernel_rfl
def a12_13 : List AO := [⟨(some 34), none, .mv (.t 5)⟩,
  ⟨(some 35), none, .bin .neq (.t 34) (.v (.int .i64 0))⟩]
theorem tr12_13 : (ro Try.f12 13).toList.mapM (trO Try.prog 122 (ro Try.f12 13)) = some a12_13 := by kernel_rfl
def a12_14 : List AO := [⟨(some 2), none, .mv (.v .nils)⟩,
  ⟨(some 3), none, .mv (.v (.int .i64 36))⟩]
theorem tr12_14 : (ro Try.f12 14).toList.mapM (trO Try.prog 122 (ro Try.f12 14)) = some a12_14 := by kernel_rfl
def a12_15 : List AO := [⟨(some 36), none, .mv (.t 0)⟩,
  ⟨(some 37), none, .call 27 [(.t 36)]⟩,
  ⟨(some 8), none, .mv (.t 37)⟩]
theorem tr12_15 : (ro Try.f12 15).toList.mapM (trO Try.prog 122 (ro Try.f12 15)) = some a12_15 := by kernel_rfl
def a12_16 : List AO := [⟨(some 9), none, .mv (.v .nils)⟩]
theorem tr12_16 : (ro Try.f12 16).toList.mapM (trO Try.prog 122 (ro Try.f12 16)) = some a12_16 := by kernel_rfl
def a12_17 : List AO := [⟨(some 10), none, .mv (.v (.int .i64 0))⟩,
  ⟨(some 11), none, .mv (.v (.int .i64 0))⟩]
theorem tr12_17 : (ro Try.f12 17).toList.mapM (trO Try.prog 122 (ro Try.f12 17)) = some a12_17 := by kernel_rfl
def a12_18 : List AO := [⟨(some 38), none, .mv (.t 10)⟩,
  ⟨(some 39), none, .mv (.t 8)⟩,
  ⟨(some 40), none, .len (.t 39)⟩,
  ⟨(some 41), none, .bin .lss (.t 38) (.t 40)⟩,
  ⟨(some 42), none, .mv (.t 41)⟩,
  ⟨(some 43), some (42, true), .mv (.t 8)⟩,
  ⟨(some 44), some (42, true), .mv (.t 10)⟩,
  ⟨(some 45), some (42, true), .idx 2 (.t 43) (.t 44)⟩,
  ⟨(some 46), some (42, true), .fld 1 (.t 45)⟩,
  ⟨(some 47), some (42, true), .load none (.t 46)⟩,
  ⟨(some 48), some (42, true), .bin .geq (.t 47) (.v (.int .i64 0))⟩,
  ⟨(some 49), none, .pick (.t 42) (.t 48) (.v (.bool false))⟩]
theorem tr12_18 : (ro Try.f12 18).toList.mapM (trO Try.prog 122 (ro Try.f12 18)) = some a12_18 := by kernel_rfl
def a12_19 : List AO := [⟨(some 50), none, .mv (.t 10)⟩,
  ⟨(some 51), none, .bin .add (.t 50) (.v (.int .i64 1))⟩,
  ⟨(some 10), none, .mv (.t 51)⟩]
theorem tr12_19 : (ro Try.f12 19).toList.mapM (trO Try.prog 122 (ro Try.f12 19)) = some a12_19 := by kernel_rfl
def a12_20 : List AO := [⟨(some 52), none, .mv (.t 11)⟩,
  ⟨(some 53), none, .mv (.t 8)⟩,
  ⟨(some 54), none, .len (.t 53)⟩,
  ⟨(some 55), none, .bin .lss (.t 52) (.t 54)⟩,
  ⟨(some 56), none, .mv (.t 55)⟩,
  ⟨(some 57), some (56, true), .mv (.t 8)⟩,
  ⟨(some 58), some (56, true), .mv (.t 11)⟩,
  ⟨(some 59), some (56, true), .idx 2 (.t 57) (.t 58)⟩,
  ⟨(some 60), some (56, true), .fld 1 (.t 59)⟩,
  ⟨(some 61), some (56, true), .load none (.t 60)⟩,
  ⟨(some 62), some (56, true), .bin .leq (.t 61) (.v (.int .i64 0))⟩,
  ⟨(some 63), none, .pick (.t 56) (.t 62) (.v (.bool false))⟩]
theorem tr12_20 : (ro Try.f12 20).toList.mapM (trO Try.prog 122 (ro Try.f12 20)) = some a12_20 := by kernel_rfl
def a12_21 : List AO := [⟨(some 64), none, .mv (.t 11)⟩,
  ⟨(some 65), none, .bin .add (.t 64) (.v (.int .i64 1))⟩,
  ⟨(some 11), none, .mv (.t 65)⟩]
theorem tr12_21 : (ro Try.f12 21).toList.mapM (trO Try.prog 122 (ro Try.f12 21)) = some a12_21 := by kernel_rfl
def a12_22 : List AO := [⟨(some 66), none, .mv (.t 10)⟩,
  ⟨(some 67), none, .mv (.t 8)⟩,
  ⟨(some 68), none, .len (.t 67)⟩,
  ⟨(some 69), none, .bin .eql (.t 66) (.t 68)⟩,
  ⟨(some 70), none, .mv (.t 69)⟩,
  ⟨(some 71), some (70, false), .mv (.t 11)⟩,
  ⟨(some 72), some (70, false), .mv (.t 8)⟩,
  ⟨(some 73), some (70, false), .len (.t 72)⟩,
  ⟨(some 74), some (70, false), .bin .eql (.t 71) (.t 73)⟩,
  ⟨(some 75), none, .pick (.t 70) (.v (.bool true)) (.t 74)⟩]
theorem tr12_22 : (ro Try.f12 22).toList.mapM (trO Try.prog 122 (ro Try.f12 22)) = some a12_22 := by kernel_rfl
def a12_23 : List AO := [⟨(some 76), none, .mv (.t 9)⟩,
  ⟨(some 2), none, .mv (.t 76)⟩,
  ⟨(some 3), none, .mv (.v (.int .i64 0))⟩]
theorem tr12_23 : (ro Try.f12 23).toList.mapM (trO Try.prog 122 (ro Try.f12 23)) = some a12_23 := by kernel_rfl
def a12_24 : List AO := [⟨(some 77), none, .mv (.t 8)⟩,
  ⟨(some 78), none, .mv (.t 10)⟩,
  ⟨(some 79), none, .idx 2 (.t 77) (.t 78)⟩,
  ⟨(some 80), none, .fld 1 (.t 79)⟩,
  ⟨(some 81), none, .load none (.t 80)⟩,
  ⟨(some 82), none, .un .neg (.t 81)⟩,
  ⟨(some 83), none, .mv (.t 8)⟩,
  ⟨(some 84), none, .mv (.t 11)⟩,
  ⟨(some 85), none, .idx 2 (.t 83) (.t 84)⟩,
  ⟨(some 86), none, .fld 1 (.t 85)⟩,
  ⟨(some 87), none, .load none (.t 86)⟩,
  ⟨(some 88), none, .mn (.t 82) (.t 87)⟩,
  ⟨(some 12), none, .mv (.t 88)⟩]
theorem tr12_24 : (ro Try.f12 24).toList.mapM (trO Try.prog 122 (ro Try.f12 24)) = some a12_24 := by kernel_rfl
def d12_24 : List (List Nat) := [[], [], [0, 1], [0, 1, 2], [0, 1, 2, 3], [0, 1, 2, 3, 4], [], [], [6, 7], [6, 7, 8], [6, 7, 8, 9], [0, 1, 2, 3, 4, 5, 6, 7, 8, 9, 10], [0, 1, 2, 3, 4, 5, 6, 7, 8, 9, 10, 11]]
theorem ok12_24 : okReg (ro Try.f12 24) a12_24 d12_24 = true := by kernel_rfl
def a12_25 : List AO := [⟨(some 89), none, .mv (.t 8)⟩,
  ⟨(some 90), none, .mv (.t 10)⟩,
  ⟨(some 91), none, .idx 2 (.t 89) (.t 90)⟩,
  ⟨(some 92), none, .fld 1 (.t 91)⟩,
  ⟨(some 93), none, .load none (.t 92)⟩,
  ⟨(some 94), none, .mv (.t 12)⟩,
  ⟨(some 95), none, .bin .add (.t 93) (.t 94)⟩,
  ⟨(some 96), none, .idx 2 (.t 89) (.t 90)⟩,
  ⟨(some 97), none, .fld 1 (.t 96)⟩,
  ⟨none, none, .store 1 (.t 97) (.t 95)⟩]
theorem tr12_25 : (ro Try.f12 25).toList.mapM (trO Try.prog 122 (ro Try.f12 25)) = some a12_25 := by kernel_rfl
def a12_26 : List AO := [⟨(some 98), none, .mv (.t 8)⟩,
  ⟨(some 99), none, .mv (.t 11)⟩,
  ⟨(some 100), none, .idx 2 (.t 98) (.t 99)⟩,
  ⟨(some 101), none, .fld 1 (.t 100)⟩,
  ⟨(some 102), none, .load none (.t 101)⟩,
  ⟨(some 103), none, .mv (.t 12)⟩,
  ⟨(some 104), none, .bin .sub (.t 102) (.t 103)⟩,
  ⟨(some 105), none, .idx 2 (.t 98) (.t 99)⟩,
  ⟨(some 106), none, .fld 1 (.t 105)⟩,
  ⟨none, none, .store 1 (.t 106) (.t 104)⟩]
theorem tr12_26 : (ro Try.f12 26).toList.mapM (trO Try.prog 122 (ro Try.f12 26)) = some a12_26 := by kernel_rfl
def a12_27 : List AO := [⟨(some 107), none, .mv (.t 9)⟩,
  ⟨(some 108), none, .mv (.t 8)⟩,
  ⟨(some 109), none, .mv (.t 10)⟩,
  ⟨(some 110), none, .idx 2 (.t 108) (.t 109)⟩,
  ⟨(some 111), none, .fld 0 (.t 110)⟩,
  ⟨(some 112), none, .load none (.t 111)⟩,
  ⟨(some 113), none, .mv (.t 8)⟩,
  ⟨(some 114), none, .mv (.t 11)⟩,
  ⟨(some 115), none, .idx 2 (.t 113) (.t 114)⟩,
  ⟨(some 116), none, .fld 0 (.t 115)⟩,
  ⟨(some 117), none, .load none (.t 116)⟩,
  ⟨(some 118), none, .mv (.t 12)⟩,
  ⟨(some 119), none, .build [(.str []), (.str []), (.int .i64 0)] [(0, 1, (.t 112)), (1, 1, (.t 117)), (2, 1, (.t 118))]⟩,
  ⟨(some 120), none, .slc 37 3 false [(.t 119)]⟩,
  ⟨(some 121), none, .app 37 3 40 (.t 107) (.t 120)⟩,
  ⟨(some 9), none, .mv (.t 121)⟩]
theorem tr12_27 : (ro Try.f12 27).toList.mapM (trO Try.prog 122 (ro Try.f12 27)) = some a12_27 := by kernel_rfl
def d12_27 : List (List Nat) := [[], [], [], [1, 2], [1, 2, 3], [1, 2, 3, 4], [], [], [6, 7], [6, 7, 8], [6, 7, 8, 9], [], [1, 2, 3, 4, 5, 6, 7, 8, 9, 10, 11], [1, 2, 3, 4, 5, 6, 7, 8, 9, 10, 11, 12], [0, 1, 2, 3, 4, 5, 6, 7, 8, 9, 10, 11, 12, 13], [0, 1, 2, 3, 4, 5, 6, 7, 8, 9, 10, 11, 12, 13, 14]]
theorem ok12_27 : okReg (ro Try.f12 27) a12_27 d12_27 = true := by kernel_rfl
/-- airline/airlineref54.Transfers -/
noncomputable def c13 : Code := .seq (.region 0 (ro Try.f13 0) false) (.seq (.region 1 (ro Try.f13 1) false) (.seq (.seq (.region 2 (ro Try.f13 2) false) (.block 0 (.loop (.seq (.seq (.region 3 (ro Try.f13 3) false) (.cond (.tmp 16) (.skip) (.exit 0))) (.seq (.block 1 (.seq (.region 5 (ro Try.f13 5) false) (.cond (.tmp 25) (.seq (.region 6 (ro Try.f13 6) false) (.ret)) (.skip)))) (.region 4 (ro Try.f13 4) false)))))) (.seq (.seq (.region 7 (ro Try.f13 7) false) (.block 2 (.loop (.seq (.seq (.region 8 (ro Try.f13 8) false) (.cond (.tmp 29) (.skip) (.exit 2))) (.seq (.block 3 (.seq (.seq (.region 10 (ro Try.f13 10) false) (.block 4 (.loop (.seq (.seq (.region 11 (ro Try.f13 11) false) (.cond (.tmp 34) (.skip) (.exit 4))) (.seq (.block 5 (.seq (.region 13 (ro Try.f13 13) true) (.cond (.tmp 47) (.seq (.region 14 (ro Try.f13 14) false) (.ret)) (.skip)))) (.region 12 (ro Try.f13 12) false)))))) (.region 15 (ro Try.f13 15) false))) (.region 9 (ro Try.f13 9) false)))))) (.seq (.seq (.region 16 (ro Try.f13 16) false) (.cond (.tmp 56) (.seq (.region 17 (ro Try.f13 17) false) (.ret)) (.skip))) (.seq (.region 18 (ro Try.f13 18) false) (.seq (.region 19 (ro Try.f13 19) false) (.seq (.block 6 (.loop (.seq (.seq (.region 20 (ro Try.f13 20) false) (.cond (.tmp 62) (.skip) (.exit 6))) (.block 7 (.seq (.region 21 (ro Try.f13 21) false) (.seq (.region 22 (ro Try.f13 22) true) (.seq (.region 23 (ro Try.f13 23) true) (.seq (.region 24 (ro Try.f13 24) false) (.region 25 (ro Try.f13 25) false))))))))) (.seq (.region 26 (ro Try.f13 26) false) (.ret)))))))))
theorem body13 : Try.f13.body = some c13 := by kernel_rfl
theorem res13 : Try.f13.results.toList.mapM (trR Try.prog) = some [.t 2, .t 3] := by kernel_rfl
theorem nt13 : Try.f13.ntmps = 117 := by kernel_rfl
theorem nm13 : (Try.f13.name == "runtime.NumGoroutine") = false := by kernel_rfl
def a13_0 : List AO := [⟨(some 2), none, .mv (.v .nils)⟩,
  ⟨(some 3), none, .mv (.v (.int .i64 0))⟩]
theorem tr13_0 : (ro Try.f13 0).toList.mapM (trO Try.prog 117 (ro Try.f13 0)) = some a13_0 := by kernel_rfl
def a13_1 : List AO := [⟨(some 4), none, .mv (.v (.int .i64 0))⟩]
theorem tr13_1 : (ro Try.f13 1).toList.mapM (trO Try.prog 117 (ro Try.f13 1)) = some a13_1 := by kernel_rfl
def a13_2 : List AO := [⟨(some 5), none, .mv (.v (.int .i64 0))⟩]
theorem tr13_2 : (ro Try.f13 2).toList.mapM (trO Try.prog 117 (ro Try.f13 2)) = some a13_2 := by kernel_rfl
def a13_3 : List AO := [⟨(some 13), none, .mv (.t 5)⟩,
  ⟨(some 14), none, .mv (.t 0)⟩,
  ⟨(some 15), none, .len (.t 14)⟩,
  ⟨(some 16), none, .bin .lss (.t 13) (.t 15)⟩]
theorem tr13_3 : (ro Try.f13 3).toList.mapM (trO Try.prog 117 (ro Try.f13 3)) = some a13_3 := by kernel_rfl
def a13_5 : List AO := [⟨(some 19), none, .mv (.t 0)⟩,
  ⟨(some 20), none, .mv (.t 5)⟩,
  ⟨(some 21), none, .idx 2 (.t 19) (.t 20)⟩,
  ⟨(some 22), none, .fld 1 (.t 21)⟩,
  ⟨(some 23), none, .load none (.t 22)⟩,
  ⟨(some 24), none, .call 23 [(.t 23)]⟩,
  ⟨(some 25), none, .un .not (.t 24)⟩]
theorem tr13_5 : (ro Try.f13 5).toList.mapM (trO Try.prog 117 (ro Try.f13 5)) = some a13_5 := by kernel_rfl
def a13_6 : List AO := [⟨(some 2), none, .mv (.v .nils)⟩,
  ⟨(some 3), none, .mv (.v (.int .i64 11))⟩]
theorem tr13_6 : (ro Try.f13 6).toList.mapM (trO Try.prog 117 (ro Try.f13 6)) = some a13_6 := by kernel_rfl
def a13_4 : List AO := [⟨(some 17), none, .mv (.t 5)⟩,
  ⟨(some 18), none, .bin .add (.t 17) (.v (.int .i64 1))⟩,
  ⟨(some 5), none, .mv (.t 18)⟩]
theorem tr13_4 : (ro Try.f13 4).toList.mapM (trO Try.prog 117 (ro Try.f13 4)) = some a13_4 := by kernel_rfl
def a13_7 : List AO := [⟨(some 6), none, .mv (.v (.int .i64 0))⟩]
theorem tr13_7 : (ro Try.f13 7).toList.mapM (trO Try.prog 117 (ro Try.f13 7)) = some a13_7 := by kernel_rfl
def a13_8 : List AO := [⟨(some 26), none, .mv (.t 6)⟩,
  ⟨(some 27), none, .mv (.t 0)⟩,
  ⟨(some 28), none, .len (.t 27)⟩,
  ⟨(some 29), none, .bin .lss (.t 26) (.t 28)⟩]
theorem tr13_8 : (ro Try.f13 8).toList.mapM (trO Try.prog 117 (ro Try.f13 8)) = some a13_8 := by kernel_rfl
def a13_10 : List AO := [⟨(some 7), none, .mv (.v (.int .i64 0))⟩]
theorem tr13_10 : (ro Try.f13 10).toList.mapM (trO Try.prog 117 (ro Try.f13 10)) = some a13_10 := by kernel_rfl
def a13_11 : List AO := [⟨(some 32), none, .mv (.t 7)⟩,
  ⟨(some 33), none, .mv (.t 6)⟩,
  ⟨(some 34), none, .bin .lss (.t 32) (.t 33)⟩]
theorem tr13_11 : (ro Try.f13 11).toList.mapM (trO Try.prog 117 (ro Try.f13 11)) = some a13_11 := by kernel_rfl
def a13_13 : List AO := [⟨(some 37), none, .mv (.t 0)⟩,
  ⟨(some 38), none, .mv (.t 7)⟩,
  ⟨(some 39), none, .idx 2 (.t 37) (.t 38)⟩,
  ⟨(some 40), none, .fld 0 (.t 39)⟩,
  ⟨(some 41), none, .load none (.t 40)⟩,
  ⟨(some 42), none, .mv (.t 0)⟩,
  ⟨(some 43), none, .mv (.t 6)⟩,
  ⟨(some 44), none, .idx 2 (.t 42) (.t 43)⟩,
  ⟨(some 45), none, .fld 0 (.t 44)⟩,
  ⟨(some 46), none, .load none (.t 45)⟩,
  ⟨(some 47), none, .bin .eql (.t 41) (.t 46)⟩]
theorem tr13_13 : (ro Try.f13 13).toList.mapM (trO Try.prog 117 (ro Try.f13 13)) = some a13_13 := by kernel_rfl
def d13_13 : List (List Nat) := [[], [], [0, 1], [0, 1, 2], [0, 1, 2, 3], [], [], [5, 6], [5, 6, 7], [5, 6, 7, 8], [0, 1, 2, 3, 4, 5, 6, 7, 8, 9]]
theorem ok13_13 : okReg (ro Try.f13 13) a13_13 d13_13 = true := by kernel_rfl
def a13_14 : List AO := [⟨(some 2), none, .mv (.v .nils)⟩,
  ⟨(some 3), none, .mv (.v (.int .i64 6))⟩]
theorem tr13_14 : (ro Try.f13 14).toList.mapM (trO Try.prog 117 (ro Try.f13 14)) = some a13_14 := by kernel_rfl
def a13_12 : List AO := [⟨(some 35), none, .mv (.t 7)⟩,
  ⟨(some 36), none, .bin .add (.t 35) (.v (.int .i64 1))⟩,
  ⟨(some 7), none, .mv (.t 36)⟩]
theorem tr13_12 : (ro Try.f13 12).toList.mapM (trO Try.prog 117 (ro Try.f13 12)) = some a13_12 := by kernel_rfl
def a13_15 : List AO := [⟨(some 48), none, .mv (.t 4)⟩,
  ⟨(some 49), none, .mv (.t 0)⟩,
  ⟨(some 50), none, .mv (.t 6)⟩,
  ⟨(some 51), none, .idx 2 (.t 49) (.t 50)⟩,
  ⟨(some 52), none, .fld 1 (.t 51)⟩,
  ⟨(some 53), none, .load none (.t 52)⟩,
  ⟨(some 54), none, .bin .add (.t 48) (.t 53)⟩,
  ⟨(some 4), none, .mv (.t 54)⟩]
theorem tr13_15 : (ro Try.f13 15).toList.mapM (trO Try.prog 117 (ro Try.f13 15)) = some a13_15 := by kernel_rfl
def a13_9 : List AO := [⟨(some 30), none, .mv (.t 6)⟩,
  ⟨(some 31), none, .bin .add (.t 30) (.v (.int .i64 1))⟩,
  ⟨(some 6), none, .mv (.t 31)⟩]
theorem tr13_9 : (ro Try.f13 9).toList.mapM (trO Try.prog 117 (ro Try.f13 9)) = some a13_9 := by kernel_rfl
def a13_16 : List AO := [⟨(some 55), none, .mv (.t 4)⟩,
  ⟨(some 56), none, .bin .neq (.t 55) (.v (.int .i64 0))⟩]
theorem tr13_16 : (ro Try.f13 16).toList.mapM (trO Try.prog 117 (ro Try.f13 16)) = some a13_16 := by kernel_rfl
def a13_17 : List AO := [⟨(some 2), none, .mv (.v .nils)⟩,
  ⟨(some 3), none, .mv (.v (.int .i64 36))⟩]
theorem tr13_17 : (ro Try.f13 17).toList.mapM (trO Try.prog 117 (ro Try.f13 17)) = some a13_17 := by kernel_rfl
def a13_18 : List AO := [⟨(some 8), none, .mv (.v .nils)⟩]
theorem tr13_18 : (ro Try.f13 18).toList.mapM (trO Try.prog 117 (ro Try.f13 18)) = some a13_18 := by kernel_rfl
def a13_19 : List AO := [⟨(some 57), none, .slc 30 2 false []⟩,
  ⟨(some 58), none, .mv (.t 0)⟩,
  ⟨(some 59), none, .app 30 2 24 (.t 57) (.t 58)⟩,
  ⟨(some 9), none, .mv (.t 59)⟩]
theorem tr13_19 : (ro Try.f13 19).toList.mapM (trO Try.prog 117 (ro Try.f13 19)) = some a13_19 := by kernel_rfl
def a13_20 : List AO := [⟨(some 60), none, .mv (.t 9)⟩,
  ⟨(some 61), none, .call 28 [(.t 60), (.v (.int .i64 (-1)))]⟩,
  ⟨(some 62), none, .bin .geq (.t 61) (.v (.int .i64 0))⟩]
theorem tr13_20 : (ro Try.f13 20).toList.mapM (trO Try.prog 117 (ro Try.f13 20)) = some a13_20 := by kernel_rfl
def a13_21 : List AO := [⟨(some 63), none, .mv (.t 9)⟩,
  ⟨(some 64), none, .call 28 [(.t 63), (.v (.int .i64 (-1)))]⟩,
  ⟨(some 65), none, .mv (.t 9)⟩,
  ⟨(some 66), none, .call 28 [(.t 65), (.v (.int .i64 1))]⟩,
  ⟨(some 10), none, .mv (.t 64)⟩,
  ⟨(some 11), none, .mv (.t 66)⟩]
theorem tr13_21 : (ro Try.f13 21).toList.mapM (trO Try.prog 117 (ro Try.f13 21)) = some a13_21 := by kernel_rfl
def a13_22 : List AO := [⟨(some 67), none, .mv (.t 9)⟩,
  ⟨(some 68), none, .mv (.t 10)⟩,
  ⟨(some 69), none, .idx 2 (.t 67) (.t 68)⟩,
  ⟨(some 70), none, .fld 1 (.t 69)⟩,
  ⟨(some 71), none, .load none (.t 70)⟩,
  ⟨(some 72), none, .un .neg (.t 71)⟩,
  ⟨(some 73), none, .mv (.t 9)⟩,
  ⟨(some 74), none, .mv (.t 11)⟩,
  ⟨(some 75), none, .idx 2 (.t 73) (.t 74)⟩,
  ⟨(some 76), none, .fld 1 (.t 75)⟩,
  ⟨(some 77), none, .load none (.t 76)⟩,
  ⟨(some 78), none, .mn (.t 72) (.t 77)⟩,
  ⟨(some 12), none, .mv (.t 78)⟩]
theorem tr13_22 : (ro Try.f13 22).toList.mapM (trO Try.prog 117 (ro Try.f13 22)) = some a13_22 := by kernel_rfl
def d13_22 : List (List Nat) := [[], [], [0, 1], [0, 1, 2], [0, 1, 2, 3], [0, 1, 2, 3, 4], [], [], [6, 7], [6, 7, 8], [6, 7, 8, 9], [0, 1, 2, 3, 4, 5, 6, 7, 8, 9, 10], [0, 1, 2, 3, 4, 5, 6, 7, 8, 9, 10, 11]]
theorem ok13_22 : okReg (ro Try.f13 22) a13_22 d13_22 = true := by kernel_rfl
def a13_23 : List AO := [⟨(some 79), none, .mv (.t 8)⟩,
  ⟨(some 80), none, .mv (.t 9)⟩,
  ⟨(some 81), none, .mv (.t 10)⟩,
  ⟨(some 82), none, .idx 2 (.t 80) (.t 81)⟩,
  ⟨(some 83), none, .fld 0 (.t 82)⟩,
  ⟨(some 84), none, .load none (.t 83)⟩,
  ⟨(some 85), none, .mv (.t 9)⟩,
  ⟨(some 86), none, .mv (.t 11)⟩,
  ⟨(some 87), none, .idx 2 (.t 85) (.t 86)⟩,
  ⟨(some 88), none, .fld 0 (.t 87)⟩,
  ⟨(some 89), none, .load none (.t 88)⟩,
  ⟨(some 90), none, .mv (.t 12)⟩,
  ⟨(some 91), none, .build [(.str []), (.str []), (.int .i64 0)] [(0, 1, (.t 84)), (1, 1, (.t 89)), (2, 1, (.t 90))]⟩,
  ⟨(some 92), none, .slc 37 3 false [(.t 91)]⟩,
  ⟨(some 93), none, .app 37 3 40 (.t 79) (.t 92)⟩,
  ⟨(some 8), none, .mv (.t 93)⟩]
theorem tr13_23 : (ro Try.f13 23).toList.mapM (trO Try.prog 117 (ro Try.f13 23)) = some a13_23 := by kernel_rfl
def d13_23 : List (List Nat) := [[], [], [], [1, 2], [1, 2, 3], [1, 2, 3, 4], [], [], [6, 7], [6, 7, 8], [6, 7, 8, 9], [], [1, 2, 3, 4, 5, 6, 7, 8, 9, 10, 11], [1, 2, 3, 4, 5, 6, 7, 8, 9, 10, 11, 12], [0, 1, 2, 3, 4, 5, 6, 7, 8, 9, 10, 11, 12, 13], [0, 1, 2, 3, 4, 5, 6, 7, 8, 9, 10, 11, 12, 13, 14]]
theorem ok13_23 : okReg (ro Try.f13 23) a13_23 d13_23 = true := by kernel_rfl
def a13_24 : List AO := [⟨(some 94), none, .mv (.t 9)⟩,
  ⟨(some 95), none, .mv (.t 10)⟩,
  ⟨(some 96), none, .mv (.t 9)⟩,
  ⟨(some 97), none, .mv (.t 10)⟩,
  ⟨(some 98), none, .idx 2 (.t 96) (.t 97)⟩,
  ⟨(some 99), none, .fld 1 (.t 98)⟩,
  ⟨(some 100), none, .load none (.t 99)⟩,
  ⟨(some 101), none, .mv (.t 12)⟩,
  ⟨(some 102), none, .bin .add (.t 100) (.t 101)⟩,
  ⟨(some 103), none, .idx 2 (.t 94) (.t 95)⟩,
  ⟨(some 104), none, .fld 1 (.t 103)⟩,
  ⟨none, none, .store 1 (.t 104) (.t 102)⟩]
theorem tr13_24 : (ro Try.f13 24).toList.mapM (trO Try.prog 117 (ro Try.f13 24)) = some a13_24 := by kernel_rfl
def a13_25 : List AO := [⟨(some 105), none, .mv (.t 9)⟩,
  ⟨(some 106), none, .mv (.t 11)⟩,
  ⟨(some 107), none, .mv (.t 9)⟩,
  ⟨(some 108), none, .mv (.t 11)⟩,
  ⟨(some 109), none, .idx 2 (.t 107) (.t 108)⟩,
  ⟨(some 110), none, .fld 1 (.t 109)⟩,
  ⟨(some 111), none, .load none (.t 110)⟩,
  ⟨(some 112), none, .mv (.t 12)⟩,
  ⟨(some 113), none, .bin .sub (.t 111) (.t 112)⟩,
  ⟨(some 114), none, .idx 2 (.t 105) (.t 106)⟩,
  ⟨(some 115), none, .fld 1 (.t 114)⟩,
  ⟨none, none, .store 1 (.t 115) (.t 113)⟩]
theorem tr13_25 : (ro Try.f13 25).toList.mapM (trO Try.prog 117 (ro Try.f13 25)) = some a13_25 := by kernel_rfl
def a13_26 : List AO := [⟨(some 116), none, .mv (.t 8)⟩,
  ⟨(some 2), none, .mv (.t 116)⟩,
  ⟨(some 3), none, .mv (.v (.int .i64 0))⟩]
theorem tr13_26 : (ro Try.f13 26).toList.mapM (trO Try.prog 117 (ro Try.f13 26)) = some a13_26 := by kernel_rfl
/-- airline/airlinelaw54.same -/
noncomputable def c14 : Code := .seq (.region 0 (ro Try.f14 0) false) (.seq (.seq (.region 1 (ro Try.f14 1) false) (.cond (.tmp 10) (.seq (.region 2 (ro Try.f14 2) false) (.ret)) (.skip))) (.seq (.seq (.region 3 (ro Try.f14 3) false) (.block 0 (.loop (.seq (.seq (.region 4 (ro Try.f14 4) false) (.cond (.tmp 14) (.skip) (.exit 0))) (.seq (.block 1 (.seq (.region 6 (ro Try.f14 6) true) (.cond (.tmp 25) (.seq (.region 7 (ro Try.f14 7) false) (.ret)) (.skip)))) (.region 5 (ro Try.f14 5) false)))))) (.seq (.region 8 (ro Try.f14 8) false) (.ret))))
theorem body14 : Try.f14.body = some c14 := by kernel_rfl
theorem res14 : Try.f14.results.toList.mapM (trR Try.prog) = some [.t 4] := by kernel_rfl
theorem nt14 : Try.f14.ntmps = 26 := by kernel_rfl
theorem nm14 : (Try.f14.name == "runtime.NumGoroutine") = false := by kernel_rfl
def a14_0 : List AO := [⟨(some 4), none, .mv (.v (.bool false))⟩]
theorem tr14_0 : (ro Try.f14 0).toList.mapM (trO Try.prog 26 (ro Try.f14 0)) = some a14_0 := by kernel_rfl
def a14_1 : List AO := [⟨(some 6), none, .mv (.t 0)⟩,
  ⟨(some 7), none, .len (.t 6)⟩,
  ⟨(some 8), none, .mv (.t 1)⟩,
  ⟨(some 9), none, .len (.t 8)⟩,
  ⟨(some 10), none, .bin .neq (.t 7) (.t 9)⟩]
theorem tr14_1 : (ro Try.f14 1).toList.mapM (trO Try.prog 26 (ro Try.f14 1)) = some a14_1 := by kernel_rfl
def a14_2 : List AO := [⟨(some 4), none, .mv (.v (.bool false))⟩]
theorem tr14_2 : (ro Try.f14 2).toList.mapM (trO Try.prog 26 (ro Try.f14 2)) = some a14_2 := by kernel_rfl
def a14_3 : List AO := [⟨(some 5), none, .mv (.v (.int .i64 0))⟩]
theorem tr14_3 : (ro Try.f14 3).toList.mapM (trO Try.prog 26 (ro Try.f14 3)) = some a14_3 := by kernel_rfl
def a14_4 : List AO := [⟨(some 11), none, .mv (.t 5)⟩,
  ⟨(some 12), none, .mv (.t 0)⟩,
  ⟨(some 13), none, .len (.t 12)⟩,
  ⟨(some 14), none, .bin .lss (.t 11) (.t 13)⟩]
theorem tr14_4 : (ro Try.f14 4).toList.mapM (trO Try.prog 26 (ro Try.f14 4)) = some a14_4 := by kernel_rfl
def a14_6 : List AO := [⟨(some 17), none, .mv (.t 0)⟩,
  ⟨(some 18), none, .mv (.t 5)⟩,
  ⟨(some 19), none, .idx 3 (.t 17) (.t 18)⟩,
  ⟨(some 20), none, .load (some 3) (.t 19)⟩,
  ⟨(some 21), none, .mv (.t 1)⟩,
  ⟨(some 22), none, .mv (.t 5)⟩,
  ⟨(some 23), none, .idx 3 (.t 21) (.t 22)⟩,
  ⟨(some 24), none, .load (some 3) (.t 23)⟩,
  ⟨(some 25), none, .bina [.s, .s, .i .i64] .neq (.t 20) (.t 24)⟩]
theorem tr14_6 : (ro Try.f14 6).toList.mapM (trO Try.prog 26 (ro Try.f14 6)) = some a14_6 := by kernel_rfl
def d14_6 : List (List Nat) := [[], [], [0, 1], [0, 1, 2], [], [], [4, 5], [4, 5, 6], [0, 1, 2, 3, 4, 5, 6, 7]]
theorem ok14_6 : okReg (ro Try.f14 6) a14_6 d14_6 = true := by kernel_rfl
def a14_7 : List AO := [⟨(some 4), none, .mv (.v (.bool false))⟩]
theorem tr14_7 : (ro Try.f14 7).toList.mapM (trO Try.prog 26 (ro Try.f14 7)) = some a14_7 := by kernel_rfl
def a14_5 : List AO := [⟨(some 15), none, .mv (.t 5)⟩,
  ⟨(some 16), none, .bin .add (.t 15) (.v (.int .i64 1))⟩,
  ⟨(some 5), none, .mv (.t 16)⟩]
theorem tr14_5 : (ro Try.f14 5).toList.mapM (trO Try.prog 26 (ro Try.f14 5)) = some a14_5 := by kernel_rfl
def a14_8 : List AO := [⟨(some 4), none, .mv (.v (.bool true))⟩]
theorem tr14_8 : (ro Try.f14 8).toList.mapM (trO Try.prog 26 (ro Try.f14 8)) = some a14_8 := by kernel_rfl
/-- airline/settle.Settled -/
noncomputable def c15 : Code := .seq (.region 0 (ro Try.f15 0) false) (.seq (.region 1 (ro Try.f15 1) false) (.seq (.region 2 (ro Try.f15 2) false) (.seq (.seq (.region 3 (ro Try.f15 3) false) (.cond (.tmp 31) (.seq (.region 4 (ro Try.f15 4) false) (.ret)) (.skip))) (.seq (.region 5 (ro Try.f15 5) false) (.seq (.seq (.region 6 (ro Try.f15 6) false) (.block 0 (.loop (.seq (.region 7 (ro Try.f15 7) false) (.seq (.cond (.tmp 36) (.skip) (.exit 0)) (.seq (.block 1 (.seq (.region 8 (ro Try.f15 8) false) (.region 9 (ro Try.f15 9) false))) (.region 10 (ro Try.f15 10) false))))))) (.seq (.seq (.region 11 (ro Try.f15 11) false) (.block 2 (.loop (.seq (.region 12 (ro Try.f15 12) false) (.seq (.cond (.tmp 50) (.skip) (.exit 2)) (.seq (.block 3 (.seq (.region 13 (ro Try.f15 13) false) (.region 14 (ro Try.f15 14) false))) (.region 15 (ro Try.f15 15) false))))))) (.seq (.seq (.region 16 (ro Try.f15 16) false) (.block 4 (.loop (.seq (.region 17 (ro Try.f15 17) false) (.seq (.cond (.tmp 64) (.skip) (.exit 4)) (.block 5 (.seq (.region 18 (ro Try.f15 18) false) (.seq (.region 19 (ro Try.f15 19) false) (.cond (.tmp 68) (.seq (.region 20 (ro Try.f15 20) false) (.ret)) (.skip)))))))))) (.seq (.region 21 (ro Try.f15 21) false) (.ret)))))))))
theorem body15 : Try.f15.body = some c15 := by kernel_rfl
theorem res15 : Try.f15.results.toList.mapM (trR Try.prog) = some [.t 4] := by kernel_rfl
theorem nt15 : Try.f15.ntmps = 69 := by kernel_rfl
theorem nm15 : (Try.f15.name == "runtime.NumGoroutine") = false := by kernel_rfl
def a15_0 : List AO := [⟨(some 4), none, .mv (.v (.bool false))⟩]
theorem tr15_0 : (ro Try.f15 0).toList.mapM (trO Try.prog 69 (ro Try.f15 0)) = some a15_0 := by kernel_rfl
def a15_1 : List AO := [⟨(some 17), none, .mv (.t 0)⟩,
  ⟨(some 18), none, .call 9 [(.t 17)]⟩,
  ⟨(some 16), none, .mv (.t 18)⟩,
  ⟨(some 19), none, .ext 0 (.t 16)⟩,
  ⟨(some 20), none, .ext 1 (.t 16)⟩,
  ⟨(some 5), none, .mv (.t 19)⟩,
  ⟨(some 6), none, .mv (.t 20)⟩]
theorem tr15_1 : (ro Try.f15 1).toList.mapM (trO Try.prog 69 (ro Try.f15 1)) = some a15_1 := by kernel_rfl
def a15_2 : List AO := [⟨(some 22), none, .mv (.t 1)⟩,
  ⟨(some 23), none, .call 9 [(.t 22)]⟩,
  ⟨(some 21), none, .mv (.t 23)⟩,
  ⟨(some 24), none, .ext 0 (.t 21)⟩,
  ⟨(some 25), none, .ext 1 (.t 21)⟩,
  ⟨(some 7), none, .mv (.t 24)⟩,
  ⟨(some 8), none, .mv (.t 25)⟩]
theorem tr15_2 : (ro Try.f15 2).toList.mapM (trO Try.prog 69 (ro Try.f15 2)) = some a15_2 := by kernel_rfl
def a15_3 : List AO := [⟨(some 26), none, .mv (.t 6)⟩,
  ⟨(some 27), none, .bin .neq (.t 26) (.v (.int .i64 0))⟩,
  ⟨(some 28), none, .mv (.t 27)⟩,
  ⟨(some 29), some (28, false), .mv (.t 8)⟩,
  ⟨(some 30), some (28, false), .bin .neq (.t 29) (.v (.int .i64 0))⟩,
  ⟨(some 31), none, .pick (.t 28) (.v (.bool true)) (.t 30)⟩]
theorem tr15_3 : (ro Try.f15 3).toList.mapM (trO Try.prog 69 (ro Try.f15 3)) = some a15_3 := by kernel_rfl
def a15_4 : List AO := [⟨(some 4), none, .mv (.v (.bool false))⟩]
theorem tr15_4 : (ro Try.f15 4).toList.mapM (trO Try.prog 69 (ro Try.f15 4)) = some a15_4 := by kernel_rfl
def a15_5 : List AO := [⟨(some 32), none, .mkmap⟩,
  ⟨(some 9), none, .mv (.t 32)⟩]
theorem tr15_5 : (ro Try.f15 5).toList.mapM (trO Try.prog 69 (ro Try.f15 5)) = some a15_5 := by kernel_rfl
def a15_6 : List AO := [⟨(some 33), none, .mv (.t 5)⟩,
  ⟨(some 34), none, .len (.t 33)⟩,
  ⟨(some 35), none, .mv (.v (.int .i64 0))⟩]
theorem tr15_6 : (ro Try.f15 6).toList.mapM (trO Try.prog 69 (ro Try.f15 6)) = some a15_6 := by kernel_rfl
def a15_7 : List AO := [⟨(some 36), none, .bin .lss (.t 35) (.t 34)⟩]
theorem tr15_7 : (ro Try.f15 7).toList.mapM (trO Try.prog 69 (ro Try.f15 7)) = some a15_7 := by kernel_rfl
def a15_8 : List AO := [⟨(some 37), none, .idx 2 (.t 33) (.t 35)⟩,
  ⟨(some 38), none, .load (some 2) (.t 37)⟩,
  ⟨(some 11), none, .alloc 30 [(.str []), (.int .i64 0)]⟩,
  ⟨none, none, .store 2 (.t 11) (.t 38)⟩]
theorem tr15_8 : (ro Try.f15 8).toList.mapM (trO Try.prog 69 (ro Try.f15 8)) = some a15_8 := by kernel_rfl
def a15_9 : List AO := [⟨(some 39), none, .mv (.t 9)⟩,
  ⟨(some 40), none, .fld 0 (.t 11)⟩,
  ⟨(some 41), none, .load none (.t 40)⟩,
  ⟨(some 42), none, .look 0 false (.int .i64 0) (.t 39) (.t 41)⟩,
  ⟨(some 43), none, .fld 1 (.t 11)⟩,
  ⟨(some 44), none, .load none (.t 43)⟩,
  ⟨(some 45), none, .bin .add (.t 42) (.t 44)⟩,
  ⟨none, none, .mset 0 (.t 39) (.t 41) (.t 45)⟩]
theorem tr15_9 : (ro Try.f15 9).toList.mapM (trO Try.prog 69 (ro Try.f15 9)) = some a15_9 := by kernel_rfl
def a15_10 : List AO := [⟨(some 46), none, .bin .add (.t 35) (.v (.int .i64 1))⟩,
  ⟨(some 35), none, .mv (.t 46)⟩]
theorem tr15_10 : (ro Try.f15 10).toList.mapM (trO Try.prog 69 (ro Try.f15 10)) = some a15_10 := by kernel_rfl
def a15_11 : List AO := [⟨(some 47), none, .mv (.t 7)⟩,
  ⟨(some 48), none, .len (.t 47)⟩,
  ⟨(some 49), none, .mv (.v (.int .i64 0))⟩]
theorem tr15_11 : (ro Try.f15 11).toList.mapM (trO Try.prog 69 (ro Try.f15 11)) = some a15_11 := by kernel_rfl
def a15_12 : List AO := [⟨(some 50), none, .bin .lss (.t 49) (.t 48)⟩]
theorem tr15_12 : (ro Try.f15 12).toList.mapM (trO Try.prog 69 (ro Try.f15 12)) = some a15_12 := by kernel_rfl
def a15_13 : List AO := [⟨(some 51), none, .idx 2 (.t 47) (.t 49)⟩,
  ⟨(some 52), none, .load (some 2) (.t 51)⟩,
  ⟨(some 13), none, .alloc 30 [(.str []), (.int .i64 0)]⟩,
  ⟨none, none, .store 2 (.t 13) (.t 52)⟩]
theorem tr15_13 : (ro Try.f15 13).toList.mapM (trO Try.prog 69 (ro Try.f15 13)) = some a15_13 := by kernel_rfl
def a15_14 : List AO := [⟨(some 53), none, .mv (.t 9)⟩,
  ⟨(some 54), none, .fld 0 (.t 13)⟩,
  ⟨(some 55), none, .load none (.t 54)⟩,
  ⟨(some 56), none, .look 0 false (.int .i64 0) (.t 53) (.t 55)⟩,
  ⟨(some 57), none, .fld 1 (.t 13)⟩,
  ⟨(some 58), none, .load none (.t 57)⟩,
  ⟨(some 59), none, .bin .sub (.t 56) (.t 58)⟩,
  ⟨none, none, .mset 0 (.t 53) (.t 55) (.t 59)⟩]
theorem tr15_14 : (ro Try.f15 14).toList.mapM (trO Try.prog 69 (ro Try.f15 14)) = some a15_14 := by kernel_rfl
def a15_15 : List AO := [⟨(some 60), none, .bin .add (.t 49) (.v (.int .i64 1))⟩,
  ⟨(some 49), none, .mv (.t 60)⟩]
theorem tr15_15 : (ro Try.f15 15).toList.mapM (trO Try.prog 69 (ro Try.f15 15)) = some a15_15 := by kernel_rfl
-- region 16: not translated: !! range 41 t61
def a15_16p : List AO := [⟨(some 61), none, .mv (.t 9)⟩]
theorem tr15_16p : (ro Try.f15 16).toList.dropLast.mapM (trO Try.prog 69 (ro Try.f15 16)) = some a15_16p := by kernel_rfl
-- region 17: not translated: !! next false t62
-- region 18: not translated: !! entry t62
def a15_18s : List AO := [⟨(some 66), none, .ext 1 (.t 65)⟩,
  ⟨(some 15), none, .mv (.t 66)⟩]
theorem tr15_18s : (ro Try.f15 18).toList.tail.mapM (trO Try.prog 69 (ro Try.f15 18)) = some a15_18s := by kernel_rfl
def a15_19 : List AO := [⟨(some 67), none, .mv (.t 15)⟩,
  ⟨(some 68), none, .bin .neq (.t 67) (.v (.int .i64 0))⟩]
theorem tr15_19 : (ro Try.f15 19).toList.mapM (trO Try.prog 69 (ro Try.f15 19)) = some a15_19 := by kernel_rfl
def a15_20 : List AO := [⟨(some 4), none, .mv (.v (.bool false))⟩]
theorem tr15_20 : (ro Try.f15 20).toList.mapM (trO Try.prog 69 (ro Try.f15 20)) = some a15_20 := by kernel_rfl
def a15_21 : List AO := [⟨(some 4), none, .mv (.v (.bool true))⟩]
theorem tr15_21 : (ro Try.f15 21).toList.mapM (trO Try.prog 69 (ro Try.f15 21)) = some a15_21 := by kernel_rfl
/-- airline/airlineref54.Settled -/
noncomputable def c16 : Code := .seq (.region 0 (ro Try.f16 0) false) (.seq (.region 1 (ro Try.f16 1) false) (.seq (.region 2 (ro Try.f16 2) false) (.seq (.seq (.region 3 (ro Try.f16 3) false) (.cond (.tmp 26) (.seq (.region 4 (ro Try.f16 4) false) (.ret)) (.skip))) (.seq (.seq (.region 5 (ro Try.f16 5) false) (.block 0 (.loop (.seq (.seq (.region 6 (ro Try.f16 6) false) (.cond (.tmp 30) (.skip) (.exit 0))) (.seq (.block 1 (.seq (.region 8 (ro Try.f16 8) true) (.cond (.tmp 45) (.seq (.region 9 (ro Try.f16 9) false) (.ret)) (.skip)))) (.region 7 (ro Try.f16 7) false)))))) (.seq (.seq (.region 10 (ro Try.f16 10) false) (.block 2 (.loop (.seq (.seq (.region 11 (ro Try.f16 11) false) (.cond (.tmp 49) (.skip) (.exit 2))) (.seq (.block 3 (.seq (.region 13 (ro Try.f16 13) true) (.cond (.tmp 64) (.seq (.region 14 (ro Try.f16 14) false) (.ret)) (.skip)))) (.region 12 (ro Try.f16 12) false)))))) (.seq (.region 15 (ro Try.f16 15) false) (.ret)))))))
theorem body16 : Try.f16.body = some c16 := by kernel_rfl
theorem res16 : Try.f16.results.toList.mapM (trR Try.prog) = some [.t 4] := by kernel_rfl
theorem nt16 : Try.f16.ntmps = 65 := by kernel_rfl
theorem nm16 : (Try.f16.name == "runtime.NumGoroutine") = false := by kernel_rfl
def a16_0 : List AO := [⟨(some 4), none, .mv (.v (.bool false))⟩]
theorem tr16_0 : (ro Try.f16 0).toList.mapM (trO Try.prog 65 (ro Try.f16 0)) = some a16_0 := by kernel_rfl
def a16_1 : List AO := [⟨(some 12), none, .mv (.t 0)⟩,
  ⟨(some 13), none, .call 10 [(.t 12)]⟩,
  ⟨(some 11), none, .mv (.t 13)⟩,
  ⟨(some 14), none, .ext 0 (.t 11)⟩,
  ⟨(some 15), none, .ext 1 (.t 11)⟩,
  ⟨(some 5), none, .mv (.t 14)⟩,
  ⟨(some 6), none, .mv (.t 15)⟩]
theorem tr16_1 : (ro Try.f16 1).toList.mapM (trO Try.prog 65 (ro Try.f16 1)) = some a16_1 := by kernel_rfl
def a16_2 : List AO := [⟨(some 17), none, .mv (.t 1)⟩,
  ⟨(some 18), none, .call 10 [(.t 17)]⟩,
  ⟨(some 16), none, .mv (.t 18)⟩,
  ⟨(some 19), none, .ext 0 (.t 16)⟩,
  ⟨(some 20), none, .ext 1 (.t 16)⟩,
  ⟨(some 7), none, .mv (.t 19)⟩,
  ⟨(some 8), none, .mv (.t 20)⟩]
theorem tr16_2 : (ro Try.f16 2).toList.mapM (trO Try.prog 65 (ro Try.f16 2)) = some a16_2 := by kernel_rfl
def a16_3 : List AO := [⟨(some 21), none, .mv (.t 6)⟩,
  ⟨(some 22), none, .bin .neq (.t 21) (.v (.int .i64 0))⟩,
  ⟨(some 23), none, .mv (.t 22)⟩,
  ⟨(some 24), some (23, false), .mv (.t 8)⟩,
  ⟨(some 25), some (23, false), .bin .neq (.t 24) (.v (.int .i64 0))⟩,
  ⟨(some 26), none, .pick (.t 23) (.v (.bool true)) (.t 25)⟩]
theorem tr16_3 : (ro Try.f16 3).toList.mapM (trO Try.prog 65 (ro Try.f16 3)) = some a16_3 := by kernel_rfl
def a16_4 : List AO := [⟨(some 4), none, .mv (.v (.bool false))⟩]
theorem tr16_4 : (ro Try.f16 4).toList.mapM (trO Try.prog 65 (ro Try.f16 4)) = some a16_4 := by kernel_rfl
def a16_5 : List AO := [⟨(some 9), none, .mv (.v (.int .i64 0))⟩]
theorem tr16_5 : (ro Try.f16 5).toList.mapM (trO Try.prog 65 (ro Try.f16 5)) = some a16_5 := by kernel_rfl
def a16_6 : List AO := [⟨(some 27), none, .mv (.t 9)⟩,
  ⟨(some 28), none, .mv (.t 5)⟩,
  ⟨(some 29), none, .len (.t 28)⟩,
  ⟨(some 30), none, .bin .lss (.t 27) (.t 29)⟩]
theorem tr16_6 : (ro Try.f16 6).toList.mapM (trO Try.prog 65 (ro Try.f16 6)) = some a16_6 := by kernel_rfl
def a16_8 : List AO := [⟨(some 33), none, .mv (.t 7)⟩,
  ⟨(some 34), none, .mv (.t 5)⟩,
  ⟨(some 35), none, .mv (.t 9)⟩,
  ⟨(some 36), none, .idx 2 (.t 34) (.t 35)⟩,
  ⟨(some 37), none, .fld 0 (.t 36)⟩,
  ⟨(some 38), none, .load none (.t 37)⟩,
  ⟨(some 39), none, .call 29 [(.t 33), (.t 38)]⟩,
  ⟨(some 40), none, .mv (.t 5)⟩,
  ⟨(some 41), none, .mv (.t 9)⟩,
  ⟨(some 42), none, .idx 2 (.t 40) (.t 41)⟩,
  ⟨(some 43), none, .fld 1 (.t 42)⟩,
  ⟨(some 44), none, .load none (.t 43)⟩,
  ⟨(some 45), none, .bin .neq (.t 39) (.t 44)⟩]
theorem tr16_8 : (ro Try.f16 8).toList.mapM (trO Try.prog 65 (ro Try.f16 8)) = some a16_8 := by kernel_rfl
def d16_8 : List (List Nat) := [[], [], [], [1, 2], [1, 2, 3], [1, 2, 3, 4], [0, 1, 2, 3, 4, 5], [], [], [7, 8], [7, 8, 9], [7, 8, 9, 10], [0, 1, 2, 3, 4, 5, 6, 7, 8, 9, 10, 11]]
theorem ok16_8 : okReg (ro Try.f16 8) a16_8 d16_8 = true := by kernel_rfl
def a16_9 : List AO := [⟨(some 4), none, .mv (.v (.bool false))⟩]
theorem tr16_9 : (ro Try.f16 9).toList.mapM (trO Try.prog 65 (ro Try.f16 9)) = some a16_9 := by kernel_rfl
def a16_7 : List AO := [⟨(some 31), none, .mv (.t 9)⟩,
  ⟨(some 32), none, .bin .add (.t 31) (.v (.int .i64 1))⟩,
  ⟨(some 9), none, .mv (.t 32)⟩]
theorem tr16_7 : (ro Try.f16 7).toList.mapM (trO Try.prog 65 (ro Try.f16 7)) = some a16_7 := by kernel_rfl
def a16_10 : List AO := [⟨(some 10), none, .mv (.v (.int .i64 0))⟩]
theorem tr16_10 : (ro Try.f16 10).toList.mapM (trO Try.prog 65 (ro Try.f16 10)) = some a16_10 := by kernel_rfl
def a16_11 : List AO := [⟨(some 46), none, .mv (.t 10)⟩,
  ⟨(some 47), none, .mv (.t 7)⟩,
  ⟨(some 48), none, .len (.t 47)⟩,
  ⟨(some 49), none, .bin .lss (.t 46) (.t 48)⟩]
theorem tr16_11 : (ro Try.f16 11).toList.mapM (trO Try.prog 65 (ro Try.f16 11)) = some a16_11 := by kernel_rfl
def a16_13 : List AO := [⟨(some 52), none, .mv (.t 5)⟩,
  ⟨(some 53), none, .mv (.t 7)⟩,
  ⟨(some 54), none, .mv (.t 10)⟩,
  ⟨(some 55), none, .idx 2 (.t 53) (.t 54)⟩,
  ⟨(some 56), none, .fld 0 (.t 55)⟩,
  ⟨(some 57), none, .load none (.t 56)⟩,
  ⟨(some 58), none, .call 29 [(.t 52), (.t 57)]⟩,
  ⟨(some 59), none, .mv (.t 7)⟩,
  ⟨(some 60), none, .mv (.t 10)⟩,
  ⟨(some 61), none, .idx 2 (.t 59) (.t 60)⟩,
  ⟨(some 62), none, .fld 1 (.t 61)⟩,
  ⟨(some 63), none, .load none (.t 62)⟩,
  ⟨(some 64), none, .bin .neq (.t 58) (.t 63)⟩]
theorem tr16_13 : (ro Try.f16 13).toList.mapM (trO Try.prog 65 (ro Try.f16 13)) = some a16_13 := by kernel_rfl
def d16_13 : List (List Nat) := [[], [], [], [1, 2], [1, 2, 3], [1, 2, 3, 4], [0, 1, 2, 3, 4, 5], [], [], [7, 8], [7, 8, 9], [7, 8, 9, 10], [0, 1, 2, 3, 4, 5, 6, 7, 8, 9, 10, 11]]
theorem ok16_13 : okReg (ro Try.f16 13) a16_13 d16_13 = true := by kernel_rfl
def a16_14 : List AO := [⟨(some 4), none, .mv (.v (.bool false))⟩]
theorem tr16_14 : (ro Try.f16 14).toList.mapM (trO Try.prog 65 (ro Try.f16 14)) = some a16_14 := by kernel_rfl
def a16_12 : List AO := [⟨(some 50), none, .mv (.t 10)⟩,
  ⟨(some 51), none, .bin .add (.t 50) (.v (.int .i64 1))⟩,
  ⟨(some 10), none, .mv (.t 51)⟩]
theorem tr16_12 : (ro Try.f16 12).toList.mapM (trO Try.prog 65 (ro Try.f16 12)) = some a16_12 := by kernel_rfl
def a16_15 : List AO := [⟨(some 4), none, .mv (.v (.bool true))⟩]
theorem tr16_15 : (ro Try.f16 15).toList.mapM (trO Try.prog 65 (ro Try.f16 15)) = some a16_15 := by kernel_rfl
/-- airline/settle.Bill -/
noncomputable def c17 : Code := .seq (.region 0 (ro Try.f17 0) false) (.seq (.region 1 (ro Try.f17 1) false) (.seq (.seq (.region 2 (ro Try.f17 2) false) (.block 0 (.loop (.seq (.region 3 (ro Try.f17 3) false) (.seq (.cond (.tmp 11) (.skip) (.exit 0)) (.seq (.block 1 (.seq (.region 4 (ro Try.f17 4) false) (.seq (.region 5 (ro Try.f17 5) false) (.cond (.tmp 22) (.region 6 (ro Try.f17 6) false) (.skip))))) (.region 7 (ro Try.f17 7) false))))))) (.seq (.region 8 (ro Try.f17 8) false) (.ret))))
theorem body17 : Try.f17.body = some c17 := by kernel_rfl
theorem res17 : Try.f17.results.toList.mapM (trR Try.prog) = some [.t 4] := by kernel_rfl
theorem nt17 : Try.f17.ntmps = 34 := by kernel_rfl
theorem nm17 : (Try.f17.name == "runtime.NumGoroutine") = false := by kernel_rfl
def a17_0 : List AO := [⟨(some 4), none, .mv (.v .nils)⟩]
theorem tr17_0 : (ro Try.f17 0).toList.mapM (trO Try.prog 34 (ro Try.f17 0)) = some a17_0 := by kernel_rfl
def a17_1 : List AO := [⟨(some 5), none, .mv (.v .nils)⟩]
theorem tr17_1 : (ro Try.f17 1).toList.mapM (trO Try.prog 34 (ro Try.f17 1)) = some a17_1 := by kernel_rfl
def a17_2 : List AO := [⟨(some 8), none, .mv (.t 1)⟩,
  ⟨(some 9), none, .len (.t 8)⟩,
  ⟨(some 10), none, .mv (.v (.int .i64 0))⟩]
theorem tr17_2 : (ro Try.f17 2).toList.mapM (trO Try.prog 34 (ro Try.f17 2)) = some a17_2 := by kernel_rfl
def a17_3 : List AO := [⟨(some 11), none, .bin .lss (.t 10) (.t 9)⟩]
theorem tr17_3 : (ro Try.f17 3).toList.mapM (trO Try.prog 34 (ro Try.f17 3)) = some a17_3 := by kernel_rfl
def a17_4 : List AO := [⟨(some 12), none, .idx 2 (.t 8) (.t 10)⟩,
  ⟨(some 13), none, .load (some 2) (.t 12)⟩,
  ⟨(some 7), none, .alloc 30 [(.str []), (.int .i64 0)]⟩,
  ⟨none, none, .store 2 (.t 7) (.t 13)⟩]
theorem tr17_4 : (ro Try.f17 4).toList.mapM (trO Try.prog 34 (ro Try.f17 4)) = some a17_4 := by kernel_rfl
def a17_5 : List AO := [⟨(some 14), none, .fld 0 (.t 7)⟩,
  ⟨(some 15), none, .load none (.t 14)⟩,
  ⟨(some 16), none, .mv (.t 0)⟩,
  ⟨(some 17), none, .bin .neq (.t 15) (.t 16)⟩,
  ⟨(some 18), none, .mv (.t 17)⟩,
  ⟨(some 19), some (18, true), .fld 1 (.t 7)⟩,
  ⟨(some 20), some (18, true), .load none (.t 19)⟩,
  ⟨(some 21), some (18, true), .bin .neq (.t 20) (.v (.int .i64 0))⟩,
  ⟨(some 22), none, .pick (.t 18) (.t 21) (.v (.bool false))⟩]
theorem tr17_5 : (ro Try.f17 5).toList.mapM (trO Try.prog 34 (ro Try.f17 5)) = some a17_5 := by kernel_rfl
def a17_6 : List AO := [⟨(some 23), none, .mv (.t 5)⟩,
  ⟨(some 24), none, .mv (.t 0)⟩,
  ⟨(some 25), none, .fld 0 (.t 7)⟩,
  ⟨(some 26), none, .load none (.t 25)⟩,
  ⟨(some 27), none, .fld 1 (.t 7)⟩,
  ⟨(some 28), none, .load none (.t 27)⟩,
  ⟨(some 29), none, .build [(.str []), (.str []), (.int .i64 0)] [(0, 1, (.t 24)), (1, 1, (.t 26)), (2, 1, (.t 28))]⟩,
  ⟨(some 30), none, .slc 37 3 false [(.t 29)]⟩,
  ⟨(some 31), none, .app 37 3 40 (.t 23) (.t 30)⟩,
  ⟨(some 5), none, .mv (.t 31)⟩]
theorem tr17_6 : (ro Try.f17 6).toList.mapM (trO Try.prog 34 (ro Try.f17 6)) = some a17_6 := by kernel_rfl
def a17_7 : List AO := [⟨(some 32), none, .bin .add (.t 10) (.v (.int .i64 1))⟩,
  ⟨(some 10), none, .mv (.t 32)⟩]
theorem tr17_7 : (ro Try.f17 7).toList.mapM (trO Try.prog 34 (ro Try.f17 7)) = some a17_7 := by kernel_rfl
def a17_8 : List AO := [⟨(some 33), none, .mv (.t 5)⟩,
  ⟨(some 4), none, .mv (.t 33)⟩]
theorem tr17_8 : (ro Try.f17 8).toList.mapM (trO Try.prog 34 (ro Try.f17 8)) = some a17_8 := by kernel_rfl
/-- airline/airlineref54.Bill -/
noncomputable def c18 : Code := .seq (.region 0 (ro Try.f18 0) false) (.seq (.region 1 (ro Try.f18 1) false) (.seq (.seq (.region 2 (ro Try.f18 2) false) (.block 0 (.loop (.seq (.seq (.region 3 (ro Try.f18 3) false) (.cond (.tmp 10) (.skip) (.exit 0))) (.seq (.block 1 (.seq (.region 5 (ro Try.f18 5) false) (.cond (.tmp 27) (.region 6 (ro Try.f18 6) true) (.skip)))) (.region 4 (ro Try.f18 4) false)))))) (.seq (.region 7 (ro Try.f18 7) false) (.ret))))
theorem body18 : Try.f18.body = some c18 := by kernel_rfl
theorem res18 : Try.f18.results.toList.mapM (trR Try.prog) = some [.t 4] := by kernel_rfl
theorem nt18 : Try.f18.ntmps = 44 := by kernel_rfl
theorem nm18 : (Try.f18.name == "runtime.NumGoroutine") = false := by kernel_rfl
def a18_0 : List AO := [⟨(some 4), none, .mv (.v .nils)⟩]
theorem tr18_0 : (ro Try.f18 0).toList.mapM (trO Try.prog 44 (ro Try.f18 0)) = some a18_0 := by kernel_rfl
def a18_1 : List AO := [⟨(some 5), none, .mv (.v .nils)⟩]
theorem tr18_1 : (ro Try.f18 1).toList.mapM (trO Try.prog 44 (ro Try.f18 1)) = some a18_1 := by kernel_rfl
def a18_2 : List AO := [⟨(some 6), none, .mv (.v (.int .i64 0))⟩]
theorem tr18_2 : (ro Try.f18 2).toList.mapM (trO Try.prog 44 (ro Try.f18 2)) = some a18_2 := by kernel_rfl
def a18_3 : List AO := [⟨(some 7), none, .mv (.t 6)⟩,
  ⟨(some 8), none, .mv (.t 1)⟩,
  ⟨(some 9), none, .len (.t 8)⟩,
  ⟨(some 10), none, .bin .lss (.t 7) (.t 9)⟩]
theorem tr18_3 : (ro Try.f18 3).toList.mapM (trO Try.prog 44 (ro Try.f18 3)) = some a18_3 := by kernel_rfl
def a18_5 : List AO := [⟨(some 13), none, .mv (.t 1)⟩,
  ⟨(some 14), none, .mv (.t 6)⟩,
  ⟨(some 15), none, .idx 2 (.t 13) (.t 14)⟩,
  ⟨(some 16), none, .fld 0 (.t 15)⟩,
  ⟨(some 17), none, .load none (.t 16)⟩,
  ⟨(some 18), none, .mv (.t 0)⟩,
  ⟨(some 19), none, .bin .neq (.t 17) (.t 18)⟩,
  ⟨(some 20), none, .mv (.t 19)⟩,
  ⟨(some 21), some (20, true), .mv (.t 1)⟩,
  ⟨(some 22), some (20, true), .mv (.t 6)⟩,
  ⟨(some 23), some (20, true), .idx 2 (.t 21) (.t 22)⟩,
  ⟨(some 24), some (20, true), .fld 1 (.t 23)⟩,
  ⟨(some 25), some (20, true), .load none (.t 24)⟩,
  ⟨(some 26), some (20, true), .bin .neq (.t 25) (.v (.int .i64 0))⟩,
  ⟨(some 27), none, .pick (.t 20) (.t 26) (.v (.bool false))⟩]
theorem tr18_5 : (ro Try.f18 5).toList.mapM (trO Try.prog 44 (ro Try.f18 5)) = some a18_5 := by kernel_rfl
def a18_6 : List AO := [⟨(some 28), none, .mv (.t 5)⟩,
  ⟨(some 29), none, .mv (.t 0)⟩,
  ⟨(some 30), none, .mv (.t 1)⟩,
  ⟨(some 31), none, .mv (.t 6)⟩,
  ⟨(some 32), none, .idx 2 (.t 30) (.t 31)⟩,
  ⟨(some 33), none, .fld 0 (.t 32)⟩,
  ⟨(some 34), none, .load none (.t 33)⟩,
  ⟨(some 35), none, .mv (.t 1)⟩,
  ⟨(some 36), none, .mv (.t 6)⟩,
  ⟨(some 37), none, .idx 2 (.t 35) (.t 36)⟩,
  ⟨(some 38), none, .fld 1 (.t 37)⟩,
  ⟨(some 39), none, .load none (.t 38)⟩,
  ⟨(some 40), none, .build [(.str []), (.str []), (.int .i64 0)] [(0, 1, (.t 29)), (1, 1, (.t 34)), (2, 1, (.t 39))]⟩,
  ⟨(some 41), none, .slc 37 3 false [(.t 40)]⟩,
  ⟨(some 42), none, .app 37 3 40 (.t 28) (.t 41)⟩,
  ⟨(some 5), none, .mv (.t 42)⟩]
theorem tr18_6 : (ro Try.f18 6).toList.mapM (trO Try.prog 44 (ro Try.f18 6)) = some a18_6 := by kernel_rfl
def d18_6 : List (List Nat) := [[], [], [], [], [2, 3], [2, 3, 4], [2, 3, 4, 5], [], [], [7, 8], [7, 8, 9], [7, 8, 9, 10], [1, 2, 3, 4, 5, 6, 7, 8, 9, 10, 11], [1, 2, 3, 4, 5, 6, 7, 8, 9, 10, 11, 12], [0, 1, 2, 3, 4, 5, 6, 7, 8, 9, 10, 11, 12, 13], [0, 1, 2, 3, 4, 5, 6, 7, 8, 9, 10, 11, 12, 13, 14]]
theorem ok18_6 : okReg (ro Try.f18 6) a18_6 d18_6 = true := by kernel_rfl
def a18_4 : List AO := [⟨(some 11), none, .mv (.t 6)⟩,
  ⟨(some 12), none, .bin .add (.t 11) (.v (.int .i64 1))⟩,
  ⟨(some 6), none, .mv (.t 12)⟩]
theorem tr18_4 : (ro Try.f18 4).toList.mapM (trO Try.prog 44 (ro Try.f18 4)) = some a18_4 := by kernel_rfl
def a18_7 : List AO := [⟨(some 43), none, .mv (.t 5)⟩,
  ⟨(some 4), none, .mv (.t 43)⟩]
theorem tr18_7 : (ro Try.f18 7).toList.mapM (trO Try.prog 44 (ro Try.f18 7)) = some a18_7 := by kernel_rfl
/-- airline/airlinelaw54.own -/
noncomputable def c19 : Code := .seq (.region 0 (ro Try.f19 0) false) (.seq (.region 1 (ro Try.f19 1) false) (.seq (.seq (.region 2 (ro Try.f19 2) false) (.block 0 (.loop (.seq (.seq (.region 3 (ro Try.f19 3) false) (.cond (.tmp 10) (.skip) (.exit 0))) (.seq (.block 1 (.seq (.region 5 (ro Try.f19 5) false) (.cond (.tmp 19) (.region 6 (ro Try.f19 6) false) (.skip)))) (.region 4 (ro Try.f19 4) false)))))) (.seq (.region 7 (ro Try.f19 7) false) (.ret))))
theorem body19 : Try.f19.body = some c19 := by kernel_rfl
theorem res19 : Try.f19.results.toList.mapM (trR Try.prog) = some [.t 4] := by kernel_rfl
theorem nt19 : Try.f19.ntmps = 28 := by kernel_rfl
theorem nm19 : (Try.f19.name == "runtime.NumGoroutine") = false := by kernel_rfl
def a19_0 : List AO := [⟨(some 4), none, .mv (.v (.int .i64 0))⟩]
theorem tr19_0 : (ro Try.f19 0).toList.mapM (trO Try.prog 28 (ro Try.f19 0)) = some a19_0 := by kernel_rfl
def a19_1 : List AO := [⟨(some 5), none, .mv (.v (.int .i64 0))⟩]
theorem tr19_1 : (ro Try.f19 1).toList.mapM (trO Try.prog 28 (ro Try.f19 1)) = some a19_1 := by kernel_rfl
def a19_2 : List AO := [⟨(some 6), none, .mv (.v (.int .i64 0))⟩]
theorem tr19_2 : (ro Try.f19 2).toList.mapM (trO Try.prog 28 (ro Try.f19 2)) = some a19_2 := by kernel_rfl
def a19_3 : List AO := [⟨(some 7), none, .mv (.t 6)⟩,
  ⟨(some 8), none, .mv (.t 0)⟩,
  ⟨(some 9), none, .len (.t 8)⟩,
  ⟨(some 10), none, .bin .lss (.t 7) (.t 9)⟩]
theorem tr19_3 : (ro Try.f19 3).toList.mapM (trO Try.prog 28 (ro Try.f19 3)) = some a19_3 := by kernel_rfl
def a19_5 : List AO := [⟨(some 13), none, .mv (.t 0)⟩,
  ⟨(some 14), none, .mv (.t 6)⟩,
  ⟨(some 15), none, .idx 2 (.t 13) (.t 14)⟩,
  ⟨(some 16), none, .fld 0 (.t 15)⟩,
  ⟨(some 17), none, .load none (.t 16)⟩,
  ⟨(some 18), none, .mv (.t 1)⟩,
  ⟨(some 19), none, .bin .eql (.t 17) (.t 18)⟩]
theorem tr19_5 : (ro Try.f19 5).toList.mapM (trO Try.prog 28 (ro Try.f19 5)) = some a19_5 := by kernel_rfl
def a19_6 : List AO := [⟨(some 20), none, .mv (.t 5)⟩,
  ⟨(some 21), none, .mv (.t 0)⟩,
  ⟨(some 22), none, .mv (.t 6)⟩,
  ⟨(some 23), none, .idx 2 (.t 21) (.t 22)⟩,
  ⟨(some 24), none, .fld 1 (.t 23)⟩,
  ⟨(some 25), none, .load none (.t 24)⟩,
  ⟨(some 26), none, .bin .add (.t 20) (.t 25)⟩,
  ⟨(some 5), none, .mv (.t 26)⟩]
theorem tr19_6 : (ro Try.f19 6).toList.mapM (trO Try.prog 28 (ro Try.f19 6)) = some a19_6 := by kernel_rfl
def a19_4 : List AO := [⟨(some 11), none, .mv (.t 6)⟩,
  ⟨(some 12), none, .bin .add (.t 11) (.v (.int .i64 1))⟩,
  ⟨(some 6), none, .mv (.t 12)⟩]
theorem tr19_4 : (ro Try.f19 4).toList.mapM (trO Try.prog 28 (ro Try.f19 4)) = some a19_4 := by kernel_rfl
def a19_7 : List AO := [⟨(some 27), none, .mv (.t 5)⟩,
  ⟨(some 4), none, .mv (.t 27)⟩]
theorem tr19_7 : (ro Try.f19 7).toList.mapM (trO Try.prog 28 (ro Try.f19 7)) = some a19_7 := by kernel_rfl
/-- airline/settle.out -/
noncomputable def c20 : Code := .seq (.region 0 (ro Try.f20 0) false) (.seq (.region 1 (ro Try.f20 1) false) (.ret))
theorem body20 : Try.f20.body = some c20 := by kernel_rfl
theorem res20 : Try.f20.results.toList.mapM (trR Try.prog) = some [.t 2] := by kernel_rfl
theorem nt20 : Try.f20.ntmps = 9 := by kernel_rfl
theorem nm20 : (Try.f20.name == "runtime.NumGoroutine") = false := by kernel_rfl
def a20_0 : List AO := [⟨(some 2), none, .mv (.v (.bool false))⟩]
theorem tr20_0 : (ro Try.f20 0).toList.mapM (trO Try.prog 9 (ro Try.f20 0)) = some a20_0 := by kernel_rfl
def a20_1 : List AO := [⟨(some 3), none, .mv (.t 0)⟩,
  ⟨(some 4), none, .bin .lss (.t 3) (.v (.int .i64 (-1099511627776)))⟩,
  ⟨(some 5), none, .mv (.t 4)⟩,
  ⟨(some 6), some (5, false), .mv (.t 0)⟩,
  ⟨(some 7), some (5, false), .bin .gtr (.t 6) (.v (.int .i64 1099511627776))⟩,
  ⟨(some 8), none, .pick (.t 5) (.v (.bool true)) (.t 7)⟩,
  ⟨(some 2), none, .mv (.t 8)⟩]
theorem tr20_1 : (ro Try.f20 1).toList.mapM (trO Try.prog 9 (ro Try.f20 1)) = some a20_1 := by kernel_rfl
/-- slices.Sorted[string] -/
noncomputable def c21 : Code := .seq (.region 0 (ro Try.f21 0) false) (.seq (.region 1 (ro Try.f21 1) false) (.seq (.region 2 (ro Try.f21 2) false) (.seq (.region 3 (ro Try.f21 3) false) (.ret))))
theorem body21 : Try.f21.body = some c21 := by kernel_rfl
theorem res21 : Try.f21.results.toList.mapM (trR Try.prog) = some [.t 2] := by kernel_rfl
theorem nt21 : Try.f21.ntmps = 9 := by kernel_rfl
theorem nm21 : (Try.f21.name == "runtime.NumGoroutine") = false := by kernel_rfl
def a21_0 : List AO := [⟨(some 2), none, .mv (.v .nils)⟩]
theorem tr21_0 : (ro Try.f21 0).toList.mapM (trO Try.prog 9 (ro Try.f21 0)) = some a21_0 := by kernel_rfl
def a21_1 : List AO := [⟨(some 4), none, .mv (.t 0)⟩,
  ⟨(some 5), none, .call 30 [(.t 4)]⟩,
  ⟨(some 3), none, .mv (.t 5)⟩]
theorem tr21_1 : (ro Try.f21 1).toList.mapM (trO Try.prog 9 (ro Try.f21 1)) = some a21_1 := by kernel_rfl
def a21_2 : List AO := [⟨(some 6), none, .mv (.t 3)⟩,
  ⟨(some 7), none, .call 31 [(.t 6)]⟩]
theorem tr21_2 : (ro Try.f21 2).toList.mapM (trO Try.prog 9 (ro Try.f21 2)) = some a21_2 := by kernel_rfl
def a21_3 : List AO := [⟨(some 8), none, .mv (.t 3)⟩,
  ⟨(some 2), none, .mv (.t 8)⟩]
theorem tr21_3 : (ro Try.f21 3).toList.mapM (trO Try.prog 9 (ro Try.f21 3)) = some a21_3 := by kernel_rfl
/-- maps.Keys[map[string]int,string,int] -/
noncomputable def c22 : Code := .seq (.region 0 (ro Try.f22 0) false) (.seq (.region 1 (ro Try.f22 1) false) (.ret))
theorem body22 : Try.f22.body = some c22 := by kernel_rfl
theorem res22 : Try.f22.results.toList.mapM (trR Try.prog) = some [.t 2] := by kernel_rfl
theorem nt22 : Try.f22.ntmps = 4 := by kernel_rfl
theorem nm22 : (Try.f22.name == "runtime.NumGoroutine") = false := by kernel_rfl
def a22_0 : List AO := [⟨(some 1), none, .box 41 (.t 0)⟩,
  ⟨(some 2), none, .mv (.v .any)⟩]
theorem tr22_0 : (ro Try.f22 0).toList.mapM (trO Try.prog 4 (ro Try.f22 0)) = some a22_0 := by kernel_rfl
def a22_1 : List AO := [⟨(some 3), none, .mkfn 32 [(.t 1)]⟩,
  ⟨(some 2), none, .mv (.t 3)⟩]
theorem tr22_1 : (ro Try.f22 1).toList.mapM (trO Try.prog 4 (ro Try.f22 1)) = some a22_1 := by kernel_rfl
/-- airline/airlineref54.within -/
noncomputable def c23 : Code := .seq (.region 0 (ro Try.f23 0) false) (.seq (.region 1 (ro Try.f23 1) false) (.ret))
theorem body23 : Try.f23.body = some c23 := by kernel_rfl
theorem res23 : Try.f23.results.toList.mapM (trR Try.prog) = some [.t 2] := by kernel_rfl
theorem nt23 : Try.f23.ntmps = 9 := by kernel_rfl
theorem nm23 : (Try.f23.name == "runtime.NumGoroutine") = false := by kernel_rfl
def a23_0 : List AO := [⟨(some 2), none, .mv (.v (.bool false))⟩]
theorem tr23_0 : (ro Try.f23 0).toList.mapM (trO Try.prog 9 (ro Try.f23 0)) = some a23_0 := by kernel_rfl
def a23_1 : List AO := [⟨(some 3), none, .mv (.t 0)⟩,
  ⟨(some 4), none, .bin .geq (.t 3) (.v (.int .i64 (-1099511627776)))⟩,
  ⟨(some 5), none, .mv (.t 4)⟩,
  ⟨(some 6), some (5, true), .mv (.t 0)⟩,
  ⟨(some 7), some (5, true), .bin .leq (.t 6) (.v (.int .i64 1099511627776))⟩,
  ⟨(some 8), none, .pick (.t 5) (.t 7) (.v (.bool false))⟩,
  ⟨(some 2), none, .mv (.t 8)⟩]
theorem tr23_1 : (ro Try.f23 1).toList.mapM (trO Try.prog 9 (ro Try.f23 1)) = some a23_1 := by kernel_rfl
/-- airline/airlineref54.add -/
noncomputable def c24 : Code := .seq (.region 0 (ro Try.f24 0) false) (.seq (.seq (.region 1 (ro Try.f24 1) false) (.block 0 (.loop (.seq (.seq (.region 2 (ro Try.f24 2) false) (.cond (.tmp 12) (.skip) (.exit 0))) (.seq (.block 1 (.seq (.seq (.region 4 (ro Try.f24 4) false) (.cond (.tmp 21) (.seq (.region 5 (ro Try.f24 5) false) (.seq (.region 6 (ro Try.f24 6) false) (.ret))) (.skip))) (.seq (.region 7 (ro Try.f24 7) false) (.cond (.tmp 40) (.seq (.region 8 (ro Try.f24 8) false) (.seq (.region 9 (ro Try.f24 9) false) (.ret))) (.skip))))) (.region 3 (ro Try.f24 3) false)))))) (.seq (.region 10 (ro Try.f24 10) false) (.ret)))
theorem body24 : Try.f24.body = some c24 := by kernel_rfl
theorem res24 : Try.f24.results.toList.mapM (trR Try.prog) = some [.t 6] := by kernel_rfl
theorem nt24 : Try.f24.ntmps = 61 := by kernel_rfl
theorem nm24 : (Try.f24.name == "runtime.NumGoroutine") = false := by kernel_rfl
def a24_0 : List AO := [⟨(some 6), none, .mv (.v .nils)⟩]
theorem tr24_0 : (ro Try.f24 0).toList.mapM (trO Try.prog 61 (ro Try.f24 0)) = some a24_0 := by kernel_rfl
def a24_1 : List AO := [⟨(some 7), none, .mv (.v (.int .i64 0))⟩]
theorem tr24_1 : (ro Try.f24 1).toList.mapM (trO Try.prog 61 (ro Try.f24 1)) = some a24_1 := by kernel_rfl
def a24_2 : List AO := [⟨(some 9), none, .mv (.t 7)⟩,
  ⟨(some 10), none, .mv (.t 0)⟩,
  ⟨(some 11), none, .len (.t 10)⟩,
  ⟨(some 12), none, .bin .lss (.t 9) (.t 11)⟩]
theorem tr24_2 : (ro Try.f24 2).toList.mapM (trO Try.prog 61 (ro Try.f24 2)) = some a24_2 := by kernel_rfl
def a24_4 : List AO := [⟨(some 15), none, .mv (.t 0)⟩,
  ⟨(some 16), none, .mv (.t 7)⟩,
  ⟨(some 17), none, .idx 2 (.t 15) (.t 16)⟩,
  ⟨(some 18), none, .fld 0 (.t 17)⟩,
  ⟨(some 19), none, .load none (.t 18)⟩,
  ⟨(some 20), none, .mv (.t 1)⟩,
  ⟨(some 21), none, .bin .eql (.t 19) (.t 20)⟩]
theorem tr24_4 : (ro Try.f24 4).toList.mapM (trO Try.prog 61 (ro Try.f24 4)) = some a24_4 := by kernel_rfl
def a24_5 : List AO := [⟨(some 22), none, .mv (.t 0)⟩,
  ⟨(some 23), none, .mv (.t 7)⟩,
  ⟨(some 24), none, .mv (.t 0)⟩,
  ⟨(some 25), none, .mv (.t 7)⟩,
  ⟨(some 26), none, .idx 2 (.t 24) (.t 25)⟩,
  ⟨(some 27), none, .fld 1 (.t 26)⟩,
  ⟨(some 28), none, .load none (.t 27)⟩,
  ⟨(some 29), none, .mv (.t 2)⟩,
  ⟨(some 30), none, .bin .add (.t 28) (.t 29)⟩,
  ⟨(some 31), none, .idx 2 (.t 22) (.t 23)⟩,
  ⟨(some 32), none, .fld 1 (.t 31)⟩,
  ⟨none, none, .store 1 (.t 32) (.t 30)⟩]
theorem tr24_5 : (ro Try.f24 5).toList.mapM (trO Try.prog 61 (ro Try.f24 5)) = some a24_5 := by kernel_rfl
def a24_6 : List AO := [⟨(some 33), none, .mv (.t 0)⟩,
  ⟨(some 6), none, .mv (.t 33)⟩]
theorem tr24_6 : (ro Try.f24 6).toList.mapM (trO Try.prog 61 (ro Try.f24 6)) = some a24_6 := by kernel_rfl
def a24_7 : List AO := [⟨(some 34), none, .mv (.t 0)⟩,
  ⟨(some 35), none, .mv (.t 7)⟩,
  ⟨(some 36), none, .idx 2 (.t 34) (.t 35)⟩,
  ⟨(some 37), none, .fld 0 (.t 36)⟩,
  ⟨(some 38), none, .load none (.t 37)⟩,
  ⟨(some 39), none, .mv (.t 1)⟩,
  ⟨(some 40), none, .bin .gtr (.t 38) (.t 39)⟩]
theorem tr24_7 : (ro Try.f24 7).toList.mapM (trO Try.prog 61 (ro Try.f24 7)) = some a24_7 := by kernel_rfl
def a24_8 : List AO := [⟨(some 41), none, .mv (.t 1)⟩,
  ⟨(some 42), none, .mv (.t 2)⟩,
  ⟨(some 43), none, .build [(.str []), (.int .i64 0)] [(0, 1, (.t 41)), (1, 1, (.t 42))]⟩,
  ⟨(some 44), none, .slc 30 2 false [(.t 43)]⟩,
  ⟨(some 45), none, .mv (.t 0)⟩,
  ⟨(some 46), none, .mv (.t 7)⟩,
  ⟨(some 47), none, .sub 2 (some (.t 46)) none none (.t 45)⟩,
  ⟨(some 48), none, .app 30 2 24 (.t 44) (.t 47)⟩,
  ⟨(some 8), none, .mv (.t 48)⟩]
theorem tr24_8 : (ro Try.f24 8).toList.mapM (trO Try.prog 61 (ro Try.f24 8)) = some a24_8 := by kernel_rfl
def a24_9 : List AO := [⟨(some 49), none, .mv (.t 0)⟩,
  ⟨(some 50), none, .mv (.t 7)⟩,
  ⟨(some 51), none, .mv (.t 7)⟩,
  ⟨(some 52), none, .sub 2 none (some (.t 50)) (some (.t 51)) (.t 49)⟩,
  ⟨(some 53), none, .mv (.t 8)⟩,
  ⟨(some 54), none, .app 30 2 24 (.t 52) (.t 53)⟩,
  ⟨(some 6), none, .mv (.t 54)⟩]
theorem tr24_9 : (ro Try.f24 9).toList.mapM (trO Try.prog 61 (ro Try.f24 9)) = some a24_9 := by kernel_rfl
def a24_3 : List AO := [⟨(some 13), none, .mv (.t 7)⟩,
  ⟨(some 14), none, .bin .add (.t 13) (.v (.int .i64 1))⟩,
  ⟨(some 7), none, .mv (.t 14)⟩]
theorem tr24_3 : (ro Try.f24 3).toList.mapM (trO Try.prog 61 (ro Try.f24 3)) = some a24_3 := by kernel_rfl
def a24_10 : List AO := [⟨(some 55), none, .mv (.t 0)⟩,
  ⟨(some 56), none, .mv (.t 1)⟩,
  ⟨(some 57), none, .mv (.t 2)⟩,
  ⟨(some 58), none, .build [(.str []), (.int .i64 0)] [(0, 1, (.t 56)), (1, 1, (.t 57))]⟩,
  ⟨(some 59), none, .slc 30 2 false [(.t 58)]⟩,
  ⟨(some 60), none, .app 30 2 24 (.t 55) (.t 59)⟩,
  ⟨(some 6), none, .mv (.t 60)⟩]
theorem tr24_10 : (ro Try.f24 10).toList.mapM (trO Try.prog 61 (ro Try.f24 10)) = some a24_10 := by kernel_rfl
/-- slices.ContainsFunc[[]airline/api.Post,airline/api.Post] -/
noncomputable def c25 : Code := .seq (.region 0 (ro Try.f25 0) false) (.seq (.region 1 (ro Try.f25 1) false) (.ret))
theorem body25 : Try.f25.body = some c25 := by kernel_rfl
theorem res25 : Try.f25.results.toList.mapM (trR Try.prog) = some [.t 4] := by kernel_rfl
theorem nt25 : Try.f25.ntmps = 9 := by kernel_rfl
theorem nm25 : (Try.f25.name == "runtime.NumGoroutine") = false := by kernel_rfl
def a25_0 : List AO := [⟨(some 4), none, .mv (.v (.bool false))⟩]
theorem tr25_0 : (ro Try.f25 0).toList.mapM (trO Try.prog 9 (ro Try.f25 0)) = some a25_0 := by kernel_rfl
def a25_1 : List AO := [⟨(some 5), none, .mv (.t 0)⟩,
  ⟨(some 6), none, .mv (.t 1)⟩,
  ⟨(some 7), none, .call 33 [(.t 5), (.t 6)]⟩,
  ⟨(some 8), none, .bin .geq (.t 7) (.v (.int .i64 0))⟩,
  ⟨(some 4), none, .mv (.t 8)⟩]
theorem tr25_1 : (ro Try.f25 1).toList.mapM (trO Try.prog 9 (ro Try.f25 1)) = some a25_1 := by kernel_rfl
/-- airline/settle.Transfers 1 -/
noncomputable def c26 : Code := .seq (.region 0 (ro Try.f26 0) false) (.seq (.region 1 (ro Try.f26 1) false) (.ret))
theorem body26 : Try.f26.body = some c26 := by kernel_rfl
theorem res26 : Try.f26.results.toList.mapM (trR Try.prog) = some [.t 2] := by kernel_rfl
theorem nt26 : Try.f26.ntmps = 6 := by kernel_rfl
theorem nm26 : (Try.f26.name == "runtime.NumGoroutine") = false := by kernel_rfl
def a26_0 : List AO := [⟨(some 1), none, .box 30 (.t 0)⟩,
  ⟨(some 2), none, .mv (.v (.bool false))⟩]
theorem tr26_0 : (ro Try.f26 0).toList.mapM (trO Try.prog 6 (ro Try.f26 0)) = some a26_0 := by kernel_rfl
def a26_1 : List AO := [⟨(some 3), none, .fld 1 (.t 1)⟩,
  ⟨(some 4), none, .load none (.t 3)⟩,
  ⟨(some 5), none, .call 20 [(.t 4)]⟩,
  ⟨(some 2), none, .mv (.t 5)⟩]
theorem tr26_1 : (ro Try.f26 1).toList.mapM (trO Try.prog 6 (ro Try.f26 1)) = some a26_1 := by kernel_rfl
/-- slices.Clone[[]airline/api.Post,airline/api.Post] -/
noncomputable def c27 : Code := .seq (.region 0 (ro Try.f27 0) false) (.seq (.seq (.region 1 (ro Try.f27 1) false) (.cond (.tmp 4) (.seq (.region 2 (ro Try.f27 2) false) (.ret)) (.skip))) (.seq (.region 3 (ro Try.f27 3) false) (.ret)))
theorem body27 : Try.f27.body = some c27 := by kernel_rfl
theorem res27 : Try.f27.results.toList.mapM (trR Try.prog) = some [.t 2] := by kernel_rfl
theorem nt27 : Try.f27.ntmps = 8 := by kernel_rfl
theorem nm27 : (Try.f27.name == "runtime.NumGoroutine") = false := by kernel_rfl
def a27_0 : List AO := [⟨(some 2), none, .mv (.v .nils)⟩]
theorem tr27_0 : (ro Try.f27 0).toList.mapM (trO Try.prog 8 (ro Try.f27 0)) = some a27_0 := by kernel_rfl
def a27_1 : List AO := [⟨(some 3), none, .mv (.t 0)⟩,
  ⟨(some 4), none, .binn .eql (.t 3) (.v .nils)⟩]
theorem tr27_1 : (ro Try.f27 1).toList.mapM (trO Try.prog 8 (ro Try.f27 1)) = some a27_1 := by kernel_rfl
def a27_2 : List AO := [⟨(some 2), none, .mv (.v .nils)⟩]
theorem tr27_2 : (ro Try.f27 2).toList.mapM (trO Try.prog 8 (ro Try.f27 2)) = some a27_2 := by kernel_rfl
def a27_3 : List AO := [⟨(some 5), none, .slc 30 2 false []⟩,
  ⟨(some 6), none, .mv (.t 0)⟩,
  ⟨(some 7), none, .app 30 2 24 (.t 5) (.t 6)⟩,
  ⟨(some 2), none, .mv (.t 7)⟩]
theorem tr27_3 : (ro Try.f27 3).toList.mapM (trO Try.prog 8 (ro Try.f27 3)) = some a27_3 := by kernel_rfl
/-- airline/airlineref54.first -/
noncomputable def c28 : Code := .seq (.region 0 (ro Try.f28 0) false) (.seq (.seq (.region 1 (ro Try.f28 1) false) (.block 0 (.loop (.seq (.seq (.region 2 (ro Try.f28 2) false) (.cond (.tmp 9) (.skip) (.exit 0))) (.seq (.block 1 (.seq (.region 4 (ro Try.f28 4) false) (.cond (.tmp 19) (.seq (.region 5 (ro Try.f28 5) false) (.ret)) (.skip)))) (.region 3 (ro Try.f28 3) false)))))) (.seq (.region 6 (ro Try.f28 6) false) (.ret)))
theorem body28 : Try.f28.body = some c28 := by kernel_rfl
theorem res28 : Try.f28.results.toList.mapM (trR Try.prog) = some [.t 4] := by kernel_rfl
theorem nt28 : Try.f28.ntmps = 21 := by kernel_rfl
theorem nm28 : (Try.f28.name == "runtime.NumGoroutine") = false := by kernel_rfl
def a28_0 : List AO := [⟨(some 4), none, .mv (.v (.int .i64 0))⟩]
theorem tr28_0 : (ro Try.f28 0).toList.mapM (trO Try.prog 21 (ro Try.f28 0)) = some a28_0 := by kernel_rfl
def a28_1 : List AO := [⟨(some 5), none, .mv (.v (.int .i64 0))⟩]
theorem tr28_1 : (ro Try.f28 1).toList.mapM (trO Try.prog 21 (ro Try.f28 1)) = some a28_1 := by kernel_rfl
def a28_2 : List AO := [⟨(some 6), none, .mv (.t 5)⟩,
  ⟨(some 7), none, .mv (.t 0)⟩,
  ⟨(some 8), none, .len (.t 7)⟩,
  ⟨(some 9), none, .bin .lss (.t 6) (.t 8)⟩]
theorem tr28_2 : (ro Try.f28 2).toList.mapM (trO Try.prog 21 (ro Try.f28 2)) = some a28_2 := by kernel_rfl
def a28_4 : List AO := [⟨(some 12), none, .mv (.t 1)⟩,
  ⟨(some 13), none, .mv (.t 0)⟩,
  ⟨(some 14), none, .mv (.t 5)⟩,
  ⟨(some 15), none, .idx 2 (.t 13) (.t 14)⟩,
  ⟨(some 16), none, .fld 1 (.t 15)⟩,
  ⟨(some 17), none, .load none (.t 16)⟩,
  ⟨(some 18), none, .bin .mul (.t 12) (.t 17)⟩,
  ⟨(some 19), none, .bin .gtr (.t 18) (.v (.int .i64 0))⟩]
theorem tr28_4 : (ro Try.f28 4).toList.mapM (trO Try.prog 21 (ro Try.f28 4)) = some a28_4 := by kernel_rfl
def a28_5 : List AO := [⟨(some 20), none, .mv (.t 5)⟩,
  ⟨(some 4), none, .mv (.t 20)⟩]
theorem tr28_5 : (ro Try.f28 5).toList.mapM (trO Try.prog 21 (ro Try.f28 5)) = some a28_5 := by kernel_rfl
def a28_3 : List AO := [⟨(some 10), none, .mv (.t 5)⟩,
  ⟨(some 11), none, .bin .add (.t 10) (.v (.int .i64 1))⟩,
  ⟨(some 5), none, .mv (.t 11)⟩]
theorem tr28_3 : (ro Try.f28 3).toList.mapM (trO Try.prog 21 (ro Try.f28 3)) = some a28_3 := by kernel_rfl
def a28_6 : List AO := [⟨(some 4), none, .mv (.v (.int .i64 (-1)))⟩]
theorem tr28_6 : (ro Try.f28 6).toList.mapM (trO Try.prog 21 (ro Try.f28 6)) = some a28_6 := by kernel_rfl
/-- airline/airlineref54.balance -/
noncomputable def c29 : Code := .seq (.region 0 (ro Try.f29 0) false) (.seq (.seq (.region 1 (ro Try.f29 1) false) (.block 0 (.loop (.seq (.seq (.region 2 (ro Try.f29 2) false) (.cond (.tmp 9) (.skip) (.exit 0))) (.seq (.block 1 (.seq (.region 4 (ro Try.f29 4) false) (.cond (.tmp 18) (.seq (.region 5 (ro Try.f29 5) false) (.ret)) (.skip)))) (.region 3 (ro Try.f29 3) false)))))) (.seq (.region 6 (ro Try.f29 6) false) (.ret)))
theorem body29 : Try.f29.body = some c29 := by kernel_rfl
theorem res29 : Try.f29.results.toList.mapM (trR Try.prog) = some [.t 4] := by kernel_rfl
theorem nt29 : Try.f29.ntmps = 24 := by kernel_rfl
theorem nm29 : (Try.f29.name == "runtime.NumGoroutine") = false := by kernel_rfl
def a29_0 : List AO := [⟨(some 4), none, .mv (.v (.int .i64 0))⟩]
theorem tr29_0 : (ro Try.f29 0).toList.mapM (trO Try.prog 24 (ro Try.f29 0)) = some a29_0 := by kernel_rfl
def a29_1 : List AO := [⟨(some 5), none, .mv (.v (.int .i64 0))⟩]
theorem tr29_1 : (ro Try.f29 1).toList.mapM (trO Try.prog 24 (ro Try.f29 1)) = some a29_1 := by kernel_rfl
def a29_2 : List AO := [⟨(some 6), none, .mv (.t 5)⟩,
  ⟨(some 7), none, .mv (.t 0)⟩,
  ⟨(some 8), none, .len (.t 7)⟩,
  ⟨(some 9), none, .bin .lss (.t 6) (.t 8)⟩]
theorem tr29_2 : (ro Try.f29 2).toList.mapM (trO Try.prog 24 (ro Try.f29 2)) = some a29_2 := by kernel_rfl
def a29_4 : List AO := [⟨(some 12), none, .mv (.t 0)⟩,
  ⟨(some 13), none, .mv (.t 5)⟩,
  ⟨(some 14), none, .idx 2 (.t 12) (.t 13)⟩,
  ⟨(some 15), none, .fld 0 (.t 14)⟩,
  ⟨(some 16), none, .load none (.t 15)⟩,
  ⟨(some 17), none, .mv (.t 1)⟩,
  ⟨(some 18), none, .bin .eql (.t 16) (.t 17)⟩]
theorem tr29_4 : (ro Try.f29 4).toList.mapM (trO Try.prog 24 (ro Try.f29 4)) = some a29_4 := by kernel_rfl
def a29_5 : List AO := [⟨(some 19), none, .mv (.t 0)⟩,
  ⟨(some 20), none, .mv (.t 5)⟩,
  ⟨(some 21), none, .idx 2 (.t 19) (.t 20)⟩,
  ⟨(some 22), none, .fld 1 (.t 21)⟩,
  ⟨(some 23), none, .load none (.t 22)⟩,
  ⟨(some 4), none, .mv (.t 23)⟩]
theorem tr29_5 : (ro Try.f29 5).toList.mapM (trO Try.prog 24 (ro Try.f29 5)) = some a29_5 := by kernel_rfl
def a29_3 : List AO := [⟨(some 10), none, .mv (.t 5)⟩,
  ⟨(some 11), none, .bin .add (.t 10) (.v (.int .i64 1))⟩,
  ⟨(some 5), none, .mv (.t 11)⟩]
theorem tr29_3 : (ro Try.f29 3).toList.mapM (trO Try.prog 24 (ro Try.f29 3)) = some a29_3 := by kernel_rfl
def a29_6 : List AO := [⟨(some 4), none, .mv (.v (.int .i64 0))⟩]
theorem tr29_6 : (ro Try.f29 6).toList.mapM (trO Try.prog 24 (ro Try.f29 6)) = some a29_6 := by kernel_rfl
/-- slices.Collect[string] -/
noncomputable def c30 : Code := .seq (.region 0 (ro Try.f30 0) false) (.seq (.region 1 (ro Try.f30 1) false) (.ret))
theorem body30 : Try.f30.body = some c30 := by kernel_rfl
theorem res30 : Try.f30.results.toList.mapM (trR Try.prog) = some [.t 2] := by kernel_rfl
theorem nt30 : Try.f30.ntmps = 5 := by kernel_rfl
theorem nm30 : (Try.f30.name == "runtime.NumGoroutine") = false := by kernel_rfl
def a30_0 : List AO := [⟨(some 2), none, .mv (.v .nils)⟩]
theorem tr30_0 : (ro Try.f30 0).toList.mapM (trO Try.prog 5 (ro Try.f30 0)) = some a30_0 := by kernel_rfl
def a30_1 : List AO := [⟨(some 3), none, .mv (.t 0)⟩,
  ⟨(some 4), none, .call 34 [(.v .nils), (.t 3)]⟩,
  ⟨(some 2), none, .mv (.t 4)⟩]
theorem tr30_1 : (ro Try.f30 1).toList.mapM (trO Try.prog 5 (ro Try.f30 1)) = some a30_1 := by kernel_rfl
/-- slices.Sort[[]string,string] -/
noncomputable def c31 : Code := .seq (.region 0 (ro Try.f31 0) false) (.region 1 (ro Try.f31 1) false)
theorem body31 : Try.f31.body = some c31 := by kernel_rfl
theorem res31 : Try.f31.results.toList.mapM (trR Try.prog) = some [] := by kernel_rfl
theorem nt31 : Try.f31.ntmps = 11 := by kernel_rfl
theorem nm31 : (Try.f31.name == "runtime.NumGoroutine") = false := by kernel_rfl
def a31_0 : List AO := [⟨(some 3), none, .mv (.t 0)⟩,
  ⟨(some 4), none, .len (.t 3)⟩,
  ⟨(some 2), none, .mv (.t 4)⟩]
theorem tr31_0 : (ro Try.f31 0).toList.mapM (trO Try.prog 11 (ro Try.f31 0)) = some a31_0 := by kernel_rfl
def a31_1 : List AO := [⟨(some 5), none, .mv (.t 0)⟩,
  ⟨(some 6), none, .mv (.t 2)⟩,
  ⟨(some 7), none, .mv (.t 2)⟩,
  ⟨(some 8), none, .conv .u64 (.t 7)⟩,
  ⟨(some 9), none, .call 36 [(.t 8)]⟩,
  ⟨(some 10), none, .call 35 [(.t 5), (.v (.int .i64 0)), (.t 6), (.t 9)]⟩]
theorem tr31_1 : (ro Try.f31 1).toList.mapM (trO Try.prog 11 (ro Try.f31 1)) = some a31_1 := by kernel_rfl
/-- maps.Keys[map[string]int,string,int] 1 -/
noncomputable def c32 : Code := .seq (.region 0 (ro Try.f32 0) false) (.block 0 (.loop (.seq (.region 1 (ro Try.f32 1) false) (.seq (.cond (.tmp 7) (.skip) (.exit 0)) (.block 1 (.seq (.region 2 (ro Try.f32 2) false) (.seq (.region 3 (ro Try.f32 3) false) (.cond (.tmp 13) (.ret) (.skip)))))))))
theorem body32 : Try.f32.body = some c32 := by kernel_rfl
theorem res32 : Try.f32.results.toList.mapM (trR Try.prog) = some [] := by kernel_rfl
theorem nt32 : Try.f32.ntmps = 14 := by kernel_rfl
theorem nm32 : (Try.f32.name == "runtime.NumGoroutine") = false := by kernel_rfl
-- region 0: not translated: !! range 41 t4
def a32_0p : List AO := [⟨(some 4), none, .load none (.t 1)⟩]
theorem tr32_0p : (ro Try.f32 0).toList.dropLast.mapM (trO Try.prog 14 (ro Try.f32 0)) = some a32_0p := by kernel_rfl
-- region 1: not translated: !! next false t5
-- region 2: not translated: !! entry t5
def a32_2s : List AO := [⟨(some 9), none, .ext 0 (.t 8)⟩,
  ⟨(some 3), none, .mv (.t 9)⟩]
theorem tr32_2s : (ro Try.f32 2).toList.tail.mapM (trO Try.prog 14 (ro Try.f32 2)) = some a32_2s := by kernel_rfl
def a32_3 : List AO := [⟨(some 10), none, .mv (.t 0)⟩,
  ⟨(some 11), none, .mv (.t 3)⟩,
  ⟨(some 12), none, .callv (.t 10) [(.t 11)]⟩,
  ⟨(some 13), none, .un .not (.t 12)⟩]
theorem tr32_3 : (ro Try.f32 3).toList.mapM (trO Try.prog 14 (ro Try.f32 3)) = some a32_3 := by kernel_rfl
/-- slices.IndexFunc[[]airline/api.Post,airline/api.Post] -/
noncomputable def c33 : Code := .seq (.region 0 (ro Try.f33 0) false) (.seq (.seq (.region 1 (ro Try.f33 1) false) (.block 0 (.loop (.seq (.region 2 (ro Try.f33 2) false) (.seq (.cond (.tmp 9) (.skip) (.exit 0)) (.seq (.block 1 (.seq (.region 3 (ro Try.f33 3) false) (.seq (.region 4 (ro Try.f33 4) false) (.cond (.tmp 16) (.seq (.region 5 (ro Try.f33 5) false) (.ret)) (.skip))))) (.region 6 (ro Try.f33 6) false))))))) (.seq (.region 7 (ro Try.f33 7) false) (.ret)))
theorem body33 : Try.f33.body = some c33 := by kernel_rfl
theorem res33 : Try.f33.results.toList.mapM (trR Try.prog) = some [.t 4] := by kernel_rfl
theorem nt33 : Try.f33.ntmps = 19 := by kernel_rfl
theorem nm33 : (Try.f33.name == "runtime.NumGoroutine") = false := by kernel_rfl
def a33_0 : List AO := [⟨(some 4), none, .mv (.v (.int .i64 0))⟩]
theorem tr33_0 : (ro Try.f33 0).toList.mapM (trO Try.prog 19 (ro Try.f33 0)) = some a33_0 := by kernel_rfl
def a33_1 : List AO := [⟨(some 6), none, .mv (.t 0)⟩,
  ⟨(some 7), none, .len (.t 6)⟩,
  ⟨(some 8), none, .mv (.v (.int .i64 0))⟩]
theorem tr33_1 : (ro Try.f33 1).toList.mapM (trO Try.prog 19 (ro Try.f33 1)) = some a33_1 := by kernel_rfl
def a33_2 : List AO := [⟨(some 9), none, .bin .lss (.t 8) (.t 7)⟩]
theorem tr33_2 : (ro Try.f33 2).toList.mapM (trO Try.prog 19 (ro Try.f33 2)) = some a33_2 := by kernel_rfl
def a33_3 : List AO := [⟨(some 10), none, .mv (.t 8)⟩,
  ⟨(some 5), none, .mv (.t 10)⟩]
theorem tr33_3 : (ro Try.f33 3).toList.mapM (trO Try.prog 19 (ro Try.f33 3)) = some a33_3 := by kernel_rfl
def a33_4 : List AO := [⟨(some 11), none, .mv (.t 1)⟩,
  ⟨(some 12), none, .mv (.t 0)⟩,
  ⟨(some 13), none, .mv (.t 5)⟩,
  ⟨(some 14), none, .idx 2 (.t 12) (.t 13)⟩,
  ⟨(some 15), none, .load (some 2) (.t 14)⟩,
  ⟨(some 16), none, .callv (.t 11) [(.t 15)]⟩]
theorem tr33_4 : (ro Try.f33 4).toList.mapM (trO Try.prog 19 (ro Try.f33 4)) = some a33_4 := by kernel_rfl
def a33_5 : List AO := [⟨(some 17), none, .mv (.t 5)⟩,
  ⟨(some 4), none, .mv (.t 17)⟩]
theorem tr33_5 : (ro Try.f33 5).toList.mapM (trO Try.prog 19 (ro Try.f33 5)) = some a33_5 := by kernel_rfl
def a33_6 : List AO := [⟨(some 18), none, .bin .add (.t 8) (.v (.int .i64 1))⟩,
  ⟨(some 8), none, .mv (.t 18)⟩]
theorem tr33_6 : (ro Try.f33 6).toList.mapM (trO Try.prog 19 (ro Try.f33 6)) = some a33_6 := by kernel_rfl
def a33_7 : List AO := [⟨(some 4), none, .mv (.v (.int .i64 (-1)))⟩]
theorem tr33_7 : (ro Try.f33 7).toList.mapM (trO Try.prog 19 (ro Try.f33 7)) = some a33_7 := by kernel_rfl
/-- cmp.Less[string] -/
noncomputable def c43 : Code := .seq (.region 0 (ro Try.f43 0) false) (.seq (.region 1 (ro Try.f43 1) false) (.ret))
theorem body43 : Try.f43.body = some c43 := by kernel_rfl
theorem res43 : Try.f43.results.toList.mapM (trR Try.prog) = some [.t 4] := by kernel_rfl
theorem nt43 : Try.f43.ntmps = 17 := by kernel_rfl
theorem nm43 : (Try.f43.name == "runtime.NumGoroutine") = false := by kernel_rfl
def a43_0 : List AO := [⟨(some 4), none, .mv (.v (.bool false))⟩]
theorem tr43_0 : (ro Try.f43 0).toList.mapM (trO Try.prog 17 (ro Try.f43 0)) = some a43_0 := by kernel_rfl
def a43_1 : List AO := [⟨(some 5), none, .mv (.t 0)⟩,
  ⟨(some 6), none, .call 53 [(.t 5)]⟩,
  ⟨(some 7), none, .mv (.t 6)⟩,
  ⟨(some 8), some (7, true), .mv (.t 1)⟩,
  ⟨(some 9), some (7, true), .call 53 [(.t 8)]⟩,
  ⟨(some 10), some (7, true), .un .not (.t 9)⟩,
  ⟨(some 11), none, .pick (.t 7) (.t 10) (.v (.bool false))⟩,
  ⟨(some 12), none, .mv (.t 11)⟩,
  ⟨(some 13), some (12, false), .mv (.t 0)⟩,
  ⟨(some 14), some (12, false), .mv (.t 1)⟩,
  ⟨(some 15), some (12, false), .bin .lss (.t 13) (.t 14)⟩,
  ⟨(some 16), none, .pick (.t 12) (.v (.bool true)) (.t 15)⟩,
  ⟨(some 4), none, .mv (.t 16)⟩]
theorem tr43_1 : (ro Try.f43 1).toList.mapM (trO Try.prog 17 (ro Try.f43 1)) = some a43_1 := by kernel_rfl
/-- cmp.isNaN[string] -/
noncomputable def c53 : Code := .seq (.region 0 (ro Try.f53 0) false) (.seq (.region 1 (ro Try.f53 1) false) (.ret))
theorem body53 : Try.f53.body = some c53 := by kernel_rfl
theorem res53 : Try.f53.results.toList.mapM (trR Try.prog) = some [.t 2] := by kernel_rfl
theorem nt53 : Try.f53.ntmps = 6 := by kernel_rfl
theorem nm53 : (Try.f53.name == "runtime.NumGoroutine") = false := by kernel_rfl
def a53_0 : List AO := [⟨(some 2), none, .mv (.v (.bool false))⟩]
theorem tr53_0 : (ro Try.f53 0).toList.mapM (trO Try.prog 6 (ro Try.f53 0)) = some a53_0 := by kernel_rfl
def a53_1 : List AO := [⟨(some 3), none, .mv (.t 0)⟩,
  ⟨(some 4), none, .mv (.t 0)⟩,
  ⟨(some 5), none, .bin .neq (.t 3) (.t 4)⟩,
  ⟨(some 2), none, .mv (.t 5)⟩]
theorem tr53_1 : (ro Try.f53 1).toList.mapM (trO Try.prog 6 (ro Try.f53 1)) = some a53_1 := by kernel_rfl
end Go.Proofs.Ytajobknfhbnjcaa
