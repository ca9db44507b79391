/- The code of the functions, region by region, as abstract operations. -/
import Derived.Test.YtdjeodopibaebaaDoorCoa
namespace Go.Proofs.YtdjeodopibaebaaDoor
open Go Go.RowKit
/-- sort.symMerge_func -/
noncomputable def c61 : Code := .seq (.region 0 (ro Tryd.f61 0) false) (.seq (.seq (.region 1 (ro Tryd.f61 1) false) (.cond (.tmp 26) (.seq (.region 2 (ro Tryd.f61 2) false) (.seq (.region 3 (ro Tryd.f61 3) false) (.seq (.block 0 (.loop (.seq (.seq (.region 4 (ro Tryd.f61 4) false) (.cond (.tmp 31) (.skip) (.exit 0))) (.block 1 (.seq (.region 5 (ro Tryd.f61 5) false) (.seq (.region 6 (ro Tryd.f61 6) false) (.cond (.tmp 42) (.region 7 (ro Tryd.f61 7) false) (.region 8 (ro Tryd.f61 8) false)))))))) (.seq (.seq (.region 9 (ro Tryd.f61 9) false) (.block 2 (.loop (.seq (.seq (.region 10 (ro Tryd.f61 10) false) (.cond (.tmp 50) (.skip) (.exit 2))) (.seq (.block 3 (.region 12 (ro Tryd.f61 12) false)) (.region 11 (ro Tryd.f61 11) false)))))) (.ret))))) (.skip))) (.seq (.seq (.region 13 (ro Tryd.f61 13) false) (.cond (.tmp 62) (.seq (.region 14 (ro Tryd.f61 14) false) (.seq (.region 15 (ro Tryd.f61 15) false) (.seq (.block 4 (.loop (.seq (.seq (.region 16 (ro Tryd.f61 16) false) (.cond (.tmp 67) (.skip) (.exit 4))) (.block 5 (.seq (.region 17 (ro Tryd.f61 17) false) (.seq (.region 18 (ro Tryd.f61 18) false) (.cond (.tmp 79) (.region 19 (ro Tryd.f61 19) false) (.region 20 (ro Tryd.f61 20) false)))))))) (.seq (.seq (.region 21 (ro Tryd.f61 21) false) (.block 6 (.loop (.seq (.seq (.region 22 (ro Tryd.f61 22) false) (.cond (.tmp 86) (.skip) (.exit 6))) (.seq (.block 7 (.region 24 (ro Tryd.f61 24) false)) (.region 23 (ro Tryd.f61 23) false)))))) (.ret))))) (.skip))) (.seq (.region 25 (ro Tryd.f61 25) false) (.seq (.region 26 (ro Tryd.f61 26) false) (.seq (.region 27 (ro Tryd.f61 27) false) (.seq (.seq (.region 28 (ro Tryd.f61 28) false) (.cond (.tmp 106) (.seq (.region 29 (ro Tryd.f61 29) false) (.region 30 (ro Tryd.f61 30) false)) (.seq (.region 31 (ro Tryd.f61 31) false) (.region 32 (ro Tryd.f61 32) false)))) (.seq (.region 33 (ro Tryd.f61 33) false) (.seq (.block 8 (.loop (.seq (.seq (.region 34 (ro Tryd.f61 34) false) (.cond (.tmp 117) (.skip) (.exit 8))) (.block 9 (.seq (.region 35 (ro Tryd.f61 35) false) (.seq (.region 36 (ro Tryd.f61 36) false) (.cond (.tmp 131) (.region 37 (ro Tryd.f61 37) false) (.region 38 (ro Tryd.f61 38) false)))))))) (.seq (.region 39 (ro Tryd.f61 39) false) (.seq (.seq (.region 40 (ro Tryd.f61 40) false) (.cond (.tmp 145) (.region 41 (ro Tryd.f61 41) false) (.skip))) (.seq (.seq (.region 42 (ro Tryd.f61 42) false) (.cond (.tmp 158) (.region 43 (ro Tryd.f61 43) false) (.skip))) (.seq (.region 44 (ro Tryd.f61 44) false) (.cond (.tmp 171) (.region 45 (ro Tryd.f61 45) false) (.skip))))))))))))))
theorem body61 : Tryd.f61.body = some c61 := by kernel_rfl
theorem res61 : Tryd.f61.results.toList.mapM (trR Tryd.prog) = some [] := by kernel_rfl
theorem nt61 : Tryd.f61.ntmps = 177 := by kernel_rfl
theorem nm61 : (Tryd.f61.name == "runtime.NumGoroutine") = false := by kernel_rfl
def a61_0 : List AO := [⟨(some 4), none, .box 67 (.t 0)⟩]
theorem tr61_0 : (ro Tryd.f61 0).toList.mapM (trO Tryd.prog 177 (ro Tryd.f61 0)) = some a61_0 := by kernel_rfl
def a61_1 : List AO := [⟨(some 23), none, .mv (.t 2)⟩,
  ⟨(some 24), none, .mv (.t 1)⟩,
  ⟨(some 25), none, .bin .sub (.t 23) (.t 24)⟩,
  ⟨(some 26), none, .bin .eql (.t 25) (.v (.int .i64 1))⟩]
theorem tr61_1 : (ro Tryd.f61 1).toList.mapM (trO Tryd.prog 177 (ro Tryd.f61 1)) = some a61_1 := by kernel_rfl
def a61_2 : List AO := [⟨(some 27), none, .mv (.t 2)⟩,
  ⟨(some 8), none, .mv (.t 27)⟩]
theorem tr61_2 : (ro Tryd.f61 2).toList.mapM (trO Tryd.prog 177 (ro Tryd.f61 2)) = some a61_2 := by kernel_rfl
def a61_3 : List AO := [⟨(some 28), none, .mv (.t 3)⟩,
  ⟨(some 9), none, .mv (.t 28)⟩]
theorem tr61_3 : (ro Tryd.f61 3).toList.mapM (trO Tryd.prog 177 (ro Tryd.f61 3)) = some a61_3 := by kernel_rfl
def a61_4 : List AO := [⟨(some 29), none, .mv (.t 8)⟩,
  ⟨(some 30), none, .mv (.t 9)⟩,
  ⟨(some 31), none, .bin .lss (.t 29) (.t 30)⟩]
theorem tr61_4 : (ro Tryd.f61 4).toList.mapM (trO Tryd.prog 177 (ro Tryd.f61 4)) = some a61_4 := by kernel_rfl
def a61_5 : List AO := [⟨(some 32), none, .mv (.t 8)⟩,
  ⟨(some 33), none, .mv (.t 9)⟩,
  ⟨(some 34), none, .bin .add (.t 32) (.t 33)⟩,
  ⟨(some 35), none, .conv .u64 (.t 34)⟩,
  ⟨(some 36), none, .bin .shr (.t 35) (.v (.int .u64 1))⟩,
  ⟨(some 37), none, .conv .i64 (.t 36)⟩,
  ⟨(some 10), none, .mv (.t 37)⟩]
theorem tr61_5 : (ro Tryd.f61 5).toList.mapM (trO Tryd.prog 177 (ro Tryd.f61 5)) = some a61_5 := by kernel_rfl
def a61_6 : List AO := [⟨(some 38), none, .fld 0 (.t 4)⟩,
  ⟨(some 39), none, .load none (.t 38)⟩,
  ⟨(some 40), none, .mv (.t 10)⟩,
  ⟨(some 41), none, .mv (.t 1)⟩,
  ⟨(some 42), none, .callv (.t 39) [(.t 40), (.t 41)]⟩]
theorem tr61_6 : (ro Tryd.f61 6).toList.mapM (trO Tryd.prog 177 (ro Tryd.f61 6)) = some a61_6 := by kernel_rfl
def a61_7 : List AO := [⟨(some 43), none, .mv (.t 10)⟩,
  ⟨(some 44), none, .bin .add (.t 43) (.v (.int .i64 1))⟩,
  ⟨(some 8), none, .mv (.t 44)⟩]
theorem tr61_7 : (ro Tryd.f61 7).toList.mapM (trO Tryd.prog 177 (ro Tryd.f61 7)) = some a61_7 := by kernel_rfl
def a61_8 : List AO := [⟨(some 45), none, .mv (.t 10)⟩,
  ⟨(some 9), none, .mv (.t 45)⟩]
theorem tr61_8 : (ro Tryd.f61 8).toList.mapM (trO Tryd.prog 177 (ro Tryd.f61 8)) = some a61_8 := by kernel_rfl
def a61_9 : List AO := [⟨(some 46), none, .mv (.t 1)⟩,
  ⟨(some 11), none, .mv (.t 46)⟩]
theorem tr61_9 : (ro Tryd.f61 9).toList.mapM (trO Tryd.prog 177 (ro Tryd.f61 9)) = some a61_9 := by kernel_rfl
def a61_10 : List AO := [⟨(some 47), none, .mv (.t 11)⟩,
  ⟨(some 48), none, .mv (.t 8)⟩,
  ⟨(some 49), none, .bin .sub (.t 48) (.v (.int .i64 1))⟩,
  ⟨(some 50), none, .bin .lss (.t 47) (.t 49)⟩]
theorem tr61_10 : (ro Tryd.f61 10).toList.mapM (trO Tryd.prog 177 (ro Tryd.f61 10)) = some a61_10 := by kernel_rfl
def a61_12 : List AO := [⟨(some 53), none, .fld 1 (.t 4)⟩,
  ⟨(some 54), none, .load none (.t 53)⟩,
  ⟨(some 55), none, .mv (.t 11)⟩,
  ⟨(some 56), none, .mv (.t 11)⟩,
  ⟨(some 57), none, .bin .add (.t 56) (.v (.int .i64 1))⟩,
  ⟨(some 58), none, .callv (.t 54) [(.t 55), (.t 57)]⟩]
theorem tr61_12 : (ro Tryd.f61 12).toList.mapM (trO Tryd.prog 177 (ro Tryd.f61 12)) = some a61_12 := by kernel_rfl
def a61_11 : List AO := [⟨(some 51), none, .mv (.t 11)⟩,
  ⟨(some 52), none, .bin .add (.t 51) (.v (.int .i64 1))⟩,
  ⟨(some 11), none, .mv (.t 52)⟩]
theorem tr61_11 : (ro Tryd.f61 11).toList.mapM (trO Tryd.prog 177 (ro Tryd.f61 11)) = some a61_11 := by kernel_rfl
def a61_13 : List AO := [⟨(some 59), none, .mv (.t 3)⟩,
  ⟨(some 60), none, .mv (.t 2)⟩,
  ⟨(some 61), none, .bin .sub (.t 59) (.t 60)⟩,
  ⟨(some 62), none, .bin .eql (.t 61) (.v (.int .i64 1))⟩]
theorem tr61_13 : (ro Tryd.f61 13).toList.mapM (trO Tryd.prog 177 (ro Tryd.f61 13)) = some a61_13 := by kernel_rfl
def a61_14 : List AO := [⟨(some 63), none, .mv (.t 1)⟩,
  ⟨(some 12), none, .mv (.t 63)⟩]
theorem tr61_14 : (ro Tryd.f61 14).toList.mapM (trO Tryd.prog 177 (ro Tryd.f61 14)) = some a61_14 := by kernel_rfl
def a61_15 : List AO := [⟨(some 64), none, .mv (.t 2)⟩,
  ⟨(some 13), none, .mv (.t 64)⟩]
theorem tr61_15 : (ro Tryd.f61 15).toList.mapM (trO Tryd.prog 177 (ro Tryd.f61 15)) = some a61_15 := by kernel_rfl
def a61_16 : List AO := [⟨(some 65), none, .mv (.t 12)⟩,
  ⟨(some 66), none, .mv (.t 13)⟩,
  ⟨(some 67), none, .bin .lss (.t 65) (.t 66)⟩]
theorem tr61_16 : (ro Tryd.f61 16).toList.mapM (trO Tryd.prog 177 (ro Tryd.f61 16)) = some a61_16 := by kernel_rfl
def a61_17 : List AO := [⟨(some 68), none, .mv (.t 12)⟩,
  ⟨(some 69), none, .mv (.t 13)⟩,
  ⟨(some 70), none, .bin .add (.t 68) (.t 69)⟩,
  ⟨(some 71), none, .conv .u64 (.t 70)⟩,
  ⟨(some 72), none, .bin .shr (.t 71) (.v (.int .u64 1))⟩,
  ⟨(some 73), none, .conv .i64 (.t 72)⟩,
  ⟨(some 14), none, .mv (.t 73)⟩]
theorem tr61_17 : (ro Tryd.f61 17).toList.mapM (trO Tryd.prog 177 (ro Tryd.f61 17)) = some a61_17 := by kernel_rfl
def a61_18 : List AO := [⟨(some 74), none, .fld 0 (.t 4)⟩,
  ⟨(some 75), none, .load none (.t 74)⟩,
  ⟨(some 76), none, .mv (.t 2)⟩,
  ⟨(some 77), none, .mv (.t 14)⟩,
  ⟨(some 78), none, .callv (.t 75) [(.t 76), (.t 77)]⟩,
  ⟨(some 79), none, .un .not (.t 78)⟩]
theorem tr61_18 : (ro Tryd.f61 18).toList.mapM (trO Tryd.prog 177 (ro Tryd.f61 18)) = some a61_18 := by kernel_rfl
def a61_19 : List AO := [⟨(some 80), none, .mv (.t 14)⟩,
  ⟨(some 81), none, .bin .add (.t 80) (.v (.int .i64 1))⟩,
  ⟨(some 12), none, .mv (.t 81)⟩]
theorem tr61_19 : (ro Tryd.f61 19).toList.mapM (trO Tryd.prog 177 (ro Tryd.f61 19)) = some a61_19 := by kernel_rfl
def a61_20 : List AO := [⟨(some 82), none, .mv (.t 14)⟩,
  ⟨(some 13), none, .mv (.t 82)⟩]
theorem tr61_20 : (ro Tryd.f61 20).toList.mapM (trO Tryd.prog 177 (ro Tryd.f61 20)) = some a61_20 := by kernel_rfl
def a61_21 : List AO := [⟨(some 83), none, .mv (.t 2)⟩,
  ⟨(some 15), none, .mv (.t 83)⟩]
theorem tr61_21 : (ro Tryd.f61 21).toList.mapM (trO Tryd.prog 177 (ro Tryd.f61 21)) = some a61_21 := by kernel_rfl
def a61_22 : List AO := [⟨(some 84), none, .mv (.t 15)⟩,
  ⟨(some 85), none, .mv (.t 12)⟩,
  ⟨(some 86), none, .bin .gtr (.t 84) (.t 85)⟩]
theorem tr61_22 : (ro Tryd.f61 22).toList.mapM (trO Tryd.prog 177 (ro Tryd.f61 22)) = some a61_22 := by kernel_rfl
def a61_24 : List AO := [⟨(some 89), none, .fld 1 (.t 4)⟩,
  ⟨(some 90), none, .load none (.t 89)⟩,
  ⟨(some 91), none, .mv (.t 15)⟩,
  ⟨(some 92), none, .mv (.t 15)⟩,
  ⟨(some 93), none, .bin .sub (.t 92) (.v (.int .i64 1))⟩,
  ⟨(some 94), none, .callv (.t 90) [(.t 91), (.t 93)]⟩]
theorem tr61_24 : (ro Tryd.f61 24).toList.mapM (trO Tryd.prog 177 (ro Tryd.f61 24)) = some a61_24 := by kernel_rfl
def a61_23 : List AO := [⟨(some 87), none, .mv (.t 15)⟩,
  ⟨(some 88), none, .bin .sub (.t 87) (.v (.int .i64 1))⟩,
  ⟨(some 15), none, .mv (.t 88)⟩]
theorem tr61_23 : (ro Tryd.f61 23).toList.mapM (trO Tryd.prog 177 (ro Tryd.f61 23)) = some a61_23 := by kernel_rfl
def a61_25 : List AO := [⟨(some 95), none, .mv (.t 1)⟩,
  ⟨(some 96), none, .mv (.t 3)⟩,
  ⟨(some 97), none, .bin .add (.t 95) (.t 96)⟩,
  ⟨(some 98), none, .conv .u64 (.t 97)⟩,
  ⟨(some 99), none, .bin .shr (.t 98) (.v (.int .u64 1))⟩,
  ⟨(some 100), none, .conv .i64 (.t 99)⟩,
  ⟨(some 16), none, .mv (.t 100)⟩]
theorem tr61_25 : (ro Tryd.f61 25).toList.mapM (trO Tryd.prog 177 (ro Tryd.f61 25)) = some a61_25 := by kernel_rfl
def a61_26 : List AO := [⟨(some 101), none, .mv (.t 16)⟩,
  ⟨(some 102), none, .mv (.t 2)⟩,
  ⟨(some 103), none, .bin .add (.t 101) (.t 102)⟩,
  ⟨(some 17), none, .mv (.t 103)⟩]
theorem tr61_26 : (ro Tryd.f61 26).toList.mapM (trO Tryd.prog 177 (ro Tryd.f61 26)) = some a61_26 := by kernel_rfl
def a61_27 : List AO := [⟨(some 18), none, .mv (.v (.int .i64 0))⟩,
  ⟨(some 19), none, .mv (.v (.int .i64 0))⟩]
theorem tr61_27 : (ro Tryd.f61 27).toList.mapM (trO Tryd.prog 177 (ro Tryd.f61 27)) = some a61_27 := by kernel_rfl
def a61_28 : List AO := [⟨(some 104), none, .mv (.t 2)⟩,
  ⟨(some 105), none, .mv (.t 16)⟩,
  ⟨(some 106), none, .bin .gtr (.t 104) (.t 105)⟩]
theorem tr61_28 : (ro Tryd.f61 28).toList.mapM (trO Tryd.prog 177 (ro Tryd.f61 28)) = some a61_28 := by kernel_rfl
def a61_29 : List AO := [⟨(some 107), none, .mv (.t 17)⟩,
  ⟨(some 108), none, .mv (.t 3)⟩,
  ⟨(some 109), none, .bin .sub (.t 107) (.t 108)⟩,
  ⟨(some 18), none, .mv (.t 109)⟩]
theorem tr61_29 : (ro Tryd.f61 29).toList.mapM (trO Tryd.prog 177 (ro Tryd.f61 29)) = some a61_29 := by kernel_rfl
def a61_30 : List AO := [⟨(some 110), none, .mv (.t 16)⟩,
  ⟨(some 19), none, .mv (.t 110)⟩]
theorem tr61_30 : (ro Tryd.f61 30).toList.mapM (trO Tryd.prog 177 (ro Tryd.f61 30)) = some a61_30 := by kernel_rfl
def a61_31 : List AO := [⟨(some 111), none, .mv (.t 1)⟩,
  ⟨(some 18), none, .mv (.t 111)⟩]
theorem tr61_31 : (ro Tryd.f61 31).toList.mapM (trO Tryd.prog 177 (ro Tryd.f61 31)) = some a61_31 := by kernel_rfl
def a61_32 : List AO := [⟨(some 112), none, .mv (.t 2)⟩,
  ⟨(some 19), none, .mv (.t 112)⟩]
theorem tr61_32 : (ro Tryd.f61 32).toList.mapM (trO Tryd.prog 177 (ro Tryd.f61 32)) = some a61_32 := by kernel_rfl
def a61_33 : List AO := [⟨(some 113), none, .mv (.t 17)⟩,
  ⟨(some 114), none, .bin .sub (.t 113) (.v (.int .i64 1))⟩,
  ⟨(some 20), none, .mv (.t 114)⟩]
theorem tr61_33 : (ro Tryd.f61 33).toList.mapM (trO Tryd.prog 177 (ro Tryd.f61 33)) = some a61_33 := by kernel_rfl
def a61_34 : List AO := [⟨(some 115), none, .mv (.t 18)⟩,
  ⟨(some 116), none, .mv (.t 19)⟩,
  ⟨(some 117), none, .bin .lss (.t 115) (.t 116)⟩]
theorem tr61_34 : (ro Tryd.f61 34).toList.mapM (trO Tryd.prog 177 (ro Tryd.f61 34)) = some a61_34 := by kernel_rfl
def a61_35 : List AO := [⟨(some 118), none, .mv (.t 18)⟩,
  ⟨(some 119), none, .mv (.t 19)⟩,
  ⟨(some 120), none, .bin .add (.t 118) (.t 119)⟩,
  ⟨(some 121), none, .conv .u64 (.t 120)⟩,
  ⟨(some 122), none, .bin .shr (.t 121) (.v (.int .u64 1))⟩,
  ⟨(some 123), none, .conv .i64 (.t 122)⟩,
  ⟨(some 21), none, .mv (.t 123)⟩]
theorem tr61_35 : (ro Tryd.f61 35).toList.mapM (trO Tryd.prog 177 (ro Tryd.f61 35)) = some a61_35 := by kernel_rfl
def a61_36 : List AO := [⟨(some 124), none, .fld 0 (.t 4)⟩,
  ⟨(some 125), none, .load none (.t 124)⟩,
  ⟨(some 126), none, .mv (.t 20)⟩,
  ⟨(some 127), none, .mv (.t 21)⟩,
  ⟨(some 128), none, .bin .sub (.t 126) (.t 127)⟩,
  ⟨(some 129), none, .mv (.t 21)⟩,
  ⟨(some 130), none, .callv (.t 125) [(.t 128), (.t 129)]⟩,
  ⟨(some 131), none, .un .not (.t 130)⟩]
theorem tr61_36 : (ro Tryd.f61 36).toList.mapM (trO Tryd.prog 177 (ro Tryd.f61 36)) = some a61_36 := by kernel_rfl
def a61_37 : List AO := [⟨(some 132), none, .mv (.t 21)⟩,
  ⟨(some 133), none, .bin .add (.t 132) (.v (.int .i64 1))⟩,
  ⟨(some 18), none, .mv (.t 133)⟩]
theorem tr61_37 : (ro Tryd.f61 37).toList.mapM (trO Tryd.prog 177 (ro Tryd.f61 37)) = some a61_37 := by kernel_rfl
def a61_38 : List AO := [⟨(some 134), none, .mv (.t 21)⟩,
  ⟨(some 19), none, .mv (.t 134)⟩]
theorem tr61_38 : (ro Tryd.f61 38).toList.mapM (trO Tryd.prog 177 (ro Tryd.f61 38)) = some a61_38 := by kernel_rfl
def a61_39 : List AO := [⟨(some 135), none, .mv (.t 17)⟩,
  ⟨(some 136), none, .mv (.t 18)⟩,
  ⟨(some 137), none, .bin .sub (.t 135) (.t 136)⟩,
  ⟨(some 22), none, .mv (.t 137)⟩]
theorem tr61_39 : (ro Tryd.f61 39).toList.mapM (trO Tryd.prog 177 (ro Tryd.f61 39)) = some a61_39 := by kernel_rfl
def a61_40 : List AO := [⟨(some 138), none, .mv (.t 18)⟩,
  ⟨(some 139), none, .mv (.t 2)⟩,
  ⟨(some 140), none, .bin .lss (.t 138) (.t 139)⟩,
  ⟨(some 141), none, .mv (.t 140)⟩,
  ⟨(some 142), some (141, true), .mv (.t 2)⟩,
  ⟨(some 143), some (141, true), .mv (.t 22)⟩,
  ⟨(some 144), some (141, true), .bin .lss (.t 142) (.t 143)⟩,
  ⟨(some 145), none, .pick (.t 141) (.t 144) (.v (.bool false))⟩]
theorem tr61_40 : (ro Tryd.f61 40).toList.mapM (trO Tryd.prog 177 (ro Tryd.f61 40)) = some a61_40 := by kernel_rfl
def a61_41 : List AO := [⟨(some 146), none, .load (some 2) (.t 4)⟩,
  ⟨(some 147), none, .mv (.t 18)⟩,
  ⟨(some 148), none, .mv (.t 2)⟩,
  ⟨(some 149), none, .mv (.t 22)⟩,
  ⟨(some 150), none, .call 67 [(.t 146), (.t 147), (.t 148), (.t 149)]⟩]
theorem tr61_41 : (ro Tryd.f61 41).toList.mapM (trO Tryd.prog 177 (ro Tryd.f61 41)) = some a61_41 := by kernel_rfl
def a61_42 : List AO := [⟨(some 151), none, .mv (.t 1)⟩,
  ⟨(some 152), none, .mv (.t 18)⟩,
  ⟨(some 153), none, .bin .lss (.t 151) (.t 152)⟩,
  ⟨(some 154), none, .mv (.t 153)⟩,
  ⟨(some 155), some (154, true), .mv (.t 18)⟩,
  ⟨(some 156), some (154, true), .mv (.t 16)⟩,
  ⟨(some 157), some (154, true), .bin .lss (.t 155) (.t 156)⟩,
  ⟨(some 158), none, .pick (.t 154) (.t 157) (.v (.bool false))⟩]
theorem tr61_42 : (ro Tryd.f61 42).toList.mapM (trO Tryd.prog 177 (ro Tryd.f61 42)) = some a61_42 := by kernel_rfl
def a61_43 : List AO := [⟨(some 159), none, .load (some 2) (.t 4)⟩,
  ⟨(some 160), none, .mv (.t 1)⟩,
  ⟨(some 161), none, .mv (.t 18)⟩,
  ⟨(some 162), none, .mv (.t 16)⟩,
  ⟨(some 163), none, .call 61 [(.t 159), (.t 160), (.t 161), (.t 162)]⟩]
theorem tr61_43 : (ro Tryd.f61 43).toList.mapM (trO Tryd.prog 177 (ro Tryd.f61 43)) = some a61_43 := by kernel_rfl
def a61_44 : List AO := [⟨(some 164), none, .mv (.t 16)⟩,
  ⟨(some 165), none, .mv (.t 22)⟩,
  ⟨(some 166), none, .bin .lss (.t 164) (.t 165)⟩,
  ⟨(some 167), none, .mv (.t 166)⟩,
  ⟨(some 168), some (167, true), .mv (.t 22)⟩,
  ⟨(some 169), some (167, true), .mv (.t 3)⟩,
  ⟨(some 170), some (167, true), .bin .lss (.t 168) (.t 169)⟩,
  ⟨(some 171), none, .pick (.t 167) (.t 170) (.v (.bool false))⟩]
theorem tr61_44 : (ro Tryd.f61 44).toList.mapM (trO Tryd.prog 177 (ro Tryd.f61 44)) = some a61_44 := by kernel_rfl
def a61_45 : List AO := [⟨(some 172), none, .load (some 2) (.t 4)⟩,
  ⟨(some 173), none, .mv (.t 16)⟩,
  ⟨(some 174), none, .mv (.t 22)⟩,
  ⟨(some 175), none, .mv (.t 3)⟩,
  ⟨(some 176), none, .call 61 [(.t 172), (.t 173), (.t 174), (.t 175)]⟩]
theorem tr61_45 : (ro Tryd.f61 45).toList.mapM (trO Tryd.prog 177 (ro Tryd.f61 45)) = some a61_45 := by kernel_rfl
/-- sort.rotate_func -/
noncomputable def c67 : Code := .seq (.region 0 (ro Tryd.f67 0) false) (.seq (.region 1 (ro Tryd.f67 1) false) (.seq (.region 2 (ro Tryd.f67 2) false) (.seq (.block 0 (.loop (.seq (.seq (.region 3 (ro Tryd.f67 3) false) (.cond (.tmp 18) (.skip) (.exit 0))) (.block 1 (.seq (.region 4 (ro Tryd.f67 4) false) (.cond (.tmp 21) (.seq (.region 5 (ro Tryd.f67 5) false) (.region 6 (ro Tryd.f67 6) false)) (.seq (.region 7 (ro Tryd.f67 7) false) (.region 8 (ro Tryd.f67 8) false)))))))) (.region 9 (ro Tryd.f67 9) false))))
theorem body67 : Tryd.f67.body = some c67 := by kernel_rfl
theorem res67 : Tryd.f67.results.toList.mapM (trR Tryd.prog) = some [] := by kernel_rfl
theorem nt67 : Tryd.f67.ntmps = 53 := by kernel_rfl
theorem nm67 : (Tryd.f67.name == "runtime.NumGoroutine") = false := by kernel_rfl
def a67_0 : List AO := [⟨(some 4), none, .box 67 (.t 0)⟩]
theorem tr67_0 : (ro Tryd.f67 0).toList.mapM (trO Tryd.prog 53 (ro Tryd.f67 0)) = some a67_0 := by kernel_rfl
def a67_1 : List AO := [⟨(some 10), none, .mv (.t 2)⟩,
  ⟨(some 11), none, .mv (.t 1)⟩,
  ⟨(some 12), none, .bin .sub (.t 10) (.t 11)⟩,
  ⟨(some 8), none, .mv (.t 12)⟩]
theorem tr67_1 : (ro Tryd.f67 1).toList.mapM (trO Tryd.prog 53 (ro Tryd.f67 1)) = some a67_1 := by kernel_rfl
def a67_2 : List AO := [⟨(some 13), none, .mv (.t 3)⟩,
  ⟨(some 14), none, .mv (.t 2)⟩,
  ⟨(some 15), none, .bin .sub (.t 13) (.t 14)⟩,
  ⟨(some 9), none, .mv (.t 15)⟩]
theorem tr67_2 : (ro Tryd.f67 2).toList.mapM (trO Tryd.prog 53 (ro Tryd.f67 2)) = some a67_2 := by kernel_rfl
def a67_3 : List AO := [⟨(some 16), none, .mv (.t 8)⟩,
  ⟨(some 17), none, .mv (.t 9)⟩,
  ⟨(some 18), none, .bin .neq (.t 16) (.t 17)⟩]
theorem tr67_3 : (ro Tryd.f67 3).toList.mapM (trO Tryd.prog 53 (ro Tryd.f67 3)) = some a67_3 := by kernel_rfl
def a67_4 : List AO := [⟨(some 19), none, .mv (.t 8)⟩,
  ⟨(some 20), none, .mv (.t 9)⟩,
  ⟨(some 21), none, .bin .gtr (.t 19) (.t 20)⟩]
theorem tr67_4 : (ro Tryd.f67 4).toList.mapM (trO Tryd.prog 53 (ro Tryd.f67 4)) = some a67_4 := by kernel_rfl
def a67_5 : List AO := [⟨(some 22), none, .load (some 2) (.t 4)⟩,
  ⟨(some 23), none, .mv (.t 2)⟩,
  ⟨(some 24), none, .mv (.t 8)⟩,
  ⟨(some 25), none, .bin .sub (.t 23) (.t 24)⟩,
  ⟨(some 26), none, .mv (.t 2)⟩,
  ⟨(some 27), none, .mv (.t 9)⟩,
  ⟨(some 28), none, .call 72 [(.t 22), (.t 25), (.t 26), (.t 27)]⟩]
theorem tr67_5 : (ro Tryd.f67 5).toList.mapM (trO Tryd.prog 53 (ro Tryd.f67 5)) = some a67_5 := by kernel_rfl
def a67_6 : List AO := [⟨(some 29), none, .mv (.t 8)⟩,
  ⟨(some 30), none, .mv (.t 9)⟩,
  ⟨(some 31), none, .bin .sub (.t 29) (.t 30)⟩,
  ⟨(some 8), none, .mv (.t 31)⟩]
theorem tr67_6 : (ro Tryd.f67 6).toList.mapM (trO Tryd.prog 53 (ro Tryd.f67 6)) = some a67_6 := by kernel_rfl
def a67_7 : List AO := [⟨(some 32), none, .load (some 2) (.t 4)⟩,
  ⟨(some 33), none, .mv (.t 2)⟩,
  ⟨(some 34), none, .mv (.t 8)⟩,
  ⟨(some 35), none, .bin .sub (.t 33) (.t 34)⟩,
  ⟨(some 36), none, .mv (.t 2)⟩,
  ⟨(some 37), none, .mv (.t 9)⟩,
  ⟨(some 38), none, .bin .add (.t 36) (.t 37)⟩,
  ⟨(some 39), none, .mv (.t 8)⟩,
  ⟨(some 40), none, .bin .sub (.t 38) (.t 39)⟩,
  ⟨(some 41), none, .mv (.t 8)⟩,
  ⟨(some 42), none, .call 72 [(.t 32), (.t 35), (.t 40), (.t 41)]⟩]
theorem tr67_7 : (ro Tryd.f67 7).toList.mapM (trO Tryd.prog 53 (ro Tryd.f67 7)) = some a67_7 := by kernel_rfl
def a67_8 : List AO := [⟨(some 43), none, .mv (.t 9)⟩,
  ⟨(some 44), none, .mv (.t 8)⟩,
  ⟨(some 45), none, .bin .sub (.t 43) (.t 44)⟩,
  ⟨(some 9), none, .mv (.t 45)⟩]
theorem tr67_8 : (ro Tryd.f67 8).toList.mapM (trO Tryd.prog 53 (ro Tryd.f67 8)) = some a67_8 := by kernel_rfl
def a67_9 : List AO := [⟨(some 46), none, .load (some 2) (.t 4)⟩,
  ⟨(some 47), none, .mv (.t 2)⟩,
  ⟨(some 48), none, .mv (.t 8)⟩,
  ⟨(some 49), none, .bin .sub (.t 47) (.t 48)⟩,
  ⟨(some 50), none, .mv (.t 2)⟩,
  ⟨(some 51), none, .mv (.t 8)⟩,
  ⟨(some 52), none, .call 72 [(.t 46), (.t 49), (.t 50), (.t 51)]⟩]
theorem tr67_9 : (ro Tryd.f67 9).toList.mapM (trO Tryd.prog 53 (ro Tryd.f67 9)) = some a67_9 := by kernel_rfl
/-- sort.swapRange_func -/
noncomputable def c72 : Code := .seq (.region 0 (ro Tryd.f72 0) false) (.seq (.region 1 (ro Tryd.f72 1) false) (.block 0 (.loop (.seq (.seq (.region 2 (ro Tryd.f72 2) false) (.cond (.tmp 11) (.skip) (.exit 0))) (.seq (.block 1 (.region 4 (ro Tryd.f72 4) false)) (.region 3 (ro Tryd.f72 3) false))))))
theorem body72 : Tryd.f72.body = some c72 := by kernel_rfl
theorem res72 : Tryd.f72.results.toList.mapM (trR Tryd.prog) = some [] := by kernel_rfl
theorem nt72 : Tryd.f72.ntmps = 23 := by kernel_rfl
theorem nm72 : (Tryd.f72.name == "runtime.NumGoroutine") = false := by kernel_rfl
def a72_0 : List AO := [⟨(some 4), none, .box 67 (.t 0)⟩]
theorem tr72_0 : (ro Tryd.f72 0).toList.mapM (trO Tryd.prog 23 (ro Tryd.f72 0)) = some a72_0 := by kernel_rfl
def a72_1 : List AO := [⟨(some 8), none, .mv (.v (.int .i64 0))⟩]
theorem tr72_1 : (ro Tryd.f72 1).toList.mapM (trO Tryd.prog 23 (ro Tryd.f72 1)) = some a72_1 := by kernel_rfl
def a72_2 : List AO := [⟨(some 9), none, .mv (.t 8)⟩,
  ⟨(some 10), none, .mv (.t 3)⟩,
  ⟨(some 11), none, .bin .lss (.t 9) (.t 10)⟩]
theorem tr72_2 : (ro Tryd.f72 2).toList.mapM (trO Tryd.prog 23 (ro Tryd.f72 2)) = some a72_2 := by kernel_rfl
def a72_4 : List AO := [⟨(some 14), none, .fld 1 (.t 4)⟩,
  ⟨(some 15), none, .load none (.t 14)⟩,
  ⟨(some 16), none, .mv (.t 1)⟩,
  ⟨(some 17), none, .mv (.t 8)⟩,
  ⟨(some 18), none, .bin .add (.t 16) (.t 17)⟩,
  ⟨(some 19), none, .mv (.t 2)⟩,
  ⟨(some 20), none, .mv (.t 8)⟩,
  ⟨(some 21), none, .bin .add (.t 19) (.t 20)⟩,
  ⟨(some 22), none, .callv (.t 15) [(.t 18), (.t 21)]⟩]
theorem tr72_4 : (ro Tryd.f72 4).toList.mapM (trO Tryd.prog 23 (ro Tryd.f72 4)) = some a72_4 := by kernel_rfl
def a72_3 : List AO := [⟨(some 12), none, .mv (.t 8)⟩,
  ⟨(some 13), none, .bin .add (.t 12) (.v (.int .i64 1))⟩,
  ⟨(some 8), none, .mv (.t 13)⟩]
theorem tr72_3 : (ro Tryd.f72 3).toList.mapM (trO Tryd.prog 23 (ro Tryd.f72 3)) = some a72_3 := by kernel_rfl
end Go.Proofs.YtdjeodopibaebaaDoor
