import Derived.Test.YtjkclhbckfkeeaaGreatDoorCob
import Derived.Test.YtjkclhbckfkeeaaGreatDoorAv22
import Derived.Lib.LaidTab
import Derived.Lib.ItoaNum
import Derived.Lib.ItoaLen
set_option linter.unusedSimpArgs false
set_option linter.unusedVariables false
set_option linter.deprecated false
set_option maxHeartbeats 1000000
noncomputable section
namespace Go.Proofs.YtjkclhbckfkeeaaGreatDoor
open Go Go.RowKit X
theorem ZZ : FI 90 Tryz.f90 99 (.h 0 (.h 1 (.h 2 (.h 3 (.h 4 (.s (.i 5 38 (.g 6) .n) (.h 7 (.s (.h 8 (.w 0 9 44 1 (.h 11 (.g 12)) 10)) (.s (.i 13 81 (.g 14) .n) (.s (.i 15 94 (.g 16) .n) (.e 17))))))))))) [.t 4] [(0,2,[bx 25 0,A 4 (mv .nils)]),(1,5,[mv .nils]),(2,14,[f 1 2,L,m 1,X 3,ls 3 17,A 6 (o (.alloc 215 X.z18)),st 3 6 18]),(3,20,[ls 2 2,f 0 6,L,c 150 [20,22],A 19 (m 23),e 0 19,e 1 19,A 7 (o (.alloc 212 X.z17)),st 5 7 24,A 8 (m 25)]),(4,27,[ls 2 2,f 1 6,L,c 150 [27,29],A 26 (m 30),e 0 26,e 1 26,A 9 (o (.alloc 212 X.z17)),st 5 9 31,A 10 (m 32)]),(5,33,[m 8,nt 33,m 34,G,m 10,nt 36,P]),(6,39,[m 5,o (.slc 48 1 false [(.v (.int .i64 14))]),ap 48 1 8 39 40,A 5 (m 41)]),(7,11,[mv (.bool false)]),(8,12,[mi 0]),(9,42,[m 12,m 1,b .lss 42 43]),(10,45,[m 12,B .add 1,A 12 (m 46)]),(11,47,[f 1 2,L,m 12,X 3,ls 3 50,A 13 (o (.alloc 215 X.z18)),st 3 13 51]),(12,52,[m 11,m 52,G,f 0 13,L,f 0 6,L,b .eql 55 57,m 58,H,f 1 13,L,f 1 6,L,b .eql 61 63,Gn 53,pf 59 64,P,m 66,G,f 0 13,L,f 1 6,L,b .eql 69 71,m 72,H,f 1 13,L,f 0 6,L,b .eql 75 77,Gn 67,pf 73 78,P,A 11 (m 80)]),(13,81,[m 11]),(14,82,[m 5,o (.slc 48 1 false [(.v (.int .i64 6))]),ap 48 1 8 82 83,A 5 (m 84)]),(15,85,[ls 3 6,c 151 [85],nt 86,m 87,G,f 0 6,L,f 1 6,L,b .eql 90 92,P]),(16,95,[m 5,o (.slc 48 1 false [(.v (.int .i64 2))]),ap 48 1 8 95 96,A 5 (m 97)]),(17,98,[m 5,A 4 (m 98)])] := .mk Tryz.func90
theorem Aaa : FI 94 Tryz.f94 38 (.h 0 (.h 1 (.s (.h 2 (.w 0 3 10 1 (.s (.i 5 14 (.d 6) .n) (.d 7)) 4)) (.e 8)))) [.t 4] [(0,2,[bx 25 0,A 4 (mv .nils)]),(1,5,[mv .nils]),(2,6,[mi 0]),(3,7,[m 6,m 1,N,b .lss 7 9]),(4,11,[m 6,B .add 1,A 6 (m 12)]),(5,13,[m 6,B .eql 0]),(8,37,[m 5,A 4 (m 37)])] := .mk Tryz.func94
def Rg : List AO := dq [m 5,ls 2 2,m 1,m 6,X 8,F 0,F 3,L,c 158 [16,22],sl 9 1 [23],ap 9 1 16 15 24,A 5 (m 25)] 15 none
theorem Am2 : TR Tryz.f94 38 6 = some Rg := by kernel_rfl
def Oq : List AO := dq [m 5,ls 2 2,m 1,m 6,X 8,F 0,F 4,L,c 158 [27,33],sl 9 1 [34],ap 9 1 16 26 35,A 5 (m 36)] 26 none
theorem Add : TR Tryz.f94 38 7 = some Oq := by kernel_rfl
def Xw : List (List Nat) := [[], [], [], [], [2, 3], [2, 3, 4], [2, 3, 4, 5], [2, 3, 4, 5, 6], [1, 2, 3, 4, 5, 6, 7], [1, 2, 3, 4, 5, 6, 7, 8], [0, 1, 2, 3, 4, 5, 6, 7, 8, 9], [0, 1, 2, 3, 4, 5, 6, 7, 8, 9, 10]]
theorem Ah7 : Ci (ro Tryz.f94 6) Rg Xw = true := by kernel_rfl
def RI : List (List Nat) := [[], [], [], [], [2, 3], [2, 3, 4], [2, 3, 4, 5], [2, 3, 4, 5, 6], [1, 2, 3, 4, 5, 6, 7], [1, 2, 3, 4, 5, 6, 7, 8], [0, 1, 2, 3, 4, 5, 6, 7, 8, 9], [0, 1, 2, 3, 4, 5, 6, 7, 8, 9, 10]]
theorem Abj : Ci (ro Tryz.f94 7) Oq RI = true := by kernel_rfl
theorem Aab : FI 95 Tryz.f95 28 (.h 0 (.s (.h 1 (.w 0 2 11 1 (.i 4 21 (.e 5) .n) 3)) (.e 6))) [.c (some 15) 4, .t 5] [(0,4,[A 2 (bx 31 0),o (.alloc 135 X.z9),mv (.bool false)]),(1,6,[mi 0]),(2,7,[m 6,f 1 2,L,N,b .lss 7 10]),(3,12,[m 6,B .add 1,A 6 (m 13)]),(4,14,[f 1 2,L,m 6,X 15,F 0,L,m 1,b .eql 19 20]),(5,22,[f 1 2,L,m 6,X 15,ls 15 25,st 15 4 26,A 5 (mv (.bool true))]),(6,27,[o (.build X.z9 []),st 15 4 27,A 5 (mv (.bool false))])] := .mk Tryz.func95
theorem Aac : FI 96 Tryz.f96 9 (.h 0 (.q 1 8 2 (.e 3))) [.t 4] [(0,2,[bx 135 0,bx 164 1,mi 0]),(1,5,[f 1 2,ls 8 5,ls 9 3,c 159 [6,7]]),(2,4,[mi 0]),(3,4,[mi 20])] := .mk Tryz.func96
theorem SG : FI 97 Tryz.f97 108 (.h 0 (.h 1 (.q 2 19 3 (.j 4 (.j 5 (.s (.h 6 (.w 0 7 48 1 (.j 9 (.s (.i 10 74 (.x 1) .n) (.j 11 (.c 89 (.g 12) (.g 13))))) 8)) (.h 14 (.h 15 (.e 16))))))))) [.c (some 9) 8] [(0,4,[bx 25 0,A 8 (o (.alloc 164 X.z19))]),(1,14,[m 2,m 3,o (.build X.z19 [(0, 1, (.t 14)), (1, 1, (.t 15))]),A 9 (o (.alloc 164 X.z19)),st 9 9 16]),(2,17,[m 1,N,B .eql 0]),(3,20,[ls 9 9,st 9 8 20]),(6,12,[mi 0]),(7,45,[m 12,m 1,N,b .lss 45 47]),(8,49,[m 12,B .add 1,A 12 (m 50)]),(10,73,[m 12,B .eql 0]),(11,75,[m 1,m 12,X 8,F 0,F 5,L,m 1,m 12,B .sub 1,ix 8 81 83,F 0,F 6,L,b .sub 80 87,B .geq 1440]),(12,90,[f 4 9,L,B .add 1,f 4 9,st 1 93 92]),(13,94,[f 5 9,L,B .add 1,f 5 9,st 1 97 96]),(14,98,[ls 2 4,m 1,c 94 [98,99],A 13 (m 100)]),(15,101,[m 13,m 13,N,B .sub 1,o (.sub 1 (some (.v (.int .i64 1))) (some (.t 104)) none (.t 101)),f 8 9,st 1 106 105]),(16,107,[ls 9 9,st 9 8 107])] := .mk Tryz.func97
def Rh : List AO := dq [ls 2 4,m 1,o (.idx 8 (.t 23) (.v (.int .i64 0))),F 0,F 3,L,c 160 [22,27],A 21 (m 28),e 0 21,e 1 21,A 10 (o (.alloc 212 X.z17)),st 5 10 29,A 11 (m 30)] 22 none
theorem Am3 : TR Tryz.f97 108 4 = some Rh := by kernel_rfl
def Ri : List AO := dq [f 3 10,ls 2 32,m 1,o (.idx 8 (.t 34) (.v (.int .i64 0))),F 0,F 5,L,c 162 [33,38],c 161 [39],A 31 (m 40),e 0 31,e 1 31,f 2 9,st 1 43 41,f 3 9,st 1 44 42] 32 none
theorem Am4 : TR Tryz.f97 108 5 = some Ri := by kernel_rfl
def Rj : List AO := dq [f 6 9,L,m 1,m 12,X 8,F 0,F 0,L,sl 9 1 [58],ap 9 1 16 52 59,f 7 9,L,m 1,m 12,X 8,F 0,F 1,L,sl 3 1 [68],ap 3 1 8 62 69,f 6 9,st 1 71 60,f 7 9,st 1 72 70] 51 none
theorem Am5 : TR Tryz.f97 108 9 = some Rj := by kernel_rfl
def Xx : List (List Nat) := [[], [], [1], [1, 2], [1, 2, 3], [1, 2, 3, 4], [0, 1, 2, 3, 4, 5], [0, 1, 2, 3, 4, 5, 6], [0, 1, 2, 3, 4, 5, 6, 7], [0, 1, 2, 3, 4, 5, 6, 7], [], [0, 1, 2, 3, 4, 5, 6, 7, 8, 10], [0, 1, 2, 3, 4, 5, 6, 7, 8, 9, 10, 11]]
theorem Ah8 : Ci (ro Tryz.f97 4) Rh Xx = true := by kernel_rfl
def Xy : List (List Nat) := [[], [0], [], [2], [2, 3], [2, 3, 4], [2, 3, 4, 5], [0, 1, 2, 3, 4, 5, 6], [0, 1, 2, 3, 4, 5, 6, 7], [0, 1, 2, 3, 4, 5, 6, 7, 8], [0, 1, 2, 3, 4, 5, 6, 7, 8, 9], [0, 1, 2, 3, 4, 5, 6, 7, 8, 9], [0, 1, 2, 3, 4, 5, 6, 7, 8, 9, 10], [0, 1, 2, 3, 4, 5, 6, 7, 8, 9, 10, 12], [0, 1, 2, 3, 4, 5, 6, 7, 8, 9, 10, 11, 12, 13], [0, 1, 2, 3, 4, 5, 6, 7, 8, 9, 10, 11, 12, 13, 14]]
theorem Ah9 : Ci (ro Tryz.f97 5) Ri Xy = true := by kernel_rfl
def Xz : List (List Nat) := [[], [0], [], [], [2, 3], [2, 3, 4], [2, 3, 4, 5], [2, 3, 4, 5, 6], [2, 3, 4, 5, 6, 7], [0, 1, 2, 3, 4, 5, 6, 7, 8], [], [10], [], [], [12, 13], [12, 13, 14], [12, 13, 14, 15], [12, 13, 14, 15, 16], [12, 13, 14, 15, 16, 17], [0, 1, 2, 3, 4, 5, 6, 7, 8, 9, 10, 11, 12, 13, 14, 15, 16, 17, 18], [0, 1, 2, 3, 4, 5, 6, 7, 8, 9, 10, 11], [0, 1, 2, 3, 4, 5, 6, 7, 8, 9, 10, 11, 12, 13, 14, 15, 16, 17, 18, 19, 20], [0, 1, 2, 3, 4, 5, 6, 7, 8, 9, 10, 11, 12, 13, 14, 15, 16, 17, 18, 19, 20, 21], [0, 1, 2, 3, 4, 5, 6, 7, 8, 9, 10, 11, 12, 13, 14, 15, 16, 17, 18, 19, 20, 21, 22]]
theorem Aia : Ci (ro Tryz.f97 9) Rj Xz = true := by kernel_rfl
theorem Aad : FI 98 Tryz.f98 28 (.h 0 (.s (.h 1 (.w 0 2 11 1 (.i 4 21 (.e 5) .n) 3)) (.e 6))) [.c (some 3) 4, .t 5] [(0,4,[A 2 (bx 31 0),o (.alloc 140 X.z10),mv (.bool false)]),(1,6,[mi 0]),(2,7,[m 6,f 2 2,L,N,b .lss 7 10]),(3,12,[m 6,B .add 1,A 6 (m 13)]),(4,14,[f 2 2,L,m 6,X 3,F 0,L,m 1,b .eql 19 20]),(5,22,[f 2 2,L,m 6,X 3,ls 3 25,st 3 4 26,A 5 (mv (.bool true))]),(6,27,[o (.build X.z10 []),st 3 4 27,A 5 (mv (.bool false))])] := .mk Tryz.func98
theorem SH : FI 99 Tryz.f99 31 (.h 0 (.s (.h 1 (.w 0 2 15 1 (.j 4 (.c 30 (.e 5) .n)) 3)) (.e 6))) [.t 4] [(0,2,[bx 140 0,A 4 (mv (.bool false))]),(1,5,[mi 1]),(2,6,[m 5,m 1,N,b .lss 6 8,m 9,H,f 1 2,L,N,B .gtr 0,Q]),(3,16,[m 5,B .add 1,A 5 (m 17)]),(4,18,[f 1 2,L,m 1,m 5,B .sub 1,ix 1 20 22,L,m 1,m 5,X 1,L,c 130 [19,24,28],B .lss 0]),(5,4,[mv (.bool false)]),(6,4,[mv (.bool true)])] := .mk Tryz.func99
theorem XT : FI 100 Tryz.f100 19 (.h 0 (.h 1 (.q 2 16 3 (.e 4)))) [.t 4] [(0,2,[bx 31 0,bx 96 1,mi 0]),(1,8,[ls 4 2,f 8 3,L,c 98 [8,10],A 7 (m 11),e 0 7,e 1 7,A 5 (o (.alloc 140 X.z10)),st 3 5 12,A 6 (m 13)]),(2,14,[f 8 3,L,B .eql 0]),(3,4,[mi 0]),(4,17,[f 2 5,L,A 4 (m 18)])] := .mk Tryz.func100
theorem XU : FI 101 Tryz.f101 24 (.h 0 (.h 1 (.q 2 17 3 (.e 4)))) [.t 6, .t 7] [(0,6,[A 3 (bx 25 0),mi 0,mi 0]),(1,11,[ls 2 3,m 1,c 163 [11,12],A 10 (m 13),e 0 10,e 1 10,A 8 (m 14),A 9 (m 15)]),(2,16,[m 9,B .neq 0]),(3,6,[A 18 (m 9),mi 0,m 18]),(4,19,[m 8,m 2,c 164 [19,20],e 0 21,e 1 21,A 6 (m 22),A 7 (m 23)])] := .mk Tryz.func101
theorem XV : FI 102 Tryz.f102 21 (.h 0 (.s (.h 1 (.w 0 2 8 1 (.i 4 13 (.e 5) .n) 3)) (.e 6))) [.t 4, .t 5] [(0,4,[mi 0,mi 0]),(1,6,[mi 0]),(2,7,[m 6,B .leq 25]),(3,9,[m 6,B .add 5,A 6 (m 10)]),(4,11,[m 6,m 1,b .eql 11 12]),(5,14,[m 0,m 6,o (.bin .add (.v (.int .i64 100)) (.t 15)),B .mul 100,c 165 [14,17],e 0 18,e 1 18,A 4 (m 19),A 5 (m 20)]),(6,4,[mi 0,mi 2])] := .mk Tryz.func102
theorem XW : FI 103 Tryz.f103 39 (.h 0 (.s (.h 1 (.w 0 2 13 1 (.i 4 23 (.e 5) .n) 3)) (.e 6))) [.t 6, .t 7] [(0,6,[A 3 (bx 135 0),mi 0,mi 0]),(1,8,[mi 0]),(2,9,[m 8,f 14 3,L,N,b .lss 9 12]),(3,14,[m 8,B .add 1,A 8 (m 15)]),(4,16,[f 14 3,L,m 8,X 2,F 0,L,m 1,b .eql 21 22]),(5,24,[m 2,f 14 3,L,m 8,X 2,F 1,L,o (.bin .mul (.v (.int .i64 100)) (.t 30)),c 165 [24,31],e 0 32,e 1 32,A 6 (m 33),A 7 (m 34)]),(6,35,[m 2,o (.call 165 [(.t 35), (.v (.int .i64 10000))]),e 0 36,e 1 36,A 6 (m 37),A 7 (m 38)])] := .mk Tryz.func103
theorem XX : FI 104 Tryz.f104 43 (.h 0 (.h 1 (.s (.h 2 (.w 0 3 10 1 (.q 5 28 6 (.g 7)) 4)) (.e 8)))) [.t 4] [(0,4,[mv (.bool false)]),(1,5,[mi 0]),(2,6,[mi 0]),(3,7,[m 6,m 1,N,b .lss 7 9]),(4,11,[m 6,B .add 1,A 6 (m 12)]),(5,13,[m 1,m 6,X 4,F 0,L,m 5,b .neq 17 18,m 19,G,m 1,m 6,X 4,F 1,L,m 5,b .leq 25 26,P]),(6,4,[mv (.bool false)]),(7,29,[m 1,m 6,X 4,F 1,L,A 5 (m 33)]),(8,34,[m 1,N,B .gtr 0,m 36,H,m 5,m 0,N,b .eql 38 40,Q,A 4 (m 42)])] := .mk Tryz.func104
theorem RW : FI 105 Tryz.f105 36 (.h 0 (.q 1 10 2 (.s (.h 3 (.w 0 4 14 1 (.h 6 (.w 2 7 19 3 (.j 9 (.c 35 (.e 10) .n)) 8)) 5)) (.e 11)))) [.t 4] [(0,2,[bx 31 0,A 4 (mi 0)]),(1,7,[ls 4 2,m 1,c 109 [7,8],nt 9]),(2,4,[mi 19]),(3,5,[mi 0]),(4,11,[m 5,m 1,N,b .lss 11 13]),(5,15,[m 5,B .add 1,A 5 (m 16)]),(6,6,[mi 0]),(7,17,[m 6,m 5,b .lss 17 18]),(8,20,[m 6,B .add 1,A 6 (m 21)]),(9,22,[ls 4 2,m 1,m 5,X 4,ls 4 25,c 167 [22,26],ls 4 2,m 1,m 6,X 4,ls 4 31,c 167 [28,32],c 166 [27,33],nt 34]),(10,4,[mi 23]),(11,4,[mi 0])] := .mk Tryz.func105
theorem RX : FI 106 Tryz.f106 74 (.h 0 (.s (.h 1 (.w 0 2 17 1 (.i 4 35 (.e 5) .n) 3)) (.h 6 (.q 7 43 8 (.s (.h 9 (.w 2 10 48 3 (.j 12 (.i 13 72 (.e 14) .n)) 11)) (.e 15)))))) [.t 8] [(0,4,[bx 25 0,bx 31 1,A 8 (mi 0)]),(1,9,[mi 0]),(2,14,[m 9,m 3,N,b .lss 14 16]),(3,18,[m 9,B .add 1,A 9 (m 19)]),(4,20,[m 3,m 9,X 4,F 0,L,B .lss 0,m 25,G,m 3,m 9,X 4,F 0,L,m 2,N,b .geq 31 33,P]),(5,8,[mi 2]),(6,37,[ls 4 5,m 3,c 52 [37,38],A 36 (m 39),e 0 36,e 1 36,A 10 (m 40),A 11 (m 41)]),(7,42,[m 11,B .neq 0]),(8,44,[m 11,A 8 (m 44)]),(9,12,[mi 0]),(10,45,[m 12,m 10,N,b .lss 45 47]),(11,49,[m 12,B .add 1,A 12 (m 50)]),(12,51,[ls 2 4,ls 4 5,m 2,m 3,m 10,m 12,X 2,o (.idxa 1 2 (.t 57) (.v (.int .i64 0))),L,ix 4 54 59,ls 4 60,m 3,m 10,m 12,X 2,o (.idxa 1 2 (.t 65) (.v (.int .i64 1))),L,ix 4 62 67,ls 4 68,c 168 [51,52,53,61,69],A 13 (m 70)]),(13,71,[m 13,B .neq 0]),(14,73,[m 13,A 8 (m 73)]),(15,8,[mi 0])] := .mk Tryz.func106
theorem RY : FI 107 Tryz.f107 76 (.h 0 (.h 1 (.s (.h 2 (.w 0 3 20 1 (.j 5 (.h 6 (.s (.i 7 47 (.g 8) .n) (.q 9 59 10 (.q 11 62 12 (.i 13 64 (.g 14) .n)))))) 4)) (.e 15)))) [.t 10, .t 11] [(0,10,[A 5 (bx 25 0),mv .nils,mi 0]),(1,12,[mv .nils]),(2,13,[mi 0]),(3,17,[m 13,m 1,N,b .lss 17 19]),(4,21,[m 13,B .add 1,A 13 (m 22)]),(5,23,[ls 2 5,m 1,m 13,X 7,ls 7 26,m 2,m 3,c 169 [23,27,28,29],A 14 (m 30)]),(6,31,[m 14,m 1,m 13,X 7,F 3,L,b .mul 31 36,A 15 (m 37),A 16 (mi 0)]),(7,38,[m 1,m 13,X 7,F 1,L,B .eql 4,m 43,H,m 14,B .eql 1,Q]),(8,49,[m 4,m 1,m 13,X 7,F 3,L,c 165 [49,54],A 48 (m 55),e 0 48,e 1 48,A 15 (m 56),A 16 (m 57)]),(9,58,[m 16,B .neq 0]),(10,10,[A 60 (m 16),mv .nils,m 60]),(11,61,[m 15,B .gtr 1099511627776]),(12,10,[mv .nils,mi 11]),(13,63,[m 15,B .neq 0]),(14,65,[m 12,m 1,m 13,X 7,F 0,L,m 15,o (.build X.z16 [(0, 1, (.t 70)), (1, 1, (.t 71))]),sl 92 2 [72],ap 92 2 24 65 73,A 12 (m 74)]),(15,10,[A 75 (m 12),m 75,mi 0])] := .mk Tryz.func107
theorem XY : FI 108 Tryz.f108 20 (.h 0 (.h 1 (.s (.h 2 (.w 0 3 8 1 (.g 5) 4)) (.e 6)))) [.t 2] [(0,2,[mv .nils]),(1,3,[mv .nils]),(2,4,[mi 0]),(3,5,[m 4,m 0,N,b .lss 5 7]),(4,9,[m 4,B .add 1,A 4 (m 10)]),(5,11,[m 3,m 0,m 4,X 8,F 0,ls 7 15,sl 53 7 [16],ap 53 7 80 11 17,A 3 (m 18)]),(6,19,[m 3,A 2 (m 19)])] := .mk Tryz.func108
theorem RZ : FI 109 Tryz.f109 29 (.h 0 (.s (.h 1 (.w 0 2 9 1 (.j 4 (.c 28 (.e 5) .n)) 3)) (.e 6))) [.t 4] [(0,2,[bx 31 0,A 4 (mv (.bool false))]),(1,5,[mi 0]),(2,6,[m 5,m 1,N,b .lss 6 8]),(3,10,[m 5,B .add 1,A 5 (m 11)]),(4,12,[m 1,m 5,X 4,F 2,L,B .lss 0,m 17,G,m 1,m 5,X 4,F 2,L,f 0 2,L,N,b .geq 23 26,P]),(5,4,[mv (.bool false)]),(6,4,[mv (.bool true)])] := .mk Tryz.func109
theorem Ya : FI 110 Tryz.f110 28 (.h 0 (.s (.h 1 (.w 0 2 9 1 (.i 4 27 (.e 5) .n) 3)) (.e 6))) [.t 4] [(0,4,[mv (.bool false)]),(1,5,[mi 0]),(2,6,[m 5,m 0,N,b .lss 6 8]),(3,10,[m 5,B .add 1,A 5 (m 11)]),(4,12,[m 0,m 5,X 2,o (.idxa 1 2 (.t 14) (.v (.int .i64 0))),L,m 1,b .eql 16 17,m 18,G,m 0,m 5,X 2,o (.idxa 1 2 (.t 22) (.v (.int .i64 1))),L,m 1,b .eql 24 25,P]),(5,4,[mv (.bool true)]),(6,4,[mv (.bool false)])] := .mk Tryz.func110
theorem Sa : FI 111 Tryz.f111 44 (.h 0 (.s (.h 1 (.w 0 2 15 1 (.j 4 (.c 42 (.e 5) .n)) 3)) (.e 6))) [.t 8] [(0,4,[bx 31 0,A 8 (mi 0)]),(1,10,[m 3,B .add 1,A 9 (m 11)]),(2,12,[m 9,m 1,N,b .lss 12 14]),(3,16,[m 9,B .add 1,A 9 (m 17)]),(4,18,[m 2,m 9,c 110 [18,19],nt 20,m 21,H,f 0 4,L,m 1,m 3,X 4,F 2,L,ix 9 24 29,ls 9 30,f 0 4,L,m 1,m 9,X 4,F 2,L,ix 9 33 38,ls 9 39,c 170 [31,40],Q]),(5,43,[m 9,A 8 (m 43)]),(6,8,[mi (-1)])] := .mk Tryz.func111
theorem Yb : FI 123 Tryz.f123 15 (.h 0 (.e 1)) [.t 2] [(0,2,[mv (.bool false)]),(1,3,[m 0,o (.call 23 [(.t 3), (.v (.int .i64 2)), (.v (.int .i64 2))]),m 4,H,m 0,o (.sidx (.t 6) (.v (.int .i64 0))),c 57 [7],m 8,G,m 0,o (.sidx (.t 10) (.v (.int .i64 1))),c 57 [11],Hn 5,pt 9 12,Q,A 2 (m 14)])] := .mk Tryz.func123
theorem Yc : FI 124 Tryz.f124 21 (.h 0 (.s (.h 1 (.w 0 2 10 1 (.i 4 20 (.e 5) .n) 3)) (.e 6))) [.t 4] [(0,2,[bx 25 0,A 4 (mv (.bool false))]),(1,5,[mi 0]),(2,6,[m 5,f 0 2,L,N,b .lss 6 9]),(3,11,[m 5,B .add 1,A 5 (m 12)]),(4,13,[f 0 2,L,m 5,X 5,F 1,L,m 1,b .eql 18 19]),(5,4,[mv (.bool true)]),(6,4,[mv (.bool false)])] := .mk Tryz.func124
theorem Sb : FI 125 Tryz.f125 19 (.h 0 (.q 1 4 2 (.j 3 .r))) [.t 2] [(0,2,[mv (.str [])]),(1,3,[m 0,o (.bin .lss (.t 3) (.v (.int .u64 10)))]),(2,5,[m 0,m 0,o (.bin .add (.t 6) (.v (.int .u64 1))),o (.ssub (some (.t 5)) (some (.t 7)) (.v (.str [48, 49, 50, 51, 52, 53, 54, 55, 56, 57]))),A 2 (m 8)]),(3,9,[m 0,o (.bin .quo (.t 9) (.v (.int .u64 10))),c 125 [10],m 0,o (.bin .rem (.t 12) (.v (.int .u64 10))),m 0,o (.bin .rem (.t 14) (.v (.int .u64 10))),o (.bin .add (.t 15) (.v (.int .u64 1))),o (.ssub (some (.t 13)) (some (.t 16)) (.v (.str [48, 49, 50, 51, 52, 53, 54, 55, 56, 57]))),b .add 11 17,A 2 (m 18)])] := .mk Tryz.func125
theorem Yd : FI 126 Tryz.f126 13 (.h 0 (.q 1 10 2 (.e 3))) [.t 2] [(0,1,[bx 132 0,mi 0]),(1,3,[ls 8 1,c 175 [3],B .gtr 8,m 5,G,ls 8 1,c 176 [7],B .gtr 128,P]),(2,2,[mi 4]),(3,11,[ls 8 1,c 177 [11],A 2 (m 12)])] := .mk Tryz.func126
theorem Sc : FI 127 Tryz.f127 58 (.h 0 (.h 1 (.s (.h 2 (.w 0 3 11 1 (.h 5 (.s (.h 6 (.w 2 7 19 3 (.d 9) 8)) (.s (.i 10 45 (.g 11) .n) (.i 12 51 (.g 13) .n)))) 4)) (.e 14)))) [.t 2] [(0,2,[mv .nils]),(1,3,[mv .nils]),(2,4,[mi 0]),(3,8,[m 4,m 0,N,b .lss 8 10]),(4,12,[m 4,B .add 1,A 4 (m 13)]),(5,14,[m 4,c 68 [14],o (.bin .add (.v (.str [99, 111, 109, 98, 105, 110, 101, 32])) (.t 15)),A 5 (m 16),A 6 (mv (.bool false))]),(6,7,[mi 0]),(7,17,[m 7,m 4,b .lss 17 18]),(8,20,[m 7,B .add 1,A 7 (m 21)]),(9,22,[m 6,m 22,G,m 0,m 7,X 1,L,m 0,m 4,X 1,L,b .eql 27 31,P,A 6 (m 33)]),(10,34,[m 0,m 4,X 1,L,B .lss 1,m 38,G,m 0,m 4,X 1,L,B .gtr 9999,P]),(11,46,[m 3,m 5,o (.build X.z6 [(0, 1, (.v (.int .i64 2))), (1, 1, (.t 47))]),sl 126 2 [48],ap 126 2 24 46 49,A 3 (m 50)]),(12,51,[m 6]),(13,52,[m 3,m 5,o (.build X.z6 [(0, 1, (.v (.int .i64 6))), (1, 1, (.t 53))]),sl 126 2 [54],ap 126 2 24 52 55,A 3 (m 56)]),(14,57,[m 3,A 2 (m 57)])] := .mk Tryz.func127
theorem Sd : FI 128 Tryz.f128 74 (.h 0 (.h 1 (.s (.h 2 (.w 0 3 11 1 (.h 5 (.s (.h 6 (.w 2 7 19 3 (.d 9) 8)) (.s (.i 10 42 (.g 11) .n) (.s (.i 12 48 (.g 13) .n) (.i 14 67 (.g 15) .n))))) 4)) (.e 16)))) [.t 2] [(0,2,[mv .nils]),(1,3,[mv .nils]),(2,4,[mi 0]),(3,8,[m 4,m 0,N,b .lss 8 10]),(4,12,[m 4,B .add 1,A 4 (m 13)]),(5,14,[m 4,c 68 [14],o (.bin .add (.v (.str [112, 101, 114, 99, 101, 110, 116, 32])) (.t 15)),A 5 (m 16),A 6 (mv (.bool false))]),(6,7,[mi 0]),(7,17,[m 7,m 4,b .lss 17 18]),(8,20,[m 7,B .add 1,A 7 (m 21)]),(9,22,[m 6,m 22,G,m 0,m 7,X 2,F 0,L,m 0,m 4,X 2,F 0,L,b .eql 28 33,P,A 6 (m 35)]),(10,36,[m 0,m 4,X 2,F 0,L,o (.call 23 [(.t 40), (.v (.int .i64 3)), (.v (.int .i64 3))]),nt 41]),(11,43,[m 3,m 5,o (.build X.z6 [(0, 1, (.v (.int .i64 5))), (1, 1, (.t 44))]),sl 126 2 [45],ap 126 2 24 43 46,A 3 (m 47)]),(12,48,[m 6]),(13,49,[m 3,m 5,o (.build X.z6 [(0, 1, (.v (.int .i64 6))), (1, 1, (.t 50))]),sl 126 2 [51],ap 126 2 24 49 52,A 3 (m 53)]),(14,54,[m 0,m 4,X 2,F 1,L,B .lss 0,m 59,G,m 0,m 4,X 2,F 1,L,B .gtr 1000,P]),(15,68,[m 3,m 5,o (.build X.z6 [(0, 1, (.v (.int .i64 2))), (1, 1, (.t 69))]),sl 126 2 [70],ap 126 2 24 68 71,A 3 (m 72)]),(16,73,[m 3,A 2 (m 73)])] := .mk Tryz.func128
theorem Ye : FI 129 Tryz.f129 5 (.h 0 (.e 1)) [.t 2] [(0,2,[mv (.bool false)]),(1,3,[m 0,o (.call 54 [(.t 3), (.v (.int .i64 3))]),A 2 (m 4)])] := .mk Tryz.func129
theorem Yf : FI 130 Tryz.f130 31 (.h 0 (.s (.h 1 (.w 0 2 11 1 (.i 4 29 (.e 5) .n) 3)) (.e 6))) [.t 6] [(0,6,[mi 0]),(1,7,[mi 0]),(2,8,[m 7,m 0,N,b .lss 8 10]),(3,12,[m 7,B .add 1,A 7 (m 13)]),(4,14,[m 0,m 7,X 2,F 0,L,m 1,b .eql 18 19,m 20,H,m 0,m 7,X 2,F 1,L,m 2,b .eql 26 27,Q]),(5,30,[m 7,A 6 (m 30)]),(6,6,[mi (-1)])] := .mk Tryz.func130
theorem Yg : FI 131 Tryz.f131 5 (.h 0 (.e 1)) [.t 2] [(0,2,[mv (.bool false)]),(1,3,[m 0,o (.call 54 [(.t 3), (.v (.int .i64 2))]),A 2 (m 4)])] := .mk Tryz.func131
theorem Yh : FI 132 Tryz.f132 12 (.h 0 (.h 1 (.e 2))) [.t 2] [(0,2,[mi 0]),(1,4,[m 0,B .sub 2000,A 3 (m 5)]),(2,6,[m 3,o (.bin .mul (.v (.int .i64 365)) (.t 6)),m 3,B .add 3,B .quo 4,b .add 7 10,A 2 (m 11)])] := .mk Tryz.func132
def Aol := co Tryz.f133 (.h 0 (.q 1 11 2 (.e 3)))
theorem AhA : (Tryz.f133.name == "runtime.NumGoroutine") = false := by kernel_rfl
theorem Yi : FI 137 Tryz.f137 29 (.h 0 (.q 1 19 2 (.e 3))) [.t 4, .t 5] [(0,4,[mi 0,mi 0]),(1,6,[m 0,B .lss 1,m 7,G,m 0,B .geq 1000,P,m 11,G,m 1,B .lss 0,P,m 15,G,m 1,B .geq 10000000000,P]),(2,4,[mi 0,mi 2]),(3,20,[m 0,B .mul 10000000000,m 1,b .add 21 22,B .mul 10,m 0,m 1,c 179 [25,26],b .add 24 27,A 4 (m 28),A 5 (mi 0)])] := .mk Tryz.func137
theorem Se : FI 138 Tryz.f138 78 (.h 0 (.j 1 (.q 2 30 3 (.h 4 (.h 5 (.s (.h 6 (.b 0 (.l (.s (.i 7 35 .n (.x 0)) (.b 1 (.h 8 (.h 9 (.b 2 (.l (.h 10 (.s (.c 40 .n (.x 2)) (.s (.b 3 (.h 11 (.i 12 44 (.h 13 (.h 14 (.g 15))) .n))) (.g 16))))))))))))) (.h 17 (.q 18 76 19 (.e 20))))))))) [.t 6, .t 7] [(0,6,[A 3 (bx 25 0),mi 0,mi 0]),(1,19,[ls 2 3,m 1,c 180 [19,20],ls 2 3,m 2,c 180 [22,23],A 8 (m 21),A 9 (m 24)]),(2,25,[m 8,o (.bin .eql (.t 25) (.v (.str []))),m 26,G,m 9,o (.bin .eql (.t 28) (.v (.str []))),P]),(3,6,[mi 0,mi 14]),(4,31,[o (.mkmap),m 8,z (.mset 0 (.t 31) (.t 32) (.v (.int .i64 0))),m 31,A 10 (o (.alloc 240 [.nilm])),st 1 10 33]),(5,34,[o (.mkfn 181 [(.t 10)]),A 11 (m 34)]),(6,12,[mv (.bool true)]),(7,35,[m 12]),(8,12,[mv (.bool false)]),(9,36,[f 1 3,L,N,mi 0]),(10,40,[b .lss 39 38]),(11,41,[ix 3 37 39,ls 3 41,A 14 (o (.alloc 215 X.z18)),st 3 14 42]),(12,43,[ls 3 14,c 182 [43]]),(13,45,[m 11,f 0 14,L,f 1 14,L,f 2 14,L,o (.callv (.t 45) [(.t 47), (.t 49), (.t 51)]),A 15 (m 52)]),(14,53,[m 11,f 1 14,L,f 0 14,L,f 2 14,L,o (.callv (.t 53) [(.t 55), (.t 57), (.t 59)]),A 16 (m 60)]),(15,61,[m 12,m 61,G,m 15,P,m 64,G,m 16,P,A 12 (m 67)]),(16,68,[bi .add 39 1,A 39 (m 68)]),(17,70,[l 10,m 9,o (.look 0 true (.int .i64 0) (.t 70) (.t 71)),A 69 (m 72),e 0 69,e 1 69,A 17 (m 73),A 18 (m 74)]),(18,75,[m 18,nt 75]),(19,6,[mi 0,mi 7]),(20,6,[A 77 (m 17),m 77,mi 0])] := .mk Tryz.func138
theorem Yj : FI 139 Tryz.f139 25 (.h 0 (.h 1 (.s (.h 2 (.b 0 (.l (.h 3 (.s (.c 10 .n (.x 0)) (.s (.b 1 (.h 4 (.q 5 14 6 (.i 7 16 (.g 8) .n)))) (.g 9))))))) (.q 10 23 11 (.e 12))))) [.t 2, .t 3] [(0,2,[mi 0,mi 0]),(1,4,[mi 0]),(2,7,[m 0,N,mi 0]),(3,10,[b .lss 9 8]),(4,11,[ix 1 7 9,L,A 6 (m 12)]),(5,13,[m 6,B .lss 0]),(6,2,[mi 0,mi 2]),(7,15,[m 4,B .leq 1099511627776]),(8,17,[m 4,m 6,o (.mn (.t 18) (.v (.int .i64 1099511627777))),b .add 17 19,A 4 (m 20)]),(9,21,[bi .add 9 1,A 9 (m 21)]),(10,22,[m 4,B .eql 0]),(11,2,[mi 0,mi 2]),(12,2,[A 24 (m 4),m 24,mi 0])] := .mk Tryz.func139
theorem Yk : FI 140 Tryz.f140 9 (.h 0 (.e 1)) [.t 2] [(0,2,[mv (.bool false)]),(1,3,[m 0,B .geq (-1099511627776),m 4,H,m 0,B .leq 1099511627776,Q,A 2 (m 8)])] := .mk Tryz.func140
theorem Yl : FI 142 Tryz.f142 19 (.j 0 (.g 1)) [] [(1,16,[l 4,m 1,b .sub 16 17,st 1 4 18])] := .mk Tryz.func142
def QT : List AO := dq [l 2,m 0,X 1,L,l 3,m 1,b .mul 11 12,b .add 10 13,ix 1 7 8,st 1 15 14] 7 none
theorem AmI : TR Tryz.f142 19 0 = some QT := by kernel_rfl
def Xk : List (List Nat) := [[], [], [0, 1], [0, 1, 2], [], [], [4, 5], [0, 1, 2, 3, 4, 5, 6], [0, 1, 2, 3, 4, 5, 6, 7], [0, 1, 2, 3, 4, 5, 6, 7, 8]]
theorem AhV : Ci (ro Tryz.f142 0) QT Xk = true := by kernel_rfl
theorem Ym : FI 143 Tryz.f143 31 (.h 0 (.h 1 (.q 2 21 3 (.h 4 (.e 5))))) [.t 6, .t 7, .t 8] [(0,6,[mv (.int .u64 0),mv (.int .u64 0),mv (.bool false)]),(1,14,[m 0,m 1,c 183 [14,15],A 13 (m 16),e 0 13,e 1 13,A 9 (m 17),A 10 (m 18)]),(2,19,[m 9,m 2,b .geq 19 20]),(4,23,[m 9,m 10,m 2,c 184 [23,24,25],A 22 (m 26),e 0 22,e 1 22,A 11 (m 27),A 12 (m 28)]),(5,6,[A 29 (m 11),A 30 (m 12),m 29,m 30,mv (.bool true)])] := .mk Tryz.func143
theorem Yn : FI 146 Tryz.f146 28 (.h 0 (.h 1 (.s (.h 2 (.b 0 (.l (.h 3 (.s (.c 10 .n (.x 0)) (.s (.b 1 (.h 4 (.q 5 22 6 (.g 7)))) (.g 8))))))) (.e 9)))) [.t 2, .t 3] [(0,2,[mi 0,mi 0]),(1,4,[mi 0]),(2,7,[m 0,N,mi 0]),(3,10,[b .lss 9 8]),(4,11,[ix 1 7 9,L,A 6 (m 12)]),(5,13,[m 6,c 140 [13],nt 14,m 15,G,m 4,m 6,b .add 17 18,c 140 [19],nt 20,P]),(6,2,[mi 0,mi 11]),(7,23,[m 4,m 6,b .add 23 24,A 4 (m 25)]),(8,26,[bi .add 9 1,A 9 (m 26)]),(9,2,[A 27 (m 4),m 27,mi 0])] := .mk Tryz.func146
theorem Yo : FI 147 Tryz.f147 19 (.h 0 (.s (.h 1 (.b 0 (.l (.h 2 (.s (.c 9 .n (.x 0)) (.s (.b 1 (.h 3 (.i 4 16 (.e 5) .n))) (.g 6))))))) (.e 7))) [.t 4] [(0,4,[mi 0]),(1,6,[m 0,N,mi 0]),(2,9,[b .lss 8 7]),(3,10,[m 8,A 5 (m 10)]),(4,11,[m 1,m 0,m 5,X 11,ls 11 14,o (.callv (.t 11) [(.t 15)])]),(5,17,[m 5,A 4 (m 17)]),(6,18,[bi .add 8 1,A 8 (m 18)]),(7,4,[mi (-1)])] := .mk Tryz.func147
theorem Yp : FI 148 Tryz.f148 6 (.h 0 (.e 1)) [.t 2] [(0,1,[bx 57 0,mv (.bool false)]),(1,3,[ls 11 1,c 41 [3],nt 4,A 2 (m 5)])] := .mk Tryz.func148
theorem Sf : FI 149 Tryz.f149 54 (.h 0 (.q 1 8 2 (.q 3 12 4 (.s (.h 5 (.w 0 6 17 1 (.h 8 (.s (.j 9 (.c 49 (.e 10) .n)) (.i 11 53 (.e 12) .n))) 7)) (.e 13))))) [.t 2] [(0,1,[bx 86 0,mi 0]),(1,5,[f 1 1,L,N,B .gtr 256]),(2,2,[mi 4]),(3,9,[f 0 1,L,c 189 [10],nt 11]),(4,2,[mi 2]),(5,3,[mi 0]),(6,13,[m 3,f 1 1,L,N,b .lss 13 16]),(7,18,[m 3,B .add 1,A 3 (m 19)]),(8,20,[f 1 1,L,m 3,X 2,ls 2 23,A 4 (o (.alloc 200 X.z11)),st 2 4 24]),(9,25,[f 0 4,L,B .lss 0,m 27,G,f 0 4,L,B .geq 52596000,P,m 32,G,m 3,B .gtr 0,m 35,H,f 0 4,L,f 1 1,L,m 3,B .sub 1,ix 2 40 42,F 0,L,b .sub 38 45,B .lss 2880,Gn 33,pf 36 47,P]),(10,2,[mi 13]),(11,50,[f 1 4,L,c 189 [51],nt 52]),(12,2,[mi 2]),(13,2,[mi 0])] := .mk Tryz.func149
theorem Yq : FI 150 Tryz.f150 28 (.h 0 (.s (.h 1 (.w 0 2 11 1 (.i 4 21 (.e 5) .n) 3)) (.e 6))) [.c (some 5) 4, .t 5] [(0,4,[A 2 (bx 25 0),o (.alloc 212 X.z17),mv (.bool false)]),(1,6,[mi 0]),(2,7,[m 6,f 0 2,L,N,b .lss 7 10]),(3,12,[m 6,B .add 1,A 6 (m 13)]),(4,14,[f 0 2,L,m 6,X 5,F 1,L,m 1,b .eql 19 20]),(5,22,[f 0 2,L,m 6,X 5,ls 5 25,st 5 4 26,A 5 (mv (.bool true))]),(6,27,[o (.build X.z17 []),st 5 4 27,A 5 (mv (.bool false))])] := .mk Tryz.func150
theorem Yr : FI 151 Tryz.f151 11 (.h 0 (.e 1)) [.t 2] [(0,1,[bx 215 0,mv (.bool false)]),(1,3,[f 2 1,L,B .geq 1,m 5,H,f 2 1,L,B .leq 20000,Q,A 2 (m 10)])] := .mk Tryz.func151
theorem Sg : FI 152 Tryz.f152 97 (.h 0 (.j 1 (.q 2 29 3 (.h 4 (.h 5 (.s (.b 0 (.l (.s (.i 6 33 .n (.x 0)) (.b 1 (.h 7 (.h 8 (.w 2 9 38 3 (.h 11 (.s (.i 12 48 (.x 3) .n) (.j 13 (.h 14 (.s (.i 15 58 (.h 16 (.g 17)) .n) (.i 18 75 (.h 19 (.g 20)) .n)))))) 10))))))) (.h 21 (.q 22 95 23 (.e 24))))))))) [.t 6, .t 7] [(0,6,[A 3 (bx 25 0),mi 0,mi 0]),(1,18,[ls 2 3,m 1,c 158 [18,19],ls 2 3,m 2,c 158 [21,22],A 8 (m 20),A 9 (m 23)]),(2,24,[m 8,o (.bin .eql (.t 24) (.v (.str []))),m 25,G,m 9,o (.bin .eql (.t 27) (.v (.str []))),P]),(3,6,[mi 0,mi 14]),(4,30,[m 8,o (.build X.z16 [(0, 1, (.t 30)), (1, 1, (.v (.int .i64 0)))]),sl 256 2 [31],A 10 (m 32)]),(5,11,[mv (.bool true)]),(6,33,[m 11]),(7,11,[mv (.bool false)]),(8,12,[mi 0]),(9,34,[m 12,f 1 3,L,N,b .lss 34 37]),(10,39,[m 12,B .add 1,A 12 (m 40)]),(11,41,[f 1 3,L,m 12,X 3,ls 3 44,A 13 (o (.alloc 215 X.z18)),st 3 13 45]),(12,46,[ls 3 13,c 151 [46],nt 47]),(13,49,[m 10,f 0 13,L,c 190 [49,51],m 10,f 1 13,L,c 190 [53,55],A 14 (m 52),A 15 (m 56)]),(14,16,[mv (.bool false)]),(15,57,[m 14,B .geq 0]),(16,60,[m 10,f 1 13,L,m 14,f 2 13,L,b .add 63 65,c 191 [60,62,66],A 59 (m 67),e 0 59,e 1 59,A 10 (m 68),A 16 (m 69)]),(17,70,[m 11,m 70,G,m 16,P,A 11 (m 73)]),(18,74,[m 15,B .geq 0]),(19,77,[m 10,f 0 13,L,m 15,f 2 13,L,b .add 80 82,c 191 [77,79,83],A 76 (m 84),e 0 76,e 1 76,A 10 (m 85),A 16 (m 86)]),(20,87,[m 11,m 87,G,m 16,P,A 11 (m 90)]),(21,91,[m 10,m 9,c 190 [91,92],A 17 (m 93)]),(22,94,[m 17,B .lss 0]),(23,6,[mi 0,mi 7]),(24,6,[A 96 (m 17),m 96,mi 0])] := .mk Tryz.func152
def Vd : List AO := dq [m 8,o (.build X.z16 [(0, 1, (.t 30)), (1, 1, (.v (.int .i64 0)))]),sl 256 2 [31],A 10 (m 32)] 30 none
theorem AmJ : TR Tryz.f152 97 4 = some Vd := by kernel_rfl
end Go.Proofs.YtjkclhbckfkeeaaGreatDoor
namespace Go.Proofs.YtjkclhbckfkeeaaGreatDoor
open Go Go.RowKit X
theorem Ys : FI 154 Tryz.f154 9 (.h 0 (.e 1)) [.t 2] [(0,2,[mv (.bool false)]),(1,3,[m 0,B .geq (-1099511627776),m 4,H,m 0,B .leq 1099511627776,Q,A 2 (m 8)])] := .mk Tryz.func154
theorem Yt : FI 155 Tryz.f155 8 (.h 0 (.q 1 4 2 (.e 3))) [.t 2] [(0,2,[mi 0]),(1,3,[m 0,B .lss 0]),(2,5,[m 0,o (.un .neg (.t 5)),A 2 (m 6)]),(3,7,[m 0,A 2 (m 7)])] := .mk Tryz.func155
theorem Yu : FI 158 Tryz.f158 24 (.h 0 (.h 1 (.q 2 13 3 (.h 4 (.q 5 22 6 (.e 7)))))) [.t 4] [(0,2,[bx 25 0,A 4 (mv (.str []))]),(1,8,[ls 2 2,m 1,c 160 [8,9],A 7 (m 10),e 0 7,e 1 7,A 5 (o (.alloc 212 X.z17)),st 5 5 11,A 6 (m 12)]),(2,13,[m 6]),(3,14,[f 1 5,L,A 4 (m 15)]),(4,17,[ls 2 2,m 1,c 150 [17,18],A 16 (m 19),e 0 16,e 1 16,A 6 (m 21)]),(5,22,[m 6]),(6,23,[m 1,A 4 (m 23)]),(7,4,[mv (.str [])])] := .mk Tryz.func158
theorem Si : FI 159 Tryz.f159 130 (.h 0 (.s (.h 1 (.b 0 (.i 2 7 (.e 3) (.i 4 9 (.j 5 .r) (.i 6 19 (.e 7) (.i 8 26 (.e 9) (.i 10 33 (.e 11) (.i 12 40 (.e 13) (.i 14 47 (.e 15) (.i 16 57 (.q 17 63 18 (.e 19)) (.i 20 88 (.e 21) (.i 22 95 (.e 23) (.i 24 102 (.e 25) (.i 26 109 (.e 27) (.i 28 118 (.e 29) .n))))))))))))))) (.e 30))) [.t 4] [(0,2,[bx 132 0,bx 164 1,mv (.bool false)]),(1,5,[f 0 2,L]),(2,8,[bi .eql 6 1,A 7 (m 8)]),(3,4,[mv (.bool true)]),(4,10,[bi .eql 6 2,A 9 (m 10)]),(5,11,[f 1 2,L,ls 9 3,c 192 [12,13],f 1 2,L,N,b .eql 14 17,A 4 (m 18)]),(6,20,[bi .eql 6 3,A 19 (m 20)]),(7,21,[f 1 2,L,ls 9 3,c 192 [22,23],B .gtr 0,A 4 (m 25)]),(8,27,[bi .eql 6 4,A 26 (m 27)]),(9,28,[f 1 2,L,ls 9 3,c 192 [29,30],B .eql 0,A 4 (m 32)]),(10,34,[bi .eql 6 5,A 33 (m 34)]),(11,35,[f 4 2,ls 3 35,f 2 3,L,c 193 [36,38],A 4 (m 39)]),(12,41,[bi .eql 6 6,A 40 (m 41)]),(13,42,[f 4 2,ls 3 42,f 1 3,L,c 193 [43,45],A 4 (m 46)]),(14,48,[bi .eql 6 7,A 47 (m 48)]),(15,49,[f 2 3,L,f 1 3,L,b .sub 50 52,f 2 2,L,b .geq 53 55,A 4 (m 56)]),(16,58,[bi .eql 6 8,A 57 (m 58)]),(17,59,[f 2 2,L,f 3 2,L,b .leq 60 62]),(18,64,[f 3 3,L,f 2 2,L,b .geq 65 67,m 68,H,f 3 3,L,f 3 2,L,b .leq 71 73,Q,A 4 (m 75)]),(19,76,[f 3 3,L,f 2 2,L,b .geq 77 79,m 80,G,f 3 3,L,f 3 2,L,b .leq 83 85,P,A 4 (m 87)]),(20,89,[bi .eql 6 9,A 88 (m 89)]),(21,90,[f 4 3,L,f 2 2,L,b .leq 91 93,A 4 (m 94)]),(22,96,[bi .eql 6 10,A 95 (m 96)]),(23,97,[f 5 3,L,f 2 2,L,b .leq 98 100,A 4 (m 101)]),(24,103,[bi .eql 6 11,A 102 (m 103)]),(25,104,[f 6 3,L,f 7 2,L,c 194 [105,107],A 4 (m 108)]),(26,110,[bi .eql 6 12,A 109 (m 110)]),(27,111,[f 7 3,L,f 2 2,L,f 3 2,L,c 195 [112,114,116],A 4 (m 117)]),(28,119,[bi .eql 6 13,A 118 (m 119)]),(29,120,[f 8 3,L,f 7 2,L,c 194 [121,123],A 4 (m 124)]),(30,125,[f 7 2,L,f 0 3,L,c 196 [126,128],A 4 (m 129)])] := .mk Tryz.func159
def Ve : List AO := dq [f 2 3,L,f 1 3,L,b .sub 50 52,f 2 2,L,b .geq 53 55,A 4 (m 56)] 49 none
theorem AmL : TR Tryz.f159 130 15 = some Ve := by kernel_rfl
theorem Yv : FI 160 Tryz.f160 28 (.h 0 (.s (.h 1 (.w 0 2 11 1 (.i 4 21 (.e 5) .n) 3)) (.e 6))) [.c (some 5) 4, .t 5] [(0,4,[A 2 (bx 25 0),o (.alloc 212 X.z17),mv (.bool false)]),(1,6,[mi 0]),(2,7,[m 6,f 0 2,L,N,b .lss 7 10]),(3,12,[m 6,B .add 1,A 6 (m 13)]),(4,14,[f 0 2,L,m 6,X 5,F 0,L,m 1,b .eql 19 20]),(5,22,[f 0 2,L,m 6,X 5,ls 5 25,st 5 4 26,A 5 (mv (.bool true))]),(6,27,[o (.build X.z17 []),st 5 4 27,A 5 (mv (.bool false))])] := .mk Tryz.func160
theorem Yw : FI 161 Tryz.f161 18 (.h 0 (.h 1 (.q 2 11 3 (.e 4)))) [.t 2, .t 3] [(0,2,[mi 0,mi 0]),(1,6,[m 0,B .quo 1440,m 0,B .rem 1440,A 4 (m 7),A 5 (m 9)]),(2,10,[m 5,B .lss 0]),(3,12,[m 4,B .sub 1,m 5,B .add 1440,A 2 (m 13),A 3 (m 15)]),(4,16,[m 4,m 5,A 2 (m 16),A 3 (m 17)])] := .mk Tryz.func161
theorem Yx : FI 162 Tryz.f162 10 (.h 0 (.e 1)) [.t 4] [(0,2,[bx 86 0,A 4 (mi 0)]),(1,5,[m 1,ls 2 2,m 1,c 197 [6,7],b .add 5 8,A 4 (m 9)])] := .mk Tryz.func162
theorem Sj : FI 163 Tryz.f163 38 (.h 0 (.h 1 (.s (.h 2 (.w 0 3 14 1 (.j 5 (.q 6 32 7 (.g 8))) 4)) (.e 9)))) [.t 4, .t 5] [(0,4,[A 2 (bx 25 0),mi 0,mi 0]),(1,6,[mi 0]),(2,7,[mi 0]),(3,10,[m 7,B .add 1,m 1,N,b .lss 11 13]),(4,15,[m 7,B .add 1,A 7 (m 16)]),(5,18,[ls 2 2,m 1,m 7,X 1,L,m 1,m 7,B .add 1,ix 1 23 25,L,c 152 [18,22,27],A 17 (m 28),e 0 17,e 1 17,A 8 (m 29),A 9 (m 30)]),(6,31,[m 9,B .neq 0]),(7,4,[A 33 (m 9),mi 0,m 33]),(8,34,[m 6,m 8,b .add 34 35,A 6 (m 36)]),(9,4,[A 37 (m 6),m 37,mi 0])] := .mk Tryz.func163
theorem Yy : FI 164 Tryz.f164 33 (.h 0 (.q 1 20 2 (.s (.h 3 (.w 0 4 22 1 (.i 6 31 (.e 7) .n) 5)) (.e 8)))) [.t 4, .t 5] [(0,4,[mi 0,mi 0]),(1,7,[m 0,B .lss 0,m 8,G,m 0,B .gtr 1099511627776,P,m 12,G,m 1,B .lss 1,P,m 16,G,m 1,B .gtr 1099511627776,P]),(2,4,[mi 0,mi 2]),(3,6,[mi 0]),(4,21,[m 6,B .leq 25]),(5,23,[m 6,B .add 5,A 6 (m 24)]),(6,25,[m 0,B .mul 100,m 1,m 6,o (.bin .add (.v (.int .i64 100)) (.t 28)),b .mul 27 29,b .leq 26 30]),(7,4,[A 32 (m 6),m 32,mi 0]),(8,4,[mi 0,mi 22])] := .mk Tryz.func164
theorem Yz : FI 165 Tryz.f165 54 (.h 0 (.q 1 17 2 (.h 3 (.q 4 32 5 (.h 6 (.q 7 48 8 (.e 9))))))) [.t 4, .t 5] [(0,4,[mi 0,mi 0]),(1,10,[m 0,c 154 [10],nt 11,m 12,G,m 1,c 154 [14],nt 15,P]),(2,4,[mi 0,mi 11]),(3,19,[m 1,o (.call 198 [(.t 19), (.v (.int .i64 10000))]),A 18 (m 20),e 0 18,e 1 18,A 6 (m 21),A 7 (m 22)]),(4,23,[m 0,B .neq 0,m 24,H,m 6,c 155 [26],m 0,c 155 [28],o (.bin .quo (.v (.int .i64 2199023255552)) (.t 29)),b .gtr 27 30,Q]),(5,4,[mi 0,mi 11]),(6,34,[m 0,o (.bin .mul (.v (.int .i64 2)) (.t 34)),m 7,b .mul 35 36,B .add 10000,o (.call 198 [(.t 38), (.v (.int .i64 20000))]),A 33 (m 39),e 0 33,e 1 33,A 8 (m 40),A 9 (m 41)]),(7,42,[m 0,m 6,b .mul 42 43,m 8,b .add 44 45,c 154 [46],nt 47]),(8,4,[mi 0,mi 11]),(9,49,[m 0,m 6,b .mul 49 50,m 8,b .add 51 52,A 4 (m 53),A 5 (mi 0)])] := .mk Tryz.func165
theorem YA : FI 166 Tryz.f166 15 (.h 0 (.e 1)) [.t 4] [(0,2,[bx 135 0,bx 135 1,mv (.bool false)]),(1,5,[ls 15 2,f 0 3,L,c 199 [5,7],m 8,H,ls 15 3,f 0 2,L,c 199 [10,12],Q,A 4 (m 14)])] := .mk Tryz.func166
theorem YB : FI 167 Tryz.f167 20 (.h 0 (.j 1 (.e 2))) [.c (some 15) 4] [(0,2,[bx 31 0,bx 94 1,o (.alloc 135 X.z9)]),(2,19,[ls 15 5,st 15 4 19])] := .mk Tryz.func167
def QU : List AO := dq [ls 4 2,f 0 2,L,f 2 3,L,ix 9 10 12,F 7,L,c 95 [8,15],A 7 (m 16),e 0 7,e 1 7,A 5 (o (.alloc 135 X.z9)),st 15 5 17,A 6 (m 18)] 8 none
theorem AmM : TR Tryz.f167 20 1 = some QU := by kernel_rfl
def Xl : List (List Nat) := [[], [], [1], [], [3], [1, 2, 3, 4], [1, 2, 3, 4, 5], [1, 2, 3, 4, 5, 6], [0, 1, 2, 3, 4, 5, 6, 7], [0, 1, 2, 3, 4, 5, 6, 7, 8], [0, 1, 2, 3, 4, 5, 6, 7, 8, 9], [0, 1, 2, 3, 4, 5, 6, 7, 8, 9], [], [0, 1, 2, 3, 4, 5, 6, 7, 8, 9, 10, 12], [0, 1, 2, 3, 4, 5, 6, 7, 8, 9, 10, 11, 12, 13]]
theorem AhW : Ci (ro Tryz.f167 1) QU Xl = true := by kernel_rfl
theorem Sl : FI 168 Tryz.f168 59 (.h 0 (.j 1 (.j 2 (.q 3 43 4 (.s (.h 5 (.i 6 51 (.e 7) .n)) (.e 8)))))) [.t 10] [(0,8,[A 5 (bx 25 0),A 6 (bx 31 1),bx 94 3,bx 94 4,mi 0]),(1,17,[ls 2 5,m 2,f 0 8,L,ix 8 18 20,F 0,ls 7 22,c 200 [17,23],A 16 (m 24),e 0 16,e 1 16,A 11 (m 25),A 12 (m 26)]),(2,28,[ls 2 5,m 2,f 0 9,L,ix 8 29 31,F 0,ls 7 33,c 200 [28,34],A 27 (m 35),e 0 27,e 1 27,A 13 (m 36),A 14 (m 37)]),(3,38,[m 12,B .neq 0,m 39,G,m 14,B .neq 0,P]),(4,10,[mi 14]),(5,44,[ls 4 6,ls 4 8,c 167 [44,45],m 11,m 13,c 201 [46,47,48],A 15 (m 49)]),(6,50,[m 15,B .neq 0]),(7,52,[m 15,A 10 (m 52)]),(8,53,[ls 4 6,ls 4 9,c 167 [53,54],m 11,m 13,c 201 [55,56,57],A 10 (m 58)])] := .mk Tryz.func168
theorem YC : FI 169 Tryz.f169 53 (.h 0 (.s (.h 1 (.w 0 2 16 1 (.i 4 25 (.e 5) .n) 3)) (.q 6 33 7 (.h 8 (.s (.h 9 (.w 2 10 37 3 (.g 12) 11)) (.q 13 49 14 (.e 15))))))) [.t 8] [(0,4,[bx 25 0,bx 143 1,A 8 (mi 0)]),(1,9,[mi 0]),(2,12,[m 9,f 6 5,L,N,b .lss 12 15]),(3,17,[m 9,B .add 1,A 9 (m 18)]),(4,19,[f 6 5,L,m 9,X 1,L,m 3,b .eql 23 24]),(5,8,[mi 0]),(6,26,[f 1 5,L,B .lss 1,m 28,G,f 1 5,L,B .gtr 4,P]),(7,8,[mi 0]),(8,10,[mi 0]),(9,11,[mi 0]),(10,34,[m 11,m 2,N,b .lss 34 36]),(11,38,[m 11,B .add 1,A 11 (m 39)]),(12,40,[m 10,ls 2 4,ls 7 5,m 2,m 11,c 202 [41,42,43,44],b .add 40 45,A 10 (m 46)]),(13,47,[f 1 5,L,B .eql 4]),(14,50,[m 10,o (.mn (.t 50) (.v (.int .i64 1))),A 8 (m 51)]),(15,52,[m 10,A 8 (m 52)])] := .mk Tryz.func169
theorem YD : FI 170 Tryz.f170 32 (.h 0 (.e 1)) [.t 4] [(0,2,[bx 96 0,bx 96 1,mv (.bool false)]),(1,5,[f 5 2,L,m 6,H,f 5 3,L,Q,m 10,H,f 0 2,L,f 0 3,L,b .eql 13 15,Q,m 17,H,f 1 2,L,f 2 3,L,b .eql 20 22,Q,m 24,H,f 2 2,L,f 1 3,L,b .eql 27 29,Q,A 4 (m 31)])] := .mk Tryz.func170
theorem YE : FI 175 Tryz.f175 22 (.h 0 (.h 1 (.s (.h 2 (.w 0 3 9 1 (.g 5) 4)) (.e 6)))) [.t 2] [(0,1,[bx 132 0,mi 0]),(1,3,[mi 0]),(2,4,[mi 0]),(3,5,[m 4,f 1 1,L,N,b .lss 5 8]),(4,10,[m 4,B .add 1,A 4 (m 11)]),(5,12,[m 3,f 1 1,L,m 4,X 8,ls 8 16,c 175 [17],o (.mx (.t 12) (.t 18)),A 3 (m 19)]),(6,20,[m 3,B .add 1,A 2 (m 21)])] := .mk Tryz.func175
def Vf : List AO := dq [m 3,B .add 1,A 2 (m 21)] 20 none
theorem AmN : TR Tryz.f175 22 6 = some Vf := by kernel_rfl
theorem YF : FI 176 Tryz.f176 21 (.h 0 (.h 1 (.s (.h 2 (.w 0 3 9 1 (.g 5) 4)) (.e 6)))) [.t 2] [(0,1,[bx 132 0,mi 0]),(1,3,[mi 1]),(2,4,[mi 0]),(3,5,[m 4,f 1 1,L,N,b .lss 5 8]),(4,10,[m 4,B .add 1,A 4 (m 11)]),(5,12,[m 3,f 1 1,L,m 4,X 8,ls 8 16,c 176 [17],b .add 12 18,A 3 (m 19)]),(6,20,[m 3,A 2 (m 20)])] := .mk Tryz.func176
def Vg : List AO := dq [m 3,f 1 1,L,m 4,X 8,ls 8 16,c 176 [17],b .add 12 18,A 3 (m 19)] 12 none
theorem AmO : TR Tryz.f176 21 5 = some Vg := by kernel_rfl
theorem YG : FI 177 Tryz.f177 27 (.h 0 (.s (.h 1 (.i 2 9 (.e 3) .n)) (.s (.h 4 (.w 0 5 15 1 (.h 7 (.i 8 25 (.e 9) .n)) 6)) (.e 10)))) [.t 2] [(0,1,[bx 132 0,mi 0]),(1,6,[ls 8 1,c 211 [6],A 3 (m 7)]),(2,8,[m 3,B .neq 0]),(3,10,[m 3,A 2 (m 10)]),(4,4,[mi 0]),(5,11,[m 4,f 1 1,L,N,b .lss 11 14]),(6,16,[m 4,B .add 1,A 4 (m 17)]),(7,18,[f 1 1,L,m 4,X 8,ls 8 21,c 177 [22],A 5 (m 23)]),(8,24,[m 5,B .neq 0]),(9,26,[m 5,A 2 (m 26)]),(10,2,[mi 0])] := .mk Tryz.func177
theorem YH : FI 179 Tryz.f179 10 (.h 0 (.e 1)) [.t 4] [(0,4,[mi 0]),(1,5,[m 0,B .mul 10000000000,m 1,b .add 6 7,B .rem 7,A 4 (m 9)])] := .mk Tryz.func179
theorem YI : FI 180 Tryz.f180 26 (.h 0 (.s (.h 1 (.i 2 15 (.e 3) .n)) (.s (.h 4 (.i 5 24 (.e 6) .n)) (.e 7)))) [.t 4] [(0,2,[bx 25 0,A 4 (mv (.str []))]),(1,10,[ls 2 2,m 1,c 212 [10,11],A 9 (m 12),e 0 9,e 1 9,A 5 (o (.alloc 212 X.z17)),st 5 5 13,A 6 (m 14)]),(2,15,[m 6]),(3,16,[f 1 5,L,A 4 (m 17)]),(4,19,[ls 2 2,m 1,c 213 [19,20],A 18 (m 21),e 0 18,e 1 18,A 7 (o (.alloc 212 X.z17)),st 5 7 22,A 8 (m 23)]),(5,24,[m 8]),(6,25,[m 1,A 4 (m 25)]),(7,4,[mv (.str [])])] := .mk Tryz.func180
theorem YJ : FI 181 Tryz.f181 41 (.h 0 (.h 1 (.h 2 (.q 3 35 4 (.h 5 (.e 6)))))) [.t 7] [(0,7,[mv (.bool false)]),(1,13,[l 3,m 0,o (.look 0 true (.int .i64 0) (.t 13) (.t 14)),A 12 (m 15),e 0 12,e 1 12,A 8 (m 16),A 9 (m 17)]),(2,19,[l 3,m 1,o (.look 0 true (.int .i64 0) (.t 19) (.t 20)),A 18 (m 21),e 0 18,e 1 18,A 10 (m 22),A 11 (m 23)]),(3,24,[m 9,nt 24,m 25,G,m 11,m 27,H,m 10,m 8,m 2,b .add 30 31,b .leq 29 32,Gn 26,pf 28 33,P]),(4,7,[mv (.bool false)]),(5,36,[l 3,m 1,m 8,m 2,b .add 38 39,z (.mset 0 (.t 36) (.t 37) (.t 40))]),(6,7,[mv (.bool true)])] := .mk Tryz.func181
theorem YK : FI 182 Tryz.f182 11 (.h 0 (.e 1)) [.t 2] [(0,1,[bx 215 0,mv (.bool false)]),(1,3,[f 2 1,L,B .geq 1,m 5,H,f 2 1,L,B .leq 20000,Q,A 2 (m 10)])] := .mk Tryz.func182
theorem So : FI 184 Tryz.f184 135 (.h 0 (.s (.i 1 20 (.g 2) .n) (.s (.i 3 24 (.g 4) .n) (.s (.i 5 27 (.j 6 .r) .n) (.h 7 (.h 8 (.h 9 (.h 10 (.h 11 (.h 12 (.h 13 (.h 14 (.h 15 (.h 16 (.s (.b 0 (.l (.s (.i 17 78 .n (.x 0)) (.b 1 (.h 18 (.h 19 (.i 20 85 (.x 0) .n))))))) (.h 21 (.h 22 (.h 23 (.s (.b 2 (.l (.s (.i 24 113 .n (.x 2)) (.b 3 (.h 25 (.h 26 (.i 27 120 (.x 2) .n))))))) (.e 28)))))))))))))))))))) [.t 6, .t 7] [(0,6,[mv (.int .u64 0),mv (.int .u64 0)]),(1,19,[m 2,o (.bin .eql (.t 19) (.v (.int .u64 0)))]),(3,22,[m 2,m 0,b .leq 22 23]),(5,26,[m 0,o (.bin .eql (.t 26) (.v (.int .u64 0)))]),(6,28,[m 1,m 2,b .quo 28 29,m 1,m 2,b .rem 31 32,A 6 (m 30),A 7 (m 33)])] := .mk Tryz.func184
theorem YL : FI 189 Tryz.f189 9 (.h 0 (.e 1)) [.t 2] [(0,2,[mv (.bool false)]),(1,3,[m 0,B .geq (-840),m 4,H,m 0,B .leq 840,Q,A 2 (m 8)])] := .mk Tryz.func189
theorem YN : FI 190 Tryz.f190 24 (.h 0 (.s (.h 1 (.w 0 2 9 1 (.i 4 18 (.e 5) .n) 3)) (.e 6))) [.t 4] [(0,4,[mi 0]),(1,5,[mi 0]),(2,6,[m 5,m 0,N,b .lss 6 8]),(3,10,[m 5,B .add 1,A 5 (m 11)]),(4,12,[m 0,m 5,X 2,F 0,L,m 1,b .eql 16 17]),(5,19,[m 0,m 5,X 2,F 1,L,A 4 (m 23)]),(6,4,[mi (-1)])] := .mk Tryz.func190
theorem YO : FI 191 Tryz.f191 42 (.h 0 (.s (.h 1 (.w 0 2 12 1 (.i 4 21 (.q 5 28 6 (.h 7 (.e 8))) .n) 3)) (.e 9))) [.t 6, .t 7] [(0,6,[mv .nils,mv (.bool false)]),(1,8,[mi 0]),(2,9,[m 8,m 0,N,b .lss 9 11]),(3,13,[m 8,B .add 1,A 8 (m 14)]),(4,15,[m 0,m 8,X 2,F 0,L,m 1,b .eql 19 20]),(5,22,[m 0,m 8,X 2,F 1,L,m 2,b .leq 26 27]),(6,6,[A 29 (m 0),m 29,mv (.bool false)]),(7,30,[m 0,m 8,m 2,ix 2 30 31,F 1,st 1 34 32]),(8,6,[A 35 (m 0),m 35,mv (.bool true)]),(9,36,[m 0,m 1,m 2,o (.build X.z16 [(0, 1, (.t 37)), (1, 1, (.t 38))]),sl 256 2 [39],ap 256 2 24 36 40,A 6 (m 41),A 7 (mv (.bool true))])] := .mk Tryz.func191
theorem Sp : FI 192 Tryz.f192 22 (.h 0 (.h 1 (.s (.h 2 (.w 0 3 10 1 (.j 5 (.c 18 (.g 6) .n)) 4)) (.e 7)))) [.t 4] [(0,3,[bx 164 1,mi 0]),(1,5,[mi 0]),(2,6,[mi 0]),(3,7,[m 6,m 0,N,b .lss 7 9]),(4,11,[m 6,B .add 1,A 6 (m 12)]),(5,13,[m 0,m 6,X 8,ls 8 15,ls 9 3,c 159 [16,17]]),(6,19,[m 5,B .add 1,A 5 (m 20)]),(7,21,[m 5,A 4 (m 21)])] := .mk Tryz.func192
theorem Sq : FI 193 Tryz.f193 29 (.h 0 (.j 1 .r)) [.t 4] [(0,2,[bx 82 0,A 4 (mv (.bool false))]),(1,5,[ls 3 2,c 226 [5],B .eql 0,m 7,H,m 1,f 0 2,L,b .geq 9 11,Q,m 13,H,m 1,f 1 2,L,b .leq 15 17,Q,m 19,H,f 2 2,L,m 1,c 227 [23],b .quo 22 24,B .rem 2,B .eql 1,Q,A 4 (m 28)])] := .mk Tryz.func193
theorem YP : FI 194 Tryz.f194 19 (.h 0 (.s (.h 1 (.w 0 2 9 1 (.i 4 18 (.e 5) .n) 3)) (.e 6))) [.t 4] [(0,4,[mv (.bool false)]),(1,5,[mi 0]),(2,6,[m 5,m 0,N,b .lss 6 8]),(3,10,[m 5,B .add 1,A 5 (m 11)]),(4,12,[m 1,m 0,m 5,X 1,L,c 196 [12,16],nt 17]),(5,4,[mv (.bool false)]),(6,4,[mv (.bool true)])] := .mk Tryz.func194
theorem YQ : FI 195 Tryz.f195 28 (.h 0 (.s (.h 1 (.w 0 2 11 1 (.i 4 27 (.e 5) .n) 3)) (.e 6))) [.t 6] [(0,6,[mv (.bool false)]),(1,7,[mi 0]),(2,8,[m 7,m 0,N,b .lss 8 10]),(3,12,[m 7,B .add 1,A 7 (m 13)]),(4,14,[m 0,m 7,X 1,L,m 1,b .lss 17 18,m 19,G,m 0,m 7,X 1,L,m 2,b .gtr 24 25,P]),(5,6,[mv (.bool false)]),(6,6,[mv (.bool true)])] := .mk Tryz.func195
theorem YR : FI 196 Tryz.f196 18 (.h 0 (.s (.h 1 (.w 0 2 9 1 (.i 4 17 (.e 5) .n) 3)) (.e 6))) [.t 4] [(0,4,[mv (.bool false)]),(1,5,[mi 0]),(2,6,[m 5,m 0,N,b .lss 6 8]),(3,10,[m 5,B .add 1,A 5 (m 11)]),(4,12,[m 0,m 5,X 1,L,m 1,b .eql 15 16]),(5,4,[mv (.bool true)]),(6,4,[mv (.bool false)])] := .mk Tryz.func196
theorem YS : FI 197 Tryz.f197 31 (.h 0 (.h 1 (.s (.h 2 (.w 0 3 13 1 (.i 5 23 (.g 6) .n) 4)) (.e 7)))) [.t 4] [(0,2,[bx 86 0,A 4 (mi 0)]),(1,7,[f 0 2,L,A 5 (m 8)]),(2,6,[mi 0]),(3,9,[m 6,f 1 2,L,N,b .lss 9 12]),(4,14,[m 6,B .add 1,A 6 (m 15)]),(5,16,[f 1 2,L,m 6,X 2,F 0,L,m 1,b .leq 21 22]),(6,24,[f 1 2,L,m 6,X 2,F 1,L,A 5 (m 29)]),(7,30,[m 5,A 4 (m 30)])] := .mk Tryz.func197
theorem Sr : FI 198 Tryz.f198 23 (.h 0 (.j 1 (.q 2 15 3 (.e 4)))) [.t 4, .t 5] [(0,4,[mi 0,mi 0]),(1,8,[m 0,m 1,b .quo 8 9,m 0,m 1,b .rem 11 12,A 6 (m 10),A 7 (m 13)]),(2,14,[m 7,B .lss 0]),(3,16,[m 6,B .sub 1,m 7,m 1,b .add 18 19,A 4 (m 17),A 5 (m 20)]),(4,21,[m 6,m 7,A 4 (m 21),A 5 (m 22)])] := .mk Tryz.func198
theorem YT : FI 199 Tryz.f199 24 (.h 0 (.s (.h 1 (.w 0 2 10 1 (.i 4 19 (.e 5) .n) 3)) (.e 6))) [.t 4] [(0,2,[bx 135 0,A 4 (mv (.bool false))]),(1,5,[mi 0]),(2,6,[m 5,f 9 2,L,N,b .lss 6 9]),(3,11,[m 5,B .add 1,A 5 (m 12)]),(4,13,[f 9 2,L,m 5,X 1,L,m 1,b .eql 17 18]),(5,4,[mv (.bool true)]),(6,20,[f 9 2,L,N,B .eql 0,A 4 (m 23)])] := .mk Tryz.func199
theorem YU : FI 200 Tryz.f200 29 (.h 0 (.h 1 (.q 2 18 3 (.h 4 (.e 5))))) [.t 4, .t 5] [(0,2,[bx 25 0,bx 53 1,mi 0,mi 0]),(1,11,[ls 2 2,f 3 3,L,c 160 [11,13],A 10 (m 14),e 0 10,e 1 10,A 6 (o (.alloc 212 X.z17)),st 5 6 15,A 7 (m 16)]),(2,17,[m 7,nt 17]),(3,4,[mi 0,mi 14]),(4,20,[f 3 6,ls 2 20,f 5 3,L,c 162 [21,23],c 161 [24],A 19 (m 25),e 0 19,e 1 19,A 8 (m 26),A 9 (m 27)]),(5,4,[A 28 (m 8),m 28,mi 0])] := .mk Tryz.func200
theorem YV : FI 201 Tryz.f201 40 (.h 0 (.q 1 20 2 (.q 3 39 4 (.e 5)))) [.t 6] [(0,3,[bx 135 0,A 6 (mi 0)]),(1,7,[m 1,B .lss 0,m 8,G,m 1,B .geq 36525,P,m 12,G,m 2,B .lss 0,P,m 16,G,m 2,B .geq 36525,P]),(2,6,[mi 12]),(3,21,[m 2,m 1,b .sub 21 22,f 10 3,L,b .lss 23 25,m 26,G,f 11 3,L,B .gtr 0,m 30,H,m 2,m 1,b .sub 32 33,f 11 3,L,b .gtr 34 36,Gn 27,pf 31 37,P]),(4,6,[mi 24]),(5,6,[mi 0])] := .mk Tryz.func201
def Vh : List AO := dq [m 2,m 1,b .sub 21 22,f 10 3,L,b .lss 23 25,m 26,G,f 11 3,L,B .gtr 0,m 30,H,m 2,m 1,b .sub 32 33,f 11 3,L,b .gtr 34 36,Gn 27,pf 31 37,P] 21 none
theorem AmQ : TR Tryz.f201 40 3 = some Vh := by kernel_rfl
theorem Ss : FI 202 Tryz.f202 84 (.h 0 (.s (.j 1 (.c 16 (.e 2) .n)) (.s (.j 3 (.c 48 (.e 4) .n)) (.s (.j 5 (.c 83 (.e 6) .n)) (.e 7))))) [.t 8] [(0,4,[bx 25 0,bx 143 1,A 8 (mi 0)]),(1,9,[ls 2 4,ls 7 5,m 2,m 3,X 7,ls 7 13,c 228 [9,10,14],nt 15]),(2,8,[mi 0]),(3,17,[f 1 5,L,B .eql 1,m 19,H,ls 2 4,m 2,m 3,X 7,F 3,L,c 229 [21,26],f 2 5,L,b .neq 27 29,m 30,G,m 3,B .gtr 0,m 33,H,ls 7 5,m 2,m 3,B .sub 1,ix 7 36 38,ls 7 39,m 2,m 3,X 7,ls 7 43,c 230 [35,40,44],Gn 31,pf 34 45,Hn 20,pt 31 46,Q]),(4,8,[mi 0]),(5,49,[f 1 5,L,B .eql 2,m 51,H,ls 2 4,m 2,m 3,X 7,F 4,L,c 229 [53,58],f 2 5,L,b .neq 59 61,m 62,G,m 3,B .add 1,m 2,N,b .lss 65 67,m 68,H,ls 7 5,m 2,m 3,X 7,ls 7 73,m 2,m 3,B .add 1,ix 7 75 77,ls 7 78,c 230 [70,74,79],Gn 63,pf 69 80,Hn 52,pt 63 81,Q]),(6,8,[mi 0]),(7,8,[mi 1])] := .mk Tryz.func202
theorem Su : FI 211 Tryz.f211 57 (.h 0 (.q 1 11 2 (.q 3 13 4 (.q 5 15 6 (.q 7 18 8 (.q 9 30 10 (.s (.h 11 (.w 0 12 35 1 (.s (.j 14 (.c 46 (.e 15) .n)) (.j 16 (.c 56 (.e 17) .n))) 13)) (.e 18)))))))) [.t 2] [(0,1,[bx 132 0,mi 0]),(1,4,[f 0 1,L,B .lss 1,m 6,G,f 0 1,L,B .gtr 14,P]),(2,2,[mi 8]),(3,12,[ls 8 1,c 241 [12]]),(4,2,[mi 3]),(5,14,[ls 8 1,c 242 [14]]),(6,2,[mi 2]),(7,16,[f 0 1,L,c 243 [17]]),(8,19,[f 4 1,ls 3 19,c 226 [20],A 2 (m 21)]),(9,22,[f 0 1,L,c 244 [23],m 24,H,f 7 1,L,N,B .eql 0,Q]),(10,2,[mi 2]),(11,3,[mi 0]),(12,31,[m 3,f 7 1,L,N,b .lss 31 34]),(13,36,[m 3,B .add 1,A 3 (m 37)]),(14,38,[f 0 1,L,f 7 1,L,m 3,X 1,L,c 245 [39,44],nt 45]),(15,2,[mi 5]),(16,47,[f 7 1,L,m 3,o (.sub 1 none (some (.t 49)) none (.t 48)),f 7 1,L,m 3,X 1,L,c 196 [50,55]]),(17,2,[mi 6]),(18,2,[mi 0])] := .mk Tryz.func211
theorem YW : FI 212 Tryz.f212 22 (.h 0 (.s (.h 1 (.b 0 (.l (.h 2 (.s (.c 12 .n (.x 0)) (.s (.b 1 (.h 3 (.i 4 18 (.e 5) .n))) (.g 6))))))) (.e 7))) [.c (some 5) 4, .t 5] [(0,4,[A 2 (bx 25 0),o (.alloc 212 X.z17),mv (.bool false)]),(1,8,[f 0 2,L,N,mi 0]),(2,12,[b .lss 11 10]),(3,13,[ix 5 9 11,ls 5 13,A 7 (o (.alloc 212 X.z17)),st 5 7 14]),(4,15,[f 0 7,L,m 1,b .eql 16 17]),(5,19,[ls 5 7,st 5 4 19,A 5 (mv (.bool true))]),(6,20,[bi .add 11 1,A 11 (m 20)]),(7,21,[o (.build X.z17 []),st 5 4 21,A 5 (mv (.bool false))])] := .mk Tryz.func212
theorem YX : FI 213 Tryz.f213 22 (.h 0 (.s (.h 1 (.b 0 (.l (.h 2 (.s (.c 12 .n (.x 0)) (.s (.b 1 (.h 3 (.i 4 18 (.e 5) .n))) (.g 6))))))) (.e 7))) [.c (some 5) 4, .t 5] [(0,4,[A 2 (bx 25 0),o (.alloc 212 X.z17),mv (.bool false)]),(1,8,[f 0 2,L,N,mi 0]),(2,12,[b .lss 11 10]),(3,13,[ix 5 9 11,ls 5 13,A 7 (o (.alloc 212 X.z17)),st 5 7 14]),(4,15,[f 1 7,L,m 1,b .eql 16 17]),(5,19,[ls 5 7,st 5 4 19,A 5 (mv (.bool true))]),(6,20,[bi .add 11 1,A 11 (m 20)]),(7,21,[o (.build X.z17 []),st 5 4 21,A 5 (mv (.bool false))])] := .mk Tryz.func213
theorem YY : FI 226 Tryz.f226 32 (.h 0 (.q 1 17 2 (.q 3 23 4 (.q 5 31 6 (.e 7))))) [.t 2] [(0,1,[bx 82 0,mi 0]),(1,3,[f 0 1,L,B .lss 0,m 5,G,f 0 1,L,f 1 1,L,b .gtr 8 10,P,m 12,G,f 1 1,L,B .geq 36525,P]),(2,2,[mi 12]),(3,18,[f 1 1,L,f 0 1,L,b .sub 19 21,B .geq 800]),(4,2,[mi 4]),(5,24,[f 2 1,L,B .lss 1,m 26,G,f 2 1,L,B .gtr 127,P]),(6,2,[mi 2]),(7,2,[mi 0])] := .mk Tryz.func226
theorem YZ : FI 227 Tryz.f227 14 (.h 0 (.h 1 (.s (.h 2 (.w 0 3 8 1 (.g 5) 4)) (.e 6)))) [.t 2] [(0,2,[mi 0]),(1,3,[mi 1]),(2,4,[mi 0]),(3,5,[m 4,m 0,c 247 [6],b .lss 5 7]),(4,9,[m 4,B .add 1,A 4 (m 10)]),(5,11,[m 3,o (.bin .mul (.v (.int .i64 2)) (.t 11)),A 3 (m 12)]),(6,13,[m 3,A 2 (m 13)])] := .mk Tryz.func227
theorem Sv : FI 228 Tryz.f228 40 (.h 0 (.j 1 (.s (.h 2 (.b 0 (.i 3 25 (.e 4) (.i 5 31 (.e 6) .n)))) (.e 7)))) [.t 6] [(0,3,[bx 25 0,bx 143 1,bx 53 2,mv (.bool false)]),(1,9,[ls 2 3,f 3 5,L,c 229 [9,11],f 2 4,L,b .eql 12 14,ls 2 3,f 4 5,L,c 229 [16,18],f 2 4,L,b .eql 19 21,A 7 (m 15),A 8 (m 22)]),(2,23,[f 4 4,L]),(3,26,[bi .eql 24 0,A 25 (m 26)]),(4,27,[m 7,m 27,G,m 8,P,A 6 (m 30)]),(5,32,[bi .eql 24 1,A 31 (m 32)]),(6,33,[m 7,m 33,H,m 8,Q,A 6 (m 36)]),(7,37,[m 7,m 8,o (.binb .neq (.t 37) (.t 38)),A 6 (m 39)])] := .mk Tryz.func228
theorem Za : FI 229 Tryz.f229 23 (.h 0 (.h 1 (.s (.i 2 14 (.g 3) .n) (.e 4)))) [.t 4] [(0,2,[bx 25 0,A 4 (mv (.str []))]),(1,8,[ls 2 2,m 1,c 160 [8,9],A 7 (m 10),e 0 7,e 1 7,A 5 (o (.alloc 212 X.z17)),st 5 5 11,A 6 (m 12)]),(2,13,[m 6,nt 13]),(3,16,[ls 2 2,m 1,c 150 [16,17],A 15 (m 18),e 0 15,e 1 15,st 5 5 19]),(4,21,[f 2 5,L,A 4 (m 22)])] := .mk Tryz.func229
end Go.Proofs.YtjkclhbckfkeeaaGreatDoor
namespace Go.Proofs.YtjkclhbckfkeeaaGreatDoor
open Go Go.RowKit X
theorem Zc : FI 230 Tryz.f230 29 (.h 0 (.e 1)) [.t 6] [(0,3,[bx 143 0,bx 53 1,bx 53 2,mv (.bool false)]),(1,7,[f 4 4,L,f 3 5,L,b .eql 8 10,m 11,H,f 5 5,L,f 6 4,L,b .geq 14 16,Q,m 18,H,f 5 5,L,f 6 4,L,b .sub 21 23,f 5 3,L,b .leq 24 26,Q,A 6 (m 28)])] := .mk Tryz.func230
theorem Zd : FI 241 Tryz.f241 57 (.h 0 (.q 1 24 2 (.e 3))) [.t 2] [(0,1,[bx 132 0,mv (.bool false)]),(1,3,[f 0 1,L,c 254 [4],nt 5,m 6,H,f 1 1,L,N,B .gtr 0,Q,m 12,G,f 0 1,L,c 244 [15],nt 16,m 17,H,f 7 1,L,N,B .gtr 0,Gn 13,pf 18 22,P]),(2,2,[mv (.bool true)]),(3,25,[f 0 1,L,c 243 [26],nt 27,m 28,H,f 4 1,ls 3 30,o (.build X.z2 []),o (.bina [.i .i64, .i .i64, .i .i64] .neq (.t 31) (.t 32)),Q,m 34,G,f 0 1,L,c 255 [37],B .lss 1,m 39,H,f 2 1,L,B .neq 0,Gn 35,pf 40 43,P,m 45,G,f 0 1,L,c 255 [48],B .lss 2,m 50,H,f 3 1,L,B .neq 0,Gn 46,pf 51 54,P,A 2 (m 56)])] := .mk Tryz.func241
theorem Ze : FI 242 Tryz.f242 76 (.h 0 (.s (.h 1 (.b 0 (.s (.i 2 5 .n (.g 3)) (.c 5 (.e 4) (.i 5 12 (.e 6) (.i 7 18 (.e 8) (.i 9 28 (.e 10) (.s (.i 11 48 .n (.g 12)) (.c 48 (.e 13) (.i 14 59 (.e 15) .n)))))))))) (.e 16))) [.t 2] [(0,1,[bx 132 0,mv (.bool false)]),(1,3,[f 0 1,L]),(2,6,[bi .eql 4 2,A 5 (m 6)]),(3,7,[bi .eql 4 3,A 5 (m 7)]),(4,8,[f 1 1,L,N,B .eql 0,A 2 (m 11)]),(5,13,[bi .eql 4 4,A 12 (m 13)]),(6,14,[f 1 1,L,N,B .neq 1,A 2 (m 17)]),(7,19,[bi .eql 4 7,A 18 (m 19)]),(8,20,[f 2 1,L,B .lss 0,m 22,G,f 2 1,L,B .geq 36525,P,A 2 (m 27)]),(9,29,[bi .eql 4 8,A 28 (m 29)]),(10,30,[f 2 1,L,B .lss 0,m 32,G,f 2 1,L,B .geq 1440,P,m 37,G,f 3 1,L,B .lss 0,P,m 42,G,f 3 1,L,B .geq 1440,P,A 2 (m 47)]),(11,49,[bi .eql 4 9,A 48 (m 49)]),(12,50,[bi .eql 4 10,A 48 (m 50)]),(13,51,[f 2 1,L,B .lss 0,m 53,G,f 2 1,L,B .gtr 6,P,A 2 (m 58)]),(14,60,[bi .eql 4 12,A 59 (m 60)]),(15,61,[f 2 1,L,B .lss 1,m 63,G,f 2 1,L,f 3 1,L,b .gtr 66 68,P,m 70,G,f 3 1,L,B .gtr 9999,P,A 2 (m 75)]),(16,2,[mv (.bool false)])] := .mk Tryz.func242
theorem Zf : FI 243 Tryz.f243 9 (.h 0 (.e 1)) [.t 2] [(0,2,[mv (.bool false)]),(1,3,[m 0,B .eql 5,m 4,G,m 0,B .eql 6,P,A 2 (m 8)])] := .mk Tryz.func243
theorem Zg : FI 244 Tryz.f244 13 (.h 0 (.e 1)) [.t 2] [(0,2,[mv (.bool false)]),(1,3,[m 0,B .eql 11,m 4,G,m 0,B .eql 13,P,m 8,G,m 0,B .eql 14,P,A 2 (m 12)])] := .mk Tryz.func244
theorem Zh : FI 245 Tryz.f245 15 (.h 0 (.q 1 6 2 (.q 3 10 4 (.e 5)))) [.t 4] [(0,4,[mv (.bool false)]),(1,5,[m 0,B .eql 11]),(2,7,[m 1,c 123 [7],A 4 (m 8)]),(3,9,[m 0,B .eql 13]),(4,11,[m 1,c 129 [11],A 4 (m 12)]),(5,13,[m 1,o (.call 23 [(.t 13), (.v (.int .i64 3)), (.v (.int .i64 3))]),A 4 (m 14)])] := .mk Tryz.func245
theorem Zi : FI 247 Tryz.f247 7 (.h 0 (.e 1)) [.t 2] [(0,2,[mi 0]),(1,3,[m 0,B .rem 7,B .add 12,B .rem 7,A 2 (m 6)])] := .mk Tryz.func247
theorem Zk : FI 254 Tryz.f254 13 (.h 0 (.e 1)) [.t 2] [(0,2,[mv (.bool false)]),(1,3,[m 0,B .eql 2,m 4,G,m 0,B .eql 3,P,m 8,G,m 0,B .eql 4,P,A 2 (m 12)])] := .mk Tryz.func254
theorem Zl : FI 255 Tryz.f255 19 (.h 0 (.q 1 8 2 (.q 3 18 4 (.e 5)))) [.t 2] [(0,2,[mi 0]),(1,3,[m 0,B .eql 8,m 4,G,m 0,B .eql 12,P]),(2,2,[mi 2]),(3,9,[m 0,B .eql 7,m 10,G,m 0,B .eql 9,P,m 14,G,m 0,B .eql 10,P]),(4,2,[mi 1]),(5,2,[mi 0])] := .mk Tryz.func255
def Ag1 : List Int := [31, 28, 31, 30, 31, 30, 31, 31, 30, 31, 30, 31]
abbrev IL (w : World) : Prop := Lib.TabIs Tryz.prog w "airline/calendar.lengths" .i64 Ag1
theorem PC : Tryz.prog.globalNamed "airline/calendar.lengths" = some 0 := by kernel_rfl
theorem Amj (w w' : World) (h : w'.heap[(0 : Nat)]? = w.heap[(0 : Nat)]?) (hB : IL w) : IL w' := by
 unfold IL Lib.TabIs World.var? at hB ⊢
 rw [PC] at hB ⊢
 simp only [Option.bind_some] at hB ⊢
 rw [h]
 exact hB
def UT : Tbl := ⟨IL, fun b => b = 0, fun w w' h hB => Amj w w' (h _ rfl) hB⟩
abbrev PU (f : Nat) (g : List V -> Prop × V) : Prop := Aj Tryz.prog UT f g
theorem utL {w : World} (h : UT.B w) : IL w := h
def capB (c : Int) : Bool := decide (65 <= c) && decide (c <= 90)
def digB (c : Int) : Bool := decide (48 <= c) && decide (c <= 57)
def MH (c : Int) : Bool := capB c || digB c
def FE (p : Int -> Bool) (l : List UInt8) : Bool := l.all fun c => p (c.toNat : Int)
def Df (l : List UInt8) (lo hi : Int) : Bool := decide (lo <= (l.length : Int)) && decide ((l.length : Int) <= hi) && FE MH l
def MG (l : List UInt8) : Bool := decide ((l.length : Int) = 1) && FE capB l
def dec (n : Int) : List UInt8 := Lib.itoa n
theorem WA {p : Int -> Bool} {s : List UInt8} {i : Nat} (h : i < s.length) (ht : FE p (s.take i) = true) (hp : p ((s.getD i 0).toNat : Int) = true) : FE p (s.take (i + 1)) = true := by
 rw [NJ h]
 rw [AS, Bm h] at hp
 simp only [FE, List.all_append, List.all_cons, List.all_nil, Ku, Bx] at ht ⊢
 exact ⟨ht, hp⟩
theorem Wz {p : Int -> Bool} {s : List UInt8} {i : Nat} (h : i < s.length) (hp : p ((s.getD i 0).toNat : Int) = false) : FE p s = false := by
 rw [AS, Bm h] at hp
 unfold FE
 rw [List.all_eq_false]
 exact ⟨s[i], AI h, by simpa using hp⟩
theorem Wy {p : Int -> Bool} {s : List UInt8} {i : Nat} (h : ¬ i < s.length) (ht : FE p (s.take i) = true) : FE p s = true := by
 rwa [BR (by omega)] at ht
def dch (d : Nat) : UInt8 := UInt8.ofNat (48 + d)
def UI : List UInt8 := [48, 49, 50, 51, 52, 53, 54, 55, 56, 57]
theorem XE {d : Int} (h0 : 0 <= d) (h : d < 10) : (UI.take (d + 1).toNat).drop d.toNat = [dch d.toNat] := by
 have : d = 0 \/ d = 1 \/ d = 2 \/ d = 3 \/ d = 4 \/ d = 5 \/ d = 6 \/ d = 7 \/ d = 8 \/ d = 9 := by omega
 rcases this with rfl | rfl | rfl | rfl | rfl | rfl | rfl | rfl | rfl | rfl <;> rfl
theorem Afg {n : Int} (h : n < 10) : Lib.decDigits n.toNat = [dch n.toNat] := by rw [Lib.decDigits, dif_pos (by omega)]; rfl
theorem Aff {n : Int} (h : 10 <= n) : Lib.decDigits n.toNat = Lib.decDigits (n / 10).toNat ++ [dch (n % 10).toNat] := by
 rw [Lib.decDigits, dif_neg (by omega), show n.toNat / 10 = (n / 10).toNat by omega, show n.toNat % 10 = (n % 10).toNat by omega]; rfl
theorem XA {n : Int} (h : n <= 18446744073709551615) : (Lib.decDigits n.toNat).length <= 20 := by
 rw [Lib.decDigits_length]; exact Lib.nDigits_le20 _ (by omega)
theorem XB {n : Int} (h : inI n) : (dec n).length <= 21 := Lib.itoa_length_le n h.1 h.2
def GU (p : Int -> Bool) : List V -> Prop × V
 | [.int .u8 n] => (True, .bool (p n))
 | _ => (False, .any)
def tNo : Tab
 | _ => gNo
theorem AJ : ∀ f, PU f (tNo f) := fun f => by
 unfold tNo
 split
 ·exact Aj.no
theorem Uf : PU 57 (GU capB) := by
 have hG := AJ
 refine ZC.q fun vs hv => ?_
 match vs, hv with
 | [.int .u8 n], _ =>
 refine ⟨by simp, fun C hN Q hQ => ?_⟩
 have Z := ZC.R EF0 hG hN
 refine Ab (Z 0 rfl ?_)
 simp only [go_sem, simprocAttr]
 refine Ab (Z 1 rfl ?_)
 simp only [go_sem, simprocAttr]
 refine Ag (hQ _ _ (.inl rfl) ?_ ?_ ?_) <;> simp only [go_sem, simprocAttr, GU, capB]
theorem Ai2 : PU 58 (GU digB) := by
 have hG := AJ
 refine ZD.q fun vs hv => ?_
 match vs, hv with
 | [.int .u8 n], _ =>
 refine ⟨by simp, fun C hN Q hQ => ?_⟩
 have Z := ZD.R EF0 hG hN
 refine Ab (Z 0 rfl ?_)
 simp only [go_sem, simprocAttr]
 refine Ab (Z 1 rfl ?_)
 simp only [go_sem, simprocAttr]
 refine Ag (hQ _ _ (.inl rfl) ?_ ?_ ?_) <;> simp only [go_sem, simprocAttr, GU, digB]
def BN : List V -> Prop × V
 | [.str s, .int .i64 lo, .int .i64 hi] => (s.length <= 140737488355328, .bool (Df s lo hi))
 | _ => (False, .any)
def Pz : List V -> Prop × V
 | [.str s] => (s.length <= 140737488355328, .bool (MG s))
 | _ => (False, .any)
def Jd : List V -> Prop × V
 | [.str s, .int .i64 n] => (s.length <= 140737488355328, .bool (FE capB s && decide ((s.length : Int) = n)))
 | _ => (False, .any)
def UD : Tab
 | 57 => (GU capB)
 | _ => gNo
theorem Alx : ∀ f, PU f (UD f) := fun f => by
 unfold UD
 split
 ·exact Uf
 ·exact Aj.no
theorem AbR : PU 54 Jd := by
 have hG := Alx
 refine ZB.q fun vs hv => ?_
 match vs, hv with
 | [.str s, .int .i64 n], hv =>
 replace hv : s.length <= 140737488355328 := hv
 refine ⟨by simp, fun C hN Q hQ => ?_⟩
 have Z := ZB.R EF0 hG hN
 refine Ab (Z 0 rfl ?_)
 simp only [go_sem, simprocAttr]
 refine Ab (Ab (Z 1 rfl ?_))
 simp only [go_sem, simprocAttr]
 refine Ar ?_
 refine Bj (α := Nat) (fun i => i <= s.length /\ FE capB (s.take i) = true) (fun i => ⟨mkE [(0, .str s), (1, .int .i64 n), (5, .int .i64 i)], mkH []⟩) (fun i => s.length - i) 0 ⟨As _, rfl⟩ ?_ ?_
 ·exact leM
 rintro i ⟨hi, hp⟩ K hK
 refine Ab (Ab ?_)
 refine Z 2 rfl ?_
 simp only [go_sem, simprocAttr]
 refine Ai rfl (fun hc => ?_) fun hc => ?_
 ·simp only [hcL] at hc
  refine Ah ?_
  simp only [go_sem, simprocAttr]
  refine Ab (Ar ?_)
  refine Ab (Z 4 rfl ?_)
  simp only [go_sem, simprocAttr, UD, GU, hc]
  refine Ai rfl (fun hd => ?_) fun hd => ?_
  ·simp only [hcL] at hd
   refine Ab (Z 5 rfl ?_)
   simp only [go_sem, simprocAttr]
   refine Ag (hQ _ _ (.inl rfl) ?_ ?_ ?_) <;> simp only [go_sem, simprocAttr, Jd]
   rw [Wz hc hd]
   rfl
  simp only [hcL] at hd
  refine Ah ?_
  simp only [go_sem, simprocAttr]
  refine Z 3 rfl ?_
  simp only [go_sem, simprocAttr, inI]
  refine ⟨⟨by omega, by omega⟩, ?_⟩
  refine hK (i + 1) _ ?_ ?_ ?_
  ·exact ⟨hc, WA hc hp hd⟩
  ·omega
  exact leM
 simp only [hcL] at hc
 refine Be ?_
 simp only [go_sem, simprocAttr]
 refine Ab (Z 6 rfl ?_)
 simp only [go_sem, simprocAttr]
 refine Ag (hQ _ _ (.inl rfl) ?_ ?_ ?_) <;> simp only [go_sem, simprocAttr, Jd]
 rw [Wy (Nat.not_lt.2 hc) hp, NF]
def UM : Tab
 | 54 => Jd
 | _ => gNo
theorem Am8 : ∀ f, PU f (UM f) := fun f => by
 unfold UM
 split
 ·exact AbR
 ·exact Aj.no
theorem Ai0 : PU 19 Pz := by
 have hG := Am8
 refine YM.q fun vs hv => ?_
 match vs, hv with
 | [.str s], hv =>
 replace hv : s.length <= 140737488355328 := hv
 refine ⟨by simp, fun C hN Q hQ => ?_⟩
 have Z := YM.R EF0 hG hN
 refine Ab (Z 0 rfl ?_)
 simp only [go_sem, simprocAttr]
 refine Ab (Z 1 rfl ?_)
 simp only [go_sem, simprocAttr, UM, Jd, hv]
 refine Ag (hQ _ _ (.inl rfl) ?_ ?_ ?_) <;> simp only [go_sem, simprocAttr, Pz, MG]
 rw [Bool.and_comm]
def UN : Tab
 | 57 => (GU capB)
 | 58 => (GU digB)
 | _ => gNo
theorem Am9 : ∀ f, PU f (UN f) := fun f => by
 unfold UN
 split
 ·exact Uf
 ·exact Ai2
 ·exact Aj.no
theorem NV : PU 23 BN := by
 have hG := Am9
 refine Zb.q fun vs hv => ?_
 match vs, hv with
 | [.str s, .int .i64 lo, .int .i64 hi], hv =>
 replace hv : s.length <= 140737488355328 := hv
 refine ⟨by simp, fun C hN Q hQ => ?_⟩
 have Z := Zb.R EF0 hG hN
 refine Ab (Z 0 rfl ?_)
 simp only [go_sem, simprocAttr]
 refine Ab (Ab (Z 1 rfl ?_))
 simp only [go_sem, simprocAttr]
 refine Ar ?_
 refine Bj (α := Nat) (fun i => i <= s.length /\ FE MH (s.take i) = true) (fun i => ⟨mkE [(0, .str s), (1, .int .i64 lo), (2, .int .i64 hi), (7, .int .i64 i)], mkH []⟩) (fun i => s.length - i) 0 ⟨As _, rfl⟩ ?_ ?_
 ·exact leM
 rintro i ⟨hi, hp⟩ K hK
 refine Ab (Ab ?_)
 refine Z 2 rfl ?_
 simp only [go_sem, simprocAttr]
 refine Ai rfl (fun hc => ?_) fun hc => ?_
 ·simp only [hcL] at hc
  refine Ah ?_
  simp only [go_sem, simprocAttr]
  refine Ab (Ar ?_)
  refine Ab (Z 4 rfl ?_)
  simp only [go_sem, simprocAttr, UN, GU, hc]
  refine Ai rfl (fun hd => ?_) fun hd => ?_
  ·simp only [hcL] at hd
   refine Ab (Z 5 rfl ?_)
   simp only [go_sem, simprocAttr]
   refine Ag (hQ _ _ (.inl rfl) ?_ ?_ ?_) <;> simp only [go_sem, simprocAttr, BN, Df]
   rw [Wz hc (p := MH) (by simpa [MH] using hd), PQ]
  simp only [hcL] at hd
  refine Ah ?_
  simp only [go_sem, simprocAttr]
  refine Z 3 rfl ?_
  simp only [go_sem, simprocAttr, inI]
  refine ⟨⟨by omega, by omega⟩, ?_⟩
  refine hK (i + 1) _ ?_ ?_ ?_
  ·exact ⟨hc, WA hc hp (by simpa [MH] using hd)⟩
  ·omega
  exact leM
 simp only [hcL] at hc
 refine Be ?_
 simp only [go_sem, simprocAttr]
 refine Ab (Z 6 rfl ?_)
 simp only [go_sem, simprocAttr]
 refine Ag (hQ _ _ (.inl rfl) ?_ ?_ ?_) <;> simp only [go_sem, simprocAttr, BN, Df]
 rw [Wy (Nat.not_lt.2 hc) hp, Ku]
def Lx (k : Nat) : List V -> Prop × V
 | [.int .u64 n] => (0 <= n /\ n < 10 ^ k /\ n <= 18446744073709551615, .str (Lib.decDigits n.toNat))
 | _ => (False, .any)
def UC : Nat -> Tab
 | 0 => fun _ => gNo
 | k + 1 => fun f => if f = 125 then Lx k else gNo
theorem AbH (k : Nat) (hG : ∀ f, PU f (UC k f)) : PU 125 (Lx k) := by
 refine Sb.q fun vs hv => ?_
 match vs, hv with
 | [.int .u64 n], hv =>
 replace hv : 0 <= n /\ n < 10 ^ k /\ n <= 18446744073709551615 := hv
 obtain ⟨h0, h1, h2⟩ := hv
 refine ⟨by simp, fun C hN Q hQ => ?_⟩
 have Y := Sb.D EF0 hG hN mixed
 have Z := Sb.R EF0 hG hN
 refine Ab (Z 0 rfl ?_)
 simp only [go_sem, simprocAttr]
 refine Ab (Ab (Z 1 rfl ?_))
 simp only [go_sem, simprocAttr]
 refine Ai rfl (fun hc => ?_) fun hc => ?_
 ·simp only [hcL] at hc
  refine Ab (Z 2 rfl ?_)
  simp only [go_sem, simprocAttr, Kq]
  and_intros <;> try exact sdA
  refine Ag (hQ _ _ (.inl rfl) ?_ ?_ ?_) <;> simp only [go_sem, simprocAttr, Lx]
  rw [show [48, 49, 50, 51, 52, 53, 54, 55, 56, 57] = UI from rfl, XE h0 (by omega), Afg hc]
 simp only [hcL] at hc
 refine Ah ?_
 simp only [go_sem, simprocAttr]
 have hq : (UC k 125 [.int .u64 (n / 10)]).1 /\ (UC k 125 [.int .u64 (n / 10)]).2 = .str (Lib.decDigits (n / 10).toNat) := by
  cases k with
  | zero => exfalso; simp at h1; omega
  | succ k =>
   refine ⟨⟨by omega, ?_, by omega⟩, rfl⟩
   rw [Int.pow_succ] at h1
   omega
 have hl := XA (n := n / 10) (by omega)
 refine Ab (Y 3 rfl (by kernel_rfl) ?_)
 simp only [go_sem, simprocAttr, Kq, hq.1, hq.2]
 rw [show [48, 49, 50, 51, 52, 53, 54, 55, 56, 57] = UI from rfl, XE (by omega : 0 <= n % 10) (by omega)]
 and_intros <;> (try first | exact sdA | (rw [An]; simp only [Aw, Ax]; omega))
 refine Ag (hQ _ _ (.inl rfl) ?_ ?_ ?_) <;> simp only [go_sem, simprocAttr, Lx]
 rw [Aff hc]
theorem AbG : ∀ k, PU 125 (Lx k)
 | 0 => AbH 0 fun _ => Aj.no
 | k + 1 => AbH (k + 1) fun f => by
  show PU f (if f = 125 then Lx k else gNo)
  by_cases h : f = 125
  ·subst h; rw [if_pos rfl]; exact AbG k
  ·rw [if_neg h]; exact Aj.no
def PA : List V -> Prop × V
 | [.int .u64 n] => (0 <= n /\ n <= 18446744073709551615, .str (Lib.decDigits n.toNat))
 | _ => (False, .any)
theorem Ai3 : PU 125 PA := (AbG 20).sub fun vs hv => by
 match vs, hv with
 | [.int .u64 n], hv => exact ⟨⟨hv.1, Int.lt_of_le_of_lt hv.2 (by decide), hv.2⟩, rfl⟩
def Im : List V -> Prop × V
 | [.int .i64 n] => (inI n, .str (dec n))
 | _ => (False, .any)
def QB : Tab
 | 125 => PA
 | _ => gNo
theorem Ana : ∀ f, PU f (QB f) := fun f => by
 unfold QB
 split
 ·exact Ai3
 ·exact Aj.no
theorem NW : PU 68 Im := by
 have hG := Ana
 refine ZF.q fun vs hv => ?_
 match vs, hv with
 | [.int .i64 n], hv =>
 replace hv : inI n := hv
 obtain ⟨h0, h1⟩ := hv
 refine ⟨by simp, fun C hN Q hQ => ?_⟩
 have Z := ZF.R EF0 hG hN
 refine Ab (Z 0 rfl ?_)
 simp only [go_sem, simprocAttr]
 refine Ab (Ab (Z 1 rfl ?_))
 simp only [go_sem, simprocAttr]
 refine Ai rfl (fun hc => ?_) fun hc => ?_
 ·simp only [hcL] at hc
  have hl := XA (n := -(n + 1) + 1) (by omega)
  refine Ab (Z 2 rfl ?_)
  simp only [go_sem, simprocAttr, Kq, inI, QB, PA]
  and_intros <;> try exact sdA
  refine Ag (hQ _ _ (.inl rfl) ?_ ?_ ?_) <;> simp only [go_sem, simprocAttr, Im, dec, Lib.itoa]
  rw [if_pos hc, show (-(n + 1) + 1).toNat = n.natAbs by omega]
 simp only [hcL] at hc
 refine Ah ?_
 simp only [go_sem, simprocAttr]
 refine Ab (Z 3 rfl ?_)
 simp only [go_sem, simprocAttr, Kq, QB, PA]
 and_intros <;> try exact sdA
 refine Ag (hQ _ _ (.inl rfl) ?_ ?_ ?_) <;> simp only [go_sem, simprocAttr, Im, dec, Lib.itoa]
 rw [if_neg (by omega)]
structure Fault where
 err : Int
 pos : List UInt8
def Fault.enc (f : Fault) : List V := [.int .i64 f.err, .str f.pos]
def fIf (b : Bool) (e : Int) (pos : List UInt8) : List Fault := if b then [⟨e, pos⟩] else []
theorem Id {i : Nat} (h : i <= 1000000) : (dec (i : Int)).length <= 21 := XB ⟨by omega, by omega⟩
theorem CT {α : Type} (l : List α) (k : Nat) (d : α) (h : k < l.length) : l.getD k d = l[k] := by
 rw [AS, Bm h]; rfl
def Az (l : List Fault) : List (List V) := l.map Fault.enc
theorem EW (l : List Fault) : (Az l).length = l.length := Ac _
theorem Gp (l : List Fault) : ∀ r ∈ Az l, V.purs r = true := by
 intro r hr
 obtain ⟨n, _, rfl⟩ := Am.1 hr
 rfl
theorem AfX (l : List Fault) : (∀ r ∈ Az l, V.purs r = true) ↔ True := iff_true_intro (Gp l)
theorem AfY (l : List Fault) (e : Int) (p : List UInt8) : Az l ++ [[.int .i64 e, .str p]] = Az (l ++ [⟨e, p⟩]) := by unfold Az; rw [DO]; rfl
theorem RV (l r : List Fault) : Az l ++ Az r = Az (l ++ r) := by unfold Az; rw [DO]
theorem AfZ (l : List Fault) : ∀ r ∈ Az l, r.length = 2 := by
 intro r hr
 obtain ⟨n, _, rfl⟩ := Am.1 hr
 rfl
theorem Af0 (l : List Fault) : (∀ r ∈ Az l, r.length = 2) ↔ True := iff_true_intro (AfZ l)
attribute [go_sem] EW AfX AfY RV Af0
theorem Du {b : Bool} {e : Int} {p : List UInt8} (h : b = true) : fIf b e p = [⟨e, p⟩] := by rw [h]; rfl
theorem Dt {b : Bool} {e : Int} {p : List UInt8} (h : b = false) : fIf b e p = [] := by rw [h]; rfl
theorem Ig (b : Bool) (e : Int) (p : List UInt8) : (fIf b e p).length <= 1 := by unfold fIf; split <;> simp
theorem HQ {α : Type} {p : α -> Prop} {l : List α} {i : Nat} (hi : i < l.length) (hp : ∀ c ∈ l.take i, p c) (h : p l[i]) : ∀ c ∈ l.take (i + 1), p c := by
 intro c hc
 rw [NJ hi, BT, Bp] at hc
 rcases hc with hc | rfl
 ·exact hp c hc
 ·exact h
theorem AfW {l : List Fault} {i : Nat} {d : List V} (h : i < l.length) : (Az l).getD i d = [.int .i64 l[i].err, .str l[i].pos] := by
 unfold Az; rw [AS, BC, Bm h]; rfl
def strs (l : List (List UInt8)) : List (List V) := l.map fun s => [.str s]
theorem EL (l : List (List UInt8)) : (strs l).length = l.length := Ac _
theorem Gz (l : List (List UInt8)) (i : Nat) (d : List V) (h : i < l.length) : (strs l).getD i d = [.str l[i]] := by
 unfold strs
 rw [AS, BC, Bm h]; rfl
theorem Ak2 (l : List (List UInt8)) (i : Nat) : (strs l).take i = strs (l.take i) := by unfold strs; rw [LM]
theorem Qt (l : List (List UInt8)) : ∀ r ∈ strs l, V.purs r = true := by
 intro r hr
 obtain ⟨n, _, rfl⟩ := Am.1 hr
 rfl
theorem Ak1 (l : List (List UInt8)) : (∀ r ∈ strs l, V.purs r = true) ↔ True := iff_true_intro (Qt l)
theorem AcY (l : List (List UInt8)) : ∀ r ∈ strs l, r.length = 1 := by
 intro r hr
 obtain ⟨n, _, rfl⟩ := Am.1 hr
 rfl
theorem Ak0 (l : List (List UInt8)) : (∀ r ∈ strs l, r.length = 1) ↔ True := iff_true_intro (AcY l)
theorem HP {l r : List (List UInt8)} (h : strs l = strs r) : l = r := Cl (fun a b h => by simpa using h) h
def Ao (l : List Int) : List (List V) := l.map fun n => [.int .i64 n]
theorem AG (l : List Int) : (Ao l).length = l.length := Ac _
theorem EY (l : List Int) (i : Nat) (d : List V) (h : i < l.length) : (Ao l).getD i d = [.int .i64 l[i]] := by
 unfold Ao
 rw [AS, BC, Bm h]; rfl
theorem ints_set (l : List Int) (i : Nat) (v : Int) : (Ao l).set i [.int .i64 v] = Ao (l.set i v) := by unfold Ao; rw [Kv]
theorem AgG (l : List Int) (i : Nat) : (Ao l).take i = Ao (l.take i) := by unfold Ao; rw [LM]
theorem AgD (l : List Int) (i : Nat) : (Ao l).drop i = Ao (l.drop i) := by unfold Ao; rw [List.map_drop]
theorem EE (l : List Int) (v : Int) : Ao l ++ [[.int .i64 v]] = Ao (l ++ [v]) := by unfold Ao; rw [DO]; rfl
theorem AgC (l r : List Int) : Ao l ++ Ao r = Ao (l ++ r) := by unfold Ao; rw [DO]
theorem Jf (l : List Int) : ∀ r ∈ Ao l, V.purs r = true := by
 intro r hr
 obtain ⟨n, _, rfl⟩ := Am.1 hr
 rfl
theorem FV (l : List Int) : (∀ r ∈ Ao l, V.purs r = true) ↔ True := iff_true_intro (Jf l)
theorem AgE (l : List Int) : ∀ r ∈ Ao l, r.length = 1 := by
 intro r hr
 obtain ⟨n, _, rfl⟩ := Am.1 hr
 rfl
theorem AgF (l : List Int) : (∀ r ∈ Ao l, r.length = 1) ↔ True := iff_true_intro (AgE l)
theorem Kr {l r : List Int} (h : Ao l = Ao r) : l = r := Cl (fun a b h => by simpa using h) h
theorem AaF (n : Nat) : List.replicate n [V.int .i64 0] = Ao (List.replicate n 0) := by unfold Ao; rw [List.map_replicate]
theorem Ly : Ao [] = [] := rfl
attribute [go_sem] EL Ak1 Ak0 AG FV AgF
theorem AiD (a : List (List V)) (r : List V) : (∀ x ∈ a ++ [r], V.purs x = true) ↔ (∀ x ∈ a, V.purs x = true) /\ V.purs r = true := by
 simp only [List.forall_mem_append, Bp, forall_eq]
theorem Ag4 (a : List (List V)) (r : List V) (n : Nat) : (∀ x ∈ a ++ [r], x.length = n) ↔ (∀ x ∈ a, x.length = n) /\ r.length = n := by
 simp only [List.forall_mem_append, Bp, forall_eq]
attribute [go_sem] AiD Ag4
theorem Ap {α : Type} (f : α -> List V) (l : List α) (i : Nat) (d : List V) (h : i < l.length) : (l.map f).getD i d = f l[i] := by
 rw [AS, BC, Bm h]; rfl
theorem Dm {α : Type} {l : List α} {i : Nat} (h : i < l.length) : l.take (i + 1) = l.take i ++ [l[i]] := NJ h
def Pt {α : Type} (_ : α) : Prop × V := (True, .bool true)
def JL (_ : Unit) : List V := []
theorem Wi (a b : Unit) (_ : JL a = JL b) : a = b := rfl
theorem Bh : gOf JL Pt [] = (True, .bool true) := Al Wi ()
theorem Aec {α : Type} {p : α -> Bool} {l : List α} {i : Nat} (h : i < l.length) (hp : p l[i] = true) : l.any p = true := Iv.2 ⟨_, AI h, hp⟩
theorem Aed {α : Type} {p : α -> Bool} {l : List α} {i : Nat} (h : l.length <= i) (hp : ∀ x ∈ l.take i, p x = false) : l.any p = false := by
 rw [BR h] at hp
 rw [Nz]
 intro x hx
 rw [hp x hx]; decide
theorem AhC {α : Type} {l : List α} {i : Nat} (h : l.length <= i) {P : α -> Prop} (hp : ∀ x ∈ l.take i, P x) : ∀ x ∈ l, P x := by rwa [BR h] at hp
abbrev Av (α : Type) := List (List UInt8 × α)
def Au {α : Type} (L : Av α) (k : List UInt8) : Option α := (L.find? fun p => decide (p.1 = k)).map (·.2)
def BA {α : Type} : Av α -> List UInt8 -> α -> Av α
 | [], k, v => [(k, v)]
 | (k', v') :: L, k, v => if k' = k then (k, v) :: L else (k', v') :: BA L k v
def BB {α : Type} (f : α -> V) (L : Av α) : List (Ky × V) := L.map fun p => (.s p.1, f p.2)
theorem Ad3 {α : Type} (k : List UInt8) : Au ([] : Av α) k = none := rfl
theorem Ia {α : Type} (k' : List UInt8) (v' : α) (L : Av α) (k : List UInt8) : Au ((k', v') :: L) k = if k' = k then some v' else Au L k := by
 unfold Au
 rw [List.find?_cons]
 by_cases h : k' = k <;> simp [h]
theorem IS {α : Type} (L : Av α) (k j : List UInt8) (v : α) : Au (BA L k v) j = if k = j then some v else Au L j := by
 induction L with
 | nil => rw [BA, Ia, Ad3]
 | cons p L ih =>
  obtain ⟨k', v'⟩ := p
  rw [BA]
  by_cases h : k' = k
  ·subst h
   rw [if_pos rfl, Ia, Ia]
   split <;> rfl
  ·rw [if_neg h, Ia, Ia, ih]
   by_cases e : k = j
   ·subst e; rw [if_neg h, if_pos rfl, if_pos rfl]
   ·rw [if_neg e, if_neg e]
theorem Tg {α : Type} (f : α -> V) (L : Av α) (k : List UInt8) (v : α) : BK (BB f L) (.s k) (f v) = BB f (BA L k v) := by
 induction L with
 | nil => rfl
 | cons p L ih =>
  obtain ⟨k', v'⟩ := p
  show BK ((.s k', f v') :: BB f L) (.s k) (f v) = _
  rw [Aa0, BA]
  by_cases h : k' = k
  ·subst h; rw [if_pos rfl, if_pos rfl]; rfl
  ·rw [if_neg (fun e => h (by injection e)), if_neg h, ih]; rfl
theorem Te {α : Type} (f : α -> V) (L : Av α) (k : List UInt8) (z : V) : CM (BB f L) (.s k) z = ((Au L k).map f).getD z := by
 induction L with
 | nil => rfl
 | cons p L ih =>
  obtain ⟨k', v'⟩ := p
  show CM ((.s k', f v') :: BB f L) (.s k) z = _
  rw [LX, Ia]
  by_cases h : k' = k
  ·subst h; rw [if_pos rfl, if_pos rfl]; rfl
  ·rw [if_neg (fun e => h (by injection e)), if_neg h, ih]
theorem AgN {α : Type} (f : α -> V) (L : Av α) (k : List UInt8) : mhas (BB f L) (.s k) = (Au L k).isSome := by
 induction L with
 | nil => rfl
 | cons p L ih =>
  obtain ⟨k', v'⟩ := p
  show mhas ((.s k', f v') :: BB f L) (.s k) = _
  rw [Ahl, Ia, ih]
  by_cases h : k' = k
  ·subst h; simp
  ·rw [if_neg h, decide_eq_false (fun e => h (by injection e)), Bool.false_or]
theorem AgO {α : Type} (f : α -> V) (L : Av α) : (∀ q ∈ BB f L, q.1.kd = 0) ↔ True := iff_true_intro fun q hq => by
 obtain ⟨p, _, rfl⟩ := Am.1 hq; rfl
def fS8 (s : List UInt8) : V := .str s
def fI8 (n : Int) : V := .int .i64 n
def fB8 (b : Bool) : V := .bool b
theorem AgT (L : Av (List UInt8)) : (∀ q ∈ BB fS8 L, q.2.pur = true) ↔ True := iff_true_intro fun q hq => by obtain ⟨p, _, rfl⟩ := Am.1 hq; rfl
theorem AgS (L : Av Int) : (∀ q ∈ BB fI8 L, q.2.pur = true) ↔ True := iff_true_intro fun q hq => by obtain ⟨p, _, rfl⟩ := Am.1 hq; rfl
theorem AgR (L : Av Bool) : (∀ q ∈ BB fB8 L, q.2.pur = true) ↔ True := iff_true_intro fun q hq => by obtain ⟨p, _, rfl⟩ := Am.1 hq; rfl
theorem AgQ (d : List Nat) (L : Av (List UInt8)) : (∀ q ∈ BB fS8 L, q.2.nin d = true) ↔ True := iff_true_intro fun q hq => by obtain ⟨p, _, rfl⟩ := Am.1 hq; simp only [fS8, V.nin]
theorem Tf (d : List Nat) (L : Av Int) : (∀ q ∈ BB fI8 L, q.2.nin d = true) ↔ True := iff_true_intro fun q hq => by obtain ⟨p, _, rfl⟩ := Am.1 hq; simp only [fI8, V.nin]
theorem AgP (d : List Nat) (L : Av Bool) : (∀ q ∈ BB fB8 L, q.2.nin d = true) ↔ True := iff_true_intro fun q hq => by obtain ⟨p, _, rfl⟩ := Am.1 hq; simp only [fB8, V.nin]
theorem AgV (σ : Nat -> Nat) (L : Av (List UInt8)) : (BB fS8 L).map (fun q => (q.1, q.2.ren σ)) = BB fS8 L := by
 unfold BB; rw [Kw]; exact FZ fun p _ => by simp only [LC, fS8, V.ren]
theorem Th (σ : Nat -> Nat) (L : Av Int) : (BB fI8 L).map (fun q => (q.1, q.2.ren σ)) = BB fI8 L := by
 unfold BB; rw [Kw]; exact FZ fun p _ => by simp only [LC, fI8, V.ren]
theorem AgU (σ : Nat -> Nat) (L : Av Bool) : (BB fB8 L).map (fun q => (q.1, q.2.ren σ)) = BB fB8 L := by
 unfold BB; rw [Kw]; exact FZ fun p _ => by simp only [LC, fB8, V.ren]
theorem AiH (L : Av (List UInt8)) (k v : List UInt8) : BK (BB fS8 L) (.s k) (.str v) = BB fS8 (BA L k v) := Tg fS8 L k v
theorem Aby (L : Av Int) (k : List UInt8) (v : Int) : BK (BB fI8 L) (.s k) (.int .i64 v) = BB fI8 (BA L k v) := Tg fI8 L k v
theorem AiE (L : Av Bool) (k : List UInt8) (v : Bool) : BK (BB fB8 L) (.s k) (.bool v) = BB fB8 (BA L k v) := Tg fB8 L k v
theorem Agk (L : Av (List UInt8)) (k z : List UInt8) : CM (BB fS8 L) (.s k) (.str z) = .str ((Au L k).getD z) := by rw [Te]; cases Au L k <;> rfl
theorem Agi (L : Av Int) (k : List UInt8) (z : Int) : CM (BB fI8 L) (.s k) (.int .i64 z) = .int .i64 ((Au L k).getD z) := by rw [Te]; cases Au L k <;> rfl
theorem Agg (L : Av Bool) (k : List UInt8) (z : Bool) : CM (BB fB8 L) (.s k) (.bool z) = .bool ((Au L k).getD z) := by rw [Te]; cases Au L k <;> rfl
attribute [go_sem] AgO AgT AgS AgR AgQ Tf AgP AgV Th AgU AiH Aby AiE Agk Agi Agg AgN
end Go.Proofs.YtjkclhbckfkeeaaGreatDoor
end
