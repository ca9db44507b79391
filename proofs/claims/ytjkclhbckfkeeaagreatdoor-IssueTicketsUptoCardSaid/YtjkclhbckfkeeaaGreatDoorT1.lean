import Derived.Test.YtjkclhbckfkeeaaGreatDoorCoc
import Derived.Shelf.Small.Bits
import Derived.Shelf.Small.Strs
import Derived.Shelf.Strconv.Itoa0
import Derived.Shelf.Strconv.Itoa1
import Derived.Shelf.LaysM
import Derived.Shelf.Strconv.Itoa2
import Derived.Shelf.Strconv.Itoa3
import Derived.Shelf.Strings.Search1
import Derived.Shelf.Strings.Search2
import Derived.Shelf.Strings.Search3
import Derived.Shelf.Strings.Count
import Derived.Shelf.Strings.Shaped
import Derived.Ground.GgsProg
import Derived.Shelf.GgSortFunc.Insertion
import Derived.Shelf.GgSortFunc.Tiny
import Derived.Shelf.GgSortFunc.Compose
import Derived.Ground.GgtProg
import Derived.Shelf.GgSortMore.Stable
import Derived.Shelf.Bits.Mul64
import Derived.Shelf.Unicode.DecodeSlow
import Derived.Test.YtjkclhbckfkeeaaGreatDoorProg
import Derived.Test.YtjkclhbckfkeeaaGreatDoorAv22
import Derived.Lib.LaidTab
import Derived.Lib.ItoaNum
import Derived.Lib.ItoaLen
set_option linter.unusedSimpArgs false
set_option linter.unusedVariables false
set_option linter.deprecated false
set_option maxHeartbeats 1000000
noncomputable section
namespace Go.Proofs.YtjkclhbckfkeeaaGreatDoor
open Go Go.RowKit X
def Alc := co Tryz.f153 (.s (.g 0) (.s (.g 1) (.s (.s (.g 2) (.b 0 (.l (.s (.s (.g 3) (.c 10 .n (.x 0))) (.s (.b 1 (.s (.g 5) (.c 17 (.s (.g 6) .r) .n))) (.g 4)))))) (.s (.s (.g 7) (.b 2 (.l (.s (.s (.g 8) (.c 21 .n (.x 2))) (.s (.b 3 (.s (.s (.g 10) (.c 30 (.s (.g 11) .r) .n)) (.g 12))) (.g 9)))))) (.s (.s (.g 13) (.c 38 (.s (.g 14) .r) .n)) (.s (.g 15) .r))))))
def Ahj : RL := [(0,[mi 2 0,mi 3 0]),(1,[mi 4 0]),(2,[mi 5 0]),(3,[m 7 5,m 8 0,ln 9 8,b 10 .lss 7 9]),(4,[m 11 5,bi 12 .add 11 1,m 5 12]),(5,[m 13 0,m 14 5,ix 15 1 13 14,l 16 15,bi 17 .lss 16 0]),(6,[mi 2 0,mi 3 2]),(7,[mi 6 0]),(8,[m 18 6,m 19 0,ln 20 19,b 21 .lss 18 20]),(9,[m 22 6,bi 23 .add 22 1,m 6 23]),(10,[m 24 0,m 25 6,ix 26 1 24 25,l 27 26,m 28 4,o 29 (.bin .sub (.v (.int .i64 1099511627776)) (.t 28)),b 30 .gtr 27 29]),(11,[mi 2 0,mi 3 11]),(12,[m 31 4,m 32 0,m 33 6,ix 34 1 32 33,l 35 34,b 36 .add 31 35,m 4 36]),(13,[m 37 4,bi 38 .eql 37 0]),(14,[mi 2 0,mi 3 2]),(15,[m 39 4,m 2 39,mi 3 0])]
theorem AeN : FnI Tryz.prog 153 Tryz.f153 40 Alc [.t 2, .t 3] Ahj := ⟨Tryz.func153, by kernel_rfl⟩
def Alb := co Tryz.f154 (.s (.g 0) (.s (.g 1) .r))
def Ahi : RL := [(0,[mv 2 (.bool false)]),(1,[m 3 0,bi 4 .geq 3 (-1099511627776),m 5 4,H 5 (m 6 0),H 5 (bi 7 .leq 6 1099511627776),pf 8 5 7,m 2 8])]
theorem AeM : FnI Tryz.prog 154 Tryz.f154 9 Alb [.t 2] Ahi := ⟨Tryz.func154, by kernel_rfl⟩
def Ala := co Tryz.f155 (.s (.g 0) (.s (.s (.g 1) (.c 4 (.s (.g 2) .r) .n)) (.s (.g 3) .r)))
def Ahh : RL := [(0,[mi 2 0]),(1,[m 3 0,bi 4 .lss 3 0]),(2,[m 5 0,o 6 (.un .neg (.t 5)),m 2 6]),(3,[m 7 0,m 2 7])]
theorem AeL : FnI Tryz.prog 155 Tryz.f155 8 Ala [.t 2] Ahh := ⟨Tryz.func155, by kernel_rfl⟩
def Ak9 := co Tryz.f156 (.s (.g 0) (.s (.g 1) (.s (.s (.g 2) (.b 0 (.l (.s (.s (.g 3) (.c 12 .n (.x 0))) (.s (.b 1 (.s (.g 5) (.s (.s (.g 6) (.c 23 (.g 7) .n)) (.b 2 (.l (.s (.s (.g 8) (.c 29 .n (.x 2))) (.b 3 (.g 9)))))))) (.g 4)))))) (.s (.g 10) .r))))
def Ahg : RL := [(0,[mi 6 0,mi 7 0]),(1,[mi 8 0,mi 9 0]),(2,[mi 10 1099511627776]),(3,[m 11 10,bi 12 .gtr 11 0]),(4,[m 13 10,bi 14 .quo 13 2,m 10 14]),(5,[m 15 8,o 16 (.bin .mul (.v (.int .i64 2)) (.t 15)),m 17 9,o 18 (.bin .mul (.v (.int .i64 2)) (.t 17)),m 8 16,m 9 18]),(6,[m 19 0,m 20 10,b 21 .quo 19 20,bi 22 .rem 21 2,bi 23 .eql 22 1]),(7,[m 24 9,m 25 1,b 26 .add 24 25,m 9 26]),(8,[m 27 9,m 28 2,b 29 .geq 27 28]),(9,[m 30 8,bi 31 .add 30 1,m 32 9,m 33 2,b 34 .sub 32 33,m 8 31,m 9 34]),(10,[m 35 8,m 36 9,m 6 35,m 7 36])]
theorem AeK : FnI Tryz.prog 156 Tryz.f156 37 Ak9 [.t 6, .t 7] Ahg := ⟨Tryz.func156, by kernel_rfl⟩
def Ak8 := co Tryz.f157 (.s (.g 0) (.s (.g 1) (.s (.s (.g 2) (.b 0 (.l (.s (.s (.g 3) (.c 8 .n (.x 0))) (.s (.b 1 (.s (.d 5) (.c 19 (.g 6) .n))) (.g 4)))))) (.s (.g 7) .r))))
def Ahf : RL := [(0,[mi 2 0]),(1,[mi 3 0]),(2,[mi 4 0]),(3,[m 5 4,m 6 0,ln 7 6,b 8 .lss 5 7]),(4,[m 9 4,bi 10 .add 9 1,m 4 10]),(5,[m 11 0,m 12 4,ix 13 1 11 12,l 14 13,m 15 0,m 16 3,ix 17 1 15 16,l 18 17,b 19 .gtr 14 18]),(6,[m 20 4,m 3 20]),(7,[m 21 3,m 2 21])]
theorem AeJ : FnI Tryz.prog 157 Tryz.f157 22 Ak8 [.t 2] Ahf := ⟨Tryz.func157, by kernel_rfl⟩
def Ak7 := co Tryz.f158 (.s (.g 0) (.s (.g 1) (.s (.s (.g 2) (.c 13 (.s (.g 3) .r) .n)) (.s (.g 4) (.s (.s (.g 5) (.c 22 (.s (.g 6) .r) .n)) (.s (.g 7) .r))))))
def Ahe : RL := [(0,[o 2 (.box 25 (.t 0)),mv 4 (.str [])]),(1,[ls 8 2 2,m 9 1,c 10 160 [8,9],m 7 10,e 11 0 7,e 12 1 7,o 5 (.alloc 212 [(.str []), (.str []), (.str []), (.int .i64 0), .nils]),st 5 5 11,m 6 12]),(2,[m 13 6]),(3,[f 14 1 5,l 15 14,m 4 15]),(4,[ls 17 2 2,m 18 1,c 19 150 [17,18],m 16 19,e 20 0 16,e 21 1 16,m 6 21]),(5,[m 22 6]),(6,[m 23 1,m 4 23]),(7,[mv 4 (.str [])])]
theorem AeI : FnI Tryz.prog 158 Tryz.f158 24 Ak7 [.t 4] Ahe := ⟨Tryz.func158, by kernel_rfl⟩
def Ak6 := co Tryz.f160 (.s (.g 0) (.s (.s (.g 1) (.b 0 (.l (.s (.s (.g 2) (.c 11 .n (.x 0))) (.s (.b 1 (.s (.g 4) (.c 21 (.s (.g 5) .r) .n))) (.g 3)))))) (.s (.g 6) .r)))
def Ahd : RL := [(0,[o 2 (.box 25 (.t 0)),o 4 (.alloc 212 [(.str []), (.str []), (.str []), (.int .i64 0), .nils]),mv 5 (.bool false)]),(1,[mi 6 0]),(2,[m 7 6,f 8 0 2,l 9 8,ln 10 9,b 11 .lss 7 10]),(3,[m 12 6,bi 13 .add 12 1,m 6 13]),(4,[f 14 0 2,l 15 14,m 16 6,ix 17 5 15 16,f 18 0 17,l 19 18,m 20 1,b 21 .eql 19 20]),(5,[f 22 0 2,l 23 22,m 24 6,ix 25 5 23 24,ls 26 5 25,st 5 4 26,mv 5 (.bool true)]),(6,[o 27 (.build [(.str []), (.str []), (.str []), (.int .i64 0), .nils] []),st 5 4 27,mv 5 (.bool false)])]
theorem AeH : FnI Tryz.prog 160 Tryz.f160 28 Ak6 [.c (some 5) 4, .t 5] Ahd := ⟨Tryz.func160, by kernel_rfl⟩
def Ak5 := co Tryz.f172 (.s (.g 0) (.s (.g 1) (.s (.s (.g 2) (.b 0 (.l (.s (.g 3) (.s (.c 8 .n (.x 0)) (.s (.b 1 (.s (.g 4) (.g 5))) (.g 6))))))) (.s (.g 7) .r))))
def Ahc : RL := [(0,[o 1 (.box 233 (.t 0)),mi 2 0]),(1,[mi 3 0]),(2,[ls 6 5 1,mi 7 0]),(3,[bi 8 .lss 7 5]),(4,[m 9 7,o 10 (.idxv false 1 5 (.t 6) (.t 7)),m 4 9,m 5 10]),(5,[m 11 3,m 12 4,o 13 (.bin .mul (.v (.int .i64 2)) (.t 12)),bi 14 .add 13 1,m 15 5,b 16 .mul 14 15,b 17 .add 11 16,m 3 17]),(6,[bi 18 .add 7 1,m 7 18]),(7,[m 19 3,bi 20 .rem 19 32,m 2 20])]
theorem AeG : FnI Tryz.prog 172 Tryz.f172 21 Ak5 [.t 2] Ahc := ⟨Tryz.func172, by kernel_rfl⟩
def Ak4 := co Tryz.f173 (.s (.g 0) (.s (.s (.g 1) (.c 13 (.s (.g 2) .r) .n)) (.s (.s (.g 3) (.c 15 (.s (.g 4) .r) .n)) (.s (.s (.g 5) (.c 20 (.g 6) .n)) (.s (.g 7) (.s (.g 8) (.s (.g 9) (.s (.g 10) (.s (.b 0 (.l (.s (.s (.g 11) (.c 36 .n (.x 0))) (.b 1 (.s (.g 12) (.s (.s (.g 13) (.c 41 (.x 0) .n)) (.s (.g 14) (.s (.g 15) (.g 16))))))))) (.s (.g 17) (.s (.g 18) .r)))))))))))
def Ahb : RL := [(0,[mv 8 .nils]),(1,[m 12 3,bi 13 .eql 12 0]),(3,[m 14 1,o 15 (.bin .eql (.t 14) (.v (.str [])))]),(5,[m 19 3,bi 20 .lss 19 0]),(6,[m 21 0,m 22 1,c 23 205 [21,22],bi 24 .add 23 1,m 3 24]),(7,[m 25 3,m 26 0,o 27 (.slen (.t 26)),bi 28 .add 27 1,o 29 (.mn (.t 25) (.t 28)),m 3 29]),(8,[m 30 3,o 31 (.mks 9 1 16 [(.str [])] (.t 30) (.t 30)),m 9 31]),(9,[m 32 3,bi 33 .sub 32 1,m 3 33]),(10,[mi 10 0]),(11,[m 34 10,m 35 3,b 36 .lss 34 35]),(12,[m 37 0,m 38 1,c 39 206 [37,38],m 11 39]),(13,[m 40 11,bi 41 .lss 40 0]),(14,[m 42 9,m 43 10,m 44 0,m 45 11,m 46 2,b 47 .add 45 46,o 48 (.ssub none (some (.t 47)) (.t 44)),ix 49 1 42 43,st 1 49 48]),(15,[m 50 0,m 51 11,m 52 1,o 53 (.slen (.t 52)),b 54 .add 51 53,o 55 (.ssub (some (.t 54)) none (.t 50)),m 0 55]),(16,[m 56 10,bi 57 .add 56 1,m 10 57]),(17,[m 58 9,m 59 10,m 60 0,ix 61 1 58 59,st 1 61 60]),(18,[m 62 9,m 63 10,bi 64 .add 63 1,o 65 (.sub 1 none (some (.t 64)) none (.t 62)),m 8 65])]
theorem AeF : FnI Tryz.prog 173 Tryz.f173 66 Ak4 [.t 8] Ahb := ⟨Tryz.func173, by kernel_rfl⟩
def Ak3 := co Tryz.f175 (.s (.g 0) (.s (.g 1) (.s (.s (.g 2) (.b 0 (.l (.s (.s (.g 3) (.c 9 .n (.x 0))) (.s (.b 1 (.g 5)) (.g 4)))))) (.s (.g 6) .r))))
def Aha : RL := [(0,[o 1 (.box 132 (.t 0)),mi 2 0]),(1,[mi 3 0]),(2,[mi 4 0]),(3,[m 5 4,f 6 1 1,l 7 6,ln 8 7,b 9 .lss 5 8]),(4,[m 10 4,bi 11 .add 10 1,m 4 11]),(5,[m 12 3,f 13 1 1,l 14 13,m 15 4,ix 16 8 14 15,ls 17 8 16,c 18 175 [17],o 19 (.mx (.t 12) (.t 18)),m 3 19]),(6,[m 20 3,bi 21 .add 20 1,m 2 21])]
theorem AeE : FnI Tryz.prog 175 Tryz.f175 22 Ak3 [.t 2] Aha := ⟨Tryz.func175, by kernel_rfl⟩
def Yq : List AO := [m 20 3,bi 21 .add 20 1,m 2 21]
theorem YZ : TR Tryz.f175 22 6 = some Yq := by kernel_rfl
def Ak2 := co Tryz.f176 (.s (.g 0) (.s (.g 1) (.s (.s (.g 2) (.b 0 (.l (.s (.s (.g 3) (.c 9 .n (.x 0))) (.s (.b 1 (.g 5)) (.g 4)))))) (.s (.g 6) .r))))
def Ag9 : RL := [(0,[o 1 (.box 132 (.t 0)),mi 2 0]),(1,[mi 3 1]),(2,[mi 4 0]),(3,[m 5 4,f 6 1 1,l 7 6,ln 8 7,b 9 .lss 5 8]),(4,[m 10 4,bi 11 .add 10 1,m 4 11]),(5,[m 12 3,f 13 1 1,l 14 13,m 15 4,ix 16 8 14 15,ls 17 8 16,c 18 176 [17],b 19 .add 12 18,m 3 19]),(6,[m 20 3,m 2 20])]
theorem AeD : FnI Tryz.prog 176 Tryz.f176 21 Ak2 [.t 2] Ag9 := ⟨Tryz.func176, by kernel_rfl⟩
def Yp : List AO := [m 12 3,f 13 1 1,l 14 13,m 15 4,ix 16 8 14 15,ls 17 8 16,c 18 176 [17],b 19 .add 12 18,m 3 19]
theorem YY : TR Tryz.f176 21 5 = some Yp := by kernel_rfl
def Ak1 := co Tryz.f177 (.s (.g 0) (.s (.s (.g 1) (.s (.g 2) (.c 9 (.s (.g 3) .r) .n))) (.s (.s (.g 4) (.b 0 (.l (.s (.s (.g 5) (.c 15 .n (.x 0))) (.s (.b 1 (.s (.g 7) (.s (.g 8) (.c 25 (.s (.g 9) .r) .n)))) (.g 6)))))) (.s (.g 10) .r))))
def Ag8 : RL := [(0,[o 1 (.box 132 (.t 0)),mi 2 0]),(1,[ls 6 8 1,c 7 211 [6],m 3 7]),(2,[m 8 3,bi 9 .neq 8 0]),(3,[m 10 3,m 2 10]),(4,[mi 4 0]),(5,[m 11 4,f 12 1 1,l 13 12,ln 14 13,b 15 .lss 11 14]),(6,[m 16 4,bi 17 .add 16 1,m 4 17]),(7,[f 18 1 1,l 19 18,m 20 4,ix 21 8 19 20,ls 22 8 21,c 23 177 [22],m 5 23]),(8,[m 24 5,bi 25 .neq 24 0]),(9,[m 26 5,m 2 26]),(10,[mi 2 0])]
theorem AeC : FnI Tryz.prog 177 Tryz.f177 27 Ak1 [.t 2] Ag8 := ⟨Tryz.func177, by kernel_rfl⟩
def Ak0 := co Tryz.f179 (.s (.g 0) (.s (.g 1) .r))
def Ag7 : RL := [(0,[mi 4 0]),(1,[m 5 0,bi 6 .mul 5 10000000000,m 7 1,b 8 .add 6 7,bi 9 .rem 8 7,m 4 9])]
theorem AeB : FnI Tryz.prog 179 Tryz.f179 10 Ak0 [.t 4] Ag7 := ⟨Tryz.func179, by kernel_rfl⟩
def AkZ := co Tryz.f180 (.s (.g 0) (.s (.s (.g 1) (.s (.g 2) (.c 15 (.s (.g 3) .r) .n))) (.s (.s (.g 4) (.s (.g 5) (.c 24 (.s (.g 6) .r) .n))) (.s (.g 7) .r))))
def Ag6 : RL := [(0,[o 2 (.box 25 (.t 0)),mv 4 (.str [])]),(1,[ls 10 2 2,m 11 1,c 12 212 [10,11],m 9 12,e 13 0 9,e 14 1 9,o 5 (.alloc 212 [(.str []), (.str []), (.str []), (.int .i64 0), .nils]),st 5 5 13,m 6 14]),(2,[m 15 6]),(3,[f 16 1 5,l 17 16,m 4 17]),(4,[ls 19 2 2,m 20 1,c 21 213 [19,20],m 18 21,e 22 0 18,e 23 1 18,o 7 (.alloc 212 [(.str []), (.str []), (.str []), (.int .i64 0), .nils]),st 5 7 22,m 8 23]),(5,[m 24 8]),(6,[m 25 1,m 4 25]),(7,[mv 4 (.str [])])]
theorem AeA : FnI Tryz.prog 180 Tryz.f180 26 AkZ [.t 4] Ag6 := ⟨Tryz.func180, by kernel_rfl⟩
def AkY := co Tryz.f181 (.s (.g 0) (.s (.g 1) (.s (.g 2) (.s (.s (.g 3) (.c 35 (.s (.g 4) .r) .n)) (.s (.g 5) (.s (.g 6) .r))))))
def Ag5 : RL := [(0,[mv 7 (.bool false)]),(1,[l 13 3,m 14 0,o 15 (.look 0 true (.int .i64 0) (.t 13) (.t 14)),m 12 15,e 16 0 12,e 17 1 12,m 8 16,m 9 17]),(2,[l 19 3,m 20 1,o 21 (.look 0 true (.int .i64 0) (.t 19) (.t 20)),m 18 21,e 22 0 18,e 23 1 18,m 10 22,m 11 23]),(3,[m 24 9,nt 25 24,m 26 25,G 26 (m 27 11),G 26 (m 28 27),H 28 (m 29 10),H 28 (m 30 8),H 28 (m 31 2),H 28 (b 32 .add 30 31),H 28 (b 33 .leq 29 32),G 26 (pf 34 28 33),pt 35 26 34]),(4,[mv 7 (.bool false)]),(5,[l 36 3,m 37 1,m 38 8,m 39 2,b 40 .add 38 39,n (.mset 0 (.t 36) (.t 37) (.t 40))]),(6,[mv 7 (.bool true)])]
theorem Aez : FnI Tryz.prog 181 Tryz.f181 41 AkY [.t 7] Ag5 := ⟨Tryz.func181, by kernel_rfl⟩
def AkX := co Tryz.f182 (.s (.g 0) (.s (.g 1) .r))
def Ag4 : RL := [(0,[o 1 (.box 215 (.t 0)),mv 2 (.bool false)]),(1,[f 3 2 1,l 4 3,bi 5 .geq 4 1,m 6 5,H 6 (f 7 2 1),H 6 (l 8 7),H 6 (bi 9 .leq 8 20000),pf 10 6 9,m 2 10])]
theorem Aey : FnI Tryz.prog 182 Tryz.f182 11 AkX [.t 2] Ag4 := ⟨Tryz.func182, by kernel_rfl⟩
def AkW := co Tryz.f184 (.s (.g 0) (.s (.s (.g 1) (.c 20 (.g 2) .n)) (.s (.s (.g 3) (.c 24 (.g 4) .n)) (.s (.s (.g 5) (.c 27 (.s (.d 6) .r) .n)) (.s (.g 7) (.s (.g 8) (.s (.g 9) (.s (.g 10) (.s (.g 11) (.s (.g 12) (.s (.g 13) (.s (.g 14) (.s (.g 15) (.s (.g 16) (.s (.b 0 (.l (.s (.s (.g 17) (.c 78 .n (.x 0))) (.b 1 (.s (.g 18) (.s (.g 19) (.s (.g 20) (.c 85 (.x 0) .n)))))))) (.s (.g 21) (.s (.g 22) (.s (.g 23) (.s (.b 2 (.l (.s (.s (.g 24) (.c 113 .n (.x 2))) (.b 3 (.s (.g 25) (.s (.g 26) (.s (.g 27) (.c 120 (.x 2) .n)))))))) (.s (.g 28) .r))))))))))))))))))))
def Ag3 : RL := [(0,[mv 6 (.int .u64 0),mv 7 (.int .u64 0)]),(1,[m 19 2,o 20 (.bin .eql (.t 19) (.v (.int .u64 0)))]),(3,[m 22 2,m 23 0,b 24 .leq 22 23]),(5,[m 26 0,o 27 (.bin .eql (.t 26) (.v (.int .u64 0)))]),(6,[m 28 1,m 29 2,b 30 .quo 28 29,m 31 1,m 32 2,b 33 .rem 31 32,m 6 30,m 7 33]),(7,[m 34 2,c 35 214 [34],o 36 (.conv .u64 (.t 35)),m 8 36]),(8,[m 37 2,m 38 8,b 39 .shl 37 38,m 2 39]),(9,[m 40 2,o 41 (.bin .shr (.t 40) (.v (.int .u64 32))),m 9 41]),(10,[m 42 2,o 43 (.bin .and (.t 42) (.v (.int .u64 4294967295))),m 10 43]),(11,[m 44 0,m 45 8,b 46 .shl 44 45,m 47 1,m 48 8,o 49 (.bin .sub (.v (.int .u64 64)) (.t 48)),b 50 .shr 47 49,b 51 .or 46 50,m 11 51]),(12,[m 52 1,m 53 8,b 54 .shl 52 53,m 12 54]),(13,[m 55 12,o 56 (.bin .shr (.t 55) (.v (.int .u64 32))),m 13 56]),(14,[m 57 12,o 58 (.bin .and (.t 57) (.v (.int .u64 4294967295))),m 14 58]),(15,[m 59 11,m 60 9,b 61 .quo 59 60,m 15 61]),(16,[m 62 11,m 63 15,m 64 9,b 65 .mul 63 64,b 66 .sub 62 65,m 16 66]),(17,[m 67 15,o 68 (.bin .geq (.t 67) (.v (.int .u64 4294967296))),m 69 68,G 69 (m 70 15),G 69 (m 71 10),G 69 (b 72 .mul 70 71),G 69 (m 73 16),G 69 (o 74 (.bin .mul (.v (.int .u64 4294967296)) (.t 73))),G 69 (m 75 13),G 69 (b 76 .add 74 75),G 69 (b 77 .gtr 72 76),pt 78 69 77]),(18,[m 79 15,o 80 (.bin .sub (.t 79) (.v (.int .u64 1))),m 15 80]),(19,[m 81 16,m 82 9,b 83 .add 81 82,m 16 83]),(20,[m 84 16,o 85 (.bin .geq (.t 84) (.v (.int .u64 4294967296)))]),(21,[m 86 11,o 87 (.bin .mul (.t 86) (.v (.int .u64 4294967296))),m 88 13,b 89 .add 87 88,m 90 15,m 91 2,b 92 .mul 90 91,b 93 .sub 89 92,m 17 93]),(22,[m 94 17,m 95 9,b 96 .quo 94 95,m 18 96]),(23,[m 97 17,m 98 18,m 99 9,b 100 .mul 98 99,b 101 .sub 97 100,m 16 101]),(24,[m 102 18,o 103 (.bin .geq (.t 102) (.v (.int .u64 4294967296))),m 104 103,G 104 (m 105 18),G 104 (m 106 10),G 104 (b 107 .mul 105 106),G 104 (m 108 16),G 104 (o 109 (.bin .mul (.v (.int .u64 4294967296)) (.t 108))),G 104 (m 110 14),G 104 (b 111 .add 109 110),G 104 (b 112 .gtr 107 111),pt 113 104 112]),(25,[m 114 18,o 115 (.bin .sub (.t 114) (.v (.int .u64 1))),m 18 115]),(26,[m 116 16,m 117 9,b 118 .add 116 117,m 16 118]),(27,[m 119 16,o 120 (.bin .geq (.t 119) (.v (.int .u64 4294967296)))]),(28,[m 121 15,o 122 (.bin .mul (.t 121) (.v (.int .u64 4294967296))),m 123 18,b 124 .add 122 123,m 125 17,o 126 (.bin .mul (.t 125) (.v (.int .u64 4294967296))),m 127 14,b 128 .add 126 127,m 129 18,m 130 2,b 131 .mul 129 130,b 132 .sub 128 131,m 133 8,b 134 .shr 132 133,m 6 124,m 7 134])]
theorem Aex : FnI Tryz.prog 184 Tryz.f184 135 AkW [.t 6, .t 7] Ag3 := ⟨Tryz.func184, by kernel_rfl⟩
def TV : List AO := [m 86 11,o 87 (.bin .mul (.t 86) (.v (.int .u64 4294967296))),m 88 13,b 89 .add 87 88,m 90 15,m 91 2,b 92 .mul 90 91,b 93 .sub 89 92,m 17 93]
theorem UK : TR Tryz.f184 135 21 = some TV := by kernel_rfl
def TU : List AO := [m 121 15,o 122 (.bin .mul (.t 121) (.v (.int .u64 4294967296))),m 123 18,b 124 .add 122 123,m 125 17,o 126 (.bin .mul (.t 125) (.v (.int .u64 4294967296))),m 127 14,b 128 .add 126 127,m 129 18,m 130 2,b 131 .mul 129 130,b 132 .sub 128 131,m 133 8,b 134 .shr 132 133,m 6 124,m 7 134]
theorem UJ : TR Tryz.f184 135 28 = some TU := by kernel_rfl
def AkV := co Tryz.f187 (.s (.g 0) (.s (.g 1) (.s (.g 2) (.s (.b 0 (.l (.s (.s (.g 3) (.c 11 .n (.x 0))) (.b 1 (.s (.g 4) (.s (.g 5) (.g 6))))))) (.s (.g 7) (.b 2 (.l (.s (.s (.g 8) (.c 26 .n (.x 2))) (.b 3 (.s (.g 9) (.s (.b 4 (.l (.s (.s (.g 10) (.c 31 .n (.x 4))) (.b 5 (.s (.g 11) (.s (.g 12) (.g 13))))))) (.s (.s (.g 14) (.s (.g 15) (.c 49 (.g 16) .n))) (.g 17)))))))))))))
def Ag2 : RL := [(0,[o 2 (.box 253 (.t 0))]),(1,[mi 4 20]),(2,[m 8 4,mi 5 0,m 6 8]),(3,[m 9 6,m 10 1,b 11 .leq 9 10]),(4,[ls 12 2 2,m 13 5,m 14 6,c 15 224 [12,13,14]]),(5,[m 16 6,m 5 16]),(6,[m 17 6,m 18 4,b 19 .add 17 18,m 6 19]),(7,[ls 20 2 2,m 21 5,m 22 1,c 23 224 [20,21,22]]),(8,[m 24 4,m 25 1,b 26 .lss 24 25]),(9,[m 27 4,o 28 (.bin .mul (.v (.int .i64 2)) (.t 27)),mi 5 0,m 6 28]),(10,[m 29 6,m 30 1,b 31 .leq 29 30]),(11,[ls 32 2 2,m 33 5,m 34 5,m 35 4,b 36 .add 34 35,m 37 6,c 38 225 [32,33,36,37]]),(12,[m 39 6,m 5 39]),(13,[m 40 6,m 41 4,o 42 (.bin .mul (.v (.int .i64 2)) (.t 41)),b 43 .add 40 42,m 6 43]),(14,[m 44 5,m 45 4,b 46 .add 44 45,m 7 46]),(15,[m 47 7,m 48 1,b 49 .lss 47 48]),(16,[ls 50 2 2,m 51 5,m 52 7,m 53 1,c 54 225 [50,51,52,53]]),(17,[m 55 4,bi 56 .mul 55 2,m 4 56])]
theorem Aew : FnI Tryz.prog 187 Tryz.f187 57 AkV [] Ag2 := ⟨Tryz.func187, by kernel_rfl⟩
def AkU := co Tryz.f189 (.s (.g 0) (.s (.g 1) .r))
def Ag1 : RL := [(0,[mv 2 (.bool false)]),(1,[m 3 0,bi 4 .geq 3 (-840),m 5 4,H 5 (m 6 0),H 5 (bi 7 .leq 6 840),pf 8 5 7,m 2 8])]
theorem Aev : FnI Tryz.prog 189 Tryz.f189 9 AkU [.t 2] Ag1 := ⟨Tryz.func189, by kernel_rfl⟩
def AkT := co Tryz.f190 (.s (.g 0) (.s (.s (.g 1) (.b 0 (.l (.s (.s (.g 2) (.c 9 .n (.x 0))) (.s (.b 1 (.s (.g 4) (.c 18 (.s (.g 5) .r) .n))) (.g 3)))))) (.s (.g 6) .r)))
def Ag0 : RL := [(0,[mi 4 0]),(1,[mi 5 0]),(2,[m 6 5,m 7 0,ln 8 7,b 9 .lss 6 8]),(3,[m 10 5,bi 11 .add 10 1,m 5 11]),(4,[m 12 0,m 13 5,ix 14 2 12 13,f 15 0 14,l 16 15,m 17 1,b 18 .eql 16 17]),(5,[m 19 0,m 20 5,ix 21 2 19 20,f 22 1 21,l 23 22,m 4 23]),(6,[mi 4 (-1)])]
theorem Aeu : FnI Tryz.prog 190 Tryz.f190 24 AkT [.t 4] Ag0 := ⟨Tryz.func190, by kernel_rfl⟩
def AkS := co Tryz.f191 (.s (.g 0) (.s (.s (.g 1) (.b 0 (.l (.s (.s (.g 2) (.c 12 .n (.x 0))) (.s (.b 1 (.s (.g 4) (.c 21 (.s (.s (.g 5) (.c 28 (.s (.g 6) .r) .n)) (.s (.g 7) (.s (.g 8) .r))) .n))) (.g 3)))))) (.s (.g 9) .r)))
def AgZ : RL := [(0,[mv 6 .nils,mv 7 (.bool false)]),(1,[mi 8 0]),(2,[m 9 8,m 10 0,ln 11 10,b 12 .lss 9 11]),(3,[m 13 8,bi 14 .add 13 1,m 8 14]),(4,[m 15 0,m 16 8,ix 17 2 15 16,f 18 0 17,l 19 18,m 20 1,b 21 .eql 19 20]),(5,[m 22 0,m 23 8,ix 24 2 22 23,f 25 1 24,l 26 25,m 27 2,b 28 .leq 26 27]),(6,[m 29 0,m 6 29,mv 7 (.bool false)]),(7,[m 30 0,m 31 8,m 32 2,ix 33 2 30 31,f 34 1 33,st 1 34 32]),(8,[m 35 0,m 6 35,mv 7 (.bool true)]),(9,[m 36 0,m 37 1,m 38 2,o 39 (.build [(.str []), (.int .i64 0)] [(0, 1, (.t 37)), (1, 1, (.t 38))]),o 40 (.slc 256 2 false [(.t 39)]),o 41 (.app 256 2 24 (.t 36) (.t 40)),m 6 41,mv 7 (.bool true)])]
theorem Aet : FnI Tryz.prog 191 Tryz.f191 42 AkS [.t 6, .t 7] AgZ := ⟨Tryz.func191, by kernel_rfl⟩
def AkR := co Tryz.f196 (.s (.g 0) (.s (.s (.g 1) (.b 0 (.l (.s (.s (.g 2) (.c 9 .n (.x 0))) (.s (.b 1 (.s (.g 4) (.c 17 (.s (.g 5) .r) .n))) (.g 3)))))) (.s (.g 6) .r)))
def AgY : RL := [(0,[mv 4 (.bool false)]),(1,[mi 5 0]),(2,[m 6 5,m 7 0,ln 8 7,b 9 .lss 6 8]),(3,[m 10 5,bi 11 .add 10 1,m 5 11]),(4,[m 12 0,m 13 5,ix 14 1 12 13,l 15 14,m 16 1,b 17 .eql 15 16]),(5,[mv 4 (.bool true)]),(6,[mv 4 (.bool false)])]
theorem Aes : FnI Tryz.prog 196 Tryz.f196 18 AkR [.t 4] AgY := ⟨Tryz.func196, by kernel_rfl⟩
def AkQ := co Tryz.f211 (.s (.g 0) (.s (.s (.g 1) (.c 11 (.s (.g 2) .r) .n)) (.s (.s (.g 3) (.c 13 (.s (.g 4) .r) .n)) (.s (.s (.g 5) (.c 15 (.s (.g 6) .r) .n)) (.s (.s (.g 7) (.c 18 (.s (.g 8) .r) .n)) (.s (.s (.g 9) (.c 30 (.s (.g 10) .r) .n)) (.s (.s (.g 11) (.b 0 (.l (.s (.s (.g 12) (.c 35 .n (.x 0))) (.s (.b 1 (.s (.s (.d 14) (.c 46 (.s (.g 15) .r) .n)) (.s (.d 16) (.c 56 (.s (.g 17) .r) .n)))) (.g 13)))))) (.s (.g 18) .r))))))))
def AgX : RL := [(0,[o 1 (.box 132 (.t 0)),mi 2 0]),(1,[f 4 0 1,l 5 4,bi 6 .lss 5 1,m 7 6,G 7 (f 8 0 1),G 7 (l 9 8),G 7 (bi 10 .gtr 9 14),pt 11 7 10]),(2,[mi 2 8]),(3,[ls 12 8 1,c 13 241 [12]]),(4,[mi 2 3]),(5,[ls 14 8 1,c 15 242 [14]]),(6,[mi 2 2]),(7,[f 16 0 1,l 17 16,c 18 243 [17]]),(8,[f 19 4 1,ls 20 3 19,c 21 226 [20],m 2 21]),(9,[f 22 0 1,l 23 22,c 24 244 [23],m 25 24,H 25 (f 26 7 1),H 25 (l 27 26),H 25 (ln 28 27),H 25 (bi 29 .eql 28 0),pf 30 25 29]),(10,[mi 2 2]),(11,[mi 3 0]),(12,[m 31 3,f 32 7 1,l 33 32,ln 34 33,b 35 .lss 31 34]),(13,[m 36 3,bi 37 .add 36 1,m 3 37]),(14,[f 38 0 1,l 39 38,f 40 7 1,l 41 40,m 42 3,ix 43 1 41 42,l 44 43,c 45 245 [39,44],nt 46 45]),(15,[mi 2 5]),(16,[f 47 7 1,l 48 47,m 49 3,o 50 (.sub 1 none (some (.t 49)) none (.t 48)),f 51 7 1,l 52 51,m 53 3,ix 54 1 52 53,l 55 54,c 56 196 [50,55]]),(17,[mi 2 6]),(18,[mi 2 0])]
theorem Aer : FnI Tryz.prog 211 Tryz.f211 57 AkQ [.t 2] AgX := ⟨Tryz.func211, by kernel_rfl⟩
def AkP := co Tryz.f212 (.s (.g 0) (.s (.s (.g 1) (.b 0 (.l (.s (.g 2) (.s (.c 12 .n (.x 0)) (.s (.b 1 (.s (.g 3) (.s (.g 4) (.c 18 (.s (.g 5) .r) .n)))) (.g 6))))))) (.s (.g 7) .r)))
def AgW : RL := [(0,[o 2 (.box 25 (.t 0)),o 4 (.alloc 212 [(.str []), (.str []), (.str []), (.int .i64 0), .nils]),mv 5 (.bool false)]),(1,[f 8 0 2,l 9 8,ln 10 9,mi 11 0]),(2,[b 12 .lss 11 10]),(3,[ix 13 5 9 11,ls 14 5 13,o 7 (.alloc 212 [(.str []), (.str []), (.str []), (.int .i64 0), .nils]),st 5 7 14]),(4,[f 15 0 7,l 16 15,m 17 1,b 18 .eql 16 17]),(5,[ls 19 5 7,st 5 4 19,mv 5 (.bool true)]),(6,[bi 20 .add 11 1,m 11 20]),(7,[o 21 (.build [(.str []), (.str []), (.str []), (.int .i64 0), .nils] []),st 5 4 21,mv 5 (.bool false)])]
theorem Aeq : FnI Tryz.prog 212 Tryz.f212 22 AkP [.c (some 5) 4, .t 5] AgW := ⟨Tryz.func212, by kernel_rfl⟩
def AkO := co Tryz.f213 (.s (.g 0) (.s (.s (.g 1) (.b 0 (.l (.s (.g 2) (.s (.c 12 .n (.x 0)) (.s (.b 1 (.s (.g 3) (.s (.g 4) (.c 18 (.s (.g 5) .r) .n)))) (.g 6))))))) (.s (.g 7) .r)))
def AgV : RL := [(0,[o 2 (.box 25 (.t 0)),o 4 (.alloc 212 [(.str []), (.str []), (.str []), (.int .i64 0), .nils]),mv 5 (.bool false)]),(1,[f 8 0 2,l 9 8,ln 10 9,mi 11 0]),(2,[b 12 .lss 11 10]),(3,[ix 13 5 9 11,ls 14 5 13,o 7 (.alloc 212 [(.str []), (.str []), (.str []), (.int .i64 0), .nils]),st 5 7 14]),(4,[f 15 1 7,l 16 15,m 17 1,b 18 .eql 16 17]),(5,[ls 19 5 7,st 5 4 19,mv 5 (.bool true)]),(6,[bi 20 .add 11 1,m 11 20]),(7,[o 21 (.build [(.str []), (.str []), (.str []), (.int .i64 0), .nils] []),st 5 4 21,mv 5 (.bool false)])]
theorem Aep : FnI Tryz.prog 213 Tryz.f213 22 AkO [.c (some 5) 4, .t 5] AgV := ⟨Tryz.func213, by kernel_rfl⟩
def AkN := co Tryz.f224 (.s (.g 0) (.s (.g 1) (.b 0 (.l (.s (.s (.g 2) (.c 12 .n (.x 0))) (.s (.b 1 (.s (.g 4) (.b 2 (.l (.s (.s (.g 5) (.c 26 .n (.x 2))) (.s (.b 3 (.g 7)) (.g 6))))))) (.g 3)))))))
def AgU : RL := [(0,[o 3 (.box 253 (.t 0))]),(1,[m 8 1,bi 9 .add 8 1,m 6 9]),(2,[m 10 6,m 11 2,b 12 .lss 10 11]),(3,[m 13 6,bi 14 .add 13 1,m 6 14]),(4,[m 15 6,m 7 15]),(5,[m 16 7,m 17 1,b 18 .gtr 16 17,m 19 18,H 19 (f 20 0 3),H 19 (l 21 20),H 19 (m 22 7),H 19 (m 23 7),H 19 (bi 24 .sub 23 1),H 19 (o 25 (.callv (.t 21) [(.t 22), (.t 24)])),pf 26 19 25]),(6,[m 27 7,bi 28 .sub 27 1,m 7 28]),(7,[f 29 1 3,l 30 29,m 31 7,m 32 7,bi 33 .sub 32 1,o 34 (.callv (.t 30) [(.t 31), (.t 33)])])]
theorem Ws : FnI Tryz.prog 224 Tryz.f224 35 AkN [] AgU := ⟨Tryz.func224, by kernel_rfl⟩
def AkM := co Tryz.f225 (.s (.g 0) (.s (.s (.g 1) (.c 26 (.s (.g 2) (.s (.g 3) (.s (.b 0 (.l (.s (.s (.g 4) (.c 31 .n (.x 0))) (.b 1 (.s (.g 5) (.s (.g 6) (.c 42 (.g 7) (.g 8)))))))) (.s (.s (.g 9) (.b 2 (.l (.s (.s (.g 10) (.c 50 .n (.x 2))) (.s (.b 3 (.g 12)) (.g 11)))))) .r)))) .n)) (.s (.s (.g 13) (.c 62 (.s (.g 14) (.s (.g 15) (.s (.b 4 (.l (.s (.s (.g 16) (.c 67 .n (.x 4))) (.b 5 (.s (.g 17) (.s (.g 18) (.c 79 (.g 19) (.g 20)))))))) (.s (.s (.g 21) (.b 6 (.l (.s (.s (.g 22) (.c 86 .n (.x 6))) (.s (.b 7 (.g 24)) (.g 23)))))) .r)))) .n)) (.s (.g 25) (.s (.g 26) (.s (.g 27) (.s (.s (.g 28) (.c 106 (.s (.g 29) (.g 30)) (.s (.g 31) (.g 32)))) (.s (.g 33) (.s (.b 8 (.l (.s (.s (.g 34) (.c 117 .n (.x 8))) (.b 9 (.s (.g 35) (.s (.g 36) (.c 131 (.g 37) (.g 38)))))))) (.s (.g 39) (.s (.s (.g 40) (.c 145 (.g 41) .n)) (.s (.s (.g 42) (.c 158 (.g 43) .n)) (.s (.g 44) (.c 171 (.g 45) .n))))))))))))))
def AgT : RL := [(0,[o 4 (.box 253 (.t 0))]),(1,[m 23 2,m 24 1,b 25 .sub 23 24,bi 26 .eql 25 1]),(2,[m 27 2,m 8 27]),(3,[m 28 3,m 9 28]),(4,[m 29 8,m 30 9,b 31 .lss 29 30]),(5,[m 32 8,m 33 9,b 34 .add 32 33,o 35 (.conv .u64 (.t 34)),o 36 (.bin .shr (.t 35) (.v (.int .u64 1))),o 37 (.conv .i64 (.t 36)),m 10 37]),(6,[f 38 0 4,l 39 38,m 40 10,m 41 1,o 42 (.callv (.t 39) [(.t 40), (.t 41)])]),(7,[m 43 10,bi 44 .add 43 1,m 8 44]),(8,[m 45 10,m 9 45]),(9,[m 46 1,m 11 46]),(10,[m 47 11,m 48 8,bi 49 .sub 48 1,b 50 .lss 47 49]),(11,[m 51 11,bi 52 .add 51 1,m 11 52]),(12,[f 53 1 4,l 54 53,m 55 11,m 56 11,bi 57 .add 56 1,o 58 (.callv (.t 54) [(.t 55), (.t 57)])]),(13,[m 59 3,m 60 2,b 61 .sub 59 60,bi 62 .eql 61 1]),(14,[m 63 1,m 12 63]),(15,[m 64 2,m 13 64]),(16,[m 65 12,m 66 13,b 67 .lss 65 66]),(17,[m 68 12,m 69 13,b 70 .add 68 69,o 71 (.conv .u64 (.t 70)),o 72 (.bin .shr (.t 71) (.v (.int .u64 1))),o 73 (.conv .i64 (.t 72)),m 14 73]),(18,[f 74 0 4,l 75 74,m 76 2,m 77 14,o 78 (.callv (.t 75) [(.t 76), (.t 77)]),nt 79 78]),(19,[m 80 14,bi 81 .add 80 1,m 12 81]),(20,[m 82 14,m 13 82]),(21,[m 83 2,m 15 83]),(22,[m 84 15,m 85 12,b 86 .gtr 84 85]),(23,[m 87 15,bi 88 .sub 87 1,m 15 88]),(24,[f 89 1 4,l 90 89,m 91 15,m 92 15,bi 93 .sub 92 1,o 94 (.callv (.t 90) [(.t 91), (.t 93)])]),(25,[m 95 1,m 96 3,b 97 .add 95 96,o 98 (.conv .u64 (.t 97)),o 99 (.bin .shr (.t 98) (.v (.int .u64 1))),o 100 (.conv .i64 (.t 99)),m 16 100]),(26,[m 101 16,m 102 2,b 103 .add 101 102,m 17 103]),(27,[mi 18 0,mi 19 0]),(28,[m 104 2,m 105 16,b 106 .gtr 104 105]),(29,[m 107 17,m 108 3,b 109 .sub 107 108,m 18 109]),(30,[m 110 16,m 19 110]),(31,[m 111 1,m 18 111]),(32,[m 112 2,m 19 112]),(33,[m 113 17,bi 114 .sub 113 1,m 20 114]),(34,[m 115 18,m 116 19,b 117 .lss 115 116]),(35,[m 118 18,m 119 19,b 120 .add 118 119,o 121 (.conv .u64 (.t 120)),o 122 (.bin .shr (.t 121) (.v (.int .u64 1))),o 123 (.conv .i64 (.t 122)),m 21 123]),(36,[f 124 0 4,l 125 124,m 126 20,m 127 21,b 128 .sub 126 127,m 129 21,o 130 (.callv (.t 125) [(.t 128), (.t 129)]),nt 131 130]),(37,[m 132 21,bi 133 .add 132 1,m 18 133]),(38,[m 134 21,m 19 134]),(39,[m 135 17,m 136 18,b 137 .sub 135 136,m 22 137]),(40,[m 138 18,m 139 2,b 140 .lss 138 139,m 141 140,H 141 (m 142 2),H 141 (m 143 22),H 141 (b 144 .lss 142 143),pf 145 141 144]),(41,[ls 146 2 4,m 147 18,m 148 2,m 149 22,c 150 246 [146,147,148,149]]),(42,[m 151 1,m 152 18,b 153 .lss 151 152,m 154 153,H 154 (m 155 18),H 154 (m 156 16),H 154 (b 157 .lss 155 156),pf 158 154 157]),(43,[ls 159 2 4,m 160 1,m 161 18,m 162 16,c 163 225 [159,160,161,162]]),(44,[m 164 16,m 165 22,b 166 .lss 164 165,m 167 166,H 167 (m 168 22),H 167 (m 169 3),H 167 (b 170 .lss 168 169),pf 171 167 170]),(45,[ls 172 2 4,m 173 16,m 174 22,m 175 3,c 176 225 [172,173,174,175]])]
theorem Aeo : FnI Tryz.prog 225 Tryz.f225 177 AkM [] AgT := ⟨Tryz.func225, by kernel_rfl⟩
def AkL := co Tryz.f226 (.s (.g 0) (.s (.s (.g 1) (.c 17 (.s (.g 2) .r) .n)) (.s (.s (.g 3) (.c 23 (.s (.g 4) .r) .n)) (.s (.s (.g 5) (.c 31 (.s (.g 6) .r) .n)) (.s (.g 7) .r)))))
def AgS : RL := [(0,[o 1 (.box 82 (.t 0)),mi 2 0]),(1,[f 3 0 1,l 4 3,bi 5 .lss 4 0,m 6 5,G 6 (f 7 0 1),G 6 (l 8 7),G 6 (f 9 1 1),G 6 (l 10 9),G 6 (b 11 .gtr 8 10),pt 12 6 11,m 13 12,G 13 (f 14 1 1),G 13 (l 15 14),G 13 (bi 16 .geq 15 36525),pt 17 13 16]),(2,[mi 2 12]),(3,[f 18 1 1,l 19 18,f 20 0 1,l 21 20,b 22 .sub 19 21,bi 23 .geq 22 800]),(4,[mi 2 4]),(5,[f 24 2 1,l 25 24,bi 26 .lss 25 1,m 27 26,G 27 (f 28 2 1),G 27 (l 29 28),G 27 (bi 30 .gtr 29 127),pt 31 27 30]),(6,[mi 2 2]),(7,[mi 2 0])]
theorem Aen : FnI Tryz.prog 226 Tryz.f226 32 AkL [.t 2] AgS := ⟨Tryz.func226, by kernel_rfl⟩
end Go.Proofs.YtjkclhbckfkeeaaGreatDoor
namespace Go.Proofs.YtjkclhbckfkeeaaGreatDoor
open Go Go.RowKit X
def AkK := co Tryz.f241 (.s (.g 0) (.s (.s (.g 1) (.c 24 (.s (.g 2) .r) .n)) (.s (.g 3) .r)))
def AgR : RL := [(0,[o 1 (.box 132 (.t 0)),mv 2 (.bool false)]),(1,[f 3 0 1,l 4 3,c 5 254 [4],nt 6 5,m 7 6,H 7 (f 8 1 1),H 7 (l 9 8),H 7 (ln 10 9),H 7 (bi 11 .gtr 10 0),pf 12 7 11,m 13 12,G 13 (f 14 0 1),G 13 (l 15 14),G 13 (c 16 244 [15]),G 13 (nt 17 16),G 13 (m 18 17),H 18 (f 19 7 1),H 18 (l 20 19),H 18 (ln 21 20),H 18 (bi 22 .gtr 21 0),G 13 (pf 23 18 22),pt 24 13 23]),(2,[mv 2 (.bool true)]),(3,[f 25 0 1,l 26 25,c 27 243 [26],nt 28 27,m 29 28,H 29 (f 30 4 1),H 29 (ls 31 3 30),H 29 (o 32 (.build [(.int .i64 0), (.int .i64 0), (.int .i64 0)] [])),H 29 (o 33 (.bina [.i .i64, .i .i64, .i .i64] .neq (.t 31) (.t 32))),pf 34 29 33,m 35 34,G 35 (f 36 0 1),G 35 (l 37 36),G 35 (c 38 255 [37]),G 35 (bi 39 .lss 38 1),G 35 (m 40 39),H 40 (f 41 2 1),H 40 (l 42 41),H 40 (bi 43 .neq 42 0),G 35 (pf 44 40 43),pt 45 35 44,m 46 45,G 46 (f 47 0 1),G 46 (l 48 47),G 46 (c 49 255 [48]),G 46 (bi 50 .lss 49 2),G 46 (m 51 50),H 51 (f 52 3 1),H 51 (l 53 52),H 51 (bi 54 .neq 53 0),G 46 (pf 55 51 54),pt 56 46 55,m 2 56])]
theorem Aem : FnI Tryz.prog 241 Tryz.f241 57 AkK [.t 2] AgR := ⟨Tryz.func241, by kernel_rfl⟩
def AkJ := co Tryz.f242 (.s (.g 0) (.s (.s (.g 1) (.b 0 (.s (.s (.g 2) (.c 5 .n (.g 3))) (.c 5 (.s (.g 4) .r) (.s (.g 5) (.c 12 (.s (.g 6) .r) (.s (.g 7) (.c 18 (.s (.g 8) .r) (.s (.g 9) (.c 28 (.s (.g 10) .r) (.s (.s (.g 11) (.c 48 .n (.g 12))) (.c 48 (.s (.g 13) .r) (.s (.g 14) (.c 59 (.s (.g 15) .r) .n)))))))))))))) (.s (.g 16) .r)))
def AgQ : RL := [(0,[o 1 (.box 132 (.t 0)),mv 2 (.bool false)]),(1,[f 3 0 1,l 4 3]),(2,[bi 6 .eql 4 2,m 5 6]),(3,[bi 7 .eql 4 3,m 5 7]),(4,[f 8 1 1,l 9 8,ln 10 9,bi 11 .eql 10 0,m 2 11]),(5,[bi 13 .eql 4 4,m 12 13]),(6,[f 14 1 1,l 15 14,ln 16 15,bi 17 .neq 16 1,m 2 17]),(7,[bi 19 .eql 4 7,m 18 19]),(8,[f 20 2 1,l 21 20,bi 22 .lss 21 0,m 23 22,G 23 (f 24 2 1),G 23 (l 25 24),G 23 (bi 26 .geq 25 36525),pt 27 23 26,m 2 27]),(9,[bi 29 .eql 4 8,m 28 29]),(10,[f 30 2 1,l 31 30,bi 32 .lss 31 0,m 33 32,G 33 (f 34 2 1),G 33 (l 35 34),G 33 (bi 36 .geq 35 1440),pt 37 33 36,m 38 37,G 38 (f 39 3 1),G 38 (l 40 39),G 38 (bi 41 .lss 40 0),pt 42 38 41,m 43 42,G 43 (f 44 3 1),G 43 (l 45 44),G 43 (bi 46 .geq 45 1440),pt 47 43 46,m 2 47]),(11,[bi 49 .eql 4 9,m 48 49]),(12,[bi 50 .eql 4 10,m 48 50]),(13,[f 51 2 1,l 52 51,bi 53 .lss 52 0,m 54 53,G 54 (f 55 2 1),G 54 (l 56 55),G 54 (bi 57 .gtr 56 6),pt 58 54 57,m 2 58]),(14,[bi 60 .eql 4 12,m 59 60]),(15,[f 61 2 1,l 62 61,bi 63 .lss 62 1,m 64 63,G 64 (f 65 2 1),G 64 (l 66 65),G 64 (f 67 3 1),G 64 (l 68 67),G 64 (b 69 .gtr 66 68),pt 70 64 69,m 71 70,G 71 (f 72 3 1),G 71 (l 73 72),G 71 (bi 74 .gtr 73 9999),pt 75 71 74,m 2 75]),(16,[mv 2 (.bool false)])]
theorem Ael : FnI Tryz.prog 242 Tryz.f242 76 AkJ [.t 2] AgQ := ⟨Tryz.func242, by kernel_rfl⟩
def AkI := co Tryz.f243 (.s (.g 0) (.s (.g 1) .r))
def AgP : RL := [(0,[mv 2 (.bool false)]),(1,[m 3 0,bi 4 .eql 3 5,m 5 4,G 5 (m 6 0),G 5 (bi 7 .eql 6 6),pt 8 5 7,m 2 8])]
theorem Aek : FnI Tryz.prog 243 Tryz.f243 9 AkI [.t 2] AgP := ⟨Tryz.func243, by kernel_rfl⟩
def AkH := co Tryz.f244 (.s (.g 0) (.s (.g 1) .r))
def AgO : RL := [(0,[mv 2 (.bool false)]),(1,[m 3 0,bi 4 .eql 3 11,m 5 4,G 5 (m 6 0),G 5 (bi 7 .eql 6 13),pt 8 5 7,m 9 8,G 9 (m 10 0),G 9 (bi 11 .eql 10 14),pt 12 9 11,m 2 12])]
theorem Aej : FnI Tryz.prog 244 Tryz.f244 13 AkH [.t 2] AgO := ⟨Tryz.func244, by kernel_rfl⟩
def AkG := co Tryz.f245 (.s (.g 0) (.s (.s (.g 1) (.c 6 (.s (.g 2) .r) .n)) (.s (.s (.g 3) (.c 10 (.s (.g 4) .r) .n)) (.s (.g 5) .r))))
def AgN : RL := [(0,[mv 4 (.bool false)]),(1,[m 5 0,bi 6 .eql 5 11]),(2,[m 7 1,c 8 123 [7],m 4 8]),(3,[m 9 0,bi 10 .eql 9 13]),(4,[m 11 1,c 12 129 [11],m 4 12]),(5,[m 13 1,o 14 (.call 23 [(.t 13), (.v (.int .i64 3)), (.v (.int .i64 3))]),m 4 14])]
theorem Aei : FnI Tryz.prog 245 Tryz.f245 15 AkG [.t 4] AgN := ⟨Tryz.func245, by kernel_rfl⟩
def AkF := co Tryz.f246 (.s (.g 0) (.s (.g 1) (.s (.g 2) (.s (.b 0 (.l (.s (.s (.g 3) (.c 18 .n (.x 0))) (.b 1 (.s (.g 4) (.c 21 (.s (.g 5) (.g 6)) (.s (.g 7) (.g 8)))))))) (.g 9)))))
def AgM : RL := [(0,[o 4 (.box 253 (.t 0))]),(1,[m 10 2,m 11 1,b 12 .sub 10 11,m 8 12]),(2,[m 13 3,m 14 2,b 15 .sub 13 14,m 9 15]),(3,[m 16 8,m 17 9,b 18 .neq 16 17]),(4,[m 19 8,m 20 9,b 21 .gtr 19 20]),(5,[ls 22 2 4,m 23 2,m 24 8,b 25 .sub 23 24,m 26 2,m 27 9,c 28 256 [22,25,26,27]]),(6,[m 29 8,m 30 9,b 31 .sub 29 30,m 8 31]),(7,[ls 32 2 4,m 33 2,m 34 8,b 35 .sub 33 34,m 36 2,m 37 9,b 38 .add 36 37,m 39 8,b 40 .sub 38 39,m 41 8,c 42 256 [32,35,40,41]]),(8,[m 43 9,m 44 8,b 45 .sub 43 44,m 9 45]),(9,[ls 46 2 4,m 47 2,m 48 8,b 49 .sub 47 48,m 50 2,m 51 8,c 52 256 [46,49,50,51]])]
theorem Aeh : FnI Tryz.prog 246 Tryz.f246 53 AkF [] AgM := ⟨Tryz.func246, by kernel_rfl⟩
def AkE := co Tryz.f254 (.s (.g 0) (.s (.g 1) .r))
def AgL : RL := [(0,[mv 2 (.bool false)]),(1,[m 3 0,bi 4 .eql 3 2,m 5 4,G 5 (m 6 0),G 5 (bi 7 .eql 6 3),pt 8 5 7,m 9 8,G 9 (m 10 0),G 9 (bi 11 .eql 10 4),pt 12 9 11,m 2 12])]
theorem Aeg : FnI Tryz.prog 254 Tryz.f254 13 AkE [.t 2] AgL := ⟨Tryz.func254, by kernel_rfl⟩
def AkD := co Tryz.f255 (.s (.g 0) (.s (.s (.g 1) (.c 8 (.s (.g 2) .r) .n)) (.s (.s (.g 3) (.c 18 (.s (.g 4) .r) .n)) (.s (.g 5) .r))))
def AgK : RL := [(0,[mi 2 0]),(1,[m 3 0,bi 4 .eql 3 8,m 5 4,G 5 (m 6 0),G 5 (bi 7 .eql 6 12),pt 8 5 7]),(2,[mi 2 2]),(3,[m 9 0,bi 10 .eql 9 7,m 11 10,G 11 (m 12 0),G 11 (bi 13 .eql 12 9),pt 14 11 13,m 15 14,G 15 (m 16 0),G 15 (bi 17 .eql 16 10),pt 18 15 17]),(4,[mi 2 1]),(5,[mi 2 0])]
theorem Aef : FnI Tryz.prog 255 Tryz.f255 19 AkD [.t 2] AgK := ⟨Tryz.func255, by kernel_rfl⟩
def AkC := co Tryz.f256 (.s (.g 0) (.s (.g 1) (.b 0 (.l (.s (.s (.g 2) (.c 11 .n (.x 0))) (.s (.b 1 (.g 4)) (.g 3)))))))
def AgJ : RL := [(0,[o 4 (.box 253 (.t 0))]),(1,[mi 8 0]),(2,[m 9 8,m 10 3,b 11 .lss 9 10]),(3,[m 12 8,bi 13 .add 12 1,m 8 13]),(4,[f 14 1 4,l 15 14,m 16 1,m 17 8,b 18 .add 16 17,m 19 2,m 20 8,b 21 .add 19 20,o 22 (.callv (.t 15) [(.t 18), (.t 21)])])]
theorem Aee : FnI Tryz.prog 256 Tryz.f256 23 AkC [] AgJ := ⟨Tryz.func256, by kernel_rfl⟩
end Go.Proofs.YtjkclhbckfkeeaaGreatDoor
namespace Go.Proofs
open Go.Shelf
def Tryz.lays134_ren : Go.Shelf.Ren := ⟨fun | 134 => 214 | 129 => 237 | n => n, fun | 53 => 189 | 3 => 3 | 4 => 4 | 46 => 278 | 5 => 5 | 9 => 9 | n => n, fun | n => n⟩
theorem Tryz.lays134 : Go.Proofs.Lays.n134 Tryz.prog Tryz.lays134_ren := {
 mixed := by kernel_rfl
 f129 := Tryz.func237.trans (congrArg some (by kernel_rfl))
 f134 := Tryz.func214.trans (congrArg some (by kernel_rfl))
 t3 := Tryz.underlying3
 a3 := Tryz.isAgg3
 z3 := Tryz.sizeOf3
 v3 := Tryz.zeroValue3
 t4 := Tryz.underlying4
 a4 := Tryz.isAgg4
 z4 := Tryz.sizeOf4
 v4 := Tryz.zeroValue4
 t5 := Tryz.underlying5
 a5 := Tryz.isAgg5
 z5 := Tryz.sizeOf5
 v5 := Tryz.zeroValue5
 t9 := Tryz.underlying9
 a9 := Tryz.isAgg9
 z9 := Tryz.sizeOf9
 v9 := Tryz.zeroValue9
 t46 := Tryz.underlying278
 a46 := Tryz.isAgg278
 z46 := Tryz.sizeOf278
 v46 := Tryz.zeroValue278
 t53 := Tryz.underlying189
 a53 := Tryz.isAgg189
 z53 := Tryz.sizeOf189
 v53 := Tryz.zeroValue189 }
theorem Tryz.bits_LeadingZeros64 (x : Int) (w : World) (h0 : 0 ≤ x) (h1 : x ≤ 18446744073709551615) :
  Calls Tryz.prog 214 #[.int .u64 x] w fun e w' => e = .returned (.int .i64 (64 - (Lib.bitLen x.toNat : Int))) ∧ w' = w := Any.bits_LeadingZeros64 Tryz.lays134 x w h0 h1
def Tryz.lays137_ren : Go.Shelf.Ren := ⟨fun | 137 => 171 | 217 => 203 | 266 => 231 | n => n, fun | 9 => 9 | 5 => 5 | 3 => 3 | n => n, fun | n => n⟩
theorem Tryz.lays137 : Go.Proofs.Lays.n137 Tryz.prog Tryz.lays137_ren := {
 mixed := by kernel_rfl
 f137 := Tryz.func171.trans (congrArg some (by kernel_rfl))
 f217 := Tryz.func203.trans (congrArg some (by kernel_rfl))
 f266 := Tryz.func231.trans (congrArg some (by kernel_rfl))
 t3 := Tryz.underlying3
 a3 := Tryz.isAgg3
 z3 := Tryz.sizeOf3
 v3 := Tryz.zeroValue3
 t5 := Tryz.underlying5
 a5 := Tryz.isAgg5
 z5 := Tryz.sizeOf5
 v5 := Tryz.zeroValue5
 t9 := Tryz.underlying9
 a9 := Tryz.isAgg9
 z9 := Tryz.sizeOf9
 v9 := Tryz.zeroValue9 }
open Go.RowKit in
theorem Tryz.strings_IndexByte (s : ByteArray) (c : Int) (w : World) :
  Calls Tryz.prog 171 #[.string s, .int .u8 c] w fun e w' => e = .returned (.int .i64 (Lib.indexByte s.data.toList c.toNat.toUInt8)) ∧ w' = w := Any.strings_IndexByte Tryz.lays137 s c w
def Tryz.laysM171_ren : Go.Shelf.Ren := ⟨fun | 171 => 66 | 243 => 122 | 246 => 174 | 283 => 207 | 284 => 208 | 285 => 209 | 286 => 210 | 129 => 237 | 317 => 236 | 318 => 238 | 319 => 239 | 320 => 240 | 337 => 252 | 338 => 253 | n => n, fun | 3 => 3 | 9 => 9 | 2 => 2 | 4 => 4 | 171 => 273 | 0 => 0 | 53 => 189 | 37 => 196 | 5 => 5 | 173 => 276 | 212 => 292 | 51 => 293 | 20 => 20 | 213 => 294 | 46 => 278 | 232 => 305 | 233 => 306 | n => n, fun | 17 => 3 | 18 => 7 | 19 => 8 | n => n⟩
theorem Tryz.laysM171 : Go.Proofs.LaysM.n171 Tryz.prog Tryz.laysM171_ren := {
 mixed := by kernel_rfl
 f129 := Tryz.func237.trans (congrArg some (by kernel_rfl))
 f171 := Tryz.func66.trans (congrArg some (by kernel_rfl))
 f243 := Tryz.func122.trans (congrArg some (by kernel_rfl))
 f246 := Tryz.func174.trans (congrArg some (by kernel_rfl))
 f283 := Tryz.func207.trans (congrArg some (by kernel_rfl))
 f284 := Tryz.func208.trans (congrArg some (by kernel_rfl))
 f285 := Tryz.func209.trans (congrArg some (by kernel_rfl))
 f286 := Tryz.func210.trans (congrArg some (by kernel_rfl))
 f317 := Tryz.func236.trans (congrArg some (by kernel_rfl))
 f318 := Tryz.func238.trans (congrArg some (by kernel_rfl))
 f319 := Tryz.func239.trans (congrArg some (by kernel_rfl))
 f320 := Tryz.func240.trans (congrArg some (by kernel_rfl))
 f337 := Tryz.func252.trans (congrArg some (by kernel_rfl))
 f338 := Tryz.func253.trans (congrArg some (by kernel_rfl))
 t0 := Tryz.underlying0
 a0 := Tryz.isAgg0
 z0 := Tryz.sizeOf0
 v0 := Tryz.zeroValue0
 t2 := Tryz.underlying2
 a2 := Tryz.isAgg2
 z2 := Tryz.sizeOf2
 v2 := Tryz.zeroValue2
 t3 := Tryz.underlying3
 a3 := Tryz.isAgg3
 z3 := Tryz.sizeOf3
 v3 := Tryz.zeroValue3
 t4 := Tryz.underlying4
 a4 := Tryz.isAgg4
 z4 := Tryz.sizeOf4
 v4 := Tryz.zeroValue4
 t5 := Tryz.underlying5
 a5 := Tryz.isAgg5
 z5 := Tryz.sizeOf5
 v5 := Tryz.zeroValue5
 t9 := Tryz.underlying9
 a9 := Tryz.isAgg9
 z9 := Tryz.sizeOf9
 v9 := Tryz.zeroValue9
 t20 := Tryz.underlying20
 a20 := Tryz.isAgg20
 z20 := Tryz.sizeOf20
 v20 := Tryz.zeroValue20
 t37 := Tryz.underlying196
 a37 := Tryz.isAgg196
 z37 := Tryz.sizeOf196
 v37 := Tryz.zeroValue196
 t46 := Tryz.underlying278
 a46 := Tryz.isAgg278
 z46 := Tryz.sizeOf278
 v46 := Tryz.zeroValue278
 t51 := Tryz.underlying293
 a51 := Tryz.isAgg293
 z51 := Tryz.sizeOf293
 v51 := Tryz.zeroValue293
 t53 := Tryz.underlying189
 a53 := Tryz.isAgg189
 z53 := Tryz.sizeOf189
 v53 := Tryz.zeroValue189
 t171 := Tryz.underlying273
 a171 := Tryz.isAgg273
 z171 := Tryz.sizeOf273
 v171 := Tryz.zeroValue273
 t173 := Tryz.underlying276
 a173 := Tryz.isAgg276
 z173 := Tryz.sizeOf276
 v173 := Tryz.zeroValue276
 t212 := Tryz.underlying292
 a212 := Tryz.isAgg292
 z212 := Tryz.sizeOf292
 v212 := Tryz.zeroValue292
 t213 := Tryz.underlying294
 a213 := Tryz.isAgg294
 z213 := Tryz.sizeOf294
 t232 := Tryz.underlying305
 a232 := Tryz.isAgg305
 z232 := Tryz.sizeOf305
 v232 := Tryz.zeroValue305
 t233 := Tryz.underlying306
 a233 := Tryz.isAgg306
 z233 := Tryz.sizeOf306
 v233 := Tryz.zeroValue306
 g17 := by kernel_rfl
 g18 := by kernel_rfl
 g19 := by kernel_rfl
 i0 := by kernel_rfl
 i2 := by kernel_rfl
 i3 := by kernel_rfl
 i4 := by kernel_rfl
 i5 := by kernel_rfl
 i9 := by kernel_rfl
 i20 := by kernel_rfl
 i37 := by kernel_rfl
 i46 := by kernel_rfl
 i51 := by kernel_rfl
 i53 := by kernel_rfl
 i171 := by kernel_rfl
 i173 := by kernel_rfl
 i212 := by kernel_rfl
 i232 := by kernel_rfl
 i233 := by kernel_rfl
 m17 := by kernel_rfl
 m18 := by kernel_rfl
 m19 := by kernel_rfl }
open Go.RowKit Go.Sort Go.Lib in
theorem Tryz.strconv_Itoa (n : Int) (h0 : -9223372036854775808 ≤ n) (h1 : n ≤ 9223372036854775807) (w : World) (htab : Lib.TabIs Tryz.prog w "internal/strconv.uint64pow10" .u64 Lib.pow10Tab) :
  Calls Tryz.prog 66 #[.int .i64 n] w fun e w' => e = .returned (.string ⟨(Lib.itoa n).toArray⟩) ∧ ∃ k os, w' = grow (w.drewN k) os := Any.strconv_Itoa Tryz.laysM171 n h0 h1 w htab
def Tryz.lays143_ren : Go.Shelf.Ren := ⟨fun | 143 => 206 | 219 => 235 | 217 => 203 | 225 => 249 | 224 => 250 | 267 => 251 | 266 => 231 | 314 => 257 | n => n, fun | 9 => 9 | 3 => 3 | 4 => 4 | 5 => 5 | 46 => 278 | 146 => 303 | 51 => 293 | n => n, fun | 1 => 4 | n => n⟩
theorem Tryz.lays143 : Go.Proofs.Lays.n143 Tryz.prog Tryz.lays143_ren := {
 mixed := by kernel_rfl
 f143 := Tryz.func206.trans (congrArg some (by kernel_rfl))
 f217 := Tryz.func203.trans (congrArg some (by kernel_rfl))
 f219 := Tryz.func235.trans (congrArg some (by kernel_rfl))
 f224 := Tryz.func250.trans (congrArg some (by kernel_rfl))
 f225 := Tryz.func249.trans (congrArg some (by kernel_rfl))
 f266 := Tryz.func231.trans (congrArg some (by kernel_rfl))
 f267 := Tryz.func251.trans (congrArg some (by kernel_rfl))
 f314 := Tryz.func257.trans (congrArg some (by kernel_rfl))
 t3 := Tryz.underlying3
 a3 := Tryz.isAgg3
 z3 := Tryz.sizeOf3
 v3 := Tryz.zeroValue3
 t4 := Tryz.underlying4
 a4 := Tryz.isAgg4
 z4 := Tryz.sizeOf4
 v4 := Tryz.zeroValue4
 t5 := Tryz.underlying5
 a5 := Tryz.isAgg5
 z5 := Tryz.sizeOf5
 v5 := Tryz.zeroValue5
 t9 := Tryz.underlying9
 a9 := Tryz.isAgg9
 z9 := Tryz.sizeOf9
 v9 := Tryz.zeroValue9
 t46 := Tryz.underlying278
 a46 := Tryz.isAgg278
 z46 := Tryz.sizeOf278
 v46 := Tryz.zeroValue278
 t51 := Tryz.underlying293
 a51 := Tryz.isAgg293
 z51 := Tryz.sizeOf293
 v51 := Tryz.zeroValue293
 t146 := Tryz.underlying303
 a146 := Tryz.isAgg303
 z146 := Tryz.sizeOf303
 v146 := Tryz.zeroValue303
 g1 := by kernel_rfl }
open Go.RowKit Go.Lib in
theorem Tryz.strings_Index_one (s : ByteArray) (c : UInt8) (w : World) :
  Calls Tryz.prog 206 #[.string s, .string ⟨#[c]⟩] w fun e w' => e = .returned (.int .i64 (Lib.indexByte s.data.toList c)) ∧ w' = w := Any.strings_Index_one Tryz.lays143 s c w
def Tryz.lays138_ren : Go.Shelf.Ren := ⟨fun | 138 => 205 | 195 => 232 | 218 => 234 | 143 => 206 | 219 => 235 | 217 => 203 | 225 => 249 | 224 => 250 | 267 => 251 | 266 => 231 | 314 => 257 | n => n, fun | 9 => 9 | 3 => 3 | 4 => 4 | 5 => 5 | 0 => 0 | 46 => 278 | 146 => 303 | 51 => 293 | n => n, fun | 1 => 4 | n => n⟩
theorem Tryz.lays138 : Go.Proofs.Lays.n138 Tryz.prog Tryz.lays138_ren := {
 mixed := by kernel_rfl
 f138 := Tryz.func205.trans (congrArg some (by kernel_rfl))
 f143 := Tryz.func206.trans (congrArg some (by kernel_rfl))
 f195 := Tryz.func232.trans (congrArg some (by kernel_rfl))
 f217 := Tryz.func203.trans (congrArg some (by kernel_rfl))
 f218 := Tryz.func234.trans (congrArg some (by kernel_rfl))
 f219 := Tryz.func235.trans (congrArg some (by kernel_rfl))
 f224 := Tryz.func250.trans (congrArg some (by kernel_rfl))
 f225 := Tryz.func249.trans (congrArg some (by kernel_rfl))
 f266 := Tryz.func231.trans (congrArg some (by kernel_rfl))
 f267 := Tryz.func251.trans (congrArg some (by kernel_rfl))
 f314 := Tryz.func257.trans (congrArg some (by kernel_rfl))
 t0 := Tryz.underlying0
 a0 := Tryz.isAgg0
 z0 := Tryz.sizeOf0
 v0 := Tryz.zeroValue0
 t3 := Tryz.underlying3
 a3 := Tryz.isAgg3
 z3 := Tryz.sizeOf3
 v3 := Tryz.zeroValue3
 t4 := Tryz.underlying4
 a4 := Tryz.isAgg4
 z4 := Tryz.sizeOf4
 v4 := Tryz.zeroValue4
 t5 := Tryz.underlying5
 a5 := Tryz.isAgg5
 z5 := Tryz.sizeOf5
 v5 := Tryz.zeroValue5
 t9 := Tryz.underlying9
 a9 := Tryz.isAgg9
 z9 := Tryz.sizeOf9
 v9 := Tryz.zeroValue9
 t46 := Tryz.underlying278
 a46 := Tryz.isAgg278
 z46 := Tryz.sizeOf278
 v46 := Tryz.zeroValue278
 t51 := Tryz.underlying293
 a51 := Tryz.isAgg293
 z51 := Tryz.sizeOf293
 v51 := Tryz.zeroValue293
 t146 := Tryz.underlying303
 a146 := Tryz.isAgg303
 z146 := Tryz.sizeOf303
 v146 := Tryz.zeroValue303
 g1 := by kernel_rfl }
open Go.RowKit Go.Lib in
theorem Tryz.strings_Count_one (s : ByteArray) (c : UInt8) (w : World) :
  Calls Tryz.prog 205 #[.string s, .string ⟨#[c]⟩] w fun e w' => e = .returned (.int .i64 (Lib.countByte s.data.toList c)) ∧ w' = w := Any.strings_Count_one Tryz.lays138 s c w
def Tryz.laysGt8_ren : Go.Shelf.Ren := ⟨fun | 8 => 144 | 13 => 185 | 14 => 186 | 16 => 188 | 15 => 187 | 29 => 224 | 30 => 225 | 42 => 246 | 49 => 256 | n => n, fun | 20 => 20 | 26 => 198 | 36 => 248 | 0 => 0 | 38 => 205 | 42 => 253 | 3 => 3 | 4 => 4 | 47 => 278 | 17 => 17 | 33 => 245 | 34 => 246 | 89 => 321 | 12 => 12 | 56 => 293 | 82 => 314 | 5 => 5 | 83 => 315 | 84 => 316 | 85 => 317 | 86 => 318 | 87 => 319 | n => n, fun | n => n⟩
theorem Tryz.laysGt8 : Go.Proofs.LaysGt.n8 Tryz.prog Tryz.laysGt8_ren := {
 mixed := by kernel_rfl
 f8 := Tryz.func144.trans (congrArg some (by kernel_rfl))
 f13 := Tryz.func185.trans (congrArg some (by kernel_rfl))
 f14 := Tryz.func186.trans (congrArg some (by kernel_rfl))
 f15 := Tryz.func187.trans (congrArg some (by kernel_rfl))
 f16 := Tryz.func188.trans (congrArg some (by kernel_rfl))
 f29 := Tryz.func224.trans (congrArg some (by kernel_rfl))
 f30 := Tryz.func225.trans (congrArg some (by kernel_rfl))
 f42 := Tryz.func246.trans (congrArg some (by kernel_rfl))
 f49 := Tryz.func256.trans (congrArg some (by kernel_rfl))
 t0 := Tryz.underlying0
 a0 := Tryz.isAgg0
 z0 := Tryz.sizeOf0
 v0 := Tryz.zeroValue0
 i0 := by kernel_rfl
 t3 := Tryz.underlying3
 a3 := Tryz.isAgg3
 z3 := Tryz.sizeOf3
 v3 := Tryz.zeroValue3
 i3 := by kernel_rfl
 t4 := Tryz.underlying4
 a4 := Tryz.isAgg4
 z4 := Tryz.sizeOf4
 v4 := Tryz.zeroValue4
 i4 := by kernel_rfl
 t5 := Tryz.underlying5
 a5 := Tryz.isAgg5
 z5 := Tryz.sizeOf5
 v5 := Tryz.zeroValue5
 i5 := by kernel_rfl
 t12 := Tryz.underlying12
 a12 := Tryz.isAgg12
 z12 := Tryz.sizeOf12
 v12 := Tryz.zeroValue12
 i12 := by kernel_rfl
 t17 := Tryz.underlying17
 a17 := Tryz.isAgg17
 z17 := Tryz.sizeOf17
 v17 := Tryz.zeroValue17
 i17 := by kernel_rfl
 t20 := Tryz.underlying20
 a20 := Tryz.isAgg20
 z20 := Tryz.sizeOf20
 v20 := Tryz.zeroValue20
 i20 := by kernel_rfl
 t26 := Tryz.underlying198
 a26 := Tryz.isAgg198
 z26 := Tryz.sizeOf198
 v26 := Tryz.zeroValue198
 i26 := by kernel_rfl
 t33 := Tryz.underlying245
 a33 := Tryz.isAgg245
 z33 := Tryz.sizeOf245
 v33 := Tryz.zeroValue245
 i33 := by kernel_rfl
 t34 := Tryz.underlying246
 a34 := Tryz.isAgg246
 z34 := Tryz.sizeOf246
 v34 := Tryz.zeroValue246
 i34 := by kernel_rfl
 t36 := Tryz.underlying248
 a36 := Tryz.isAgg248
 z36 := Tryz.sizeOf248
 v36 := Tryz.zeroValue248
 i36 := by kernel_rfl
 t38 := Tryz.underlying205
 a38 := Tryz.isAgg205
 z38 := Tryz.sizeOf205
 v38 := Tryz.zeroValue205
 i38 := by kernel_rfl
 t42 := Tryz.underlying253
 a42 := Tryz.isAgg253
 z42 := Tryz.sizeOf253
 v42 := Tryz.zeroValue253
 i42 := by kernel_rfl
 t47 := Tryz.underlying278
 a47 := Tryz.isAgg278
 z47 := Tryz.sizeOf278
 v47 := Tryz.zeroValue278
 i47 := by kernel_rfl
 t56 := Tryz.underlying293
 a56 := Tryz.isAgg293
 z56 := Tryz.sizeOf293
 v56 := Tryz.zeroValue293
 i56 := by kernel_rfl
 t82 := Tryz.underlying314
 a82 := Tryz.isAgg314
 z82 := Tryz.sizeOf314
 v82 := Tryz.zeroValue314
 i82 := by kernel_rfl
 t83 := Tryz.underlying315
 a83 := Tryz.isAgg315
 z83 := Tryz.sizeOf315
 v83 := Tryz.zeroValue315
 i83 := by kernel_rfl
 t84 := Tryz.underlying316
 a84 := Tryz.isAgg316
 z84 := Tryz.sizeOf316
 v84 := Tryz.zeroValue316
 i84 := by kernel_rfl
 t85 := Tryz.underlying317
 a85 := Tryz.isAgg317
 z85 := Tryz.sizeOf317
 v85 := Tryz.zeroValue317
 i85 := by kernel_rfl
 t86 := Tryz.underlying318
 a86 := Tryz.isAgg318
 z86 := Tryz.sizeOf318
 v86 := Tryz.zeroValue318
 i86 := by kernel_rfl
 t87 := Tryz.underlying319
 a87 := Tryz.isAgg319
 z87 := Tryz.sizeOf319
 v87 := Tryz.zeroValue319
 i87 := by kernel_rfl
 t89 := Tryz.underlying321
 a89 := Tryz.isAgg321
 z89 := Tryz.sizeOf321
 v89 := Tryz.zeroValue321
 i89 := by kernel_rfl }
def Tryz.lays264_ren : Go.Shelf.Ren := ⟨fun | 264 => 183 | n => n, fun | 53 => 189 | 46 => 278 | n => n, fun | n => n⟩
theorem Tryz.lays264 : Go.Proofs.Lays.n264 Tryz.prog Tryz.lays264_ren := {
 mixed := by kernel_rfl
 f264 := Tryz.func183.trans (congrArg some (by kernel_rfl))
 t46 := Tryz.underlying278
 a46 := Tryz.isAgg278
 z46 := Tryz.sizeOf278
 v46 := Tryz.zeroValue278
 t53 := Tryz.underlying189
 a53 := Tryz.isAgg189
 z53 := Tryz.sizeOf189
 v53 := Tryz.zeroValue189 }
open Go.RowKit Go.Lib in
theorem Tryz.bits_Mul64 (x y : Nat) (hx : x < 18446744073709551616) (hy : y < 18446744073709551616) (w : World) :
  Calls Tryz.prog 183 #[.int .u64 x, .int .u64 y] w fun e w' => e = .returned (.tuple #[.int .u64 ((x * y / 18446744073709551616 : Nat) : Int), .int .u64 ((x * y % 18446744073709551616 : Nat) : Int)]) ∧ w' = w := Any.bits_Mul64 Tryz.lays264 x y hx hy w
end Go.Proofs
namespace Go.Proofs.YtjkclhbckfkeeaaGreatDoor
open Go Go.RowKit
abbrev AbI (w : World) : Prop := Lib.TabIs Tryz.prog w "internal/strconv.uint64pow10" .u64 Lib.pow10Tab
theorem Ah7 : Tryz.prog.globalNamed "internal/strconv.uint64pow10" = some 3 := by kernel_rfl
theorem Ql (w w' : World) (h : w'.heap[(3 : Nat)]? = w.heap[(3 : Nat)]?) (hB : AbI w) : AbI w' := by
 unfold AbI Lib.TabIs World.var? at hB ⊢
 rw [Ah7] at hB ⊢
 simp only [Option.bind_some] at hB ⊢
 rw [h]
 exact hB
def UT : Tbl := ⟨AbI, fun b => b = 3, fun w w' h hB => Ql w w' (h _ rfl) hB⟩
abbrev PU (f : Nat) (g : List V → Prop × V) : Prop := Ao Tryz.prog UT f g
theorem utW {w : World} (h : UT.B w) : AbI w := h
def capB (c : Int) : Bool := decide (65 ≤ c) && decide (c ≤ 90)
def digB (c : Int) : Bool := decide (48 ≤ c) && decide (c ≤ 57)
def Yg (c : Int) : Bool := capB c || digB c
def HV (p : Int → Bool) (l : List UInt8) : Bool := l.all fun c => p (c.toNat : Int)
def Dt (l : List UInt8) (lo hi : Int) : Bool := decide (lo ≤ (l.length : Int)) && decide ((l.length : Int) ≤ hi) && HV Yg l
def DY (l : List UInt8) : Bool := decide ((l.length : Int) = 1) && HV capB l
def dec (n : Int) : List UInt8 := Lib.itoa n
theorem HU {p : Int → Bool} {s : List UInt8} {i : Nat} (h : i < s.length) (ht : HV p (s.take i) = true) (hp : p ((s.getD i 0).toNat : Int) = true) : HV p (s.take (i + 1)) = true := by
 rw [List.take_succ_eq_append_getElem h]
 rw [List.getD_eq_getElem?_getD, List.getElem?_eq_getElem h] at hp
 simp only [HV, List.all_append, List.all_cons, List.all_nil, Bool.and_true, Bool.and_eq_true] at ht ⊢
 exact ⟨ht, hp⟩
theorem MC {p : Int → Bool} {s : List UInt8} {i : Nat} (h : i < s.length) (hp : p ((s.getD i 0).toNat : Int) = false) : HV p s = false := by
 rw [List.getD_eq_getElem?_getD, List.getElem?_eq_getElem h] at hp
 unfold HV
 rw [List.all_eq_false]
 exact ⟨s[i], List.getElem_mem h, by simpa using hp⟩
theorem JM {p : Int → Bool} {s : List UInt8} {i : Nat} (h : ¬ i < s.length) (ht : HV p (s.take i) = true) : HV p s = true := by
 rwa [List.take_of_length_le (by omega)] at ht
theorem Tg (s : List UInt8) : (decide ((s.length : Int) = 1) && capB ((s.getD 0 0).toNat : Int)) = DY s := by
 unfold DY HV
 match s with
 | [] => rfl
 | [x] => simp
 | x :: y :: l =>
  have h : ¬ (((x :: y :: l).length : Int) = 1) := by simp only [List.length_cons]; omega
  rw [decide_eq_false h, Bool.false_and, Bool.false_and]
def dch (d : Nat) : UInt8 := UInt8.ofNat (48 + d)
def Agy : List UInt8 := [48, 49, 50, 51, 52, 53, 54, 55, 56, 57]
theorem Lk {d : Int} (h0 : 0 ≤ d) (h : d < 10) : (Agy.take (d + 1).toNat).drop d.toNat = [dch d.toNat] := by
 have : d = 0 ∨ d = 1 ∨ d = 2 ∨ d = 3 ∨ d = 4 ∨ d = 5 ∨ d = 6 ∨ d = 7 ∨ d = 8 ∨ d = 9 := by omega
 rcases this with rfl | rfl | rfl | rfl | rfl | rfl | rfl | rfl | rfl | rfl <;> rfl
theorem WI {n : Int} (h : n < 10) : Lib.decDigits n.toNat = [dch n.toNat] := by rw [Lib.decDigits, dif_pos (by omega)]; rfl
theorem Aft {n : Int} (h : 10 ≤ n) : Lib.decDigits n.toNat = Lib.decDigits (n / 10).toNat ++ [dch (n % 10).toNat] := by
 rw [Lib.decDigits, dif_neg (by omega), show n.toNat / 10 = (n / 10).toNat by omega, show n.toNat % 10 = (n % 10).toNat by omega]; rfl
theorem XM {n : Int} (h : n ≤ 18446744073709551615) : (Lib.decDigits n.toNat).length ≤ 20 := by
 rw [Lib.decDigits_length]; exact Lib.nDigits_le20 _ (by omega)
theorem SM {n : Int} (h : inI n) : (dec n).length ≤ 21 := Lib.itoa_length_le n h.1 h.2
def Dc (p : Int → Bool) : List V → Prop × V
 | [.int .u8 n] => (True, .bool (p n))
 | _ => (False, .any)
def tNo : Tab
 | _ => gNo
theorem AC : ∀ f, PU f (tNo f) := fun f => by
 unfold tNo
 split
 ·exact Ao.no
theorem HP : PU 117 (Dc capB) := by
 have hG := AC
 refine Afc.q fun vs hv => ?_
 match vs, hv with
 | [.int .u8 n], _ =>
 refine ⟨by simp, fun C hN Q hQ => ?_⟩
 have Z := Afc.R EF0 hG hN
 refine Aa (Z 0 rfl ?_)
 simp only [go_sem, simprocAttr]
 refine Aa (Z 1 rfl ?_)
 simp only [go_sem, simprocAttr]
 refine Ae (hQ _ _ (.inl rfl) ?_ ?_ ?_) <;> simp only [go_sem, simprocAttr, Dc, capB]
theorem SH : PU 119 (Dc digB) := by
 have hG := AC
 refine Afa.q fun vs hv => ?_
 match vs, hv with
 | [.int .u8 n], _ =>
 refine ⟨by simp, fun C hN Q hQ => ?_⟩
 have Z := Afa.R EF0 hG hN
 refine Aa (Z 0 rfl ?_)
 simp only [go_sem, simprocAttr]
 refine Aa (Z 1 rfl ?_)
 simp only [go_sem, simprocAttr]
 refine Ae (hQ _ _ (.inl rfl) ?_ ?_ ?_) <;> simp only [go_sem, simprocAttr, Dc, digB]
theorem IX : PU 57 (Dc capB) := by
 have hG := AC
 refine Ai3.q fun vs hv => ?_
 match vs, hv with
 | [.int .u8 n], _ =>
 refine ⟨by simp, fun C hN Q hQ => ?_⟩
 have Z := Ai3.R EF0 hG hN
 refine Aa (Z 0 rfl ?_)
 simp only [go_sem, simprocAttr]
 refine Aa (Z 1 rfl ?_)
 simp only [go_sem, simprocAttr]
 refine Ae (hQ _ _ (.inl rfl) ?_ ?_ ?_) <;> simp only [go_sem, simprocAttr, Dc, capB]
theorem VG : PU 58 (Dc digB) := by
 have hG := AC
 refine Ai2.q fun vs hv => ?_
 match vs, hv with
 | [.int .u8 n], _ =>
 refine ⟨by simp, fun C hN Q hQ => ?_⟩
 have Z := Ai2.R EF0 hG hN
 refine Aa (Z 0 rfl ?_)
 simp only [go_sem, simprocAttr]
 refine Aa (Z 1 rfl ?_)
 simp only [go_sem, simprocAttr]
 refine Ae (hQ _ _ (.inl rfl) ?_ ?_ ?_) <;> simp only [go_sem, simprocAttr, Dc, digB]
def Qr : Tab
 | 117 => Dc capB
 | 119 => Dc digB
 | _ => gNo
theorem Qq : ∀ f, PU f (Qr f) := fun f => by
 unfold Qr
 split
 ·exact HP
 ·exact SH
 ·exact Ao.no
theorem Abg : PU 118 (Dc Yg) := by
 have hG := Qq
 refine Afb.q fun vs hv => ?_
 match vs, hv with
 | [.int .u8 n], _ =>
 refine ⟨by simp, fun C hN Q hQ => ?_⟩
 have Z := Afb.R EF0 hG hN
 refine Aa (Z 0 rfl ?_)
 simp only [go_sem, simprocAttr]
 refine Aa (Z 1 rfl ?_)
 simp only [go_sem, simprocAttr, Qr, Dc]
 refine Ae (hQ _ _ (.inl rfl) ?_ ?_ ?_) <;> simp only [go_sem, simprocAttr, Dc, Yg]
def fOf (f : Nat) : Option (Int → Bool) :=
 if f = 117 then some capB else
 if f = 119 then some digB else
 if f = 118 then some Yg else
 none
def Jp (f : Nat) : List V → Prop × V := match fOf f with
 | some p => Dc p
 | none => gNo
theorem Tm : ∀ f, PU f (Jp f) := fun f => by
 unfold Jp fOf
 by_cases h1 : f = 117
 ·subst h1; exact HP
 rw [if_neg h1]
 by_cases h2 : f = 119
 ·subst h2; exact SH
 rw [if_neg h2]
 by_cases h3 : f = 118
 ·subst h3; exact Abg
 rw [if_neg h3]
 exact Ao.no
def HD : List V → Prop × V
 | [.str s, .fn f []] => match fOf f with
  | some p => (s.length ≤ 140737488355328, .bool (HV p s))
  | none => (False, .any)
 | _ => (False, .any)
theorem Sx : PU 116 HD := by
 have hG := Tm
 refine Afd.q fun vs hv => ?_
 match vs, hv with
 | [.str s, .fn f []], hv =>
 simp only [HD] at hv ⊢
 cases hf : fOf f with
 | none => rw [hf] at hv; exact hv.elim
 | some p =>
 rw [hf] at hv
 dsimp only at hv ⊢
 have hb : Jp f = Dc p := by unfold Jp; rw [hf]
 refine ⟨by simp, fun C hN Q hQ => ?_⟩
 have Z := Afd.R EF0 hG hN
 refine Aa (Z 0 rfl ?_)
 simp only [go_sem, simprocAttr]
 refine Aa (Aa (Z 1 rfl ?_))
 simp only [go_sem, simprocAttr]
 refine Ad ?_
 refine Aj (α := Nat) (fun i => i ≤ s.length ∧ HV p (s.take i) = true) (fun i => ⟨mkE [(0, .str s), (1, .fn f []), (7, .int .i64 s.length), (8, .int .i64 i)], mkH []⟩) (fun i => s.length - i) 0 ⟨Nat.zero_le _, rfl⟩ ?_ ?_
 ·exact leM
 rintro i ⟨hi, hp⟩ K hK
 refine Aa (Z 2 rfl ?_)
 simp only [go_sem, simprocAttr]
 refine Aa ?_
 refine Ab rfl (fun hc => ?_) fun hc => ?_
 ·simp only [hcL] at hc
  refine Ac ?_
  simp only [go_sem, simprocAttr]
  refine Aa (Ad ?_)
  refine Aa (Z 3 rfl ?_)
  simp only [go_sem, simprocAttr]
  refine Aa (Z 4 rfl ?_)
  simp only [go_sem, simprocAttr, hb, Dc, hc]
  refine Ab rfl (fun hd => ?_) fun hd => ?_
  ·simp only [hcL] at hd
   refine Aa (Z 5 rfl ?_)
   simp only [go_sem, simprocAttr]
   refine Ae (hQ _ _ (.inl rfl) ?_ ?_ ?_) <;> simp only [go_sem, simprocAttr]
   rw [MC hc hd]
  simp only [hcL] at hd
  refine Ac ?_
  simp only [go_sem, simprocAttr]
  refine Z 6 rfl ?_
  simp only [go_sem, simprocAttr, inI]
  refine ⟨⟨by omega, by omega⟩, ?_⟩
  refine hK (i + 1) _ ?_ ?_ ?_
  ·exact ⟨hc, HU hc hp hd⟩
  ·omega
  exact leM
 simp only [hcL] at hc
 refine Ai ?_
 simp only [go_sem, simprocAttr]
 refine Aa (Z 7 rfl ?_)
 simp only [go_sem, simprocAttr]
 refine Ae (hQ _ _ (.inl rfl) ?_ ?_ ?_) <;> simp only [go_sem, simprocAttr]
 rw [JM (Nat.not_lt.2 hc) hp]
def BS : List V → Prop × V
 | [.str s, .int .i64 lo, .int .i64 hi] => (s.length ≤ 140737488355328, .bool (Dt s lo hi))
 | _ => (False, .any)
def GC : List V → Prop × V
 | [.str s] => (s.length ≤ 140737488355328, .bool (DY s))
 | _ => (False, .any)
def Zz : Tab
 | 116 => HD
 | _ => gNo
theorem US : ∀ f, PU f (Zz f) := fun f => by
 unfold Zz
 split
 ·exact Sx
 ·exact Ao.no
theorem AfG : PU 62 BS := by
 have hG := US
 refine AiY.q fun vs hv => ?_
 match vs, hv with
 | [.str s, .int .i64 lo, .int .i64 hi], hv =>
 replace hv : s.length ≤ 140737488355328 := hv
 refine ⟨by simp, fun C hN Q hQ => ?_⟩
 have Z := AiY.R EF0 hG hN
 refine Aa (Z 0 rfl ?_)
 simp only [go_sem, simprocAttr]
 refine Aa (Z 1 rfl ?_)
 simp only [go_sem, simprocAttr, Zz, HD, fOf, hv]
 refine Ae (hQ _ _ (.inl rfl) ?_ ?_ ?_) <;> simp only [go_sem, simprocAttr, BS, Dt]
def Qt : Tab
 | 117 => (Dc capB)
 | _ => gNo
theorem Qs : ∀ f, PU f (Qt f) := fun f => by
 unfold Qt
 split
 ·exact HP
 ·exact Ao.no
theorem Abj : PU 121 GC := by
 have hG := Qs
 refine Ae8.q fun vs hv => ?_
 match vs, hv with
 | [.str s], hv =>
 replace hv : s.length ≤ 140737488355328 := hv
 refine ⟨by simp, fun C hN Q hQ => ?_⟩
 have Z := Ae8.R EF0 hG hN
 refine Aa (Z 0 rfl ?_)
 simp only [go_sem, simprocAttr]
 refine Aa (Z 1 rfl ?_)
 simp only [go_sem, simprocAttr, Qt, Dc, hv]
 refine ⟨fun h => by (first | exact ⟨h, by omega, by rw [decide_eq_true_eq] at h; omega⟩ | exact ⟨h, by rw [decide_eq_true_eq] at h; omega⟩), ?_⟩
 refine Ae (hQ _ _ (.inl rfl) ?_ ?_ ?_) <;> simp only [go_sem, simprocAttr, GC]
 rw [Tg]
def DG : List V → Prop × V
 | [.str s, .int .i64 n] => (s.length ≤ 140737488355328, .bool (HV capB s && decide ((s.length : Int) = n)))
 | _ => (False, .any)
def IQ : Tab
 | 57 => (Dc capB)
 | _ => gNo
theorem LI : ∀ f, PU f (IQ f) := fun f => by
 unfold IQ
 split
 ·exact IX
 ·exact Ao.no
theorem Ir : PU 54 DG := by
 have hG := LI
 refine Ai5.q fun vs hv => ?_
 match vs, hv with
 | [.str s, .int .i64 n], hv =>
 replace hv : s.length ≤ 140737488355328 := hv
 refine ⟨by simp, fun C hN Q hQ => ?_⟩
 have Z := Ai5.R EF0 hG hN
 refine Aa (Z 0 rfl ?_)
 simp only [go_sem, simprocAttr]
 refine Aa (Aa (Z 1 rfl ?_))
 simp only [go_sem, simprocAttr]
 refine Ad ?_
 refine Aj (α := Nat) (fun i => i ≤ s.length ∧ HV capB (s.take i) = true) (fun i => ⟨mkE [(0, .str s), (1, .int .i64 n), (5, .int .i64 i)], mkH []⟩) (fun i => s.length - i) 0 ⟨Nat.zero_le _, rfl⟩ ?_ ?_
 ·exact leM
 rintro i ⟨hi, hp⟩ K hK
 refine Aa (Aa ?_)
 refine Z 2 rfl ?_
 simp only [go_sem, simprocAttr]
 refine Ab rfl (fun hc => ?_) fun hc => ?_
 ·simp only [hcL] at hc
  refine Ac ?_
  simp only [go_sem, simprocAttr]
  refine Aa (Ad ?_)
  refine Aa (Z 4 rfl ?_)
  simp only [go_sem, simprocAttr, IQ, Dc, hc]
  refine Ab rfl (fun hd => ?_) fun hd => ?_
  ·simp only [hcL] at hd
   refine Aa (Z 5 rfl ?_)
   simp only [go_sem, simprocAttr]
   refine Ae (hQ _ _ (.inl rfl) ?_ ?_ ?_) <;> simp only [go_sem, simprocAttr, DG]
   rw [MC hc hd]
   rfl
  simp only [hcL] at hd
  refine Ac ?_
  simp only [go_sem, simprocAttr]
  refine Z 3 rfl ?_
  simp only [go_sem, simprocAttr, inI]
  refine ⟨⟨by omega, by omega⟩, ?_⟩
  refine hK (i + 1) _ ?_ ?_ ?_
  ·exact ⟨hc, HU hc hp hd⟩
  ·omega
  exact leM
 simp only [hcL] at hc
 refine Ai ?_
 simp only [go_sem, simprocAttr]
 refine Aa (Z 6 rfl ?_)
 simp only [go_sem, simprocAttr]
 refine Ae (hQ _ _ (.inl rfl) ?_ ?_ ?_) <;> simp only [go_sem, simprocAttr, DG]
 rw [JM (Nat.not_lt.2 hc) hp, Bool.true_and]
def LF : Tab
 | 54 => DG
 | _ => gNo
theorem OL : ∀ f, PU f (LF f) := fun f => by
 unfold LF
 split
 ·exact Ir
 ·exact Ao.no
theorem VH : PU 19 GC := by
 have hG := OL
 refine Ajl.q fun vs hv => ?_
 match vs, hv with
 | [.str s], hv =>
 replace hv : s.length ≤ 140737488355328 := hv
 refine ⟨by simp, fun C hN Q hQ => ?_⟩
 have Z := Ajl.R EF0 hG hN
 refine Aa (Z 0 rfl ?_)
 simp only [go_sem, simprocAttr]
 refine Aa (Z 1 rfl ?_)
 simp only [go_sem, simprocAttr, LF, DG, hv]
 refine Ae (hQ _ _ (.inl rfl) ?_ ?_ ?_) <;> simp only [go_sem, simprocAttr, GC, DY]
 rw [Bool.and_comm]
def Qf : Tab
 | 57 => (Dc capB)
 | 58 => (Dc digB)
 | _ => gNo
theorem Qe : ∀ f, PU f (Qf f) := fun f => by
 unfold Qf
 split
 ·exact IX
 ·exact VG
 ·exact Ao.no
theorem Hm : PU 23 BS := by
 have hG := Qe
 refine Ajj.q fun vs hv => ?_
 match vs, hv with
 | [.str s, .int .i64 lo, .int .i64 hi], hv =>
 replace hv : s.length ≤ 140737488355328 := hv
 refine ⟨by simp, fun C hN Q hQ => ?_⟩
 have Z := Ajj.R EF0 hG hN
 refine Aa (Z 0 rfl ?_)
 simp only [go_sem, simprocAttr]
 refine Aa (Aa (Z 1 rfl ?_))
 simp only [go_sem, simprocAttr]
 refine Ad ?_
 refine Aj (α := Nat) (fun i => i ≤ s.length ∧ HV Yg (s.take i) = true) (fun i => ⟨mkE [(0, .str s), (1, .int .i64 lo), (2, .int .i64 hi), (7, .int .i64 i)], mkH []⟩) (fun i => s.length - i) 0 ⟨Nat.zero_le _, rfl⟩ ?_ ?_
 ·exact leM
 rintro i ⟨hi, hp⟩ K hK
 refine Aa (Aa ?_)
 refine Z 2 rfl ?_
 simp only [go_sem, simprocAttr]
 refine Ab rfl (fun hc => ?_) fun hc => ?_
 ·simp only [hcL] at hc
  refine Ac ?_
  simp only [go_sem, simprocAttr]
  refine Aa (Ad ?_)
  refine Aa (Z 4 rfl ?_)
  simp only [go_sem, simprocAttr, Qf, Dc, hc]
  refine Ab rfl (fun hd => ?_) fun hd => ?_
  ·simp only [hcL] at hd
   refine Aa (Z 5 rfl ?_)
   simp only [go_sem, simprocAttr]
   refine Ae (hQ _ _ (.inl rfl) ?_ ?_ ?_) <;> simp only [go_sem, simprocAttr, BS, Dt]
   rw [MC hc (p := Yg) (by simpa [Yg] using hd), Bool.and_false]
  simp only [hcL] at hd
  refine Ac ?_
  simp only [go_sem, simprocAttr]
  refine Z 3 rfl ?_
  simp only [go_sem, simprocAttr, inI]
  refine ⟨⟨by omega, by omega⟩, ?_⟩
  refine hK (i + 1) _ ?_ ?_ ?_
  ·exact ⟨hc, HU hc hp (by simpa [Yg] using hd)⟩
  ·omega
  exact leM
 simp only [hcL] at hc
 refine Ai ?_
 simp only [go_sem, simprocAttr]
 refine Aa (Z 6 rfl ?_)
 simp only [go_sem, simprocAttr]
 refine Ae (hQ _ _ (.inl rfl) ?_ ?_ ?_) <;> simp only [go_sem, simprocAttr, BS, Dt]
 rw [JM (Nat.not_lt.2 hc) hp, Bool.and_true]
theorem Ij {w : World} {k : Nat} {os : Array Obj} : Below w.heap.size w (Sort.grow (w.drewN k) os) := by
 refine ⟨rfl, rfl, rfl, ?_, fun i hi => ?_⟩
 ·show w.heap.size ≤ (w.heap ++ os).size; simp
 ·show (w.heap ++ os)[i]? = w.heap[i]?
  exact Array.getElem?_append_left hi
def Agf : List V → Prop × V
 | [.int .i64 n] => (inI n, .str (dec n))
 | _ => (False, .any)
theorem XF : PU 66 Agf := by
 refine Ao.leaf Tryz.func66 (by kernel_rfl : Tryz.f66.body = some ((Tryz.f66.body).getD .skip)) (by kernel_rfl) fun vs M w cargs hv hB hs ha => ?_
 match vs, hv, hs, ha with
 | [.int .i64 n], hv, hs, ha =>
 have h0 := (ha 0 _ rfl).int_inv
 have h1 := JI hs
 rw [h0] at h1
 rw [h1]
 refine (Tryz.strconv_Itoa n hv.1 hv.2 w (utW hB)).mono ?_
 rintro e w' ⟨he, k, os, hw⟩
 exact ⟨_, he, fun M' => .str _, by rw [hw]; exact Ij⟩
def Pq (k : Nat) : List V → Prop × V
 | [.int .u64 n] => (0 ≤ n ∧ n < 10 ^ k ∧ n ≤ 18446744073709551615, .str (Lib.decDigits n.toNat))
 | _ => (False, .any)
def Zx : Nat → Tab
 | 0 => fun _ => gNo
 | k + 1 => fun f => if f = 125 then Pq k else gNo
theorem Kr (k : Nat) (hG : ∀ f, PU f (Zx k f)) : PU 125 (Pq k) := by
 refine Ae5.q fun vs hv => ?_
 match vs, hv with
 | [.int .u64 n], hv =>
 replace hv : 0 ≤ n ∧ n < 10 ^ k ∧ n ≤ 18446744073709551615 := hv
 obtain ⟨h0, h1, h2⟩ := hv
 refine ⟨by simp, fun C hN Q hQ => ?_⟩
 have Y := Ae5.D EF0 hG hN mixed
 have Z := Ae5.R EF0 hG hN
 refine Aa (Z 0 rfl ?_)
 simp only [go_sem, simprocAttr]
 refine Aa (Aa (Z 1 rfl ?_))
 simp only [go_sem, simprocAttr]
 refine Ab rfl (fun hc => ?_) fun hc => ?_
 ·simp only [hcL] at hc
  refine Aa (Z 2 rfl ?_)
  simp only [go_sem, simprocAttr, Ak]
  and_intros <;> try exact sdA
  refine Ae (hQ _ _ (.inl rfl) ?_ ?_ ?_) <;> simp only [go_sem, simprocAttr, Pq]
  rw [show [48, 49, 50, 51, 52, 53, 54, 55, 56, 57] = Agy from rfl, Lk h0 (by omega), WI hc]
 simp only [hcL] at hc
 refine Ac ?_
 simp only [go_sem, simprocAttr]
 have hq : (Zx k 125 [.int .u64 (n / 10)]).1 ∧ (Zx k 125 [.int .u64 (n / 10)]).2 = .str (Lib.decDigits (n / 10).toNat) := by
  cases k with
  | zero => exfalso; simp at h1; omega
  | succ k =>
   refine ⟨⟨by omega, ?_, by omega⟩, rfl⟩
   rw [Int.pow_succ] at h1
   omega
 have hl := XM (n := n / 10) (by omega)
 refine Aa (Y 3 rfl (by kernel_rfl) ?_)
 simp only [go_sem, simprocAttr, Ak, hq.1, hq.2]
 rw [show [48, 49, 50, 51, 52, 53, 54, 55, 56, 57] = Agy from rfl, Lk (by omega : 0 ≤ n % 10) (by omega)]
 and_intros <;> (try first | exact sdA | (rw [List.length_append]; simp only [List.length_cons, List.length_nil]; omega))
 refine Ae (hQ _ _ (.inl rfl) ?_ ?_ ?_) <;> simp only [go_sem, simprocAttr, Pq]
 rw [Aft hc]
theorem Hl : ∀ k, PU 125 (Pq k)
 | 0 => Kr 0 fun _ => Ao.no
 | k + 1 => Kr (k + 1) fun f => by
  show PU f (if f = 125 then Pq k else gNo)
  by_cases h : f = 125
  ·subst h; rw [if_pos rfl]; exact Hl k
  ·rw [if_neg h]; exact Ao.no
def Jo : List V → Prop × V
 | [.int .u64 n] => (0 ≤ n ∧ n ≤ 18446744073709551615, .str (Lib.decDigits n.toNat))
 | _ => (False, .any)
theorem Rm : PU 125 Jo := (Hl 20).sub fun vs hv => by
 match vs, hv with
 | [.int .u64 n], hv => exact ⟨⟨hv.1, Int.lt_of_le_of_lt hv.2 (by decide), hv.2⟩, rfl⟩
def Jn : List V → Prop × V
 | [.int .i64 n] => (inI n, .str (dec n))
 | _ => (False, .any)
def UF : Tab
 | 125 => Jo
 | _ => gNo
theorem UE : ∀ f, PU f (UF f) := fun f => by
 unfold UF
 split
 ·exact Rm
 ·exact Ao.no
theorem DU : PU 68 Jn := by
 have hG := UE
 refine AiT.q fun vs hv => ?_
 match vs, hv with
 | [.int .i64 n], hv =>
 replace hv : inI n := hv
 obtain ⟨h0, h1⟩ := hv
 refine ⟨by simp, fun C hN Q hQ => ?_⟩
 have Z := AiT.R EF0 hG hN
 refine Aa (Z 0 rfl ?_)
 simp only [go_sem, simprocAttr]
 refine Aa (Aa (Z 1 rfl ?_))
 simp only [go_sem, simprocAttr]
 refine Ab rfl (fun hc => ?_) fun hc => ?_
 ·simp only [hcL] at hc
  have hl := XM (n := -(n + 1) + 1) (by omega)
  refine Aa (Z 2 rfl ?_)
  simp only [go_sem, simprocAttr, Ak, inI, UF, Jo]
  and_intros <;> try exact sdA
  refine Ae (hQ _ _ (.inl rfl) ?_ ?_ ?_) <;> simp only [go_sem, simprocAttr, Jn, dec, Lib.itoa]
  rw [if_pos hc, show (-(n + 1) + 1).toNat = n.natAbs by omega]
 simp only [hcL] at hc
 refine Ac ?_
 simp only [go_sem, simprocAttr]
 refine Aa (Z 3 rfl ?_)
 simp only [go_sem, simprocAttr, Ak, UF, Jo]
 and_intros <;> try exact sdA
 refine Ae (hQ _ _ (.inl rfl) ?_ ?_ ?_) <;> simp only [go_sem, simprocAttr, Jn, dec, Lib.itoa]
 rw [if_neg (by omega)]
end Go.Proofs.YtjkclhbckfkeeaaGreatDoor
end
