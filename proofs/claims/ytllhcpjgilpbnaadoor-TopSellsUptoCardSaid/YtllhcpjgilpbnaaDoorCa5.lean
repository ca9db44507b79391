import Derived.Test.YtllhcpjgilpbnaaDoorAv21
import Derived.Shelf.Strconv.Itoa0
import Derived.Shelf.Strconv.Itoa1
import Derived.Shelf.LaysM
import Derived.Shelf.Strconv.Itoa2
import Derived.Shelf.Strconv.Itoa3
import Derived.Test.YtllhcpjgilpbnaaDoorProg
import Derived.Test.YtllhcpjgilpbnaaDoorCo
import Derived.Lib.LaidTab
import Derived.Lib.ItoaNum
import Derived.Lib.ItoaLen
namespace Go.Proofs.YtllhcpjgilpbnaaDoor
open Go Go.RowKit
set_option linter.unusedSimpArgs false
set_option linter.unusedVariables false
set_option linter.deprecated false
def AOp.own : AOp → AOp
  | .slc t sz _ ps => .slc t sz true ps
  | .mks t sz bytes zero n c => .mkv t sz bytes zero n c
  | o => o
def AO.own (o : AO) : AO := match o.g with
  | none => ⟨o.d, none, o.o.own⟩
  | some g => ⟨o.d, some g, o.o⟩
section
variable {P : Program} {U : Tbl} {C : Ctx U} {G : Tab} {ops : Array Oper} {o : Oper} {s : St} {Q : Exit → St → Prop}
end
attribute [go_sem] AO.own AOp.own AO.wrp AOp.wrp List.map_cons List.map_nil
theorem idW {P : Program} {U : Tbl} {C : Ctx U} {c : Code} {Q : Exit → St → Prop} {s : St} (h : AW P C c Q s) : AW P C c Q s := h
theorem idS {P : Program} {U : Tbl} {d : Option Nat} {f : Nat} {vs : List V} {s : St} {K : St → Prop} (h : EStep P U d f vs s K) : EStep P U d f vs s K := h
theorem sdA {p : Prop} (h : p := by first | omega | ((fail_if_success refine idW ?_); (fail_if_success refine idS ?_); intros; (repeat' apply And.intro) <;> first | assumption | omega | (simp_all; done)) | fail) : p := h
theorem leA {p : Prop} (h : p := by first | rfl | exact wk_frzb rfl rfl rfl | exact wk_fn rfl | exact .nilo _ _ _ rfl rfl | exact wk_frzm rfl rfl (fun kv hk => by obtain ⟨_, _, rfl⟩ := List.mem_map.1 hk; rfl) | fail) : p := h
end Go.Proofs.YtllhcpjgilpbnaaDoor
namespace Go.Proofs
open Go.Shelf
def Tryd.laysM171_ren : Go.Shelf.Ren := ⟨fun | 171 => 58 | 243 => 69 | 246 => 73 | 283 => 75 | 284 => 76 | 285 => 77 | 286 => 78 | 129 => 80 | 317 => 79 | 318 => 81 | 319 => 82 | 320 => 83 | 337 => 84 | 338 => 85 | n => n, fun | 3 => 3 | 9 => 9 | 2 => 2 | 4 => 4 | 171 => 132 | 0 => 0 | 53 => 111 | 37 => 117 | 5 => 5 | 173 => 135 | 212 => 138 | 51 => 139 | 20 => 20 | 213 => 140 | 46 => 141 | 232 => 144 | 233 => 145 | n => n, fun | 17 => 1 | 18 => 2 | 19 => 3 | n => n⟩
theorem Tryd.laysM171 : Go.Proofs.LaysM.n171 Tryd.prog Tryd.laysM171_ren := {
  mixed := by kernel_rfl
  f129 := Tryd.func80.trans (congrArg some (by kernel_rfl))
  f171 := Tryd.func58.trans (congrArg some (by kernel_rfl))
  f243 := Tryd.func69.trans (congrArg some (by kernel_rfl))
  f246 := Tryd.func73.trans (congrArg some (by kernel_rfl))
  f283 := Tryd.func75.trans (congrArg some (by kernel_rfl))
  f284 := Tryd.func76.trans (congrArg some (by kernel_rfl))
  f285 := Tryd.func77.trans (congrArg some (by kernel_rfl))
  f286 := Tryd.func78.trans (congrArg some (by kernel_rfl))
  f317 := Tryd.func79.trans (congrArg some (by kernel_rfl))
  f318 := Tryd.func81.trans (congrArg some (by kernel_rfl))
  f319 := Tryd.func82.trans (congrArg some (by kernel_rfl))
  f320 := Tryd.func83.trans (congrArg some (by kernel_rfl))
  f337 := Tryd.func84.trans (congrArg some (by kernel_rfl))
  f338 := Tryd.func85.trans (congrArg some (by kernel_rfl))
  t0 := Tryd.underlying0
  a0 := Tryd.isAgg0
  z0 := Tryd.sizeOf0
  v0 := Tryd.zeroValue0
  t2 := Tryd.underlying2
  a2 := Tryd.isAgg2
  z2 := Tryd.sizeOf2
  v2 := Tryd.zeroValue2
  t3 := Tryd.underlying3
  a3 := Tryd.isAgg3
  z3 := Tryd.sizeOf3
  v3 := Tryd.zeroValue3
  t4 := Tryd.underlying4
  a4 := Tryd.isAgg4
  z4 := Tryd.sizeOf4
  v4 := Tryd.zeroValue4
  t5 := Tryd.underlying5
  a5 := Tryd.isAgg5
  z5 := Tryd.sizeOf5
  v5 := Tryd.zeroValue5
  t9 := Tryd.underlying9
  a9 := Tryd.isAgg9
  z9 := Tryd.sizeOf9
  v9 := Tryd.zeroValue9
  t20 := Tryd.underlying20
  a20 := Tryd.isAgg20
  z20 := Tryd.sizeOf20
  v20 := Tryd.zeroValue20
  t37 := Tryd.underlying117
  a37 := Tryd.isAgg117
  z37 := Tryd.sizeOf117
  v37 := Tryd.zeroValue117
  t46 := Tryd.underlying141
  a46 := Tryd.isAgg141
  z46 := Tryd.sizeOf141
  v46 := Tryd.zeroValue141
  t51 := Tryd.underlying139
  a51 := Tryd.isAgg139
  z51 := Tryd.sizeOf139
  v51 := Tryd.zeroValue139
  t53 := Tryd.underlying111
  a53 := Tryd.isAgg111
  z53 := Tryd.sizeOf111
  v53 := Tryd.zeroValue111
  t171 := Tryd.underlying132
  a171 := Tryd.isAgg132
  z171 := Tryd.sizeOf132
  v171 := Tryd.zeroValue132
  t173 := Tryd.underlying135
  a173 := Tryd.isAgg135
  z173 := Tryd.sizeOf135
  v173 := Tryd.zeroValue135
  t212 := Tryd.underlying138
  a212 := Tryd.isAgg138
  z212 := Tryd.sizeOf138
  v212 := Tryd.zeroValue138
  t213 := Tryd.underlying140
  a213 := Tryd.isAgg140
  z213 := Tryd.sizeOf140
  t232 := Tryd.underlying144
  a232 := Tryd.isAgg144
  z232 := Tryd.sizeOf144
  v232 := Tryd.zeroValue144
  t233 := Tryd.underlying145
  a233 := Tryd.isAgg145
  z233 := Tryd.sizeOf145
  v233 := Tryd.zeroValue145
  g17 := by kernel_rfl
  g18 := by kernel_rfl
  g19 := by kernel_rfl
  i0 := by kernel_rfl
  i2 := by kernel_rfl
  i3 := by kernel_rfl
  i4 := by kernel_rfl
  i5 := by kernel_rfl
  i9 := by kernel_rfl
  i20 := by kernel_rfl
  i37 := by kernel_rfl
  i46 := by kernel_rfl
  i51 := by kernel_rfl
  i53 := by kernel_rfl
  i171 := by kernel_rfl
  i173 := by kernel_rfl
  i212 := by kernel_rfl
  i232 := by kernel_rfl
  i233 := by kernel_rfl
  m17 := by kernel_rfl
  m18 := by kernel_rfl
  m19 := by kernel_rfl }
open Go.RowKit Go.Sort Go.Lib in
theorem Tryd.strconv_Itoa (n : Int) (h0 : -9223372036854775808 ≤ n) (h1 : n ≤ 9223372036854775807) (w : World) (htab : Lib.TabIs Tryd.prog w "internal/strconv.uint64pow10" .u64 Lib.pow10Tab) :
    Calls Tryd.prog 58 #[.int .i64 n] w fun e w' => e = .returned (.string ⟨(Lib.itoa n).toArray⟩) ∧ ∃ k os, w' = grow (w.drewN k) os := Any.strconv_Itoa Tryd.laysM171 n h0 h1 w htab
end Go.Proofs
namespace Go.Proofs.YtllhcpjgilpbnaaDoor
open Go Go.RowKit
set_option linter.unusedSimpArgs false
set_option linter.unusedVariables false
set_option linter.deprecated false
abbrev TabW (w : World) : Prop := Lib.TabIs Tryd.prog w "internal/strconv.uint64pow10" .u64 Lib.pow10Tab
theorem gTab : Tryd.prog.globalNamed "internal/strconv.uint64pow10" = some 1 := by kernel_rfl
theorem tabW_keep (w w' : World) (h : w'.heap[(1 : Nat)]? = w.heap[(1 : Nat)]?) (hB : TabW w) : TabW w' := by
  unfold TabW Lib.TabIs World.var? at hB ⊢
  rw [gTab] at hB ⊢
  simp only [Option.bind_some] at hB ⊢
  rw [h]
  exact hB
def lenTab : List Int := [31, 28, 31, 30, 31, 30, 31, 31, 30, 31, 30, 31]
abbrev TabL (w : World) : Prop := Lib.TabIs Tryd.prog w "airline/calendar.lengths" .i64 lenTab
theorem gLen : Tryd.prog.globalNamed "airline/calendar.lengths" = some 0 := by kernel_rfl
theorem tabL_keep (w w' : World) (h : w'.heap[(0 : Nat)]? = w.heap[(0 : Nat)]?) (hB : TabL w) : TabL w' := by
  unfold TabL Lib.TabIs World.var? at hB ⊢
  rw [gLen] at hB ⊢
  simp only [Option.bind_some] at hB ⊢
  rw [h]
  exact hB
def UT : Tbl := ⟨fun w => TabW w ∧ TabL w, fun b => b = 1 ∨ b = 0, fun w w' h hB => ⟨tabW_keep w w' (h _ (.inl rfl)) hB.1, tabL_keep w w' (h _ (.inr rfl)) hB.2⟩⟩
theorem utW {w : World} (h : UT.B w) : TabW w := h.1
theorem utL {w : World} (h : UT.B w) : TabL w := h.2
def capB (c : Int) : Bool := decide (65 ≤ c) && decide (c ≤ 90)
def digB (c : Int) : Bool := decide (48 ≤ c) && decide (c ≤ 57)
def codB (c : Int) : Bool := capB c || digB c
def allB (p : Int → Bool) (l : List UInt8) : Bool := l.all fun c => p (c.toNat : Int)
def codeB (l : List UInt8) (lo hi : Int) : Bool := decide (lo ≤ (l.length : Int)) && decide ((l.length : Int) ≤ hi) && allB codB l
def classB (l : List UInt8) : Bool := decide ((l.length : Int) = 1) && allB capB l
def dec (n : Int) : List UInt8 := Lib.itoa n
theorem allB_step {p : Int → Bool} {s : List UInt8} {i : Nat} (h : i < s.length) (ht : allB p (s.take i) = true) (hp : p ((s.getD i 0).toNat : Int) = true) : allB p (s.take (i + 1)) = true := by
  rw [List.take_succ_eq_append_getElem h]
  rw [List.getD_eq_getElem?_getD, List.getElem?_eq_getElem h] at hp
  simp only [allB, List.all_append, List.all_cons, List.all_nil, Bool.and_true, Bool.and_eq_true] at ht ⊢
  exact ⟨ht, hp⟩
theorem allB_no {p : Int → Bool} {s : List UInt8} {i : Nat} (h : i < s.length) (hp : p ((s.getD i 0).toNat : Int) = false) : allB p s = false := by
  rw [List.getD_eq_getElem?_getD, List.getElem?_eq_getElem h] at hp
  unfold allB
  rw [List.all_eq_false]
  exact ⟨s[i], List.getElem_mem h, by simpa using hp⟩
theorem allB_end {p : Int → Bool} {s : List UInt8} {i : Nat} (h : ¬ i < s.length) (ht : allB p (s.take i) = true) : allB p s = true := by
  rwa [List.take_of_length_le (by omega)] at ht
theorem classB_at (s : List UInt8) : (decide ((s.length : Int) = 1) && capB ((s.getD 0 0).toNat : Int)) = classB s := by
  unfold classB allB
  match s with
  | [] => rfl
  | [x] => simp
  | x :: y :: l =>
    have h : ¬ (((x :: y :: l).length : Int) = 1) := by simp only [List.length_cons]; omega
    rw [decide_eq_false h, Bool.false_and, Bool.false_and]
def dch (d : Nat) : UInt8 := UInt8.ofNat (48 + d)
def tens : List UInt8 := [48, 49, 50, 51, 52, 53, 54, 55, 56, 57]
theorem digit_cut {d : Int} (h0 : 0 ≤ d) (h : d < 10) : (tens.take (d + 1).toNat).drop d.toNat = [dch d.toNat] := by
  have : d = 0 ∨ d = 1 ∨ d = 2 ∨ d = 3 ∨ d = 4 ∨ d = 5 ∨ d = 6 ∨ d = 7 ∨ d = 8 ∨ d = 9 := by omega
  rcases this with rfl | rfl | rfl | rfl | rfl | rfl | rfl | rfl | rfl | rfl <;> rfl
theorem dd_small {n : Int} (h : n < 10) : Lib.decDigits n.toNat = [dch n.toNat] := by rw [Lib.decDigits, dif_pos (by omega)]; rfl
theorem dd_big {n : Int} (h : 10 ≤ n) : Lib.decDigits n.toNat = Lib.decDigits (n / 10).toNat ++ [dch (n % 10).toNat] := by
  rw [Lib.decDigits, dif_neg (by omega), show n.toNat / 10 = (n / 10).toNat by omega, show n.toNat % 10 = (n % 10).toNat by omega]; rfl
theorem dd_len {n : Int} (h : n ≤ 18446744073709551615) : (Lib.decDigits n.toNat).length ≤ 20 := by
  rw [Lib.decDigits_length]; exact Lib.nDigits_le20 _ (by omega)
theorem dec_len {n : Int} (h : inI n) : (dec n).length ≤ 21 := Lib.itoa_length_le n h.1 h.2
def gByte (p : Int → Bool) : List V → Prop × V
  | [.int .u8 n] => (True, .bool (p n))
  | _ => (False, .any)
noncomputable def tNo : Tab
  | _ => gNo
theorem tNo_ok : ∀ f, PureC Tryd.prog UT f (tNo f) := fun f => by
  unfold tNo
  split
  · exact PureC.no
set_option maxHeartbeats 1000000 in
theorem capital_p : PureC Tryd.prog UT 61 (gByte capB) := by
  have hG := tNo_ok
  refine PureC.of_awQ Tryd.func61 body61 nm61 res61 fun vs hv => ?_
  match vs, hv with
  | [.int .u8 n], _ =>
  refine ⟨by rw [nt61]; simp, fun C hN Q hQ => ?_⟩
  rw [nt61] at hN
  unfold c61
  refine aw_seq (aw_region (EF := EF0) hG (by rw [hN]; exact tr61_0) ?_)
  simp only [a61_0, go_sem, simprocAttr]
  refine aw_seq (aw_region (EF := EF0) hG (by rw [hN]; exact tr61_1) ?_)
  simp only [a61_1, go_sem, simprocAttr]
  refine aw_ret ?_
  show Q _ _
  refine hQ _ _ (.inl rfl) ?_ ?_ ?_ <;> simp only [outφ, outV, AR.res, go_sem, simprocAttr, gByte, capB]
set_option maxHeartbeats 1000000 in
theorem digit_p : PureC Tryd.prog UT 62 (gByte digB) := by
  have hG := tNo_ok
  refine PureC.of_awQ Tryd.func62 body62 nm62 res62 fun vs hv => ?_
  match vs, hv with
  | [.int .u8 n], _ =>
  refine ⟨by rw [nt62]; simp, fun C hN Q hQ => ?_⟩
  rw [nt62] at hN
  unfold c62
  refine aw_seq (aw_region (EF := EF0) hG (by rw [hN]; exact tr62_0) ?_)
  simp only [a62_0, go_sem, simprocAttr]
  refine aw_seq (aw_region (EF := EF0) hG (by rw [hN]; exact tr62_1) ?_)
  simp only [a62_1, go_sem, simprocAttr]
  refine aw_ret ?_
  show Q _ _
  refine hQ _ _ (.inl rfl) ?_ ?_ ?_ <;> simp only [outφ, outV, AR.res, go_sem, simprocAttr, gByte, digB]
set_option maxHeartbeats 1000000 in
theorem rupper_p : PureC Tryd.prog UT 32 (gByte capB) := by
  have hG := tNo_ok
  refine PureC.of_awQ Tryd.func32 body32 nm32 res32 fun vs hv => ?_
  match vs, hv with
  | [.int .u8 n], _ =>
  refine ⟨by rw [nt32]; simp, fun C hN Q hQ => ?_⟩
  rw [nt32] at hN
  unfold c32
  refine aw_seq (aw_region (EF := EF0) hG (by rw [hN]; exact tr32_0) ?_)
  simp only [a32_0, go_sem, simprocAttr]
  refine aw_seq (aw_region (EF := EF0) hG (by rw [hN]; exact tr32_1) ?_)
  simp only [a32_1, go_sem, simprocAttr]
  refine aw_ret ?_
  show Q _ _
  refine hQ _ _ (.inl rfl) ?_ ?_ ?_ <;> simp only [outφ, outV, AR.res, go_sem, simprocAttr, gByte, capB]
set_option maxHeartbeats 1000000 in
theorem rdigit_p : PureC Tryd.prog UT 33 (gByte digB) := by
  have hG := tNo_ok
  refine PureC.of_awQ Tryd.func33 body33 nm33 res33 fun vs hv => ?_
  match vs, hv with
  | [.int .u8 n], _ =>
  refine ⟨by rw [nt33]; simp, fun C hN Q hQ => ?_⟩
  rw [nt33] at hN
  unfold c33
  refine aw_seq (aw_region (EF := EF0) hG (by rw [hN]; exact tr33_0) ?_)
  simp only [a33_0, go_sem, simprocAttr]
  refine aw_seq (aw_region (EF := EF0) hG (by rw [hN]; exact tr33_1) ?_)
  simp only [a33_1, go_sem, simprocAttr]
  refine aw_ret ?_
  show Q _ _
  refine hQ _ _ (.inl rfl) ?_ ?_ ?_ <;> simp only [outφ, outV, AR.res, go_sem, simprocAttr, gByte, digB]
noncomputable def tCode1 : Tab
  | 61 => gByte capB
  | 62 => gByte digB
  | _ => gNo
theorem tCode1_ok : ∀ f, PureC Tryd.prog UT f (tCode1 f) := fun f => by
  unfold tCode1
  split
  · exact capital_p
  · exact digit_p
  · exact PureC.no
set_option maxHeartbeats 1000000 in
theorem code1_p : PureC Tryd.prog UT 60 (gByte codB) := by
  have hG := tCode1_ok
  refine PureC.of_awQ Tryd.func60 body60 nm60 res60 fun vs hv => ?_
  match vs, hv with
  | [.int .u8 n], _ =>
  refine ⟨by rw [nt60]; simp, fun C hN Q hQ => ?_⟩
  rw [nt60] at hN
  unfold c60
  refine aw_seq (aw_region (EF := EF0) hG (by rw [hN]; exact tr60_0) ?_)
  simp only [a60_0, go_sem, simprocAttr]
  refine aw_seq (aw_region (EF := EF0) hG (by rw [hN]; exact tr60_1) ?_)
  simp only [a60_1, go_sem, simprocAttr, tCode1, gByte]
  refine aw_ret ?_
  show Q _ _
  refine hQ _ _ (.inl rfl) ?_ ?_ ?_ <;> simp only [outφ, outV, AR.res, go_sem, simprocAttr, gByte, codB]
def fOf (f : Nat) : Option (Int → Bool) :=
  if f = 61 then some capB else
  if f = 62 then some digB else
  if f = 60 then some codB else
  none
def gByteOf (f : Nat) : List V → Prop × V := match fOf f with
  | some p => gByte p
  | none => gNo
theorem byteOf_ok : ∀ f, PureC Tryd.prog UT f (gByteOf f) := fun f => by
  unfold gByteOf fOf
  by_cases h1 : f = 61
  · subst h1; exact capital_p
  rw [if_neg h1]
  by_cases h2 : f = 62
  · subst h2; exact digit_p
  rw [if_neg h2]
  by_cases h3 : f = 60
  · subst h3; exact code1_p
  rw [if_neg h3]
  exact PureC.no
def gEvery : List V → Prop × V
  | [.str s, .fn f []] => match fOf f with
    | some p => (s.length ≤ 140737488355328, .bool (allB p s))
    | none => (False, .any)
  | _ => (False, .any)
set_option maxHeartbeats 1000000 in
theorem every_p : PureC Tryd.prog UT 59 gEvery := by
  have hG := byteOf_ok
  refine PureC.of_awQ Tryd.func59 body59 nm59 res59 fun vs hv => ?_
  match vs, hv with
  | [.str s, .fn f []], hv =>
  simp only [gEvery] at hv ⊢
  cases hf : fOf f with
  | none => rw [hf] at hv; exact hv.elim
  | some p =>
  rw [hf] at hv
  dsimp only at hv ⊢
  have hb : gByteOf f = gByte p := by unfold gByteOf; rw [hf]
  refine ⟨by rw [nt59]; simp, fun C hN Q hQ => ?_⟩
  rw [nt59] at hN
  unfold c59
  refine aw_seq (aw_region (EF := EF0) hG (by rw [hN]; exact tr59_0) ?_)
  simp only [a59_0, go_sem, simprocAttr]
  refine aw_seq ?_
  refine aw_seq (aw_region (EF := EF0) hG (by rw [hN]; exact tr59_1) ?_)
  simp only [a59_1, go_sem, simprocAttr]
  refine aw_block ?_
  refine aw_loop (α := Nat) (fun i => i ≤ s.length ∧ allB p (s.take i) = true) (fun i => ⟨mkE [(0, .str s), (1, .fn f []), (7, .int .i64 s.length), (8, .int .i64 i)], mkH []⟩) (fun i => s.length - i) 0 ⟨Nat.zero_le _, rfl⟩ ?_ ?_
  · refine Le.mk _ _ ?_ ?_ rfl <;> simp only [go_sem, simprocAttr] <;> (repeat' apply And.intro) <;> try exact leA
  · rintro i ⟨hi, hp⟩ K hK
    refine aw_seq ?_
    refine aw_region (EF := EF0) hG (by rw [hN]; exact tr59_2) ?_
    simp only [a59_2, go_sem, simprocAttr]
    refine aw_seq ?_
    refine aw_cond (b := _) rfl (fun hc => ?_) (fun hc => ?_)
    · simp only [decide_eq_true_eq, decide_eq_false_iff_not, Bool.and_eq_true, Bool.or_eq_true, Bool.not_eq_true', Bool.not_eq_false', Bool.and_eq_false_iff, Bool.or_eq_false_iff, Int.ofNat_lt, Int.ofNat_le, Nat.not_lt, Nat.not_le, Int.not_lt, Int.not_le] at hc
      refine aw_skip ?_
      simp only [go_sem, simprocAttr]
      refine aw_seq ?_
      refine aw_block ?_
      refine aw_seq (aw_region (EF := EF0) hG (by rw [hN]; exact tr59_3) ?_)
      simp only [a59_3, go_sem, simprocAttr]
      refine aw_seq (aw_region (EF := EF0) hG (by rw [hN]; exact tr59_4) ?_)
      simp only [a59_4, go_sem, simprocAttr, hb, gByte, hc]
      refine aw_cond (b := _) rfl (fun hd => ?_) (fun hd => ?_)
      · simp only [decide_eq_true_eq, decide_eq_false_iff_not, Bool.and_eq_true, Bool.or_eq_true, Bool.not_eq_true', Bool.not_eq_false', Bool.and_eq_false_iff, Bool.or_eq_false_iff, Int.ofNat_lt, Int.ofNat_le, Nat.not_lt, Nat.not_le, Int.not_lt, Int.not_le] at hd
        refine aw_seq (aw_region (EF := EF0) hG (by rw [hN]; exact tr59_5) ?_)
        simp only [a59_5, go_sem, simprocAttr]
        refine aw_ret ?_
        show Q _ _
        refine hQ _ _ (.inl rfl) ?_ ?_ ?_ <;> simp only [outφ, outV, AR.res, go_sem, simprocAttr]
        rw [allB_no hc hd]
      · simp only [decide_eq_true_eq, decide_eq_false_iff_not, Bool.and_eq_true, Bool.or_eq_true, Bool.not_eq_true', Bool.not_eq_false', Bool.and_eq_false_iff, Bool.or_eq_false_iff, Int.ofNat_lt, Int.ofNat_le, Nat.not_lt, Nat.not_le, Int.not_lt, Int.not_le] at hd
        refine aw_skip ?_
        simp only [go_sem, simprocAttr]
        refine aw_region (EF := EF0) hG (by rw [hN]; exact tr59_6) ?_
        simp only [a59_6, go_sem, simprocAttr, inI]
        refine ⟨⟨by omega, by omega⟩, ?_⟩
        refine hK (i + 1) _ ?_ ?_ ?_
        · exact ⟨hc, allB_step hc hp hd⟩
        · omega
        · refine Le.mk _ _ ?_ ?_ rfl <;> simp only [go_sem, simprocAttr] <;> (repeat' apply And.intro) <;> try exact leA
    · simp only [decide_eq_true_eq, decide_eq_false_iff_not, Bool.and_eq_true, Bool.or_eq_true, Bool.not_eq_true', Bool.not_eq_false', Bool.and_eq_false_iff, Bool.or_eq_false_iff, Int.ofNat_lt, Int.ofNat_le, Nat.not_lt, Nat.not_le, Int.not_lt, Int.not_le] at hc
      refine aw_exit ?_
      simp only [go_sem, simprocAttr]
      refine aw_seq (aw_region (EF := EF0) hG (by rw [hN]; exact tr59_7) ?_)
      simp only [a59_7, go_sem, simprocAttr]
      refine aw_ret ?_
      show Q _ _
      refine hQ _ _ (.inl rfl) ?_ ?_ ?_ <;> simp only [outφ, outV, AR.res, go_sem, simprocAttr]
      rw [allB_end (Nat.not_lt.2 hc) hp]
def gCode : List V → Prop × V
  | [.str s, .int .i64 lo, .int .i64 hi] => (s.length ≤ 140737488355328, .bool (codeB s lo hi))
  | _ => (False, .any)
def gClass : List V → Prop × V
  | [.str s] => (s.length ≤ 140737488355328, .bool (classB s))
  | _ => (False, .any)
noncomputable def tCode : Tab
  | 59 => gEvery
  | _ => gNo
theorem tCode_ok : ∀ f, PureC Tryd.prog UT f (tCode f) := fun f => by
  unfold tCode
  split
  · exact every_p
  · exact PureC.no
set_option maxHeartbeats 1000000 in
theorem code_p : PureC Tryd.prog UT 42 gCode := by
  have hG := tCode_ok
  refine PureC.of_awQ Tryd.func42 body42 nm42 res42 fun vs hv => ?_
  match vs, hv with
  | [.str s, .int .i64 lo, .int .i64 hi], hv =>
  replace hv : s.length ≤ 140737488355328 := hv
  refine ⟨by rw [nt42]; simp, fun C hN Q hQ => ?_⟩
  rw [nt42] at hN
  unfold c42
  refine aw_seq (aw_region (EF := EF0) hG (by rw [hN]; exact tr42_0) ?_)
  simp only [a42_0, go_sem, simprocAttr]
  refine aw_seq (aw_region (EF := EF0) hG (by rw [hN]; exact tr42_1) ?_)
  simp only [a42_1, go_sem, simprocAttr, tCode, gEvery, fOf, hv]
  refine aw_ret ?_
  show Q _ _
  refine hQ _ _ (.inl rfl) ?_ ?_ ?_ <;> simp only [outφ, outV, AR.res, go_sem, simprocAttr, gCode, codeB]
noncomputable def tClass : Tab
  | 61 => (gByte capB)
  | _ => gNo
theorem tClass_ok : ∀ f, PureC Tryd.prog UT f (tClass f) := fun f => by
  unfold tClass
  split
  · exact capital_p
  · exact PureC.no
set_option maxHeartbeats 1000000 in
theorem class_p : PureC Tryd.prog UT 63 gClass := by
  have hG := tClass_ok
  refine PureC.of_awQ Tryd.func63 body63 nm63 res63 fun vs hv => ?_
  match vs, hv with
  | [.str s], hv =>
  replace hv : s.length ≤ 140737488355328 := hv
  refine ⟨by rw [nt63]; simp, fun C hN Q hQ => ?_⟩
  rw [nt63] at hN
  unfold c63
  refine aw_seq (aw_region (EF := EF0) hG (by rw [hN]; exact tr63_0) ?_)
  simp only [a63_0, go_sem, simprocAttr]
  refine aw_seq (aw_region (EF := EF0) hG (by rw [hN]; exact tr63_1) ?_)
  simp only [a63_1, go_sem, simprocAttr, tClass, gByte, hv]
  refine ⟨fun h => by (first | exact ⟨h, by omega, by rw [decide_eq_true_eq] at h; omega⟩ | exact ⟨h, by rw [decide_eq_true_eq] at h; omega⟩), ?_⟩
  refine aw_ret ?_
  show Q _ _
  refine hQ _ _ (.inl rfl) ?_ ?_ ?_ <;> simp only [outφ, outV, AR.res, go_sem, simprocAttr, gClass]
  rw [classB_at]
def gLetters : List V → Prop × V
  | [.str s, .int .i64 n] => (s.length ≤ 140737488355328, .bool (allB capB s && decide ((s.length : Int) = n)))
  | _ => (False, .any)
noncomputable def tLetters : Tab
  | 32 => (gByte capB)
  | _ => gNo
theorem tLetters_ok : ∀ f, PureC Tryd.prog UT f (tLetters f) := fun f => by
  unfold tLetters
  split
  · exact rupper_p
  · exact PureC.no
set_option maxHeartbeats 1000000 in
theorem rletters_p : PureC Tryd.prog UT 67 gLetters := by
  have hG := tLetters_ok
  refine PureC.of_awQ Tryd.func67 body67 nm67 res67 fun vs hv => ?_
  match vs, hv with
  | [.str s, .int .i64 n], hv =>
  replace hv : s.length ≤ 140737488355328 := hv
  refine ⟨by rw [nt67]; simp, fun C hN Q hQ => ?_⟩
  rw [nt67] at hN
  unfold c67
  refine aw_seq (aw_region (EF := EF0) hG (by rw [hN]; exact tr67_0) ?_)
  simp only [a67_0, go_sem, simprocAttr]
  refine aw_seq ?_
  refine aw_seq (aw_region (EF := EF0) hG (by rw [hN]; exact tr67_1) ?_)
  simp only [a67_1, go_sem, simprocAttr]
  refine aw_block ?_
  refine aw_loop (α := Nat) (fun i => i ≤ s.length ∧ allB capB (s.take i) = true) (fun i => ⟨mkE [(0, .str s), (1, .int .i64 n), (5, .int .i64 i)], mkH []⟩) (fun i => s.length - i) 0 ⟨Nat.zero_le _, rfl⟩ ?_ ?_
  · refine Le.mk _ _ ?_ ?_ rfl <;> simp only [go_sem, simprocAttr] <;> (repeat' apply And.intro) <;> try exact leA
  · rintro i ⟨hi, hp⟩ K hK
    refine aw_seq ?_
    refine aw_seq ?_
    refine aw_region (EF := EF0) hG (by rw [hN]; exact tr67_2) ?_
    simp only [a67_2, go_sem, simprocAttr]
    refine aw_cond (b := _) rfl (fun hc => ?_) (fun hc => ?_)
    · simp only [decide_eq_true_eq, decide_eq_false_iff_not, Bool.and_eq_true, Bool.or_eq_true, Bool.not_eq_true', Bool.not_eq_false', Bool.and_eq_false_iff, Bool.or_eq_false_iff, Int.ofNat_lt, Int.ofNat_le, Nat.not_lt, Nat.not_le, Int.not_lt, Int.not_le] at hc
      refine aw_skip ?_
      simp only [go_sem, simprocAttr]
      refine aw_seq ?_
      refine aw_block ?_
      refine aw_seq ?_
      refine aw_region (EF := EF0) hG (by rw [hN]; exact tr67_4) ?_
      simp only [a67_4, go_sem, simprocAttr, tLetters, gByte, hc]
      refine aw_cond (b := _) rfl (fun hd => ?_) (fun hd => ?_)
      · simp only [decide_eq_true_eq, decide_eq_false_iff_not, Bool.and_eq_true, Bool.or_eq_true, Bool.not_eq_true', Bool.not_eq_false', Bool.and_eq_false_iff, Bool.or_eq_false_iff, Int.ofNat_lt, Int.ofNat_le, Nat.not_lt, Nat.not_le, Int.not_lt, Int.not_le] at hd
        refine aw_seq (aw_region (EF := EF0) hG (by rw [hN]; exact tr67_5) ?_)
        simp only [a67_5, go_sem, simprocAttr]
        refine aw_ret ?_
        show Q _ _
        refine hQ _ _ (.inl rfl) ?_ ?_ ?_ <;> simp only [outφ, outV, AR.res, go_sem, simprocAttr, gLetters]
        rw [allB_no hc hd]
        rfl
      · simp only [decide_eq_true_eq, decide_eq_false_iff_not, Bool.and_eq_true, Bool.or_eq_true, Bool.not_eq_true', Bool.not_eq_false', Bool.and_eq_false_iff, Bool.or_eq_false_iff, Int.ofNat_lt, Int.ofNat_le, Nat.not_lt, Nat.not_le, Int.not_lt, Int.not_le] at hd
        refine aw_skip ?_
        simp only [go_sem, simprocAttr]
        refine aw_region (EF := EF0) hG (by rw [hN]; exact tr67_3) ?_
        simp only [a67_3, go_sem, simprocAttr, inI]
        refine ⟨⟨by omega, by omega⟩, ?_⟩
        refine hK (i + 1) _ ?_ ?_ ?_
        · exact ⟨hc, allB_step hc hp hd⟩
        · omega
        · refine Le.mk _ _ ?_ ?_ rfl <;> simp only [go_sem, simprocAttr] <;> (repeat' apply And.intro) <;> try exact leA
    · simp only [decide_eq_true_eq, decide_eq_false_iff_not, Bool.and_eq_true, Bool.or_eq_true, Bool.not_eq_true', Bool.not_eq_false', Bool.and_eq_false_iff, Bool.or_eq_false_iff, Int.ofNat_lt, Int.ofNat_le, Nat.not_lt, Nat.not_le, Int.not_lt, Int.not_le] at hc
      refine aw_exit ?_
      simp only [go_sem, simprocAttr]
      refine aw_seq (aw_region (EF := EF0) hG (by rw [hN]; exact tr67_6) ?_)
      simp only [a67_6, go_sem, simprocAttr]
      refine aw_ret ?_
      show Q _ _
      refine hQ _ _ (.inl rfl) ?_ ?_ ?_ <;> simp only [outφ, outV, AR.res, go_sem, simprocAttr, gLetters]
      rw [allB_end (Nat.not_lt.2 hc) hp, Bool.true_and]
noncomputable def trClass : Tab
  | 67 => gLetters
  | _ => gNo
theorem trClass_ok : ∀ f, PureC Tryd.prog UT f (trClass f) := fun f => by
  unfold trClass
  split
  · exact rletters_p
  · exact PureC.no
set_option maxHeartbeats 1000000 in
theorem rclass_p : PureC Tryd.prog UT 50 gClass := by
  have hG := trClass_ok
  refine PureC.of_awQ Tryd.func50 body50 nm50 res50 fun vs hv => ?_
  match vs, hv with
  | [.str s], hv =>
  replace hv : s.length ≤ 140737488355328 := hv
  refine ⟨by rw [nt50]; simp, fun C hN Q hQ => ?_⟩
  rw [nt50] at hN
  unfold c50
  refine aw_seq (aw_region (EF := EF0) hG (by rw [hN]; exact tr50_0) ?_)
  simp only [a50_0, go_sem, simprocAttr]
  refine aw_seq (aw_region (EF := EF0) hG (by rw [hN]; exact tr50_1) ?_)
  simp only [a50_1, go_sem, simprocAttr, trClass, gLetters, hv]
  refine aw_ret ?_
  show Q _ _
  refine hQ _ _ (.inl rfl) ?_ ?_ ?_ <;> simp only [outφ, outV, AR.res, go_sem, simprocAttr, gClass, classB]
  rw [Bool.and_comm]
noncomputable def trCode : Tab
  | 32 => (gByte capB)
  | 33 => (gByte digB)
  | _ => gNo
theorem trCode_ok : ∀ f, PureC Tryd.prog UT f (trCode f) := fun f => by
  unfold trCode
  split
  · exact rupper_p
  · exact rdigit_p
  · exact PureC.no
set_option maxHeartbeats 1000000 in
theorem rcode_p : PureC Tryd.prog UT 14 gCode := by
  have hG := trCode_ok
  refine PureC.of_awQ Tryd.func14 body14 nm14 res14 fun vs hv => ?_
  match vs, hv with
  | [.str s, .int .i64 lo, .int .i64 hi], hv =>
  replace hv : s.length ≤ 140737488355328 := hv
  refine ⟨by rw [nt14]; simp, fun C hN Q hQ => ?_⟩
  rw [nt14] at hN
  unfold c14
  refine aw_seq (aw_region (EF := EF0) hG (by rw [hN]; exact tr14_0) ?_)
  simp only [a14_0, go_sem, simprocAttr]
  refine aw_seq ?_
  refine aw_seq (aw_region (EF := EF0) hG (by rw [hN]; exact tr14_1) ?_)
  simp only [a14_1, go_sem, simprocAttr]
  refine aw_block ?_
  refine aw_loop (α := Nat) (fun i => i ≤ s.length ∧ allB codB (s.take i) = true) (fun i => ⟨mkE [(0, .str s), (1, .int .i64 lo), (2, .int .i64 hi), (7, .int .i64 i)], mkH []⟩) (fun i => s.length - i) 0 ⟨Nat.zero_le _, rfl⟩ ?_ ?_
  · refine Le.mk _ _ ?_ ?_ rfl <;> simp only [go_sem, simprocAttr] <;> (repeat' apply And.intro) <;> try exact leA
  · rintro i ⟨hi, hp⟩ K hK
    refine aw_seq ?_
    refine aw_seq ?_
    refine aw_region (EF := EF0) hG (by rw [hN]; exact tr14_2) ?_
    simp only [a14_2, go_sem, simprocAttr]
    refine aw_cond (b := _) rfl (fun hc => ?_) (fun hc => ?_)
    · simp only [decide_eq_true_eq, decide_eq_false_iff_not, Bool.and_eq_true, Bool.or_eq_true, Bool.not_eq_true', Bool.not_eq_false', Bool.and_eq_false_iff, Bool.or_eq_false_iff, Int.ofNat_lt, Int.ofNat_le, Nat.not_lt, Nat.not_le, Int.not_lt, Int.not_le] at hc
      refine aw_skip ?_
      simp only [go_sem, simprocAttr]
      refine aw_seq ?_
      refine aw_block ?_
      refine aw_seq ?_
      refine aw_region (EF := EF0) hG (by rw [hN]; exact tr14_4) ?_
      simp only [a14_4, go_sem, simprocAttr, trCode, gByte, hc]
      refine aw_cond (b := _) rfl (fun hd => ?_) (fun hd => ?_)
      · simp only [decide_eq_true_eq, decide_eq_false_iff_not, Bool.and_eq_true, Bool.or_eq_true, Bool.not_eq_true', Bool.not_eq_false', Bool.and_eq_false_iff, Bool.or_eq_false_iff, Int.ofNat_lt, Int.ofNat_le, Nat.not_lt, Nat.not_le, Int.not_lt, Int.not_le] at hd
        refine aw_seq (aw_region (EF := EF0) hG (by rw [hN]; exact tr14_5) ?_)
        simp only [a14_5, go_sem, simprocAttr]
        refine aw_ret ?_
        show Q _ _
        refine hQ _ _ (.inl rfl) ?_ ?_ ?_ <;> simp only [outφ, outV, AR.res, go_sem, simprocAttr, gCode, codeB]
        rw [allB_no hc (p := codB) (by simpa [codB] using hd), Bool.and_false]
      · simp only [decide_eq_true_eq, decide_eq_false_iff_not, Bool.and_eq_true, Bool.or_eq_true, Bool.not_eq_true', Bool.not_eq_false', Bool.and_eq_false_iff, Bool.or_eq_false_iff, Int.ofNat_lt, Int.ofNat_le, Nat.not_lt, Nat.not_le, Int.not_lt, Int.not_le] at hd
        refine aw_skip ?_
        simp only [go_sem, simprocAttr]
        refine aw_region (EF := EF0) hG (by rw [hN]; exact tr14_3) ?_
        simp only [a14_3, go_sem, simprocAttr, inI]
        refine ⟨⟨by omega, by omega⟩, ?_⟩
        refine hK (i + 1) _ ?_ ?_ ?_
        · exact ⟨hc, allB_step hc hp (by simpa [codB] using hd)⟩
        · omega
        · refine Le.mk _ _ ?_ ?_ rfl <;> simp only [go_sem, simprocAttr] <;> (repeat' apply And.intro) <;> try exact leA
    · simp only [decide_eq_true_eq, decide_eq_false_iff_not, Bool.and_eq_true, Bool.or_eq_true, Bool.not_eq_true', Bool.not_eq_false', Bool.and_eq_false_iff, Bool.or_eq_false_iff, Int.ofNat_lt, Int.ofNat_le, Nat.not_lt, Nat.not_le, Int.not_lt, Int.not_le] at hc
      refine aw_exit ?_
      simp only [go_sem, simprocAttr]
      refine aw_seq (aw_region (EF := EF0) hG (by rw [hN]; exact tr14_6) ?_)
      simp only [a14_6, go_sem, simprocAttr]
      refine aw_ret ?_
      show Q _ _
      refine hQ _ _ (.inl rfl) ?_ ?_ ?_ <;> simp only [outφ, outV, AR.res, go_sem, simprocAttr, gCode, codeB]
      rw [allB_end (Nat.not_lt.2 hc) hp, Bool.and_true]
theorem below_growDrew {w : World} {k : Nat} {os : Array Obj} : Below w.heap.size w (Sort.grow (w.drewN k) os) := by
  refine ⟨rfl, rfl, rfl, ?_, fun i hi => ?_⟩
  · show w.heap.size ≤ (w.heap ++ os).size; simp
  · show (w.heap ++ os)[i]? = w.heap[i]?
    exact Array.getElem?_append_left hi
def gDec : List V → Prop × V
  | [.int .i64 n] => (inI n, .str (dec n))
  | _ => (False, .any)
theorem itoa_p : PureC Tryd.prog UT 58 gDec := by
  refine PureC.leaf Tryd.func58 (by kernel_rfl : Tryd.f58.body = some ((Tryd.f58.body).getD .skip)) (by kernel_rfl) fun vs M w cargs hv hB hs ha => ?_
  match vs, hv, hs, ha with
  | [.int .i64 n], hv, hs, ha =>
  have h0 := (ha 0 _ rfl).int_inv
  have h1 := args_one hs
  rw [h0] at h1
  rw [h1]
  refine (Tryd.strconv_Itoa n hv.1 hv.2 w (utW hB)).mono ?_
  rintro e w' ⟨he, k, os, hw⟩
  exact ⟨_, he, fun M' => .str _, by rw [hw]; exact below_growDrew⟩
noncomputable def tDec : Tab
  | 58 => gDec
  | _ => gNo
theorem tDec_ok : ∀ f, PureC Tryd.prog UT f (tDec f) := fun f => by
  unfold tDec
  split
  · exact itoa_p
  · exact PureC.no
set_option maxHeartbeats 1000000 in
theorem decimal_p : PureC Tryd.prog UT 40 gDec := by
  have hG := tDec_ok
  refine PureC.of_awQ Tryd.func40 body40 nm40 res40 fun vs hv => ?_
  match vs, hv with
  | [.int .i64 n], hv =>
  replace hv : inI n := hv
  refine ⟨by rw [nt40]; simp, fun C hN Q hQ => ?_⟩
  rw [nt40] at hN
  unfold c40
  refine aw_seq (aw_region (EF := EF0) hG (by rw [hN]; exact tr40_0) ?_)
  simp only [a40_0, go_sem, simprocAttr]
  refine aw_seq (aw_region (EF := EF0) hG (by rw [hN]; exact tr40_1) ?_)
  simp only [a40_1, go_sem, simprocAttr, tDec, gDec, hv]
  refine aw_ret ?_
  show Q _ _
  refine hQ _ _ (.inl rfl) ?_ ?_ ?_ <;> simp only [outφ, outV, AR.res, go_sem, simprocAttr, gDec]
def gDigK (k : Nat) : List V → Prop × V
  | [.int .u64 n] => (0 ≤ n ∧ n < 10 ^ k ∧ n ≤ 18446744073709551615, .str (Lib.decDigits n.toNat))
  | _ => (False, .any)
def tDigK : Nat → Tab
  | 0 => fun _ => gNo
  | k + 1 => fun f => if f = 49 then gDigK k else gNo
set_option maxHeartbeats 1000000 in
theorem rdigits_k (k : Nat) (hG : ∀ f, PureC Tryd.prog UT f (tDigK k f)) : PureC Tryd.prog UT 49 (gDigK k) := by
  refine PureC.of_awQ Tryd.func49 body49 nm49 res49 fun vs hv => ?_
  match vs, hv with
  | [.int .u64 n], hv =>
  replace hv : 0 ≤ n ∧ n < 10 ^ k ∧ n ≤ 18446744073709551615 := hv
  obtain ⟨h0, h1, h2⟩ := hv
  refine ⟨by rw [nt49]; simp, fun C hN Q hQ => ?_⟩
  rw [nt49] at hN
  unfold c49
  refine aw_seq (aw_region (EF := EF0) hG (by rw [hN]; exact tr49_0) ?_)
  simp only [a49_0, go_sem, simprocAttr]
  refine aw_seq ?_
  refine aw_seq (aw_region (EF := EF0) hG (by rw [hN]; exact tr49_1) ?_)
  simp only [a49_1, go_sem, simprocAttr]
  refine aw_cond (b := _) rfl (fun hc => ?_) (fun hc => ?_)
  · simp only [decide_eq_true_eq, decide_eq_false_iff_not, Bool.and_eq_true, Bool.or_eq_true, Bool.not_eq_true', Bool.not_eq_false', Bool.and_eq_false_iff, Bool.or_eq_false_iff, Int.ofNat_lt, Int.ofNat_le, Nat.not_lt, Nat.not_le, Int.not_lt, Int.not_le] at hc
    refine aw_seq (aw_region (EF := EF0) hG (by rw [hN]; exact tr49_2) ?_)
    simp only [a49_2, go_sem, simprocAttr, inK_u64]
    (repeat' apply And.intro) <;> try exact sdA
    refine aw_ret ?_
    show Q _ _
    refine hQ _ _ (.inl rfl) ?_ ?_ ?_ <;> simp only [outφ, outV, AR.res, go_sem, simprocAttr, gDigK]
    rw [show [48, 49, 50, 51, 52, 53, 54, 55, 56, 57] = tens from rfl, digit_cut h0 (by omega), dd_small hc]
  · simp only [decide_eq_true_eq, decide_eq_false_iff_not, Bool.and_eq_true, Bool.or_eq_true, Bool.not_eq_true', Bool.not_eq_false', Bool.and_eq_false_iff, Bool.or_eq_false_iff, Int.ofNat_lt, Int.ofNat_le, Nat.not_lt, Nat.not_le, Int.not_lt, Int.not_le] at hc
    refine aw_skip ?_
    simp only [go_sem, simprocAttr]
    have hq : (tDigK k 49 [.int .u64 (n / 10)]).1 ∧ (tDigK k 49 [.int .u64 (n / 10)]).2 = .str (Lib.decDigits (n / 10).toNat) := by
      cases k with
      | zero => exfalso; simp at h1; omega
      | succ k =>
        refine ⟨⟨by omega, ?_, by omega⟩, rfl⟩
        rw [Int.pow_succ] at h1
        omega
    have hl := dd_len (n := n / 10) (by omega)
    refine aw_seq (aw_regionD (EF := EF0) hG mixed (by rw [hN]; exact tr49_3) ok49_3 ?_)
    simp only [a49_3, d49_3, go_sem, simprocAttr, inK_u64, hq.1, hq.2]
    rw [show [48, 49, 50, 51, 52, 53, 54, 55, 56, 57] = tens from rfl, digit_cut (by omega : 0 ≤ n % 10) (by omega)]
    (repeat' apply And.intro) <;> (try first | omega | ((fail_if_success refine idW ?_); (fail_if_success refine idS ?_); intros; (repeat' apply And.intro) <;> first | assumption | omega | (simp_all; done)) | (rw [List.length_append]; simp only [List.length_cons, List.length_nil]; omega))
    refine aw_ret ?_
    show Q _ _
    refine hQ _ _ (.inl rfl) ?_ ?_ ?_ <;> simp only [outφ, outV, AR.res, go_sem, simprocAttr, gDigK]
    rw [dd_big hc]
theorem rdigits_all : ∀ k, PureC Tryd.prog UT 49 (gDigK k)
  | 0 => rdigits_k 0 fun _ => PureC.no
  | k + 1 => rdigits_k (k + 1) fun f => by
    show PureC Tryd.prog UT f (if f = 49 then gDigK k else gNo)
    by_cases h : f = 49
    · subst h; rw [if_pos rfl]; exact rdigits_all k
    · rw [if_neg h]; exact PureC.no
def gDigits : List V → Prop × V
  | [.int .u64 n] => (0 ≤ n ∧ n ≤ 18446744073709551615, .str (Lib.decDigits n.toNat))
  | _ => (False, .any)
theorem rdigits_p : PureC Tryd.prog UT 49 gDigits := (rdigits_all 20).sub fun vs hv => by
  match vs, hv with
  | [.int .u64 n], hv => exact ⟨⟨hv.1, Int.lt_of_le_of_lt hv.2 (by decide), hv.2⟩, rfl⟩
def gRDec : List V → Prop × V
  | [.int .i64 n] => (inI n, .str (dec n))
  | _ => (False, .any)
noncomputable def trDec : Tab
  | 49 => gDigits
  | _ => gNo
theorem trDec_ok : ∀ f, PureC Tryd.prog UT f (trDec f) := fun f => by
  unfold trDec
  split
  · exact rdigits_p
  · exact PureC.no
set_option maxHeartbeats 1000000 in
theorem rdecimal_p : PureC Tryd.prog UT 31 gRDec := by
  have hG := trDec_ok
  refine PureC.of_awQ Tryd.func31 body31 nm31 res31 fun vs hv => ?_
  match vs, hv with
  | [.int .i64 n], hv =>
  replace hv : inI n := hv
  obtain ⟨h0, h1⟩ := hv
  refine ⟨by rw [nt31]; simp, fun C hN Q hQ => ?_⟩
  rw [nt31] at hN
  unfold c31
  refine aw_seq (aw_region (EF := EF0) hG (by rw [hN]; exact tr31_0) ?_)
  simp only [a31_0, go_sem, simprocAttr]
  refine aw_seq ?_
  refine aw_seq (aw_region (EF := EF0) hG (by rw [hN]; exact tr31_1) ?_)
  simp only [a31_1, go_sem, simprocAttr]
  refine aw_cond (b := _) rfl (fun hc => ?_) (fun hc => ?_)
  · simp only [decide_eq_true_eq, decide_eq_false_iff_not, Bool.and_eq_true, Bool.or_eq_true, Bool.not_eq_true', Bool.not_eq_false', Bool.and_eq_false_iff, Bool.or_eq_false_iff, Int.ofNat_lt, Int.ofNat_le, Nat.not_lt, Nat.not_le, Int.not_lt, Int.not_le] at hc
    have hl := dd_len (n := -(n + 1) + 1) (by omega)
    refine aw_seq (aw_region (EF := EF0) hG (by rw [hN]; exact tr31_2) ?_)
    simp only [a31_2, go_sem, simprocAttr, inK_u64, inI, trDec, gDigits]
    (repeat' apply And.intro) <;> try exact sdA
    refine aw_ret ?_
    show Q _ _
    refine hQ _ _ (.inl rfl) ?_ ?_ ?_ <;> simp only [outφ, outV, AR.res, go_sem, simprocAttr, gRDec, dec, Lib.itoa]
    rw [if_pos hc, show (-(n + 1) + 1).toNat = n.natAbs by omega]
  · simp only [decide_eq_true_eq, decide_eq_false_iff_not, Bool.and_eq_true, Bool.or_eq_true, Bool.not_eq_true', Bool.not_eq_false', Bool.and_eq_false_iff, Bool.or_eq_false_iff, Int.ofNat_lt, Int.ofNat_le, Nat.not_lt, Nat.not_le, Int.not_lt, Int.not_le] at hc
    refine aw_skip ?_
    simp only [go_sem, simprocAttr]
    refine aw_seq (aw_region (EF := EF0) hG (by rw [hN]; exact tr31_3) ?_)
    simp only [a31_3, go_sem, simprocAttr, inK_u64, trDec, gDigits]
    (repeat' apply And.intro) <;> try exact sdA
    refine aw_ret ?_
    show Q _ _
    refine hQ _ _ (.inl rfl) ?_ ?_ ?_ <;> simp only [outφ, outV, AR.res, go_sem, simprocAttr, gRDec, dec, Lib.itoa]
    rw [if_neg (by omega)]
set_option linter.unusedSimpArgs false
set_option linter.unusedVariables false
set_option linter.deprecated false
structure Fault where
  err : Int
  pos : List UInt8
def Fault.enc (f : Fault) : List V := [.int .i64 f.err, .str f.pos]
def fIf (b : Bool) (e : Int) (pos : List UInt8) : List Fault := if b then [⟨e, pos⟩] else []
def at1 (path word : List UInt8) (i : Nat) : List UInt8 := (if path = [] then [] else path ++ [32]) ++ word ++ [32] ++ dec i
theorem dec_lenN {i : Nat} (h : i ≤ 1000000) : (dec (i : Int)).length ≤ 21 := dec_len ⟨by omega, by omega⟩
theorem getD_lt {α : Type} (l : List α) (k : Nat) (d : α) (h : k < l.length) : l.getD k d = l[k] := by
  rw [List.getD_eq_getElem?_getD, List.getElem?_eq_getElem h]; rfl
def faults (l : List Fault) : List (List V) := l.map Fault.enc
theorem faults_len (l : List Fault) : (faults l).length = l.length := List.length_map _
theorem faults_pur (l : List Fault) : ∀ r ∈ faults l, V.purs r = true := by
  intro r hr
  obtain ⟨n, _, rfl⟩ := List.mem_map.1 hr
  rfl
theorem faults_purT (l : List Fault) : (∀ r ∈ faults l, V.purs r = true) ↔ True := iff_true_intro (faults_pur l)
theorem faults_snoc (l : List Fault) (e : Int) (p : List UInt8) : faults l ++ [[.int .i64 e, .str p]] = faults (l ++ [⟨e, p⟩]) := by unfold faults; rw [List.map_append]; rfl
theorem faults_app (l r : List Fault) : faults l ++ faults r = faults (l ++ r) := by unfold faults; rw [List.map_append]
theorem faults_two (l : List Fault) : ∀ r ∈ faults l, r.length = 2 := by
  intro r hr
  obtain ⟨n, _, rfl⟩ := List.mem_map.1 hr
  rfl
theorem faults_twoT (l : List Fault) : (∀ r ∈ faults l, r.length = 2) ↔ True := iff_true_intro (faults_two l)
attribute [go_sem] faults_len faults_purT faults_snoc faults_app faults_twoT
theorem fIf_t {b : Bool} {e : Int} {p : List UInt8} (h : b = true) : fIf b e p = [⟨e, p⟩] := by rw [h]; rfl
theorem fIf_f {b : Bool} {e : Int} {p : List UInt8} (h : b = false) : fIf b e p = [] := by rw [h]; rfl
theorem fIf_len (b : Bool) (e : Int) (p : List UInt8) : (fIf b e p).length ≤ 1 := by unfold fIf; split <;> simp
theorem at1_len (p w : List UInt8) {i : Nat} (h : i ≤ 1000000) : (at1 p w i).length ≤ p.length + w.length + 30 := by
  have := dec_lenN h
  unfold at1
  split <;> simp only [List.length_append, List.length_cons, List.length_nil] <;> omega
theorem getD_mem {α : Type} (l : List α) (k : Nat) (d : α) (P : α → Prop) (hd : P d) (h : ∀ x ∈ l, P x) : P (l.getD k d) := by
  by_cases hk : k < l.length
  · rw [getD_lt l k d hk]; exact h _ (List.getElem_mem hk)
  · rw [List.getD_eq_getElem?_getD, List.getElem?_eq_none (by omega)]; exact hd
theorem take_all {α : Type} {p : α → Prop} {l : List α} {i : Nat} (hi : i < l.length) (hp : ∀ c ∈ l.take i, p c) (h : p l[i]) : ∀ c ∈ l.take (i + 1), p c := by
  intro c hc
  rw [List.take_succ_eq_append_getElem hi, List.mem_append, List.mem_singleton] at hc
  rcases hc with hc | rfl
  · exact hp c hc
  · exact h
theorem Fault.inj (a b : Fault) (h : a.enc = b.enc) : a = b := by
  cases a; cases b
  simp only [Fault.enc, List.cons.injEq, V.int.injEq, V.str.injEq, and_true, true_and] at h
  obtain ⟨rfl, rfl⟩ := h; rfl
set_option linter.unusedSimpArgs false
set_option linter.unusedVariables false
set_option linter.deprecated false
def strs (l : List (List UInt8)) : List (List V) := l.map fun s => [.str s]
theorem strs_len (l : List (List UInt8)) : (strs l).length = l.length := List.length_map _
theorem strs_getD (l : List (List UInt8)) (i : Nat) (d : List V) (h : i < l.length) : (strs l).getD i d = [.str l[i]] := by
  unfold strs
  rw [List.getD_eq_getElem?_getD, List.getElem?_map, List.getElem?_eq_getElem h]; rfl
theorem strs_pur (l : List (List UInt8)) : ∀ r ∈ strs l, V.purs r = true := by
  intro r hr
  obtain ⟨n, _, rfl⟩ := List.mem_map.1 hr
  rfl
theorem strs_purT (l : List (List UInt8)) : (∀ r ∈ strs l, V.purs r = true) ↔ True := iff_true_intro (strs_pur l)
theorem strs_one (l : List (List UInt8)) : ∀ r ∈ strs l, r.length = 1 := by
  intro r hr
  obtain ⟨n, _, rfl⟩ := List.mem_map.1 hr
  rfl
theorem strs_oneT (l : List (List UInt8)) : (∀ r ∈ strs l, r.length = 1) ↔ True := iff_true_intro (strs_one l)
theorem strs_inj {l r : List (List UInt8)} (h : strs l = strs r) : l = r := map_inj' (fun a b h => by simpa using h) h
def ints (l : List Int) : List (List V) := l.map fun n => [.int .i64 n]
theorem ints_len (l : List Int) : (ints l).length = l.length := List.length_map _
theorem ints_set (l : List Int) (i : Nat) (v : Int) : (ints l).set i [.int .i64 v] = ints (l.set i v) := by unfold ints; rw [List.map_set]
theorem ints_pur (l : List Int) : ∀ r ∈ ints l, V.purs r = true := by
  intro r hr
  obtain ⟨n, _, rfl⟩ := List.mem_map.1 hr
  rfl
theorem ints_purT (l : List Int) : (∀ r ∈ ints l, V.purs r = true) ↔ True := iff_true_intro (ints_pur l)
theorem ints_one (l : List Int) : ∀ r ∈ ints l, r.length = 1 := by
  intro r hr
  obtain ⟨n, _, rfl⟩ := List.mem_map.1 hr
  rfl
theorem ints_oneT (l : List Int) : (∀ r ∈ ints l, r.length = 1) ↔ True := iff_true_intro (ints_one l)
theorem ints_inj {l r : List Int} (h : ints l = ints r) : l = r := map_inj' (fun a b h => by simpa using h) h
theorem ints_zero (n : Nat) : List.replicate n [V.int .i64 0] = ints (List.replicate n 0) := by unfold ints; rw [List.map_replicate]
theorem ints_nil : ints [] = [] := rfl
attribute [go_sem] strs_len strs_purT strs_oneT ints_len ints_purT ints_oneT
theorem purs_snoc (a : List (List V)) (r : List V) : (∀ x ∈ a ++ [r], V.purs x = true) ↔ (∀ x ∈ a, V.purs x = true) ∧ V.purs r = true := by
  simp only [List.forall_mem_append, List.mem_singleton, forall_eq]
theorem lens_snoc (a : List (List V)) (r : List V) (n : Nat) : (∀ x ∈ a ++ [r], x.length = n) ↔ (∀ x ∈ a, x.length = n) ∧ r.length = n := by
  simp only [List.forall_mem_append, List.mem_singleton, forall_eq]
attribute [go_sem] purs_snoc lens_snoc
theorem getD_mapd {α : Type} (f : α → List V) (l : List α) (i : Nat) (d : List V) (h : i < l.length) : (l.map f).getD i d = f l[i] := by
  rw [List.getD_eq_getElem?_getD, List.getElem?_map, List.getElem?_eq_getElem h]; rfl
theorem take_set {α : Type} (xs : List α) (i : Nat) (v : α) (h : i < xs.length) : (xs.set i v).take (i + 1) = xs.take i ++ [v] := by
  rw [List.take_succ_eq_append_getElem (by simpa using h), List.take_set, List.set_eq_of_length_le (by simp; omega)]
  simp
theorem take_succ' {α : Type} {l : List α} {i : Nat} (h : i < l.length) : l.take (i + 1) = l.take i ++ [l[i]] := List.take_succ_eq_append_getElem h
def fTrue {α : Type} (_ : α) : Prop × V := (True, .bool true)
def aUnit (_ : Unit) : List V := []
theorem aUnit_inj (a b : Unit) (_ : aUnit a = aUnit b) : a = b := rfl
theorem fTrue_eq : gOf aUnit fTrue [] = (True, .bool true) := gOf_eq aUnit_inj ()
set_option linter.unusedSimpArgs false
set_option linter.unusedVariables false
set_option linter.deprecated false
structure Class where
  code : List UInt8
  prot : Int
structure Cabin where
  name : List UInt8
  seats : Int
  over : Int
  cl : List Class
structure Config where
  equip : List UInt8
  cabs : List Cabin
def Class.enc (z : Class) : List V := [.str z.code, .int .i64 z.prot]
def Cabin.enc (y : Cabin) : List V := [.str y.name, .int .i64 y.seats, .int .i64 y.over, .list (y.cl.map Class.enc) false]
def Config.enc (c : Config) : List V := [.str c.equip, .list (c.cabs.map Cabin.enc) false]
theorem Class.inj (a b : Class) (h : a.enc = b.enc) : a = b := by
  cases a; cases b
  simp only [Class.enc, List.cons.injEq, V.str.injEq, V.int.injEq, true_and, and_true] at h
  obtain ⟨rfl, rfl⟩ := h; rfl
theorem Cabin.inj (a b : Cabin) (h : a.enc = b.enc) : a = b := by
  cases a; cases b
  simp only [Cabin.enc, List.cons.injEq, V.str.injEq, V.int.injEq, V.list.injEq, true_and, and_true] at h
  obtain ⟨rfl, rfl, rfl, h⟩ := h
  rw [map_inj' Class.inj h]
theorem Config.inj (a b : Config) (h : a.enc = b.enc) : a = b := by
  cases a; cases b
  simp only [Config.enc, List.cons.injEq, V.str.injEq, V.list.injEq, and_true] at h
  obtain ⟨rfl, h⟩ := h
  rw [map_inj' Cabin.inj h]
def Class.ok (z : Class) : Prop := z.code.length ≤ 140737488355328 ∧ inI z.prot
def Cabin.ok (y : Cabin) : Prop := y.name.length ≤ 140737488355328 ∧ inI y.seats ∧ inI y.over ∧ y.cl.length ≤ 140737488355328 ∧ ∀ z ∈ y.cl, z.ok
def Config.ok (c : Config) : Prop := c.equip.length ≤ 140737488355328 ∧ c.cabs.length ≤ 140737488355328 ∧ ∀ y ∈ c.cabs, y.ok
def find (l : List Config) (e : List UInt8) : Option Config := l.find? fun c => decide (c.equip = e)
def zConf : Config := ⟨[], []⟩
def aFind (x : List Config × List UInt8) : List V := [.list (x.1.map Config.enc) false, .str x.2]
theorem aFind_inj (a b : List Config × List UInt8) (h : aFind a = aFind b) : a = b := by
  cases a; cases b
  simp only [aFind, List.cons.injEq, V.str.injEq, V.list.injEq, and_true] at h
  obtain ⟨h, rfl⟩ := h
  rw [map_inj' Config.inj h]
def fFind (x : List Config × List UInt8) : Prop × V := (x.1.length ≤ 140737488355328, .tup [.agg ((find x.1 x.2).getD zConf).enc, .bool (find x.1 x.2).isSome])
theorem find_at {l : List Config} {e : List UInt8} {i : Nat} (hi : i < l.length) (hp : ∀ c ∈ l.take i, c.equip ≠ e) (h : l[i].equip = e) : find l e = some l[i] := by
  have e1 : find l e = (l.take i ++ l.drop i).find? fun c => decide (c.equip = e) := by rw [List.take_append_drop]; rfl
  rw [e1, List.find?_append, List.find?_eq_none.2 (fun c hc => by simpa using hp c hc), Option.none_or, List.drop_eq_getElem_cons hi, List.find?_cons_of_pos (by simpa using h)]
theorem find_no {l : List Config} {e : List UInt8} {i : Nat} (hi : l.length ≤ i) (hp : ∀ c ∈ l.take i, c.equip ≠ e) : find l e = none := by
  rw [List.take_of_length_le hi] at hp
  exact List.find?_eq_none.2 fun c hc => by simpa using hp c hc
set_option maxHeartbeats 1000000 in
theorem find_p : PureC Tryd.prog UT 21 (gOf aFind fFind) := by
  have hG := tNo_ok
  refine PureC.ofArgs aFind_inj Tryd.func21 body21 nm21 res21 ?_
  rintro ⟨l, e⟩ hv
  refine ⟨by rw [nt21]; simp [aFind], fun C hN Q hQ => ?_⟩
  rw [nt21] at hN
  unfold c21
  replace hv : l.length ≤ 140737488355328 := hv
  refine aw_seq (aw_region (EF := EF0) hG (by rw [hN]; exact tr21_0) ?_)
  simp only [a21_0, go_sem, simprocAttr, aFind]
  refine aw_seq ?_
  refine aw_seq (aw_region (EF := EF0) hG (by rw [hN]; exact tr21_1) ?_)
  simp only [a21_1, go_sem, simprocAttr]
  refine aw_block ?_
  refine aw_loop (α := Nat) (fun i => i ≤ l.length ∧ ∀ c ∈ l.take i, c.equip ≠ e) (fun i => ⟨mkE [(1, .str e), (4, .ptr 4 0), (5, .bool false), (8, .list (l.map Config.enc) false), (9, .int .i64 l.length), (10, .int .i64 i)], mkH [(4, .box 48 [.str [], .nils])]⟩) (fun i => l.length - i) 0 ⟨Nat.zero_le _, by simp⟩ ?_ ?_
  · refine Le.mk _ _ ?_ ?_ rfl <;> simp only [go_sem, simprocAttr] <;> (repeat' apply And.intro) <;> try exact leA
  · rintro i ⟨hi, hp⟩ K hK
    refine aw_seq ?_
    refine aw_region (EF := EF0) hG (by rw [hN]; exact tr21_2) ?_
    simp only [a21_2, go_sem, simprocAttr]
    refine aw_seq ?_
    refine aw_cond (b := _) rfl (fun hc => ?_) (fun hc => ?_)
    · simp only [decide_eq_true_eq, decide_eq_false_iff_not, Bool.and_eq_true, Bool.or_eq_true, Bool.not_eq_true', Bool.not_eq_false', Bool.and_eq_false_iff, Bool.or_eq_false_iff, Int.ofNat_lt, Int.ofNat_le, Nat.not_lt, Nat.not_le, Int.not_lt, Int.not_le] at hc
      refine aw_skip ?_
      simp only [go_sem, simprocAttr]
      refine aw_seq ?_
      refine aw_block ?_
      refine aw_seq (aw_region (EF := EF0) hG (by rw [hN]; exact tr21_3) ?_)
      simp only [a21_3, go_sem, simprocAttr, getD_map _ _ _ hc, hc, Config.enc]
      refine aw_seq (aw_region (EF := EF0) hG (by rw [hN]; exact tr21_4) ?_)
      simp only [a21_4, go_sem, simprocAttr]
      refine aw_cond (b := _) rfl (fun hd => ?_) (fun hd => ?_)
      · simp only [decide_eq_true_eq, decide_eq_false_iff_not, Bool.and_eq_true, Bool.or_eq_true, Bool.not_eq_true', Bool.not_eq_false', Bool.and_eq_false_iff, Bool.or_eq_false_iff, Int.ofNat_lt, Int.ofNat_le, Nat.not_lt, Nat.not_le, Int.not_lt, Int.not_le] at hd
        refine aw_seq (aw_region (EF := EF0) hG (by rw [hN]; exact tr21_5) ?_)
        simp only [a21_5, go_sem, simprocAttr]
        refine aw_ret ?_
        show Q _ _
        refine hQ _ _ (.inl rfl) ?_ ?_ ?_ <;> simp only [outφ, outV, AR.res, go_sem, simprocAttr, fFind, find_at hc hp hd, Config.enc, Option.getD_some, Option.isSome_some]
      · simp only [decide_eq_true_eq, decide_eq_false_iff_not, Bool.and_eq_true, Bool.or_eq_true, Bool.not_eq_true', Bool.not_eq_false', Bool.and_eq_false_iff, Bool.or_eq_false_iff, Int.ofNat_lt, Int.ofNat_le, Nat.not_lt, Nat.not_le, Int.not_lt, Int.not_le] at hd
        refine aw_skip ?_
        simp only [go_sem, simprocAttr]
        refine aw_region (EF := EF0) hG (by rw [hN]; exact tr21_6) ?_
        simp only [a21_6, go_sem, simprocAttr, inI]
        (repeat' apply And.intro) <;> try exact sdA
        refine hK (i + 1) _ ?_ ?_ ?_
        · exact ⟨hc, take_all hc hp hd⟩
        · omega
        · refine Le.mk _ _ ?_ ?_ rfl <;> simp only [go_sem, simprocAttr] <;> (repeat' apply And.intro) <;> try exact leA
    · simp only [decide_eq_true_eq, decide_eq_false_iff_not, Bool.and_eq_true, Bool.or_eq_true, Bool.not_eq_true', Bool.not_eq_false', Bool.and_eq_false_iff, Bool.or_eq_false_iff, Int.ofNat_lt, Int.ofNat_le, Nat.not_lt, Nat.not_le, Int.not_lt, Int.not_le] at hc
      refine aw_exit ?_
      simp only [go_sem, simprocAttr]
      refine aw_seq (aw_region (EF := EF0) hG (by rw [hN]; exact tr21_7) ?_)
      simp only [a21_7, go_sem, simprocAttr]
      refine AW.le (s' := ⟨mkE [(4, .ptr 4 0), (5, .bool false)], mkH [(4, .box 48 zConf.enc)]⟩) (Le.mk _ _ ?_ ?_ rfl) (aw_ret (hQ _ _ (.inl rfl) ?_ ?_ ?_)) <;> simp only [outφ, outV, AR.res, go_sem, simprocAttr, zConf, Config.enc, fFind, find_no hc hp, Option.getD_none, Option.isSome_none]
set_option linter.unusedSimpArgs false
set_option linter.unusedVariables false
set_option linter.deprecated false
def noCls (s : List UInt8) (y : Cabin) : Prop := ∀ z ∈ y.cl, z.code ≠ s
def idx (l : List Class) (s : List UInt8) : Option Nat := l.findIdx? fun z => decide (z.code = s)
def placeFrom (s : List UInt8) (i : Nat) : List Cabin → Option (Nat × Nat)
  | [] => none
  | y :: ys => match idx y.cl s with
    | some k => some (i, k)
    | none => placeFrom s (i + 1) ys
def place (l : List Cabin) (s : List UInt8) : Option (Nat × Nat) := placeFrom s 0 l
def placeV : Option (Nat × Nat) → V
  | some (i, k) => .tup [.int .i64 i, .int .i64 k, .bool true]
  | none => .tup [.int .i64 0, .int .i64 0, .bool false]
theorem idx_none {s : List UInt8} {y : Cabin} (h : noCls s y) : idx y.cl s = none := by
  unfold idx
  rw [List.findIdx?_eq_none_iff]
  intro x hx
  simpa using h x hx
theorem idx_at {s : List UInt8} {l : List Class} {k : Nat} (hk : k < l.length) (h : ∀ z ∈ l.take k, z.code ≠ s) (hp : l[k].code = s) : idx l s = some k := by
  unfold idx
  rw [List.findIdx?_eq_some_iff_getElem]
  refine ⟨hk, by simpa using hp, fun j hj => ?_⟩
  have := h (l[j]'(by omega)) (by rw [List.mem_take_iff_getElem]; exact ⟨j, by omega, rfl⟩)
  simpa using this
theorem placeFrom_none {s : List UInt8} : ∀ {l : List Cabin} {i : Nat}, (∀ y ∈ l, noCls s y) → placeFrom s i l = none
  | [], _, _ => rfl
  | y :: ys, i, h => by
    rw [placeFrom, idx_none (h y (List.mem_cons_self ..))]
    exact placeFrom_none fun z hz => h z (List.mem_cons_of_mem _ hz)
theorem placeFrom_at {s : List UInt8} : ∀ {l : List Cabin} {i n k : Nat} (hn : n < l.length), (∀ y ∈ l.take n, noCls s y) → idx l[n].cl s = some k → placeFrom s i l = some (i + n, k)
  | [], _, _, _, hn, _, _ => absurd hn (Nat.not_lt_zero _)
  | y :: ys, i, 0, k, _, _, hp => by
    rw [placeFrom]
    simp only [List.getElem_cons_zero] at hp
    rw [hp]; rfl
  | y :: ys, i, n + 1, k, hn, h, hp => by
    simp only [List.take_succ_cons] at h
    rw [placeFrom, idx_none (h y (List.mem_cons_self ..))]
    have := placeFrom_at (i := i + 1) (l := ys) (n := n) (k := k) (by simpa using hn) (fun z hz => h z (List.mem_cons_of_mem _ hz)) (by simpa using hp)
    simp only [this]
    congr 2; omega
theorem place_at {s : List UInt8} {l : List Cabin} {n k : Nat} (hn : n < l.length) (h : ∀ y ∈ l.take n, noCls s y) (hk : k < l[n].cl.length) (h2 : ∀ z ∈ l[n].cl.take k, z.code ≠ s) (hp : l[n].cl[k].code = s) : place l s = some (n, k) := by
  rw [place, placeFrom_at hn h (idx_at hk h2 hp)]; simp
theorem place_none {s : List UInt8} {l : List Cabin} {i : Nat} (hi : l.length ≤ i) (h : ∀ y ∈ l.take i, noCls s y) : place l s = none := by
  rw [List.take_of_length_le hi] at h
  exact placeFrom_none h
theorem noCls_end {s : List UInt8} {y : Cabin} {k : Nat} (hk : y.cl.length ≤ k) (h : ∀ z ∈ y.cl.take k, z.code ≠ s) : noCls s y := by
  rwa [List.take_of_length_le hk] at h
def aPlace (x : Config × List UInt8) : List V := [.agg x.1.enc, .str x.2]
theorem aPlace_inj (a b : Config × List UInt8) (h : aPlace a = aPlace b) : a = b := by
  cases a; cases b
  simp only [aPlace, List.cons.injEq, V.str.injEq, V.agg.injEq, and_true] at h
  obtain ⟨h, rfl⟩ := h
  rw [Config.inj _ _ h]
def fPlace (x : Config × List UInt8) : Prop × V := (x.1.ok, placeV (place x.1.cabs x.2))
set_option maxHeartbeats 1000000 in
theorem place_p : PureC Tryd.prog UT 27 (gOf aPlace fPlace) := by
  have hG := tNo_ok
  refine PureC.ofArgs aPlace_inj Tryd.func27 body27 nm27 res27 ?_
  rintro ⟨⟨q, l⟩, e⟩ hv
  refine ⟨by rw [nt27]; simp [aPlace], fun C hN Q hQ => ?_⟩
  rw [nt27] at hN
  unfold c27
  obtain ⟨_, hv, hy⟩ := (hv : Config.ok ⟨q, l⟩)
  dsimp only at hv hy
  refine aw_seq (aw_region (EF := EF0) hG (by rw [hN]; exact tr27_0) ?_)
  simp only [a27_0, go_sem, simprocAttr, aPlace, Config.enc]
  refine aw_seq ?_
  refine aw_seq (aw_region (EF := EF0) hG (by rw [hN]; exact tr27_1) ?_)
  simp only [a27_1, go_sem, simprocAttr]
  refine aw_block ?_
  refine aw_loop (α := Nat) (fun i => i ≤ l.length ∧ ∀ y ∈ l.take i, noCls e y) (fun i => ⟨mkE [(1, .str e), (12, .list (l.map Cabin.enc) false), (13, .int .i64 l.length), (14, .int .i64 i)], mkH []⟩) (fun i => l.length - i) 0 ⟨Nat.zero_le _, by simp⟩ ?_ ?_
  · refine Le.mk _ _ ?_ ?_ rfl <;> simp only [go_sem, simprocAttr] <;> (repeat' apply And.intro) <;> try exact leA
  · rintro i ⟨hi, hp⟩ K hK
    refine aw_seq ?_
    refine aw_region (EF := EF0) hG (by rw [hN]; exact tr27_2) ?_
    simp only [a27_2, go_sem, simprocAttr]
    refine aw_seq ?_
    refine aw_cond (b := _) rfl (fun hc => ?_) (fun hc => ?_)
    · simp only [decide_eq_true_eq, decide_eq_false_iff_not, Bool.and_eq_true, Bool.or_eq_true, Bool.not_eq_true', Bool.not_eq_false', Bool.and_eq_false_iff, Bool.or_eq_false_iff, Int.ofNat_lt, Int.ofNat_le, Nat.not_lt, Nat.not_le, Int.not_lt, Int.not_le] at hc
      refine aw_skip ?_
      simp only [go_sem, simprocAttr]
      have hyi := (hy _ (List.getElem_mem hc)).2.2.2.1
      generalize hcl : l[i].cl = cl at hyi
      refine aw_seq ?_
      refine aw_block ?_
      refine aw_seq (aw_region (EF := EF0) hG (by rw [hN]; exact tr27_3) ?_)
      simp only [a27_3, go_sem, simprocAttr, getD_map _ _ _ hc, hc, Cabin.enc]
      refine aw_seq (aw_region (EF := EF0) hG (by rw [hN]; exact tr27_4) ?_)
      simp only [a27_4, go_sem, simprocAttr, hcl]
      refine aw_block ?_
      refine aw_loop (α := Nat) (fun k => k ≤ cl.length ∧ ∀ z ∈ cl.take k, z.code ≠ e) (fun k => ⟨mkE [(1, .str e), (7, .int .i64 i), (12, .list (l.map Cabin.enc) false), (13, .int .i64 l.length), (14, .int .i64 i), (20, .list (cl.map Class.enc) false), (21, .int .i64 cl.length), (22, .int .i64 k)], mkH []⟩) (fun k => cl.length - k) 0 ⟨Nat.zero_le _, by simp⟩ ?_ ?_
      · refine Le.mk _ _ ?_ ?_ rfl <;> simp only [go_sem, simprocAttr] <;> (repeat' apply And.intro) <;> try exact leA
      · rintro k ⟨hk, hp2⟩ K2 hK2
        refine aw_seq ?_
        refine aw_region (EF := EF0) hG (by rw [hN]; exact tr27_5) ?_
        simp only [a27_5, go_sem, simprocAttr]
        refine aw_seq ?_
        refine aw_cond (b := _) rfl (fun hc2 => ?_) (fun hc2 => ?_)
        · simp only [decide_eq_true_eq, decide_eq_false_iff_not, Bool.and_eq_true, Bool.or_eq_true, Bool.not_eq_true', Bool.not_eq_false', Bool.and_eq_false_iff, Bool.or_eq_false_iff, Int.ofNat_lt, Int.ofNat_le, Nat.not_lt, Nat.not_le, Int.not_lt, Int.not_le] at hc2
          refine aw_skip ?_
          simp only [go_sem, simprocAttr]
          refine aw_seq ?_
          refine aw_block ?_
          refine aw_seq (aw_region (EF := EF0) hG (by rw [hN]; exact tr27_6) ?_)
          simp only [a27_6, go_sem, simprocAttr, getD_map _ _ _ hc2, hc2, Class.enc]
          refine aw_seq (aw_region (EF := EF0) hG (by rw [hN]; exact tr27_7) ?_)
          simp only [a27_7, go_sem, simprocAttr]
          refine aw_cond (b := _) rfl (fun hd => ?_) (fun hd => ?_)
          · simp only [decide_eq_true_eq, decide_eq_false_iff_not, Bool.and_eq_true, Bool.or_eq_true, Bool.not_eq_true', Bool.not_eq_false', Bool.and_eq_false_iff, Bool.or_eq_false_iff, Int.ofNat_lt, Int.ofNat_le, Nat.not_lt, Nat.not_le, Int.not_lt, Int.not_le] at hd
            refine aw_seq (aw_region (EF := EF0) hG (by rw [hN]; exact tr27_8) ?_)
            simp only [a27_8, go_sem, simprocAttr]
            refine aw_ret ?_
            show Q _ _
            refine hQ _ _ (.inl rfl) ?_ ?_ ?_ <;> simp only [outφ, outV, AR.res, go_sem, simprocAttr, fPlace]
            subst hcl
            rw [place_at hc hp hc2 hp2 hd]
            rfl
          · simp only [decide_eq_true_eq, decide_eq_false_iff_not, Bool.and_eq_true, Bool.or_eq_true, Bool.not_eq_true', Bool.not_eq_false', Bool.and_eq_false_iff, Bool.or_eq_false_iff, Int.ofNat_lt, Int.ofNat_le, Nat.not_lt, Nat.not_le, Int.not_lt, Int.not_le] at hd
            refine aw_skip ?_
            simp only [go_sem, simprocAttr]
            refine aw_region (EF := EF0) hG (by rw [hN]; exact tr27_9) ?_
            simp only [a27_9, go_sem, simprocAttr, inI]
            (repeat' apply And.intro) <;> try exact sdA
            refine hK2 (k + 1) _ ?_ ?_ ?_
            · exact ⟨hc2, take_all hc2 hp2 hd⟩
            · omega
            · refine Le.mk _ _ ?_ ?_ rfl <;> simp only [go_sem, simprocAttr] <;> (repeat' apply And.intro) <;> try exact leA
        · simp only [decide_eq_true_eq, decide_eq_false_iff_not, Bool.and_eq_true, Bool.or_eq_true, Bool.not_eq_true', Bool.not_eq_false', Bool.and_eq_false_iff, Bool.or_eq_false_iff, Int.ofNat_lt, Int.ofNat_le, Nat.not_lt, Nat.not_le, Int.not_lt, Int.not_le] at hc2
          refine aw_exit ?_
          simp only [go_sem, simprocAttr]
          refine aw_region (EF := EF0) hG (by rw [hN]; exact tr27_10) ?_
          simp only [a27_10, go_sem, simprocAttr, inI]
          (repeat' apply And.intro) <;> try exact sdA
          refine hK (i + 1) _ ?_ ?_ ?_
          · subst hcl
            exact ⟨hc, take_all hc hp (noCls_end hc2 hp2)⟩
          · omega
          · refine Le.mk _ _ ?_ ?_ rfl <;> simp only [go_sem, simprocAttr] <;> (repeat' apply And.intro) <;> try exact leA
    · simp only [decide_eq_true_eq, decide_eq_false_iff_not, Bool.and_eq_true, Bool.or_eq_true, Bool.not_eq_true', Bool.not_eq_false', Bool.and_eq_false_iff, Bool.or_eq_false_iff, Int.ofNat_lt, Int.ofNat_le, Nat.not_lt, Nat.not_le, Int.not_lt, Int.not_le] at hc
      refine aw_exit ?_
      simp only [go_sem, simprocAttr]
      refine aw_seq (aw_region (EF := EF0) hG (by rw [hN]; exact tr27_11) ?_)
      simp only [a27_11, go_sem, simprocAttr]
      refine aw_ret ?_
      show Q _ _
      refine hQ _ _ (.inl rfl) ?_ ?_ ?_ <;> simp only [outφ, outV, AR.res, go_sem, simprocAttr, fPlace]
      rw [place_none hc hp]
      rfl
set_option linter.unusedSimpArgs false
set_option linter.unusedVariables false
set_option linter.deprecated false
def aCab (y : Cabin) : List V := [.agg y.enc]
theorem aCab_inj (a b : Cabin) (h : aCab a = aCab b) : a = b := by
  simp only [aCab, List.cons.injEq, V.agg.injEq, and_true] at h
  exact Cabin.inj _ _ h
def auth (y : Cabin) : Int := y.seats + y.over
def fAuth (y : Cabin) : Prop × V := (inI (auth y), .int .i64 (auth y))
set_option maxHeartbeats 1000000 in
theorem auth_p : PureC Tryd.prog UT 64 (gOf aCab fAuth) := by
  have hG := tNo_ok
  refine PureC.ofArgs aCab_inj Tryd.func64 body64 nm64 res64 ?_
  rintro y hv
  refine ⟨by rw [nt64]; simp [aCab], fun C hN Q hQ => ?_⟩
  rw [nt64] at hN
  unfold c64
  replace hv : inI (y.seats + y.over) := hv
  refine aw_seq (aw_region (EF := EF0) hG (by rw [hN]; exact tr64_0) ?_)
  simp only [a64_0, go_sem, simprocAttr, aCab, Cabin.enc]
  refine aw_seq (aw_region (EF := EF0) hG (by rw [hN]; exact tr64_1) ?_)
  simp only [a64_1, go_sem, simprocAttr, hv]
  refine aw_ret ?_
  show Q _ _
  refine hQ _ _ (.inl rfl) ?_ ?_ ?_ <;> simp only [outφ, outV, AR.res, go_sem, simprocAttr, fAuth, auth]
set_option maxHeartbeats 1000000 in
theorem rauth_p : PureC Tryd.prog UT 52 (gOf aCab fAuth) := by
  have hG := tNo_ok
  refine PureC.ofArgs aCab_inj Tryd.func52 body52 nm52 res52 ?_
  rintro y hv
  refine ⟨by rw [nt52]; simp [aCab], fun C hN Q hQ => ?_⟩
  rw [nt52] at hN
  unfold c52
  replace hv : inI (y.seats + y.over) := hv
  refine aw_seq (aw_region (EF := EF0) hG (by rw [hN]; exact tr52_0) ?_)
  simp only [a52_0, go_sem, simprocAttr, aCab, Cabin.enc]
  refine aw_seq (aw_region (EF := EF0) hG (by rw [hN]; exact tr52_1) ?_)
  simp only [a52_1, go_sem, simprocAttr, hv]
  refine aw_ret ?_
  show Q _ _
  refine hQ _ _ (.inl rfl) ?_ ?_ ?_ <;> simp only [outφ, outV, AR.res, go_sem, simprocAttr, fAuth, auth]
def inR (y : Cabin) : Bool := decide (1 ≤ y.seats) && decide (y.seats ≤ 999) && decide (0 ≤ y.over) && decide (y.over ≤ 999)
def fInR (y : Cabin) : Prop × V := (True, .bool (inR y))
set_option maxHeartbeats 1000000 in
theorem inRange_p : PureC Tryd.prog UT 34 (gOf aCab fInR) := by
  have hG := tNo_ok
  refine PureC.ofArgs aCab_inj Tryd.func34 body34 nm34 res34 ?_
  rintro y hv
  refine ⟨by rw [nt34]; simp [aCab], fun C hN Q hQ => ?_⟩
  rw [nt34] at hN
  unfold c34
  refine aw_seq (aw_region (EF := EF0) hG (by rw [hN]; exact tr34_0) ?_)
  simp only [a34_0, go_sem, simprocAttr, aCab, Cabin.enc]
  refine aw_seq (aw_region (EF := EF0) hG (by rw [hN]; exact tr34_1) ?_)
  simp only [a34_1, go_sem, simprocAttr]
  refine aw_ret ?_
  show Q _ _
  refine hQ _ _ (.inl rfl) ?_ ?_ ?_ <;> simp only [outφ, outV, AR.res, go_sem, simprocAttr, fInR, inR]
theorem fAuth_eq (nm : List UInt8) (se ov : Int) (cl : List Class) : gOf aCab fAuth [.agg [.str nm, .int .i64 se, .int .i64 ov, .list (cl.map Class.enc) false]] = (inI (se + ov), .int .i64 (se + ov)) := gOf_eq aCab_inj (⟨nm, se, ov, cl⟩ : Cabin)
theorem ints_getD0 (l : List Int) (i : Nat) (h : i < l.length) : (ints l).getD i [] = [.int .i64 (l.getD i 0)] := by
  unfold ints
  rw [getD_map _ _ _ h, List.getD_eq_getElem?_getD, List.getElem?_eq_getElem h]; rfl
def zClass : Class := ⟨[], 0⟩
def limAt (a : Int) (l : List Class) (i : Nat) : Int := if i = 0 then a else a - (l.getD (i - 1) zClass).prot
def limTo (a : Int) (l : List Class) (k : Nat) : List Int := (List.range k).map (limAt a l)
def limits (y : Cabin) : List Int := limTo (auth y) y.cl y.cl.length
theorem limTo_succ (a : Int) (l : List Class) (k : Nat) : limTo a l (k + 1) = limTo a l k ++ [limAt a l k] := by simp [limTo, List.range_succ]
theorem limTo_len (a : Int) (l : List Class) (k : Nat) : (limTo a l k).length = k := by simp [limTo]
def fLim (y : Cabin) : Prop × V := (y.cl.length ≤ 1000000 ∧ inI (auth y) ∧ ∀ z ∈ y.cl, inI (auth y - z.prot), .list (ints (limits y)) false)
noncomputable def tLim : Tab
  | 64 => (gOf aCab fAuth)
  | _ => gNo
theorem tLim_ok : ∀ f, PureC Tryd.prog UT f (tLim f) := fun f => by
  unfold tLim
  split
  · exact auth_p
  · exact PureC.no
theorem getD_set_self {α : Type} (xs : List α) (i : Nat) (v d : α) (h : i < xs.length) : (xs.set i v).getD i d = v := by
  rw [List.getD_eq_getElem?_getD, List.getElem?_set_self h]; rfl
set_option maxHeartbeats 1000000 in
theorem limits_p : PureC Tryd.prog UT 72 (gOf aCab fLim) := by
  have hG := tLim_ok
  refine PureC.ofArgs aCab_inj Tryd.func72 body72 nm72 res72 ?_
  rintro ⟨nm, se, ov, cl⟩ hv
  refine ⟨by rw [nt72]; simp [aCab], fun C hN Q hQ => ?_⟩
  rw [nt72] at hN
  unfold c72
  obtain ⟨h1, h2, h3⟩ : cl.length ≤ 1000000 ∧ inI (se + ov) ∧ ∀ z ∈ cl, inI (se + ov - z.prot) := hv
  refine aw_seq (aw_region (EF := EF0) hG (by rw [hN]; exact tr72_0) ?_)
  simp only [a72_0, go_sem, simprocAttr, aCab, Cabin.enc]
  refine aw_seq (aw_region (EF := EF0) hG (by rw [hN]; exact tr72_1) ?_)
  simp only [a72_1, go_sem, simprocAttr, ints_zero]
  (repeat' apply And.intro) <;> try exact sdA
  refine aw_seq ?_
  refine aw_seq ?_
  refine aw_region (EF := EF0) hG (by rw [hN]; exact tr72_2) ?_
  simp only [a72_2, go_sem, simprocAttr, List.length_replicate]
  refine aw_block ?_
  refine aw_loop (α := Nat × List Int) (fun g => g.1 ≤ cl.length ∧ g.2.length = cl.length ∧ g.2.take g.1 = limTo (se + ov) cl g.1) (fun g => ⟨mkE [(1, .ptr 1 0), (3, .own 8 cl.length), (10, .int .i64 cl.length), (11, .int .i64 g.1)], mkH [(1, .box 89 [.str nm, .int .i64 se, .int .i64 ov, .list (cl.map Class.enc) false]), (8, .arr 3 1 (ints g.2))]⟩) (fun g => cl.length - g.1) (0, List.replicate cl.length 0) ⟨Nat.zero_le _, by simp, rfl⟩ ?_ ?_
  · refine Le.mk _ _ ?_ ?_ rfl <;> simp only [go_sem, simprocAttr] <;> (repeat' apply And.intro) <;> try exact leA
  · rintro ⟨i, xs⟩ ⟨hi, hl, ht⟩ K hK
    dsimp only at hi hl ht
    refine aw_seq ?_
    refine aw_region (EF := EF0) hG (by rw [hN]; exact tr72_3) ?_
    simp only [a72_3, go_sem, simprocAttr]
    refine aw_seq ?_
    refine aw_cond (b := _) rfl (fun hc => ?_) (fun hc => ?_)
    · simp only [decide_eq_true_eq, decide_eq_false_iff_not, Bool.and_eq_true, Bool.or_eq_true, Bool.not_eq_true', Bool.not_eq_false', Bool.and_eq_false_iff, Bool.or_eq_false_iff, Int.ofNat_lt, Int.ofNat_le, Nat.not_lt, Nat.not_le, Int.not_lt, Int.not_le] at hc
      refine aw_skip ?_
      simp only [go_sem, simprocAttr]
      refine aw_seq ?_
      refine aw_block ?_
      have hix : i < xs.length := by omega
      refine aw_seq (aw_region (EF := EF0) hG (by rw [hN]; exact tr72_4) ?_)
      simp only [a72_4, go_sem, simprocAttr]
      refine aw_seq (aw_region (EF := EF0) hG (by rw [hN]; exact tr72_5) ?_)
      simp only [a72_5, go_sem, simprocAttr, tLim, fAuth_eq, h2, hl, ints_getD0 xs i hix, ints_set]
      (repeat' apply And.intro) <;> try exact sdA
      refine aw_seq (aw_region (EF := EF0) hG (by rw [hN]; exact tr72_6) ?_)
      simp only [a72_6, go_sem, simprocAttr]
      refine aw_cond (b := _) rfl (fun h0 => ?_) (fun h0 => ?_)
      · simp only [decide_eq_true_eq, decide_eq_false_iff_not, Bool.and_eq_true, Bool.or_eq_true, Bool.not_eq_true', Bool.not_eq_false', Bool.and_eq_false_iff, Bool.or_eq_false_iff, Int.ofNat_lt, Int.ofNat_le, Nat.not_lt, Nat.not_le, Int.not_lt, Int.not_le] at h0
        have hz : i - 1 < cl.length := by omega
        have hp := h3 _ (List.getElem_mem hz)
        have e0 : (i : Int) - 1 = ((i - 1 : Nat) : Int) := by omega
        refine aw_regionD (EF := EF0) hG mixed (by rw [hN]; exact tr72_7) ok72_7 ?_
        simp only [a72_7, d72_7, go_sem, simprocAttr, e0, getD_map _ _ _ hz, Class.enc, hz, hp, hl, hc, List.length_set, ints_getD0 (xs.set i (se + ov)) i (by simpa using hix), getD_set_self xs i (se + ov) 0 hix, ints_set, List.set_set]
        (repeat' apply And.intro) <;> (try first | omega | ((fail_if_success refine idW ?_); (fail_if_success refine idS ?_); intros; (repeat' apply And.intro) <;> first | assumption | omega | (simp_all; done)) | (first | omega | (unfold inI; omega)))
        refine aw_region (EF := EF0) hG (by rw [hN]; exact tr72_8) ?_
        simp only [a72_8, go_sem, simprocAttr, inI]
        (repeat' apply And.intro) <;> try exact sdA
        refine hK (i + 1, xs.set i (se + ov - cl[i - 1].prot)) _ ?_ ?_ ?_
        · refine ⟨hc, by rw [List.length_set, hl], ?_⟩
          rw [take_set _ _ _ hix, ht, limTo_succ, limAt, if_neg (by omega), List.getD_eq_getElem?_getD, List.getElem?_eq_getElem hz]; rfl
        · dsimp only; omega
        · refine Le.mk _ _ ?_ ?_ rfl <;> simp only [go_sem, simprocAttr] <;> (repeat' apply And.intro) <;> try exact leA
      · simp only [decide_eq_true_eq, decide_eq_false_iff_not, Bool.and_eq_true, Bool.or_eq_true, Bool.not_eq_true', Bool.not_eq_false', Bool.and_eq_false_iff, Bool.or_eq_false_iff, Int.ofNat_lt, Int.ofNat_le, Nat.not_lt, Nat.not_le, Int.not_lt, Int.not_le] at h0
        refine aw_skip ?_
        simp only [go_sem, simprocAttr]
        refine aw_region (EF := EF0) hG (by rw [hN]; exact tr72_8) ?_
        simp only [a72_8, go_sem, simprocAttr, inI]
        (repeat' apply And.intro) <;> try exact sdA
        refine hK (i + 1, xs.set i (se + ov)) _ ?_ ?_ ?_
        · refine ⟨hc, by rw [List.length_set, hl], ?_⟩
          rw [take_set _ _ _ hix, ht, limTo_succ, limAt, if_pos (by omega)]
        · dsimp only; omega
        · refine Le.mk _ _ ?_ ?_ rfl <;> simp only [go_sem, simprocAttr] <;> (repeat' apply And.intro) <;> try exact leA
    · simp only [decide_eq_true_eq, decide_eq_false_iff_not, Bool.and_eq_true, Bool.or_eq_true, Bool.not_eq_true', Bool.not_eq_false', Bool.and_eq_false_iff, Bool.or_eq_false_iff, Int.ofNat_lt, Int.ofNat_le, Nat.not_lt, Nat.not_le, Int.not_lt, Int.not_le] at hc
      refine aw_exit ?_
      simp only [go_sem, simprocAttr]
      refine aw_seq (aw_region (EF := EF0) hG (by rw [hN]; exact tr72_9) ?_)
      simp only [a72_9, go_sem, simprocAttr]
      refine AW.le (s' := ⟨mkE [(2, .list (ints xs) false)], mkH []⟩) (Le.mk _ _ ?_ ?_ rfl) (aw_ret (hQ _ _ (.inl rfl) ?_ ?_ ?_)) <;> simp only [outφ, outV, AR.res, go_sem, simprocAttr, fLim, limits, auth]
      · exact wk_frz rfl (by rw [ints_len, hl]) rfl (ints_pur _)
      · rw [List.take_of_length_le (by omega)] at ht
        rw [ht, Nat.le_antisymm hi hc]
set_option linter.unusedSimpArgs false
set_option linter.unusedVariables false
set_option linter.deprecated false
theorem fPlace_eq (q : List UInt8) (l : List Cabin) (s : List UInt8) : gOf aPlace fPlace [.agg [.str q, .list (l.map Cabin.enc) false], .str s] = (Config.ok ⟨q, l⟩, placeV (place l s)) := gOf_eq aPlace_inj ((⟨q, l⟩, s) : Config × List UInt8)
def zCabin : Cabin := ⟨[], 0, 0, []⟩
def codes (l : List Class) : List (List UInt8) := l.map Class.code
def prevCodes (l : List Cabin) (k : Nat) : List (List UInt8) := (l.take k).flatMap fun y => codes y.cl
def protBad (y : Cabin) (k : Nat) : Bool :=
  let z := y.cl.getD k zClass
  decide (z.prot < 0) || (decide (0 < k) && decide (z.prot < (y.cl.getD (k - 1) zClass).prot)) || (inR y && decide (auth y < z.prot))
def sClass : List UInt8 := [99, 108, 97, 115, 115]
def sCabin : List UInt8 := [99, 97, 98, 105, 110]
def sConfig : List UInt8 := [99, 111, 110, 102, 105, 103]
def clsOne (y : Cabin) (path : List UInt8) (prev : List (List UInt8)) (k : Nat) : List Fault :=
  let z := y.cl.getD k zClass
  let pos := at1 path sClass k
  fIf (!classB z.code) 16 pos ++ fIf (seen (prev ++ codes (y.cl.take k)) z.code) 6 pos ++ fIf (protBad y k) 2 pos
def clsTo (y : Cabin) (path : List UInt8) (prev : List (List UInt8)) : Nat → List Fault
  | 0 => []
  | k + 1 => clsTo y path prev k ++ clsOne y path prev k
def sizeBad (n lo hi : Int) : Bool := decide (n < lo) || decide (hi < n)
def cabTail (y : Cabin) (path : List UInt8) (prev : List (List UInt8)) : List Fault :=
  fIf (!inR y) 2 path ++ fIf (sizeBad y.cl.length 1 26) 4 path ++ clsTo y path prev y.cl.length
def cabOne (l : List Cabin) (path : List UInt8) (k : Nat) : List Fault :=
  let y := l.getD k zCabin
  let pos := at1 path sCabin k
  fIf (!codeB y.name 1 8) 5 pos ++ fIf (seen ((l.take k).map Cabin.name) y.name) 6 pos ++ cabTail y pos (prevCodes l k)
def cabTo (l : List Cabin) (path : List UInt8) : Nat → List Fault
  | 0 => []
  | k + 1 => cabTo l path k ++ cabOne l path k
def confOne (l : List Config) (k : Nat) : List Fault :=
  let x := l.getD k zConf
  let pos := at1 [] sConfig k
  fIf (!codeB x.equip 3 3) 5 pos ++ fIf (seen ((l.take k).map Config.equip) x.equip) 6 pos ++ fIf (sizeBad x.cabs.length 1 4) 4 pos ++ cabTo x.cabs pos x.cabs.length
def confTo (l : List Config) : Nat → List Fault
  | 0 => []
  | k + 1 => confTo l k ++ confOne l k
def confFaults (l : List Config) : List Fault := confTo l l.length
def aPl (x : List UInt8 × List UInt8 × Nat) : List V := [.str x.1, .str x.2.1, .int .i64 x.2.2]
theorem aPl_inj (a b : List UInt8 × List UInt8 × Nat) (h : aPl a = aPl b) : a = b := by
  obtain ⟨a1, a2, a3⟩ := a; obtain ⟨b1, b2, b3⟩ := b
  simp only [aPl, List.cons.injEq, V.str.injEq, V.int.injEq, and_true, true_and] at h
  obtain ⟨rfl, rfl, h⟩ := h
  have : a3 = b3 := by omega
  rw [this]
def fPl (x : List UInt8 × List UInt8 × Nat) : Prop × V := (x.1.length ≤ 1000000 ∧ x.2.1.length ≤ 1000000 ∧ x.2.2 ≤ 1000000, .str (at1 x.1 x.2.1 x.2.2))
noncomputable def trPl : Tab
  | 31 => gRDec
  | _ => gNo
theorem trPl_ok : ∀ f, PureC Tryd.prog UT f (trPl f) := fun f => by
  unfold trPl
  split
  · exact rdecimal_p
  · exact PureC.no
set_option maxHeartbeats 1000000 in
theorem rpl_p : PureC Tryd.prog UT 13 (gOf aPl fPl) := by
  have hG := trPl_ok
  refine PureC.ofArgs aPl_inj Tryd.func13 body13 nm13 res13 ?_
  rintro ⟨p, w, i⟩ hv
  refine ⟨by rw [nt13]; simp [aPl], fun C hN Q hQ => ?_⟩
  rw [nt13] at hN
  unfold c13
  obtain ⟨h1, h2, h3⟩ : p.length ≤ 1000000 ∧ w.length ≤ 1000000 ∧ i ≤ 1000000 := hv
  have hd := dec_lenN h3
  refine aw_seq (aw_region (EF := EF0) hG (by rw [hN]; exact tr13_0) ?_)
  simp only [a13_0, go_sem, simprocAttr, aPl]
  refine aw_seq ?_
  refine aw_seq (aw_region (EF := EF0) hG (by rw [hN]; exact tr13_1) ?_)
  simp only [a13_1, go_sem, simprocAttr]
  refine aw_cond (b := _) rfl (fun hc => ?_) (fun hc => ?_)
  · simp only [decide_eq_true_eq, decide_eq_false_iff_not, Bool.and_eq_true, Bool.or_eq_true, Bool.not_eq_true', Bool.not_eq_false', Bool.and_eq_false_iff, Bool.or_eq_false_iff, Int.ofNat_lt, Int.ofNat_le, Nat.not_lt, Nat.not_le, Int.not_lt, Int.not_le] at hc
    refine aw_region (EF := EF0) hG (by rw [hN]; exact tr13_2) ?_
    simp only [a13_2, go_sem, simprocAttr]
    (repeat' apply And.intro) <;> (try first | omega | ((fail_if_success refine idW ?_); (fail_if_success refine idS ?_); intros; (repeat' apply And.intro) <;> first | assumption | omega | (simp_all; done)) | (simp only [List.length_append, List.length_cons, List.length_nil]; omega))
    refine aw_seq (aw_region (EF := EF0) hG (by rw [hN]; exact tr13_3) ?_)
    simp only [a13_3, go_sem, simprocAttr, trPl, gRDec, inI]
    (repeat' apply And.intro) <;> (try first | omega | ((fail_if_success refine idW ?_); (fail_if_success refine idS ?_); intros; (repeat' apply And.intro) <;> first | assumption | omega | (simp_all; done)) | (simp only [List.length_append, List.length_cons, List.length_nil]; omega))
    refine aw_ret ?_
    show Q _ _
    refine hQ _ _ (.inl rfl) ?_ ?_ ?_ <;> simp only [outφ, outV, AR.res, go_sem, simprocAttr, fPl, at1, if_neg hc]
  · simp only [decide_eq_true_eq, decide_eq_false_iff_not, Bool.and_eq_true, Bool.or_eq_true, Bool.not_eq_true', Bool.not_eq_false', Bool.and_eq_false_iff, Bool.or_eq_false_iff, Int.ofNat_lt, Int.ofNat_le, Nat.not_lt, Nat.not_le, Int.not_lt, Int.not_le] at hc
    refine aw_skip ?_
    simp only [go_sem, simprocAttr]
    refine aw_seq (aw_region (EF := EF0) hG (by rw [hN]; exact tr13_3) ?_)
    simp only [a13_3, go_sem, simprocAttr, trPl, gRDec, inI]
    (repeat' apply And.intro) <;> (try first | omega | ((fail_if_success refine idW ?_); (fail_if_success refine idS ?_); intros; (repeat' apply And.intro) <;> first | assumption | omega | (simp_all; done)) | (simp only [List.length_append, List.length_cons, List.length_nil]; omega))
    refine aw_ret ?_
    show Q _ _
    refine hQ _ _ (.inl rfl) ?_ ?_ ?_ <;> simp only [outφ, outV, AR.res, go_sem, simprocAttr, fPl, at1, if_pos hc, hc]
theorem prevCodes_succ (l : List Cabin) (k : Nat) (h : k < l.length) : prevCodes l (k + 1) = prevCodes l k ++ codes l[k].cl := by
  unfold prevCodes
  rw [List.take_succ_eq_append_getElem h, List.flatMap_append]
  simp
theorem codes_take_succ (l : List Class) (k : Nat) (h : k < l.length) : codes (l.take (k + 1)) = codes (l.take k) ++ [l[k].code] := by
  unfold codes
  rw [List.take_succ_eq_append_getElem h, List.map_append]; rfl
theorem mem_prev {l : List Cabin} {j c : Nat} (hj : j < c) (hl : j < l.length) {x : List UInt8} (hx : x ∈ codes l[j].cl) : x ∈ prevCodes l c := by
  unfold prevCodes
  refine List.mem_flatMap.2 ⟨l[j], ?_, hx⟩
  rw [List.mem_take_iff_getElem]
  exact ⟨j, by omega, rfl⟩
theorem mem_codes {l : List Class} {j k : Nat} (hj : j < k) (hl : j < l.length) : l[j].code ∈ codes (l.take k) := by
  unfold codes
  refine List.mem_map.2 ⟨l[j], ?_, rfl⟩
  rw [List.mem_take_iff_getElem]
  exact ⟨j, by omega, rfl⟩
def occ (l : List Cabin) (c k : Nat) : Bool := seen (prevCodes l c ++ codes ((l.getD c zCabin).cl.take k)) ((l.getD c zCabin).cl.getD k zClass).code
def aOcc (x : Config × Nat × Nat) : List V := [.agg x.1.enc, .int .i64 x.2.1, .int .i64 x.2.2]
theorem aOcc_inj (a b : Config × Nat × Nat) (h : aOcc a = aOcc b) : a = b := by
  obtain ⟨a1, a2, a3⟩ := a; obtain ⟨b1, b2, b3⟩ := b
  simp only [aOcc, List.cons.injEq, V.agg.injEq, V.int.injEq, and_true, true_and] at h
  obtain ⟨h1, h2, h3⟩ := h
  rw [Config.inj _ _ h1, show a2 = b2 by omega, show a3 = b3 by omega]
def fOcc (x : Config × Nat × Nat) : Prop × V := (x.1.ok ∧ x.2.1 < x.1.cabs.length ∧ x.2.2 < (x.1.cabs.getD x.2.1 zCabin).cl.length, .bool (occ x.1.cabs x.2.1 x.2.2))
set_option maxHeartbeats 2000000 in
theorem rocc_p : PureC Tryd.prog UT 51 (gOf aOcc fOcc) := by
  have hG := tNo_ok
  refine PureC.ofArgs aOcc_inj Tryd.func51 body51 nm51 res51 ?_
  rintro ⟨⟨q, l⟩, c, kk⟩ hv
  refine ⟨by rw [nt51]; simp [aOcc], fun C hN Q hQ => ?_⟩
  rw [nt51] at hN
  unfold c51
  obtain ⟨⟨_, hl, hy⟩, hc, hkk⟩ : Config.ok ⟨q, l⟩ ∧ c < l.length ∧ kk < (l.getD c zCabin).cl.length := hv
  dsimp only at hl hy
  rw [getD_lt _ _ _ hc] at hkk
  have hocc : occ l c kk = seen (prevCodes l c ++ codes (l[c].cl.take kk)) l[c].cl[kk].code := by rw [occ, getD_lt _ _ _ hc, getD_lt _ _ _ hkk]
  generalize htc : l[c].cl[kk].code = tc at hocc
  refine aw_seq (aw_region (EF := EF0) hG (by rw [hN]; exact tr51_0) ?_)
  simp only [a51_0, go_sem, simprocAttr, aOcc, Config.enc]
  refine aw_seq ?_
  refine aw_seq (aw_region (EF := EF0) hG (by rw [hN]; exact tr51_1) ?_)
  simp only [a51_1, go_sem, simprocAttr]
  refine aw_block ?_
  refine aw_loop (α := Nat) (fun i => i ≤ c ∧ tc ∉ prevCodes l i) (fun i => ⟨mkE [(1, .int .i64 c), (2, .int .i64 kk), (3, .ptr 3 0), (7, .int .i64 i)], mkH [(3, .box 48 [.str q, .list (l.map Cabin.enc) false])]⟩) (fun i => c - i) 0 ⟨Nat.zero_le _, by simp [prevCodes]⟩ ?_ ?_
  · refine Le.mk _ _ ?_ ?_ rfl <;> simp only [go_sem, simprocAttr] <;> (repeat' apply And.intro) <;> try exact leA
  · rintro i ⟨hi, hp⟩ K hK
    refine aw_seq ?_
    refine aw_seq ?_
    refine aw_region (EF := EF0) hG (by rw [hN]; exact tr51_2) ?_
    simp only [a51_2, go_sem, simprocAttr]
    refine aw_cond (b := _) rfl (fun hci => ?_) (fun hci => ?_)
    · simp only [decide_eq_true_eq, decide_eq_false_iff_not, Bool.and_eq_true, Bool.or_eq_true, Bool.not_eq_true', Bool.not_eq_false', Bool.and_eq_false_iff, Bool.or_eq_false_iff, Int.ofNat_lt, Int.ofNat_le, Nat.not_lt, Nat.not_le, Int.not_lt, Int.not_le] at hci
      refine aw_skip ?_
      simp only [go_sem, simprocAttr]
      refine aw_seq ?_
      refine aw_block ?_
      have hil : i < l.length := by omega
      have hyi := (hy _ (List.getElem_mem hil)).2.2.2.1
      refine aw_seq (aw_region (EF := EF0) hG (by rw [hN]; exact tr51_4) ?_)
      simp only [a51_4, go_sem, simprocAttr]
      refine aw_block ?_
      refine aw_loop (α := Nat) (fun k => k ≤ l[i].cl.length ∧ tc ∉ codes (l[i].cl.take k) ∧ (i = c → k ≤ kk)) (fun k => ⟨mkE [(1, .int .i64 c), (2, .int .i64 kk), (3, .ptr 3 0), (7, .int .i64 i), (8, .int .i64 k)], mkH [(3, .box 48 [.str q, .list (l.map Cabin.enc) false])]⟩) (fun k => l[i].cl.length - k) 0 ⟨Nat.zero_le _, by simp [codes], fun _ => Nat.zero_le _⟩ ?_ ?_
      · refine Le.mk _ _ ?_ ?_ rfl <;> simp only [go_sem, simprocAttr] <;> (repeat' apply And.intro) <;> try exact leA
      · rintro k ⟨hk, hp2, hkc⟩ K2 hK2
        refine aw_seq ?_
        refine aw_seq ?_
        refine aw_region (EF := EF0) hG (by rw [hN]; exact tr51_5) ?_
        simp only [a51_5, go_sem, simprocAttr, getD_map _ _ _ hil, hil, Cabin.enc]
        refine aw_cond (b := _) rfl (fun hck => ?_) (fun hck => ?_)
        · simp only [decide_eq_true_eq, decide_eq_false_iff_not, Bool.and_eq_true, Bool.or_eq_true, Bool.not_eq_true', Bool.not_eq_false', Bool.and_eq_false_iff, Bool.or_eq_false_iff, Int.ofNat_lt, Int.ofNat_le, Nat.not_lt, Nat.not_le, Int.not_lt, Int.not_le] at hck
          refine aw_skip ?_
          simp only [go_sem, simprocAttr]
          refine aw_seq ?_
          refine aw_block ?_
          refine aw_seq ?_
          refine aw_seq (aw_region (EF := EF0) hG (by rw [hN]; exact tr51_7) ?_)
          simp only [a51_7, go_sem, simprocAttr]
          refine aw_cond (b := _) rfl (fun he => ?_) (fun he => ?_)
          · simp only [decide_eq_true_eq, decide_eq_false_iff_not, Bool.and_eq_true, Bool.or_eq_true, Bool.not_eq_true', Bool.not_eq_false', Bool.and_eq_false_iff, Bool.or_eq_false_iff, Int.ofNat_lt, Int.ofNat_le, Nat.not_lt, Nat.not_le, Int.not_lt, Int.not_le] at he
            obtain ⟨e1, e2⟩ := he
            have e1 : i = c := by omega
            have e2 : k = kk := by omega
            subst e1 e2
            refine aw_seq (aw_region (EF := EF0) hG (by rw [hN]; exact tr51_8) ?_)
            simp only [a51_8, go_sem, simprocAttr]
            refine aw_ret ?_
            show Q _ _
            refine hQ _ _ (.inl rfl) ?_ ?_ ?_ <;> simp only [outφ, outV, AR.res, go_sem, simprocAttr, fOcc, hocc]
            rw [seen, decide_eq_false]
            intro hm
            rcases List.mem_append.1 hm with hm | hm
            · exact hp hm
            · exact hp2 hm
          · simp only [decide_eq_true_eq, decide_eq_false_iff_not, Bool.and_eq_true, Bool.or_eq_true, Bool.not_eq_true', Bool.not_eq_false', Bool.and_eq_false_iff, Bool.or_eq_false_iff, Int.ofNat_lt, Int.ofNat_le, Nat.not_lt, Nat.not_le, Int.not_lt, Int.not_le] at he
            refine aw_skip ?_
            simp only [go_sem, simprocAttr]
            refine aw_seq (aw_regionD (EF := EF0) hG mixed (by rw [hN]; exact tr51_9) ok51_9 ?_)
            simp only [a51_9, d51_9, go_sem, simprocAttr, getD_map _ _ _ hil, hil, getD_map _ _ _ hck, hck, getD_map _ _ _ hc, hc, getD_map _ _ _ hkk, hkk, Cabin.enc, Class.enc, htc]
            have hne : ¬ (i = c ∧ k = kk) := by omega
            refine aw_cond (b := _) rfl (fun hd => ?_) (fun hd => ?_)
            · simp only [decide_eq_true_eq, decide_eq_false_iff_not, Bool.and_eq_true, Bool.or_eq_true, Bool.not_eq_true', Bool.not_eq_false', Bool.and_eq_false_iff, Bool.or_eq_false_iff, Int.ofNat_lt, Int.ofNat_le, Nat.not_lt, Nat.not_le, Int.not_lt, Int.not_le] at hd
              refine aw_seq (aw_region (EF := EF0) hG (by rw [hN]; exact tr51_10) ?_)
              simp only [a51_10, go_sem, simprocAttr]
              refine aw_ret ?_
              show Q _ _
              refine hQ _ _ (.inl rfl) ?_ ?_ ?_ <;> simp only [outφ, outV, AR.res, go_sem, simprocAttr, fOcc, hocc]
              rw [seen, decide_eq_true]
              rw [← hd]
              refine List.mem_append.2 ?_
              by_cases e : i = c
              · subst e
                exact .inr (mem_codes (by have := hkc rfl; omega) hck)
              · exact .inl (mem_prev (by omega) hil (List.mem_map.2 ⟨_, List.getElem_mem hck, rfl⟩))
            · simp only [decide_eq_true_eq, decide_eq_false_iff_not, Bool.and_eq_true, Bool.or_eq_true, Bool.not_eq_true', Bool.not_eq_false', Bool.and_eq_false_iff, Bool.or_eq_false_iff, Int.ofNat_lt, Int.ofNat_le, Nat.not_lt, Nat.not_le, Int.not_lt, Int.not_le] at hd
              refine aw_skip ?_
              simp only [go_sem, simprocAttr]
              refine aw_region (EF := EF0) hG (by rw [hN]; exact tr51_6) ?_
              simp only [a51_6, go_sem, simprocAttr, inI]
              (repeat' apply And.intro) <;> try exact sdA
              refine hK2 (k + 1) _ ?_ ?_ ?_
              · refine ⟨hck, ?_, fun e => ?_⟩
                · rw [codes_take_succ _ _ hck, List.mem_append, List.mem_singleton]
                  rintro (h | h)
                  · exact hp2 h
                  · exact hd h.symm
                · have := hkc e; omega
              · omega
              · refine Le.mk _ _ ?_ ?_ rfl <;> simp only [go_sem, simprocAttr] <;> (repeat' apply And.intro) <;> try exact leA
        · simp only [decide_eq_true_eq, decide_eq_false_iff_not, Bool.and_eq_true, Bool.or_eq_true, Bool.not_eq_true', Bool.not_eq_false', Bool.and_eq_false_iff, Bool.or_eq_false_iff, Int.ofNat_lt, Int.ofNat_le, Nat.not_lt, Nat.not_le, Int.not_lt, Int.not_le] at hck
          refine aw_exit ?_
          simp only [go_sem, simprocAttr]
          have hne : i ≠ c := by rintro rfl; have := hkc rfl; omega
          refine aw_region (EF := EF0) hG (by rw [hN]; exact tr51_3) ?_
          simp only [a51_3, go_sem, simprocAttr, inI]
          (repeat' apply And.intro) <;> try exact sdA
          refine hK (i + 1) _ ?_ ?_ ?_
          · refine ⟨by omega, ?_⟩
            rw [prevCodes_succ _ _ hil, List.mem_append]
            rintro (h | h)
            · exact hp h
            · rw [List.take_of_length_le hck] at hp2; exact hp2 h
          · omega
          · refine Le.mk _ _ ?_ ?_ rfl <;> simp only [go_sem, simprocAttr] <;> (repeat' apply And.intro) <;> try exact leA
    · simp only [decide_eq_true_eq, decide_eq_false_iff_not, Bool.and_eq_true, Bool.or_eq_true, Bool.not_eq_true', Bool.not_eq_false', Bool.and_eq_false_iff, Bool.or_eq_false_iff, Int.ofNat_lt, Int.ofNat_le, Nat.not_lt, Nat.not_le, Int.not_lt, Int.not_le] at hci
      exfalso; omega
end Go.Proofs.YtllhcpjgilpbnaaDoor
