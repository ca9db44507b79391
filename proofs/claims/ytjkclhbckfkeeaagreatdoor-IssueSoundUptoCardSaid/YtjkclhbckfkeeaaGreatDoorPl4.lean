import Derived.Test.YtjkclhbckfkeeaaGreatDoorShelf
import Derived.Test.YtjkclhbckfkeeaaGreatDoorAv22
import Derived.Lib.LaidTab
import Derived.Lib.ItoaNum
import Derived.Lib.ItoaLen
set_option linter.unusedSimpArgs false
set_option linter.unusedVariables false
set_option linter.deprecated false
set_option maxHeartbeats 2000000
noncomputable section
namespace Go.Proofs.YtjkclhbckfkeeaaGreatDoor
open Go Go.RowKit
abbrev Ko (w : World) : Prop := Lib.TabIs Tryz.prog w "internal/strconv.uint64pow10" .u64 Lib.pow10Tab
theorem Tu : Tryz.prog.globalNamed "internal/strconv.uint64pow10" = some 3 := by kernel_rfl
theorem AmC (w w' : World) (h : w'.heap[(3 : Nat)]? = w.heap[(3 : Nat)]?) (hB : Ko w) : Ko w' := by
 unfold Ko Lib.TabIs World.var? at hB ⊢
 rw [Tu] at hB ⊢
 simp only [Option.bind_some] at hB ⊢
 rw [h]
 exact hB
def UT : Tbl := ⟨Ko, fun b => b = 3, fun w w' h hB => AmC w w' (h _ rfl) hB⟩
abbrev PU (f : Nat) (g : List V -> Prop × V) : Prop := Ah Tryz.prog UT f g
theorem utW {w : World} (h : UT.B w) : Ko w := h
def capB (c : Int) : Bool := decide (65 <= c) && decide (c <= 90)
def digB (c : Int) : Bool := decide (48 <= c) && decide (c <= 57)
def JD (c : Int) : Bool := capB c || digB c
def CY (p : Int -> Bool) (l : List UInt8) : Bool := l.all fun c => p (c.toNat : Int)
def Db (l : List UInt8) (lo hi : Int) : Bool := decide (lo <= (l.length : Int)) && decide ((l.length : Int) <= hi) && CY JD l
def EC (l : List UInt8) : Bool := decide ((l.length : Int) = 1) && CY capB l
def dec (n : Int) : List UInt8 := Lib.itoa n
theorem RP {p : Int -> Bool} {s : List UInt8} {i : Nat} (h : i < s.length) (ht : CY p (s.take i) = true) (hp : p ((s.getD i 0).toNat : Int) = true) : CY p (s.take (i + 1)) = true := by
 rw [Oi h]
 rw [AI, AY h] at hp
 simp only [CY, List.all_append, List.all_cons, List.all_nil, CF, By] at ht ⊢
 exact ⟨ht, hp⟩
theorem RO {p : Int -> Bool} {s : List UInt8} {i : Nat} (h : i < s.length) (hp : p ((s.getD i 0).toNat : Int) = false) : CY p s = false := by
 rw [AI, AY h] at hp
 unfold CY
 rw [List.all_eq_false]
 exact ⟨s[i], AF h, by simpa using hp⟩
theorem RN {p : Int -> Bool} {s : List UInt8} {i : Nat} (h : ¬ i < s.length) (ht : CY p (s.take i) = true) : CY p s = true := by
 rwa [Bu (by omega)] at ht
theorem Afg (s : List UInt8) : (decide ((s.length : Int) = 1) && capB ((s.getD 0 0).toNat : Int)) = EC s := by
 unfold EC CY
 match s with
 | [] => rfl
 | [x] => simp
 | x :: y :: l =>
  have h : ¬ (((x :: y :: l).length : Int) = 1) := by simp only [Av]; omega
  rw [decide_eq_false h, Jb, Jb]
def dch (d : Nat) : UInt8 := UInt8.ofNat (48 + d)
def Ve : List UInt8 := [48, 49, 50, 51, 52, 53, 54, 55, 56, 57]
theorem Yf {d : Int} (h0 : 0 <= d) (h : d < 10) : (Ve.take (d + 1).toNat).drop d.toNat = [dch d.toNat] := by
 have : d = 0 \/ d = 1 \/ d = 2 \/ d = 3 \/ d = 4 \/ d = 5 \/ d = 6 \/ d = 7 \/ d = 8 \/ d = 9 := by omega
 rcases this with rfl | rfl | rfl | rfl | rfl | rfl | rfl | rfl | rfl | rfl <;> rfl
theorem AfL {n : Int} (h : n < 10) : Lib.decDigits n.toNat = [dch n.toNat] := by rw [Lib.decDigits, dif_pos (by omega)]; rfl
theorem AfK {n : Int} (h : 10 <= n) : Lib.decDigits n.toNat = Lib.decDigits (n / 10).toNat ++ [dch (n % 10).toNat] := by
 rw [Lib.decDigits, dif_neg (by omega), show n.toNat / 10 = (n / 10).toNat by omega, show n.toNat % 10 = (n % 10).toNat by omega]; rfl
theorem Yb {n : Int} (h : n <= 18446744073709551615) : (Lib.decDigits n.toNat).length <= 20 := by
 rw [Lib.decDigits_length]; exact Lib.nDigits_le20 _ (by omega)
theorem Yc {n : Int} (h : inI n) : (dec n).length <= 21 := Lib.itoa_length_le n h.1 h.2
def Ct (p : Int -> Bool) : List V -> Prop × V
 | [.int .u8 n] => (True, .bool (p n))
 | _ => (False, .any)
def tNo : Tab
 | _ => gNo
theorem AH : ∀ f, PU f (tNo f) := fun f => by
 unfold tNo
 split
 ·exact Ah.no
theorem Sb : PU 117 (Ct capB) := by
 have hG := AH
 refine YG.q fun vs hv => ?_
 match vs, hv with
 | [.int .u8 n], _ =>
 refine ⟨by simp, fun C hN Q hQ => ?_⟩
 have Z := YG.R EF0 hG hN
 refine Aa (Z 0 rfl ?_)
 simp only [go_sem, simprocAttr]
 refine Aa (Z 1 rfl ?_)
 simp only [go_sem, simprocAttr]
 refine Ad (hQ _ _ (.inl rfl) ?_ ?_ ?_) <;> simp only [go_sem, simprocAttr, Ct, capB]
theorem Yg : PU 119 (Ct digB) := by
 have hG := AH
 refine YI.q fun vs hv => ?_
 match vs, hv with
 | [.int .u8 n], _ =>
 refine ⟨by simp, fun C hN Q hQ => ?_⟩
 have Z := YI.R EF0 hG hN
 refine Aa (Z 0 rfl ?_)
 simp only [go_sem, simprocAttr]
 refine Aa (Z 1 rfl ?_)
 simp only [go_sem, simprocAttr]
 refine Ad (hQ _ _ (.inl rfl) ?_ ?_ ?_) <;> simp only [go_sem, simprocAttr, Ct, digB]
theorem QF : PU 57 (Ct capB) := by
 have hG := AH
 refine Aao.q fun vs hv => ?_
 match vs, hv with
 | [.int .u8 n], _ =>
 refine ⟨by simp, fun C hN Q hQ => ?_⟩
 have Z := Aao.R EF0 hG hN
 refine Aa (Z 0 rfl ?_)
 simp only [go_sem, simprocAttr]
 refine Aa (Z 1 rfl ?_)
 simp only [go_sem, simprocAttr]
 refine Ad (hQ _ _ (.inl rfl) ?_ ?_ ?_) <;> simp only [go_sem, simprocAttr, Ct, capB]
theorem Ajl : PU 58 (Ct digB) := by
 have hG := AH
 refine Aap.q fun vs hv => ?_
 match vs, hv with
 | [.int .u8 n], _ =>
 refine ⟨by simp, fun C hN Q hQ => ?_⟩
 have Z := Aap.R EF0 hG hN
 refine Aa (Z 0 rfl ?_)
 simp only [go_sem, simprocAttr]
 refine Aa (Z 1 rfl ?_)
 simp only [go_sem, simprocAttr]
 refine Ad (hQ _ _ (.inl rfl) ?_ ?_ ?_) <;> simp only [go_sem, simprocAttr, Ct, digB]
def UZ : Tab
 | 117 => Ct capB
 | 119 => Ct digB
 | _ => gNo
theorem AlH : ∀ f, PU f (UZ f) := fun f => by
 unfold UZ
 split
 ·exact Sb
 ·exact Yg
 ·exact Ah.no
theorem Afq : PU 118 (Ct JD) := by
 have hG := AlH
 refine YH.q fun vs hv => ?_
 match vs, hv with
 | [.int .u8 n], _ =>
 refine ⟨by simp, fun C hN Q hQ => ?_⟩
 have Z := YH.R EF0 hG hN
 refine Aa (Z 0 rfl ?_)
 simp only [go_sem, simprocAttr]
 refine Aa (Z 1 rfl ?_)
 simp only [go_sem, simprocAttr, UZ, Ct]
 refine Ad (hQ _ _ (.inl rfl) ?_ ?_ ?_) <;> simp only [go_sem, simprocAttr, Ct, JD]
def fOf (f : Nat) : Option (Int -> Bool) :=
 if f = 117 then some capB else
 if f = 119 then some digB else
 if f = 118 then some JD else
 none
def PP (f : Nat) : List V -> Prop × V := match fOf f with
 | some p => Ct p
 | none => gNo
theorem Ae3 : ∀ f, PU f (PP f) := fun f => by
 unfold PP fOf
 by_cases h1 : f = 117
 ·subst h1; exact Sb
 rw [if_neg h1]
 by_cases h2 : f = 119
 ·subst h2; exact Yg
 rw [if_neg h2]
 by_cases h3 : f = 118
 ·subst h3; exact Afq
 rw [if_neg h3]
 exact Ah.no
def Lk : List V -> Prop × V
 | [.str s, .fn f []] => match fOf f with
  | some p => (s.length <= 140737488355328, .bool (CY p s))
  | none => (False, .any)
 | _ => (False, .any)
theorem Yp : PU 116 Lk := by
 have hG := Ae3
 refine YF.q fun vs hv => ?_
 match vs, hv with
 | [.str s, .fn f []], hv =>
 simp only [Lk] at hv ⊢
 cases hf : fOf f with
 | none => rw [hf] at hv; exact hv.elim
 | some p =>
 rw [hf] at hv
 dsimp only at hv ⊢
 have hb : PP f = Ct p := by unfold PP; rw [hf]
 refine ⟨by simp, fun C hN Q hQ => ?_⟩
 have Z := YF.R EF0 hG hN
 refine Aa (Z 0 rfl ?_)
 simp only [go_sem, simprocAttr]
 refine Aa (Aa (Z 1 rfl ?_))
 simp only [go_sem, simprocAttr]
 refine Ao ?_
 refine AX (α := Nat) (fun i => i <= s.length /\ CY p (s.take i) = true) (fun i => ⟨mkE [(0, .str s), (1, .fn f []), (7, .int .i64 s.length), (8, .int .i64 i)], mkH []⟩) (fun i => s.length - i) 0 ⟨Ar _, rfl⟩ ?_ ?_
 ·exact leM
 rintro i ⟨hi, hp⟩ K hK
 refine Aa (Z 2 rfl ?_)
 simp only [go_sem, simprocAttr]
 refine Aa ?_
 refine Ae rfl (fun hc => ?_) fun hc => ?_
 ·simp only [hcL] at hc
  refine Af ?_
  simp only [go_sem, simprocAttr]
  refine Aa (Ao ?_)
  refine Aa (Z 3 rfl ?_)
  simp only [go_sem, simprocAttr]
  refine Aa (Z 4 rfl ?_)
  simp only [go_sem, simprocAttr, hb, Ct, hc]
  refine Ae rfl (fun hd => ?_) fun hd => ?_
  ·simp only [hcL] at hd
   refine Aa (Z 5 rfl ?_)
   simp only [go_sem, simprocAttr]
   refine Ad (hQ _ _ (.inl rfl) ?_ ?_ ?_) <;> simp only [go_sem, simprocAttr]
   rw [RO hc hd]
  simp only [hcL] at hd
  refine Af ?_
  simp only [go_sem, simprocAttr]
  refine Z 6 rfl ?_
  simp only [go_sem, simprocAttr, inI]
  refine ⟨⟨by omega, by omega⟩, ?_⟩
  refine hK (i + 1) _ ?_ ?_ ?_
  ·exact ⟨hc, RP hc hp hd⟩
  ·omega
  exact leM
 simp only [hcL] at hc
 refine AS ?_
 simp only [go_sem, simprocAttr]
 refine Aa (Z 7 rfl ?_)
 simp only [go_sem, simprocAttr]
 refine Ad (hQ _ _ (.inl rfl) ?_ ?_ ?_) <;> simp only [go_sem, simprocAttr]
 rw [RN (Nat.not_lt.2 hc) hp]
def BC : List V -> Prop × V
 | [.str s, .int .i64 lo, .int .i64 hi] => (s.length <= 140737488355328, .bool (Db s lo hi))
 | _ => (False, .any)
def IV : List V -> Prop × V
 | [.str s] => (s.length <= 140737488355328, .bool (EC s))
 | _ => (False, .any)
def UY : Tab
 | 116 => Lk
 | _ => gNo
theorem AlI : ∀ f, PU f (UY f) := fun f => by
 unfold UY
 split
 ·exact Yp
 ·exact Ah.no
theorem Aft : PU 62 BC := by
 have hG := AlI
 refine Aat.q fun vs hv => ?_
 match vs, hv with
 | [.str s, .int .i64 lo, .int .i64 hi], hv =>
 replace hv : s.length <= 140737488355328 := hv
 refine ⟨by simp, fun C hN Q hQ => ?_⟩
 have Z := Aat.R EF0 hG hN
 refine Aa (Z 0 rfl ?_)
 simp only [go_sem, simprocAttr]
 refine Aa (Z 1 rfl ?_)
 simp only [go_sem, simprocAttr, UY, Lk, fOf, hv]
 refine Ad (hQ _ _ (.inl rfl) ?_ ?_ ?_) <;> simp only [go_sem, simprocAttr, BC, Db]
def UX : Tab
 | 117 => (Ct capB)
 | _ => gNo
theorem AlE : ∀ f, PU f (UX f) := fun f => by
 unfold UX
 split
 ·exact Sb
 ·exact Ah.no
theorem Afh : PU 121 IV := by
 have hG := AlE
 refine YL.q fun vs hv => ?_
 match vs, hv with
 | [.str s], hv =>
 replace hv : s.length <= 140737488355328 := hv
 refine ⟨by simp, fun C hN Q hQ => ?_⟩
 have Z := YL.R EF0 hG hN
 refine Aa (Z 0 rfl ?_)
 simp only [go_sem, simprocAttr]
 refine Aa (Z 1 rfl ?_)
 simp only [go_sem, simprocAttr, UX, Ct, hv]
 refine ⟨fun h => by (first | exact ⟨h, by omega, by rw [decide_eq_true_eq] at h; omega⟩ | exact ⟨h, by rw [decide_eq_true_eq] at h; omega⟩), ?_⟩
 refine Ad (hQ _ _ (.inl rfl) ?_ ?_ ?_) <;> simp only [go_sem, simprocAttr, IV]
 rw [Afg]
def JO : List V -> Prop × V
 | [.str s, .int .i64 n] => (s.length <= 140737488355328, .bool (CY capB s && decide ((s.length : Int) = n)))
 | _ => (False, .any)
def Vb : Tab
 | 57 => (Ct capB)
 | _ => gNo
theorem AlX : ∀ f, PU f (Vb f) := fun f => by
 unfold Vb
 split
 ·exact QF
 ·exact Ah.no
theorem Acp : PU 54 JO := by
 have hG := AlX
 refine Aal.q fun vs hv => ?_
 match vs, hv with
 | [.str s, .int .i64 n], hv =>
 replace hv : s.length <= 140737488355328 := hv
 refine ⟨by simp, fun C hN Q hQ => ?_⟩
 have Z := Aal.R EF0 hG hN
 refine Aa (Z 0 rfl ?_)
 simp only [go_sem, simprocAttr]
 refine Aa (Aa (Z 1 rfl ?_))
 simp only [go_sem, simprocAttr]
 refine Ao ?_
 refine AX (α := Nat) (fun i => i <= s.length /\ CY capB (s.take i) = true) (fun i => ⟨mkE [(0, .str s), (1, .int .i64 n), (5, .int .i64 i)], mkH []⟩) (fun i => s.length - i) 0 ⟨Ar _, rfl⟩ ?_ ?_
 ·exact leM
 rintro i ⟨hi, hp⟩ K hK
 refine Aa (Aa ?_)
 refine Z 2 rfl ?_
 simp only [go_sem, simprocAttr]
 refine Ae rfl (fun hc => ?_) fun hc => ?_
 ·simp only [hcL] at hc
  refine Af ?_
  simp only [go_sem, simprocAttr]
  refine Aa (Ao ?_)
  refine Aa (Z 4 rfl ?_)
  simp only [go_sem, simprocAttr, Vb, Ct, hc]
  refine Ae rfl (fun hd => ?_) fun hd => ?_
  ·simp only [hcL] at hd
   refine Aa (Z 5 rfl ?_)
   simp only [go_sem, simprocAttr]
   refine Ad (hQ _ _ (.inl rfl) ?_ ?_ ?_) <;> simp only [go_sem, simprocAttr, JO]
   rw [RO hc hd]
   rfl
  simp only [hcL] at hd
  refine Af ?_
  simp only [go_sem, simprocAttr]
  refine Z 3 rfl ?_
  simp only [go_sem, simprocAttr, inI]
  refine ⟨⟨by omega, by omega⟩, ?_⟩
  refine hK (i + 1) _ ?_ ?_ ?_
  ·exact ⟨hc, RP hc hp hd⟩
  ·omega
  exact leM
 simp only [hcL] at hc
 refine AS ?_
 simp only [go_sem, simprocAttr]
 refine Aa (Z 6 rfl ?_)
 simp only [go_sem, simprocAttr]
 refine Ad (hQ _ _ (.inl rfl) ?_ ?_ ?_) <;> simp only [go_sem, simprocAttr, JO]
 rw [RN (Nat.not_lt.2 hc) hp, HD]
def Vj : Tab
 | 54 => JO
 | _ => gNo
theorem Ank : ∀ f, PU f (Vj f) := fun f => by
 unfold Vj
 split
 ·exact Acp
 ·exact Ah.no
theorem Ace : PU 19 IV := by
 have hG := Ank
 refine Zy.q fun vs hv => ?_
 match vs, hv with
 | [.str s], hv =>
 replace hv : s.length <= 140737488355328 := hv
 refine ⟨by simp, fun C hN Q hQ => ?_⟩
 have Z := Zy.R EF0 hG hN
 refine Aa (Z 0 rfl ?_)
 simp only [go_sem, simprocAttr]
 refine Aa (Z 1 rfl ?_)
 simp only [go_sem, simprocAttr, Vj, JO, hv]
 refine Ad (hQ _ _ (.inl rfl) ?_ ?_ ?_) <;> simp only [go_sem, simprocAttr, IV, EC]
 rw [Bool.and_comm]
def Vk : Tab
 | 57 => (Ct capB)
 | 58 => (Ct digB)
 | _ => gNo
theorem Anl : ∀ f, PU f (Vk f) := fun f => by
 unfold Vk
 split
 ·exact QF
 ·exact Ajl
 ·exact Ah.no
theorem MT : PU 23 BC := by
 have hG := Anl
 refine ZQ.q fun vs hv => ?_
 match vs, hv with
 | [.str s, .int .i64 lo, .int .i64 hi], hv =>
 replace hv : s.length <= 140737488355328 := hv
 refine ⟨by simp, fun C hN Q hQ => ?_⟩
 have Z := ZQ.R EF0 hG hN
 refine Aa (Z 0 rfl ?_)
 simp only [go_sem, simprocAttr]
 refine Aa (Aa (Z 1 rfl ?_))
 simp only [go_sem, simprocAttr]
 refine Ao ?_
 refine AX (α := Nat) (fun i => i <= s.length /\ CY JD (s.take i) = true) (fun i => ⟨mkE [(0, .str s), (1, .int .i64 lo), (2, .int .i64 hi), (7, .int .i64 i)], mkH []⟩) (fun i => s.length - i) 0 ⟨Ar _, rfl⟩ ?_ ?_
 ·exact leM
 rintro i ⟨hi, hp⟩ K hK
 refine Aa (Aa ?_)
 refine Z 2 rfl ?_
 simp only [go_sem, simprocAttr]
 refine Ae rfl (fun hc => ?_) fun hc => ?_
 ·simp only [hcL] at hc
  refine Af ?_
  simp only [go_sem, simprocAttr]
  refine Aa (Ao ?_)
  refine Aa (Z 4 rfl ?_)
  simp only [go_sem, simprocAttr, Vk, Ct, hc]
  refine Ae rfl (fun hd => ?_) fun hd => ?_
  ·simp only [hcL] at hd
   refine Aa (Z 5 rfl ?_)
   simp only [go_sem, simprocAttr]
   refine Ad (hQ _ _ (.inl rfl) ?_ ?_ ?_) <;> simp only [go_sem, simprocAttr, BC, Db]
   rw [RO hc (p := JD) (by simpa [JD] using hd), Dh]
  simp only [hcL] at hd
  refine Af ?_
  simp only [go_sem, simprocAttr]
  refine Z 3 rfl ?_
  simp only [go_sem, simprocAttr, inI]
  refine ⟨⟨by omega, by omega⟩, ?_⟩
  refine hK (i + 1) _ ?_ ?_ ?_
  ·exact ⟨hc, RP hc hp (by simpa [JD] using hd)⟩
  ·omega
  exact leM
 simp only [hcL] at hc
 refine AS ?_
 simp only [go_sem, simprocAttr]
 refine Aa (Z 6 rfl ?_)
 simp only [go_sem, simprocAttr]
 refine Ad (hQ _ _ (.inl rfl) ?_ ?_ ?_) <;> simp only [go_sem, simprocAttr, BC, Db]
 rw [RN (Nat.not_lt.2 hc) hp, CF]
theorem AeV {w : World} {k : Nat} {os : Array Obj} : Below w.heap.size w (Sort.grow (w.drewN k) os) := by
 refine ⟨rfl, rfl, rfl, ?_, fun i hi => ?_⟩
 ·show w.heap.size <= (w.heap ++ os).size; simp
 ·show (w.heap ++ os)[i]? = w.heap[i]?
  exact Array.getElem?_append_left hi
def PQ : List V -> Prop × V
 | [.int .i64 n] => (inI n, .str (dec n))
 | _ => (False, .any)
theorem Abe : PU 66 PQ := by
 refine Ah.leaf Tryz.func66 (by kernel_rfl : Tryz.f66.body = some ((Tryz.f66.body).getD .skip)) (by kernel_rfl) fun vs M w cargs hv hB hs ha => ?_
 match vs, hv, hs, ha with
 | [.int .i64 n], hv, hs, ha =>
 have h0 := (ha 0 _ rfl).int_inv
 have h1 := Xd hs
 rw [h0] at h1
 rw [h1]
 refine (Tryz.strconv_Itoa n hv.1 hv.2 w (utW hB)).mono ?_
 rintro e w' ⟨he, k, os, hw⟩
 exact ⟨_, he, fun M' => .str _, by rw [hw]; exact AeV⟩
def Mv (k : Nat) : List V -> Prop × V
 | [.int .u64 n] => (0 <= n /\ n < 10 ^ k /\ n <= 18446744073709551615, .str (Lib.decDigits n.toNat))
 | _ => (False, .any)
def Va : Nat -> Tab
 | 0 => fun _ => gNo
 | k + 1 => fun f => if f = 125 then Mv k else gNo
theorem Ach (k : Nat) (hG : ∀ f, PU f (Va k f)) : PU 125 (Mv k) := by
 refine SA.q fun vs hv => ?_
 match vs, hv with
 | [.int .u64 n], hv =>
 replace hv : 0 <= n /\ n < 10 ^ k /\ n <= 18446744073709551615 := hv
 obtain ⟨h0, h1, h2⟩ := hv
 refine ⟨by simp, fun C hN Q hQ => ?_⟩
 have Y := SA.D EF0 hG hN mixed
 have Z := SA.R EF0 hG hN
 refine Aa (Z 0 rfl ?_)
 simp only [go_sem, simprocAttr]
 refine Aa (Aa (Z 1 rfl ?_))
 simp only [go_sem, simprocAttr]
 refine Ae rfl (fun hc => ?_) fun hc => ?_
 ·simp only [hcL] at hc
  refine Aa (Z 2 rfl ?_)
  simp only [go_sem, simprocAttr, Ln]
  and_intros <;> try exact sdA
  refine Ad (hQ _ _ (.inl rfl) ?_ ?_ ?_) <;> simp only [go_sem, simprocAttr, Mv]
  rw [show [48, 49, 50, 51, 52, 53, 54, 55, 56, 57] = Ve from rfl, Yf h0 (by omega), AfL hc]
 simp only [hcL] at hc
 refine Af ?_
 simp only [go_sem, simprocAttr]
 have hq : (Va k 125 [.int .u64 (n / 10)]).1 /\ (Va k 125 [.int .u64 (n / 10)]).2 = .str (Lib.decDigits (n / 10).toNat) := by
  cases k with
  | zero => exfalso; simp at h1; omega
  | succ k =>
   refine ⟨⟨by omega, ?_, by omega⟩, rfl⟩
   rw [Oh] at h1
   omega
 have hl := Yb (n := n / 10) (by omega)
 refine Aa (Y 3 rfl (by kernel_rfl) ?_)
 simp only [go_sem, simprocAttr, Ln, hq.1, hq.2]
 rw [show [48, 49, 50, 51, 52, 53, 54, 55, 56, 57] = Ve from rfl, Yf (by omega : 0 <= n % 10) (by omega)]
 and_intros <;> (try first | exact sdA | (rw [Ai]; simp only [Av, Ay]; omega))
 refine Ad (hQ _ _ (.inl rfl) ?_ ?_ ?_) <;> simp only [go_sem, simprocAttr, Mv]
 rw [AfK hc]
theorem Acg : ∀ k, PU 125 (Mv k)
 | 0 => Ach 0 fun _ => Ah.no
 | k + 1 => Ach (k + 1) fun f => by
  show PU f (if f = 125 then Mv k else gNo)
  by_cases h : f = 125
  ·subst h; rw [if_pos rfl]; exact Acg k
  ·rw [if_neg h]; exact Ah.no
def PR : List V -> Prop × V
 | [.int .u64 n] => (0 <= n /\ n <= 18446744073709551615, .str (Lib.decDigits n.toNat))
 | _ => (False, .any)
theorem Ajm : PU 125 PR := (Acg 20).sub fun vs hv => by
 match vs, hv with
 | [.int .u64 n], hv => exact ⟨⟨hv.1, Int.lt_of_le_of_lt hv.2 (by decide), hv.2⟩, rfl⟩
def IW : List V -> Prop × V
 | [.int .i64 n] => (inI n, .str (dec n))
 | _ => (False, .any)
def Rd : Tab
 | 125 => PR
 | _ => gNo
theorem Anm : ∀ f, PU f (Rd f) := fun f => by
 unfold Rd
 split
 ·exact Ajm
 ·exact Ah.no
theorem Ou : PU 68 IW := by
 have hG := Anm
 refine Aay.q fun vs hv => ?_
 match vs, hv with
 | [.int .i64 n], hv =>
 replace hv : inI n := hv
 obtain ⟨h0, h1⟩ := hv
 refine ⟨by simp, fun C hN Q hQ => ?_⟩
 have Z := Aay.R EF0 hG hN
 refine Aa (Z 0 rfl ?_)
 simp only [go_sem, simprocAttr]
 refine Aa (Aa (Z 1 rfl ?_))
 simp only [go_sem, simprocAttr]
 refine Ae rfl (fun hc => ?_) fun hc => ?_
 ·simp only [hcL] at hc
  have hl := Yb (n := -(n + 1) + 1) (by omega)
  refine Aa (Z 2 rfl ?_)
  simp only [go_sem, simprocAttr, Ln, inI, Rd, PR]
  and_intros <;> try exact sdA
  refine Ad (hQ _ _ (.inl rfl) ?_ ?_ ?_) <;> simp only [go_sem, simprocAttr, IW, dec, Lib.itoa]
  rw [if_pos hc, show (-(n + 1) + 1).toNat = n.natAbs by omega]
 simp only [hcL] at hc
 refine Af ?_
 simp only [go_sem, simprocAttr]
 refine Aa (Z 3 rfl ?_)
 simp only [go_sem, simprocAttr, Ln, Rd, PR]
 and_intros <;> try exact sdA
 refine Ad (hQ _ _ (.inl rfl) ?_ ?_ ?_) <;> simp only [go_sem, simprocAttr, IW, dec, Lib.itoa]
 rw [if_neg (by omega)]
structure Fault where
 err : Int
 pos : List UInt8
def Fault.enc (f : Fault) : List V := [.int .i64 f.err, .str f.pos]
def fIf (b : Bool) (e : Int) (pos : List UInt8) : List Fault := if b then [⟨e, pos⟩] else []
theorem Hj {i : Nat} (h : i <= 1000000) : (dec (i : Int)).length <= 21 := Yc ⟨by omega, by omega⟩
theorem Cu {α : Type} (l : List α) (k : Nat) (d : α) (h : k < l.length) : l.getD k d = l[k] := by
 rw [AI, AY h]; rfl
def Ax (l : List Fault) : List (List V) := l.map Fault.enc
theorem Fo (l : List Fault) : (Ax l).length = l.length := Ac _
theorem Gp (l : List Fault) : ∀ r ∈ Ax l, V.purs r = true := by
 intro r hr
 obtain ⟨n, _, rfl⟩ := An.1 hr
 rfl
theorem Ms (l : List Fault) : (∀ r ∈ Ax l, V.purs r = true) ↔ True := iff_true_intro (Gp l)
theorem Ago (l : List Fault) (e : Int) (p : List UInt8) : Ax l ++ [[.int .i64 e, .str p]] = Ax (l ++ [⟨e, p⟩]) := by unfold Ax; rw [DC]; rfl
theorem Ss (l r : List Fault) : Ax l ++ Ax r = Ax (l ++ r) := by unfold Ax; rw [DC]
theorem Agp (l : List Fault) : ∀ r ∈ Ax l, r.length = 2 := by
 intro r hr
 obtain ⟨n, _, rfl⟩ := An.1 hr
 rfl
theorem Agq (l : List Fault) : (∀ r ∈ Ax l, r.length = 2) ↔ True := iff_true_intro (Agp l)
attribute [go_sem] Fo Ms Ago Ss Agq
theorem Dr {b : Bool} {e : Int} {p : List UInt8} (h : b = true) : fIf b e p = [⟨e, p⟩] := by rw [h]; rfl
theorem Dq {b : Bool} {e : Int} {p : List UInt8} (h : b = false) : fIf b e p = [] := by rw [h]; rfl
theorem IP (b : Bool) (e : Int) (p : List UInt8) : (fIf b e p).length <= 1 := by unfold fIf; split <;> simp
theorem Iz {α : Type} {p : α -> Prop} {l : List α} {i : Nat} (hi : i < l.length) (hp : ∀ c ∈ l.take i, p c) (h : p l[i]) : ∀ c ∈ l.take (i + 1), p c := by
 intro c hc
 rw [Oi hi, BU, Bk] at hc
 rcases hc with hc | rfl
 ·exact hp c hc
 ·exact h
theorem Agn {l : List Fault} {i : Nat} {d : List V} (h : i < l.length) : (Ax l).getD i d = [.int .i64 l[i].err, .str l[i].pos] := by
 unfold Ax; rw [AI, BE, AY h]; rfl
def strs (l : List (List UInt8)) : List (List V) := l.map fun s => [.str s]
theorem Em (l : List (List UInt8)) : (strs l).length = l.length := Ac _
theorem FY (l : List (List UInt8)) (i : Nat) (d : List V) (h : i < l.length) : (strs l).getD i d = [.str l[i]] := by
 unfold strs
 rw [AI, BE, AY h]; rfl
theorem Alr (l : List (List UInt8)) (i : Nat) : (strs l).take i = strs (l.take i) := by unfold strs; rw [MJ]
theorem OC (l : List (List UInt8)) : ∀ r ∈ strs l, V.purs r = true := by
 intro r hr
 obtain ⟨n, _, rfl⟩ := An.1 hr
 rfl
theorem Alq (l : List (List UInt8)) : (∀ r ∈ strs l, V.purs r = true) ↔ True := iff_true_intro (OC l)
theorem Ady (l : List (List UInt8)) : ∀ r ∈ strs l, r.length = 1 := by
 intro r hr
 obtain ⟨n, _, rfl⟩ := An.1 hr
 rfl
theorem Alp (l : List (List UInt8)) : (∀ r ∈ strs l, r.length = 1) ↔ True := iff_true_intro (Ady l)
theorem Iy {l r : List (List UInt8)} (h : strs l = strs r) : l = r := Cj (fun a b h => by simpa using h) h
def Aq (l : List Int) : List (List V) := l.map fun n => [.int .i64 n]
theorem DB (l : List Int) : (Aq l).length = l.length := Ac _
theorem GL (l : List Int) (i : Nat) (d : List V) (h : i < l.length) : (Aq l).getD i d = [.int .i64 l[i]] := by
 unfold Aq
 rw [AI, BE, AY h]; rfl
theorem ints_set (l : List Int) (i : Nat) (v : Int) : (Aq l).set i [.int .i64 v] = Aq (l.set i v) := by unfold Aq; rw [JW]
theorem Ag6 (l : List Int) (i : Nat) : (Aq l).take i = Aq (l.take i) := by unfold Aq; rw [MJ]
theorem Ag3 (l : List Int) (i : Nat) : (Aq l).drop i = Aq (l.drop i) := by unfold Aq; rw [List.map_drop]
theorem FN (l : List Int) (v : Int) : Aq l ++ [[.int .i64 v]] = Aq (l ++ [v]) := by unfold Aq; rw [DC]; rfl
theorem Ag2 (l r : List Int) : Aq l ++ Aq r = Aq (l ++ r) := by unfold Aq; rw [DC]
theorem JQ (l : List Int) : ∀ r ∈ Aq l, V.purs r = true := by
 intro r hr
 obtain ⟨n, _, rfl⟩ := An.1 hr
 rfl
theorem Gt (l : List Int) : (∀ r ∈ Aq l, V.purs r = true) ↔ True := iff_true_intro (JQ l)
theorem Ag4 (l : List Int) : ∀ r ∈ Aq l, r.length = 1 := by
 intro r hr
 obtain ⟨n, _, rfl⟩ := An.1 hr
 rfl
theorem Ag5 (l : List Int) : (∀ r ∈ Aq l, r.length = 1) ↔ True := iff_true_intro (Ag4 l)
theorem Mw {l r : List Int} (h : Aq l = Aq r) : l = r := Cj (fun a b h => by simpa using h) h
theorem Abd (n : Nat) : List.replicate n [V.int .i64 0] = Aq (List.replicate n 0) := by unfold Aq; rw [Qh]
theorem PY : Aq [] = [] := rfl
attribute [go_sem] Em Alq Alp DB Gt Ag5
theorem AiY (a : List (List V)) (r : List V) : (∀ x ∈ a ++ [r], V.purs x = true) ↔ (∀ x ∈ a, V.purs x = true) /\ V.purs r = true := by
 simp only [List.forall_mem_append, Bk, forall_eq]
theorem Ahu (a : List (List V)) (r : List V) (n : Nat) : (∀ x ∈ a ++ [r], x.length = n) ↔ (∀ x ∈ a, x.length = n) /\ r.length = n := by
 simp only [List.forall_mem_append, Bk, forall_eq]
attribute [go_sem] AiY Ahu
theorem Ap {α : Type} (f : α -> List V) (l : List α) (i : Nat) (d : List V) (h : i < l.length) : (l.map f).getD i d = f l[i] := by
 rw [AI, BE, AY h]; rfl
theorem CW {α : Type} {l : List α} {i : Nat} (h : i < l.length) : l.take (i + 1) = l.take i ++ [l[i]] := Oi h
def PJ {α : Type} (_ : α) : Prop × V := (True, .bool true)
def KD (_ : Unit) : List V := []
theorem WK (a b : Unit) (_ : KD a = KD b) : a = b := rfl
theorem DA : gOf KD PJ [] = (True, .bool true) := Al WK ()
theorem AeJ {α : Type} {p : α -> Bool} {l : List α} {i : Nat} (h : i < l.length) (hp : p l[i] = true) : l.any p = true := JT.2 ⟨_, AF h, hp⟩
theorem AeK {α : Type} {p : α -> Bool} {l : List α} {i : Nat} (h : l.length <= i) (hp : ∀ x ∈ l.take i, p x = false) : l.any p = false := by
 rw [Bu h] at hp
 rw [List.any_eq_false]
 intro x hx
 rw [hp x hx]; decide
theorem AbM {α : Type} {l : List α} {i : Nat} (h : l.length <= i) {P : α -> Prop} (hp : ∀ x ∈ l.take i, P x) : ∀ x ∈ l, P x := by rwa [Bu h] at hp
abbrev Aw (α : Type) := List (List UInt8 × α)
def As {α : Type} (L : Aw α) (k : List UInt8) : Option α := (L.find? fun p => decide (p.1 = k)).map (·.2)
def BB {α : Type} : Aw α -> List UInt8 -> α -> Aw α
 | [], k, v => [(k, v)]
 | (k', v') :: L, k, v => if k' = k then (k, v) :: L else (k', v') :: BB L k v
def BD {α : Type} (f : α -> V) (L : Aw α) : List (Ky × V) := L.map fun p => (.s p.1, f p.2)
theorem AeA {α : Type} (k : List UInt8) : As ([] : Aw α) k = none := rfl
theorem IH {α : Type} (k' : List UInt8) (v' : α) (L : Aw α) (k : List UInt8) : As ((k', v') :: L) k = if k' = k then some v' else As L k := by
 unfold As
 rw [List.find?_cons]
 by_cases h : k' = k <;> simp [h]
theorem JA {α : Type} (L : Aw α) (k j : List UInt8) (v : α) : As (BB L k v) j = if k = j then some v else As L j := by
 induction L with
 | nil => rw [BB, IH, AeA]
 | cons p L ih =>
  obtain ⟨k', v'⟩ := p
  rw [BB]
  by_cases h : k' = k
  ·subst h
   rw [if_pos rfl, IH, IH]
   split <;> rfl
  ·rw [if_neg h, IH, IH, ih]
   by_cases e : k = j
   ·subst e; rw [if_neg h, if_pos rfl, if_pos rfl]
   ·rw [if_neg e, if_neg e]
theorem TE {α : Type} (f : α -> V) (L : Aw α) (k : List UInt8) (v : α) : BM (BD f L) (.s k) (f v) = BD f (BB L k v) := by
 induction L with
 | nil => rfl
 | cons p L ih =>
  obtain ⟨k', v'⟩ := p
  show BM ((.s k', f v') :: BD f L) (.s k) (f v) = _
  rw [AbG, BB]
  by_cases h : k' = k
  ·subst h; rw [if_pos rfl, if_pos rfl]; rfl
  ·rw [if_neg (fun e => h (by injection e)), if_neg h, ih]; rfl
theorem TB {α : Type} (f : α -> V) (L : Aw α) (k : List UInt8) (z : V) : CU (BD f L) (.s k) z = ((As L k).map f).getD z := by
 induction L with
 | nil => rfl
 | cons p L ih =>
  obtain ⟨k', v'⟩ := p
  show CU ((.s k', f v') :: BD f L) (.s k) z = _
  rw [MP, IH]
  by_cases h : k' = k
  ·subst h; rw [if_pos rfl, if_pos rfl]; rfl
  ·rw [if_neg (fun e => h (by injection e)), if_neg h, ih]
theorem Ahe {α : Type} (f : α -> V) (L : Aw α) (k : List UInt8) : mhas (BD f L) (.s k) = (As L k).isSome := by
 induction L with
 | nil => rfl
 | cons p L ih =>
  obtain ⟨k', v'⟩ := p
  show mhas ((.s k', f v') :: BD f L) (.s k) = _
  rw [AhN, IH, ih]
  by_cases h : k' = k
  ·subst h; simp
  ·rw [if_neg h, decide_eq_false (fun e => h (by injection e)), Bool.false_or]
theorem Ahf {α : Type} (f : α -> V) (L : Aw α) : (∀ q ∈ BD f L, q.1.kd = 0) ↔ True := iff_true_intro fun q hq => by
 obtain ⟨p, _, rfl⟩ := An.1 hq; rfl
def fS8 (s : List UInt8) : V := .str s
def fI8 (n : Int) : V := .int .i64 n
def fB8 (b : Bool) : V := .bool b
theorem Ahk (L : Aw (List UInt8)) : (∀ q ∈ BD fS8 L, q.2.pur = true) ↔ True := iff_true_intro fun q hq => by obtain ⟨p, _, rfl⟩ := An.1 hq; rfl
theorem Ahj (L : Aw Int) : (∀ q ∈ BD fI8 L, q.2.pur = true) ↔ True := iff_true_intro fun q hq => by obtain ⟨p, _, rfl⟩ := An.1 hq; rfl
theorem Ahi (L : Aw Bool) : (∀ q ∈ BD fB8 L, q.2.pur = true) ↔ True := iff_true_intro fun q hq => by obtain ⟨p, _, rfl⟩ := An.1 hq; rfl
theorem Ahh (d : List Nat) (L : Aw (List UInt8)) : (∀ q ∈ BD fS8 L, q.2.nin d = true) ↔ True := iff_true_intro fun q hq => by obtain ⟨p, _, rfl⟩ := An.1 hq; simp only [fS8, V.nin]
theorem TD (d : List Nat) (L : Aw Int) : (∀ q ∈ BD fI8 L, q.2.nin d = true) ↔ True := iff_true_intro fun q hq => by obtain ⟨p, _, rfl⟩ := An.1 hq; simp only [fI8, V.nin]
theorem Ahg (d : List Nat) (L : Aw Bool) : (∀ q ∈ BD fB8 L, q.2.nin d = true) ↔ True := iff_true_intro fun q hq => by obtain ⟨p, _, rfl⟩ := An.1 hq; simp only [fB8, V.nin]
theorem Ahm (σ : Nat -> Nat) (L : Aw (List UInt8)) : (BD fS8 L).map (fun q => (q.1, q.2.ren σ)) = BD fS8 L := by
 unfold BD; rw [Lq]; exact Gw fun p _ => by simp only [Mz, fS8, V.ren]
theorem TF (σ : Nat -> Nat) (L : Aw Int) : (BD fI8 L).map (fun q => (q.1, q.2.ren σ)) = BD fI8 L := by
 unfold BD; rw [Lq]; exact Gw fun p _ => by simp only [Mz, fI8, V.ren]
theorem Ahl (σ : Nat -> Nat) (L : Aw Bool) : (BD fB8 L).map (fun q => (q.1, q.2.ren σ)) = BD fB8 L := by
 unfold BD; rw [Lq]; exact Gw fun p _ => by simp only [Mz, fB8, V.ren]
theorem Ai2 (L : Aw (List UInt8)) (k v : List UInt8) : BM (BD fS8 L) (.s k) (.str v) = BD fS8 (BB L k v) := TE fS8 L k v
theorem Ab9 (L : Aw Int) (k : List UInt8) (v : Int) : BM (BD fI8 L) (.s k) (.int .i64 v) = BD fI8 (BB L k v) := TE fI8 L k v
theorem AiZ (L : Aw Bool) (k : List UInt8) (v : Bool) : BM (BD fB8 L) (.s k) (.bool v) = BD fB8 (BB L k v) := TE fB8 L k v
theorem AgL (L : Aw (List UInt8)) (k z : List UInt8) : CU (BD fS8 L) (.s k) (.str z) = .str ((As L k).getD z) := by rw [TB]; cases As L k <;> rfl
theorem AgJ (L : Aw Int) (k : List UInt8) (z : Int) : CU (BD fI8 L) (.s k) (.int .i64 z) = .int .i64 ((As L k).getD z) := by rw [TB]; cases As L k <;> rfl
theorem AgH (L : Aw Bool) (k : List UInt8) (z : Bool) : CU (BD fB8 L) (.s k) (.bool z) = .bool ((As L k).getD z) := by rw [TB]; cases As L k <;> rfl
attribute [go_sem] Ahf Ahk Ahj Ahi Ahh TD Ahg Ahm TF Ahl Ai2 Ab9 AiZ AgL AgJ AgH Ahe
structure Period where
 from' : Int
 to' : Int
 days : Int
def Period.enc (x : Period) : List V := [.int .i64 x.from', .int .i64 x.to', .int .i64 x.days]
theorem Period.inj (a b : Period) (h : a.enc = b.enc) : a = b := by
 obtain ⟨a_from', a_to', a_days⟩ := a
 obtain ⟨b_from', b_to', b_days⟩ := b
 simp only [Period.enc, Bz, V.str.injEq, V.int.injEq, V.bool.injEq, V.agg.injEq, V.list.injEq, and_true, true_and] at h
 obtain ⟨h0, h1, h2⟩ := h
 subst h0
 subst h1
 subst h2
 rfl
def Period.ok (x : Period) : Prop := inI x.from' /\ inI x.to' /\ inI x.days
theorem Period.rows (l : List Period) : (∀ r ∈ l.map Period.enc, r.length = 3) ↔ True := iff_true_intro fun r hr => by obtain ⟨x, _, rfl⟩ := An.1 hr; rfl
theorem Period.purs (l : List Period) : (∀ r ∈ l.map Period.enc, V.purs r = true) ↔ True := iff_true_intro fun r hr => by obtain ⟨x, _, rfl⟩ := An.1 hr; rfl
attribute [go_sem] Period.rows Period.purs
inductive Cond where
 | mk (kind : Int) (l : List Cond) (a b : Int) (p : Period) (text : List (List UInt8))
namespace Cond
def kind : Cond -> Int | mk k _ _ _ _ _ => k
def l : Cond -> List Cond | mk _ l _ _ _ _ => l
def a : Cond -> Int | mk _ _ a _ _ _ => a
def b : Cond -> Int | mk _ _ _ b _ _ => b
def p : Cond -> Period | mk _ _ _ _ p _ => p
def text : Cond -> List (List UInt8) | mk _ _ _ _ _ t => t
mutual
def enc : Cond -> List V
 | mk k l a b p t => [.int .i64 k, .list (Gf l) false, .int .i64 a, .int .i64 b, .int .i64 p.from', .int .i64 p.to', .int .i64 p.days, .list (strs t) false]
def Gf : List Cond -> List (List V)
 | [] => []
 | c :: l => c.enc :: Gf l
end
theorem Yl : ∀ l, Gf l = l.map enc
 | [] => by rw [Gf]; rfl
 | c :: l => by rw [Gf, Yl l]; rfl
theorem enc_eq (k : Int) (l : List Cond) (a b : Int) (p : Period) (t : List (List UInt8)) : (mk k l a b p t).enc = [.int .i64 k, .list (l.map enc) false, .int .i64 a, .int .i64 b, .int .i64 p.from', .int .i64 p.to', .int .i64 p.days, .list (strs t) false] := by rw [enc, Yl]
mutual
def dep : Cond -> Nat
 | mk _ l _ _ _ _ => Pg l + 1
def Pg : List Cond -> Nat
 | [] => 0
 | c :: l => max c.dep (Pg l)
end
theorem Yd : ∀ {l : List Cond} {c : Cond}, c ∈ l -> c.dep <= Pg l
 | x :: l, c, h => by
  rw [Pg]
  rcases AK.1 h with rfl | h
  ·omega
  ·have := Yd h; omega
theorem dep_l (c : Cond) : ∀ x ∈ c.l, x.dep < c.dep := by
 obtain ⟨k, l, a, b, p, t⟩ := c
 intro x hx
 have := Yd (l := l) hx
 rw [dep]; omega
mutual
def ok : Cond -> Prop
 | mk k l a b p t => inI k /\ (l.length <= 140737488355328 /\ oks l) /\ inI a /\ inI b /\ p.ok /\ (t.length <= 140737488355328 /\ ∀ z ∈ t, z.length <= 140737488355328)
def oks : List Cond -> Prop
 | [] => True
 | c :: l => c.ok /\ oks l
end
theorem AbZ : ∀ l, oks l ↔ ∀ c ∈ l, c.ok
 | [] => by rw [oks]; simp
 | c :: l => by rw [oks, AbZ l]; simp
theorem ok_eq (k : Int) (l : List Cond) (a b : Int) (p : Period) (t : List (List UInt8)) : (mk k l a b p t).ok ↔ inI k /\ (l.length <= 140737488355328 /\ ∀ c ∈ l, c.ok) /\ inI a /\ inI b /\ p.ok /\ (t.length <= 140737488355328 /\ ∀ z ∈ t, z.length <= 140737488355328) := by rw [ok, AbZ]
mutual
theorem inj : ∀ a b : Cond, a.enc = b.enc -> a = b
 | mk k l a b p t, mk k2 l2 a2 b2 p2 t2, h => by
  rw [enc, enc] at h
  simp only [Bz, V.int.injEq, V.list.injEq, and_true, true_and] at h
  obtain ⟨h1, h2, h3, h4, h5, h6, h7, h8⟩ := h
  obtain ⟨x, y, z⟩ := p
  obtain ⟨x2, y2, z2⟩ := p2
  dsimp only at h5 h6 h7
  rw [h1, Aa9 l l2 h2, h3, h4, h5, h6, h7, Iy h8]
theorem Aa9 : ∀ a b : List Cond, Gf a = Gf b -> a = b
 | [], [], _ => rfl
 | [], c :: l, h => by rw [Gf, Gf] at h; cases h
 | c :: l, [], h => by rw [Gf, Gf] at h; cases h
 | c :: l, c2 :: l2, h => by
  rw [Gf, Gf] at h
  injection h with h1 h2
  rw [inj c c2 h1, Aa9 l l2 h2]
end
theorem rows (l : List Cond) : (∀ r ∈ l.map enc, r.length = 8) ↔ True := iff_true_intro fun r hr => by obtain ⟨⟨k, l, a, b, p, t⟩, _, rfl⟩ := An.1 hr; rw [enc]; rfl
theorem purs (l : List Cond) : (∀ r ∈ l.map enc, V.purs r = true) ↔ True := iff_true_intro fun r hr => by obtain ⟨⟨k, l, a, b, p, t⟩, _, rfl⟩ := An.1 hr; rw [enc]; rfl
mutual
def siz : Cond -> Int
 | mk _ l _ _ _ _ => sizs 1 l
def sizs : Int -> List Cond -> Int
 | n, [] => n
 | n, c :: l => sizs (wr (n + c.siz)) l
end
mutual
def lev : Cond -> Int
 | mk _ l _ _ _ _ => wr (levs 0 l + 1)
def levs : Int -> List Cond -> Int
 | n, [] => n
 | n, c :: l => levs (max n c.lev) l
end
theorem Adk (c : Cond) : ∀ (l : List Cond) (n : Int), sizs n (l ++ [c]) = wr (sizs n l + c.siz)
 | [], n => by rw [FR, sizs, sizs, sizs]
 | x :: l, n => by rw [FQ, sizs, Adk c l, sizs]
theorem Abr (c : Cond) : ∀ (l : List Cond) (n : Int), levs n (l ++ [c]) = max (levs n l) c.lev
 | [], n => by rw [FR, levs, levs, levs]
 | x :: l, n => by rw [FQ, levs, Abr c l, levs]
theorem siz_step {l : List Cond} {i : Nat} (h : i < l.length) : sizs 1 (l.take (i + 1)) = wr (sizs 1 (l.take i) + l[i].siz) := by rw [CW h, Adk]
theorem lev_step {l : List Cond} {i : Nat} (h : i < l.length) : levs 0 (l.take (i + 1)) = max (levs 0 (l.take i)) l[i].lev := by rw [CW h, Abr]
end Cond
attribute [go_sem] Cond.rows Cond.purs
def AQ (c : Cond) : List V := [.agg c.enc]
theorem Gd (a b : Cond) (h : AQ a = AQ b) : a = b := by
 unfold AQ at h
 simp only [Bz, V.agg.injEq, and_true] at h
 exact Cond.inj _ _ h
def DR (f : Cond -> V) (n : Nat) (c : Cond) : Prop × V := (c.ok /\ c.dep < n, f c)
def HH (k : Nat) (f : Cond -> V) (n : Nat) (g : Nat) : List V -> Prop × V := if g = k then gOf AQ (DR f n) else gNo
theorem QB {k : Nat} {f : Cond -> V} (h : ∀ n, (∀ g, PU g (HH k f n g)) -> PU k (gOf AQ (DR f (n + 1)))) : ∀ n, PU k (gOf AQ (DR f n))
 | 0 => by
  refine Ah.no.sub fun vs hv => ?_
  unfold gOf at hv
  split at hv
  ·exact absurd hv.2 (EK _)
  ·exact hv.elim
 | n + 1 => h n fun g => by
  unfold HH
  by_cases e : g = k
  ·subst e; rw [if_pos rfl]; exact QB h n
  ·rw [if_neg e]; exact Ah.no
structure Shift where
 at' : Int
 offset : Int
def Shift.enc (x : Shift) : List V := [.int .i64 x.at', .int .i64 x.offset]
theorem Shift.inj (a b : Shift) (h : a.enc = b.enc) : a = b := by
 obtain ⟨a_at', a_offset⟩ := a
 obtain ⟨b_at', b_offset⟩ := b
 simp only [Shift.enc, Bz, V.str.injEq, V.int.injEq, V.bool.injEq, V.agg.injEq, V.list.injEq, and_true, true_and] at h
 obtain ⟨h0, h1⟩ := h
 subst h0
 subst h1
 rfl
def Shift.ok (x : Shift) : Prop := inI x.at' /\ inI x.offset
def Shift.zero : Shift := ⟨0, 0⟩
theorem Shift.rows (l : List Shift) : (∀ r ∈ l.map Shift.enc, r.length = 2) ↔ True := iff_true_intro fun r hr => by obtain ⟨x, _, rfl⟩ := An.1 hr; rfl
theorem Shift.purs (l : List Shift) : (∀ r ∈ l.map Shift.enc, V.purs r = true) ↔ True := iff_true_intro fun r hr => by obtain ⟨x, _, rfl⟩ := An.1 hr; rfl
attribute [go_sem] Shift.rows Shift.purs
structure Zone where
 offset : Int
 shifts : List Shift
def Zone.enc (x : Zone) : List V := [.int .i64 x.offset, .list (x.shifts.map Shift.enc) false]
theorem Zone.inj (a b : Zone) (h : a.enc = b.enc) : a = b := by
 obtain ⟨a_offset, a_shifts⟩ := a
 obtain ⟨b_offset, b_shifts⟩ := b
 simp only [Zone.enc, Bz, V.str.injEq, V.int.injEq, V.bool.injEq, V.agg.injEq, V.list.injEq, and_true, true_and] at h
 obtain ⟨h0, h1⟩ := h
 subst h0
 replace h1 := Cj Shift.inj h1
 subst h1
 rfl
def Zone.ok (x : Zone) : Prop := inI x.offset /\ (x.shifts.length <= 140737488355328 /\ ∀ z ∈ x.shifts, z.ok)
def Zone.zero : Zone := ⟨0, []⟩
theorem Zone.rows (l : List Zone) : (∀ r ∈ l.map Zone.enc, r.length = 2) ↔ True := iff_true_intro fun r hr => by obtain ⟨x, _, rfl⟩ := An.1 hr; rfl
theorem Zone.purs (l : List Zone) : (∀ r ∈ l.map Zone.enc, V.purs r = true) ↔ True := iff_true_intro fun r hr => by obtain ⟨x, _, rfl⟩ := An.1 hr; rfl
attribute [go_sem] Zone.rows Zone.purs
structure Airport where
 code : List UInt8
 city : List UInt8
 country : List UInt8
 zone : Zone
def Airport.enc (x : Airport) : List V := [.str x.code, .str x.city, .str x.country, .int .i64 x.zone.offset, .list (x.zone.shifts.map Shift.enc) false]
theorem Airport.inj (a b : Airport) (h : a.enc = b.enc) : a = b := by
 obtain ⟨a_code, a_city, a_country, ⟨a_zone_offset, a_zone_shifts⟩⟩ := a
 obtain ⟨b_code, b_city, b_country, ⟨b_zone_offset, b_zone_shifts⟩⟩ := b
 simp only [Airport.enc, Bz, V.str.injEq, V.int.injEq, V.bool.injEq, V.agg.injEq, V.list.injEq, and_true, true_and] at h
 obtain ⟨h0, h1, h2, h3, h4⟩ := h
 subst h0
 subst h1
 subst h2
 subst h3
 replace h4 := Cj Shift.inj h4
 subst h4
 rfl
def Airport.ok (x : Airport) : Prop := x.code.length <= 140737488355328 /\ x.city.length <= 140737488355328 /\ x.country.length <= 140737488355328 /\ x.zone.ok
def Airport.zero : Airport := ⟨[], [], [], Zone.zero⟩
theorem Airport.rows (l : List Airport) : (∀ r ∈ l.map Airport.enc, r.length = 5) ↔ True := iff_true_intro fun r hr => by obtain ⟨x, _, rfl⟩ := An.1 hr; rfl
theorem Airport.purs (l : List Airport) : (∀ r ∈ l.map Airport.enc, V.purs r = true) ↔ True := iff_true_intro fun r hr => by obtain ⟨x, _, rfl⟩ := An.1 hr; rfl
attribute [go_sem] Airport.rows Airport.purs
structure Distance where
 from' : List UInt8
 to' : List UInt8
 miles : Int
def Distance.enc (x : Distance) : List V := [.str x.from', .str x.to', .int .i64 x.miles]
theorem Distance.inj (a b : Distance) (h : a.enc = b.enc) : a = b := by
 obtain ⟨a_from', a_to', a_miles⟩ := a
 obtain ⟨b_from', b_to', b_miles⟩ := b
 simp only [Distance.enc, Bz, V.str.injEq, V.int.injEq, V.bool.injEq, V.agg.injEq, V.list.injEq, and_true, true_and] at h
 obtain ⟨h0, h1, h2⟩ := h
 subst h0
 subst h1
 subst h2
 rfl
def Distance.ok (x : Distance) : Prop := x.from'.length <= 140737488355328 /\ x.to'.length <= 140737488355328 /\ inI x.miles
def Distance.zero : Distance := ⟨[], [], 0⟩
theorem Distance.rows (l : List Distance) : (∀ r ∈ l.map Distance.enc, r.length = 3) ↔ True := iff_true_intro fun r hr => by obtain ⟨x, _, rfl⟩ := An.1 hr; rfl
theorem Distance.purs (l : List Distance) : (∀ r ∈ l.map Distance.enc, V.purs r = true) ↔ True := iff_true_intro fun r hr => by obtain ⟨x, _, rfl⟩ := An.1 hr; rfl
attribute [go_sem] Distance.rows Distance.purs
structure Places where
 airports : List Airport
 distances : List Distance
def Places.enc (x : Places) : List V := [.list (x.airports.map Airport.enc) false, .list (x.distances.map Distance.enc) false]
theorem Places.inj (a b : Places) (h : a.enc = b.enc) : a = b := by
 obtain ⟨a_airports, a_distances⟩ := a
 obtain ⟨b_airports, b_distances⟩ := b
 simp only [Places.enc, Bz, V.str.injEq, V.int.injEq, V.bool.injEq, V.agg.injEq, V.list.injEq, and_true, true_and] at h
 obtain ⟨h0, h1⟩ := h
 replace h0 := Cj Airport.inj h0
 subst h0
 replace h1 := Cj Distance.inj h1
 subst h1
 rfl
def Places.ok (x : Places) : Prop := (x.airports.length <= 140737488355328 /\ ∀ z ∈ x.airports, z.ok) /\ (x.distances.length <= 140737488355328 /\ ∀ z ∈ x.distances, z.ok)
theorem Places.rows (l : List Places) : (∀ r ∈ l.map Places.enc, r.length = 2) ↔ True := iff_true_intro fun r hr => by obtain ⟨x, _, rfl⟩ := An.1 hr; rfl
theorem Places.purs (l : List Places) : (∀ r ∈ l.map Places.enc, V.purs r = true) ↔ True := iff_true_intro fun r hr => by obtain ⟨x, _, rfl⟩ := An.1 hr; rfl
attribute [go_sem] Places.rows Places.purs
def BR (p : Airport -> Bool) (l : List Airport) : Option Airport := l.find? p
theorem PL {p : Airport -> Bool} {l : List Airport} {i : Nat} (hi : i < l.length) (hp : ∀ c ∈ l.take i, p c = false) (h : p l[i] = true) : BR p l = some l[i] := by
 have e1 : BR p l = (l.take i ++ l.drop i).find? p := by rw [Lu]; rfl
 rw [e1, List.find?_append, NZ.2 (fun c hc => by rw [hp c hc]; decide), Option.none_or, DS hi, List.find?_cons_of_pos h]
theorem PM {p : Airport -> Bool} {l : List Airport} {i : Nat} (hi : l.length <= i) (hp : ∀ c ∈ l.take i, p c = false) : BR p l = none := by
 rw [Bu hi] at hp
 exact NZ.2 fun c hc => by rw [hp c hc]; decide
def ER (c : List UInt8) (a : Airport) : Bool := decide (a.code = c)
def Et (c : List UInt8) (a : Airport) : Bool := decide (a.city = c)
def aPs := ar (vg Places.enc) (ao V.str)
theorem Hd : Ij aPs := ijr (ijg Places.inj) (ijo ijs)
def BH (p : Places) : Prop := p.airports.length <= 140737488355328 /\ p.distances.length <= 140737488355328
def Dn (o : Option Airport) : V := .tup [.agg (o.getD Airport.zero).enc, .bool o.isSome]
def Hm (x : Places × List UInt8) : Prop × V := (BH x.1, Dn (BR (ER x.2) x.1.airports))
def Ib (x : Places × List UInt8) : Prop × V := (BH x.1, Dn (BR (Et x.2) x.1.airports))
theorem Cm (ps : List Airport) (ds : List Distance) (c : List UInt8) : gOf aPs Hm [.agg [.list (ps.map Airport.enc) false, .list (ds.map Distance.enc) false], .str c] = (BH ⟨ps, ds⟩, Dn (BR (ER c) ps)) := Al Hd (⟨ps, ds⟩, c)
theorem NK (ps : List Airport) (ds : List Distance) (c : List UInt8) : gOf aPs Ib [.agg [.list (ps.map Airport.enc) false, .list (ds.map Distance.enc) false], .str c] = (BH ⟨ps, ds⟩, Dn (BR (Et c) ps)) := Al Hd (⟨ps, ds⟩, c)
theorem Agt : PU 212 (gOf aPs Hm) := by
 have hG := AH
 refine ZK.a Hd (by simp [aPs]) ?_
 rintro ⟨⟨ps, ds⟩, c⟩ hv C hN Q hQ
 have Z := ZK.R EF0 hG hN
 obtain ⟨hl, -⟩ : BH ⟨ps, ds⟩ := hv
 dsimp only at hl
 refine Aa (Z 0 rfl ?_)
 simp only [go_sem, simprocAttr, aPs, Places.enc]
 refine Aa (Aa (Z 1 rfl ?_))
 simp only [go_sem, simprocAttr]
 refine Ao ?_
 refine AX (α := Nat) (fun i => (i <= ps.length) /\ (∀ a ∈ ps.take i, ER c a = false)) (fun i => ⟨mkE [(1, V.str c), (4, V.ptr 4 0), (9, V.list (List.map Airport.enc ps) false), (10, V.int IntKind.i64 ↑ps.length), (11, .int .i64 i)], mkH [(4, Ob.box 212 [V.str [], V.str [], V.str [], V.int IntKind.i64 0, V.nils])]⟩) (fun i => ps.length - i) 0 (by simp) ?_ ?_
 ·exact leM
 rintro i ⟨hi, hp⟩ KL0 hKL0
 try dsimp only at *
 refine Aa (Z 2 rfl ?_)
 simp only [go_sem, simprocAttr]
 refine Aa ?_
 refine Ae rfl (fun hc2 => ?_) fun hc2 => ?_
 ·simp only [hcL] at hc2
  refine Af ?_
  refine Aa (Ao ?_)
  refine Aa (Z 3 rfl ?_)
  simp only [go_sem, simprocAttr, Ap _ _ _ _ hc2, hc2, Airport.enc]
  and_intros <;> try exact sdA
  refine Aa (Z 4 rfl ?_)
  simp only [go_sem, simprocAttr]
  refine Ae rfl (fun hb => ?_) fun hb => ?_
  ·refine Aa (Z 5 rfl ?_)
   simp only [go_sem, simprocAttr]
   refine Ad (hQ _ _ (.inl rfl) ?_ ?_ ?_) <;> simp only [go_sem, simprocAttr, Hm, Dn]
   rw [PL hc2 hp hb]; rfl
  refine Af ?_
  refine Z 6 rfl ?_
  simp only [go_sem, simprocAttr, inI]
  and_intros <;> try exact sdA
  refine hKL0 (i + 1) _ ?_ ?_ ?_
  ·(try dsimp only); exact ⟨hc2, Iz hc2 hp hb⟩
  ·(try dsimp only); omega
  exact leM
 simp only [hcL] at hc2
 refine AS ?_
 simp only [go_sem, simprocAttr]
 refine Aa (Z 7 rfl ?_)
 simp only [go_sem, simprocAttr]
 refine AW.le (s' := ⟨mkE [(4, .ptr 4 0), (5, .bool false)], mkH [(4, .box 212 Airport.zero.enc)]⟩) (Le.mk _ _ ?_ ?_ rfl) (Ad (hQ _ _ (.inl rfl) ?_ ?_ ?_)) <;> simp only [go_sem, simprocAttr, Hm, Dn, PM hc2 hp, Airport.zero, Zone.zero, Airport.enc, MF, NW, GR]
theorem AmT : PU 213 (gOf aPs Ib) := by
 have hG := AH
 refine ZL.a Hd (by simp [aPs]) ?_
 rintro ⟨⟨ps, ds⟩, c⟩ hv C hN Q hQ
 have Z := ZL.R EF0 hG hN
 obtain ⟨hl, -⟩ : BH ⟨ps, ds⟩ := hv
 dsimp only at hl
 refine Aa (Z 0 rfl ?_)
 simp only [go_sem, simprocAttr, aPs, Places.enc]
 refine Aa (Aa (Z 1 rfl ?_))
 simp only [go_sem, simprocAttr]
 refine Ao ?_
 refine AX (α := Nat) (fun i => (i <= ps.length) /\ (∀ a ∈ ps.take i, Et c a = false)) (fun i => ⟨mkE [(1, V.str c), (4, V.ptr 4 0), (9, V.list (List.map Airport.enc ps) false), (10, V.int IntKind.i64 ↑ps.length), (11, .int .i64 i)], mkH [(4, Ob.box 212 [V.str [], V.str [], V.str [], V.int IntKind.i64 0, V.nils])]⟩) (fun i => ps.length - i) 0 (by simp) ?_ ?_
 ·exact leM
 rintro i ⟨hi, hp⟩ KL0 hKL0
 try dsimp only at *
 refine Aa (Z 2 rfl ?_)
 simp only [go_sem, simprocAttr]
 refine Aa ?_
 refine Ae rfl (fun hc2 => ?_) fun hc2 => ?_
 ·simp only [hcL] at hc2
  refine Af ?_
  refine Aa (Ao ?_)
  refine Aa (Z 3 rfl ?_)
  simp only [go_sem, simprocAttr, Ap _ _ _ _ hc2, hc2, Airport.enc]
  and_intros <;> try exact sdA
  refine Aa (Z 4 rfl ?_)
  simp only [go_sem, simprocAttr]
  refine Ae rfl (fun hb => ?_) fun hb => ?_
  ·refine Aa (Z 5 rfl ?_)
   simp only [go_sem, simprocAttr]
   refine Ad (hQ _ _ (.inl rfl) ?_ ?_ ?_) <;> simp only [go_sem, simprocAttr, Ib, Dn]
   rw [PL hc2 hp hb]; rfl
  refine Af ?_
  refine Z 6 rfl ?_
  simp only [go_sem, simprocAttr, inI]
  and_intros <;> try exact sdA
  refine hKL0 (i + 1) _ ?_ ?_ ?_
  ·(try dsimp only); exact ⟨hc2, Iz hc2 hp hb⟩
  ·(try dsimp only); omega
  exact leM
 simp only [hcL] at hc2
 refine AS ?_
 simp only [go_sem, simprocAttr]
 refine Aa (Z 7 rfl ?_)
 simp only [go_sem, simprocAttr]
 refine AW.le (s' := ⟨mkE [(4, .ptr 4 0), (5, .bool false)], mkH [(4, .box 212 Airport.zero.enc)]⟩) (Le.mk _ _ ?_ ?_ rfl) (Ad (hQ _ _ (.inl rfl) ?_ ?_ ?_)) <;> simp only [go_sem, simprocAttr, Ib, Dn, PM hc2 hp, Airport.zero, Zone.zero, Airport.enc, MF, NW, GR]
theorem Uq : PU 160 (gOf aPs Hm) := by
 have hG := AH
 refine Ze.a Hd (by simp [aPs]) ?_
 rintro ⟨⟨ps, ds⟩, c⟩ hv C hN Q hQ
 have Z := Ze.R EF0 hG hN
 obtain ⟨hl, -⟩ : BH ⟨ps, ds⟩ := hv
 dsimp only at hl
 refine Aa (Z 0 rfl ?_)
 simp only [go_sem, simprocAttr, aPs, Places.enc]
 refine Aa (Aa (Z 1 rfl ?_))
 simp only [go_sem, simprocAttr]
 refine Ao ?_
 refine AX (α := Nat) (fun i => (i <= ps.length) /\ (∀ a ∈ ps.take i, ER c a = false)) (fun i => ⟨mkE [(1, V.str c), (2, V.ptr 2 0), (4, V.ptr 4 0), (6, .int .i64 i)], mkH [(2, Ob.box 25 [V.list (List.map Airport.enc ps) false, V.list (List.map Distance.enc ds) false]), (4, Ob.box 212 [V.str [], V.str [], V.str [], V.int IntKind.i64 0, V.nils])]⟩) (fun i => ps.length - i) 0 (by simp) ?_ ?_
 ·exact leM
 rintro i ⟨hi, hp⟩ KL0 hKL0
 try dsimp only at *
 refine Aa (Aa (Z 2 rfl ?_))
 simp only [go_sem, simprocAttr]
 refine Ae rfl (fun hc2 => ?_) fun hc2 => ?_
 ·simp only [hcL] at hc2
  refine Af ?_
  refine Aa (Ao ?_)
  refine Aa (Z 4 rfl ?_)
  simp only [go_sem, simprocAttr, Ap _ _ _ _ hc2, hc2, Airport.enc]
  and_intros <;> try exact sdA
  refine Ae rfl (fun hb => ?_) fun hb => ?_
  ·refine Aa (Z 5 rfl ?_)
   simp only [go_sem, simprocAttr, Ap _ _ _ _ hc2, hc2, Airport.enc]
   and_intros <;> try exact sdA
   refine Ad (hQ _ _ (.inl rfl) ?_ ?_ ?_) <;> simp only [go_sem, simprocAttr, Hm, Dn]
   rw [PL hc2 hp hb]; rfl
  refine Af ?_
  refine Z 3 rfl ?_
  simp only [go_sem, simprocAttr, inI]
  and_intros <;> try exact sdA
  refine hKL0 (i + 1) _ ?_ ?_ ?_
  ·(try dsimp only); exact ⟨hc2, Iz hc2 hp hb⟩
  ·(try dsimp only); omega
  exact leM
 simp only [hcL] at hc2
 refine AS ?_
 simp only [go_sem, simprocAttr]
 refine Aa (Z 6 rfl ?_)
 simp only [go_sem, simprocAttr]
 refine AW.le (s' := ⟨mkE [(4, .ptr 4 0), (5, .bool false)], mkH [(4, .box 212 Airport.zero.enc)]⟩) (Le.mk _ _ ?_ ?_ rfl) (Ad (hQ _ _ (.inl rfl) ?_ ?_ ?_)) <;> simp only [go_sem, simprocAttr, Hm, Dn, PM hc2 hp, Airport.zero, Zone.zero, Airport.enc, MF, NW, GR]
theorem Acy : PU 150 (gOf aPs Ib) := by
 have hG := AH
 refine YY.a Hd (by simp [aPs]) ?_
 rintro ⟨⟨ps, ds⟩, c⟩ hv C hN Q hQ
 have Z := YY.R EF0 hG hN
 obtain ⟨hl, -⟩ : BH ⟨ps, ds⟩ := hv
 dsimp only at hl
 refine Aa (Z 0 rfl ?_)
 simp only [go_sem, simprocAttr, aPs, Places.enc]
 refine Aa (Aa (Z 1 rfl ?_))
 simp only [go_sem, simprocAttr]
 refine Ao ?_
 refine AX (α := Nat) (fun i => (i <= ps.length) /\ (∀ a ∈ ps.take i, Et c a = false)) (fun i => ⟨mkE [(1, V.str c), (2, V.ptr 2 0), (4, V.ptr 4 0), (6, .int .i64 i)], mkH [(2, Ob.box 25 [V.list (List.map Airport.enc ps) false, V.list (List.map Distance.enc ds) false]), (4, Ob.box 212 [V.str [], V.str [], V.str [], V.int IntKind.i64 0, V.nils])]⟩) (fun i => ps.length - i) 0 (by simp) ?_ ?_
 ·exact leM
 rintro i ⟨hi, hp⟩ KL0 hKL0
 try dsimp only at *
 refine Aa (Aa (Z 2 rfl ?_))
 simp only [go_sem, simprocAttr]
 refine Ae rfl (fun hc2 => ?_) fun hc2 => ?_
 ·simp only [hcL] at hc2
  refine Af ?_
  refine Aa (Ao ?_)
  refine Aa (Z 4 rfl ?_)
  simp only [go_sem, simprocAttr, Ap _ _ _ _ hc2, hc2, Airport.enc]
  and_intros <;> try exact sdA
  refine Ae rfl (fun hb => ?_) fun hb => ?_
  ·refine Aa (Z 5 rfl ?_)
   simp only [go_sem, simprocAttr, Ap _ _ _ _ hc2, hc2, Airport.enc]
   and_intros <;> try exact sdA
   refine Ad (hQ _ _ (.inl rfl) ?_ ?_ ?_) <;> simp only [go_sem, simprocAttr, Ib, Dn]
   rw [PL hc2 hp hb]; rfl
  refine Af ?_
  refine Z 3 rfl ?_
  simp only [go_sem, simprocAttr, inI]
  and_intros <;> try exact sdA
  refine hKL0 (i + 1) _ ?_ ?_ ?_
  ·(try dsimp only); exact ⟨hc2, Iz hc2 hp hb⟩
  ·(try dsimp only); omega
  exact leM
 simp only [hcL] at hc2
 refine AS ?_
 simp only [go_sem, simprocAttr]
 refine Aa (Z 6 rfl ?_)
 simp only [go_sem, simprocAttr]
 refine AW.le (s' := ⟨mkE [(4, .ptr 4 0), (5, .bool false)], mkH [(4, .box 212 Airport.zero.enc)]⟩) (Le.mk _ _ ?_ ?_ rfl) (Ad (hQ _ _ (.inl rfl) ?_ ?_ ?_)) <;> simp only [go_sem, simprocAttr, Ib, Dn, PM hc2 hp, Airport.zero, Zone.zero, Airport.enc, MF, NW, GR]
def BZ (ps : List Airport) (c : List UInt8) : List UInt8 := match BR (ER c) ps with
 | some a => a.city
 | none => if (BR (Et c) ps).isSome then c else []
def Md (ps : List Airport) (c : List UInt8) : List UInt8 := match BR (ER c) ps with
 | some a => a.country
 | none => ((BR (Et c) ps).getD Airport.zero).country
theorem Xx {ps : List Airport} {c : List UInt8} {a : Airport} (h : BR (ER c) ps = some a) : BZ ps c = a.city := by unfold BZ; rw [h]
theorem Pd {ps : List Airport} {c : List UInt8} (h : BR (ER c) ps = none) : BZ ps c = if (BR (Et c) ps).isSome then c else [] := by unfold BZ; rw [h]
theorem Afw {ps : List Airport} {c : List UInt8} {a : Airport} (h : BR (ER c) ps = some a) : Md ps c = a.country := by unfold Md; rw [h]
theorem Afv {ps : List Airport} {c : List UInt8} (h : BR (ER c) ps = none) : Md ps c = ((BR (Et c) ps).getD Airport.zero).country := by unfold Md; rw [h]
theorem PZ {α : Type} {o : Option α} (h : o.isSome = false) : o = none := by cases o <;> first | rfl | cases h
def GF (x : Places × List UInt8) : Prop × V := (BH x.1, .str (BZ x.1.airports x.2))
def Mi (x : Places × List UInt8) : Prop × V := (BH x.1, .str (Md x.1.airports x.2))
def tC : Tab
 | 212 => (gOf aPs Hm)
 | 213 => (gOf aPs Ib)
 | _ => gNo
theorem Aly : ∀ f, PU f (tC f) := fun f => by
 unfold tC
 split
 ·exact Agt
 ·exact AmT
 ·exact Ah.no
def trC : Tab
 | 160 => (gOf aPs Hm)
 | 150 => (gOf aPs Ib)
 | _ => gNo
theorem AdP : ∀ f, PU f (trC f) := fun f => by
 unfold trC
 split
 ·exact Uq
 ·exact Acy
 ·exact Ah.no
theorem Afb : PU 180 (gOf aPs GF) := by
 have hG := Aly
 refine Zu.a Hd (by simp [aPs]) ?_
 rintro ⟨⟨ps, ds⟩, c⟩ hv C hN Q hQ
 have Z := Zu.R EF0 hG hN
 replace hv : BH ⟨ps, ds⟩ := hv
 refine Aa (Z 0 rfl ?_)
 simp only [go_sem, simprocAttr, aPs, Places.enc, tC]
 refine Aa (Aa (Z 1 rfl ?_))
 simp only [go_sem, simprocAttr, Cm, hv, Dn, Airport.enc, tC]
 and_intros <;> try exact sdA
 refine Aa (Z 2 rfl ?_)
 simp only [go_sem, simprocAttr, tC]
 refine Ae rfl (fun hb2 => ?_) fun hb2 => ?_
 ·obtain ⟨a, hs⟩ := FO.1 hb2
  refine Aa (Z 3 rfl ?_)
  simp only [go_sem, simprocAttr, hs, Fu, tC]
  refine Ad (hQ _ _ (.inl rfl) ?_ ?_ ?_) <;> simp only [go_sem, simprocAttr, GF]
  rw [Xx hs]
 have hs := PZ hb2
 refine Af ?_
 refine Aa (Aa (Z 4 rfl ?_))
 simp only [go_sem, simprocAttr, NK, hv, Dn, Airport.enc, tC]
 and_intros <;> try exact sdA
 refine Aa (Z 5 rfl ?_)
 simp only [go_sem, simprocAttr, tC]
 refine Ae rfl (fun hb5 => ?_) fun hb5 => ?_
 ·refine Aa (Z 6 rfl ?_)
  simp only [go_sem, simprocAttr, tC]
  refine Ad (hQ _ _ (.inl rfl) ?_ ?_ ?_) <;> simp only [go_sem, simprocAttr, GF]
  rw [Pd hs, if_pos hb5]
 refine Af ?_
 refine Aa (Z 7 rfl ?_)
 simp only [go_sem, simprocAttr, tC]
 refine Ad (hQ _ _ (.inl rfl) ?_ ?_ ?_) <;> simp only [go_sem, simprocAttr, GF]
 rw [Pd hs, if_neg (by rw [hb5]; decide)]
theorem Acd : PU 158 (gOf aPs GF) := by
 have hG := AdP
 refine Zc.a Hd (by simp [aPs]) ?_
 rintro ⟨⟨ps, ds⟩, c⟩ hv C hN Q hQ
 have Z := Zc.R EF0 hG hN
 replace hv : BH ⟨ps, ds⟩ := hv
 refine Aa (Z 0 rfl ?_)
 simp only [go_sem, simprocAttr, aPs, Places.enc, trC]
 refine Aa (Z 1 rfl ?_)
 simp only [go_sem, simprocAttr, Cm, hv, Dn, Airport.enc, trC]
 and_intros <;> try exact sdA
 refine Aa (Aa (Z 2 rfl ?_))
 simp only [go_sem, simprocAttr, trC]
 refine Ae rfl (fun hb2 => ?_) fun hb2 => ?_
 ·obtain ⟨a, hs⟩ := FO.1 hb2
  refine Aa (Z 3 rfl ?_)
  simp only [go_sem, simprocAttr, hs, Fu, trC]
  refine Ad (hQ _ _ (.inl rfl) ?_ ?_ ?_) <;> simp only [go_sem, simprocAttr, GF]
  rw [Xx hs]
 have hs := PZ hb2
 refine Af ?_
 refine Aa (Z 4 rfl ?_)
 simp only [go_sem, simprocAttr, NK, hv, Dn, Airport.enc, trC]
 and_intros <;> try exact sdA
 refine Aa (Aa (Z 5 rfl ?_))
 simp only [go_sem, simprocAttr, trC]
 refine Ae rfl (fun hb5 => ?_) fun hb5 => ?_
 ·refine Aa (Z 6 rfl ?_)
  simp only [go_sem, simprocAttr, trC]
  refine Ad (hQ _ _ (.inl rfl) ?_ ?_ ?_) <;> simp only [go_sem, simprocAttr, GF]
  rw [Pd hs, if_pos hb5]
 refine Af ?_
 refine Aa (Z 7 rfl ?_)
 simp only [go_sem, simprocAttr, trC]
 refine Ad (hQ _ _ (.inl rfl) ?_ ?_ ?_) <;> simp only [go_sem, simprocAttr, GF]
 rw [Pd hs, if_neg (by rw [hb5]; decide)]
theorem Acf : PU 229 (gOf aPs Mi) := by
 have hG := AdP
 refine ZP.a Hd (by simp [aPs]) ?_
 rintro ⟨⟨ps, ds⟩, c⟩ hv C hN Q hQ
 have Z := ZP.R EF0 hG hN
 replace hv : BH ⟨ps, ds⟩ := hv
 refine Aa (Z 0 rfl ?_)
 simp only [go_sem, simprocAttr, aPs, Places.enc, trC]
 refine Aa (Z 1 rfl ?_)
 simp only [go_sem, simprocAttr, Cm, hv, Dn, Airport.enc, trC]
 and_intros <;> try exact sdA
 refine Aa (Aa (Z 2 rfl ?_))
 simp only [go_sem, simprocAttr, trC]
 refine Ae rfl (fun hb2 => ?_) fun hb2 => ?_
 ·have hs := PZ (o := BR (ER c) ps) (by simpa using hb2)
  refine Z 3 rfl ?_
  simp only [go_sem, simprocAttr, NK, hv, Dn, Airport.enc, trC]
  and_intros <;> try exact sdA
  refine Aa (Z 4 rfl ?_)
  simp only [go_sem, simprocAttr, hs, Fu, trC]
  refine Ad (hQ _ _ (.inl rfl) ?_ ?_ ?_) <;> simp only [go_sem, simprocAttr, Mi]
  rw [Afv hs]
 obtain ⟨a, hs⟩ := FO.1 (show (BR (ER c) ps).isSome = true by simpa using hb2)
 refine Af ?_
 refine Aa (Z 4 rfl ?_)
 simp only [go_sem, simprocAttr, hs, Fu, trC]
 refine Ad (hQ _ _ (.inl rfl) ?_ ?_ ?_) <;> simp only [go_sem, simprocAttr, Mi]
 rw [Afw hs]
def Hc := ao (vg Distance.enc)
theorem RG : Ij Hc := ijo (ijg Distance.inj)
def DL (d : Distance) : Bool := decide (1 <= d.miles) && decide (d.miles <= 20000)
def JJ (d : Distance) : Prop × V := (True, .bool (DL d))
theorem Sq (a b : List UInt8) (m : Int) : gOf Hc JJ [.agg [.str a, .str b, .int .i64 m]] = (True, .bool (DL ⟨a, b, m⟩)) := Al RG (⟨a, b, m⟩ : Distance)
theorem AnL : PU 182 (gOf Hc JJ) := by
 have hG := AH
 refine Zw.a RG (by simp [Hc]) ?_
 rintro ⟨a, b, m⟩ hv C hN Q hQ
 have Z := Zw.R EF0 hG hN
 refine Aa (Z 0 rfl ?_)
 simp only [go_sem, simprocAttr, Hc, Distance.enc]
 refine Aa (Z 1 rfl ?_)
 simp only [go_sem, simprocAttr]
 and_intros <;> try exact sdA
 refine Ad (hQ _ _ (.inl rfl) ?_ ?_ ?_) <;> simp only [go_sem, simprocAttr, JJ, DL]
theorem AcG : PU 151 (gOf Hc JJ) := by
 have hG := AH
 refine YZ.a RG (by simp [Hc]) ?_
 rintro ⟨a, b, m⟩ hv C hN Q hQ
 have Z := YZ.R EF0 hG hN
 refine Aa (Z 0 rfl ?_)
 simp only [go_sem, simprocAttr, Hc, Distance.enc]
 refine Aa (Z 1 rfl ?_)
 simp only [go_sem, simprocAttr]
 and_intros <;> try exact sdA
 refine Ad (hQ _ _ (.inl rfl) ?_ ?_ ?_) <;> simp only [go_sem, simprocAttr, JJ, DL]
def Cq (n : Int) (s : List UInt8) : Bool := decide ((s.length : Int) = n) && CY capB s
def Bh := ao V.str
theorem FD : Ij Bh := ijo ijs
def HX (n : Int) (s : List UInt8) : Prop × V := (s.length <= 140737488355328, .bool (Cq n s))
theorem AV (n : Int) (s : List UInt8) : gOf Bh (HX n) [.str s] = (s.length <= 140737488355328, .bool (Cq n s)) := Al FD s
def Rf : Tab
 | 54 => JO
 | _ => gNo
theorem AdQ : ∀ f, PU f (Rf f) := fun f => by
 unfold Rf
 split
 ·exact Acp
 ·exact Ah.no
theorem Uk : PU 129 (gOf Bh (HX 3)) := by
 have hG := AdQ
 refine YP.a FD (by simp [Bh]) ?_
 rintro s hv C hN Q hQ
 have Z := YP.R EF0 hG hN
 replace hv : s.length <= 140737488355328 := hv
 refine Aa (Z 0 rfl ?_)
 simp only [go_sem, simprocAttr, Bh]
 refine Aa (Z 1 rfl ?_)
 simp only [go_sem, simprocAttr, Rf, JO, hv]
 and_intros <;> try exact sdA
 refine Ad (hQ _ _ (.inl rfl) ?_ ?_ ?_) <;> simp only [go_sem, simprocAttr, HX, Cq]
 rw [Bool.and_comm]
theorem Acw : PU 131 (gOf Bh (HX 2)) := by
 have hG := AdQ
 refine YS.a FD (by simp [Bh]) ?_
 rintro s hv C hN Q hQ
 have Z := YS.R EF0 hG hN
 replace hv : s.length <= 140737488355328 := hv
 refine Aa (Z 0 rfl ?_)
 simp only [go_sem, simprocAttr, Bh]
 refine Aa (Z 1 rfl ?_)
 simp only [go_sem, simprocAttr, Rf, JO, hv]
 and_intros <;> try exact sdA
 refine Ad (hQ _ _ (.inl rfl) ?_ ?_ ?_) <;> simp only [go_sem, simprocAttr, HX, Cq]
 rw [Bool.and_comm]
def Ip (n : Int) : Bool := decide (-840 <= n) && decide (n <= 840)
def Bm := ao vi
theorem Ff : Ij Bm := ijo iji
def PG (n : Int) : Prop × V := (True, .bool (Ip n))
theorem Ee (n : Int) : gOf Bm PG [.int .i64 n] = (True, .bool (Ip n)) := Al Ff n
theorem AjE : PU 189 (gOf Bm PG) := by
 have hG := AH
 refine Zx.a Ff (by simp [Bm]) ?_
 rintro n hv C hN Q hQ
 have Z := Zx.R EF0 hG hN
 refine Aa (Z 0 rfl ?_)
 simp only [go_sem, simprocAttr, Bm]
 refine Aa (Z 1 rfl ?_)
 simp only [go_sem, simprocAttr]
 and_intros <;> try exact sdA
 refine Ad (hQ _ _ (.inl rfl) ?_ ?_ ?_) <;> simp only [go_sem, simprocAttr, PG, Ip]
def atB (n : Int) : Bool := decide (n < 0) || decide (52596000 <= n)
def Iv (l : List Shift) (i : Nat) : Bool := atB (l.getD i Shift.zero).at' || (decide (0 < i) && decide ((l.getD i Shift.zero).at' - (l.getD (i - 1) Shift.zero).at' < 2880))
def Jo (l : List Shift) (i : Nat) : Int := if Iv l i then 13 else if Ip (l.getD i Shift.zero).offset then 0 else 2
def GD (l : List Shift) : Nat -> Nat -> Int
 | 0, _ => 0
 | f + 1, i => if Jo l i = 0 then GD l f (i + 1) else Jo l i
def Er (z : Zone) : Int := if 256 < z.shifts.length then 4 else if Ip z.offset then GD z.shifts z.shifts.length 0 else 2
theorem Ad7 {l : List Shift} {i : Nat} (hi : i < l.length) (h1 : Iv l i = false) (h2 : Ip l[i].offset = true) : GD l (l.length - i) i = GD l (l.length - (i + 1)) (i + 1) := by
 obtain ⟨m, hm⟩ : ∃ m, l.length - i = m + 1 := ⟨l.length - i - 1, by omega⟩
 have e : Jo l i = 0 := by unfold Jo; rw [h1, Cu _ _ _ hi, h2]; rfl
 rw [hm, GD, if_pos e, show l.length - (i + 1) = m by omega]
theorem Ad5 {l : List Shift} {i : Nat} (hi : i < l.length) (h1 : Iv l i = true) : GD l (l.length - i) i = 13 := by
 obtain ⟨m, hm⟩ : ∃ m, l.length - i = m + 1 := ⟨l.length - i - 1, by omega⟩
 have e : Jo l i = 13 := by unfold Jo; rw [h1]; rfl
 rw [hm, GD, e]; rfl
theorem Ad6 {l : List Shift} {i : Nat} (hi : i < l.length) (h1 : Iv l i = false) (h2 : Ip l[i].offset = false) : GD l (l.length - i) i = 2 := by
 obtain ⟨m, hm⟩ : ∃ m, l.length - i = m + 1 := ⟨l.length - i - 1, by omega⟩
 have e : Jo l i = 2 := by unfold Jo; rw [h1, Cu _ _ _ hi, h2]; rfl
 rw [hm, GD, e]; rfl
theorem AeR {l : List Shift} {i : Nat} (hi : i < l.length) (hz : 0 < i) : Iv l i = (decide (l[i].at' < 0) || decide (52596000 <= l[i].at') || decide (l[i].at' - l[i - 1].at' < 2880)) := by
 unfold Iv atB; rw [Cu _ _ _ hi, Cu _ _ _ (by omega), decide_eq_true hz, HD]
theorem AeQ {l : List Shift} {i : Nat} (hi : i < l.length) (hz : ¬ 0 < i) : Iv l i = (decide (l[i].at' < 0) || decide (52596000 <= l[i].at')) := by
 unfold Iv atB; rw [Cu _ _ _ hi, decide_eq_false hz, Jb, Oe]
theorem Xg {l : List Shift} {i : Nat} (hi : i < l.length) (h : Iv l i = false) : 0 <= l[i].at' /\ l[i].at' < 52596000 := by
 unfold Iv atB at h; rw [Cu _ _ _ hi] at h
 simp only [Ce, decide_eq_false_iff_not] at h
 omega
def Ma := ao (vg Zone.enc)
theorem WQ : Ij Ma := ijo (ijg Zone.inj)
def Ic (z : Zone) : Prop × V := (z.ok, .int .i64 (Er z))
def trZ : Tab
 | 189 => (gOf Bm PG)
 | _ => gNo
theorem AnC : ∀ f, PU f (trZ f) := fun f => by
 unfold trZ
 split
 ·exact AjE
 ·exact Ah.no
theorem AjY : PU 149 (gOf Ma Ic) := by
 have hG := AnC
 refine SE.a WQ (by simp [Ma]) ?_
 rintro ⟨zo, sh⟩ hv C hN Q hQ
 have Y := SE.D EF0 hG hN mixed
 have Z := SE.R EF0 hG hN
 obtain ⟨hzo, hsl, hss⟩ : (⟨zo, sh⟩ : Zone).ok := hv
 dsimp only at hzo hsl hss
 refine Aa (Z 0 rfl ?_)
 simp only [go_sem, simprocAttr, Ma, Zone.enc, trZ, Ee]
 refine Aa (Aa (Z 1 rfl ?_))
 simp only [go_sem, simprocAttr, trZ, Ee]
 refine Ae rfl (fun hc1 => ?_) fun hc1 => ?_
 ·simp only [hcL] at hc1
  refine Aa (Z 2 rfl ?_)
  simp only [go_sem, simprocAttr, trZ, Ee]
  refine Ad (hQ _ _ (.inl rfl) ?_ ?_ ?_) <;> simp only [go_sem, simprocAttr, Ic]
  unfold Er; rw [if_pos (by dsimp only; omega)]
 simp only [hcL] at hc1
 refine Af ?_
 refine Aa (Aa (Z 3 rfl ?_))
 simp only [go_sem, simprocAttr, trZ, Ee]
 and_intros <;> try exact sdA
 refine Ae rfl (fun hb3 => ?_) fun hb3 => ?_
 ·refine Aa (Z 4 rfl ?_)
  simp only [go_sem, simprocAttr, trZ, Ee]
  refine Ad (hQ _ _ (.inl rfl) ?_ ?_ ?_) <;> simp only [go_sem, simprocAttr, Ic]
  unfold Er; rw [if_neg (by dsimp only; omega), if_neg (by simpa using hb3)]
 refine Af ?_
 refine Aa ?_
 have hze : Er ⟨zo, sh⟩ = GD sh (sh.length - 0) 0 := by unfold Er; rw [if_neg (by dsimp only; omega), if_pos (by simpa using hb3)]; rfl
 refine Aa (Z 5 rfl ?_)
 simp only [go_sem, simprocAttr, trZ, Ee]
 refine Ao ?_
 refine AX (α := Nat) (fun i => (i <= sh.length) /\ (Er ⟨zo, sh⟩ = GD sh (sh.length - i) i) /\ (∀ j (hj : j < sh.length), j < i -> 0 <= sh[j].at' /\ sh[j].at' < 52596000)) (fun i => ⟨mkE [(1, V.ptr 1 0), (3, .int .i64 i)], mkH [(1, Ob.box 86 [V.int IntKind.i64 zo, V.list (List.map Shift.enc sh) false])]⟩) (fun i => sh.length - i) 0 ⟨Ar _, hze, fun j _ hj => absurd hj (EK _)⟩ ?_ ?_
 ·exact leM
 rintro i ⟨hi, hinv, hpr⟩ KL0 hKL0
 try dsimp only at *
 refine Aa (Aa (Z 6 rfl ?_))
 simp only [go_sem, simprocAttr, trZ, Ee]
 refine Ae rfl (fun hc6 => ?_) fun hc6 => ?_
 ·simp only [hcL] at hc6
  refine Af ?_
  refine Aa (Ao ?_)
  refine Aa (Z 8 rfl ?_)
  simp only [go_sem, simprocAttr, Ap _ _ _ _ hc6, hc6, Shift.enc, trZ, Ee]
  and_intros <;> try exact sdA
  refine Aa ?_
  by_cases hz : 0 < i
  ·have hzi : ((0 : Int) < (i : Int)) = True := eq_true (by omega)
   have hj1 : i - 1 < sh.length := by omega
   have hpj := hpr (i - 1) hj1 (by omega)
   have e1 : (i : Int) - 1 = ((i - 1 : Nat) : Int) := by omega
   have hsb := AeR hc6 hz
   refine Aa (Y 9 rfl (by kernel_rfl) ?_)
   simp only [go_sem, simprocAttr, inI, hzi, trZ, Ee, e1, Ap _ _ _ _ hj1, hj1, Shift.enc]
   and_intros <;> (try first | exact sdA | (intro h; refine ⟨h, ?_, ?_⟩ <;> (simp only [MD, Ce, decide_eq_false_iff_not] at h; omega)))
   refine Ae rfl (fun hb => ?_) fun hb => ?_
   ·refine Aa (Z 10 rfl ?_)
    simp only [go_sem, simprocAttr, trZ, Ee]
    refine Ad (hQ _ _ (.inl rfl) ?_ ?_ ?_) <;> simp only [go_sem, simprocAttr, Ic]
    rw [hinv, Ad5 hc6 (hsb.trans hb)]
   refine Af ?_
   refine Aa (Z 11 rfl ?_)
   simp only [go_sem, simprocAttr, trZ, Ee]
   and_intros <;> try exact sdA
   refine Ae rfl (fun hbo => ?_) fun hbo => ?_
   ·refine Aa (Z 12 rfl ?_)
    simp only [go_sem, simprocAttr, trZ, Ee]
    refine Ad (hQ _ _ (.inl rfl) ?_ ?_ ?_) <;> simp only [go_sem, simprocAttr, Ic]
    rw [hinv, Ad6 hc6 (hsb.trans hb) (by simpa using hbo)]
   refine Af ?_
   refine Z 7 rfl ?_
   simp only [go_sem, simprocAttr, inI, trZ, Ee]
   and_intros <;> try exact sdA
   refine hKL0 (i + 1) _ ?_ ?_ ?_
   ·(try dsimp only); refine ⟨hc6, by rw [hinv, Ad7 hc6 (hsb.trans hb) (by simpa using hbo)], fun j hj hji => ?_⟩; by_cases e : j = i; (subst e; exact Xg hj (hsb.trans hb)); (exact hpr j hj (by omega))
   ·(try dsimp only); omega
   exact leM
  have hzi : ((0 : Int) < (i : Int)) = False := eq_false (by omega)
  have hsb := AeQ hc6 hz
  obtain rfl : i = 0 := by omega
  have e0 : ((0 : Int) - 1).toNat = 0 := rfl
  refine Aa (Y 9 rfl (by kernel_rfl) ?_)
  simp only [go_sem, simprocAttr, inI, hzi, trZ, Ee, e0, Int.lt_irrefl, Nat.lt_irrefl, Ap _ _ _ _ hc6, hc6, Shift.enc]
  and_intros <;> (try first | exact sdA | (intro h; refine ⟨h, ?_, ?_⟩ <;> (simp only [MD, Ce, decide_eq_false_iff_not] at h; omega)))
  refine Ae rfl (fun hb => ?_) fun hb => ?_
  ·refine Aa (Z 10 rfl ?_)
   simp only [go_sem, simprocAttr, trZ, Ee]
   refine Ad (hQ _ _ (.inl rfl) ?_ ?_ ?_) <;> simp only [go_sem, simprocAttr, Ic]
   rw [hinv, Ad5 hc6 (hsb.trans hb)]
  refine Af ?_
  refine Aa (Z 11 rfl ?_)
  simp only [go_sem, simprocAttr, trZ, Ee]
  and_intros <;> try exact sdA
  refine Ae rfl (fun hbo => ?_) fun hbo => ?_
  ·refine Aa (Z 12 rfl ?_)
   simp only [go_sem, simprocAttr, trZ, Ee]
   refine Ad (hQ _ _ (.inl rfl) ?_ ?_ ?_) <;> simp only [go_sem, simprocAttr, Ic]
   rw [hinv, Ad6 hc6 (hsb.trans hb) (by simpa using hbo)]
  refine Af ?_
  refine Z 7 rfl ?_
  simp only [go_sem, simprocAttr, inI, trZ, Ee]
  and_intros <;> try exact sdA
  refine hKL0 (0 + 1) _ ?_ ?_ ?_
  ·(try dsimp only); refine ⟨hc6, by rw [hinv, Ad7 hc6 (hsb.trans hb) (by simpa using hbo)], fun j hj hji => ?_⟩; (obtain rfl : j = 0 := by omega); exact Xg hj (hsb.trans hb)
  ·(try dsimp only); omega
  exact leM
 simp only [hcL] at hc6
 refine AS ?_
 simp only [go_sem, simprocAttr]
 refine Aa (Z 13 rfl ?_)
 simp only [go_sem, simprocAttr, trZ, Ee]
 refine Ad (hQ _ _ (.inl rfl) ?_ ?_ ?_) <;> simp only [go_sem, simprocAttr, Ic]
 rw [hinv, show sh.length - i = 0 by omega]; rfl
def aP1 := ao (vg Places.enc)
theorem VY : Ij aP1 := ijo (ijg Places.inj)
def CV (L : Aw Int) : List (List V) := L.map fun p => [.str p.1, .int .i64 p.2]
theorem Ak8 (L : Aw Int) : (CV L).length = L.length := Ac _
theorem OA (L : Aw Int) (i : Nat) (d : List V) (h : i < L.length) : (CV L).getD i d = [.str L[i].1, .int .i64 L[i].2] := by
 unfold CV; rw [AI, BE, AY h]; rfl
theorem Ala (L : Aw Int) (i : Nat) (c : List UInt8) (v : Int) : (CV L).set i [.str c, .int .i64 v] = CV (L.set i (c, v)) := by unfold CV; rw [JW]
theorem Alb (L : Aw Int) (c : List UInt8) (v : Int) : CV L ++ [[.str c, .int .i64 v]] = CV (L ++ [(c, v)]) := by unfold CV; rw [DC]; rfl
theorem UM (L : Aw Int) : ∀ r ∈ CV L, V.purs r = true := by intro r hr; obtain ⟨p, _, rfl⟩ := An.1 hr; rfl
theorem UN (L : Aw Int) : (∀ r ∈ CV L, V.purs r = true) ↔ True := iff_true_intro (UM L)
theorem Alc (L : Aw Int) : (∀ r ∈ CV L, r.length = 2) ↔ True := iff_true_intro fun r hr => by obtain ⟨p, _, rfl⟩ := An.1 hr; rfl
attribute [go_sem] Ak8 UN Alc
theorem WS {L : Aw Int} {c : List UInt8} {i : Nat} (hi : i < L.length) (hp : ∀ p ∈ L.take i, decide (p.1 = c) = false) (h : L[i].1 = c) : As L c = some L[i].2 := by
 unfold As
 have e1 : L.find? (fun p => decide (p.1 = c)) = (L.take i ++ L.drop i).find? fun p => decide (p.1 = c) := by rw [Lu]
 rw [e1, List.find?_append, NZ.2 (fun p hq => by rw [hp p hq]; decide), Option.none_or, DS hi, List.find?_cons_of_pos (by simpa using h)]; rfl
theorem WU {L : Aw Int} {c : List UInt8} {i : Nat} (hi : L.length <= i) (hp : ∀ p ∈ L.take i, decide (p.1 = c) = false) : As L c = none := by
 rw [Bu hi] at hp
 unfold As
 rw [NZ.2 fun p hq => by rw [hp p hq]; decide]; rfl
def aRe (x : Aw Int × List UInt8) : List V := [.list (CV x.1) false, .str x.2]
theorem Ws (a b : Aw Int × List UInt8) (h : aRe a = aRe b) : a = b := by
 obtain ⟨a1, a2⟩ := a
 obtain ⟨b1, b2⟩ := b
 simp only [aRe, CV, Bz, V.list.injEq, V.str.injEq, and_true] at h
 obtain ⟨h1, rfl⟩ := h
 rw [Cj (fun a b h => by obtain ⟨x, y⟩ := a; obtain ⟨z, w⟩ := b; simpa using h) h1]
def fRe (x : Aw Int × List UInt8) : Prop × V := (x.1.length <= 140737488355328, .int .i64 ((As x.1 x.2).getD (-1)))
theorem Ajp : PU 190 (gOf aRe fRe) := by
 have hG := AH
 refine Zz.a Ws (by simp [aRe]) ?_
 rintro ⟨L, c⟩ hv C hN Q hQ
 have Z := Zz.R EF0 hG hN
 replace hv : L.length <= 140737488355328 := hv
 refine Aa (Z 0 rfl ?_)
 simp only [go_sem, simprocAttr, aRe]
 refine Aa (Aa (Z 1 rfl ?_))
 simp only [go_sem, simprocAttr]
 refine Ao ?_
 refine AX (α := Nat) (fun i => (i <= L.length) /\ (∀ p ∈ L.take i, decide (p.1 = c) = false)) (fun i => ⟨mkE [(0, V.list (CV L) false), (1, V.str c), (5, .int .i64 i)], mkH []⟩) (fun i => L.length - i) 0 (by simp) ?_ ?_
 ·exact leM
 rintro i ⟨hi, hp⟩ KL0 hKL0
 try dsimp only at *
 refine Aa (Aa (Z 2 rfl ?_))
 simp only [go_sem, simprocAttr]
 refine Ae rfl (fun hc2 => ?_) fun hc2 => ?_
 ·simp only [hcL] at hc2
  refine Af ?_
  refine Aa (Ao ?_)
  refine Aa (Z 4 rfl ?_)
  simp only [go_sem, simprocAttr, OA _ _ _ hc2, hc2]
  and_intros <;> try exact sdA
  refine Ae rfl (fun hb => ?_) fun hb => ?_
  ·refine Aa (Z 5 rfl ?_)
   simp only [go_sem, simprocAttr, OA _ _ _ hc2, hc2]
   and_intros <;> try exact sdA
   refine Ad (hQ _ _ (.inl rfl) ?_ ?_ ?_) <;> simp only [go_sem, simprocAttr, fRe]
   rw [WS hc2 hp (of_decide_eq_true hb)]; rfl
  refine Af ?_
  refine Z 3 rfl ?_
  simp only [go_sem, simprocAttr, inI]
  and_intros <;> try exact sdA
  refine hKL0 (i + 1) _ ?_ ?_ ?_
  ·(try dsimp only); exact ⟨hc2, Iz hc2 hp hb⟩
  ·(try dsimp only); omega
  exact leM
 simp only [hcL] at hc2
 refine AS ?_
 simp only [go_sem, simprocAttr]
 refine Aa (Z 6 rfl ?_)
 simp only [go_sem, simprocAttr]
 refine Ad (hQ _ _ (.inl rfl) ?_ ?_ ?_) <;> simp only [go_sem, simprocAttr, fRe]
 rw [WU hc2 hp]; rfl
end Go.Proofs.YtjkclhbckfkeeaaGreatDoor
end
