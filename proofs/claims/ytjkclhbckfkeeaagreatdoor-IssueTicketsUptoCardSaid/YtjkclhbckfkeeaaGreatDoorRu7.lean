import Derived.Test.YtjkclhbckfkeeaaGreatDoorPl4
import Derived.Test.YtjkclhbckfkeeaaGreatDoorMo1
import Derived.Test.YtjkclhbckfkeeaaGreatDoorCoa
set_option linter.unusedSimpArgs false
set_option linter.unusedVariables false
set_option linter.deprecated false
set_option maxHeartbeats 2000000
noncomputable section
namespace Go.Proofs.YtjkclhbckfkeeaaGreatDoor
open Go Go.RowKit
structure Period where
 from' : Int
 to' : Int
 days : Int
def Period.enc (x : Period) : List V := [.int .i64 x.from', .int .i64 x.to', .int .i64 x.days]
theorem Period.inj (a b : Period) (h : a.enc = b.enc) : a = b := by
 obtain ⟨a_from', a_to', a_days⟩ := a
 obtain ⟨b_from', b_to', b_days⟩ := b
 simp only [Period.enc, List.cons.injEq, V.str.injEq, V.int.injEq, V.bool.injEq, V.agg.injEq, V.list.injEq, and_true, true_and] at h
 obtain ⟨h0, h1, h2⟩ := h
 subst h0
 subst h1
 subst h2
 rfl
def Period.ok (x : Period) : Prop := inI x.from' ∧ inI x.to' ∧ inI x.days
theorem Period.rows (l : List Period) : (∀ r ∈ l.map Period.enc, r.length = 3) ↔ True := iff_true_intro fun r hr => by obtain ⟨x, _, rfl⟩ := List.mem_map.1 hr; rfl
theorem Period.purs (l : List Period) : (∀ r ∈ l.map Period.enc, V.purs r = true) ↔ True := iff_true_intro fun r hr => by obtain ⟨x, _, rfl⟩ := List.mem_map.1 hr; rfl
attribute [go_sem] Period.rows Period.purs
inductive Cond where
 | mk (kind : Int) (l : List Cond) (a b : Int) (p : Period) (text : List (List UInt8))
namespace Cond
def kind : Cond → Int | mk k _ _ _ _ _ => k
def l : Cond → List Cond | mk _ l _ _ _ _ => l
def a : Cond → Int | mk _ _ a _ _ _ => a
def b : Cond → Int | mk _ _ _ b _ _ => b
def p : Cond → Period | mk _ _ _ _ p _ => p
def text : Cond → List (List UInt8) | mk _ _ _ _ _ t => t
mutual
def enc : Cond → List V
 | mk k l a b p t => [.int .i64 k, .list (Pz l) false, .int .i64 a, .int .i64 b, .int .i64 p.from', .int .i64 p.to', .int .i64 p.days, .list (strs t) false]
def Pz : List Cond → List (List V)
 | [] => []
 | c :: l => c.enc :: Pz l
end
theorem Oi : ∀ l, Pz l = l.map enc
 | [] => by rw [Pz]; rfl
 | c :: l => by rw [Pz, Oi l]; rfl
theorem enc_eq (k : Int) (l : List Cond) (a b : Int) (p : Period) (t : List (List UInt8)) : (mk k l a b p t).enc = [.int .i64 k, .list (l.map enc) false, .int .i64 a, .int .i64 b, .int .i64 p.from', .int .i64 p.to', .int .i64 p.days, .list (strs t) false] := by rw [enc, Oi]
mutual
def dep : Cond → Nat
 | mk _ l _ _ _ _ => Agq l + 1
def Agq : List Cond → Nat
 | [] => 0
 | c :: l => max c.dep (Agq l)
end
theorem SL : ∀ {l : List Cond} {c : Cond}, c ∈ l → c.dep ≤ Agq l
 | x :: l, c, h => by
  rw [Agq]
  rcases List.mem_cons.1 h with rfl | h
  ·omega
  ·have := SL h; omega
theorem dep_l (c : Cond) : ∀ x ∈ c.l, x.dep < c.dep := by
 obtain ⟨k, l, a, b, p, t⟩ := c
 intro x hx
 have := SL (l := l) hx
 rw [dep]; omega
mutual
def ok : Cond → Prop
 | mk k l a b p t => inI k ∧ (l.length ≤ 140737488355328 ∧ oks l) ∧ inI a ∧ inI b ∧ p.ok ∧ (t.length ≤ 140737488355328 ∧ ∀ z ∈ t, z.length ≤ 140737488355328)
def oks : List Cond → Prop
 | [] => True
 | c :: l => c.ok ∧ oks l
end
theorem Rz : ∀ l, oks l ↔ ∀ c ∈ l, c.ok
 | [] => by rw [oks]; simp
 | c :: l => by rw [oks, Rz l]; simp
theorem ok_eq (k : Int) (l : List Cond) (a b : Int) (p : Period) (t : List (List UInt8)) : (mk k l a b p t).ok ↔ inI k ∧ (l.length ≤ 140737488355328 ∧ ∀ c ∈ l, c.ok) ∧ inI a ∧ inI b ∧ p.ok ∧ (t.length ≤ 140737488355328 ∧ ∀ z ∈ t, z.length ≤ 140737488355328) := by rw [ok, Rz]
mutual
theorem inj : ∀ a b : Cond, a.enc = b.enc → a = b
 | mk k l a b p t, mk k2 l2 a2 b2 p2 t2, h => by
  rw [enc, enc] at h
  simp only [List.cons.injEq, V.int.injEq, V.list.injEq, and_true, true_and] at h
  obtain ⟨h1, h2, h3, h4, h5, h6, h7, h8⟩ := h
  obtain ⟨x, y, z⟩ := p
  obtain ⟨x2, y2, z2⟩ := p2
  dsimp only at h5 h6 h7
  rw [h1, AiB l l2 h2, h3, h4, h5, h6, h7, IT h8]
theorem AiB : ∀ a b : List Cond, Pz a = Pz b → a = b
 | [], [], _ => rfl
 | [], c :: l, h => by rw [Pz, Pz] at h; cases h
 | c :: l, [], h => by rw [Pz, Pz] at h; cases h
 | c :: l, c2 :: l2, h => by
  rw [Pz, Pz] at h
  injection h with h1 h2
  rw [inj c c2 h1, AiB l l2 h2]
end
theorem rows (l : List Cond) : (∀ r ∈ l.map enc, r.length = 8) ↔ True := iff_true_intro fun r hr => by obtain ⟨⟨k, l, a, b, p, t⟩, _, rfl⟩ := List.mem_map.1 hr; rw [enc]; rfl
theorem purs (l : List Cond) : (∀ r ∈ l.map enc, V.purs r = true) ↔ True := iff_true_intro fun r hr => by obtain ⟨⟨k, l, a, b, p, t⟩, _, rfl⟩ := List.mem_map.1 hr; rw [enc]; rfl
mutual
def siz : Cond → Int
 | mk _ l _ _ _ _ => sizs 1 l
def sizs : Int → List Cond → Int
 | n, [] => n
 | n, c :: l => sizs (wr (n + c.siz)) l
end
mutual
def lev : Cond → Int
 | mk _ l _ _ _ _ => wr (levs 0 l + 1)
def levs : Int → List Cond → Int
 | n, [] => n
 | n, c :: l => levs (max n c.lev) l
end
theorem Ki (c : Cond) : ∀ (l : List Cond) (n : Int), sizs n (l ++ [c]) = wr (sizs n l + c.siz)
 | [], n => by rw [List.nil_append, sizs, sizs, sizs]
 | x :: l, n => by rw [List.cons_append, sizs, Ki c l, sizs]
theorem KK (c : Cond) : ∀ (l : List Cond) (n : Int), levs n (l ++ [c]) = max (levs n l) c.lev
 | [], n => by rw [List.nil_append, levs, levs, levs]
 | x :: l, n => by rw [List.cons_append, levs, KK c l, levs]
theorem siz_step {l : List Cond} {i : Nat} (h : i < l.length) : sizs 1 (l.take (i + 1)) = wr (sizs 1 (l.take i) + l[i].siz) := by rw [AI h, Ki]
theorem lev_step {l : List Cond} {i : Nat} (h : i < l.length) : levs 0 (l.take (i + 1)) = max (levs 0 (l.take i)) l[i].lev := by rw [AI h, KK]
end Cond
attribute [go_sem] Cond.rows Cond.purs
def CG (c : Cond) : List V := [.agg c.enc]
theorem Cc (a b : Cond) (h : CG a = CG b) : a = b := by
 unfold CG at h
 simp only [List.cons.injEq, V.agg.injEq, and_true] at h
 exact Cond.inj _ _ h
def IC (f : Cond → V) (n : Nat) (c : Cond) : Prop × V := (c.ok ∧ c.dep < n, f c)
def Qo (k : Nat) (f : Cond → V) (n : Nat) (g : Nat) : List V → Prop × V := if g = k then gOf CG (IC f n) else gNo
theorem Jb {k : Nat} {f : Cond → V} (h : ∀ n, (∀ g, PU g (Qo k f n g)) → PU k (gOf CG (IC f (n + 1)))) : ∀ n, PU k (gOf CG (IC f n))
 | 0 => by
  refine Ao.no.sub fun vs hv => ?_
  unfold gOf at hv
  split at hv
  ·exact absurd hv.2 (Nat.not_lt_zero _)
  ·exact hv.elim
 | n + 1 => h n fun g => by
  unfold Qo
  by_cases e : g = k
  ·subst e; rw [if_pos rfl]; exact Jb h n
  ·rw [if_neg e]; exact Ao.no
def aK (x : Int) : List V := [.int .i64 x]
theorem GH (a b : Int) (h : aK a = aK b) : a = b := by
 simp only [aK, List.cons.injEq, V.str.injEq, V.int.injEq, V.bool.injEq, V.agg.injEq, V.list.injEq, and_true, true_and] at h
 have h0 := h
 subst h0
 rfl
def aKS (x : Int × List UInt8) : List V := [.int .i64 x.1, .str x.2]
theorem TG (a b : Int × List UInt8) (h : aKS a = aKS b) : a = b := by
 obtain ⟨a_k, a_s⟩ := a
 obtain ⟨b_k, b_s⟩ := b
 simp only [aKS, List.cons.injEq, V.str.injEq, V.int.injEq, V.bool.injEq, V.agg.injEq, V.list.injEq, and_true, true_and] at h
 obtain ⟨h0, h1⟩ := h
 subst h0
 subst h1
 rfl
def Yl (x : List (List UInt8) × List UInt8) : List V := [.list (strs x.1) false, .str x.2]
theorem OF (a b : List (List UInt8) × List UInt8) (h : Yl a = Yl b) : a = b := by
 obtain ⟨a_l, a_s⟩ := a
 obtain ⟨b_l, b_s⟩ := b
 simp only [Yl, List.cons.injEq, V.str.injEq, V.int.injEq, V.bool.injEq, V.agg.injEq, V.list.injEq, and_true, true_and] at h
 obtain ⟨h0, h1⟩ := h
 replace h0 := IT h0
 subst h0
 subst h1
 rfl
def aPd (x : Period) : List V := [.agg x.enc]
theorem TB (a b : Period) (h : aPd a = aPd b) : a = b := by
 simp only [aPd, List.cons.injEq, V.str.injEq, V.int.injEq, V.bool.injEq, V.agg.injEq, V.list.injEq, and_true, true_and] at h
 have h0 := h
 replace h0 := Period.inj _ _ h0
 subst h0
 rfl
def Age (k : Int) : Bool := (decide (k = 2) || decide (k = 3)) || decide (k = 4)
def AbV (k : Int) : Bool := decide (k = 5) || decide (k = 6)
def PB (k : Int) : Bool := (decide (k = 11) || decide (k = 13)) || decide (k = 14)
def AaK (k : Int) : Int := if (decide (k = 8) || decide (k = 12)) = true then 2 else if ((decide (k = 7) || decide (k = 9)) || decide (k = 10)) = true then 1 else 0
def Agi (k : Int) : Prop × V := (True, .bool (Age k))
def Afk (k : Int) : Prop × V := (True, .bool (AbV k))
def Afo (k : Int) : Prop × V := (True, .bool (PB k))
def Ab1 (k : Int) : Prop × V := (True, .int .i64 (AaK k))
theorem Jx (k : Int) : gOf aK Agi [.int .i64 k] = (True, .bool (Age k)) := Ar GH k
theorem Br (k : Int) : gOf aK Afk [.int .i64 k] = (True, .bool (AbV k)) := Ar GH k
theorem Bs (k : Int) : gOf aK Afo [.int .i64 k] = (True, .bool (PB k)) := Ar GH k
theorem Jw (k : Int) : gOf aK Ab1 [.int .i64 k] = (True, .int .i64 (AaK k)) := Ar GH k
theorem AhW : PU 254 (gOf aK Agi) := by
 have hG := AC
 refine Aeg.a GH (by simp [aK]) ?_
 rintro k hv C hN Q hQ
 have Z := Aeg.R EF0 hG hN
 refine Aa (Z 0 rfl ?_)
 simp only [go_sem, simprocAttr, aK]
 refine Aa (Z 1 rfl ?_)
 simp only [go_sem, simprocAttr]
 and_intros <;> try exact sdA
 refine Ae (hQ _ _ (.inl rfl) ?_ ?_ ?_) <;> simp only [go_sem, simprocAttr, Agi, Age]
theorem Adx : PU 243 (gOf aK Afk) := by
 have hG := AC
 refine Aek.a GH (by simp [aK]) ?_
 rintro k hv C hN Q hQ
 have Z := Aek.R EF0 hG hN
 refine Aa (Z 0 rfl ?_)
 simp only [go_sem, simprocAttr, aK]
 refine Aa (Z 1 rfl ?_)
 simp only [go_sem, simprocAttr]
 and_intros <;> try exact sdA
 refine Ae (hQ _ _ (.inl rfl) ?_ ?_ ?_) <;> simp only [go_sem, simprocAttr, Afk, AbV]
theorem AfK : PU 244 (gOf aK Afo) := by
 have hG := AC
 refine Aej.a GH (by simp [aK]) ?_
 rintro k hv C hN Q hQ
 have Z := Aej.R EF0 hG hN
 refine Aa (Z 0 rfl ?_)
 simp only [go_sem, simprocAttr, aK]
 refine Aa (Z 1 rfl ?_)
 simp only [go_sem, simprocAttr]
 and_intros <;> try exact sdA
 refine Ae (hQ _ _ (.inl rfl) ?_ ?_ ?_) <;> simp only [go_sem, simprocAttr, Afo, PB]
theorem AhS : PU 255 (gOf aK Ab1) := by
 have hG := AC
 refine Aef.a GH (by simp [aK]) ?_
 rintro k hv C hN Q hQ
 have Z := Aef.R EF0 hG hN
 refine Aa (Z 0 rfl ?_)
 simp only [go_sem, simprocAttr, aK]
 refine Aa (Aa (Z 1 rfl ?_))
 simp only [go_sem, simprocAttr]
 and_intros <;> try exact sdA
 refine Ab rfl (fun hb1 => ?_) fun hb1 => ?_
 ·refine Aa (Z 2 rfl ?_)
  simp only [go_sem, simprocAttr]
  refine Ae (hQ _ _ (.inl rfl) ?_ ?_ ?_) <;> simp only [go_sem, simprocAttr, Ab1, AaK, hb1]
 refine Ac ?_
 refine Aa (Aa (Z 3 rfl ?_))
 simp only [go_sem, simprocAttr]
 and_intros <;> try exact sdA
 refine Ab rfl (fun hb3 => ?_) fun hb3 => ?_
 ·refine Aa (Z 4 rfl ?_)
  simp only [go_sem, simprocAttr]
  refine Ae (hQ _ _ (.inl rfl) ?_ ?_ ?_) <;> simp only [go_sem, simprocAttr, Ab1, AaK, hb1, hb3]
 refine Ac ?_
 refine Aa (Z 5 rfl ?_)
 simp only [go_sem, simprocAttr]
 refine Ae (hQ _ _ (.inl rfl) ?_ ?_ ?_) <;> simp only [go_sem, simprocAttr, Ab1, AaK, hb1, hb3]
def Abo (s : List UInt8) : Bool := Dt s 2 2 && (capB (s.getD 0 0).toNat || capB (s.getD 1 0).toNat)
def Afp (s : List UInt8) : Prop × V := (s.length ≤ 140737488355328, .bool (Abo s))
theorem Bt (s : List UInt8) : gOf Ey Afp [.str s] = (s.length ≤ 140737488355328, .bool (Abo s)) := Ar CF s
theorem Td {s : List UInt8} {a b : Int} (h : Dt s a b = true) : a ≤ (s.length : Int) := by
 unfold Dt at h
 simp only [Bool.and_eq_true, decide_eq_true_eq] at h
 exact h.1.1
def AgA : Tab
 | 23 => BS
 | 57 => (Dc capB)
 | _ => gNo
theorem ZA : ∀ f, PU f (AgA f) := fun f => by
 unfold AgA
 split
 ·exact Hm
 ·exact IX
 ·exact Ao.no
theorem Is : PU 123 (gOf Ey Afp) := by
 have hG := ZA
 refine Ae7.a CF (by simp [Ey]) ?_
 rintro s hv C hN Q hQ
 have Z := Ae7.R EF0 hG hN
 replace hv : s.length ≤ 140737488355328 := hv
 refine Aa (Z 0 rfl ?_)
 simp only [go_sem, simprocAttr, Ey]
 have hl : Dt s 2 2 = true → (2 : Int) ≤ s.length := Td
 refine Aa (Z 1 rfl ?_)
 simp only [go_sem, simprocAttr, AgA, BS, Dc, hv]
 and_intros <;> try exact sdA
 ·exact fun h => ⟨h, by have := hl h; omega⟩
 ·exact fun h => ⟨h, by have := hl (by rw [Bool.and_eq_true] at h; exact h.1); omega⟩
 refine Ae (hQ _ _ (.inl rfl) ?_ ?_ ?_) <;> simp only [go_sem, simprocAttr, Afp, Abo]
def PA (k : Int) (s : List UInt8) : Bool := if k = 11 then Abo s else if k = 13 then CO 3 s else Dt s 3 3
def IE (x : Int × List UInt8) : Prop × V := (x.2.length ≤ 140737488355328, .bool (PA x.1 x.2))
theorem Bb (k : Int) (s : List UInt8) : gOf aKS IE [.int .i64 k, .str s] = (s.length ≤ 140737488355328, .bool (PA k s)) := Ar TG (k, s)
def tCk : Tab
 | 23 => BS
 | 123 => (gOf Ey Afp)
 | 129 => (gOf Ey (Ig 3))
 | _ => gNo
theorem Ac0 : ∀ f, PU f (tCk f) := fun f => by
 unfold tCk
 split
 ·exact Hm
 ·exact Is
 ·exact Gf
 ·exact Ao.no
theorem Abf : PU 245 (gOf aKS IE) := by
 have hG := Ac0
 refine Aei.a TG (by simp [aKS]) ?_
 rintro ⟨k, s⟩ hv C hN Q hQ
 have Z := Aei.R EF0 hG hN
 replace hv : s.length ≤ 140737488355328 := hv
 refine Aa (Z 0 rfl ?_)
 simp only [go_sem, simprocAttr, aKS, tCk, BS, Bt, Am, hv]
 refine Aa (Aa (Z 1 rfl ?_))
 simp only [go_sem, simprocAttr, tCk, BS, Bt, Am, hv]
 refine Ab rfl (fun hb1 => ?_) fun hb1 => ?_
 ·simp only [hcL] at hb1
  refine Aa (Z 2 rfl ?_)
  simp only [go_sem, simprocAttr, tCk, BS, Bt, Am, hv]
  and_intros <;> try exact sdA
  refine Ae (hQ _ _ (.inl rfl) ?_ ?_ ?_) <;> simp only [go_sem, simprocAttr, IE, PA, hb1, if_true]
 simp only [hcL] at hb1
 refine Ac ?_
 refine Aa (Aa (Z 3 rfl ?_))
 simp only [go_sem, simprocAttr, tCk, BS, Bt, Am, hv]
 refine Ab rfl (fun hb3 => ?_) fun hb3 => ?_
 ·simp only [hcL] at hb3
  refine Aa (Z 4 rfl ?_)
  simp only [go_sem, simprocAttr, tCk, BS, Bt, Am, hv]
  and_intros <;> try exact sdA
  refine Ae (hQ _ _ (.inl rfl) ?_ ?_ ?_) <;> simp only [go_sem, simprocAttr, IE, PA, hb1, hb3, if_true, if_false]
  try rw [if_neg (by decide)]
 simp only [hcL] at hb3
 refine Ac ?_
 refine Aa (Z 5 rfl ?_)
 simp only [go_sem, simprocAttr, tCk, BS, Bt, Am, hv]
 and_intros <;> try exact sdA
 refine Ae (hQ _ _ (.inl rfl) ?_ ?_ ?_) <;> simp only [go_sem, simprocAttr, IE, PA, hb1, hb3, if_false]
def hasB (s : List UInt8) (l : List (List UInt8)) : Bool := l.any fun x => decide (x = s)
def Afm (x : List (List UInt8) × List UInt8) : Prop × V := (x.1.length ≤ 140737488355328, .bool (hasB x.2 x.1))
theorem BN (l : List (List UInt8)) (s : List UInt8) : gOf Yl Afm [.list (strs l) false, .str s] = (l.length ≤ 140737488355328, .bool (hasB s l)) := Ar OF (l, s)
theorem Ah4 : PU 196 (gOf Yl Afm) := by
 have hG := AC
 refine Aes.a OF (by simp [Yl]) ?_
 rintro ⟨l, s⟩ hv C hN Q hQ
 have Z := Aes.R EF0 hG hN
 replace hv : l.length ≤ 140737488355328 := hv
 refine Aa (Z 0 rfl ?_)
 simp only [go_sem, simprocAttr, Yl]
 refine Aa (Aa (Z 1 rfl ?_))
 simp only [go_sem, simprocAttr]
 refine Ad ?_
 refine Aj (α := Nat) (fun i => (i ≤ l.length) ∧ (hasB s (l.take i) = false)) (fun i => ⟨mkE [(0, V.list (strs l) false), (1, V.str s), (5, .int .i64 i)], mkH []⟩) (fun i => l.length - i) 0 ⟨Nat.zero_le _, rfl⟩ ?_ ?_
 ·exact leM
 rintro i ⟨hi, hp⟩ KL0 hKL0
 try dsimp only at *
 refine Aa (Aa (Z 2 rfl ?_))
 simp only [go_sem, simprocAttr, DA]
 refine Ab rfl (fun hc2 => ?_) fun hc2 => ?_
 ·simp only [hcL] at hc2
  refine Ac ?_
  refine Aa (Ad ?_)
  refine Aa (Z 4 rfl ?_)
  simp only [go_sem, simprocAttr, DS _ _ _ hc2, hc2]
  and_intros <;> try exact sdA
  refine Ab rfl (fun hb4 => ?_) fun hb4 => ?_
  ·refine Aa (Z 5 rfl ?_)
   simp only [go_sem, simprocAttr]
   refine Ae (hQ _ _ (.inl rfl) ?_ ?_ ?_) <;> simp only [go_sem, simprocAttr, Afm]
   rw [show hasB s l = true from List.any_eq_true.2 ⟨_, List.getElem_mem hc2, hb4⟩]
  refine Ac ?_
  refine Z 3 rfl ?_
  simp only [go_sem, simprocAttr, inI]
  and_intros <;> try exact sdA
  refine hKL0 (i + 1) _ ?_ ?_ ?_
  ·(try dsimp only); exact ⟨hc2, by unfold hasB at hp ⊢; rw [AI hc2, List.any_append, hp, List.any_cons, hb4]; rfl⟩
  ·(try dsimp only); omega
  exact leM
 simp only [hcL] at hc2
 obtain rfl : i = l.length := by omega
 refine Ai ?_
 simp only [go_sem, simprocAttr]
 refine Aa (Z 6 rfl ?_)
 simp only [go_sem, simprocAttr]
 refine Ae (hQ _ _ (.inl rfl) ?_ ?_ ?_) <;> simp only [go_sem, simprocAttr, Afm]
 rw [List.take_length] at hp; rw [hp]
def pdE (p : Period) : Int := if (decide (p.from' < 0) || decide (p.to' < p.from') || decide (36525 ≤ p.to')) = true then 12 else if 800 ≤ p.to' - p.from' then 4 else if (decide (p.days < 1) || decide (127 < p.days)) = true then 2 else 0
def fPd (p : Period) : Prop × V := (True, .int .i64 (pdE p))
theorem Cz (a b c : Int) : gOf aPd fPd [.agg [.int .i64 a, .int .i64 b, .int .i64 c]] = (True, .int .i64 (pdE ⟨a, b, c⟩)) := Ar TB ⟨a, b, c⟩
theorem Adl : PU 226 (gOf aPd fPd) := by
 have hG := AC
 refine Aen.a TB (by simp [aPd]) ?_
 rintro ⟨a, b, c⟩ hv C hN Q hQ
 have Z := Aen.R EF0 hG hN
 refine Aa (Z 0 rfl ?_)
 simp only [go_sem, simprocAttr, aPd, Period.enc]
 refine Aa (Aa (Z 1 rfl ?_))
 simp only [go_sem, simprocAttr]
 and_intros <;> try exact sdA
 refine Ab rfl (fun hb1 => ?_) fun hb1 => ?_
 ·refine Aa (Z 2 rfl ?_)
  simp only [go_sem, simprocAttr]
  refine Ae (hQ _ _ (.inl rfl) ?_ ?_ ?_) <;> simp only [go_sem, simprocAttr, fPd, pdE, hb1, if_true]
 obtain ⟨h1, h2, h3⟩ : 0 ≤ a ∧ a ≤ b ∧ b < 36525 := by simp only [Bool.or_eq_false_iff, decide_eq_false_iff_not] at hb1; omega
 refine Ac ?_
 refine Aa (Aa (Z 3 rfl ?_))
 simp only [go_sem, simprocAttr, inI]
 and_intros <;> try exact sdA
 refine Ab rfl (fun hb3 => ?_) fun hb3 => ?_
 ·simp only [hcL] at hb3
  refine Aa (Z 4 rfl ?_)
  simp only [go_sem, simprocAttr]
  refine Ae (hQ _ _ (.inl rfl) ?_ ?_ ?_) <;> simp only [go_sem, simprocAttr, fPd, pdE, hb1, hb3, Bool.false_eq_true, if_true, if_false]
 simp only [hcL] at hb3
 have hb3n : ¬ 800 ≤ b - a := by omega
 refine Ac ?_
 refine Aa (Aa (Z 5 rfl ?_))
 simp only [go_sem, simprocAttr]
 and_intros <;> try exact sdA
 refine Ab rfl (fun hb5 => ?_) fun hb5 => ?_
 ·refine Aa (Z 6 rfl ?_)
  simp only [go_sem, simprocAttr]
  refine Ae (hQ _ _ (.inl rfl) ?_ ?_ ?_) <;> simp only [go_sem, simprocAttr, fPd, pdE, hb1, hb3n, hb5, Bool.false_eq_true, if_true, if_false]
 refine Ac ?_
 refine Aa (Z 7 rfl ?_)
 simp only [go_sem, simprocAttr]
 refine Ae (hQ _ _ (.inl rfl) ?_ ?_ ?_) <;> simp only [go_sem, simprocAttr, fPd, pdE, hb1, hb3n, hb5, Bool.false_eq_true, if_true, if_false]
def Aa9 (c : Cond) : Bool := if ((!Age c.kind && decide (0 < (c.l.length : Int))) || (!PB c.kind && decide (0 < (c.text.length : Int)))) = true then true else ((!AbV c.kind && !(decide (c.p.from' = 0) && (decide (c.p.to' = 0) && decide (c.p.days = 0)))) || (decide (AaK c.kind < 1) && !decide (c.a = 0))) || (decide (AaK c.kind < 2) && !decide (c.b = 0))
def MR (c : Cond) : Bool :=
 if (decide (c.kind = 2) || decide (c.kind = 3)) = true then decide ((c.l.length : Int) = 0)
 else if c.kind = 4 then !decide ((c.l.length : Int) = 1)
 else if c.kind = 7 then decide (c.a < 0) || decide (36525 ≤ c.a)
 else if c.kind = 8 then ((decide (c.a < 0) || decide (1440 ≤ c.a)) || decide (c.b < 0)) || decide (1440 ≤ c.b)
 else if (decide (c.kind = 9) || decide (c.kind = 10)) = true then decide (c.a < 0) || decide (6 < c.a)
 else if c.kind = 12 then (decide (c.a < 1) || decide (c.b < c.a)) || decide (9999 < c.b)
 else false
def Ab2 (c : Cond) : Prop × V := (c.ok, .bool (Aa9 c))
def Pt (c : Cond) : Prop × V := (c.ok, .bool (MR c))
theorem BO (k : Int) (l : List Cond) (a b x y z : Int) (t : List (List UInt8)) : gOf CG Ab2 [.agg [.int .i64 k, .list (l.map Cond.enc) false, .int .i64 a, .int .i64 b, .int .i64 x, .int .i64 y, .int .i64 z, .list (strs t) false]] = ((Cond.mk k l a b ⟨x, y, z⟩ t).ok, .bool (Aa9 (.mk k l a b ⟨x, y, z⟩ t))) := by have := Ar (F := Ab2) Cc (.mk k l a b ⟨x, y, z⟩ t); rw [CG, Cond.enc_eq] at this; exact this
theorem BL (k : Int) (l : List Cond) (a b x y z : Int) (t : List (List UInt8)) : gOf CG Pt [.agg [.int .i64 k, .list (l.map Cond.enc) false, .int .i64 a, .int .i64 b, .int .i64 x, .int .i64 y, .int .i64 z, .list (strs t) false]] = ((Cond.mk k l a b ⟨x, y, z⟩ t).ok, .bool (MR (.mk k l a b ⟨x, y, z⟩ t))) := by have := Ar (F := Pt) Cc (.mk k l a b ⟨x, y, z⟩ t); rw [CG, Cond.enc_eq] at this; exact this
def AbS : Tab
 | 254 => (gOf aK Agi)
 | 244 => (gOf aK Afo)
 | 243 => (gOf aK Afk)
 | 255 => (gOf aK Ab1)
 | _ => gNo
theorem Zu : ∀ f, PU f (AbS f) := fun f => by
 unfold AbS
 split
 ·exact AhW
 ·exact AfK
 ·exact Adx
 ·exact AhS
 ·exact Ao.no
theorem Aie : PU 241 (gOf CG Ab2) := by
 have hG := Zu
 refine Aem.a Cc (by simp [CG]) ?_
 rintro ⟨k, l, a, b, ⟨x, y, z⟩, t⟩ hv C hN Q hQ
 have Z := Aem.R EF0 hG hN
 obtain ⟨_, ⟨hl, _⟩, _, _, _, ⟨ht, _⟩⟩ := (Cond.ok_eq ..).1 hv
 refine Aa (Z 0 rfl ?_)
 simp only [go_sem, simprocAttr, CG, Cond.enc_eq, AbS, Jx, Bs, Br, Jw]
 refine Aa (Aa (Z 1 rfl ?_))
 simp only [go_sem, simprocAttr, List.length_map, DA, AbS, Jx, Bs, Br, Jw]
 and_intros <;> try exact sdA
 refine Ab rfl (fun hb1 => ?_) fun hb1 => ?_
 ·refine Aa (Z 2 rfl ?_)
  simp only [go_sem, simprocAttr, AbS, Jx, Bs, Br, Jw]
  refine Ae (hQ _ _ (.inl rfl) ?_ ?_ ?_) <;> simp only [go_sem, simprocAttr, Ab2]
  rw [show Aa9 (.mk k l a b ⟨x, y, z⟩ t) = true from if_pos hb1]
 refine Ac ?_
 refine Aa (Z 3 rfl ?_)
 simp only [go_sem, simprocAttr, AbS, Jx, Bs, Br, Jw]
 and_intros <;> try exact sdA
 refine Ae (hQ _ _ (.inl rfl) ?_ ?_ ?_) <;> simp only [go_sem, simprocAttr, Ab2]
 rw [show Aa9 (.mk k l a b ⟨x, y, z⟩ t) = _ from if_neg (fun h => by have : true = false := h.symm.trans hb1; cases this)]; rfl
theorem Agt : PU 242 (gOf CG Pt) := by
 have hG := AC
 refine Ael.a Cc (by simp [CG]) ?_
 rintro ⟨k, l, a, b, ⟨x, y, z⟩, t⟩ hv C hN Q hQ
 have Z := Ael.R EF0 hG hN
 obtain ⟨_, ⟨hl, _⟩, _, _, _, ⟨ht, _⟩⟩ := (Cond.ok_eq ..).1 hv
 refine Aa (Z 0 rfl ?_)
 simp only [go_sem, simprocAttr, CG, Cond.enc_eq, List.length_map]
 refine Aa (Aa (Z 1 rfl ?_))
 simp only [go_sem, simprocAttr, List.length_map]
 refine Ad (Aa ?_)
 refine Aa (Z 2 rfl ?_)
 simp only [go_sem, simprocAttr, List.length_map]
 refine Ab rfl (fun hc2 => ?_) fun hc2 => ?_
 ·simp only [hcL] at hc2
  refine Ac ?_
  refine Ab rfl (fun hc2r => ?_) fun hc2r => ?_
  ·simp only [hcL] at hc2r
   refine Aa (Z 4 rfl ?_)
   simp only [go_sem, simprocAttr, List.length_map]
   refine Ae (hQ _ _ (.inl rfl) ?_ ?_ ?_) <;> simp only [go_sem, simprocAttr, Pt]
   refine congrArg V.bool ?_; clear hQ hG hN hv; unfold MR; dsimp only [Cond.kind, Cond.l, Cond.a, Cond.b]; first | (subst_vars; rfl) | (simp_all; done) | (simp [*]; done)
  exfalso; simp_all
 simp only [hcL] at hc2
 refine Z 3 rfl ?_
 simp only [go_sem, simprocAttr, List.length_map]
 refine Ab rfl (fun hc3 => ?_) fun hc3 => ?_
 ·simp only [hcL] at hc3
  refine Aa (Z 4 rfl ?_)
  simp only [go_sem, simprocAttr, List.length_map]
  refine Ae (hQ _ _ (.inl rfl) ?_ ?_ ?_) <;> simp only [go_sem, simprocAttr, Pt]
  refine congrArg V.bool ?_; clear hQ hG hN hv; unfold MR; dsimp only [Cond.kind, Cond.l, Cond.a, Cond.b]; first | (subst_vars; rfl) | (simp_all; done) | (simp [*]; done)
 simp only [hcL] at hc3
 refine Aa (Z 5 rfl ?_)
 simp only [go_sem, simprocAttr, List.length_map]
 refine Ab rfl (fun hc5 => ?_) fun hc5 => ?_
 ·simp only [hcL] at hc5
  refine Aa (Z 6 rfl ?_)
  simp only [go_sem, simprocAttr, List.length_map]
  refine Ae (hQ _ _ (.inl rfl) ?_ ?_ ?_) <;> simp only [go_sem, simprocAttr, Pt]
  refine congrArg V.bool ?_; clear hQ hG hN hv; unfold MR; dsimp only [Cond.kind, Cond.l, Cond.a, Cond.b]; first | (subst_vars; rfl) | (simp_all; done) | (simp [*]; done)
 simp only [hcL] at hc5
 refine Aa (Z 7 rfl ?_)
 simp only [go_sem, simprocAttr, List.length_map]
 refine Ab rfl (fun hc7 => ?_) fun hc7 => ?_
 ·simp only [hcL] at hc7
  refine Aa (Z 8 rfl ?_)
  simp only [go_sem, simprocAttr, List.length_map]
  and_intros <;> try exact sdA
  refine Ae (hQ _ _ (.inl rfl) ?_ ?_ ?_) <;> simp only [go_sem, simprocAttr, Pt]
  refine congrArg V.bool ?_; clear hQ hG hN hv; unfold MR; dsimp only [Cond.kind, Cond.l, Cond.a, Cond.b]; first | (subst_vars; rfl) | (simp_all; done) | (simp [*]; done)
 simp only [hcL] at hc7
 refine Aa (Z 9 rfl ?_)
 simp only [go_sem, simprocAttr, List.length_map]
 refine Ab rfl (fun hc9 => ?_) fun hc9 => ?_
 ·simp only [hcL] at hc9
  refine Aa (Z 10 rfl ?_)
  simp only [go_sem, simprocAttr, List.length_map]
  and_intros <;> try exact sdA
  refine Ae (hQ _ _ (.inl rfl) ?_ ?_ ?_) <;> simp only [go_sem, simprocAttr, Pt]
  refine congrArg V.bool ?_; clear hQ hG hN hv; unfold MR; dsimp only [Cond.kind, Cond.l, Cond.a, Cond.b]; first | (subst_vars; rfl) | (simp_all; done) | (simp [*]; done)
 simp only [hcL] at hc9
 refine Aa (Aa (Z 11 rfl ?_))
 simp only [go_sem, simprocAttr, List.length_map]
 refine Ab rfl (fun hc11 => ?_) fun hc11 => ?_
 ·simp only [hcL] at hc11
  refine Ac ?_
  refine Ab rfl (fun hc11r => ?_) fun hc11r => ?_
  ·simp only [hcL] at hc11r
   refine Aa (Z 13 rfl ?_)
   simp only [go_sem, simprocAttr, List.length_map]
   and_intros <;> try exact sdA
   refine Ae (hQ _ _ (.inl rfl) ?_ ?_ ?_) <;> simp only [go_sem, simprocAttr, Pt]
   refine congrArg V.bool ?_; clear hQ hG hN hv; unfold MR; dsimp only [Cond.kind, Cond.l, Cond.a, Cond.b]; first | (subst_vars; rfl) | (simp_all; done) | (simp [*]; done)
  exfalso; simp_all
 simp only [hcL] at hc11
 refine Z 12 rfl ?_
 simp only [go_sem, simprocAttr, List.length_map]
 refine Ab rfl (fun hc12 => ?_) fun hc12 => ?_
 ·simp only [hcL] at hc12
  refine Aa (Z 13 rfl ?_)
  simp only [go_sem, simprocAttr, List.length_map]
  and_intros <;> try exact sdA
  refine Ae (hQ _ _ (.inl rfl) ?_ ?_ ?_) <;> simp only [go_sem, simprocAttr, Pt]
  refine congrArg V.bool ?_; clear hQ hG hN hv; unfold MR; dsimp only [Cond.kind, Cond.l, Cond.a, Cond.b]; first | (subst_vars; rfl) | (simp_all; done) | (simp [*]; done)
 simp only [hcL] at hc12
 refine Aa (Z 14 rfl ?_)
 simp only [go_sem, simprocAttr, List.length_map]
 refine Ab rfl (fun hc14 => ?_) fun hc14 => ?_
 ·simp only [hcL] at hc14
  refine Aa (Z 15 rfl ?_)
  simp only [go_sem, simprocAttr, List.length_map]
  and_intros <;> try exact sdA
  refine Ae (hQ _ _ (.inl rfl) ?_ ?_ ?_) <;> simp only [go_sem, simprocAttr, Pt]
  refine congrArg V.bool ?_; clear hQ hG hN hv; unfold MR; dsimp only [Cond.kind, Cond.l, Cond.a, Cond.b]; first | (subst_vars; rfl) | (simp_all; done) | (simp [*]; done)
 simp only [hcL] at hc14
 refine Ac ?_
 refine Aa (Z 16 rfl ?_)
 simp only [go_sem, simprocAttr, List.length_map]
 refine Ae (hQ _ _ (.inl rfl) ?_ ?_ ?_) <;> simp only [go_sem, simprocAttr, Pt]
 refine congrArg V.bool ?_; clear hQ hG hN hv; unfold MR; dsimp only [Cond.kind, Cond.l, Cond.a, Cond.b]; first | (subst_vars; rfl) | (simp_all; done) | (simp [*]; done)
def LE (k : Int) : List (List UInt8) → List (List UInt8) → Int
 | _, [] => 0
 | p, s :: r => if PA k s = false then 5 else if hasB s p = true then 6 else LE k (p ++ [s]) r
def Kv (c : Cond) : Int :=
 if (decide (c.kind < 1) || decide (14 < c.kind)) = true then 8
 else if Aa9 c = true then 3
 else if MR c = true then 2
 else if AbV c.kind = true then pdE c.p
 else if (PB c.kind && decide ((c.text.length : Int) = 0)) = true then 2
 else LE c.kind [] c.text
def Gp (c : Cond) : Prop × V := (c.ok, .int .i64 (Kv c))
theorem CA (k : Int) (l : List Cond) (a b x y z : Int) (t : List (List UInt8)) : gOf CG Gp [.agg [.int .i64 k, .list (l.map Cond.enc) false, .int .i64 a, .int .i64 b, .int .i64 x, .int .i64 y, .int .i64 z, .list (strs t) false]] = ((Cond.mk k l a b ⟨x, y, z⟩ t).ok, .int .i64 (Kv (.mk k l a b ⟨x, y, z⟩ t))) := by have := Ar (F := Gp) Cc (.mk k l a b ⟨x, y, z⟩ t); rw [CG, Cond.enc_eq] at this; exact this
def DK : Tab
 | 241 => (gOf CG Ab2)
 | 242 => (gOf CG Pt)
 | 243 => (gOf aK Afk)
 | 244 => (gOf aK Afo)
 | 245 => (gOf aKS IE)
 | 196 => (gOf Yl Afm)
 | 226 => (gOf aPd fPd)
 | _ => gNo
theorem UR : ∀ f, PU f (DK f) := fun f => by
 unfold DK
 split
 ·exact Aie
 ·exact Agt
 ·exact Adx
 ·exact AfK
 ·exact Abf
 ·exact Ah4
 ·exact Adl
 ·exact Ao.no
theorem AdA : PU 211 (gOf CG Gp) := by
 have hG := UR
 refine Aer.a Cc (by simp [CG]) ?_
 rintro ⟨k, l, a, b, ⟨x, y, z⟩, t⟩ hv C hN Q hQ
 have Y := Aer.D EF0 hG hN mixed
 have Z := Aer.R EF0 hG hN
 have hok : (Cond.mk k l a b ⟨x, y, z⟩ t).ok := hv
 have hpm : Kv (Cond.mk k l a b ⟨x, y, z⟩ t) = if (decide (k < 1) || decide (14 < k)) = true then 8 else if Aa9 (.mk k l a b ⟨x, y, z⟩ t) = true then 3 else if MR (.mk k l a b ⟨x, y, z⟩ t) = true then 2 else if AbV k = true then pdE ⟨x, y, z⟩ else if (PB k && decide ((t.length : Int) = 0)) = true then 2 else LE k [] t := rfl
 obtain ⟨_, ⟨hl, _⟩, _, _, _, ⟨ht, hts⟩⟩ := (Cond.ok_eq ..).1 hv
 generalize he : Aa9 (.mk k l a b ⟨x, y, z⟩ t) = eb at hpm
 generalize hw : MR (.mk k l a b ⟨x, y, z⟩ t) = wb at hpm
 refine Aa (Z 0 rfl ?_)
 simp only [go_sem, simprocAttr, CG, Cond.enc_eq, DK, BO, BL, Br, Bs, Bb, BN, Cz, hok, he, hw]
 refine Aa (Aa (Z 1 rfl ?_))
 simp only [go_sem, simprocAttr, DK, BO, BL, Br, Bs, Bb, BN, Cz, hok, he, hw]
 and_intros <;> try exact sdA
 refine Ab rfl (fun hb1 => ?_) fun hb1 => ?_
 ·rw [if_pos hb1] at hpm
  refine Aa (Z 2 rfl ?_)
  simp only [go_sem, simprocAttr, DK, BO, BL, Br, Bs, Bb, BN, Cz, hok, he, hw]
  refine Ae (hQ _ _ (.inl rfl) ?_ ?_ ?_) <;> simp only [go_sem, simprocAttr, Gp, hpm]
 rw [if_neg (by rw [hb1]; decide)] at hpm
 refine Ac ?_
 refine Aa (Aa (Z 3 rfl ?_))
 simp only [go_sem, simprocAttr, DK, BO, BL, Br, Bs, Bb, BN, Cz, hok, he, hw]
 and_intros <;> try exact sdA
 refine Ab rfl (fun hb3 => ?_) fun hb3 => ?_
 ·rw [if_pos hb3] at hpm
  refine Aa (Z 4 rfl ?_)
  simp only [go_sem, simprocAttr, DK, BO, BL, Br, Bs, Bb, BN, Cz, hok, he, hw]
  refine Ae (hQ _ _ (.inl rfl) ?_ ?_ ?_) <;> simp only [go_sem, simprocAttr, Gp, hpm]
 rw [if_neg (by rw [hb3]; decide)] at hpm
 refine Ac ?_
 refine Aa (Aa (Z 5 rfl ?_))
 simp only [go_sem, simprocAttr, DK, BO, BL, Br, Bs, Bb, BN, Cz, hok, he, hw]
 and_intros <;> try exact sdA
 refine Ab rfl (fun hb5 => ?_) fun hb5 => ?_
 ·rw [if_pos hb5] at hpm
  refine Aa (Z 6 rfl ?_)
  simp only [go_sem, simprocAttr, DK, BO, BL, Br, Bs, Bb, BN, Cz, hok, he, hw]
  refine Ae (hQ _ _ (.inl rfl) ?_ ?_ ?_) <;> simp only [go_sem, simprocAttr, Gp, hpm]
 rw [if_neg (by rw [hb5]; decide)] at hpm
 refine Ac ?_
 refine Aa (Aa (Z 7 rfl ?_))
 simp only [go_sem, simprocAttr, DK, BO, BL, Br, Bs, Bb, BN, Cz, hok, he, hw]
 and_intros <;> try exact sdA
 refine Ab rfl (fun hb7 => ?_) fun hb7 => ?_
 ·rw [if_pos hb7] at hpm
  refine Aa (Z 8 rfl ?_)
  simp only [go_sem, simprocAttr, DK, BO, BL, Br, Bs, Bb, BN, Cz, hok, he, hw]
  and_intros <;> try exact sdA
  refine Ae (hQ _ _ (.inl rfl) ?_ ?_ ?_) <;> simp only [go_sem, simprocAttr, Gp, hpm]
 rw [if_neg (by rw [hb7]; decide)] at hpm
 refine Ac ?_
 refine Aa (Aa (Z 9 rfl ?_))
 simp only [go_sem, simprocAttr, DA, DK, BO, BL, Br, Bs, Bb, BN, Cz, hok, he, hw]
 and_intros <;> try exact sdA
 refine Ab rfl (fun hb9 => ?_) fun hb9 => ?_
 ·rw [if_pos hb9] at hpm
  refine Aa (Z 10 rfl ?_)
  simp only [go_sem, simprocAttr, DK, BO, BL, Br, Bs, Bb, BN, Cz, hok, he, hw]
  refine Ae (hQ _ _ (.inl rfl) ?_ ?_ ?_) <;> simp only [go_sem, simprocAttr, Gp, hpm]
 rw [if_neg (by rw [hb9]; decide)] at hpm
 refine Ac ?_
 refine Aa (Aa (Z 11 rfl ?_))
 simp only [go_sem, simprocAttr, DK, BO, BL, Br, Bs, Bb, BN, Cz, hok, he, hw]
 refine Ad ?_
 refine Aj (α := Nat) (fun i => (i ≤ t.length) ∧ (LE k [] t = LE k (t.take i) (t.drop i))) (fun i => ⟨mkE [(1, V.ptr 1 0), (3, .int .i64 i)], mkH [(1, Ob.box 132 [V.int IntKind.i64 k, V.list (List.map Cond.enc l) false, V.int IntKind.i64 a, V.int IntKind.i64 b, V.int IntKind.i64 x, V.int IntKind.i64 y, V.int IntKind.i64 z, V.list (strs t) false])]⟩) (fun i => t.length - i) 0 ⟨Nat.zero_le _, rfl⟩ ?_ ?_
 ·exact leM
 rintro i ⟨hi, hx⟩ KL0 hKL0
 try dsimp only at *
 refine Aa (Aa (Z 12 rfl ?_))
 simp only [go_sem, simprocAttr, DA, DK, BO, BL, Br, Bs, Bb, BN, Cz, hok, he, hw]
 refine Ab rfl (fun hc12 => ?_) fun hc12 => ?_
 ·simp only [hcL] at hc12
  refine Ac ?_
  refine Aa (Ad ?_)
  refine Aa ?_
  rw [List.drop_eq_getElem_cons hc12, LE] at hx
  have hsl := hts _ (List.getElem_mem hc12)
  refine Aa (Y 14 rfl (by kernel_rfl) ?_)
  simp only [go_sem, simprocAttr, DS _ _ _ hc12, hc12, hsl, DK, BO, BL, Br, Bs, Bb, BN, Cz, hok, he, hw]
  and_intros <;> try exact sdA
  refine Ab rfl (fun hb14 => ?_) fun hb14 => ?_
  ·rw [if_pos (by simpa using hb14)] at hx
   refine Aa (Z 15 rfl ?_)
   simp only [go_sem, simprocAttr, DK, BO, BL, Br, Bs, Bb, BN, Cz, hok, he, hw]
   refine Ae (hQ _ _ (.inl rfl) ?_ ?_ ?_) <;> simp only [go_sem, simprocAttr, Gp, hpm, hx]
  rw [if_neg (by simpa using hb14)] at hx
  refine Ac ?_
  have htk : (t.take i).length ≤ 140737488355328 := by rw [List.length_take]; omega
  refine Aa (Y 16 rfl (by kernel_rfl) ?_)
  simp only [go_sem, simprocAttr, DS _ _ _ hc12, hc12, Qx, htk, DK, BO, BL, Br, Bs, Bb, BN, Cz, hok, he, hw]
  and_intros <;> try exact sdA
  refine Ab rfl (fun hb16 => ?_) fun hb16 => ?_
  ·rw [if_pos hb16] at hx
   refine Aa (Z 17 rfl ?_)
   simp only [go_sem, simprocAttr, DK, BO, BL, Br, Bs, Bb, BN, Cz, hok, he, hw]
   refine Ae (hQ _ _ (.inl rfl) ?_ ?_ ?_) <;> simp only [go_sem, simprocAttr, Gp, hpm, hx]
  rw [if_neg (by rw [hb16]; decide), ← AI hc12] at hx
  refine Ac ?_
  refine Z 13 rfl ?_
  simp only [go_sem, simprocAttr, inI, DK, BO, BL, Br, Bs, Bb, BN, Cz, hok, he, hw]
  and_intros <;> try exact sdA
  refine hKL0 (i + 1) _ ?_ ?_ ?_
  ·(try dsimp only); exact ⟨hc12, hx⟩
  ·(try dsimp only); omega
  exact leM
 simp only [hcL] at hc12
 rw [List.drop_eq_nil_of_le (by omega), LE] at hx
 refine Ai ?_
 simp only [go_sem, simprocAttr]
 refine Aa (Z 18 rfl ?_)
 simp only [go_sem, simprocAttr, DK, BO, BL, Br, Bs, Bb, BN, Cz, hok, he, hw]
 refine Ae (hQ _ _ (.inl rfl) ?_ ?_ ?_) <;> simp only [go_sem, simprocAttr, Gp, hpm, hx]
theorem Bl (f : Cond → V) (n : Nat) (k : Int) (l : List Cond) (a b x y z : Int) (t : List (List UInt8)) : gOf CG (IC f n) [.agg [.int .i64 k, .list (l.map Cond.enc) false, .int .i64 a, .int .i64 b, .int .i64 x, .int .i64 y, .int .i64 z, .list (strs t) false]] = ((Cond.mk k l a b ⟨x, y, z⟩ t).ok ∧ (Cond.mk k l a b ⟨x, y, z⟩ t).dep < n, f (.mk k l a b ⟨x, y, z⟩ t)) := by have := Ar (F := IC f n) Cc (.mk k l a b ⟨x, y, z⟩ t); rw [CG, Cond.enc_eq] at this; exact this
def OV (c : Cond) : V := .int .i64 c.siz
def Pm (c : Cond) : V := .int .i64 c.lev
theorem AgE (n : Nat) (hG : ∀ g, PU g (Qo 176 OV n g)) : PU 176 (gOf CG (IC OV (n + 1))) := by
 refine AeD.a Cc (by simp [CG]) ?_
 rintro ⟨k, l, a, b, ⟨x, y, z⟩, t⟩ hv C hN Q hQ
 have Z := AeD.R EF0 hG hN
 obtain ⟨hok, hdp⟩ : (Cond.mk k l a b ⟨x, y, z⟩ t).ok ∧ (Cond.mk k l a b ⟨x, y, z⟩ t).dep < n + 1 := hv
 have hds := Cond.dep_l (.mk k l a b ⟨x, y, z⟩ t)
 change ∀ u ∈ l, _ at hds
 obtain ⟨_, ⟨hl, hlo⟩, _, _, _, ⟨ht, _⟩⟩ := (Cond.ok_eq ..).1 hok
 have hT : Qo 176 OV n 176 = gOf CG (IC OV n) := by unfold Qo; rw [if_pos rfl]
 refine Aa (Z 0 rfl ?_)
 simp only [go_sem, simprocAttr, CG, Cond.enc_eq, hT, Bl, List.length_map]
 refine Aa (Z 1 rfl ?_)
 simp only [go_sem, simprocAttr, hT, Bl, List.length_map]
 refine Aa (Aa (Z 2 rfl ?_))
 simp only [go_sem, simprocAttr, hT, Bl, List.length_map]
 refine Ad ?_
 refine Aj (α := Nat) (fun i => (i ≤ l.length)) (fun i => ⟨mkE [(1, V.ptr 1 0), (3, .int .i64 (Cond.sizs 1 (l.take i))), (4, .int .i64 i)], mkH [(1, Ob.box 132 [V.int IntKind.i64 k, V.list (List.map Cond.enc l) false, V.int IntKind.i64 a, V.int IntKind.i64 b, V.int IntKind.i64 x, V.int IntKind.i64 y, V.int IntKind.i64 z, V.list (strs t) false])]⟩) (fun i => l.length - i) 0 (Nat.zero_le _) ?_ ?_
 ·refine Le.mk _ _ ?_ ?_ rfl <;> simp only [go_sem, simprocAttr, List.take_zero, Cond.sizs] <;> and_intros <;> try exact leA
 rintro i hi KL0 hKL0
 try dsimp only at *
 refine Aa (Aa (Z 3 rfl ?_))
 simp only [go_sem, simprocAttr, hT, Bl, List.length_map]
 refine Ab rfl (fun hc3 => ?_) fun hc3 => ?_
 ·simp only [hcL] at hc3
  refine Ac ?_
  refine Aa (Ad ?_)
  have hmem := List.getElem_mem hc3
  have hci := hlo _ hmem
  have hdi : l[i].dep < n := by have := hds _ hmem; omega
  have hst := Cond.siz_step hc3
  generalize hu : l[i] = u at hmem hci hdi hst
  obtain ⟨k2, l2, a2, b2, ⟨x2, y2, z2⟩, t2⟩ := u
  refine DZ (EF := EF0) hG (by rw [hN]; exact YY) ?_
  simp only [Yp, go_sem, simprocAttr, inI, Af _ _ _ _ hc3, hc3, hu, Cond.enc_eq, hci, hdi, OV, hT, Bl, List.length_map]
  and_intros <;> try exact sdA
  refine Z 4 rfl ?_
  simp only [go_sem, simprocAttr, inI, hT, Bl, List.length_map]
  and_intros <;> try exact sdA
  refine hKL0 (i + 1) _ ?_ ?_ ?_
  ·(try dsimp only); exact hc3
  ·(try dsimp only); omega
  refine Le.mk _ _ ?_ ?_ rfl <;> simp only [go_sem, simprocAttr, hst] <;> and_intros <;> try exact leA
 simp only [hcL] at hc3
 obtain rfl : i = l.length := by omega
 refine Ai ?_
 simp only [go_sem, simprocAttr]
 refine Aa (Z 6 rfl ?_)
 simp only [go_sem, simprocAttr, List.take_length, hT, Bl, List.length_map]
 refine Ae (hQ _ _ (.inl rfl) ?_ ?_ ?_) <;> simp only [go_sem, simprocAttr, IC, OV, Cond.siz]
theorem ZI : ∀ n, PU 176 (gOf CG (IC OV n)) := Jb AgE
theorem AhY (n : Nat) (hG : ∀ g, PU g (Qo 175 Pm n g)) : PU 175 (gOf CG (IC Pm (n + 1))) := by
 refine AeE.a Cc (by simp [CG]) ?_
 rintro ⟨k, l, a, b, ⟨x, y, z⟩, t⟩ hv C hN Q hQ
 have Z := AeE.R EF0 hG hN
 obtain ⟨hok, hdp⟩ : (Cond.mk k l a b ⟨x, y, z⟩ t).ok ∧ (Cond.mk k l a b ⟨x, y, z⟩ t).dep < n + 1 := hv
 have hds := Cond.dep_l (.mk k l a b ⟨x, y, z⟩ t)
 change ∀ u ∈ l, _ at hds
 obtain ⟨_, ⟨hl, hlo⟩, _, _, _, ⟨ht, _⟩⟩ := (Cond.ok_eq ..).1 hok
 have hT : Qo 175 Pm n 175 = gOf CG (IC Pm n) := by unfold Qo; rw [if_pos rfl]
 refine Aa (Z 0 rfl ?_)
 simp only [go_sem, simprocAttr, CG, Cond.enc_eq, hT, Bl, List.length_map]
 refine Aa (Z 1 rfl ?_)
 simp only [go_sem, simprocAttr, hT, Bl, List.length_map]
 refine Aa (Aa (Z 2 rfl ?_))
 simp only [go_sem, simprocAttr, hT, Bl, List.length_map]
 refine Ad ?_
 refine Aj (α := Nat) (fun i => (i ≤ l.length)) (fun i => ⟨mkE [(1, V.ptr 1 0), (3, .int .i64 (Cond.levs 0 (l.take i))), (4, .int .i64 i)], mkH [(1, Ob.box 132 [V.int IntKind.i64 k, V.list (List.map Cond.enc l) false, V.int IntKind.i64 a, V.int IntKind.i64 b, V.int IntKind.i64 x, V.int IntKind.i64 y, V.int IntKind.i64 z, V.list (strs t) false])]⟩) (fun i => l.length - i) 0 (Nat.zero_le _) ?_ ?_
 ·refine Le.mk _ _ ?_ ?_ rfl <;> simp only [go_sem, simprocAttr, List.take_zero, Cond.levs] <;> and_intros <;> try exact leA
 rintro i hi KL0 hKL0
 try dsimp only at *
 refine Aa (Aa (Z 3 rfl ?_))
 simp only [go_sem, simprocAttr, hT, Bl, List.length_map]
 refine Ab rfl (fun hc3 => ?_) fun hc3 => ?_
 ·simp only [hcL] at hc3
  refine Ac ?_
  refine Aa (Ad ?_)
  have hmem := List.getElem_mem hc3
  have hci := hlo _ hmem
  have hdi : l[i].dep < n := by have := hds _ hmem; omega
  have hst := Cond.lev_step hc3
  generalize hu : l[i] = u at hmem hci hdi hst
  obtain ⟨k2, l2, a2, b2, ⟨x2, y2, z2⟩, t2⟩ := u
  refine Z 5 rfl ?_
  simp only [go_sem, simprocAttr, Af _ _ _ _ hc3, hc3, hu, Cond.enc_eq, hci, hdi, Pm, hT, Bl, List.length_map]
  and_intros <;> try exact sdA
  refine Z 4 rfl ?_
  simp only [go_sem, simprocAttr, inI, hT, Bl, List.length_map]
  and_intros <;> try exact sdA
  refine hKL0 (i + 1) _ ?_ ?_ ?_
  ·(try dsimp only); exact hc3
  ·(try dsimp only); omega
  refine Le.mk _ _ ?_ ?_ rfl <;> simp only [go_sem, simprocAttr, hst] <;> and_intros <;> try exact leA
 simp only [hcL] at hc3
 obtain rfl : i = l.length := by omega
 refine Ai ?_
 simp only [go_sem, simprocAttr]
 refine Aa (DZ (EF := EF0) hG (by rw [hN]; exact YZ) ?_)
 simp only [Yq, go_sem, simprocAttr, inI, List.take_length, hT, Bl, List.length_map]
 and_intros <;> try exact sdA
 refine Ae (hQ _ _ (.inl rfl) ?_ ?_ ?_) <;> simp only [go_sem, simprocAttr, IC, Pm, Cond.lev]
theorem AaR : ∀ n, PU 175 (gOf CG (IC Pm n)) := Jb AhY
mutual
def Aao : Cond → Int
 | .mk k l a b p t => if Kv (.mk k l a b p t) ≠ 0 then Kv (.mk k l a b p t) else Ma l
def Ma : List Cond → Int
 | [] => 0
 | c :: l => if Aao c ≠ 0 then Aao c else Ma l
end
def LZ (c : Cond) : V := .int .i64 (Aao c)
def AbQ (n : Nat) (g : Nat) : List V → Prop × V := if g = 211 then gOf CG Gp else Qo 177 LZ n g
theorem AhO (n : Nat) (hG0 : ∀ g, PU g (Qo 177 LZ n g)) : PU 177 (gOf CG (IC LZ (n + 1))) := by
 have hG : ∀ g, PU g (AbQ n g) := fun g => by
  unfold AbQ
  split
  ·rename_i e; subst e; exact AdA
  exact hG0 g
 refine AeC.a Cc (by simp [CG]) ?_
 rintro ⟨k, l, a, b, ⟨x, y, z⟩, t⟩ hv C hN Q hQ
 have Z := AeC.R EF0 hG hN
 obtain ⟨hok, hdp⟩ : (Cond.mk k l a b ⟨x, y, z⟩ t).ok ∧ (Cond.mk k l a b ⟨x, y, z⟩ t).dep < n + 1 := hv
 have hds := Cond.dep_l (.mk k l a b ⟨x, y, z⟩ t)
 change ∀ u ∈ l, _ at hds
 have hpe : Aao (.mk k l a b ⟨x, y, z⟩ t) = if Kv (.mk k l a b ⟨x, y, z⟩ t) ≠ 0 then Kv (.mk k l a b ⟨x, y, z⟩ t) else Ma l := by rw [Aao]
 obtain ⟨_, ⟨hl, hlo⟩, _, _, _, ⟨ht, _⟩⟩ := (Cond.ok_eq ..).1 hok
 have hT : AbQ n 177 = gOf CG (IC LZ n) := by unfold AbQ Qo; rw [if_neg (by decide), if_pos rfl]
 have hT2 : AbQ n 211 = gOf CG Gp := by unfold AbQ; rw [if_pos rfl]
 generalize hpt : Kv (.mk k l a b ⟨x, y, z⟩ t) = pe at hpe
 refine Aa (Z 0 rfl ?_)
 simp only [go_sem, simprocAttr, CG, Cond.enc_eq, hT, hT2, Bl, List.length_map, CA, hok, hpt]
 refine Aa (Aa (Z 1 rfl ?_))
 simp only [go_sem, simprocAttr, hT, hT2, Bl, List.length_map, CA, hok, hpt]
 and_intros <;> try exact sdA
 refine Aa (Z 2 rfl ?_)
 simp only [go_sem, simprocAttr, hT, hT2, Bl, List.length_map, CA, hok, hpt]
 refine Ab rfl (fun hb2 => ?_) fun hb2 => ?_
 ·rw [if_pos (by simpa using hb2)] at hpe
  refine Aa (Z 3 rfl ?_)
  simp only [go_sem, simprocAttr, hT, hT2, Bl, List.length_map, CA, hok, hpt]
  refine Ae (hQ _ _ (.inl rfl) ?_ ?_ ?_) <;> simp only [go_sem, simprocAttr, IC, LZ, hpe]
 rw [if_neg (by simpa using hb2)] at hpe
 refine Ac ?_
 refine Aa (Aa (Z 4 rfl ?_))
 simp only [go_sem, simprocAttr, hT, hT2, Bl, List.length_map, CA, hok, hpt]
 refine Ad ?_
 refine Aj (α := Nat) (fun i => (i ≤ l.length) ∧ (Ma l = Ma (l.drop i))) (fun i => ⟨mkE [(1, V.ptr 1 0), (4, .int .i64 i)], mkH [(1, Ob.box 132 [V.int IntKind.i64 k, V.list (List.map Cond.enc l) false, V.int IntKind.i64 a, V.int IntKind.i64 b, V.int IntKind.i64 x, V.int IntKind.i64 y, V.int IntKind.i64 z, V.list (strs t) false])]⟩) (fun i => l.length - i) 0 ⟨Nat.zero_le _, rfl⟩ ?_ ?_
 ·exact leM
 rintro i ⟨hi, hx⟩ KL0 hKL0
 try dsimp only at *
 refine Aa (Aa (Z 5 rfl ?_))
 simp only [go_sem, simprocAttr, hT, hT2, Bl, List.length_map, CA, hok, hpt]
 refine Ab rfl (fun hc5 => ?_) fun hc5 => ?_
 ·simp only [hcL] at hc5
  refine Ac ?_
  refine Aa (Ad ?_)
  have hmem := List.getElem_mem hc5
  have hci := hlo _ hmem
  have hdi : l[i].dep < n := by have := hds _ hmem; omega
  rw [List.drop_eq_getElem_cons hc5, Ma] at hx
  generalize hu : l[i] = u at hmem hci hdi hx
  obtain ⟨k2, l2, a2, b2, ⟨x2, y2, z2⟩, t2⟩ := u
  refine Aa (Z 7 rfl ?_)
  simp only [go_sem, simprocAttr, Af _ _ _ _ hc5, hc5, hu, Cond.enc_eq, hci, hdi, LZ, hT, hT2, Bl, List.length_map, CA, hok, hpt]
  and_intros <;> try exact sdA
  refine Aa (Z 8 rfl ?_)
  simp only [go_sem, simprocAttr, hT, hT2, Bl, List.length_map, CA, hok, hpt]
  refine Ab rfl (fun hb8 => ?_) fun hb8 => ?_
  ·rw [if_pos (by simpa using hb8)] at hx
   refine Aa (Z 9 rfl ?_)
   simp only [go_sem, simprocAttr, hT, hT2, Bl, List.length_map, CA, hok, hpt]
   refine Ae (hQ _ _ (.inl rfl) ?_ ?_ ?_) <;> simp only [go_sem, simprocAttr, IC, LZ, hpe, hx]
  rw [if_neg (by simpa using hb8)] at hx
  refine Ac ?_
  refine Z 6 rfl ?_
  simp only [go_sem, simprocAttr, inI, hT, hT2, Bl, List.length_map, CA, hok, hpt]
  and_intros <;> try exact sdA
  refine hKL0 (i + 1) _ ?_ ?_ ?_
  ·(try dsimp only); exact ⟨hc5, hx⟩
  ·(try dsimp only); omega
  exact leM
 simp only [hcL] at hc5
 rw [List.drop_eq_nil_of_le (by omega), Ma] at hx
 refine Ai ?_
 simp only [go_sem, simprocAttr]
 refine Aa (Z 10 rfl ?_)
 simp only [go_sem, simprocAttr, hT, hT2, Bl, List.length_map, CA, hok, hpt]
 refine Ae (hQ _ _ (.inl rfl) ?_ ?_ ?_) <;> simp only [go_sem, simprocAttr, IC, LZ, hpe, hx]
theorem Aan : ∀ n, PU 177 (gOf CG (IC LZ n)) := Jb AhO
def Pw (f : Cond → V) (c : Cond) : Prop × V := (c.ok, f c)
theorem BP (f : Cond → V) (k : Int) (l : List Cond) (a b x y z : Int) (t : List (List UInt8)) : gOf CG (Pw f) [.agg [.int .i64 k, .list (l.map Cond.enc) false, .int .i64 a, .int .i64 b, .int .i64 x, .int .i64 y, .int .i64 z, .list (strs t) false]] = ((Cond.mk k l a b ⟨x, y, z⟩ t).ok, f (.mk k l a b ⟨x, y, z⟩ t)) := by have := Ar (F := Pw f) Cc (.mk k l a b ⟨x, y, z⟩ t); rw [CG, Cond.enc_eq] at this; exact this
theorem LW {k : Nat} {f : Cond → V} (h : ∀ n, PU k (gOf CG (IC f n))) : PU k (gOf CG (Pw f)) := by
 intro vs M w cargs hv
 by_cases e : ∃ c, CG c = vs
 ·obtain ⟨c, rfl⟩ := e
  have := h (c.dep + 1) (CG c) M w cargs
  rw [Ar Cc] at hv this ⊢
  exact this ⟨hv, Nat.lt_succ_self _⟩
 ·unfold gOf at hv
  rw [dif_neg e] at hv
  exact hv.elim
theorem AgD : PU 176 (gOf CG (Pw OV)) := LW ZI
theorem AhX : PU 175 (gOf CG (Pw Pm)) := LW AaR
theorem AhN : PU 177 (gOf CG (Pw LZ)) := LW Aan
def ckE (c : Cond) : Int := if (decide (8 < c.lev) || decide (128 < c.siz)) = true then 4 else Aao c
def ckV (c : Cond) : V := .int .i64 (ckE c)
def OP : Tab
 | 176 => (gOf CG (Pw OV))
 | 175 => (gOf CG (Pw Pm))
 | 177 => (gOf CG (Pw LZ))
 | _ => gNo
theorem UU : ∀ f, PU f (OP f) := fun f => by
 unfold OP
 split
 ·exact AgD
 ·exact AhX
 ·exact AhN
 ·exact Ao.no
theorem Aah : PU 126 (gOf CG (Pw ckV)) := by
 have hG := UU
 refine Ae4.a Cc (by simp [CG]) ?_
 rintro ⟨k, l, a, b, ⟨x, y, z⟩, t⟩ hv C hN Q hQ
 have Z := Ae4.R EF0 hG hN
 have hok : (Cond.mk k l a b ⟨x, y, z⟩ t).ok := hv
 have hck : ckE (.mk k l a b ⟨x, y, z⟩ t) = if (decide (8 < Cond.lev (.mk k l a b ⟨x, y, z⟩ t)) || decide (128 < Cond.siz (.mk k l a b ⟨x, y, z⟩ t))) = true then 4 else Aao (.mk k l a b ⟨x, y, z⟩ t) := rfl
 refine Aa (Z 0 rfl ?_)
 simp only [go_sem, simprocAttr, CG, Cond.enc_eq, OP, BP, hok, OV, Pm, LZ]
 refine Aa (Aa (Z 1 rfl ?_))
 simp only [go_sem, simprocAttr, OP, BP, hok, OV, Pm, LZ]
 and_intros <;> try exact sdA
 refine Ab rfl (fun hb1 => ?_) fun hb1 => ?_
 ·rw [if_pos hb1] at hck
  refine Aa (Z 2 rfl ?_)
  simp only [go_sem, simprocAttr, OP, BP, hok, OV, Pm, LZ]
  refine Ae (hQ _ _ (.inl rfl) ?_ ?_ ?_) <;> simp only [go_sem, simprocAttr, Pw, ckV, hck]
 rw [if_neg (by rw [hb1]; decide)] at hck
 refine Ac ?_
 refine Aa (Z 3 rfl ?_)
 simp only [go_sem, simprocAttr, OP, BP, hok, OV, Pm, LZ]
 and_intros <;> try exact sdA
 refine Ae (hQ _ _ (.inl rfl) ?_ ?_ ?_) <;> simp only [go_sem, simprocAttr, Pw, ckV, hck]
structure Pct where
 type : List UInt8
 percent : Int
def Pct.enc (x : Pct) : List V := [.str x.type, .int .i64 x.percent]
theorem Pct.inj (a b : Pct) (h : a.enc = b.enc) : a = b := by
 obtain ⟨a_type, a_percent⟩ := a
 obtain ⟨b_type, b_percent⟩ := b
 simp only [Pct.enc, List.cons.injEq, V.str.injEq, V.int.injEq, V.bool.injEq, V.agg.injEq, V.list.injEq, and_true, true_and] at h
 obtain ⟨h0, h1⟩ := h
 subst h0
 subst h1
 rfl
def Pct.ok (x : Pct) : Prop := x.type.length ≤ 140737488355328 ∧ inI x.percent
theorem Pct.rows (l : List Pct) : (∀ r ∈ l.map Pct.enc, r.length = 2) ↔ True := iff_true_intro fun r hr => by obtain ⟨x, _, rfl⟩ := List.mem_map.1 hr; rfl
theorem Pct.purs (l : List Pct) : (∀ r ∈ l.map Pct.enc, V.purs r = true) ↔ True := iff_true_intro fun r hr => by obtain ⟨x, _, rfl⟩ := List.mem_map.1 hr; rfl
attribute [go_sem] Pct.rows Pct.purs
def vF (g : List Fault) : V := .list (An g) false
def aIs (x : List Int) : List V := [.list (AY x) false]
theorem TH (a b : List Int) (h : aIs a = aIs b) : a = b := by
 simp only [aIs, List.cons.injEq, V.str.injEq, V.int.injEq, V.bool.injEq, V.agg.injEq, V.list.injEq, and_true, true_and] at h
 have h0 := h
 replace h0 := GT h0
 subst h0
 rfl
def RT {α β : Type} (_ : α) (_ : β) : Prop := True
def FSm (g : List Fault) : Prop := ∀ x ∈ g, x.pos.length ≤ 1000
theorem FSm.nil : FSm [] := fun _ h => nomatch h
theorem FSm.app {g h : List Fault} (a : FSm g) (b : FSm h) : FSm (g ++ h) := fun x hx => (List.mem_append.1 hx).elim (a x) (b x)
theorem FSm.one {e : Int} {p : List UInt8} (h : p.length ≤ 1000) : FSm [⟨e, p⟩] := fun x hx => by rw [List.mem_singleton.1 hx]; exact h
theorem FSm.fif {g : List Fault} (a : FSm g) {b : Bool} {e : Int} {p : List UInt8} (h : p.length ≤ 1000) : FSm (g ++ fIf b e p) := a.app (by unfold fIf; split; exact FSm.one h; exact FSm.nil)
theorem Hu {q : List UInt8} {i : Nat} (hq : q.length ≤ 100) (h : (dec (i : Int)).length ≤ 21) : (q ++ dec i).length ≤ 1000 := by rw [List.length_append]; omega
def Aiq (l : List Int) (g : List Fault) : Prop := g.length ≤ 2 * l.length ∧ FSm g
def Af8 : List UInt8 := [99, 111, 109, 98, 105, 110, 101, 32]
def AbT : List UInt8 := [112, 101, 114, 99, 101, 110, 116, 32]
def Ev : Tab
 | 68 => Jn
 | 23 => BS
 | _ => gNo
theorem Qp : ∀ f, PU f (Ev f) := fun f => by
 unfold Ev
 split
 ·exact DU
 ·exact Hm
 ·exact Ao.no
theorem WH {i : Nat} (h : i ≤ 2000000) : (dec (i : Int)).length ≤ 21 := SM ⟨by omega, by omega⟩
theorem AaY {i : Nat} (h : i ≤ 2000000) : inI (i : Int) := ⟨by omega, by omega⟩
theorem Abh : ∃ F : List Int → List Fault, (∀ l, l.length ≤ 1048576 → Aiq l (F l)) ∧ PU 127 (gOf aIs fun l => (l.length ≤ 1048576, vF (F l))) := by
 have hG := Qp
 refine Ae3.p (val := vF) (R := Aiq) TH (by simp [aIs]) ?_
 rintro l hv Q hQ
 have Y := Ae3.E EF0 hG mixed
 have Z := Ae3.T EF0 hG
 refine Ag (Z 0 rfl ?_)
 simp only [go_sem, simprocAttr, aIs, Ev, Ah]
 refine Ag (Z 1 rfl ?_)
 simp only [go_sem, simprocAttr, Ev, Ah]
 refine Ag (Ag (Z 2 rfl ?_))
 simp only [go_sem, simprocAttr, Ev, Ah]
 refine AN ?_
 refine CI (α := Nat × (List Fault)) (fun γ => (γ.1 ≤ l.length) ∧ (γ.2.length ≤ 2 * γ.1) ∧ (FSm γ.2)) (fun γ => ⟨mkE [(0, V.list (AY l) false), (3, .own 999 γ.2.length), (4, .int .i64 γ.1)], mkH [(999, .arr 126 2 (An γ.2))]⟩) (fun γ => l.length - γ.1) (0, []) ⟨Nat.zero_le _, Nat.le_refl _, FSm.nil⟩ ?_ ?_
 ·exact leM
 rintro ⟨i, g⟩ ⟨hi, hg, hs⟩ KL0 hKL0
 try dsimp only at *
 refine Ag (Ag (Z 3 rfl ?_))
 simp only [go_sem, simprocAttr, Bp, Ev, Ah]
 refine AH rfl (fun hc3 => ?_) fun hc3 => ?_
 ·simp only [hcL] at hc3
  refine AG ?_
  refine Ag (AN ?_)
  have hd := WH (i := i) (by omega)
  have hi2 := AaY (i := i) (by omega)
  have hp8 : (Af8 ++ dec i).length ≤ 1000 := Hu (by decide) hd
  refine Ag (Z 5 rfl ?_)
  simp only [go_sem, simprocAttr, inI, hi2, Ev, Ah]
  and_intros <;> try exact sdA
  refine Ag (Ag (Z 6 rfl ?_))
  simp only [go_sem, simprocAttr, Ev, Ah]
  refine AN ?_
  refine CI (α := Nat × Bool) (fun γ => (γ.1 ≤ i)) (fun γ => ⟨mkE [(0, V.list (AY l) false), (3, V.own 999 g.length), (4, V.int IntKind.i64 ↑i), (5, V.str (99 :: 111 :: 109 :: 98 :: 105 :: 110 :: 101 :: 32 :: dec ↑i)), (6, .bool γ.2), (7, .int .i64 γ.1)], mkH [(999, Ob.arr 126 2 (An g))]⟩) (fun γ => i - γ.1) (0, false) (Nat.zero_le _) ?_ ?_
  ·exact leM
  rintro ⟨j, tw⟩ hj KL2 hKL2
  try dsimp only at *
  refine Ag (Ag (Z 7 rfl ?_))
  simp only [go_sem, simprocAttr, Ev, Ah]
  refine AH rfl (fun hc7 => ?_) fun hc7 => ?_
  ·simp only [hcL] at hc7
   refine AG ?_
   refine Ag (AN ?_)
   have hjl : j < l.length := by omega
   refine Y 9 rfl (by kernel_rfl) ?_
   simp only [go_sem, simprocAttr, AV _ _ _ hc3, AV _ _ _ hjl, hc3, hjl, Bp, Ev, Ah]
   and_intros <;> try exact sdA
   refine Z 8 rfl ?_
   simp only [go_sem, simprocAttr, inI, Ev, Ah]
   and_intros <;> try exact sdA
   refine hKL2 (j + 1, (tw || decide (l[j] = l[i]))) _ ?_ ?_ ?_
   ·(try dsimp only); omega
   ·(try dsimp only); omega
   exact leM
  simp only [hcL] at hc7
  refine CJ ?_
  simp only [go_sem, simprocAttr]
  refine CW (α := (List Fault)) (fun f1 => (f1 = g ++ fIf (decide (l[i] < 1) || decide (9999 < l[i])) 2 (Af8 ++ dec i)) ∧ (f1.length ≤ g.length + 1)) (fun f1 => ⟨mkE [(0, V.list (AY l) false), (3, .own 999 f1.length), (4, V.int IntKind.i64 ↑i), (5, V.str (99 :: 111 :: 109 :: 98 :: 105 :: 110 :: 101 :: 32 :: dec ↑i)), (6, V.bool tw)], mkH [(999, .arr 126 2 (An f1))]⟩) ?_ ?_
  ·intro KC10 hKC10
   refine Ag (Z 10 rfl ?_)
   simp only [go_sem, simprocAttr, AV _ _ _ hc3, hc3, Bp, Ev, Ah]
   and_intros <;> try exact sdA
   refine AH rfl (fun hb10 => ?_) fun hb10 => ?_
   ·refine Z 11 rfl ?_
    simp only [go_sem, simprocAttr, Ev, Ah]
    and_intros <;> try exact sdA
    refine hKC10 (g ++ [⟨2, Af8 ++ dec i⟩]) _ ?_ ?_
    ·(try dsimp only); exact ⟨by rw [Dx (show (decide (l[i] < 1) || decide (9999 < l[i])) = true from hb10)], by simp⟩
    refine Le.mk _ _ ?_ ?_ rfl <;> simp only [go_sem, simprocAttr, List.length_append, List.length_cons, List.length_nil] <;> and_intros <;> try exact leA
   refine AG ?_
   refine hKC10 (g) _ ?_ ?_
   ·(try dsimp only); exact ⟨by rw [Dy (show (decide (l[i] < 1) || decide (9999 < l[i])) = false from hb10), List.append_nil], by omega⟩
   exact leM
  rintro f1 ⟨hf1, lf1⟩
  refine Ag (Z 12 rfl ?_)
  simp only [go_sem, simprocAttr, Ev, Ah]
  refine AH rfl (fun hb12 => ?_) fun hb12 => ?_
  ·refine Z 13 rfl ?_
   simp only [go_sem, simprocAttr, Ev, Ah]
   and_intros <;> try exact sdA
   refine Z 4 rfl ?_
   simp only [go_sem, simprocAttr, inI, Ev, Ah]
   and_intros <;> try exact sdA
   refine hKL0 (i + 1, f1 ++ [⟨6, Af8 ++ dec i⟩]) _ ?_ ?_ ?_
   ·(try dsimp only); exact ⟨hc3, by simp only [List.length_append, List.length_cons, List.length_nil]; omega, by rw [hf1]; exact (hs.fif hp8).app (FSm.one hp8)⟩
   ·(try dsimp only); omega
   refine Le.mk _ _ ?_ ?_ rfl <;> simp only [go_sem, simprocAttr, List.length_append, List.length_cons, List.length_nil] <;> and_intros <;> try exact leA
  refine AG ?_
  refine Z 4 rfl ?_
  simp only [go_sem, simprocAttr, inI, Ev, Ah]
  and_intros <;> try exact sdA
  refine hKL0 (i + 1, f1) _ ?_ ?_ ?_
  ·(try dsimp only); exact ⟨hc3, by omega, by rw [hf1]; exact hs.fif hp8⟩
  ·(try dsimp only); omega
  exact leM
 simp only [hcL] at hc3
 refine CJ ?_
 simp only [go_sem, simprocAttr]
 refine Ag (Z 14 rfl ?_)
 simp only [go_sem, simprocAttr, Ev, Ah]
 refine TC.le (s' := ⟨mkE [(2, .list (An g) false)], mkH []⟩) (Le.mk _ _ ?_ ?_ rfl) (DR (hQ _ _ (.inl rfl) ?_ ?_ ?_)) <;> simp only [go_sem, simprocAttr, vF]
 ·exact Cq rfl (by rw [Bk]) rfl (Bq _)
 exact ⟨g, rfl, by omega, hs⟩
def Aa7 : List Int → List Fault := Abh.choose
theorem Aih : ∀ l : List Int, l.length ≤ 1048576 → Aiq l (Aa7 l) := Abh.choose_spec.1
theorem Aig : PU 127 (gOf aIs fun l => (l.length ≤ 1048576, vF (Aa7 l))) := Abh.choose_spec.2
theorem Du (l : List Int) : gOf aIs (fun l => (l.length ≤ 1048576, vF (Aa7 l))) [.list (AY l) false] = (l.length ≤ 1048576, .list (An (Aa7 l)) false) := Ar (F := fun l => (l.length ≤ 1048576, vF (Aa7 l))) TH l
def Xb (x : List Pct) : List V := [.list (x.map Pct.enc) false]
theorem OC (a b : List Pct) (h : Xb a = Xb b) : a = b := by
 simp only [Xb, List.cons.injEq, V.str.injEq, V.int.injEq, V.bool.injEq, V.agg.injEq, V.list.injEq, and_true, true_and] at h
 have h0 := h
 replace h0 := Aw Pct.inj h0
 subst h0
 rfl
def AfX (x : Pct) : Prop := 0 ≤ x.percent ∧ x.percent ≤ 1000
def Xi (l : List Pct) (i : Nat) (g : List Fault) : Prop := g = [] → ∀ x ∈ l.take i, AfX x
theorem Xi.step {l : List Pct} {i : Nat} {g g' : List Fault} (h : Xi l i g) (hi : i < l.length) (e : g' = [] → g = []) (hx : g' = [] → AfX l[i]) : Xi l (i + 1) g' := fun e' x hx' => by
 rw [AI hi] at hx'
 rcases List.mem_append.1 hx' with h' | h'
 ·exact h (e e') x h'
 ·rw [List.mem_singleton.1 h']; exact hx e'
def Aio (l : List Pct) (g : List Fault) : Prop := g.length ≤ 3 * l.length ∧ (g = [] → ∀ x ∈ l, AfX x) ∧ FSm g
def Fd (l : List Pct) : Prop := l.length ≤ 1000000 ∧ ∀ x ∈ l, x.ok
theorem Rv : ∃ F : List Pct → List Fault, (∀ l, Fd l → Aio l (F l)) ∧ PU 128 (gOf Xb fun l => (Fd l, vF (F l))) := by
 have hG := Qp
 refine Ae2.p (val := vF) (R := Aio) OC (by simp [Xb]) ?_
 rintro l hv Q hQ
 have Y := Ae2.E EF0 hG mixed
 have Z := Ae2.T EF0 hG
 obtain ⟨hll, hlo⟩ : Fd l := hv
 refine Ag (Z 0 rfl ?_)
 simp only [go_sem, simprocAttr, Xb, Ev, Ah, BS]
 refine Ag (Z 1 rfl ?_)
 simp only [go_sem, simprocAttr, Ev, Ah, BS]
 refine Ag (Ag (Z 2 rfl ?_))
 simp only [go_sem, simprocAttr, Ev, Ah, BS]
 refine AN ?_
 refine CI (α := Nat × (List Fault)) (fun γ => (γ.1 ≤ l.length) ∧ (γ.2.length ≤ 3 * γ.1) ∧ (Xi l γ.1 γ.2) ∧ (FSm γ.2)) (fun γ => ⟨mkE [(0, V.list (List.map Pct.enc l) false), (3, .own 999 γ.2.length), (4, .int .i64 γ.1)], mkH [(999, .arr 126 2 (An γ.2))]⟩) (fun γ => l.length - γ.1) (0, []) ⟨Nat.zero_le _, Nat.le_refl _, (fun _ x hx => nomatch hx), FSm.nil⟩ ?_ ?_
 ·exact leM
 rintro ⟨i, g⟩ ⟨hi, hg, hok, hs⟩ KL0 hKL0
 try dsimp only at *
 refine Ag (Ag (Z 3 rfl ?_))
 simp only [go_sem, simprocAttr, List.length_map, Ev, Ah, BS]
 refine AH rfl (fun hc3 => ?_) fun hc3 => ?_
 ·simp only [hcL] at hc3
  refine AG ?_
  refine Ag (AN ?_)
  have hd := CB (i := i) (by omega)
  have hi2 := GA (i := i) (by omega)
  have hxo := hlo _ (List.getElem_mem hc3)
  obtain ⟨z, hz⟩ : ∃ z, z = l[i] := ⟨_, rfl⟩
  rw [← hz] at hxo
  have hp8 : (AbT ++ dec i).length ≤ 1000 := Hu (by decide) hd
  refine Ag (Z 5 rfl ?_)
  simp only [go_sem, simprocAttr, inI, hi2, Ev, Ah, BS]
  and_intros <;> try exact sdA
  refine Ag (Ag (Z 6 rfl ?_))
  simp only [go_sem, simprocAttr, Ev, Ah, BS]
  refine AN ?_
  refine CI (α := Nat × Bool) (fun γ => (γ.1 ≤ i)) (fun γ => ⟨mkE [(0, V.list (List.map Pct.enc l) false), (3, V.own 999 g.length), (4, V.int IntKind.i64 ↑i), (5, V.str (112 :: 101 :: 114 :: 99 :: 101 :: 110 :: 116 :: 32 :: dec ↑i)), (6, .bool γ.2), (7, .int .i64 γ.1)], mkH [(999, Ob.arr 126 2 (An g))]⟩) (fun γ => i - γ.1) (0, false) (Nat.zero_le _) ?_ ?_
  ·exact leM
  rintro ⟨j, tw⟩ hj KL2 hKL2
  try dsimp only at *
  refine Ag (Ag (Z 7 rfl ?_))
  simp only [go_sem, simprocAttr, Ev, Ah, BS]
  refine AH rfl (fun hc7 => ?_) fun hc7 => ?_
  ·simp only [hcL] at hc7
   refine AG ?_
   refine Ag (AN ?_)
   have hjl : j < l.length := by omega
   refine Y 9 rfl (by kernel_rfl) ?_
   simp only [go_sem, simprocAttr, Af _ _ _ _ hc3, Af _ _ _ _ hjl, hc3, hjl, Pct.enc, List.length_map, ← hz, Ev, Ah, BS]
   and_intros <;> try exact sdA
   refine Z 8 rfl ?_
   simp only [go_sem, simprocAttr, inI, Ev, Ah, BS]
   and_intros <;> try exact sdA
   refine hKL2 (j + 1, (tw || decide (l[j].type = z.type))) _ ?_ ?_ ?_
   ·(try dsimp only); omega
   ·(try dsimp only); omega
   exact leM
  simp only [hcL] at hc7
  refine CJ ?_
  simp only [go_sem, simprocAttr]
  refine CW (α := (List Fault)) (fun f1 => (f1 = g ++ fIf (!Dt z.type 3 3) 5 (AbT ++ dec i)) ∧ (f1.length ≤ g.length + 1)) (fun f1 => ⟨mkE [(0, V.list (List.map Pct.enc l) false), (3, .own 999 f1.length), (4, V.int IntKind.i64 ↑i), (5, V.str (112 :: 101 :: 114 :: 99 :: 101 :: 110 :: 116 :: 32 :: dec ↑i)), (6, V.bool tw)], mkH [(999, .arr 126 2 (An f1))]⟩) ?_ ?_
  ·intro KC10 hKC10
   refine Ag (Z 10 rfl ?_)
   simp only [go_sem, simprocAttr, Af _ _ _ _ hc3, hc3, Pct.enc, List.length_map, ← hz, hxo.1, Ev, Ah, BS]
   and_intros <;> try exact sdA
   refine AH rfl (fun hb10 => ?_) fun hb10 => ?_
   ·refine Z 11 rfl ?_
    simp only [go_sem, simprocAttr, Ev, Ah, BS]
    and_intros <;> try exact sdA
    refine hKC10 (g ++ [⟨5, AbT ++ dec i⟩]) _ ?_ ?_
    ·(try dsimp only); exact ⟨by rw [Dx (show (!Dt z.type 3 3) = true from hb10)], by simp⟩
    refine Le.mk _ _ ?_ ?_ rfl <;> simp only [go_sem, simprocAttr, List.length_append, List.length_cons, List.length_nil] <;> and_intros <;> try exact leA
   refine AG ?_
   refine hKC10 (g) _ ?_ ?_
   ·(try dsimp only); exact ⟨by rw [Dy (show (!Dt z.type 3 3) = false from hb10), List.append_nil], by omega⟩
   exact leM
  rintro f1 ⟨hf1, lf1⟩
  refine CW (α := (List Fault)) (fun f2 => (f2 = f1 ++ fIf (tw) 6 (AbT ++ dec i)) ∧ (f2.length ≤ f1.length + 1)) (fun f2 => ⟨mkE [(0, V.list (List.map Pct.enc l) false), (3, .own 999 f2.length), (4, V.int IntKind.i64 ↑i), (5, V.str (112 :: 101 :: 114 :: 99 :: 101 :: 110 :: 116 :: 32 :: dec ↑i))], mkH [(999, .arr 126 2 (An f2))]⟩) ?_ ?_
  ·intro KC12 hKC12
   refine Ag (Z 12 rfl ?_)
   simp only [go_sem, simprocAttr, Ev, Ah, BS]
   refine AH rfl (fun hb12 => ?_) fun hb12 => ?_
   ·refine Z 13 rfl ?_
    simp only [go_sem, simprocAttr, Ev, Ah, BS]
    and_intros <;> try exact sdA
    refine hKC12 (f1 ++ [⟨6, AbT ++ dec i⟩]) _ ?_ ?_
    ·(try dsimp only); exact ⟨by rw [Dx (show (tw) = true from hb12)], by simp⟩
    refine Le.mk _ _ ?_ ?_ rfl <;> simp only [go_sem, simprocAttr, List.length_append, List.length_cons, List.length_nil] <;> and_intros <;> try exact leA
   refine AG ?_
   refine hKC12 (f1) _ ?_ ?_
   ·(try dsimp only); exact ⟨by rw [Dy (show (tw) = false from hb12), List.append_nil], by omega⟩
   exact leM
  rintro f2 ⟨hf2, lf2⟩
  refine Ag (Z 14 rfl ?_)
  simp only [go_sem, simprocAttr, Af _ _ _ _ hc3, hc3, Pct.enc, List.length_map, ← hz, Ev, Ah, BS]
  and_intros <;> try exact sdA
  refine AH rfl (fun hb14 => ?_) fun hb14 => ?_
  ·refine Z 15 rfl ?_
   simp only [go_sem, simprocAttr, Ev, Ah, BS]
   and_intros <;> try exact sdA
   refine Z 4 rfl ?_
   simp only [go_sem, simprocAttr, inI, Ev, Ah, BS]
   and_intros <;> try exact sdA
   refine hKL0 (i + 1, f2 ++ [⟨2, AbT ++ dec i⟩]) _ ?_ ?_ ?_
   ·(try dsimp only); exact ⟨hc3, by simp only [List.length_append, List.length_cons, List.length_nil]; omega, fun e => by simp at e, by rw [hf2, hf1]; exact ((hs.fif hp8).fif hp8).app (FSm.one hp8)⟩
   ·(try dsimp only); omega
   refine Le.mk _ _ ?_ ?_ rfl <;> simp only [go_sem, simprocAttr, List.length_append, List.length_cons, List.length_nil] <;> and_intros <;> try exact leA
  refine AG ?_
  refine Z 4 rfl ?_
  simp only [go_sem, simprocAttr, inI, Ev, Ah, BS]
  and_intros <;> try exact sdA
  refine hKL0 (i + 1, f2) _ ?_ ?_ ?_
  ·(try dsimp only); exact ⟨hc3, by omega, hok.step hc3 (fun e => by rw [hf2, hf1] at e; simp at e; exact e.1) (fun _ => by rw [← hz]; simp at hb14; exact ⟨by omega, by omega⟩), by rw [hf2, hf1]; exact (hs.fif hp8).fif hp8⟩
  ·(try dsimp only); omega
  exact leM
 simp only [hcL] at hc3
 refine CJ ?_
 simp only [go_sem, simprocAttr]
 refine Ag (Z 16 rfl ?_)
 simp only [go_sem, simprocAttr, Ev, Ah, BS]
 refine TC.le (s' := ⟨mkE [(2, .list (An g) false)], mkH []⟩) (Le.mk _ _ ?_ ?_ rfl) (DR (hQ _ _ (.inl rfl) ?_ ?_ ?_)) <;> simp only [go_sem, simprocAttr, vF]
 ·exact Cq rfl (by rw [Bk]) rfl (Bq _)
 exact ⟨g, rfl, by omega, fun e => by have := hok e; rwa [List.take_of_length_le (by omega)] at this, hs⟩
def Aa2 : List Pct → List Fault := Rv.choose
theorem Adz : ∀ l : List Pct, Fd l → Aio l (Aa2 l) := Rv.choose_spec.1
theorem Ady : PU 128 (gOf Xb fun l => (Fd l, vF (Aa2 l))) := Rv.choose_spec.2
theorem Cn (l : List Pct) : gOf Xb (fun l => (Fd l, vF (Aa2 l))) [.list (l.map Pct.enc) false] = (Fd l, .list (An (Aa2 l)) false) := Ar (F := fun l => (Fd l, vF (Aa2 l))) OC l
end Go.Proofs.YtjkclhbckfkeeaaGreatDoor
end
