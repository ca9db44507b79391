import Derived.Test.YtjkclhbckfkeeaaGreatDoorPl4
set_option linter.unusedSimpArgs false
set_option linter.unusedVariables false
set_option linter.deprecated false
set_option maxHeartbeats 4000000
noncomputable section
namespace Go.Proofs.YtjkclhbckfkeeaaGreatDoor
open Go Go.RowKit
def aK := ao vi
theorem Jw : Ij aK := ijo iji
def aKS := ar vi (ao V.str)
theorem VQ : Ij aKS := ijr iji (ijo ijs)
def HQ (x : List (List UInt8) × List UInt8) : List V := [.list (strs x.1) false, .str x.2]
theorem VN (a b : List (List UInt8) × List UInt8) (h : HQ a = HQ b) : a = b := by
 obtain ⟨a_l, a_s⟩ := a
 obtain ⟨b_l, b_s⟩ := b
 simp only [HQ, Bz, V.str.injEq, V.int.injEq, V.bool.injEq, V.agg.injEq, V.list.injEq, and_true, true_and] at h
 obtain ⟨h0, h1⟩ := h
 replace h0 := Iy h0
 subst h0
 subst h1
 rfl
def aPd := ao (vg Period.enc)
theorem Wj : Ij aPd := ijo (ijg Period.inj)
def Qo (k : Int) : Bool := (decide (k = 2) || decide (k = 3)) || decide (k = 4)
def MS (k : Int) : Bool := decide (k = 5) || decide (k = 6)
def Mb (k : Int) : Bool := (decide (k = 11) || decide (k = 13)) || decide (k = 14)
def Lz (k : Int) : Int := if (decide (k = 8) || decide (k = 12)) = true then 2 else if ((decide (k = 7) || decide (k = 9)) || decide (k = 10)) = true then 1 else 0
def PC (k : Int) : Prop × V := (True, .bool (Qo k))
def ND (k : Int) : Prop × V := (True, .bool (MS k))
def Ny (k : Int) : Prop × V := (True, .bool (Mb k))
def Mo (k : Int) : Prop × V := (True, .int .i64 (Lz k))
theorem PD (k : Int) : gOf aK PC [.int .i64 k] = (True, .bool (Qo k)) := Al Jw k
theorem De (k : Int) : gOf aK ND [.int .i64 k] = (True, .bool (MS k)) := Al Jw k
theorem Dd (k : Int) : gOf aK Ny [.int .i64 k] = (True, .bool (Mb k)) := Al Jw k
theorem PE (k : Int) : gOf aK Mo [.int .i64 k] = (True, .int .i64 (Lz k)) := Al Jw k
theorem AhD : PU 254 (gOf aK PC) := by
 have hG := AH
 refine Aaa.a Jw (by simp [aK]) ?_
 rintro k hv C hN Q hQ
 have Z := Aaa.R EF0 hG hN
 refine Aa (Z 0 rfl ?_)
 simp only [go_sem, simprocAttr, aK]
 refine Aa (Z 1 rfl ?_)
 simp only [go_sem, simprocAttr]
 and_intros <;> try exact sdA
 refine Ad (hQ _ _ (.inl rfl) ?_ ?_ ?_) <;> simp only [go_sem, simprocAttr, PC, Qo]
theorem Ab6 : PU 243 (gOf aK ND) := by
 have hG := AH
 refine ZW.a Jw (by simp [aK]) ?_
 rintro k hv C hN Q hQ
 have Z := ZW.R EF0 hG hN
 refine Aa (Z 0 rfl ?_)
 simp only [go_sem, simprocAttr, aK]
 refine Aa (Z 1 rfl ?_)
 simp only [go_sem, simprocAttr]
 and_intros <;> try exact sdA
 refine Ad (hQ _ _ (.inl rfl) ?_ ?_ ?_) <;> simp only [go_sem, simprocAttr, ND, MS]
theorem Xt : PU 244 (gOf aK Ny) := by
 have hG := AH
 refine ZX.a Jw (by simp [aK]) ?_
 rintro k hv C hN Q hQ
 have Z := ZX.R EF0 hG hN
 refine Aa (Z 0 rfl ?_)
 simp only [go_sem, simprocAttr, aK]
 refine Aa (Z 1 rfl ?_)
 simp only [go_sem, simprocAttr]
 and_intros <;> try exact sdA
 refine Ad (hQ _ _ (.inl rfl) ?_ ?_ ?_) <;> simp only [go_sem, simprocAttr, Ny, Mb]
theorem Aia : PU 255 (gOf aK Mo) := by
 have hG := AH
 refine Aab.a Jw (by simp [aK]) ?_
 rintro k hv C hN Q hQ
 have Z := Aab.R EF0 hG hN
 refine Aa (Z 0 rfl ?_)
 simp only [go_sem, simprocAttr, aK]
 refine Aa (Aa (Z 1 rfl ?_))
 simp only [go_sem, simprocAttr]
 and_intros <;> try exact sdA
 refine Ae rfl (fun hb1 => ?_) fun hb1 => ?_
 ·refine Aa (Z 2 rfl ?_)
  simp only [go_sem, simprocAttr]
  refine Ad (hQ _ _ (.inl rfl) ?_ ?_ ?_) <;> simp only [go_sem, simprocAttr, Mo, Lz, hb1]
 refine Af ?_
 refine Aa (Aa (Z 3 rfl ?_))
 simp only [go_sem, simprocAttr]
 and_intros <;> try exact sdA
 refine Ae rfl (fun hb3 => ?_) fun hb3 => ?_
 ·refine Aa (Z 4 rfl ?_)
  simp only [go_sem, simprocAttr]
  refine Ad (hQ _ _ (.inl rfl) ?_ ?_ ?_) <;> simp only [go_sem, simprocAttr, Mo, Lz, hb1, hb3]
 refine Af ?_
 refine Aa (Z 5 rfl ?_)
 simp only [go_sem, simprocAttr]
 refine Ad (hQ _ _ (.inl rfl) ?_ ?_ ?_) <;> simp only [go_sem, simprocAttr, Mo, Lz, hb1, hb3]
def KI (s : List UInt8) : Bool := Db s 2 2 && (capB (s.getD 0 0).toNat || capB (s.getD 1 0).toNat)
def Nx (s : List UInt8) : Prop × V := (s.length <= 140737488355328, .bool (KI s))
theorem Dc (s : List UInt8) : gOf Bh Nx [.str s] = (s.length <= 140737488355328, .bool (KI s)) := Al FD s
theorem Afr {s : List UInt8} {a b : Int} (h : Db s a b = true) : a <= (s.length : Int) := by
 unfold Db at h
 simp only [By, decide_eq_true_eq] at h
 exact h.1.1
def UW : Tab
 | 23 => BC
 | 57 => (Ct capB)
 | _ => gNo
theorem Alz : ∀ f, PU f (UW f) := fun f => by
 unfold UW
 split
 ·exact MT
 ·exact QF
 ·exact Ah.no
theorem Acc : PU 123 (gOf Bh Nx) := by
 have hG := Alz
 refine YM.a FD (by simp [Bh]) ?_
 rintro s hv C hN Q hQ
 have Z := YM.R EF0 hG hN
 replace hv : s.length <= 140737488355328 := hv
 refine Aa (Z 0 rfl ?_)
 simp only [go_sem, simprocAttr, Bh]
 have hl : Db s 2 2 = true -> (2 : Int) <= s.length := Afr
 refine Aa (Z 1 rfl ?_)
 simp only [go_sem, simprocAttr, UW, BC, Ct, hv]
 and_intros <;> try exact sdA
 ·exact fun h => ⟨h, by have := hl h; omega⟩
 ·exact fun h => ⟨h, by have := hl (by rw [By] at h; exact h.1); omega⟩
 refine Ad (hQ _ _ (.inl rfl) ?_ ?_ ?_) <;> simp only [go_sem, simprocAttr, Nx, KI]
def Mc (k : Int) (s : List UInt8) : Bool := if k = 11 then KI s else if k = 13 then Cq 3 s else Db s 3 3
def Mh (x : Int × List UInt8) : Prop × V := (x.2.length <= 140737488355328, .bool (Mc x.1 x.2))
theorem Ec (k : Int) (s : List UInt8) : gOf aKS Mh [.int .i64 k, .str s] = (s.length <= 140737488355328, .bool (Mc k s)) := Al VQ (k, s)
def tCk : Tab
 | 23 => BC
 | 123 => (gOf Bh Nx)
 | 129 => (gOf Bh (HX 3))
 | _ => gNo
theorem AlD : ∀ f, PU f (tCk f) := fun f => by
 unfold tCk
 split
 ·exact MT
 ·exact Acc
 ·exact Uk
 ·exact Ah.no
theorem Afs : PU 245 (gOf aKS Mh) := by
 have hG := AlD
 refine ZY.a VQ (by simp [aKS]) ?_
 rintro ⟨k, s⟩ hv C hN Q hQ
 have Z := ZY.R EF0 hG hN
 replace hv : s.length <= 140737488355328 := hv
 refine Aa (Z 0 rfl ?_)
 simp only [go_sem, simprocAttr, aKS, tCk, BC, Dc, AV, hv]
 refine Aa (Aa (Z 1 rfl ?_))
 simp only [go_sem, simprocAttr, tCk, BC, Dc, AV, hv]
 refine Ae rfl (fun hb1 => ?_) fun hb1 => ?_
 ·simp only [hcL] at hb1
  refine Aa (Z 2 rfl ?_)
  simp only [go_sem, simprocAttr, tCk, BC, Dc, AV, hv]
  and_intros <;> try exact sdA
  refine Ad (hQ _ _ (.inl rfl) ?_ ?_ ?_) <;> simp only [go_sem, simprocAttr, Mh, Mc, hb1, if_true]
 simp only [hcL] at hb1
 refine Af ?_
 refine Aa (Aa (Z 3 rfl ?_))
 simp only [go_sem, simprocAttr, tCk, BC, Dc, AV, hv]
 refine Ae rfl (fun hb3 => ?_) fun hb3 => ?_
 ·simp only [hcL] at hb3
  refine Aa (Z 4 rfl ?_)
  simp only [go_sem, simprocAttr, tCk, BC, Dc, AV, hv]
  and_intros <;> try exact sdA
  refine Ad (hQ _ _ (.inl rfl) ?_ ?_ ?_) <;> simp only [go_sem, simprocAttr, Mh, Mc, hb1, hb3, if_true, if_false]
  try rw [if_neg (by decide)]
 simp only [hcL] at hb3
 refine Af ?_
 refine Aa (Z 5 rfl ?_)
 simp only [go_sem, simprocAttr, tCk, BC, Dc, AV, hv]
 and_intros <;> try exact sdA
 refine Ad (hQ _ _ (.inl rfl) ?_ ?_ ?_) <;> simp only [go_sem, simprocAttr, Mh, Mc, hb1, hb3, if_false]
def hasB (s : List UInt8) (l : List (List UInt8)) : Bool := l.any fun x => decide (x = s)
def KZ (x : List (List UInt8) × List UInt8) : Prop × V := (x.1.length <= 140737488355328, .bool (hasB x.2 x.1))
theorem AT (l : List (List UInt8)) (s : List UInt8) : gOf HQ KZ [.list (strs l) false, .str s] = (l.length <= 140737488355328, .bool (hasB s l)) := Al VN (l, s)
theorem Tv : PU 196 (gOf HQ KZ) := by
 have hG := AH
 refine ZD.a VN (by simp [HQ]) ?_
 rintro ⟨l, s⟩ hv C hN Q hQ
 have Z := ZD.R EF0 hG hN
 replace hv : l.length <= 140737488355328 := hv
 refine Aa (Z 0 rfl ?_)
 simp only [go_sem, simprocAttr, HQ]
 refine Aa (Aa (Z 1 rfl ?_))
 simp only [go_sem, simprocAttr]
 refine Ao ?_
 refine AX (α := Nat) (fun i => (i <= l.length) /\ (hasB s (l.take i) = false)) (fun i => ⟨mkE [(0, V.list (strs l) false), (1, V.str s), (5, .int .i64 i)], mkH []⟩) (fun i => l.length - i) 0 ⟨Ar _, rfl⟩ ?_ ?_
 ·exact leM
 rintro i ⟨hi, hp⟩ KL0 hKL0
 try dsimp only at *
 refine Aa (Aa (Z 2 rfl ?_))
 simp only [go_sem, simprocAttr, Em]
 refine Ae rfl (fun hc2 => ?_) fun hc2 => ?_
 ·simp only [hcL] at hc2
  refine Af ?_
  refine Aa (Ao ?_)
  refine Aa (Z 4 rfl ?_)
  simp only [go_sem, simprocAttr, FY _ _ _ hc2, hc2]
  and_intros <;> try exact sdA
  refine Ae rfl (fun hb4 => ?_) fun hb4 => ?_
  ·refine Aa (Z 5 rfl ?_)
   simp only [go_sem, simprocAttr]
   refine Ad (hQ _ _ (.inl rfl) ?_ ?_ ?_) <;> simp only [go_sem, simprocAttr, KZ]
   rw [show hasB s l = true from JT.2 ⟨_, AF hc2, hb4⟩]
  refine Af ?_
  refine Z 3 rfl ?_
  simp only [go_sem, simprocAttr, inI]
  and_intros <;> try exact sdA
  refine hKL0 (i + 1) _ ?_ ?_ ?_
  ·(try dsimp only); exact ⟨hc2, by unfold hasB at hp ⊢; rw [CW hc2, List.any_append, hp, List.any_cons, hb4]; rfl⟩
  ·(try dsimp only); omega
  exact leM
 simp only [hcL] at hc2
 obtain rfl : i = l.length := by omega
 refine AS ?_
 simp only [go_sem, simprocAttr]
 refine Aa (Z 6 rfl ?_)
 simp only [go_sem, simprocAttr]
 refine Ad (hQ _ _ (.inl rfl) ?_ ?_ ?_) <;> simp only [go_sem, simprocAttr, KZ]
 rw [JS] at hp; rw [hp]
def pdE (p : Period) : Int := if (decide (p.from' < 0) || decide (p.to' < p.from') || decide (36525 <= p.to')) = true then 12 else if 800 <= p.to' - p.from' then 4 else if (decide (p.days < 1) || decide (127 < p.days)) = true then 2 else 0
def fPd (p : Period) : Prop × V := (True, .int .i64 (pdE p))
theorem Dy (a b c : Int) : gOf aPd fPd [.agg [.int .i64 a, .int .i64 b, .int .i64 c]] = (True, .int .i64 (pdE ⟨a, b, c⟩)) := Al Wj ⟨a, b, c⟩
theorem Acs : PU 226 (gOf aPd fPd) := by
 have hG := AH
 refine ZN.a Wj (by simp [aPd]) ?_
 rintro ⟨a, b, c⟩ hv C hN Q hQ
 have Z := ZN.R EF0 hG hN
 refine Aa (Z 0 rfl ?_)
 simp only [go_sem, simprocAttr, aPd, Period.enc]
 refine Aa (Aa (Z 1 rfl ?_))
 simp only [go_sem, simprocAttr]
 and_intros <;> try exact sdA
 refine Ae rfl (fun hb1 => ?_) fun hb1 => ?_
 ·refine Aa (Z 2 rfl ?_)
  simp only [go_sem, simprocAttr]
  refine Ad (hQ _ _ (.inl rfl) ?_ ?_ ?_) <;> simp only [go_sem, simprocAttr, fPd, pdE, hb1, if_true]
 obtain ⟨h1, h2, h3⟩ : 0 <= a /\ a <= b /\ b < 36525 := by simp only [Ce, decide_eq_false_iff_not] at hb1; omega
 refine Af ?_
 refine Aa (Aa (Z 3 rfl ?_))
 simp only [go_sem, simprocAttr, inI]
 and_intros <;> try exact sdA
 refine Ae rfl (fun hb3 => ?_) fun hb3 => ?_
 ·simp only [hcL] at hb3
  refine Aa (Z 4 rfl ?_)
  simp only [go_sem, simprocAttr]
  refine Ad (hQ _ _ (.inl rfl) ?_ ?_ ?_) <;> simp only [go_sem, simprocAttr, fPd, pdE, hb1, hb3, BV, if_true, if_false]
 simp only [hcL] at hb3
 have hb3n : ¬ 800 <= b - a := by omega
 refine Af ?_
 refine Aa (Aa (Z 5 rfl ?_))
 simp only [go_sem, simprocAttr]
 and_intros <;> try exact sdA
 refine Ae rfl (fun hb5 => ?_) fun hb5 => ?_
 ·refine Aa (Z 6 rfl ?_)
  simp only [go_sem, simprocAttr]
  refine Ad (hQ _ _ (.inl rfl) ?_ ?_ ?_) <;> simp only [go_sem, simprocAttr, fPd, pdE, hb1, hb3n, hb5, BV, if_true, if_false]
 refine Af ?_
 refine Aa (Z 7 rfl ?_)
 simp only [go_sem, simprocAttr]
 refine Ad (hQ _ _ (.inl rfl) ?_ ?_ ?_) <;> simp only [go_sem, simprocAttr, fPd, pdE, hb1, hb3n, hb5, BV, if_true, if_false]
def KT (c : Cond) : Bool := if ((!Qo c.kind && decide (0 < (c.l.length : Int))) || (!Mb c.kind && decide (0 < (c.text.length : Int)))) = true then true else ((!MS c.kind && !(decide (c.p.from' = 0) && (decide (c.p.to' = 0) && decide (c.p.days = 0)))) || (decide (Lz c.kind < 1) && !decide (c.a = 0))) || (decide (Lz c.kind < 2) && !decide (c.b = 0))
def Gb (c : Cond) : Bool :=
 if (decide (c.kind = 2) || decide (c.kind = 3)) = true then decide ((c.l.length : Int) = 0)
 else if c.kind = 4 then !decide ((c.l.length : Int) = 1)
 else if c.kind = 7 then decide (c.a < 0) || decide (36525 <= c.a)
 else if c.kind = 8 then ((decide (c.a < 0) || decide (1440 <= c.a)) || decide (c.b < 0)) || decide (1440 <= c.b)
 else if (decide (c.kind = 9) || decide (c.kind = 10)) = true then decide (c.a < 0) || decide (6 < c.a)
 else if c.kind = 12 then (decide (c.a < 1) || decide (c.b < c.a)) || decide (9999 < c.b)
 else false
def Mk (c : Cond) : Prop × V := (c.ok, .bool (KT c))
def Gm (c : Cond) : Prop × V := (c.ok, .bool (Gb c))
theorem Ed (k : Int) (l : List Cond) (a b x y z : Int) (t : List (List UInt8)) : gOf AQ Mk [.agg [.int .i64 k, .list (l.map Cond.enc) false, .int .i64 a, .int .i64 b, .int .i64 x, .int .i64 y, .int .i64 z, .list (strs t) false]] = ((Cond.mk k l a b ⟨x, y, z⟩ t).ok, .bool (KT (.mk k l a b ⟨x, y, z⟩ t))) := by have := Al (F := Mk) Gd (.mk k l a b ⟨x, y, z⟩ t); rw [AQ, Cond.enc_eq] at this; exact this
theorem Ef (k : Int) (l : List Cond) (a b x y z : Int) (t : List (List UInt8)) : gOf AQ Gm [.agg [.int .i64 k, .list (l.map Cond.enc) false, .int .i64 a, .int .i64 b, .int .i64 x, .int .i64 y, .int .i64 z, .list (strs t) false]] = ((Cond.mk k l a b ⟨x, y, z⟩ t).ok, .bool (Gb (.mk k l a b ⟨x, y, z⟩ t))) := by have := Al (F := Gm) Gd (.mk k l a b ⟨x, y, z⟩ t); rw [AQ, Cond.enc_eq] at this; exact this
def MZ : Tab
 | 254 => (gOf aK PC)
 | 244 => (gOf aK Ny)
 | 243 => (gOf aK ND)
 | 255 => (gOf aK Mo)
 | _ => gNo
theorem AlQ : ∀ f, PU f (MZ f) := fun f => by
 unfold MZ
 split
 ·exact AhD
 ·exact Xt
 ·exact Ab6
 ·exact Aia
 ·exact Ah.no
theorem Agd : PU 241 (gOf AQ Mk) := by
 have hG := AlQ
 refine ZU.a Gd (by simp [AQ]) ?_
 rintro ⟨k, l, a, b, ⟨x, y, z⟩, t⟩ hv C hN Q hQ
 have Z := ZU.R EF0 hG hN
 obtain ⟨_, ⟨hl, _⟩, _, _, _, ⟨ht, _⟩⟩ := (Cond.ok_eq ..).1 hv
 refine Aa (Z 0 rfl ?_)
 simp only [go_sem, simprocAttr, AQ, Cond.enc_eq, MZ, PD, Dd, De, PE]
 refine Aa (Aa (Z 1 rfl ?_))
 simp only [go_sem, simprocAttr, Ac, Em, MZ, PD, Dd, De, PE]
 and_intros <;> try exact sdA
 refine Ae rfl (fun hb1 => ?_) fun hb1 => ?_
 ·refine Aa (Z 2 rfl ?_)
  simp only [go_sem, simprocAttr, MZ, PD, Dd, De, PE]
  refine Ad (hQ _ _ (.inl rfl) ?_ ?_ ?_) <;> simp only [go_sem, simprocAttr, Mk]
  rw [show KT (.mk k l a b ⟨x, y, z⟩ t) = true from if_pos hb1]
 refine Af ?_
 refine Aa (Z 3 rfl ?_)
 simp only [go_sem, simprocAttr, MZ, PD, Dd, De, PE]
 and_intros <;> try exact sdA
 refine Ad (hQ _ _ (.inl rfl) ?_ ?_ ?_) <;> simp only [go_sem, simprocAttr, Mk]
 rw [show KT (.mk k l a b ⟨x, y, z⟩ t) = _ from if_neg (fun h => by have : true = false := h.symm.trans hb1; cases this)]; rfl
theorem Aox : PU 242 (gOf AQ Gm) := by
 have hG := AH
 refine ZV.a Gd (by simp [AQ]) ?_
 rintro ⟨k, l, a, b, ⟨x, y, z⟩, t⟩ hv C hN Q hQ
 have Z := ZV.R EF0 hG hN
 obtain ⟨_, ⟨hl, _⟩, _, _, _, ⟨ht, _⟩⟩ := (Cond.ok_eq ..).1 hv
 refine Aa (Z 0 rfl ?_)
 simp only [go_sem, simprocAttr, AQ, Cond.enc_eq, Ac]
 refine Aa (Aa (Z 1 rfl ?_))
 simp only [go_sem, simprocAttr, Ac]
 refine Ao (Aa ?_)
 refine Aa (Z 2 rfl ?_)
 simp only [go_sem, simprocAttr, Ac]
 refine Ae rfl (fun hc2 => ?_) fun hc2 => ?_
 ·simp only [hcL] at hc2
  refine Af ?_
  refine Ae rfl (fun hc2r => ?_) fun hc2r => ?_
  ·simp only [hcL] at hc2r
   refine Aa (Z 4 rfl ?_)
   simp only [go_sem, simprocAttr, Ac]
   refine Ad (hQ _ _ (.inl rfl) ?_ ?_ ?_) <;> simp only [go_sem, simprocAttr, Gm]
   refine congrArg V.bool ?_; clear hQ hG hN hv; unfold Gb; dsimp only [Cond.kind, Cond.l, Cond.a, Cond.b]; first | (subst_vars; rfl) | (simp_all; done) | (simp [*]; done)
  exfalso; simp_all
 simp only [hcL] at hc2
 refine Z 3 rfl ?_
 simp only [go_sem, simprocAttr, Ac]
 refine Ae rfl (fun hc3 => ?_) fun hc3 => ?_
 ·simp only [hcL] at hc3
  refine Aa (Z 4 rfl ?_)
  simp only [go_sem, simprocAttr, Ac]
  refine Ad (hQ _ _ (.inl rfl) ?_ ?_ ?_) <;> simp only [go_sem, simprocAttr, Gm]
  refine congrArg V.bool ?_; clear hQ hG hN hv; unfold Gb; dsimp only [Cond.kind, Cond.l, Cond.a, Cond.b]; first | (subst_vars; rfl) | (simp_all; done) | (simp [*]; done)
 simp only [hcL] at hc3
 refine Aa (Z 5 rfl ?_)
 simp only [go_sem, simprocAttr, Ac]
 refine Ae rfl (fun hc5 => ?_) fun hc5 => ?_
 ·simp only [hcL] at hc5
  refine Aa (Z 6 rfl ?_)
  simp only [go_sem, simprocAttr, Ac]
  refine Ad (hQ _ _ (.inl rfl) ?_ ?_ ?_) <;> simp only [go_sem, simprocAttr, Gm]
  refine congrArg V.bool ?_; clear hQ hG hN hv; unfold Gb; dsimp only [Cond.kind, Cond.l, Cond.a, Cond.b]; first | (subst_vars; rfl) | (simp_all; done) | (simp [*]; done)
 simp only [hcL] at hc5
 refine Aa (Z 7 rfl ?_)
 simp only [go_sem, simprocAttr, Ac]
 refine Ae rfl (fun hc7 => ?_) fun hc7 => ?_
 ·simp only [hcL] at hc7
  refine Aa (Z 8 rfl ?_)
  simp only [go_sem, simprocAttr, Ac]
  and_intros <;> try exact sdA
  refine Ad (hQ _ _ (.inl rfl) ?_ ?_ ?_) <;> simp only [go_sem, simprocAttr, Gm]
  refine congrArg V.bool ?_; clear hQ hG hN hv; unfold Gb; dsimp only [Cond.kind, Cond.l, Cond.a, Cond.b]; first | (subst_vars; rfl) | (simp_all; done) | (simp [*]; done)
 simp only [hcL] at hc7
 refine Aa (Z 9 rfl ?_)
 simp only [go_sem, simprocAttr, Ac]
 refine Ae rfl (fun hc9 => ?_) fun hc9 => ?_
 ·simp only [hcL] at hc9
  refine Aa (Z 10 rfl ?_)
  simp only [go_sem, simprocAttr, Ac]
  and_intros <;> try exact sdA
  refine Ad (hQ _ _ (.inl rfl) ?_ ?_ ?_) <;> simp only [go_sem, simprocAttr, Gm]
  refine congrArg V.bool ?_; clear hQ hG hN hv; unfold Gb; dsimp only [Cond.kind, Cond.l, Cond.a, Cond.b]; first | (subst_vars; rfl) | (simp_all; done) | (simp [*]; done)
 simp only [hcL] at hc9
 refine Aa (Aa (Z 11 rfl ?_))
 simp only [go_sem, simprocAttr, Ac]
 refine Ae rfl (fun hc11 => ?_) fun hc11 => ?_
 ·simp only [hcL] at hc11
  refine Af ?_
  refine Ae rfl (fun hc11r => ?_) fun hc11r => ?_
  ·simp only [hcL] at hc11r
   refine Aa (Z 13 rfl ?_)
   simp only [go_sem, simprocAttr, Ac]
   and_intros <;> try exact sdA
   refine Ad (hQ _ _ (.inl rfl) ?_ ?_ ?_) <;> simp only [go_sem, simprocAttr, Gm]
   refine congrArg V.bool ?_; clear hQ hG hN hv; unfold Gb; dsimp only [Cond.kind, Cond.l, Cond.a, Cond.b]; first | (subst_vars; rfl) | (simp_all; done) | (simp [*]; done)
  exfalso; simp_all
 simp only [hcL] at hc11
 refine Z 12 rfl ?_
 simp only [go_sem, simprocAttr, Ac]
 refine Ae rfl (fun hc12 => ?_) fun hc12 => ?_
 ·simp only [hcL] at hc12
  refine Aa (Z 13 rfl ?_)
  simp only [go_sem, simprocAttr, Ac]
  and_intros <;> try exact sdA
  refine Ad (hQ _ _ (.inl rfl) ?_ ?_ ?_) <;> simp only [go_sem, simprocAttr, Gm]
  refine congrArg V.bool ?_; clear hQ hG hN hv; unfold Gb; dsimp only [Cond.kind, Cond.l, Cond.a, Cond.b]; first | (subst_vars; rfl) | (simp_all; done) | (simp [*]; done)
 simp only [hcL] at hc12
 refine Aa (Z 14 rfl ?_)
 simp only [go_sem, simprocAttr, Ac]
 refine Ae rfl (fun hc14 => ?_) fun hc14 => ?_
 ·simp only [hcL] at hc14
  refine Aa (Z 15 rfl ?_)
  simp only [go_sem, simprocAttr, Ac]
  and_intros <;> try exact sdA
  refine Ad (hQ _ _ (.inl rfl) ?_ ?_ ?_) <;> simp only [go_sem, simprocAttr, Gm]
  refine congrArg V.bool ?_; clear hQ hG hN hv; unfold Gb; dsimp only [Cond.kind, Cond.l, Cond.a, Cond.b]; first | (subst_vars; rfl) | (simp_all; done) | (simp [*]; done)
 simp only [hcL] at hc14
 refine Af ?_
 refine Aa (Z 16 rfl ?_)
 simp only [go_sem, simprocAttr, Ac]
 refine Ad (hQ _ _ (.inl rfl) ?_ ?_ ?_) <;> simp only [go_sem, simprocAttr, Gm]
 refine congrArg V.bool ?_; clear hQ hG hN hv; unfold Gb; dsimp only [Cond.kind, Cond.l, Cond.a, Cond.b]; first | (subst_vars; rfl) | (simp_all; done) | (simp [*]; done)
def LP (k : Int) : List (List UInt8) -> List (List UInt8) -> Int
 | _, [] => 0
 | p, s :: r => if Mc k s = false then 5 else if hasB s p = true then 6 else LP k (p ++ [s]) r
def Kf (c : Cond) : Int :=
 if (decide (c.kind < 1) || decide (14 < c.kind)) = true then 8
 else if KT c = true then 3
 else if Gb c = true then 2
 else if MS c.kind = true then pdE c.p
 else if (Mb c.kind && decide ((c.text.length : Int) = 0)) = true then 2
 else LP c.kind [] c.text
def Gk (c : Cond) : Prop × V := (c.ok, .int .i64 (Kf c))
theorem Hq (k : Int) (l : List Cond) (a b x y z : Int) (t : List (List UInt8)) : gOf AQ Gk [.agg [.int .i64 k, .list (l.map Cond.enc) false, .int .i64 a, .int .i64 b, .int .i64 x, .int .i64 y, .int .i64 z, .list (strs t) false]] = ((Cond.mk k l a b ⟨x, y, z⟩ t).ok, .int .i64 (Kf (.mk k l a b ⟨x, y, z⟩ t))) := by have := Al (F := Gk) Gd (.mk k l a b ⟨x, y, z⟩ t); rw [AQ, Cond.enc_eq] at this; exact this
def DI : Tab
 | 241 => (gOf AQ Mk)
 | 242 => (gOf AQ Gm)
 | 243 => (gOf aK ND)
 | 244 => (gOf aK Ny)
 | 245 => (gOf aKS Mh)
 | 196 => (gOf HQ KZ)
 | 226 => (gOf aPd fPd)
 | _ => gNo
theorem Al9 : ∀ f, PU f (DI f) := fun f => by
 unfold DI
 split
 ·exact Agd
 ·exact Aox
 ·exact Ab6
 ·exact Xt
 ·exact Afs
 ·exact Tv
 ·exact Acs
 ·exact Ah.no
theorem AiG : PU 211 (gOf AQ Gk) := by
 have hG := Al9
 refine SR.a Gd (by simp [AQ]) ?_
 rintro ⟨k, l, a, b, ⟨x, y, z⟩, t⟩ hv C hN Q hQ
 have Y := SR.D EF0 hG hN mixed
 have Z := SR.R EF0 hG hN
 have hok : (Cond.mk k l a b ⟨x, y, z⟩ t).ok := hv
 have hpm : Kf (Cond.mk k l a b ⟨x, y, z⟩ t) = if (decide (k < 1) || decide (14 < k)) = true then 8 else if KT (.mk k l a b ⟨x, y, z⟩ t) = true then 3 else if Gb (.mk k l a b ⟨x, y, z⟩ t) = true then 2 else if MS k = true then pdE ⟨x, y, z⟩ else if (Mb k && decide ((t.length : Int) = 0)) = true then 2 else LP k [] t := rfl
 obtain ⟨_, ⟨hl, _⟩, _, _, _, ⟨ht, hts⟩⟩ := (Cond.ok_eq ..).1 hv
 generalize he : KT (.mk k l a b ⟨x, y, z⟩ t) = eb at hpm
 generalize hw : Gb (.mk k l a b ⟨x, y, z⟩ t) = wb at hpm
 refine Aa (Z 0 rfl ?_)
 simp only [go_sem, simprocAttr, AQ, Cond.enc_eq, DI, Ed, Ef, De, Dd, Ec, AT, Dy, hok, he, hw]
 refine Aa (Aa (Z 1 rfl ?_))
 simp only [go_sem, simprocAttr, DI, Ed, Ef, De, Dd, Ec, AT, Dy, hok, he, hw]
 and_intros <;> try exact sdA
 refine Ae rfl (fun hb1 => ?_) fun hb1 => ?_
 ·rw [if_pos hb1] at hpm
  refine Aa (Z 2 rfl ?_)
  simp only [go_sem, simprocAttr, DI, Ed, Ef, De, Dd, Ec, AT, Dy, hok, he, hw]
  refine Ad (hQ _ _ (.inl rfl) ?_ ?_ ?_) <;> simp only [go_sem, simprocAttr, Gk, hpm]
 rw [if_neg (by rw [hb1]; decide)] at hpm
 refine Af ?_
 refine Aa (Aa (Z 3 rfl ?_))
 simp only [go_sem, simprocAttr, DI, Ed, Ef, De, Dd, Ec, AT, Dy, hok, he, hw]
 and_intros <;> try exact sdA
 refine Ae rfl (fun hb3 => ?_) fun hb3 => ?_
 ·rw [if_pos hb3] at hpm
  refine Aa (Z 4 rfl ?_)
  simp only [go_sem, simprocAttr, DI, Ed, Ef, De, Dd, Ec, AT, Dy, hok, he, hw]
  refine Ad (hQ _ _ (.inl rfl) ?_ ?_ ?_) <;> simp only [go_sem, simprocAttr, Gk, hpm]
 rw [if_neg (by rw [hb3]; decide)] at hpm
 refine Af ?_
 refine Aa (Aa (Z 5 rfl ?_))
 simp only [go_sem, simprocAttr, DI, Ed, Ef, De, Dd, Ec, AT, Dy, hok, he, hw]
 and_intros <;> try exact sdA
 refine Ae rfl (fun hb5 => ?_) fun hb5 => ?_
 ·rw [if_pos hb5] at hpm
  refine Aa (Z 6 rfl ?_)
  simp only [go_sem, simprocAttr, DI, Ed, Ef, De, Dd, Ec, AT, Dy, hok, he, hw]
  refine Ad (hQ _ _ (.inl rfl) ?_ ?_ ?_) <;> simp only [go_sem, simprocAttr, Gk, hpm]
 rw [if_neg (by rw [hb5]; decide)] at hpm
 refine Af ?_
 refine Aa (Aa (Z 7 rfl ?_))
 simp only [go_sem, simprocAttr, DI, Ed, Ef, De, Dd, Ec, AT, Dy, hok, he, hw]
 and_intros <;> try exact sdA
 refine Ae rfl (fun hb7 => ?_) fun hb7 => ?_
 ·rw [if_pos hb7] at hpm
  refine Aa (Z 8 rfl ?_)
  simp only [go_sem, simprocAttr, DI, Ed, Ef, De, Dd, Ec, AT, Dy, hok, he, hw]
  and_intros <;> try exact sdA
  refine Ad (hQ _ _ (.inl rfl) ?_ ?_ ?_) <;> simp only [go_sem, simprocAttr, Gk, hpm]
 rw [if_neg (by rw [hb7]; decide)] at hpm
 refine Af ?_
 refine Aa (Aa (Z 9 rfl ?_))
 simp only [go_sem, simprocAttr, Em, DI, Ed, Ef, De, Dd, Ec, AT, Dy, hok, he, hw]
 and_intros <;> try exact sdA
 refine Ae rfl (fun hb9 => ?_) fun hb9 => ?_
 ·rw [if_pos hb9] at hpm
  refine Aa (Z 10 rfl ?_)
  simp only [go_sem, simprocAttr, DI, Ed, Ef, De, Dd, Ec, AT, Dy, hok, he, hw]
  refine Ad (hQ _ _ (.inl rfl) ?_ ?_ ?_) <;> simp only [go_sem, simprocAttr, Gk, hpm]
 rw [if_neg (by rw [hb9]; decide)] at hpm
 refine Af ?_
 refine Aa (Aa (Z 11 rfl ?_))
 simp only [go_sem, simprocAttr, DI, Ed, Ef, De, Dd, Ec, AT, Dy, hok, he, hw]
 refine Ao ?_
 refine AX (α := Nat) (fun i => (i <= t.length) /\ (LP k [] t = LP k (t.take i) (t.drop i))) (fun i => ⟨mkE [(1, V.ptr 1 0), (3, .int .i64 i)], mkH [(1, Ob.box 132 [V.int IntKind.i64 k, V.list (List.map Cond.enc l) false, V.int IntKind.i64 a, V.int IntKind.i64 b, V.int IntKind.i64 x, V.int IntKind.i64 y, V.int IntKind.i64 z, V.list (strs t) false])]⟩) (fun i => t.length - i) 0 ⟨Ar _, rfl⟩ ?_ ?_
 ·exact leM
 rintro i ⟨hi, hx⟩ KL0 hKL0
 try dsimp only at *
 refine Aa (Aa (Z 12 rfl ?_))
 simp only [go_sem, simprocAttr, Em, DI, Ed, Ef, De, Dd, Ec, AT, Dy, hok, he, hw]
 refine Ae rfl (fun hc12 => ?_) fun hc12 => ?_
 ·simp only [hcL] at hc12
  refine Af ?_
  refine Aa (Ao ?_)
  refine Aa ?_
  rw [DS hc12, LP] at hx
  have hsl := hts _ (AF hc12)
  refine Aa (Y 14 rfl (by kernel_rfl) ?_)
  simp only [go_sem, simprocAttr, FY _ _ _ hc12, hc12, hsl, DI, Ed, Ef, De, Dd, Ec, AT, Dy, hok, he, hw]
  and_intros <;> try exact sdA
  refine Ae rfl (fun hb14 => ?_) fun hb14 => ?_
  ·rw [if_pos (by simpa using hb14)] at hx
   refine Aa (Z 15 rfl ?_)
   simp only [go_sem, simprocAttr, DI, Ed, Ef, De, Dd, Ec, AT, Dy, hok, he, hw]
   refine Ad (hQ _ _ (.inl rfl) ?_ ?_ ?_) <;> simp only [go_sem, simprocAttr, Gk, hpm, hx]
  rw [if_neg (by simpa using hb14)] at hx
  refine Af ?_
  have htk : (t.take i).length <= 140737488355328 := by rw [Bx]; omega
  refine Aa (Y 16 rfl (by kernel_rfl) ?_)
  simp only [go_sem, simprocAttr, FY _ _ _ hc12, hc12, Alr, htk, DI, Ed, Ef, De, Dd, Ec, AT, Dy, hok, he, hw]
  and_intros <;> try exact sdA
  refine Ae rfl (fun hb16 => ?_) fun hb16 => ?_
  ·rw [if_pos hb16] at hx
   refine Aa (Z 17 rfl ?_)
   simp only [go_sem, simprocAttr, DI, Ed, Ef, De, Dd, Ec, AT, Dy, hok, he, hw]
   refine Ad (hQ _ _ (.inl rfl) ?_ ?_ ?_) <;> simp only [go_sem, simprocAttr, Gk, hpm, hx]
  rw [if_neg (by rw [hb16]; decide), <- CW hc12] at hx
  refine Af ?_
  refine Z 13 rfl ?_
  simp only [go_sem, simprocAttr, inI, DI, Ed, Ef, De, Dd, Ec, AT, Dy, hok, he, hw]
  and_intros <;> try exact sdA
  refine hKL0 (i + 1) _ ?_ ?_ ?_
  ·(try dsimp only); exact ⟨hc12, hx⟩
  ·(try dsimp only); omega
  exact leM
 simp only [hcL] at hc12
 rw [GN (by omega), LP] at hx
 refine AS ?_
 simp only [go_sem, simprocAttr]
 refine Aa (Z 18 rfl ?_)
 simp only [go_sem, simprocAttr, DI, Ed, Ef, De, Dd, Ec, AT, Dy, hok, he, hw]
 refine Ad (hQ _ _ (.inl rfl) ?_ ?_ ?_) <;> simp only [go_sem, simprocAttr, Gk, hpm, hx]
theorem CL (f : Cond -> V) (n : Nat) (k : Int) (l : List Cond) (a b x y z : Int) (t : List (List UInt8)) : gOf AQ (DR f n) [.agg [.int .i64 k, .list (l.map Cond.enc) false, .int .i64 a, .int .i64 b, .int .i64 x, .int .i64 y, .int .i64 z, .list (strs t) false]] = ((Cond.mk k l a b ⟨x, y, z⟩ t).ok /\ (Cond.mk k l a b ⟨x, y, z⟩ t).dep < n, f (.mk k l a b ⟨x, y, z⟩ t)) := by have := Al (F := DR f n) Gd (.mk k l a b ⟨x, y, z⟩ t); rw [AQ, Cond.enc_eq] at this; exact this
def GA (c : Cond) : V := .int .i64 c.siz
def Gu (c : Cond) : V := .int .i64 c.lev
theorem AkM (n : Nat) (hG : ∀ g, PU g (HH 176 GA n g)) : PU 176 (gOf AQ (DR GA (n + 1))) := by
 refine Zr.a Gd (by simp [AQ]) ?_
 rintro ⟨k, l, a, b, ⟨x, y, z⟩, t⟩ hv C hN Q hQ
 have Z := Zr.R EF0 hG hN
 obtain ⟨hok, hdp⟩ : (Cond.mk k l a b ⟨x, y, z⟩ t).ok /\ (Cond.mk k l a b ⟨x, y, z⟩ t).dep < n + 1 := hv
 have hds := Cond.dep_l (.mk k l a b ⟨x, y, z⟩ t)
 change ∀ u ∈ l, _ at hds
 obtain ⟨_, ⟨hl, hlo⟩, _, _, _, ⟨ht, _⟩⟩ := (Cond.ok_eq ..).1 hok
 have hT : HH 176 GA n 176 = gOf AQ (DR GA n) := by unfold HH; rw [if_pos rfl]
 refine Aa (Z 0 rfl ?_)
 simp only [go_sem, simprocAttr, AQ, Cond.enc_eq, hT, CL, Ac]
 refine Aa (Z 1 rfl ?_)
 simp only [go_sem, simprocAttr, hT, CL, Ac]
 refine Aa (Aa (Z 2 rfl ?_))
 simp only [go_sem, simprocAttr, hT, CL, Ac]
 refine Ao ?_
 refine AX (α := Nat) (fun i => (i <= l.length)) (fun i => ⟨mkE [(1, V.ptr 1 0), (3, .int .i64 (Cond.sizs 1 (l.take i))), (4, .int .i64 i)], mkH [(1, Ob.box 132 [V.int IntKind.i64 k, V.list (List.map Cond.enc l) false, V.int IntKind.i64 a, V.int IntKind.i64 b, V.int IntKind.i64 x, V.int IntKind.i64 y, V.int IntKind.i64 z, V.list (strs t) false])]⟩) (fun i => l.length - i) 0 (Ar _) ?_ ?_
 ·refine Le.mk _ _ ?_ ?_ rfl <;> simp only [go_sem, simprocAttr, HC, Cond.sizs] <;> and_intros <;> try exact leA
 rintro i hi KL0 hKL0
 try dsimp only at *
 refine Aa (Aa (Z 3 rfl ?_))
 simp only [go_sem, simprocAttr, hT, CL, Ac]
 refine Ae rfl (fun hc3 => ?_) fun hc3 => ?_
 ·simp only [hcL] at hc3
  refine Af ?_
  refine Aa (Ao ?_)
  have hmem := AF hc3
  have hci := hlo _ hmem
  have hdi : l[i].dep < n := by have := hds _ hmem; omega
  have hst := Cond.siz_step hc3
  generalize hu : l[i] = u at hmem hci hdi hst
  obtain ⟨k2, l2, a2, b2, ⟨x2, y2, z2⟩, t2⟩ := u
  refine OY (EF := EF0) hG (by rw [hN]; exact AmZ) ?_
  simp only [VA, go_sem, simprocAttr, inI, Ap _ _ _ _ hc3, hc3, hu, Cond.enc_eq, hci, hdi, GA, hT, CL, Ac]
  and_intros <;> try exact sdA
  refine Z 4 rfl ?_
  simp only [go_sem, simprocAttr, inI, hT, CL, Ac]
  and_intros <;> try exact sdA
  refine hKL0 (i + 1) _ ?_ ?_ ?_
  ·(try dsimp only); exact hc3
  ·(try dsimp only); omega
  refine Le.mk _ _ ?_ ?_ rfl <;> simp only [go_sem, simprocAttr, hst] <;> and_intros <;> try exact leA
 simp only [hcL] at hc3
 obtain rfl : i = l.length := by omega
 refine AS ?_
 simp only [go_sem, simprocAttr]
 refine Aa (Z 6 rfl ?_)
 simp only [go_sem, simprocAttr, JS, hT, CL, Ac]
 refine Ad (hQ _ _ (.inl rfl) ?_ ?_ ?_) <;> simp only [go_sem, simprocAttr, DR, GA, Cond.siz]
theorem AkL : ∀ n, PU 176 (gOf AQ (DR GA n)) := QB AkM
theorem Ahx (n : Nat) (hG : ∀ g, PU g (HH 175 Gu n g)) : PU 175 (gOf AQ (DR Gu (n + 1))) := by
 refine Zq.a Gd (by simp [AQ]) ?_
 rintro ⟨k, l, a, b, ⟨x, y, z⟩, t⟩ hv C hN Q hQ
 have Z := Zq.R EF0 hG hN
 obtain ⟨hok, hdp⟩ : (Cond.mk k l a b ⟨x, y, z⟩ t).ok /\ (Cond.mk k l a b ⟨x, y, z⟩ t).dep < n + 1 := hv
 have hds := Cond.dep_l (.mk k l a b ⟨x, y, z⟩ t)
 change ∀ u ∈ l, _ at hds
 obtain ⟨_, ⟨hl, hlo⟩, _, _, _, ⟨ht, _⟩⟩ := (Cond.ok_eq ..).1 hok
 have hT : HH 175 Gu n 175 = gOf AQ (DR Gu n) := by unfold HH; rw [if_pos rfl]
 refine Aa (Z 0 rfl ?_)
 simp only [go_sem, simprocAttr, AQ, Cond.enc_eq, hT, CL, Ac]
 refine Aa (Z 1 rfl ?_)
 simp only [go_sem, simprocAttr, hT, CL, Ac]
 refine Aa (Aa (Z 2 rfl ?_))
 simp only [go_sem, simprocAttr, hT, CL, Ac]
 refine Ao ?_
 refine AX (α := Nat) (fun i => (i <= l.length)) (fun i => ⟨mkE [(1, V.ptr 1 0), (3, .int .i64 (Cond.levs 0 (l.take i))), (4, .int .i64 i)], mkH [(1, Ob.box 132 [V.int IntKind.i64 k, V.list (List.map Cond.enc l) false, V.int IntKind.i64 a, V.int IntKind.i64 b, V.int IntKind.i64 x, V.int IntKind.i64 y, V.int IntKind.i64 z, V.list (strs t) false])]⟩) (fun i => l.length - i) 0 (Ar _) ?_ ?_
 ·refine Le.mk _ _ ?_ ?_ rfl <;> simp only [go_sem, simprocAttr, HC, Cond.levs] <;> and_intros <;> try exact leA
 rintro i hi KL0 hKL0
 try dsimp only at *
 refine Aa (Aa (Z 3 rfl ?_))
 simp only [go_sem, simprocAttr, hT, CL, Ac]
 refine Ae rfl (fun hc3 => ?_) fun hc3 => ?_
 ·simp only [hcL] at hc3
  refine Af ?_
  refine Aa (Ao ?_)
  have hmem := AF hc3
  have hci := hlo _ hmem
  have hdi : l[i].dep < n := by have := hds _ hmem; omega
  have hst := Cond.lev_step hc3
  generalize hu : l[i] = u at hmem hci hdi hst
  obtain ⟨k2, l2, a2, b2, ⟨x2, y2, z2⟩, t2⟩ := u
  refine Z 5 rfl ?_
  simp only [go_sem, simprocAttr, Ap _ _ _ _ hc3, hc3, hu, Cond.enc_eq, hci, hdi, Gu, hT, CL, Ac]
  and_intros <;> try exact sdA
  refine Z 4 rfl ?_
  simp only [go_sem, simprocAttr, inI, hT, CL, Ac]
  and_intros <;> try exact sdA
  refine hKL0 (i + 1) _ ?_ ?_ ?_
  ·(try dsimp only); exact hc3
  ·(try dsimp only); omega
  refine Le.mk _ _ ?_ ?_ rfl <;> simp only [go_sem, simprocAttr, hst] <;> and_intros <;> try exact leA
 simp only [hcL] at hc3
 obtain rfl : i = l.length := by omega
 refine AS ?_
 simp only [go_sem, simprocAttr]
 refine Aa (OY (EF := EF0) hG (by rw [hN]; exact AmY) ?_)
 simp only [Vz, go_sem, simprocAttr, inI, JS, hT, CL, Ac]
 and_intros <;> try exact sdA
 refine Ad (hQ _ _ (.inl rfl) ?_ ?_ ?_) <;> simp only [go_sem, simprocAttr, DR, Gu, Cond.lev]
theorem Ahw : ∀ n, PU 175 (gOf AQ (DR Gu n)) := QB Ahx
mutual
def LA : Cond -> Int
 | .mk k l a b p t => if Kf (.mk k l a b p t) ≠ 0 then Kf (.mk k l a b p t) else LB l
def LB : List Cond -> Int
 | [] => 0
 | c :: l => if LA c ≠ 0 then LA c else LB l
end
def Fy (c : Cond) : V := .int .i64 (LA c)
def Nb (n : Nat) (g : Nat) : List V -> Prop × V := if g = 211 then gOf AQ Gk else HH 177 Fy n g
theorem AiE (n : Nat) (hG0 : ∀ g, PU g (HH 177 Fy n g)) : PU 177 (gOf AQ (DR Fy (n + 1))) := by
 have hG : ∀ g, PU g (Nb n g) := fun g => by
  unfold Nb
  split
  ·rename_i e; subst e; exact AiG
  exact hG0 g
 refine Zs.a Gd (by simp [AQ]) ?_
 rintro ⟨k, l, a, b, ⟨x, y, z⟩, t⟩ hv C hN Q hQ
 have Z := Zs.R EF0 hG hN
 obtain ⟨hok, hdp⟩ : (Cond.mk k l a b ⟨x, y, z⟩ t).ok /\ (Cond.mk k l a b ⟨x, y, z⟩ t).dep < n + 1 := hv
 have hds := Cond.dep_l (.mk k l a b ⟨x, y, z⟩ t)
 change ∀ u ∈ l, _ at hds
 have hpe : LA (.mk k l a b ⟨x, y, z⟩ t) = if Kf (.mk k l a b ⟨x, y, z⟩ t) ≠ 0 then Kf (.mk k l a b ⟨x, y, z⟩ t) else LB l := by rw [LA]
 obtain ⟨_, ⟨hl, hlo⟩, _, _, _, ⟨ht, _⟩⟩ := (Cond.ok_eq ..).1 hok
 have hT : Nb n 177 = gOf AQ (DR Fy n) := by unfold Nb HH; rw [if_neg (by decide), if_pos rfl]
 have hT2 : Nb n 211 = gOf AQ Gk := by unfold Nb; rw [if_pos rfl]
 generalize hpt : Kf (.mk k l a b ⟨x, y, z⟩ t) = pe at hpe
 refine Aa (Z 0 rfl ?_)
 simp only [go_sem, simprocAttr, AQ, Cond.enc_eq, hT, hT2, CL, Ac, Hq, hok, hpt]
 refine Aa (Aa (Z 1 rfl ?_))
 simp only [go_sem, simprocAttr, hT, hT2, CL, Ac, Hq, hok, hpt]
 and_intros <;> try exact sdA
 refine Aa (Z 2 rfl ?_)
 simp only [go_sem, simprocAttr, hT, hT2, CL, Ac, Hq, hok, hpt]
 refine Ae rfl (fun hb2 => ?_) fun hb2 => ?_
 ·rw [if_pos (by simpa using hb2)] at hpe
  refine Aa (Z 3 rfl ?_)
  simp only [go_sem, simprocAttr, hT, hT2, CL, Ac, Hq, hok, hpt]
  refine Ad (hQ _ _ (.inl rfl) ?_ ?_ ?_) <;> simp only [go_sem, simprocAttr, DR, Fy, hpe]
 rw [if_neg (by simpa using hb2)] at hpe
 refine Af ?_
 refine Aa (Aa (Z 4 rfl ?_))
 simp only [go_sem, simprocAttr, hT, hT2, CL, Ac, Hq, hok, hpt]
 refine Ao ?_
 refine AX (α := Nat) (fun i => (i <= l.length) /\ (LB l = LB (l.drop i))) (fun i => ⟨mkE [(1, V.ptr 1 0), (4, .int .i64 i)], mkH [(1, Ob.box 132 [V.int IntKind.i64 k, V.list (List.map Cond.enc l) false, V.int IntKind.i64 a, V.int IntKind.i64 b, V.int IntKind.i64 x, V.int IntKind.i64 y, V.int IntKind.i64 z, V.list (strs t) false])]⟩) (fun i => l.length - i) 0 ⟨Ar _, rfl⟩ ?_ ?_
 ·exact leM
 rintro i ⟨hi, hx⟩ KL0 hKL0
 try dsimp only at *
 refine Aa (Aa (Z 5 rfl ?_))
 simp only [go_sem, simprocAttr, hT, hT2, CL, Ac, Hq, hok, hpt]
 refine Ae rfl (fun hc5 => ?_) fun hc5 => ?_
 ·simp only [hcL] at hc5
  refine Af ?_
  refine Aa (Ao ?_)
  have hmem := AF hc5
  have hci := hlo _ hmem
  have hdi : l[i].dep < n := by have := hds _ hmem; omega
  rw [DS hc5, LB] at hx
  generalize hu : l[i] = u at hmem hci hdi hx
  obtain ⟨k2, l2, a2, b2, ⟨x2, y2, z2⟩, t2⟩ := u
  refine Aa (Z 7 rfl ?_)
  simp only [go_sem, simprocAttr, Ap _ _ _ _ hc5, hc5, hu, Cond.enc_eq, hci, hdi, Fy, hT, hT2, CL, Ac, Hq, hok, hpt]
  and_intros <;> try exact sdA
  refine Aa (Z 8 rfl ?_)
  simp only [go_sem, simprocAttr, hT, hT2, CL, Ac, Hq, hok, hpt]
  refine Ae rfl (fun hb8 => ?_) fun hb8 => ?_
  ·rw [if_pos (by simpa using hb8)] at hx
   refine Aa (Z 9 rfl ?_)
   simp only [go_sem, simprocAttr, hT, hT2, CL, Ac, Hq, hok, hpt]
   refine Ad (hQ _ _ (.inl rfl) ?_ ?_ ?_) <;> simp only [go_sem, simprocAttr, DR, Fy, hpe, hx]
  rw [if_neg (by simpa using hb8)] at hx
  refine Af ?_
  refine Z 6 rfl ?_
  simp only [go_sem, simprocAttr, inI, hT, hT2, CL, Ac, Hq, hok, hpt]
  and_intros <;> try exact sdA
  refine hKL0 (i + 1) _ ?_ ?_ ?_
  ·(try dsimp only); exact ⟨hc5, hx⟩
  ·(try dsimp only); omega
  exact leM
 simp only [hcL] at hc5
 rw [GN (by omega), LB] at hx
 refine AS ?_
 simp only [go_sem, simprocAttr]
 refine Aa (Z 10 rfl ?_)
 simp only [go_sem, simprocAttr, hT, hT2, CL, Ac, Hq, hok, hpt]
 refine Ad (hQ _ _ (.inl rfl) ?_ ?_ ?_) <;> simp only [go_sem, simprocAttr, DR, Fy, hpe, hx]
theorem AiD : ∀ n, PU 177 (gOf AQ (DR Fy n)) := QB AiE
def Gh (f : Cond -> V) (c : Cond) : Prop × V := (c.ok, f c)
theorem Eb (f : Cond -> V) (k : Int) (l : List Cond) (a b x y z : Int) (t : List (List UInt8)) : gOf AQ (Gh f) [.agg [.int .i64 k, .list (l.map Cond.enc) false, .int .i64 a, .int .i64 b, .int .i64 x, .int .i64 y, .int .i64 z, .list (strs t) false]] = ((Cond.mk k l a b ⟨x, y, z⟩ t).ok, f (.mk k l a b ⟨x, y, z⟩ t)) := by have := Al (F := Gh f) Gd (.mk k l a b ⟨x, y, z⟩ t); rw [AQ, Cond.enc_eq] at this; exact this
theorem Um {k : Nat} {f : Cond -> V} (h : ∀ n, PU k (gOf AQ (DR f n))) : PU k (gOf AQ (Gh f)) := by
 intro vs M w cargs hv
 by_cases e : ∃ c, AQ c = vs
 ·obtain ⟨c, rfl⟩ := e
  have := h (c.dep + 1) (AQ c) M w cargs
  rw [Al Gd] at hv this ⊢
  exact this ⟨hv, Jf _⟩
 ·unfold gOf at hv
  rw [dif_neg e] at hv
  exact hv.elim
theorem AkN : PU 176 (gOf AQ (Gh GA)) := Um AkL
theorem Ahy : PU 175 (gOf AQ (Gh Gu)) := Um Ahw
theorem AiF : PU 177 (gOf AQ (Gh Fy)) := Um AiD
def ckE (c : Cond) : Int := if (decide (8 < c.lev) || decide (128 < c.siz)) = true then 4 else LA c
def ckV (c : Cond) : V := .int .i64 (ckE c)
def MY : Tab
 | 176 => (gOf AQ (Gh GA))
 | 175 => (gOf AQ (Gh Gu))
 | 177 => (gOf AQ (Gh Fy))
 | _ => gNo
theorem AlB : ∀ f, PU f (MY f) := fun f => by
 unfold MY
 split
 ·exact AkN
 ·exact Ahy
 ·exact AiF
 ·exact Ah.no
theorem Ajk : PU 126 (gOf AQ (Gh ckV)) := by
 have hG := AlB
 refine YO.a Gd (by simp [AQ]) ?_
 rintro ⟨k, l, a, b, ⟨x, y, z⟩, t⟩ hv C hN Q hQ
 have Z := YO.R EF0 hG hN
 have hok : (Cond.mk k l a b ⟨x, y, z⟩ t).ok := hv
 have hck : ckE (.mk k l a b ⟨x, y, z⟩ t) = if (decide (8 < Cond.lev (.mk k l a b ⟨x, y, z⟩ t)) || decide (128 < Cond.siz (.mk k l a b ⟨x, y, z⟩ t))) = true then 4 else LA (.mk k l a b ⟨x, y, z⟩ t) := rfl
 refine Aa (Z 0 rfl ?_)
 simp only [go_sem, simprocAttr, AQ, Cond.enc_eq, MY, Eb, hok, GA, Gu, Fy]
 refine Aa (Aa (Z 1 rfl ?_))
 simp only [go_sem, simprocAttr, MY, Eb, hok, GA, Gu, Fy]
 and_intros <;> try exact sdA
 refine Ae rfl (fun hb1 => ?_) fun hb1 => ?_
 ·rw [if_pos hb1] at hck
  refine Aa (Z 2 rfl ?_)
  simp only [go_sem, simprocAttr, MY, Eb, hok, GA, Gu, Fy]
  refine Ad (hQ _ _ (.inl rfl) ?_ ?_ ?_) <;> simp only [go_sem, simprocAttr, Gh, ckV, hck]
 rw [if_neg (by rw [hb1]; decide)] at hck
 refine Af ?_
 refine Aa (Z 3 rfl ?_)
 simp only [go_sem, simprocAttr, MY, Eb, hok, GA, Gu, Fy]
 and_intros <;> try exact sdA
 refine Ad (hQ _ _ (.inl rfl) ?_ ?_ ?_) <;> simp only [go_sem, simprocAttr, Gh, ckV, hck]
def iIf (b : Bool) (e : Int) : List Int := if b then [e] else []
theorem Gs {b : Bool} {e : Int} (h : b = true) : iIf b e = [e] := by rw [h]; rfl
theorem Gr {b : Bool} {e : Int} (h : b = false) : iIf b e = [] := by rw [h]; rfl
theorem RS {α : Type} (p : α -> Bool) {l : List α} {k : Nat} (h : k < l.length) : (l.take (k + 1)).any p = ((l.take k).any p || p l[k]) := by rw [CW h, List.any_append]; simp
def dTwice (d x : Distance) : Bool := (decide (x.from' = d.from') && decide (x.to' = d.to')) || (decide (x.from' = d.to') && decide (x.to' = d.from'))
def KJ (ps : List Airport) (ds : List Distance) (i : Nat) (d : Distance) : List Int :=
 iIf (!(BR (Et d.from') ps).isSome || !(BR (Et d.to') ps).isSome) 14 ++ iIf ((ds.take i).any (dTwice d)) 6 ++ iIf (!DL d || decide (d.from' = d.to')) 2
def aPi := ar (vg Places.enc) (ao vi)
theorem OO : Ij aPi := ijr (ijg Places.inj) (ijo iji)
def PB (x : Places × Int) : Prop × V := (BH x.1 /\ 0 <= x.2 /\ x.2.toNat < x.1.distances.length /\ x.1.distances.length <= 1000000, .list (Aq (KJ x.1.airports x.1.distances x.2.toNat (x.1.distances.getD x.2.toNat Distance.zero))) false)
def DW : Tab
 | 150 => (gOf aPs Ib)
 | 151 => (gOf Hc JJ)
 | _ => gNo
theorem AlL : ∀ f, PU f (DW f) := fun f => by
 unfold DW
 split
 ·exact Acy
 ·exact AcG
 ·exact Ah.no
theorem Ajn : PU 90 (gOf aPi PB) := by
 have hG := AlL
 refine AaI.a OO (by simp [aPi]) ?_
 rintro ⟨⟨ps, ds⟩, ii⟩ hv C hN Q hQ
 have Z := AaI.R EF0 hG hN
 obtain ⟨hlp, hi0, hin, hdl⟩ : BH ⟨ps, ds⟩ /\ 0 <= ii /\ ii.toNat < ds.length /\ ds.length <= 1000000 := hv
 obtain ⟨i, rfl⟩ : ∃ i : Nat, ii = (i : Int) := ⟨ii.toNat, by omega⟩
 rw [Du] at hin
 generalize hdd : ds[i] = d
 obtain ⟨df, dt, dm⟩ := d
 refine Aa (Z 0 rfl ?_)
 simp only [go_sem, simprocAttr, aPi, Places.enc, DW]
 refine Aa (Z 1 rfl ?_)
 simp only [go_sem, simprocAttr, DW]
 refine AW.le (s' := ⟨mkE [(1, .int .i64 i), (2, .ptr 2 0), (5, .own 999 0)], mkH ([(2, .box 25 [.list (ps.map Airport.enc) false, .list (ds.map Distance.enc) false]), (999, .arr 48 1 (Aq []))])⟩) (Le.mk _ _ (by (simp only [go_sem, simprocAttr]) <;> and_intros <;> try exact leB) (by (simp only [go_sem, simprocAttr]) <;> and_intros <;> try exact leB) rfl) ?_
 refine Aa (Z 2 rfl ?_)
 simp only [go_sem, simprocAttr, Ap _ _ _ _ hin, hin, hdd, Distance.enc, DW]
 and_intros <;> try exact sdA
 refine Aa (Z 3 rfl ?_)
 simp only [go_sem, simprocAttr, NK, hlp, Dn, Airport.enc, DW]
 and_intros <;> try exact sdA
 refine Aa (Z 4 rfl ?_)
 simp only [go_sem, simprocAttr, NK, hlp, Dn, Airport.enc, DW]
 and_intros <;> try exact sdA
 refine Dw (α := (List Int)) (fun g1 => (g1 = ([] : List Int) ++ iIf (!(BR (Et df) ps).isSome || !(BR (Et dt) ps).isSome) (14)) /\ (g1.length <= ([] : List Int).length + 1)) (fun g1 => ⟨mkE [(1, V.int IntKind.i64 ↑i), (2, V.ptr 2 0), (5, .own 999 g1.length), (6, V.ptr 6 0)], mkH [(2, Ob.box 25 [V.list (List.map Airport.enc ps) false, V.list (List.map Distance.enc ds) false]), (6, Ob.box 215 [V.str df, V.str dt, V.int IntKind.i64 dm]), (999, .arr 48 1 (Aq g1))]⟩) ?_ ?_
 ·intro KC5 hKC5
  refine Aa (Z 5 rfl ?_)
  simp only [go_sem, simprocAttr, DW]
  and_intros <;> try exact sdA
  refine Ae rfl (fun hb5 => ?_) fun hb5 => ?_
  ·refine Z 6 rfl ?_
   simp only [go_sem, simprocAttr, DW]
   and_intros <;> try exact sdA
   refine hKC5 (([] : List Int) ++ [14]) _ ?_ ?_
   ·(try dsimp only); exact ⟨by rw [Gs (show (!(BR (Et df) ps).isSome || !(BR (Et dt) ps).isSome) = true from hb5)], by simp⟩
   refine Le.mk _ _ ?_ ?_ rfl <;> simp only [go_sem, simprocAttr, FN, Ai, Av, Ay] <;> and_intros <;> try exact leA
  refine Af ?_
  refine hKC5 (([] : List Int)) _ ?_ ?_
  ·(try dsimp only); exact ⟨by rw [Gr (show (!(BR (Et df) ps).isSome || !(BR (Et dt) ps).isSome) = false from hb5), Bl], by omega⟩
  exact leM
 rintro g1 ⟨hg1, lg1⟩
 simp only [Ay] at lg1
 refine Aa (Z 7 rfl ?_)
 simp only [go_sem, simprocAttr, DW]
 refine Aa (Aa (Z 8 rfl ?_))
 simp only [go_sem, simprocAttr, DW]
 refine Ao ?_
 refine AX (α := Nat × Bool) (fun γ => (γ.1 <= i) /\ (γ.2 = (ds.take γ.1).any (dTwice ⟨df, dt, dm⟩))) (fun γ => ⟨mkE [(1, V.int IntKind.i64 ↑i), (2, V.ptr 2 0), (5, V.own 999 g1.length), (6, V.ptr 6 0), (11, .bool γ.2), (12, .int .i64 γ.1)], mkH [(2, Ob.box 25 [V.list (List.map Airport.enc ps) false, V.list (List.map Distance.enc ds) false]), (6, Ob.box 215 [V.str df, V.str dt, V.int IntKind.i64 dm]), (999, Ob.arr 48 1 (Aq g1))]⟩) (fun γ => i - γ.1) (0, false) ⟨Ar _, rfl⟩ ?_ ?_
 ·exact leM
 rintro ⟨k, tw⟩ ⟨hk, htw⟩ KL0 hKL0
 try dsimp only at *
 refine Aa (Aa (Z 9 rfl ?_))
 simp only [go_sem, simprocAttr, DW]
 refine Ae rfl (fun hc9 => ?_) fun hc9 => ?_
 ·simp only [hcL] at hc9
  refine Af ?_
  refine Aa (Ao ?_)
  have hkd : k < ds.length := by omega
  refine Aa (Z 11 rfl ?_)
  simp only [go_sem, simprocAttr, Ap _ _ _ _ hkd, hkd, Distance.enc, DW]
  and_intros <;> try exact sdA
  refine Z 12 rfl ?_
  simp only [go_sem, simprocAttr, DW]
  and_intros <;> (try first | exact sdA | (intro h; exact ⟨h, fun h2 => by rw [h, h2]; rfl⟩))
  refine Z 10 rfl ?_
  simp only [go_sem, simprocAttr, inI, DW]
  and_intros <;> try exact sdA
  refine hKL0 (k + 1, tw || dTwice ⟨df, dt, dm⟩ ds[k]) _ ?_ ?_ ?_
  ·(try dsimp only); exact ⟨by omega, by rw [RS _ hkd, htw]⟩
  ·(try dsimp only); omega
  refine Le.mk _ _ ?_ ?_ rfl <;> simp only [go_sem, simprocAttr, dTwice, Bool.or_assoc] <;> and_intros <;> try exact leA
 simp only [hcL] at hc9
 have hki : k = i := by omega
 refine AS ?_
 simp only [go_sem, simprocAttr]
 refine Dw (α := (List Int)) (fun g2 => (g2 = g1 ++ iIf (tw) (6)) /\ (g2.length <= g1.length + 1)) (fun g2 => ⟨mkE [(5, .own 999 g2.length), (6, V.ptr 6 0)], mkH [(6, Ob.box 215 [V.str df, V.str dt, V.int IntKind.i64 dm]), (999, .arr 48 1 (Aq g2))]⟩) ?_ ?_
 ·intro KC13 hKC13
  refine Aa (Z 13 rfl ?_)
  simp only [go_sem, simprocAttr, DW]
  refine Ae rfl (fun hb13 => ?_) fun hb13 => ?_
  ·refine Z 14 rfl ?_
   simp only [go_sem, simprocAttr, DW]
   and_intros <;> try exact sdA
   refine hKC13 (g1 ++ [6]) _ ?_ ?_
   ·(try dsimp only); exact ⟨by rw [Gs (show (tw) = true from hb13)], by simp⟩
   refine Le.mk _ _ ?_ ?_ rfl <;> simp only [go_sem, simprocAttr, FN, Ai, Av, Ay] <;> and_intros <;> try exact leA
  refine Af ?_
  refine hKC13 (g1) _ ?_ ?_
  ·(try dsimp only); exact ⟨by rw [Gr (show (tw) = false from hb13), Bl], by omega⟩
  exact leM
 rintro g2 ⟨hg2, lg2⟩
 refine Dw (α := (List Int)) (fun g3 => (g3 = g2 ++ iIf (!DL ⟨df, dt, dm⟩ || decide (df = dt)) (2)) /\ (g3.length <= g2.length + 1)) (fun g3 => ⟨mkE [(5, .own 999 g3.length)], mkH [(999, .arr 48 1 (Aq g3))]⟩) ?_ ?_
 ·intro KC15 hKC15
  refine Aa (Z 15 rfl ?_)
  simp only [go_sem, simprocAttr, Sq, DW]
  and_intros <;> try exact sdA
  refine Ae rfl (fun hb15 => ?_) fun hb15 => ?_
  ·refine Z 16 rfl ?_
   simp only [go_sem, simprocAttr, DW]
   and_intros <;> try exact sdA
   refine hKC15 (g2 ++ [2]) _ ?_ ?_
   ·(try dsimp only); exact ⟨by rw [Gs (show (!DL ⟨df, dt, dm⟩ || decide (df = dt)) = true from hb15)], by simp⟩
   refine Le.mk _ _ ?_ ?_ rfl <;> simp only [go_sem, simprocAttr, FN, Ai, Av, Ay] <;> and_intros <;> try exact leA
  refine Af ?_
  refine hKC15 (g2) _ ?_ ?_
  ·(try dsimp only); exact ⟨by rw [Gr (show (!DL ⟨df, dt, dm⟩ || decide (df = dt)) = false from hb15), Bl], by omega⟩
  exact leM
 rintro g3 ⟨hg3, lg3⟩
 refine Aa (Z 17 rfl ?_)
 simp only [go_sem, simprocAttr, DW]
 refine AW.le (s' := ⟨mkE [(4, .list (Aq g3) false)], mkH []⟩) (Le.mk _ _ ?_ ?_ rfl) (Ad (hQ _ _ (.inl rfl) ?_ ?_ ?_)) <;> simp only [go_sem, simprocAttr, PB, Du]
 ·exact DO rfl (by rw [DB]) rfl (JQ _)
 rw [Cu _ _ _ hin, hdd, hg3, hg2, hg1, htw, hki]; rfl
def aTwice (a x : Airport) : Bool := decide (x.code = a.code)
def aMoved (a x : Airport) : Bool := decide (x.city = a.city) && !decide (x.country = a.country)
def JB (ps : List Airport) (i : Nat) (a : Airport) : List Int :=
 iIf (!Cq 3 a.code || !Cq 3 a.city || !Cq 2 a.country) 5 ++ iIf ((ps.take i).any (aTwice a)) 6 ++ iIf ((ps.take i).any (aMoved a)) 8 ++ iIf (!decide (Er a.zone = 0)) (Er a.zone)
def Px (x : Places × Int) : Prop × V := (0 <= x.2 /\ x.2.toNat < x.1.airports.length /\ x.1.airports.length <= 1000000 /\ (∀ a ∈ x.1.airports, a.ok), .list (Aq (JB x.1.airports x.2.toNat (x.1.airports.getD x.2.toNat Airport.zero))) false)
theorem Agi (zo : Int) (sh : List Shift) : gOf Ma Ic [.agg [.int .i64 zo, .list (sh.map Shift.enc) false]] = ((⟨zo, sh⟩ : Zone).ok, .int .i64 (Er ⟨zo, sh⟩)) := Al WQ (⟨zo, sh⟩ : Zone)
def DH : Tab
 | 129 => (gOf Bh (HX 3))
 | 131 => (gOf Bh (HX 2))
 | 149 => (gOf Ma Ic)
 | _ => gNo
theorem Alu : ∀ f, PU f (DH f) := fun f => by
 unfold DH
 split
 ·exact Uk
 ·exact Acw
 ·exact AjY
 ·exact Ah.no
theorem Aji : PU 89 (gOf aPi Px) := by
 have hG := Alu
 refine Tc.a OO (by simp [aPi]) ?_
 rintro ⟨⟨ps, ds⟩, ii⟩ hv C hN Q hQ
 have Y := Tc.D EF0 hG hN mixed
 have Z := Tc.R EF0 hG hN
 obtain ⟨hi0, hin, hpl, hpo⟩ : 0 <= ii /\ ii.toNat < ps.length /\ ps.length <= 1000000 /\ ∀ a ∈ ps, a.ok := hv
 obtain ⟨i, rfl⟩ : ∃ i : Nat, ii = (i : Int) := ⟨ii.toNat, by omega⟩
 rw [Du] at hin
 obtain ⟨h1, h2, h3, h4⟩ := hpo _ (AF hin)
 generalize haa : ps[i] = a at h1 h2 h3 h4
 obtain ⟨ac, at', an, ⟨zo, sh⟩⟩ := a
 dsimp only at h1 h2 h3 h4
 refine Aa (Z 0 rfl ?_)
 simp only [go_sem, simprocAttr, aPi, Places.enc, DH, AV]
 refine Aa (Z 1 rfl ?_)
 simp only [go_sem, simprocAttr, DH, AV]
 refine AW.le (s' := ⟨mkE [(1, .int .i64 i), (2, .ptr 2 0), (5, .own 999 0)], mkH ([(2, .box 25 [.list (ps.map Airport.enc) false, .list (ds.map Distance.enc) false]), (999, .arr 48 1 (Aq []))])⟩) (Le.mk _ _ (by (simp only [go_sem, simprocAttr]) <;> and_intros <;> try exact leB) (by (simp only [go_sem, simprocAttr]) <;> and_intros <;> try exact leB) rfl) ?_
 refine Aa (Z 2 rfl ?_)
 simp only [go_sem, simprocAttr, Ap _ _ _ _ hin, hin, haa, Airport.enc, DH, AV]
 and_intros <;> try exact sdA
 refine Dw (α := (List Int)) (fun g1 => (g1 = ([] : List Int) ++ iIf (!Cq 3 ac || !Cq 3 at' || !Cq 2 an) (5)) /\ (g1.length <= ([] : List Int).length + 1)) (fun g1 => ⟨mkE [(1, V.int IntKind.i64 ↑i), (2, V.ptr 2 0), (5, .own 999 g1.length), (6, V.ptr 6 0)], mkH [(2, Ob.box 25 [V.list (List.map Airport.enc ps) false, V.list (List.map Distance.enc ds) false]), (6, Ob.box 212 [V.str ac, V.str at', V.str an, V.int IntKind.i64 zo, V.list (List.map Shift.enc sh) false]), (999, .arr 48 1 (Aq g1))]⟩) ?_ ?_
 ·intro KC3 hKC3
  refine Aa (Z 3 rfl ?_)
  simp only [go_sem, simprocAttr, h1, h2, h3, DH, AV]
  and_intros <;> try exact sdA
  refine Ae rfl (fun hb3 => ?_) fun hb3 => ?_
  ·refine Z 4 rfl ?_
   simp only [go_sem, simprocAttr, DH, AV]
   and_intros <;> try exact sdA
   refine hKC3 (([] : List Int) ++ [5]) _ ?_ ?_
   ·(try dsimp only); exact ⟨by rw [Gs (show (!Cq 3 ac || !Cq 3 at' || !Cq 2 an) = true from hb3)], by simp⟩
   refine Le.mk _ _ ?_ ?_ rfl <;> simp only [go_sem, simprocAttr, FN, Ai, Av, Ay] <;> and_intros <;> try exact leA
  refine Af ?_
  refine hKC3 (([] : List Int)) _ ?_ ?_
  ·(try dsimp only); exact ⟨by rw [Gr (show (!Cq 3 ac || !Cq 3 at' || !Cq 2 an) = false from hb3), Bl], by omega⟩
  exact leM
 rintro g1 ⟨hg1, lg1⟩
 simp only [Ay] at lg1
 refine Aa (Z 5 rfl ?_)
 simp only [go_sem, simprocAttr, DH, AV]
 refine Aa (Aa (Z 6 rfl ?_))
 simp only [go_sem, simprocAttr, DH, AV]
 refine Ao ?_
 refine AX (α := Nat × Bool × Bool) (fun γ => (γ.1 <= i) /\ (γ.2.1 = (ps.take γ.1).any (aTwice ⟨ac, at', an, ⟨zo, sh⟩⟩)) /\ (γ.2.2 = (ps.take γ.1).any (aMoved ⟨ac, at', an, ⟨zo, sh⟩⟩))) (fun γ => ⟨mkE [(1, V.int IntKind.i64 ↑i), (2, V.ptr 2 0), (5, V.own 999 g1.length), (6, V.ptr 6 0), (7, .bool γ.2.1), (8, .bool γ.2.2), (9, .int .i64 γ.1)], mkH [(2, Ob.box 25 [V.list (List.map Airport.enc ps) false, V.list (List.map Distance.enc ds) false]), (6, Ob.box 212 [V.str ac, V.str at', V.str an, V.int IntKind.i64 zo, V.list (List.map Shift.enc sh) false]), (999, Ob.arr 48 1 (Aq g1))]⟩) (fun γ => i - γ.1) (0, false, false) ⟨Ar _, rfl, rfl⟩ ?_ ?_
 ·exact leM
 rintro ⟨k, tw, mo⟩ ⟨hk, htw, hmo⟩ KL0 hKL0
 try dsimp only at *
 refine Aa (Aa (Z 7 rfl ?_))
 simp only [go_sem, simprocAttr, DH, AV]
 refine Ae rfl (fun hc7 => ?_) fun hc7 => ?_
 ·simp only [hcL] at hc7
  refine Af ?_
  refine Aa (Ao ?_)
  have hkd : k < ps.length := by omega
  refine Aa (Y 9 rfl (by kernel_rfl) ?_)
  simp only [go_sem, simprocAttr, Ap _ _ _ _ hkd, hkd, Airport.enc, DH, AV]
  and_intros <;> try exact sdA
  refine Y 10 rfl (by kernel_rfl) ?_
  simp only [go_sem, simprocAttr, Ap _ _ _ _ hkd, hkd, Airport.enc, DH, AV]
  and_intros <;> (try first | exact sdA | (intro h; exact ⟨h, fun h2 => by rw [h, h2]; rfl⟩))
  refine Z 8 rfl ?_
  simp only [go_sem, simprocAttr, inI, DH, AV]
  and_intros <;> try exact sdA
  refine hKL0 (k + 1, tw || aTwice ⟨ac, at', an, ⟨zo, sh⟩⟩ ps[k], mo || aMoved ⟨ac, at', an, ⟨zo, sh⟩⟩ ps[k]) _ ?_ ?_ ?_
  ·(try dsimp only); exact ⟨by omega, by rw [RS _ hkd, htw], by rw [RS _ hkd, hmo]⟩
  ·(try dsimp only); omega
  refine Le.mk _ _ ?_ ?_ rfl <;> simp only [go_sem, simprocAttr, aTwice, aMoved] <;> and_intros <;> try exact leA
 simp only [hcL] at hc7
 have hki : k = i := by omega
 refine AS ?_
 simp only [go_sem, simprocAttr]
 refine Dw (α := (List Int)) (fun g2 => (g2 = g1 ++ iIf (tw) (6)) /\ (g2.length <= g1.length + 1)) (fun g2 => ⟨mkE [(5, .own 999 g2.length), (6, V.ptr 6 0), (8, V.bool mo)], mkH [(6, Ob.box 212 [V.str ac, V.str at', V.str an, V.int IntKind.i64 zo, V.list (List.map Shift.enc sh) false]), (999, .arr 48 1 (Aq g2))]⟩) ?_ ?_
 ·intro KC11 hKC11
  refine Aa (Z 11 rfl ?_)
  simp only [go_sem, simprocAttr, DH, AV]
  refine Ae rfl (fun hb11 => ?_) fun hb11 => ?_
  ·refine Z 12 rfl ?_
   simp only [go_sem, simprocAttr, DH, AV]
   and_intros <;> try exact sdA
   refine hKC11 (g1 ++ [6]) _ ?_ ?_
   ·(try dsimp only); exact ⟨by rw [Gs (show (tw) = true from hb11)], by simp⟩
   refine Le.mk _ _ ?_ ?_ rfl <;> simp only [go_sem, simprocAttr, FN, Ai, Av, Ay] <;> and_intros <;> try exact leA
  refine Af ?_
  refine hKC11 (g1) _ ?_ ?_
  ·(try dsimp only); exact ⟨by rw [Gr (show (tw) = false from hb11), Bl], by omega⟩
  exact leM
 rintro g2 ⟨hg2, lg2⟩
 refine Dw (α := (List Int)) (fun g3 => (g3 = g2 ++ iIf (mo) (8)) /\ (g3.length <= g2.length + 1)) (fun g3 => ⟨mkE [(5, .own 999 g3.length), (6, V.ptr 6 0)], mkH [(6, Ob.box 212 [V.str ac, V.str at', V.str an, V.int IntKind.i64 zo, V.list (List.map Shift.enc sh) false]), (999, .arr 48 1 (Aq g3))]⟩) ?_ ?_
 ·intro KC13 hKC13
  refine Aa (Z 13 rfl ?_)
  simp only [go_sem, simprocAttr, DH, AV]
  refine Ae rfl (fun hb13 => ?_) fun hb13 => ?_
  ·refine Z 14 rfl ?_
   simp only [go_sem, simprocAttr, DH, AV]
   and_intros <;> try exact sdA
   refine hKC13 (g2 ++ [8]) _ ?_ ?_
   ·(try dsimp only); exact ⟨by rw [Gs (show (mo) = true from hb13)], by simp⟩
   refine Le.mk _ _ ?_ ?_ rfl <;> simp only [go_sem, simprocAttr, FN, Ai, Av, Ay] <;> and_intros <;> try exact leA
  refine Af ?_
  refine hKC13 (g2) _ ?_ ?_
  ·(try dsimp only); exact ⟨by rw [Gr (show (mo) = false from hb13), Bl], by omega⟩
  exact leM
 rintro g3 ⟨hg3, lg3⟩
 refine Aa (Z 15 rfl ?_)
 simp only [go_sem, simprocAttr, Agi, h4, DH, AV]
 and_intros <;> try exact sdA
 refine Dw (α := (List Int)) (fun g4 => (g4 = g3 ++ iIf (!decide (Er ⟨zo, sh⟩ = 0)) (Er ⟨zo, sh⟩)) /\ (g4.length <= g3.length + 1)) (fun g4 => ⟨mkE [(5, .own 999 g4.length)], mkH [(999, .arr 48 1 (Aq g4))]⟩) ?_ ?_
 ·intro KC16 hKC16
  refine Aa (Z 16 rfl ?_)
  simp only [go_sem, simprocAttr, DH, AV]
  refine Ae rfl (fun hb16 => ?_) fun hb16 => ?_
  ·refine Z 17 rfl ?_
   simp only [go_sem, simprocAttr, DH, AV]
   and_intros <;> try exact sdA
   refine hKC16 (g3 ++ [Er ⟨zo, sh⟩]) _ ?_ ?_
   ·(try dsimp only); exact ⟨by rw [Gs (show (!decide (Er ⟨zo, sh⟩ = 0)) = true from hb16)], by simp⟩
   refine Le.mk _ _ ?_ ?_ rfl <;> simp only [go_sem, simprocAttr, FN, Ai, Av, Ay] <;> and_intros <;> try exact leA
  refine Af ?_
  refine hKC16 (g3) _ ?_ ?_
  ·(try dsimp only); exact ⟨by rw [Gr (show (!decide (Er ⟨zo, sh⟩ = 0)) = false from hb16), Bl], by omega⟩
  exact leM
 rintro g4 ⟨hg4, lg4⟩
 refine Aa (Z 18 rfl ?_)
 simp only [go_sem, simprocAttr, DH, AV]
 refine AW.le (s' := ⟨mkE [(4, .list (Aq g4) false)], mkH []⟩) (Le.mk _ _ ?_ ?_ rfl) (Ad (hQ _ _ (.inl rfl) ?_ ?_ ?_)) <;> simp only [go_sem, simprocAttr, Px, Du]
 ·exact DO rfl (by rw [DB]) rfl (JQ _)
 rw [Cu _ _ _ hin, haa, hg4, hg3, hg2, hg1, htw, hmo, hki]; rfl
def QG : List UInt8 := [97, 105, 114, 112, 111, 114, 116, 32]
def QI : List UInt8 := [100, 105, 115, 116, 97, 110, 99, 101, 32]
def Gg (path : List UInt8) (es : List Int) : List Fault := es.map fun e => ⟨e, path⟩
theorem Yo (path : List UInt8) {es : List Int} {k : Nat} (h : k < es.length) : Gg path (es.take (k + 1)) = Gg path (es.take k) ++ [⟨es[k], path⟩] := by unfold Gg; rw [CW h, DC]; rfl
def II (ps : List Airport) : Nat -> List Fault
 | 0 => []
 | i + 1 => II ps i ++ Gg (QG ++ dec i) (JB ps i (ps.getD i Airport.zero))
def JE (ps : List Airport) (ds : List Distance) : Nat -> List Fault
 | 0 => []
 | i + 1 => JE ps ds i ++ Gg (QI ++ dec i) (KJ ps ds i (ds.getD i Distance.zero))
def JC (p : Places) : List Fault := II p.airports p.airports.length ++ JE p.airports p.distances p.distances.length
theorem Lm (b : Bool) (e : Int) : (iIf b e).length <= 1 := by unfold iIf; split <;> simp
theorem WV (ps i a) : (JB ps i a).length <= 4 := by
 unfold JB
 have a1 := Lm (!Cq 3 a.code || !Cq 3 a.city || !Cq 2 a.country) 5
 have a2 := Lm ((ps.take i).any (aTwice a)) 6
 have a3 := Lm ((ps.take i).any (aMoved a)) 8
 have a4 := Lm (!decide (Er a.zone = 0)) (Er a.zone)
 simp only [Ai]; omega
theorem Yh (ps ds i d) : (KJ ps ds i d).length <= 3 := by
 unfold KJ
 have a1 := Lm (!(BR (Et d.from') ps).isSome || !(BR (Et d.to') ps).isSome) 14
 have a2 := Lm ((ds.take i).any (dTwice d)) 6
 have a3 := Lm (!DL d || decide (d.from' = d.to')) 2
 simp only [Ai]; omega
theorem Age (ps : List Airport) (ds : List Distance) (i : Nat) : gOf aPi Px [.agg [.list (ps.map Airport.enc) false, .list (ds.map Distance.enc) false], .int .i64 (i : Int)] = (0 <= (i : Int) /\ i < ps.length /\ ps.length <= 1000000 /\ (∀ a ∈ ps, a.ok), .list (Aq (JB ps i (ps.getD i Airport.zero))) false) := Al OO (⟨ps, ds⟩, (i : Int))
theorem Agf (ps : List Airport) (ds : List Distance) (i : Nat) : gOf aPi PB [.agg [.list (ps.map Airport.enc) false, .list (ds.map Distance.enc) false], .int .i64 (i : Int)] = (BH ⟨ps, ds⟩ /\ 0 <= (i : Int) /\ i < ds.length /\ ds.length <= 1000000, .list (Aq (KJ ps ds i (ds.getD i Distance.zero))) false) := Al OO (⟨ps, ds⟩, (i : Int))
theorem AC (n) : IW [.int .i64 n] = (inI n, .str (dec n)) := rfl
theorem JP {i : Nat} (h : i <= 1000000) : inI (i : Int) := ⟨by omega, by omega⟩
def Sm (p : Places) : Prop := p.airports.length <= 1000 /\ p.distances.length <= 1000 /\ ∀ a ∈ p.airports, a.ok
def Py (p : Places) : Prop × V := (Sm p, .list (Ax (JC p)) false)
def DK : Tab
 | 89 => (gOf aPi Px)
 | 90 => (gOf aPi PB)
 | 68 => IW
 | _ => gNo
theorem Anj : ∀ f, PU f (DK f) := fun f => by
 unfold DK
 split
 ·exact Aji
 ·exact Ajn
 ·exact Ou
 ·exact Ah.no
theorem Ajj : PU 43 (gOf aP1 Py) := by
 have hG := Anj
 refine Aah.a VY (by simp [aP1]) ?_
 rintro ⟨ps, ds⟩ hv C hN Q hQ
 have Z := Aah.R EF0 hG hN
 obtain ⟨hpl, hdl, hok⟩ : ps.length <= 1000 /\ ds.length <= 1000 /\ ∀ a ∈ ps, a.ok := hv
 have hlp : BH ⟨ps, ds⟩ := ⟨by dsimp only; omega, by dsimp only; omega⟩
 have hpm : ps.length <= 1000000 := by omega
 have hdm : ds.length <= 1000000 := by omega
 refine Aa (Z 0 rfl ?_)
 simp only [go_sem, simprocAttr, aP1, Places.enc, DK]
 refine Aa (Z 1 rfl ?_)
 simp only [go_sem, simprocAttr, DK]
 refine Aa (Aa (Z 2 rfl ?_))
 simp only [go_sem, simprocAttr, DK]
 refine Ao ?_
 refine AX (α := Nat × (List Fault)) (fun γ => (γ.1 <= ps.length) /\ (γ.2 = II ps γ.1) /\ (γ.2.length <= 4 * γ.1)) (fun γ => ⟨mkE [(1, V.ptr 1 0), (3, .own 999 γ.2.length), (4, .int .i64 γ.1)], mkH [(1, Ob.box 25 [V.list (List.map Airport.enc ps) false, V.list (List.map Distance.enc ds) false]), (999, .arr 126 2 (Ax γ.2))]⟩) (fun γ => ps.length - γ.1) (0, []) ⟨Ar _, rfl, Az _⟩ ?_ ?_
 ·exact leM
 rintro ⟨i, g⟩ ⟨hi, hg, hgl⟩ KL0 hKL0
 try dsimp only at *
 refine Aa (Aa (Z 3 rfl ?_))
 simp only [go_sem, simprocAttr, DK]
 refine Ae rfl (fun hc3 => ?_) fun hc3 => ?_
 ·simp only [hcL] at hc3
  refine Af ?_
  refine Aa (Ao ?_)
  have hd := Hj (i := i) (by omega)
  have hi2 := JP (i := i) (by omega)
  have hi0 : (0 : Int) <= (i : Int) := by omega
  have e1 := Age ps ds i
  have hst : II ps (i + 1) = II ps i ++ Gg (QG ++ dec i) (JB ps i (ps.getD i Airport.zero)) := rfl
  have hel := WV ps i (ps.getD i Airport.zero)
  generalize JB ps i (ps.getD i Airport.zero) = es at e1 hst hel
  refine Aa (Z 5 rfl ?_)
  simp only [go_sem, simprocAttr, e1, hi0, hc3, hpm, hok, DK]
  and_intros <;> try exact sdA
  refine Aa (Z 6 rfl ?_)
  simp only [go_sem, simprocAttr, DK]
  refine Ao ?_
  refine AX (α := Nat × (List Fault)) (fun γ => (γ.1 <= es.length) /\ (γ.2 = g ++ Gg (QG ++ dec i) (es.take γ.1)) /\ (γ.2.length <= g.length + γ.1)) (fun γ => ⟨mkE [(1, V.ptr 1 0), (3, .own 999 γ.2.length), (4, V.int IntKind.i64 ↑i), (5, V.list (Aq es) false), (6, .int .i64 γ.1)], mkH [(1, Ob.box 25 [V.list (List.map Airport.enc ps) false, V.list (List.map Distance.enc ds) false]), (999, .arr 126 2 (Ax γ.2))]⟩) (fun γ => es.length - γ.1) (0, g) ⟨Ar _, by simp [Gg], Az _⟩ ?_ ?_
  ·exact leM
  rintro ⟨k, f⟩ ⟨hk, hf, hfl⟩ KL2 hKL2
  try dsimp only at *
  refine Aa (Aa (Z 7 rfl ?_))
  simp only [go_sem, simprocAttr, DK]
  refine Ae rfl (fun hc7 => ?_) fun hc7 => ?_
  ·simp only [hcL] at hc7
   refine Af ?_
   refine Aa (Ao ?_)
   refine He (EF := EF0) hG mixed (by rw [hN]; exact Am5) Aio ?_
   simp only [Rv, XP, go_sem, simprocAttr, inI, GL _ _ _ hc7, hc7, AC, hi2, DK]
   and_intros <;> (try first | exact sdA | (simp only [Ai, Av, Ay]; omega))
   refine Z 8 rfl ?_
   simp only [go_sem, simprocAttr, inI, DK]
   and_intros <;> try exact sdA
   refine hKL2 (k + 1, f ++ [⟨es[k], QG ++ dec i⟩]) _ ?_ ?_ ?_
   ·(try dsimp only); refine ⟨hc7, ?_, by simp only [Ai, Av, Ay]; omega⟩; rw [hf, Yo _ hc7, Dg]
   ·(try dsimp only); omega
   refine Le.mk _ _ ?_ ?_ rfl <;> simp only [go_sem, simprocAttr, Ai, Av, Ay] <;> and_intros <;> try exact leA
  simp only [hcL] at hc7
  refine AS ?_
  simp only [go_sem, simprocAttr]
  refine Z 4 rfl ?_
  simp only [go_sem, simprocAttr, inI, DK]
  and_intros <;> try exact sdA
  refine hKL0 (i + 1, f) _ ?_ ?_ ?_
  ·(try dsimp only); refine ⟨hc3, ?_, by omega⟩; rw [hst, hf, hg, Bu hc7]
  ·(try dsimp only); omega
  exact leM
 simp only [hcL] at hc3
 refine AS ?_
 simp only [go_sem, simprocAttr]
 refine Aa (Aa (Z 10 rfl ?_))
 simp only [go_sem, simprocAttr, DK]
 refine Ao ?_
 refine AX (α := Nat × (List Fault)) (fun γ => (γ.1 <= ds.length) /\ (γ.2 = g ++ JE ps ds γ.1) /\ (γ.2.length <= g.length + 3 * γ.1)) (fun γ => ⟨mkE [(1, V.ptr 1 0), (3, .own 999 γ.2.length), (7, .int .i64 γ.1)], mkH [(1, Ob.box 25 [V.list (List.map Airport.enc ps) false, V.list (List.map Distance.enc ds) false]), (999, .arr 126 2 (Ax γ.2))]⟩) (fun γ => ds.length - γ.1) (0, g) ⟨Ar _, by rw [JE, Bl], Az _⟩ ?_ ?_
 ·exact leM
 rintro ⟨j, g2⟩ ⟨hj, hg2, hgl2⟩ KL4 hKL4
 try dsimp only at *
 refine Aa (Aa (Z 11 rfl ?_))
 simp only [go_sem, simprocAttr, DK]
 refine Ae rfl (fun hc11 => ?_) fun hc11 => ?_
 ·simp only [hcL] at hc11
  refine Af ?_
  refine Aa (Ao ?_)
  have hd := Hj (i := j) (by omega)
  have hi2 := JP (i := j) (by omega)
  have hj0 : (0 : Int) <= (j : Int) := by omega
  have e1 := Agf ps ds j
  have hst : JE ps ds (j + 1) = JE ps ds j ++ Gg (QI ++ dec j) (KJ ps ds j (ds.getD j Distance.zero)) := rfl
  have hel := Yh ps ds j (ds.getD j Distance.zero)
  generalize KJ ps ds j (ds.getD j Distance.zero) = es at e1 hst hel
  refine Aa (Z 13 rfl ?_)
  simp only [go_sem, simprocAttr, e1, hj0, hc11, hdm, hlp, DK]
  and_intros <;> try exact sdA
  refine Aa (Z 14 rfl ?_)
  simp only [go_sem, simprocAttr, DK]
  refine Ao ?_
  refine AX (α := Nat × (List Fault)) (fun γ => (γ.1 <= es.length) /\ (γ.2 = g2 ++ Gg (QI ++ dec j) (es.take γ.1)) /\ (γ.2.length <= g2.length + γ.1)) (fun γ => ⟨mkE [(1, V.ptr 1 0), (3, .own 999 γ.2.length), (7, V.int IntKind.i64 ↑j), (8, V.list (Aq es) false), (9, .int .i64 γ.1)], mkH [(1, Ob.box 25 [V.list (List.map Airport.enc ps) false, V.list (List.map Distance.enc ds) false]), (999, .arr 126 2 (Ax γ.2))]⟩) (fun γ => es.length - γ.1) (0, g2) ⟨Ar _, by simp [Gg], Az _⟩ ?_ ?_
  ·exact leM
  rintro ⟨k, f⟩ ⟨hk, hf, hfl⟩ KL6 hKL6
  try dsimp only at *
  refine Aa (Aa (Z 15 rfl ?_))
  simp only [go_sem, simprocAttr, DK]
  refine Ae rfl (fun hc15 => ?_) fun hc15 => ?_
  ·simp only [hcL] at hc15
   refine Af ?_
   refine Aa (Ao ?_)
   refine He (EF := EF0) hG mixed (by rw [hN]; exact Am4) Ain ?_
   simp only [Ru, XO, go_sem, simprocAttr, inI, GL _ _ _ hc15, hc15, AC, hi2, DK]
   and_intros <;> (try first | exact sdA | (simp only [Ai, Av, Ay]; omega))
   refine Z 16 rfl ?_
   simp only [go_sem, simprocAttr, inI, DK]
   and_intros <;> try exact sdA
   refine hKL6 (k + 1, f ++ [⟨es[k], QI ++ dec j⟩]) _ ?_ ?_ ?_
   ·(try dsimp only); refine ⟨hc15, ?_, by simp only [Ai, Av, Ay]; omega⟩; rw [hf, Yo _ hc15, Dg]
   ·(try dsimp only); omega
   refine Le.mk _ _ ?_ ?_ rfl <;> simp only [go_sem, simprocAttr, Ai, Av, Ay] <;> and_intros <;> try exact leA
  simp only [hcL] at hc15
  refine AS ?_
  simp only [go_sem, simprocAttr]
  refine Z 12 rfl ?_
  simp only [go_sem, simprocAttr, inI, DK]
  and_intros <;> try exact sdA
  refine hKL4 (j + 1, f) _ ?_ ?_ ?_
  ·(try dsimp only); refine ⟨hc11, ?_, by omega⟩; rw [hst, hf, hg2, Bu hc15, Dg]
  ·(try dsimp only); omega
  exact leM
 simp only [hcL] at hc11
 refine AS ?_
 simp only [go_sem, simprocAttr]
 refine Aa (Z 18 rfl ?_)
 simp only [go_sem, simprocAttr, DK]
 refine AW.le (s' := ⟨mkE [(2, .list (Ax g2) false)], mkH []⟩) (Le.mk _ _ ?_ ?_ rfl) (Ad (hQ _ _ (.inl rfl) ?_ ?_ ?_)) <;> simp only [go_sem, simprocAttr, Py, JC]
 ·exact DO rfl (by rw [Fo]) rfl (Gp _)
 rw [hg2, hg, Qm hi hc3, Qm hj hc11]
end Go.Proofs.YtjkclhbckfkeeaaGreatDoor
end
