import Derived.Test.YtjkclhbckfkeeaaGreatDoorPl4
set_option linter.unusedSimpArgs false
set_option linter.unusedVariables false
set_option linter.deprecated false
set_option maxHeartbeats 4000000
namespace Go.Proofs.YtjkclhbckfkeeaaGreatDoor
open Go Go.RowKit
theorem Ts : ∀ {L : AB Int} {c : List UInt8} {i : Nat} (hi : i < L.length) (v : Int), (∀ p ∈ L.take i, decide (p.1 = c) = false) → L[i].1 = c → Es L c v = L.set i (c, v)
 | (k, w) :: L, c, 0, _, v, _, h => by
  simp only [List.getElem_cons_zero] at h
  rw [Es, if_pos h]; rfl
 | (k, w) :: L, c, i + 1, hi, v, hp, h => by
  have h1 := hp (k, w) (by simp)
  rw [Es, if_neg (of_decide_eq_false h1), List.set_cons_succ]
  rw [Ts (L := L) (i := i) (by simpa using hi) v (fun p hq => hp p (by rw [List.take_succ_cons]; exact List.mem_cons_of_mem _ hq)) (by simpa using h)]
theorem Tr : ∀ {L : AB Int} {c : List UInt8} (v : Int), (∀ p ∈ L, decide (p.1 = c) = false) → Es L c v = L ++ [(c, v)]
 | [], _, _, _ => rfl
 | (k, w) :: L, c, v, hp => by
  rw [Es, if_neg (of_decide_eq_false (hp (k, w) (List.mem_cons_self ..))), Tr v fun p hq => hp p (List.mem_cons_of_mem _ hq)]; rfl
def Cw (L : AB Int) (c : List UInt8) (m : Int) : AB Int × Bool := match Bo L c with
 | some v => if v ≤ m then (L, false) else (Es L c m, true)
 | none => (Es L c m, true)
theorem Ge {L : AB Int} {c : List UInt8} {m v : Int} (h : Bo L c = some v) : Cw L c m = if v ≤ m then (L, false) else (Es L c m, true) := by unfold Cw; rw [h]
theorem Pf {L : AB Int} {c : List UInt8} {m : Int} (h : Bo L c = none) : Cw L c m = (Es L c m, true) := by unfold Cw; rw [h]
def spO (n : Nat) (L : AB Int) : List (Nat × Ob) := [(n, .arr 256 2 (Df L))]
theorem Rl (L : AB Int) (c : List UInt8) (m : Int) (hL : L.length ≤ 1000000) : Eff Tryz.prog UT 191 [.own 1000 L.length, .str c, .int .i64 m] (spO 1000 L) (.tup [.own 1000 (Cw L c m).1.length, .bool (Cw L c m).2]) (spO 1000 (Cw L c m).1) := by
 have hG := AC
 generalize hR : Cw L c m = R
 refine Aet.e (by simp) fun C hN Q hQ => ?_
 have Z := Aet.R EF0 hG hN
 refine Aa (Z 0 rfl ?_)
 simp only [go_sem, simprocAttr, spO]
 refine Aa (Aa (Z 1 rfl ?_))
 simp only [go_sem, simprocAttr, spO]
 refine Ad ?_
 refine Aj (α := Nat) (fun i => (i ≤ L.length) ∧ (∀ p ∈ L.take i, decide (p.1 = c) = false)) (fun i => ⟨mkE [(0, V.own 1000 (List.length L)), (1, V.str c), (2, V.int IntKind.i64 m), (8, .int .i64 i)], mkH [(1000, Ob.arr 256 2 (Df L))]⟩) (fun i => L.length - i) 0 (by simp) ?_ ?_
 ·exact leM
 rintro i ⟨hi, hp⟩ KL0 hKL0
 try dsimp only at *
 refine Aa (Aa (Z 2 rfl ?_))
 simp only [go_sem, simprocAttr, spO]
 refine Ab rfl (fun hc2 => ?_) fun hc2 => ?_
 ·simp only [hcL] at hc2
  refine Ac ?_
  refine Aa (Ad ?_)
  refine Aa (Z 4 rfl ?_)
  simp only [go_sem, simprocAttr, DT _ _ _ hc2, hc2, spO]
  and_intros <;> try exact sdA
  refine Ab rfl (fun hb => ?_) fun hb => ?_
  ·refine Aa ?_
   have hag := Tv hc2 hp (of_decide_eq_true hb)
   refine Aa (Z 5 rfl ?_)
   simp only [go_sem, simprocAttr, DT _ _ _ hc2, hc2, spO]
   and_intros <;> try exact sdA
   refine Ab rfl (fun hb5 => ?_) fun hb5 => ?_
   ·simp only [hcL] at hb5
    refine Aa (Z 6 rfl ?_)
    simp only [go_sem, simprocAttr, spO]
    have hfin : R = (L, false) := by rw [← hR, Ge hag, if_pos hb5]
    subst hfin
    refine Ae ?_
    show Q _ _
    refine hQ _ _ ⟨mkE [(6, .own 1000 L.length), (7, .bool false)], mkH (spO 1000 L)⟩ (.inl rfl) (Le.mk _ _ ?_ ?_ rfl) rfl ?_ ?_ <;> simp only [go_sem, simprocAttr, spO]
   simp only [hcL] at hb5
   refine Ac ?_
   have hec : L[i].1 = c := of_decide_eq_true hb
   refine Aa (Z 7 rfl ?_)
   simp only [go_sem, simprocAttr, DT _ _ _ hc2, hc2, hec, QF, spO]
   and_intros <;> try exact sdA
   refine Aa (Z 8 rfl ?_)
   simp only [go_sem, simprocAttr, spO]
   have hfin : R = (L.set i (c, m), true) := by rw [← hR, Ge hag, if_neg (by omega), Ts hc2 m hp hec]
   subst hfin
   refine Ae ?_
   show Q _ _
   refine hQ _ _ ⟨mkE [(6, .own 1000 (L.set i (c, m)).length), (7, .bool true)], mkH (spO 1000 (L.set i (c, m)))⟩ (.inl rfl) (Le.mk _ _ ?_ ?_ rfl) rfl ?_ ?_ <;> simp only [go_sem, simprocAttr, spO, List.length_set]
  refine Ac ?_
  refine Z 3 rfl ?_
  simp only [go_sem, simprocAttr, inI, spO]
  and_intros <;> try exact sdA
  refine hKL0 (i + 1) _ ?_ ?_ ?_
  ·(try dsimp only); exact ⟨hc2, Dz hc2 hp hb⟩
  ·(try dsimp only); omega
  exact leM
 simp only [hcL] at hc2
 refine Ai ?_
 simp only [go_sem, simprocAttr]
 refine Aa (Z 9 rfl ?_)
 simp only [go_sem, simprocAttr, OS, spO]
 and_intros <;> try exact sdA
 have hfin : R = (L ++ [(c, m)], true) := by rw [← hR, Pf (Tt hc2 hp), Tr m (RD hc2 hp)]
 subst hfin
 refine Ae ?_
 show Q _ _
 refine hQ _ _ ⟨mkE [(6, .own 1000 (L ++ [(c, m)]).length), (7, .bool true)], mkH (spO 1000 (L ++ [(c, m)]))⟩ (.inl rfl) (Le.mk _ _ ?_ ?_ rfl) rfl ?_ ?_ <;> simp only [go_sem, simprocAttr, spO, List.length_append, List.length_cons, List.length_nil]
def BR (L : AB Int) (x y : List UInt8) (n : Int) : AB Int × Bool := match Bo L x with
 | none => (L, false)
 | some m => match Bo L y with
  | some old => if old ≤ m + n then (L, false) else (Es L y (m + n), true)
  | none => (Es L y (m + n), true)
def Kd (L : AB Int) (x y : List UInt8) (n : Int) : Bool := !(Bo L x).isSome || ((Bo L y).isSome && decide ((Bo L y).getD 0 ≤ (Bo L x).getD 0 + n))
theorem Ja {L : AB Int} {x y : List UInt8} {n : Int} (h : Kd L x y n = true) : BR L x y n = (L, false) := by
 unfold Kd at h; unfold BR
 cases hx : Bo L x with
 | none => rfl
 | some m =>
  cases hy : Bo L y with
  | none => rw [hx, hy] at h; cases h
  | some old =>
   rw [hx, hy] at h
   have : old ≤ m + n := by simpa using h
   dsimp only
   rw [if_pos this]
theorem Ko {L : AB Int} {x y : List UInt8} {n : Int} (h : Kd L x y n = false) : BR L x y n = (Es L y ((Bo L x).getD 0 + n), true) := by
 unfold Kd at h; unfold BR
 cases hx : Bo L x with
 | none => rw [hx] at h; cases h
 | some m =>
  cases hy : Bo L y with
  | none => rfl
  | some old =>
   rw [hx, hy] at h
   have : ¬ old ≤ m + n := by simpa using h
   dsimp only
   rw [if_neg this]; rfl
def mpO (nb nm : Nat) (L : AB Int) : List (Nat × Ob) := [(nb, .box 240 [.map nm]), (nm, .mp (Eo fI8 L))]
theorem El {L : AB Int} {k : List UInt8} {v : Int} (h : Bo L k = some v) : (k, v) ∈ L := by
 unfold Bo at h
 obtain ⟨p, hp, rfl⟩ := Option.map_eq_some_iff.1 h
 have h1 := List.mem_of_find?_eq_some hp
 have h2 : p.1 = k := by simpa using List.find?_some hp
 rw [← h2]; exact h1
theorem Tu {L : AB Int} (h : ∀ p ∈ L, 0 ≤ p.2 ∧ p.2 ≤ 1000000000) (k : List UInt8) : 0 ≤ (Bo L k).getD 0 ∧ (Bo L k).getD 0 ≤ 1000000000 := by
 cases e : Bo L k with
 | none => simp
 | some v => exact h _ (El e)
theorem Rj (L : AB Int) (x y : List UInt8) (n : Int) (hL : ∀ p ∈ L, 0 ≤ p.2 ∧ p.2 ≤ 1000000000) (hn : 0 ≤ n ∧ n ≤ 1000000) : Eff Tryz.prog UT 181 [.str x, .str y, .int .i64 n, .ptr 1000 0] (mpO 1000 1001 L) (.bool (BR L x y n).2) (mpO 1000 1001 (BR L x y n).1) := by
 have hG := AC
 generalize hR : BR L x y n = R
 have hx := Tu hL x
 have hy := Tu hL y
 refine Aez.e (by simp) fun C hN Q hQ => ?_
 have Z := Aez.R EF0 hG hN
 refine Aa (Z 0 rfl ?_)
 simp only [go_sem, simprocAttr, mpO]
 refine Aa (Z 1 rfl ?_)
 simp only [go_sem, simprocAttr, mpO]
 and_intros <;> try exact sdA
 refine Aa (Z 2 rfl ?_)
 simp only [go_sem, simprocAttr, mpO]
 and_intros <;> try exact sdA
 refine Aa (Aa (Z 3 rfl ?_))
 simp only [go_sem, simprocAttr, inI, mpO]
 and_intros <;> try exact sdA
 refine Ab rfl (fun hb => ?_) fun hb => ?_
 ·refine Aa (Z 4 rfl ?_)
  simp only [go_sem, simprocAttr, mpO]
  have hfin : R = (L, false) := by rw [← hR]; exact Ja hb
  subst hfin
  refine Ae ?_
  show Q _ _
  refine hQ _ _ ⟨mkE [(7, .bool false)], mkH (mpO 1000 1001 L)⟩ (.inl rfl) (Le.mk _ _ ?_ ?_ rfl) rfl ?_ ?_ <;> simp only [go_sem, simprocAttr, mpO]
 refine Ac ?_
 refine Aa (Z 5 rfl ?_)
 simp only [go_sem, simprocAttr, inI, mpO]
 and_intros <;> try exact sdA
 refine Aa (Z 6 rfl ?_)
 simp only [go_sem, simprocAttr, mpO]
 have hfin : R = (Es L y ((Bo L x).getD 0 + n), true) := by rw [← hR]; exact Ko hb
 subst hfin
 refine Ae ?_
 show Q _ _
 refine hQ _ _ ⟨mkE [(7, .bool true)], mkH (mpO 1000 1001 (Es L y ((Bo L x).getD 0 + n)))⟩ (.inl rfl) (Le.mk _ _ ?_ ?_ rfl) rfl ?_ ?_ <;> simp only [go_sem, simprocAttr, mpO]
def Ee (L : AB Int) (f t : List UInt8) (n : Int) : AB Int × Bool := ((BR (BR L f t n).1 t f n).1, (BR L f t n).2 || (BR (BR L f t n).1 t f n).2)
def Er (L : AB Int) (f t : List UInt8) (n : Int) : AB Int × Bool := if 0 ≤ (Bo L f).getD (-1) then Cw L t ((Bo L f).getD (-1) + n) else (L, false)
def OQ (L : AB Int) (f t : List UInt8) (n : Int) : AB Int × Bool :=
 let r := Er L f t n
 let q := if 0 ≤ (Bo L t).getD (-1) then Cw r.1 f ((Bo L t).getD (-1) + n) else (r.1, false)
 (q.1, r.2 || q.2)
theorem Js {L : AB Int} (hL : ∀ p ∈ L, 0 ≤ p.2) (f t : List UInt8) (n : Int) : Er L f t n = BR L f t n := by
 unfold Er BR Cw
 cases hf : Bo L f with
 | none => rfl
 | some m =>
  have hm : 0 ≤ m := hL _ (El hf)
  simp only [Option.getD_some]
  rw [if_pos hm]
  try (cases Bo L t <;> rfl)
theorem QC {L : AB Int} (hL : ∀ p ∈ L, 0 ≤ p.2) (f t : List UInt8) {n : Int} (hn : 0 ≤ n) : OQ L f t n = Ee L f t n := by
 unfold OQ Ee
 rw [Js hL]
 dsimp only
 cases h1 : Kd L f t n with
 | true =>
  rw [Ja h1]
  have := Js hL t f n
  unfold Er at this
  dsimp only
  rw [this]
 | false =>
  rw [Ko h1]
  dsimp only
  have hx : ∃ m, Bo L f = some m := by
   unfold Kd at h1
   cases e : Bo L f with
   | none => rw [e] at h1; cases h1
   | some m => exact ⟨m, rfl⟩
  obtain ⟨m, hm⟩ := hx
  have hm0 : 0 ≤ m := hL _ (El hm)
  rw [hm, Option.getD_some]
  have hlt : ∀ o, Bo L t = some o → m + n < o := fun o ho => by
   unfold Kd at h1
   rw [hm, ho] at h1
   simp at h1
   omega
  have hne : t ≠ f := fun e => by
   subst e
   have := hlt m hm
   omega
  have g1 : Bo (Es L t (m + n)) t = some (m + n) := by rw [DH, if_pos rfl]
  have g2 : Bo (Es L t (m + n)) f = some m := by rw [DH, if_neg hne, hm]
  have e2 : BR (Es L t (m + n)) t f n = (Es L t (m + n), false) := Ja (by
   unfold Kd; rw [g1, g2]; simp; omega)
  rw [e2]
  cases ht : Bo L t with
  | none => rfl
  | some o =>
   have ho := hlt o ht
   rw [Option.getD_some, if_pos (by omega), Ge g2, if_pos (by omega)]
def iIf (b : Bool) (e : Int) : List Int := if b then [e] else []
theorem Gi {b : Bool} {e : Int} (h : b = true) : iIf b e = [e] := by rw [h]; rfl
theorem Gj {b : Bool} {e : Int} (h : b = false) : iIf b e = [] := by rw [h]; rfl
theorem JK {α : Type} (p : α → Bool) {l : List α} {k : Nat} (h : k < l.length) : (l.take (k + 1)).any p = ((l.take k).any p || p l[k]) := by rw [AI h, List.any_append]; simp
def dTwice (d x : Distance) : Bool := (decide (x.from' = d.from') && decide (x.to' = d.to')) || (decide (x.from' = d.to') && decide (x.to' = d.from'))
def Ft (ps : List Airport) (ds : List Distance) (i : Nat) (d : Distance) : List Int :=
 iIf (!(Ce (De d.from') ps).isSome || !(Ce (De d.to') ps).isSome) 14 ++ iIf ((ds.take i).any (dTwice d)) 6 ++ iIf (!Cj d || decide (d.from' = d.to')) 2
def aPi (x : Places × Int) : List V := [.agg x.1.enc, .int .i64 x.2]
theorem JP (a b : Places × Int) (h : aPi a = aPi b) : a = b := by
 obtain ⟨a_p, a_i⟩ := a
 obtain ⟨b_p, b_i⟩ := b
 simp only [aPi, List.cons.injEq, V.str.injEq, V.int.injEq, V.bool.injEq, V.agg.injEq, V.list.injEq, and_true, true_and] at h
 obtain ⟨h0, h1⟩ := h
 replace h0 := Places.inj _ _ h0
 subst h0
 subst h1
 rfl
def Agj (x : Places × Int) : Prop × V := (Lx x.1 ∧ 0 ≤ x.2 ∧ x.2.toNat < x.1.distances.length ∧ x.1.distances.length ≤ 1000000, .list (AY (Ft x.1.airports x.1.distances x.2.toNat (x.1.distances.getD x.2.toNat Distance.zero))) false)
noncomputable def In : Tab
 | 150 => (gOf aPs If)
 | 151 => (gOf Gv EL)
 | _ => gNo
theorem Zw : ∀ f, PU f (In f) := fun f => by
 unfold In
 split
 ·exact Rd
 ·exact Kn
 ·exact Ao.no
theorem LX : PU 90 (gOf aPi Agj) := by
 have hG := Zw
 refine AiH.a JP (by simp [aPi]) ?_
 rintro ⟨⟨ps, ds⟩, ii⟩ hv C hN Q hQ
 have Z := AiH.R EF0 hG hN
 obtain ⟨hlp, hi0, hin, hdl⟩ : Lx ⟨ps, ds⟩ ∧ 0 ≤ ii ∧ ii.toNat < ds.length ∧ ds.length ≤ 1000000 := hv
 obtain ⟨i, rfl⟩ : ∃ i : Nat, ii = (i : Int) := ⟨ii.toNat, by omega⟩
 rw [Int.toNat_natCast] at hin
 generalize hdd : ds[i] = d
 obtain ⟨df, dt, dm⟩ := d
 refine Aa (Z 0 rfl ?_)
 simp only [go_sem, simprocAttr, aPi, Places.enc, In]
 refine Aa (Z 1 rfl ?_)
 simp only [go_sem, simprocAttr, In]
 refine AW.le (s' := ⟨mkE [(1, .int .i64 i), (2, .ptr 2 0), (5, .own 999 0)], mkH ([(2, .box 25 [.list (ps.map Airport.enc) false, .list (ds.map Distance.enc) false]), (999, .arr 48 1 (AY []))])⟩) (Le.mk _ _ (by (simp only [go_sem, simprocAttr]) <;> and_intros <;> try exact leB) (by (simp only [go_sem, simprocAttr]) <;> and_intros <;> try exact leB) rfl) ?_
 refine Aa (Z 2 rfl ?_)
 simp only [go_sem, simprocAttr, Af _ _ _ _ hin, hin, hdd, Distance.enc, In]
 and_intros <;> try exact sdA
 refine Aa (Z 3 rfl ?_)
 simp only [go_sem, simprocAttr, GU, hlp, JR, Airport.enc, In]
 and_intros <;> try exact sdA
 refine Aa (Z 4 rfl ?_)
 simp only [go_sem, simprocAttr, GU, hlp, JR, Airport.enc, In]
 and_intros <;> try exact sdA
 refine BD (α := (List Int)) (fun g1 => (g1 = ([] : List Int) ++ iIf (!(Ce (De df) ps).isSome || !(Ce (De dt) ps).isSome) (14)) ∧ (g1.length ≤ ([] : List Int).length + 1)) (fun g1 => ⟨mkE [(1, V.int IntKind.i64 ↑i), (2, V.ptr 2 0), (5, .own 999 g1.length), (6, V.ptr 6 0)], mkH [(2, Ob.box 25 [V.list (List.map Airport.enc ps) false, V.list (List.map Distance.enc ds) false]), (6, Ob.box 215 [V.str df, V.str dt, V.int IntKind.i64 dm]), (999, .arr 48 1 (AY g1))]⟩) ?_ ?_
 ·intro KC5 hKC5
  refine Aa (Z 5 rfl ?_)
  simp only [go_sem, simprocAttr, In]
  and_intros <;> try exact sdA
  refine Ab rfl (fun hb5 => ?_) fun hb5 => ?_
  ·refine Z 6 rfl ?_
   simp only [go_sem, simprocAttr, In]
   and_intros <;> try exact sdA
   refine hKC5 (([] : List Int) ++ [14]) _ ?_ ?_
   ·(try dsimp only); exact ⟨by rw [Gi (show (!(Ce (De df) ps).isSome || !(Ce (De dt) ps).isSome) = true from hb5)], by simp⟩
   refine Le.mk _ _ ?_ ?_ rfl <;> simp only [go_sem, simprocAttr, Bm, List.length_append, List.length_cons, List.length_nil] <;> and_intros <;> try exact leA
  refine Ac ?_
  refine hKC5 (([] : List Int)) _ ?_ ?_
  ·(try dsimp only); exact ⟨by rw [Gj (show (!(Ce (De df) ps).isSome || !(Ce (De dt) ps).isSome) = false from hb5), List.append_nil], by omega⟩
  exact leM
 rintro g1 ⟨hg1, lg1⟩
 simp only [List.length_nil] at lg1
 refine Aa (Z 7 rfl ?_)
 simp only [go_sem, simprocAttr, In]
 refine Aa (Aa (Z 8 rfl ?_))
 simp only [go_sem, simprocAttr, In]
 refine Ad ?_
 refine Aj (α := Nat × Bool) (fun γ => (γ.1 ≤ i) ∧ (γ.2 = (ds.take γ.1).any (dTwice ⟨df, dt, dm⟩))) (fun γ => ⟨mkE [(1, V.int IntKind.i64 ↑i), (2, V.ptr 2 0), (5, V.own 999 g1.length), (6, V.ptr 6 0), (11, .bool γ.2), (12, .int .i64 γ.1)], mkH [(2, Ob.box 25 [V.list (List.map Airport.enc ps) false, V.list (List.map Distance.enc ds) false]), (6, Ob.box 215 [V.str df, V.str dt, V.int IntKind.i64 dm]), (999, Ob.arr 48 1 (AY g1))]⟩) (fun γ => i - γ.1) (0, false) ⟨Nat.zero_le _, rfl⟩ ?_ ?_
 ·exact leM
 rintro ⟨k, tw⟩ ⟨hk, htw⟩ KL0 hKL0
 try dsimp only at *
 refine Aa (Aa (Z 9 rfl ?_))
 simp only [go_sem, simprocAttr, In]
 refine Ab rfl (fun hc9 => ?_) fun hc9 => ?_
 ·simp only [hcL] at hc9
  refine Ac ?_
  refine Aa (Ad ?_)
  have hkd : k < ds.length := by omega
  refine Aa (Z 11 rfl ?_)
  simp only [go_sem, simprocAttr, Af _ _ _ _ hkd, hkd, Distance.enc, In]
  and_intros <;> try exact sdA
  refine Z 12 rfl ?_
  simp only [go_sem, simprocAttr, In]
  and_intros <;> (try first | exact sdA | (intro h; exact ⟨h, fun h2 => by rw [h, h2]; rfl⟩))
  refine Z 10 rfl ?_
  simp only [go_sem, simprocAttr, inI, In]
  and_intros <;> try exact sdA
  refine hKL0 (k + 1, tw || dTwice ⟨df, dt, dm⟩ ds[k]) _ ?_ ?_ ?_
  ·(try dsimp only); exact ⟨by omega, by rw [JK _ hkd, htw]⟩
  ·(try dsimp only); omega
  refine Le.mk _ _ ?_ ?_ rfl <;> simp only [go_sem, simprocAttr, dTwice, Bool.or_assoc] <;> and_intros <;> try exact leA
 simp only [hcL] at hc9
 have hki : k = i := by omega
 refine Ai ?_
 simp only [go_sem, simprocAttr]
 refine BD (α := (List Int)) (fun g2 => (g2 = g1 ++ iIf (tw) (6)) ∧ (g2.length ≤ g1.length + 1)) (fun g2 => ⟨mkE [(5, .own 999 g2.length), (6, V.ptr 6 0)], mkH [(6, Ob.box 215 [V.str df, V.str dt, V.int IntKind.i64 dm]), (999, .arr 48 1 (AY g2))]⟩) ?_ ?_
 ·intro KC13 hKC13
  refine Aa (Z 13 rfl ?_)
  simp only [go_sem, simprocAttr, In]
  refine Ab rfl (fun hb13 => ?_) fun hb13 => ?_
  ·refine Z 14 rfl ?_
   simp only [go_sem, simprocAttr, In]
   and_intros <;> try exact sdA
   refine hKC13 (g1 ++ [6]) _ ?_ ?_
   ·(try dsimp only); exact ⟨by rw [Gi (show (tw) = true from hb13)], by simp⟩
   refine Le.mk _ _ ?_ ?_ rfl <;> simp only [go_sem, simprocAttr, Bm, List.length_append, List.length_cons, List.length_nil] <;> and_intros <;> try exact leA
  refine Ac ?_
  refine hKC13 (g1) _ ?_ ?_
  ·(try dsimp only); exact ⟨by rw [Gj (show (tw) = false from hb13), List.append_nil], by omega⟩
  exact leM
 rintro g2 ⟨hg2, lg2⟩
 refine BD (α := (List Int)) (fun g3 => (g3 = g2 ++ iIf (!Cj ⟨df, dt, dm⟩ || decide (df = dt)) (2)) ∧ (g3.length ≤ g2.length + 1)) (fun g3 => ⟨mkE [(5, .own 999 g3.length)], mkH [(999, .arr 48 1 (AY g3))]⟩) ?_ ?_
 ·intro KC15 hKC15
  refine Aa (Z 15 rfl ?_)
  simp only [go_sem, simprocAttr, Gl, In]
  and_intros <;> try exact sdA
  refine Ab rfl (fun hb15 => ?_) fun hb15 => ?_
  ·refine Z 16 rfl ?_
   simp only [go_sem, simprocAttr, In]
   and_intros <;> try exact sdA
   refine hKC15 (g2 ++ [2]) _ ?_ ?_
   ·(try dsimp only); exact ⟨by rw [Gi (show (!Cj ⟨df, dt, dm⟩ || decide (df = dt)) = true from hb15)], by simp⟩
   refine Le.mk _ _ ?_ ?_ rfl <;> simp only [go_sem, simprocAttr, Bm, List.length_append, List.length_cons, List.length_nil] <;> and_intros <;> try exact leA
  refine Ac ?_
  refine hKC15 (g2) _ ?_ ?_
  ·(try dsimp only); exact ⟨by rw [Gj (show (!Cj ⟨df, dt, dm⟩ || decide (df = dt)) = false from hb15), List.append_nil], by omega⟩
  exact leM
 rintro g3 ⟨hg3, lg3⟩
 refine Aa (Z 17 rfl ?_)
 simp only [go_sem, simprocAttr, In]
 refine AW.le (s' := ⟨mkE [(4, .list (AY g3) false)], mkH []⟩) (Le.mk _ _ ?_ ?_ rfl) (Ae (hQ _ _ (.inl rfl) ?_ ?_ ?_)) <;> simp only [go_sem, simprocAttr, Agj, Int.toNat_natCast]
 ·exact Cq rfl (by rw [Bp]) rfl (CV _)
 rw [BX _ _ _ hin, hdd, hg3, hg2, hg1, htw, hki]; rfl
def aTwice (a x : Airport) : Bool := decide (x.code = a.code)
def aMoved (a x : Airport) : Bool := decide (x.city = a.city) && !decide (x.country = a.country)
def Fv (ps : List Airport) (i : Nat) (a : Airport) : List Int :=
 iIf (!CO 3 a.code || !CO 3 a.city || !CO 2 a.country) 5 ++ iIf ((ps.take i).any (aTwice a)) 6 ++ iIf ((ps.take i).any (aMoved a)) 8 ++ iIf (!decide (Ly a.zone = 0)) (Ly a.zone)
def Agm (x : Places × Int) : Prop × V := (0 ≤ x.2 ∧ x.2.toNat < x.1.airports.length ∧ x.1.airports.length ≤ 1000000 ∧ (∀ a ∈ x.1.airports, a.ok), .list (AY (Fv x.1.airports x.2.toNat (x.1.airports.getD x.2.toNat Airport.zero))) false)
theorem Wt (zo : Int) (sh : List Shift) : gOf Lu Ie [.agg [.int .i64 zo, .list (sh.map Shift.enc) false]] = ((⟨zo, sh⟩ : Zone).ok, .int .i64 (Ly ⟨zo, sh⟩)) := Ar Lt (⟨zo, sh⟩ : Zone)
noncomputable def Ic : Tab
 | 129 => (gOf Ey (Ig 3))
 | 131 => (gOf Ey (Ig 2))
 | 149 => (gOf Lu Ie)
 | _ => gNo
theorem ZB : ∀ f, PU f (Ic f) := fun f => by
 unfold Ic
 split
 ·exact Gf
 ·exact Hj
 ·exact Aaa
 ·exact Ao.no
theorem Ro : PU 89 (gOf aPi Agm) := by
 have hG := ZB
 refine AiI.a JP (by simp [aPi]) ?_
 rintro ⟨⟨ps, ds⟩, ii⟩ hv C hN Q hQ
 have Y := AiI.D EF0 hG hN mixed
 have Z := AiI.R EF0 hG hN
 obtain ⟨hi0, hin, hpl, hpo⟩ : 0 ≤ ii ∧ ii.toNat < ps.length ∧ ps.length ≤ 1000000 ∧ ∀ a ∈ ps, a.ok := hv
 obtain ⟨i, rfl⟩ : ∃ i : Nat, ii = (i : Int) := ⟨ii.toNat, by omega⟩
 rw [Int.toNat_natCast] at hin
 obtain ⟨h1, h2, h3, h4⟩ := hpo _ (List.getElem_mem hin)
 generalize haa : ps[i] = a at h1 h2 h3 h4
 obtain ⟨ac, at', an, ⟨zo, sh⟩⟩ := a
 dsimp only at h1 h2 h3 h4
 refine Aa (Z 0 rfl ?_)
 simp only [go_sem, simprocAttr, aPi, Places.enc, Ic, Am]
 refine Aa (Z 1 rfl ?_)
 simp only [go_sem, simprocAttr, Ic, Am]
 refine AW.le (s' := ⟨mkE [(1, .int .i64 i), (2, .ptr 2 0), (5, .own 999 0)], mkH ([(2, .box 25 [.list (ps.map Airport.enc) false, .list (ds.map Distance.enc) false]), (999, .arr 48 1 (AY []))])⟩) (Le.mk _ _ (by (simp only [go_sem, simprocAttr]) <;> and_intros <;> try exact leB) (by (simp only [go_sem, simprocAttr]) <;> and_intros <;> try exact leB) rfl) ?_
 refine Aa (Z 2 rfl ?_)
 simp only [go_sem, simprocAttr, Af _ _ _ _ hin, hin, haa, Airport.enc, Ic, Am]
 and_intros <;> try exact sdA
 refine BD (α := (List Int)) (fun g1 => (g1 = ([] : List Int) ++ iIf (!CO 3 ac || !CO 3 at' || !CO 2 an) (5)) ∧ (g1.length ≤ ([] : List Int).length + 1)) (fun g1 => ⟨mkE [(1, V.int IntKind.i64 ↑i), (2, V.ptr 2 0), (5, .own 999 g1.length), (6, V.ptr 6 0)], mkH [(2, Ob.box 25 [V.list (List.map Airport.enc ps) false, V.list (List.map Distance.enc ds) false]), (6, Ob.box 212 [V.str ac, V.str at', V.str an, V.int IntKind.i64 zo, V.list (List.map Shift.enc sh) false]), (999, .arr 48 1 (AY g1))]⟩) ?_ ?_
 ·intro KC3 hKC3
  refine Aa (Z 3 rfl ?_)
  simp only [go_sem, simprocAttr, h1, h2, h3, Ic, Am]
  and_intros <;> try exact sdA
  refine Ab rfl (fun hb3 => ?_) fun hb3 => ?_
  ·refine Z 4 rfl ?_
   simp only [go_sem, simprocAttr, Ic, Am]
   and_intros <;> try exact sdA
   refine hKC3 (([] : List Int) ++ [5]) _ ?_ ?_
   ·(try dsimp only); exact ⟨by rw [Gi (show (!CO 3 ac || !CO 3 at' || !CO 2 an) = true from hb3)], by simp⟩
   refine Le.mk _ _ ?_ ?_ rfl <;> simp only [go_sem, simprocAttr, Bm, List.length_append, List.length_cons, List.length_nil] <;> and_intros <;> try exact leA
  refine Ac ?_
  refine hKC3 (([] : List Int)) _ ?_ ?_
  ·(try dsimp only); exact ⟨by rw [Gj (show (!CO 3 ac || !CO 3 at' || !CO 2 an) = false from hb3), List.append_nil], by omega⟩
  exact leM
 rintro g1 ⟨hg1, lg1⟩
 simp only [List.length_nil] at lg1
 refine Aa (Z 5 rfl ?_)
 simp only [go_sem, simprocAttr, Ic, Am]
 refine Aa (Aa (Z 6 rfl ?_))
 simp only [go_sem, simprocAttr, Ic, Am]
 refine Ad ?_
 refine Aj (α := Nat × Bool × Bool) (fun γ => (γ.1 ≤ i) ∧ (γ.2.1 = (ps.take γ.1).any (aTwice ⟨ac, at', an, ⟨zo, sh⟩⟩)) ∧ (γ.2.2 = (ps.take γ.1).any (aMoved ⟨ac, at', an, ⟨zo, sh⟩⟩))) (fun γ => ⟨mkE [(1, V.int IntKind.i64 ↑i), (2, V.ptr 2 0), (5, V.own 999 g1.length), (6, V.ptr 6 0), (7, .bool γ.2.1), (8, .bool γ.2.2), (9, .int .i64 γ.1)], mkH [(2, Ob.box 25 [V.list (List.map Airport.enc ps) false, V.list (List.map Distance.enc ds) false]), (6, Ob.box 212 [V.str ac, V.str at', V.str an, V.int IntKind.i64 zo, V.list (List.map Shift.enc sh) false]), (999, Ob.arr 48 1 (AY g1))]⟩) (fun γ => i - γ.1) (0, false, false) ⟨Nat.zero_le _, rfl, rfl⟩ ?_ ?_
 ·exact leM
 rintro ⟨k, tw, mo⟩ ⟨hk, htw, hmo⟩ KL0 hKL0
 try dsimp only at *
 refine Aa (Aa (Z 7 rfl ?_))
 simp only [go_sem, simprocAttr, Ic, Am]
 refine Ab rfl (fun hc7 => ?_) fun hc7 => ?_
 ·simp only [hcL] at hc7
  refine Ac ?_
  refine Aa (Ad ?_)
  have hkd : k < ps.length := by omega
  refine Aa (Y 9 rfl (by kernel_rfl) ?_)
  simp only [go_sem, simprocAttr, Af _ _ _ _ hkd, hkd, Airport.enc, Ic, Am]
  and_intros <;> try exact sdA
  refine Y 10 rfl (by kernel_rfl) ?_
  simp only [go_sem, simprocAttr, Af _ _ _ _ hkd, hkd, Airport.enc, Ic, Am]
  and_intros <;> (try first | exact sdA | (intro h; exact ⟨h, fun h2 => by rw [h, h2]; rfl⟩))
  refine Z 8 rfl ?_
  simp only [go_sem, simprocAttr, inI, Ic, Am]
  and_intros <;> try exact sdA
  refine hKL0 (k + 1, tw || aTwice ⟨ac, at', an, ⟨zo, sh⟩⟩ ps[k], mo || aMoved ⟨ac, at', an, ⟨zo, sh⟩⟩ ps[k]) _ ?_ ?_ ?_
  ·(try dsimp only); exact ⟨by omega, by rw [JK _ hkd, htw], by rw [JK _ hkd, hmo]⟩
  ·(try dsimp only); omega
  refine Le.mk _ _ ?_ ?_ rfl <;> simp only [go_sem, simprocAttr, aTwice, aMoved] <;> and_intros <;> try exact leA
 simp only [hcL] at hc7
 have hki : k = i := by omega
 refine Ai ?_
 simp only [go_sem, simprocAttr]
 refine BD (α := (List Int)) (fun g2 => (g2 = g1 ++ iIf (tw) (6)) ∧ (g2.length ≤ g1.length + 1)) (fun g2 => ⟨mkE [(5, .own 999 g2.length), (6, V.ptr 6 0), (8, V.bool mo)], mkH [(6, Ob.box 212 [V.str ac, V.str at', V.str an, V.int IntKind.i64 zo, V.list (List.map Shift.enc sh) false]), (999, .arr 48 1 (AY g2))]⟩) ?_ ?_
 ·intro KC11 hKC11
  refine Aa (Z 11 rfl ?_)
  simp only [go_sem, simprocAttr, Ic, Am]
  refine Ab rfl (fun hb11 => ?_) fun hb11 => ?_
  ·refine Z 12 rfl ?_
   simp only [go_sem, simprocAttr, Ic, Am]
   and_intros <;> try exact sdA
   refine hKC11 (g1 ++ [6]) _ ?_ ?_
   ·(try dsimp only); exact ⟨by rw [Gi (show (tw) = true from hb11)], by simp⟩
   refine Le.mk _ _ ?_ ?_ rfl <;> simp only [go_sem, simprocAttr, Bm, List.length_append, List.length_cons, List.length_nil] <;> and_intros <;> try exact leA
  refine Ac ?_
  refine hKC11 (g1) _ ?_ ?_
  ·(try dsimp only); exact ⟨by rw [Gj (show (tw) = false from hb11), List.append_nil], by omega⟩
  exact leM
 rintro g2 ⟨hg2, lg2⟩
 refine BD (α := (List Int)) (fun g3 => (g3 = g2 ++ iIf (mo) (8)) ∧ (g3.length ≤ g2.length + 1)) (fun g3 => ⟨mkE [(5, .own 999 g3.length), (6, V.ptr 6 0)], mkH [(6, Ob.box 212 [V.str ac, V.str at', V.str an, V.int IntKind.i64 zo, V.list (List.map Shift.enc sh) false]), (999, .arr 48 1 (AY g3))]⟩) ?_ ?_
 ·intro KC13 hKC13
  refine Aa (Z 13 rfl ?_)
  simp only [go_sem, simprocAttr, Ic, Am]
  refine Ab rfl (fun hb13 => ?_) fun hb13 => ?_
  ·refine Z 14 rfl ?_
   simp only [go_sem, simprocAttr, Ic, Am]
   and_intros <;> try exact sdA
   refine hKC13 (g2 ++ [8]) _ ?_ ?_
   ·(try dsimp only); exact ⟨by rw [Gi (show (mo) = true from hb13)], by simp⟩
   refine Le.mk _ _ ?_ ?_ rfl <;> simp only [go_sem, simprocAttr, Bm, List.length_append, List.length_cons, List.length_nil] <;> and_intros <;> try exact leA
  refine Ac ?_
  refine hKC13 (g2) _ ?_ ?_
  ·(try dsimp only); exact ⟨by rw [Gj (show (mo) = false from hb13), List.append_nil], by omega⟩
  exact leM
 rintro g3 ⟨hg3, lg3⟩
 refine Aa (Z 15 rfl ?_)
 simp only [go_sem, simprocAttr, Wt, h4, Ic, Am]
 and_intros <;> try exact sdA
 refine BD (α := (List Int)) (fun g4 => (g4 = g3 ++ iIf (!decide (Ly ⟨zo, sh⟩ = 0)) (Ly ⟨zo, sh⟩)) ∧ (g4.length ≤ g3.length + 1)) (fun g4 => ⟨mkE [(5, .own 999 g4.length)], mkH [(999, .arr 48 1 (AY g4))]⟩) ?_ ?_
 ·intro KC16 hKC16
  refine Aa (Z 16 rfl ?_)
  simp only [go_sem, simprocAttr, Ic, Am]
  refine Ab rfl (fun hb16 => ?_) fun hb16 => ?_
  ·refine Z 17 rfl ?_
   simp only [go_sem, simprocAttr, Ic, Am]
   and_intros <;> try exact sdA
   refine hKC16 (g3 ++ [Ly ⟨zo, sh⟩]) _ ?_ ?_
   ·(try dsimp only); exact ⟨by rw [Gi (show (!decide (Ly ⟨zo, sh⟩ = 0)) = true from hb16)], by simp⟩
   refine Le.mk _ _ ?_ ?_ rfl <;> simp only [go_sem, simprocAttr, Bm, List.length_append, List.length_cons, List.length_nil] <;> and_intros <;> try exact leA
  refine Ac ?_
  refine hKC16 (g3) _ ?_ ?_
  ·(try dsimp only); exact ⟨by rw [Gj (show (!decide (Ly ⟨zo, sh⟩ = 0)) = false from hb16), List.append_nil], by omega⟩
  exact leM
 rintro g4 ⟨hg4, lg4⟩
 refine Aa (Z 18 rfl ?_)
 simp only [go_sem, simprocAttr, Ic, Am]
 refine AW.le (s' := ⟨mkE [(4, .list (AY g4) false)], mkH []⟩) (Le.mk _ _ ?_ ?_ rfl) (Ae (hQ _ _ (.inl rfl) ?_ ?_ ?_)) <;> simp only [go_sem, simprocAttr, Agm, Int.toNat_natCast]
 ·exact Cq rfl (by rw [Bp]) rfl (CV _)
 rw [BX _ _ _ hin, haa, hg4, hg3, hg2, hg1, htw, hmo, hki]; rfl
def Af9 : List UInt8 := [97, 105, 114, 112, 111, 114, 116, 32]
def Af7 : List UInt8 := [100, 105, 115, 116, 97, 110, 99, 101, 32]
def PO (path : List UInt8) (es : List Int) : List Fault := es.map fun e => ⟨e, path⟩
theorem Lg (path : List UInt8) {es : List Int} {k : Nat} (h : k < es.length) : PO path (es.take (k + 1)) = PO path (es.take k) ++ [⟨es[k], path⟩] := by unfold PO; rw [AI h, List.map_append]; rfl
def MD (ps : List Airport) : Nat → List Fault
 | 0 => []
 | i + 1 => MD ps i ++ PO (Af9 ++ dec i) (Fv ps i (ps.getD i Airport.zero))
def Lj (ps : List Airport) (ds : List Distance) : Nat → List Fault
 | 0 => []
 | i + 1 => Lj ps ds i ++ PO (Af7 ++ dec i) (Ft ps ds i (ds.getD i Distance.zero))
def Abk (p : Places) : List Fault := MD p.airports p.airports.length ++ Lj p.airports p.distances p.distances.length
theorem Fm (b : Bool) (e : Int) : (iIf b e).length ≤ 1 := by unfold iIf; split <;> simp
theorem HW (ps i a) : (Fv ps i a).length ≤ 4 := by
 unfold Fv
 have a1 := Fm (!CO 3 a.code || !CO 3 a.city || !CO 2 a.country) 5
 have a2 := Fm ((ps.take i).any (aTwice a)) 6
 have a3 := Fm ((ps.take i).any (aMoved a)) 8
 have a4 := Fm (!decide (Ly a.zone = 0)) (Ly a.zone)
 simp only [List.length_append]; omega
theorem HN (ps ds i d) : (Ft ps ds i d).length ≤ 3 := by
 unfold Ft
 have a1 := Fm (!(Ce (De d.from') ps).isSome || !(Ce (De d.to') ps).isSome) 14
 have a2 := Fm ((ds.take i).any (dTwice d)) 6
 have a3 := Fm (!Cj d || decide (d.from' = d.to')) 2
 simp only [List.length_append]; omega
theorem Aa8 (ps : List Airport) (ds : List Distance) (i : Nat) : gOf aPi Agm [.agg [.list (ps.map Airport.enc) false, .list (ds.map Distance.enc) false], .int .i64 (i : Int)] = (0 ≤ (i : Int) ∧ i < ps.length ∧ ps.length ≤ 1000000 ∧ (∀ a ∈ ps, a.ok), .list (AY (Fv ps i (ps.getD i Airport.zero))) false) := Ar JP (⟨ps, ds⟩, (i : Int))
theorem Aa6 (ps : List Airport) (ds : List Distance) (i : Nat) : gOf aPi Agj [.agg [.list (ps.map Airport.enc) false, .list (ds.map Distance.enc) false], .int .i64 (i : Int)] = (Lx ⟨ps, ds⟩ ∧ 0 ≤ (i : Int) ∧ i < ds.length ∧ ds.length ≤ 1000000, .list (AY (Ft ps ds i (ds.getD i Distance.zero))) false) := Ar JP (⟨ps, ds⟩, (i : Int))
theorem Ah (n) : Jn [.int .i64 n] = (inI n, .str (dec n)) := rfl
theorem GA {i : Nat} (h : i ≤ 1000000) : inI (i : Int) := ⟨by omega, by omega⟩
def Sm (p : Places) : Prop := p.airports.length ≤ 1000 ∧ p.distances.length ≤ 1000 ∧ ∀ a ∈ p.airports, a.ok
def Agk (p : Places) : Prop × V := (Sm p, .list (An (Abk p)) false)
noncomputable def Ia : Tab
 | 89 => (gOf aPi Agm)
 | 90 => (gOf aPi Agj)
 | 68 => Jn
 | _ => gNo
theorem YN : ∀ f, PU f (Ia f) := fun f => by
 unfold Ia
 split
 ·exact Ro
 ·exact LX
 ·exact DU
 ·exact Ao.no
theorem VI : PU 43 (gOf aP1 Agk) := by
 have hG := YN
 refine Ai9.a TE (by simp [aP1]) ?_
 rintro ⟨ps, ds⟩ hv C hN Q hQ
 have Z := Ai9.R EF0 hG hN
 obtain ⟨hpl, hdl, hok⟩ : ps.length ≤ 1000 ∧ ds.length ≤ 1000 ∧ ∀ a ∈ ps, a.ok := hv
 have hlp : Lx ⟨ps, ds⟩ := ⟨by dsimp only; omega, by dsimp only; omega⟩
 have hpm : ps.length ≤ 1000000 := by omega
 have hdm : ds.length ≤ 1000000 := by omega
 refine Aa (Z 0 rfl ?_)
 simp only [go_sem, simprocAttr, aP1, Places.enc, Ia]
 refine Aa (Z 1 rfl ?_)
 simp only [go_sem, simprocAttr, Ia]
 refine Aa (Aa (Z 2 rfl ?_))
 simp only [go_sem, simprocAttr, Ia]
 refine Ad ?_
 refine Aj (α := Nat × (List Fault)) (fun γ => (γ.1 ≤ ps.length) ∧ (γ.2 = MD ps γ.1) ∧ (γ.2.length ≤ 4 * γ.1)) (fun γ => ⟨mkE [(1, V.ptr 1 0), (3, .own 999 γ.2.length), (4, .int .i64 γ.1)], mkH [(1, Ob.box 25 [V.list (List.map Airport.enc ps) false, V.list (List.map Distance.enc ds) false]), (999, .arr 126 2 (An γ.2))]⟩) (fun γ => ps.length - γ.1) (0, []) ⟨Nat.zero_le _, rfl, Nat.le_refl _⟩ ?_ ?_
 ·exact leM
 rintro ⟨i, g⟩ ⟨hi, hg, hgl⟩ KL0 hKL0
 try dsimp only at *
 refine Aa (Aa (Z 3 rfl ?_))
 simp only [go_sem, simprocAttr, Ia]
 refine Ab rfl (fun hc3 => ?_) fun hc3 => ?_
 ·simp only [hcL] at hc3
  refine Ac ?_
  refine Aa (Ad ?_)
  have hd := CB (i := i) (by omega)
  have hi2 := GA (i := i) (by omega)
  have hi0 : (0 : Int) ≤ (i : Int) := by omega
  have e1 := Aa8 ps ds i
  have hst : MD ps (i + 1) = MD ps i ++ PO (Af9 ++ dec i) (Fv ps i (ps.getD i Airport.zero)) := rfl
  have hel := HW ps i (ps.getD i Airport.zero)
  generalize Fv ps i (ps.getD i Airport.zero) = es at e1 hst hel
  refine Aa (Z 5 rfl ?_)
  simp only [go_sem, simprocAttr, e1, hi0, hc3, hpm, hok, Ia]
  and_intros <;> try exact sdA
  refine Aa (Z 6 rfl ?_)
  simp only [go_sem, simprocAttr, Ia]
  refine Ad ?_
  refine Aj (α := Nat × (List Fault)) (fun γ => (γ.1 ≤ es.length) ∧ (γ.2 = g ++ PO (Af9 ++ dec i) (es.take γ.1)) ∧ (γ.2.length ≤ g.length + γ.1)) (fun γ => ⟨mkE [(1, V.ptr 1 0), (3, .own 999 γ.2.length), (4, V.int IntKind.i64 ↑i), (5, V.list (AY es) false), (6, .int .i64 γ.1)], mkH [(1, Ob.box 25 [V.list (List.map Airport.enc ps) false, V.list (List.map Distance.enc ds) false]), (999, .arr 126 2 (An γ.2))]⟩) (fun γ => es.length - γ.1) (0, g) ⟨Nat.zero_le _, by simp [PO], Nat.le_refl _⟩ ?_ ?_
  ·exact leM
  rintro ⟨k, f⟩ ⟨hk, hf, hfl⟩ KL2 hKL2
  try dsimp only at *
  refine Aa (Aa (Z 7 rfl ?_))
  simp only [go_sem, simprocAttr, Ia]
  refine Ab rfl (fun hc7 => ?_) fun hc7 => ?_
  ·simp only [hcL] at hc7
   refine Ac ?_
   refine Aa (Ad ?_)
   refine As (EF := EF0) hG mixed (by rw [hN]; exact Acy) AdK ?_
   simp only [AbB, AfB, go_sem, simprocAttr, inI, AV _ _ _ hc7, hc7, Ah, hi2, Ia]
   and_intros <;> (try first | exact sdA | (simp only [List.length_append, List.length_cons, List.length_nil]; omega))
   refine Z 8 rfl ?_
   simp only [go_sem, simprocAttr, inI, Ia]
   and_intros <;> try exact sdA
   refine hKL2 (k + 1, f ++ [⟨es[k], Af9 ++ dec i⟩]) _ ?_ ?_ ?_
   ·(try dsimp only); refine ⟨hc7, ?_, by simp only [List.length_append, List.length_cons, List.length_nil]; omega⟩; rw [hf, Lg _ hc7, List.append_assoc]
   ·(try dsimp only); omega
   refine Le.mk _ _ ?_ ?_ rfl <;> simp only [go_sem, simprocAttr, List.length_append, List.length_cons, List.length_nil] <;> and_intros <;> try exact leA
  simp only [hcL] at hc7
  refine Ai ?_
  simp only [go_sem, simprocAttr]
  refine Z 4 rfl ?_
  simp only [go_sem, simprocAttr, inI, Ia]
  and_intros <;> try exact sdA
  refine hKL0 (i + 1, f) _ ?_ ?_ ?_
  ·(try dsimp only); refine ⟨hc3, ?_, by omega⟩; rw [hst, hf, hg, List.take_of_length_le hc7]
  ·(try dsimp only); omega
  exact leM
 simp only [hcL] at hc3
 refine Ai ?_
 simp only [go_sem, simprocAttr]
 refine Aa (Aa (Z 10 rfl ?_))
 simp only [go_sem, simprocAttr, Ia]
 refine Ad ?_
 refine Aj (α := Nat × (List Fault)) (fun γ => (γ.1 ≤ ds.length) ∧ (γ.2 = g ++ Lj ps ds γ.1) ∧ (γ.2.length ≤ g.length + 3 * γ.1)) (fun γ => ⟨mkE [(1, V.ptr 1 0), (3, .own 999 γ.2.length), (7, .int .i64 γ.1)], mkH [(1, Ob.box 25 [V.list (List.map Airport.enc ps) false, V.list (List.map Distance.enc ds) false]), (999, .arr 126 2 (An γ.2))]⟩) (fun γ => ds.length - γ.1) (0, g) ⟨Nat.zero_le _, by rw [Lj, List.append_nil], Nat.le_refl _⟩ ?_ ?_
 ·exact leM
 rintro ⟨j, g2⟩ ⟨hj, hg2, hgl2⟩ KL4 hKL4
 try dsimp only at *
 refine Aa (Aa (Z 11 rfl ?_))
 simp only [go_sem, simprocAttr, Ia]
 refine Ab rfl (fun hc11 => ?_) fun hc11 => ?_
 ·simp only [hcL] at hc11
  refine Ac ?_
  refine Aa (Ad ?_)
  have hd := CB (i := j) (by omega)
  have hi2 := GA (i := j) (by omega)
  have hj0 : (0 : Int) ≤ (j : Int) := by omega
  have e1 := Aa6 ps ds j
  have hst : Lj ps ds (j + 1) = Lj ps ds j ++ PO (Af7 ++ dec j) (Ft ps ds j (ds.getD j Distance.zero)) := rfl
  have hel := HN ps ds j (ds.getD j Distance.zero)
  generalize Ft ps ds j (ds.getD j Distance.zero) = es at e1 hst hel
  refine Aa (Z 13 rfl ?_)
  simp only [go_sem, simprocAttr, e1, hj0, hc11, hdm, hlp, Ia]
  and_intros <;> try exact sdA
  refine Aa (Z 14 rfl ?_)
  simp only [go_sem, simprocAttr, Ia]
  refine Ad ?_
  refine Aj (α := Nat × (List Fault)) (fun γ => (γ.1 ≤ es.length) ∧ (γ.2 = g2 ++ PO (Af7 ++ dec j) (es.take γ.1)) ∧ (γ.2.length ≤ g2.length + γ.1)) (fun γ => ⟨mkE [(1, V.ptr 1 0), (3, .own 999 γ.2.length), (7, V.int IntKind.i64 ↑j), (8, V.list (AY es) false), (9, .int .i64 γ.1)], mkH [(1, Ob.box 25 [V.list (List.map Airport.enc ps) false, V.list (List.map Distance.enc ds) false]), (999, .arr 126 2 (An γ.2))]⟩) (fun γ => es.length - γ.1) (0, g2) ⟨Nat.zero_le _, by simp [PO], Nat.le_refl _⟩ ?_ ?_
  ·exact leM
  rintro ⟨k, f⟩ ⟨hk, hf, hfl⟩ KL6 hKL6
  try dsimp only at *
  refine Aa (Aa (Z 15 rfl ?_))
  simp only [go_sem, simprocAttr, Ia]
  refine Ab rfl (fun hc15 => ?_) fun hc15 => ?_
  ·simp only [hcL] at hc15
   refine Ac ?_
   refine Aa (Ad ?_)
   refine As (EF := EF0) hG mixed (by rw [hN]; exact YR) Aas ?_
   simp only [TN, XQ, go_sem, simprocAttr, inI, AV _ _ _ hc15, hc15, Ah, hi2, Ia]
   and_intros <;> (try first | exact sdA | (simp only [List.length_append, List.length_cons, List.length_nil]; omega))
   refine Z 16 rfl ?_
   simp only [go_sem, simprocAttr, inI, Ia]
   and_intros <;> try exact sdA
   refine hKL6 (k + 1, f ++ [⟨es[k], Af7 ++ dec j⟩]) _ ?_ ?_ ?_
   ·(try dsimp only); refine ⟨hc15, ?_, by simp only [List.length_append, List.length_cons, List.length_nil]; omega⟩; rw [hf, Lg _ hc15, List.append_assoc]
   ·(try dsimp only); omega
   refine Le.mk _ _ ?_ ?_ rfl <;> simp only [go_sem, simprocAttr, List.length_append, List.length_cons, List.length_nil] <;> and_intros <;> try exact leA
  simp only [hcL] at hc15
  refine Ai ?_
  simp only [go_sem, simprocAttr]
  refine Z 12 rfl ?_
  simp only [go_sem, simprocAttr, inI, Ia]
  and_intros <;> try exact sdA
  refine hKL4 (j + 1, f) _ ?_ ?_ ?_
  ·(try dsimp only); refine ⟨hc11, ?_, by omega⟩; rw [hst, hf, hg2, List.take_of_length_le hc15, List.append_assoc]
  ·(try dsimp only); omega
  exact leM
 simp only [hcL] at hc11
 refine Ai ?_
 simp only [go_sem, simprocAttr]
 refine Aa (Z 18 rfl ?_)
 simp only [go_sem, simprocAttr, Ia]
 refine AW.le (s' := ⟨mkE [(2, .list (An g2) false)], mkH []⟩) (Le.mk _ _ ?_ ?_ rfl) (Ae (hQ _ _ (.inl rfl) ?_ ?_ ?_)) <;> simp only [go_sem, simprocAttr, Agk, Abk]
 ·exact Cq rfl (by rw [Bk]) rfl (Bq _)
 rw [hg2, hg, Nat.le_antisymm hi hc3, Nat.le_antisymm hj hc11]
def Edge (ds : List Distance) (x y : List UInt8) (n : Int) : Prop := ∃ d ∈ ds, Cj d = true ∧ n = d.miles ∧ ((x = d.from' ∧ y = d.to') ∨ (x = d.to' ∧ y = d.from'))
inductive Walk (ds : List Distance) (x : List UInt8) : List UInt8 → Int → Prop
 | nil : Walk ds x x 0
 | snoc {y z : List UInt8} {n k : Int} : Walk ds x y n → Edge ds y z k → Walk ds x z (n + k)
theorem FW (d : Distance) : Cj d = true ↔ 1 ≤ d.miles ∧ d.miles ≤ 20000 := by unfold Cj; rw [Bool.and_eq_true, decide_eq_true_iff, decide_eq_true_iff]
theorem Edge.bd {ds x y n} (h : Edge ds x y n) : 1 ≤ n ∧ n ≤ 20000 := by
 obtain ⟨d, _, h2, h3, _⟩ := h
 rw [h3]; exact (FW d).1 h2
def ends (c : List UInt8) (ds : List Distance) : List (List UInt8) := c :: ds.flatMap fun d => [d.from', d.to']
theorem Oh (c ds) : (ends c ds).length = 2 * ds.length + 1 := by
 unfold ends
 rw [List.length_cons]
 congr 1
 induction ds with
 | nil => rfl
 | cons d ds ih => rw [List.flatMap_cons, List.length_append, ih]; simp only [List.length_cons, List.length_nil]; omega
theorem SB {c ds x y n} (h : Edge ds x y n) : x ∈ ends c ds ∧ y ∈ ends c ds := by
 obtain ⟨d, h1, _, _, h4⟩ := h
 have hf : d.from' ∈ ends c ds := List.mem_cons_of_mem _ (List.mem_flatMap.2 ⟨d, h1, by simp⟩)
 have ht : d.to' ∈ ends c ds := List.mem_cons_of_mem _ (List.mem_flatMap.2 ⟨d, h1, by simp⟩)
 rcases h4 with ⟨rfl, rfl⟩ | ⟨rfl, rfl⟩
 ·exact ⟨hf, ht⟩
 ·exact ⟨ht, hf⟩
def Aci (L : AB Int) (k : List UInt8) : Nat := ((Bo L k).getD 1000000000).toNat
def mu (E : List (List UInt8)) (L : AB Int) : Nat := (E.map (Aci L)).sum
def rc (E : List (List UInt8)) (L : AB Int) : Nat := E.countP fun k => (Bo L k).isSome
theorem Qw {α : Type} {f g : α → Nat} : ∀ {E : List α}, (∀ k ∈ E, f k ≤ g k) → (E.map f).sum ≤ (E.map g).sum
 | [], _ => Nat.le_refl _
 | a :: E, h => by
  rw [List.map_cons, List.map_cons, List.sum_cons, List.sum_cons]
  have h1 := h a (List.mem_cons_self ..)
  have h2 := Qw (E := E) (f := f) (g := g) fun k hk => h k (List.mem_cons_of_mem _ hk)
  omega
theorem Qv {α : Type} {f g : α → Nat} : ∀ {E : List α} {x : α}, (∀ k ∈ E, f k ≤ g k) → x ∈ E → f x < g x → (E.map f).sum < (E.map g).sum
 | a :: E, x, h, hx, hl => by
  rw [List.map_cons, List.map_cons, List.sum_cons, List.sum_cons]
  have h1 := h a (List.mem_cons_self ..)
  have h2 := Qw (E := E) (f := f) (g := g) fun k hk => h k (List.mem_cons_of_mem _ hk)
  rcases List.mem_cons.1 hx with rfl | hx
  ·omega
  ·have h3 := Qv (E := E) (x := x) (f := f) (g := g) (fun k hk => h k (List.mem_cons_of_mem _ hk)) hx hl
   omega
theorem Np (E L) : rc E L = (E.map fun k => if (Bo L k).isSome then 1 else 0).sum := by
 unfold rc
 induction E with
 | nil => rfl
 | cons a E ih => rw [List.countP_cons, List.map_cons, List.sum_cons, ih]; omega
theorem Ado (E L) : rc E L ≤ E.length := List.countP_le_length
theorem Ow {L : AB Int} {k : List UInt8} {v : Int} {p} : p ∈ Es L k v → p = (k, v) ∨ p ∈ L := by
 induction L with
 | nil => intro h; exact .inl (by simpa [Es] using h)
 | cons q L ih =>
  obtain ⟨k', v'⟩ := q
  rw [Es]
  intro h
  split at h
  ·rcases List.mem_cons.1 h with h | h
   ·exact .inl h
   ·exact .inr (List.mem_cons_of_mem _ h)
  ·rcases List.mem_cons.1 h with h | h
   ·exact .inr (h ▸ List.mem_cons_self ..)
   ·rcases ih h with h | h
    ·exact .inl h
    ·exact .inr (List.mem_cons_of_mem _ h)
theorem WX {L : AB Int} {k : List UInt8} {v : Int} : (Es L k v).length = L.length + if (Bo L k).isSome then 0 else 1 := by
 induction L with
 | nil => rfl
 | cons q L ih =>
  obtain ⟨k', v'⟩ := q
  rw [Es, CC]
  split
  ·simp
  ·rw [List.length_cons, ih, List.length_cons]; omega
structure InvL (ds : List Distance) (c : List UInt8) (L : AB Int) : Prop where
 len : L.length ≤ rc (ends c ds) L
 vals : ∀ p ∈ L, 0 ≤ p.2 ∧ p.2 ≤ 20000 * (rc (ends c ds) L : Int)
 walks : ∀ p ∈ L, Walk ds c p.1 p.2
 start : Bo L c = some 0
theorem InvL.first (ds c) : InvL ds c [(c, 0)] := by
 have h1 : Bo ([(c, 0)] : AB Int) c = some 0 := by rw [CC, if_pos rfl]
 have h2 : 1 ≤ rc (ends c ds) [(c, 0)] := by
  unfold rc ends; rw [List.countP_cons_of_pos (by rw [h1]; rfl)]; omega
 refine ⟨h2, fun p hp => ?_, fun p hp => ?_, h1⟩
 ·obtain rfl : p = (c, 0) := by simpa using hp
  dsimp only; omega
 ·obtain rfl : p = (c, 0) := by simpa using hp
  exact .nil
theorem InvL.get {ds c L k v} (h : InvL ds c L) (hk : Bo L k = some v) : 0 ≤ v ∧ v ≤ 20000 * (rc (ends c ds) L : Int) ∧ Walk ds c k v := by
 have h1 := h.vals _ (El hk)
 exact ⟨h1.1, h1.2, h.walks _ (El hk)⟩
theorem InvL.big {ds c L} (h : InvL ds c L) (hd : ds.length ≤ 1000) : L.length ≤ 1000000 ∧ ∀ p ∈ L, 0 ≤ p.2 ∧ p.2 ≤ 1000000000 := by
 have h1 := Ado (ends c ds) L
 rw [Oh] at h1
 have h2 := h.len
 refine ⟨by omega, fun p hp => ?_⟩
 have := h.vals p hp
 omega
theorem InvL.put {ds c L x y m n} (h : InvL ds c L) (hd : ds.length ≤ 1000) (he : Edge ds x y n) (hx : Bo L x = some m) (hy : ∀ o, Bo L y = some o → m + n < o) : InvL ds c (Es L y (m + n)) ∧ mu (ends c ds) (Es L y (m + n)) < mu (ends c ds) L := by
 obtain ⟨g1, g2, g3⟩ := h.get hx
 have hb := he.bd
 have hE := (SB (c := c) he).2
 have hrE := Ado (ends c ds) L
 rw [Oh] at hrE
 have hrc : rc (ends c ds) L ≤ rc (ends c ds) (Es L y (m + n)) := by
  rw [Np, Np]
  refine Qw fun k _ => ?_
  rw [DH]
  by_cases e : y = k
  ·rw [if_pos e]; split <;> simp
  ·rw [if_neg e]; exact Nat.le_refl _
 have hrc2 : Bo L y = none → rc (ends c ds) L + 1 ≤ rc (ends c ds) (Es L y (m + n)) := fun hn => by
  rw [Np, Np]
  refine Qv (x := y) (fun k _ => ?_) hE (by rw [DH, if_pos rfl, hn]; simp)
  rw [DH]
  by_cases e : y = k
  ·rw [if_pos e]; split <;> simp
  ·rw [if_neg e]; exact Nat.le_refl _
 refine ⟨⟨?_, fun p hp => ?_, fun p hp => ?_, ?_⟩, ?_⟩
 ·rw [WX]
  have h1 := h.len
  cases hn : Bo L y with
  | none => have := hrc2 hn; simp; omega
  | some o => simp; omega
 ·rcases Ow hp with rfl | hp
  ·dsimp only
   refine ⟨by omega, ?_⟩
   cases hn : Bo L y with
   | none => have := hrc2 hn; omega
   | some o => have := hy o hn; have := (h.get hn).2.1; omega
  ·have := h.vals p hp; omega
 ·rcases Ow hp with rfl | hp
  ·exact .snoc g3 he
  ·exact h.walks p hp
 ·rw [DH]
  by_cases e : y = c
  ·have := hy 0 (e ▸ h.start); omega
  ·rw [if_neg e]; exact h.start
 ·unfold mu
  have hval : Aci (Es L y (m + n)) y < Aci L y := by
   unfold Aci
   rw [DH, if_pos rfl, Option.getD_some]
   cases hn : Bo L y with
   | none => simp only [Option.getD_none]; omega
   | some o => have := hy o hn; simp only [Option.getD_some]; omega
  refine Qv (x := y) (fun k _ => ?_) hE hval
  by_cases e : y = k
  ·subst e; exact Nat.le_of_lt hval
  ·unfold Aci; rw [DH, if_neg e]; exact Nat.le_refl _
theorem Fi (L x y n) : BR L x y n = (L, false) ∧ (∀ m, Bo L x = some m → ∃ o, Bo L y = some o ∧ o ≤ m + n) ∨ ∃ m, Bo L x = some m ∧ (∀ o, Bo L y = some o → m + n < o) ∧ BR L x y n = (Es L y (m + n), true) := by
 unfold BR
 cases hx : Bo L x with
 | none => exact .inl ⟨rfl, fun m h => by cases h⟩
 | some m =>
  cases hy : Bo L y with
  | none => exact .inr ⟨m, rfl, fun o h => (by cases h), rfl⟩
  | some o =>
   dsimp only
   by_cases hc : o ≤ m + n
   ·rw [if_pos hc]
    exact .inl ⟨rfl, fun m' h => ⟨o, rfl, by injection h with h; omega⟩⟩
   ·rw [if_neg hc]
    exact .inr ⟨m, rfl, fun o' h => by injection h with h; omega, rfl⟩
theorem FC {ds c L x y n} (h : InvL ds c L) (hd : ds.length ≤ 1000) (he : Edge ds x y n) : InvL ds c (BR L x y n).1 ∧ mu (ends c ds) (BR L x y n).1 ≤ mu (ends c ds) L ∧ ((BR L x y n).2 = true → mu (ends c ds) (BR L x y n).1 < mu (ends c ds) L) ∧ ((BR L x y n).2 = false → (BR L x y n).1 = L) := by
 rcases Fi L x y n with ⟨h1, _⟩ | ⟨m, h1, h2, h3⟩
 ·rw [h1]; exact ⟨h, Nat.le_refl _, fun h => (by cases h), fun _ => rfl⟩
 ·obtain ⟨p1, p2⟩ := h.put hd he h1 h2
  rw [h3]; exact ⟨p1, by dsimp only; omega, fun _ => p2, fun h => by cases h⟩
theorem SC {ds : List Distance} {d : Distance} (h : d ∈ ds) (hu : Cj d = true) : Edge ds d.from' d.to' d.miles := ⟨d, h, hu, rfl, .inl ⟨rfl, rfl⟩⟩
theorem Afr {ds : List Distance} {d : Distance} (h : d ∈ ds) (hu : Cj d = true) : Edge ds d.to' d.from' d.miles := ⟨d, h, hu, rfl, .inr ⟨rfl, rfl⟩⟩
theorem IU {ds c L} {d : Distance} (h : InvL ds c L) (hd : ds.length ≤ 1000) (hm : d ∈ ds) (hu : Cj d = true) : InvL ds c (Ee L d.from' d.to' d.miles).1 ∧ mu (ends c ds) (Ee L d.from' d.to' d.miles).1 ≤ mu (ends c ds) L ∧ ((Ee L d.from' d.to' d.miles).2 = true → mu (ends c ds) (Ee L d.from' d.to' d.miles).1 < mu (ends c ds) L) ∧ ((Ee L d.from' d.to' d.miles).2 = false → (Ee L d.from' d.to' d.miles).1 = L) := by
 obtain ⟨a1, a2, a3, a4⟩ := FC h hd (SC hm hu)
 obtain ⟨b1, b2, b3, b4⟩ := FC a1 hd (Afr hm hu)
 unfold Ee
 refine ⟨b1, by dsimp only; omega, fun hh => ?_, fun hh => ?_⟩
 ·dsimp only at hh ⊢
  rcases (Bool.or_eq_true _ _).mp hh with hh | hh
  ·have := a3 hh; omega
  ·have := b3 hh; omega
 ·dsimp only at hh ⊢
  obtain ⟨h1, h2⟩ := Bool.or_eq_false_iff.1 hh
  rw [b4 h2, a4 h1]
def rnd : List Distance → AB Int → Bool → AB Int × Bool
 | [], L, b => (L, b)
 | d :: ds, L, b => if Cj d = true then rnd ds (Ee L d.from' d.to' d.miles).1 (b || (Ee L d.from' d.to' d.miles).2) else rnd ds L b
theorem LU {ds : List Distance} {i : Nat} (hi : i < ds.length) (h : Cj ds[i] = true) (L b) : rnd (ds.drop i) L b = rnd (ds.drop (i + 1)) (Ee L ds[i].from' ds[i].to' ds[i].miles).1 (b || (Ee L ds[i].from' ds[i].to' ds[i].miles).2) := by
 rw [List.drop_eq_getElem_cons hi, rnd, if_pos h]
theorem Xx {ds : List Distance} {i : Nat} (hi : i < ds.length) (h : Cj ds[i] = false) (L b) : rnd (ds.drop i) L b = rnd (ds.drop (i + 1)) L b := by
 rw [List.drop_eq_getElem_cons hi, rnd, if_neg (by rw [h]; decide)]
theorem Rh {ds : List Distance} {i : Nat} (hi : ds.length ≤ i) (L b) : rnd (ds.drop i) L b = (L, b) := by
 rw [List.drop_eq_nil_of_le hi, rnd]
theorem Hk {ds c} (hd : ds.length ≤ 1000) : ∀ (es : List Distance), (∀ d ∈ es, d ∈ ds) → ∀ L b, InvL ds c L → InvL ds c (rnd es L b).1 ∧ mu (ends c ds) (rnd es L b).1 ≤ mu (ends c ds) L ∧ ((rnd es L b).2 = true → b = true ∨ mu (ends c ds) (rnd es L b).1 < mu (ends c ds) L) ∧ ((rnd es L b).2 = false → b = false ∧ (rnd es L b).1 = L ∧ ∀ d ∈ es, Cj d = true → (Ee L d.from' d.to' d.miles).2 = false)
 | [], _, L, b, h => ⟨h, Nat.le_refl _, fun h => .inl h, fun h => ⟨h, rfl, fun _ hd => absurd hd List.not_mem_nil⟩⟩
 | d :: es, hs, L, b, h => by
  have hs2 : ∀ d ∈ es, d ∈ ds := fun d hd => hs d (List.mem_cons_of_mem _ hd)
  rw [rnd]
  by_cases hu : Cj d = true
  ·rw [if_pos hu]
   obtain ⟨a1, a2, a3, a4⟩ := IU h hd (hs d (List.mem_cons_self ..)) hu
   obtain ⟨b1, b2, b3, b4⟩ := Hk hd es hs2 _ (b || (Ee L d.from' d.to' d.miles).2) a1
   refine ⟨b1, by omega, fun hh => ?_, fun hh => ?_⟩
   ·rcases b3 hh with h1 | h1
    ·rcases (Bool.or_eq_true _ _).mp h1 with h1 | h1
     ·exact .inl h1
     ·have := a3 h1; exact .inr (by omega)
    ·exact .inr (by omega)
   ·obtain ⟨c1, c2, c3⟩ := b4 hh
    obtain ⟨e1, e2⟩ := Bool.or_eq_false_iff.1 c1
    rw [a4 e2] at c2 c3
    refine ⟨e1, by rw [a4 e2]; exact c2, fun d' hd' hu' => ?_⟩
    rcases List.mem_cons.1 hd' with rfl | hd'
    ·exact e2
    ·exact c3 d' hd' hu'
  ·rw [if_neg hu]
   obtain ⟨b1, b2, b3, b4⟩ := Hk hd es hs2 L b h
   refine ⟨b1, b2, b3, fun hh => ?_⟩
   obtain ⟨c1, c2, c3⟩ := b4 hh
   refine ⟨c1, c2, fun d' hd' hu' => ?_⟩
   rcases List.mem_cons.1 hd' with rfl | hd'
   ·exact absurd hu' hu
   ·exact c3 d' hd' hu'
def Uo (ds : List Distance) : Nat → AB Int → AB Int
 | 0, L => L
 | m + 1, L => if (rnd ds L false).2 = true then Uo ds m (rnd ds L false).1 else (rnd ds L false).1
def AaZ (ds : List Distance) (c : List UInt8) : AB Int := Uo ds (mu (ends c ds) [(c, 0)] + 1) [(c, 0)]
theorem Jr {ds c m L} (hd : ds.length ≤ 1000) (h : InvL ds c L) (hm : mu (ends c ds) L < m) (hr : (rnd ds L false).2 = true) : ∃ k, m = k + 1 ∧ mu (ends c ds) (rnd ds L false).1 < k ∧ Uo ds m L = Uo ds k (rnd ds L false).1 := by
 obtain ⟨k, rfl⟩ : ∃ k, m = k + 1 := ⟨m - 1, by omega⟩
 refine ⟨k, rfl, ?_, by rw [Uo, if_pos hr]⟩
 rcases (Hk hd ds (fun _ h => h) L false h).2.2.1 hr with h1 | h1
 ·cases h1
 ·omega
theorem Jq {ds c m L} (hd : ds.length ≤ 1000) (h : InvL ds c L) (hm : mu (ends c ds) L < m) (hr : (rnd ds L false).2 = false) : Uo ds m L = (rnd ds L false).1 := by
 obtain ⟨k, rfl⟩ : ∃ k, m = k + 1 := ⟨m - 1, by omega⟩
 rw [Uo, if_neg (by rw [hr]; decide)]
structure FinL (ds : List Distance) (c : List UInt8) (F : AB Int) : Prop where
 inv : InvL ds c F
 closed : ∀ x y n, Edge ds x y n → ∀ m, Bo F x = some m → ∃ o, Bo F y = some o ∧ o ≤ m + n
theorem NL {ds c} (hd : ds.length ≤ 1000) : ∀ m L, InvL ds c L → mu (ends c ds) L < m → FinL ds c (Uo ds m L)
 | 0, L, _, h => absurd h (Nat.not_lt_zero _)
 | m + 1, L, h, hm => by
  cases hr : (rnd ds L false).2 with
  | true =>
   obtain ⟨k, hk, h1, h2⟩ := Jr hd h hm hr
   obtain rfl : m = k := by omega
   rw [h2]
   exact NL hd m _ (Hk hd ds (fun _ h => h) L false h).1 h1
  | false =>
   rw [Jq hd h hm hr]
   obtain ⟨_, h2, h3⟩ := (Hk hd ds (fun _ h => h) L false h).2.2.2 hr
   rw [h2]
   refine ⟨h, fun x y n he m hx => ?_⟩
   obtain ⟨d, hm, hu, rfl, hc⟩ := he
   have h4 := h3 d hm hu
   unfold Ee at h4
   dsimp only at h4
   obtain ⟨e1, e2⟩ := Bool.or_eq_false_iff.1 h4
   have k1 : BR L d.from' d.to' d.miles = (L, false) ∧ ∀ m, Bo L d.from' = some m → ∃ o, Bo L d.to' = some o ∧ o ≤ m + d.miles := by
    rcases Fi L d.from' d.to' d.miles with h | ⟨m, _, _, h⟩
    ·exact h
    ·rw [h] at e1; cases e1
   rw [k1.1] at e2
   have k2 : ∀ m, Bo L d.to' = some m → ∃ o, Bo L d.from' = some o ∧ o ≤ m + d.miles := by
    rcases Fi L d.to' d.from' d.miles with h | ⟨m, _, _, h⟩
    ·exact h.2
    ·rw [h] at e2; cases e2
   rcases hc with ⟨rfl, rfl⟩ | ⟨rfl, rfl⟩
   ·exact k1.2 m hx
   ·exact k2 m hx
theorem NM {ds} (hd : ds.length ≤ 1000) (c) : FinL ds c (AaZ ds c) := NL hd _ _ (InvL.first ds c) (Nat.lt_succ_self _)
def Ix (o : Option Int) : Int × Int := match o with
 | none => (0, 7)
 | some n => (n, 0)
def Ch (ps : List Airport) (ds : List Distance) (a b : List UInt8) : Int × Int := if CH ps a = [] ∨ CH ps b = [] then (0, 14) else Ix (Bo (AaZ ds (CH ps a)) (CH ps b))
theorem Kp {d : Option Nat} {s : St} {K : St → Prop} {nb nm : Nat} {L L' : AB Int} {x y : List UInt8} {n : Int} {ok : Bool} (he : Eff Tryz.prog UT 181 [.str x, .str y, .int .i64 n, .ptr 1000 0] (mpO 1000 1001 L) (.bool ok) (mpO 1000 1001 L'))
  (hb : s.h nb = some (.box 240 [.map nm])) (ha : s.h nm = some (.mp (Eo fI8 L))) (hne : nb ≠ nm)
  (hK : K ⟨Ew d (.bool ok) s.e, hov (mpO nb nm L') s.h⟩) : CQ Tryz.prog UT d 181 [.str x, .str y, .int .i64 n, .ptr nb 0] s K := by
 have hne2 : nm ≠ nb := Ne.symm hne
 refine ⟨[(1000, nb), (1001, nm)], [], _, _, _, _, he, ⟨by simp [okL, hne], rfl, rfl, by simp, by simp, ?_, by simp [V.rens, V.ren, rni, hne2], by simp [V.nins, V.nin], by simp [V.nin, V.nins], ?_, ?_⟩, ?_⟩
 ·intro p hp
  simp only [List.mem_cons, List.not_mem_nil, or_false] at hp
  rcases hp with rfl | rfl
  ·exact ⟨_, hb, by simp [mpO, mkH, Ob.ren, V.rens, V.ren, rni, hne2], by simp [Ob.nin, V.nins, V.nin]⟩
  ·exact ⟨_, ha, by simp only [mpO, mkH, Ob.ren]; simp [Hv], by simp only [Ob.nin, Hw]⟩
 ·intro q hq
  simp only [mpO, List.mem_cons, List.not_mem_nil, or_false] at hq
  rcases hq with rfl | rfl
  ·simp [Ob.nin, V.nins, V.nin, mpO]
  ·simp only [Ob.nin, Hw]
 ·intro p hp o o' h1 h2
  simp only [List.mem_cons, List.not_mem_nil, or_false] at hp
  rcases hp with rfl | rfl <;> simp [mpO, mkH] at h1 h2 <;> subst h1 h2 <;> simp [Ob.kind]
 ·have e1 : (V.bool ok).ren (rn ([(1000, nb), (1001, nm)] ++ [])) = .bool ok := by simp [V.ren]
  have e2 : (mpO 1000 1001 L').map (fun q : Nat × Ob => (rn ([(1000, nb), (1001, nm)] ++ []) q.1, q.2.ren (rn ([(1000, nb), (1001, nm)] ++ [])))) = mpO nb nm L' := by
   simp [mpO, rn, Ob.ren, V.rens, V.ren, Hv]
  rw [e1, e2]
  exact hK
def MOk (p : Places) : Prop := Lx p ∧ p.distances.length ≤ 1000
def aMi (x : Places × List UInt8 × List UInt8) : List V := [.agg x.1.enc, .str x.2.1, .str x.2.2]
theorem MI (a b : Places × List UInt8 × List UInt8) (h : aMi a = aMi b) : a = b := by
 obtain ⟨a_p, a_a, a_b⟩ := a
 obtain ⟨b_p, b_a, b_b⟩ := b
 simp only [aMi, List.cons.injEq, V.str.injEq, V.int.injEq, V.bool.injEq, V.agg.injEq, V.list.injEq, and_true, true_and] at h
 obtain ⟨h0, h1, h2⟩ := h
 replace h0 := Places.inj _ _ h0
 subst h0
 subst h1
 subst h2
 rfl
def EO (x : Places × List UInt8 × List UInt8) : Prop × V := (MOk x.1, .tup [.int .i64 (Ch x.1.airports x.1.distances x.2.1 x.2.2).1, .int .i64 (Ch x.1.airports x.1.distances x.2.1 x.2.2).2])
theorem NU (ps : List Airport) (ds : List Distance) (c : List UInt8) : gOf aPs HI [.agg [.list (ps.map Airport.enc) false, .list (ds.map Distance.enc) false], .str c] = (Lx ⟨ps, ds⟩, .str (CH ps c)) := Ar Em (⟨ps, ds⟩, c)
def EFm : Nat → Bool := fun f => f == 181
noncomputable def tMi : Tab
 | 180 => (gOf aPs HI)
 | 182 => (gOf Gv EL)
 | _ => gNo
theorem AcU : ∀ f, PU f (tMi f) := fun f => by
 unfold tMi
 split
 ·exact AfJ
 ·exact Ux
 ·exact Ao.no
theorem Nq (k : List UInt8) (v : Int) : EI [] (.s k) (.int .i64 v) = Eo fI8 [(k, v)] := Aiz [] k v
theorem FD {ps ds a b f t} (hcf : CH ps a = f) (hct : CH ps b = t) (h : (decide (f = []) || decide (t = [])) = true) : Ch ps ds a b = (0, 14) := by
 subst hcf hct; unfold Ch; rw [if_pos (by simpa using h)]
theorem DE {ps ds a b f t} (hcf : CH ps a = f) (hct : CH ps b = t) (h : (decide (f = []) || decide (t = [])) = false) : Ch ps ds a b = Ix (Bo (AaZ ds f) t) := by
 subst hcf hct; unfold Ch; rw [if_neg (by simpa using h)]
theorem AaP : PU 138 (gOf aMi EO) := by
 have hG := AcU
 refine AeX.a MI (by simp [aMi]) ?_
 rintro ⟨⟨ps, ds⟩, a, b⟩ hv C hN Q hQ
 have Y := AeX.D EFm hG hN mixed
 have Z := AeX.R EFm hG hN
 obtain ⟨hl, hd⟩ : MOk ⟨ps, ds⟩ := hv
 dsimp only at hd
 generalize hcf : CH ps a = f
 generalize hct : CH ps b = t
 refine Aa (Z 0 rfl ?_)
 simp only [go_sem, simprocAttr, aMi, Places.enc, tMi, EFm]
 refine Aa (Y 1 rfl (by kernel_rfl) ?_)
 simp only [go_sem, simprocAttr, NU, hl, hcf, hct, tMi, EFm]
 and_intros <;> try exact sdA
 refine Aa (Aa (Z 2 rfl ?_))
 simp only [go_sem, simprocAttr, tMi, EFm]
 and_intros <;> try exact sdA
 refine Ab rfl (fun hb2 => ?_) fun hb2 => ?_
 ·refine Aa (Z 3 rfl ?_)
  simp only [go_sem, simprocAttr, tMi, EFm]
  refine Ae (hQ _ _ (.inl rfl) ?_ ?_ ?_) <;> simp only [go_sem, simprocAttr, EO]
  rw [FD hcf hct hb2]
 refine Ac ?_
 refine Aa (Z 4 rfl ?_)
 simp only [go_sem, simprocAttr, mpO, Nq, tMi, EFm]
 and_intros <;> try exact sdA
 refine Aa (Z 5 rfl ?_)
 simp only [go_sem, simprocAttr, tMi, EFm]
 refine Aa (Aa (Z 6 rfl ?_))
 simp only [go_sem, simprocAttr, tMi, EFm]
 refine Ad ?_
 refine Aj (α := (AB Int) × Bool × Nat) (fun γ => (InvL ds f γ.1) ∧ (γ.2.1 = true → mu (ends f ds) γ.1 < γ.2.2 ∧ AaZ ds f = Uo ds γ.2.2 γ.1) ∧ (γ.2.1 = false → AaZ ds f = γ.1)) (fun γ => ⟨mkE [(3, V.ptr 3 0), (9, V.str t), (10, V.ptr 10 0), (11, V.fn 181 [V.ptr 10 0]), (12, .bool γ.2.1)], mkH [(3, Ob.box 25 [V.list (List.map Airport.enc ps) false, V.list (List.map Distance.enc ds) false]), (10, Ob.box 240 [V.map 31]), (31, .mp (Eo fI8 γ.1))]⟩) (fun γ => γ.2.2) ([(f, 0)], true, mu (ends f ds) [(f, 0)] + 1) ⟨InvL.first ds f, fun _ => ⟨Nat.lt_succ_self _, rfl⟩, fun h => by cases h⟩ ?_ ?_
 ·refine Le.mk _ _ ?_ ?_ rfl <;> simp only [go_sem, simprocAttr, Nq] <;> and_intros <;> try exact leA
 rintro ⟨L, more, m⟩ ⟨hI, hm, hs⟩ KL0 hKL0
 try dsimp only at *
 refine Aa (Aa (Z 7 rfl ?_))
 simp only [go_sem, simprocAttr, tMi, EFm]
 refine Ab rfl (fun hb7 => ?_) fun hb7 => ?_
 ·refine Ac ?_
  refine Ad (Aa (Z 8 rfl ?_))
  simp only [go_sem, simprocAttr, tMi, EFm]
  refine Aa (Z 9 rfl ?_)
  simp only [go_sem, simprocAttr, tMi, EFm]
  refine Ad ?_
  refine Aj (α := Nat × (AB Int) × Bool) (fun γ => (γ.1 ≤ ds.length) ∧ (rnd ds L false = rnd (ds.drop γ.1) γ.2.1 γ.2.2) ∧ (InvL ds f γ.2.1)) (fun γ => ⟨mkE [(3, V.ptr 3 0), (9, V.str t), (10, V.ptr 10 0), (11, V.fn 181 [V.ptr 10 0]), (12, .bool γ.2.2), (37, V.list (List.map Distance.enc ds) false), (38, V.int IntKind.i64 ↑ds.length), (39, .int .i64 γ.1)], mkH [(3, Ob.box 25 [V.list (List.map Airport.enc ps) false, V.list (List.map Distance.enc ds) false]), (10, Ob.box 240 [V.map 31]), (31, .mp (Eo fI8 γ.2.1))]⟩) (fun γ => ds.length - γ.1) (0, L, false) ⟨Nat.zero_le _, by rw [List.drop_zero], hI⟩ ?_ ?_
  ·exact leM
  rintro ⟨i, L2, b2⟩ ⟨hi, hr, hI2⟩ KL2 hKL2
  try dsimp only at *
  refine Aa (Z 10 rfl ?_)
  simp only [go_sem, simprocAttr, tMi, EFm]
  refine Aa ?_
  refine Ab rfl (fun hc10 => ?_) fun hc10 => ?_
  ·simp only [hcL] at hc10
   refine Ac ?_
   refine BD (α := (AB Int) × Bool) (fun γ => (rnd ds L false = rnd (ds.drop (i + 1)) γ.1 γ.2) ∧ (InvL ds f γ.1)) (fun γ => ⟨mkE [(3, V.ptr 3 0), (9, V.str t), (10, V.ptr 10 0), (11, V.fn 181 [V.ptr 10 0]), (12, .bool γ.2), (37, V.list (List.map Distance.enc ds) false), (38, V.int IntKind.i64 ↑ds.length), (39, V.int IntKind.i64 ↑i)], mkH [(3, Ob.box 25 [V.list (List.map Airport.enc ps) false, V.list (List.map Distance.enc ds) false]), (10, Ob.box 240 [V.map 31]), (31, .mp (Eo fI8 γ.1))]⟩) ?_ ?_
   ·intro KCb3 hKCb3
    refine Ad (Aa (Z 11 rfl ?_))
    simp only [go_sem, simprocAttr, Af _ _ _ _ hc10, hc10, Distance.enc, tMi, EFm]
    and_intros <;> try exact sdA
    refine Aa (Z 12 rfl ?_)
    simp only [go_sem, simprocAttr, Gl, tMi, EFm]
    and_intros <;> try exact sdA
    refine Ab rfl (fun hb12 => ?_) fun hb12 => ?_
    ·have hu := (FW ds[i]).1 hb12
     have hmem := List.getElem_mem hc10
     have hs2 := FC hI2 hd (SC hmem hb12)
     have hs3 := IU hI2 hd hmem hb12
     refine Aa (Z 13 rfl ?_)
     simp only [go_sem, simprocAttr, tMi, EFm]
     refine Kp (Rj L2 _ _ _ (hI2.big hd).2 ⟨by omega, by omega⟩) (by rfl) (by rfl) (by decide) ?_
     simp only [go_sem, simprocAttr, mpO]
     refine Aa (Z 14 rfl ?_)
     simp only [go_sem, simprocAttr, tMi, EFm]
     refine Kp (Rj _ _ _ _ (hs2.1.big hd).2 ⟨by omega, by omega⟩) (by rfl) (by rfl) (by decide) ?_
     simp only [go_sem, simprocAttr, mpO]
     refine Z 15 rfl ?_
     simp only [go_sem, simprocAttr, tMi, EFm]
     and_intros <;> try exact sdA
     refine hKCb3 ((Ee L2 ds[i].from' ds[i].to' ds[i].miles).1, (b2 || (Ee L2 ds[i].from' ds[i].to' ds[i].miles).2)) _ ?_ ?_
     ·(try dsimp only); exact ⟨by rw [hr, LU hc10 hb12], hs3.1⟩
     refine Le.mk _ _ ?_ ?_ rfl <;> simp only [go_sem, simprocAttr, Ee, mpO, Bool.or_assoc] <;> and_intros <;> try exact leA
    refine Ac ?_
    refine hKCb3 (L2, b2) _ ?_ ?_
    ·(try dsimp only); exact ⟨by rw [hr, Xx hc10 hb12], hI2⟩
    exact leM
   rintro ⟨L3, b3⟩ ⟨hr3, hI3⟩
   try dsimp only at *
   refine Z 16 rfl ?_
   simp only [go_sem, simprocAttr, inI, tMi, EFm]
   and_intros <;> try exact sdA
   refine hKL2 (i + 1, L3, b3) _ ?_ ?_ ?_
   ·(try dsimp only); exact ⟨hc10, hr3, hI3⟩
   ·(try dsimp only); omega
   exact leM
  simp only [hcL] at hc10
  rw [Rh hc10] at hr
  obtain ⟨hm1, hm2⟩ := hm hb7
  refine Ai ?_
  simp only [go_sem, simprocAttr]
  refine hKL0 (L2, b2, m - 1) _ ?_ ?_ ?_
  ·(try dsimp only); exact ⟨hI2, fun h => (by obtain ⟨k, rfl, h1, h2⟩ := Jr hd hI hm1 (by rw [hr]; exact h); rw [hr] at h1 h2; exact ⟨h1, hm2.trans h2⟩), fun h => (by rw [hm2, Jq hd hI hm1 (by rw [hr]; exact h), hr])⟩
  ·(try dsimp only); omega
  exact leM
 refine Ai ?_
 simp only [go_sem, simprocAttr]
 refine Aa (Z 17 rfl ?_)
 simp only [go_sem, simprocAttr, tMi, EFm]
 and_intros <;> try exact sdA
 refine Aa (Aa (Z 18 rfl ?_))
 simp only [go_sem, simprocAttr, tMi, EFm]
 refine Ab rfl (fun hc18 => ?_) fun hc18 => ?_
 ·simp only [hcL] at hc18
  refine Aa (Z 19 rfl ?_)
  simp only [go_sem, simprocAttr, tMi, EFm]
  refine Ae (hQ _ _ (.inl rfl) ?_ ?_ ?_) <;> simp only [go_sem, simprocAttr, EO]
  rw [DE hcf hct hb2, hs hb7, Hy hc18]; rfl
 simp only [hcL] at hc18
 refine Ac ?_
 refine Aa (Z 20 rfl ?_)
 simp only [go_sem, simprocAttr, tMi, EFm]
 refine Ae (hQ _ _ (.inl rfl) ?_ ?_ ?_) <;> simp only [go_sem, simprocAttr, EO]
 obtain ⟨v, hv2⟩ := Option.isSome_iff_exists.1 hc18; rw [DE hcf hct hb2, hs hb7, hv2]; rfl
def aI (x : Int) : List V := [.int .i64 x]
theorem Lw (a b : Int) (h : aI a = aI b) : a = b := by
 simp only [aI, List.cons.injEq, V.str.injEq, V.int.injEq, V.bool.injEq, V.agg.injEq, V.list.injEq, and_true, true_and] at h
 have h0 := h
 subst h0
 rfl
def aLi (x : List Int) : List V := [.list (AY x) false]
theorem Gu (a b : List Int) (h : aLi a = aLi b) : a = b := by
 simp only [aLi, List.cons.injEq, V.str.injEq, V.int.injEq, V.bool.injEq, V.agg.injEq, V.list.injEq, and_true, true_and] at h
 have h0 := h
 replace h0 := GT h0
 subst h0
 rfl
def NP (n : Int) : Bool := decide (-1099511627776 ≤ n) && decide (n ≤ 1099511627776)
def Aa5 (n : Int) : Prop × V := (True, .bool (NP n))
theorem Aq (n : Int) : gOf aI Aa5 [.int .i64 n] = (True, .bool (NP n)) := Ar Lw n
theorem Sn {n : Int} (h : NP n = true) : -1099511627776 ≤ n ∧ n ≤ 1099511627776 := by
 unfold NP at h
 simp only [Bool.and_eq_true, decide_eq_true_eq] at h
 exact h
theorem Aeb : PU 140 (gOf aI Aa5) := by
 have hG := AC
 refine AeV.a Lw (by simp [aI]) ?_
 rintro n hv C hN Q hQ
 have Z := AeV.R EF0 hG hN
 refine Aa (Z 0 rfl ?_)
 simp only [go_sem, simprocAttr, aI]
 refine Aa (Z 1 rfl ?_)
 simp only [go_sem, simprocAttr]
 and_intros <;> try exact sdA
 refine Ae (hQ _ _ (.inl rfl) ?_ ?_ ?_) <;> simp only [go_sem, simprocAttr, Aa5, NP]
theorem WY : PU 154 (gOf aI Aa5) := by
 have hG := AC
 refine AeM.a Lw (by simp [aI]) ?_
 rintro n hv C hN Q hQ
 have Z := AeM.R EF0 hG hN
 refine Aa (Z 0 rfl ?_)
 simp only [go_sem, simprocAttr, aI]
 refine Aa (Z 1 rfl ?_)
 simp only [go_sem, simprocAttr]
 and_intros <;> try exact sdA
 refine Ae (hQ _ _ (.inl rfl) ?_ ?_ ?_) <;> simp only [go_sem, simprocAttr, Aa5, NP]
def Pi (y : Int × Int) : V := .tup [.int .i64 y.1, .int .i64 y.2]
end Go.Proofs.YtjkclhbckfkeeaaGreatDoor
