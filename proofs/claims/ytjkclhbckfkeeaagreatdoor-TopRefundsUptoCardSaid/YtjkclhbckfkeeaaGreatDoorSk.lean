import Derived.Test.YtjkclhbckfkeeaaGreatDoorPl9
import Derived.Test.YtjkclhbckfkeeaaGreatDoorT5
import Derived.Shelf.Small.Bits
import Derived.Shelf.Small.Strs
import Derived.Shelf.Strconv.Itoa0
import Derived.Shelf.Strconv.Itoa1
import Derived.Shelf.LaysM
import Derived.Shelf.Strconv.Itoa2
import Derived.Shelf.Strconv.Itoa3
import Derived.Shelf.Strings.Search1
import Derived.Shelf.Strings.Search2
import Derived.Shelf.Strings.Search3
import Derived.Shelf.Strings.Count
import Derived.Shelf.Strings.Shaped
import Derived.Ground.GgsProg
import Derived.Shelf.GgSortFunc.Insertion
import Derived.Shelf.GgSortFunc.Tiny
import Derived.Shelf.GgSortFunc.Compose
import Derived.Ground.GgtProg
import Derived.Shelf.GgSortMore.Stable
import Derived.Shelf.Bits.Mul64
import Derived.Shelf.Unicode.DecodeSlow
import Derived.Test.YtjkclhbckfkeeaaGreatDoorProg
set_option linter.unusedSimpArgs false
set_option linter.unusedVariables false
set_option linter.deprecated false
set_option maxHeartbeats 4000000
noncomputable section
namespace Go.Proofs.YtjkclhbckfkeeaaGreatDoor
open Go Go.RowKit
def Qj : List UInt8 := [97, 105, 114, 112, 111, 114, 116, 32]
def Ql : List UInt8 := [100, 105, 115, 116, 97, 110, 99, 101, 32]
def FK (path : List UInt8) (es : List Int) : List Fault := es.map fun e => ⟨e, path⟩
theorem XM (path : List UInt8) {es : List Int} {k : Nat} (h : k < es.length) : FK path (es.take (k + 1)) = FK path (es.take k) ++ [⟨es[k], path⟩] := by unfold FK; rw [Dm h, DO]; rfl
def Ib (ps : List Airport) : Nat -> List Fault
 | 0 => []
 | i + 1 => Ib ps i ++ FK (Qj ++ dec i) (IT ps i (ps.getD i Airport.zero))
def IU (ps : List Airport) (ds : List Distance) : Nat -> List Fault
 | 0 => []
 | i + 1 => IU ps ds i ++ FK (Ql ++ dec i) (JR ps ds i (ds.getD i Distance.zero))
def Ic (p : Places) : List Fault := Ib p.airports p.airports.length ++ IU p.airports p.distances p.distances.length
theorem Kp (b : Bool) (e : Int) : (iIf b e).length <= 1 := by unfold iIf; split <;> simp
theorem Wu (ps i a) : (IT ps i a).length <= 4 := by
 unfold IT
 have a1 := Kp (!Cr 3 a.code || !Cr 3 a.city || !Cr 2 a.country) 5
 have a2 := Kp ((ps.take i).any (aTwice a)) 6
 have a3 := Kp ((ps.take i).any (aMoved a)) 8
 have a4 := Kp (!decide (DV a.zone = 0)) (DV a.zone)
 simp only [An]; omega
theorem XF (ps ds i d) : (JR ps ds i d).length <= 3 := by
 unfold JR
 have a1 := Kp (!(BP (DX d.from') ps).isSome || !(BP (DX d.to') ps).isSome) 14
 have a2 := Kp ((ds.take i).any (dTwice d)) 6
 have a3 := Kp (!Do d || decide (d.from' = d.to')) 2
 simp only [An]; omega
theorem AfN (ps : List Airport) (ds : List Distance) (i : Nat) : gOf aPi Pg [.agg [.list (ps.map Airport.enc) false, .list (ds.map Distance.enc) false], .int .i64 (i : Int)] = (0 <= (i : Int) /\ i < ps.length /\ ps.length <= 1000000 /\ (∀ a ∈ ps, a.ok), .list (Ao (IT ps i (ps.getD i Airport.zero))) false) := Al Ox (⟨ps, ds⟩, (i : Int))
theorem AfO (ps : List Airport) (ds : List Distance) (i : Nat) : gOf aPi Pk [.agg [.list (ps.map Airport.enc) false, .list (ds.map Distance.enc) false], .int .i64 (i : Int)] = (BD ⟨ps, ds⟩ /\ 0 <= (i : Int) /\ i < ds.length /\ ds.length <= 1000000, .list (Ao (JR ps ds i (ds.getD i Distance.zero))) false) := Al Ox (⟨ps, ds⟩, (i : Int))
theorem AC (n) : Im [.int .i64 n] = (inI n, .str (dec n)) := rfl
theorem Je {i : Nat} (h : i <= 1000000) : inI (i : Int) := ⟨by omega, by omega⟩
def Sm (p : Places) : Prop := p.airports.length <= 1000 /\ p.distances.length <= 1000 /\ ∀ a ∈ p.airports, a.ok
def Ph (p : Places) : Prop × V := (Sm p, .list (Az (Ic p)) false)
def Dn : Tab
 | 89 => (gOf aPi Pg)
 | 90 => (gOf aPi Pk)
 | 68 => Im
 | _ => gNo
theorem Am7 : ∀ f, PU f (Dn f) := fun f => by
 unfold Dn
 split
 ·exact AiY
 ·exact Ai4
 ·exact NW
 ·exact Aj.no
theorem AiZ : PU 43 (gOf aP1 Ph) := by
 have hG := Am7
 refine Zy.a Ow (by simp [aP1]) ?_
 rintro ⟨ps, ds⟩ hv C hN Q hQ
 have Z := Zy.R EF0 hG hN
 obtain ⟨hpl, hdl, hok⟩ : ps.length <= 1000 /\ ds.length <= 1000 /\ ∀ a ∈ ps, a.ok := hv
 have hlp : BD ⟨ps, ds⟩ := ⟨by dsimp only; omega, by dsimp only; omega⟩
 have hpm : ps.length <= 1000000 := by omega
 have hdm : ds.length <= 1000000 := by omega
 refine Ab (Z 0 rfl ?_)
 simp only [go_sem, simprocAttr, aP1, Places.enc, Dn]
 refine Ab (Z 1 rfl ?_)
 simp only [go_sem, simprocAttr, Dn]
 refine Ab (Ab (Z 2 rfl ?_))
 simp only [go_sem, simprocAttr, Dn]
 refine Ar ?_
 refine Bj (α := Nat × (List Fault)) (fun γ => (γ.1 <= ps.length) /\ (γ.2 = Ib ps γ.1) /\ (γ.2.length <= 4 * γ.1)) (fun γ => ⟨mkE [(1, V.ptr 1 0), (3, .own 999 γ.2.length), (4, .int .i64 γ.1)], mkH [(1, Ob.box 25 [V.list (List.map Airport.enc ps) false, V.list (List.map Distance.enc ds) false]), (999, .arr 126 2 (Az γ.2))]⟩) (fun γ => ps.length - γ.1) (0, []) ⟨As _, rfl, AF _⟩ ?_ ?_
 ·exact leM
 rintro ⟨i, g⟩ ⟨hi, hg, hgl⟩ KL0 hKL0
 try dsimp only at *
 refine Ab (Ab (Z 3 rfl ?_))
 simp only [go_sem, simprocAttr, Dn]
 refine Ai rfl (fun hc3 => ?_) fun hc3 => ?_
 ·simp only [hcL] at hc3
  refine Ah ?_
  refine Ab (Ar ?_)
  have hd := Id (i := i) (by omega)
  have hi2 := Je (i := i) (by omega)
  have hi0 : (0 : Int) <= (i : Int) := by omega
  have e1 := AfN ps ds i
  have hst : Ib ps (i + 1) = Ib ps i ++ FK (Qj ++ dec i) (IT ps i (ps.getD i Airport.zero)) := rfl
  have hel := Wu ps i (ps.getD i Airport.zero)
  generalize IT ps i (ps.getD i Airport.zero) = es at e1 hst hel
  refine Ab (Z 5 rfl ?_)
  simp only [go_sem, simprocAttr, e1, hi0, hc3, hpm, hok, Dn]
  and_intros <;> try exact sdA
  refine Ab (Z 6 rfl ?_)
  simp only [go_sem, simprocAttr, Dn]
  refine Ar ?_
  refine Bj (α := Nat × (List Fault)) (fun γ => (γ.1 <= es.length) /\ (γ.2 = g ++ FK (Qj ++ dec i) (es.take γ.1)) /\ (γ.2.length <= g.length + γ.1)) (fun γ => ⟨mkE [(1, V.ptr 1 0), (3, .own 999 γ.2.length), (4, V.int IntKind.i64 ↑i), (5, V.list (Ao es) false), (6, .int .i64 γ.1)], mkH [(1, Ob.box 25 [V.list (List.map Airport.enc ps) false, V.list (List.map Distance.enc ds) false]), (999, .arr 126 2 (Az γ.2))]⟩) (fun γ => es.length - γ.1) (0, g) ⟨As _, by simp [FK], AF _⟩ ?_ ?_
  ·exact leM
  rintro ⟨k, f⟩ ⟨hk, hf, hfl⟩ KL2 hKL2
  try dsimp only at *
  refine Ab (Ab (Z 7 rfl ?_))
  simp only [go_sem, simprocAttr, Dn]
  refine Ai rfl (fun hc7 => ?_) fun hc7 => ?_
  ·simp only [hcL] at hc7
   refine Ah ?_
   refine Ab (Ar ?_)
   refine FG (EF := EF0) hG mixed (by rw [hN]; exact AmU) Ah0 ?_
   simp only [QY, Xp, go_sem, simprocAttr, inI, EY _ _ _ hc7, hc7, AC, hi2, Dn]
   and_intros <;> (try first | exact sdA | (simp only [An, Aw, Ax]; omega))
   refine Z 8 rfl ?_
   simp only [go_sem, simprocAttr, inI, Dn]
   and_intros <;> try exact sdA
   refine hKL2 (k + 1, f ++ [⟨es[k], Qj ++ dec i⟩]) _ ?_ ?_ ?_
   ·(try dsimp only); refine ⟨hc7, ?_, by simp only [An, Aw, Ax]; omega⟩; rw [hf, XM _ hc7, EH]
   ·(try dsimp only); omega
   refine Le.mk _ _ ?_ ?_ rfl <;> simp only [go_sem, simprocAttr, An, Aw, Ax] <;> and_intros <;> try exact leA
  simp only [hcL] at hc7
  refine Be ?_
  simp only [go_sem, simprocAttr]
  refine Z 4 rfl ?_
  simp only [go_sem, simprocAttr, inI, Dn]
  and_intros <;> try exact sdA
  refine hKL0 (i + 1, f) _ ?_ ?_ ?_
  ·(try dsimp only); refine ⟨hc3, ?_, by omega⟩; rw [hst, hf, hg, BR hc7]
  ·(try dsimp only); omega
  exact leM
 simp only [hcL] at hc3
 refine Be ?_
 simp only [go_sem, simprocAttr]
 refine Ab (Ab (Z 10 rfl ?_))
 simp only [go_sem, simprocAttr, Dn]
 refine Ar ?_
 refine Bj (α := Nat × (List Fault)) (fun γ => (γ.1 <= ds.length) /\ (γ.2 = g ++ IU ps ds γ.1) /\ (γ.2.length <= g.length + 3 * γ.1)) (fun γ => ⟨mkE [(1, V.ptr 1 0), (3, .own 999 γ.2.length), (7, .int .i64 γ.1)], mkH [(1, Ob.box 25 [V.list (List.map Airport.enc ps) false, V.list (List.map Distance.enc ds) false]), (999, .arr 126 2 (Az γ.2))]⟩) (fun γ => ds.length - γ.1) (0, g) ⟨As _, by rw [IU, Br], AF _⟩ ?_ ?_
 ·exact leM
 rintro ⟨j, g2⟩ ⟨hj, hg2, hgl2⟩ KL4 hKL4
 try dsimp only at *
 refine Ab (Ab (Z 11 rfl ?_))
 simp only [go_sem, simprocAttr, Dn]
 refine Ai rfl (fun hc11 => ?_) fun hc11 => ?_
 ·simp only [hcL] at hc11
  refine Ah ?_
  refine Ab (Ar ?_)
  have hd := Id (i := j) (by omega)
  have hi2 := Je (i := j) (by omega)
  have hj0 : (0 : Int) <= (j : Int) := by omega
  have e1 := AfO ps ds j
  have hst : IU ps ds (j + 1) = IU ps ds j ++ FK (Ql ++ dec j) (JR ps ds j (ds.getD j Distance.zero)) := rfl
  have hel := XF ps ds j (ds.getD j Distance.zero)
  generalize JR ps ds j (ds.getD j Distance.zero) = es at e1 hst hel
  refine Ab (Z 13 rfl ?_)
  simp only [go_sem, simprocAttr, e1, hj0, hc11, hdm, hlp, Dn]
  and_intros <;> try exact sdA
  refine Ab (Z 14 rfl ?_)
  simp only [go_sem, simprocAttr, Dn]
  refine Ar ?_
  refine Bj (α := Nat × (List Fault)) (fun γ => (γ.1 <= es.length) /\ (γ.2 = g2 ++ FK (Ql ++ dec j) (es.take γ.1)) /\ (γ.2.length <= g2.length + γ.1)) (fun γ => ⟨mkE [(1, V.ptr 1 0), (3, .own 999 γ.2.length), (7, V.int IntKind.i64 ↑j), (8, V.list (Ao es) false), (9, .int .i64 γ.1)], mkH [(1, Ob.box 25 [V.list (List.map Airport.enc ps) false, V.list (List.map Distance.enc ds) false]), (999, .arr 126 2 (Az γ.2))]⟩) (fun γ => es.length - γ.1) (0, g2) ⟨As _, by simp [FK], AF _⟩ ?_ ?_
  ·exact leM
  rintro ⟨k, f⟩ ⟨hk, hf, hfl⟩ KL6 hKL6
  try dsimp only at *
  refine Ab (Ab (Z 15 rfl ?_))
  simp only [go_sem, simprocAttr, Dn]
  refine Ai rfl (fun hc15 => ?_) fun hc15 => ?_
  ·simp only [hcL] at hc15
   refine Ah ?_
   refine Ab (Ar ?_)
   refine FG (EF := EF0) hG mixed (by rw [hN]; exact AmT) AhZ ?_
   simp only [QX, Xo, go_sem, simprocAttr, inI, EY _ _ _ hc15, hc15, AC, hi2, Dn]
   and_intros <;> (try first | exact sdA | (simp only [An, Aw, Ax]; omega))
   refine Z 16 rfl ?_
   simp only [go_sem, simprocAttr, inI, Dn]
   and_intros <;> try exact sdA
   refine hKL6 (k + 1, f ++ [⟨es[k], Ql ++ dec j⟩]) _ ?_ ?_ ?_
   ·(try dsimp only); refine ⟨hc15, ?_, by simp only [An, Aw, Ax]; omega⟩; rw [hf, XM _ hc15, EH]
   ·(try dsimp only); omega
   refine Le.mk _ _ ?_ ?_ rfl <;> simp only [go_sem, simprocAttr, An, Aw, Ax] <;> and_intros <;> try exact leA
  simp only [hcL] at hc15
  refine Be ?_
  simp only [go_sem, simprocAttr]
  refine Z 12 rfl ?_
  simp only [go_sem, simprocAttr, inI, Dn]
  and_intros <;> try exact sdA
  refine hKL4 (j + 1, f) _ ?_ ?_ ?_
  ·(try dsimp only); refine ⟨hc11, ?_, by omega⟩; rw [hst, hf, hg2, BR hc15, EH]
  ·(try dsimp only); omega
  exact leM
 simp only [hcL] at hc11
 refine Be ?_
 simp only [go_sem, simprocAttr]
 refine Ab (Z 18 rfl ?_)
 simp only [go_sem, simprocAttr, Dn]
 refine AW.le (s' := ⟨mkE [(2, .list (Az g2) false)], mkH []⟩) (Le.mk _ _ ?_ ?_ rfl) (Ag (hQ _ _ (.inl rfl) ?_ ?_ ?_)) <;> simp only [go_sem, simprocAttr, Ph, Ic]
 ·exact DA rfl (by rw [EW]) rfl (Gp _)
 rw [hg2, hg, NC hi hc3, NC hj hc11]
def Edge (ds : List Distance) (x y : List UInt8) (n : Int) : Prop := ∃ d ∈ ds, Do d = true /\ n = d.miles /\ ((x = d.from' /\ y = d.to') \/ (x = d.to' /\ y = d.from'))
inductive Walk (ds : List Distance) (x : List UInt8) : List UInt8 -> Int -> Prop
 | nil : Walk ds x x 0
 | snoc {y z : List UInt8} {n k : Int} : Walk ds x y n -> Edge ds y z k -> Walk ds x z (n + k)
theorem UU (d : Distance) : Do d = true ↔ 1 <= d.miles /\ d.miles <= 20000 := by unfold Do; rw [Bx, decide_eq_true_iff, decide_eq_true_iff]
theorem Edge.bd {ds x y n} (h : Edge ds x y n) : 1 <= n /\ n <= 20000 := by
 obtain ⟨d, _, h2, h3, _⟩ := h
 rw [h3]; exact (UU d).1 h2
def ends (c : List UInt8) (ds : List Distance) : List (List UInt8) := c :: ds.flatMap fun d => [d.from', d.to']
theorem OO (c ds) : (ends c ds).length = 2 * ds.length + 1 := by
 unfold ends
 rw [Aw]
 congr 1
 induction ds with
 | nil => rfl
 | cons d ds ih => rw [Ny, An, ih]; simp only [Aw, Ax]; omega
theorem Afx {c ds x y n} (h : Edge ds x y n) : x ∈ ends c ds /\ y ∈ ends c ds := by
 obtain ⟨d, h1, _, _, h4⟩ := h
 have hf : d.from' ∈ ends c ds := AU _ (Kt.2 ⟨d, h1, by simp⟩)
 have ht : d.to' ∈ ends c ds := AU _ (Kt.2 ⟨d, h1, by simp⟩)
 rcases h4 with ⟨rfl, rfl⟩ | ⟨rfl, rfl⟩
 ·exact ⟨hf, ht⟩
 ·exact ⟨ht, hf⟩
def Oi (L : Av Int) (k : List UInt8) : Nat := ((Au L k).getD 1000000000).toNat
def mu (E : List (List UInt8)) (L : Av Int) : Nat := (E.map (Oi L)).sum
def rc (E : List (List UInt8)) (L : Av Int) : Nat := E.countP fun k => (Au L k).isSome
theorem Uv {α : Type} {f g : α -> Nat} : ∀ {E : List α}, (∀ k ∈ E, f k <= g k) -> (E.map f).sum <= (E.map g).sum
 | [], _ => AF _
 | a :: E, h => by
  rw [BE, BE, DP, DP]
  have h1 := h a (AH ..)
  have h2 := Uv (E := E) (f := f) (g := g) fun k hk => h k (AU _ hk)
  omega
theorem Uw {α : Type} {f g : α -> Nat} : ∀ {E : List α} {x : α}, (∀ k ∈ E, f k <= g k) -> x ∈ E -> f x < g x -> (E.map f).sum < (E.map g).sum
 | a :: E, x, h, hx, hl => by
  rw [BE, BE, DP, DP]
  have h1 := h a (AH ..)
  have h2 := Uv (E := E) (f := f) (g := g) fun k hk => h k (AU _ hk)
  rcases AN.1 hx with rfl | hx
  ·omega
  ·have h3 := Uw (E := E) (x := x) (f := f) (g := g) (fun k hk => h k (AU _ hk)) hx hl
   omega
theorem Qe (E L) : rc E L = (E.map fun k => if (Au L k).isSome then 1 else 0).sum := by
 unfold rc
 induction E with
 | nil => rfl
 | cons a E ih => rw [List.countP_cons, BE, DP, ih]; omega
theorem Qd (E L) : rc E L <= E.length := List.countP_le_length
theorem WD {L : Av Int} {k : List UInt8} {v : Int} {p} : p ∈ BA L k v -> p = (k, v) \/ p ∈ L := by
 induction L with
 | nil => intro h; exact .inl (by simpa [BA] using h)
 | cons q L ih =>
  obtain ⟨k', v'⟩ := q
  rw [BA]
  intro h
  split at h
  ·rcases AN.1 h with h | h
   ·exact .inl h
   ·exact .inr (AU _ h)
  ·rcases AN.1 h with h | h
   ·exact .inr (h ▸ AH ..)
   ·rcases ih h with h | h
    ·exact .inl h
    ·exact .inr (AU _ h)
theorem Aeh {L : Av Int} {k : List UInt8} {v : Int} : (BA L k v).length = L.length + if (Au L k).isSome then 0 else 1 := by
 induction L with
 | nil => rfl
 | cons q L ih =>
  obtain ⟨k', v'⟩ := q
  rw [BA, Ia]
  split
  ·simp
  ·rw [Aw, ih, Aw]; omega
structure InvL (ds : List Distance) (c : List UInt8) (L : Av Int) : Prop where
 len : L.length <= rc (ends c ds) L
 vals : ∀ p ∈ L, 0 <= p.2 /\ p.2 <= 20000 * (rc (ends c ds) L : Int)
 walks : ∀ p ∈ L, Walk ds c p.1 p.2
 start : Au L c = some 0
theorem InvL.first (ds c) : InvL ds c [(c, 0)] := by
 have h1 : Au ([(c, 0)] : Av Int) c = some 0 := by rw [Ia, if_pos rfl]
 have h2 : 1 <= rc (ends c ds) [(c, 0)] := by
  unfold rc ends; rw [List.countP_cons_of_pos (by rw [h1]; rfl)]; omega
 refine ⟨h2, fun p hp => ?_, fun p hp => ?_, h1⟩
 ·obtain rfl : p = (c, 0) := by simpa using hp
  dsimp only; omega
 ·obtain rfl : p = (c, 0) := by simpa using hp
  exact .nil
theorem InvL.get {ds c L k v} (h : InvL ds c L) (hk : Au L k = some v) : 0 <= v /\ v <= 20000 * (rc (ends c ds) L : Int) /\ Walk ds c k v := by
 have h1 := h.vals _ (JN hk)
 exact ⟨h1.1, h1.2, h.walks _ (JN hk)⟩
theorem InvL.big {ds c L} (h : InvL ds c L) (hd : ds.length <= 1000) : L.length <= 1000000 /\ ∀ p ∈ L, 0 <= p.2 /\ p.2 <= 1000000000 := by
 have h1 := Qd (ends c ds) L
 rw [OO] at h1
 have h2 := h.len
 refine ⟨by omega, fun p hp => ?_⟩
 have := h.vals p hp
 omega
theorem InvL.put {ds c L x y m n} (h : InvL ds c L) (hd : ds.length <= 1000) (he : Edge ds x y n) (hx : Au L x = some m) (hy : ∀ o, Au L y = some o -> m + n < o) : InvL ds c (BA L y (m + n)) /\ mu (ends c ds) (BA L y (m + n)) < mu (ends c ds) L := by
 obtain ⟨g1, g2, g3⟩ := h.get hx
 have hb := he.bd
 have hE := (Afx (c := c) he).2
 have hrE := Qd (ends c ds) L
 rw [OO] at hrE
 have hrc : rc (ends c ds) L <= rc (ends c ds) (BA L y (m + n)) := by
  rw [Qe, Qe]
  refine Uv fun k _ => ?_
  rw [IS]
  by_cases e : y = k
  ·rw [if_pos e]; split <;> simp
  ·rw [if_neg e]; exact AF _
 have hrc2 : Au L y = none -> rc (ends c ds) L + 1 <= rc (ends c ds) (BA L y (m + n)) := fun hn => by
  rw [Qe, Qe]
  refine Uw (x := y) (fun k _ => ?_) hE (by rw [IS, if_pos rfl, hn]; simp)
  rw [IS]
  by_cases e : y = k
  ·rw [if_pos e]; split <;> simp
  ·rw [if_neg e]; exact AF _
 refine ⟨⟨?_, fun p hp => ?_, fun p hp => ?_, ?_⟩, ?_⟩
 ·rw [Aeh]
  have h1 := h.len
  cases hn : Au L y with
  | none => have := hrc2 hn; simp; omega
  | some o => simp; omega
 ·rcases WD hp with rfl | hp
  ·dsimp only
   refine ⟨by omega, ?_⟩
   cases hn : Au L y with
   | none => have := hrc2 hn; omega
   | some o => have := hy o hn; have := (h.get hn).2.1; omega
  ·have := h.vals p hp; omega
 ·rcases WD hp with rfl | hp
  ·exact .snoc g3 he
  ·exact h.walks p hp
 ·rw [IS]
  by_cases e : y = c
  ·have := hy 0 (e ▸ h.start); omega
  ·rw [if_neg e]; exact h.start
 ·unfold mu
  have hval : Oi (BA L y (m + n)) y < Oi L y := by
   unfold Oi
   rw [IS, if_pos rfl, Fd]
   cases hn : Au L y with
   | none => simp only [LI]; omega
   | some o => have := hy o hn; simp only [Fd]; omega
  refine Uw (x := y) (fun k _ => ?_) hE hval
  by_cases e : y = k
  ·subst e; exact Nat.le_of_lt hval
  ·unfold Oi; rw [IS, if_neg e]; exact AF _
theorem TQ (L x y n) : CJ L x y n = (L, false) /\ (∀ m, Au L x = some m -> ∃ o, Au L y = some o /\ o <= m + n) \/ ∃ m, Au L x = some m /\ (∀ o, Au L y = some o -> m + n < o) /\ CJ L x y n = (BA L y (m + n), true) := by
 unfold CJ
 cases hx : Au L x with
 | none => exact .inl ⟨rfl, fun m h => by cases h⟩
 | some m =>
  cases hy : Au L y with
  | none => exact .inr ⟨m, rfl, fun o h => (by cases h), rfl⟩
  | some o =>
   dsimp only
   by_cases hc : o <= m + n
   ·rw [if_pos hc]
    exact .inl ⟨rfl, fun m' h => ⟨o, rfl, by injection h with h; omega⟩⟩
   ·rw [if_neg hc]
    exact .inr ⟨m, rfl, fun o' h => by injection h with h; omega, rfl⟩
theorem Qg {ds c L x y n} (h : InvL ds c L) (hd : ds.length <= 1000) (he : Edge ds x y n) : InvL ds c (CJ L x y n).1 /\ mu (ends c ds) (CJ L x y n).1 <= mu (ends c ds) L /\ ((CJ L x y n).2 = true -> mu (ends c ds) (CJ L x y n).1 < mu (ends c ds) L) /\ ((CJ L x y n).2 = false -> (CJ L x y n).1 = L) := by
 rcases TQ L x y n with ⟨h1, _⟩ | ⟨m, h1, h2, h3⟩
 ·rw [h1]; exact ⟨h, AF _, fun h => (by cases h), fun _ => rfl⟩
 ·obtain ⟨p1, p2⟩ := h.put hd he h1 h2
  rw [h3]; exact ⟨p1, by dsimp only; omega, fun _ => p2, fun h => by cases h⟩
theorem RN {ds : List Distance} {d : Distance} (h : d ∈ ds) (hu : Do d = true) : Edge ds d.from' d.to' d.miles := ⟨d, h, hu, rfl, .inl ⟨rfl, rfl⟩⟩
theorem Afv {ds : List Distance} {d : Distance} (h : d ∈ ds) (hu : Do d = true) : Edge ds d.to' d.from' d.miles := ⟨d, h, hu, rfl, .inr ⟨rfl, rfl⟩⟩
theorem Ur {ds c L} {d : Distance} (h : InvL ds c L) (hd : ds.length <= 1000) (hm : d ∈ ds) (hu : Do d = true) : InvL ds c (DR L d.from' d.to' d.miles).1 /\ mu (ends c ds) (DR L d.from' d.to' d.miles).1 <= mu (ends c ds) L /\ ((DR L d.from' d.to' d.miles).2 = true -> mu (ends c ds) (DR L d.from' d.to' d.miles).1 < mu (ends c ds) L) /\ ((DR L d.from' d.to' d.miles).2 = false -> (DR L d.from' d.to' d.miles).1 = L) := by
 obtain ⟨a1, a2, a3, a4⟩ := Qg h hd (RN hm hu)
 obtain ⟨b1, b2, b3, b4⟩ := Qg a1 hd (Afv hm hu)
 unfold DR
 refine ⟨b1, by dsimp only; omega, fun hh => ?_, fun hh => ?_⟩
 ·dsimp only at hh ⊢
  rcases (Gd _ _).mp hh with hh | hh
  ·have := a3 hh; omega
  ·have := b3 hh; omega
 ·dsimp only at hh ⊢
  obtain ⟨h1, h2⟩ := Cg.1 hh
  rw [b4 h2, a4 h1]
def rnd : List Distance -> Av Int -> Bool -> Av Int × Bool
 | [], L, b => (L, b)
 | d :: ds, L, b => if Do d = true then rnd ds (DR L d.from' d.to' d.miles).1 (b || (DR L d.from' d.to' d.miles).2) else rnd ds L b
theorem TX {ds : List Distance} {i : Nat} (hi : i < ds.length) (h : Do ds[i] = true) (L b) : rnd (ds.drop i) L b = rnd (ds.drop (i + 1)) (DR L ds[i].from' ds[i].to' ds[i].miles).1 (b || (DR L ds[i].from' ds[i].to' ds[i].miles).2) := by
 rw [DL hi, rnd, if_pos h]
theorem AbT {ds : List Distance} {i : Nat} (hi : i < ds.length) (h : Do ds[i] = false) (L b) : rnd (ds.drop i) L b = rnd (ds.drop (i + 1)) L b := by
 rw [DL hi, rnd, if_neg (by rw [h]; decide)]
theorem AbS {ds : List Distance} {i : Nat} (hi : ds.length <= i) (L b) : rnd (ds.drop i) L b = (L, b) := by
 rw [Hz hi, rnd]
theorem NY {ds c} (hd : ds.length <= 1000) : ∀ (es : List Distance), (∀ d ∈ es, d ∈ ds) -> ∀ L b, InvL ds c L -> InvL ds c (rnd es L b).1 /\ mu (ends c ds) (rnd es L b).1 <= mu (ends c ds) L /\ ((rnd es L b).2 = true -> b = true \/ mu (ends c ds) (rnd es L b).1 < mu (ends c ds) L) /\ ((rnd es L b).2 = false -> b = false /\ (rnd es L b).1 = L /\ ∀ d ∈ es, Do d = true -> (DR L d.from' d.to' d.miles).2 = false)
 | [], _, L, b, h => ⟨h, AF _, fun h => .inl h, fun h => ⟨h, rfl, fun _ hd => absurd hd Dh⟩⟩
 | d :: es, hs, L, b, h => by
  have hs2 : ∀ d ∈ es, d ∈ ds := fun d hd => hs d (AU _ hd)
  rw [rnd]
  by_cases hu : Do d = true
  ·rw [if_pos hu]
   obtain ⟨a1, a2, a3, a4⟩ := Ur h hd (hs d (AH ..)) hu
   obtain ⟨b1, b2, b3, b4⟩ := NY hd es hs2 _ (b || (DR L d.from' d.to' d.miles).2) a1
   refine ⟨b1, by omega, fun hh => ?_, fun hh => ?_⟩
   ·rcases b3 hh with h1 | h1
    ·rcases (Gd _ _).mp h1 with h1 | h1
     ·exact .inl h1
     ·have := a3 h1; exact .inr (by omega)
    ·exact .inr (by omega)
   ·obtain ⟨c1, c2, c3⟩ := b4 hh
    obtain ⟨e1, e2⟩ := Cg.1 c1
    rw [a4 e2] at c2 c3
    refine ⟨e1, by rw [a4 e2]; exact c2, fun d' hd' hu' => ?_⟩
    rcases AN.1 hd' with rfl | hd'
    ·exact e2
    ·exact c3 d' hd' hu'
  ·rw [if_neg hu]
   obtain ⟨b1, b2, b3, b4⟩ := NY hd es hs2 L b h
   refine ⟨b1, b2, b3, fun hh => ?_⟩
   obtain ⟨c1, c2, c3⟩ := b4 hh
   refine ⟨c1, c2, fun d' hd' hu' => ?_⟩
   rcases AN.1 hd' with rfl | hd'
   ·exact absurd hu' hu
   ·exact c3 d' hd' hu'
def Hw (ds : List Distance) : Nat -> Av Int -> Av Int
 | 0, L => L
 | m + 1, L => if (rnd ds L false).2 = true then Hw ds m (rnd ds L false).1 else (rnd ds L false).1
def GS (ds : List Distance) (c : List UInt8) : Av Int := Hw ds (mu (ends c ds) [(c, 0)] + 1) [(c, 0)]
theorem SR {ds c m L} (hd : ds.length <= 1000) (h : InvL ds c L) (hm : mu (ends c ds) L < m) (hr : (rnd ds L false).2 = true) : ∃ k, m = k + 1 /\ mu (ends c ds) (rnd ds L false).1 < k /\ Hw ds m L = Hw ds k (rnd ds L false).1 := by
 obtain ⟨k, rfl⟩ : ∃ k, m = k + 1 := ⟨m - 1, by omega⟩
 refine ⟨k, rfl, ?_, by rw [Hw, if_pos hr]⟩
 rcases (NY hd ds (fun _ h => h) L false h).2.2.1 hr with h1 | h1
 ·cases h1
 ·omega
theorem SS {ds c m L} (hd : ds.length <= 1000) (h : InvL ds c L) (hm : mu (ends c ds) L < m) (hr : (rnd ds L false).2 = false) : Hw ds m L = (rnd ds L false).1 := by
 obtain ⟨k, rfl⟩ : ∃ k, m = k + 1 := ⟨m - 1, by omega⟩
 rw [Hw, if_neg (by rw [hr]; decide)]
structure FinL (ds : List Distance) (c : List UInt8) (F : Av Int) : Prop where
 inv : InvL ds c F
 closed : ∀ x y n, Edge ds x y n -> ∀ m, Au F x = some m -> ∃ o, Au F y = some o /\ o <= m + n
theorem Aao {ds c} (hd : ds.length <= 1000) : ∀ m L, InvL ds c L -> mu (ends c ds) L < m -> FinL ds c (Hw ds m L)
 | 0, L, _, h => absurd h (Ee _)
 | m + 1, L, h, hm => by
  cases hr : (rnd ds L false).2 with
  | true =>
   obtain ⟨k, hk, h1, h2⟩ := SR hd h hm hr
   obtain rfl : m = k := by omega
   rw [h2]
   exact Aao hd m _ (NY hd ds (fun _ h => h) L false h).1 h1
  | false =>
   rw [SS hd h hm hr]
   obtain ⟨_, h2, h3⟩ := (NY hd ds (fun _ h => h) L false h).2.2.2 hr
   rw [h2]
   refine ⟨h, fun x y n he m hx => ?_⟩
   obtain ⟨d, hm, hu, rfl, hc⟩ := he
   have h4 := h3 d hm hu
   unfold DR at h4
   dsimp only at h4
   obtain ⟨e1, e2⟩ := Cg.1 h4
   have k1 : CJ L d.from' d.to' d.miles = (L, false) /\ ∀ m, Au L d.from' = some m -> ∃ o, Au L d.to' = some o /\ o <= m + d.miles := by
    rcases TQ L d.from' d.to' d.miles with h | ⟨m, _, _, h⟩
    ·exact h
    ·rw [h] at e1; cases e1
   rw [k1.1] at e2
   have k2 : ∀ m, Au L d.to' = some m -> ∃ o, Au L d.from' = some o /\ o <= m + d.miles := by
    rcases TQ L d.to' d.from' d.miles with h | ⟨m, _, _, h⟩
    ·exact h.2
    ·rw [h] at e2; cases e2
   rcases hc with ⟨rfl, rfl⟩ | ⟨rfl, rfl⟩
   ·exact k1.2 m hx
   ·exact k2 m hx
theorem Aan {ds} (hd : ds.length <= 1000) (c) : FinL ds c (GS ds c) := Aao hd _ _ (InvL.first ds c) (Iu _)
def NP (o : Option Int) : Int × Int := match o with
 | none => (0, 7)
 | some n => (n, 0)
def Eg (ps : List Airport) (ds : List Distance) (a b : List UInt8) : Int × Int := if BZ ps a = [] \/ BZ ps b = [] then (0, 14) else NP (Au (GS ds (BZ ps a)) (BZ ps b))
theorem AbL {d : Option Nat} {s : St} {K : St -> Prop} {nb nm : Nat} {L L' : Av Int} {x y : List UInt8} {n : Int} {ok : Bool} (he : Eff Tryz.prog UT 181 [.str x, .str y, .int .i64 n, .ptr 1000 0] (mpO 1000 1001 L) (.bool ok) (mpO 1000 1001 L'))
  (hb : s.h nb = some (.box 240 [.map nm])) (ha : s.h nm = some (.mp (BB fI8 L))) (hne : nb ≠ nm)
  (hK : K ⟨Cm d (.bool ok) s.e, hov (mpO nb nm L') s.h⟩) : Dp Tryz.prog UT d 181 [.str x, .str y, .int .i64 n, .ptr nb 0] s K := by
 have hne2 : nm ≠ nb := Ne.symm hne
 refine ⟨[(1000, nb), (1001, nm)], [], _, _, _, _, he, ⟨by simp [okL, hne], rfl, rfl, by simp, by simp, ?_, by simp [V.rens, V.ren, rni, hne2], by simp [V.nins, V.nin], by simp [V.nin, V.nins], ?_, ?_⟩, ?_⟩
 ·intro p hp
  simp only [AN, Dh, or_false] at hp
  rcases hp with rfl | rfl
  ·exact ⟨_, hb, by simp [mpO, mkH, Ob.ren, V.rens, V.ren, rni, hne2], by simp [Ob.nin, V.nins, V.nin]⟩
  ·exact ⟨_, ha, by simp only [mpO, mkH, Ob.ren]; simp [Th], by simp only [Ob.nin, Tf]⟩
 ·intro q hq
  simp only [mpO, AN, Dh, or_false] at hq
  rcases hq with rfl | rfl
  ·simp [Ob.nin, V.nins, V.nin, mpO]
  ·simp only [Ob.nin, Tf]
 ·intro p hp o o' h1 h2
  simp only [AN, Dh, or_false] at hp
  rcases hp with rfl | rfl <;> simp [mpO, mkH] at h1 h2 <;> subst h1 h2 <;> simp [Ob.kind]
 ·have e1 : (V.bool ok).ren (rn ([(1000, nb), (1001, nm)] ++ [])) = .bool ok := by simp [V.ren]
  have e2 : (mpO 1000 1001 L').map (fun q : Nat × Ob => (rn ([(1000, nb), (1001, nm)] ++ []) q.1, q.2.ren (rn ([(1000, nb), (1001, nm)] ++ [])))) = mpO nb nm L' := by
   simp [mpO, rn, Ob.ren, V.rens, V.ren, Th]
  rw [e1, e2]
  exact hK
def MOk (p : Places) : Prop := BD p /\ p.distances.length <= 1000
def aMi := ar (vg Places.enc) (ar V.str (ao V.str))
theorem Rl : Ij aMi := ijr (ijg Places.inj) (ijr ijs (ijo ijs))
def GN (x : Places × List UInt8 × List UInt8) : Prop × V := (MOk x.1, .tup [.int .i64 (Eg x.1.airports x.1.distances x.2.1 x.2.2).1, .int .i64 (Eg x.1.airports x.1.distances x.2.1 x.2.2).2])
theorem FN (ps : List Airport) (ds : List Distance) (c : List UInt8) : gOf aPs Gl [.agg [.list (ps.map Airport.enc) false, .list (ds.map Distance.enc) false], .str c] = (BD ⟨ps, ds⟩, .str (BZ ps c)) := Al GE (⟨ps, ds⟩, c)
def EFm : Nat -> Bool := fun f => f == 181
def tMi : Tab
 | 180 => (gOf aPs Gl)
 | 182 => (gOf GD IZ)
 | _ => gNo
theorem Alz : ∀ f, PU f (tMi f) := fun f => by
 unfold tMi
 split
 ·exact AeJ
 ·exact AnA
 ·exact Aj.no
theorem Abz (k : List UInt8) (v : Int) : BK [] (.s k) (.int .i64 v) = BB fI8 [(k, v)] := Aby [] k v
theorem AaV {ps ds a b f t} (hcf : BZ ps a = f) (hct : BZ ps b = t) (h : (decide (f = []) || decide (t = [])) = true) : Eg ps ds a b = (0, 14) := by
 subst hcf hct; unfold Eg; rw [if_pos (by simpa using h)]
theorem PT {ps ds a b f t} (hcf : BZ ps a = f) (hct : BZ ps b = t) (h : (decide (f = []) || decide (t = [])) = false) : Eg ps ds a b = NP (Au (GS ds f) t) := by
 subst hcf hct; unfold Eg; rw [if_neg (by simpa using h)]
theorem Ahn : PU 138 (gOf aMi GN) := by
 have hG := Alz
 refine Se.a Rl (by simp [aMi]) ?_
 rintro ⟨⟨ps, ds⟩, a, b⟩ hv C hN Q hQ
 have Y := Se.D EFm hG hN mixed
 have Z := Se.R EFm hG hN
 obtain ⟨hl, hd⟩ : MOk ⟨ps, ds⟩ := hv
 dsimp only at hd
 generalize hcf : BZ ps a = f
 generalize hct : BZ ps b = t
 refine Ab (Z 0 rfl ?_)
 simp only [go_sem, simprocAttr, aMi, Places.enc, tMi, EFm]
 refine Ab (Y 1 rfl (by kernel_rfl) ?_)
 simp only [go_sem, simprocAttr, FN, hl, hcf, hct, tMi, EFm]
 and_intros <;> try exact sdA
 refine Ab (Ab (Z 2 rfl ?_))
 simp only [go_sem, simprocAttr, tMi, EFm]
 and_intros <;> try exact sdA
 refine Ai rfl (fun hb2 => ?_) fun hb2 => ?_
 ·refine Ab (Z 3 rfl ?_)
  simp only [go_sem, simprocAttr, tMi, EFm]
  refine Ag (hQ _ _ (.inl rfl) ?_ ?_ ?_) <;> simp only [go_sem, simprocAttr, GN]
  rw [AaV hcf hct hb2]
 refine Ah ?_
 refine Ab (Z 4 rfl ?_)
 simp only [go_sem, simprocAttr, mpO, Abz, tMi, EFm]
 and_intros <;> try exact sdA
 refine Ab (Z 5 rfl ?_)
 simp only [go_sem, simprocAttr, tMi, EFm]
 refine Ab (Ab (Z 6 rfl ?_))
 simp only [go_sem, simprocAttr, tMi, EFm]
 refine Ar ?_
 refine Bj (α := (Av Int) × Bool × Nat) (fun γ => (InvL ds f γ.1) /\ (γ.2.1 = true -> mu (ends f ds) γ.1 < γ.2.2 /\ GS ds f = Hw ds γ.2.2 γ.1) /\ (γ.2.1 = false -> GS ds f = γ.1)) (fun γ => ⟨mkE [(3, V.ptr 3 0), (9, V.str t), (10, V.ptr 10 0), (11, V.fn 181 [V.ptr 10 0]), (12, .bool γ.2.1)], mkH [(3, Ob.box 25 [V.list (List.map Airport.enc ps) false, V.list (List.map Distance.enc ds) false]), (10, Ob.box 240 [V.map 31]), (31, .mp (BB fI8 γ.1))]⟩) (fun γ => γ.2.2) ([(f, 0)], true, mu (ends f ds) [(f, 0)] + 1) ⟨InvL.first ds f, fun _ => ⟨Iu _, rfl⟩, fun h => by cases h⟩ ?_ ?_
 ·refine Le.mk _ _ ?_ ?_ rfl <;> simp only [go_sem, simprocAttr, Abz] <;> and_intros <;> try exact leA
 rintro ⟨L, more, m⟩ ⟨hI, hm, hs⟩ KL0 hKL0
 try dsimp only at *
 refine Ab (Ab (Z 7 rfl ?_))
 simp only [go_sem, simprocAttr, tMi, EFm]
 refine Ai rfl (fun hb7 => ?_) fun hb7 => ?_
 ·refine Ah ?_
  refine Ar (Ab (Z 8 rfl ?_))
  simp only [go_sem, simprocAttr, tMi, EFm]
  refine Ab (Z 9 rfl ?_)
  simp only [go_sem, simprocAttr, tMi, EFm]
  refine Ar ?_
  refine Bj (α := Nat × (Av Int) × Bool) (fun γ => (γ.1 <= ds.length) /\ (rnd ds L false = rnd (ds.drop γ.1) γ.2.1 γ.2.2) /\ (InvL ds f γ.2.1)) (fun γ => ⟨mkE [(3, V.ptr 3 0), (9, V.str t), (10, V.ptr 10 0), (11, V.fn 181 [V.ptr 10 0]), (12, .bool γ.2.2), (37, V.list (List.map Distance.enc ds) false), (38, V.int IntKind.i64 ↑ds.length), (39, .int .i64 γ.1)], mkH [(3, Ob.box 25 [V.list (List.map Airport.enc ps) false, V.list (List.map Distance.enc ds) false]), (10, Ob.box 240 [V.map 31]), (31, .mp (BB fI8 γ.2.1))]⟩) (fun γ => ds.length - γ.1) (0, L, false) ⟨As _, by rw [Hb], hI⟩ ?_ ?_
  ·exact leM
  rintro ⟨i, L2, b2⟩ ⟨hi, hr, hI2⟩ KL2 hKL2
  try dsimp only at *
  refine Ab (Z 10 rfl ?_)
  simp only [go_sem, simprocAttr, tMi, EFm]
  refine Ab ?_
  refine Ai rfl (fun hc10 => ?_) fun hc10 => ?_
  ·simp only [hcL] at hc10
   refine Ah ?_
   refine Dq (α := (Av Int) × Bool) (fun γ => (rnd ds L false = rnd (ds.drop (i + 1)) γ.1 γ.2) /\ (InvL ds f γ.1)) (fun γ => ⟨mkE [(3, V.ptr 3 0), (9, V.str t), (10, V.ptr 10 0), (11, V.fn 181 [V.ptr 10 0]), (12, .bool γ.2), (37, V.list (List.map Distance.enc ds) false), (38, V.int IntKind.i64 ↑ds.length), (39, V.int IntKind.i64 ↑i)], mkH [(3, Ob.box 25 [V.list (List.map Airport.enc ps) false, V.list (List.map Distance.enc ds) false]), (10, Ob.box 240 [V.map 31]), (31, .mp (BB fI8 γ.1))]⟩) ?_ ?_
   ·intro KCb3 hKCb3
    refine Ar (Ab (Z 11 rfl ?_))
    simp only [go_sem, simprocAttr, Ap _ _ _ _ hc10, hc10, Distance.enc, tMi, EFm]
    and_intros <;> try exact sdA
    refine Ab (Z 12 rfl ?_)
    simp only [go_sem, simprocAttr, RS, tMi, EFm]
    and_intros <;> try exact sdA
    refine Ai rfl (fun hb12 => ?_) fun hb12 => ?_
    ·have hu := (UU ds[i]).1 hb12
     have hmem := AI hc10
     have hs2 := Qg hI2 hd (RN hmem hb12)
     have hs3 := Ur hI2 hd hmem hb12
     refine Ab (Z 13 rfl ?_)
     simp only [go_sem, simprocAttr, tMi, EFm]
     refine AbL (AbK L2 _ _ _ (hI2.big hd).2 ⟨by omega, by omega⟩) (by rfl) (by rfl) (by decide) ?_
     simp only [go_sem, simprocAttr, mpO]
     refine Ab (Z 14 rfl ?_)
     simp only [go_sem, simprocAttr, tMi, EFm]
     refine AbL (AbK _ _ _ _ (hs2.1.big hd).2 ⟨by omega, by omega⟩) (by rfl) (by rfl) (by decide) ?_
     simp only [go_sem, simprocAttr, mpO]
     refine Z 15 rfl ?_
     simp only [go_sem, simprocAttr, tMi, EFm]
     and_intros <;> try exact sdA
     refine hKCb3 ((DR L2 ds[i].from' ds[i].to' ds[i].miles).1, (b2 || (DR L2 ds[i].from' ds[i].to' ds[i].miles).2)) _ ?_ ?_
     ·(try dsimp only); exact ⟨by rw [hr, TX hc10 hb12], hs3.1⟩
     refine Le.mk _ _ ?_ ?_ rfl <;> simp only [go_sem, simprocAttr, DR, mpO, Bool.or_assoc] <;> and_intros <;> try exact leA
    refine Ah ?_
    refine hKCb3 (L2, b2) _ ?_ ?_
    ·(try dsimp only); exact ⟨by rw [hr, AbT hc10 hb12], hI2⟩
    exact leM
   rintro ⟨L3, b3⟩ ⟨hr3, hI3⟩
   try dsimp only at *
   refine Z 16 rfl ?_
   simp only [go_sem, simprocAttr, inI, tMi, EFm]
   and_intros <;> try exact sdA
   refine hKL2 (i + 1, L3, b3) _ ?_ ?_ ?_
   ·(try dsimp only); exact ⟨hc10, hr3, hI3⟩
   ·(try dsimp only); omega
   exact leM
  simp only [hcL] at hc10
  rw [AbS hc10] at hr
  obtain ⟨hm1, hm2⟩ := hm hb7
  refine Be ?_
  simp only [go_sem, simprocAttr]
  refine hKL0 (L2, b2, m - 1) _ ?_ ?_ ?_
  ·(try dsimp only); exact ⟨hI2, fun h => (by obtain ⟨k, rfl, h1, h2⟩ := SR hd hI hm1 (by rw [hr]; exact h); rw [hr] at h1 h2; exact ⟨h1, hm2.trans h2⟩), fun h => (by rw [hm2, SS hd hI hm1 (by rw [hr]; exact h), hr])⟩
  ·(try dsimp only); omega
  exact leM
 refine Be ?_
 simp only [go_sem, simprocAttr]
 refine Ab (Z 17 rfl ?_)
 simp only [go_sem, simprocAttr, tMi, EFm]
 and_intros <;> try exact sdA
 refine Ab (Ab (Z 18 rfl ?_))
 simp only [go_sem, simprocAttr, tMi, EFm]
 refine Ai rfl (fun hc18 => ?_) fun hc18 => ?_
 ·simp only [hcL] at hc18
  refine Ab (Z 19 rfl ?_)
  simp only [go_sem, simprocAttr, tMi, EFm]
  refine Ag (hQ _ _ (.inl rfl) ?_ ?_ ?_) <;> simp only [go_sem, simprocAttr, GN]
  rw [PT hcf hct hb2, hs hb7, PI hc18]; rfl
 simp only [hcL] at hc18
 refine Ah ?_
 refine Ab (Z 20 rfl ?_)
 simp only [go_sem, simprocAttr, tMi, EFm]
 refine Ag (hQ _ _ (.inl rfl) ?_ ?_ ?_) <;> simp only [go_sem, simprocAttr, GN]
 obtain ⟨v, hv2⟩ := Fv.1 hc18; rw [PT hcf hct hb2, hs hb7, hv2]; rfl
def aI := ao vi
theorem Mx : Ij aI := ijo iji
def Cj := ar vi (ao vi)
theorem Ho : Ij Cj := ijr iji (ijo iji)
def aLi (x : List Int) : List V := [.list (Ao x) false]
theorem Mz (a b : List Int) (h : aLi a = aLi b) : a = b := by
 simp only [aLi, Bz, V.str.injEq, V.int.injEq, V.bool.injEq, V.agg.injEq, V.list.injEq, and_true, true_and] at h
 have h0 := h
 replace h0 := Kr h0
 subst h0
 rfl
def Bq (n : Int) : Bool := decide (-1099511627776 <= n) && decide (n <= 1099511627776)
def IX (n : Int) : Prop × V := (True, .bool (Bq n))
theorem AQ (n : Int) : gOf aI IX [.int .i64 n] = (True, .bool (Bq n)) := Al Mx n
theorem Kn {n : Int} (h : Bq n = true) : -1099511627776 <= n /\ n <= 1099511627776 := by
 unfold Bq at h
 simp only [Bx, decide_eq_true_eq] at h
 exact h
theorem Aam : PU 140 (gOf aI IX) := by
 have hG := AJ
 refine Yk.a Mx (by simp [aI]) ?_
 rintro n hv C hN Q hQ
 have Z := Yk.R EF0 hG hN
 refine Ab (Z 0 rfl ?_)
 simp only [go_sem, simprocAttr, aI]
 refine Ab (Z 1 rfl ?_)
 simp only [go_sem, simprocAttr]
 and_intros <;> try exact sdA
 refine Ag (hQ _ _ (.inl rfl) ?_ ?_ ?_) <;> simp only [go_sem, simprocAttr, IX, Bq]
theorem Aeb : PU 154 (gOf aI IX) := by
 have hG := AJ
 refine Ys.a Mx (by simp [aI]) ?_
 rintro n hv C hN Q hQ
 have Z := Ys.R EF0 hG hN
 refine Ab (Z 0 rfl ?_)
 simp only [go_sem, simprocAttr, aI]
 refine Ab (Z 1 rfl ?_)
 simp only [go_sem, simprocAttr]
 and_intros <;> try exact sdA
 refine Ag (hQ _ _ (.inl rfl) ?_ ?_ ?_) <;> simp only [go_sem, simprocAttr, IX, Bq]
def HY (a b : Int) : Int × Int := if Bq a && Bq b && Bq (a + b) then (a + b, 0) else (0, 11)
def CW (n : Int) : List Int -> Int × Int
 | [] => (n, 0)
 | x :: l => if Bq x && Bq (n + x) then CW (n + x) l else (0, 11)
def Ak (y : Int × Int) : V := .tup [.int .i64 y.1, .int .i64 y.2]
def GR (l : List Int) : Prop × V := (l.length <= 140737488355328, Ak (CW 0 l))
def Pf (x : Int × Int) : Prop × V := (True, Ak (HY x.1 x.2))
theorem EB (a b : Int) : gOf Cj Pf [.int .i64 a, .int .i64 b] = (True, Ak (HY a b)) := Al Ho (a, b)
def tpS : Tab
 | 140 => (gOf aI IX)
 | _ => gNo
theorem AmF : ∀ f, PU f (tpS f) := fun f => by
 unfold tpS
 split
 ·exact Aam
 ·exact Aj.no
theorem Ak4 {s x : Int} {l : List Int} (h1 : Bq x = true) (h2 : Bq (s + x) = true) : CW s (x :: l) = CW (s + x) l := by rw [CW, h1, h2]; rfl
theorem Ak5 {s x : Int} {l : List Int} (h : Bq x = false \/ Bq (s + x) = false) : CW s (x :: l) = (0, 11) := by
 rw [CW]
 rcases h with h | h
 ·rw [h]; rfl
 ·rw [h, PQ]; rfl
theorem Uy : PU 146 (gOf aLi GR) := by
 have hG := AmF
 refine Yn.a Mz (by simp [aLi]) ?_
 rintro l hv C hN Q hQ
 have Z := Yn.R EF0 hG hN
 replace hv : l.length <= 140737488355328 := hv
 refine Ab (Z 0 rfl ?_)
 simp only [go_sem, simprocAttr, aLi, tpS, AQ]
 refine Ab (Z 1 rfl ?_)
 simp only [go_sem, simprocAttr, tpS, AQ]
 refine Ab (Ab (Z 2 rfl ?_))
 simp only [go_sem, simprocAttr, tpS, AQ]
 refine Ar ?_
 refine Bj (α := Nat × Int) (fun γ => (γ.1 <= l.length) /\ (CW 0 l = CW γ.2 (l.drop γ.1)) /\ (Bq γ.2 = true)) (fun γ => ⟨mkE [(4, .int .i64 γ.2), (7, V.list (Ao l) false), (8, V.int IntKind.i64 ↑l.length), (9, .int .i64 γ.1)], mkH []⟩) (fun γ => l.length - γ.1) (0, 0) ⟨As _, rfl, rfl⟩ ?_ ?_
 ·exact leM
 rintro ⟨i, s⟩ ⟨hi, hs, hf⟩ KL0 hKL0
 try dsimp only at *
 refine Ab (Z 3 rfl ?_)
 simp only [go_sem, simprocAttr, tpS, AQ]
 refine Ab ?_
 refine Ai rfl (fun hc3 => ?_) fun hc3 => ?_
 ·simp only [hcL] at hc3
  refine Ah ?_
  refine Ab (Ar ?_)
  have hd := DL hc3
  rw [hd] at hs
  have hsb := Kn hf
  generalize hxx : l[i] = x at hs
  refine Ab (Z 4 rfl ?_)
  simp only [go_sem, simprocAttr, EY _ _ _ hc3, hc3, hxx, tpS, AQ]
  and_intros <;> try exact sdA
  refine Ab (Ab (Z 5 rfl ?_))
  simp only [go_sem, simprocAttr, inI, tpS, AQ]
  and_intros <;> (try first | exact sdA | (intro h2; refine ⟨h2, ?_⟩; have hx2 := Kn (by simpa using h2 : Bq x = true); omega))
  refine Ai rfl (fun hb5 => ?_) fun hb5 => ?_
  ·refine Ab (Z 6 rfl ?_)
   simp only [go_sem, simprocAttr, tpS, AQ]
   refine Ag (hQ _ _ (.inl rfl) ?_ ?_ ?_) <;> simp only [go_sem, simprocAttr, GR]
   rw [hs, Ak5 (by simpa using hb5)]; rfl
  have h3 : Bq x = true /\ Bq (s + x) = true := by simpa using hb5
  have hx3 := Kn h3.2
  refine Ah ?_
  refine Z 7 rfl ?_
  simp only [go_sem, simprocAttr, inI, tpS, AQ]
  and_intros <;> try exact sdA
  refine Z 8 rfl ?_
  simp only [go_sem, simprocAttr, inI, tpS, AQ]
  and_intros <;> try exact sdA
  refine hKL0 (i + 1, s + x) _ ?_ ?_ ?_
  ·(try dsimp only); exact ⟨hc3, by rw [hs, Ak4 h3.1 h3.2], h3.2⟩
  ·(try dsimp only); omega
  exact leM
 simp only [hcL] at hc3
 refine Be ?_
 simp only [go_sem, simprocAttr]
 have hie : i = l.length := NC hi hc3
 subst hie
 rw [List.drop_length, CW] at hs
 refine Ab (Z 9 rfl ?_)
 simp only [go_sem, simprocAttr, tpS, AQ]
 refine Ag (hQ _ _ (.inl rfl) ?_ ?_ ?_) <;> simp only [go_sem, simprocAttr, GR]
 rw [hs]; rfl
theorem AdV (a b : Int) : CW 0 [a, b] = HY a b := by
 unfold CW CW CW HY
 rw [PP]
 cases Bq a <;> cases Bq b <;> cases Bq (a + b) <;> simp
theorem XR (a b : Int) : gOf aLi GR [.list [[.int .i64 a], [.int .i64 b]] false] = (True, Ak (HY a b)) := by
 have h : gOf aLi GR (aLi [a, b]) = GR [a, b] := Al Mz [a, b]
 rw [<- AdV]
 exact h.trans (by unfold GR; rw [eq_true (show ([a, b] : List Int).length <= 140737488355328 from of_decide_eq_true rfl)])
def tpA : Tab
 | 146 => (gOf aLi GR)
 | _ => gNo
theorem AmE : ∀ f, PU f (tpA f) := fun f => by
 unfold tpA
 split
 ·exact Uy
 ·exact Aj.no
theorem AdW : PU 86 (gOf Cj Pf) := by
 have hG := AmE
 refine ZW.a Ho (by simp [Cj]) ?_
 rintro ⟨a, b⟩ hv C hN Q hQ
 have Z := ZW.R EF0 hG hN
 refine Ab (Z 0 rfl ?_)
 simp only [go_sem, simprocAttr, Cj, tpA, XR]
 refine Ab (Z 1 rfl ?_)
 simp only [go_sem, simprocAttr, Ak, tpA, XR]
 and_intros <;> try exact sdA
 refine Ag (hQ _ _ (.inl rfl) ?_ ?_ ?_) <;> simp only [go_sem, simprocAttr, Pf]
 rfl
end Go.Proofs.YtjkclhbckfkeeaaGreatDoor
namespace Go.Proofs
open Go.Shelf
def Tryz.laysGt8_ren : Go.Shelf.Ren := ⟨fun | 8 => 144 | 13 => 185 | 14 => 186 | 16 => 188 | 15 => 187 | 29 => 224 | 30 => 225 | 42 => 246 | 49 => 256 | n => n, fun | 20 => 20 | 26 => 198 | 36 => 248 | 0 => 0 | 38 => 205 | 42 => 253 | 3 => 3 | 4 => 4 | 47 => 278 | 17 => 17 | 33 => 245 | 34 => 246 | 89 => 321 | 12 => 12 | 56 => 293 | 82 => 314 | 5 => 5 | 83 => 315 | 84 => 316 | 85 => 317 | 86 => 318 | 87 => 319 | n => n, fun | n => n⟩
theorem Tryz.laysGt8 : Go.Proofs.LaysGt.n8 Tryz.prog Tryz.laysGt8_ren := {
 mixed := by kernel_rfl
 f8 := Tryz.func144.trans (congrArg some (by kernel_rfl))
 f13 := Tryz.func185.trans (congrArg some (by kernel_rfl))
 f14 := Tryz.func186.trans (congrArg some (by kernel_rfl))
 f15 := Tryz.func187.trans (congrArg some (by kernel_rfl))
 f16 := Tryz.func188.trans (congrArg some (by kernel_rfl))
 f29 := Tryz.func224.trans (congrArg some (by kernel_rfl))
 f30 := Tryz.func225.trans (congrArg some (by kernel_rfl))
 f42 := Tryz.func246.trans (congrArg some (by kernel_rfl))
 f49 := Tryz.func256.trans (congrArg some (by kernel_rfl))
 t0 := Tryz.underlying0
 a0 := Tryz.isAgg0
 z0 := Tryz.sizeOf0
 v0 := Tryz.zeroValue0
 i0 := by kernel_rfl
 t3 := Tryz.underlying3
 a3 := Tryz.isAgg3
 z3 := Tryz.sizeOf3
 v3 := Tryz.zeroValue3
 i3 := by kernel_rfl
 t4 := Tryz.underlying4
 a4 := Tryz.isAgg4
 z4 := Tryz.sizeOf4
 v4 := Tryz.zeroValue4
 i4 := by kernel_rfl
 t5 := Tryz.underlying5
 a5 := Tryz.isAgg5
 z5 := Tryz.sizeOf5
 v5 := Tryz.zeroValue5
 i5 := by kernel_rfl
 t12 := Tryz.underlying12
 a12 := Tryz.isAgg12
 z12 := Tryz.sizeOf12
 v12 := Tryz.zeroValue12
 i12 := by kernel_rfl
 t17 := Tryz.underlying17
 a17 := Tryz.isAgg17
 z17 := Tryz.sizeOf17
 v17 := Tryz.zeroValue17
 i17 := by kernel_rfl
 t20 := Tryz.underlying20
 a20 := Tryz.isAgg20
 z20 := Tryz.sizeOf20
 v20 := Tryz.zeroValue20
 i20 := by kernel_rfl
 t26 := Tryz.underlying198
 a26 := Tryz.isAgg198
 z26 := Tryz.sizeOf198
 v26 := Tryz.zeroValue198
 i26 := by kernel_rfl
 t33 := Tryz.underlying245
 a33 := Tryz.isAgg245
 z33 := Tryz.sizeOf245
 v33 := Tryz.zeroValue245
 i33 := by kernel_rfl
 t34 := Tryz.underlying246
 a34 := Tryz.isAgg246
 z34 := Tryz.sizeOf246
 v34 := Tryz.zeroValue246
 i34 := by kernel_rfl
 t36 := Tryz.underlying248
 a36 := Tryz.isAgg248
 z36 := Tryz.sizeOf248
 v36 := Tryz.zeroValue248
 i36 := by kernel_rfl
 t38 := Tryz.underlying205
 a38 := Tryz.isAgg205
 z38 := Tryz.sizeOf205
 v38 := Tryz.zeroValue205
 i38 := by kernel_rfl
 t42 := Tryz.underlying253
 a42 := Tryz.isAgg253
 z42 := Tryz.sizeOf253
 v42 := Tryz.zeroValue253
 i42 := by kernel_rfl
 t47 := Tryz.underlying278
 a47 := Tryz.isAgg278
 z47 := Tryz.sizeOf278
 v47 := Tryz.zeroValue278
 i47 := by kernel_rfl
 t56 := Tryz.underlying293
 a56 := Tryz.isAgg293
 z56 := Tryz.sizeOf293
 v56 := Tryz.zeroValue293
 i56 := by kernel_rfl
 t82 := Tryz.underlying314
 a82 := Tryz.isAgg314
 z82 := Tryz.sizeOf314
 v82 := Tryz.zeroValue314
 i82 := by kernel_rfl
 t83 := Tryz.underlying315
 a83 := Tryz.isAgg315
 z83 := Tryz.sizeOf315
 v83 := Tryz.zeroValue315
 i83 := by kernel_rfl
 t84 := Tryz.underlying316
 a84 := Tryz.isAgg316
 z84 := Tryz.sizeOf316
 v84 := Tryz.zeroValue316
 i84 := by kernel_rfl
 t85 := Tryz.underlying317
 a85 := Tryz.isAgg317
 z85 := Tryz.sizeOf317
 v85 := Tryz.zeroValue317
 i85 := by kernel_rfl
 t86 := Tryz.underlying318
 a86 := Tryz.isAgg318
 z86 := Tryz.sizeOf318
 v86 := Tryz.zeroValue318
 i86 := by kernel_rfl
 t87 := Tryz.underlying319
 a87 := Tryz.isAgg319
 z87 := Tryz.sizeOf319
 v87 := Tryz.zeroValue319
 i87 := by kernel_rfl
 t89 := Tryz.underlying321
 a89 := Tryz.isAgg321
 z89 := Tryz.sizeOf321
 v89 := Tryz.zeroValue321
 i89 := by kernel_rfl }
def Tryz.lays264_ren : Go.Shelf.Ren := ⟨fun | 264 => 183 | n => n, fun | 53 => 189 | 46 => 278 | n => n, fun | n => n⟩
theorem Tryz.lays264 : Go.Proofs.Lays.n264 Tryz.prog Tryz.lays264_ren := {
 mixed := by kernel_rfl
 f264 := Tryz.func183.trans (congrArg some (by kernel_rfl))
 t46 := Tryz.underlying278
 a46 := Tryz.isAgg278
 z46 := Tryz.sizeOf278
 v46 := Tryz.zeroValue278
 t53 := Tryz.underlying189
 a53 := Tryz.isAgg189
 z53 := Tryz.sizeOf189
 v53 := Tryz.zeroValue189 }
open Go.RowKit Go.Lib in
theorem Tryz.bits_Mul64 (x y : Nat) (hx : x < 18446744073709551616) (hy : y < 18446744073709551616) (w : World) :
  Calls Tryz.prog 183 #[.int .u64 x, .int .u64 y] w fun e w' => e = .returned (.tuple #[.int .u64 ((x * y / 18446744073709551616 : Nat) : Int), .int .u64 ((x * y % 18446744073709551616 : Nat) : Int)]) /\ w' = w := Any.bits_Mul64 Tryz.lays264 x y hx hy w
end Go.Proofs
namespace Go.Proofs.YtjkclhbckfkeeaaGreatDoor
open Go Go.RowKit
def Cq : Int := 18446744073709551616
theorem Aod (n : Int) : wu n = n % 18446744073709551616 := by
 unfold wu IntKind.wrap
 simp [IntKind.bits, IntKind.signed]
def SX : List V -> Prop × V
 | [.int .u64 x, .int .u64 y] => (0 <= x /\ x < Cq /\ 0 <= y /\ y < Cq /\ x * y < Cq, .tup [.int .u64 0, .int .u64 (x * y)])
 | _ => (False, .any)
theorem Ahx : PU 183 SX := by
 refine Aj.leaf Tryz.func183 (by kernel_rfl : Tryz.f183.body = some ((Tryz.f183.body).getD .skip)) (by kernel_rfl) fun vs M w cargs hv hB hs ha => ?_
 match vs, hv, hs, ha with
 | [.int .u64 x, .int .u64 y], hv, hs, ha =>
 have h0 := (ha 0 _ rfl).int_inv
 have h2 := (ha 1 _ rfl).int_inv
 have h1 := Aej hs
 rw [h0, h2] at h1
 rw [h1]
 obtain ⟨h3, h4, h5, h6, h7⟩ : 0 <= x /\ x < Cq /\ 0 <= y /\ y < Cq /\ x * y < Cq := hv
 unfold Cq at h4 h6 h7
 obtain ⟨x, rfl⟩ := Jj h3
 obtain ⟨y, rfl⟩ := Jj h5
 have h8 : x * y < 18446744073709551616 := by rw [<- Int.natCast_mul] at h7; omega
 refine (Tryz.bits_Mul64 x y (by omega) (by omega) w).mono ?_
 rintro e w' ⟨he, rfl⟩
 rw [Nat.div_eq_of_lt h8, PN h8] at he
 refine ⟨_, he, fun M' => ?_, LQ _ _⟩
 refine .tup _ _ rfl fun i v hi => ?_
 match i, hi with
 | 0, hi =>
  obtain rfl : V.int .u64 0 = v := by simpa using hi
  exact .int _ _
 | 1, hi =>
  obtain rfl : V.int .u64 ((x : Int) * (y : Int)) = v := by simpa using hi
  rw [<- Int.natCast_mul]
  exact .int _ _
def PB : List V -> Prop × V
 | [.int .u64 hi, .int .u64 lo, .int .u64 y] => (hi = 0 /\ 0 <= lo /\ lo < Cq /\ 0 < y /\ y < Cq, .tup [.int .u64 (lo / y), .int .u64 (lo % y)])
 | _ => (False, .any)
theorem Afi : PU 184 PB := by
 have hG := AJ
 refine So.q fun vs hv => ?_
 match vs, hv with
 | [.int .u64 hi, .int .u64 lo, .int .u64 y], hv =>
 obtain ⟨rfl, g2, g3, g1, g4⟩ : hi = 0 /\ 0 <= lo /\ lo < Cq /\ 0 < y /\ y < Cq := hv
 have e1 : decide (y = 0) = false := decide_eq_false (by omega)
 have e2 : decide (y <= 0) = false := decide_eq_false (by omega)
 unfold Cq at g3 g4
 have hq : inK .u64 (lo / y) := Kq.2 ⟨LJ g2 (by omega), by have := PO y g2; omega⟩
 refine ⟨by simp, fun C hN Q hQ => ?_⟩
 have Y := So.D EF0 hG hN mixed
 have Z := So.R EF0 hG hN
 refine Ab (Z 0 rfl ?_)
 simp only [go_sem, simprocAttr]
 refine Ab (Ab (Z 1 rfl ?_))
 simp only [go_sem, simprocAttr, e1]
 refine DC rfl ?_
 refine Ah ?_
 refine Ab (Ab (Z 3 rfl ?_))
 simp only [go_sem, simprocAttr, e2]
 refine DC rfl ?_
 refine Ah ?_
 refine Ab (Ab (Z 5 rfl ?_))
 simp only [go_sem, simprocAttr]
 refine GF rfl ?_
 refine Ab (Y 6 rfl (by kernel_rfl) ?_)
 simp only [go_sem, simprocAttr, hq, g2, g1]
 refine Ag (hQ _ _ (.inl rfl) ?_ ?_ ?_) <;> simp only [go_sem, simprocAttr, PB]
theorem Akr (n : Int) (hn : inI n) (w : World) :
  Calls Tryz.prog 141 #[.int .i64 n] w fun e w' => e = .returned (.int .u64 (n.natAbs : Int)) /\ w = w' := by
 obtain ⟨h1, h2⟩ := hn
 go_enter Tryz.func141, Tryz.ntmps141
 go_wp2_with (fail)
 all_goals go_ret
 ·rename_i hs
  refine ⟨?_, rfl⟩
  have : IntKind.u64.wrap (-IntKind.u64.wrap n) = (n.natAbs : Int) := by have := Aod; unfold wu at this; rw [this, this]; omega
  exact congrArg (fun x => Ending.returned (Value.int .u64 x)) this
 ·rename_i hs
  refine ⟨?_, rfl⟩
  exact congrArg (fun x => Ending.returned (Value.int .u64 x)) (show n = (n.natAbs : Int) by omega)
def PE : List V -> Prop × V
 | [.int .i64 n] => (inI n, .int .u64 (n.natAbs : Int))
 | _ => (False, .any)
theorem Akq : PU 141 PE := by
 refine Aj.leaf Tryz.func141 (by kernel_rfl : Tryz.f141.body = some ((Tryz.f141.body).getD .skip)) (by kernel_rfl) fun vs M w cargs hv hB hs ha => ?_
 match vs, hv, hs, ha with
 | [.int .i64 n], hv, hs, ha =>
 have h0 := (ha 0 _ rfl).int_inv
 have h1 := Aei hs
 rw [h0] at h1
 rw [h1]
 refine (Akr n hv w).mono ?_
 rintro e w' ⟨he, rfl⟩
 exact ⟨_, he, fun M' => .int _ _, LQ _ _⟩
def PD : List V -> Prop × V
 | [.int .u64 a, .int .u64 b, .int .u64 y] => (0 <= a /\ a < Cq /\ 0 <= b /\ b < Cq /\ 0 < y /\ y < Cq /\ a * b < Cq, .tup [.int .u64 (a * b / y), .int .u64 (a * b % y), .bool true])
 | _ => (False, .any)
def Qy : Tab
 | 183 => SX
 | 184 => PB
 | _ => gNo
theorem AlX : ∀ f, PU f (Qy f) := fun f => by
 unfold Qy
 split
 ·exact Ahx
 ·exact Afi
 ·exact Aj.no
theorem AjF : PU 143 PD := by
 have hG := AlX
 refine Ym.q fun vs hv => ?_
 match vs, hv with
 | [.int .u64 a, .int .u64 b, .int .u64 y], hv =>
 obtain ⟨h1, h2, h3, h4, h5, h6, h10⟩ : 0 <= a /\ a < Cq /\ 0 <= b /\ b < Cq /\ 0 < y /\ y < Cq /\ a * b < Cq := hv
 have h7 : 0 <= a * b := Jg h1 h3
 have e2 : decide (y <= 0) = false := decide_eq_false (by omega)
 refine ⟨by simp, fun C hN Q hQ => ?_⟩
 have Z := Ym.R EF0 hG hN
 refine Ab (Z 0 rfl ?_)
 simp only [go_sem, simprocAttr]
 refine Ab (Z 1 rfl ?_)
 simp only [go_sem, simprocAttr, Qy, SX, h1, h2, h3, h4, h10]
 refine Ab (Ab (Z 2 rfl ?_))
 simp only [go_sem, simprocAttr, e2]
 refine DC rfl ?_
 refine Ah ?_
 refine Ab (Z 4 rfl ?_)
 simp only [go_sem, simprocAttr, Qy, PB, h5, h6, h7, h10]
 refine Ab (Z 5 rfl ?_)
 simp only [go_sem, simprocAttr]
 refine Ag (hQ _ _ (.inl rfl) ?_ ?_ ?_) <;> simp only [go_sem, simprocAttr, PD]
def IB (a h : Int) : Int := (2 * (a * h) + 10000) / 20000
def Gf (a h : Int) : Int × Int := if (Bq a && Bq h && Bq (IB a h)) = true then (IB a h, 0) else (0, 11)
theorem Lw (n : Int) : Bq n = true ↔ -1099511627776 <= n /\ n <= 1099511627776 := by unfold Bq; simp
theorem NS {a h : Int} (hf : (Bq a && Bq h && Bq (IB a h)) = false) : Gf a h = (0, 11) := by unfold Gf; rw [if_neg (by rw [hf]; decide)]
theorem Ain {a h : Int} (hf : (Bq a && Bq h && Bq (IB a h)) = true) : Gf a h = (IB a h, 0) := by unfold Gf; rw [if_pos hf]
def CC (l : List Nat) : List (List V) := l.map fun (k : Nat) => [V.int .i64 (k : Int)]
def Ei (l : List Int) : List (List V) := l.map fun n => [V.int .u64 n]
theorem Jq (l : List Nat) : (CC l).length = l.length := Ac _
theorem US (l : List Int) : (Ei l).length = l.length := Ac _
theorem Aa9 (l : List Nat) (i : Nat) (d : List V) (h : i < l.length) : (CC l).getD i d = [.int .i64 ((l.getD i 0 : Nat) : Int)] := by
 unfold CC; rw [Ap _ _ _ _ h, CT _ _ _ h]
theorem Anw (l : List Int) (i : Nat) (d : List V) (h : i < l.length) : (Ei l).getD i d = [.int .u64 (l.getD i 0)] := by
 unfold Ei; rw [Ap _ _ _ _ h, CT _ _ _ h]
theorem AhF (l : List Nat) (i v : Nat) : (CC l).set i [.int .i64 (v : Int)] = CC (l.set i v) := by unfold CC; rw [Kv]
theorem Anz (l : List Int) (i : Nat) (v : Int) : (Ei l).set i [.int .u64 v] = Ei (l.set i v) := by unfold Ei; rw [Kv]
theorem Ge (l : List Nat) : (∀ r ∈ CC l, V.purs r = true) ↔ True := iff_true_intro fun r hr => by obtain ⟨x, _, rfl⟩ := Am.1 hr; rfl
theorem Gh (l : List Int) : (∀ r ∈ Ei l, V.purs r = true) ↔ True := iff_true_intro fun r hr => by obtain ⟨x, _, rfl⟩ := Am.1 hr; rfl
theorem Aba (l : List Nat) : (∀ r ∈ CC l, r.length = 1) ↔ True := iff_true_intro fun r hr => by obtain ⟨x, _, rfl⟩ := Am.1 hr; rfl
theorem Anx (l : List Int) : (∀ r ∈ Ei l, r.length = 1) ↔ True := iff_true_intro fun r hr => by obtain ⟨x, _, rfl⟩ := Am.1 hr; rfl
attribute [go_sem] Jq US Ge Gh Aba Anx
def fr (r : List Int) (k : Nat) : Int := r.getD k 0
def SO (r : List Int) (n : Nat) (d : List Nat) : List (Nat × Ob) :=
 [(1000, .box 204 [.own 1002 r.length]), (1001, .box 42 [.own 1003 n]), (1002, .arr 189 1 (Ei r)), (1003, .arr 3 1 (CC d))]
theorem TY {s n k : Nat} (h : k ∈ List.range' s n) : s <= k /\ k < s + n := by
 simpa using h
instance (m : Nat) : Inhabited (Fin (m + 1)) := ⟨0⟩
def EA {n : Nat} (k : Fin n) : Value := .int .i64 ((k.val : Nat) : Int)
def ltF (f : Nat -> Int) {n : Nat} (x y : Fin n) : Bool := decide (f y.val < f x.val)
def idF (n : Nat) : Array (Fin n) := Array.ofFn fun i => i
theorem GW (n : Nat) : (idF n).size = n := Array.size_ofFn
theorem Agt {m k : Nat} (h : k < m + 1) : ((idF (m + 1))[k]!).val = k := by
 rw [getElem!_pos _ k (by rw [GW]; exact h)]
 simp [idF]
def HN (f : Nat -> Int) (m : Nat) : Array (Fin (m + 1)) := Sort.insertionSort (ltF f) (idF (m + 1)) 0 (m + 1)
theorem Agh {l : List Nat} {i : Nat} (h : i < l.length) : l.getD i 0 ∈ l := by
 rw [AS, Bm h]; exact AI h
def msT (f : Nat -> Int) (l : List Nat) : List Nat := match l.length with
 | 0 => []
 | m + 1 => (HN f m).toList.map Fin.val
theorem AcT (f : Nat -> Int) (m : Nat) : (HN f m).size = m + 1 /\ ((HN f m).toList.map Fin.val).Perm (List.range' 0 (m + 1)) := by
 obtain ⟨h1, _, h3⟩ : Sort.PermIn 0 (m + 1) (idF (m + 1)) (HN f m) :=
  (Sort.insertionSort_holds (lt := ltF f) ⟨fun x => by simp [ltF], fun x y z h1 h2 => by simp only [ltF, decide_eq_true_eq] at *; omega, fun x y z h1 h2 => by simp only [ltF, decide_eq_false_iff_not] at *; omega⟩ (idF (m + 1)) 0 (m + 1) (As _) (by rw [GW]; exact AF _)).1
 rw [GW] at h1
 have e1 : (HN f m).extract 0 (m + 1) = HN f m := by
  have := Array.extract_size (xs := HN f m)
  rwa [h1] at this
 have e2 : (idF (m + 1)).extract 0 (m + 1) = idF (m + 1) := by
  have := Array.extract_size (xs := idF (m + 1))
  rwa [GW] at this
 rw [e1, e2] at h3
 refine ⟨h1, ?_⟩
 have e3 : (idF (m + 1)).toList.map Fin.val = List.range' 0 (m + 1) := by
  apply List.ext_getElem
  ·simp [idF]
  ·intro i a b; rw [Gb, Array.getElem_toList, List.getElem_range']; simp only [idF, Array.getElem_ofFn]; omega
 rw [<- e3]
 exact h3.map _
theorem PV {f : Nat -> Int} (n : Nat) : (msT f (List.range' 0 n)).Perm (List.range' 0 n) := by
 unfold msT
 rw [Ga]
 cases n with
 | zero => exact .refl _
 | succ m => exact (AcT f m).2
theorem AkD {r : List Int} {k : Nat} {d : List Nat} {n : Nat} {t sz rows} (h : mkH (SO r k d) n = some (.arr t sz rows)) : n = 1002 /\ t = 189 /\ sz = 1 /\ rows = Ei r \/ n = 1003 /\ t = 3 /\ sz = 1 /\ rows = CC d := by
 simp only [SO, mkH] at h
 repeat' split at h
 all_goals first | (rename_i e; subst e; injection h with h; injection h with h1 h2 h3; subst h1 h2 h3; simp; done) | (injection h with h; cases h) | cases h
theorem Ahq (r : List Int) (n : Nat) (d : List Nat) (d' : List Nat) : BI (mkH (SO r n d)) 1003 (.arr 3 1 (CC d')) = mkH (SO r n d') := by
 funext m
 unfold BI
 simp only [SO, mkH]
 by_cases e : m = 1003
 ·subst e; simp
 ·rw [if_neg e, if_neg e, if_neg e]
theorem Abp {w : World} {t : TypeId} {v : Value} {n : Nat} {xs : List Value} (h : w.ownsRow 0 t 1 v n xs) (h0 : 0 < n) : ∃ g cap cur, v = .slice (some ⟨g, 0, none⟩) n cap /\ w.heap[g]? = some (.cells cur t (0, 0)) /\ n <= cap /\ cap <= maxLen /\ cur.size = cap /\ cur.toList.take n = xs := by
 rcases h.2 with ⟨_, e⟩ | ⟨g, cap, cur, e, _, hh, h1, h2, h3, h4⟩
 ·omega
 ·exact ⟨g, cap, cur, e, hh, h1, h2, by simpa using h3, by simpa using h4⟩
theorem pin_inv {M : Nat -> Prop} {w : World} {ι : Nat -> Value} {h : Nat -> Option Ob} {cv cv' : Value} (r : Rel M w ι h (.pin cv) cv') : cv' = cv := by cases r with | pur hp => cases hp; rfl
def Nm : TypeInfo := (Tryz.prog.info? 3).get (by kernel_rfl)
def AaE : TypeInfo := (Tryz.prog.info? 42).get (by kernel_rfl)
theorem swK (n : Nat) (h2 : 2 <= n) : Lib.swapperK n Nm 2 = 5 := by
 have a : Nm.hasPointers = false := by kernel_rfl
 have b : Nm.bytes = 8 := by kernel_rfl
 have c : (n == 0) = false := by simp; omega
 have d : (n == 1) = false := by simp; omega
 simp [Lib.swapperK, a, b, c, d]
section
variable {U : Tbl} {h h' : Nat -> Option Ob} {w w1 w' : World} {M M' : Nat -> Prop} {ι ι' : Nat -> Value} {X : Nat -> Prop}
theorem Mem.later {C : Ctx U} (hm : Mem C h w M ι) (hb : Below w.heap.size w w1) : Mem C h w1 M ι :=
 hm.grow (fun _ x => x) (fun b hb' => Is (hm.lt b hb') hb.size) (fun _ _ x => x) hb
end
theorem Aes (w : World) (os : Array Obj) : Below w.heap.size w (Sort.grow w os) := ⟨rfl, rfl, rfl, by simp [Sort.grow], fun k hk => Sort.heap_grow_old w os hk⟩
theorem ptr_inv {M : Nat -> Prop} {w : World} {ι : Nat -> Value} {h : Nat -> Option Ob} {n off : Nat} {cv : Value} (r : Rel M w ι h (.ptr n off) cv) : ∃ b t cells, h n = some (.box t cells) /\ ι n = .pointer (some ⟨b, 0, none⟩) /\ cv = .pointer (some ⟨b, off, none⟩) := by
 cases r with
 | pur hp => cases hp
 | ptrb _ _ b t cells ho hb => exact ⟨b, t, cells, ho, hb, rfl⟩
theorem AgH {M : Nat -> Prop} {w : World} {ι : Nat -> Value} {h : Nat -> Option Ob} {tt : TypeId} {n len : Nat} {cv : Value} (r : Rel M w ι h (.iown tt n len) cv) : ∃ t sz rows v, cv = .iface tt v /\ h n = some (.arr t sz rows) /\ (rows.length = len -> v = ι n) := by
 cases r with
 | pur hp => cases hp
 | iown _ _ _ t sz rows v ho hle hv hs => exact ⟨t, sz, rows, v, rfl, ho, hv⟩
theorem own_inv {M : Nat -> Prop} {w : World} {ι : Nat -> Value} {h : Nat -> Option Ob} {n len : Nat} {cv : Value} (r : Rel M w ι h (.own n len) cv) : ∃ t sz rows, h n = some (.arr t sz rows) /\ (rows.length = len -> cv = ι n) := by
 cases r with
 | pur hp => cases hp
 | own _ _ t sz rows _ ho hle hv hs => exact ⟨t, sz, rows, ho, hv⟩
theorem Ag5 (g g2 c c2 b0 b1 n o o2 : Nat) (hn : n <= 20) (W : World) (r : List Int) (G : Nat -> Nat) (h0 : W.cell? ⟨b0, 0, none⟩ = some (.slice (some ⟨g2, o2, none⟩) n c2)) (h1 : W.cell? ⟨b1, 0, none⟩ = some (.slice (some ⟨g, o, none⟩) n c))
  (hr : ∀ t, t < n -> W.cell? ⟨g2, o2 + t, none⟩ = some (.int .u64 (r.getD t 0))) (ho : ∀ t, t < n -> W.cell? ⟨g, o + t, none⟩ = some (.int .i64 (G t))) (hG : ∀ t, t < n -> G t < n) (i j : Nat) (hi : i < n) (hj : j < n) :
  Calls Tryz.prog 145 #[.int .i64 i, .int .i64 j, .pointer (some ⟨b0, 0, none⟩), .pointer (some ⟨b1, 0, none⟩)] W fun e w' => e = .returned (.bool (decide (fr r (G j) < fr r (G i)))) /\ ∃ q, w' = W.drewN q := by
 have ci := ho i hi
 have cj := ho j hj
 have ri := hr (G i) (hG i hi)
 have rj := hr (G j) (hG j hj)
 have gi := hG i hi
 have gj := hG j hj
 unfold fr
 go_enter Tryz.func145, Tryz.ntmps145
 go_wp2
 go_quiet (fail)
 go_wp2
 go_ret
 exact ⟨rfl, nq, rfl⟩
theorem AiM {α : Type} [Inhabited α] (enc : α -> Value) (w : World) (g : Nat) (d : Array α) {c : Array Value} {e : TypeId} {fz : Nat × Nat} (hb : w.heap[g]? = some (.cells c e fz)) : (Sort.putRow enc w g 0 d).heap[g]? = some (.cells (Sort.putCells enc 0 d c) e fz) := by
 simp [Sort.putRow, Sort.mapBlock, Array.getElem?_modify, hb, Sort.onCells]
theorem AiJ {α : Type} [Inhabited α] (enc : α -> Value) (w : World) {g k : Nat} (d : Array α) (hk : k ≠ g) : (Sort.putRow enc w g 0 d).heap[k]? = w.heap[k]? := by
 simp [Sort.putRow, Sort.mapBlock, Array.getElem?_modify, Ne.symm hk]
theorem AiO {α : Type} [Inhabited α] (enc : α -> Value) (d : Array α) (c : Array Value) (h : d.size <= c.size) : (Sort.putCells enc 0 d c).toList.take d.size = d.toList.map enc := by
 apply List.ext_getElem
 ·simp [Sort.putCells]; omega
 ·intro k h1 h2
  have hk : k < d.size := by simpa using h2
  simp [Sort.putCells, hk]
theorem AhE {d : List Nat} {k m : Nat} {row : List V} {v : V} (h1 : (CC d)[k]? = some row) (h2 : row[m]? = some v) : m = 0 /\ ∃ h : k < d.length, v = .int .i64 ((d[k] : Nat) : Int) := by
 have hk : k < d.length := by have := (BQ.1 h1).1; rwa [Jq] at this
 unfold CC at h1
 rw [BC, Bm hk] at h1
 injection h1 with h1
 subst h1
 obtain rfl : m = 0 := by have := (BQ.1 h2).1; simp at this; omega
 injection h2 with h2
 exact ⟨rfl, hk, h2.symm⟩
theorem WM {M : Nat -> Prop} {w : World} {ι : Nat -> Value} {h : Nat -> Option Ob} {n m len b : Nat} {t t2 : TypeId} {sz : Nat} {rows : List (List V)} (ho : obR M w ι h n (.box t [.own m len])) (hr : h m = some (.arr t2 sz rows)) (hl : rows.length = len) (hb : ι n = .pointer (some ⟨b, 0, none⟩)) : w.cell? ⟨b, 0, none⟩ = some (ι m) /\ b < w.heap.size := by
 obtain ⟨b', cs, e, hh, hsz, _, hv⟩ := ho
 rw [hb] at e
 obtain rfl : b = b' := by injection e with e; injection e with e; injection e
 obtain ⟨t', sz', rows', h1, h2⟩ := own_inv (hv 0 _ rfl)
 rw [hr] at h1
 injection h1 with h1
 injection h1 with _ _ h1
 subst h1
 refine ⟨?_, (FX.1 hh).1⟩
 have h0 : 0 < cs.size := by simpa using hsz.symm ▸ Nat.zero_lt_one
 rw [<- h2 hl]
 unfold World.cell?
 rw [hh]
 simp [Array.getD, h0]
theorem AkR (r : List Int) (n : Nat) (hr : r.length = n) (h1 : 1 <= n) (hbig : n <= 20) :
  Eff Tryz.prog UT 144 [.iown 42 1003 n, .fn 145 [.ptr 1000 0, .ptr 1001 0]] (SO r n (List.range' 0 n)) (.tup []) (SO r n (msT (fr r) (List.range' 0 n))) := by
 refine .inl ⟨⟨_, Tryz.func144, by kernel_rfl, by kernel_rfl⟩, fun w M ι cargs hm hsz hargs => ?_⟩
 obtain ⟨m, rfl⟩ : ∃ m, n = m + 1 := ⟨n - 1, by omega⟩
 have o0 := hm.obj 1000 _ rfl
 have o1 := hm.obj 1001 _ rfl
 obtain ⟨xs, hown, _, hx1, hv⟩ := hm.obj 1003 (.arr 3 1 (CC (List.range' 0 (m + 1)))) rfl
 obtain ⟨ys, hown2, _, _, hv2⟩ := hm.obj 1002 (.arr 189 1 (Ei r)) rfl
 rw [Jq, Ga] at hown
 rw [US, hr] at hown2
 obtain ⟨g, cap, cur, eι, hg, hc1, hc2, hc3, hc4⟩ := Abp hown (by omega)
 obtain ⟨g2, cap2, cur2, eι2, hg2, _, _, _, _⟩ := Abp hown2 (by omega)
 have e0 : cargs.getD 0 undef = .iface 42 (.slice (some ⟨g, 0, none⟩) (m + 1) cap) := by
  obtain ⟨t, sz, rows, cv, e, ho, hv⟩ := AgH (hargs 0 _ rfl)
  rw [e]
  rcases AkD ho with ⟨e, _⟩ | ⟨_, _, _, rfl⟩
  ·cases e
  ·rw [hv (by rw [Jq, Ga]), eι]
 obtain ⟨cs, e1, hcl, hcr⟩ := (hargs 1 _ rfl).fn_inv
 have hcargs : cargs = #[.iface 42 (.slice (some ⟨g, 0, none⟩) (m + 1) cap), .func (.func 145) #[] cs] := by
  rw [<- e0, <- e1]
  refine Array.ext (by simpa using hsz) fun k hk _ => ?_
  have hk4 : k < 2 := by rw [hsz] at hk; exact hk
  match k, hk4 with
  | 0, _ => simp [Array.getD, show 0 < cargs.size by omega]
  | 1, _ => simp [Array.getD, show 1 < cargs.size by omega]
 rw [hcargs]
 rcases NI 1 (m + 1) with h2 | h2
 ·obtain ⟨b0, _, _, _, p0, q0⟩ := ptr_inv (hcr 0 _ rfl)
  obtain ⟨b1, _, _, _, p1, q1⟩ := ptr_inv (hcr 1 _ rfl)
  obtain ⟨c0, l0⟩ := WM o0 (m := 1002) rfl (by rw [US]) p0
  obtain ⟨c1, l1⟩ := WM o1 (m := 1003) rfl (by rw [Jq, Ga]) p1
  have hcs : cs = #[.pointer (some ⟨b0, 0, none⟩), .pointer (some ⟨b1, 0, none⟩)] := by
   rw [<- q0, <- q1]
   have hs2 : cs.size = 2 := hcl.symm
   refine Array.ext (by simpa using hs2) fun k hk _ => ?_
   have hk4 : k < 2 := by rw [hs2] at hk; exact hk
   match k, hk4 with
   | 0, _ => simp [Array.getD, show 0 < cs.size by omega]
   | 1, _ => simp [Array.getD, show 1 < cs.size by omega]
  have d0 : b0 ≠ g := fun e => by have := hm.dis 1000 1003 g rfl rfl (by rw [p0, e]; rfl) (by rw [eι]; rfl); cases this
  have d1 : b1 ≠ g := fun e => by have := hm.dis 1001 1003 g rfl rfl (by rw [p1, e]; rfl) (by rw [eι]; rfl); cases this
  have d2 : g2 ≠ g := fun e => by have := hm.dis 1002 1003 g rfl rfl (by rw [eι2, e]; rfl) (by rw [eι]; rfl); cases this
  have lg : g < w.heap.size := (FX.1 hg).1
  have lg2 : g2 < w.heap.size := (FX.1 hg2).1
  rw [eι2] at c0 hown2
  rw [eι] at c1 hown
  have hxs : ∀ k, k < m + 1 -> xs[k]? = some (.int .i64 ((k : Nat) : Int)) := fun k hk => by
   have hl : k < xs.length := by rw [hown.1]; omega
   have := (hv k 0 [.int .i64 ((k : Nat) : Int)] (.int .i64 ((k : Nat) : Int)) (by unfold CC; rw [BC, List.getElem?_range' hk]; simp) rfl).int_inv
   rw [Bm hl, <- this, LP, Fe, AS, Bm hl]
   rfl
  have hys : ∀ k, k < m + 1 -> w.cell? ⟨g2, 0 + k, none⟩ = some (.int .u64 (r.getD k 0)) := fun k hk => by
   have hl : k < ys.length := by rw [hown2.1]; omega
   have hkr : k < r.length := by omega
   have := (hv2 k 0 [.int .u64 (r.getD k 0)] (.int .u64 (r.getD k 0)) (by unfold Ei; rw [BC, Bm hkr, CT _ _ _ hkr]; rfl) rfl).int_inv
   rw [CI, hown2.cellAt k (by omega), Bm hl, <- this, LP, Fe, AS, Bm hl]
   rfl
  have hH : Sort.Holds EA w g 0 (idF (m + 1)) := fun k hk => by
   rw [GW] at hk
   rw [CI]
   exact ⟨by rw [hown.cellAt k (by omega), hxs k hk, EA, Agt hk], hown.frozenAt k⟩
  have hless : LessReads (α := Fin (m + 1)) Tryz.prog 145 cs EA (ltF (fr r)) g 0 (idF (m + 1)).size w := by
   intro q os dk hs i j hi hj
   rw [GW] at hs hi hj
   rw [hcs]
   have hW : ∀ (a : Addr), a.block < w.heap.size -> a.block ≠ g -> (sortWorld EA w g 0 q dk os).cell? a = w.cell? a := fun a h1 h2 => by
    unfold sortWorld
    rw [Sort.cell?_grow _ _ _ (by rw [Sort.size_putRow]; exact h1), Sort.cell?_putRow_other _ _ _ _ _ _ (.inl h2)]; rfl
   refine (Ag5 g g2 cap cap2 b0 b1 (m + 1) 0 0 hbig _ r (fun t => (dk[t]!).val) ((hW _ l0 d0).trans c0) ((hW _ l1 d1).trans c1) (fun t ht => (hW _ lg2 d2).trans (hys t ht)) (fun t ht => ?_) (fun t ht => (dk[t]!).isLt) i j hi hj).mono ?_
   ·unfold sortWorld
    rw [Sort.cell?_grow _ _ _ (by rw [Sort.size_putRow EA]; exact lg)]
    exact Sort.cell?_putRow EA _ g 0 (idF (m + 1)) dk (Sort.holds_ahead _ _ _ _ _ _ hH) (by rw [hs, GW]) t (by omega)
   ·rintro e w' ⟨rfl, q2, rfl⟩
    exact ⟨rfl, q2, rfl⟩
  have hS := Any.sort_SliceStable_small Tryz.laysGt8 42 3 AaE Nm (by kernel_rfl) (by kernel_rfl) (by kernel_rfl) (by kernel_rfl) 2 (fun _ => by kernel_rfl) (by kernel_rfl) (fun _ => by kernel_rfl) EA (fun _ => rfl) (ltF (fr r)) 145 cs
   (enters_of Tryz.func145 (by kernel_rfl) rfl) g 0 cap (idF (m + 1)) (by rw [GW]; omega) (by rw [GW]; omega) 219 (by rw [GW, swK _ h2]; kernel_rfl) true
   (fun args W => run_callFunc_extern Tryz.func219 (by kernel_rfl) (by kernel_rfl) (by kernel_rfl) (e := Extern.ReflectliteSwapper.swap true) (by kernel_rfl) args W) w hless hH lg
  rw [GW] at hS
  refine hS.mono ?_
  rintro e w' ⟨rfl, q, os, rfl⟩
  change ∃ cv M' ι', _
  obtain ⟨hs1, hs2⟩ := AcT (fr r) m
  have hms : msT (fr r) (List.range' 0 (m + 1)) = (HN (fr r) m).toList.map Fin.val := by unfold msT; rw [Ga]
  have hml : (msT (fr r) (List.range' 0 (m + 1))).length = m + 1 := by rw [hms, Ac, Ep, hs1]
  have hsrt : Sort.insertionSort (ltF (fr r)) (idF (m + 1)) 0 (m + 1) = HN (fr r) m := rfl
  rw [hsrt]
  generalize hd : HN (fr r) m = d at hs1 hms
  have hids : DK ι 1003 (ι 1003) = ι := by funext m; unfold DK; split <;> simp_all
  have hg' : (Sort.grow (Sort.putRow EA (Sort.ahead w q) g 0 d) os).heap[g]? = some (.cells (Sort.putCells EA 0 d cur) 3 (0, 0)) := by
   rw [Sort.heap_grow_old _ _ (by rw [Sort.size_putRow EA]; exact lg)]
   exact AiM EA (Sort.ahead w q) g d hg
  generalize hw1 : Sort.grow (Sort.putRow EA (Sort.ahead w q) g 0 d) os = w1 at hg'
  have hkeep : Keeps (mkH (SO r (m + 1) (List.range' 0 (m + 1)))) (BI (mkH (SO r (m + 1) (List.range' 0 (m + 1)))) 1003 (.arr 3 1 (CC (msT (fr r) (List.range' 0 (m + 1)))))) ι (DK ι 1003 (ι 1003)) :=
   Keeps.put (o := .arr 3 1 (CC (List.range' 0 (m + 1)))) rfl (.inr (.inl ⟨_, _, _, _, rfl, rfl, by rw [Jq, Jq, hml, Ga]; exact AF _, fun _ => rfl⟩))
  have hblk : ∀ k, k < w.heap.size -> (∀ o, mkH (SO r (m + 1) (List.range' 0 (m + 1))) 1003 = some o -> blk (ι 1003) ≠ some k) -> w1.heap[k]? = w.heap[k]? := fun k hk hne => by
   have hkg : k ≠ g := fun e => hne _ rfl (by rw [eι, e]; rfl)
   rw [<- hw1, Sort.heap_grow_old _ _ (by rw [Sort.size_putRow EA]; exact hk), AiJ EA _ _ hkg]; rfl
  have hob : obR M w1 (DK ι 1003 (ι 1003)) (BI (mkH (SO r (m + 1) (List.range' 0 (m + 1)))) 1003 (.arr 3 1 (CC (msT (fr r) (List.range' 0 (m + 1)))))) 1003 (.arr 3 1 (CC (msT (fr r) (List.range' 0 (m + 1))))) := by
   rw [hids]
   refine ⟨d.toList.map EA, ?_, Aba _ |>.2 trivial, fun x hx => ?_, fun k j row v h1 h2 => ?_⟩
   ·rw [Jq, hml, eι]
    refine ⟨by simp [hs1], .inr ⟨g, cap, _, rfl, As _, hg', hc1, hc2, by simp [Sort.putCells, hc3], ?_⟩⟩
    have := AiO EA d cur (by omega)
    rw [hs1] at this
    rw [LP]; exact this
   ·obtain ⟨y, _, rfl⟩ := Am.1 hx; rfl
   ·obtain ⟨rfl, hk, rfl⟩ := AhE h1 h2
    have hk2 : k < d.toList.length := by rw [hms, Ac] at hk; exact hk
    rw [show k * 1 + 0 = k by omega, CT _ _ _ (by rw [Ac]; exact hk2), Gb]
    have : (msT (fr r) (List.range' 0 (m + 1)))[k] = (d.toList[k]).val := by simp only [hms, Gb]
    rw [this]
    exact .pur (.int _ _)
  obtain ⟨s1, s2⟩ := hm.step 1003 (.arr 3 1 (CC (msT (fr r) (List.range' 0 (m + 1))))) (ι 1003) w1 (by rw [<- hw1]; simp [Sort.grow]) (by rw [<- hw1]; rfl) (by rw [<- hw1]; rfl) (by rw [<- hw1]; rfl) hblk (fun q hq => .inl ⟨_, rfl, hq⟩) hkeep hob (fun _ => rfl) (fun _ => ⟨fun _ _ h => (by cases h), fun _ h => (by cases h)⟩)
  rw [hids, Ahq] at s1
  exact ⟨_, M, ι, rfl, .pur (.tup [] #[] rfl (fun i v hi => by cases hi)), s1⟩
 ·obtain rfl : m = 0 := by omega
  have hS := Any.sort_SliceStable_tiny Tryz.laysGt8 42 3 AaE Nm (by kernel_rfl) (by kernel_rfl) (by kernel_rfl) (by kernel_rfl) 2 (fun _ => by kernel_rfl) (some ⟨g, 0, none⟩) 1 cap (AF _) 216 (by kernel_rfl) (.func 145) #[] cs w
  refine hS.mono ?_
  rintro e w' ⟨rfl, os, rfl⟩
  rw [show msT (fr r) (List.range' 0 (0 + 1)) = List.range' 0 (0 + 1) from List.perm_singleton.1 (PV 1)]
  exact ⟨_, M, ι, rfl, .pur (.tup [] #[] rfl (fun i v hi => by cases hi)), hm.later (Aes w os)⟩
end Go.Proofs.YtjkclhbckfkeeaaGreatDoor
end
