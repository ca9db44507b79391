import Derived.Test.YtjkclhbckfkeeaaGreatDoorIs18
import Derived.Test.YtjkclhbckfkeeaaGreatDoorMo5
import Derived.OpenShut
import Derived.SizedLaws
import Derived.Test.YtjkclhbckfkeeaaGreatDoorAv22
import Derived.Test.YtjkclhbckfkeeaaGreatDoorPl4
import Derived.Test.YtjkclhbckfkeeaaGreatDoorRows
set_option linter.unusedSimpArgs false
set_option linter.unusedVariables false
set_option linter.deprecated false
set_option maxHeartbeats 8000000
namespace Go.Proofs.YtjkclhbckfkeeaaGreatDoor
open Go Go.RowKit
structure Paper where
 p : Places
 t : Tariff
 l : List Want
 q : Quote
 x : Person
 number : Int
 locator : List UInt8
 day : Int
def Paper.enc (x : Paper) : List V := [.list (x.p.airports.map Airport.enc) false, .list (x.p.distances.map Distance.enc) false, .list (x.t.fares.map Fare.enc) false, .list (x.t.rules.map Rule.enc) false, .list (x.t.routings.map Routing.enc) false, .list (x.t.taxes.map Tax.enc) false, .list (x.l.map Want.enc) false, .list (x.q.parts.map Part.enc) false, .list (x.q.pairs.map Two.enc) false, .list (x.q.taxes.map Charge.enc) false, .int .i64 x.q.fare, .int .i64 x.q.total, .str x.x.last, .str x.x.first, .str x.x.type, .int .i64 x.number, .str x.locator, .int .i64 x.day]
theorem Paper.inj (a b : Paper) (h : a.enc = b.enc) : a = b := by
 obtain ⟨⟨a_p_airports, a_p_distances⟩, ⟨a_t_fares, a_t_rules, a_t_routings, a_t_taxes⟩, a_l, ⟨a_q_parts, a_q_pairs, a_q_taxes, a_q_fare, a_q_total⟩, ⟨a_x_last, a_x_first, a_x_type⟩, a_number, a_locator, a_day⟩ := a
 obtain ⟨⟨b_p_airports, b_p_distances⟩, ⟨b_t_fares, b_t_rules, b_t_routings, b_t_taxes⟩, b_l, ⟨b_q_parts, b_q_pairs, b_q_taxes, b_q_fare, b_q_total⟩, ⟨b_x_last, b_x_first, b_x_type⟩, b_number, b_locator, b_day⟩ := b
 simp only [Paper.enc, Bz, V.str.injEq, V.int.injEq, V.bool.injEq, V.agg.injEq, V.list.injEq, and_true, true_and] at h
 obtain ⟨h0, h1, h2, h3, h4, h5, h6, h7, h8, h9, h10, h11, h12, h13, h14, h15, h16, h17⟩ := h
 replace h0 := Cj Airport.inj h0
 subst h0
 replace h1 := Cj Distance.inj h1
 subst h1
 replace h2 := Cj Fare.inj h2
 subst h2
 replace h3 := Cj Rule.inj h3
 subst h3
 replace h4 := Cj Routing.inj h4
 subst h4
 replace h5 := Cj Tax.inj h5
 subst h5
 replace h6 := Cj Want.inj h6
 subst h6
 replace h7 := Cj Part.inj h7
 subst h7
 replace h8 := Cj Two.inj h8
 subst h8
 replace h9 := Cj Charge.inj h9
 subst h9
 subst h10
 subst h11
 subst h12
 subst h13
 subst h14
 subst h15
 subst h16
 subst h17
 rfl
theorem Paper.rows (l : List Paper) : (∀ r ∈ l.map Paper.enc, r.length = 18) ↔ True := iff_true_intro fun r hr => by obtain ⟨x, _, rfl⟩ := An.1 hr; rfl
theorem Paper.purs (l : List Paper) : (∀ r ∈ l.map Paper.enc, V.purs r = true) ↔ True := iff_true_intro fun r hr => by obtain ⟨x, _, rfl⟩ := An.1 hr; rfl
attribute [go_sem] Paper.rows Paper.purs
def Kx := ao (vg Paper.enc)
theorem Wf : Ij Kx := ijo (ijg Paper.inj)
structure PpOk (x : Paper) : Prop where
 p : x.p.ok
 t : TarOk x.t
 l : x.l.length <= 1000000
 lo : ∀ z ∈ x.l, z.ok
 q : x.q.parts.length <= 1000000
 qo : ∀ z ∈ x.q.parts, z.ok
 qx : x.q.taxes.length <= 1000000
 n : inI x.number
 d : inI x.day
structure FitR (x : Paper) : Prop where
 l : x.l.length <= 8
 q : x.q.parts.length <= 8
 qx : x.q.taxes.length <= 20
 a : x.p.airports.length <= 12
 d : x.p.distances.length <= 20
 f : x.t.fares.length <= 20
 r : x.t.rules.length <= 8
 g : x.t.routings.length <= 8
 xx : x.t.taxes.length <= 8
 cp : JC x.p = []
 ct : Kp x.t
 cx : GY x.t.taxes x.t.taxes.length = []
def Rm (x : Paper) (b : Bool) : Prop := b = true -> FitR x
theorem Pz (ps : List Airport) (ds : List Distance) : gOf aP1 Py [.agg [.list (ps.map Airport.enc) false, .list (ds.map Distance.enc) false]] = (Sm ⟨ps, ds⟩, .list (Ax (JC ⟨ps, ds⟩)) false) := Al VY (⟨ps, ds⟩ : Places)
theorem PI (l : List Tax) : gOf LY PH [.list (l.map Tax.enc) false] = (SmT l, .list (Ax (GY l l.length)) false) := Al WE l
theorem Yn (p es) : (Gg p es).length = es.length := Ac _
theorem WW (ps) : ∀ i, (II ps i).length <= 4 * i
 | 0 => Az _
 | i + 1 => by rw [II, Ai, Yn]; have := WW ps i; have := WV ps i (ps.getD i Airport.zero); omega
theorem Yi (ps ds) : ∀ i, (JE ps ds i).length <= 3 * i
 | 0 => Az _
 | i + 1 => by rw [JE, Ai, Yn]; have := Yi ps ds i; have := Yh ps ds i (ds.getD i Distance.zero); omega
theorem Afa {p : Places} (h : Sm p) : (JC p).length <= 140737488355328 := by
 have h1 := WW p.airports p.airports.length
 have h2 := Yi p.airports p.distances p.distances.length
 have h3 := h.1
 have h4 := h.2.1
 unfold JC
 rw [Ai]
 omega
theorem Aht {g : List Fault} : decide ((g.length : Int) = 0) = decide (g = []) := by
 cases g <;> simp
 omega
noncomputable def Na : Tab
 | 43 => (gOf aP1 Py)
 | 28 => (gOf aPT fun x => (LnP x.1 /\ TarOk x.2, vF (fTa x)))
 | 29 => (gOf LY PH)
 | _ => gNo
theorem Al8 : ∀ f, PU f (Na f) := fun f => by
 unfold Na
 split
 ·exact Ajj
 ·exact AmB
 ·exact AjK
 ·exact Ah.no
set_option maxRecDepth 20000 in
theorem TY : ∃ F : Paper -> Bool, (∀ x, PpOk x -> Rm x (F x)) /\ PU 12 (gOf Kx fun x => (PpOk x, vBB (F x))) := by
 have hG := Al8
 refine YJ.p (val := vBB) (R := Rm) Wf (by simp [Kx]) ?_
 rintro ⟨⟨ps, ds⟩, ⟨fs, rs, gs, xs⟩, W, ⟨pa, pr, tx, fa, to⟩, ⟨la, fi, ty⟩, n, loc, d⟩ hv Q hQ
 have Z := YJ.T EF0 hG
 obtain ⟨h1, h2, h3, h4, h5, h6, h7, h8, h9⟩ : PpOk ⟨⟨ps, ds⟩, ⟨fs, rs, gs, xs⟩, W, ⟨pa, pr, tx, fa, to⟩, ⟨la, fi, ty⟩, n, loc, d⟩ := hv
 obtain ⟨o1, o2, o3, o4, o5, o6, o7, o8⟩ := id h2
 obtain ⟨⟨p1, p3⟩, p2, p4⟩ := id h1
 dsimp only at o1 o2 o3 o4 o5 o6 o7 o8 h3 h4 h5 h6 h7 h8 h9 p1 p2 p3 p4
 refine Ab (Z 0 rfl ?_)
 simp only [go_sem, simprocAttr, Kx, Paper.enc, Na, Pz, Ra, PI]
 refine Ab (Ab (Z 1 rfl ?_))
 simp only [go_sem, simprocAttr, Ac, Na, Pz, Ra, PI]
 and_intros <;> try exact sdA
 refine Ag rfl (fun hb1 => ?_) fun hb1 => ?_
 ·refine Ab (Z 2 rfl ?_)
  simp only [go_sem, simprocAttr, Na, Pz, Ra, PI]
  refine Ak (hQ _ _ (.inl rfl) ?_ ?_ ?_) <;> simp only [go_sem, simprocAttr, vBB]
  exact ⟨false, rfl, fun h => nomatch h⟩
 simp only [Ce, decide_eq_false_iff_not] at hb1
 have hl : W.length <= 8 /\ pa.length <= 8 /\ tx.length <= 20 /\ fs.length <= 20 /\ rs.length <= 8 /\ gs.length <= 8 /\ xs.length <= 8 /\ ps.length <= 12 /\ ds.length <= 20 := by omega
 obtain ⟨l1, l2, l3, l4, l5, l6, l7, l8, l9⟩ := hl
 have hS : Sm ⟨ps, ds⟩ := ⟨by dsimp only; omega, by dsimp only; omega, p3⟩
 have hL : LnP ⟨ps, ds⟩ := ⟨by dsimp only; omega, by dsimp only; omega⟩
 have hX : SmT xs := ⟨by omega, o8⟩
 obtain ⟨hT1, hT2⟩ := AmA (⟨ps, ds⟩, ⟨fs, rs, gs, xs⟩) ⟨hL, h2⟩
 obtain ⟨A, hA⟩ : ∃ A, A = JC ⟨ps, ds⟩ := ⟨_, rfl⟩
 obtain ⟨B, hB⟩ : ∃ B, B = fTa (⟨ps, ds⟩, ⟨fs, rs, gs, xs⟩) := ⟨_, rfl⟩
 obtain ⟨C2, hC2⟩ : ∃ C2, C2 = GY xs xs.length := ⟨_, rfl⟩
 have hA1 : A.length <= 140737488355328 := by rw [hA]; exact Afa hS
 have hC1 : C2.length <= 140737488355328 := by have := AdH xs xs.length; rw [hC2]; omega
 rw [<- hB] at hT1 hT2
 refine Aj ?_
 refine Ab (Z 3 rfl ?_)
 simp only [go_sem, simprocAttr, hS, hL, h2, hX, Fo, <- hA, <- hB, <- hC2, Aht, hA1, hT1, hC1, Na, Pz, Ra, PI]
 and_intros <;> try exact sdA
 refine Ak (hQ _ _ (.inl rfl) ?_ ?_ ?_) <;> simp only [go_sem, simprocAttr, vBB]
 refine ⟨_, rfl, fun h => ?_⟩
 simp only [By, decide_eq_true_eq] at h
 exact ⟨l1, l2, l3, l8, l9, l4, l5, l6, l7, by rw [<- hA]; exact h.1.1, hT2 h.1.2, by rw [<- hC2]; exact h.2⟩
noncomputable def Lc : Paper -> Bool := TY.choose
theorem AiB : ∀ x : Paper, PpOk x -> Rm x (Lc x) := TY.choose_spec.1
theorem AiC : PU 12 (gOf Kx fun x => (PpOk x, vBB (Lc x))) := TY.choose_spec.2
theorem DE (ps : List Airport) (ds : List Distance) (fs : List Fare) (rs : List Rule) (gs : List Routing) (xs : List Tax) (W : List Want) (pa : List Part) (pr : List Two) (tx : List Charge) (fa to : Int) (la fi ty : List UInt8) (n : Int) (loc : List UInt8) (d : Int) : gOf Kx (fun x => (PpOk x, vBB (Lc x))) [.agg [.list (ps.map Airport.enc) false, .list (ds.map Distance.enc) false, .list (fs.map Fare.enc) false, .list (rs.map Rule.enc) false, .list (gs.map Routing.enc) false, .list (xs.map Tax.enc) false, .list (W.map Want.enc) false, .list (pa.map Part.enc) false, .list (pr.map Two.enc) false, .list (tx.map Charge.enc) false, .int .i64 fa, .int .i64 to, .str la, .str fi, .str ty, .int .i64 n, .str loc, .int .i64 d]] = (PpOk ⟨⟨ps, ds⟩, ⟨fs, rs, gs, xs⟩, W, ⟨pa, pr, tx, fa, to⟩, ⟨la, fi, ty⟩, n, loc, d⟩, .bool (Lc ⟨⟨ps, ds⟩, ⟨fs, rs, gs, xs⟩, W, ⟨pa, pr, tx, fa, to⟩, ⟨la, fi, ty⟩, n, loc, d⟩)) := Al (F := fun x => (PpOk x, vBB (Lc x))) Wf ⟨⟨ps, ds⟩, ⟨fs, rs, gs, xs⟩, W, ⟨pa, pr, tx, fa, to⟩, ⟨la, fi, ty⟩, n, loc, d⟩
theorem Dz (ps : List Airport) (ds : List Distance) (fs : List Fare) (rs : List Rule) (gs : List Routing) (xs : List Tax) (W : List Want) (pa : List Part) (pr : List Two) (tx : List Charge) (fa to : Int) (la fi ty : List UInt8) (n : Int) (loc : List UInt8) (d : Int) : gOf LZ Lg [.agg [.list (ps.map Airport.enc) false, .list (ds.map Distance.enc) false], .agg [.list (fs.map Fare.enc) false, .list (rs.map Rule.enc) false, .list (gs.map Routing.enc) false, .list (xs.map Tax.enc) false], .list (W.map Want.enc) false, .agg [.list (pa.map Part.enc) false, .list (pr.map Two.enc) false, .list (tx.map Charge.enc) false, .int .i64 fa, .int .i64 to], .agg [.str la, .str fi, .str ty], .int .i64 n, .str loc, .int .i64 d] = (TkIn ⟨ps, ds⟩ ⟨fs, rs, gs, xs⟩ W ⟨pa, pr, tx, fa, to⟩ n d, tkV (HI ⟨ps, ds⟩ fs W ⟨pa, pr, tx, fa, to⟩ ⟨la, fi, ty⟩ n loc d)) := Al WF (⟨ps, ds⟩, ⟨fs, rs, gs, xs⟩, W, ⟨pa, pr, tx, fa, to⟩, ⟨la, fi, ty⟩, n, loc, d)
theorem Alk {s w : Int} (h1 : s <= 1099511627776) (hw2 : w <= 100000000) : stepT s w = s + w := by
 unfold stepT; rw [if_pos h1, Int.min_eq_left (by omega)]
theorem AdM : ∀ {l : List Int} {s : Int}, (∀ w ∈ l, 1 <= w /\ w <= 100000000) -> 0 <= s -> s + 100000000 * l.length <= 1099511627776 -> 0 < s + l.length -> (Dk s l).2 = 0 /\ (Dk s l).1 <= 1099511627776
 | [], s, _, h0, h1, h2 => by
  simp only [Ay] at h1 h2
  rw [Dk, if_neg (by omega)]
  exact ⟨rfl, by dsimp only; omega⟩
 | w :: l, s, h, h0, h1, h2 => by
  obtain ⟨a, b⟩ := h w AJ
  simp only [Av] at h1 h2
  rw [Dk, if_neg (by omega), Alk (by omega) b]
  exact AdM (fun x hx => h x (AU _ hx)) (by omega) (by omega) (by omega)
theorem An4 {p : Places} (hd : p.distances.length <= 1000) (w : Want) : 1 <= wgt p w /\ wgt p w <= 100000000 := by
 have := AbA (ps := p.airports) hd w.seg.from' w.seg.to'
 unfold wgt
 dsimp only
 split
 ·omega
 ·rename_i h
  have : (Ex p.airports p.distances w.seg.from' w.seg.to').1 ≠ 0 := fun e => h (.inr e)
  omega
theorem Ak6 {a : Int} {l : List Int} (ha : 0 <= a /\ a <= 1099511627776) (hl : ∀ w ∈ l, 1 <= w /\ w <= 100000000) (h1 : 0 < l.length) (h2 : l.length <= 900) : (Ey a l).1 = 0 := by
 obtain ⟨q1, q2⟩ := AdM (s := 0) hl (by omega) (by omega) (by omega)
 unfold Ey
 rw [if_neg (by rw [q1]; simp), if_neg]
 rintro (h | h)
 ·have := (Mu a).2 ⟨by omega, by omega⟩
  rw [this] at h; cases h
 ·omega
theorem XH {W : List Int} {n : Int} (hn : n <= W.length) (hW : ∀ w ∈ W, 1 <= w /\ w <= 100000000) (hl : W.length <= 900) : ∀ {parts : List Part} {a : Int}, Ea n a parts = true -> 0 <= a -> AmK parts ->
  ∃ X, DQ W parts = (0, X) /\ X.sum = amS parts /\ ∀ x ∈ X, 0 <= x /\ x <= 1099511627776
 | [], a, _, _, _ => ⟨[], rfl, rfl, fun x hx => nomatch hx⟩
 | p :: parts, a, hd, h0, hA => by
  rw [Ea] at hd
  split at hd
  ·cases hd
  rename_i hp
  have hp1 : p.from' = a /\ a < p.to' /\ p.to' <= n := by omega
  obtain ⟨X, e1, e2, e3⟩ := XH hn hW hl hd (by omega) (fun q hq => hA q (AU _ hq))
  have hp0 := hA p AJ
  have hs := Ak6 hp0 (l := (W.take p.to'.toNat).drop p.from'.toNat) (fun w hw => hW w (Ft (FP hw))) (by rw [BT, Bx]; omega) (by rw [BT, Bx]; omega)
  obtain ⟨⟨e, s⟩, hsp⟩ : ∃ y, Ey p.amount ((W.take p.to'.toNat).drop p.from'.toNat) = y := ⟨_, rfl⟩
  rw [hsp] at hs
  obtain rfl : e = 0 := hs
  have hF := (UJ hsp).2 rfl
  refine ⟨s ++ X, ?_, ?_, fun x hx => ?_⟩
  ·rw [DQ, hsp]; dsimp only; rw [if_neg (by simp), e1]; simp
  ·rw [MG, hF.sum, e2]; rfl
  ·rcases BU.1 hx with hx | hx
   ·have hb := Adc hF x hx
    obtain ⟨i, hi, rfl⟩ := Gv.1 hx
    have := (hF.sg i hi).1 hp0.1
    omega
   ·exact e3 x hx
theorem Xw {F n : Int} : ∀ {l : List Part} {a : Int}, Chn n a l -> (∀ p ∈ l, 0 <= p.fare /\ p.fare < F) -> Do F n a l = true
 | [], a, h, _ => decide_eq_true h
 | x :: l, a, ⟨⟨h1, h2, h3⟩, h4⟩, hf => by
  have := hf x AJ
  rw [Do, if_neg (by omega)]
  exact Xw h4 fun p hp => hf p (AU _ hp)
theorem AgK {α : Type} (L : List α) (z : α) (k a : Nat) (h : a + k <= L.length) : (List.range k).map (fun j => L.getD (a + j) z) = (L.drop a).take k := by
 apply List.ext_getElem
 ·simp; omega
 ·intro i h1 h2
  simp only [Ac, List.length_range] at h1
  rw [GQ, List.getElem_range, List.getElem_take, List.getElem_drop, Cu _ _ _ (by omega)]
theorem AfI {α : Type} (L : List α) {a b n : Nat} (h1 : a <= b) (h2 : b <= n) : (L.drop a).take (b - a) ++ (L.take n).drop b = (L.take n).drop a := by
 rw [show (L.drop a).take (b - a) = ((L.take n).drop a).take (b - a) by rw [List.drop_take, List.take_take, Nat.min_eq_left (by omega)], show (L.take n).drop b = ((L.take n).drop a).drop (b - a) by rw [Od, show a + (b - a) = b by omega], Lu]
theorem Pe {α : Type} (g : Coupon -> α) (L : List α) (z : α) {F : List Fare} {W : List Want} {X : List Int} (hg : ∀ x j, g (mkC F W X x j) = L.getD (x.from'.toNat + j) z) {f : Int} {n : Nat} (hn : n <= L.length) :
  ∀ {ps : List Part} {a : Int}, Do f n a ps = true -> 0 <= a -> (Hh F W X ps).map g = (L.take n).drop a.toNat
 | [], a, h, h0 => by
  rw [Do, decide_eq_true_eq] at h
  rw [GN (by rw [Bx]; omega)]; rfl
 | x :: ps, a, h, h0 => by
  rw [Do] at h
  split at h
  ·cases h
  rename_i hx
  have ih := Pe g L z hg hn h (by omega)
  unfold Hh at ih ⊢
  rw [Oa, DC, ih]
  have e : (Hi F W X x).map g = (L.drop a.toNat).take (x.to'.toNat - a.toNat) := by
   unfold Hi
   rw [Lq, show (g ∘ mkC F W X x) = fun j => L.getD (x.from'.toNat + j) z from funext fun j => hg x j, AgK _ _ _ _ (by omega), show x.from' = a by omega, show (x.to' - a).toNat = x.to'.toNat - a.toNat by omega]
  rw [e, AfI L (by omega) (by omega)]
theorem XJ {P : Coupon -> Prop} {F : List Fare} {W : List Want} {X : List Int} {ps : List Part} (h : ∀ x j, P (mkC F W X x j)) : ∀ c ∈ Hh F W X ps, P c := fun c hc => by
 unfold Hh at hc
 obtain ⟨x, _, hx⟩ := Lp.1 hc
 unfold Hi at hx
 obtain ⟨j, _, rfl⟩ := An.1 hx
 exact h x j
structure CpK (W : List Want) (fa : Int) (cs : List Coupon) : Prop where
 w : cs.map Coupon.want = W
 s : ∀ c ∈ cs, c.status = 1
 v : ∀ c ∈ cs, 0 <= c.value /\ c.value <= 1099511627776
 b : ∀ c ∈ cs, c.basis.length <= 140737488355328
 t : (cs.map Coupon.value).sum = fa
theorem CpK.n {W fa cs} (h : CpK W fa cs) : cs.length = W.length := by rw [<- h.w, Ac]
theorem Ak3 {p : Places} {F : List Fare} {W : List Want} {q : Quote} {x : Person} {n : Int} {loc : List UInt8} {d : Int} (hp : p.distances.length <= 1000) (hW : 1 <= W.length /\ W.length <= 6) (hf : ∀ x ∈ q.parts, 0 <= x.fare /\ x.fare < F.length)
  (hc : Chn W.length 0 q.parts) (ha : AmK q.parts) (hq : q.fare = amS q.parts) (hn : Dv n = true) (hd : Fi d = true) (hFo : ∀ f ∈ F, f.basis.length <= 140737488355328) : ∃ cs, HI p F W q x n loc d = (⟨n, loc, x, cs, q.fare, q.taxes, q.total, d⟩, 0) /\ CpK W q.fare cs := by
 have hcv := Xw hc hf
 obtain ⟨hdv, _⟩ := XF hcv
 obtain ⟨X, e1, e2, e3⟩ := XH (W := W.map (wgt p)) (n := W.length) (by rw [Ac]; exact EZ _) (fun w hw => by obtain ⟨z, _, rfl⟩ := An.1 hw; exact An4 hp z) (by rw [Ac]; omega) hdv (EZ 0) ha
 have hcm : ES p W q = (0, X) := by unfold ES; rw [if_pos hdv, e1]
 have hXl := XC hcm
 refine ⟨Hh F W X q.parts, AdK (by rw [hcv, hn]; simp; omega) hd hcm, ?_, XJ fun _ _ => rfl, ?_, XJ fun x j => ?_, ?_⟩
 ·rw [Pe Coupon.want W Want.zero (fun _ _ => rfl) (Az _) hcv (EZ 0)]; simp
 ·have hv := Pe (F := F) (W := W) Coupon.value X 0 (fun _ _ => rfl) (Nat.le_of_eq hXl.symm) hcv (EZ 0)
  rw [<- hXl, JS] at hv
  intro c hc
  exact e3 _ (by rw [show X = X.drop (0 : Int).toNat from rfl, <- hv]; exact An.2 ⟨c, hc, rfl⟩)
 ·show (F.getD x.fare.toNat Fare.zero).basis.length <= _
  rcases Og x.fare.toNat F.length with h | h
  ·rw [Cu _ _ _ h]; exact hFo _ (AF h)
  ·rw [AI, List.getElem?_eq_none h]; exact Ar _
 ·have hv := Pe (F := F) (W := W) Coupon.value X 0 (fun _ _ => rfl) (Nat.le_of_eq hXl.symm) hcv (EZ 0)
  rw [<- hXl, JS] at hv
  rw [hv, hq, <- e2]; rfl
theorem Xr {l : List Coupon} (h : ∀ (i : Nat) (hi : i < l.length), cF i l[i] = []) : ∀ i, i <= l.length -> cTo l i = []
 | 0, _ => rfl
 | i + 1, hi => by rw [cTo, Xr h i (by omega), Cu _ _ _ (by omega), h i (by omega)]; rfl
theorem Xp {l : List Coupon} (h : ∀ c ∈ l, Bi c.value = true) : ∀ i, i <= l.length -> Hf l i = ((l.take i).map Coupon.value).sum
 | 0, _ => rfl
 | i + 1, hi => by
  rw [Hf, Xp h i (by omega), Cu _ _ _ (show i < l.length by omega), if_pos (h _ (AF _)), CW (show i < l.length by omega), DC, MG]
  simp
theorem AdF {l : List Charge} (h : ∀ c ∈ l, Bi c.amount = true) : ∀ i, i <= l.length -> tTo l i = []
 | 0, _ => rfl
 | i + 1, hi => by rw [tTo, AdF h i (by omega), Cu _ _ _ (show i < l.length by omega), h _ (AF _)]; rfl
theorem AdD {l : List Charge} (h : ∀ c ∈ l, Bi c.amount = true) : ∀ i, i <= l.length -> FB l i = chS (l.take i)
 | 0, _ => rfl
 | i + 1, hi => by rw [FB, AdD h i (by omega), Cu _ _ _ (show i < l.length by omega), if_pos (h _ (AF _)), Xu (by omega)]
theorem RR {n : Int} (h : 0 <= n /\ n <= 1099511627776) : Bi n = true := by unfold Bi; rw [decide_eq_true h.1, decide_eq_true h.2]; rfl
theorem Ak1 {W : List Want} {cs : List Coupon} {x : Person} {n fa to d : Int} {loc : List UInt8} {tx : List Charge} (h : CpK W fa cs) (hW : 1 <= W.length /\ W.length <= 6) (hcl : ∀ w ∈ W, EC w.cls = true) (hn : Dv n = true) (hlo : DT loc = true) (hx : LC x = false)
  (hd : Fi d = true) (hf : 0 <= fa /\ fa <= 1099511627776) (hc : ChK tx) (ht : to = fa + chS tx) : HU ⟨n, loc, x, cs, fa, tx, to, d⟩ = [] := by
 have hl := h.n
 have hv : ∀ c ∈ cs, Bi c.value = true := fun c hc => RR (h.v c hc)
 have hx2 : ∀ c ∈ tx, Bi c.amount = true := fun c hx => RR (hc c hx)
 have hcl2 : ∀ c ∈ cs, EC c.want.cls = true := fun c hc => hcl _ (by rw [<- h.w]; exact An.2 ⟨c, hc, rfl⟩)
 have e1 : IL cs = [] := by
  unfold IL
  rw [Xr (fun i hi => by
   have hm := AF hi
   unfold cF
   rw [hcl2 _ hm, hv _ hm, show kdB cs[i] = false by unfold kdB; rw [h.s _ hm]; rfl]; rfl) _ (Az _), show cSz cs = false by unfold cSz; rw [Ce, decide_eq_false_iff_not, decide_eq_false_iff_not]; omega]; rfl
 have e2 : JK ⟨n, loc, x, cs, fa, tx, to, d⟩ = false := by
  unfold JK
  dsimp only
  rw [Xp hv _ (Az _), JS, h.t, decide_eq_true rfl]; simp
 have e3 : OE ⟨n, loc, x, cs, fa, tx, to, d⟩ = false := by
  unfold OE
  dsimp only
  rw [AdD hx2 _ (Az _), JS, <- ht, decide_eq_true rfl]; simp
 unfold HU
 rw [e2, e3, e1, AdF hx2 _ (Az _)]
 dsimp only
 rw [hn, hlo, hx, RR hf, hd]; rfl
inductive Sh where
 | b
 | i (k : IntKind)
 | s
 | st (fs : List Sh)
 | sl (e : Sh) (bytes : Nat)
 | x (F : List V -> Prop) (k : Nat)
mutual
def Sh.n : Sh -> Nat
 | .b | .i _ | .s | .sl _ _ => 1
 | .st fs => Sh.ns fs
 | .x _ k => k
def Sh.ns : List Sh -> Nat
 | [] => 0
 | f :: fs => f.n + Sh.ns fs
end
mutual
def Sh.fits : Sh -> List V -> Prop
 | .b, vs => ∃ x, vs = [.bool x]
 | .i k, vs => ∃ x, vs = [.int k x] /\ (Lit.int k x).wf = true
 | .s, vs => ∃ x, vs = [.str x] /\ x.length <= reachBytes
 | .sl e by', vs => ∃ rows, vs = [.list rows false] /\ rows.length * by' <= reachBytes /\ ∀ r ∈ rows, e.fits r
 | .st fs, vs => Sh.fitsL fs vs
 | .x F _, vs => F vs
def Sh.fitsL : List Sh -> List V -> Prop
 | [], vs => vs = []
 | f :: fs, vs => ∃ a b, vs = a ++ b /\ f.fits a /\ Sh.fitsL fs b
end
def shF (P : Program) (g : TypeId -> Option Sh) : Nat -> List Field -> Option (List Sh)
 | _, [] => some []
 | o, f :: fs => if f.offset = o then match g f.type with
  | some u => if P.cellsOf f.type = u.n then (shF P g (o + u.n) fs).map (u :: ·) else none
  | none => none
  else none
def shB (rec : TypeId -> Option Sh) (P : Program) (t : TypeId) : Option Sh :=
 match P.underlying t with
  | some .bool => some .b
  | some (.int k) => some (.i k)
  | some .string => some .s
  | some (.slice e) => match rec e with
   | some u => if P.cellsOf e = u.n /\ 0 < u.n then some (.sl u (P.bytesOf e)) else none
   | none => none
  | some (.struct fs) => match shF P (rec) 0 fs.toList with
   | some l => if P.cellsOf t = Sh.ns l then some (.st l) else none
   | none => none
  | some (.array n e) => match rec e with
   | some u => if P.cellsOf e = u.n /\ P.cellsOf t = n * u.n then some (.st (List.replicate n u)) else none
   | none => none
  | _ => none
def shT (P : Program) (ov : TypeId -> Option Sh) : Nat -> TypeId -> Option Sh
 | 0, _ => none
 | d + 1, t => match ov t with
  | some u => some u
  | none => shB (shT P ov d) P t
section
variable {H : Type} {enc : TypeId × Value -> H} {P : Program} {w : World} {M : Nat -> Prop}
def EA (M : Nat -> Prop) (w : World) (cs : List Value) (vs : List V) : Prop := vs.length = cs.length /\ (∀ (j : Nat) (v : V), vs[j]? = some v -> Pur M w v (cs.getD j undef)) /\ ∀ c ∈ cs, c.oneCell' = true
theorem EA.app {c1 c2 : List Value} {v1 v2 : List V} (h1 : EA M w c1 v1) (h2 : EA M w c2 v2) : EA M w (c1 ++ c2) (v1 ++ v2) := by
 refine ⟨by rw [Ai, Ai, h1.1, h2.1], fun j v hj => ?_, fun c hc => (BU.1 hc).elim (h1.2.2 c) (h2.2.2 c)⟩
 have e1 := h1.1
 by_cases hlt : j < v1.length
 ·rw [Hx hlt] at hj
  rw [AI, Hx (by omega), <- AI]
  exact h1.2.1 j v hj
 ·rw [Hw (by omega)] at hj
  rw [AI, Hw (by omega), <- AI]
  have := h2.2.1 _ v hj
  rwa [e1] at this
theorem EA.one {c : Value} {v : V} (hp : Pur M w v c) (h1 : c.oneCell' = true) : EA M w [c] [v] := by
 refine ⟨rfl, fun j u hj => ?_, fun x hx => ?_⟩
 ·cases j with
  | zero => simp only [Fs, BW] at hj; subst hj; exact hp
  | succ j => simp at hj
 ·rw [Bk] at hx; subst hx; exact h1
theorem Vr {e : TypeId} {d : DataW H} : ∀ {l : List (DataW H)}, d ∈ l -> ∀ {n : Nat}, n ∈ d.weights P e -> n ∈ DataW.weightsAll P e l
 | x :: l, hd, n, hn => by
  simp only [DataW.weightsAll, BU]
  rcases AK.1 hd with rfl | hd
  ·exact .inl hn
  ·exact .inr (Vr hd hn)
end
mutual
def V.cnt : V -> Nat
 | .list rows _ => 1 + V.cntR rows
 | _ => 1
def V.cntR : List (List V) -> Nat
 | [] => 0
 | r :: rs => V.cntL r + V.cntR rs
def V.cntL : List V -> Nat
 | [] => 0
 | v :: vs => v.cnt + V.cntL vs
end
theorem V.cntL_app : ∀ (a b : List V), V.cntL (a ++ b) = V.cntL a + V.cntL b
 | [], b => by simp [V.cntL]
 | v :: a, b => by rw [FQ, V.cntL, V.cntL, V.cntL_app a b]; omega
theorem Pb {H : Type} (d : DataW H) : 1 <= Rows.uptoBulk d := by
 cases d with
 | lit l => cases l <;> simp [Rows.uptoBulk]
 | nil => simp [Rows.uptoBulk]
 | ptr d => simp [Rows.uptoBulk]
 | slice elems spare => simp [Rows.uptoBulk]
 | agg parts => simp [Rows.uptoBulk]
 | iface t d => simp [Rows.uptoBulk]
 | map entries => simp [Rows.uptoBulk]
 | held h => simp [Rows.uptoBulk]
theorem Xn {H : Type} {d : DataW H} : ∀ {l : List (DataW H)}, d ∈ l -> Rows.uptoBulk d <= Rows.uptoBulkAll l
 | x :: l, h => by
  rw [Rows.uptoBulkAll]
  rcases AK.1 h with rfl | h
  ·omega
  ·have := Xn h; omega
theorem Sa {H : Type} {d : DataW H} : ∀ {l : List (DataW H)} {k : Nat}, l[k]? = some d -> Rows.uptoBulkAll (l.drop k) = Rows.uptoBulk d + Rows.uptoBulkAll (l.drop (k + 1))
 | x :: l, 0, h => by
  simp only [Fs, BW] at h
  subst h
  rw [CT, Lx, CT, Rows.uptoBulkAll]
 | x :: l, k + 1, h => by
  rw [Ej] at h
  rw [Lx, Lx]
  exact Sa h
theorem Xz {H : Type} : ∀ (ds : List (DataW H)) (vf : Nat -> List V) (len : Nat), len <= ds.length -> (∀ i (h : i < ds.length), i < len -> V.cntL (vf i) <= Rows.uptoBulk ds[i]) -> V.cntR ((List.range len).map vf) <= Rows.uptoBulkAll ds
 | ds, vf, 0, _, _ => by simp [V.cntR]
 | d :: ds, vf, len + 1, hl, h => by
  have ih := Xz ds (fun i => vf (i + 1)) len (by simpa using hl) fun i h1 h2 => by
   have := h (i + 1) (by simpa using h1) (by omega)
   rwa [List.getElem_cons_succ] at this
  have h0 := h 0 (by simp) (by omega)
  rw [List.getElem_cons_zero] at h0
  rw [List.range_succ_eq_map, BP, Lq, V.cntR, Rows.uptoBulkAll]
  have e : (vf ∘ Nat.succ) = fun i => vf (i + 1) := rfl
  rw [e]; omega
section
variable {H : Type} {enc : TypeId × Value -> H} {P : Program} {w : World} {M : Nat -> Prop}
theorem Ab0 (hM : ∀ b, b < w.heap.size -> M b) {rec : TypeId -> Option Sh} : ∀ {fuel : Nat}, (∀ f, f < fuel -> ∀ {t : TypeId} {cs : List Value} {x : DataW H × List MemPlace} {sh : Sh}, rec t = some sh -> DataW.trod enc P w 0 (fun _ => true) true f t cs = some x -> (∀ n ∈ x.1.weights P t, n <= reachBytes) -> ∃ vs, sh.fits vs /\ EA M w cs vs /\ V.cntL vs <= Rows.uptoBulk x.1) -> ∀ {t : TypeId} {cs : List Value} {x : DataW H × List MemPlace} {sh : Sh}, shB rec P t = some sh -> DataW.trod enc P w 0 (fun _ => true) true fuel t cs = some x -> (∀ n ∈ x.1.weights P t, n <= reachBytes) -> ∃ vs, sh.fits vs /\ EA M w cs vs /\ V.cntL vs <= Rows.uptoBulk x.1
 | fuel, hrec, t, cs, x, sh, hs, h, hwt => by
  unfold shB at hs
  split at hs
  ·rename_i ht
   injection hs with hs; subst hs
   obtain ⟨b, rfl, _⟩ := DataW.trod_bool ht h
   exact ⟨_, ⟨_, rfl⟩, .one (.bool _) rfl, Pb _⟩
  ·rename_i k ht
   injection hs with hs; subst hs
   obtain ⟨n, rfl, _, hw⟩ := DataW.trod_int ht h
   exact ⟨_, ⟨_, rfl, hw⟩, .one (.int _ _) rfl, Pb _⟩
  ·rename_i ht
   injection hs with hs; subst hs
   obtain ⟨u, rfl, rfl, _⟩ := DataW.trod_string ht h
   obtain ⟨⟨l⟩⟩ := u
   exact ⟨[.str l], ⟨_, rfl, hwt _ (by simp [DataW.weights])⟩, .one (.str l) rfl, Pb _⟩
  ·rename_i e ht
   split at hs
   ·rename_i u hse
    split at hs
    ·rename_i hc
     injection hs with hs; subst hs
     rcases DataW.trod_slice ht h with ⟨rfl, _⟩ | ⟨a, len, cap, elems, rest, n, rfl, rfl, rfl, _, hlc, hcm, helen, he, _, _⟩
     ·exact ⟨[.list [] false], ⟨[], rfl, by simp, fun r hr => by cases hr⟩, .one (.list [] false none 0 0 0 0 (fun _ _ => undef) (fun e => by cases e) (Az _) (fun _ => rfl) (.inl rfl) (fun r hr => by cases hr) (fun i j hi _ => absurd hi (EK _)) (fun i j r v hi => by simp at hi)) rfl, Pb _⟩
     ·obtain ⟨hce, hpos⟩ := hc
      simp only [DataW.weights, ht, Ac, AK, BU] at hwt
      have hw0 := hwt _ (.inl rfl)
      have hwe : ∀ y ∈ elems, ∀ n ∈ y.1.weights P e, n <= reachBytes := fun y hy n hn => hwt n (.inr (.inl (Vr (An.2 ⟨y, hy, rfl⟩) hn)))
      have each : ∀ i, ∃ (ci : List Value) (vi : List V), i < len -> w.cells? 0 (a.add (i * u.n)) u.n = some ci /\ u.fits vi /\ EA M w ci vi /\ ∀ h : i < elems.length, V.cntL vi <= Rows.uptoBulk elems[i].1 := by
       intro i
       by_cases hi : i < len
       ·have h1 := he i hi
        rw [AY (by omega), hce] at h1
        obtain ⟨ci, h2, h3⟩ := Option.bind_eq_some_iff.1 h1
        obtain ⟨vi, h4, h5, h6⟩ := hrec n (Jf n) hse h3 (hwe _ (AF _))
        exact ⟨ci, vi, fun _ => ⟨h2, h4, h5, fun _ => h6⟩⟩
       ·exact ⟨[], [], fun h => absurd h hi⟩
      obtain ⟨cf, each⟩ := Classical.skolem.1 each
      obtain ⟨vf, each⟩ := Classical.skolem.1 each
      have hrl : ((List.range len).map vf).length = len := by simp
      have hsp0 : 0 < len -> a.spot = none := by
       intro h0
       obtain ⟨h1, _, _⟩ := each 0 h0
       obtain ⟨_, h4, h5⟩ := World.cells?_some h1
       have h6 := h5 0 hpos
       rw [AY (by omega)] at h6
       rw [Of] at h6
       have e1 : (a.add 0).add 0 = a := by simp [Addr.add]
       rw [e1] at h6
       cases hs : a.spot with
       | none => rfl
       | some q =>
        exfalso
        unfold World.cell? at h6
        split at h6
        ·simp [hs] at h6
        ·cases h6
      have hcell : ∀ i j, i < len -> j < u.n -> a.spot = none /\ w.cell? ⟨a.block, a.off + i * u.n + j, none⟩ = some ((cf i).getD j undef) /\ ((cf i).getD j undef).oneCell' = true := by
       intro i j hi hj
       obtain ⟨h1, _, h3, _⟩ := each i hi
       obtain ⟨_, h4, h5⟩ := World.cells?_some h1
       have h6 := h5 j hj
       have hlt : j < (cf i).length := by omega
       rw [AY hlt] at h6
       have hd : (cf i).getD j undef = (cf i)[j] := by rw [AI, AY hlt]; rfl
       have hsp := hsp0 (by omega)
       refine ⟨hsp, ?_, ?_⟩
       ·rw [hd, <- h6]
        obtain ⟨g, off, sp⟩ := a
        dsimp only at hsp
        subst hsp
        rw [Es, Es]
       ·rw [hd]; exact h3.2.2 _ (AF hlt)
      have hrow : ∀ i r, ((List.range len).map vf)[i]? = some r -> i < len /\ r = vf i := by
       intro i r hr
       rw [BE] at hr
       obtain ⟨k, hk, rfl⟩ := AZ.1 hr
       obtain ⟨hk1, hk2⟩ := BS.1 hk
       simp only [List.length_range] at hk1
       simp only [List.getElem_range] at hk2
       subst hk2
       exact ⟨hk1, rfl⟩
      have hln : ∀ i, i < len -> (vf i).length = u.n := fun i hi => by
       obtain ⟨h1, _, h3, _⟩ := each i hi
       obtain ⟨_, h4, _⟩ := World.cells?_some h1
       rw [h3.1, h4]
      refine ⟨[.list ((List.range len).map vf) false], ⟨_, rfl, by rw [hrl, <- helen]; exact Ig (CE _ (Nat.le_add_right _ _)) hw0, fun r hr => ?_⟩, .one ?_ rfl, ?_⟩
      ·obtain ⟨i, hi, rfl⟩ := An.1 hr
       exact (each i (MI.1 hi)).2.1
      ·have hp := Pur.list (M := M) (w := w) ((List.range len).map vf) false (some a) cap u.n a.block a.off (fun i j => (cf i).getD j undef) (fun e => by cases e) (by rw [hrl]; exact hlc) (fun e => by cases e) (by
        by_cases h0 : len = 0
        ·left; subst h0; rfl
        ·right
         have hc0 := hcell 0 0 (by omega) hpos
         refine ⟨by obtain ⟨_, _, _⟩ := a; simp at hc0; rw [hc0.1], hM _ ?_⟩
         have hb := World.cells?_block (a := a.add (0 * u.n)) (each 0 (by omega)).1 hpos
         rw [Of] at hb
         simpa [Addr.add] using hb) (fun r hr => by
        obtain ⟨i, hi, rfl⟩ := An.1 hr
        exact hln i (MI.1 hi)) (fun i j hi hj => ?_) (fun i j r v hr hj => ?_)
       ·rw [hrl] at hp; exact hp
       ·rw [hrl] at hi
        exact (hcell i j hi hj).2
       ·obtain ⟨hi, rfl⟩ := hrow i r hr
        exact (each i hi).2.2.1.2.1 j v hj
      ·show 1 + V.cntR _ + 0 <= Rows.uptoBulkAll _ + Rows.uptoBulkAll _ + 1
       have := Xz (elems.map (·.1)) vf len (by rw [Ac]; omega) (fun i h1 h2 => by rw [GQ]; exact (each i h2).2.2.2 (by rw [Ac] at h1; exact h1))
       omega
    ·cases hs
   ·cases hs
  ·rename_i fs ht
   split at hs
   ·rename_i l hl
    split at hs
    ·rename_i hc
     injection hs with hs; subst hs
     obtain ⟨xs, n, rfl, rfl, hlen, hxl, hf⟩ := DataW.trod_struct ht h
     simp only [DataW.weights, ht] at hwt
     have main : ∀ (fl : List Field) (o k : Nat) (l : List Sh), (∀ i, fs.toList[k + i]? = fl[i]?) -> shF P rec o fl = some l -> o + Sh.ns l = cs.length -> ∃ vs, Sh.fitsL l vs /\ EA M w (cs.drop o) vs /\ V.cntL vs <= Rows.uptoBulkAll ((xs.map (·.1)).drop k) := by
      intro fl
      induction fl with
      | nil =>
       intro o k l _ hl hn
       simp only [shF, BW] at hl
       subst hl
       refine ⟨[], rfl, ?_⟩
       rw [List.drop_of_length_le (by simp only [Sh.ns] at hn; omega)]
       exact ⟨⟨rfl, fun j v hj => by simp at hj, fun c hc => by cases hc⟩, Ar _⟩
      | cons f fl ih =>
       intro o k l hk hl hn
       unfold shF at hl
       split at hl
       ·rename_i ho
        split at hl
        ·rename_i u hu
         split at hl
         ·rename_i hcu
          obtain ⟨r, hr, rfl⟩ := AZ.1 hl
          simp only [Sh.ns] at hn
          have hk0 := hk 0
          simp only [FS, Fs, Cv] at hk0
          have hfk := hf k f hk0
          rw [ho, hcu] at hfk
          cases hx : xs[k]? with
          | none =>
           have h1 := (GM.1 hk0).1
           have h2 := List.getElem?_eq_none_iff.1 hx
           omega
          | some y =>
           rw [hx] at hfk
           obtain ⟨v1, g1, g2, g5⟩ := hrec n (Jf n) hu hfk (fun n hn => hwt n (DataW.weights_mem_each (j := k) (t := f.type) (d := y.1) (by rw [BE, Cv, hk0]; rfl) (by rw [BE, hx]; rfl) n hn))
           obtain ⟨v2, g3, g4, g6⟩ := ih (o + u.n) (k + 1) r (fun i => by have := hk (i + 1); rw [Ej] at this; rw [<- this]; congr 1; omega) hr (by omega)
           refine ⟨v1 ++ v2, ⟨v1, v2, rfl, g1, g3⟩, ?_⟩
           have := EA.app g2 g4
           rw [<- Od, Lu] at this
           refine ⟨this, ?_⟩
           rw [V.cntL_app, Sa (d := y.1) (by rw [BE, hx]; rfl)]
           omega
         ·cases hl
        ·cases hl
       ·cases hl
     obtain ⟨vs, g1, g2, g3⟩ := main fs.toList 0 0 l (fun i => by rw [Cw]) hl (by rw [Cw, <- hc, hlen])
     exact ⟨vs, g1, g2, by rw [CT] at g3; show _ <= Rows.uptoBulkAll _ + 1; omega⟩
    ·cases hs
   ·cases hs
  ·rename_i n e ht
   split at hs
   ·rename_i u hu
    split at hs
    ·rename_i hc
     injection hs with hs; subst hs
     obtain ⟨hce, hct⟩ := hc
     obtain ⟨xs, m, rfl, rfl, hlen, hxl, hf⟩ := DataW.trod_array ht h
     simp only [DataW.weights, ht] at hwt
     have main : ∀ (j k : Nat), k + j = n -> ∃ vs, Sh.fitsL (List.replicate j u) vs /\ EA M w (cs.drop (k * u.n)) vs /\ V.cntL vs <= Rows.uptoBulkAll ((xs.map (·.1)).drop k) := by
      intro j
      induction j with
      | zero =>
       intro k hk
       refine ⟨[], rfl, ?_⟩
       have hk' : k = n := by omega
       rw [List.drop_of_length_le (by rw [hk', hlen, hct]; exact Az _)]
       exact ⟨⟨rfl, fun j v hj => by simp at hj, fun c hc => by cases hc⟩, Ar _⟩
      | succ j ih =>
       intro k hk
       have hfk := hf k (by omega)
       rw [hce, AY (by omega)] at hfk
       obtain ⟨v1, g1, g2, g5⟩ := hrec m (Jf m) hu hfk (fun n hn => hwt n (Vr (An.2 ⟨_, AF _, rfl⟩) hn))
       obtain ⟨v2, g3, g4, g6⟩ := ih (k + 1) (by omega)
       refine ⟨v1 ++ v2, ⟨v1, v2, rfl, g1, g3⟩, ?_⟩
       have := EA.app g2 g4
       rw [EY, Nat.one_mul, <- Od, Lu] at this
       refine ⟨this, ?_⟩
       rw [V.cntL_app, Sa (d := (xs[k]'(by omega)).1) (by rw [BE, AY (by omega)]; rfl)]
       omega
     obtain ⟨vs, g1, g2, g3⟩ := main n 0 (by omega)
     rw [Of, CT] at g2
     exact ⟨vs, g1, g2, by rw [CT] at g3; show _ <= Rows.uptoBulkAll _ + 1; omega⟩
    ·cases hs
   ·cases hs
  ·cases hs
theorem TX (hM : ∀ b, b < w.heap.size -> M b) {ov : TypeId -> Option Sh} {B : Nat} (hov : ∀ f, f < B -> ∀ {t : TypeId} {cs : List Value} {x : DataW H × List MemPlace} {sh : Sh}, ov t = some sh -> DataW.trod enc P w 0 (fun _ => true) true f t cs = some x -> (∀ n ∈ x.1.weights P t, n <= reachBytes) -> ∃ vs, sh.fits vs /\ EA M w cs vs /\ V.cntL vs <= Rows.uptoBulk x.1) : ∀ {d fuel : Nat} {t : TypeId} {cs : List Value} {x : DataW H × List MemPlace} {sh : Sh}, fuel < B -> shT P ov d t = some sh -> DataW.trod enc P w 0 (fun _ => true) true fuel t cs = some x -> (∀ n ∈ x.1.weights P t, n <= reachBytes) -> ∃ vs, sh.fits vs /\ EA M w cs vs /\ V.cntL vs <= Rows.uptoBulk x.1
 | 0, _, _, _, _, _, _, hs, _, _ => by simp [shT] at hs
 | d + 1, fuel, t, cs, x, sh, hB, hs, h, hwt => by
  unfold shT at hs
  split at hs
  ·rename_i u e
   injection hs with hs
   subst hs
   exact hov fuel hB e h hwt
  ·exact Ab0 hM (fun f hf t cs x sh h1 h2 h3 => TX hM hov (by omega) h1 h2 h3) hs h hwt
end
def Sh.val : Sh -> List V -> V
 | .st _, vs => .agg vs
 | _, vs => vs.headD .any
section
variable {H : Type} {enc : TypeId × Value -> H} {P : Program} {W : World}
theorem AeB {r : Reach} {b n : Nat} {t : TypeId} {sh : Sh} {ov : TypeId -> Option Sh} (ho : ov t = none) (hs : shT P ov n t = some sh) {v : Value} (hval : Value.okWide P W r b t v) : (∃ fs cs, sh = .st fs /\ v = .agg cs) \/ ((∀ fs, sh ≠ .st fs) /\ (∀ F k, sh ≠ .x F k) /\ v.cells = #[v]) := by
 cases n with
 | zero => simp [shT] at hs
 | succ n =>
  unfold shT at hs
  rw [ho] at hs
  dsimp only at hs
  unfold shB at hs
  unfold Value.okWide at hval
  split at hs
  all_goals first | (rename_i ht; rw [ht] at hval; dsimp only at hval) | (cases hs; done)
  ·injection hs with hs; subst hs
   refine .inr ⟨fun _ h => (by cases h), fun _ _ h => (by cases h), ?_⟩
   cases v <;> first | rfl | (simp [Cell.okWide, Cell.ok, ht] at hval)
  ·injection hs with hs; subst hs
   refine .inr ⟨fun _ h => (by cases h), fun _ _ h => (by cases h), ?_⟩
   cases v <;> first | rfl | (simp [Cell.okWide, Cell.ok, ht] at hval)
  ·injection hs with hs; subst hs
   refine .inr ⟨fun _ h => (by cases h), fun _ _ h => (by cases h), ?_⟩
   cases v <;> first | rfl | (simp [Cell.okWide, Cell.ok, ht] at hval)
  ·split at hs
   ·split at hs
    ·injection hs with hs; subst hs
     refine .inr ⟨fun _ h => (by cases h), fun _ _ h => (by cases h), ?_⟩
     cases v <;> first | rfl | (simp [Cell.okWide, Cell.ok, ht] at hval)
    ·cases hs
   ·cases hs
  ·split at hs
   ·split at hs
    ·injection hs with hs; subst hs
     obtain ⟨cs, rfl, _⟩ := hval
     exact .inl ⟨_, cs, rfl, rfl⟩
    ·cases hs
   ·cases hs
  ·split at hs
   ·split at hs
    ·injection hs with hs; subst hs
     obtain ⟨cs, rfl, _⟩ := hval
     exact .inl ⟨_, cs, rfl, rfl⟩
    ·cases hs
   ·cases hs
theorem AgA {sh : Sh} {vs : List V} (h : sh.fits vs) (hn : ∀ fs, sh ≠ .st fs) (hx : ∀ F k, sh ≠ .x F k) : ∃ u, vs = [u] := by
 cases sh with
 | st fs => exact absurd rfl (hn fs)
 | b => obtain ⟨x, rfl⟩ := h; exact ⟨_, rfl⟩
 | i k => obtain ⟨x, rfl, _⟩ := h; exact ⟨_, rfl⟩
 | s => obtain ⟨x, rfl, _⟩ := h; exact ⟨_, rfl⟩
 | x F k => exact absurd rfl (hx F k)
 | sl e b => obtain ⟨x, rfl, _⟩ := h; exact ⟨_, rfl⟩
theorem TW {r : Reach} {b n : Nat} {t : TypeId} {sh : Sh} {ov : TypeId -> Option Sh} (hov : ∀ (B f : Nat), f < B -> ∀ {t : TypeId} {cs : List Value} {x : DataW H × List MemPlace} {sh : Sh}, ov t = some sh -> DataW.trod enc P W 0 (fun _ => true) true f t cs = some x -> (∀ n ∈ x.1.weights P t, n <= reachBytes) -> ∃ vs, sh.fits vs /\ EA (fun b => b < W.heap.size) W cs vs /\ V.cntL vs <= Rows.uptoBulk x.1) (ho : ov t = none) (hs : shT P ov n t = some sh) {v : Value} (hval : Value.okWide P W r b t v) {d : DataW H} {ps : List MemPlace} (h : DataW.Trod enc P W 0 (fun _ => true) true t v d ps) (hwt : ∀ n ∈ d.weights P t, n <= reachBytes) :
  ∃ vs, sh.fits vs /\ Pur (fun b => b < W.heap.size) W (sh.val vs) v /\ V.cntL vs <= Rows.uptoBulk d := by
 obtain ⟨fuel, hf⟩ := h
 obtain ⟨vs, h1, ⟨h2, h3, h4⟩, h5⟩ := TX (M := fun b => b < W.heap.size) (fun _ h => h) (hov (fuel + 1)) (Jf fuel) hs hf hwt
 refine ⟨vs, h1, ?_, h5⟩
 rcases AeB ho hs hval with ⟨fs, cs, rfl, rfl⟩ | ⟨hn, hx, hc⟩
 ·exact .agg vs cs (by simpa [Value.cells] using h2) (fun c hc => h4 c (by simpa [Value.cells] using hc)) (fun i u hi => by
   have := h3 i u hi
   rw [AI, Cv] at this
   simpa [Value.cells] using this)
 ·obtain ⟨u, rfl⟩ := AgA h1 hn hx
  have := h3 0 u rfl
  rw [hc] at this
  cases sh with
  | st fs => exact absurd rfl (hn fs)
  | x F k => exact absurd rfl (hx F k)
  | _ => exact this
end
theorem XB {r : List V} : ∀ {l : List (List V)}, r ∈ l -> V.cntL r <= V.cntR l
 | x :: l, h => by
  rw [V.cntR]
  rcases AK.1 h with rfl | h
  ·omega
  ·have := XB h; omega
theorem XA {k : Nat} : ∀ {l : List (List V)}, (∀ r ∈ l, k <= V.cntL r) -> k * l.length <= V.cntR l
 | [], _ => by simp
 | x :: l, h => by
  have h1 := h x (AJ ..)
  have h2 := XA (k := k) (l := l) fun r hr => h r (AU _ hr)
  rw [V.cntR, Av, Nat.mul_add, FT]; omega
theorem AaU {α : Type} {encA : α -> List V} {ok : α -> Prop} {e : Sh} (h : ∀ vs, e.fits vs -> ∃ a, vs = encA a /\ ok a) : ∀ {rows : List (List V)}, (∀ r ∈ rows, e.fits r) -> ∃ l : List α, rows = l.map encA /\ ∀ a ∈ l, ok a
 | [], _ => ⟨[], rfl, fun a ha => by cases ha⟩
 | r :: rs, hr => by
  obtain ⟨a, rfl, ha⟩ := h r (hr r (AJ ..))
  obtain ⟨l, rfl, hl⟩ := AaU h fun x hx => hr x (AU _ hx)
  exact ⟨a :: l, rfl, fun x hx => by rcases AK.1 hx with rfl | hx; exact ha; exact hl x hx⟩
theorem Cs {vs : List V} (h : Sh.s.fits vs) : ∃ x : List UInt8, vs = [.str x] /\ x.length <= 140737488355328 := by
 obtain ⟨x, rfl, hx⟩ := h
 exact ⟨x, rfl, by unfold reachBytes at hx; omega⟩
theorem Bq {vs : List V} (h : (Sh.i .i64).fits vs) : ∃ x : Int, vs = [.int .i64 x] /\ inI x := by
 obtain ⟨x, rfl, hx⟩ := h
 exact ⟨x, rfl, bounds_i64 hx⟩
theorem Agz {vs : List V} (h : Sh.b.fits vs) : ∃ x : Bool, vs = [.bool x] := h
theorem EE {α : Type} {encA : α -> List V} {ok : α -> Prop} {e : Sh} {bytes : Nat} (h : ∀ vs, e.fits vs -> ∃ a, vs = encA a /\ ok a) {vs : List V} (hv : (Sh.sl e bytes).fits vs) : ∃ l : List α, vs = [.list (l.map encA) false] /\ l.length * bytes <= 140737488351232 /\ ∀ a ∈ l, ok a := by
 obtain ⟨rows, rfl, h1, h2⟩ := hv
 obtain ⟨l, rfl, hl⟩ := AaU h h2
 rw [Ac] at h1
 exact ⟨l, rfl, h1, hl⟩
theorem AmD {W : World} (h : Ko W) : (3 : Nat) < W.heap.size := by
 unfold Ko Lib.TabIs World.var? at h
 rw [Tu] at h
 simp only [Option.bind_some] at h
 cases hs : W.heap[(3 : Nat)]? with
 | none => rw [hs] at h; cases h
 | some o => exact (GM.1 hs).1
theorem Aeu {W : World} (h : UT.B W) : ∀ b, UT.T b -> b < W.heap.size := by
 intro b hb
 have hb : b = 3 := hb
 subst hb
 exact AmD (utW h)
theorem Ahp {f : Nat} {g : List V -> Prop × V} (hp : PU f g) {vs : List V} (h1 : (g vs).1) (h2 : (g vs).2 = .bool true) {W : World} {cargs : Array Value} (hU : UT.B W) (hsz : cargs.size = vs.length)
  (hpur : ∀ (i : Nat) (v : V), vs[i]? = some v -> Pur (fun b => b < W.heap.size) W v (cargs.getD i undef)) : Calls Tryz.prog f cargs W fun e W' => e = .returned (.bool true) /\ Below W.heap.size W W' := by
 refine ((hp vs _ W cargs h1).2 hU (Aeu hU) hsz (fun _ h => h) hpur).mono ?_
 rintro e w' ⟨cv, M', rfl, hcv, _, _, _, hb⟩
 rw [h2] at hcv
 cases hcv
 exact ⟨rfl, hb⟩
def Nh (W : World) : List V -> List Value -> Prop
 | [], [] => True
 | v :: vs, c :: cs => Pur (fun b => b < W.heap.size) W v c /\ Nh W vs cs
 | _, _ => False
theorem Nh.get {W : World} : ∀ {vs : List V} {cs : List Value}, Nh W vs cs -> cs.length = vs.length /\ ∀ (i : Nat) (v : V), vs[i]? = some v -> Pur (fun b => b < W.heap.size) W v (cs.getD i undef)
 | [], [], _ => ⟨rfl, fun i v h => by simp at h⟩
 | v :: vs, c :: cs, h => by
  obtain ⟨h1, h2⟩ := Nh.get h.2
  refine ⟨by simp [h1], fun i u hi => ?_⟩
  cases i with
  | zero => simp only [Fs, BW] at hi; subst hi; exact h.1
  | succ i => rw [Ej] at hi; rw [Ka]; exact h2 i u hi
 | [], _ :: _, h => h.elim
 | _ :: _, [], h => h.elim
theorem Ahq {α : Type} {args : α -> List V} {F : α -> Prop × V} {f : Nat} (inj : ∀ a b, args a = args b -> a = b) (hp : PU f (gOf args F)) (a : α) (h1 : (F a).1) (h2 : (F a).2 = .bool true) {W : World} (hU : UT.B W) {cl : List Value} (hP : Nh W (args a) cl) :
  Calls Tryz.prog f cl.toArray W fun e W' => e = .returned (.bool true) /\ Below W.heap.size W W' := by
 obtain ⟨e1, e2⟩ := hP.get
 exact Ahp hp (vs := args a) (by rw [Al inj]; exact h1) (by rw [Al inj]; exact h2) hU (by simpa using e1) (fun i v hi => by have := e2 i v hi; rwa [AI, <- List.getElem?_toArray, <- Jc] at this)
def AcZ : Sh := .st [.i .i64, .i .i64, .i .i64]
theorem Aej (vs : List V) (h : AcZ.fits vs) : ∃ z : Period, vs = z.enc /\ z.ok := by
 obtain ⟨a0, b0, rfl, h0, a1, b1, rfl, h1, a2, b2, rfl, h2, rfl⟩ := h
 obtain ⟨x0, rfl, p0⟩ := Bq h0
 obtain ⟨x1, rfl, p1⟩ := Bq h1
 obtain ⟨x2, rfl, p2⟩ := Bq h2
 exact ⟨⟨x0, x1, x2⟩, rfl, ⟨p0, p1, p2⟩⟩
def AcY : Sh := .st [.s, .i .i64]
theorem Aei (vs : List V) (h : AcY.fits vs) : ∃ z : Pct, vs = z.enc /\ z.ok := by
 obtain ⟨a0, b0, rfl, h0, a1, b1, rfl, h1, rfl⟩ := h
 obtain ⟨x0, rfl, p0⟩ := Cs h0
 obtain ⟨x1, rfl, p1⟩ := Bq h1
 exact ⟨⟨x0, x1⟩, rfl, ⟨p0, p1⟩⟩
def Ac6 : Sh := .st [.i .i64, .i .i64]
theorem Aeq (vs : List V) (h : Ac6.fits vs) : ∃ z : Shift, vs = z.enc /\ z.ok := by
 obtain ⟨a0, b0, rfl, h0, a1, b1, rfl, h1, rfl⟩ := h
 obtain ⟨x0, rfl, p0⟩ := Bq h0
 obtain ⟨x1, rfl, p1⟩ := Bq h1
 exact ⟨⟨x0, x1⟩, rfl, ⟨p0, p1⟩⟩
def Adb : Sh := .st [.i .i64, .sl Ac6 16]
theorem Aew (vs : List V) (h : Adb.fits vs) : ∃ z : Zone, vs = z.enc /\ z.ok := by
 obtain ⟨a0, b0, rfl, h0, a1, b1, rfl, h1, rfl⟩ := h
 obtain ⟨x0, rfl, p0⟩ := Bq h0
 obtain ⟨x1, rfl, l1, p1⟩ := EE Aeq h1
 exact ⟨⟨x0, x1⟩, rfl, ⟨p0, ⟨by dsimp only; omega, p1⟩⟩⟩
def AcQ : Sh := .st [.s, .s, .s, Adb]
theorem Ad8 (vs : List V) (h : AcQ.fits vs) : ∃ z : Airport, vs = z.enc /\ z.ok := by
 obtain ⟨a0, b0, rfl, h0, a1, b1, rfl, h1, a2, b2, rfl, h2, a3, b3, rfl, h3, rfl⟩ := h
 obtain ⟨x0, rfl, p0⟩ := Cs h0
 obtain ⟨x1, rfl, p1⟩ := Cs h1
 obtain ⟨x2, rfl, p2⟩ := Cs h2
 obtain ⟨x3, rfl, p3⟩ := Aew _ h3
 exact ⟨⟨x0, x1, x2, x3⟩, rfl, ⟨p0, p1, p2, p3⟩⟩
def AcT : Sh := .st [.s, .s, .i .i64]
theorem Aea (vs : List V) (h : AcT.fits vs) : ∃ z : Distance, vs = z.enc /\ z.ok := by
 obtain ⟨a0, b0, rfl, h0, a1, b1, rfl, h1, a2, b2, rfl, h2, rfl⟩ := h
 obtain ⟨x0, rfl, p0⟩ := Cs h0
 obtain ⟨x1, rfl, p1⟩ := Cs h1
 obtain ⟨x2, rfl, p2⟩ := Bq h2
 exact ⟨⟨x0, x1, x2⟩, rfl, ⟨p0, p1, p2⟩⟩
def Ac1 : Sh := .st [.sl AcQ 80, .sl AcT 40]
theorem Ael (vs : List V) (h : Ac1.fits vs) : ∃ z : Places, vs = z.enc /\ z.ok := by
 obtain ⟨a0, b0, rfl, h0, a1, b1, rfl, h1, rfl⟩ := h
 obtain ⟨x0, rfl, l0, p0⟩ := EE Ad8 h0
 obtain ⟨x1, rfl, l1, p1⟩ := EE Aea h1
 exact ⟨⟨x0, x1⟩, rfl, ⟨⟨by dsimp only; omega, p0⟩, ⟨by dsimp only; omega, p1⟩⟩⟩
def Ac5 : Sh := .st [.s, .i .i64, .i .i64, .s, .s, .i .i64, .i .i64]
theorem Aep (vs : List V) (h : Ac5.fits vs) : ∃ z : Seg, vs = z.enc /\ z.ok := by
 obtain ⟨a0, b0, rfl, h0, a1, b1, rfl, h1, a2, b2, rfl, h2, a3, b3, rfl, h3, a4, b4, rfl, h4, a5, b5, rfl, h5, a6, b6, rfl, h6, rfl⟩ := h
 obtain ⟨x0, rfl, p0⟩ := Cs h0
 obtain ⟨x1, rfl, p1⟩ := Bq h1
 obtain ⟨x2, rfl, p2⟩ := Bq h2
 obtain ⟨x3, rfl, p3⟩ := Cs h3
 obtain ⟨x4, rfl, p4⟩ := Cs h4
 obtain ⟨x5, rfl, p5⟩ := Bq h5
 obtain ⟨x6, rfl, p6⟩ := Bq h6
 exact ⟨⟨x0, x1, x2, x3, x4, x5, x6⟩, rfl, ⟨p0, p1, p2, p3, p4, p5, p6⟩⟩
def Ada : Sh := .st [Ac5, .s]
theorem Aev (vs : List V) (h : Ada.fits vs) : ∃ z : Want, vs = z.enc /\ z.ok := by
 obtain ⟨a0, b0, rfl, h0, a1, b1, rfl, h1, rfl⟩ := h
 obtain ⟨x0, rfl, p0⟩ := Aep _ h0
 obtain ⟨x1, rfl, p1⟩ := Cs h1
 exact ⟨⟨x0, x1⟩, rfl, ⟨p0, p1⟩⟩
def AcX : Sh := .st [.i .i64, .i .i64, .i .i64, .i .i64]
theorem Aeh (vs : List V) (h : AcX.fits vs) : ∃ z : Part, vs = z.enc /\ z.ok := by
 obtain ⟨a0, b0, rfl, h0, a1, b1, rfl, h1, a2, b2, rfl, h2, a3, b3, rfl, h3, rfl⟩ := h
 obtain ⟨x0, rfl, p0⟩ := Bq h0
 obtain ⟨x1, rfl, p1⟩ := Bq h1
 obtain ⟨x2, rfl, p2⟩ := Bq h2
 obtain ⟨x3, rfl, p3⟩ := Bq h3
 exact ⟨⟨x0, x1, x2, x3⟩, rfl, ⟨p0, p1, p2, p3⟩⟩
def AcR : Sh := .st [.s, .i .i64]
theorem Ad9 (vs : List V) (h : AcR.fits vs) : ∃ z : Charge, vs = z.enc /\ z.ok := by
 obtain ⟨a0, b0, rfl, h0, a1, b1, rfl, h1, rfl⟩ := h
 obtain ⟨x0, rfl, p0⟩ := Cs h0
 obtain ⟨x1, rfl, p1⟩ := Bq h1
 exact ⟨⟨x0, x1⟩, rfl, ⟨p0, p1⟩⟩
def Ac9 : Sh := .st [.i .i64, .i .i64]
theorem Aet (vs : List V) (h : Ac9.fits vs) : ∃ z : Two, vs = z.enc /\ z.ok := by
 obtain ⟨a0, b0, rfl, h0, a1, b1, rfl, h1, rfl⟩ := h
 obtain ⟨x0, rfl, p0⟩ := Bq h0
 obtain ⟨x1, rfl, p1⟩ := Bq h1
 exact ⟨⟨x0, x1⟩, rfl, ⟨p0, p1⟩⟩
def Ac2 : Sh := .st [.sl AcX 32, .sl Ac9 16, .sl AcR 24, .i .i64, .i .i64]
theorem Aem (vs : List V) (h : Ac2.fits vs) : ∃ z : Quote, vs = z.enc /\ z.ok := by
 obtain ⟨a0, b0, rfl, h0, a1, b1, rfl, h1, a2, b2, rfl, h2, a3, b3, rfl, h3, a4, b4, rfl, h4, rfl⟩ := h
 obtain ⟨x0, rfl, l0, p0⟩ := EE Aeh h0
 obtain ⟨x1, rfl, l1, p1⟩ := EE Aet h1
 obtain ⟨x2, rfl, l2, p2⟩ := EE Ad9 h2
 obtain ⟨x3, rfl, p3⟩ := Bq h3
 obtain ⟨x4, rfl, p4⟩ := Bq h4
 exact ⟨⟨x0, x1, x2, x3, x4⟩, rfl, ⟨⟨by dsimp only; omega, p0⟩, ⟨by dsimp only; omega, p1⟩, ⟨by dsimp only; omega, p2⟩, p3, p4⟩⟩
def Ac0 : Sh := .st [.s, .s, .s]
theorem Aek (vs : List V) (h : Ac0.fits vs) : ∃ z : Person, vs = z.enc /\ z.ok := by
 obtain ⟨a0, b0, rfl, h0, a1, b1, rfl, h1, a2, b2, rfl, h2, rfl⟩ := h
 obtain ⟨x0, rfl, p0⟩ := Cs h0
 obtain ⟨x1, rfl, p1⟩ := Cs h1
 obtain ⟨x2, rfl, p2⟩ := Cs h2
 exact ⟨⟨x0, x1, x2⟩, rfl, ⟨p0, p1, p2⟩⟩
def Ac8 : Sh := .st [.s, .i .i64, .s, .i .i64, .i .i64, .i .i64, .sl .s 16]
theorem Aes (vs : List V) (h : Ac8.fits vs) : ∃ z : Tax, vs = z.enc /\ z.ok := by
 obtain ⟨a0, b0, rfl, h0, a1, b1, rfl, h1, a2, b2, rfl, h2, a3, b3, rfl, h3, a4, b4, rfl, h4, a5, b5, rfl, h5, a6, b6, rfl, h6, rfl⟩ := h
 obtain ⟨x0, rfl, p0⟩ := Cs h0
 obtain ⟨x1, rfl, p1⟩ := Bq h1
 obtain ⟨x2, rfl, p2⟩ := Cs h2
 obtain ⟨x3, rfl, p3⟩ := Bq h3
 obtain ⟨x4, rfl, p4⟩ := Bq h4
 obtain ⟨x5, rfl, p5⟩ := Bq h5
 obtain ⟨x6, rfl, l6, p6⟩ := EE (fun _ h => Cs h) h6
 exact ⟨⟨x0, x1, x2, x3, x4, x5, x6⟩, rfl, ⟨p0, p1, p2, p3, p4, p5, ⟨by dsimp only; omega, p6⟩⟩⟩
def AcV : Sh := .st [.s, .s]
theorem Aef (vs : List V) (h : AcV.fits vs) : ∃ z : Link, vs = z.enc /\ z.ok := by
 obtain ⟨a0, b0, rfl, h0, a1, b1, rfl, h1, rfl⟩ := h
 obtain ⟨x0, rfl, p0⟩ := Cs h0
 obtain ⟨x1, rfl, p1⟩ := Cs h1
 exact ⟨⟨x0, x1⟩, rfl, ⟨p0, p1⟩⟩
def Ac3 : Sh := .st [.i .i64, .sl AcV 32, .i .i64]
theorem Aen (vs : List V) (h : Ac3.fits vs) : ∃ z : Routing, vs = z.enc /\ z.ok := by
 obtain ⟨a0, b0, rfl, h0, a1, b1, rfl, h1, a2, b2, rfl, h2, rfl⟩ := h
 obtain ⟨x0, rfl, p0⟩ := Bq h0
 obtain ⟨x1, rfl, l1, p1⟩ := EE Aef h1
 obtain ⟨x2, rfl, p2⟩ := Bq h2
 exact ⟨⟨x0, x1, x2⟩, rfl, ⟨p0, ⟨by dsimp only; omega, p1⟩, p2⟩⟩
def AcU : Sh := .st [.s, .s, .s, .s, .s, .b, .i .i64, .i .i64, .i .i64]
theorem Aed (vs : List V) (h : AcU.fits vs) : ∃ z : Fare, vs = z.enc /\ z.ok := by
 obtain ⟨a0, b0, rfl, h0, a1, b1, rfl, h1, a2, b2, rfl, h2, a3, b3, rfl, h3, a4, b4, rfl, h4, a5, b5, rfl, h5, a6, b6, rfl, h6, a7, b7, rfl, h7, a8, b8, rfl, h8, rfl⟩ := h
 obtain ⟨x0, rfl, p0⟩ := Cs h0
 obtain ⟨x1, rfl, p1⟩ := Cs h1
 obtain ⟨x2, rfl, p2⟩ := Cs h2
 obtain ⟨x3, rfl, p3⟩ := Cs h3
 obtain ⟨x4, rfl, p4⟩ := Cs h4
 obtain ⟨x5, rfl⟩ := Agz h5
 obtain ⟨x6, rfl, p6⟩ := Bq h6
 obtain ⟨x7, rfl, p7⟩ := Bq h7
 obtain ⟨x8, rfl, p8⟩ := Bq h8
 exact ⟨⟨x0, x1, x2, x3, x4, x5, x6, x7, x8⟩, rfl, ⟨p0, p1, p2, p3, p4, trivial, p6, p7, p8⟩⟩
def Nr (vs : List V) : Prop := ∃ c : Cond, vs = c.enc /\ c.ok
def ovC (t : TypeId) : Option Sh := if t = 132 then some (.x Nr 8) else none
def AcS : Sh := .st [.i .i64, .sl (.x Nr 8) 96, .i .i64, .i .i64, AcZ, .sl .s 16]
theorem Afu (vs : List V) (h : AcS.fits vs) : Nr vs := by
 obtain ⟨a0, b0, rfl, h0, a1, b1, rfl, h1, a2, b2, rfl, h2, a3, b3, rfl, h3, a4, b4, rfl, h4, a5, b5, rfl, h5, rfl⟩ := h
 obtain ⟨x0, rfl, p0⟩ := Bq h0
 obtain ⟨x1, rfl, l1, p1⟩ := EE (e := .x Nr 8) (fun _ h => h) h1
 obtain ⟨x2, rfl, p2⟩ := Bq h2
 obtain ⟨x3, rfl, p3⟩ := Bq h3
 obtain ⟨x4, rfl, p4⟩ := Aej _ h4
 obtain ⟨x5, rfl, l5, p5⟩ := EE (fun _ h => Cs h) h5
 refine ⟨.mk x0 x1 x2 x3 x4 x5, by rw [Cond.enc_eq]; rfl, (Cond.ok_eq ..).2 ⟨p0, ⟨by omega, p1⟩, p2, p3, p4, ⟨by omega, p5⟩⟩⟩
theorem AgO : shB (shT Tryz.prog ovC 8) Tryz.prog 132 = some AcS := by kernel_rfl
theorem Qt {H : Type} {enc : TypeId × Value -> H} {w : World} {M : Nat -> Prop} (hM : ∀ b, b < w.heap.size -> M b) : ∀ (B f : Nat), f < B -> ∀ {t : TypeId} {cs : List Value} {x : DataW H × List MemPlace} {sh : Sh}, ovC t = some sh -> DataW.trod enc Tryz.prog w 0 (fun _ => true) true f t cs = some x -> (∀ n ∈ x.1.weights Tryz.prog t, n <= reachBytes) -> ∃ vs, sh.fits vs /\ EA M w cs vs /\ V.cntL vs <= Rows.uptoBulk x.1
 | 0, _, h, _, _, _, _, _, _, _ => absurd h (EK _)
 | B + 1, f, hf, t, cs, x, sh, hs, h, hwt => by
  unfold ovC at hs
  split at hs
  ·rename_i e
   subst e
   injection hs with hs
   subst hs
   obtain ⟨vs, h1, h2, h3⟩ := Ab0 hM (fun f' hf' t cs x sh h1 h2 h3 => TX hM (B := B) (Qt hM B) (by omega) h1 h2 h3) AgO h hwt
   exact ⟨vs, Afu vs h1, h2, h3⟩
  ·cases hs
def Rp (r : Rule) : Prop := inI r.number /\ r.whn.ok /\ inI r.mins /\ inI r.maxs /\ inI r.chg /\ inI r.rfd /\ ∀ x ∈ r.pcts, x.ok
def Ac4 : Sh := .st [.i .i64, .x Nr 8, .sl (.i .i64) 8, .i .i64, .i .i64, .i .i64, .i .i64, .sl AcY 24]
theorem Aeo (vs : List V) (h : Ac4.fits vs) : ∃ z : Rule, vs = z.enc /\ Rp z := by
 obtain ⟨a0, b0, rfl, h0, a1, b1, rfl, h1, a2, b2, rfl, h2, a3, b3, rfl, h3, a4, b4, rfl, h4, a5, b5, rfl, h5, a6, b6, rfl, h6, a7, b7, rfl, h7, rfl⟩ := h
 obtain ⟨x0, rfl, p0⟩ := Bq h0
 obtain ⟨x1, rfl, p1⟩ := h1
 obtain ⟨x2, rfl, l2, p2⟩ := EE (fun _ h => Bq h) h2
 obtain ⟨x3, rfl, p3⟩ := Bq h3
 obtain ⟨x4, rfl, p4⟩ := Bq h4
 obtain ⟨x5, rfl, p5⟩ := Bq h5
 obtain ⟨x6, rfl, p6⟩ := Bq h6
 obtain ⟨x7, rfl, l7, p7⟩ := EE Aei h7
 exact ⟨⟨x0, x1, x2, x3, x4, x5, x6, x7⟩, rfl, p0, p1, p3, p4, p5, p6, p7⟩
theorem Afo {a b : List V} : V.cntL (a ++ b) = V.cntL a + V.cntL b := V.cntL_app a b
theorem GS {α : Type} {k : Nat} {enc : α -> List V} (h : ∀ a, k <= V.cntL (enc a)) (l : List α) : k * l.length <= V.cntR (l.map enc) := by
 have := XA (k := k) (l := l.map enc) fun r hr => by obtain ⟨a, _, rfl⟩ := An.1 hr; exact h a
 rwa [Ac] at this
theorem TL {α : Type} {enc : α -> List V} {l : List α} {a : α} (h : a ∈ l) : V.cntL (enc a) <= V.cntR (l.map enc) := XB (An.2 ⟨a, h, rfl⟩)
theorem Cond.cnt (c : Cond) : 8 <= V.cntL c.enc := by
 obtain ⟨k, l, a, b, ⟨x, y, z⟩, t⟩ := c
 rw [Cond.enc_eq]
 simp only [V.cntL, V.cnt]
 omega
theorem Rule.cnt (r : Rule) : r.cmb.length + 2 * r.pcts.length <= V.cntL r.enc /\ 8 <= V.cntL r.enc := by
 have h1 : 1 * r.cmb.length <= V.cntR (Aq r.cmb) := GS (k := 1) (enc := fun n => [V.int .i64 n]) (fun a => by simp [V.cntL, V.cnt]) r.cmb
 have h2 := GS (k := 2) (enc := Pct.enc) (fun a => by simp [Pct.enc, V.cntL, V.cnt]) r.pcts
 have h3 := Cond.cnt r.whn
 unfold Rule.enc
 simp only [V.cntL, V.cnt, Afo]
 omega
theorem Rule.okB {r : Rule} (h : Rp r) (hc : V.cntL r.enc <= 1048576) : RuleOk r := by
 obtain ⟨a, b, c, d, e, f, g⟩ := h
 have := (Rule.cnt r).1
 exact ⟨a, b, by omega, c, d, e, f, by omega, g⟩
def Ac7 : Sh := .st [.sl AcU 112, .sl Ac4 184, .sl Ac3 40, .sl Ac8 88]
def Vw (t : Tariff) : Prop := (∀ z ∈ t.fares, z.ok) /\ (∀ z ∈ t.rules, Rp z) /\ (∀ z ∈ t.routings, z.ok) /\ ∀ z ∈ t.taxes, z.ok
theorem Aer (vs : List V) (h : Ac7.fits vs) : ∃ z : Tariff, vs = z.enc /\ Vw z := by
 obtain ⟨a0, b0, rfl, h0, a1, b1, rfl, h1, a2, b2, rfl, h2, a3, b3, rfl, h3, rfl⟩ := h
 obtain ⟨x0, rfl, l0, p0⟩ := EE Aed h0
 obtain ⟨x1, rfl, l1, p1⟩ := EE Aeo h1
 obtain ⟨x2, rfl, l2, p2⟩ := EE Aen h2
 obtain ⟨x3, rfl, l3, p3⟩ := EE Aes h3
 exact ⟨⟨x0, x1, x2, x3⟩, rfl, p0, p1, p2, p3⟩
def AcW : Sh := .st [Ac1, Ac7, .sl Ada 96, Ac2, Ac0, .i .i64, .s, .i .i64]
def Nf (x : Paper) : Prop := x.p.ok /\ Vw x.t /\ (∀ z ∈ x.l, z.ok) /\ x.q.ok /\ x.x.ok /\ inI x.number /\ x.locator.length <= 140737488355328 /\ inI x.day
theorem Aeg (vs : List V) (h : AcW.fits vs) : ∃ z : Paper, vs = z.enc /\ Nf z := by
 obtain ⟨a0, b0, rfl, h0, a1, b1, rfl, h1, a2, b2, rfl, h2, a3, b3, rfl, h3, a4, b4, rfl, h4, a5, b5, rfl, h5, a6, b6, rfl, h6, a7, b7, rfl, h7, rfl⟩ := h
 obtain ⟨x0, rfl, p0⟩ := Ael _ h0
 obtain ⟨x1, rfl, p1⟩ := Aer _ h1
 obtain ⟨x2, rfl, l2, p2⟩ := EE Aev h2
 obtain ⟨x3, rfl, p3⟩ := Aem _ h3
 obtain ⟨x4, rfl, p4⟩ := Aek _ h4
 obtain ⟨x5, rfl, p5⟩ := Bq h5
 obtain ⟨x6, rfl, p6⟩ := Cs h6
 obtain ⟨x7, rfl, p7⟩ := Bq h7
 exact ⟨⟨x0, x1, x2, x3, x4, x5, x6, x7⟩, rfl, p0, p1, p2, p3, p4, p5, p6, p7⟩
theorem Paper.cnt (x : Paper) : V.cntR (x.p.airports.map Airport.enc) + V.cntR (x.p.distances.map Distance.enc) + V.cntR (x.t.fares.map Fare.enc) + V.cntR (x.t.rules.map Rule.enc) + V.cntR (x.t.routings.map Routing.enc) + V.cntR (x.t.taxes.map Tax.enc) + V.cntR (x.l.map Want.enc) + V.cntR (x.q.parts.map Part.enc) + V.cntR (x.q.taxes.map Charge.enc) <= V.cntL x.enc := by
 unfold Paper.enc
 simp only [V.cntL, V.cnt]
 omega
theorem Nf.ok {x : Paper} (h : Nf x) (hc : V.cntL x.enc <= 1048576) : PpOk x := by
 obtain ⟨p0, ⟨t1, t2, t3, t4⟩, p2, p3, p4, p5, p6, p7⟩ := h
 have hx := Paper.cnt x
 have c1 := GS (k := 9) (enc := Fare.enc) (fun a => by simp [Fare.enc, V.cntL, V.cnt]) x.t.fares
 have c2 := GS (k := 8) (enc := Rule.enc) (fun a => (Rule.cnt a).2) x.t.rules
 have c3 := GS (k := 3) (enc := Routing.enc) (fun a => by simp [Routing.enc, V.cntL, V.cnt]; omega) x.t.routings
 have c4 := GS (k := 6) (enc := Tax.enc) (fun a => by simp [Tax.enc, V.cntL, V.cnt]; omega) x.t.taxes
 have c5 := GS (k := 8) (enc := Want.enc) (fun a => by simp [Want.enc, V.cntL, V.cnt]) x.l
 have c6 := GS (k := 4) (enc := Part.enc) (fun a => by simp [Part.enc, V.cntL, V.cnt]) x.q.parts
 have c7 := GS (k := 2) (enc := Charge.enc) (fun a => by simp [Charge.enc, V.cntL, V.cnt]) x.q.taxes
 refine ⟨p0, ⟨by omega, by omega, by omega, by omega, t1, fun z hz => Rule.okB (t2 z hz) (by have := TL (enc := Rule.enc) hz; omega), fun z hz => ⟨t3 z hz, ?_⟩, t4⟩, by omega, p2, by omega, p3.1.2, by omega, p5, p7⟩
 have h1 := TL (enc := Routing.enc) hz
 have h2 := GS (k := 2) (enc := Link.enc) (fun a => by simp [Link.enc, V.cntL, V.cnt]) z.links
 have h3 : V.cntR (z.links.map Link.enc) <= V.cntL z.enc := by unfold Routing.enc; simp only [V.cntL, V.cnt]; omega
 omega
theorem AbW {n : Int} (h : Ip n = true) : -2000 <= n /\ n <= 2000 := by
 unfold Ip at h
 simp only [By, decide_eq_true_eq] at h
 omega
theorem Ad4 {l : List Shift} : ∀ (f i : Nat), GD l f i = 0 -> ∀ j, i <= j -> j < i + f -> Ip (l.getD j Shift.zero).offset = true
 | 0, i, _, j, h1, h2 => absurd h2 (by omega)
 | f + 1, i, h, j, h1, h2 => by
  rw [GD] at h
  split at h
  ·rename_i he
   rcases Og i j with hj | hj
   ·exact Ad4 f (i + 1) h j (by omega) (by omega)
   ·obtain rfl : i = j := by omega
    unfold Jo at he
    split at he
    ·cases he
    ·split at he
     ·assumption
     ·cases he
  ·rename_i he; exact absurd h he
theorem AoC {z : Zone} (h : Er z = 0) : Gc z := by
 unfold Er at h
 split at h
 ·cases h
 rename_i hl
 split at h
 ·rename_i ho
  refine ⟨by omega, AbW ho, fun s hs => ?_⟩
  obtain ⟨j, hj, rfl⟩ := Gv.1 hs
  have := Ad4 _ 0 h j (by omega) (by omega)
  rw [Cu _ _ _ hj] at this
  exact AbW this
 ·cases h
theorem WX {ps : List Airport} : ∀ i, i <= ps.length -> II ps i = [] -> ∀ j (hj : j < ps.length), j < i -> Er ps[j].zone = 0
 | 0, _, _, j, _, h => absurd h (EK _)
 | i + 1, hi, h, j, hj, hji => by
  rw [II, GP] at h
  rcases Og j i with h1 | h1
  ·exact WX i (by omega) h.1 j hj h1
  ·obtain rfl : j = i := by omega
   have h2 := h.2
   unfold Gg at h2
   rw [Qf, Cu _ _ _ hj] at h2
   unfold JB at h2
   have h3 := (GP.1 h2).2
   unfold iIf at h3
   split at h3
   ·cases h3
   ·rename_i hz; simpa using hz
theorem Agg {b : Bool} {e : Int} {p : List UInt8} (h : fIf b e p = []) : b = false := by
 unfold fIf at h
 cases b with
 | true => simp at h
 | false => rfl
theorem AdG {l : List Tax} : ∀ i, i <= l.length -> GY l i = [] -> ∀ j (hj : j < l.length), j < i -> 0 <= l[j].amount /\ l[j].amount <= 1099511627776
 | 0, _, _, j, _, h => absurd h (EK _)
 | i + 1, hi, h, j, hj, hji => by
  rw [GY, GP] at h
  rcases Og j i with h1 | h1
  ·exact AdG i (by omega) h.1 j hj h1
  ·obtain rfl : j = i := by omega
   have h2 := h.2
   unfold Nc at h2
   rw [Cu _ _ _ hj] at h2
   have h3 := Agg (GP.1 h2).2
   unfold Np MR at h3
   simp only [Ce, decide_eq_false_iff_not] at h3
   have h4 := h3.1.1.1.1
   split at h4 <;> omega
structure PpS (y : Paper × List UInt8 × Int) : Prop where
 a : PpOk y.1
 q : y.1.q.ok
 x : y.1.x.ok
 l : y.1.locator.length <= 140737488355328
 r : y.1.q.pairs.length <= 1000000
 f : ∀ z ∈ y.1.t.taxes, z.free.length <= 1048576
 s : y.2.1.length <= 140737488355328
 n : inI y.2.2
theorem PpS.v {y : Paper × List UInt8 × Int} (h : PpS y) (hf : FitR y.1) (h4 : y.1.l.length <= 4) (ht : ∀ w ∈ y.1.l, Hb w.seg) : VdP (y.1.p, y.1.t, y.1.l, y.2.1, y.2.2, y.1.q) := by
 have f1 := hf.a; have f2 := hf.d; have f3 := h.a.q; have f4 := h.r; have f5 := h.a.qx
 refine ⟨⟨⟨⟨by dsimp only; omega, by dsimp only; omega⟩, by dsimp only; omega⟩, fun a ha => ?_⟩, h.a.t, hf.ct, fun z hz => ⟨?_, h.f z hz⟩, ⟨by dsimp only; omega, ht⟩, h.s, h.n, h.a.lo, ⟨f3, f4, f5⟩⟩
 ·obtain ⟨j, hj, rfl⟩ := Gv.1 ha
  have := hf.cp
  unfold JC at this
  exact AoC (WX _ (Az _) (GP.1 this).1 j hj hj)
 ·obtain ⟨j, hj, rfl⟩ := Gv.1 hz
  exact AdG _ (Az _) hf.cx j hj hj
theorem PpOk.tk2 {x : Paper} (h : PpOk x) (hf : FitR x) : TkIn x.p x.t x.l x.q x.number x.day := by
 have h1 := hf.a; have h2 := hf.d
 exact ⟨⟨⟨⟨⟨by omega, by omega⟩, by omega⟩, by omega⟩, by have := hf.l; omega, h.q, h.qo⟩, h.t, h.n, h.d, h.qx⟩
def aIS := ar (vg Paper.enc) (ar V.str (ao vi))
theorem VO : Ij aIS := ijr (ijg Paper.inj) (ijr ijs (ijo iji))
def fIS (y : Paper × List UInt8 × Int) : Prop × V := (PpS y, .bool true)
theorem DD (n : Int) : gOf aI1 (fun x => (True, vBB (fNr x))) [.int .i64 n] = (True, .bool (fNr n)) := Al (F := fun x => (True, vBB (fNr x))) Jv n
theorem DJ (W : List Want) : gOf aWs (fun x => (x.length <= 1000000, vBB (fTi x))) [.list (W.map Want.enc) false] = (W.length <= 1000000, .bool (fTi W)) := Al (F := fun x => (x.length <= 1000000, vBB (fTi x))) OR W
theorem DM (ps : List Airport) (ds : List Distance) (fs : List Fare) (rs : List Rule) (gs : List Routing) (xs : List Tax) (W : List Want) (s : List UInt8) (n : Int) (pa : List Part) (pr : List Two) (tx : List Charge) (fa to : Int) : gOf KE (fun x => (VdP x, vII (Lj x))) [.agg [.list (ps.map Airport.enc) false, .list (ds.map Distance.enc) false], .agg [.list (fs.map Fare.enc) false, .list (rs.map Rule.enc) false, .list (gs.map Routing.enc) false, .list (xs.map Tax.enc) false], .list (W.map Want.enc) false, .str s, .int .i64 n, .agg [.list (pa.map Part.enc) false, .list (pr.map Two.enc) false, .list (tx.map Charge.enc) false, .int .i64 fa, .int .i64 to]] = (VdP (⟨ps, ds⟩, ⟨fs, rs, gs, xs⟩, W, s, n, ⟨pa, pr, tx, fa, to⟩), .int .i64 (Lj (⟨ps, ds⟩, ⟨fs, rs, gs, xs⟩, W, s, n, ⟨pa, pr, tx, fa, to⟩))) := Al (F := fun x => (VdP x, vII (Lj x))) WL (⟨ps, ds⟩, ⟨fs, rs, gs, xs⟩, W, s, n, ⟨pa, pr, tx, fa, to⟩)
theorem Dx (n : Int) (loc la fi ty : List UInt8) (cs : List Coupon) (fa : Int) (tx : List Charge) (to d : Int) : gOf aTk KU [.agg [.int .i64 n, .str loc, .str la, .str fi, .str ty, .list (cs.map Coupon.enc) false, .int .i64 fa, .list (tx.map Charge.enc) false, .int .i64 to, .int .i64 d]] = (HP ⟨n, loc, ⟨la, fi, ty⟩, cs, fa, tx, to, d⟩, .list (Ax (HU ⟨n, loc, ⟨la, fi, ty⟩, cs, fa, tx, to, d⟩)) false) := Al (F := KU) RI ⟨n, loc, ⟨la, fi, ty⟩, cs, fa, tx, to, d⟩
theorem AfC {W : List Want} {fa : Int} {cs : List Coupon} (h : CpK W fa cs) {i : Nat} (hi : i < cs.length) : cs[i].want = W[i]'(by rw [<- h.n]; exact hi) := by
 have e := h.w
 subst e
 rw [GQ]
noncomputable def tIS : Tab
 | 12 => (gOf Kx fun x => (PpOk x, vBB (Lc x)))
 | 13 => (gOf KD PJ)
 | 16 => (gOf aI1 fun x => (True, vBB (fNr x)))
 | 17 => (gOf aWs fun x => (x.length <= 1000000, vBB (fTi x)))
 | 18 => (gOf KE fun x => (VdP x, vII (Lj x)))
 | 19 => IV
 | 20 => (gOf Bm IT)
 | 21 => (gOf Bh fLc)
 | 22 => (gOf Bh Gj)
 | 23 => BC
 | 8 => (gOf LZ Lg)
 | 24 => (gOf aTk KU)
 | _ => gNo
theorem AlV : ∀ f, PU f (tIS f) := fun f => by
 unfold tIS
 split
 ·exact AiC
 ·exact Agc
 ·exact Ah7
 ·exact AmI
 ·exact AnS
 ·exact Ace
 ·exact AjG
 ·exact Ajw
 ·exact AjA
 ·exact MT
 ·exact AmJ
 ·exact Xv
 ·exact Ah.no
set_option maxRecDepth 20000 in
theorem Ak2 : PU 5 (gOf aIS fIS) := by
 have hG := AlV
 refine fi5.a VO (by simp [aIS]) ?_
 rintro ⟨⟨⟨ps, ds⟩, ⟨fs, rs, gs, xs⟩, W, ⟨pa, pr, tx, fa, to⟩, ⟨la, fi, ty⟩, n, loc, d⟩, s, sl⟩ hv C hN Q hQ
 have Y := fi5.D EF0 hG hN mixed
 have Z := fi5.R EF0 hG hN
 obtain ⟨hP, hq, hx, hloc, hpr, hfr, hs, hsl⟩ : PpS (⟨⟨ps, ds⟩, ⟨fs, rs, gs, xs⟩, W, ⟨pa, pr, tx, fa, to⟩, ⟨la, fi, ty⟩, n, loc, d⟩, s, sl) := hv
 have hS : PpS (⟨⟨ps, ds⟩, ⟨fs, rs, gs, xs⟩, W, ⟨pa, pr, tx, fa, to⟩, ⟨la, fi, ty⟩, n, loc, d⟩, s, sl) := ⟨hP, hq, hx, hloc, hpr, hfr, hs, hsl⟩
 have hWl : W.length <= 1000000 := hP.l
 have hnn : inI n := hP.n
 obtain ⟨hx1, hx2, hx3⟩ : la.length <= 140737488355328 /\ fi.length <= 140737488355328 /\ ty.length <= 140737488355328 := hx
 dsimp only at hloc
 have hR := AiB _ hP
 have hRn := Ah6 sl trivial
 have hRt := AmH W hWl
 obtain ⟨b, hb⟩ : ∃ b, b = Lc ⟨⟨ps, ds⟩, ⟨fs, rs, gs, xs⟩, W, ⟨pa, pr, tx, fa, to⟩, ⟨la, fi, ty⟩, n, loc, d⟩ := ⟨_, rfl⟩
 rw [<- hb] at hR
 obtain ⟨bn, hbn⟩ : ∃ b, b = fNr sl := ⟨_, rfl⟩
 rw [<- hbn] at hRn
 obtain ⟨bt, hbt⟩ : ∃ b, b = fTi W := ⟨_, rfl⟩
 rw [<- hbt] at hRt
 refine Aa (Z 0 rfl ?_)
 simp only [go_sem, simprocAttr, aIS, Paper.enc, tIS, DE, DD, DJ, DM, DA, Dz, Dx, BI, AN, Bn, Bo, AG, tkV, Bb]
 refine Aa ?_
 by_cases hg : (!b || decide (4 < (W.length : Int)) || !bn || !bt) = true
 ·refine Aa (Z 1 rfl ?_)
  simp only [go_sem, simprocAttr, tIS, DE, DD, DJ, DM, DA, Dz, Dx, BI, AN, Bn, Bo, AG, tkV, Bb, hP, <- hb, <- hbn, <- hbt, hWl, hg, Ac, Bool.true_or]
  and_intros <;> try exact sdA
  refine IJ rfl ?_
  refine Aa (Z 2 rfl ?_)
  simp only [go_sem, simprocAttr, tIS, DE, DD, DJ, DM, DA, Dz, Dx, BI, AN, Bn, Bo, AG, tkV, Bb]
  and_intros <;> try exact sdA
  refine Ad (hQ _ _ (.inl rfl) ?_ ?_ ?_) <;> simp only [go_sem, simprocAttr, fIS]
 simp only [Bool.not_eq_true, Ce, Ii, decide_eq_false_iff_not] at hg
 obtain ⟨⟨⟨hg1, hg2⟩, hg3⟩, hg4⟩ := hg
 subst hg1 hg3 hg4
 have hF := hR rfl
 have hVp : VdP (⟨ps, ds⟩, ⟨fs, rs, gs, xs⟩, W, s, sl, ⟨pa, pr, tx, fa, to⟩) := hS.v hF (show W.length <= 4 by omega) (hRt rfl)
 have hVr := AnR _ hVp
 have hg2d : decide (4 < (W.length : Int)) = false := decide_eq_false hg2
 obtain ⟨v, hvv⟩ : ∃ v, v = Lj (⟨ps, ds⟩, ⟨fs, rs, gs, xs⟩, W, s, sl, ⟨pa, pr, tx, fa, to⟩) := ⟨_, rfl⟩
 rw [<- hvv] at hVr
 refine Aa (Z 1 rfl ?_)
 simp only [go_sem, simprocAttr, tIS, DE, DD, DJ, DM, DA, Dz, Dx, BI, AN, Bn, Bo, AG, tkV, Bb, hP, <- hb, <- hbn, <- hbt, <- hvv, hWl, hVp, Ac, hg2d]
 and_intros <;> try exact sdA
 refine Ae rfl (fun hb1 => ?_) fun hb1 => ?_
 ·refine Aa (Z 2 rfl ?_)
  simp only [go_sem, simprocAttr, tIS, DE, DD, DJ, DM, DA, Dz, Dx, BI, AN, Bn, Bo, AG, tkV, Bb]
  and_intros <;> try exact sdA
  refine Ad (hQ _ _ (.inl rfl) ?_ ?_ ?_) <;> simp only [go_sem, simprocAttr, fIS]
 have hVd : VdR (⟨ps, ds⟩, ⟨fs, rs, gs, xs⟩, W, s, sl, ⟨pa, pr, tx, fa, to⟩) := hVr (by simpa using hb1)
 refine Af ?_
 refine Aa (Aa (Z 3 rfl ?_))
 simp only [go_sem, simprocAttr, tIS, DE, DD, DJ, DM, DA, Dz, Dx, BI, AN, Bn, Bo, AG, tkV, Bb]
 refine Ao ?_
 refine AX (α := Nat) (fun i => (i <= W.length) /\ (∀ w ∈ W.take i, EC w.cls = true)) (fun i => ⟨mkE [(3, V.ptr 3 0), (7, .int .i64 i)], mkH [(3, Ob.box 41 [V.list (List.map Airport.enc ps) false, V.list (List.map Distance.enc ds) false, V.list (List.map Fare.enc fs) false, V.list (List.map Rule.enc rs) false, V.list (List.map Routing.enc gs) false, V.list (List.map Tax.enc xs) false, V.list (List.map Want.enc W) false, V.list (List.map Part.enc pa) false, V.list (List.map Two.enc pr) false, V.list (List.map Charge.enc tx) false, V.int IntKind.i64 fa, V.int IntKind.i64 to, V.str la, V.str fi, V.str ty, V.int IntKind.i64 n, V.str loc, V.int IntKind.i64 d])]⟩) (fun i => W.length - i) 0 ⟨Ar _, fun p hp => by simp at hp⟩ ?_ ?_
 ·exact leM
 rintro i ⟨hi, hk⟩ KL0 hKL0
 try dsimp only at *
 refine Aa (Aa (Z 4 rfl ?_))
 simp only [go_sem, simprocAttr, Ac, tIS, DE, DD, DJ, DM, DA, Dz, Dx, BI, AN, Bn, Bo, AG, tkV, Bb]
 refine Ae rfl (fun hc4 => ?_) fun hc4 => ?_
 ·simp only [hcL] at hc4
  refine Af ?_
  refine Aa (Ao ?_)
  obtain ⟨⟨⟨sa, sb, sc, sd, se, sf, sg⟩, cl⟩, hw⟩ : ∃ w, w = W[i] := ⟨_, rfl⟩
  have hcl : cl.length <= 140737488355328 := (show Want.ok ⟨⟨sa, sb, sc, sd, se, sf, sg⟩, cl⟩ from hw ▸ hP.lo _ (AF hc4)).2
  refine Aa (Z 6 rfl ?_)
  simp only [go_sem, simprocAttr, Ap _ _ _ _ hc4, hc4, Ac, <- hw, Want.enc, hcl, tIS, DE, DD, DJ, DM, DA, Dz, Dx, BI, AN, Bn, Bo, AG, tkV, Bb]
  and_intros <;> try exact sdA
  refine Ae rfl (fun hb6 => ?_) fun hb6 => ?_
  ·refine Aa (Z 7 rfl ?_)
   simp only [go_sem, simprocAttr, tIS, DE, DD, DJ, DM, DA, Dz, Dx, BI, AN, Bn, Bo, AG, tkV, Bb]
   and_intros <;> try exact sdA
   refine Ad (hQ _ _ (.inl rfl) ?_ ?_ ?_) <;> simp only [go_sem, simprocAttr, fIS]
  have hb6c : EC cl = true := by simpa using hb6
  refine Af ?_
  refine Z 5 rfl ?_
  simp only [go_sem, simprocAttr, inI, tIS, DE, DD, DJ, DM, DA, Dz, Dx, BI, AN, Bn, Bo, AG, tkV, Bb]
  and_intros <;> try exact sdA
  refine hKL0 (i + 1) _ ?_ ?_ ?_
  ·(try dsimp only); exact ⟨hc4, LM hk hc4 (by rw [<- hw]; exact hb6c)⟩
  ·(try dsimp only); omega
  exact leM
 simp only [hcL] at hc4
 rw [Bu hc4] at hk
 refine AS ?_
 simp only [go_sem, simprocAttr]
 refine Aa (Aa (Z 8 rfl ?_))
 simp only [go_sem, simprocAttr, hnn, hloc, hx1, hx2, hx3, tIS, DE, DD, DJ, DM, DA, Dz, Dx, BI, AN, Bn, Bo, AG, tkV, Bb]
 and_intros <;> try exact sdA
 refine Ae rfl (fun hb8 => ?_) fun hb8 => ?_
 ·refine Aa (Z 9 rfl ?_)
  simp only [go_sem, simprocAttr, tIS, DE, DD, DJ, DM, DA, Dz, Dx, BI, AN, Bn, Bo, AG, tkV, Bb]
  and_intros <;> try exact sdA
  refine Ad (hQ _ _ (.inl rfl) ?_ ?_ ?_) <;> simp only [go_sem, simprocAttr, fIS]
 simp only [Ce, Ii, decide_eq_false_iff_not] at hb8
 obtain ⟨⟨⟨⟨⟨⟨hr1, hr2⟩, hr3⟩, hr4⟩, hr5⟩, hd1⟩, hd2⟩ := hb8
 have hdy : Fi d = true := by unfold Fi; rw [decide_eq_true (by omega), decide_eq_true (by omega)]; rfl
 have hper : LC ⟨la, fi, ty⟩ = false := by unfold LC; dsimp only; rw [hr3, hr4, hr5]; rfl
 have hTk := hP.tk2 hF
 have hn6 : 1 <= W.length /\ W.length <= 6 := hVd.n
 obtain ⟨cs, hy, hC⟩ := Ak3 (p := ⟨ps, ds⟩) (F := fs) (W := W) (q := ⟨pa, pr, tx, fa, to⟩) (x := ⟨la, fi, ty⟩) (n := n) (loc := loc) (d := d) (by have := hF.d; dsimp only at this ⊢; omega) hn6 hVd.f hVd.c hVd.a hVd.q.f hr1 hdy (fun f hf => (hP.t.fo f hf).2.2.2.1)
 dsimp only at hy hC
 have hcs := hC.n
 have hck : HU ⟨n, loc, ⟨la, fi, ty⟩, cs, fa, tx, to, d⟩ = [] := Ak1 hC hn6 hk hr1 hr2 hper hdy hVd.q.f0 hVd.q.x hVd.q.t
 have hto : HP ⟨n, loc, ⟨la, fi, ty⟩, cs, fa, tx, to, d⟩ := ⟨⟨hnn, hloc, ⟨hx1, hx2, hx3⟩, ⟨by dsimp only; omega, fun c hc => ⟨hP.lo _ (by have := hC.w; subst this; exact An.2 ⟨c, hc, rfl⟩), hC.b c hc, by rw [hC.s c hc]; exact ⟨by omega, by omega⟩, by have := hC.v c hc; unfold inI; omega⟩⟩, hq.2.2.2.1, hq.2.2.1, hq.2.2.2.2, hP.d⟩, by dsimp only; omega, by have := hF.qx; dsimp only at this ⊢; omega⟩
 refine Af ?_
 refine Aa (Z 10 rfl ?_)
 simp only [go_sem, simprocAttr, hTk, hy, tIS, DE, DD, DJ, DM, DA, Dz, Dx, BI, AN, Bn, Bo, AG, tkV, Bb]
 and_intros <;> try exact sdA
 refine AW.le (s' := ⟨mkE [(3, .ptr 3 0), (8, .ptr 8 0), (9, .int .i64 0)], mkH ([(3, .box 41 [.list (ps.map Airport.enc) false, .list (ds.map Distance.enc) false, .list (fs.map Fare.enc) false, .list (rs.map Rule.enc) false, .list (gs.map Routing.enc) false, .list (xs.map Tax.enc) false, .list (W.map Want.enc) false, .list (pa.map Part.enc) false, .list (pr.map Two.enc) false, .list (tx.map Charge.enc) false, .int .i64 fa, .int .i64 to, .str la, .str fi, .str ty, .int .i64 n, .str loc, .int .i64 d]), (8, .box 47 (Bb ⟨n, loc, ⟨la, fi, ty⟩, cs, fa, tx, to, d⟩))])⟩) (Le.mk _ _ (by (simp only [go_sem, simprocAttr, Bb]) <;> and_intros <;> try exact leB) (by (simp only [go_sem, simprocAttr, Bb]) <;> and_intros <;> try exact leB) rfl) ?_
 refine Aa (Aa (Z 11 rfl ?_))
 simp only [go_sem, simprocAttr, hto, hck, Fo, Ac, hcs, tIS, DE, DD, DJ, DM, DA, Dz, Dx, BI, AN, Bn, Bo, AG, tkV, Bb]
 and_intros <;> try exact sdA
 refine Da rfl ?_
 refine Af ?_
 refine Aa (Z 13 rfl ?_)
 simp only [go_sem, simprocAttr, tIS, DE, DD, DJ, DM, DA, Dz, Dx, BI, AN, Bn, Bo, AG, tkV, Bb]
 refine Aa (Aa (Z 14 rfl ?_))
 simp only [go_sem, simprocAttr, tIS, DE, DD, DJ, DM, DA, Dz, Dx, BI, AN, Bn, Bo, AG, tkV, Bb]
 refine Ao ?_
 refine AX (α := Nat × Int) (fun γ => (γ.1 <= cs.length) /\ (γ.2 = ((cs.take γ.1).map Coupon.value).sum) /\ (0 <= γ.2 /\ γ.2 <= 1099511627776 * (γ.1 : Int))) (fun γ => ⟨mkE [(3, V.ptr 3 0), (8, V.ptr 8 0), (10, .int .i64 γ.2), (11, .int .i64 γ.1)], mkH [(3, Ob.box 41 [V.list (List.map Airport.enc ps) false, V.list (List.map Distance.enc ds) false, V.list (List.map Fare.enc fs) false, V.list (List.map Rule.enc rs) false, V.list (List.map Routing.enc gs) false, V.list (List.map Tax.enc xs) false, V.list (List.map Want.enc W) false, V.list (List.map Part.enc pa) false, V.list (List.map Two.enc pr) false, V.list (List.map Charge.enc tx) false, V.int IntKind.i64 fa, V.int IntKind.i64 to, V.str la, V.str fi, V.str ty, V.int IntKind.i64 n, V.str loc, V.int IntKind.i64 d]), (8, Ob.box 47 [V.int IntKind.i64 n, V.str loc, V.str la, V.str fi, V.str ty, V.list (List.map Coupon.enc cs) false, V.int IntKind.i64 fa, V.list (List.map Charge.enc tx) false, V.int IntKind.i64 to, V.int IntKind.i64 d])]⟩) (fun γ => cs.length - γ.1) (0, 0) ⟨Ar _, rfl, by omega, by omega⟩ ?_ ?_
 ·exact leM
 rintro ⟨i, z⟩ ⟨hi, hz, hzb⟩ KL2 hKL2
 try dsimp only at *
 refine Aa (Aa (Z 15 rfl ?_))
 simp only [go_sem, simprocAttr, Ac, tIS, DE, DD, DJ, DM, DA, Dz, Dx, BI, AN, Bn, Bo, AG, tkV, Bb]
 refine Ae rfl (fun hc15 => ?_) fun hc15 => ?_
 ·simp only [hcL] at hc15
  refine Af ?_
  refine Aa (Ao ?_)
  obtain ⟨⟨⟨⟨sa, sb, sc, sd, se, sf, sg⟩, cl⟩, ba, st, vv⟩, hw⟩ : ∃ w, w = cs[i] := ⟨_, rfl⟩
  have hcW : i < W.length := by omega
  have hwW : W[i] = ⟨⟨sa, sb, sc, sd, se, sf, sg⟩, cl⟩ := by rw [<- AfC hC hc15, <- hw]
  obtain rfl : st = 1 := by have := hC.s _ (AF hc15); rw [<- hw] at this; exact this
  have hvb : 0 <= vv /\ vv <= 1099511627776 := by have := hC.v _ (AF hc15); rw [<- hw] at this; exact this
  refine Aa (Z 17 rfl ?_)
  simp only [go_sem, simprocAttr, inI, Ap _ _ _ _ hc15, hc15, Ac, <- hw, Coupon.enc, tIS, DE, DD, DJ, DM, DA, Dz, Dx, BI, AN, Bn, Bo, AG, tkV, Bb]
  and_intros <;> try exact sdA
  refine Aa (Y 18 rfl (by kernel_rfl) ?_)
  simp only [go_sem, simprocAttr, Ap _ _ _ _ hc15, hc15, Ac, <- hw, Coupon.enc, Ap _ _ _ _ hcW, hcW, hwW, Want.enc, tIS, DE, DD, DJ, DM, DA, Dz, Dx, BI, AN, Bn, Bo, AG, tkV, Bb]
  and_intros <;> try exact sdA
  refine Da rfl ?_
  refine Af ?_
  refine Z 16 rfl ?_
  simp only [go_sem, simprocAttr, inI, tIS, DE, DD, DJ, DM, DA, Dz, Dx, BI, AN, Bn, Bo, AG, tkV, Bb]
  and_intros <;> try exact sdA
  refine hKL2 (i + 1, z + vv) _ ?_ ?_ ?_
  ·(try dsimp only); exact ⟨hc15, by rw [CW hc15, DC, MG, <- hz, <- hw]; simp, by omega, by omega⟩
  ·(try dsimp only); omega
  exact leM
 simp only [hcL] at hc15
 rw [Bu hc15, hC.t] at hz
 refine AS ?_
 simp only [go_sem, simprocAttr]
 refine Aa (Z 20 rfl ?_)
 simp only [go_sem, simprocAttr, hz, tIS, DE, DD, DJ, DM, DA, Dz, Dx, BI, AN, Bn, Bo, AG, tkV, Bb]
 and_intros <;> try exact sdA
 refine Ad (hQ _ _ (.inl rfl) ?_ ?_ ?_) <;> simp only [go_sem, simprocAttr, fIS]
end Go.Proofs.YtjkclhbckfkeeaaGreatDoor
