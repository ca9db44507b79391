import Derived.Test.YtjkclhbckfkeeaaGreatDoorRu7
import Derived.Test.YtjkclhbckfkeeaaGreatDoorSk
import Derived.Test.YtjkclhbckfkeeaaGreatDoorT5
import Derived.Test.YtjkclhbckfkeeaaGreatDoorIs1
import Derived.Test.YtjkclhbckfkeeaaGreatDoorCob
set_option linter.unusedSimpArgs false
set_option linter.unusedVariables false
set_option linter.deprecated false
set_option maxHeartbeats 4000000
noncomputable section
namespace Go.Proofs.YtjkclhbckfkeeaaGreatDoor
open Go Go.RowKit
structure Rule where
 number : Int
 whn : Cond
 cmb : List Int
 mins : Int
 maxs : Int
 chg : Int
 rfd : Int
 pcts : List Pct
def Rule.enc (r : Rule) : List V := .int .i64 r.number :: (r.whn.enc ++ [.list (Ao r.cmb) false, .int .i64 r.mins, .int .i64 r.maxs, .int .i64 r.chg, .int .i64 r.rfd, .list (r.pcts.map Pct.enc) false])
theorem Cond.enc_len (c : Cond) : c.enc.length = 8 := by obtain ⟨k, l, a, b, ⟨x, y, z⟩, t⟩ := c; rw [Cond.enc_eq]; rfl
theorem Rule.inj (a b : Rule) (h : a.enc = b.enc) : a = b := by
 obtain ⟨a1, a2, a3, a4, a5, a6, a7, a8⟩ := a
 obtain ⟨b1, b2, b3, b4, b5, b6, b7, b8⟩ := b
 unfold Rule.enc at h
 dsimp only at h
 injection h with h1 h2
 obtain ⟨h2, h3⟩ := List.append_inj h2 (by rw [Cond.enc_len, Cond.enc_len])
 simp only [Bz, V.int.injEq, V.list.injEq, and_true, true_and] at h1 h3
 obtain ⟨h3, h4, h5, h6, h7, h8⟩ := h3
 rw [h1, Cond.inj _ _ h2, Kr h3, h4, h5, h6, h7, Cl Pct.inj h8]
structure RuleOk (r : Rule) : Prop where
 n : inI r.number
 w : r.whn.ok
 c : r.cmb.length <= 1048576
 mi : inI r.mins
 ma : inI r.maxs
 ch : inI r.chg
 rf : inI r.rfd
 p : Hj r.pcts
theorem Rule.rows (l : List Rule) : (∀ r ∈ l.map Rule.enc, r.length = 15) ↔ True := iff_true_intro fun r hr => by
 obtain ⟨x, _, rfl⟩ := Am.1 hr
 show (_ :: (x.whn.enc ++ _)).length = 15
 rw [Aw, An, Cond.enc_len]; rfl
theorem Rule.purs (l : List Rule) : (∀ r ∈ l.map Rule.enc, V.purs r = true) ↔ True := iff_true_intro fun r hr => by
 obtain ⟨⟨a1, ⟨k, l, a, b, ⟨x, y, z⟩, t⟩, a3, a4, a5, a6, a7, a8⟩, _, rfl⟩ := Am.1 hr
 unfold Rule.enc
 rw [Cond.enc_eq]; rfl
attribute [go_sem] Rule.rows Rule.purs
def Hm (r : Rule) : List V := [.agg r.enc]
theorem VT (a b : Rule) (h : Hm a = Hm b) : a = b := by
 simp only [Hm, Bz, V.agg.injEq, and_true] at h
 exact Rule.inj _ _ h
def QP (r : Rule) (g : List Fault) : Prop := g.length <= 2 * r.cmb.length + 3 * r.pcts.length + 6 /\ (g = [] -> ∀ x ∈ r.pcts, KU x) /\ FSm g
def Acc : List UInt8 := [119, 104, 101, 110]
def Aca : List UInt8 := [110, 117, 109, 98, 101, 114]
def Qp : List UInt8 := [115, 116, 97, 121]
def Ab9 : List UInt8 := [102, 101, 101, 115]
def Es : Tab
 | 126 => (gOf AP (FL ckV))
 | 127 => (gOf aIs fun l => (l.length <= 1048576, vF (Kb l)))
 | 128 => (gOf JI fun l => (Hj l, vF (Kh l)))
 | _ => gNo
theorem AlV : ∀ f, PU f (Es f) := fun f => by
 unfold Es
 split
 ·exact Ai1
 ·exact AeS
 ·exact Aim
 ·exact Aj.no
theorem Ud : ∃ F : Rule -> List Fault, (∀ r, RuleOk r -> QP r (F r)) /\ PU 70 (gOf Hm fun r => (RuleOk r, vF (F r))) := by
 have hG := AlV
 refine ZH.p (val := vF) (R := QP) VT (by simp [Hm]) ?_
 rintro ⟨n, ⟨k, l, a, b, ⟨x, y, z⟩, t⟩, cm, mi, ma, ch, rf, pc⟩ hv Q hQ
 have Z := ZH.T EF0 hG
 obtain ⟨o1, o2, o3, o4, o5, o6, o7, o8⟩ : RuleOk ⟨n, ⟨k, l, a, b, ⟨x, y, z⟩, t⟩, cm, mi, ma, ch, rf, pc⟩ := hv
 dsimp only at o1 o2 o3 o4 o5 o6 o7 o8
 obtain ⟨hcr, hcs⟩ := AeR cm o3
 obtain ⟨hpr, hpo, hps⟩ := Ail pc o8
 have hpl := o8.1
 generalize hcl : Kb cm = G1 at hcr hcs
 generalize hpg : Kh pc = G2 at hpr hpo hps
 obtain ⟨E, hE⟩ : ∃ E, E = ckE (.mk k l a b ⟨x, y, z⟩ t) := ⟨_, rfl⟩
 refine Aa (Z 0 rfl ?_)
 simp only [go_sem, simprocAttr, Hm, Rule.enc, Cond.enc_eq, Es, DF, ES, Fi]
 refine Aa (Z 1 rfl ?_)
 simp only [go_sem, simprocAttr, Es, DF, ES, Fi]
 refine TC.le (s' := ⟨mkE [(1, .ptr 1 0), (3, .own 999 0)], mkH ([(1, .box 135 [.int .i64 n, .int .i64 k, .list (l.map Cond.enc) false, .int .i64 a, .int .i64 b, .int .i64 x, .int .i64 y, .int .i64 z, .list (strs t) false, .list (Ao cm) false, .int .i64 mi, .int .i64 ma, .int .i64 ch, .int .i64 rf, .list (pc.map Pct.enc) false]), (999, .arr 126 2 (Az []))])⟩) (Le.mk _ _ (by (simp only [go_sem, simprocAttr]) <;> and_intros <;> try exact leB) (by (simp only [go_sem, simprocAttr]) <;> and_intros <;> try exact leB) rfl) ?_
 refine DT (α := (List Fault)) (fun g1 => (g1 = ([] : List Fault) ++ fIf (decide (n < 1) || decide (9999 < n)) 2 (Aca)) /\ (g1.length <= ([] : List Fault).length + 1)) (fun g1 => ⟨mkE [(1, V.ptr 1 0), (3, .own 999 g1.length)], mkH [(1, Ob.box 135 [V.int IntKind.i64 n, V.int IntKind.i64 k, V.list (List.map Cond.enc l) false, V.int IntKind.i64 a, V.int IntKind.i64 b, V.int IntKind.i64 x, V.int IntKind.i64 y, V.int IntKind.i64 z, V.list (strs t) false, V.list (Ao cm) false, V.int IntKind.i64 mi, V.int IntKind.i64 ma, V.int IntKind.i64 ch, V.int IntKind.i64 rf, V.list (List.map Pct.enc pc) false]), (999, .arr 126 2 (Az g1))]⟩) ?_ ?_
 ·intro KC2 hKC2
  refine Aa (Z 2 rfl ?_)
  simp only [go_sem, simprocAttr, Es, DF, ES, Fi]
  and_intros <;> try exact sdA
  refine Ad rfl (fun hb2 => ?_) fun hb2 => ?_
  ·refine Z 3 rfl ?_
   simp only [go_sem, simprocAttr, Es, DF, ES, Fi]
   and_intros <;> try exact sdA
   refine hKC2 (([] : List Fault) ++ [⟨2, Aca⟩]) _ ?_ ?_
   ·(try dsimp only); exact ⟨by rw [Du (show (decide (n < 1) || decide (9999 < n)) = true from hb2)], by simp⟩
   refine Le.mk _ _ ?_ ?_ rfl <;> simp only [go_sem, simprocAttr, An, Aw, Ax] <;> and_intros <;> try exact leA
  refine Af ?_
  refine hKC2 (([] : List Fault)) _ ?_ ?_
  ·(try dsimp only); exact ⟨by rw [Dt (show (decide (n < 1) || decide (9999 < n)) = false from hb2), Br], by omega⟩
  exact leM
 rintro g1 ⟨hg1, lg1⟩
 replace lg1 : g1.length <= 1 := lg1
 refine Aa (Z 4 rfl ?_)
 simp only [go_sem, simprocAttr, o2, ckV, <- hE, Es, DF, ES, Fi]
 and_intros <;> try exact sdA
 refine DT (α := (List Fault)) (fun g2 => (g2 = g1 ++ fIf (!decide (E = 0)) E (Acc)) /\ (g2.length <= g1.length + 1)) (fun g2 => ⟨mkE [(1, V.ptr 1 0), (3, .own 999 g2.length)], mkH [(1, Ob.box 135 [V.int IntKind.i64 n, V.int IntKind.i64 k, V.list (List.map Cond.enc l) false, V.int IntKind.i64 a, V.int IntKind.i64 b, V.int IntKind.i64 x, V.int IntKind.i64 y, V.int IntKind.i64 z, V.list (strs t) false, V.list (Ao cm) false, V.int IntKind.i64 mi, V.int IntKind.i64 ma, V.int IntKind.i64 ch, V.int IntKind.i64 rf, V.list (List.map Pct.enc pc) false]), (999, .arr 126 2 (Az g2))]⟩) ?_ ?_
 ·intro KC5 hKC5
  refine Aa (Z 5 rfl ?_)
  simp only [go_sem, simprocAttr, Es, DF, ES, Fi]
  refine Ad rfl (fun hb5 => ?_) fun hb5 => ?_
  ·refine Z 6 rfl ?_
   simp only [go_sem, simprocAttr, Es, DF, ES, Fi]
   and_intros <;> try exact sdA
   refine hKC5 (g1 ++ [⟨E, Acc⟩]) _ ?_ ?_
   ·(try dsimp only); exact ⟨by rw [Du (show (!decide (E = 0)) = true from hb5)], by simp⟩
   refine Le.mk _ _ ?_ ?_ rfl <;> simp only [go_sem, simprocAttr, An, Aw, Ax] <;> and_intros <;> try exact leA
  refine Af ?_
  refine hKC5 (g1) _ ?_ ?_
  ·(try dsimp only); exact ⟨by rw [Dt (show (!decide (E = 0)) = false from hb5), Br], by omega⟩
  exact leM
 rintro g2 ⟨hg2, lg2⟩
 obtain ⟨g3, hg3⟩ : ∃ g3, g3 = g2 ++ G1 := ⟨_, rfl⟩
 have hl3 : g2.length + G1.length = g3.length := by rw [hg3, An]
 refine Aa (Z 7 rfl ?_)
 simp only [go_sem, simprocAttr, o3, hcl, Ac, EW, RV, <- hg3, hl3, Es, DF, ES, Fi]
 and_intros <;> try exact sdA
 refine DT (α := (List Fault)) (fun g4 => (g4 = g3 ++ fIf (decide (mi < 0) || decide (400 < mi) || decide (ma < 0) || decide (400 < ma)) 2 (Qp)) /\ (g4.length <= g3.length + 1)) (fun g4 => ⟨mkE [(1, V.ptr 1 0), (3, .own 999 g4.length)], mkH [(1, Ob.box 135 [V.int IntKind.i64 n, V.int IntKind.i64 k, V.list (List.map Cond.enc l) false, V.int IntKind.i64 a, V.int IntKind.i64 b, V.int IntKind.i64 x, V.int IntKind.i64 y, V.int IntKind.i64 z, V.list (strs t) false, V.list (Ao cm) false, V.int IntKind.i64 mi, V.int IntKind.i64 ma, V.int IntKind.i64 ch, V.int IntKind.i64 rf, V.list (List.map Pct.enc pc) false]), (999, .arr 126 2 (Az g4))]⟩) ?_ ?_
 ·intro KC8 hKC8
  refine Aa (Z 8 rfl ?_)
  simp only [go_sem, simprocAttr, Es, DF, ES, Fi]
  and_intros <;> try exact sdA
  refine Ad rfl (fun hb8 => ?_) fun hb8 => ?_
  ·refine Z 9 rfl ?_
   simp only [go_sem, simprocAttr, Es, DF, ES, Fi]
   and_intros <;> try exact sdA
   refine hKC8 (g3 ++ [⟨2, Qp⟩]) _ ?_ ?_
   ·(try dsimp only); exact ⟨by rw [Du (show (decide (mi < 0) || decide (400 < mi) || decide (ma < 0) || decide (400 < ma)) = true from hb8)], by simp⟩
   refine Le.mk _ _ ?_ ?_ rfl <;> simp only [go_sem, simprocAttr, An, Aw, Ax] <;> and_intros <;> try exact leA
  refine Af ?_
  refine hKC8 (g3) _ ?_ ?_
  ·(try dsimp only); exact ⟨by rw [Dt (show (decide (mi < 0) || decide (400 < mi) || decide (ma < 0) || decide (400 < ma)) = false from hb8), Br], by omega⟩
  exact leM
 rintro g4 ⟨hg4, lg4⟩
 refine DT (α := (List Fault)) (fun g5 => (g5 = g4 ++ fIf (and (decide (0 < ma)) (decide (ma < mi))) 24 (Qp)) /\ (g5.length <= g4.length + 1)) (fun g5 => ⟨mkE [(1, V.ptr 1 0), (3, .own 999 g5.length)], mkH [(1, Ob.box 135 [V.int IntKind.i64 n, V.int IntKind.i64 k, V.list (List.map Cond.enc l) false, V.int IntKind.i64 a, V.int IntKind.i64 b, V.int IntKind.i64 x, V.int IntKind.i64 y, V.int IntKind.i64 z, V.list (strs t) false, V.list (Ao cm) false, V.int IntKind.i64 mi, V.int IntKind.i64 ma, V.int IntKind.i64 ch, V.int IntKind.i64 rf, V.list (List.map Pct.enc pc) false]), (999, .arr 126 2 (Az g5))]⟩) ?_ ?_
 ·intro KC10 hKC10
  refine Aa (Z 10 rfl ?_)
  simp only [go_sem, simprocAttr, Es, DF, ES, Fi]
  and_intros <;> try exact sdA
  refine Ad rfl (fun hb10 => ?_) fun hb10 => ?_
  ·refine Z 11 rfl ?_
   simp only [go_sem, simprocAttr, Es, DF, ES, Fi]
   and_intros <;> try exact sdA
   refine hKC10 (g4 ++ [⟨24, Qp⟩]) _ ?_ ?_
   ·(try dsimp only); exact ⟨by rw [Du (show (and (decide (0 < ma)) (decide (ma < mi))) = true from hb10)], by simp⟩
   refine Le.mk _ _ ?_ ?_ rfl <;> simp only [go_sem, simprocAttr, An, Aw, Ax] <;> and_intros <;> try exact leA
  refine Af ?_
  refine hKC10 (g4) _ ?_ ?_
  ·(try dsimp only); exact ⟨by rw [Dt (show (and (decide (0 < ma)) (decide (ma < mi))) = false from hb10), Br], by omega⟩
  exact leM
 rintro g5 ⟨hg5, lg5⟩
 obtain ⟨M1, hM1⟩ : ∃ z : Int, z = -1 := ⟨_, rfl⟩
 obtain ⟨M2, hM2⟩ : ∃ z : Int, z = 1099511627776 := ⟨_, rfl⟩
 refine DT (α := (List Fault)) (fun g6 => (g6 = g5 ++ fIf (decide (ch < M1) || decide (M2 < ch) || decide (rf < M1) || decide (M2 < rf)) 2 (Ab9)) /\ (g6.length <= g5.length + 1)) (fun g6 => ⟨mkE [(1, V.ptr 1 0), (3, .own 999 g6.length)], mkH [(1, Ob.box 135 [V.int IntKind.i64 n, V.int IntKind.i64 k, V.list (List.map Cond.enc l) false, V.int IntKind.i64 a, V.int IntKind.i64 b, V.int IntKind.i64 x, V.int IntKind.i64 y, V.int IntKind.i64 z, V.list (strs t) false, V.list (Ao cm) false, V.int IntKind.i64 mi, V.int IntKind.i64 ma, V.int IntKind.i64 ch, V.int IntKind.i64 rf, V.list (List.map Pct.enc pc) false]), (999, .arr 126 2 (Az g6))]⟩) ?_ ?_
 ·intro KC12 hKC12
  refine Aa (Amq (EF := EF0) hG AmY ?_)
  simp only [Vi, go_sem, simprocAttr, <- hM1, <- hM2, Es, DF, ES, Fi]
  and_intros <;> try exact sdA
  refine Ad rfl (fun hb12 => ?_) fun hb12 => ?_
  ·refine Z 13 rfl ?_
   simp only [go_sem, simprocAttr, Es, DF, ES, Fi]
   and_intros <;> try exact sdA
   refine hKC12 (g5 ++ [⟨2, Ab9⟩]) _ ?_ ?_
   ·(try dsimp only); exact ⟨by rw [Du (show (decide (ch < M1) || decide (M2 < ch) || decide (rf < M1) || decide (M2 < rf)) = true from hb12)], by simp⟩
   refine Le.mk _ _ ?_ ?_ rfl <;> simp only [go_sem, simprocAttr, An, Aw, Ax] <;> and_intros <;> try exact leA
  refine Af ?_
  refine hKC12 (g5) _ ?_ ?_
  ·(try dsimp only); exact ⟨by rw [Dt (show (decide (ch < M1) || decide (M2 < ch) || decide (rf < M1) || decide (M2 < rf)) = false from hb12), Br], by omega⟩
  exact leM
 rintro g6 ⟨hg6, lg6⟩
 obtain ⟨g7, hg7⟩ : ∃ g7, g7 = g6 ++ G2 := ⟨_, rfl⟩
 have hl7 : g6.length + G2.length = g7.length := by rw [hg7, An]
 refine Aa (Z 14 rfl ?_)
 simp only [go_sem, simprocAttr, o8, hpg, Ac, EW, RV, <- hg7, hl7, Es, DF, ES, Fi]
 and_intros <;> try exact sdA
 refine TC.le (s' := ⟨mkE [(2, .list (Az g7) false)], mkH []⟩) (Le.mk _ _ ?_ ?_ rfl) (Ae (hQ _ _ (.inl rfl) ?_ ?_ ?_)) <;> simp only [go_sem, simprocAttr, vF]
 ·exact DA rfl (by rw [EW]) rfl (Gp _)
 refine ⟨g7, rfl, ?_, fun e => hpo ?_, ?_⟩
 ·show g7.length <= 2 * cm.length + 3 * pc.length + 6
  omega
 ·rw [hg7] at e; exact (Gs.1 e).2
 rw [hg7, hg6, hg5, hg4, hg3, hg2, hg1]; exact (((((((FSm.nil.fif (by decide)).fif (by decide)).app hcs).fif (by decide)).fif (by decide)).fif (by decide)).app hps)
def Ik : Rule -> List Fault := Ud.choose
theorem Ajr : ∀ r : Rule, RuleOk r -> QP r (Ik r) := Ud.choose_spec.1
theorem Aju : PU 70 (gOf Hm fun r => (RuleOk r, vF (Ik r))) := Ud.choose_spec.2
theorem Ajt (r : Rule) : gOf Hm (fun r => (RuleOk r, vF (Ik r))) [.agg r.enc] = (RuleOk r, .list (Az (Ik r)) false) := Al (F := fun r => (RuleOk r, vF (Ik r))) VT r
structure Link where
 from' : List UInt8
 to' : List UInt8
def Link.enc (x : Link) : List V := [.str x.from', .str x.to']
theorem Link.inj (a b : Link) (h : a.enc = b.enc) : a = b := by
 obtain ⟨a_from', a_to'⟩ := a
 obtain ⟨b_from', b_to'⟩ := b
 simp only [Link.enc, Bz, V.str.injEq, V.int.injEq, V.bool.injEq, V.agg.injEq, V.list.injEq, and_true, true_and] at h
 obtain ⟨h0, h1⟩ := h
 subst h0
 subst h1
 rfl
def Link.ok (x : Link) : Prop := x.from'.length <= 140737488355328 /\ x.to'.length <= 140737488355328
def Link.zero : Link := ⟨[], []⟩
theorem Link.rows (l : List Link) : (∀ r ∈ l.map Link.enc, r.length = 2) ↔ True := iff_true_intro fun r hr => by obtain ⟨x, _, rfl⟩ := Am.1 hr; rfl
theorem Link.purs (l : List Link) : (∀ r ∈ l.map Link.enc, V.purs r = true) ↔ True := iff_true_intro fun r hr => by obtain ⟨x, _, rfl⟩ := Am.1 hr; rfl
attribute [go_sem] Link.rows Link.purs
structure Routing where
 number : Int
 links : List Link
 miles : Int
def Routing.enc (x : Routing) : List V := [.int .i64 x.number, .list (x.links.map Link.enc) false, .int .i64 x.miles]
theorem Routing.inj (a b : Routing) (h : a.enc = b.enc) : a = b := by
 obtain ⟨a_number, a_links, a_miles⟩ := a
 obtain ⟨b_number, b_links, b_miles⟩ := b
 simp only [Routing.enc, Bz, V.str.injEq, V.int.injEq, V.bool.injEq, V.agg.injEq, V.list.injEq, and_true, true_and] at h
 obtain ⟨h0, h1, h2⟩ := h
 subst h0
 replace h1 := Cl Link.inj h1
 subst h1
 subst h2
 rfl
def Routing.ok (x : Routing) : Prop := inI x.number /\ (x.links.length <= 140737488355328 /\ ∀ z ∈ x.links, z.ok) /\ inI x.miles
def Routing.zero : Routing := ⟨0, [], 0⟩
theorem Routing.rows (l : List Routing) : (∀ r ∈ l.map Routing.enc, r.length = 3) ↔ True := iff_true_intro fun r hr => by obtain ⟨x, _, rfl⟩ := Am.1 hr; rfl
theorem Routing.purs (l : List Routing) : (∀ r ∈ l.map Routing.enc, V.purs r = true) ↔ True := iff_true_intro fun r hr => by obtain ⟨x, _, rfl⟩ := Am.1 hr; rfl
attribute [go_sem] Routing.rows Routing.purs
def aLk := ar (vl Link.enc) (ar V.str (ao V.str))
theorem Vu : Ij aLk := ijr (ijl Link.inj) (ijr ijs (ijo ijs))
def AaR (a b : List UInt8) (x : Link) : Bool := decide (x.from' = a) && decide (x.to' = b)
def Jn (a b : List UInt8) : Int -> List Link -> Int
 | _, [] => -1
 | i, x :: l => if AaR a b x = true then i else Jn a b (i + 1) l
def Ln (x : List Link × List UInt8 × List UInt8) : Prop × V := (x.1.length <= 140737488355328, .int .i64 (Jn x.2.1 x.2.2 0 x.1))
theorem Co (l : List Link) (a b : List UInt8) : gOf aLk Ln [.list (l.map Link.enc) false, .str a, .str b] = (l.length <= 140737488355328, .int .i64 (Jn a b 0 l)) := Al Vu (l, a, b)
theorem AaP : PU 130 (gOf aLk Ln) := by
 have hG := AJ
 refine Yf.a Vu (by simp [aLk]) ?_
 rintro ⟨l, a, b⟩ hv C hN Q hQ
 have Z := Yf.R EF0 hG hN
 replace hv : l.length <= 140737488355328 := hv
 refine Ab (Z 0 rfl ?_)
 simp only [go_sem, simprocAttr, aLk]
 refine Ab (Ab (Z 1 rfl ?_))
 simp only [go_sem, simprocAttr]
 refine Ar ?_
 refine Bj (α := Nat) (fun i => (i <= l.length) /\ (Jn a b 0 l = Jn a b i (l.drop i))) (fun i => ⟨mkE [(0, V.list (List.map Link.enc l) false), (1, V.str a), (2, V.str b), (7, .int .i64 i)], mkH []⟩) (fun i => l.length - i) 0 ⟨As _, rfl⟩ ?_ ?_
 ·exact leM
 rintro i ⟨hi, hx⟩ KL0 hKL0
 try dsimp only at *
 refine Ab (Ab (Z 2 rfl ?_))
 simp only [go_sem, simprocAttr, Ac]
 refine Ai rfl (fun hc2 => ?_) fun hc2 => ?_
 ·simp only [hcL] at hc2
  refine Ah ?_
  refine Ab (Ar ?_)
  rw [DL hc2, Jn] at hx
  generalize hu : l[i] = u at hx
  obtain ⟨f, t⟩ := u
  unfold AaR at hx
  dsimp only at hx
  refine Ab (Z 4 rfl ?_)
  simp only [go_sem, simprocAttr, Ap _ _ _ _ hc2, hc2, hu, Link.enc]
  and_intros <;> try exact sdA
  refine Ai rfl (fun hb4 => ?_) fun hb4 => ?_
  ·rw [if_pos hb4] at hx
   refine Ab (Z 5 rfl ?_)
   simp only [go_sem, simprocAttr]
   refine Ag (hQ _ _ (.inl rfl) ?_ ?_ ?_) <;> simp only [go_sem, simprocAttr, Ln, hx]
  rw [if_neg (by rw [hb4]; decide)] at hx
  refine Ah ?_
  refine Z 3 rfl ?_
  simp only [go_sem, simprocAttr, inI]
  and_intros <;> try exact sdA
  refine hKL0 (i + 1) _ ?_ ?_ ?_
  ·(try dsimp only); exact ⟨hc2, hx⟩
  ·(try dsimp only); omega
  exact leM
 simp only [hcL] at hc2
 rw [Hz (by omega), Jn] at hx
 refine Be ?_
 simp only [go_sem, simprocAttr]
 refine Ab (Z 6 rfl ?_)
 simp only [go_sem, simprocAttr]
 refine Ag (hQ _ _ (.inl rfl) ?_ ?_ ?_) <;> simp only [go_sem, simprocAttr, Ln, hx]
def Qo : List UInt8 := [110, 117, 109, 98, 101, 114]
def Qm : List UInt8 := [108, 105, 110, 107, 115]
def sLk : List UInt8 := [108, 105, 110, 107, 32]
def Qn : List UInt8 := [109, 105, 108, 101, 115]
def lkA (x : Link) : Bool := !Cr 3 x.from' || !Cr 3 x.to'
def lkC (l : List Link) (i : Nat) (x : Link) : Bool := decide (0 <= Jn x.from' x.to' 0 (l.take i))
def LV (l : List Link) (i : Nat) (x : Link) : List Fault := fIf (lkA x) 5 (sLk ++ dec i) ++ fIf (decide (x.from' = x.to')) 2 (sLk ++ dec i) ++ fIf (lkC l i x) 6 (sLk ++ dec i)
def Fw (l : List Link) : Nat -> List Fault
 | 0 => []
 | i + 1 => Fw l i ++ LV l i (l.getD i Link.zero)
def Mf (r : Routing) : List Fault := fIf (decide (r.number < 1) || decide (9999 < r.number)) 2 Qo ++ fIf (decide (128 < (r.links.length : Int))) 4 Qm ++ (if (r.links.length : Int) <= 128 then Fw r.links r.links.length else []) ++ fIf (decide (r.miles < 0) || decide (99999 < r.miles)) 2 Qn
def aRg := ao (vg Routing.enc)
theorem VS : Ij aRg := ijo (ijg Routing.inj)
def fRg (r : Routing) : Prop × V := (r.ok /\ r.links.length <= 1000000, .list (Az (Mf r)) false)
def CX : Tab
 | 68 => Im
 | 129 => (gOf DB (Hs 3))
 | 130 => (gOf aLk Ln)
 | _ => gNo
theorem AlT : ∀ f, PU f (CX f) := fun f => by
 unfold CX
 split
 ·exact NW
 ·exact TN
 ·exact AaP
 ·exact Aj.no
theorem Ajk : PU 71 (gOf aRg fRg) := by
 have hG := AlT
 refine SE.a VS (by simp [aRg]) ?_
 rintro ⟨n, l, mi⟩ hv C hN Q hQ
 have Y := SE.D EF0 hG hN mixed
 have Z := SE.R EF0 hG hN
 obtain ⟨hok, hl⟩ : (Routing.mk n l mi).ok /\ l.length <= 1000000 := hv
 simp only [Routing.ok] at hok
 obtain ⟨_, ⟨_, hlo⟩, _⟩ := hok
 refine Ab (Z 0 rfl ?_)
 simp only [go_sem, simprocAttr, aRg, Routing.enc, CX, AV, Co]
 refine Ab (Z 1 rfl ?_)
 simp only [go_sem, simprocAttr, CX, AV, Co]
 refine AW.le (s' := ⟨mkE [(1, .ptr 1 0), (3, .own 999 0)], mkH ([(1, .box 140 [.int .i64 n, .list (l.map Link.enc) false, .int .i64 mi]), (999, .arr 126 2 (Az []))])⟩) (Le.mk _ _ (by (simp only [go_sem, simprocAttr]) <;> and_intros <;> try exact leB) (by (simp only [go_sem, simprocAttr]) <;> and_intros <;> try exact leB) rfl) ?_
 refine Dq (α := (List Fault)) (fun g1 => (g1 = ([] : List Fault) ++ fIf (decide (n < 1) || decide (9999 < n)) 2 (Qo)) /\ (g1.length <= ([] : List Fault).length + 1)) (fun g1 => ⟨mkE [(1, V.ptr 1 0), (3, .own 999 g1.length)], mkH [(1, Ob.box 140 [V.int IntKind.i64 n, V.list (List.map Link.enc l) false, V.int IntKind.i64 mi]), (999, .arr 126 2 (Az g1))]⟩) ?_ ?_
 ·intro KC2 hKC2
  refine Ab (Z 2 rfl ?_)
  simp only [go_sem, simprocAttr, CX, AV, Co]
  and_intros <;> try exact sdA
  refine Ai rfl (fun hb2 => ?_) fun hb2 => ?_
  ·refine Z 3 rfl ?_
   simp only [go_sem, simprocAttr, CX, AV, Co]
   and_intros <;> try exact sdA
   refine hKC2 (([] : List Fault) ++ [⟨2, Qo⟩]) _ ?_ ?_
   ·(try dsimp only); exact ⟨by rw [Du (show (decide (n < 1) || decide (9999 < n)) = true from hb2)], by simp⟩
   refine Le.mk _ _ ?_ ?_ rfl <;> simp only [go_sem, simprocAttr, An, Aw, Ax] <;> and_intros <;> try exact leA
  refine Ah ?_
  refine hKC2 (([] : List Fault)) _ ?_ ?_
  ·(try dsimp only); exact ⟨by rw [Dt (show (decide (n < 1) || decide (9999 < n)) = false from hb2), Br], by omega⟩
  exact leM
 rintro g1 ⟨hg1, lg1⟩
 replace lg1 : g1.length <= 1 := lg1
 refine Dq (α := (List Fault)) (fun g2 => (g2 = g1 ++ fIf (decide (128 < (l.length : Int))) 4 (Qm)) /\ (g2.length <= g1.length + 1)) (fun g2 => ⟨mkE [(1, V.ptr 1 0), (3, .own 999 g2.length)], mkH [(1, Ob.box 140 [V.int IntKind.i64 n, V.list (List.map Link.enc l) false, V.int IntKind.i64 mi]), (999, .arr 126 2 (Az g2))]⟩) ?_ ?_
 ·intro KC4 hKC4
  refine Ab (Z 4 rfl ?_)
  simp only [go_sem, simprocAttr, Ac, CX, AV, Co]
  refine Ai rfl (fun hb4 => ?_) fun hb4 => ?_
  ·refine Z 5 rfl ?_
   simp only [go_sem, simprocAttr, CX, AV, Co]
   and_intros <;> try exact sdA
   refine hKC4 (g1 ++ [⟨4, Qm⟩]) _ ?_ ?_
   ·(try dsimp only); exact ⟨by rw [Du (show (decide (128 < (l.length : Int))) = true from hb4)], by simp⟩
   refine Le.mk _ _ ?_ ?_ rfl <;> simp only [go_sem, simprocAttr, An, Aw, Ax] <;> and_intros <;> try exact leA
  refine Ah ?_
  refine hKC4 (g1) _ ?_ ?_
  ·(try dsimp only); exact ⟨by rw [Dt (show (decide (128 < (l.length : Int))) = false from hb4), Br], by omega⟩
  exact leM
 rintro g2 ⟨hg2, lg2⟩
 refine Ab (Ab (Z 6 rfl ?_))
 simp only [go_sem, simprocAttr, CX, AV, Co]
 refine Ar ?_
 refine Bj (α := Nat × (List Fault)) (fun γ => (γ.1 <= l.length) /\ (128 < l.length -> γ.1 = 0) /\ (γ.2 = g2 ++ Fw l γ.1) /\ (γ.2.length <= g2.length + 3 * γ.1)) (fun γ => ⟨mkE [(1, V.ptr 1 0), (3, .own 999 γ.2.length), (4, .int .i64 γ.1)], mkH [(1, Ob.box 140 [V.int IntKind.i64 n, V.list (List.map Link.enc l) false, V.int IntKind.i64 mi]), (999, .arr 126 2 (Az γ.2))]⟩) (fun γ => l.length - γ.1) (0, g2) ⟨As _, fun _ => rfl, by rw [Fw, Br], AF _⟩ ?_ ?_
 ·exact leM
 rintro ⟨i, g⟩ ⟨hi, h8, hg, hgl⟩ KL0 hKL0
 try dsimp only at *
 refine Ab (Ab (Z 7 rfl ?_))
 simp only [go_sem, simprocAttr, Ac, CX, AV, Co]
 and_intros <;> try exact sdA
 refine Ai rfl (fun hb7 => ?_) fun hb7 => ?_
 ·obtain ⟨hil, h128⟩ : i < l.length /\ l.length <= 128 := by simp only [Bx, decide_eq_true_eq] at hb7; omega
  have hxo := hlo _ (AI hil)
  have hst : Fw l (i + 1) = Fw l i ++ LV l i (l.getD i Link.zero) := rfl
  rw [CT _ _ _ hil] at hst
  generalize hxx : l[i] = x at hxo hst
  obtain ⟨f, t⟩ := x
  obtain ⟨hf, ht⟩ := hxo
  dsimp only at hf ht
  refine Ah ?_
  refine Ab (Ar ?_)
  refine Ab (Z 9 rfl ?_)
  simp only [go_sem, simprocAttr, Ap _ _ _ _ hil, hil, hxx, Link.enc, CX, AV, Co]
  and_intros <;> try exact sdA
  have hd := Id (i := i) (by omega)
  have hi2 := Je (i := i) (by omega)
  refine Ab (Z 10 rfl ?_)
  simp only [go_sem, simprocAttr, inI, AC, hi2, CX, AV, Co]
  and_intros <;> (try first | exact sdA | (simp only [An, Aw, Ax]; omega))
  refine Dq (α := (List Fault)) (fun f1 => (f1 = g ++ fIf (lkA ⟨f, t⟩) 5 (sLk ++ dec i)) /\ (f1.length <= g.length + 1)) (fun f1 => ⟨mkE [(1, V.ptr 1 0), (3, .own 999 f1.length), (4, V.int IntKind.i64 ↑i), (5, V.ptr 5 0), (6, V.str (108 :: 105 :: 110 :: 107 :: 32 :: dec ↑i))], mkH [(1, Ob.box 140 [V.int IntKind.i64 n, V.list (List.map Link.enc l) false, V.int IntKind.i64 mi]), (5, Ob.box 194 [V.str f, V.str t]), (999, .arr 126 2 (Az f1))]⟩) ?_ ?_
  ·intro KC11 hKC11
   refine Ab (Z 11 rfl ?_)
   simp only [go_sem, simprocAttr, hf, ht, CX, AV, Co]
   and_intros <;> try exact sdA
   refine Ai rfl (fun hb11 => ?_) fun hb11 => ?_
   ·refine Z 12 rfl ?_
    simp only [go_sem, simprocAttr, CX, AV, Co]
    and_intros <;> try exact sdA
    refine hKC11 (g ++ [⟨5, sLk ++ dec i⟩]) _ ?_ ?_
    ·(try dsimp only); exact ⟨by rw [Du (show (lkA ⟨f, t⟩) = true from hb11)], by simp⟩
    refine Le.mk _ _ ?_ ?_ rfl <;> simp only [go_sem, simprocAttr, An, Aw, Ax] <;> and_intros <;> try exact leA
   refine Ah ?_
   refine hKC11 (g) _ ?_ ?_
   ·(try dsimp only); exact ⟨by rw [Dt (show (lkA ⟨f, t⟩) = false from hb11), Br], by omega⟩
   exact leM
  rintro f1 ⟨hf1, lf1⟩
  refine Dq (α := (List Fault)) (fun f2 => (f2 = f1 ++ fIf (decide (f = t)) 2 (sLk ++ dec i)) /\ (f2.length <= f1.length + 1)) (fun f2 => ⟨mkE [(1, V.ptr 1 0), (3, .own 999 f2.length), (4, V.int IntKind.i64 ↑i), (5, V.ptr 5 0), (6, V.str (108 :: 105 :: 110 :: 107 :: 32 :: dec ↑i))], mkH [(1, Ob.box 140 [V.int IntKind.i64 n, V.list (List.map Link.enc l) false, V.int IntKind.i64 mi]), (5, Ob.box 194 [V.str f, V.str t]), (999, .arr 126 2 (Az f2))]⟩) ?_ ?_
  ·intro KC13 hKC13
   refine Ab (Z 13 rfl ?_)
   simp only [go_sem, simprocAttr, CX, AV, Co]
   refine Ai rfl (fun hb13 => ?_) fun hb13 => ?_
   ·refine Z 14 rfl ?_
    simp only [go_sem, simprocAttr, CX, AV, Co]
    and_intros <;> try exact sdA
    refine hKC13 (f1 ++ [⟨2, sLk ++ dec i⟩]) _ ?_ ?_
    ·(try dsimp only); exact ⟨by rw [Du (show (decide (f = t)) = true from hb13)], by simp⟩
    refine Le.mk _ _ ?_ ?_ rfl <;> simp only [go_sem, simprocAttr, An, Aw, Ax] <;> and_intros <;> try exact leA
   refine Ah ?_
   refine hKC13 (f1) _ ?_ ?_
   ·(try dsimp only); exact ⟨by rw [Dt (show (decide (f = t)) = false from hb13), Br], by omega⟩
   exact leM
  rintro f2 ⟨hf2, lf2⟩
  have htk : (l.take i).length <= 140737488355328 := by rw [BJ]; omega
  refine Ab (Y 15 rfl (by kernel_rfl) ?_)
  simp only [go_sem, simprocAttr, Ac, <- LM, htk, CX, AV, Co]
  and_intros <;> try exact sdA
  refine Ai rfl (fun hb15 => ?_) fun hb15 => ?_
  ·refine Z 16 rfl ?_
   simp only [go_sem, simprocAttr, CX, AV, Co]
   and_intros <;> try exact sdA
   refine Z 8 rfl ?_
   simp only [go_sem, simprocAttr, inI, CX, AV, Co]
   and_intros <;> try exact sdA
   refine hKL0 (i + 1, f2 ++ [⟨6, sLk ++ dec i⟩]) _ ?_ ?_ ?_
   ·(try dsimp only); refine ⟨hil, fun h => by omega, ?_, by simp only [An, Aw, Ax]; omega⟩; rw [hst, LV, Du (b := lkC l i ⟨f, t⟩) hb15, hf2, hf1, hg]; simp only [EH]
   ·(try dsimp only); omega
   refine Le.mk _ _ ?_ ?_ rfl <;> simp only [go_sem, simprocAttr, An, Aw, Ax] <;> and_intros <;> try exact leA
  refine Ah ?_
  refine Z 8 rfl ?_
  simp only [go_sem, simprocAttr, inI, CX, AV, Co]
  and_intros <;> try exact sdA
  refine hKL0 (i + 1, f2) _ ?_ ?_ ?_
  ·(try dsimp only); refine ⟨hil, fun h => by omega, ?_, by omega⟩; rw [hst, LV, Dt (b := lkC l i ⟨f, t⟩) hb15, hf2, hf1, hg]; simp only [EH, Br]
  ·(try dsimp only); omega
  exact leM
 have hg0 : g = g2 ++ (if (l.length : Int) <= 128 then Fw l l.length else []) := by (rw [hg]; by_cases h : l.length <= 128; (rw [if_pos (by omega)]; have : i = l.length := by simp only [Bool.and_eq_false_iff, decide_eq_false_iff_not] at hb7; omega); (rw [this]); (rw [if_neg (by omega), h8 (by omega), Fw]))
 refine Be ?_
 simp only [go_sem, simprocAttr]
 refine Dq (α := (List Fault)) (fun g3 => (g3 = g ++ fIf (decide (mi < 0) || decide (99999 < mi)) 2 (Qn)) /\ (g3.length <= g.length + 1)) (fun g3 => ⟨mkE [(3, .own 999 g3.length)], mkH [(999, .arr 126 2 (Az g3))]⟩) ?_ ?_
 ·intro KC17 hKC17
  refine Ab (Z 17 rfl ?_)
  simp only [go_sem, simprocAttr, CX, AV, Co]
  and_intros <;> try exact sdA
  refine Ai rfl (fun hb17 => ?_) fun hb17 => ?_
  ·refine Z 18 rfl ?_
   simp only [go_sem, simprocAttr, CX, AV, Co]
   and_intros <;> try exact sdA
   refine hKC17 (g ++ [⟨2, Qn⟩]) _ ?_ ?_
   ·(try dsimp only); exact ⟨by rw [Du (show (decide (mi < 0) || decide (99999 < mi)) = true from hb17)], by simp⟩
   refine Le.mk _ _ ?_ ?_ rfl <;> simp only [go_sem, simprocAttr, An, Aw, Ax] <;> and_intros <;> try exact leA
  refine Ah ?_
  refine hKC17 (g) _ ?_ ?_
  ·(try dsimp only); exact ⟨by rw [Dt (show (decide (mi < 0) || decide (99999 < mi)) = false from hb17), Br], by omega⟩
  exact leM
 rintro g3 ⟨hg3, lg3⟩
 refine Ab (Z 19 rfl ?_)
 simp only [go_sem, simprocAttr, CX, AV, Co]
 refine AW.le (s' := ⟨mkE [(2, .list (Az g3) false)], mkH []⟩) (Le.mk _ _ ?_ ?_ rfl) (Ag (hQ _ _ (.inl rfl) ?_ ?_ ?_)) <;> simp only [go_sem, simprocAttr, fRg]
 ·exact DA rfl (by rw [EW]) rfl (Gp _)
 rw [hg3, hg0, hg2, hg1]; rfl
structure Tax where
 code : List UInt8
 kind : Int
 country : List UInt8
 amount : Int
 scope : Int
 transit : Int
 free : List (List UInt8)
def Tax.enc (x : Tax) : List V := [.str x.code, .int .i64 x.kind, .str x.country, .int .i64 x.amount, .int .i64 x.scope, .int .i64 x.transit, .list (strs x.free) false]
theorem Tax.inj (a b : Tax) (h : a.enc = b.enc) : a = b := by
 obtain ⟨a_code, a_kind, a_country, a_amount, a_scope, a_transit, a_free⟩ := a
 obtain ⟨b_code, b_kind, b_country, b_amount, b_scope, b_transit, b_free⟩ := b
 simp only [Tax.enc, Bz, V.str.injEq, V.int.injEq, V.bool.injEq, V.agg.injEq, V.list.injEq, and_true, true_and] at h
 obtain ⟨h0, h1, h2, h3, h4, h5, h6⟩ := h
 subst h0
 subst h1
 subst h2
 subst h3
 subst h4
 subst h5
 replace h6 := HP h6
 subst h6
 rfl
def Tax.ok (x : Tax) : Prop := x.code.length <= 140737488355328 /\ inI x.kind /\ x.country.length <= 140737488355328 /\ inI x.amount /\ inI x.scope /\ inI x.transit /\ (x.free.length <= 140737488355328 /\ ∀ z ∈ x.free, z.length <= 140737488355328)
def Tax.zero : Tax := ⟨[], 0, [], 0, 0, 0, []⟩
theorem Tax.rows (l : List Tax) : (∀ r ∈ l.map Tax.enc, r.length = 7) ↔ True := iff_true_intro fun r hr => by obtain ⟨x, _, rfl⟩ := Am.1 hr; rfl
theorem Tax.purs (l : List Tax) : (∀ r ∈ l.map Tax.enc, V.purs r = true) ↔ True := iff_true_intro fun r hr => by obtain ⟨x, _, rfl⟩ := Am.1 hr; rfl
attribute [go_sem] Tax.rows Tax.purs
def Py (s : List UInt8) : Bool := !Df s 3 3
def PH (o : Option Nat) : Int := match o with | some k => k | none => -1
theorem Agu (k : Nat) : PH (some k) = k := rfl
theorem Af1 {α : Type} {p : α -> Bool} {l : List α} {i : Nat} (hi : i < l.length) (hp : ∀ x ∈ l.take i, p x = false) (h : p l[i] = true) : l.findIdx? p = some i := by
 rw [List.findIdx?_eq_some_iff_getElem]
 exact ⟨hi, h, fun j hj => by rw [hp _ (by rw [List.mem_take_iff_getElem]; exact ⟨j, by omega, rfl⟩)]; decide⟩
theorem Af2 {α : Type} {p : α -> Bool} {l : List α} {i : Nat} (hi : l.length <= i) (hp : ∀ x ∈ l.take i, p x = false) : l.findIdx? p = none := by
 rw [BR hi] at hp
 exact List.findIdx?_eq_none_iff.2 hp
theorem Agv {α : Type} (p : α -> Bool) (l : List α) : decide (0 <= PH (l.findIdx? p)) = l.any p := by
 cases h : l.findIdx? p with
 | none => rw [List.findIdx?_eq_none_iff] at h; rw [show l.any p = false from Nz.2 fun x hx => by rw [h x hx]; decide]; rfl
 | some k =>
  obtain ⟨hk, h1, _⟩ := List.findIdx?_eq_some_iff_getElem.1 h
  rw [show l.any p = true from Iv.2 ⟨_, AI hk, h1⟩, Agu]
  simp
def isS (s : List UInt8) (t : List UInt8) : Bool := decide (s = t)
def HE (x : Tax) : Bool := Df x.code 2 2 && Cr 2 x.country && !x.free.any Py
def LZ (k : Int) : Int := if k = 4 then 100000 else 1099511627776
def KX := ao (vg Tax.enc)
theorem Wc : Ij KX := ijo (ijg Tax.inj)
def Lp (x : Tax) : Prop × V := (x.ok, .bool (HE x))
theorem Fo (a b c d e f g) : gOf KX Lp [.agg [.str a, .int .i64 b, .str c, .int .i64 d, .int .i64 e, .int .i64 f, .list (strs g) false]] = ((⟨a, b, c, d, e, f, g⟩ : Tax).ok, .bool (HE ⟨a, b, c, d, e, f, g⟩)) := Al Wc (⟨a, b, c, d, e, f, g⟩ : Tax)
def trN : Tab
 | 23 => BN
 | 131 => (gOf DB (Hs 2))
 | _ => gNo
theorem Anc : ∀ f, PU f (trN f) := fun f => by
 unfold trN
 split
 ·exact NV
 ·exact AbX
 ·exact Aj.no
theorem Ajh : PU 72 (gOf KX Lp) := by
 have hG := Anc
 refine ZI.a Wc (by simp [KX]) ?_
 rintro ⟨a, b, c, d, e, f, g⟩ hv C hN Q hQ
 have Z := ZI.R EF0 hG hN
 obtain ⟨h1, h2, h3, h4, h5, h6, h7, h8⟩ : (⟨a, b, c, d, e, f, g⟩ : Tax).ok := hv
 dsimp only at h1 h3 h7 h8
 refine Ab (Z 0 rfl ?_)
 simp only [go_sem, simprocAttr, KX, Tax.enc, trN, Cz, AV]
 refine Ab (Ab (Z 1 rfl ?_))
 simp only [go_sem, simprocAttr, h1, h3, trN, Cz, AV]
 and_intros <;> try exact sdA
 refine Ai rfl (fun hb1 => ?_) fun hb1 => ?_
 ·refine Ab (Z 2 rfl ?_)
  simp only [go_sem, simprocAttr, trN, Cz, AV]
  refine Ag (hQ _ _ (.inl rfl) ?_ ?_ ?_) <;> simp only [go_sem, simprocAttr, Lp]
  unfold HE; dsimp only; rw [show (Df a 2 2 && Cr 2 c) = false by revert hb1; cases Df a 2 2 <;> cases Cr 2 c <;> simp]; rfl
 refine Ah ?_
 refine Ab ?_
 have hcc : (Df a 2 2 && Cr 2 c) = true := by revert hb1; cases Df a 2 2 <;> cases Cr 2 c <;> simp
 refine Ab (Z 3 rfl ?_)
 simp only [go_sem, simprocAttr, trN, Cz, AV]
 refine Ar ?_
 refine Bj (α := Nat) (fun i => (i <= g.length) /\ (∀ s ∈ g.take i, Py s = false)) (fun i => ⟨mkE [(1, V.ptr 1 0), (3, .int .i64 i)], mkH [(1, Ob.box 143 [V.str a, V.int IntKind.i64 b, V.str c, V.int IntKind.i64 d, V.int IntKind.i64 e, V.int IntKind.i64 f, V.list (strs g) false])]⟩) (fun i => g.length - i) 0 (by simp) ?_ ?_
 ·exact leM
 rintro i ⟨hi, hp⟩ KL0 hKL0
 try dsimp only at *
 refine Ab (Ab (Z 4 rfl ?_))
 simp only [go_sem, simprocAttr, trN, Cz, AV]
 refine Ai rfl (fun hc4 => ?_) fun hc4 => ?_
 ·simp only [hcL] at hc4
  refine Ah ?_
  refine Ab (Ar ?_)
  have hsi := h8 _ (AI hc4)
  refine Ab (Z 6 rfl ?_)
  simp only [go_sem, simprocAttr, Gz _ _ _ hc4, hc4, hsi, trN, Cz, AV]
  and_intros <;> try exact sdA
  refine Ai rfl (fun hb6 => ?_) fun hb6 => ?_
  ·refine Ab (Z 7 rfl ?_)
   simp only [go_sem, simprocAttr, trN, Cz, AV]
   refine Ag (hQ _ _ (.inl rfl) ?_ ?_ ?_) <;> simp only [go_sem, simprocAttr, Lp]
   unfold HE; dsimp only; rw [hcc, Aec (p := Py) hc4 hb6]; rfl
  refine Ah ?_
  refine Z 5 rfl ?_
  simp only [go_sem, simprocAttr, inI, trN, Cz, AV]
  and_intros <;> try exact sdA
  refine hKL0 (i + 1) _ ?_ ?_ ?_
  ·(try dsimp only); exact ⟨hc4, HQ hc4 hp hb6⟩
  ·(try dsimp only); omega
  exact leM
 simp only [hcL] at hc4
 refine Be ?_
 simp only [go_sem, simprocAttr]
 refine Ab (Z 8 rfl ?_)
 simp only [go_sem, simprocAttr, trN, Cz, AV]
 refine Ag (hQ _ _ (.inl rfl) ?_ ?_ ?_) <;> simp only [go_sem, simprocAttr, Lp]
 unfold HE; dsimp only; rw [hcc, Aed (p := Py) hc4 hp]; rfl
def MT (k : Int) : Prop × V := (True, .int .i64 (LZ k))
theorem Fn (k : Int) : gOf BX MT [.int .i64 k] = (True, .int .i64 (LZ k)) := Al Gj k
theorem Ajg : PU 73 (gOf BX MT) := by
 have hG := AJ
 refine ZJ.a Gj (by simp [BX]) ?_
 rintro k hv C hN Q hQ
 have Z := ZJ.R EF0 hG hN
 refine Ab (Z 0 rfl ?_)
 simp only [go_sem, simprocAttr, BX]
 refine Ab (Ab (Z 1 rfl ?_))
 simp only [go_sem, simprocAttr]
 refine Ai rfl (fun hb => ?_) fun hb => ?_
 ·refine Ab (Z 2 rfl ?_)
  simp only [go_sem, simprocAttr]
  refine Ag (hQ _ _ (.inl rfl) ?_ ?_ ?_) <;> simp only [go_sem, simprocAttr, MT]
  unfold LZ; rw [if_pos (of_decide_eq_true hb)]
 refine Ah ?_
 refine Ab (Z 3 rfl ?_)
 simp only [go_sem, simprocAttr]
 refine Ag (hQ _ _ (.inl rfl) ?_ ?_ ?_) <;> simp only [go_sem, simprocAttr, MT]
 unfold LZ; rw [if_neg (of_decide_eq_false hb)]
structure Fare where
 carrier : List UInt8
 from' : List UInt8
 to' : List UInt8
 basis : List UInt8
 cls : List UInt8
 round : Bool
 amount : Int
 rule : Int
 routing : Int
def Fare.enc (x : Fare) : List V := [.str x.carrier, .str x.from', .str x.to', .str x.basis, .str x.cls, .bool x.round, .int .i64 x.amount, .int .i64 x.rule, .int .i64 x.routing]
theorem Fare.inj (a b : Fare) (h : a.enc = b.enc) : a = b := by
 obtain ⟨a_carrier, a_from', a_to', a_basis, a_cls, a_round, a_amount, a_rule, a_routing⟩ := a
 obtain ⟨b_carrier, b_from', b_to', b_basis, b_cls, b_round, b_amount, b_rule, b_routing⟩ := b
 simp only [Fare.enc, Bz, V.str.injEq, V.int.injEq, V.bool.injEq, V.agg.injEq, V.list.injEq, and_true, true_and] at h
 obtain ⟨h0, h1, h2, h3, h4, h5, h6, h7, h8⟩ := h
 subst h0
 subst h1
 subst h2
 subst h3
 subst h4
 subst h5
 subst h6
 subst h7
 subst h8
 rfl
def Fare.ok (x : Fare) : Prop := x.carrier.length <= 140737488355328 /\ x.from'.length <= 140737488355328 /\ x.to'.length <= 140737488355328 /\ x.basis.length <= 140737488355328 /\ x.cls.length <= 140737488355328 /\ True /\ inI x.amount /\ inI x.rule /\ inI x.routing
def Fare.zero : Fare := ⟨[], [], [], [], [], false, 0, 0, 0⟩
theorem Fare.rows (l : List Fare) : (∀ r ∈ l.map Fare.enc, r.length = 9) ↔ True := iff_true_intro fun r hr => by obtain ⟨x, _, rfl⟩ := Am.1 hr; rfl
theorem Fare.purs (l : List Fare) : (∀ r ∈ l.map Fare.enc, V.purs r = true) ↔ True := iff_true_intro fun r hr => by obtain ⟨x, _, rfl⟩ := Am.1 hr; rfl
attribute [go_sem] Fare.rows Fare.purs
abbrev Rule.ok (r : Rule) : Prop := RuleOk r
def Rule.zero : Rule := ⟨0, .mk 0 [] 0 0 ⟨0, 0, 0⟩ [], [], 0, 0, 0, 0, []⟩
instance : Inhabited Rule := ⟨Rule.zero⟩
instance : Inhabited Routing := ⟨Routing.zero⟩
structure Tariff where
 fares : List Fare
 rules : List Rule
 routings : List Routing
 taxes : List Tax
def Tariff.enc (x : Tariff) : List V := [.list (x.fares.map Fare.enc) false, .list (x.rules.map Rule.enc) false, .list (x.routings.map Routing.enc) false, .list (x.taxes.map Tax.enc) false]
theorem Tariff.inj (a b : Tariff) (h : a.enc = b.enc) : a = b := by
 obtain ⟨a_fares, a_rules, a_routings, a_taxes⟩ := a
 obtain ⟨b_fares, b_rules, b_routings, b_taxes⟩ := b
 simp only [Tariff.enc, Bz, V.str.injEq, V.int.injEq, V.bool.injEq, V.agg.injEq, V.list.injEq, and_true, true_and] at h
 obtain ⟨h0, h1, h2, h3⟩ := h
 replace h0 := Cl Fare.inj h0
 subst h0
 replace h1 := Cl Rule.inj h1
 subst h1
 replace h2 := Cl Routing.inj h2
 subst h2
 replace h3 := Cl Tax.inj h3
 subst h3
 rfl
theorem Tariff.rows (l : List Tariff) : (∀ r ∈ l.map Tariff.enc, r.length = 4) ↔ True := iff_true_intro fun r hr => by obtain ⟨x, _, rfl⟩ := Am.1 hr; rfl
theorem Tariff.purs (l : List Tariff) : (∀ r ∈ l.map Tariff.enc, V.purs r = true) ↔ True := iff_true_intro fun r hr => by obtain ⟨x, _, rfl⟩ := Am.1 hr; rfl
attribute [go_sem] Tariff.rows Tariff.purs
theorem Rule.zero_ok : Rule.zero.ok := ⟨by unfold Rule.zero inI; decide, by unfold Rule.zero; rw [Cond.ok_eq]; simp [inI, Period.ok], by decide, by unfold Rule.zero inI; decide, by unfold Rule.zero inI; decide, by unfold Rule.zero inI; decide, by unfold Rule.zero inI; decide, ⟨by decide, fun x hx => nomatch hx⟩⟩
def vBB (b : Bool) : V := .bool b
def JD := ar (vg Places.enc) (ao V.str)
theorem Vz : Ij JD := ijr (ijg Places.inj) (ijo ijs)
def LnP (p : Places) : Prop := p.airports.length <= 1000000 /\ p.distances.length <= 1000000
theorem AaI : ∃ F : Places × List UInt8 -> Bool, (∀ x, LnP x.1 -> RT x (F x)) /\ PU 124 (gOf JD fun x => (LnP x.1, vBB (F x))) := by
 have hG := AJ
 refine Yc.p (val := vBB) (R := RT) Vz (by simp [JD]) ?_
 rintro ⟨⟨ps, ds⟩, c⟩ hv Q hQ
 have Z := Yc.T EF0 hG
 obtain ⟨h1, h2⟩ : LnP ⟨ps, ds⟩ := hv
 dsimp only at h1 h2
 refine Aa (Z 0 rfl ?_)
 simp only [go_sem, simprocAttr, JD, Places.enc]
 refine Aa (Aa (Z 1 rfl ?_))
 simp only [go_sem, simprocAttr]
 refine Aq ?_
 refine Ba (α := Nat) (fun i => (i <= ps.length)) (fun i => ⟨mkE [(1, V.str c), (2, V.ptr 2 0), (5, .int .i64 i)], mkH [(2, Ob.box 25 [V.list (List.map Airport.enc ps) false, V.list (List.map Distance.enc ds) false])]⟩) (fun i => ps.length - i) 0 (As _) ?_ ?_
 ·exact leM
 rintro i hi KL0 hKL0
 try dsimp only at *
 refine Aa (Aa (Z 2 rfl ?_))
 simp only [go_sem, simprocAttr, Ac]
 refine Ad rfl (fun hc2 => ?_) fun hc2 => ?_
 ·simp only [hcL] at hc2
  refine Af ?_
  refine Aa (Aq ?_)
  refine Aa (Z 4 rfl ?_)
  simp only [go_sem, simprocAttr, Ap _ _ _ _ hc2, hc2, Airport.enc, Ac]
  and_intros <;> try exact sdA
  refine Ad rfl (fun hc4 => ?_) fun hc4 => ?_
  ·simp only [hcL] at hc4
   refine Aa (Z 5 rfl ?_)
   simp only [go_sem, simprocAttr]
   refine Ae (hQ _ _ (.inl rfl) ?_ ?_ ?_) <;> simp only [go_sem, simprocAttr, vBB]
   exact ⟨true, rfl, trivial⟩
  simp only [hcL] at hc4
  refine Af ?_
  refine Z 3 rfl ?_
  simp only [go_sem, simprocAttr, inI]
  and_intros <;> try exact sdA
  refine hKL0 (i + 1) _ ?_ ?_ ?_
  ·(try dsimp only); exact hc2
  ·(try dsimp only); omega
  exact leM
 simp only [hcL] at hc2
 refine AX ?_
 simp only [go_sem, simprocAttr]
 refine Aa (Z 6 rfl ?_)
 simp only [go_sem, simprocAttr]
 refine Ae (hQ _ _ (.inl rfl) ?_ ?_ ?_) <;> simp only [go_sem, simprocAttr, vBB]
 exact ⟨false, rfl, trivial⟩
def Kf : Places × List UInt8 -> Bool := AaI.choose
theorem AgW : PU 124 (gOf JD fun x => (LnP x.1, vBB (Kf x))) := AaI.choose_spec.2
theorem Eo (ps : List Airport) (ds : List Distance) (c : List UInt8) : gOf JD (fun x => (LnP x.1, vBB (Kf x))) [.agg [.list (ps.map Airport.enc) false, .list (ds.map Distance.enc) false], .str c] = (LnP ⟨ps, ds⟩, .bool (Kf (⟨ps, ds⟩, c))) := Al (F := fun x => (LnP x.1, vBB (Kf x))) Vz (⟨ps, ds⟩, c)
structure TarOk (t : Tariff) : Prop where
 f : t.fares.length <= 1000000
 r : t.rules.length <= 1000000
 g : t.routings.length <= 1000000
 x : t.taxes.length <= 1000000
 fo : ∀ z ∈ t.fares, z.ok
 ro : ∀ z ∈ t.rules, z.ok
 go : ∀ z ∈ t.routings, z.ok /\ z.links.length <= 1000000
 xo : ∀ z ∈ t.taxes, z.ok
def aTN := ar (vg Tariff.enc) (ao vi)
theorem OA : Ij aTN := ijr (ijg Tariff.inj) (ijo iji)
def vRB (y : Rule × Bool) : V := .tup [.agg y.1.enc, .bool y.2]
def RRl (x : Tariff × Int) (y : Rule × Bool) : Prop := y = (Rule.zero, false) \/ y.2 = true /\ y.1 ∈ x.1.rules
theorem Rule.pur (r : Rule) : V.purs r.enc = true := (Rule.purs [r]).2 trivial _ (by simp)
theorem Rule.enc_at (a1 : Int) (k : Int) (l : List Cond) (a b x y z : Int) (t : List (List UInt8)) (a3 : List Int) (a4 a5 a6 a7 : Int) (a8 : List Pct) : (Rule.mk a1 (.mk k l a b ⟨x, y, z⟩ t) a3 a4 a5 a6 a7 a8).enc = [.int .i64 a1, .int .i64 k, .list (l.map Cond.enc) false, .int .i64 a, .int .i64 b, .int .i64 x, .int .i64 y, .int .i64 z, .list (strs t) false, .list (Ao a3) false, .int .i64 a4, .int .i64 a5, .int .i64 a6, .int .i64 a7, .list (a8.map Pct.enc) false] := by unfold Rule.enc; rw [Cond.enc_eq]; rfl
def Rule.Z : List V := [.int .i64 0, .int .i64 0, .list [] false, .int .i64 0, .int .i64 0, .int .i64 0, .int .i64 0, .int .i64 0, .list [] false, .list [] false, .int .i64 0, .int .i64 0, .int .i64 0, .int .i64 0, .list [] false]
theorem Rule.enc_zero : Rule.zero.enc = Rule.Z := Rule.enc_at ..
theorem Uc : ∃ F : Tariff × Int -> Rule × Bool, (∀ x, TarOk x.1 -> RRl x (F x)) /\ PU 95 (gOf aTN fun x => (TarOk x.1, vRB (F x))) := by
 have hG := AJ
 refine Aab.p (val := vRB) (R := RRl) OA (by simp [aTN]) ?_
 rintro ⟨⟨fs, rs, gs, xs⟩, n⟩ hv Q hQ
 have Z := Aab.T EF0 hG
 have hl : rs.length <= 1000000 := (show TarOk ⟨fs, rs, gs, xs⟩ from hv).r
 refine Aa (Z 0 rfl ?_)
 simp only [go_sem, simprocAttr, aTN, Tariff.enc]
 refine Aa (Aa (Z 1 rfl ?_))
 simp only [go_sem, simprocAttr]
 refine Aq ?_
 refine Ba (α := Nat) (fun i => (i <= rs.length)) (fun i => ⟨mkE [(1, V.int IntKind.i64 n), (2, V.ptr 2 0), (4, V.ptr 4 0), (6, .int .i64 i)], mkH [(2, Ob.box 31 [V.list (List.map Fare.enc fs) false, V.list (List.map Rule.enc rs) false, V.list (List.map Routing.enc gs) false, V.list (List.map Tax.enc xs) false]), (4, Ob.box 135 [V.int IntKind.i64 0, V.int IntKind.i64 0, V.nils, V.int IntKind.i64 0, V.int IntKind.i64 0, V.int IntKind.i64 0, V.int IntKind.i64 0, V.int IntKind.i64 0, V.nils, V.nils, V.int IntKind.i64 0, V.int IntKind.i64 0, V.int IntKind.i64 0, V.int IntKind.i64 0, V.nils])]⟩) (fun i => rs.length - i) 0 (As _) ?_ ?_
 ·exact leM
 rintro i hi KL0 hKL0
 try dsimp only at *
 refine Aa (Aa (Z 2 rfl ?_))
 simp only [go_sem, simprocAttr, Ac]
 refine Ad rfl (fun hc2 => ?_) fun hc2 => ?_
 ·simp only [hcL] at hc2
  refine Af ?_
  refine Aa (Aq ?_)
  obtain ⟨⟨a1, ⟨k, l, a, b, ⟨x, y, z⟩, t⟩, a3, a4, a5, a6, a7, a8⟩, hr⟩ : ∃ r, r = rs[i] := ⟨_, rfl⟩
  refine Aa (Z 4 rfl ?_)
  simp only [go_sem, simprocAttr, Ap _ _ _ _ hc2, hc2, Ac, <- hr, Rule.enc_at]
  and_intros <;> try exact sdA
  refine Ad rfl (fun hc4 => ?_) fun hc4 => ?_
  ·simp only [hcL] at hc4
   refine Aa (Z 5 rfl ?_)
   simp only [go_sem, simprocAttr, Ap _ _ _ _ hc2, hc2, Ac, <- hr, Rule.enc_at]
   and_intros <;> try exact sdA
   refine Ae (hQ _ _ (.inl rfl) ?_ ?_ ?_) <;> simp only [go_sem, simprocAttr, vRB]
   exact ⟨(rs[i], true), by rw [<- hr, Rule.enc_at], .inr ⟨rfl, AI hc2⟩⟩
  simp only [hcL] at hc4
  refine Af ?_
  refine Z 3 rfl ?_
  simp only [go_sem, simprocAttr, inI]
  and_intros <;> try exact sdA
  refine hKL0 (i + 1) _ ?_ ?_ ?_
  ·(try dsimp only); exact hc2
  ·(try dsimp only); omega
  exact leM
 simp only [hcL] at hc2
 refine AX ?_
 simp only [go_sem, simprocAttr]
 refine Aa (Z 6 rfl ?_)
 simp only [go_sem, simprocAttr]
 refine TC.le (s' := ⟨mkE [(4, .ptr 4 0), (5, .bool false)], mkH [(4, .box 135 Rule.Z)]⟩) (Le.mk _ _ ?_ ?_ rfl) (Ae (hQ _ _ (.inl rfl) ?_ ?_ ?_)) <;> simp only [go_sem, simprocAttr, vRB, Rule.Z]
 exact ⟨(Rule.zero, false), by simp only [Rule.enc_zero, Rule.Z], .inl rfl⟩
def fRl : Tariff × Int -> Rule × Bool := Uc.choose
theorem AbQ : ∀ x : Tariff × Int, TarOk x.1 -> RRl x (fRl x) := Uc.choose_spec.1
theorem Qh : PU 95 (gOf aTN fun x => (TarOk x.1, vRB (fRl x))) := Uc.choose_spec.2
theorem AL (a : List Fare) (b : List Rule) (c : List Routing) (d : List Tax) (n : Int) : gOf aTN (fun x => (TarOk x.1, vRB (fRl x))) [.agg [.list (a.map Fare.enc) false, .list (b.map Rule.enc) false, .list (c.map Routing.enc) false, .list (d.map Tax.enc) false], .int .i64 n] = (TarOk ⟨a, b, c, d⟩, .tup [.agg (fRl (⟨a, b, c, d⟩, n)).1.enc, .bool (fRl (⟨a, b, c, d⟩, n)).2]) := Al (F := fun x => (TarOk x.1, vRB (fRl x))) OA (⟨a, b, c, d⟩, n)
def vGB (y : Routing × Bool) : V := .tup [.agg y.1.enc, .bool y.2]
def RRg (x : Tariff × Int) (y : Routing × Bool) : Prop := y = (Routing.zero, false) \/ y.2 = true /\ y.1 ∈ x.1.routings
theorem Ua : ∃ F : Tariff × Int -> Routing × Bool, (∀ x, TarOk x.1 -> RRg x (F x)) /\ PU 98 (gOf aTN fun x => (TarOk x.1, vGB (F x))) := by
 have hG := AJ
 refine Aad.p (val := vGB) (R := RRg) OA (by simp [aTN]) ?_
 rintro ⟨⟨fs, rs, gs, xs⟩, n⟩ hv Q hQ
 have Z := Aad.T EF0 hG
 have hl : gs.length <= 1000000 := (show TarOk ⟨fs, rs, gs, xs⟩ from hv).g
 refine Aa (Z 0 rfl ?_)
 simp only [go_sem, simprocAttr, aTN, Tariff.enc]
 refine Aa (Aa (Z 1 rfl ?_))
 simp only [go_sem, simprocAttr]
 refine Aq ?_
 refine Ba (α := Nat) (fun i => (i <= gs.length)) (fun i => ⟨mkE [(1, V.int IntKind.i64 n), (2, V.ptr 2 0), (4, V.ptr 4 0), (6, .int .i64 i)], mkH [(2, Ob.box 31 [V.list (List.map Fare.enc fs) false, V.list (List.map Rule.enc rs) false, V.list (List.map Routing.enc gs) false, V.list (List.map Tax.enc xs) false]), (4, Ob.box 140 [V.int IntKind.i64 0, V.nils, V.int IntKind.i64 0])]⟩) (fun i => gs.length - i) 0 (As _) ?_ ?_
 ·exact leM
 rintro i hi KL0 hKL0
 try dsimp only at *
 refine Aa (Aa (Z 2 rfl ?_))
 simp only [go_sem, simprocAttr, Ac]
 refine Ad rfl (fun hc2 => ?_) fun hc2 => ?_
 ·simp only [hcL] at hc2
  refine Af ?_
  refine Aa (Aq ?_)
  obtain ⟨⟨a1, a2, a3⟩, hr⟩ : ∃ r, r = gs[i] := ⟨_, rfl⟩
  refine Aa (Z 4 rfl ?_)
  simp only [go_sem, simprocAttr, Ap _ _ _ _ hc2, hc2, Ac, <- hr, Routing.enc]
  and_intros <;> try exact sdA
  refine Ad rfl (fun hc4 => ?_) fun hc4 => ?_
  ·simp only [hcL] at hc4
   refine Aa (Z 5 rfl ?_)
   simp only [go_sem, simprocAttr, Ap _ _ _ _ hc2, hc2, Ac, <- hr, Routing.enc]
   and_intros <;> try exact sdA
   refine Ae (hQ _ _ (.inl rfl) ?_ ?_ ?_) <;> simp only [go_sem, simprocAttr, vGB]
   exact ⟨(gs[i], true), by rw [<- hr]; rfl, .inr ⟨rfl, AI hc2⟩⟩
  simp only [hcL] at hc4
  refine Af ?_
  refine Z 3 rfl ?_
  simp only [go_sem, simprocAttr, inI]
  and_intros <;> try exact sdA
  refine hKL0 (i + 1) _ ?_ ?_ ?_
  ·(try dsimp only); exact hc2
  ·(try dsimp only); omega
  exact leM
 simp only [hcL] at hc2
 refine AX ?_
 simp only [go_sem, simprocAttr]
 refine Aa (Z 6 rfl ?_)
 simp only [go_sem, simprocAttr]
 refine TC.le (s' := ⟨mkE [(4, .ptr 4 0), (5, .bool false)], mkH [(4, .box 140 [.int .i64 0, .list [] false, .int .i64 0])]⟩) (Le.mk _ _ ?_ ?_ rfl) (Ae (hQ _ _ (.inl rfl) ?_ ?_ ?_)) <;> simp only [go_sem, simprocAttr, vGB]
 exact ⟨(Routing.zero, false), rfl, .inl rfl⟩
def Fs : Tariff × Int -> Routing × Bool := Ua.choose
theorem Ajm : ∀ x : Tariff × Int, TarOk x.1 -> RRg x (Fs x) := Ua.choose_spec.1
theorem TZ : PU 98 (gOf aTN fun x => (TarOk x.1, vGB (Fs x))) := Ua.choose_spec.2
theorem Bc (a : List Fare) (b : List Rule) (c : List Routing) (d : List Tax) (n : Int) : gOf aTN (fun x => (TarOk x.1, vGB (Fs x))) [.agg [.list (a.map Fare.enc) false, .list (b.map Rule.enc) false, .list (c.map Routing.enc) false, .list (d.map Tax.enc) false], .int .i64 n] = (TarOk ⟨a, b, c, d⟩, .tup [.agg (Fs (⟨a, b, c, d⟩, n)).1.enc, .bool (Fs (⟨a, b, c, d⟩, n)).2]) := Al (F := fun x => (TarOk x.1, vGB (Fs x))) OA (⟨a, b, c, d⟩, n)
theorem AhB {M : Nat -> Prop} {w : World} {v : V} {cv : Value} (h : Pur M w v cv) : Pur M w v.nn1 cv := by
 cases v with
 | nils =>
  cases h
  exact .list [] false none 0 0 0 0 (fun _ _ => undef) (fun e => by cases e) (AF _) (fun _ => rfl) (.inl rfl) (fun r hr => by simp at hr) (fun i j hi _ => absurd hi (Ee _)) (fun i j r v hi => by simp at hi)
 | _ => exact h
def Dc (F n at' : Int) : List Part -> Bool
 | [] => decide (at' = n)
 | x :: l => if x.from' ≠ at' \/ x.to' <= at' \/ n < x.to' \/ x.fare < 0 \/ F <= x.fare then false else Dc F n x.to' l
def GG (F n at' : Int) : List Part -> Bool
 | [] => decide (at' = n)
 | x :: l => if x.from' ≠ at' \/ x.to' <= at' \/ x.fare < 0 \/ F <= x.fare then false else GG F n x.to' l
theorem Xb {F n : Int} : ∀ {l : List Part} {a : Int}, n < a -> GG F n a l = false
 | [], a, h => by rw [GG]; exact decide_eq_false (by omega)
 | x :: l, a, h => by
  rw [GG]
  split
  ·rfl
  ·exact Xb (by omega)
theorem Xa {F n : Int} : ∀ {l : List Part} {a : Int}, a <= n -> GG F n a l = Dc F n a l
 | [], a, h => rfl
 | x :: l, a, h => by
  rw [GG, Dc]
  by_cases h1 : x.from' ≠ a \/ x.to' <= a \/ x.fare < 0 \/ F <= x.fare
  ·rw [if_pos h1, if_pos (by omega)]
  ·rw [if_neg h1]
   by_cases h2 : n < x.to'
   ·rw [if_pos (by omega), Xb h2]
   ·rw [if_neg (by omega), Xa (by omega)]
theorem Xc {F n : Int} : ∀ {l : List Part} {a : Int}, Dc F n a l = true -> DE n a l = true /\ ∀ x ∈ l, 0 <= x.fare /\ x.fare < F
 | [], a, h => ⟨h, fun x hx => nomatch hx⟩
 | x :: l, a, h => by
  rw [Dc] at h
  split at h
  ·cases h
  ·obtain ⟨h1, h2⟩ := Xc h
   rw [DE, if_neg (by omega)]
   exact ⟨h1, fun y hy => by rcases AN.1 hy with rfl | hy; omega; exact h2 y hy⟩
def aCv := ar (vg Tariff.enc) (ar (vl Part.enc) (ao vi))
theorem Vl : Ij aCv := ijr (ijg Tariff.inj) (ijr (ijl Part.inj) (ijo iji))
def Ol (x : Tariff × List Part × Int) : Prop := x.1.fares.length <= 1000000 /\ x.2.1.length <= 1000000 /\ 0 <= x.2.2
def fCv (x : Tariff × List Part × Int) : Prop × V := (Ol x, .bool (Dc x.1.fares.length x.2.2 0 x.2.1))
theorem Ea (a : List Fare) (b : List Rule) (c : List Routing) (d : List Tax) (l : List Part) (n : Int) : gOf aCv fCv [.agg [.list (a.map Fare.enc) false, .list (b.map Rule.enc) false, .list (c.map Routing.enc) false, .list (d.map Tax.enc) false], .list (l.map Part.enc) false, .int .i64 n] = (Ol (⟨a, b, c, d⟩, l, n), .bool (Dc a.length n 0 l)) := Al Vl (⟨a, b, c, d⟩, l, n)
theorem Ae4 : PU 33 (gOf aCv fCv) := by
 have hG := AJ
 refine Zq.a Vl (by simp [aCv]) ?_
 rintro ⟨⟨fs, rs, gs, xs⟩, l, n⟩ hv C hN Q hQ
 have Z := Zq.R EF0 hG hN
 obtain ⟨h1, h2, h3⟩ : Ol (⟨fs, rs, gs, xs⟩, l, n) := hv
 dsimp only at h1 h2 h3
 have hcv : Dc fs.length n 0 l = GG fs.length n 0 l := (Xa h3).symm
 refine Ab (Z 0 rfl ?_)
 simp only [go_sem, simprocAttr, aCv, Tariff.enc]
 refine Ab (Z 1 rfl ?_)
 simp only [go_sem, simprocAttr]
 refine Ab (Ab (Z 2 rfl ?_))
 simp only [go_sem, simprocAttr, Ac]
 refine Ar ?_
 refine Bj (α := Nat × Int) (fun γ => (γ.1 <= l.length) /\ (GG fs.length n 0 l = GG fs.length n γ.2 (l.drop γ.1))) (fun γ => ⟨mkE [(2, V.int IntKind.i64 n), (3, V.ptr 3 0), (7, .int .i64 γ.2), (10, V.list (List.map Part.enc l) false), (11, V.int IntKind.i64 ↑l.length), (12, .int .i64 γ.1)], mkH [(3, Ob.box 31 [V.list (List.map Fare.enc fs) false, V.list (List.map Rule.enc rs) false, V.list (List.map Routing.enc gs) false, V.list (List.map Tax.enc xs) false])]⟩) (fun γ => l.length - γ.1) (0, 0) ⟨As _, rfl⟩ ?_ ?_
 ·exact leM
 rintro ⟨i, a⟩ ⟨hi, hs⟩ KL0 hKL0
 try dsimp only at *
 refine Ab (Z 3 rfl ?_)
 simp only [go_sem, simprocAttr]
 refine Ab ?_
 refine Ai rfl (fun hc3 => ?_) fun hc3 => ?_
 ·simp only [hcL] at hc3
  refine Ah ?_
  refine Ab (Ar ?_)
  have hd := DL hc3
  rw [hd, GG] at hs
  refine Ab (Z 4 rfl ?_)
  simp only [go_sem, simprocAttr, Ap _ _ _ _ hc3, hc3, Part.enc]
  and_intros <;> try exact sdA
  refine Ab (Ab (Z 5 rfl ?_))
  simp only [go_sem, simprocAttr, Ac]
  and_intros <;> try exact sdA
  refine Ai rfl (fun hb5 => ?_) fun hb5 => ?_
  ·rw [if_pos (by simp only [Gd, LG, decide_eq_true_eq, decide_eq_false_iff_not] at hb5; omega)] at hs
   refine Ab (Z 6 rfl ?_)
   simp only [go_sem, simprocAttr]
   refine Ag (hQ _ _ (.inl rfl) ?_ ?_ ?_) <;> simp only [go_sem, simprocAttr, fCv, hcv, hs]
  rw [if_neg (by simp only [Cg, It, decide_eq_true_eq, decide_eq_false_iff_not] at hb5; omega)] at hs
  refine Ah ?_
  refine Z 7 rfl ?_
  simp only [go_sem, simprocAttr]
  refine Z 8 rfl ?_
  simp only [go_sem, simprocAttr, inI]
  and_intros <;> try exact sdA
  refine hKL0 (i + 1, l[i].to') _ ?_ ?_ ?_
  ·(try dsimp only); exact ⟨hc3, hs⟩
  ·(try dsimp only); omega
  exact leM
 simp only [hcL] at hc3
 rw [Hz hc3, GG] at hs
 refine Be ?_
 simp only [go_sem, simprocAttr]
 refine Ab (Z 9 rfl ?_)
 simp only [go_sem, simprocAttr]
 refine Ag (hQ _ _ (.inl rfl) ?_ ?_ ?_) <;> simp only [go_sem, simprocAttr, fCv, hcv, hs]
theorem Ag0 (x : Addr) (cap : Nat) {s : St} {t : Nat} (ht : s.e t = .pin (.slice (some x) 0 cap)) : Le s ⟨upd s.e t (.list [] false), s.h⟩ := fun U C a w M ι hg => ⟨M, ι, hg.mem, fun u => by
 have h := hg.env u
 generalize (a.tmps.getD u undef) = cv at h ⊢
 show Rel M w ι s.h (upd s.e t (.list [] false) u) _
 unfold upd
 split
 ·rename_i e
  subst e
  rw [ht] at h
  cases h with
  | pur hp =>
   cases hp
   exact .pur (.list [] false (some x) cap 0 0 0 (fun _ _ => undef) (fun e => by cases e) (As _) (fun e => by cases e) (.inl rfl) (fun r hr => by simp at hr) (fun i j hi _ => absurd hi (Ee _)) (fun i j r v hi => by simp at hi))
 ·exact h, hg.dfr, hg.num⟩
theorem Aj.alt {P : Program} {U : Tbl} {f : Nat} {g : List V -> Prop × V} (h : ∀ (vs : List V) (M : Nat -> Prop) (w : World) (cargs : Array Value), (g vs).1 -> cargs.size = vs.length -> (∀ (i : Nat) (v : V), vs[i]? = some v -> Pur M w v (cargs.getD i undef)) ->
  ∃ (g' : List V -> Prop × V) (vs' : List V), Aj P U f g' /\ (g' vs').1 /\ vs'.length = vs.length /\ (∀ (i : Nat) (v : V), vs'[i]? = some v -> Pur M w v (cargs.getD i undef)) /\ ∀ (M' : Nat -> Prop) (w' : World) (cv : Value), Pur M' w' (g' vs').2 cv -> Pur M' w' (g vs).2 cv) (he : Jw P f) : Aj P U f g := fun vs M w cargs h1 => by
 refine ⟨he, fun h2 h3 h4 h5 h6 => ?_⟩
 obtain ⟨g', vs', p1, p2, p3, p4, p5⟩ := h vs M w cargs h1 h4 h6
 refine ((p1 vs' M w cargs p2).2 h2 h3 (by rw [p3]; exact h4) h5 p4).mono fun e w' => ?_
 rintro ⟨cv, M', q1, q2, q3⟩
 exact ⟨cv, M', q1, p5 _ _ _ q2, q3⟩
theorem Age {α : Type} {args : α -> List V} {F : α -> Prop × V} {vs : List V} (h : ¬∃ a, args a = vs) : gOf args F vs = (False, .any) := dif_neg h
def SV : List V -> Prop × V
 | [.nils] => (True, .nils)
 | _ => (False, .any)
def SW : List V -> Prop × V
 | [.pin (.slice (some _) 0 _)] => (True, .list [] false)
 | _ => (False, .any)
def Ni (l : List Charge) : List V -> Prop × V := gOf HU (fun m => (m = l /\ m ≠ [] /\ m.length <= 1000000, .list (m.map Charge.enc) false))
theorem WV : PU 37 SV := by
 have hG := AJ
 refine Lv.q fun vs hv => ?_
 match vs, hv with
 | [.nils], _ => ?_
 refine ⟨by simp, fun C hN Q hQ => ?_⟩
 have Z := Lv.R EF0 hG hN
 refine Ab (Z 0 rfl ?_)
 simp only [go_sem, simprocAttr]
 refine Ab (Ab (Z 1 rfl ?_))
 simp only [go_sem, simprocAttr]
 refine GF rfl ?_
 refine Ab (Z 2 rfl ?_)
 simp only [go_sem, simprocAttr]
 refine Ag (hQ _ _ (.inl rfl) ?_ ?_ ?_) <;> simp only [go_sem, simprocAttr, SV]
theorem AeM : PU 37 SW := by
 have hG := AJ
 refine Lv.q fun vs hv => ?_
 match vs, hv with
 | [.pin (.slice (some x) 0 cap)], _ => ?_
 refine ⟨by simp, fun C hN Q hQ => ?_⟩
 have Z := Lv.R EF0 hG hN
 refine Ab (Z 0 rfl ?_)
 simp only [go_sem, simprocAttr]
 refine Ab (Ab (Z 1 rfl ?_))
 simp only [go_sem, simprocAttr]
 refine DC rfl ?_
 refine Ah ?_
 refine AW.le (Ag0 x cap (t := 0) rfl) ?_
 refine Ab (Z 3 rfl ?_)
 simp only [go_sem, simprocAttr]
 and_intros <;> try exact sdA
 refine AW.le (s' := ⟨mkE [(2, .list [] false)], mkH []⟩) (Le.mk _ _ ?_ ?_ rfl) (Ag (hQ _ _ (.inl rfl) ?_ ?_ ?_)) <;> simp only [go_sem, simprocAttr, SW]
 exact DA rfl rfl rfl (fun r hr => nomatch hr)
theorem AeN (l : List Charge) : PU 37 (Ni l) := by
 have hG := AJ
 unfold Ni
 refine Lv.a Mv (by simp [HU]) ?_
 rintro m hv C hN Q hQ
 have Z := Lv.R EF0 hG hN
 obtain ⟨-, h0, hl⟩ : m = l /\ m ≠ [] /\ m.length <= 1000000 := hv
 have hne : m.map Charge.enc ≠ [] := fun e => h0 (Nr.1 e)
 refine Ab (Z 0 rfl ?_)
 simp only [go_sem, simprocAttr, HU]
 refine Ab (Ab (Z 1 rfl ?_))
 simp only [go_sem, simprocAttr, hne]
 refine DC rfl ?_
 refine Ah ?_
 refine Ab (Z 3 rfl ?_)
 simp only [go_sem, simprocAttr, Ac]
 and_intros <;> try exact sdA
 refine AW.le (s' := ⟨mkE [(2, .list (m.map Charge.enc) false)], mkH []⟩) (Le.mk _ _ ?_ ?_ rfl) (Ag (hQ _ _ (.inl rfl) ?_ ?_ ?_)) <;> simp only [go_sem, simprocAttr]
 exact DA rfl (by rw [Ac]) rfl ((Charge.purs _).2 trivial)
def RP (l : List Charge) : Prop × V := (l.length <= 1000000, .list (l.map Charge.enc) false)
theorem DY (l : List Charge) : gOf HU RP [.list (l.map Charge.enc) false] = (l.length <= 1000000, .list (l.map Charge.enc) false) := Al Mv l
theorem AeO : PU 37 (gOf HU RP) := by
 refine Aj.alt (fun vs M w cargs h1 h4 h6 => ?_) (WV [.nils] (fun _ => False) default #[] trivial).1
 by_cases hx : ∃ l, HU l = vs
 ·obtain ⟨l, rfl⟩ := hx
  rw [Al Mv] at h1 ⊢
  by_cases h0 : l = []
  ·subst h0
   have hp := h6 0 _ rfl
   generalize hcv : cargs.getD 0 undef = cv at hp
   cases hp with
   | list _ _ a cap sz g off f hf hcap hn ha hr hc hv =>
    cases a with
    | none =>
     obtain rfl := hn rfl
     exact ⟨SV, [.nils], WV, trivial, rfl, fun i v hi => (by cases i with | zero => (injection hi with hi; subst hi; rw [hcv]; exact .nils) | succ i => cases hi), fun M' w' cv hp => AhB hp⟩
    | some x => exact ⟨SW, [.pin (.slice (some x) 0 cap)], AeM, trivial, rfl, fun i v hi => (by cases i with | zero => (injection hi with hi; subst hi; rw [hcv]; exact .pin _) | succ i => cases hi), fun M' w' cv hp => hp⟩
  ·refine ⟨Ni l, HU l, AeN l, ?_, rfl, h6, fun M' w' cv hp => ?_⟩
   ·unfold Ni; rw [Al Mv]; exact ⟨rfl, h0, h1⟩
   ·unfold Ni at hp; rw [Al Mv] at hp; exact hp
 ·exact absurd h1 (by rw [Age hx]; exact fun h => h)
end Go.Proofs.YtjkclhbckfkeeaaGreatDoor
end
