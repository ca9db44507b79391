import Derived.Test.YtjkclhbckfkeeaaGreatDoorRu7
import Derived.Test.YtjkclhbckfkeeaaGreatDoorMo1
import Derived.Test.YtjkclhbckfkeeaaGreatDoorPl4
import Derived.Test.YtjkclhbckfkeeaaGreatDoorPaN
import Derived.Test.YtjkclhbckfkeeaaGreatDoorIs12
import Derived.Test.YtjkclhbckfkeeaaGreatDoorCoa
set_option linter.unusedSimpArgs false
set_option linter.unusedVariables false
set_option linter.deprecated false
set_option maxHeartbeats 4000000
noncomputable section
namespace Go.Proofs.YtjkclhbckfkeeaaGreatDoor
open Go Go.RowKit
structure Rule where
 number : Int
 whn : Cond
 cmb : List Int
 mins : Int
 maxs : Int
 chg : Int
 rfd : Int
 pcts : List Pct
def Rule.enc (r : Rule) : List V := .int .i64 r.number :: (r.whn.enc ++ [.list (AY r.cmb) false, .int .i64 r.mins, .int .i64 r.maxs, .int .i64 r.chg, .int .i64 r.rfd, .list (r.pcts.map Pct.enc) false])
theorem Cond.enc_len (c : Cond) : c.enc.length = 8 := by obtain ⟨k, l, a, b, ⟨x, y, z⟩, t⟩ := c; rw [Cond.enc_eq]; rfl
theorem Rule.inj (a b : Rule) (h : a.enc = b.enc) : a = b := by
 obtain ⟨a1, a2, a3, a4, a5, a6, a7, a8⟩ := a
 obtain ⟨b1, b2, b3, b4, b5, b6, b7, b8⟩ := b
 unfold Rule.enc at h
 dsimp only at h
 injection h with h1 h2
 obtain ⟨h2, h3⟩ := List.append_inj h2 (by rw [Cond.enc_len, Cond.enc_len])
 simp only [List.cons.injEq, V.int.injEq, V.list.injEq, and_true, true_and] at h1 h3
 obtain ⟨h3, h4, h5, h6, h7, h8⟩ := h3
 rw [h1, Cond.inj _ _ h2, GT h3, h4, h5, h6, h7, Aw Pct.inj h8]
structure RuleOk (r : Rule) : Prop where
 n : inI r.number
 w : r.whn.ok
 c : r.cmb.length ≤ 1048576
 mi : inI r.mins
 ma : inI r.maxs
 ch : inI r.chg
 rf : inI r.rfd
 p : Fd r.pcts
theorem Rule.rows (l : List Rule) : (∀ r ∈ l.map Rule.enc, r.length = 15) ↔ True := iff_true_intro fun r hr => by
 obtain ⟨x, _, rfl⟩ := List.mem_map.1 hr
 show (_ :: (x.whn.enc ++ _)).length = 15
 rw [List.length_cons, List.length_append, Cond.enc_len]; rfl
theorem Rule.purs (l : List Rule) : (∀ r ∈ l.map Rule.enc, V.purs r = true) ↔ True := iff_true_intro fun r hr => by
 obtain ⟨⟨a1, ⟨k, l, a, b, ⟨x, y, z⟩, t⟩, a3, a4, a5, a6, a7, a8⟩, _, rfl⟩ := List.mem_map.1 hr
 unfold Rule.enc
 rw [Cond.enc_eq]; rfl
attribute [go_sem] Rule.rows Rule.purs
def Uq (r : Rule) : List V := [.agg r.enc]
theorem OB (a b : Rule) (h : Uq a = Uq b) : a = b := by
 simp only [Uq, List.cons.injEq, V.agg.injEq, and_true] at h
 exact Rule.inj _ _ h
def Ain (r : Rule) (g : List Fault) : Prop := g.length ≤ 2 * r.cmb.length + 3 * r.pcts.length + 6 ∧ (g = [] → ∀ x ∈ r.pcts, AfX x) ∧ FSm g
def Aiv : List UInt8 := [119, 104, 101, 110]
def Aiw : List UInt8 := [110, 117, 109, 98, 101, 114]
def Af1 : List UInt8 := [115, 116, 97, 121]
def Aix : List UInt8 := [102, 101, 101, 115]
def JZ : Tab
 | 126 => (gOf CG (Pw ckV))
 | 127 => (gOf aIs fun l => (l.length ≤ 1048576, vF (Aa7 l)))
 | 128 => (gOf Xb fun l => (Fd l, vF (Aa2 l)))
 | _ => gNo
theorem Zq : ∀ f, PU f (JZ f) := fun f => by
 unfold JZ
 split
 ·exact Aah
 ·exact Aig
 ·exact Ady
 ·exact Ao.no
theorem Rc : ∃ F : Rule → List Fault, (∀ r, RuleOk r → Ain r (F r)) ∧ PU 70 (gOf Uq fun r => (RuleOk r, vF (F r))) := by
 have hG := Zq
 refine AiR.p (val := vF) (R := Ain) OB (by simp [Uq]) ?_
 rintro ⟨n, ⟨k, l, a, b, ⟨x, y, z⟩, t⟩, cm, mi, ma, ch, rf, pc⟩ hv Q hQ
 have Z := AiR.T EF0 hG
 obtain ⟨o1, o2, o3, o4, o5, o6, o7, o8⟩ : RuleOk ⟨n, ⟨k, l, a, b, ⟨x, y, z⟩, t⟩, cm, mi, ma, ch, rf, pc⟩ := hv
 dsimp only at o1 o2 o3 o4 o5 o6 o7 o8
 obtain ⟨hcr, hcs⟩ := Aih cm o3
 obtain ⟨hpr, hpo, hps⟩ := Adz pc o8
 have hpl := o8.1
 generalize hcl : Aa7 cm = G1 at hcr hcs
 generalize hpg : Aa2 pc = G2 at hpr hpo hps
 obtain ⟨E, hE⟩ : ∃ E, E = ckE (.mk k l a b ⟨x, y, z⟩ t) := ⟨_, rfl⟩
 refine Ag (Z 0 rfl ?_)
 simp only [go_sem, simprocAttr, Uq, Rule.enc, Cond.enc_eq, JZ, BP, Du, Cn]
 refine Ag (Z 1 rfl ?_)
 simp only [go_sem, simprocAttr, JZ, BP, Du, Cn]
 refine TC.le (s' := ⟨mkE [(1, .ptr 1 0), (3, .own 999 0)], mkH ([(1, .box 135 [.int .i64 n, .int .i64 k, .list (l.map Cond.enc) false, .int .i64 a, .int .i64 b, .int .i64 x, .int .i64 y, .int .i64 z, .list (strs t) false, .list (AY cm) false, .int .i64 mi, .int .i64 ma, .int .i64 ch, .int .i64 rf, .list (pc.map Pct.enc) false]), (999, .arr 126 2 (An []))])⟩) (Le.mk _ _ (by (simp only [go_sem, simprocAttr]) <;> and_intros <;> try exact leB) (by (simp only [go_sem, simprocAttr]) <;> and_intros <;> try exact leB) rfl) ?_
 refine CW (α := (List Fault)) (fun g1 => (g1 = ([] : List Fault) ++ fIf (decide (n < 1) || decide (9999 < n)) 2 (Aiw)) ∧ (g1.length ≤ ([] : List Fault).length + 1)) (fun g1 => ⟨mkE [(1, V.ptr 1 0), (3, .own 999 g1.length)], mkH [(1, Ob.box 135 [V.int IntKind.i64 n, V.int IntKind.i64 k, V.list (List.map Cond.enc l) false, V.int IntKind.i64 a, V.int IntKind.i64 b, V.int IntKind.i64 x, V.int IntKind.i64 y, V.int IntKind.i64 z, V.list (strs t) false, V.list (AY cm) false, V.int IntKind.i64 mi, V.int IntKind.i64 ma, V.int IntKind.i64 ch, V.int IntKind.i64 rf, V.list (List.map Pct.enc pc) false]), (999, .arr 126 2 (An g1))]⟩) ?_ ?_
 ·intro KC2 hKC2
  refine Ag (Z 2 rfl ?_)
  simp only [go_sem, simprocAttr, JZ, BP, Du, Cn]
  and_intros <;> try exact sdA
  refine AH rfl (fun hb2 => ?_) fun hb2 => ?_
  ·refine Z 3 rfl ?_
   simp only [go_sem, simprocAttr, JZ, BP, Du, Cn]
   and_intros <;> try exact sdA
   refine hKC2 (([] : List Fault) ++ [⟨2, Aiw⟩]) _ ?_ ?_
   ·(try dsimp only); exact ⟨by rw [Dx (show (decide (n < 1) || decide (9999 < n)) = true from hb2)], by simp⟩
   refine Le.mk _ _ ?_ ?_ rfl <;> simp only [go_sem, simprocAttr, List.length_append, List.length_cons, List.length_nil] <;> and_intros <;> try exact leA
  refine AG ?_
  refine hKC2 (([] : List Fault)) _ ?_ ?_
  ·(try dsimp only); exact ⟨by rw [Dy (show (decide (n < 1) || decide (9999 < n)) = false from hb2), List.append_nil], by omega⟩
  exact leM
 rintro g1 ⟨hg1, lg1⟩
 replace lg1 : g1.length ≤ 1 := lg1
 refine Ag (Z 4 rfl ?_)
 simp only [go_sem, simprocAttr, o2, ckV, ← hE, JZ, BP, Du, Cn]
 and_intros <;> try exact sdA
 refine CW (α := (List Fault)) (fun g2 => (g2 = g1 ++ fIf (!decide (E = 0)) E (Aiv)) ∧ (g2.length ≤ g1.length + 1)) (fun g2 => ⟨mkE [(1, V.ptr 1 0), (3, .own 999 g2.length)], mkH [(1, Ob.box 135 [V.int IntKind.i64 n, V.int IntKind.i64 k, V.list (List.map Cond.enc l) false, V.int IntKind.i64 a, V.int IntKind.i64 b, V.int IntKind.i64 x, V.int IntKind.i64 y, V.int IntKind.i64 z, V.list (strs t) false, V.list (AY cm) false, V.int IntKind.i64 mi, V.int IntKind.i64 ma, V.int IntKind.i64 ch, V.int IntKind.i64 rf, V.list (List.map Pct.enc pc) false]), (999, .arr 126 2 (An g2))]⟩) ?_ ?_
 ·intro KC5 hKC5
  refine Ag (Z 5 rfl ?_)
  simp only [go_sem, simprocAttr, JZ, BP, Du, Cn]
  refine AH rfl (fun hb5 => ?_) fun hb5 => ?_
  ·refine Z 6 rfl ?_
   simp only [go_sem, simprocAttr, JZ, BP, Du, Cn]
   and_intros <;> try exact sdA
   refine hKC5 (g1 ++ [⟨E, Aiv⟩]) _ ?_ ?_
   ·(try dsimp only); exact ⟨by rw [Dx (show (!decide (E = 0)) = true from hb5)], by simp⟩
   refine Le.mk _ _ ?_ ?_ rfl <;> simp only [go_sem, simprocAttr, List.length_append, List.length_cons, List.length_nil] <;> and_intros <;> try exact leA
  refine AG ?_
  refine hKC5 (g1) _ ?_ ?_
  ·(try dsimp only); exact ⟨by rw [Dy (show (!decide (E = 0)) = false from hb5), List.append_nil], by omega⟩
  exact leM
 rintro g2 ⟨hg2, lg2⟩
 obtain ⟨g3, hg3⟩ : ∃ g3, g3 = g2 ++ G1 := ⟨_, rfl⟩
 have hl3 : g2.length + G1.length = g3.length := by rw [hg3, List.length_append]
 refine Ag (Z 7 rfl ?_)
 simp only [go_sem, simprocAttr, o3, hcl, List.length_map, Bk, Gk, ← hg3, hl3, JZ, BP, Du, Cn]
 and_intros <;> try exact sdA
 refine CW (α := (List Fault)) (fun g4 => (g4 = g3 ++ fIf (decide (mi < 0) || decide (400 < mi) || decide (ma < 0) || decide (400 < ma)) 2 (Af1)) ∧ (g4.length ≤ g3.length + 1)) (fun g4 => ⟨mkE [(1, V.ptr 1 0), (3, .own 999 g4.length)], mkH [(1, Ob.box 135 [V.int IntKind.i64 n, V.int IntKind.i64 k, V.list (List.map Cond.enc l) false, V.int IntKind.i64 a, V.int IntKind.i64 b, V.int IntKind.i64 x, V.int IntKind.i64 y, V.int IntKind.i64 z, V.list (strs t) false, V.list (AY cm) false, V.int IntKind.i64 mi, V.int IntKind.i64 ma, V.int IntKind.i64 ch, V.int IntKind.i64 rf, V.list (List.map Pct.enc pc) false]), (999, .arr 126 2 (An g4))]⟩) ?_ ?_
 ·intro KC8 hKC8
  refine Ag (Z 8 rfl ?_)
  simp only [go_sem, simprocAttr, JZ, BP, Du, Cn]
  and_intros <;> try exact sdA
  refine AH rfl (fun hb8 => ?_) fun hb8 => ?_
  ·refine Z 9 rfl ?_
   simp only [go_sem, simprocAttr, JZ, BP, Du, Cn]
   and_intros <;> try exact sdA
   refine hKC8 (g3 ++ [⟨2, Af1⟩]) _ ?_ ?_
   ·(try dsimp only); exact ⟨by rw [Dx (show (decide (mi < 0) || decide (400 < mi) || decide (ma < 0) || decide (400 < ma)) = true from hb8)], by simp⟩
   refine Le.mk _ _ ?_ ?_ rfl <;> simp only [go_sem, simprocAttr, List.length_append, List.length_cons, List.length_nil] <;> and_intros <;> try exact leA
  refine AG ?_
  refine hKC8 (g3) _ ?_ ?_
  ·(try dsimp only); exact ⟨by rw [Dy (show (decide (mi < 0) || decide (400 < mi) || decide (ma < 0) || decide (400 < ma)) = false from hb8), List.append_nil], by omega⟩
  exact leM
 rintro g4 ⟨hg4, lg4⟩
 refine CW (α := (List Fault)) (fun g5 => (g5 = g4 ++ fIf (and (decide (0 < ma)) (decide (ma < mi))) 24 (Af1)) ∧ (g5.length ≤ g4.length + 1)) (fun g5 => ⟨mkE [(1, V.ptr 1 0), (3, .own 999 g5.length)], mkH [(1, Ob.box 135 [V.int IntKind.i64 n, V.int IntKind.i64 k, V.list (List.map Cond.enc l) false, V.int IntKind.i64 a, V.int IntKind.i64 b, V.int IntKind.i64 x, V.int IntKind.i64 y, V.int IntKind.i64 z, V.list (strs t) false, V.list (AY cm) false, V.int IntKind.i64 mi, V.int IntKind.i64 ma, V.int IntKind.i64 ch, V.int IntKind.i64 rf, V.list (List.map Pct.enc pc) false]), (999, .arr 126 2 (An g5))]⟩) ?_ ?_
 ·intro KC10 hKC10
  refine Ag (Z 10 rfl ?_)
  simp only [go_sem, simprocAttr, JZ, BP, Du, Cn]
  and_intros <;> try exact sdA
  refine AH rfl (fun hb10 => ?_) fun hb10 => ?_
  ·refine Z 11 rfl ?_
   simp only [go_sem, simprocAttr, JZ, BP, Du, Cn]
   and_intros <;> try exact sdA
   refine hKC10 (g4 ++ [⟨24, Af1⟩]) _ ?_ ?_
   ·(try dsimp only); exact ⟨by rw [Dx (show (and (decide (0 < ma)) (decide (ma < mi))) = true from hb10)], by simp⟩
   refine Le.mk _ _ ?_ ?_ rfl <;> simp only [go_sem, simprocAttr, List.length_append, List.length_cons, List.length_nil] <;> and_intros <;> try exact leA
  refine AG ?_
  refine hKC10 (g4) _ ?_ ?_
  ·(try dsimp only); exact ⟨by rw [Dy (show (and (decide (0 < ma)) (decide (ma < mi))) = false from hb10), List.append_nil], by omega⟩
  exact leM
 rintro g5 ⟨hg5, lg5⟩
 obtain ⟨M1, hM1⟩ : ∃ z : Int, z = -1 := ⟨_, rfl⟩
 obtain ⟨M2, hM2⟩ : ∃ z : Int, z = 1099511627776 := ⟨_, rfl⟩
 refine CW (α := (List Fault)) (fun g6 => (g6 = g5 ++ fIf (decide (ch < M1) || decide (M2 < ch) || decide (rf < M1) || decide (M2 < rf)) 2 (Aix)) ∧ (g6.length ≤ g5.length + 1)) (fun g6 => ⟨mkE [(1, V.ptr 1 0), (3, .own 999 g6.length)], mkH [(1, Ob.box 135 [V.int IntKind.i64 n, V.int IntKind.i64 k, V.list (List.map Cond.enc l) false, V.int IntKind.i64 a, V.int IntKind.i64 b, V.int IntKind.i64 x, V.int IntKind.i64 y, V.int IntKind.i64 z, V.list (strs t) false, V.list (AY cm) false, V.int IntKind.i64 mi, V.int IntKind.i64 ma, V.int IntKind.i64 ch, V.int IntKind.i64 rf, V.list (List.map Pct.enc pc) false]), (999, .arr 126 2 (An g6))]⟩) ?_ ?_
 ·intro KC12 hKC12
  refine Ag (AcJ (EF := EF0) hG AlK ?_)
  simp only [AlJ, go_sem, simprocAttr, ← hM1, ← hM2, JZ, BP, Du, Cn]
  and_intros <;> try exact sdA
  refine AH rfl (fun hb12 => ?_) fun hb12 => ?_
  ·refine Z 13 rfl ?_
   simp only [go_sem, simprocAttr, JZ, BP, Du, Cn]
   and_intros <;> try exact sdA
   refine hKC12 (g5 ++ [⟨2, Aix⟩]) _ ?_ ?_
   ·(try dsimp only); exact ⟨by rw [Dx (show (decide (ch < M1) || decide (M2 < ch) || decide (rf < M1) || decide (M2 < rf)) = true from hb12)], by simp⟩
   refine Le.mk _ _ ?_ ?_ rfl <;> simp only [go_sem, simprocAttr, List.length_append, List.length_cons, List.length_nil] <;> and_intros <;> try exact leA
  refine AG ?_
  refine hKC12 (g5) _ ?_ ?_
  ·(try dsimp only); exact ⟨by rw [Dy (show (decide (ch < M1) || decide (M2 < ch) || decide (rf < M1) || decide (M2 < rf)) = false from hb12), List.append_nil], by omega⟩
  exact leM
 rintro g6 ⟨hg6, lg6⟩
 obtain ⟨g7, hg7⟩ : ∃ g7, g7 = g6 ++ G2 := ⟨_, rfl⟩
 have hl7 : g6.length + G2.length = g7.length := by rw [hg7, List.length_append]
 refine Ag (Z 14 rfl ?_)
 simp only [go_sem, simprocAttr, o8, hpg, List.length_map, Bk, Gk, ← hg7, hl7, JZ, BP, Du, Cn]
 and_intros <;> try exact sdA
 refine TC.le (s' := ⟨mkE [(2, .list (An g7) false)], mkH []⟩) (Le.mk _ _ ?_ ?_ rfl) (DR (hQ _ _ (.inl rfl) ?_ ?_ ?_)) <;> simp only [go_sem, simprocAttr, vF]
 ·exact Cq rfl (by rw [Bk]) rfl (Bq _)
 refine ⟨g7, rfl, ?_, fun e => hpo ?_, ?_⟩
 ·show g7.length ≤ 2 * cm.length + 3 * pc.length + 6
  omega
 ·rw [hg7] at e; exact (List.append_eq_nil_iff.1 e).2
 rw [hg7, hg6, hg5, hg4, hg3, hg2, hg1]; exact (((((((FSm.nil.fif (by decide)).fif (by decide)).app hcs).fif (by decide)).fif (by decide)).fif (by decide)).app hps)
def Wv : Rule → List Fault := Rc.choose
theorem AgI : ∀ r : Rule, RuleOk r → Ain r (Wv r) := Rc.choose_spec.1
theorem AgH : PU 70 (gOf Uq fun r => (RuleOk r, vF (Wv r))) := Rc.choose_spec.2
theorem Adi (r : Rule) : gOf Uq (fun r => (RuleOk r, vF (Wv r))) [.agg r.enc] = (RuleOk r, .list (An (Wv r)) false) := Ar (F := fun r => (RuleOk r, vF (Wv r))) OB r
structure Link where
 from' : List UInt8
 to' : List UInt8
def Link.enc (x : Link) : List V := [.str x.from', .str x.to']
theorem Link.inj (a b : Link) (h : a.enc = b.enc) : a = b := by
 obtain ⟨a_from', a_to'⟩ := a
 obtain ⟨b_from', b_to'⟩ := b
 simp only [Link.enc, List.cons.injEq, V.str.injEq, V.int.injEq, V.bool.injEq, V.agg.injEq, V.list.injEq, and_true, true_and] at h
 obtain ⟨h0, h1⟩ := h
 subst h0
 subst h1
 rfl
def Link.ok (x : Link) : Prop := x.from'.length ≤ 140737488355328 ∧ x.to'.length ≤ 140737488355328
def Link.zero : Link := ⟨[], []⟩
theorem Link.rows (l : List Link) : (∀ r ∈ l.map Link.enc, r.length = 2) ↔ True := iff_true_intro fun r hr => by obtain ⟨x, _, rfl⟩ := List.mem_map.1 hr; rfl
theorem Link.purs (l : List Link) : (∀ r ∈ l.map Link.enc, V.purs r = true) ↔ True := iff_true_intro fun r hr => by obtain ⟨x, _, rfl⟩ := List.mem_map.1 hr; rfl
attribute [go_sem] Link.rows Link.purs
structure Routing where
 number : Int
 links : List Link
 miles : Int
def Routing.enc (x : Routing) : List V := [.int .i64 x.number, .list (x.links.map Link.enc) false, .int .i64 x.miles]
theorem Routing.inj (a b : Routing) (h : a.enc = b.enc) : a = b := by
 obtain ⟨a_number, a_links, a_miles⟩ := a
 obtain ⟨b_number, b_links, b_miles⟩ := b
 simp only [Routing.enc, List.cons.injEq, V.str.injEq, V.int.injEq, V.bool.injEq, V.agg.injEq, V.list.injEq, and_true, true_and] at h
 obtain ⟨h0, h1, h2⟩ := h
 subst h0
 replace h1 := Aw Link.inj h1
 subst h1
 subst h2
 rfl
def Routing.ok (x : Routing) : Prop := inI x.number ∧ (x.links.length ≤ 140737488355328 ∧ ∀ z ∈ x.links, z.ok) ∧ inI x.miles
def Routing.zero : Routing := ⟨0, [], 0⟩
theorem Routing.rows (l : List Routing) : (∀ r ∈ l.map Routing.enc, r.length = 3) ↔ True := iff_true_intro fun r hr => by obtain ⟨x, _, rfl⟩ := List.mem_map.1 hr; rfl
theorem Routing.purs (l : List Routing) : (∀ r ∈ l.map Routing.enc, V.purs r = true) ↔ True := iff_true_intro fun r hr => by obtain ⟨x, _, rfl⟩ := List.mem_map.1 hr; rfl
attribute [go_sem] Routing.rows Routing.purs
def aLk (x : List Link × List UInt8 × List UInt8) : List V := [.list (x.1.map Link.enc) false, .str x.2.1, .str x.2.2]
theorem TF (a b : List Link × List UInt8 × List UInt8) (h : aLk a = aLk b) : a = b := by
 obtain ⟨a_l, a_a, a_b⟩ := a
 obtain ⟨b_l, b_a, b_b⟩ := b
 simp only [aLk, List.cons.injEq, V.str.injEq, V.int.injEq, V.bool.injEq, V.agg.injEq, V.list.injEq, and_true, true_and] at h
 obtain ⟨h0, h1, h2⟩ := h
 replace h0 := Aw Link.inj h0
 subst h0
 subst h1
 subst h2
 rfl
def AiA (a b : List UInt8) (x : Link) : Bool := decide (x.from' = a) && decide (x.to' = b)
def XC (a b : List UInt8) : Int → List Link → Int
 | _, [] => -1
 | i, x :: l => if AiA a b x = true then i else XC a b (i + 1) l
def Afl (x : List Link × List UInt8 × List UInt8) : Prop × V := (x.1.length ≤ 140737488355328, .int .i64 (XC x.2.1 x.2.2 0 x.1))
theorem BB (l : List Link) (a b : List UInt8) : gOf aLk Afl [.list (l.map Link.enc) false, .str a, .str b] = (l.length ≤ 140737488355328, .int .i64 (XC a b 0 l)) := Ar TF (l, a, b)
theorem AdW : PU 130 (gOf aLk Afl) := by
 have hG := AC
 refine Ae0.a TF (by simp [aLk]) ?_
 rintro ⟨l, a, b⟩ hv C hN Q hQ
 have Z := Ae0.R EF0 hG hN
 replace hv : l.length ≤ 140737488355328 := hv
 refine Aa (Z 0 rfl ?_)
 simp only [go_sem, simprocAttr, aLk]
 refine Aa (Aa (Z 1 rfl ?_))
 simp only [go_sem, simprocAttr]
 refine Ad ?_
 refine Aj (α := Nat) (fun i => (i ≤ l.length) ∧ (XC a b 0 l = XC a b i (l.drop i))) (fun i => ⟨mkE [(0, V.list (List.map Link.enc l) false), (1, V.str a), (2, V.str b), (7, .int .i64 i)], mkH []⟩) (fun i => l.length - i) 0 ⟨Nat.zero_le _, rfl⟩ ?_ ?_
 ·exact leM
 rintro i ⟨hi, hx⟩ KL0 hKL0
 try dsimp only at *
 refine Aa (Aa (Z 2 rfl ?_))
 simp only [go_sem, simprocAttr, List.length_map]
 refine Ab rfl (fun hc2 => ?_) fun hc2 => ?_
 ·simp only [hcL] at hc2
  refine Ac ?_
  refine Aa (Ad ?_)
  rw [List.drop_eq_getElem_cons hc2, XC] at hx
  generalize hu : l[i] = u at hx
  obtain ⟨f, t⟩ := u
  unfold AiA at hx
  dsimp only at hx
  refine Aa (Z 4 rfl ?_)
  simp only [go_sem, simprocAttr, Af _ _ _ _ hc2, hc2, hu, Link.enc]
  and_intros <;> try exact sdA
  refine Ab rfl (fun hb4 => ?_) fun hb4 => ?_
  ·rw [if_pos hb4] at hx
   refine Aa (Z 5 rfl ?_)
   simp only [go_sem, simprocAttr]
   refine Ae (hQ _ _ (.inl rfl) ?_ ?_ ?_) <;> simp only [go_sem, simprocAttr, Afl, hx]
  rw [if_neg (by rw [hb4]; decide)] at hx
  refine Ac ?_
  refine Z 3 rfl ?_
  simp only [go_sem, simprocAttr, inI]
  and_intros <;> try exact sdA
  refine hKL0 (i + 1) _ ?_ ?_ ?_
  ·(try dsimp only); exact ⟨hc2, hx⟩
  ·(try dsimp only); omega
  exact leM
 simp only [hcL] at hc2
 rw [List.drop_eq_nil_of_le (by omega), XC] at hx
 refine Ai ?_
 simp only [go_sem, simprocAttr]
 refine Aa (Z 6 rfl ?_)
 simp only [go_sem, simprocAttr]
 refine Ae (hQ _ _ (.inl rfl) ?_ ?_ ?_) <;> simp only [go_sem, simprocAttr, Afl, hx]
def Af3 : List UInt8 := [110, 117, 109, 98, 101, 114]
def Af6 : List UInt8 := [108, 105, 110, 107, 115]
def sLk : List UInt8 := [108, 105, 110, 107, 32]
def Af4 : List UInt8 := [109, 105, 108, 101, 115]
def lkA (x : Link) : Bool := !CO 3 x.from' || !CO 3 x.to'
def lkC (l : List Link) (i : Nat) (x : Link) : Bool := decide (0 ≤ XC x.from' x.to' 0 (l.take i))
def Pl (l : List Link) (i : Nat) (x : Link) : List Fault := fIf (lkA x) 5 (sLk ++ dec i) ++ fIf (decide (x.from' = x.to')) 2 (sLk ++ dec i) ++ fIf (lkC l i x) 6 (sLk ++ dec i)
def NA (l : List Link) : Nat → List Fault
 | 0 => []
 | i + 1 => NA l i ++ Pl l i (l.getD i Link.zero)
def AbU (r : Routing) : List Fault := fIf (decide (r.number < 1) || decide (9999 < r.number)) 2 Af3 ++ fIf (decide (128 < (r.links.length : Int))) 4 Af6 ++ (if (r.links.length : Int) ≤ 128 then NA r.links r.links.length else []) ++ fIf (decide (r.miles < 0) || decide (99999 < r.miles)) 2 Af4
def aRg (x : Routing) : List V := [.agg x.enc]
theorem Tz (a b : Routing) (h : aRg a = aRg b) : a = b := by
 simp only [aRg, List.cons.injEq, V.str.injEq, V.int.injEq, V.bool.injEq, V.agg.injEq, V.list.injEq, and_true, true_and] at h
 have h0 := h
 replace h0 := Routing.inj _ _ h0
 subst h0
 rfl
def fRg (r : Routing) : Prop × V := (r.ok ∧ r.links.length ≤ 1000000, .list (An (AbU r)) false)
def Hc : Tab
 | 68 => Jn
 | 129 => (gOf Ey (Ig 3))
 | 130 => (gOf aLk Afl)
 | _ => gNo
theorem Zr : ∀ f, PU f (Hc f) := fun f => by
 unfold Hc
 split
 ·exact DU
 ·exact Gf
 ·exact AdW
 ·exact Ao.no
theorem Pd : PU 71 (gOf aRg fRg) := by
 have hG := Zr
 refine AiQ.a Tz (by simp [aRg]) ?_
 rintro ⟨n, l, mi⟩ hv C hN Q hQ
 have Y := AiQ.D EF0 hG hN mixed
 have Z := AiQ.R EF0 hG hN
 obtain ⟨hok, hl⟩ : (Routing.mk n l mi).ok ∧ l.length ≤ 1000000 := hv
 simp only [Routing.ok] at hok
 obtain ⟨_, ⟨_, hlo⟩, _⟩ := hok
 refine Aa (Z 0 rfl ?_)
 simp only [go_sem, simprocAttr, aRg, Routing.enc, Hc, Am, BB]
 refine Aa (Z 1 rfl ?_)
 simp only [go_sem, simprocAttr, Hc, Am, BB]
 refine AW.le (s' := ⟨mkE [(1, .ptr 1 0), (3, .own 999 0)], mkH ([(1, .box 140 [.int .i64 n, .list (l.map Link.enc) false, .int .i64 mi]), (999, .arr 126 2 (An []))])⟩) (Le.mk _ _ (by (simp only [go_sem, simprocAttr]) <;> and_intros <;> try exact leB) (by (simp only [go_sem, simprocAttr]) <;> and_intros <;> try exact leB) rfl) ?_
 refine BD (α := (List Fault)) (fun g1 => (g1 = ([] : List Fault) ++ fIf (decide (n < 1) || decide (9999 < n)) 2 (Af3)) ∧ (g1.length ≤ ([] : List Fault).length + 1)) (fun g1 => ⟨mkE [(1, V.ptr 1 0), (3, .own 999 g1.length)], mkH [(1, Ob.box 140 [V.int IntKind.i64 n, V.list (List.map Link.enc l) false, V.int IntKind.i64 mi]), (999, .arr 126 2 (An g1))]⟩) ?_ ?_
 ·intro KC2 hKC2
  refine Aa (Z 2 rfl ?_)
  simp only [go_sem, simprocAttr, Hc, Am, BB]
  and_intros <;> try exact sdA
  refine Ab rfl (fun hb2 => ?_) fun hb2 => ?_
  ·refine Z 3 rfl ?_
   simp only [go_sem, simprocAttr, Hc, Am, BB]
   and_intros <;> try exact sdA
   refine hKC2 (([] : List Fault) ++ [⟨2, Af3⟩]) _ ?_ ?_
   ·(try dsimp only); exact ⟨by rw [Dx (show (decide (n < 1) || decide (9999 < n)) = true from hb2)], by simp⟩
   refine Le.mk _ _ ?_ ?_ rfl <;> simp only [go_sem, simprocAttr, List.length_append, List.length_cons, List.length_nil] <;> and_intros <;> try exact leA
  refine Ac ?_
  refine hKC2 (([] : List Fault)) _ ?_ ?_
  ·(try dsimp only); exact ⟨by rw [Dy (show (decide (n < 1) || decide (9999 < n)) = false from hb2), List.append_nil], by omega⟩
  exact leM
 rintro g1 ⟨hg1, lg1⟩
 replace lg1 : g1.length ≤ 1 := lg1
 refine BD (α := (List Fault)) (fun g2 => (g2 = g1 ++ fIf (decide (128 < (l.length : Int))) 4 (Af6)) ∧ (g2.length ≤ g1.length + 1)) (fun g2 => ⟨mkE [(1, V.ptr 1 0), (3, .own 999 g2.length)], mkH [(1, Ob.box 140 [V.int IntKind.i64 n, V.list (List.map Link.enc l) false, V.int IntKind.i64 mi]), (999, .arr 126 2 (An g2))]⟩) ?_ ?_
 ·intro KC4 hKC4
  refine Aa (Z 4 rfl ?_)
  simp only [go_sem, simprocAttr, List.length_map, Hc, Am, BB]
  refine Ab rfl (fun hb4 => ?_) fun hb4 => ?_
  ·refine Z 5 rfl ?_
   simp only [go_sem, simprocAttr, Hc, Am, BB]
   and_intros <;> try exact sdA
   refine hKC4 (g1 ++ [⟨4, Af6⟩]) _ ?_ ?_
   ·(try dsimp only); exact ⟨by rw [Dx (show (decide (128 < (l.length : Int))) = true from hb4)], by simp⟩
   refine Le.mk _ _ ?_ ?_ rfl <;> simp only [go_sem, simprocAttr, List.length_append, List.length_cons, List.length_nil] <;> and_intros <;> try exact leA
  refine Ac ?_
  refine hKC4 (g1) _ ?_ ?_
  ·(try dsimp only); exact ⟨by rw [Dy (show (decide (128 < (l.length : Int))) = false from hb4), List.append_nil], by omega⟩
  exact leM
 rintro g2 ⟨hg2, lg2⟩
 refine Aa (Aa (Z 6 rfl ?_))
 simp only [go_sem, simprocAttr, Hc, Am, BB]
 refine Ad ?_
 refine Aj (α := Nat × (List Fault)) (fun γ => (γ.1 ≤ l.length) ∧ (128 < l.length → γ.1 = 0) ∧ (γ.2 = g2 ++ NA l γ.1) ∧ (γ.2.length ≤ g2.length + 3 * γ.1)) (fun γ => ⟨mkE [(1, V.ptr 1 0), (3, .own 999 γ.2.length), (4, .int .i64 γ.1)], mkH [(1, Ob.box 140 [V.int IntKind.i64 n, V.list (List.map Link.enc l) false, V.int IntKind.i64 mi]), (999, .arr 126 2 (An γ.2))]⟩) (fun γ => l.length - γ.1) (0, g2) ⟨Nat.zero_le _, fun _ => rfl, by rw [NA, List.append_nil], Nat.le_refl _⟩ ?_ ?_
 ·exact leM
 rintro ⟨i, g⟩ ⟨hi, h8, hg, hgl⟩ KL0 hKL0
 try dsimp only at *
 refine Aa (Aa (Z 7 rfl ?_))
 simp only [go_sem, simprocAttr, List.length_map, Hc, Am, BB]
 and_intros <;> try exact sdA
 refine Ab rfl (fun hb7 => ?_) fun hb7 => ?_
 ·obtain ⟨hil, h128⟩ : i < l.length ∧ l.length ≤ 128 := by simp only [Bool.and_eq_true, decide_eq_true_eq] at hb7; omega
  have hxo := hlo _ (List.getElem_mem hil)
  have hst : NA l (i + 1) = NA l i ++ Pl l i (l.getD i Link.zero) := rfl
  rw [BX _ _ _ hil] at hst
  generalize hxx : l[i] = x at hxo hst
  obtain ⟨f, t⟩ := x
  obtain ⟨hf, ht⟩ := hxo
  dsimp only at hf ht
  refine Ac ?_
  refine Aa (Ad ?_)
  refine Aa (Z 9 rfl ?_)
  simp only [go_sem, simprocAttr, Af _ _ _ _ hil, hil, hxx, Link.enc, Hc, Am, BB]
  and_intros <;> try exact sdA
  have hd := CB (i := i) (by omega)
  have hi2 := GA (i := i) (by omega)
  refine Aa (Z 10 rfl ?_)
  simp only [go_sem, simprocAttr, inI, Ah, hi2, Hc, Am, BB]
  and_intros <;> (try first | exact sdA | (simp only [List.length_append, List.length_cons, List.length_nil]; omega))
  refine BD (α := (List Fault)) (fun f1 => (f1 = g ++ fIf (lkA ⟨f, t⟩) 5 (sLk ++ dec i)) ∧ (f1.length ≤ g.length + 1)) (fun f1 => ⟨mkE [(1, V.ptr 1 0), (3, .own 999 f1.length), (4, V.int IntKind.i64 ↑i), (5, V.ptr 5 0), (6, V.str (108 :: 105 :: 110 :: 107 :: 32 :: dec ↑i))], mkH [(1, Ob.box 140 [V.int IntKind.i64 n, V.list (List.map Link.enc l) false, V.int IntKind.i64 mi]), (5, Ob.box 194 [V.str f, V.str t]), (999, .arr 126 2 (An f1))]⟩) ?_ ?_
  ·intro KC11 hKC11
   refine Aa (Z 11 rfl ?_)
   simp only [go_sem, simprocAttr, hf, ht, Hc, Am, BB]
   and_intros <;> try exact sdA
   refine Ab rfl (fun hb11 => ?_) fun hb11 => ?_
   ·refine Z 12 rfl ?_
    simp only [go_sem, simprocAttr, Hc, Am, BB]
    and_intros <;> try exact sdA
    refine hKC11 (g ++ [⟨5, sLk ++ dec i⟩]) _ ?_ ?_
    ·(try dsimp only); exact ⟨by rw [Dx (show (lkA ⟨f, t⟩) = true from hb11)], by simp⟩
    refine Le.mk _ _ ?_ ?_ rfl <;> simp only [go_sem, simprocAttr, List.length_append, List.length_cons, List.length_nil] <;> and_intros <;> try exact leA
   refine Ac ?_
   refine hKC11 (g) _ ?_ ?_
   ·(try dsimp only); exact ⟨by rw [Dy (show (lkA ⟨f, t⟩) = false from hb11), List.append_nil], by omega⟩
   exact leM
  rintro f1 ⟨hf1, lf1⟩
  refine BD (α := (List Fault)) (fun f2 => (f2 = f1 ++ fIf (decide (f = t)) 2 (sLk ++ dec i)) ∧ (f2.length ≤ f1.length + 1)) (fun f2 => ⟨mkE [(1, V.ptr 1 0), (3, .own 999 f2.length), (4, V.int IntKind.i64 ↑i), (5, V.ptr 5 0), (6, V.str (108 :: 105 :: 110 :: 107 :: 32 :: dec ↑i))], mkH [(1, Ob.box 140 [V.int IntKind.i64 n, V.list (List.map Link.enc l) false, V.int IntKind.i64 mi]), (5, Ob.box 194 [V.str f, V.str t]), (999, .arr 126 2 (An f2))]⟩) ?_ ?_
  ·intro KC13 hKC13
   refine Aa (Z 13 rfl ?_)
   simp only [go_sem, simprocAttr, Hc, Am, BB]
   refine Ab rfl (fun hb13 => ?_) fun hb13 => ?_
   ·refine Z 14 rfl ?_
    simp only [go_sem, simprocAttr, Hc, Am, BB]
    and_intros <;> try exact sdA
    refine hKC13 (f1 ++ [⟨2, sLk ++ dec i⟩]) _ ?_ ?_
    ·(try dsimp only); exact ⟨by rw [Dx (show (decide (f = t)) = true from hb13)], by simp⟩
    refine Le.mk _ _ ?_ ?_ rfl <;> simp only [go_sem, simprocAttr, List.length_append, List.length_cons, List.length_nil] <;> and_intros <;> try exact leA
   refine Ac ?_
   refine hKC13 (f1) _ ?_ ?_
   ·(try dsimp only); exact ⟨by rw [Dy (show (decide (f = t)) = false from hb13), List.append_nil], by omega⟩
   exact leM
  rintro f2 ⟨hf2, lf2⟩
  have htk : (l.take i).length ≤ 140737488355328 := by rw [List.length_take]; omega
  refine Aa (Y 15 rfl (by kernel_rfl) ?_)
  simp only [go_sem, simprocAttr, List.length_map, ← List.map_take, htk, Hc, Am, BB]
  and_intros <;> try exact sdA
  refine Ab rfl (fun hb15 => ?_) fun hb15 => ?_
  ·refine Z 16 rfl ?_
   simp only [go_sem, simprocAttr, Hc, Am, BB]
   and_intros <;> try exact sdA
   refine Z 8 rfl ?_
   simp only [go_sem, simprocAttr, inI, Hc, Am, BB]
   and_intros <;> try exact sdA
   refine hKL0 (i + 1, f2 ++ [⟨6, sLk ++ dec i⟩]) _ ?_ ?_ ?_
   ·(try dsimp only); refine ⟨hil, fun h => by omega, ?_, by simp only [List.length_append, List.length_cons, List.length_nil]; omega⟩; rw [hst, Pl, Dx (b := lkC l i ⟨f, t⟩) hb15, hf2, hf1, hg]; simp only [List.append_assoc]
   ·(try dsimp only); omega
   refine Le.mk _ _ ?_ ?_ rfl <;> simp only [go_sem, simprocAttr, List.length_append, List.length_cons, List.length_nil] <;> and_intros <;> try exact leA
  refine Ac ?_
  refine Z 8 rfl ?_
  simp only [go_sem, simprocAttr, inI, Hc, Am, BB]
  and_intros <;> try exact sdA
  refine hKL0 (i + 1, f2) _ ?_ ?_ ?_
  ·(try dsimp only); refine ⟨hil, fun h => by omega, ?_, by omega⟩; rw [hst, Pl, Dy (b := lkC l i ⟨f, t⟩) hb15, hf2, hf1, hg]; simp only [List.append_assoc, List.append_nil]
  ·(try dsimp only); omega
  exact leM
 have hg0 : g = g2 ++ (if (l.length : Int) ≤ 128 then NA l l.length else []) := by (rw [hg]; by_cases h : l.length ≤ 128; (rw [if_pos (by omega)]; have : i = l.length := by simp only [Bool.and_eq_false_iff, decide_eq_false_iff_not] at hb7; omega); (rw [this]); (rw [if_neg (by omega), h8 (by omega), NA]))
 refine Ai ?_
 simp only [go_sem, simprocAttr]
 refine BD (α := (List Fault)) (fun g3 => (g3 = g ++ fIf (decide (mi < 0) || decide (99999 < mi)) 2 (Af4)) ∧ (g3.length ≤ g.length + 1)) (fun g3 => ⟨mkE [(3, .own 999 g3.length)], mkH [(999, .arr 126 2 (An g3))]⟩) ?_ ?_
 ·intro KC17 hKC17
  refine Aa (Z 17 rfl ?_)
  simp only [go_sem, simprocAttr, Hc, Am, BB]
  and_intros <;> try exact sdA
  refine Ab rfl (fun hb17 => ?_) fun hb17 => ?_
  ·refine Z 18 rfl ?_
   simp only [go_sem, simprocAttr, Hc, Am, BB]
   and_intros <;> try exact sdA
   refine hKC17 (g ++ [⟨2, Af4⟩]) _ ?_ ?_
   ·(try dsimp only); exact ⟨by rw [Dx (show (decide (mi < 0) || decide (99999 < mi)) = true from hb17)], by simp⟩
   refine Le.mk _ _ ?_ ?_ rfl <;> simp only [go_sem, simprocAttr, List.length_append, List.length_cons, List.length_nil] <;> and_intros <;> try exact leA
  refine Ac ?_
  refine hKC17 (g) _ ?_ ?_
  ·(try dsimp only); exact ⟨by rw [Dy (show (decide (mi < 0) || decide (99999 < mi)) = false from hb17), List.append_nil], by omega⟩
  exact leM
 rintro g3 ⟨hg3, lg3⟩
 refine Aa (Z 19 rfl ?_)
 simp only [go_sem, simprocAttr, Hc, Am, BB]
 refine AW.le (s' := ⟨mkE [(2, .list (An g3) false)], mkH []⟩) (Le.mk _ _ ?_ ?_ rfl) (Ae (hQ _ _ (.inl rfl) ?_ ?_ ?_)) <;> simp only [go_sem, simprocAttr, fRg]
 ·exact Cq rfl (by rw [Bk]) rfl (Bq _)
 rw [hg3, hg0, hg2, hg1]; rfl
structure Tax where
 code : List UInt8
 kind : Int
 country : List UInt8
 amount : Int
 scope : Int
 transit : Int
 free : List (List UInt8)
def Tax.enc (x : Tax) : List V := [.str x.code, .int .i64 x.kind, .str x.country, .int .i64 x.amount, .int .i64 x.scope, .int .i64 x.transit, .list (strs x.free) false]
theorem Tax.inj (a b : Tax) (h : a.enc = b.enc) : a = b := by
 obtain ⟨a_code, a_kind, a_country, a_amount, a_scope, a_transit, a_free⟩ := a
 obtain ⟨b_code, b_kind, b_country, b_amount, b_scope, b_transit, b_free⟩ := b
 simp only [Tax.enc, List.cons.injEq, V.str.injEq, V.int.injEq, V.bool.injEq, V.agg.injEq, V.list.injEq, and_true, true_and] at h
 obtain ⟨h0, h1, h2, h3, h4, h5, h6⟩ := h
 subst h0
 subst h1
 subst h2
 subst h3
 subst h4
 subst h5
 replace h6 := IT h6
 subst h6
 rfl
def Tax.ok (x : Tax) : Prop := x.code.length ≤ 140737488355328 ∧ inI x.kind ∧ x.country.length ≤ 140737488355328 ∧ inI x.amount ∧ inI x.scope ∧ inI x.transit ∧ (x.free.length ≤ 140737488355328 ∧ ∀ z ∈ x.free, z.length ≤ 140737488355328)
def Tax.zero : Tax := ⟨[], 0, [], 0, 0, 0, []⟩
theorem Tax.rows (l : List Tax) : (∀ r ∈ l.map Tax.enc, r.length = 7) ↔ True := iff_true_intro fun r hr => by obtain ⟨x, _, rfl⟩ := List.mem_map.1 hr; rfl
theorem Tax.purs (l : List Tax) : (∀ r ∈ l.map Tax.enc, V.purs r = true) ↔ True := iff_true_intro fun r hr => by obtain ⟨x, _, rfl⟩ := List.mem_map.1 hr; rfl
attribute [go_sem] Tax.rows Tax.purs
def Wn (s : List UInt8) : Bool := !Dt s 3 3
def isS (s : List UInt8) (t : List UInt8) : Bool := decide (s = t)
def EZ (x : Tax) : Bool := Dt x.code 2 2 && CO 2 x.country && !x.free.any Wn
def KH (k : Int) : Int := if k = 4 then 100000 else 1099511627776
def Yj (x : Tax) : List V := [.agg x.enc]
theorem Oz (a b : Tax) (h : Yj a = Yj b) : a = b := by
 simp only [Yj, List.cons.injEq, V.str.injEq, V.int.injEq, V.bool.injEq, V.agg.injEq, V.list.injEq, and_true, true_and] at h
 have h0 := h
 replace h0 := Tax.inj _ _ h0
 subst h0
 rfl
def ID (x : Tax) : Prop × V := (x.ok, .bool (EZ x))
theorem Bz (a b c d e f g) : gOf Yj ID [.agg [.str a, .int .i64 b, .str c, .int .i64 d, .int .i64 e, .int .i64 f, .list (strs g) false]] = ((⟨a, b, c, d, e, f, g⟩ : Tax).ok, .bool (EZ ⟨a, b, c, d, e, f, g⟩)) := Ar Oz (⟨a, b, c, d, e, f, g⟩ : Tax)
def trN : Tab
 | 23 => BS
 | 131 => (gOf Ey (Ig 2))
 | _ => gNo
theorem Aco : ∀ f, PU f (trN f) := fun f => by
 unfold trN
 split
 ·exact Hm
 ·exact Hj
 ·exact Ao.no
theorem VE : PU 72 (gOf Yj ID) := by
 have hG := Aco
 refine AiP.a Oz (by simp [Yj]) ?_
 rintro ⟨a, b, c, d, e, f, g⟩ hv C hN Q hQ
 have Z := AiP.R EF0 hG hN
 obtain ⟨h1, h2, h3, h4, h5, h6, h7, h8⟩ : (⟨a, b, c, d, e, f, g⟩ : Tax).ok := hv
 dsimp only at h1 h3 h7 h8
 refine Aa (Z 0 rfl ?_)
 simp only [go_sem, simprocAttr, Yj, Tax.enc, trN, Ap, Am]
 refine Aa (Aa (Z 1 rfl ?_))
 simp only [go_sem, simprocAttr, h1, h3, trN, Ap, Am]
 and_intros <;> try exact sdA
 refine Ab rfl (fun hb1 => ?_) fun hb1 => ?_
 ·refine Aa (Z 2 rfl ?_)
  simp only [go_sem, simprocAttr, trN, Ap, Am]
  refine Ae (hQ _ _ (.inl rfl) ?_ ?_ ?_) <;> simp only [go_sem, simprocAttr, ID]
  unfold EZ; dsimp only; rw [show (Dt a 2 2 && CO 2 c) = false by revert hb1; cases Dt a 2 2 <;> cases CO 2 c <;> simp]; rfl
 refine Ac ?_
 refine Aa ?_
 have hcc : (Dt a 2 2 && CO 2 c) = true := by revert hb1; cases Dt a 2 2 <;> cases CO 2 c <;> simp
 refine Aa (Z 3 rfl ?_)
 simp only [go_sem, simprocAttr, trN, Ap, Am]
 refine Ad ?_
 refine Aj (α := Nat) (fun i => (i ≤ g.length) ∧ (∀ s ∈ g.take i, Wn s = false)) (fun i => ⟨mkE [(1, V.ptr 1 0), (3, .int .i64 i)], mkH [(1, Ob.box 143 [V.str a, V.int IntKind.i64 b, V.str c, V.int IntKind.i64 d, V.int IntKind.i64 e, V.int IntKind.i64 f, V.list (strs g) false])]⟩) (fun i => g.length - i) 0 (by simp) ?_ ?_
 ·exact leM
 rintro i ⟨hi, hp⟩ KL0 hKL0
 try dsimp only at *
 refine Aa (Aa (Z 4 rfl ?_))
 simp only [go_sem, simprocAttr, trN, Ap, Am]
 refine Ab rfl (fun hc4 => ?_) fun hc4 => ?_
 ·simp only [hcL] at hc4
  refine Ac ?_
  refine Aa (Ad ?_)
  have hsi := h8 _ (List.getElem_mem hc4)
  refine Aa (Z 6 rfl ?_)
  simp only [go_sem, simprocAttr, DS _ _ _ hc4, hc4, hsi, trN, Ap, Am]
  and_intros <;> try exact sdA
  refine Ab rfl (fun hb6 => ?_) fun hb6 => ?_
  ·refine Aa (Z 7 rfl ?_)
   simp only [go_sem, simprocAttr, trN, Ap, Am]
   refine Ae (hQ _ _ (.inl rfl) ?_ ?_ ?_) <;> simp only [go_sem, simprocAttr, ID]
   unfold EZ; dsimp only; rw [hcc, Yi (p := Wn) hc4 hb6]; rfl
  refine Ac ?_
  refine Z 5 rfl ?_
  simp only [go_sem, simprocAttr, inI, trN, Ap, Am]
  and_intros <;> try exact sdA
  refine hKL0 (i + 1) _ ?_ ?_ ?_
  ·(try dsimp only); exact ⟨hc4, Dz hc4 hp hb6⟩
  ·(try dsimp only); omega
  exact leM
 simp only [hcL] at hc4
 refine Ai ?_
 simp only [go_sem, simprocAttr]
 refine Aa (Z 8 rfl ?_)
 simp only [go_sem, simprocAttr, trN, Ap, Am]
 refine Ae (hQ _ _ (.inl rfl) ?_ ?_ ?_) <;> simp only [go_sem, simprocAttr, ID]
 unfold EZ; dsimp only; rw [hcc, Yh (p := Wn) hc4 hp]; rfl
def Sv (k : Int) : Prop × V := (True, .int .i64 (KH k))
theorem BV (k : Int) : gOf Eb Sv [.int .i64 k] = (True, .int .i64 (KH k)) := Ar Cb k
theorem Aad : PU 73 (gOf Eb Sv) := by
 have hG := AC
 refine AiO.a Cb (by simp [Eb]) ?_
 rintro k hv C hN Q hQ
 have Z := AiO.R EF0 hG hN
 refine Aa (Z 0 rfl ?_)
 simp only [go_sem, simprocAttr, Eb]
 refine Aa (Aa (Z 1 rfl ?_))
 simp only [go_sem, simprocAttr]
 refine Ab rfl (fun hb => ?_) fun hb => ?_
 ·refine Aa (Z 2 rfl ?_)
  simp only [go_sem, simprocAttr]
  refine Ae (hQ _ _ (.inl rfl) ?_ ?_ ?_) <;> simp only [go_sem, simprocAttr, Sv]
  unfold KH; rw [if_pos (of_decide_eq_true hb)]
 refine Ac ?_
 refine Aa (Z 3 rfl ?_)
 simp only [go_sem, simprocAttr]
 refine Ae (hQ _ _ (.inl rfl) ?_ ?_ ?_) <;> simp only [go_sem, simprocAttr, Sv]
 unfold KH; rw [if_neg (of_decide_eq_false hb)]
structure Fare where
 carrier : List UInt8
 from' : List UInt8
 to' : List UInt8
 basis : List UInt8
 cls : List UInt8
 round : Bool
 amount : Int
 rule : Int
 routing : Int
def Fare.enc (x : Fare) : List V := [.str x.carrier, .str x.from', .str x.to', .str x.basis, .str x.cls, .bool x.round, .int .i64 x.amount, .int .i64 x.rule, .int .i64 x.routing]
theorem Fare.inj (a b : Fare) (h : a.enc = b.enc) : a = b := by
 obtain ⟨a_carrier, a_from', a_to', a_basis, a_cls, a_round, a_amount, a_rule, a_routing⟩ := a
 obtain ⟨b_carrier, b_from', b_to', b_basis, b_cls, b_round, b_amount, b_rule, b_routing⟩ := b
 simp only [Fare.enc, List.cons.injEq, V.str.injEq, V.int.injEq, V.bool.injEq, V.agg.injEq, V.list.injEq, and_true, true_and] at h
 obtain ⟨h0, h1, h2, h3, h4, h5, h6, h7, h8⟩ := h
 subst h0
 subst h1
 subst h2
 subst h3
 subst h4
 subst h5
 subst h6
 subst h7
 subst h8
 rfl
def Fare.ok (x : Fare) : Prop := x.carrier.length ≤ 140737488355328 ∧ x.from'.length ≤ 140737488355328 ∧ x.to'.length ≤ 140737488355328 ∧ x.basis.length ≤ 140737488355328 ∧ x.cls.length ≤ 140737488355328 ∧ True ∧ inI x.amount ∧ inI x.rule ∧ inI x.routing
def Fare.zero : Fare := ⟨[], [], [], [], [], false, 0, 0, 0⟩
theorem Fare.rows (l : List Fare) : (∀ r ∈ l.map Fare.enc, r.length = 9) ↔ True := iff_true_intro fun r hr => by obtain ⟨x, _, rfl⟩ := List.mem_map.1 hr; rfl
theorem Fare.purs (l : List Fare) : (∀ r ∈ l.map Fare.enc, V.purs r = true) ↔ True := iff_true_intro fun r hr => by obtain ⟨x, _, rfl⟩ := List.mem_map.1 hr; rfl
attribute [go_sem] Fare.rows Fare.purs
abbrev Rule.ok (r : Rule) : Prop := RuleOk r
def Rule.zero : Rule := ⟨0, .mk 0 [] 0 0 ⟨0, 0, 0⟩ [], [], 0, 0, 0, 0, []⟩
instance : Inhabited Rule := ⟨Rule.zero⟩
instance : Inhabited Routing := ⟨Routing.zero⟩
structure Tariff where
 fares : List Fare
 rules : List Rule
 routings : List Routing
 taxes : List Tax
def Tariff.enc (x : Tariff) : List V := [.list (x.fares.map Fare.enc) false, .list (x.rules.map Rule.enc) false, .list (x.routings.map Routing.enc) false, .list (x.taxes.map Tax.enc) false]
theorem Tariff.inj (a b : Tariff) (h : a.enc = b.enc) : a = b := by
 obtain ⟨a_fares, a_rules, a_routings, a_taxes⟩ := a
 obtain ⟨b_fares, b_rules, b_routings, b_taxes⟩ := b
 simp only [Tariff.enc, List.cons.injEq, V.str.injEq, V.int.injEq, V.bool.injEq, V.agg.injEq, V.list.injEq, and_true, true_and] at h
 obtain ⟨h0, h1, h2, h3⟩ := h
 replace h0 := Aw Fare.inj h0
 subst h0
 replace h1 := Aw Rule.inj h1
 subst h1
 replace h2 := Aw Routing.inj h2
 subst h2
 replace h3 := Aw Tax.inj h3
 subst h3
 rfl
theorem Tariff.rows (l : List Tariff) : (∀ r ∈ l.map Tariff.enc, r.length = 4) ↔ True := iff_true_intro fun r hr => by obtain ⟨x, _, rfl⟩ := List.mem_map.1 hr; rfl
theorem Tariff.purs (l : List Tariff) : (∀ r ∈ l.map Tariff.enc, V.purs r = true) ↔ True := iff_true_intro fun r hr => by obtain ⟨x, _, rfl⟩ := List.mem_map.1 hr; rfl
attribute [go_sem] Tariff.rows Tariff.purs
def vBB (b : Bool) : V := .bool b
def Xd (x : Places × List UInt8) : List V := [.agg x.1.enc, .str x.2]
theorem OE (a b : Places × List UInt8) (h : Xd a = Xd b) : a = b := by
 obtain ⟨a_p, a_c⟩ := a
 obtain ⟨b_p, b_c⟩ := b
 simp only [Xd, List.cons.injEq, V.str.injEq, V.int.injEq, V.bool.injEq, V.agg.injEq, V.list.injEq, and_true, true_and] at h
 obtain ⟨h0, h1⟩ := h
 replace h0 := Places.inj _ _ h0
 subst h0
 subst h1
 rfl
def LnP (p : Places) : Prop := p.airports.length ≤ 1000000 ∧ p.distances.length ≤ 1000000
theorem RV : ∃ F : Places × List UInt8 → Bool, (∀ x, LnP x.1 → RT x (F x)) ∧ PU 124 (gOf Xd fun x => (LnP x.1, vBB (F x))) := by
 have hG := AC
 refine Ae6.p (val := vBB) (R := RT) OE (by simp [Xd]) ?_
 rintro ⟨⟨ps, ds⟩, c⟩ hv Q hQ
 have Z := Ae6.T EF0 hG
 obtain ⟨h1, h2⟩ : LnP ⟨ps, ds⟩ := hv
 dsimp only at h1 h2
 refine Ag (Z 0 rfl ?_)
 simp only [go_sem, simprocAttr, Xd, Places.enc]
 refine Ag (Ag (Z 1 rfl ?_))
 simp only [go_sem, simprocAttr]
 refine AN ?_
 refine CI (α := Nat) (fun i => (i ≤ ps.length)) (fun i => ⟨mkE [(1, V.str c), (2, V.ptr 2 0), (5, .int .i64 i)], mkH [(2, Ob.box 25 [V.list (List.map Airport.enc ps) false, V.list (List.map Distance.enc ds) false])]⟩) (fun i => ps.length - i) 0 (Nat.zero_le _) ?_ ?_
 ·exact leM
 rintro i hi KL0 hKL0
 try dsimp only at *
 refine Ag (Ag (Z 2 rfl ?_))
 simp only [go_sem, simprocAttr, List.length_map]
 refine AH rfl (fun hc2 => ?_) fun hc2 => ?_
 ·simp only [hcL] at hc2
  refine AG ?_
  refine Ag (AN ?_)
  refine Ag (Z 4 rfl ?_)
  simp only [go_sem, simprocAttr, Af _ _ _ _ hc2, hc2, Airport.enc, List.length_map]
  and_intros <;> try exact sdA
  refine AH rfl (fun hc4 => ?_) fun hc4 => ?_
  ·simp only [hcL] at hc4
   refine Ag (Z 5 rfl ?_)
   simp only [go_sem, simprocAttr]
   refine DR (hQ _ _ (.inl rfl) ?_ ?_ ?_) <;> simp only [go_sem, simprocAttr, vBB]
   exact ⟨true, rfl, trivial⟩
  simp only [hcL] at hc4
  refine AG ?_
  refine Z 3 rfl ?_
  simp only [go_sem, simprocAttr, inI]
  and_intros <;> try exact sdA
  refine hKL0 (i + 1) _ ?_ ?_ ?_
  ·(try dsimp only); exact hc2
  ·(try dsimp only); omega
  exact leM
 simp only [hcL] at hc2
 refine CJ ?_
 simp only [go_sem, simprocAttr]
 refine Ag (Z 6 rfl ?_)
 simp only [go_sem, simprocAttr]
 refine DR (hQ _ _ (.inl rfl) ?_ ?_ ?_) <;> simp only [go_sem, simprocAttr, vBB]
 exact ⟨false, rfl, trivial⟩
def Aa4 : Places × List UInt8 → Bool := RV.choose
theorem AaS : PU 124 (gOf Xd fun x => (LnP x.1, vBB (Aa4 x))) := RV.choose_spec.2
theorem By (ps : List Airport) (ds : List Distance) (c : List UInt8) : gOf Xd (fun x => (LnP x.1, vBB (Aa4 x))) [.agg [.list (ps.map Airport.enc) false, .list (ds.map Distance.enc) false], .str c] = (LnP ⟨ps, ds⟩, .bool (Aa4 (⟨ps, ds⟩, c))) := Ar (F := fun x => (LnP x.1, vBB (Aa4 x))) OE (⟨ps, ds⟩, c)
structure TarOk (t : Tariff) : Prop where
 f : t.fares.length ≤ 1000000
 r : t.rules.length ≤ 1000000
 g : t.routings.length ≤ 1000000
 x : t.taxes.length ≤ 1000000
 fo : ∀ z ∈ t.fares, z.ok
 ro : ∀ z ∈ t.rules, z.ok
 go : ∀ z ∈ t.routings, z.ok ∧ z.links.length ≤ 1000000
 xo : ∀ z ∈ t.taxes, z.ok
def aTN (x : Tariff × Int) : List V := [.agg x.1.enc, .int .i64 x.2]
theorem JO (a b : Tariff × Int) (h : aTN a = aTN b) : a = b := by
 obtain ⟨a_t, a_n⟩ := a
 obtain ⟨b_t, b_n⟩ := b
 simp only [aTN, List.cons.injEq, V.str.injEq, V.int.injEq, V.bool.injEq, V.agg.injEq, V.list.injEq, and_true, true_and] at h
 obtain ⟨h0, h1⟩ := h
 replace h0 := Tariff.inj _ _ h0
 subst h0
 subst h1
 rfl
def vRB (y : Rule × Bool) : V := .tup [.agg y.1.enc, .bool y.2]
def RRl (x : Tariff × Int) (y : Rule × Bool) : Prop := y = (Rule.zero, false) ∨ y.2 = true ∧ y.1 ∈ x.1.rules
theorem Rule.enc_at (a1 : Int) (k : Int) (l : List Cond) (a b x y z : Int) (t : List (List UInt8)) (a3 : List Int) (a4 a5 a6 a7 : Int) (a8 : List Pct) : (Rule.mk a1 (.mk k l a b ⟨x, y, z⟩ t) a3 a4 a5 a6 a7 a8).enc = [.int .i64 a1, .int .i64 k, .list (l.map Cond.enc) false, .int .i64 a, .int .i64 b, .int .i64 x, .int .i64 y, .int .i64 z, .list (strs t) false, .list (AY a3) false, .int .i64 a4, .int .i64 a5, .int .i64 a6, .int .i64 a7, .list (a8.map Pct.enc) false] := by unfold Rule.enc; rw [Cond.enc_eq]; rfl
def Rule.Z : List V := [.int .i64 0, .int .i64 0, .list [] false, .int .i64 0, .int .i64 0, .int .i64 0, .int .i64 0, .int .i64 0, .list [] false, .list [] false, .int .i64 0, .int .i64 0, .int .i64 0, .int .i64 0, .list [] false]
theorem Rule.enc_zero : Rule.zero.enc = Rule.Z := Rule.enc_at ..
theorem Adh : ∃ F : Tariff × Int → Rule × Bool, (∀ x, TarOk x.1 → RRl x (F x)) ∧ PU 95 (gOf aTN fun x => (TarOk x.1, vRB (F x))) := by
 have hG := AC
 refine AiD.p (val := vRB) (R := RRl) JO (by simp [aTN]) ?_
 rintro ⟨⟨fs, rs, gs, xs⟩, n⟩ hv Q hQ
 have Z := AiD.T EF0 hG
 have hl : rs.length ≤ 1000000 := (show TarOk ⟨fs, rs, gs, xs⟩ from hv).r
 refine Ag (Z 0 rfl ?_)
 simp only [go_sem, simprocAttr, aTN, Tariff.enc]
 refine Ag (Ag (Z 1 rfl ?_))
 simp only [go_sem, simprocAttr]
 refine AN ?_
 refine CI (α := Nat) (fun i => (i ≤ rs.length)) (fun i => ⟨mkE [(1, V.int IntKind.i64 n), (2, V.ptr 2 0), (4, V.ptr 4 0), (6, .int .i64 i)], mkH [(2, Ob.box 31 [V.list (List.map Fare.enc fs) false, V.list (List.map Rule.enc rs) false, V.list (List.map Routing.enc gs) false, V.list (List.map Tax.enc xs) false]), (4, Ob.box 135 [V.int IntKind.i64 0, V.int IntKind.i64 0, V.nils, V.int IntKind.i64 0, V.int IntKind.i64 0, V.int IntKind.i64 0, V.int IntKind.i64 0, V.int IntKind.i64 0, V.nils, V.nils, V.int IntKind.i64 0, V.int IntKind.i64 0, V.int IntKind.i64 0, V.int IntKind.i64 0, V.nils])]⟩) (fun i => rs.length - i) 0 (Nat.zero_le _) ?_ ?_
 ·exact leM
 rintro i hi KL0 hKL0
 try dsimp only at *
 refine Ag (Ag (Z 2 rfl ?_))
 simp only [go_sem, simprocAttr, List.length_map]
 refine AH rfl (fun hc2 => ?_) fun hc2 => ?_
 ·simp only [hcL] at hc2
  refine AG ?_
  refine Ag (AN ?_)
  obtain ⟨⟨a1, ⟨k, l, a, b, ⟨x, y, z⟩, t⟩, a3, a4, a5, a6, a7, a8⟩, hr⟩ : ∃ r, r = rs[i] := ⟨_, rfl⟩
  refine Ag (Z 4 rfl ?_)
  simp only [go_sem, simprocAttr, Af _ _ _ _ hc2, hc2, List.length_map, ← hr, Rule.enc_at]
  and_intros <;> try exact sdA
  refine AH rfl (fun hc4 => ?_) fun hc4 => ?_
  ·simp only [hcL] at hc4
   refine Ag (Z 5 rfl ?_)
   simp only [go_sem, simprocAttr, Af _ _ _ _ hc2, hc2, List.length_map, ← hr, Rule.enc_at]
   and_intros <;> try exact sdA
   refine DR (hQ _ _ (.inl rfl) ?_ ?_ ?_) <;> simp only [go_sem, simprocAttr, vRB]
   exact ⟨(rs[i], true), by rw [← hr, Rule.enc_at], .inr ⟨rfl, List.getElem_mem hc2⟩⟩
  simp only [hcL] at hc4
  refine AG ?_
  refine Z 3 rfl ?_
  simp only [go_sem, simprocAttr, inI]
  and_intros <;> try exact sdA
  refine hKL0 (i + 1) _ ?_ ?_ ?_
  ·(try dsimp only); exact hc2
  ·(try dsimp only); omega
  exact leM
 simp only [hcL] at hc2
 refine CJ ?_
 simp only [go_sem, simprocAttr]
 refine Ag (Z 6 rfl ?_)
 simp only [go_sem, simprocAttr]
 refine TC.le (s' := ⟨mkE [(4, .ptr 4 0), (5, .bool false)], mkH [(4, .box 135 Rule.Z)]⟩) (Le.mk _ _ ?_ ?_ rfl) (DR (hQ _ _ (.inl rfl) ?_ ?_ ?_)) <;> simp only [go_sem, simprocAttr, vRB, Rule.Z]
 exact ⟨(Rule.zero, false), by simp only [Rule.enc_zero, Rule.Z], .inl rfl⟩
def fRl : Tariff × Int → Rule × Bool := Adh.choose
theorem Akm : PU 95 (gOf aTN fun x => (TarOk x.1, vRB (fRl x))) := Adh.choose_spec.2
theorem EG (a : List Fare) (b : List Rule) (c : List Routing) (d : List Tax) (n : Int) : gOf aTN (fun x => (TarOk x.1, vRB (fRl x))) [.agg [.list (a.map Fare.enc) false, .list (b.map Rule.enc) false, .list (c.map Routing.enc) false, .list (d.map Tax.enc) false], .int .i64 n] = (TarOk ⟨a, b, c, d⟩, .tup [.agg (fRl (⟨a, b, c, d⟩, n)).1.enc, .bool (fRl (⟨a, b, c, d⟩, n)).2]) := Ar (F := fun x => (TarOk x.1, vRB (fRl x))) JO (⟨a, b, c, d⟩, n)
def vGB (y : Routing × Bool) : V := .tup [.agg y.1.enc, .bool y.2]
def RRg (x : Tariff × Int) (y : Routing × Bool) : Prop := y = (Routing.zero, false) ∨ y.2 = true ∧ y.1 ∈ x.1.routings
theorem Adk : ∃ F : Tariff × Int → Routing × Bool, (∀ x, TarOk x.1 → RRg x (F x)) ∧ PU 98 (gOf aTN fun x => (TarOk x.1, vGB (F x))) := by
 have hG := AC
 refine AiC.p (val := vGB) (R := RRg) JO (by simp [aTN]) ?_
 rintro ⟨⟨fs, rs, gs, xs⟩, n⟩ hv Q hQ
 have Z := AiC.T EF0 hG
 have hl : gs.length ≤ 1000000 := (show TarOk ⟨fs, rs, gs, xs⟩ from hv).g
 refine Ag (Z 0 rfl ?_)
 simp only [go_sem, simprocAttr, aTN, Tariff.enc]
 refine Ag (Ag (Z 1 rfl ?_))
 simp only [go_sem, simprocAttr]
 refine AN ?_
 refine CI (α := Nat) (fun i => (i ≤ gs.length)) (fun i => ⟨mkE [(1, V.int IntKind.i64 n), (2, V.ptr 2 0), (4, V.ptr 4 0), (6, .int .i64 i)], mkH [(2, Ob.box 31 [V.list (List.map Fare.enc fs) false, V.list (List.map Rule.enc rs) false, V.list (List.map Routing.enc gs) false, V.list (List.map Tax.enc xs) false]), (4, Ob.box 140 [V.int IntKind.i64 0, V.nils, V.int IntKind.i64 0])]⟩) (fun i => gs.length - i) 0 (Nat.zero_le _) ?_ ?_
 ·exact leM
 rintro i hi KL0 hKL0
 try dsimp only at *
 refine Ag (Ag (Z 2 rfl ?_))
 simp only [go_sem, simprocAttr, List.length_map]
 refine AH rfl (fun hc2 => ?_) fun hc2 => ?_
 ·simp only [hcL] at hc2
  refine AG ?_
  refine Ag (AN ?_)
  obtain ⟨⟨a1, a2, a3⟩, hr⟩ : ∃ r, r = gs[i] := ⟨_, rfl⟩
  refine Ag (Z 4 rfl ?_)
  simp only [go_sem, simprocAttr, Af _ _ _ _ hc2, hc2, List.length_map, ← hr, Routing.enc]
  and_intros <;> try exact sdA
  refine AH rfl (fun hc4 => ?_) fun hc4 => ?_
  ·simp only [hcL] at hc4
   refine Ag (Z 5 rfl ?_)
   simp only [go_sem, simprocAttr, Af _ _ _ _ hc2, hc2, List.length_map, ← hr, Routing.enc]
   and_intros <;> try exact sdA
   refine DR (hQ _ _ (.inl rfl) ?_ ?_ ?_) <;> simp only [go_sem, simprocAttr, vGB]
   exact ⟨(gs[i], true), by rw [← hr]; rfl, .inr ⟨rfl, List.getElem_mem hc2⟩⟩
  simp only [hcL] at hc4
  refine AG ?_
  refine Z 3 rfl ?_
  simp only [go_sem, simprocAttr, inI]
  and_intros <;> try exact sdA
  refine hKL0 (i + 1) _ ?_ ?_ ?_
  ·(try dsimp only); exact hc2
  ·(try dsimp only); omega
  exact leM
 simp only [hcL] at hc2
 refine CJ ?_
 simp only [go_sem, simprocAttr]
 refine Ag (Z 6 rfl ?_)
 simp only [go_sem, simprocAttr]
 refine TC.le (s' := ⟨mkE [(4, .ptr 4 0), (5, .bool false)], mkH [(4, .box 140 [.int .i64 0, .list [] false, .int .i64 0])]⟩) (Le.mk _ _ ?_ ?_ rfl) (DR (hQ _ _ (.inl rfl) ?_ ?_ ?_)) <;> simp only [go_sem, simprocAttr, vGB]
 exact ⟨(Routing.zero, false), rfl, .inl rfl⟩
def Mm : Tariff × Int → Routing × Bool := Adk.choose
theorem Ajw : PU 98 (gOf aTN fun x => (TarOk x.1, vGB (Mm x))) := Adk.choose_spec.2
theorem EB (a : List Fare) (b : List Rule) (c : List Routing) (d : List Tax) (n : Int) : gOf aTN (fun x => (TarOk x.1, vGB (Mm x))) [.agg [.list (a.map Fare.enc) false, .list (b.map Rule.enc) false, .list (c.map Routing.enc) false, .list (d.map Tax.enc) false], .int .i64 n] = (TarOk ⟨a, b, c, d⟩, .tup [.agg (Mm (⟨a, b, c, d⟩, n)).1.enc, .bool (Mm (⟨a, b, c, d⟩, n)).2]) := Ar (F := fun x => (TarOk x.1, vGB (Mm x))) JO (⟨a, b, c, d⟩, n)
theorem AaL {M : Nat → Prop} {w : World} {v : V} {cv : Value} (h : Pur M w v cv) : Pur M w v.nn1 cv := by
 cases v with
 | nils =>
  cases h
  exact .list [] false none 0 0 0 0 (fun _ _ => undef) (fun e => by cases e) (Nat.le_refl _) (fun _ => rfl) (.inl rfl) (fun r hr => by simp at hr) (fun i j hi _ => absurd hi (Nat.not_lt_zero _)) (fun i j r v hi => by simp at hi)
 | _ => exact h
def Da (F n at' : Int) : List Part → Bool
 | [] => decide (at' = n)
 | x :: l => if x.from' ≠ at' ∨ x.to' ≤ at' ∨ n < x.to' ∨ x.fare < 0 ∨ F ≤ x.fare then false else Da F n x.to' l
def SY (F n at' : Int) : List Part → Bool
 | [] => decide (at' = n)
 | x :: l => if x.from' ≠ at' ∨ x.to' ≤ at' ∨ x.fare < 0 ∨ F ≤ x.fare then false else SY F n x.to' l
theorem SW {F n : Int} : ∀ {l : List Part} {a : Int}, n < a → SY F n a l = false
 | [], a, h => by rw [SY]; exact decide_eq_false (by omega)
 | x :: l, a, h => by
  rw [SY]
  split
  ·rfl
  ·exact SW (by omega)
theorem SX {F n : Int} : ∀ {l : List Part} {a : Int}, a ≤ n → SY F n a l = Da F n a l
 | [], a, h => rfl
 | x :: l, a, h => by
  rw [SY, Da]
  by_cases h1 : x.from' ≠ a ∨ x.to' ≤ a ∨ x.fare < 0 ∨ F ≤ x.fare
  ·rw [if_pos h1, if_pos (by omega)]
  ·rw [if_neg h1]
   by_cases h2 : n < x.to'
   ·rw [if_pos (by omega), SW h2]
   ·rw [if_neg (by omega), SX (by omega)]
def aCv (x : Tariff × List Part × Int) : List V := [.agg x.1.enc, .list (x.2.1.map Part.enc) false, .int .i64 x.2.2]
theorem MJ (a b : Tariff × List Part × Int) (h : aCv a = aCv b) : a = b := by
 obtain ⟨a_t, a_l, a_n⟩ := a
 obtain ⟨b_t, b_l, b_n⟩ := b
 simp only [aCv, List.cons.injEq, V.str.injEq, V.int.injEq, V.bool.injEq, V.agg.injEq, V.list.injEq, and_true, true_and] at h
 obtain ⟨h0, h1, h2⟩ := h
 replace h0 := Tariff.inj _ _ h0
 subst h0
 replace h1 := Aw Part.inj h1
 subst h1
 subst h2
 rfl
def Ab4 (x : Tariff × List Part × Int) : Prop := x.1.fares.length ≤ 1000000 ∧ x.2.1.length ≤ 1000000 ∧ 0 ≤ x.2.2
def fCv (x : Tariff × List Part × Int) : Prop × V := (Ab4 x, .bool (Da x.1.fares.length x.2.2 0 x.2.1))
theorem Bh (a : List Fare) (b : List Rule) (c : List Routing) (d : List Tax) (l : List Part) (n : Int) : gOf aCv fCv [.agg [.list (a.map Fare.enc) false, .list (b.map Rule.enc) false, .list (c.map Routing.enc) false, .list (d.map Tax.enc) false], .list (l.map Part.enc) false, .int .i64 n] = (Ab4 (⟨a, b, c, d⟩, l, n), .bool (Da a.length n 0 l)) := Ar MJ (⟨a, b, c, d⟩, l, n)
theorem WM : PU 33 (gOf aCv fCv) := by
 have hG := AC
 refine Ajf.a MJ (by simp [aCv]) ?_
 rintro ⟨⟨fs, rs, gs, xs⟩, l, n⟩ hv C hN Q hQ
 have Z := Ajf.R EF0 hG hN
 obtain ⟨h1, h2, h3⟩ : Ab4 (⟨fs, rs, gs, xs⟩, l, n) := hv
 dsimp only at h1 h2 h3
 have hcv : Da fs.length n 0 l = SY fs.length n 0 l := (SX h3).symm
 refine Aa (Z 0 rfl ?_)
 simp only [go_sem, simprocAttr, aCv, Tariff.enc]
 refine Aa (Z 1 rfl ?_)
 simp only [go_sem, simprocAttr]
 refine Aa (Aa (Z 2 rfl ?_))
 simp only [go_sem, simprocAttr, List.length_map]
 refine Ad ?_
 refine Aj (α := Nat × Int) (fun γ => (γ.1 ≤ l.length) ∧ (SY fs.length n 0 l = SY fs.length n γ.2 (l.drop γ.1))) (fun γ => ⟨mkE [(2, V.int IntKind.i64 n), (3, V.ptr 3 0), (7, .int .i64 γ.2), (10, V.list (List.map Part.enc l) false), (11, V.int IntKind.i64 ↑l.length), (12, .int .i64 γ.1)], mkH [(3, Ob.box 31 [V.list (List.map Fare.enc fs) false, V.list (List.map Rule.enc rs) false, V.list (List.map Routing.enc gs) false, V.list (List.map Tax.enc xs) false])]⟩) (fun γ => l.length - γ.1) (0, 0) ⟨Nat.zero_le _, rfl⟩ ?_ ?_
 ·exact leM
 rintro ⟨i, a⟩ ⟨hi, hs⟩ KL0 hKL0
 try dsimp only at *
 refine Aa (Z 3 rfl ?_)
 simp only [go_sem, simprocAttr]
 refine Aa ?_
 refine Ab rfl (fun hc3 => ?_) fun hc3 => ?_
 ·simp only [hcL] at hc3
  refine Ac ?_
  refine Aa (Ad ?_)
  have hd := List.drop_eq_getElem_cons hc3
  rw [hd, SY] at hs
  refine Aa (Z 4 rfl ?_)
  simp only [go_sem, simprocAttr, Af _ _ _ _ hc3, hc3, Part.enc]
  and_intros <;> try exact sdA
  refine Aa (Aa (Z 5 rfl ?_))
  simp only [go_sem, simprocAttr, List.length_map]
  and_intros <;> try exact sdA
  refine Ab rfl (fun hb5 => ?_) fun hb5 => ?_
  ·rw [if_pos (by simp only [Bool.or_eq_true, Bool.not_eq_true', decide_eq_true_eq, decide_eq_false_iff_not] at hb5; omega)] at hs
   refine Aa (Z 6 rfl ?_)
   simp only [go_sem, simprocAttr]
   refine Ae (hQ _ _ (.inl rfl) ?_ ?_ ?_) <;> simp only [go_sem, simprocAttr, fCv, hcv, hs]
  rw [if_neg (by simp only [Bool.or_eq_false_iff, Bool.not_eq_false', decide_eq_true_eq, decide_eq_false_iff_not] at hb5; omega)] at hs
  refine Ac ?_
  refine Z 7 rfl ?_
  simp only [go_sem, simprocAttr]
  refine Z 8 rfl ?_
  simp only [go_sem, simprocAttr, inI]
  and_intros <;> try exact sdA
  refine hKL0 (i + 1, l[i].to') _ ?_ ?_ ?_
  ·(try dsimp only); exact ⟨hc3, hs⟩
  ·(try dsimp only); omega
  exact leM
 simp only [hcL] at hc3
 rw [List.drop_eq_nil_of_le hc3, SY] at hs
 refine Ai ?_
 simp only [go_sem, simprocAttr]
 refine Aa (Z 9 rfl ?_)
 simp only [go_sem, simprocAttr]
 refine Ae (hQ _ _ (.inl rfl) ?_ ?_ ?_) <;> simp only [go_sem, simprocAttr, fCv, hcv, hs]
set_option maxRecDepth 20000 in
theorem Rn : PU 45 (gOf aCv fCv) := by
 have hG := AC
 refine Ai7.a MJ (by simp [aCv]) ?_
 rintro ⟨⟨fs, rs, gs, xs⟩, l, n⟩ hv C hN Q hQ
 have Z := Ai7.R EF0 hG hN
 obtain ⟨h1, h2, h3⟩ : Ab4 (⟨fs, rs, gs, xs⟩, l, n) := hv
 dsimp only at h1 h2 h3
 refine Aa (Z 0 rfl ?_)
 simp only [go_sem, simprocAttr, aCv, Tariff.enc]
 refine Aa (Z 1 rfl ?_)
 simp only [go_sem, simprocAttr]
 refine Aa (Aa (Z 2 rfl ?_))
 simp only [go_sem, simprocAttr]
 refine Ad ?_
 refine Aj (α := Nat × Int) (fun γ => (γ.1 ≤ l.length) ∧ (Da fs.length n 0 l = Da fs.length n γ.2 (l.drop γ.1))) (fun γ => ⟨mkE [(1, V.list (List.map Part.enc l) false), (2, V.int IntKind.i64 n), (3, V.ptr 3 0), (7, .int .i64 γ.2), (8, .int .i64 γ.1)], mkH [(3, Ob.box 31 [V.list (List.map Fare.enc fs) false, V.list (List.map Rule.enc rs) false, V.list (List.map Routing.enc gs) false, V.list (List.map Tax.enc xs) false])]⟩) (fun γ => l.length - γ.1) (0, 0) ⟨Nat.zero_le _, rfl⟩ ?_ ?_
 ·exact leM
 rintro ⟨i, a⟩ ⟨hi, hs⟩ KL0 hKL0
 try dsimp only at *
 refine Aa (Aa (Z 3 rfl ?_))
 simp only [go_sem, simprocAttr, List.length_map]
 refine Ab rfl (fun hc3 => ?_) fun hc3 => ?_
 ·simp only [hcL] at hc3
  refine Ac ?_
  refine Aa (Ad ?_)
  refine Aa ?_
  have hd := List.drop_eq_getElem_cons hc3
  rw [hd, Da] at hs
  obtain ⟨⟨xf, xt, xr, xa⟩, hx⟩ : ∃ x, x = l[i] := ⟨_, rfl⟩
  rw [← hx] at hs
  refine Aa (PF (EF := EF0) hG mixed (by rw [hN]; exact Acx) AdJ (by kernel_rfl) ?_)
  refine JH 24 ?_
  obtain ⟨R0, hR0⟩ : ∃ R, R = List.drop 24 TM := ⟨_, rfl⟩
  rw [← hR0]
  simp only [TM, List.take_succ_cons, List.take_zero, go_sem, simprocAttr, Af _ _ _ _ hc3, hc3, ← hx, Part.enc, List.length_map]
  and_intros <;> try exact sdA
  generalize hb1 : (!decide (xf = a) || decide (xt ≤ a)) = b1
  generalize hE0 : upd _ 38 _ = E5
  have e5_1 : E5 1 = .list (l.map Part.enc) false := by rw [← hE0]; simp only [go_sem, simprocAttr]
  have e5_2 : E5 2 = .int .i64 n := by rw [← hE0]; simp only [go_sem, simprocAttr]
  have e5_3 : E5 3 = .ptr 3 0 := by rw [← hE0]; simp only [go_sem, simprocAttr]
  have e5_7 : E5 7 = .int .i64 a := by rw [← hE0]; simp only [go_sem, simprocAttr]
  have e5_8 : E5 8 = .int .i64 i := by rw [← hE0]; simp only [go_sem, simprocAttr]
  have e5_31 : E5 31 = .bool b1 := by rw [← hE0]; simp only [go_sem, simprocAttr]
  have e5_38 : E5 38 = .when (!b1) (.bool (decide (n < xt))) := by rw [← hE0]; simp only [go_sem, simprocAttr]
  clear hE0
  subst hR0
  simp only [TM, List.drop_succ_cons, List.drop_zero, go_sem, simprocAttr, Af _ _ _ _ hc3, hc3, ← hx, Part.enc, List.length_map, e5_1, e5_2, e5_3, e5_7, e5_8, e5_31, e5_38]
  and_intros <;> try exact sdA
  refine Ab rfl (fun hb5 => ?_) fun hb5 => ?_
  ·dsimp only at hs
   rw [← hb1] at hb5
   rw [if_pos (by simp only [Bool.or_eq_true, Bool.not_eq_true', decide_eq_true_eq, decide_eq_false_iff_not] at hb5; omega)] at hs
   refine Aa (Z 6 rfl ?_)
   simp only [go_sem, simprocAttr, e5_1, e5_2, e5_3, e5_7, e5_8, e5_31, e5_38]
   refine Ae (hQ _ _ (.inl rfl) ?_ ?_ ?_) <;> simp only [go_sem, simprocAttr, fCv, hs]
  dsimp only at hs
  rw [← hb1] at hb5
  rw [if_neg (by simp only [Bool.or_eq_false_iff, Bool.not_eq_false', decide_eq_true_eq, decide_eq_false_iff_not] at hb5; omega)] at hs
  refine Ac ?_
  refine Z 7 rfl ?_
  simp only [go_sem, simprocAttr, Af _ _ _ _ hc3, hc3, ← hx, Part.enc, List.length_map, e5_1, e5_2, e5_3, e5_7, e5_8, e5_31, e5_38]
  and_intros <;> try exact sdA
  refine Z 4 rfl ?_
  simp only [go_sem, simprocAttr, inI, e5_1, e5_2, e5_3, e5_7, e5_8, e5_31, e5_38]
  and_intros <;> try exact sdA
  refine hKL0 (i + 1, xt) _ ?_ ?_ ?_
  ·(try dsimp only); exact ⟨hc3, hs⟩
  ·(try dsimp only); omega
  refine Le.mk _ _ ?_ ?_ rfl <;> simp only [go_sem, simprocAttr, e5_1, e5_2, e5_3, e5_7, e5_8, e5_31, e5_38] <;> and_intros <;> try exact leA
 simp only [hcL] at hc3
 rw [List.drop_eq_nil_of_le hc3, Da] at hs
 refine Ai ?_
 simp only [go_sem, simprocAttr]
 refine Aa (Z 8 rfl ?_)
 simp only [go_sem, simprocAttr]
 refine Ae (hQ _ _ (.inl rfl) ?_ ?_ ?_) <;> simp only [go_sem, simprocAttr, fCv, hs]
theorem AdY (x : Addr) (cap : Nat) {s : St} {t : Nat} (ht : s.e t = .pin (.slice (some x) 0 cap)) : Le s ⟨upd s.e t (.list [] false), s.h⟩ := fun U C a w M ι hg => ⟨M, ι, hg.mem, fun u => by
 have h := hg.env u
 generalize (a.tmps.getD u undef) = cv at h ⊢
 show Rel M w ι s.h (upd s.e t (.list [] false) u) _
 unfold upd
 split
 ·rename_i e
  subst e
  rw [ht] at h
  cases h with
  | pur hp =>
   cases hp
   exact .pur (.list [] false (some x) cap 0 0 0 (fun _ _ => undef) (fun e => by cases e) (Nat.zero_le _) (fun e => by cases e) (.inl rfl) (fun r hr => by simp at hr) (fun i j hi _ => absurd hi (Nat.not_lt_zero _)) (fun i j r v hi => by simp at hi))
 ·exact h, hg.dfr, hg.num⟩
theorem Ao.alt {P : Program} {U : Tbl} {f : Nat} {g : List V → Prop × V} (h : ∀ (vs : List V) (M : Nat → Prop) (w : World) (cargs : Array Value), (g vs).1 → cargs.size = vs.length → (∀ (i : Nat) (v : V), vs[i]? = some v → Pur M w v (cargs.getD i undef)) →
  ∃ (g' : List V → Prop × V) (vs' : List V), Ao P U f g' ∧ (g' vs').1 ∧ vs'.length = vs.length ∧ (∀ (i : Nat) (v : V), vs'[i]? = some v → Pur M w v (cargs.getD i undef)) ∧ ∀ (M' : Nat → Prop) (w' : World) (cv : Value), Pur M' w' (g' vs').2 cv → Pur M' w' (g vs).2 cv) (he : GI P f) : Ao P U f g := fun vs M w cargs h1 => by
 refine ⟨he, fun h2 h3 h4 h5 h6 => ?_⟩
 obtain ⟨g', vs', p1, p2, p3, p4, p5⟩ := h vs M w cargs h1 h4 h6
 refine ((p1 vs' M w cargs p2).2 h2 h3 (by rw [p3]; exact h4) h5 p4).mono fun e w' => ?_
 rintro ⟨cv, M', q1, q2, q3⟩
 exact ⟨cv, M', q1, p5 _ _ _ q2, q3⟩
theorem Ad8 {α : Type} {args : α → List V} {F : α → Prop × V} {vs : List V} (h : ¬∃ a, args a = vs) : gOf args F vs = (False, .any) := dif_neg h
def Aib : List V → Prop × V
 | [.nils] => (True, .nils)
 | _ => (False, .any)
def Aia : List V → Prop × V
 | [.pin (.slice (some _) 0 _)] => (True, .list [] false)
 | _ => (False, .any)
def Aea (l : List Charge) : List V → Prop × V := gOf LB (fun m => (m = l ∧ m ≠ [] ∧ m.length ≤ 1000000, .list (m.map Charge.enc) false))
theorem AfI : PU 37 Aib := by
 have hG := AC
 refine AbY.q fun vs hv => ?_
 match vs, hv with
 | [.nils], _ => ?_
 refine ⟨by simp, fun C hN Q hQ => ?_⟩
 have Z := AbY.R EF0 hG hN
 refine Aa (Z 0 rfl ?_)
 simp only [go_sem, simprocAttr]
 refine Aa (Aa (Z 1 rfl ?_))
 simp only [go_sem, simprocAttr]
 refine FQ rfl ?_
 refine Aa (Z 2 rfl ?_)
 simp only [go_sem, simprocAttr]
 refine Ae (hQ _ _ (.inl rfl) ?_ ?_ ?_) <;> simp only [go_sem, simprocAttr, Aib]
theorem Aij : PU 37 Aia := by
 have hG := AC
 refine AbY.q fun vs hv => ?_
 match vs, hv with
 | [.pin (.slice (some x) 0 cap)], _ => ?_
 refine ⟨by simp, fun C hN Q hQ => ?_⟩
 have Z := AbY.R EF0 hG hN
 refine Aa (Z 0 rfl ?_)
 simp only [go_sem, simprocAttr]
 refine Aa (Aa (Z 1 rfl ?_))
 simp only [go_sem, simprocAttr]
 refine Be rfl ?_
 refine Ac ?_
 refine AW.le (AdY x cap (t := 0) rfl) ?_
 refine Aa (Z 3 rfl ?_)
 simp only [go_sem, simprocAttr]
 and_intros <;> try exact sdA
 refine AW.le (s' := ⟨mkE [(2, .list [] false)], mkH []⟩) (Le.mk _ _ ?_ ?_ rfl) (Ae (hQ _ _ (.inl rfl) ?_ ?_ ?_)) <;> simp only [go_sem, simprocAttr, Aia]
 exact Cq rfl rfl rfl (fun r hr => nomatch hr)
theorem Aii (l : List Charge) : PU 37 (Aea l) := by
 have hG := AC
 unfold Aea
 refine AbY.a En (by simp [LB]) ?_
 rintro m hv C hN Q hQ
 have Z := AbY.R EF0 hG hN
 obtain ⟨-, h0, hl⟩ : m = l ∧ m ≠ [] ∧ m.length ≤ 1000000 := hv
 have hne : m.map Charge.enc ≠ [] := fun e => h0 (List.map_eq_nil_iff.1 e)
 refine Aa (Z 0 rfl ?_)
 simp only [go_sem, simprocAttr, LB]
 refine Aa (Aa (Z 1 rfl ?_))
 simp only [go_sem, simprocAttr, hne]
 refine Be rfl ?_
 refine Ac ?_
 refine Aa (Z 3 rfl ?_)
 simp only [go_sem, simprocAttr, List.length_map]
 and_intros <;> try exact sdA
 refine AW.le (s' := ⟨mkE [(2, .list (m.map Charge.enc) false)], mkH []⟩) (Le.mk _ _ ?_ ?_ rfl) (Ae (hQ _ _ (.inl rfl) ?_ ?_ ?_)) <;> simp only [go_sem, simprocAttr]
 exact Cq rfl (by rw [List.length_map]) rfl ((Charge.purs _).2 trivial)
def Aid (l : List Charge) : Prop × V := (l.length ≤ 1000000, .list (l.map Charge.enc) false)
theorem BT (l : List Charge) : gOf LB Aid [.list (l.map Charge.enc) false] = (l.length ≤ 1000000, .list (l.map Charge.enc) false) := Ar En l
theorem WO : PU 37 (gOf LB Aid) := by
 refine Ao.alt (fun vs M w cargs h1 h4 h6 => ?_) (AfI [.nils] (fun _ => False) default #[] trivial).1
 by_cases hx : ∃ l, LB l = vs
 ·obtain ⟨l, rfl⟩ := hx
  rw [Ar En] at h1 ⊢
  by_cases h0 : l = []
  ·subst h0
   have hp := h6 0 _ rfl
   generalize hcv : cargs.getD 0 undef = cv at hp
   cases hp with
   | list _ _ a cap sz g off f hf hcap hn ha hr hc hv =>
    cases a with
    | none =>
     obtain rfl := hn rfl
     exact ⟨Aib, [.nils], AfI, trivial, rfl, fun i v hi => (by cases i with | zero => (injection hi with hi; subst hi; rw [hcv]; exact .nils) | succ i => cases hi), fun M' w' cv hp => AaL hp⟩
    | some x => exact ⟨Aia, [.pin (.slice (some x) 0 cap)], Aij, trivial, rfl, fun i v hi => (by cases i with | zero => (injection hi with hi; subst hi; rw [hcv]; exact .pin _) | succ i => cases hi), fun M' w' cv hp => hp⟩
  ·refine ⟨Aea l, LB l, Aii l, ?_, rfl, h6, fun M' w' cv hp => ?_⟩
   ·unfold Aea; rw [Ar En]; exact ⟨rfl, h0, h1⟩
   ·unfold Aea at hp; rw [Ar En] at hp; exact hp
 ·exact absurd h1 (by rw [Ad8 hx]; exact fun h => h)
end Go.Proofs.YtjkclhbckfkeeaaGreatDoor
end
