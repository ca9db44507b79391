import Derived.Test.YtjkclhbckfkeeaaGreatDoorPl10
import Derived.Test.YtjkclhbckfkeeaaGreatDoorCob
import Derived.Test.YtjkclhbckfkeeaaGreatDoorPl4
import Derived.Lib.Bytealg
set_option linter.unusedSimpArgs false
set_option linter.unusedVariables false
set_option linter.deprecated false
set_option maxHeartbeats 4000000
noncomputable section
namespace Go.Proofs.YtjkclhbckfkeeaaGreatDoor
open Go Go.RowKit
structure Pct where
 type : List UInt8
 percent : Int
def Pct.enc (x : Pct) : List V := [.str x.type, .int .i64 x.percent]
theorem Pct.inj (a b : Pct) (h : a.enc = b.enc) : a = b := by
 obtain ⟨a_type, a_percent⟩ := a
 obtain ⟨b_type, b_percent⟩ := b
 simp only [Pct.enc, Bz, V.str.injEq, V.int.injEq, V.bool.injEq, V.agg.injEq, V.list.injEq, and_true, true_and] at h
 obtain ⟨h0, h1⟩ := h
 subst h0
 subst h1
 rfl
def Pct.ok (x : Pct) : Prop := x.type.length <= 140737488355328 /\ inI x.percent
theorem Pct.rows (l : List Pct) : (∀ r ∈ l.map Pct.enc, r.length = 2) ↔ True := iff_true_intro fun r hr => by obtain ⟨x, _, rfl⟩ := An.1 hr; rfl
theorem Pct.purs (l : List Pct) : (∀ r ∈ l.map Pct.enc, V.purs r = true) ↔ True := iff_true_intro fun r hr => by obtain ⟨x, _, rfl⟩ := An.1 hr; rfl
attribute [go_sem] Pct.rows Pct.purs
def vF (g : List Fault) : V := .list (Ax g) false
def aIs (x : List Int) : List V := [.list (Aq x) false]
theorem VP (a b : List Int) (h : aIs a = aIs b) : a = b := by
 simp only [aIs, Bz, V.str.injEq, V.int.injEq, V.bool.injEq, V.agg.injEq, V.list.injEq, and_true, true_and] at h
 have h0 := h
 replace h0 := Mw h0
 subst h0
 rfl
def RT {α β : Type} (_ : α) (_ : β) : Prop := True
def FSm (g : List Fault) : Prop := ∀ x ∈ g, x.pos.length <= 1000
theorem FSm.nil : FSm [] := fun _ h => nomatch h
theorem FSm.app {g h : List Fault} (a : FSm g) (b : FSm h) : FSm (g ++ h) := fun x hx => (BU.1 hx).elim (a x) (b x)
theorem FSm.one {e : Int} {p : List UInt8} (h : p.length <= 1000) : FSm [⟨e, p⟩] := fun x hx => by rw [Bk.1 hx]; exact h
theorem FSm.fif {g : List Fault} (a : FSm g) {b : Bool} {e : Int} {p : List UInt8} (h : p.length <= 1000) : FSm (g ++ fIf b e p) := a.app (by unfold fIf; split; exact FSm.one h; exact FSm.nil)
theorem NT {q : List UInt8} {i : Nat} (hq : q.length <= 100) (h : (dec (i : Int)).length <= 21) : (q ++ dec i).length <= 1000 := by rw [Ai]; omega
def Rk (l : List Int) (g : List Fault) : Prop := g.length <= 2 * l.length /\ FSm g
def QH : List UInt8 := [99, 111, 109, 98, 105, 110, 101, 32]
def MW : List UInt8 := [112, 101, 114, 99, 101, 110, 116, 32]
def BJ : Tab
 | 68 => IW
 | 23 => BC
 | _ => gNo
theorem AdC : ∀ f, PU f (BJ f) := fun f => by
 unfold BJ
 split
 ·exact Ou
 ·exact MT
 ·exact Ah.no
theorem AfM {i : Nat} (h : i <= 2000000) : (dec (i : Int)).length <= 21 := Yc ⟨by omega, by omega⟩
theorem AgY {i : Nat} (h : i <= 2000000) : inI (i : Int) := ⟨by omega, by omega⟩
theorem Sf : ∃ F : List Int -> List Fault, (∀ l, l.length <= 1048576 -> Rk l (F l)) /\ PU 127 (gOf aIs fun l => (l.length <= 1048576, vF (F l))) := by
 have hG := AdC
 refine SB.p (val := vF) (R := Rk) VP (by simp [aIs]) ?_
 rintro l hv Q hQ
 have Y := SB.E EF0 hG mixed
 have Z := SB.T EF0 hG
 refine Ab (Z 0 rfl ?_)
 simp only [go_sem, simprocAttr, aIs, BJ, AC]
 refine Ab (Z 1 rfl ?_)
 simp only [go_sem, simprocAttr, BJ, AC]
 refine Ab (Ab (Z 2 rfl ?_))
 simp only [go_sem, simprocAttr, BJ, AC]
 refine Au ?_
 refine Bg (α := Nat × (List Fault)) (fun γ => (γ.1 <= l.length) /\ (γ.2.length <= 2 * γ.1) /\ (FSm γ.2)) (fun γ => ⟨mkE [(0, V.list (Aq l) false), (3, .own 999 γ.2.length), (4, .int .i64 γ.1)], mkH [(999, .arr 126 2 (Ax γ.2))]⟩) (fun γ => l.length - γ.1) (0, []) ⟨Ar _, Az _, FSm.nil⟩ ?_ ?_
 ·exact leM
 rintro ⟨i, g⟩ ⟨hi, hg, hs⟩ KL0 hKL0
 try dsimp only at *
 refine Ab (Ab (Z 3 rfl ?_))
 simp only [go_sem, simprocAttr, DB, BJ, AC]
 refine Ag rfl (fun hc3 => ?_) fun hc3 => ?_
 ·simp only [hcL] at hc3
  refine Aj ?_
  refine Ab (Au ?_)
  have hd := AfM (i := i) (by omega)
  have hi2 := AgY (i := i) (by omega)
  have hp8 : (QH ++ dec i).length <= 1000 := NT (by decide) hd
  refine Ab (Z 5 rfl ?_)
  simp only [go_sem, simprocAttr, inI, hi2, BJ, AC]
  and_intros <;> try exact sdA
  refine Ab (Ab (Z 6 rfl ?_))
  simp only [go_sem, simprocAttr, BJ, AC]
  refine Au ?_
  refine Bg (α := Nat × Bool) (fun γ => (γ.1 <= i)) (fun γ => ⟨mkE [(0, V.list (Aq l) false), (3, V.own 999 g.length), (4, V.int IntKind.i64 ↑i), (5, V.str (99 :: 111 :: 109 :: 98 :: 105 :: 110 :: 101 :: 32 :: dec ↑i)), (6, .bool γ.2), (7, .int .i64 γ.1)], mkH [(999, Ob.arr 126 2 (Ax g))]⟩) (fun γ => i - γ.1) (0, false) (Ar _) ?_ ?_
  ·exact leM
  rintro ⟨j, tw⟩ hj KL2 hKL2
  try dsimp only at *
  refine Ab (Ab (Z 7 rfl ?_))
  simp only [go_sem, simprocAttr, BJ, AC]
  refine Ag rfl (fun hc7 => ?_) fun hc7 => ?_
  ·simp only [hcL] at hc7
   refine Aj ?_
   refine Ab (Au ?_)
   have hjl : j < l.length := by omega
   refine Y 9 rfl (by kernel_rfl) ?_
   simp only [go_sem, simprocAttr, GL _ _ _ hc3, GL _ _ _ hjl, hc3, hjl, DB, BJ, AC]
   and_intros <;> try exact sdA
   refine Z 8 rfl ?_
   simp only [go_sem, simprocAttr, inI, BJ, AC]
   and_intros <;> try exact sdA
   refine hKL2 (j + 1, (tw || decide (l[j] = l[i]))) _ ?_ ?_ ?_
   ·(try dsimp only); omega
   ·(try dsimp only); omega
   exact leM
  simp only [hcL] at hc7
  refine Bc ?_
  simp only [go_sem, simprocAttr]
  refine Ep (α := (List Fault)) (fun f1 => (f1 = g ++ fIf (decide (l[i] < 1) || decide (9999 < l[i])) 2 (QH ++ dec i)) /\ (f1.length <= g.length + 1)) (fun f1 => ⟨mkE [(0, V.list (Aq l) false), (3, .own 999 f1.length), (4, V.int IntKind.i64 ↑i), (5, V.str (99 :: 111 :: 109 :: 98 :: 105 :: 110 :: 101 :: 32 :: dec ↑i)), (6, V.bool tw)], mkH [(999, .arr 126 2 (Ax f1))]⟩) ?_ ?_
  ·intro KC10 hKC10
   refine Ab (Z 10 rfl ?_)
   simp only [go_sem, simprocAttr, GL _ _ _ hc3, hc3, DB, BJ, AC]
   and_intros <;> try exact sdA
   refine Ag rfl (fun hb10 => ?_) fun hb10 => ?_
   ·refine Z 11 rfl ?_
    simp only [go_sem, simprocAttr, BJ, AC]
    and_intros <;> try exact sdA
    refine hKC10 (g ++ [⟨2, QH ++ dec i⟩]) _ ?_ ?_
    ·(try dsimp only); exact ⟨by rw [Dr (show (decide (l[i] < 1) || decide (9999 < l[i])) = true from hb10)], by simp⟩
    refine Le.mk _ _ ?_ ?_ rfl <;> simp only [go_sem, simprocAttr, Ai, Av, Ay] <;> and_intros <;> try exact leA
   refine Aj ?_
   refine hKC10 (g) _ ?_ ?_
   ·(try dsimp only); exact ⟨by rw [Dq (show (decide (l[i] < 1) || decide (9999 < l[i])) = false from hb10), Bl], by omega⟩
   exact leM
  rintro f1 ⟨hf1, lf1⟩
  refine Ab (Z 12 rfl ?_)
  simp only [go_sem, simprocAttr, BJ, AC]
  refine Ag rfl (fun hb12 => ?_) fun hb12 => ?_
  ·refine Z 13 rfl ?_
   simp only [go_sem, simprocAttr, BJ, AC]
   and_intros <;> try exact sdA
   refine Z 4 rfl ?_
   simp only [go_sem, simprocAttr, inI, BJ, AC]
   and_intros <;> try exact sdA
   refine hKL0 (i + 1, f1 ++ [⟨6, QH ++ dec i⟩]) _ ?_ ?_ ?_
   ·(try dsimp only); exact ⟨hc3, by simp only [Ai, Av, Ay]; omega, by rw [hf1]; exact (hs.fif hp8).app (FSm.one hp8)⟩
   ·(try dsimp only); omega
   refine Le.mk _ _ ?_ ?_ rfl <;> simp only [go_sem, simprocAttr, Ai, Av, Ay] <;> and_intros <;> try exact leA
  refine Aj ?_
  refine Z 4 rfl ?_
  simp only [go_sem, simprocAttr, inI, BJ, AC]
  and_intros <;> try exact sdA
  refine hKL0 (i + 1, f1) _ ?_ ?_ ?_
  ·(try dsimp only); exact ⟨hc3, by omega, by rw [hf1]; exact hs.fif hp8⟩
  ·(try dsimp only); omega
  exact leM
 simp only [hcL] at hc3
 refine Bc ?_
 simp only [go_sem, simprocAttr]
 refine Ab (Z 14 rfl ?_)
 simp only [go_sem, simprocAttr, BJ, AC]
 refine TC.le (s' := ⟨mkE [(2, .list (Ax g) false)], mkH []⟩) (Le.mk _ _ ?_ ?_ rfl) (Ak (hQ _ _ (.inl rfl) ?_ ?_ ?_)) <;> simp only [go_sem, simprocAttr, vF]
 ·exact DO rfl (by rw [Fo]) rfl (Gp _)
 exact ⟨g, rfl, by omega, hs⟩
def KV : List Int -> List Fault := Sf.choose
theorem Afl : ∀ l : List Int, l.length <= 1048576 -> Rk l (KV l) := Sf.choose_spec.1
theorem Afm : PU 127 (gOf aIs fun l => (l.length <= 1048576, vF (KV l))) := Sf.choose_spec.2
theorem Fh (l : List Int) : gOf aIs (fun l => (l.length <= 1048576, vF (KV l))) [.list (Aq l) false] = (l.length <= 1048576, .list (Ax (KV l)) false) := Al (F := fun l => (l.length <= 1048576, vF (KV l))) VP l
def KA := ao (vl Pct.enc)
theorem Wh : Ij KA := ijo (ijl Pct.inj)
def LT (x : Pct) : Prop := 0 <= x.percent /\ x.percent <= 1000
def OL (l : List Pct) (i : Nat) (g : List Fault) : Prop := g = [] -> ∀ x ∈ l.take i, LT x
theorem OL.step {l : List Pct} {i : Nat} {g g' : List Fault} (h : OL l i g) (hi : i < l.length) (e : g' = [] -> g = []) (hx : g' = [] -> LT l[i]) : OL l (i + 1) g' := fun e' x hx' => by
 rw [CW hi] at hx'
 rcases BU.1 hx' with h' | h'
 ·exact h (e e') x h'
 ·rw [Bk.1 h']; exact hx e'
def Rn (l : List Pct) (g : List Fault) : Prop := g.length <= 3 * l.length /\ (g = [] -> ∀ x ∈ l, LT x) /\ FSm g
def HO (l : List Pct) : Prop := l.length <= 1000000 /\ ∀ x ∈ l, x.ok
theorem Ua : ∃ F : List Pct -> List Fault, (∀ l, HO l -> Rn l (F l)) /\ PU 128 (gOf KA fun l => (HO l, vF (F l))) := by
 have hG := AdC
 refine SC.p (val := vF) (R := Rn) Wh (by simp [KA]) ?_
 rintro l hv Q hQ
 have Y := SC.E EF0 hG mixed
 have Z := SC.T EF0 hG
 obtain ⟨hll, hlo⟩ : HO l := hv
 refine Ab (Z 0 rfl ?_)
 simp only [go_sem, simprocAttr, KA, BJ, AC, BC]
 refine Ab (Z 1 rfl ?_)
 simp only [go_sem, simprocAttr, BJ, AC, BC]
 refine Ab (Ab (Z 2 rfl ?_))
 simp only [go_sem, simprocAttr, BJ, AC, BC]
 refine Au ?_
 refine Bg (α := Nat × (List Fault)) (fun γ => (γ.1 <= l.length) /\ (γ.2.length <= 3 * γ.1) /\ (OL l γ.1 γ.2) /\ (FSm γ.2)) (fun γ => ⟨mkE [(0, V.list (List.map Pct.enc l) false), (3, .own 999 γ.2.length), (4, .int .i64 γ.1)], mkH [(999, .arr 126 2 (Ax γ.2))]⟩) (fun γ => l.length - γ.1) (0, []) ⟨Ar _, Az _, (fun _ x hx => nomatch hx), FSm.nil⟩ ?_ ?_
 ·exact leM
 rintro ⟨i, g⟩ ⟨hi, hg, hok, hs⟩ KL0 hKL0
 try dsimp only at *
 refine Ab (Ab (Z 3 rfl ?_))
 simp only [go_sem, simprocAttr, Ac, BJ, AC, BC]
 refine Ag rfl (fun hc3 => ?_) fun hc3 => ?_
 ·simp only [hcL] at hc3
  refine Aj ?_
  refine Ab (Au ?_)
  have hd := Hj (i := i) (by omega)
  have hi2 := JP (i := i) (by omega)
  have hxo := hlo _ (AF hc3)
  obtain ⟨z, hz⟩ : ∃ z, z = l[i] := ⟨_, rfl⟩
  rw [<- hz] at hxo
  have hp8 : (MW ++ dec i).length <= 1000 := NT (by decide) hd
  refine Ab (Z 5 rfl ?_)
  simp only [go_sem, simprocAttr, inI, hi2, BJ, AC, BC]
  and_intros <;> try exact sdA
  refine Ab (Ab (Z 6 rfl ?_))
  simp only [go_sem, simprocAttr, BJ, AC, BC]
  refine Au ?_
  refine Bg (α := Nat × Bool) (fun γ => (γ.1 <= i)) (fun γ => ⟨mkE [(0, V.list (List.map Pct.enc l) false), (3, V.own 999 g.length), (4, V.int IntKind.i64 ↑i), (5, V.str (112 :: 101 :: 114 :: 99 :: 101 :: 110 :: 116 :: 32 :: dec ↑i)), (6, .bool γ.2), (7, .int .i64 γ.1)], mkH [(999, Ob.arr 126 2 (Ax g))]⟩) (fun γ => i - γ.1) (0, false) (Ar _) ?_ ?_
  ·exact leM
  rintro ⟨j, tw⟩ hj KL2 hKL2
  try dsimp only at *
  refine Ab (Ab (Z 7 rfl ?_))
  simp only [go_sem, simprocAttr, BJ, AC, BC]
  refine Ag rfl (fun hc7 => ?_) fun hc7 => ?_
  ·simp only [hcL] at hc7
   refine Aj ?_
   refine Ab (Au ?_)
   have hjl : j < l.length := by omega
   refine Y 9 rfl (by kernel_rfl) ?_
   simp only [go_sem, simprocAttr, Ap _ _ _ _ hc3, Ap _ _ _ _ hjl, hc3, hjl, Pct.enc, Ac, <- hz, BJ, AC, BC]
   and_intros <;> try exact sdA
   refine Z 8 rfl ?_
   simp only [go_sem, simprocAttr, inI, BJ, AC, BC]
   and_intros <;> try exact sdA
   refine hKL2 (j + 1, (tw || decide (l[j].type = z.type))) _ ?_ ?_ ?_
   ·(try dsimp only); omega
   ·(try dsimp only); omega
   exact leM
  simp only [hcL] at hc7
  refine Bc ?_
  simp only [go_sem, simprocAttr]
  refine Ep (α := (List Fault)) (fun f1 => (f1 = g ++ fIf (!Db z.type 3 3) 5 (MW ++ dec i)) /\ (f1.length <= g.length + 1)) (fun f1 => ⟨mkE [(0, V.list (List.map Pct.enc l) false), (3, .own 999 f1.length), (4, V.int IntKind.i64 ↑i), (5, V.str (112 :: 101 :: 114 :: 99 :: 101 :: 110 :: 116 :: 32 :: dec ↑i)), (6, V.bool tw)], mkH [(999, .arr 126 2 (Ax f1))]⟩) ?_ ?_
  ·intro KC10 hKC10
   refine Ab (Z 10 rfl ?_)
   simp only [go_sem, simprocAttr, Ap _ _ _ _ hc3, hc3, Pct.enc, Ac, <- hz, hxo.1, BJ, AC, BC]
   and_intros <;> try exact sdA
   refine Ag rfl (fun hb10 => ?_) fun hb10 => ?_
   ·refine Z 11 rfl ?_
    simp only [go_sem, simprocAttr, BJ, AC, BC]
    and_intros <;> try exact sdA
    refine hKC10 (g ++ [⟨5, MW ++ dec i⟩]) _ ?_ ?_
    ·(try dsimp only); exact ⟨by rw [Dr (show (!Db z.type 3 3) = true from hb10)], by simp⟩
    refine Le.mk _ _ ?_ ?_ rfl <;> simp only [go_sem, simprocAttr, Ai, Av, Ay] <;> and_intros <;> try exact leA
   refine Aj ?_
   refine hKC10 (g) _ ?_ ?_
   ·(try dsimp only); exact ⟨by rw [Dq (show (!Db z.type 3 3) = false from hb10), Bl], by omega⟩
   exact leM
  rintro f1 ⟨hf1, lf1⟩
  refine Ep (α := (List Fault)) (fun f2 => (f2 = f1 ++ fIf (tw) 6 (MW ++ dec i)) /\ (f2.length <= f1.length + 1)) (fun f2 => ⟨mkE [(0, V.list (List.map Pct.enc l) false), (3, .own 999 f2.length), (4, V.int IntKind.i64 ↑i), (5, V.str (112 :: 101 :: 114 :: 99 :: 101 :: 110 :: 116 :: 32 :: dec ↑i))], mkH [(999, .arr 126 2 (Ax f2))]⟩) ?_ ?_
  ·intro KC12 hKC12
   refine Ab (Z 12 rfl ?_)
   simp only [go_sem, simprocAttr, BJ, AC, BC]
   refine Ag rfl (fun hb12 => ?_) fun hb12 => ?_
   ·refine Z 13 rfl ?_
    simp only [go_sem, simprocAttr, BJ, AC, BC]
    and_intros <;> try exact sdA
    refine hKC12 (f1 ++ [⟨6, MW ++ dec i⟩]) _ ?_ ?_
    ·(try dsimp only); exact ⟨by rw [Dr (show (tw) = true from hb12)], by simp⟩
    refine Le.mk _ _ ?_ ?_ rfl <;> simp only [go_sem, simprocAttr, Ai, Av, Ay] <;> and_intros <;> try exact leA
   refine Aj ?_
   refine hKC12 (f1) _ ?_ ?_
   ·(try dsimp only); exact ⟨by rw [Dq (show (tw) = false from hb12), Bl], by omega⟩
   exact leM
  rintro f2 ⟨hf2, lf2⟩
  refine Ab (Z 14 rfl ?_)
  simp only [go_sem, simprocAttr, Ap _ _ _ _ hc3, hc3, Pct.enc, Ac, <- hz, BJ, AC, BC]
  and_intros <;> try exact sdA
  refine Ag rfl (fun hb14 => ?_) fun hb14 => ?_
  ·refine Z 15 rfl ?_
   simp only [go_sem, simprocAttr, BJ, AC, BC]
   and_intros <;> try exact sdA
   refine Z 4 rfl ?_
   simp only [go_sem, simprocAttr, inI, BJ, AC, BC]
   and_intros <;> try exact sdA
   refine hKL0 (i + 1, f2 ++ [⟨2, MW ++ dec i⟩]) _ ?_ ?_ ?_
   ·(try dsimp only); exact ⟨hc3, by simp only [Ai, Av, Ay]; omega, fun e => by simp at e, by rw [hf2, hf1]; exact ((hs.fif hp8).fif hp8).app (FSm.one hp8)⟩
   ·(try dsimp only); omega
   refine Le.mk _ _ ?_ ?_ rfl <;> simp only [go_sem, simprocAttr, Ai, Av, Ay] <;> and_intros <;> try exact leA
  refine Aj ?_
  refine Z 4 rfl ?_
  simp only [go_sem, simprocAttr, inI, BJ, AC, BC]
  and_intros <;> try exact sdA
  refine hKL0 (i + 1, f2) _ ?_ ?_ ?_
  ·(try dsimp only); exact ⟨hc3, by omega, hok.step hc3 (fun e => by rw [hf2, hf1] at e; simp at e; exact e.1) (fun _ => by rw [<- hz]; simp at hb14; exact ⟨by omega, by omega⟩), by rw [hf2, hf1]; exact (hs.fif hp8).fif hp8⟩
  ·(try dsimp only); omega
  exact leM
 simp only [hcL] at hc3
 refine Bc ?_
 simp only [go_sem, simprocAttr]
 refine Ab (Z 16 rfl ?_)
 simp only [go_sem, simprocAttr, BJ, AC, BC]
 refine TC.le (s' := ⟨mkE [(2, .list (Ax g) false)], mkH []⟩) (Le.mk _ _ ?_ ?_ rfl) (Ak (hQ _ _ (.inl rfl) ?_ ?_ ?_)) <;> simp only [go_sem, simprocAttr, vF]
 ·exact DO rfl (by rw [Fo]) rfl (Gp _)
 exact ⟨g, rfl, by omega, fun e => by have := hok e; rwa [Bu (by omega)] at this, hs⟩
def Ld : List Pct -> List Fault := Ua.choose
theorem AiI : ∀ l : List Pct, HO l -> Rn l (Ld l) := Ua.choose_spec.1
theorem AiJ : PU 128 (gOf KA fun l => (HO l, vF (Ld l))) := Ua.choose_spec.2
theorem Fz (l : List Pct) : gOf KA (fun l => (HO l, vF (Ld l))) [.list (l.map Pct.enc) false] = (HO l, .list (Ax (Ld l)) false) := Al (F := fun l => (HO l, vF (Ld l))) Wh l
structure Rule where
 number : Int
 whn : Cond
 cmb : List Int
 mins : Int
 maxs : Int
 chg : Int
 rfd : Int
 pcts : List Pct
def Rule.enc (r : Rule) : List V := .int .i64 r.number :: (r.whn.enc ++ [.list (Aq r.cmb) false, .int .i64 r.mins, .int .i64 r.maxs, .int .i64 r.chg, .int .i64 r.rfd, .list (r.pcts.map Pct.enc) false])
theorem Cond.enc_len (c : Cond) : c.enc.length = 8 := by obtain ⟨k, l, a, b, ⟨x, y, z⟩, t⟩ := c; rw [Cond.enc_eq]; rfl
theorem Rule.inj (a b : Rule) (h : a.enc = b.enc) : a = b := by
 obtain ⟨a1, a2, a3, a4, a5, a6, a7, a8⟩ := a
 obtain ⟨b1, b2, b3, b4, b5, b6, b7, b8⟩ := b
 unfold Rule.enc at h
 dsimp only at h
 injection h with h1 h2
 obtain ⟨h2, h3⟩ := List.append_inj h2 (by rw [Cond.enc_len, Cond.enc_len])
 simp only [Bz, V.int.injEq, V.list.injEq, and_true, true_and] at h1 h3
 obtain ⟨h3, h4, h5, h6, h7, h8⟩ := h3
 rw [h1, Cond.inj _ _ h2, Mw h3, h4, h5, h6, h7, Cj Pct.inj h8]
structure RuleOk (r : Rule) : Prop where
 n : inI r.number
 w : r.whn.ok
 c : r.cmb.length <= 1048576
 mi : inI r.mins
 ma : inI r.maxs
 ch : inI r.chg
 rf : inI r.rfd
 p : HO r.pcts
theorem Rule.rows (l : List Rule) : (∀ r ∈ l.map Rule.enc, r.length = 15) ↔ True := iff_true_intro fun r hr => by
 obtain ⟨x, _, rfl⟩ := An.1 hr
 show (_ :: (x.whn.enc ++ _)).length = 15
 rw [Av, Ai, Cond.enc_len]; rfl
theorem Rule.purs (l : List Rule) : (∀ r ∈ l.map Rule.enc, V.purs r = true) ↔ True := iff_true_intro fun r hr => by
 obtain ⟨⟨a1, ⟨k, l, a, b, ⟨x, y, z⟩, t⟩, a3, a4, a5, a6, a7, a8⟩, _, rfl⟩ := An.1 hr
 unfold Rule.enc
 rw [Cond.enc_eq]; rfl
attribute [go_sem] Rule.rows Rule.purs
def HS (r : Rule) : List V := [.agg r.enc]
theorem Wv (a b : Rule) (h : HS a = HS b) : a = b := by
 simp only [HS, Bz, V.agg.injEq, and_true] at h
 exact Rule.inj _ _ h
def Ro (r : Rule) (g : List Fault) : Prop := g.length <= 2 * r.cmb.length + 3 * r.pcts.length + 6 /\ (g = [] -> ∀ x ∈ r.pcts, LT x) /\ FSm g
def AcL : List UInt8 := [119, 104, 101, 110]
def AcI : List UInt8 := [110, 117, 109, 98, 101, 114]
def QP : List UInt8 := [115, 116, 97, 121]
def AcH : List UInt8 := [102, 101, 101, 115]
def EM : Tab
 | 126 => (gOf AQ (Gh ckV))
 | 127 => (gOf aIs fun l => (l.length <= 1048576, vF (KV l)))
 | 128 => (gOf KA fun l => (HO l, vF (Ld l)))
 | _ => gNo
theorem Amh : ∀ f, PU f (EM f) := fun f => by
 unfold EM
 split
 ·exact Ajk
 ·exact Afm
 ·exact AiJ
 ·exact Ah.no
theorem Uy : ∃ F : Rule -> List Fault, (∀ r, RuleOk r -> Ro r (F r)) /\ PU 70 (gOf HS fun r => (RuleOk r, vF (F r))) := by
 have hG := Amh
 refine AaA.p (val := vF) (R := Ro) Wv (by simp [HS]) ?_
 rintro ⟨n, ⟨k, l, a, b, ⟨x, y, z⟩, t⟩, cm, mi, ma, ch, rf, pc⟩ hv Q hQ
 have Z := AaA.T EF0 hG
 obtain ⟨o1, o2, o3, o4, o5, o6, o7, o8⟩ : RuleOk ⟨n, ⟨k, l, a, b, ⟨x, y, z⟩, t⟩, cm, mi, ma, ch, rf, pc⟩ := hv
 dsimp only at o1 o2 o3 o4 o5 o6 o7 o8
 obtain ⟨hcr, hcs⟩ := Afl cm o3
 obtain ⟨hpr, hpo, hps⟩ := AiI pc o8
 have hpl := o8.1
 generalize hcl : KV cm = G1 at hcr hcs
 generalize hpg : Ld pc = G2 at hpr hpo hps
 obtain ⟨E, hE⟩ : ∃ E, E = ckE (.mk k l a b ⟨x, y, z⟩ t) := ⟨_, rfl⟩
 refine Ab (Z 0 rfl ?_)
 simp only [go_sem, simprocAttr, HS, Rule.enc, Cond.enc_eq, EM, Eb, Fh, Fz]
 refine Ab (Z 1 rfl ?_)
 simp only [go_sem, simprocAttr, EM, Eb, Fh, Fz]
 refine TC.le (s' := ⟨mkE [(1, .ptr 1 0), (3, .own 999 0)], mkH ([(1, .box 135 [.int .i64 n, .int .i64 k, .list (l.map Cond.enc) false, .int .i64 a, .int .i64 b, .int .i64 x, .int .i64 y, .int .i64 z, .list (strs t) false, .list (Aq cm) false, .int .i64 mi, .int .i64 ma, .int .i64 ch, .int .i64 rf, .list (pc.map Pct.enc) false]), (999, .arr 126 2 (Ax []))])⟩) (Le.mk _ _ (by (simp only [go_sem, simprocAttr]) <;> and_intros <;> try exact leB) (by (simp only [go_sem, simprocAttr]) <;> and_intros <;> try exact leB) rfl) ?_
 refine Ep (α := (List Fault)) (fun g1 => (g1 = ([] : List Fault) ++ fIf (decide (n < 1) || decide (9999 < n)) 2 (AcI)) /\ (g1.length <= ([] : List Fault).length + 1)) (fun g1 => ⟨mkE [(1, V.ptr 1 0), (3, .own 999 g1.length)], mkH [(1, Ob.box 135 [V.int IntKind.i64 n, V.int IntKind.i64 k, V.list (List.map Cond.enc l) false, V.int IntKind.i64 a, V.int IntKind.i64 b, V.int IntKind.i64 x, V.int IntKind.i64 y, V.int IntKind.i64 z, V.list (strs t) false, V.list (Aq cm) false, V.int IntKind.i64 mi, V.int IntKind.i64 ma, V.int IntKind.i64 ch, V.int IntKind.i64 rf, V.list (List.map Pct.enc pc) false]), (999, .arr 126 2 (Ax g1))]⟩) ?_ ?_
 ·intro KC2 hKC2
  refine Ab (Z 2 rfl ?_)
  simp only [go_sem, simprocAttr, EM, Eb, Fh, Fz]
  and_intros <;> try exact sdA
  refine Ag rfl (fun hb2 => ?_) fun hb2 => ?_
  ·refine Z 3 rfl ?_
   simp only [go_sem, simprocAttr, EM, Eb, Fh, Fz]
   and_intros <;> try exact sdA
   refine hKC2 (([] : List Fault) ++ [⟨2, AcI⟩]) _ ?_ ?_
   ·(try dsimp only); exact ⟨by rw [Dr (show (decide (n < 1) || decide (9999 < n)) = true from hb2)], by simp⟩
   refine Le.mk _ _ ?_ ?_ rfl <;> simp only [go_sem, simprocAttr, Ai, Av, Ay] <;> and_intros <;> try exact leA
  refine Aj ?_
  refine hKC2 (([] : List Fault)) _ ?_ ?_
  ·(try dsimp only); exact ⟨by rw [Dq (show (decide (n < 1) || decide (9999 < n)) = false from hb2), Bl], by omega⟩
  exact leM
 rintro g1 ⟨hg1, lg1⟩
 replace lg1 : g1.length <= 1 := lg1
 refine Ab (Z 4 rfl ?_)
 simp only [go_sem, simprocAttr, o2, ckV, <- hE, EM, Eb, Fh, Fz]
 and_intros <;> try exact sdA
 refine Ep (α := (List Fault)) (fun g2 => (g2 = g1 ++ fIf (!decide (E = 0)) E (AcL)) /\ (g2.length <= g1.length + 1)) (fun g2 => ⟨mkE [(1, V.ptr 1 0), (3, .own 999 g2.length)], mkH [(1, Ob.box 135 [V.int IntKind.i64 n, V.int IntKind.i64 k, V.list (List.map Cond.enc l) false, V.int IntKind.i64 a, V.int IntKind.i64 b, V.int IntKind.i64 x, V.int IntKind.i64 y, V.int IntKind.i64 z, V.list (strs t) false, V.list (Aq cm) false, V.int IntKind.i64 mi, V.int IntKind.i64 ma, V.int IntKind.i64 ch, V.int IntKind.i64 rf, V.list (List.map Pct.enc pc) false]), (999, .arr 126 2 (Ax g2))]⟩) ?_ ?_
 ·intro KC5 hKC5
  refine Ab (Z 5 rfl ?_)
  simp only [go_sem, simprocAttr, EM, Eb, Fh, Fz]
  refine Ag rfl (fun hb5 => ?_) fun hb5 => ?_
  ·refine Z 6 rfl ?_
   simp only [go_sem, simprocAttr, EM, Eb, Fh, Fz]
   and_intros <;> try exact sdA
   refine hKC5 (g1 ++ [⟨E, AcL⟩]) _ ?_ ?_
   ·(try dsimp only); exact ⟨by rw [Dr (show (!decide (E = 0)) = true from hb5)], by simp⟩
   refine Le.mk _ _ ?_ ?_ rfl <;> simp only [go_sem, simprocAttr, Ai, Av, Ay] <;> and_intros <;> try exact leA
  refine Aj ?_
  refine hKC5 (g1) _ ?_ ?_
  ·(try dsimp only); exact ⟨by rw [Dq (show (!decide (E = 0)) = false from hb5), Bl], by omega⟩
  exact leM
 rintro g2 ⟨hg2, lg2⟩
 obtain ⟨g3, hg3⟩ : ∃ g3, g3 = g2 ++ G1 := ⟨_, rfl⟩
 have hl3 : g2.length + G1.length = g3.length := by rw [hg3, Ai]
 refine Ab (Z 7 rfl ?_)
 simp only [go_sem, simprocAttr, o3, hcl, Ac, Fo, Ss, <- hg3, hl3, EM, Eb, Fh, Fz]
 and_intros <;> try exact sdA
 refine Ep (α := (List Fault)) (fun g4 => (g4 = g3 ++ fIf (decide (mi < 0) || decide (400 < mi) || decide (ma < 0) || decide (400 < ma)) 2 (QP)) /\ (g4.length <= g3.length + 1)) (fun g4 => ⟨mkE [(1, V.ptr 1 0), (3, .own 999 g4.length)], mkH [(1, Ob.box 135 [V.int IntKind.i64 n, V.int IntKind.i64 k, V.list (List.map Cond.enc l) false, V.int IntKind.i64 a, V.int IntKind.i64 b, V.int IntKind.i64 x, V.int IntKind.i64 y, V.int IntKind.i64 z, V.list (strs t) false, V.list (Aq cm) false, V.int IntKind.i64 mi, V.int IntKind.i64 ma, V.int IntKind.i64 ch, V.int IntKind.i64 rf, V.list (List.map Pct.enc pc) false]), (999, .arr 126 2 (Ax g4))]⟩) ?_ ?_
 ·intro KC8 hKC8
  refine Ab (Z 8 rfl ?_)
  simp only [go_sem, simprocAttr, EM, Eb, Fh, Fz]
  and_intros <;> try exact sdA
  refine Ag rfl (fun hb8 => ?_) fun hb8 => ?_
  ·refine Z 9 rfl ?_
   simp only [go_sem, simprocAttr, EM, Eb, Fh, Fz]
   and_intros <;> try exact sdA
   refine hKC8 (g3 ++ [⟨2, QP⟩]) _ ?_ ?_
   ·(try dsimp only); exact ⟨by rw [Dr (show (decide (mi < 0) || decide (400 < mi) || decide (ma < 0) || decide (400 < ma)) = true from hb8)], by simp⟩
   refine Le.mk _ _ ?_ ?_ rfl <;> simp only [go_sem, simprocAttr, Ai, Av, Ay] <;> and_intros <;> try exact leA
  refine Aj ?_
  refine hKC8 (g3) _ ?_ ?_
  ·(try dsimp only); exact ⟨by rw [Dq (show (decide (mi < 0) || decide (400 < mi) || decide (ma < 0) || decide (400 < ma)) = false from hb8), Bl], by omega⟩
  exact leM
 rintro g4 ⟨hg4, lg4⟩
 refine Ep (α := (List Fault)) (fun g5 => (g5 = g4 ++ fIf (and (decide (0 < ma)) (decide (ma < mi))) 24 (QP)) /\ (g5.length <= g4.length + 1)) (fun g5 => ⟨mkE [(1, V.ptr 1 0), (3, .own 999 g5.length)], mkH [(1, Ob.box 135 [V.int IntKind.i64 n, V.int IntKind.i64 k, V.list (List.map Cond.enc l) false, V.int IntKind.i64 a, V.int IntKind.i64 b, V.int IntKind.i64 x, V.int IntKind.i64 y, V.int IntKind.i64 z, V.list (strs t) false, V.list (Aq cm) false, V.int IntKind.i64 mi, V.int IntKind.i64 ma, V.int IntKind.i64 ch, V.int IntKind.i64 rf, V.list (List.map Pct.enc pc) false]), (999, .arr 126 2 (Ax g5))]⟩) ?_ ?_
 ·intro KC10 hKC10
  refine Ab (Z 10 rfl ?_)
  simp only [go_sem, simprocAttr, EM, Eb, Fh, Fz]
  and_intros <;> try exact sdA
  refine Ag rfl (fun hb10 => ?_) fun hb10 => ?_
  ·refine Z 11 rfl ?_
   simp only [go_sem, simprocAttr, EM, Eb, Fh, Fz]
   and_intros <;> try exact sdA
   refine hKC10 (g4 ++ [⟨24, QP⟩]) _ ?_ ?_
   ·(try dsimp only); exact ⟨by rw [Dr (show (and (decide (0 < ma)) (decide (ma < mi))) = true from hb10)], by simp⟩
   refine Le.mk _ _ ?_ ?_ rfl <;> simp only [go_sem, simprocAttr, Ai, Av, Ay] <;> and_intros <;> try exact leA
  refine Aj ?_
  refine hKC10 (g4) _ ?_ ?_
  ·(try dsimp only); exact ⟨by rw [Dq (show (and (decide (0 < ma)) (decide (ma < mi))) = false from hb10), Bl], by omega⟩
  exact leM
 rintro g5 ⟨hg5, lg5⟩
 obtain ⟨M1, hM1⟩ : ∃ z : Int, z = -1 := ⟨_, rfl⟩
 obtain ⟨M2, hM2⟩ : ∃ z : Int, z = 1099511627776 := ⟨_, rfl⟩
 refine Ep (α := (List Fault)) (fun g6 => (g6 = g5 ++ fIf (decide (ch < M1) || decide (M2 < ch) || decide (rf < M1) || decide (M2 < rf)) 2 (AcH)) /\ (g6.length <= g5.length + 1)) (fun g6 => ⟨mkE [(1, V.ptr 1 0), (3, .own 999 g6.length)], mkH [(1, Ob.box 135 [V.int IntKind.i64 n, V.int IntKind.i64 k, V.list (List.map Cond.enc l) false, V.int IntKind.i64 a, V.int IntKind.i64 b, V.int IntKind.i64 x, V.int IntKind.i64 y, V.int IntKind.i64 z, V.list (strs t) false, V.list (Aq cm) false, V.int IntKind.i64 mi, V.int IntKind.i64 ma, V.int IntKind.i64 ch, V.int IntKind.i64 rf, V.list (List.map Pct.enc pc) false]), (999, .arr 126 2 (Ax g6))]⟩) ?_ ?_
 ·intro KC12 hKC12
  refine Ab (AmF (EF := EF0) hG Am9 ?_)
  simp only [VD, go_sem, simprocAttr, <- hM1, <- hM2, EM, Eb, Fh, Fz]
  and_intros <;> try exact sdA
  refine Ag rfl (fun hb12 => ?_) fun hb12 => ?_
  ·refine Z 13 rfl ?_
   simp only [go_sem, simprocAttr, EM, Eb, Fh, Fz]
   and_intros <;> try exact sdA
   refine hKC12 (g5 ++ [⟨2, AcH⟩]) _ ?_ ?_
   ·(try dsimp only); exact ⟨by rw [Dr (show (decide (ch < M1) || decide (M2 < ch) || decide (rf < M1) || decide (M2 < rf)) = true from hb12)], by simp⟩
   refine Le.mk _ _ ?_ ?_ rfl <;> simp only [go_sem, simprocAttr, Ai, Av, Ay] <;> and_intros <;> try exact leA
  refine Aj ?_
  refine hKC12 (g5) _ ?_ ?_
  ·(try dsimp only); exact ⟨by rw [Dq (show (decide (ch < M1) || decide (M2 < ch) || decide (rf < M1) || decide (M2 < rf)) = false from hb12), Bl], by omega⟩
  exact leM
 rintro g6 ⟨hg6, lg6⟩
 obtain ⟨g7, hg7⟩ : ∃ g7, g7 = g6 ++ G2 := ⟨_, rfl⟩
 have hl7 : g6.length + G2.length = g7.length := by rw [hg7, Ai]
 refine Ab (Z 14 rfl ?_)
 simp only [go_sem, simprocAttr, o8, hpg, Ac, Fo, Ss, <- hg7, hl7, EM, Eb, Fh, Fz]
 and_intros <;> try exact sdA
 refine TC.le (s' := ⟨mkE [(2, .list (Ax g7) false)], mkH []⟩) (Le.mk _ _ ?_ ?_ rfl) (Ak (hQ _ _ (.inl rfl) ?_ ?_ ?_)) <;> simp only [go_sem, simprocAttr, vF]
 ·exact DO rfl (by rw [Fo]) rfl (Gp _)
 refine ⟨g7, rfl, ?_, fun e => hpo ?_, ?_⟩
 ·show g7.length <= 2 * cm.length + 3 * pc.length + 6
  omega
 ·rw [hg7] at e; exact (GP.1 e).2
 rw [hg7, hg6, hg5, hg4, hg3, hg2, hg1]; exact (((((((FSm.nil.fif (by decide)).fif (by decide)).app hcs).fif (by decide)).fif (by decide)).fif (by decide)).app hps)
def IU : Rule -> List Fault := Uy.choose
theorem AjO : ∀ r : Rule, RuleOk r -> Ro r (IU r) := Uy.choose_spec.1
theorem AjR : PU 70 (gOf HS fun r => (RuleOk r, vF (IU r))) := Uy.choose_spec.2
theorem AjQ (r : Rule) : gOf HS (fun r => (RuleOk r, vF (IU r))) [.agg r.enc] = (RuleOk r, .list (Ax (IU r)) false) := Al (F := fun r => (RuleOk r, vF (IU r))) Wv r
structure Link where
 from' : List UInt8
 to' : List UInt8
def Link.enc (x : Link) : List V := [.str x.from', .str x.to']
theorem Link.inj (a b : Link) (h : a.enc = b.enc) : a = b := by
 obtain ⟨a_from', a_to'⟩ := a
 obtain ⟨b_from', b_to'⟩ := b
 simp only [Link.enc, Bz, V.str.injEq, V.int.injEq, V.bool.injEq, V.agg.injEq, V.list.injEq, and_true, true_and] at h
 obtain ⟨h0, h1⟩ := h
 subst h0
 subst h1
 rfl
def Link.ok (x : Link) : Prop := x.from'.length <= 140737488355328 /\ x.to'.length <= 140737488355328
def Link.zero : Link := ⟨[], []⟩
theorem Link.rows (l : List Link) : (∀ r ∈ l.map Link.enc, r.length = 2) ↔ True := iff_true_intro fun r hr => by obtain ⟨x, _, rfl⟩ := An.1 hr; rfl
theorem Link.purs (l : List Link) : (∀ r ∈ l.map Link.enc, V.purs r = true) ↔ True := iff_true_intro fun r hr => by obtain ⟨x, _, rfl⟩ := An.1 hr; rfl
attribute [go_sem] Link.rows Link.purs
structure Routing where
 number : Int
 links : List Link
 miles : Int
def Routing.enc (x : Routing) : List V := [.int .i64 x.number, .list (x.links.map Link.enc) false, .int .i64 x.miles]
theorem Routing.inj (a b : Routing) (h : a.enc = b.enc) : a = b := by
 obtain ⟨a_number, a_links, a_miles⟩ := a
 obtain ⟨b_number, b_links, b_miles⟩ := b
 simp only [Routing.enc, Bz, V.str.injEq, V.int.injEq, V.bool.injEq, V.agg.injEq, V.list.injEq, and_true, true_and] at h
 obtain ⟨h0, h1, h2⟩ := h
 subst h0
 replace h1 := Cj Link.inj h1
 subst h1
 subst h2
 rfl
def Routing.ok (x : Routing) : Prop := inI x.number /\ (x.links.length <= 140737488355328 /\ ∀ z ∈ x.links, z.ok) /\ inI x.miles
def Routing.zero : Routing := ⟨0, [], 0⟩
theorem Routing.rows (l : List Routing) : (∀ r ∈ l.map Routing.enc, r.length = 3) ↔ True := iff_true_intro fun r hr => by obtain ⟨x, _, rfl⟩ := An.1 hr; rfl
theorem Routing.purs (l : List Routing) : (∀ r ∈ l.map Routing.enc, V.purs r = true) ↔ True := iff_true_intro fun r hr => by obtain ⟨x, _, rfl⟩ := An.1 hr; rfl
attribute [go_sem] Routing.rows Routing.purs
def aLk := ar (vl Link.enc) (ar V.str (ao V.str))
theorem VU : Ij aLk := ijr (ijl Link.inj) (ijr ijs (ijo ijs))
def Abv (a b : List UInt8) (x : Link) : Bool := decide (x.from' = a) && decide (x.to' = b)
def Kc (a b : List UInt8) : Int -> List Link -> Int
 | _, [] => -1
 | i, x :: l => if Abv a b x = true then i else Kc a b (i + 1) l
def Ml (x : List Link × List UInt8 × List UInt8) : Prop × V := (x.1.length <= 140737488355328, .int .i64 (Kc x.2.1 x.2.2 0 x.1))
theorem Cn (l : List Link) (a b : List UInt8) : gOf aLk Ml [.list (l.map Link.enc) false, .str a, .str b] = (l.length <= 140737488355328, .int .i64 (Kc a b 0 l)) := Al VU (l, a, b)
theorem Abs : PU 130 (gOf aLk Ml) := by
 have hG := AH
 refine YR.a VU (by simp [aLk]) ?_
 rintro ⟨l, a, b⟩ hv C hN Q hQ
 have Z := YR.R EF0 hG hN
 replace hv : l.length <= 140737488355328 := hv
 refine Aa (Z 0 rfl ?_)
 simp only [go_sem, simprocAttr, aLk]
 refine Aa (Aa (Z 1 rfl ?_))
 simp only [go_sem, simprocAttr]
 refine Ao ?_
 refine AX (α := Nat) (fun i => (i <= l.length) /\ (Kc a b 0 l = Kc a b i (l.drop i))) (fun i => ⟨mkE [(0, V.list (List.map Link.enc l) false), (1, V.str a), (2, V.str b), (7, .int .i64 i)], mkH []⟩) (fun i => l.length - i) 0 ⟨Ar _, rfl⟩ ?_ ?_
 ·exact leM
 rintro i ⟨hi, hx⟩ KL0 hKL0
 try dsimp only at *
 refine Aa (Aa (Z 2 rfl ?_))
 simp only [go_sem, simprocAttr, Ac]
 refine Ae rfl (fun hc2 => ?_) fun hc2 => ?_
 ·simp only [hcL] at hc2
  refine Af ?_
  refine Aa (Ao ?_)
  rw [DS hc2, Kc] at hx
  generalize hu : l[i] = u at hx
  obtain ⟨f, t⟩ := u
  unfold Abv at hx
  dsimp only at hx
  refine Aa (Z 4 rfl ?_)
  simp only [go_sem, simprocAttr, Ap _ _ _ _ hc2, hc2, hu, Link.enc]
  and_intros <;> try exact sdA
  refine Ae rfl (fun hb4 => ?_) fun hb4 => ?_
  ·rw [if_pos hb4] at hx
   refine Aa (Z 5 rfl ?_)
   simp only [go_sem, simprocAttr]
   refine Ad (hQ _ _ (.inl rfl) ?_ ?_ ?_) <;> simp only [go_sem, simprocAttr, Ml, hx]
  rw [if_neg (by rw [hb4]; decide)] at hx
  refine Af ?_
  refine Z 3 rfl ?_
  simp only [go_sem, simprocAttr, inI]
  and_intros <;> try exact sdA
  refine hKL0 (i + 1) _ ?_ ?_ ?_
  ·(try dsimp only); exact ⟨hc2, hx⟩
  ·(try dsimp only); omega
  exact leM
 simp only [hcL] at hc2
 rw [GN (by omega), Kc] at hx
 refine AS ?_
 simp only [go_sem, simprocAttr]
 refine Aa (Z 6 rfl ?_)
 simp only [go_sem, simprocAttr]
 refine Ad (hQ _ _ (.inl rfl) ?_ ?_ ?_) <;> simp only [go_sem, simprocAttr, Ml, hx]
def QM : List UInt8 := [110, 117, 109, 98, 101, 114]
def QJ : List UInt8 := [108, 105, 110, 107, 115]
def sLk : List UInt8 := [108, 105, 110, 107, 32]
def QL : List UInt8 := [109, 105, 108, 101, 115]
def lkA (x : Link) : Bool := !Cq 3 x.from' || !Cq 3 x.to'
def lkC (l : List Link) (i : Nat) (x : Link) : Bool := decide (0 <= Kc x.from' x.to' 0 (l.take i))
def MN (l : List Link) (i : Nat) (x : Link) : List Fault := fIf (lkA x) 5 (sLk ++ dec i) ++ fIf (decide (x.from' = x.to')) 2 (sLk ++ dec i) ++ fIf (lkC l i x) 6 (sLk ++ dec i)
def FU (l : List Link) : Nat -> List Fault
 | 0 => []
 | i + 1 => FU l i ++ MN l i (l.getD i Link.zero)
def MV (r : Routing) : List Fault := fIf (decide (r.number < 1) || decide (9999 < r.number)) 2 QM ++ fIf (decide (128 < (r.links.length : Int))) 4 QJ ++ (if (r.links.length : Int) <= 128 then FU r.links r.links.length else []) ++ fIf (decide (r.miles < 0) || decide (99999 < r.miles)) 2 QL
def aRg := ao (vg Routing.enc)
theorem Wu : Ij aRg := ijo (ijg Routing.inj)
def fRg (r : Routing) : Prop × V := (r.ok /\ r.links.length <= 1000000, .list (Ax (MV r)) false)
def Dj : Tab
 | 68 => IW
 | 129 => (gOf Bh (HX 3))
 | 130 => (gOf aLk Ml)
 | _ => gNo
theorem Amf : ∀ f, PU f (Dj f) := fun f => by
 unfold Dj
 split
 ·exact Ou
 ·exact Uk
 ·exact Abs
 ·exact Ah.no
theorem AjH : PU 71 (gOf aRg fRg) := by
 have hG := Amf
 refine Tb.a Wu (by simp [aRg]) ?_
 rintro ⟨n, l, mi⟩ hv C hN Q hQ
 have Y := Tb.D EF0 hG hN mixed
 have Z := Tb.R EF0 hG hN
 obtain ⟨hok, hl⟩ : (Routing.mk n l mi).ok /\ l.length <= 1000000 := hv
 simp only [Routing.ok] at hok
 obtain ⟨_, ⟨_, hlo⟩, _⟩ := hok
 refine Aa (Z 0 rfl ?_)
 simp only [go_sem, simprocAttr, aRg, Routing.enc, Dj, AV, Cn]
 refine Aa (Z 1 rfl ?_)
 simp only [go_sem, simprocAttr, Dj, AV, Cn]
 refine AW.le (s' := ⟨mkE [(1, .ptr 1 0), (3, .own 999 0)], mkH ([(1, .box 140 [.int .i64 n, .list (l.map Link.enc) false, .int .i64 mi]), (999, .arr 126 2 (Ax []))])⟩) (Le.mk _ _ (by (simp only [go_sem, simprocAttr]) <;> and_intros <;> try exact leB) (by (simp only [go_sem, simprocAttr]) <;> and_intros <;> try exact leB) rfl) ?_
 refine Dw (α := (List Fault)) (fun g1 => (g1 = ([] : List Fault) ++ fIf (decide (n < 1) || decide (9999 < n)) 2 (QM)) /\ (g1.length <= ([] : List Fault).length + 1)) (fun g1 => ⟨mkE [(1, V.ptr 1 0), (3, .own 999 g1.length)], mkH [(1, Ob.box 140 [V.int IntKind.i64 n, V.list (List.map Link.enc l) false, V.int IntKind.i64 mi]), (999, .arr 126 2 (Ax g1))]⟩) ?_ ?_
 ·intro KC2 hKC2
  refine Aa (Z 2 rfl ?_)
  simp only [go_sem, simprocAttr, Dj, AV, Cn]
  and_intros <;> try exact sdA
  refine Ae rfl (fun hb2 => ?_) fun hb2 => ?_
  ·refine Z 3 rfl ?_
   simp only [go_sem, simprocAttr, Dj, AV, Cn]
   and_intros <;> try exact sdA
   refine hKC2 (([] : List Fault) ++ [⟨2, QM⟩]) _ ?_ ?_
   ·(try dsimp only); exact ⟨by rw [Dr (show (decide (n < 1) || decide (9999 < n)) = true from hb2)], by simp⟩
   refine Le.mk _ _ ?_ ?_ rfl <;> simp only [go_sem, simprocAttr, Ai, Av, Ay] <;> and_intros <;> try exact leA
  refine Af ?_
  refine hKC2 (([] : List Fault)) _ ?_ ?_
  ·(try dsimp only); exact ⟨by rw [Dq (show (decide (n < 1) || decide (9999 < n)) = false from hb2), Bl], by omega⟩
  exact leM
 rintro g1 ⟨hg1, lg1⟩
 replace lg1 : g1.length <= 1 := lg1
 refine Dw (α := (List Fault)) (fun g2 => (g2 = g1 ++ fIf (decide (128 < (l.length : Int))) 4 (QJ)) /\ (g2.length <= g1.length + 1)) (fun g2 => ⟨mkE [(1, V.ptr 1 0), (3, .own 999 g2.length)], mkH [(1, Ob.box 140 [V.int IntKind.i64 n, V.list (List.map Link.enc l) false, V.int IntKind.i64 mi]), (999, .arr 126 2 (Ax g2))]⟩) ?_ ?_
 ·intro KC4 hKC4
  refine Aa (Z 4 rfl ?_)
  simp only [go_sem, simprocAttr, Ac, Dj, AV, Cn]
  refine Ae rfl (fun hb4 => ?_) fun hb4 => ?_
  ·refine Z 5 rfl ?_
   simp only [go_sem, simprocAttr, Dj, AV, Cn]
   and_intros <;> try exact sdA
   refine hKC4 (g1 ++ [⟨4, QJ⟩]) _ ?_ ?_
   ·(try dsimp only); exact ⟨by rw [Dr (show (decide (128 < (l.length : Int))) = true from hb4)], by simp⟩
   refine Le.mk _ _ ?_ ?_ rfl <;> simp only [go_sem, simprocAttr, Ai, Av, Ay] <;> and_intros <;> try exact leA
  refine Af ?_
  refine hKC4 (g1) _ ?_ ?_
  ·(try dsimp only); exact ⟨by rw [Dq (show (decide (128 < (l.length : Int))) = false from hb4), Bl], by omega⟩
  exact leM
 rintro g2 ⟨hg2, lg2⟩
 refine Aa (Aa (Z 6 rfl ?_))
 simp only [go_sem, simprocAttr, Dj, AV, Cn]
 refine Ao ?_
 refine AX (α := Nat × (List Fault)) (fun γ => (γ.1 <= l.length) /\ (128 < l.length -> γ.1 = 0) /\ (γ.2 = g2 ++ FU l γ.1) /\ (γ.2.length <= g2.length + 3 * γ.1)) (fun γ => ⟨mkE [(1, V.ptr 1 0), (3, .own 999 γ.2.length), (4, .int .i64 γ.1)], mkH [(1, Ob.box 140 [V.int IntKind.i64 n, V.list (List.map Link.enc l) false, V.int IntKind.i64 mi]), (999, .arr 126 2 (Ax γ.2))]⟩) (fun γ => l.length - γ.1) (0, g2) ⟨Ar _, fun _ => rfl, by rw [FU, Bl], Az _⟩ ?_ ?_
 ·exact leM
 rintro ⟨i, g⟩ ⟨hi, h8, hg, hgl⟩ KL0 hKL0
 try dsimp only at *
 refine Aa (Aa (Z 7 rfl ?_))
 simp only [go_sem, simprocAttr, Ac, Dj, AV, Cn]
 and_intros <;> try exact sdA
 refine Ae rfl (fun hb7 => ?_) fun hb7 => ?_
 ·obtain ⟨hil, h128⟩ : i < l.length /\ l.length <= 128 := by simp only [By, decide_eq_true_eq] at hb7; omega
  have hxo := hlo _ (AF hil)
  have hst : FU l (i + 1) = FU l i ++ MN l i (l.getD i Link.zero) := rfl
  rw [Cu _ _ _ hil] at hst
  generalize hxx : l[i] = x at hxo hst
  obtain ⟨f, t⟩ := x
  obtain ⟨hf, ht⟩ := hxo
  dsimp only at hf ht
  refine Af ?_
  refine Aa (Ao ?_)
  refine Aa (Z 9 rfl ?_)
  simp only [go_sem, simprocAttr, Ap _ _ _ _ hil, hil, hxx, Link.enc, Dj, AV, Cn]
  and_intros <;> try exact sdA
  have hd := Hj (i := i) (by omega)
  have hi2 := JP (i := i) (by omega)
  refine Aa (Z 10 rfl ?_)
  simp only [go_sem, simprocAttr, inI, AC, hi2, Dj, AV, Cn]
  and_intros <;> (try first | exact sdA | (simp only [Ai, Av, Ay]; omega))
  refine Dw (α := (List Fault)) (fun f1 => (f1 = g ++ fIf (lkA ⟨f, t⟩) 5 (sLk ++ dec i)) /\ (f1.length <= g.length + 1)) (fun f1 => ⟨mkE [(1, V.ptr 1 0), (3, .own 999 f1.length), (4, V.int IntKind.i64 ↑i), (5, V.ptr 5 0), (6, V.str (108 :: 105 :: 110 :: 107 :: 32 :: dec ↑i))], mkH [(1, Ob.box 140 [V.int IntKind.i64 n, V.list (List.map Link.enc l) false, V.int IntKind.i64 mi]), (5, Ob.box 194 [V.str f, V.str t]), (999, .arr 126 2 (Ax f1))]⟩) ?_ ?_
  ·intro KC11 hKC11
   refine Aa (Z 11 rfl ?_)
   simp only [go_sem, simprocAttr, hf, ht, Dj, AV, Cn]
   and_intros <;> try exact sdA
   refine Ae rfl (fun hb11 => ?_) fun hb11 => ?_
   ·refine Z 12 rfl ?_
    simp only [go_sem, simprocAttr, Dj, AV, Cn]
    and_intros <;> try exact sdA
    refine hKC11 (g ++ [⟨5, sLk ++ dec i⟩]) _ ?_ ?_
    ·(try dsimp only); exact ⟨by rw [Dr (show (lkA ⟨f, t⟩) = true from hb11)], by simp⟩
    refine Le.mk _ _ ?_ ?_ rfl <;> simp only [go_sem, simprocAttr, Ai, Av, Ay] <;> and_intros <;> try exact leA
   refine Af ?_
   refine hKC11 (g) _ ?_ ?_
   ·(try dsimp only); exact ⟨by rw [Dq (show (lkA ⟨f, t⟩) = false from hb11), Bl], by omega⟩
   exact leM
  rintro f1 ⟨hf1, lf1⟩
  refine Dw (α := (List Fault)) (fun f2 => (f2 = f1 ++ fIf (decide (f = t)) 2 (sLk ++ dec i)) /\ (f2.length <= f1.length + 1)) (fun f2 => ⟨mkE [(1, V.ptr 1 0), (3, .own 999 f2.length), (4, V.int IntKind.i64 ↑i), (5, V.ptr 5 0), (6, V.str (108 :: 105 :: 110 :: 107 :: 32 :: dec ↑i))], mkH [(1, Ob.box 140 [V.int IntKind.i64 n, V.list (List.map Link.enc l) false, V.int IntKind.i64 mi]), (5, Ob.box 194 [V.str f, V.str t]), (999, .arr 126 2 (Ax f2))]⟩) ?_ ?_
  ·intro KC13 hKC13
   refine Aa (Z 13 rfl ?_)
   simp only [go_sem, simprocAttr, Dj, AV, Cn]
   refine Ae rfl (fun hb13 => ?_) fun hb13 => ?_
   ·refine Z 14 rfl ?_
    simp only [go_sem, simprocAttr, Dj, AV, Cn]
    and_intros <;> try exact sdA
    refine hKC13 (f1 ++ [⟨2, sLk ++ dec i⟩]) _ ?_ ?_
    ·(try dsimp only); exact ⟨by rw [Dr (show (decide (f = t)) = true from hb13)], by simp⟩
    refine Le.mk _ _ ?_ ?_ rfl <;> simp only [go_sem, simprocAttr, Ai, Av, Ay] <;> and_intros <;> try exact leA
   refine Af ?_
   refine hKC13 (f1) _ ?_ ?_
   ·(try dsimp only); exact ⟨by rw [Dq (show (decide (f = t)) = false from hb13), Bl], by omega⟩
   exact leM
  rintro f2 ⟨hf2, lf2⟩
  have htk : (l.take i).length <= 140737488355328 := by rw [Bx]; omega
  refine Aa (Y 15 rfl (by kernel_rfl) ?_)
  simp only [go_sem, simprocAttr, Ac, <- MJ, htk, Dj, AV, Cn]
  and_intros <;> try exact sdA
  refine Ae rfl (fun hb15 => ?_) fun hb15 => ?_
  ·refine Z 16 rfl ?_
   simp only [go_sem, simprocAttr, Dj, AV, Cn]
   and_intros <;> try exact sdA
   refine Z 8 rfl ?_
   simp only [go_sem, simprocAttr, inI, Dj, AV, Cn]
   and_intros <;> try exact sdA
   refine hKL0 (i + 1, f2 ++ [⟨6, sLk ++ dec i⟩]) _ ?_ ?_ ?_
   ·(try dsimp only); refine ⟨hil, fun h => by omega, ?_, by simp only [Ai, Av, Ay]; omega⟩; rw [hst, MN, Dr (b := lkC l i ⟨f, t⟩) hb15, hf2, hf1, hg]; simp only [Dg]
   ·(try dsimp only); omega
   refine Le.mk _ _ ?_ ?_ rfl <;> simp only [go_sem, simprocAttr, Ai, Av, Ay] <;> and_intros <;> try exact leA
  refine Af ?_
  refine Z 8 rfl ?_
  simp only [go_sem, simprocAttr, inI, Dj, AV, Cn]
  and_intros <;> try exact sdA
  refine hKL0 (i + 1, f2) _ ?_ ?_ ?_
  ·(try dsimp only); refine ⟨hil, fun h => by omega, ?_, by omega⟩; rw [hst, MN, Dq (b := lkC l i ⟨f, t⟩) hb15, hf2, hf1, hg]; simp only [Dg, Bl]
  ·(try dsimp only); omega
  exact leM
 have hg0 : g = g2 ++ (if (l.length : Int) <= 128 then FU l l.length else []) := by (rw [hg]; by_cases h : l.length <= 128; (rw [if_pos (by omega)]; have : i = l.length := by simp only [Qe, decide_eq_false_iff_not] at hb7; omega); (rw [this]); (rw [if_neg (by omega), h8 (by omega), FU]))
 refine AS ?_
 simp only [go_sem, simprocAttr]
 refine Dw (α := (List Fault)) (fun g3 => (g3 = g ++ fIf (decide (mi < 0) || decide (99999 < mi)) 2 (QL)) /\ (g3.length <= g.length + 1)) (fun g3 => ⟨mkE [(3, .own 999 g3.length)], mkH [(999, .arr 126 2 (Ax g3))]⟩) ?_ ?_
 ·intro KC17 hKC17
  refine Aa (Z 17 rfl ?_)
  simp only [go_sem, simprocAttr, Dj, AV, Cn]
  and_intros <;> try exact sdA
  refine Ae rfl (fun hb17 => ?_) fun hb17 => ?_
  ·refine Z 18 rfl ?_
   simp only [go_sem, simprocAttr, Dj, AV, Cn]
   and_intros <;> try exact sdA
   refine hKC17 (g ++ [⟨2, QL⟩]) _ ?_ ?_
   ·(try dsimp only); exact ⟨by rw [Dr (show (decide (mi < 0) || decide (99999 < mi)) = true from hb17)], by simp⟩
   refine Le.mk _ _ ?_ ?_ rfl <;> simp only [go_sem, simprocAttr, Ai, Av, Ay] <;> and_intros <;> try exact leA
  refine Af ?_
  refine hKC17 (g) _ ?_ ?_
  ·(try dsimp only); exact ⟨by rw [Dq (show (decide (mi < 0) || decide (99999 < mi)) = false from hb17), Bl], by omega⟩
  exact leM
 rintro g3 ⟨hg3, lg3⟩
 refine Aa (Z 19 rfl ?_)
 simp only [go_sem, simprocAttr, Dj, AV, Cn]
 refine AW.le (s' := ⟨mkE [(2, .list (Ax g3) false)], mkH []⟩) (Le.mk _ _ ?_ ?_ rfl) (Ad (hQ _ _ (.inl rfl) ?_ ?_ ?_)) <;> simp only [go_sem, simprocAttr, fRg]
 ·exact DO rfl (by rw [Fo]) rfl (Gp _)
 rw [hg3, hg0, hg2, hg1]; rfl
theorem AG (s : List UInt8) (a b : Int) : BC [.str s, .int .i64 a, .int .i64 b] = (s.length <= 140737488355328, .bool (Db s a b)) := rfl
theorem Aog {h : Nat -> Option Ob} {hl : List (Nat × Ob)} {n off len m : Nat} {fit : Bool} {rows R : List (List V)} {t : TypeId} {sz : Nat} (hn : h n = some (.arr t sz rows)) (hm : rows.length = m) (h' : mkH hl n = none) (hp : ∀ r ∈ rows, V.purs r = true) (hR : (rows.drop off).take len = R) : Wk h hl (.vw n off len m fit) (.list R fit) := by
 subst hm hR; exact .frzv n off len fit t sz rows hn h' hp
def Eh : List V -> Prop × V
 | [.str s, .str [c]] => (True, .int .i64 (Lib.indexByte s c))
 | _ => (False, .any)
theorem AgV : PU 206 Eh := by
 refine Ah.leaf Tryz.func206 (by kernel_rfl : Tryz.f206.body = some ((Tryz.f206.body).getD .skip)) (by kernel_rfl) fun vs M w cargs hv hB hs ha => ?_
 match vs, hv, hs, ha with
 | [.str s, .str [c]], hv, hs, ha =>
 have h0 := (ha 0 _ rfl).str_inv
 have h2 := (ha 1 _ rfl).str_inv
 have h1 := OV hs
 rw [h0, h2] at h1
 rw [h1]
 refine (Tryz.strings_Index_one _ c w).mono ?_
 rintro e w' ⟨he, rfl⟩
 exact ⟨_, he, fun M' => .int _ _, ML _ _⟩
def Eg : List V -> Prop × V
 | [.str s, .str [c]] => (True, .int .i64 ((s.count c : Nat) : Int))
 | _ => (False, .any)
theorem Afn : PU 205 Eg := by
 refine Ah.leaf Tryz.func205 (by kernel_rfl : Tryz.f205.body = some ((Tryz.f205.body).getD .skip)) (by kernel_rfl) fun vs M w cargs hv hB hs ha => ?_
 match vs, hv, hs, ha with
 | [.str s, .str [c]], hv, hs, ha =>
 have h0 := (ha 0 _ rfl).str_inv
 have h2 := (ha 1 _ rfl).str_inv
 have h1 := OV hs
 rw [h0, h2] at h1
 rw [h1]
 refine (Tryz.strings_Count_one _ c w).mono ?_
 rintro e w' ⟨he, rfl⟩
 exact ⟨_, he, fun M' => .int _ _, ML _ _⟩
def Ts : List V -> Prop × V
 | [.str s, .int .u8 c] => (True, .int .i64 (Lib.indexByte s c.toNat.toUInt8))
 | _ => (False, .any)
theorem Ahd : PU 171 Ts := by
 refine Ah.leaf Tryz.func171 (by kernel_rfl : Tryz.f171.body = some ((Tryz.f171.body).getD .skip)) (by kernel_rfl) fun vs M w cargs hv hB hs ha => ?_
 match vs, hv, hs, ha with
 | [.str s, .int .u8 c], hv, hs, ha =>
 have h0 := (ha 0 _ rfl).str_inv
 have h2 := (ha 1 _ rfl).int_inv
 have h1 := OV hs
 rw [h0, h2] at h1
 rw [h1]
 refine (Tryz.strings_IndexByte _ c w).mono ?_
 rintro e w' ⟨he, rfl⟩
 exact ⟨_, he, fun M' => .int _ _, ML _ _⟩
def Bv : List UInt8 -> List (List UInt8)
 | [] => [[]]
 | c :: s => if c = 32 then [] :: Bv s else match Bv s with
  | w :: r => (c :: w) :: r
  | [] => [[c]]
theorem UL (s : List UInt8) : Bv s ≠ [] := by
 cases s with
 | nil => simp [Bv]
 | cons c s => unfold Bv; split; (· simp); (· split <;> simp)
theorem UK : ∀ s : List UInt8, (Bv s).length = s.count 32 + 1
 | [] => rfl
 | c :: s => by
  have ih := UK s
  unfold Bv
  by_cases h : c = 32
  ·subst h; rw [if_pos rfl, Av, ih, List.count_cons_self]
  ·rw [if_neg h, List.count_cons_of_ne (by simpa using h)]
   cases h2 : Bv s with
   | nil => exact absurd h2 (UL s)
   | cons w r => rw [h2] at ih; simpa using ih
theorem Abh (s : List UInt8) (c : UInt8) : Lib.indexByte s c < s.length \/ Lib.indexByte s c = -1 := by
 induction s with
 | nil => exact .inr rfl
 | cons b l ih =>
  unfold Lib.indexByte
  split
  ·left; simp
  ·split
   ·exact .inr rfl
   ·rename_i h1 h2
    have := Lib.indexByte_ge l c
    left
    rw [Av]
    rcases ih with ih | ih
    ·omega
    ·rw [ih] at h2; simp at h2
theorem Adr {s : List UInt8} (h : 0 <= Lib.indexByte s 32) : Bv s = s.take (Lib.indexByte s 32).toNat :: Bv (s.drop ((Lib.indexByte s 32).toNat + 1)) := by
 induction s with
 | nil => exact absurd h (by decide)
 | cons b l ih =>
  have hg := Lib.indexByte_ge l 32
  unfold Lib.indexByte at h ⊢
  by_cases hb : b = 32
  ·subst hb
   rw [Bv, if_pos rfl]
   simp
  ·have hb2 : (b == 32) = false := by simpa using hb
   rw [hb2] at h ⊢
   simp only [BV, if_false] at h ⊢
   by_cases h1 : Lib.indexByte l 32 = -1
   ·rw [h1] at h; exact absurd h (by decide)
   ·have h2 : (Lib.indexByte l 32 == -1) = false := by simpa using h1
    rw [h2] at h ⊢
    simp only [BV, if_false] at h ⊢
    have e : (Lib.indexByte l 32 + 1).toNat = (Lib.indexByte l 32).toNat + 1 := by omega
    rw [e, JZ, Lx, Bv, if_neg hb, ih (by omega)]
theorem Ads {s : List UInt8} (h : Lib.indexByte s 32 < 0) : Bv s = [s] := by
 induction s with
 | nil => rfl
 | cons b l ih =>
  have hg := Lib.indexByte_ge l 32
  unfold Lib.indexByte at h
  by_cases hb : b = 32
  ·subst hb; simp at h
  ·have hb2 : (b == 32) = false := by simpa using hb
   rw [hb2] at h
   simp only [BV, if_false] at h
   by_cases h1 : Lib.indexByte l 32 = -1
   ·rw [Bv, if_neg hb, ih (by omega)]
   ·have h2 : (Lib.indexByte l 32 == -1) = false := by simpa using h1
    rw [h2] at h
    simp only [BV, if_false] at h
    omega
theorem Ak5 {t : List UInt8} (h : (Bv t).length = 1) : Bv t = [t] := by
 rcases Int.lt_or_le (Lib.indexByte t 32) 0 with h0 | h0
 ·exact Ads h0
 ·rw [Adr h0, Av] at h
  have := Lw.2 (UL (t.drop ((Lib.indexByte t 32).toNat + 1)))
  omega
def FA (d : List (List UInt8)) (k : Nat) : List (List V) := strs (d ++ List.replicate k [])
theorem QO (d : List (List UInt8)) (k : Nat) : (FA d k).length = d.length + k := by unfold FA; rw [Em, Ai, Ih]
theorem AcK (d : List (List UInt8)) (k : Nat) (hk : 0 < k) (w : List UInt8) : (FA d k).set d.length [.str w] = FA (d ++ [w]) (k - 1) := by
 unfold FA strs
 obtain ⟨k, rfl⟩ : ∃ m, k = m + 1 := ⟨k - 1, by omega⟩
 rw [show ([V.str w] : List V) = (fun s : List UInt8 => [V.str s]) w from rfl, <- JW]
 congr 1
 rw [Qd _ _ (Az _), Nat.sub_self, My, List.set_cons_zero, Nat.add_sub_cancel, Dg]
 rfl
theorem AjZ (d : List (List UInt8)) (k : Nat) : (∀ r ∈ FA d k, r.length = 1) ↔ True := iff_true_intro (Ady _)
theorem Aj0 (d : List (List UInt8)) (k : Nat) : (∀ r ∈ FA d k, V.purs r = true) ↔ True := iff_true_intro (OC _)
attribute [go_sem] AjZ Aj0
theorem AcJ (d : List (List UInt8)) (k : Nat) (hk : 0 < k) (z : List V) : (FA d k).getD d.length z = [.str []] := by
 unfold FA
 rw [FY _ _ _ (by rw [Ai, Ih]; omega)]
 simp
theorem Aj1 (k : Nat) : List.replicate k [V.str []] = FA [] k := by unfold FA strs; rw [FR, Qh]
theorem UC (d : List (List UInt8)) : FA d 0 = strs d := by unfold FA; rw [List.replicate_zero, Bl]
def Ju (s : List UInt8) : List V := [.str s, .str [32], .int .i64 0, .int .i64 (-1)]
theorem VM (a b : List UInt8) (h : Ju a = Ju b) : a = b := by simpa [Ju] using h
def JH (s : List UInt8) : Prop × V := (s.length <= 1000, .list (strs (Bv s)) false)
theorem Yr (s : List UInt8) : gOf Ju JH [.str s, .str [32], .int .i64 0, .int .i64 (-1)] = (s.length <= 1000, .list (strs (Bv s)) false) := Al VM s
def En : Tab
 | 206 => Eh
 | 205 => Eg
 | _ => gNo
theorem AlS : ∀ f, PU f (En f) := fun f => by
 unfold En
 split
 ·exact AgV
 ·exact Afn
 ·exact Ah.no
theorem AgG : PU 173 (gOf Ju JH) := by
 have hG := AlS
 refine Zp.a VM (by simp [Ju]) ?_
 rintro s hv C hN Q hQ
 have Z := Zp.R EF0 hG hN
 replace hv : s.length <= 1000 := hv
 have hcn := UK s
 have hcl : s.count 32 <= s.length := List.count_le_length
 generalize hNc : s.count 32 = N at hcn hcl
 have hmin : min ((N : Int) + 1) ((s.length : Int) + 1) = (N : Int) + 1 := by omega
 have hN1 : ((N : Int) + 1).toNat = N + 1 := by omega
 have hN2 : 0 <= (N : Int) + 1 := by omega
 have hnn : (N : Int) + 1 - 1 = (N : Int) := by omega
 refine Aa (Z 0 rfl ?_)
 simp only [go_sem, simprocAttr, Ju, En, Eh, Eg]
 refine Aa (Aa (Z 1 rfl ?_))
 simp only [go_sem, simprocAttr, En, Eh, Eg]
 refine Da rfl ?_
 refine Af ?_
 refine Aa (Aa (Z 3 rfl ?_))
 simp only [go_sem, simprocAttr, En, Eh, Eg]
 refine Da rfl ?_
 refine Af ?_
 refine Aa (Aa (Z 5 rfl ?_))
 simp only [go_sem, simprocAttr, En, Eh, Eg]
 refine IJ rfl ?_
 refine Z 6 rfl ?_
 simp only [go_sem, simprocAttr, inI, hNc, En, Eh, Eg]
 and_intros <;> try exact sdA
 refine Aa (Z 7 rfl ?_)
 simp only [go_sem, simprocAttr, inI, hmin, En, Eh, Eg]
 and_intros <;> try exact sdA
 refine Aa (Z 8 rfl ?_)
 simp only [go_sem, simprocAttr, Aj1, hN1, QO, hN2, En, Eh, Eg]
 and_intros <;> try exact sdA
 refine Aa (Z 9 rfl ?_)
 simp only [go_sem, simprocAttr, inI, hnn, En, Eh, Eg]
 and_intros <;> try exact sdA
 refine Aa (Z 10 rfl ?_)
 simp only [go_sem, simprocAttr, En, Eh, Eg]
 refine Aa (Ao ?_)
 refine AX (α := (List UInt8) × (List (List UInt8))) (fun γ => (Bv s = γ.2 ++ Bv γ.1) /\ (γ.2.length <= N) /\ (γ.1.length <= s.length)) (fun γ => ⟨mkE [(0, .str γ.1), (1, V.str [32]), (2, V.int IntKind.i64 0), (3, V.int IntKind.i64 ↑N), (9, V.own 31 (N + 1)), (10, .int .i64 γ.2.length)], mkH [(31, .arr 9 1 (FA γ.2 (N + 1 - γ.2.length)))]⟩) (fun γ => N - γ.2.length) (s, []) ⟨rfl, Ar _, Az _⟩ ?_ ?_
 ·exact leM
 rintro ⟨t, d⟩ ⟨hw, hd, ht⟩ KL0 hKL0
 try dsimp only at *
 refine Aa (Aa (Z 11 rfl ?_))
 simp only [go_sem, simprocAttr, En, Eh, Eg]
 refine Ae rfl (fun hb11 => ?_) fun hb11 => ?_
 ·have hdn : d.length < N := by have := of_decide_eq_true hb11; omega
  refine Af ?_
  refine Ao ?_
  have hlw : 2 <= (Bv t).length := by have := congrArg List.length hw; rw [Ai] at this; omega
  have hge : 0 <= Lib.indexByte t 32 := by rcases Int.lt_or_le (Lib.indexByte t 32) 0 with h | h; (rw [Ads h] at hlw; simp at hlw); exact h
  have hlt : Lib.indexByte t 32 < t.length := by rcases Abh t 32 with h | h; exact h; omega
  have hst := Adr hge
  generalize hm : Lib.indexByte t 32 = m at hge hlt hst
  obtain ⟨m, rfl⟩ := Hz hge
  rw [Du] at hst
  refine Aa (Z 12 rfl ?_)
  simp only [go_sem, simprocAttr, hm, En, Eh, Eg]
  and_intros <;> try exact sdA
  refine Aa ?_
  have hb13 : decide ((m : Int) < 0) = false := decide_eq_false (by omega)
  refine Aa (Z 13 rfl ?_)
  simp only [go_sem, simprocAttr, hb13, En, Eh, Eg]
  refine Da rfl ?_
  refine Af ?_
  have hk0 : 0 < N + 1 - d.length := by omega
  refine Aa (Z 14 rfl ?_)
  simp only [go_sem, simprocAttr, inI, Int.add_zero, Du, CT, QO, AcJ _ _ hk0, Lx, List.drop_nil, AcK _ _ hk0, En, Eh, Eg]
  and_intros <;> try exact sdA
  refine Aa (Z 15 rfl ?_)
  simp only [go_sem, simprocAttr, inI, show (((m : Nat) : Int) + 1).toNat = m + 1 by omega, JS, En, Eh, Eg]
  and_intros <;> try exact sdA
  refine Z 16 rfl ?_
  simp only [go_sem, simprocAttr, inI, En, Eh, Eg]
  and_intros <;> try exact sdA
  refine hKL0 (t.drop (m + 1), d ++ [t.take m]) _ ?_ ?_ ?_
  ·(try dsimp only); exact ⟨by rw [hw, hst, Dg]; rfl, by rw [Ai, Av, Ay]; omega, by rw [BT]; omega⟩
  ·(simp only [Ai, Av, Ay]; omega)
  refine Le.mk _ _ ?_ ?_ rfl <;> simp only [go_sem, simprocAttr, Ai, Av, Ay, show N + 1 - (d.length + (0 + 1)) = N + 1 - d.length - 1 by omega] <;> and_intros <;> try exact leA
 refine AS ?_
 simp only [go_sem, simprocAttr]
 have hdN : d.length = N := by have := of_decide_eq_false hb11; omega
 have hl1 : (Bv t).length = 1 := by have := congrArg List.length hw; rw [Ai] at this; omega
 have hlast : Bv t = [t] := Ak5 hl1
 have hkN : N + 1 - d.length = 1 := by omega
 refine Aa (Z 17 rfl ?_)
 simp only [go_sem, simprocAttr, hkN, QO, AcJ _ _ Nat.zero_lt_one, Lx, List.drop_nil, AcK _ _ Nat.zero_lt_one, En, Eh, Eg]
 and_intros <;> try exact sdA
 have hfin : FA (d ++ [t]) (1 - 1) = strs (Bv s) := by rw [hw, hlast]; exact UC _
 have hfin2 : strs (d ++ [t]) = strs (Bv s) := by rw [hw, hlast]
 refine Aa (Z 18 rfl ?_)
 simp only [go_sem, simprocAttr, inI, hkN, QO, UC, En, Eh, Eg]
 and_intros <;> try exact sdA
 refine AW.le (s' := ⟨mkE [(8, .list (strs (Bv s)) false)], mkH []⟩) (Le.mk _ _ ?_ ?_ rfl) (Ad (hQ _ _ (.inl rfl) ?_ ?_ ?_)) <;> simp only [go_sem, simprocAttr, JH]
 (try rw [show 1 - 1 = 0 from rfl]); (try rw [UC]); (rw [hfin2]; exact Aog rfl (by rw [Em, hcn]) rfl (OC _) (by rw [CT, Bu (by rw [Em, hcn]; omega)]))
def Jy (s : List UInt8) : List V := [.str s, .str [32]]
theorem Wz (a b : List UInt8) (h : Jy a = Jy b) : a = b := by simpa [Jy] using h
theorem Ia (s : List UInt8) : gOf Jy JH [.str s, .str [32]] = (s.length <= 1000, .list (strs (Bv s)) false) := Al Wz s
def QZ : Tab
 | 173 => (gOf Ju JH)
 | _ => gNo
theorem Aml : ∀ f, PU f (QZ f) := fun f => by
 unfold QZ
 split
 ·exact AgG
 ·exact Ah.no
theorem Ale : PU 115 (gOf Jy JH) := by
 have hG := Aml
 refine YE.a Wz (by simp [Jy]) ?_
 rintro s hv C hN Q hQ
 have Z := YE.R EF0 hG hN
 replace hv : s.length <= 1000 := hv
 refine Aa (Z 0 rfl ?_)
 simp only [go_sem, simprocAttr, Jy, QZ, Yr, hv]
 refine Aa (Z 1 rfl ?_)
 simp only [go_sem, simprocAttr, QZ, Yr, hv]
 and_intros <;> try exact sdA
 refine Ad (hQ _ _ (.inl rfl) ?_ ?_ ?_) <;> simp only [go_sem, simprocAttr, JH]
def okF : Bool -> List UInt8 -> Bool
 | p, [] => !p
 | p, c :: s => if c = 32 then !p && okF true s else capB (c.toNat : Int) && okF false s
def GU (s : List UInt8) : Bool := decide ((s.length : Int) <= 30) && okF true s
def Nd (w : List UInt8) : Bool := !decide (w = []) && CY capB w
theorem Ad2 : ∀ (s : List UInt8), (∀ w r, Bv s = w :: r -> okF false s = (CY capB w && r.all Nd)) /\ okF true s = (Bv s).all Nd
 | [] => by
  refine ⟨fun w r h => ?_, rfl⟩
  simp only [Bv] at h
  injection h with h1 h2
  subst h1 h2
  rfl
 | c :: s => by
  obtain ⟨ih1, ih2⟩ := Ad2 s
  by_cases hc : c = 32
  ·subst hc
   have e : Bv (32 :: s) = [] :: Bv s := by rw [Bv, if_pos rfl]
   refine ⟨fun w r h => ?_, ?_⟩
   ·rw [e] at h
    injection h with h1 h2
    subst h1 h2
    rw [okF, if_pos rfl, ih2]; rfl
   ·rw [e, okF, if_pos rfl]; rfl
  ·cases h2 : Bv s with
   | nil => exact absurd h2 (UL s)
   | cons w r =>
    have e : Bv (c :: s) = (c :: w) :: r := by rw [Bv, if_neg hc, h2]
    have a1 : CY capB (c :: w) = (capB (c.toNat : Int) && CY capB w) := rfl
    refine ⟨fun w' r' h => ?_, ?_⟩
    ·rw [e] at h
     injection h with h3 h4
     subst h3 h4
     rw [okF, if_neg hc, ih1 w r h2, a1, Qn]
    ·rw [e, okF, if_neg hc, ih1 w r h2, List.all_cons, Nd, a1]
     simp [Qn]
theorem HY (s : List UInt8) (h : fOf 117 = some capB) : Lk [.str s, .fn 117 []] = (s.length <= 140737488355328, .bool (CY capB s)) := by
 simp only [Lk, h]
theorem Ak4 {s w : List UInt8} (h : w ∈ Bv s) : w.length <= s.length := by
 induction s generalizing w with
 | nil => simp [Bv] at h; subst h; exact Az _
 | cons c s ih =>
  unfold Bv at h
  split at h
  ·rcases AK.1 h with rfl | h
   ·simp
   ·have := ih h; rw [Av]; omega
  ·split at h
   ·rename_i w' r e
    rcases AK.1 h with rfl | h
    ·have := ih (w := w') (by rw [e]; exact AJ ..); simp; omega
    ·have := ih (w := w) (by rw [e]; exact AU _ h); rw [Av]; omega
   ·simp at h; subst h; simp
def Gj (s : List UInt8) : Prop × V := (s.length <= 140737488355328, .bool (GU s))
theorem Bo (s : List UInt8) : gOf Bh Gj [.str s] = (s.length <= 140737488355328, .bool (GU s)) := Al FD s
theorem Id : fOf 117 = some capB := by simp [fOf]
def tNm : Tab
 | 115 => (gOf Jy JH)
 | 116 => Lk
 | _ => gNo
theorem Al4 : ∀ f, PU f (tNm f) := fun f => by
 unfold tNm
 split
 ·exact Ale
 ·exact Yp
 ·exact Ah.no
theorem Ah3 : PU 61 (gOf Bh Gj) := by
 have hG := Al4
 refine Aas.a FD (by simp [Bh]) ?_
 rintro s hv C hN Q hQ
 have Z := Aas.R EF0 hG hN
 replace hv : s.length <= 140737488355328 := hv
 have hws := (Ad2 s).2
 refine Aa (Z 0 rfl ?_)
 simp only [go_sem, simprocAttr, Bh, tNm, Ia, HY _ Id]
 refine Aa (Aa (Z 1 rfl ?_))
 simp only [go_sem, simprocAttr, tNm, Ia, HY _ Id]
 refine Ae rfl (fun hb1 => ?_) fun hb1 => ?_
 ·refine Aa (Z 2 rfl ?_)
  simp only [go_sem, simprocAttr, tNm, Ia, HY _ Id]
  refine Ad (hQ _ _ (.inl rfl) ?_ ?_ ?_) <;> simp only [go_sem, simprocAttr, Gj, GU]
  rw [decide_eq_false (by have := of_decide_eq_true hb1; omega), Jb]
 refine Af ?_
 refine Aa ?_
 have hl : s.length <= 30 := by have := of_decide_eq_false hb1; omega
 have hd30 : decide ((s.length : Int) <= 30) = true := decide_eq_true (by omega)
 have hl3 : s.length <= 1000 := by omega
 have hWl : (Bv s).length <= 1001 := by rw [UK]; have := List.count_le_length (a := 32) (l := s); omega
 generalize hW : Bv s = W at hws hWl
 refine Aa (Z 3 rfl ?_)
 simp only [go_sem, simprocAttr, hl3, hW, tNm, Ia, HY _ Id]
 and_intros <;> try exact sdA
 refine Ao ?_
 refine AX (α := Nat) (fun i => (i <= W.length) /\ (∀ w ∈ W.take i, Nd w = true)) (fun i => ⟨mkE [(9, V.list (strs W) false), (10, V.int IntKind.i64 ↑W.length), (11, .int .i64 i)], mkH []⟩) (fun i => W.length - i) 0 (by simp) ?_ ?_
 ·exact leM
 rintro i ⟨hi, hp⟩ KL0 hKL0
 try dsimp only at *
 refine Aa (Z 4 rfl ?_)
 simp only [go_sem, simprocAttr, tNm, Ia, HY _ Id]
 refine Aa ?_
 refine Ae rfl (fun hc4 => ?_) fun hc4 => ?_
 ·simp only [hcL] at hc4
  refine Af ?_
  refine Aa (Ao ?_)
  refine Aa (Z 5 rfl ?_)
  simp only [go_sem, simprocAttr, FY _ _ _ hc4, hc4, tNm, Ia, HY _ Id]
  and_intros <;> try exact sdA
  have hwl : (W[i]).length <= 140737488355328 := by have := Ak4 (s := s) (w := W[i]) (by rw [hW]; exact AF hc4); omega
  refine Aa (Z 6 rfl ?_)
  simp only [go_sem, simprocAttr, hwl, tNm, Ia, HY _ Id]
  and_intros <;> try exact sdA
  refine Ae rfl (fun hb6 => ?_) fun hb6 => ?_
  ·refine Aa (Z 7 rfl ?_)
   simp only [go_sem, simprocAttr, tNm, Ia, HY _ Id]
   refine Ad (hQ _ _ (.inl rfl) ?_ ?_ ?_) <;> simp only [go_sem, simprocAttr, Gj, GU]
   rw [hd30, HD, hws, List.all_eq_false.2 ⟨_, AF hc4, by unfold Nd; revert hb6; cases decide (W[i] = []) <;> cases CY capB W[i] <;> simp⟩]
  refine Af ?_
  refine Z 8 rfl ?_
  simp only [go_sem, simprocAttr, inI, tNm, Ia, HY _ Id]
  and_intros <;> try exact sdA
  refine hKL0 (i + 1) _ ?_ ?_ ?_
  ·(try dsimp only); refine ⟨hc4, fun w hw => ?_⟩; rw [CW hc4, BU, Bk] at hw; rcases hw with hw | rfl; (exact hp w hw); (unfold Nd; revert hb6; cases decide (W[i] = []) <;> cases CY capB W[i] <;> simp)
  ·(try dsimp only); omega
  exact leM
 simp only [hcL] at hc4
 refine AS ?_
 simp only [go_sem, simprocAttr]
 refine Aa (Z 9 rfl ?_)
 simp only [go_sem, simprocAttr, tNm, Ia, HY _ Id]
 refine Ad (hQ _ _ (.inl rfl) ?_ ?_ ?_) <;> simp only [go_sem, simprocAttr, Gj, GU]
 rw [hd30, HD, hws, Ch.2 (AbM hc4 hp)]
end Go.Proofs.YtjkclhbckfkeeaaGreatDoor
end
