import Derived.Test.YtjkclhbckfkeeaaGreatDoorIs2
import Derived.Test.YtjkclhbckfkeeaaGreatDoorT8
import Derived.Test.YtjkclhbckfkeeaaGreatDoorRu10
import Derived.Test.YtjkclhbckfkeeaaGreatDoorCob
set_option linter.unusedSimpArgs false
set_option linter.unusedVariables false
set_option linter.deprecated false
set_option maxHeartbeats 4000000
noncomputable section
namespace Go.Proofs.YtjkclhbckfkeeaaGreatDoor
open Go Go.RowKit
def Do (F n at' : Int) : List Part -> Bool
 | [] => decide (at' = n)
 | x :: l => if x.from' ≠ at' \/ x.to' <= at' \/ n < x.to' \/ x.fare < 0 \/ F <= x.fare then false else Do F n x.to' l
def Hg (F n at' : Int) : List Part -> Bool
 | [] => decide (at' = n)
 | x :: l => if x.from' ≠ at' \/ x.to' <= at' \/ x.fare < 0 \/ F <= x.fare then false else Hg F n x.to' l
theorem XE {F n : Int} : ∀ {l : List Part} {a : Int}, n < a -> Hg F n a l = false
 | [], a, h => by rw [Hg]; exact decide_eq_false (by omega)
 | x :: l, a, h => by
  rw [Hg]
  split
  ·rfl
  ·exact XE (by omega)
theorem XD {F n : Int} : ∀ {l : List Part} {a : Int}, a <= n -> Hg F n a l = Do F n a l
 | [], a, h => rfl
 | x :: l, a, h => by
  rw [Hg, Do]
  by_cases h1 : x.from' ≠ a \/ x.to' <= a \/ x.fare < 0 \/ F <= x.fare
  ·rw [if_pos h1, if_pos (by omega)]
  ·rw [if_neg h1]
   by_cases h2 : n < x.to'
   ·rw [if_pos (by omega), XE h2]
   ·rw [if_neg (by omega), XD (by omega)]
theorem XF {F n : Int} : ∀ {l : List Part} {a : Int}, Do F n a l = true -> Ea n a l = true /\ ∀ x ∈ l, 0 <= x.fare /\ x.fare < F
 | [], a, h => ⟨h, fun x hx => nomatch hx⟩
 | x :: l, a, h => by
  rw [Do] at h
  split at h
  ·cases h
  ·obtain ⟨h1, h2⟩ := XF h
   rw [Ea, if_neg (by omega)]
   exact ⟨h1, fun y hy => by rcases AK.1 hy with rfl | hy; omega; exact h2 y hy⟩
def aCv := ar (vg Tariff.enc) (ar (vl Part.enc) (ao vi))
theorem VI : Ij aCv := ijr (ijg Tariff.inj) (ijr (ijl Part.inj) (ijo iji))
def OK (x : Tariff × List Part × Int) : Prop := x.1.fares.length <= 1000000 /\ x.2.1.length <= 1000000 /\ 0 <= x.2.2
def fCv (x : Tariff × List Part × Int) : Prop × V := (OK x, .bool (Do x.1.fares.length x.2.2 0 x.2.1))
theorem Ew (a : List Fare) (b : List Rule) (c : List Routing) (d : List Tax) (l : List Part) (n : Int) : gOf aCv fCv [.agg [.list (a.map Fare.enc) false, .list (b.map Rule.enc) false, .list (c.map Routing.enc) false, .list (d.map Tax.enc) false], .list (l.map Part.enc) false, .int .i64 n] = (OK (⟨a, b, c, d⟩, l, n), .bool (Do a.length n 0 l)) := Al VI (⟨a, b, c, d⟩, l, n)
theorem Afz : PU 33 (gOf aCv fCv) := by
 have hG := AH
 refine Aac.a VI (by simp [aCv]) ?_
 rintro ⟨⟨fs, rs, gs, xs⟩, l, n⟩ hv C hN Q hQ
 have Z := Aac.R EF0 hG hN
 obtain ⟨h1, h2, h3⟩ : OK (⟨fs, rs, gs, xs⟩, l, n) := hv
 dsimp only at h1 h2 h3
 have hcv : Do fs.length n 0 l = Hg fs.length n 0 l := (XD h3).symm
 refine Aa (Z 0 rfl ?_)
 simp only [go_sem, simprocAttr, aCv, Tariff.enc]
 refine Aa (Z 1 rfl ?_)
 simp only [go_sem, simprocAttr]
 refine Aa (Aa (Z 2 rfl ?_))
 simp only [go_sem, simprocAttr, Ac]
 refine Ao ?_
 refine AX (α := Nat × Int) (fun γ => (γ.1 <= l.length) /\ (Hg fs.length n 0 l = Hg fs.length n γ.2 (l.drop γ.1))) (fun γ => ⟨mkE [(2, V.int IntKind.i64 n), (3, V.ptr 3 0), (7, .int .i64 γ.2), (10, V.list (List.map Part.enc l) false), (11, V.int IntKind.i64 ↑l.length), (12, .int .i64 γ.1)], mkH [(3, Ob.box 31 [V.list (List.map Fare.enc fs) false, V.list (List.map Rule.enc rs) false, V.list (List.map Routing.enc gs) false, V.list (List.map Tax.enc xs) false])]⟩) (fun γ => l.length - γ.1) (0, 0) ⟨Ar _, rfl⟩ ?_ ?_
 ·exact leM
 rintro ⟨i, a⟩ ⟨hi, hs⟩ KL0 hKL0
 try dsimp only at *
 refine Aa (Z 3 rfl ?_)
 simp only [go_sem, simprocAttr]
 refine Aa ?_
 refine Ae rfl (fun hc3 => ?_) fun hc3 => ?_
 ·simp only [hcL] at hc3
  refine Af ?_
  refine Aa (Ao ?_)
  have hd := DS hc3
  rw [hd, Hg] at hs
  refine Aa (Z 4 rfl ?_)
  simp only [go_sem, simprocAttr, Ap _ _ _ _ hc3, hc3, Part.enc]
  and_intros <;> try exact sdA
  refine Aa (Aa (Z 5 rfl ?_))
  simp only [go_sem, simprocAttr, Ac]
  and_intros <;> try exact sdA
  refine Ae rfl (fun hb5 => ?_) fun hb5 => ?_
  ·rw [if_pos (by simp only [EW, MD, decide_eq_true_eq, decide_eq_false_iff_not] at hb5; omega)] at hs
   refine Aa (Z 6 rfl ?_)
   simp only [go_sem, simprocAttr]
   refine Ad (hQ _ _ (.inl rfl) ?_ ?_ ?_) <;> simp only [go_sem, simprocAttr, fCv, hcv, hs]
  rw [if_neg (by simp only [Ce, Ii, decide_eq_true_eq, decide_eq_false_iff_not] at hb5; omega)] at hs
  refine Af ?_
  refine Z 7 rfl ?_
  simp only [go_sem, simprocAttr]
  refine Z 8 rfl ?_
  simp only [go_sem, simprocAttr, inI]
  and_intros <;> try exact sdA
  refine hKL0 (i + 1, l[i].to') _ ?_ ?_ ?_
  ·(try dsimp only); exact ⟨hc3, hs⟩
  ·(try dsimp only); omega
  exact leM
 simp only [hcL] at hc3
 rw [GN hc3, Hg] at hs
 refine AS ?_
 simp only [go_sem, simprocAttr]
 refine Aa (Z 9 rfl ?_)
 simp only [go_sem, simprocAttr]
 refine Ad (hQ _ _ (.inl rfl) ?_ ?_ ?_) <;> simp only [go_sem, simprocAttr, fCv, hcv, hs]
theorem Ahs (x : Addr) (cap : Nat) {s : St} {t : Nat} (ht : s.e t = .pin (.slice (some x) 0 cap)) : Le s ⟨upd s.e t (.list [] false), s.h⟩ := fun U C a w M ι hg => ⟨M, ι, hg.mem, fun u => by
 have h := hg.env u
 generalize (a.tmps.getD u undef) = cv at h ⊢
 show Rel M w ι s.h (upd s.e t (.list [] false) u) _
 unfold upd
 split
 ·rename_i e
  subst e
  rw [ht] at h
  cases h with
  | pur hp =>
   cases hp
   exact .pur (.list [] false (some x) cap 0 0 0 (fun _ _ => undef) (fun e => by cases e) (Ar _) (fun e => by cases e) (.inl rfl) (fun r hr => by simp at hr) (fun i j hi _ => absurd hi (EK _)) (fun i j r v hi => by simp at hi))
 ·exact h, hg.dfr, hg.num⟩
theorem Ah.alt {P : Program} {U : Tbl} {f : Nat} {g : List V -> Prop × V} (h : ∀ (vs : List V) (M : Nat -> Prop) (w : World) (cargs : Array Value), (g vs).1 -> cargs.size = vs.length -> (∀ (i : Nat) (v : V), vs[i]? = some v -> Pur M w v (cargs.getD i undef)) ->
  ∃ (g' : List V -> Prop × V) (vs' : List V), Ah P U f g' /\ (g' vs').1 /\ vs'.length = vs.length /\ (∀ (i : Nat) (v : V), vs'[i]? = some v -> Pur M w v (cargs.getD i undef)) /\ ∀ (M' : Nat -> Prop) (w' : World) (cv : Value), Pur M' w' (g' vs').2 cv -> Pur M' w' (g vs).2 cv) (he : Kl P f) : Ah P U f g := fun vs M w cargs h1 => by
 refine ⟨he, fun h2 h3 h4 h5 h6 => ?_⟩
 obtain ⟨g', vs', p1, p2, p3, p4, p5⟩ := h vs M w cargs h1 h4 h6
 refine ((p1 vs' M w cargs p2).2 h2 h3 (by rw [p3]; exact h4) h5 p4).mono fun e w' => ?_
 rintro ⟨cv, M', q1, q2, q3⟩
 exact ⟨cv, M', q1, p5 _ _ _ q2, q3⟩
theorem AgE {α : Type} {args : α -> List V} {F : α -> Prop × V} {vs : List V} (h : ¬∃ a, args a = vs) : gOf args F vs = (False, .any) := dif_neg h
def Tq : List V -> Prop × V
 | [.nils] => (True, .nils)
 | _ => (False, .any)
def Tr : List V -> Prop × V
 | [.pin (.slice (some _) 0 _)] => (True, .list [] false)
 | _ => (False, .any)
def NO (l : List Charge) : List V -> Prop × V := gOf FC (fun m => (m = l /\ m ≠ [] /\ m.length <= 1000000, .list (m.map Charge.enc) false))
theorem Xy : PU 37 Tq := by
 have hG := AH
 refine Mt.q fun vs hv => ?_
 match vs, hv with
 | [.nils], _ => ?_
 refine ⟨by simp, fun C hN Q hQ => ?_⟩
 have Z := Mt.R EF0 hG hN
 refine Aa (Z 0 rfl ?_)
 simp only [go_sem, simprocAttr]
 refine Aa (Aa (Z 1 rfl ?_))
 simp only [go_sem, simprocAttr]
 refine IJ rfl ?_
 refine Aa (Z 2 rfl ?_)
 simp only [go_sem, simprocAttr]
 refine Ad (hQ _ _ (.inl rfl) ?_ ?_ ?_) <;> simp only [go_sem, simprocAttr, Tq]
theorem Afe : PU 37 Tr := by
 have hG := AH
 refine Mt.q fun vs hv => ?_
 match vs, hv with
 | [.pin (.slice (some x) 0 cap)], _ => ?_
 refine ⟨by simp, fun C hN Q hQ => ?_⟩
 have Z := Mt.R EF0 hG hN
 refine Aa (Z 0 rfl ?_)
 simp only [go_sem, simprocAttr]
 refine Aa (Aa (Z 1 rfl ?_))
 simp only [go_sem, simprocAttr]
 refine Da rfl ?_
 refine Af ?_
 refine AW.le (Ahs x cap (t := 0) rfl) ?_
 refine Aa (Z 3 rfl ?_)
 simp only [go_sem, simprocAttr]
 and_intros <;> try exact sdA
 refine AW.le (s' := ⟨mkE [(2, .list [] false)], mkH []⟩) (Le.mk _ _ ?_ ?_ rfl) (Ad (hQ _ _ (.inl rfl) ?_ ?_ ?_)) <;> simp only [go_sem, simprocAttr, Tr]
 exact DO rfl rfl rfl (fun r hr => nomatch hr)
theorem Aff (l : List Charge) : PU 37 (NO l) := by
 have hG := AH
 unfold NO
 refine Mt.a Kr (by simp [FC]) ?_
 rintro m hv C hN Q hQ
 have Z := Mt.R EF0 hG hN
 obtain ⟨-, h0, hl⟩ : m = l /\ m ≠ [] /\ m.length <= 1000000 := hv
 have hne : m.map Charge.enc ≠ [] := fun e => h0 (Qf.1 e)
 refine Aa (Z 0 rfl ?_)
 simp only [go_sem, simprocAttr, FC]
 refine Aa (Aa (Z 1 rfl ?_))
 simp only [go_sem, simprocAttr, hne]
 refine Da rfl ?_
 refine Af ?_
 refine Aa (Z 3 rfl ?_)
 simp only [go_sem, simprocAttr, Ac]
 and_intros <;> try exact sdA
 refine AW.le (s' := ⟨mkE [(2, .list (m.map Charge.enc) false)], mkH []⟩) (Le.mk _ _ ?_ ?_ rfl) (Ad (hQ _ _ (.inl rfl) ?_ ?_ ?_)) <;> simp only [go_sem, simprocAttr]
 exact DO rfl (by rw [Ac]) rfl ((Charge.purs _).2 trivial)
def So (l : List Charge) : Prop × V := (l.length <= 1000000, .list (l.map Charge.enc) false)
theorem Eu (l : List Charge) : gOf FC So [.list (l.map Charge.enc) false] = (l.length <= 1000000, .list (l.map Charge.enc) false) := Al Kr l
theorem Afi : PU 37 (gOf FC So) := by
 refine Ah.alt (fun vs M w cargs h1 h4 h6 => ?_) (Xy [.nils] (fun _ => False) default #[] trivial).1
 by_cases hx : ∃ l, FC l = vs
 ·obtain ⟨l, rfl⟩ := hx
  rw [Al Kr] at h1 ⊢
  by_cases h0 : l = []
  ·subst h0
   have hp := h6 0 _ rfl
   generalize hcv : cargs.getD 0 undef = cv at hp
   cases hp with
   | list _ _ a cap sz g off f hf hcap hn ha hr hc hv =>
    cases a with
    | none =>
     obtain rfl := hn rfl
     exact ⟨Tq, [.nils], Xy, trivial, rfl, fun i v hi => (by cases i with | zero => (injection hi with hi; subst hi; rw [hcv]; exact .nils) | succ i => cases hi), fun M' w' cv hp => Ah5 hp⟩
    | some x => exact ⟨Tr, [.pin (.slice (some x) 0 cap)], Afe, trivial, rfl, fun i v hi => (by cases i with | zero => (injection hi with hi; subst hi; rw [hcv]; exact .pin _) | succ i => cases hi), fun M' w' cv hp => hp⟩
  ·refine ⟨NO l, FC l, Aff l, ?_, rfl, h6, fun M' w' cv hp => ?_⟩
   ·unfold NO; rw [Al Kr]; exact ⟨rfl, h0, h1⟩
   ·unfold NO at hp; rw [Al Kr] at hp; exact hp
 ·exact absurd h1 (by rw [AgE hx]; exact fun h => h)
def Gc (z : Zone) : Prop := z.shifts.length <= 1000000 /\ (-2000 <= z.offset /\ z.offset <= 2000) /\ ∀ s ∈ z.shifts, -2000 <= s.offset /\ s.offset <= 2000
def aZU := ar (vg Zone.enc) (ao vi)
theorem OS : Ij aZU := ijr (ijg Zone.inj) (ijo iji)
def ROf (_ : Zone × Int) (y : Int) : Prop := -2000 <= y /\ y <= 2000
theorem TT : ∃ F : Zone × Int -> Int, (∀ x, Gc x.1 -> ROf x (F x)) /\ PU 197 (gOf aZU fun x => (Gc x.1, vII (F x))) := by
 have hG := AH
 refine ZE.p (val := vII) (R := ROf) OS (by simp [aZU]) ?_
 rintro ⟨⟨zo, sh⟩, u⟩ hv Q hQ
 have Z := ZE.T EF0 hG
 obtain ⟨h1, h2, h3⟩ : sh.length <= 1000000 /\ (-2000 <= zo /\ zo <= 2000) /\ ∀ s ∈ sh, -2000 <= s.offset /\ s.offset <= 2000 := hv
 refine Ab (Z 0 rfl ?_)
 simp only [go_sem, simprocAttr, aZU, Zone.enc]
 refine Ab (Z 1 rfl ?_)
 simp only [go_sem, simprocAttr]
 refine Ab (Ab (Z 2 rfl ?_))
 simp only [go_sem, simprocAttr]
 refine Au ?_
 refine Bg (α := Nat × Int) (fun γ => (γ.1 <= sh.length) /\ (-2000 <= γ.2 /\ γ.2 <= 2000)) (fun γ => ⟨mkE [(1, V.int IntKind.i64 u), (2, V.ptr 2 0), (5, .int .i64 γ.2), (6, .int .i64 γ.1)], mkH [(2, Ob.box 86 [V.int IntKind.i64 zo, V.list (List.map Shift.enc sh) false])]⟩) (fun γ => sh.length - γ.1) (0, zo) ⟨Ar _, h2⟩ ?_ ?_
 ·exact leM
 rintro ⟨i, n⟩ ⟨hi, hn⟩ KL0 hKL0
 try dsimp only at *
 refine Ab (Ab (Z 3 rfl ?_))
 simp only [go_sem, simprocAttr, Ac]
 refine Ag rfl (fun hc3 => ?_) fun hc3 => ?_
 ·simp only [hcL] at hc3
  refine Aj ?_
  refine Ab (Au ?_)
  have h5 := h3 _ (AF hc3)
  refine Ab (Z 5 rfl ?_)
  simp only [go_sem, simprocAttr, Ap _ _ _ _ hc3, hc3, Ac, Shift.enc]
  and_intros <;> try exact sdA
  refine Ag rfl (fun hc5 => ?_) fun hc5 => ?_
  ·simp only [hcL] at hc5
   refine Z 6 rfl ?_
   simp only [go_sem, simprocAttr, Ap _ _ _ _ hc3, hc3, Ac, Shift.enc]
   and_intros <;> try exact sdA
   refine Z 4 rfl ?_
   simp only [go_sem, simprocAttr, inI]
   and_intros <;> try exact sdA
   refine hKL0 (i + 1, sh[i].offset) _ ?_ ?_ ?_
   ·(try dsimp only); exact ⟨hc3, h5⟩
   ·(try dsimp only); omega
   exact leM
  simp only [hcL] at hc5
  refine Aj ?_
  refine Z 4 rfl ?_
  simp only [go_sem, simprocAttr, inI]
  and_intros <;> try exact sdA
  refine hKL0 (i + 1, n) _ ?_ ?_ ?_
  ·(try dsimp only); exact ⟨hc3, hn⟩
  ·(try dsimp only); omega
  exact leM
 simp only [hcL] at hc3
 refine Bc ?_
 simp only [go_sem, simprocAttr]
 refine Ab (Z 7 rfl ?_)
 simp only [go_sem, simprocAttr]
 refine Ak (hQ _ _ (.inl rfl) ?_ ?_ ?_) <;> simp only [go_sem, simprocAttr, vII]
 exact ⟨_, rfl, hn⟩
def Lb : Zone × Int -> Int := TT.choose
theorem Aie : ∀ x : Zone × Int, Gc x.1 -> ROf x (Lb x) := TT.choose_spec.1
theorem Aif : PU 197 (gOf aZU fun x => (Gc x.1, vII (Lb x))) := TT.choose_spec.2
theorem AbV (zo : Int) (sh : List Shift) (u : Int) : gOf aZU (fun x => (Gc x.1, vII (Lb x))) [.agg [.int .i64 zo, .list (sh.map Shift.enc) false], .int .i64 u] = (Gc ⟨zo, sh⟩, .int .i64 (Lb (⟨zo, sh⟩, u))) := Al (F := fun x => (Gc x.1, vII (Lb x))) OS (⟨zo, sh⟩, u)
def LcP (x : Zone × Int) : Prop := Gc x.1 /\ 0 <= x.2 /\ x.2 <= 52596000
def RLc (_ : Zone × Int) (y : Int) : Prop := -100000000 <= y /\ y <= 100000000
def tLc : Tab
 | 197 => (gOf aZU fun x => (Gc x.1, vII (Lb x)))
 | _ => gNo
theorem AlW : ∀ f, PU f (tLc f) := fun f => by
 unfold tLc
 split
 ·exact Aif
 ·exact Ah.no
theorem TH : ∃ F : Zone × Int -> Int, (∀ x, LcP x -> RLc x (F x)) /\ PU 162 (gOf aZU fun x => (LcP x, vII (F x))) := by
 have hG := AlW
 refine Zg.p (val := vII) (R := RLc) OS (by simp [aZU]) ?_
 rintro ⟨⟨zo, sh⟩, u⟩ hv Q hQ
 have Z := Zg.T EF0 hG
 obtain ⟨h1, h2, h3⟩ : Gc ⟨zo, sh⟩ /\ 0 <= u /\ u <= 52596000 := hv
 obtain ⟨W, hW⟩ : ∃ W, W = Lb (⟨zo, sh⟩, u) := ⟨_, rfl⟩
 have hWb := Aie (⟨zo, sh⟩, u) h1
 rw [<- hW] at hWb
 obtain ⟨w1, w2⟩ : -2000 <= W /\ W <= 2000 := hWb
 refine Ab (Z 0 rfl ?_)
 simp only [go_sem, simprocAttr, aZU, Zone.enc, tLc, AbV, h1, <- hW]
 refine Ab (Z 1 rfl ?_)
 simp only [go_sem, simprocAttr, inI, tLc, AbV, h1, <- hW]
 and_intros <;> try exact sdA
 refine Ak (hQ _ _ (.inl rfl) ?_ ?_ ?_) <;> simp only [go_sem, simprocAttr, vII]
 exact ⟨_, rfl, by omega, by omega⟩
def IR : Zone × Int -> Int := TH.choose
theorem Abn : ∀ x : Zone × Int, LcP x -> RLc x (IR x) := TH.choose_spec.1
theorem Abo : PU 162 (gOf aZU fun x => (LcP x, vII (IR x))) := TH.choose_spec.2
theorem CM (zo : Int) (sh : List Shift) (u : Int) : gOf aZU (fun x => (LcP x, vII (IR x))) [.agg [.int .i64 zo, .list (sh.map Shift.enc) false], .int .i64 u] = (LcP (⟨zo, sh⟩, u), .int .i64 (IR (⟨zo, sh⟩, u))) := Al (F := fun x => (LcP x, vII (IR x))) OS (⟨zo, sh⟩, u)
theorem Fq {n : Int} (h1 : -9223372036854775808 <= n) (h2 : n <= 9223372036854775807) : inI n := ⟨h1, h2⟩
def SpP (n : Int) : Prop := -100000000 <= n /\ n <= 100000000
def RSp (_ : Int) (y : Int × Int) : Prop := inI y.1 /\ inI y.2
theorem UI : ∃ F : Int -> Int × Int, (∀ x, SpP x -> RSp x (F x)) /\ PU 161 (gOf aI1 fun x => (SpP x, Am (F x))) := by
 have hG := AH
 refine Zf.p (val := Am) (R := RSp) Jv (by simp [aI1]) ?_
 rintro n hv Q hQ
 have Z := Zf.T EF0 hG
 obtain ⟨h1, h2⟩ : -100000000 <= n /\ n <= 100000000 := hv
 have hb := Vh n (k := 1440) (by decide)
 have hd := AdJ (a := n) (b := 1440) (by decide) (by omega) (by omega)
 have he : -9223372036854775807 <= n.tdiv 1440 /\ n.tdiv 1440 <= 9223372036854775807 := by omega
 refine Ab (Z 0 rfl ?_)
 simp only [go_sem, simprocAttr, aI1]
 refine Ab (Z 1 rfl ?_)
 simp only [go_sem, simprocAttr]
 and_intros <;> try exact sdA
 refine Ab (Ab (Z 2 rfl ?_))
 simp only [go_sem, simprocAttr]
 refine Ag rfl (fun hc2 => ?_) fun hc2 => ?_
 ·simp only [hcL] at hc2
  refine Ab (Z 3 rfl ?_)
  simp only [go_sem, simprocAttr, inI]
  and_intros <;> try exact sdA
  refine Ak (hQ _ _ (.inl rfl) ?_ ?_ ?_) <;> simp only [go_sem, simprocAttr, Am]
  exact ⟨(n.tdiv 1440 - 1, n.tmod 1440 + 1440), rfl, Fq (show -9223372036854775808 <= n.tdiv 1440 - 1 by omega) (show n.tdiv 1440 - 1 <= 9223372036854775807 by omega), Fq (show -9223372036854775808 <= n.tmod 1440 + 1440 by omega) (show n.tmod 1440 + 1440 <= 9223372036854775807 by omega)⟩
 simp only [hcL] at hc2
 refine Aj ?_
 refine Ab (Z 4 rfl ?_)
 simp only [go_sem, simprocAttr]
 refine Ak (hQ _ _ (.inl rfl) ?_ ?_ ?_) <;> simp only [go_sem, simprocAttr, Am]
 exact ⟨(n.tdiv 1440, n.tmod 1440), rfl, Fq (show -9223372036854775808 <= n.tdiv 1440 by omega) (show n.tdiv 1440 <= 9223372036854775807 by omega), Fq (show -9223372036854775808 <= n.tmod 1440 by omega) (show n.tmod 1440 <= 9223372036854775807 by omega)⟩
def fSp : Int -> Int × Int := UI.choose
theorem Adp : ∀ x : Int, SpP x -> RSp x (fSp x) := UI.choose_spec.1
theorem Adq : PU 161 (gOf aI1 fun x => (SpP x, Am (fSp x))) := UI.choose_spec.2
theorem CO (n : Int) : gOf aI1 (fun x => (SpP x, Am (fSp x))) [.int .i64 n] = (SpP n, .tup [.int .i64 (fSp n).1, .int .i64 (fSp n).2]) := Al (F := fun x => (SpP x, Am (fSp x))) Jv n
structure PlK (p : Places) : Prop where
 m : MOk p
 z : ∀ a ∈ p.airports, Gc a.zone
theorem PlK.find {p : Places} (h : PlK p) (c : List UInt8) : Gc ((BR (ER c) p.airports).getD Airport.zero).zone := by
 cases hf : BR (ER c) p.airports with
 | none => exact ⟨by decide, ⟨by decide, by decide⟩, fun s hs => nomatch hs⟩
 | some a => exact h.z a (List.mem_of_find?_eq_some hf)
structure TmOk (l : List Want) : Prop where
 n : l.length <= 900
 t : ∀ w ∈ l, (0 <= w.seg.dep /\ w.seg.dep <= 52596000) /\ 0 <= w.seg.arr /\ w.seg.arr <= 52596000
def aPW := ar (vg Places.enc) (ao (vl Want.enc))
theorem Wd : Ij aPW := ijr (ijg Places.inj) (ijo (ijl Want.inj))
def CtP (x : Places × List Want) : Prop := BH x.1 /\ x.2.length <= 900
def Ni (x : Places × List Want) (y : List (List UInt8)) : Prop := y.length = if x.2 = [] then 0 else x.2.length + 1
theorem UQ : strs [] = [] := rfl
theorem QV (g : List (List UInt8)) (s : List UInt8) : strs (g ++ [s]) = strs g ++ [[.str s]] := by simp [strs]
theorem Als (a b : List UInt8) : strs [a, b] = [[.str a], [.str b]] := rfl
def vSS (l : List (List UInt8)) : V := .list (strs l) false
def tCt : Tab
 | 158 => (gOf aPs GF)
 | _ => gNo
theorem AlK : ∀ f, PU f (tCt f) := fun f => by
 unfold tCt
 split
 ·exact Acd
 ·exact Ah.no
theorem Si : ∃ F : Places × List Want -> List (List UInt8), (∀ x, CtP x -> Ni x (F x)) /\ PU 94 (gOf aPW fun x => (CtP x, vSS (F x))) := by
 have hG := AlK
 refine AaJ.p (val := vSS) (R := Ni) Wd (by simp [aPW]) ?_
 rintro ⟨⟨ps, ds⟩, W⟩ hv Q hQ
 have Z := AaJ.T EF0 hG
 obtain ⟨h1, h2⟩ : BH ⟨ps, ds⟩ /\ W.length <= 900 := hv
 refine Ab (Z 0 rfl ?_)
 simp only [go_sem, simprocAttr, aPW, Places.enc, tCt, Gi, h1]
 refine Ab (Z 1 rfl ?_)
 simp only [go_sem, simprocAttr, tCt, Gi, h1]
 refine Ab (Ab (Z 2 rfl ?_))
 simp only [go_sem, simprocAttr, tCt, Gi, h1]
 refine Au ?_
 refine Bg (α := Nat × (List (List UInt8))) (fun γ => (γ.1 <= W.length) /\ (γ.2.length = if γ.1 = 0 then 0 else γ.1 + 1)) (fun γ => ⟨mkE [(1, V.list (List.map Want.enc W) false), (2, V.ptr 2 0), (5, .own 999 γ.2.length), (6, .int .i64 γ.1)], mkH [(2, Ob.box 25 [V.list (List.map Airport.enc ps) false, V.list (List.map Distance.enc ds) false]), (999, .arr 9 1 (strs γ.2))]⟩) (fun γ => W.length - γ.1) (0, []) ⟨Ar _, rfl⟩ ?_ ?_
 ·exact leM
 rintro ⟨i, g⟩ ⟨hi, hg⟩ KL0 hKL0
 try dsimp only at *
 refine Ab (Ab (Z 3 rfl ?_))
 simp only [go_sem, simprocAttr, Ac, tCt, Gi, h1]
 refine Ag rfl (fun hc3 => ?_) fun hc3 => ?_
 ·simp only [hcL] at hc3
  refine Aj ?_
  refine Ab (Au ?_)
  refine Ab ?_
  obtain ⟨⟨⟨ca, nu, da, fr, to, de, ar⟩, cl⟩, hw⟩ : ∃ w, w = W[i] := ⟨_, rfl⟩
  refine Ab (Z 5 rfl ?_)
  simp only [go_sem, simprocAttr, tCt, Gi, h1]
  refine Ag rfl (fun hb5 => ?_) fun hb5 => ?_
  ·obtain rfl : i = 0 := by have := of_decide_eq_true hb5; omega
   obtain rfl : g = [] := Qb hg
   have hc30 : 0 < W.length := hc3
   refine GZ (EF := EF0) hG mixed Ane Aiv ?_
   simp only [RC, XW, go_sem, simprocAttr, Ap _ _ _ _ hc3, hc3, Ac, <- hw, Want.enc, Ay, tCt, Gi, h1]
   and_intros <;> try exact sdA
   refine GZ (EF := EF0) hG mixed AdO AbX ?_
   simp only [ON, Sj, go_sem, simprocAttr, Ap _ _ _ _ hc3, hc3, Ac, <- hw, Want.enc, Ay, UQ, FR, Av, tCt, Gi, h1]
   and_intros <;> try exact sdA
   refine Z 4 rfl ?_
   simp only [go_sem, simprocAttr, inI, tCt, Gi, h1]
   and_intros <;> try exact sdA
   refine hKL0 (0 + 1, [BZ ps fr, BZ ps to]) _ ?_ ?_ ?_
   ·(try dsimp only); exact ⟨hc3, rfl⟩
   ·(try dsimp only); omega
   refine Le.mk _ _ ?_ ?_ rfl <;> simp only [go_sem, simprocAttr, Ai, Av, Ay, Als, UQ, FR, FQ] <;> and_intros <;> try exact leA
  have hi0 : ¬ i = 0 := fun e => by have := of_decide_eq_false hb5; omega
  rw [if_neg hi0] at hg
  refine Aj ?_
  refine GZ (EF := EF0) hG mixed AdO AbX ?_
  simp only [ON, Sj, go_sem, simprocAttr, Ap _ _ _ _ hc3, hc3, Ac, <- hw, Want.enc, Ay, UQ, FR, Av, tCt, Gi, h1]
  and_intros <;> try exact sdA
  refine Z 4 rfl ?_
  simp only [go_sem, simprocAttr, inI, tCt, Gi, h1]
  and_intros <;> try exact sdA
  refine hKL0 (i + 1, g ++ [BZ ps to]) _ ?_ ?_ ?_
  ·(try dsimp only); exact ⟨hc3, by rw [if_neg (by omega), Ai, hg]; rfl⟩
  ·(try dsimp only); omega
  refine Le.mk _ _ ?_ ?_ rfl <;> simp only [go_sem, simprocAttr, Ai, Av, Ay, QV] <;> and_intros <;> try exact leA
 simp only [hcL] at hc3
 obtain rfl : i = W.length := by omega
 have hgl : Ni (⟨ps, ds⟩, W) g := by unfold Ni; dsimp only; rw [hg]; cases W <;> simp
 refine Bc ?_
 simp only [go_sem, simprocAttr]
 refine Ab (Z 8 rfl ?_)
 simp only [go_sem, simprocAttr, tCt, Gi, h1]
 refine TC.le (s' := ⟨mkE [(4, .list (strs g) false)], mkH []⟩) (Le.mk _ _ ?_ ?_ rfl) (Ak (hQ _ _ (.inl rfl) ?_ ?_ ?_)) <;> simp only [go_sem, simprocAttr, vSS]
 ·exact DO rfl (by rw [Em]) rfl (OC _)
 exact ⟨g, rfl, hgl⟩
def aTr := ar (vg Places.enc) (ar (vl Want.enc) (ar V.str (ao vi)))
theorem WI : Ij aTr := ijr (ijg Places.inj) (ijr (ijl Want.inj) (ijr ijs (ijo iji)))
structure TrP (x : Places × List Want × List UInt8 × Int) : Prop where
 p : PlK x.1
 t : TmOk x.2.1
 u : x.2.2.1.length <= 140737488355328
 s : inI x.2.2.2
 o : ∀ w ∈ x.2.1, w.ok
def RTr (_ : Places × List Want × List UInt8 × Int) (t : Trip) : Prop := TrpOk t
def Kj (t : Trip) : V := .agg t.enc
theorem AdS {u : List UInt8} {sa D M st tr : Int} {cs X : List (List UInt8)} {ns : List Int} (h1 : u.length <= 140737488355328) (h2 : inI sa) (h3 : inI D) (h4 : inI M) (h5 : 0 <= st /\ st <= 1000) (h6 : 0 <= tr /\ tr <= 1000) (h7 : cs.length <= 1000) (h8 : ns.length <= 1000) (h9 : X.length <= 1000) : TrpOk ⟨u, sa, D, M, st, tr, cs, ns, X⟩ :=
 ⟨h1, h2, h3, h4, Fq (show -9223372036854775808 <= st by omega) (show st <= 9223372036854775807 by omega), Fq (show -9223372036854775808 <= tr by omega) (show tr <= 9223372036854775807 by omega), show cs.length <= 140737488355328 by omega, show ns.length <= 140737488355328 by omega, show X.length <= 140737488355328 by omega⟩
instance : Inhabited Trip := ⟨Trip.zero⟩
def Hl : Places × List Want -> List (List UInt8) := Si.choose
theorem Sc : ∀ x, CtP x -> Ni x (Hl x) := Si.choose_spec.1
theorem Sd : PU 94 (gOf aPW fun x => (CtP x, vSS (Hl x))) := Si.choose_spec.2
theorem AM (ps : List Airport) (ds : List Distance) (W : List Want) : gOf aPW (fun x => (CtP x, vSS (Hl x))) [.agg [.list (ps.map Airport.enc) false, .list (ds.map Distance.enc) false], .list (W.map Want.enc) false] = (CtP (⟨ps, ds⟩, W), .list (strs (Hl (⟨ps, ds⟩, W))) false) := Al (F := fun x => (CtP x, vSS (Hl x))) Wd (⟨ps, ds⟩, W)
theorem Ty (g : List Int) (n : Int) : Aq (g ++ [n]) = Aq g ++ [[.int .i64 n]] := by simp [Aq]
def tTr : Tab
 | 160 => (gOf aPs Hm)
 | 162 => (gOf aZU fun x => (LcP x, vII (IR x)))
 | 161 => (gOf aI1 fun x => (SpP x, Am (fSp x)))
 | 94 => (gOf aPW fun x => (CtP x, vSS (Hl x)))
 | _ => gNo
theorem Ams : ∀ f, PU f (tTr f) := fun f => by
 unfold tTr
 split
 ·exact Uq
 ·exact Abo
 ·exact Adq
 ·exact Sd
 ·exact Ah.no
theorem Vl : ∃ F : Places × List Want × List UInt8 × Int -> Trip, (∀ x, TrP x -> RTr x (F x)) /\ PU 97 (gOf aTr fun x => (TrP x, Kj (F x))) := by
 have hG := Ams
 refine Td.p (val := Kj) (R := RTr) WI (by simp [aTr]) ?_
 rintro ⟨⟨ps, ds⟩, W, u, sa⟩ hv Q hQ
 have Y := Td.E EF0 hG mixed
 have Z := Td.T EF0 hG
 obtain ⟨h1, ⟨h2, h3⟩, h4, h5, h6⟩ : TrP (⟨ps, ds⟩, W, u, sa) := hv
 dsimp only at h2 h3 h4 h5 h6
 have hL : BH ⟨ps, ds⟩ := h1.m.1
 have hC : CtP (⟨ps, ds⟩, W) := ⟨hL, h2⟩
 obtain ⟨C, hCe⟩ : ∃ C, C = Hl (⟨ps, ds⟩, W) := ⟨_, rfl⟩
 have hCl := Sc _ hC
 rw [<- hCe] at hCl
 refine Ab (Z 0 rfl ?_)
 simp only [go_sem, simprocAttr, aTr, Places.enc, tTr, Cm, CM, CO, AM, hL, hC, <- hCe]
 refine Ab (Z 1 rfl ?_)
 simp only [go_sem, simprocAttr, tTr, Cm, CM, CO, AM, hL, hC, <- hCe]
 refine Ab (Ab (Z 2 rfl ?_))
 simp only [go_sem, simprocAttr, Ac, tTr, Cm, CM, CO, AM, hL, hC, <- hCe]
 refine Ag rfl (fun hb2 => ?_) fun hb2 => ?_
 ·refine Ab (Z 3 rfl ?_)
  simp only [go_sem, simprocAttr, tTr, Cm, CM, CO, AM, hL, hC, <- hCe]
  refine TC.le (s' := ⟨mkE [(8, .ptr 8 0)], mkH [(8, .box 164 (Trip.enc ⟨u, sa, 0, 0, 0, 0, [], [], []⟩))]⟩) (Le.mk _ _ ?_ ?_ rfl) (Ak (hQ _ _ (.inl rfl) ?_ ?_ ?_)) <;> simp only [go_sem, simprocAttr, Kj, Trip.enc]
  ·exact ⟨.nill _, .nill _, .nill _⟩
  exact ⟨⟨u, sa, 0, 0, 0, 0, [], [], []⟩, rfl, AdS h4 h5 (Fq (by decide) (by decide)) (Fq (by decide) (by decide)) (by decide) (by decide) (by simp) (by simp) (by simp)⟩
 have hW0 : 0 < W.length := by simp at hb2; cases W <;> simp at hb2 ⊢
 obtain ⟨⟨⟨ca, nu, da, fr, to, de, ar⟩, cl⟩, hw⟩ : ∃ w, w = W[0] := ⟨_, rfl⟩
 have hwt := h3 _ (AF hW0)
 rw [<- hw] at hwt
 obtain ⟨⟨d1, d2⟩, -⟩ : (0 <= de /\ de <= 52596000) /\ _ := hwt
 have hF := h1.find fr
 obtain ⟨A, hA⟩ : ∃ A, A = BR (ER fr) ps := ⟨_, rfl⟩
 dsimp only at hF
 rw [<- hA] at hF
 obtain ⟨⟨ac, ai, ao, ⟨zo, sh⟩⟩, hAg⟩ : ∃ a, a = A.getD Airport.zero := ⟨_, rfl⟩
 rw [<- hAg] at hF
 have hLc : LcP (⟨zo, sh⟩, de) := ⟨hF, d1, d2⟩
 obtain ⟨lo, hlo⟩ : ∃ n, n = IR (⟨zo, sh⟩, de) := ⟨_, rfl⟩
 have hlb := Abn _ hLc
 rw [<- hlo] at hlb
 obtain ⟨l1, l2⟩ : -100000000 <= lo /\ lo <= 100000000 := hlb
 have hSp : SpP lo := ⟨l1, l2⟩
 obtain ⟨⟨D, M⟩, hDM⟩ : ∃ x, x = fSp lo := ⟨_, rfl⟩
 have hDb := Adp _ hSp
 rw [<- hDM] at hDb
 obtain ⟨hD, hM⟩ : inI D /\ inI M := hDb
 refine Aj ?_
 refine Ab (GZ (EF := EF0) hG mixed Anf Aiw ?_)
 simp only [RD, XX, go_sem, simprocAttr, Ap _ _ _ _ hW0, hW0, Ac, <- hw, Want.enc, Dn, <- hA, <- hAg, Airport.enc, tTr, Cm, CM, CO, AM, hL, hC, <- hCe]
 and_intros <;> try exact sdA
 refine Ab (GZ (EF := EF0) hG mixed Ang Aix ?_)
 simp only [RE, XY, go_sem, simprocAttr, Ap _ _ _ _ hW0, hW0, Ac, <- hw, Want.enc, hLc, <- hlo, hSp, <- hDM, tTr, Cm, CM, CO, AM, hL, hC, <- hCe]
 and_intros <;> try exact sdA
 refine Ab (Ab (Z 6 rfl ?_))
 simp only [go_sem, simprocAttr, tTr, Cm, CM, CO, AM, hL, hC, <- hCe]
 refine Au ?_
 refine Bg (α := Nat × (List (List UInt8)) × (List Int) × Int × Int) (fun γ => (γ.1 <= W.length) /\ (γ.2.1.length = γ.1) /\ (γ.2.2.1.length = γ.1) /\ (0 <= γ.2.2.2.1 /\ γ.2.2.2.1 <= γ.1) /\ (0 <= γ.2.2.2.2 /\ γ.2.2.2.2 <= γ.1)) (fun γ => ⟨mkE [(1, V.list (List.map Want.enc W) false), (4, V.ptr 4 0), (8, V.ptr 8 0), (9, V.ptr 9 0), (12, .int .i64 γ.1)], mkH [(4, Ob.box 25 [V.list (List.map Airport.enc ps) false, V.list (List.map Distance.enc ds) false]), (8, Ob.box 164 [V.str [], V.int IntKind.i64 0, V.int IntKind.i64 0, V.int IntKind.i64 0, V.int IntKind.i64 0, V.int IntKind.i64 0, V.nils, V.nils, V.nils]), (9, .box 164 [.str u, .int .i64 sa, .int .i64 D, .int .i64 M, .int .i64 γ.2.2.2.1, .int .i64 γ.2.2.2.2, .own 999 γ.2.1.length, .own 998 γ.2.2.1.length, .nils]), (998, .arr 3 1 (Aq γ.2.2.1)), (999, .arr 9 1 (strs γ.2.1))]⟩) (fun γ => W.length - γ.1) (0, [], [], 0, 0) ⟨Ar _, rfl, rfl, ⟨by decide, by decide⟩, by decide, by decide⟩ ?_ ?_
 ·exact leM
 rintro ⟨i, cs, ns, st, tr⟩ ⟨hi, hcs, hns, hst, htr⟩ KL0 hKL0
 try dsimp only at *
 refine Ab (Ab (Z 7 rfl ?_))
 simp only [go_sem, simprocAttr, Ac, tTr, Cm, CM, CO, AM, hL, hC, <- hCe]
 refine Ag rfl (fun hc7 => ?_) fun hc7 => ?_
 ·simp only [hcL] at hc7
  refine Aj ?_
  refine Ab (Au ?_)
  obtain ⟨⟨⟨ca1, nu1, da1, fr1, to1, de1, ar1⟩, cl1⟩, hw1⟩ : ∃ w, w = W[i] := ⟨_, rfl⟩
  have hwt1 := h3 _ (AF hc7)
  rw [<- hw1] at hwt1
  obtain ⟨⟨d3, d4⟩, -⟩ : (0 <= de1 /\ de1 <= 52596000) /\ _ := hwt1
  have hcl1 : cs.length <= 900 := by omega
  have hnl1 : ns.length <= 900 := by omega
  refine Ab (GZ (EF := EF0) hG mixed Anh Aiy ?_)
  simp only [RF, XZ, go_sem, simprocAttr, Ap _ _ _ _ hc7, hc7, Ac, <- hw1, Want.enc, Em, DB, tTr, Cm, CM, CO, AM, hL, hC, <- hCe]
  and_intros <;> try exact sdA
  refine Ab (Ab (Z 10 rfl ?_))
  simp only [go_sem, simprocAttr, tTr, Cm, CM, CO, AM, hL, hC, <- hCe]
  refine Ag rfl (fun hb10 => ?_) fun hb10 => ?_
  ·refine Bc ?_
   simp only [go_sem, simprocAttr]
   refine Z 8 rfl ?_
   simp only [go_sem, simprocAttr, inI, tTr, Cm, CM, CO, AM, hL, hC, <- hCe]
   and_intros <;> try exact sdA
   refine hKL0 (i + 1, cs ++ [ca1], ns ++ [nu1], st, tr) _ ?_ ?_ ?_
   ·(try dsimp only); exact ⟨hc7, by rw [Ai, hcs]; rfl, by rw [Ai, hns]; rfl, by omega, by omega⟩
   ·(try dsimp only); omega
   refine Le.mk _ _ ?_ ?_ rfl <;> simp only [go_sem, simprocAttr, Ai, Av, Ay, QV, Ty] <;> and_intros <;> try exact leA
  have hi0 : 0 < i := by have := of_decide_eq_false hb10; omega
  have hj : i - 1 < W.length := by omega
  have e1 : ((i : Int) - 1).toNat = i - 1 := by omega
  obtain ⟨⟨⟨ca2, nu2, da2, fr2, to2, de2, ar2⟩, cl2⟩, hw2⟩ : ∃ w, w = W[i - 1] := ⟨_, rfl⟩
  have hwt2 := h3 _ (AF hj)
  rw [<- hw2] at hwt2
  obtain ⟨-, d5, d6⟩ : _ /\ 0 <= ar2 /\ ar2 <= 52596000 := hwt2
  refine Aj ?_
  refine Ab (Y 11 rfl (by kernel_rfl) ?_)
  simp only [go_sem, simprocAttr, inI, e1, Ap _ _ _ _ hc7, Ap _ _ _ _ hj, hc7, hj, Ac, <- hw1, <- hw2, Want.enc, tTr, Cm, CM, CO, AM, hL, hC, <- hCe]
  and_intros <;> try exact sdA
  refine Ag rfl (fun hc11 => ?_) fun hc11 => ?_
  ·simp only [hcL] at hc11
   refine Z 12 rfl ?_
   simp only [go_sem, simprocAttr, inI, tTr, Cm, CM, CO, AM, hL, hC, <- hCe]
   and_intros <;> try exact sdA
   refine Z 8 rfl ?_
   simp only [go_sem, simprocAttr, inI, tTr, Cm, CM, CO, AM, hL, hC, <- hCe]
   and_intros <;> try exact sdA
   refine hKL0 (i + 1, cs ++ [ca1], ns ++ [nu1], st + 1, tr) _ ?_ ?_ ?_
   ·(try dsimp only); exact ⟨hc7, by rw [Ai, hcs]; rfl, by rw [Ai, hns]; rfl, by omega, by omega⟩
   ·(try dsimp only); omega
   refine Le.mk _ _ ?_ ?_ rfl <;> simp only [go_sem, simprocAttr, Ai, Av, Ay, QV, Ty] <;> and_intros <;> try exact leA
  simp only [hcL] at hc11
  refine Z 13 rfl ?_
  simp only [go_sem, simprocAttr, inI, tTr, Cm, CM, CO, AM, hL, hC, <- hCe]
  and_intros <;> try exact sdA
  refine Z 8 rfl ?_
  simp only [go_sem, simprocAttr, inI, tTr, Cm, CM, CO, AM, hL, hC, <- hCe]
  and_intros <;> try exact sdA
  refine hKL0 (i + 1, cs ++ [ca1], ns ++ [nu1], st, tr + 1) _ ?_ ?_ ?_
  ·(try dsimp only); exact ⟨hc7, by rw [Ai, hcs]; rfl, by rw [Ai, hns]; rfl, by omega, by omega⟩
  ·(try dsimp only); omega
  refine Le.mk _ _ ?_ ?_ rfl <;> simp only [go_sem, simprocAttr, Ai, Av, Ay, QV, Ty] <;> and_intros <;> try exact leA
 simp only [hcL] at hc7
 have hC2 : C.length = W.length + 1 := by have : C.length = if W = [] then 0 else W.length + 1 := hCl; rw [this, if_neg (by intro e; rw [e] at hW0; exact absurd hW0 (by decide))]
 have e2 : ((C.length : Int) - 1).toNat = C.length - 1 := by omega
 obtain ⟨X, hX, hXl⟩ : ∃ X, List.drop 1 (List.take (C.length - 1) (strs C)) = strs X /\ X.length <= 1000 := ⟨(C.take (C.length - 1)).drop 1, by simp [strs, List.map_drop, MJ], by simp; omega⟩
 refine Bc ?_
 simp only [go_sem, simprocAttr]
 refine Ab (Z 14 rfl ?_)
 simp only [go_sem, simprocAttr, tTr, Cm, CM, CO, AM, hL, hC, <- hCe]
 and_intros <;> try exact sdA
 refine Ab (Z 15 rfl ?_)
 simp only [go_sem, simprocAttr, inI, Em, e2, hX, tTr, Cm, CM, CO, AM, hL, hC, <- hCe]
 and_intros <;> try exact sdA
 refine Ab (Z 16 rfl ?_)
 simp only [go_sem, simprocAttr, tTr, Cm, CM, CO, AM, hL, hC, <- hCe]
 refine TC.le (s' := ⟨mkE [(8, .ptr 8 0)], mkH [(8, .box 164 (Trip.enc ⟨u, sa, D, M, st, tr, cs, ns, X⟩))]⟩) (Le.mk _ _ ?_ ?_ rfl) (Ak (hQ _ _ (.inl rfl) ?_ ?_ ?_)) <;> simp only [go_sem, simprocAttr, Kj, Trip.enc]
 ·exact ⟨Rg rfl (by rw [Em]) rfl (OC cs) rfl, Rg rfl (by rw [DB]) rfl (JQ ns) rfl⟩
 exact ⟨_, rfl, AdS h4 h5 hD hM (by omega) (by omega) (by omega) (by omega) hXl⟩
def RIi {α : Type} (_ : α) (y : Int) : Prop := inI y
theorem Ur {t : Tariff} (h : TarOk t) (n : Int) : RuleOk (fRl (t, n)).1 := by
 rcases Aco (t, n) h with e | ⟨-, e⟩
 ·rw [e]; exact Rule.zero_ok
 ·exact h.ro _ e
theorem Ajv {t : Tariff} (h : TarOk t) (hr : Kp t) (n : Int) : Ng (fRl (t, n)).1 := by
 rcases Aco (t, n) h with e | ⟨-, e⟩
 ·rw [e]; intro x hx; exact nomatch hx
 ·exact hr.2 _ e
theorem Acv {t : Tariff} (h : TarOk t) (n : Int) : (FJ (t, n)).1.ok /\ (FJ (t, n)).1.links.length <= 1000000 := by
 rcases AjJ (t, n) h with e | ⟨-, e⟩
 ·rw [e]; exact ⟨⟨Fq (by decide) (by decide), ⟨by decide, fun x hx => nomatch hx⟩, Fq (by decide) (by decide)⟩, by decide⟩
 ·exact h.go _ e
def aTF := ar (vg Tariff.enc) (ao (vg Fare.enc))
theorem WB : Ij aTF := ijr (ijg Tariff.inj) (ijo (ijg Fare.inj))
def tMl : Tab
 | 98 => (gOf aTN fun x => (TarOk x.1, vGB (FJ x)))
 | _ => gNo
theorem Al2 : ∀ f, PU f (tMl f) := fun f => by
 unfold tMl
 split
 ·exact Uu
 ·exact Ah.no
theorem TM : ∃ F : Tariff × Fare -> Int, (∀ x, TarOk x.1 -> RIi x (F x)) /\ PU 100 (gOf aTF fun x => (TarOk x.1, vII (F x))) := by
 have hG := Al2
 refine Yv.p (val := vII) (R := RIi) WB (by simp [aTF]) ?_
 rintro ⟨⟨fs, rs, gs, xs⟩, ⟨ca, fr, to, ba, cl, rd, am, ru, rg⟩⟩ hv Q hQ
 have Z := Yv.T EF0 hG
 have hT : TarOk ⟨fs, rs, gs, xs⟩ := hv
 obtain ⟨⟨⟨n, l, m⟩, b⟩, hR⟩ : ∃ y, y = FJ (⟨fs, rs, gs, xs⟩, rg) := ⟨_, rfl⟩
 have hm := (Acv hT rg).1
 rw [<- hR] at hm
 obtain ⟨-, -, hm⟩ : inI n /\ _ /\ inI m := hm
 refine Ab (Z 0 rfl ?_)
 simp only [go_sem, simprocAttr, aTF, Tariff.enc, Fare.enc, tMl, Bd, hT, <- hR]
 refine Ab (Z 1 rfl ?_)
 simp only [go_sem, simprocAttr, Routing.enc, tMl, Bd, hT, <- hR]
 and_intros <;> try exact sdA
 refine Ab (Ab (Z 2 rfl ?_))
 simp only [go_sem, simprocAttr, tMl, Bd, hT, <- hR]
 refine Ag rfl (fun hc2 => ?_) fun hc2 => ?_
 ·simp only [hcL] at hc2
  refine Ab (Z 3 rfl ?_)
  simp only [go_sem, simprocAttr, tMl, Bd, hT, <- hR]
  refine Ak (hQ _ _ (.inl rfl) ?_ ?_ ?_) <;> simp only [go_sem, simprocAttr, vII]
  exact ⟨0, rfl, Fq (by decide) (by decide)⟩
 simp only [hcL] at hc2
 refine Aj ?_
 refine Ab (Z 4 rfl ?_)
 simp only [go_sem, simprocAttr, tMl, Bd, hT, <- hR]
 refine Ak (hQ _ _ (.inl rfl) ?_ ?_ ?_) <;> simp only [go_sem, simprocAttr, vII]
 exact ⟨m, rfl, hm⟩
def fMl : Tariff × Fare -> Int := TM.choose
theorem AbE : ∀ x : Tariff × Fare, TarOk x.1 -> RIi x (fMl x) := TM.choose_spec.1
theorem AbF : PU 100 (gOf aTF fun x => (TarOk x.1, vII (fMl x))) := TM.choose_spec.2
theorem Br (a : List Fare) (b : List Rule) (c : List Routing) (d : List Tax) (ca fr to ba cl : List UInt8) (rd : Bool) (am ru rg : Int) : gOf aTF (fun x => (TarOk x.1, vII (fMl x))) [.agg [.list (a.map Fare.enc) false, .list (b.map Rule.enc) false, .list (c.map Routing.enc) false, .list (d.map Tax.enc) false], .agg [.str ca, .str fr, .str to, .str ba, .str cl, .bool rd, .int .i64 am, .int .i64 ru, .int .i64 rg]] = (TarOk ⟨a, b, c, d⟩, .int .i64 (fMl (⟨a, b, c, d⟩, ⟨ca, fr, to, ba, cl, rd, am, ru, rg⟩))) := Al (F := fun x => (TarOk x.1, vII (fMl x))) WB (⟨a, b, c, d⟩, ⟨ca, fr, to, ba, cl, rd, am, ru, rg⟩)
def Ku := ar (vg Places.enc) (ao (vg Seg.enc))
theorem Wa : Ij Ku := ijr (ijg Places.inj) (ijo (ijg Seg.inj))
def DyP (x : Places × Seg) : Prop := PlK x.1 /\ 0 <= x.2.dep /\ x.2.dep <= 52596000
def RDy (_ : Places × Seg) (y : Int × Int) : Prop := inI y.1
def tDy : Tab
 | 160 => (gOf aPs Hm)
 | 162 => (gOf aZU fun x => (LcP x, vII (IR x)))
 | 161 => (gOf aI1 fun x => (SpP x, Am (fSp x)))
 | _ => gNo
theorem AlN : ∀ f, PU f (tDy f) := fun f => by
 unfold tDy
 split
 ·exact Uq
 ·exact Abo
 ·exact Adq
 ·exact Ah.no
theorem Yj : ∃ F : Places × Seg -> Int × Int, (∀ x, DyP x -> RDy x (F x)) /\ PU 200 (gOf Ku fun x => (DyP x, Am (F x))) := by
 have hG := AlN
 refine ZH.p (val := Am) (R := RDy) Wa (by simp [Ku]) ?_
 rintro ⟨⟨ps, ds⟩, ⟨ca, nu, da, fr, to, de, ar⟩⟩ hv Q hQ
 have Z := ZH.T EF0 hG
 obtain ⟨h1, d1, d2⟩ : PlK ⟨ps, ds⟩ /\ 0 <= de /\ de <= 52596000 := hv
 have hL : BH ⟨ps, ds⟩ := h1.m.1
 have hF := h1.find fr
 obtain ⟨A, hA⟩ : ∃ A, A = BR (ER fr) ps := ⟨_, rfl⟩
 dsimp only at hF
 rw [<- hA] at hF
 obtain ⟨⟨ac, ai, ao, ⟨zo, sh⟩⟩, hAg⟩ : ∃ a, a = A.getD Airport.zero := ⟨_, rfl⟩
 rw [<- hAg] at hF
 have hLc : LcP (⟨zo, sh⟩, de) := ⟨hF, d1, d2⟩
 obtain ⟨lo, hlo⟩ : ∃ n, n = IR (⟨zo, sh⟩, de) := ⟨_, rfl⟩
 have hlb := Abn _ hLc
 rw [<- hlo] at hlb
 obtain ⟨l1, l2⟩ : -100000000 <= lo /\ lo <= 100000000 := hlb
 have hSp : SpP lo := ⟨l1, l2⟩
 obtain ⟨⟨D, M⟩, hDM⟩ : ∃ x, x = fSp lo := ⟨_, rfl⟩
 have hDb := Adp _ hSp
 rw [<- hDM] at hDb
 obtain ⟨hD, hM⟩ : inI D /\ inI M := hDb
 refine Ab (Z 0 rfl ?_)
 simp only [go_sem, simprocAttr, Ku, Places.enc, Seg.enc, tDy, Cm, CM, CO, hL, hLc, hSp]
 refine Ab (Z 1 rfl ?_)
 simp only [go_sem, simprocAttr, Dn, <- hA, <- hAg, Airport.enc, tDy, Cm, CM, CO, hL, hLc, hSp]
 and_intros <;> try exact sdA
 refine Ab (Ab (Z 2 rfl ?_))
 simp only [go_sem, simprocAttr, tDy, Cm, CM, CO, hL, hLc, hSp]
 refine Ag rfl (fun hb2 => ?_) fun hb2 => ?_
 ·refine Ab (Z 3 rfl ?_)
  simp only [go_sem, simprocAttr, tDy, Cm, CM, CO, hL, hLc, hSp]
  refine Ak (hQ _ _ (.inl rfl) ?_ ?_ ?_) <;> simp only [go_sem, simprocAttr, Am]
  exact ⟨(0, 14), rfl, Fq (by decide) (by decide)⟩
 refine Aj ?_
 refine Ab (Z 4 rfl ?_)
 simp only [go_sem, simprocAttr, <- hlo, <- hDM, tDy, Cm, CM, CO, hL, hLc, hSp]
 and_intros <;> try exact sdA
 refine Ab (Z 5 rfl ?_)
 simp only [go_sem, simprocAttr, tDy, Cm, CM, CO, hL, hLc, hSp]
 refine Ak (hQ _ _ (.inl rfl) ?_ ?_ ?_) <;> simp only [go_sem, simprocAttr, Am]
 exact ⟨(D, 0), rfl, hD⟩
def Mj : Places × Seg -> Int × Int := Yj.choose
theorem AfR : PU 200 (gOf Ku fun x => (DyP x, Am (Mj x))) := Yj.choose_spec.2
theorem IM (ps : List Airport) (ds : List Distance) (ca : List UInt8) (nu da : Int) (fr to : List UInt8) (de ar : Int) : gOf Ku (fun x => (DyP x, Am (Mj x))) [.agg [.list (ps.map Airport.enc) false, .list (ds.map Distance.enc) false], .agg [.str ca, .int .i64 nu, .int .i64 da, .str fr, .str to, .int .i64 de, .int .i64 ar]] = (DyP (⟨ps, ds⟩, ⟨ca, nu, da, fr, to, de, ar⟩), .tup [.int .i64 (Mj (⟨ps, ds⟩, ⟨ca, nu, da, fr, to, de, ar⟩)).1, .int .i64 (Mj (⟨ps, ds⟩, ⟨ca, nu, da, fr, to, de, ar⟩)).2]) := Al (F := fun x => (DyP x, Am (Mj x))) Wa (⟨ps, ds⟩, ⟨ca, nu, da, fr, to, de, ar⟩)
def aTP := ar (vg Tariff.enc) (ao (vg Part.enc))
theorem WC : Ij aTP := ijr (ijg Tariff.inj) (ijo (ijg Part.inj))
def RlP (x : Tariff × Part) : Prop := TarOk x.1 /\ 0 <= x.2.fare /\ x.2.fare < x.1.fares.length
def RRu (_ : Tariff × Part) (r : Rule) : Prop := RuleOk r
def vRu (r : Rule) : V := .agg r.enc
instance : Inhabited Rule := ⟨Rule.zero⟩
def OD : Tab
 | 95 => (gOf aTN fun x => (TarOk x.1, vRB (fRl x)))
 | _ => gNo
theorem Amg : ∀ f, PU f (OD f) := fun f => by
 unfold OD
 split
 ·exact QD
 ·exact Ah.no
theorem Uw : ∃ F : Tariff × Part -> Rule, (∀ x, RlP x -> RRu x (F x)) /\ PU 167 (gOf aTP fun x => (RlP x, vRu (F x))) := by
 have hG := Amg
 refine Zk.p (val := vRu) (R := RRu) WC (by simp [aTP]) ?_
 rintro ⟨⟨fs, rs, gs, xs⟩, ⟨pf, pt, pr, pa⟩⟩ hv Q hQ
 have Z := Zk.T EF0 hG
 obtain ⟨hT, q1, q2⟩ : TarOk ⟨fs, rs, gs, xs⟩ /\ 0 <= pr /\ pr < fs.length := hv
 have hF : pr.toNat < fs.length := by omega
 obtain ⟨⟨ca, fr, to, ba, cl, rd, am, ru, rg⟩, hf⟩ : ∃ f, f = fs[pr.toNat] := ⟨_, rfl⟩
 obtain ⟨⟨⟨a1, ⟨k, l, a, b, ⟨x, y, z⟩, t⟩, a3, a4, a5, a6, a7, a8⟩, bb⟩, hR⟩ : ∃ y, y = fRl (⟨fs, rs, gs, xs⟩, ru) := ⟨_, rfl⟩
 have hro := Ur hT ru
 rw [<- hR] at hro
 refine Ab (Z 0 rfl ?_)
 simp only [go_sem, simprocAttr, aTP, Tariff.enc, Part.enc, OD, AL, hT, <- hR]
 refine Ab (GZ (EF := EF0) hG mixed AmX Aik ?_)
 simp only [Rr, XL, go_sem, simprocAttr, Ap _ _ _ _ hF, hF, Ac, <- hf, Fare.enc, q1, q2, Rule.enc_at, OD, AL, hT, <- hR]
 and_intros <;> try exact sdA
 refine Ab (Z 2 rfl ?_)
 simp only [go_sem, simprocAttr, OD, AL, hT, <- hR]
 refine Ak (hQ _ _ (.inl rfl) ?_ ?_ ?_) <;> simp only [go_sem, simprocAttr, vRu]
 exact ⟨⟨a1, .mk k l a b ⟨x, y, z⟩ t, a3, a4, a5, a6, a7, a8⟩, by rw [Rule.enc_at], hro⟩
def Gl : Tariff × Part -> Rule := Uw.choose
theorem QE : ∀ x, RlP x -> RRu x (Gl x) := Uw.choose_spec.1
theorem Acz : PU 167 (gOf aTP fun x => (RlP x, vRu (Gl x))) := Uw.choose_spec.2
theorem DG (a : List Fare) (b : List Rule) (c : List Routing) (d : List Tax) (p1 p2 p3 p4 : Int) : gOf aTP (fun x => (RlP x, vRu (Gl x))) [.agg [.list (a.map Fare.enc) false, .list (b.map Rule.enc) false, .list (c.map Routing.enc) false, .list (d.map Tax.enc) false], .agg [.int .i64 p1, .int .i64 p2, .int .i64 p3, .int .i64 p4]] = (RlP (⟨a, b, c, d⟩, ⟨p1, p2, p3, p4⟩), .agg (Gl (⟨a, b, c, d⟩, ⟨p1, p2, p3, p4⟩)).enc) := Al (F := fun x => (RlP x, vRu (Gl x))) WC (⟨a, b, c, d⟩, ⟨p1, p2, p3, p4⟩)
theorem Jp (r : Rule) (n m : Int) : gOf KC (fun x => (StP x, vII (NI x))) [.agg r.enc, .int .i64 n, .int .i64 m] = (RuleOk r, .int .i64 (NI (r, n, m))) := Al (F := fun x => (StP x, vII (NI x))) Wo (r, n, m)
theorem AoE {a b : List Want} (h : a.map Want.enc = b.map Want.enc) : a = b := Qi (fun x y h => Want.inj x y (by simpa using h)) |>.1 h
def aSy := ar (vg Places.enc) (ar (vg Tariff.enc) (ar (vl Want.enc) (ar (vg Part.enc) (ao (vg Part.enc)))))
theorem WA : Ij aSy := ijr (ijg Places.inj) (ijr (ijg Tariff.inj) (ijr (ijl Want.inj) (ijr (ijg Part.inj) (ijo (ijg Part.inj)))))
def PtP (t : Tariff) (w : List Want) (x : Part) : Prop := (0 <= x.from' /\ x.from' < w.length) /\ 0 <= x.fare /\ x.fare < t.fares.length
structure SyP (x : Places × Tariff × List Want × Part × Part) : Prop where
 p : PlK x.1
 t : TarOk x.2.1
 w : TmOk x.2.2.1
 a : PtP x.2.1 x.2.2.1 x.2.2.2.1
 b : PtP x.2.1 x.2.2.1 x.2.2.2.2
def tSy : Tab
 | 200 => (gOf Ku fun x => (DyP x, Am (Mj x)))
 | 167 => (gOf aTP fun x => (RlP x, vRu (Gl x)))
 | 201 => (gOf KC fun x => (StP x, vII (NI x)))
 | _ => gNo
theorem Amo : ∀ f, PU f (tSy f) := fun f => by
 unfold tSy
 split
 ·exact AfR
 ·exact Acz
 ·exact Alf
 ·exact Ah.no
theorem AdA : ∃ F : Places × Tariff × List Want × Part × Part -> Int, (∀ x, SyP x -> RT x (F x)) /\ PU 168 (gOf aSy fun x => (SyP x, vII (F x))) := by
 have hG := Amo
 refine SI.p (val := vII) (R := RT) WA (by simp [aSy]) ?_
 rintro ⟨⟨ps, ds⟩, ⟨fs, rs, gs, xs⟩, W, ⟨af, at', ar, aa⟩, ⟨bf, bt, br, ba⟩⟩ hv Q hQ
 have Y := SI.E EF0 hG mixed
 have Z := SI.T EF0 hG
 obtain ⟨h1, h2, ⟨h3, h4⟩, ⟨⟨a1, a2⟩, a3, a4⟩, ⟨⟨b1, b2⟩, b3, b4⟩⟩ : SyP (⟨ps, ds⟩, ⟨fs, rs, gs, xs⟩, W, ⟨af, at', ar, aa⟩, ⟨bf, bt, br, ba⟩) := hv
 dsimp only at h3 h4 a1 a2 a3 a4 b1 b2 b3 b4
 have hA : af.toNat < W.length := by omega
 have hB : bf.toNat < W.length := by omega
 obtain ⟨⟨⟨ca, nu, da, fr, to, de, ar1⟩, cl⟩, hw⟩ : ∃ w, w = W[af.toNat] := ⟨_, rfl⟩
 have hwt := h4 _ (AF hA)
 rw [<- hw] at hwt
 obtain ⟨⟨⟨ca2, nu2, da2, fr2, to2, de2, ar2⟩, cl2⟩, hw2⟩ : ∃ w, w = W[bf.toNat] := ⟨_, rfl⟩
 have hwt2 := h4 _ (AF hB)
 rw [<- hw2] at hwt2
 have dA : DyP (⟨ps, ds⟩, ⟨ca, nu, da, fr, to, de, ar1⟩) := ⟨h1, hwt.1⟩
 have dB : DyP (⟨ps, ds⟩, ⟨ca2, nu2, da2, fr2, to2, de2, ar2⟩) := ⟨h1, hwt2.1⟩
 have rA : RlP (⟨fs, rs, gs, xs⟩, ⟨af, at', ar, aa⟩) := ⟨h2, a3, a4⟩
 have rB : RlP (⟨fs, rs, gs, xs⟩, ⟨bf, bt, br, ba⟩) := ⟨h2, b3, b4⟩
 have oA : RuleOk (Gl (⟨fs, rs, gs, xs⟩, ⟨af, at', ar, aa⟩)) := QE _ rA
 have oB : RuleOk (Gl (⟨fs, rs, gs, xs⟩, ⟨bf, bt, br, ba⟩)) := QE _ rB
 refine Ab (Z 0 rfl ?_)
 simp only [go_sem, simprocAttr, aSy, Places.enc, Tariff.enc, Part.enc, tSy, IM, DG, Jp, rA, rB, oA, oB, dA, dB, Rule.pur]
 refine Ab (Y 1 rfl (by kernel_rfl) ?_)
 simp only [go_sem, simprocAttr, Ap _ _ _ _ hA, hA, Ac, <- hw, Want.enc, Seg.enc, a1, a2, tSy, IM, DG, Jp, rA, rB, oA, oB, dA, dB, Rule.pur]
 and_intros <;> try exact sdA
 refine Ab (Y 2 rfl (by kernel_rfl) ?_)
 simp only [go_sem, simprocAttr, Ap _ _ _ _ hB, hB, Ac, <- hw2, Want.enc, Seg.enc, b1, b2, tSy, IM, DG, Jp, rA, rB, oA, oB, dA, dB, Rule.pur]
 and_intros <;> try exact sdA
 refine Ab (Ab (Z 3 rfl ?_))
 simp only [go_sem, simprocAttr, tSy, IM, DG, Jp, rA, rB, oA, oB, dA, dB, Rule.pur]
 and_intros <;> try exact sdA
 refine Ag rfl (fun hc3 => ?_) fun hc3 => ?_
 ·simp only [hcL] at hc3
  refine Ab (Z 4 rfl ?_)
  simp only [go_sem, simprocAttr, tSy, IM, DG, Jp, rA, rB, oA, oB, dA, dB, Rule.pur]
  refine Ak (hQ _ _ (.inl rfl) ?_ ?_ ?_) <;> simp only [go_sem, simprocAttr, vII]
  exact ⟨_, rfl, trivial⟩
 simp only [hcL] at hc3
 refine Aj ?_
 refine Ab (Ab (Z 5 rfl ?_))
 simp only [go_sem, simprocAttr, tSy, IM, DG, Jp, rA, rB, oA, oB, dA, dB, Rule.pur]
 and_intros <;> try exact sdA
 refine Ab (Z 6 rfl ?_)
 simp only [go_sem, simprocAttr, tSy, IM, DG, Jp, rA, rB, oA, oB, dA, dB, Rule.pur]
 refine Ag rfl (fun hc6 => ?_) fun hc6 => ?_
 ·simp only [hcL] at hc6
  refine Ab (Z 7 rfl ?_)
  simp only [go_sem, simprocAttr, tSy, IM, DG, Jp, rA, rB, oA, oB, dA, dB, Rule.pur]
  refine Ak (hQ _ _ (.inl rfl) ?_ ?_ ?_) <;> simp only [go_sem, simprocAttr, vII]
  exact ⟨_, rfl, trivial⟩
 simp only [hcL] at hc6
 refine Aj ?_
 refine Ab (Z 8 rfl ?_)
 simp only [go_sem, simprocAttr, tSy, IM, DG, Jp, rA, rB, oA, oB, dA, dB, Rule.pur]
 and_intros <;> try exact sdA
 refine Ak (hQ _ _ (.inl rfl) ?_ ?_ ?_) <;> simp only [go_sem, simprocAttr, vII]
 exact ⟨_, rfl, trivial⟩
def fSy : Places × Tariff × List Want × Part × Part -> Int := AdA.choose
theorem Alt : PU 168 (gOf aSy fun x => (SyP x, vII (fSy x))) := AdA.choose_spec.2
def aAm := ar (vg Places.enc) (ar (vg Tariff.enc) (ar vi (ar (vl Want.enc) (ao V.str))))
theorem VE : Ij aAm := ijr (ijg Places.inj) (ijr (ijg Tariff.inj) (ijr iji (ijr (ijl Want.inj) (ijo ijs))))
structure AmP (x : Places × Tariff × Int × List Want × List UInt8) : Prop where
 p : MOk x.1
 t : TarOk x.2.1
 r : Kp x.2.1
 w : x.2.2.2.1.length <= 900
def tAm : Tab
 | 100 => (gOf aTF fun x => (TarOk x.1, vII (fMl x)))
 | 94 => (gOf aPW fun x => (CtP x, vSS (Hl x)))
 | 101 => (gOf HR fun x => (O3P x, Am (fO3 x)))
 | 102 => (gOf CP fun x => (ApP x, Am (fAp x)))
 | 95 => (gOf aTN fun x => (TarOk x.1, vRB (fRl x)))
 | 103 => (gOf Kz fun x => (PyP x, Am (fPy x)))
 | _ => gNo
theorem Alw : ∀ f, PU f (tAm f) := fun f => by
 unfold tAm
 split
 ·exact AbF
 ·exact Sd
 ·exact AbU
 ·exact AeM
 ·exact QD
 ·exact Aje
 ·exact Ah.no
theorem RQ : ∃ F : Places × Tariff × Int × List Want × List UInt8 -> Int × Int, (∀ x, AmP x -> RAm x (F x)) /\ PU 49 (gOf aAm fun x => (AmP x, Am (F x))) := by
 have hG := Alw
 refine SX.p (val := Am) (R := RAm) VE (by simp [aAm]) ?_
 rintro ⟨⟨ps, ds⟩, ⟨fs, rs, gs, xs⟩, k, W, u⟩ hv Q hQ
 have Y := SX.E EF0 hG mixed
 have Z := SX.T EF0 hG
 obtain ⟨h1, h2, h3, h4⟩ : AmP (⟨ps, ds⟩, ⟨fs, rs, gs, xs⟩, k, W, u) := hv
 dsimp only at h4
 have hC : CtP (⟨ps, ds⟩, W) := ⟨h1.1, h4⟩
 obtain ⟨C, hCe⟩ : ∃ C, C = Hl (⟨ps, ds⟩, W) := ⟨_, rfl⟩
 have hCl : C.length = if W = [] then 0 else W.length + 1 := by rw [hCe]; exact Sc _ hC
 have hC9 : C.length <= 1000 := by rw [hCl]; split <;> omega
 have hWy : WyP (⟨ps, ds⟩, C) := ⟨h1, hC9⟩
 refine Ab (Z 0 rfl ?_)
 simp only [go_sem, simprocAttr, aAm, Places.enc, Tariff.enc, tAm, Br, AM, Bs, Fg, AL, h2, hC, <- hCe]
 refine Ab (Ab (Z 1 rfl ?_))
 simp only [go_sem, simprocAttr, Ac, tAm, Br, AM, Bs, Fg, AL, h2, hC, <- hCe]
 and_intros <;> try exact sdA
 refine Ag rfl (fun hb1 => ?_) fun hb1 => ?_
 ·refine Ab (Z 2 rfl ?_)
  simp only [go_sem, simprocAttr, tAm, Br, AM, Bs, Fg, AL, h2, hC, <- hCe]
  refine Ak (hQ _ _ (.inl rfl) ?_ ?_ ?_) <;> simp only [go_sem, simprocAttr, Am]
  exact ⟨(0, 2), rfl, fun e => absurd e (by decide)⟩
 simp only [Ce, decide_eq_false_iff_not] at hb1
 have q1 : 0 <= k := by omega
 have q2 : k < fs.length := by omega
 have hF : k.toNat < fs.length := by omega
 have hfo := h3.1 _ (AF hF)
 obtain ⟨⟨ca, fr, to, ba, cl, rd, am, ru, rg⟩, hf⟩ : ∃ f, f = fs[k.toNat] := ⟨_, rfl⟩
 rw [<- hf] at hfo
 obtain ⟨f1, f2⟩ : 0 <= am /\ am <= 1099511627776 := hfo
 have hMi : inI (fMl (⟨fs, rs, gs, xs⟩, ⟨ca, fr, to, ba, cl, rd, am, ru, rg⟩)) := AbE _ h2
 obtain ⟨mi, hmi⟩ : ∃ m, m = fMl (⟨fs, rs, gs, xs⟩, ⟨ca, fr, to, ba, cl, rd, am, ru, rg⟩) := ⟨_, rfl⟩
 rw [<- hmi] at hMi
 have hO : O3P (⟨ps, ds⟩, C, mi) := ⟨hWy, hMi⟩
 have hOb := Aic _ hO
 obtain ⟨⟨pe, er⟩, hPe⟩ : ∃ x, x = fO3 (⟨ps, ds⟩, C, mi) := ⟨_, rfl⟩
 rw [<- hPe] at hOb
 obtain ⟨o1, o2⟩ : -1000 <= pe /\ pe <= 1000 := hOb
 refine Aj ?_
 refine Ab (Z 3 rfl ?_)
 simp only [go_sem, simprocAttr, Ap _ _ _ _ hF, hF, Ac, <- hf, Fare.enc, q1, q2, tAm, Br, AM, Bs, Fg, AL, h2, hC, <- hCe]
 and_intros <;> try exact sdA
 refine Ab (Z 4 rfl ?_)
 simp only [go_sem, simprocAttr, tAm, Br, AM, Bs, Fg, AL, h2, hC, <- hCe]
 refine Ep (α := Int) (fun p => (-1000 <= p /\ p <= 1000)) (fun p => ⟨mkE [(4, V.str u), (6, V.ptr 6 0), (12, V.ptr 12 0), (13, .int .i64 p)], mkH [(6, Ob.box 31 [V.list (List.map Fare.enc fs) false, V.list (List.map Rule.enc rs) false, V.list (List.map Routing.enc gs) false, V.list (List.map Tax.enc xs) false]), (12, Ob.box 96 [V.str ca, V.str fr, V.str to, V.str ba, V.str cl, V.bool rd, V.int IntKind.i64 am, V.int IntKind.i64 ru, V.int IntKind.i64 rg])]⟩) ?_ ?_
 ·intro KC5 hKC5
  refine Ab (Z 5 rfl ?_)
  simp only [go_sem, simprocAttr, <- hmi, tAm, Br, AM, Bs, Fg, AL, h2, hC, <- hCe]
  and_intros <;> try exact sdA
  refine Ag rfl (fun hc5 => ?_) fun hc5 => ?_
  ·simp only [hcL] at hc5
   refine Ab (Y 6 rfl (by kernel_rfl) ?_)
   simp only [go_sem, simprocAttr, <- hmi, hO, <- hPe, tAm, Br, AM, Bs, Fg, AL, h2, hC, <- hCe]
   and_intros <;> try exact sdA
   refine Ab (Ab (Z 7 rfl ?_))
   simp only [go_sem, simprocAttr, tAm, Br, AM, Bs, Fg, AL, h2, hC, <- hCe]
   refine Ag rfl (fun hc7 => ?_) fun hc7 => ?_
   ·simp only [hcL] at hc7
    refine Ab (Z 8 rfl ?_)
    simp only [go_sem, simprocAttr, tAm, Br, AM, Bs, Fg, AL, h2, hC, <- hCe]
    refine Ak (hQ _ _ (.inl rfl) ?_ ?_ ?_) <;> simp only [go_sem, simprocAttr, Am]
    exact ⟨(0, er), rfl, fun e => absurd e hc7⟩
   simp only [hcL] at hc7
   refine Aj ?_
   refine Z 9 rfl ?_
   simp only [go_sem, simprocAttr, tAm, Br, AM, Bs, Fg, AL, h2, hC, <- hCe]
   refine hKC5 (pe) _ ?_ ?_
   ·(try dsimp only); exact ⟨o1, o2⟩
   exact leM
  simp only [hcL] at hc5
  refine Aj ?_
  refine hKC5 (0) _ ?_ ?_
  ·(try dsimp only); exact ⟨by decide, by decide⟩
  exact leM
 rintro p hp
 have hAp : ApP (am, p) := ⟨f1, Fq (by omega) (by omega), Fq (by omega) (by omega)⟩
 have hAb := AeL _ hAp
 obtain ⟨⟨am2, e2⟩, hA2⟩ : ∃ x, x = fAp (am, p) := ⟨_, rfl⟩
 rw [<- hA2] at hAb
 refine Ab (Z 10 rfl ?_)
 simp only [go_sem, simprocAttr, hAp, <- hA2, tAm, Br, AM, Bs, Fg, AL, h2, hC, <- hCe]
 and_intros <;> try exact sdA
 refine Ab (Ab (Z 11 rfl ?_))
 simp only [go_sem, simprocAttr, tAm, Br, AM, Bs, Fg, AL, h2, hC, <- hCe]
 refine Ag rfl (fun hc11 => ?_) fun hc11 => ?_
 ·simp only [hcL] at hc11
  refine Ab (Z 12 rfl ?_)
  simp only [go_sem, simprocAttr, tAm, Br, AM, Bs, Fg, AL, h2, hC, <- hCe]
  refine Ak (hQ _ _ (.inl rfl) ?_ ?_ ?_) <;> simp only [go_sem, simprocAttr, Am]
  exact ⟨(0, e2), rfl, fun e => absurd e hc11⟩
 simp only [hcL] at hc11
 refine Aj ?_
 have hAb2 : 0 <= am2 /\ am2 <= 1099511627776 := hAb (by simpa using hc11)
 obtain ⟨⟨⟨a1, ⟨c1, c2, c3, c4, ⟨x, y, z⟩, t⟩, a3, a4, a5, a6, a7, a8⟩, bb⟩, hR⟩ : ∃ y, y = fRl (⟨fs, rs, gs, xs⟩, ru) := ⟨_, rfl⟩
 have hro := Ur h2 ru
 have hrp := Ajv h2 h3 ru
 rw [<- hR] at hro hrp
 have hi2 : inI am2 := Fq (by omega) (by omega)
 have hPy : PyP (⟨a1, .mk c1 c2 c3 c4 ⟨x, y, z⟩ t, a3, a4, a5, a6, a7, a8⟩, u, am2) := ⟨hro, hrp, hAb2.1, hi2⟩
 refine Ab (Z 13 rfl ?_)
 simp only [go_sem, simprocAttr, <- hR, Rule.enc_at, tAm, Br, AM, Bs, Fg, AL, h2, hC, <- hCe]
 and_intros <;> try exact sdA
 refine Ab (Z 14 rfl ?_)
 simp only [go_sem, simprocAttr, hPy, Ajd, tAm, Br, AM, Bs, Fg, AL, h2, hC, <- hCe]
 and_intros <;> try exact sdA
 refine Ak (hQ _ _ (.inl rfl) ?_ ?_ ?_) <;> simp only [go_sem, simprocAttr, Am]
 exact ⟨_, rfl, Ajc _ hPy⟩
def fAm : Places × Tariff × Int × List Want × List UInt8 -> Int × Int := RQ.choose
theorem AeF : ∀ x, AmP x -> RAm x (fAm x) := RQ.choose_spec.1
theorem AeH : PU 49 (gOf aAm fun x => (AmP x, Am (fAm x))) := RQ.choose_spec.2
theorem AeG (ps : List Airport) (ds : List Distance) (a : List Fare) (b : List Rule) (c : List Routing) (d : List Tax) (k : Int) (W : List Want) (u : List UInt8) : gOf aAm (fun x => (AmP x, Am (fAm x))) [.agg [.list (ps.map Airport.enc) false, .list (ds.map Distance.enc) false], .agg [.list (a.map Fare.enc) false, .list (b.map Rule.enc) false, .list (c.map Routing.enc) false, .list (d.map Tax.enc) false], .int .i64 k, .list (W.map Want.enc) false, .str u] = (AmP (⟨ps, ds⟩, ⟨a, b, c, d⟩, k, W, u), .tup [.int .i64 (fAm (⟨ps, ds⟩, ⟨a, b, c, d⟩, k, W, u)).1, .int .i64 (fAm (⟨ps, ds⟩, ⟨a, b, c, d⟩, k, W, u)).2]) := Al (F := fun x => (AmP x, Am (fAm x))) VE (⟨ps, ds⟩, ⟨a, b, c, d⟩, k, W, u)
def Dm := ar (vg Tariff.enc) (ao (vl Part.enc))
theorem LW : Ij Dm := ijr (ijg Tariff.inj) (ijo (ijl Part.inj))
def HN (t : Tariff) (l : List Part) : Prop := ∀ p ∈ l, 0 <= p.fare /\ p.fare < t.fares.length
def KnP (x : Tariff × List Part) : Prop := x.1.fares.length <= 1000000 /\ x.2.length <= 1000000
def RKn (x : Tariff × List Part) (b : Bool) : Prop := b = true -> HN x.1 x.2
theorem TG : ∃ F : Tariff × List Part -> Bool, (∀ x, KnP x -> RKn x (F x)) /\ PU 109 (gOf Dm fun x => (KnP x, vBB (F x))) := by
 have hG := AH
 refine Sx.p (val := vBB) (R := RKn) LW (by simp [Dm]) ?_
 rintro ⟨⟨fs, rs, gs, xs⟩, l⟩ hv Q hQ
 have Y := Sx.E EF0 hG mixed
 have Z := Sx.T EF0 hG
 obtain ⟨h1, h2⟩ : fs.length <= 1000000 /\ l.length <= 1000000 := hv
 refine Ab (Z 0 rfl ?_)
 simp only [go_sem, simprocAttr, Dm, Tariff.enc]
 refine Ab (Ab (Z 1 rfl ?_))
 simp only [go_sem, simprocAttr]
 refine Au ?_
 refine Bg (α := Nat) (fun i => (i <= l.length) /\ (HN ⟨fs, rs, gs, xs⟩ (l.take i))) (fun i => ⟨mkE [(1, V.list (List.map Part.enc l) false), (2, V.ptr 2 0), (5, .int .i64 i)], mkH [(2, Ob.box 31 [V.list (List.map Fare.enc fs) false, V.list (List.map Rule.enc rs) false, V.list (List.map Routing.enc gs) false, V.list (List.map Tax.enc xs) false])]⟩) (fun i => l.length - i) 0 ⟨Ar _, fun p hp => nomatch hp⟩ ?_ ?_
 ·exact leM
 rintro i ⟨hi, hk⟩ KL0 hKL0
 try dsimp only at *
 refine Ab (Ab (Z 2 rfl ?_))
 simp only [go_sem, simprocAttr, Ac]
 refine Ag rfl (fun hc2 => ?_) fun hc2 => ?_
 ·simp only [hcL] at hc2
  refine Aj ?_
  refine Ab (Au ?_)
  obtain ⟨⟨pf, pt, pr, pa⟩, hp⟩ : ∃ p, p = l[i] := ⟨_, rfl⟩
  refine Ab (Y 4 rfl (by kernel_rfl) ?_)
  simp only [go_sem, simprocAttr, Ap _ _ _ _ hc2, hc2, Ac, <- hp, Part.enc]
  and_intros <;> try exact sdA
  refine Ag rfl (fun hb4 => ?_) fun hb4 => ?_
  ·refine Ab (Z 5 rfl ?_)
   simp only [go_sem, simprocAttr]
   refine Ak (hQ _ _ (.inl rfl) ?_ ?_ ?_) <;> simp only [go_sem, simprocAttr, vBB]
   exact ⟨false, rfl, fun e => by cases e⟩
  simp only [Ce, decide_eq_false_iff_not] at hb4
  refine Aj ?_
  refine Z 3 rfl ?_
  simp only [go_sem, simprocAttr, inI]
  and_intros <;> try exact sdA
  refine hKL0 (i + 1) _ ?_ ?_ ?_
  ·(try dsimp only); exact ⟨hc2, LM hk hc2 (by rw [<- hp]; exact ⟨show 0 <= pr by omega, show pr < fs.length by omega⟩)⟩
  ·(try dsimp only); omega
  exact leM
 simp only [hcL] at hc2
 rw [Bu hc2] at hk
 refine Bc ?_
 simp only [go_sem, simprocAttr]
 refine Ab (Z 6 rfl ?_)
 simp only [go_sem, simprocAttr]
 refine Ak (hQ _ _ (.inl rfl) ?_ ?_ ?_) <;> simp only [go_sem, simprocAttr, vBB]
 exact ⟨true, rfl, fun _ => hk⟩
def IQ : Tariff × List Part -> Bool := TG.choose
theorem Abj : ∀ x, KnP x -> RKn x (IQ x) := TG.choose_spec.1
theorem Abk : PU 109 (gOf Dm fun x => (KnP x, vBB (IQ x))) := TG.choose_spec.2
theorem CD (a : List Fare) (b : List Rule) (c : List Routing) (d : List Tax) (l : List Part) : gOf Dm (fun x => (KnP x, vBB (IQ x))) [.agg [.list (a.map Fare.enc) false, .list (b.map Rule.enc) false, .list (c.map Routing.enc) false, .list (d.map Tax.enc) false], .list (l.map Part.enc) false] = (KnP (⟨a, b, c, d⟩, l), .bool (IQ (⟨a, b, c, d⟩, l))) := Al (F := fun x => (KnP x, vBB (IQ x))) LW (⟨a, b, c, d⟩, l)
def Jx := ar (vl Two.enc) (ao vi)
theorem Wm : Ij Jx := ijr (ijl Two.inj) (ijo iji)
def PrP (x : List Two × Int) : Prop := x.1.length <= 1000000
theorem Ab4 : ∃ F : List Two × Int -> Bool, (∀ x, PrP x -> RT x (F x)) /\ PU 110 (gOf Jx fun x => (PrP x, vBB (F x))) := by
 have hG := AH
 refine YB.p (val := vBB) (R := RT) Wm (by simp [Jx]) ?_
 rintro ⟨l, n⟩ hv Q hQ
 have Z := YB.T EF0 hG
 have h1 : l.length <= 1000000 := hv
 refine Ab (Z 0 rfl ?_)
 simp only [go_sem, simprocAttr, Jx]
 refine Ab (Ab (Z 1 rfl ?_))
 simp only [go_sem, simprocAttr]
 refine Au ?_
 refine Bg (α := Nat) (fun i => (i <= l.length)) (fun i => ⟨mkE [(0, V.list (List.map Two.enc l) false), (1, V.int IntKind.i64 n), (5, .int .i64 i)], mkH []⟩) (fun i => l.length - i) 0 (Ar _) ?_ ?_
 ·exact leM
 rintro i hi KL0 hKL0
 try dsimp only at *
 refine Ab (Ab (Z 2 rfl ?_))
 simp only [go_sem, simprocAttr, Ac]
 refine Ag rfl (fun hc2 => ?_) fun hc2 => ?_
 ·simp only [hcL] at hc2
  refine Aj ?_
  refine Ab (Au ?_)
  obtain ⟨⟨pa, pb⟩, hp⟩ : ∃ p, p = l[i] := ⟨_, rfl⟩
  refine Ab (Z 4 rfl ?_)
  simp only [go_sem, simprocAttr, Ap _ _ _ _ hc2, hc2, Ac, <- hp, Two.enc]
  and_intros <;> try exact sdA
  refine Ag rfl (fun hc4 => ?_) fun hc4 => ?_
  ·simp only [hcL] at hc4
   refine Ab (Z 5 rfl ?_)
   simp only [go_sem, simprocAttr]
   refine Ak (hQ _ _ (.inl rfl) ?_ ?_ ?_) <;> simp only [go_sem, simprocAttr, vBB]
   exact ⟨_, rfl, trivial⟩
  simp only [hcL] at hc4
  refine Aj ?_
  refine Z 3 rfl ?_
  simp only [go_sem, simprocAttr, inI]
  and_intros <;> try exact sdA
  refine hKL0 (i + 1) _ ?_ ?_ ?_
  ·(try dsimp only); exact hc2
  ·(try dsimp only); omega
  exact leM
 simp only [hcL] at hc2
 refine Bc ?_
 simp only [go_sem, simprocAttr]
 refine Ab (Z 6 rfl ?_)
 simp only [go_sem, simprocAttr]
 refine Ak (hQ _ _ (.inl rfl) ?_ ?_ ?_) <;> simp only [go_sem, simprocAttr, vBB]
 exact ⟨_, rfl, trivial⟩
def Mp : List Two × Int -> Bool := Ab4.choose
theorem Ab3 : PU 110 (gOf Jx fun x => (PrP x, vBB (Mp x))) := Ab4.choose_spec.2
theorem DF (l : List Two) (n : Int) : gOf Jx (fun x => (PrP x, vBB (Mp x))) [.list (l.map Two.enc) false, .int .i64 n] = (PrP (l, n), .bool (Mp (l, n))) := Al (F := fun x => (PrP x, vBB (Mp x))) Wm (l, n)
def aFF := ar (vg Fare.enc) (ao (vg Fare.enc))
theorem VL : Ij aFF := ijr (ijg Fare.inj) (ijo (ijg Fare.inj))
theorem Acx : ∃ F : Fare × Fare -> Bool, (∀ x, True -> RT x (F x)) /\ PU 170 (gOf aFF fun x => (True, vBB (F x))) := by
 have hG := AH
 refine Zn.p (val := vBB) (R := RT) VL (by simp [aFF]) ?_
 rintro ⟨⟨ca, fr, to, ba, cl, rd, am, ru, rg⟩, ⟨ca2, fr2, to2, ba2, cl2, rd2, am2, ru2, rg2⟩⟩ hv Q hQ
 have Z := Zn.T EF0 hG
 refine Ab (Z 0 rfl ?_)
 simp only [go_sem, simprocAttr, aFF, Fare.enc]
 refine Ab (Z 1 rfl ?_)
 simp only [go_sem, simprocAttr]
 and_intros <;> try exact sdA
 refine Ak (hQ _ _ (.inl rfl) ?_ ?_ ?_) <;> simp only [go_sem, simprocAttr, vBB]
 exact ⟨_, rfl, trivial⟩
def Lf : Fare × Fare -> Bool := Acx.choose
theorem AjN : PU 170 (gOf aFF fun x => (True, vBB (Lf x))) := Acx.choose_spec.2
theorem AjM (a b : Fare) : gOf aFF (fun x => (True, vBB (Lf x))) [.agg a.enc, .agg b.enc] = (True, .bool (Lf (a, b))) := Al (F := fun x => (True, vBB (Lf x))) VL (a, b)
theorem LF (ca fr to ba cl : List UInt8) (rd : Bool) (am ru rg : Int) (ca2 fr2 to2 ba2 cl2 : List UInt8) (rd2 : Bool) (am2 ru2 rg2 : Int) : gOf aFF (fun x => (True, vBB (Lf x))) [.agg [.str ca, .str fr, .str to, .str ba, .str cl, .bool rd, .int .i64 am, .int .i64 ru, .int .i64 rg], .agg [.str ca2, .str fr2, .str to2, .str ba2, .str cl2, .bool rd2, .int .i64 am2, .int .i64 ru2, .int .i64 rg2]] = (True, .bool (Lf (⟨ca, fr, to, ba, cl, rd, am, ru, rg⟩, ⟨ca2, fr2, to2, ba2, cl2, rd2, am2, ru2, rg2⟩))) := AjM ⟨ca, fr, to, ba, cl, rd, am, ru, rg⟩ ⟨ca2, fr2, to2, ba2, cl2, rd2, am2, ru2, rg2⟩
def aPn := ar (vg Tariff.enc) (ar (vl Part.enc) (ar (vl Two.enc) (ao vi)))
theorem Wl : Ij aPn := ijr (ijg Tariff.inj) (ijr (ijl Part.inj) (ijr (ijl Two.inj) (ijo iji)))
structure PnP (x : Tariff × List Part × List Two × Int) : Prop where
 f : x.1.fares.length <= 1000000
 l : x.2.1.length <= 1000000
 k : HN x.1 x.2.1
 q : x.2.2.1.length <= 1000000
 i : 0 <= x.2.2.2 /\ x.2.2.2 < x.2.1.length
def RPn (x : Tariff × List Part × List Two × Int) (y : Int) : Prop := y < x.2.1.length
def tPn : Tab
 | 110 => (gOf Jx fun x => (PrP x, vBB (Mp x)))
 | 170 => (gOf aFF fun x => (True, vBB (Lf x)))
 | _ => gNo
theorem Ama : ∀ f, PU f (tPn f) := fun f => by
 unfold tPn
 split
 ·exact Ab3
 ·exact AjN
 ·exact Ah.no
theorem Uc : ∃ F : Tariff × List Part × List Two × Int -> Int, (∀ x, PnP x -> RPn x (F x)) /\ PU 111 (gOf aPn fun x => (PnP x, vII (F x))) := by
 have hG := Ama
 refine Sy.p (val := vII) (R := RPn) Wl (by simp [aPn]) ?_
 rintro ⟨⟨fs, rs, gs, xs⟩, l, q, n⟩ hv Q hQ
 have Y := Sy.E EF0 hG mixed
 have Z := Sy.T EF0 hG
 obtain ⟨h1, h2, h3, h4, h5, h6⟩ : PnP (⟨fs, rs, gs, xs⟩, l, q, n) := hv
 dsimp only at h1 h2 h4 h5 h6
 have hq : ∀ k, PrP (q, k) := fun _ => h4
 obtain ⟨m, hm⟩ : ∃ m : Nat, n + 1 = m := ⟨(n + 1).toNat, by omega⟩
 have hn : n.toNat < l.length := by omega
 obtain ⟨⟨pf, pt, pr, pa⟩, hp⟩ : ∃ p, p = l[n.toNat] := ⟨_, rfl⟩
 have hpk := h3 _ (AF hn)
 rw [<- hp] at hpk
 obtain ⟨p1, p2⟩ : 0 <= pr /\ pr < fs.length := hpk
 have hpF : pr.toNat < fs.length := by omega
 obtain ⟨⟨ca, fr, to, ba, cl, rd, am, ru, rg⟩, hf⟩ : ∃ f, f = fs[pr.toNat] := ⟨_, rfl⟩
 refine Ab (Z 0 rfl ?_)
 simp only [go_sem, simprocAttr, aPn, Tariff.enc, tPn, DF, LF, hq]
 refine Ab (Ab (Z 1 rfl ?_))
 simp only [go_sem, simprocAttr, inI, hm, tPn, DF, LF, hq]
 and_intros <;> try exact sdA
 refine Au ?_
 refine Bg (α := Nat) (fun i => (m <= i) /\ (i <= l.length)) (fun i => ⟨mkE [(1, V.list (List.map Part.enc l) false), (2, V.list (List.map Two.enc q) false), (3, V.int IntKind.i64 n), (4, V.ptr 4 0), (9, .int .i64 i)], mkH [(4, Ob.box 31 [V.list (List.map Fare.enc fs) false, V.list (List.map Rule.enc rs) false, V.list (List.map Routing.enc gs) false, V.list (List.map Tax.enc xs) false])]⟩) (fun i => l.length - i) m ⟨Az _, by omega⟩ ?_ ?_
 ·exact leM
 rintro i ⟨hi, hi2⟩ KL0 hKL0
 try dsimp only at *
 refine Ab (Ab (Z 2 rfl ?_))
 simp only [go_sem, simprocAttr, Ac, tPn, DF, LF, hq]
 refine Ag rfl (fun hc2 => ?_) fun hc2 => ?_
 ·simp only [hcL] at hc2
  refine Aj ?_
  refine Ab (Au ?_)
  obtain ⟨⟨pf2, pt2, pr2, pa2⟩, hp2⟩ : ∃ p, p = l[i] := ⟨_, rfl⟩
  have hpk2 := h3 _ (AF hc2)
  rw [<- hp2] at hpk2
  obtain ⟨p3, p4⟩ : 0 <= pr2 /\ pr2 < fs.length := hpk2
  have hpF2 : pr2.toNat < fs.length := by omega
  obtain ⟨⟨ca2, fr2, to2, ba2, cl2, rd2, am2, ru2, rg2⟩, hf2⟩ : ∃ f, f = fs[pr2.toNat] := ⟨_, rfl⟩
  refine Ab (Y 4 rfl (by kernel_rfl) ?_)
  simp only [go_sem, simprocAttr, Ap _ _ _ _ hc2, Ap _ _ _ _ hn, Ap _ _ _ _ hpF, Ap _ _ _ _ hpF2, hc2, hn, hpF, hpF2, Ac, <- hp, <- hp2, <- hf, <- hf2, Part.enc, Fare.enc, p1, p2, p3, p4, h5, h6, Du, tPn, DF, LF, hq]
  and_intros <;> try exact sdA
  refine Ag rfl (fun hc4 => ?_) fun hc4 => ?_
  ·simp only [hcL] at hc4
   refine Ab (Z 5 rfl ?_)
   simp only [go_sem, simprocAttr, tPn, DF, LF, hq]
   refine Ak (hQ _ _ (.inl rfl) ?_ ?_ ?_) <;> simp only [go_sem, simprocAttr, vII]
   exact ⟨(i : Int), rfl, show (i : Int) < l.length by omega⟩
  simp only [hcL] at hc4
  refine Aj ?_
  refine Z 3 rfl ?_
  simp only [go_sem, simprocAttr, inI, tPn, DF, LF, hq]
  and_intros <;> try exact sdA
  refine hKL0 (i + 1) _ ?_ ?_ ?_
  ·(try dsimp only); exact ⟨by omega, hc2⟩
  ·(try dsimp only); omega
  exact leM
 simp only [hcL] at hc2
 refine Bc ?_
 simp only [go_sem, simprocAttr]
 refine Ab (Z 6 rfl ?_)
 simp only [go_sem, simprocAttr, tPn, DF, LF, hq]
 refine Ak (hQ _ _ (.inl rfl) ?_ ?_ ?_) <;> simp only [go_sem, simprocAttr, vII]
 exact ⟨-1, rfl, show (-1 : Int) < l.length by omega⟩
def fPn : Tariff × List Part × List Two × Int -> Int := Uc.choose
theorem AiW : ∀ x, PnP x -> RPn x (fPn x) := Uc.choose_spec.1
theorem AiX : PU 111 (gOf aPn fun x => (PnP x, vII (fPn x))) := Uc.choose_spec.2
theorem FW (a : List Fare) (b : List Rule) (c : List Routing) (d : List Tax) (l : List Part) (q : List Two) (n : Int) : gOf aPn (fun x => (PnP x, vII (fPn x))) [.agg [.list (a.map Fare.enc) false, .list (b.map Rule.enc) false, .list (c.map Routing.enc) false, .list (d.map Tax.enc) false], .list (l.map Part.enc) false, .list (q.map Two.enc) false, .int .i64 n] = (PnP (⟨a, b, c, d⟩, l, q, n), .int .i64 (fPn (⟨a, b, c, d⟩, l, q, n))) := Al (F := fun x => (PnP x, vII (fPn x))) Wl (⟨a, b, c, d⟩, l, q, n)
end Go.Proofs.YtjkclhbckfkeeaaGreatDoor
end
