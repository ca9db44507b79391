import Derived.Test.YtjkclhbckfkeeaaGreatDoorAv10
set_option linter.unusedSimpArgs false
set_option linter.unusedVariables false
set_option linter.deprecated false
namespace Go.Proofs.YtjkclhbckfkeeaaGreatDoor
open Go Go.RowKit
def Jw (P : Program) (f : Nat) : Prop := ∃ fn, P.funcs[f]? = some fn /\ fn.body.isNone = false /\ (fn.name == "runtime.NumGoroutine") = false
def Aj (P : Program) (U : Tbl) (f : Nat) (g : List V -> Prop × V) : Prop :=
 ∀ (vs : List V) (M : Nat -> Prop) (w : World) (cargs : Array Value), (g vs).1 -> Jw P f /\ ( U.B w -> (∀ b, U.T b -> M b) -> cargs.size = vs.length -> (∀ b, M b -> b < w.heap.size) -> (∀ (i : Nat) (v : V), vs[i]? = some v -> Pur M w v (cargs.getD i undef)) ->
  Calls P f cargs w fun e w' => ∃ (cv : Value) (M' : Nat -> Prop), e = .returned cv /\ Pur M' w' (g vs).2 cv /\ (∀ b, M b -> M' b) /\ (∀ b, M' b -> b < w'.heap.size) /\ (∀ b, b < w.heap.size -> M' b -> M b) /\ Below w.heap.size w w')
section
variable {P : Program} {U : Tbl} {C : Ctx U} {h : Nat -> Option Ob} {w : World} {M : Nat -> Prop} {ι : Nat -> Value} {o : Oper} {a : Act} {E : AE -> V} {G : Tab} {d : Nat}
theorem Pur.leaf {w' : World} {M' : Nat -> Prop} {v : V} {cv : Value} (hl : v.leaf = true) (hp : Pur M w v cv) : Pur M' w' v cv := by
 cases v with
 | bool b => cases hp; exact .bool b
 | int k n => cases hp; exact .int k n
 | str s => cases hp; exact .str s
 | tup vs =>
  cases hp with
  | tup _ cs hs hv =>
   refine .tup vs cs hs (fun i v hi => ?_)
   have h1 := Ch.1 hl v (Bk hi)
   have h2 := hv i v hi
   generalize cs.getD i undef = c at h2 ⊢
   cases v <;> first | (simp [V.leaf1] at h1; done) | (cases h2; constructor)
 | _ => simp [V.leaf] at hl
theorem Aj4 {t e : TypeId} {n : Nat} {x0 i0 : Operand} {x i : AE} {ag : Bool} {sz : Nat} (ho : o.op = .index t x0 i0) (ht : P.underlying t = some (.array n e)) (hag : BM P e = some ag) (hs : szT P e = some sz)
  (hm : Mem C h w M ι) (hx : Rel M w ι h (E x) (a.eval x0)) (hi : Rel M w ι h (E i) (a.eval i0)) : Sim P G C h w M ι o a E d (.idxv ag sz n x i) := by
 unfold Sim At OX
 dsimp only
 split
 ·rename_i vs q e1 e2
  rw [e1] at hx
  rw [e2] at hi
  obtain ⟨cs, e, hl, h1, hr⟩ := hx.agg_inv
  cases ag
  ·intro hφ
   replace hφ : 0 <= q /\ q < n /\ q.toNat * sz < vs.length := hφ
   obtain ⟨q0, q1, q2⟩ := hφ
   have hc := Nk (cs := cs) (k := q.toNat * sz) (by omega)
   refine .run (cv := cs.getD (q.toNat * sz) undef) (w' := w) ?_ (Ay.same (v := vs.getD (q.toNat * sz) .any) hm (hr _ (vs.getD (q.toNat * sz) .any) (En .any q2)))
   simp only [execOp, ho, e, hi.int_inv, Instr.index, asIntOf, AA, run_underlying ht, AK, Bb, part, HK hag, run_sizeOf hs, hc, q0, q1, and_self, if_true]
   rfl
  ·intro hφ
   replace hφ : 0 <= q /\ q < n /\ q.toNat * sz + sz <= vs.length := hφ
   obtain ⟨q0, q1, q2⟩ := hφ
   generalize hof : q.toNat * sz = off at q2
   refine .run (cv := .agg (cs.extract off (off + sz))) (w' := w) ?_ (Ay.same hm ?_)
   ·simp only [execOp, ho, e, hi.int_inv, Instr.index, asIntOf, AA, run_underlying ht, AK, Bb, part, HK hag, run_sizeOf hs, q0, q1, and_self, if_true, hof]
   ·simp only [if_true]
    refine .agg _ _ ?_ ?_ ?_
    ·simp only [BJ, BW, Array.size_extract]; omega
    ·intro c hc
     refine h1 c ?_
     rw [Array.toList_extract, List.extract_eq_take_drop] at hc
     exact Fb (EG hc)
    ·intro i v hi
     have hin : i < sz := by have := (BQ.1 hi).1; rw [BJ] at this; omega
     rw [Ir hin, Jl] at hi
     have := hr _ v hi
     have e2 : (cs.extract off (off + sz)).getD i undef = cs.getD (off + i) undef := by
      simp only [Iq, Array.getElem?_extract]
      rw [if_pos (by omega)]
     rw [e2]
     exact this
 ·exact fun hφ => hφ.elim
theorem NN : ∀ {l : List Operand} {r : List AE}, l.mapM trE = some r -> r.length = l.length
 | [], r, hr => by simp at hr; subst hr; rfl
 | q :: l, r, hr => by
  rw [Ix] at hr
  cases h1 : trE q with
  | none => rw [h1] at hr; cases hr
  | some y =>
   rw [h1] at hr
   cases h2 : l.mapM trE with
   | none => rw [h2] at hr; cases hr
   | some r' =>
    rw [h2] at hr
    have : y :: r' = r := Ha hr
    subst this
    simp [NN h2]
def Oj (h : Nat -> Option Ob) (ι : Nat -> Value) (M : Nat -> Prop) : Nat -> Prop := fun b => M b \/ ∃ n t sz rows, h n = some (.arr t sz rows) /\ blk (ι n) = some b
theorem AnP (hm : Mem C h w M ι) : ∀ b, Oj h ι M b -> b < w.heap.size := by
 rintro b (hb | ⟨n, t, sz, rows, hn, hb⟩)
 ·exact hm.lt b hb
 ·exact hm.blt n b (by rw [hn]; rfl) hb
theorem Mem.vw_list (hm : Mem C h w M ι) {n off len cap0 cap g : Nat} {t : TypeId} {sz : Nat} {rows : List (List V)} {fit : Bool} {ad : Addr} (hn : h n = some (.arr t sz rows)) (hp : ∀ r ∈ rows, V.purs r = true) (hg : ι n = .slice (some ⟨g, 0, none⟩) rows.length cap0) (hle : off + len <= rows.length) (hlc : len <= cap) (hf : fit = true -> cap = len) (ha : 0 < len -> ad = ⟨g, off * sz, none⟩)
  {M' : Nat -> Prop} (hM : ∀ b, M b -> M' b) (hb : M' g) : Pur M' w (.list ((rows.drop off).take len) fit) (.slice (some ad) len cap) := by
 have hl : ((rows.drop off).take len).length = len := by rw [BJ, BW]; omega
 obtain ⟨xs, hown, hrl, hx1, hxr⟩ := hm.obj n _ hn
 have key : Pur M' w (.list ((rows.drop off).take len) fit) (.slice (some ad) ((rows.drop off).take len).length cap) := by
  refine .list _ fit (some ad) cap sz g (off * sz) (fun i j => xs.getD ((off + i) * sz + j) undef) (fun e => by rw [hl]; exact hf e) (by rw [hl]; exact hlc) (fun e => by cases e) ?_ (fun r hr => hrl r (Fb (EG hr))) (fun i j hi hj => ?_) (fun i j r v hi hj => ?_)
  ·by_cases h0 : len = 0
   ·exact .inl (by rw [h0, HA])
   ·exact .inr ⟨by rw [ha (by omega)], hb⟩
  ·rw [hl] at hi
   have hlt : (off + i) * sz + j < xs.length := by
    rw [hown.1]
    have : (off + i) * sz + sz <= rows.length * sz := by rw [<- EI]; exact CB _ (by omega)
    omega
   have hx := En undef hlt
   refine ⟨?_, hx1 _ (Bk hx)⟩
   have := hown.cells (g := g) (by rw [hg]; rfl) _ _ hx
   have e3 : off * sz + i * sz + j = (off + i) * sz + j := by rw [EJ]
   rw [e3]
   rwa [DW, <- Jh, CI] at this
  ·have hi2 : rows[off + i]? = some r := by
    have := BQ.1 hi
    rw [Nu, Jl] at hi
    split at hi
    ·exact hi
    ·cases hi
   exact ((hxr (off + i) j r v hi2 hj).toPur (Gx (hp r (Bk hi2)) hj)).wide hM
 rwa [hl] at key
theorem WL (hm : Mem C h w M ι) {ey : V} {cv : Value} (hr : Rel M w ι h ey cv) (hφ : Fl h ey) : Pur (Oj h ι M) w (Dr h ey) cv := by
 have other : ey.pur = true -> Dr h ey = ey -> Pur (Oj h ι M) w (Dr h ey) cv := fun h1 h2 => by rw [h2]; exact (hr.toPur h1).wide (fun _ hb => .inl hb)
 cases ey with
 | own n len =>
  obtain ⟨t, sz, rows, hn, hle, hv⟩ := hr.own_inv
  simp only [Fl, hn] at hφ
  obtain ⟨hlen, hrp⟩ := hφ
  simp only [Dr, hn, if_pos hlen]
  obtain ⟨xs, hown, hrl, hx1, hxr⟩ := hm.obj n _ hn
  have hcv := hv hlen
  rcases hown.2 with ⟨e, h0⟩ | ⟨g, cap, cur, e, _, hh, hnc, _⟩
  ·have h00 : rows = [] := Hy.1 h0
   subst h00
   rw [hcv, e]
   exact .list [] false none 0 0 0 0 (fun _ _ => undef) (fun e => by cases e) (AF _) (fun _ => rfl) (.inl rfl) (fun r hr => by simp at hr) (fun i j hi _ => absurd hi (Ee _)) (fun i j r v hi => by simp at hi)
  ·rw [hcv, e]
   refine .list rows false (some ⟨g, 0, none⟩) cap sz g 0 (fun i j => xs.getD (i * sz + j) undef) (fun e => by cases e) hnc (fun e => by cases e) (.inr ⟨rfl, .inr ⟨n, t, sz, rows, hn, by rw [e]; rfl⟩⟩) hrl (fun i j hi hj => ?_) (fun i j r v hi hj => ?_)
   ·have hlt : i * sz + j < xs.length := by
     rw [hown.1]
     have : i * sz + sz <= rows.length * sz := by rw [<- EI]; exact CB _ hi
     omega
    have hx := En undef hlt
    refine ⟨?_, hx1 _ (Bk hx)⟩
    have := hown.cells (g := g) (by rw [e]; rfl) _ _ hx
    rwa [DW, <- Jh] at this
   ·exact ((hxr i j r v hi hj).toPur (Gx (hrp r (Bk hi)) hj)).wide (fun _ hb => .inl hb)
 | vw n off len m fit =>
  obtain ⟨t, sz, rows, hn, hle, hb, hv⟩ := hr.vw_inv
  simp only [Fl, hn] at hφ
  obtain ⟨hlen, hrp⟩ := hφ
  simp only [Dr, hn, if_pos hlen]
  obtain ⟨g, cap0, ad, cap, e, hcv, hlc, hf, _, ha⟩ := hv hlen
  rw [hcv]
  exact hm.vw_list hn hrp (by rw [e, hlen]) (by omega) hlc hf (fun h => ha (by omega)) (fun _ hb => .inl hb) (.inr ⟨n, t, sz, rows, hn, by rw [e]; rfl⟩)
 | _ => exact other hφ rfl
theorem WQ {f : Nat} {cargs : Array Value} {vs : List V} {bor : Bool} (hrun : Jw P f -> (execOp a.eval o).run P w = .ok (.enter f cargs) w) (hG : Aj P U f (G f)) (hm : Mem C h w M ι) (hlen : cargs.size = vs.length)
  (hwide : ∀ (i : Nat) (v : V), vs[i]? = some v -> Pur (Oj h ι M) w v (cargs.getD i undef)) (hnb : bor = false -> ∀ (i : Nat) (v : V), vs[i]? = some v -> Pur M w v (cargs.getD i undef)) (p2 : (G f vs).1) (p3 : bor = true -> (G f vs).2.leaf = true) :
  CZ P o a w (Ay C h w M ι h (G f vs).2) := by
 cases bor with
 | true =>
  obtain ⟨he, hc⟩ := hG vs (Oj h ι M) w cargs p2
  refine .call (f := f) (args := cargs) (hrun he) ((hc hm.tb (fun b h => .inl (hm.tm b h)) hlen (AnP hm) hwide).mono ?_)
  rintro e w' ⟨cv, M', rfl, hp, m1, m2, m3, hb⟩
  refine ⟨cv, rfl, M, ι, hm.grow (fun _ h => h) (fun b hb' => Is (hm.lt b hb') hb.size) (fun _ _ h => h) hb, .pur (hp.leaf (p3 rfl)), fun _ h => h, fun b hb' => hb.block b (hm.lt b hb'), Keeps.refl _ _⟩
 | false =>
  obtain ⟨he, hc⟩ := hG vs M w cargs p2
  refine .call (f := f) (args := cargs) (hrun he) ((hc hm.tb hm.tm hlen hm.lt (hnb rfl)).mono ?_)
  rintro e w' ⟨cv, M', rfl, hp, m1, m2, m3, hb⟩
  exact ⟨cv, rfl, M', ι, hm.grow m1 m2 m3 hb, .pur hp, m1, fun b hb' => hb.block b (hm.lt b hb'), Keeps.refl _ _⟩
theorem WK {ey : V} (h1 : ey.isOwn = false) (h2 : Fl h ey) : Dr h ey = ey /\ ey.pur = true := by
 cases ey <;> first | (simp [V.isOwn] at h1; done) | exact ⟨rfl, h2⟩
theorem AjW {f : Nat} {fn : Func} {args0 : Array Operand} {args : List AE} {ats : Array TypeId} (ho : o.op = .call { callee := .value (.func f), args := args0, argTypes := ats }) (hf : P.funcs[f]? = some fn) (hbody : fn.body.isNone = false) (hname : (fn.name == "runtime.NumGoroutine") = false)
  (hargs : args0.toList.mapM trE = some args) (hG : Aj P U f (G f)) (hm : Mem C h w M ι) (hx : ∀ (i : Nat) (y : AE), args[i]? = some y -> Rel M w ι h (E y) ((args0.map a.eval).getD i undef)) : Sim P G C h w M ι o a E d (.call f args) := by
 intro hφ
 obtain ⟨p1, p2, p3⟩ := hφ
 have hlen := NN hargs
 have hrun : (execOp a.eval o).run P w = .ok (.enter f (args0.map a.eval)) w := by
  simp only [execOp, ho, resolve, Deferred.ofValue, Act.eval, AA, Bb, AK, invoke, callFunc, run_program, hf, hname, hbody, Bl, if_false]
  rw [LD, Array.append_empty]
 refine WQ (vs := args.map fun x => Dr h (E x)) (bor := args.any fun x => (E x).isOwn) (fun _ => hrun) hG hm (by simpa using hlen.symm) (fun i v hi => ?_) (fun hb i v hi => ?_) p2 p3
 ·rw [BC] at hi
  obtain ⟨y, hy, rfl⟩ := AY.1 hi
  exact WL hm (hx i y hy) (p1 y (Bk hy))
 ·rw [BC] at hi
  obtain ⟨y, hy, rfl⟩ := AY.1 hi
  have hno : (E y).isOwn = false := by
   cases hc : (E y).isOwn with
   | false => rfl
   | true =>
    have : (args.any fun x => (E x).isOwn) = true := Iv.2 ⟨y, Bk hy, hc⟩
    rw [hb] at this
    cases this
  obtain ⟨b1, b2⟩ := WK hno (p1 y (Bk hy))
  rw [b1]
  exact (hx i y hy).toPur b2
theorem AjX {x0 : Operand} {x : AE} {args0 : Array Operand} {args : List AE} {ats : Array TypeId} (ho : o.op = .call { callee := .value x0, args := args0, argTypes := ats })
  (hargs : args0.toList.mapM trE = some args) (hG : ∀ f, Aj P U f (G f)) (hm : Mem C h w M ι) (hx0 : Rel M w ι h (E x) (a.eval x0)) (hx : ∀ (i : Nat) (y : AE), args[i]? = some y -> Rel M w ι h (E y) ((args0.map a.eval).getD i undef)) : Sim P G C h w M ι o a E d (.callv x args) := by
 unfold Sim At OT
 dsimp only
 generalize hEx : E x = ex at hx0
 cases ex with
 | fn f cap =>
  dsimp only [MK]
  rintro ⟨p1, p0, p2, p3⟩
  obtain ⟨cs, hcv, hcl, hcr⟩ := hx0.fn_inv
  have hlen := NN hargs
  have hsz : (args0.map a.eval).size = args.length := by simpa using hlen.symm
  have hrun : Jw P f -> (execOp a.eval o).run P w = .ok (.enter f (args0.map a.eval ++ cs)) w := by
   rintro ⟨fn, hf, hbody, hname⟩
   simp only [execOp, ho, resolve, Deferred.ofValue, hcv, AA, Bb, AK, invoke, callFunc, run_program, hf, hname, hbody, Bl, if_false]
   rw [LD]
  have hget : ∀ i, (args0.map a.eval ++ cs).getD i undef = if i < args.length then (args0.map a.eval).getD i undef else cs.getD (i - args.length) undef := fun i => by
   simp only [Iq, Array.getElem?_append, hsz]
   split <;> rfl
  refine WQ (vs := (args.map fun y => Dr h (E y)) ++ cap) (bor := args.any fun y => (E y).isOwn) hrun (hG f) hm (by simp only [NA, An, Ac, hsz, hcl]) (fun i v hi => ?_) (fun hb i v hi => ?_) p2 p3
  ·rw [hget]
   by_cases c : i < args.length
   ·rw [if_pos c]
    rw [GY (by simpa using c), BC] at hi
    obtain ⟨y, hy, rfl⟩ := AY.1 hi
    exact WL hm (hx i y hy) (p1 y (Bk hy))
   ·rw [if_neg c]
    rw [GX (by simpa using c), Ac] at hi
    exact ((hcr _ _ hi).toPur (Gx p0 hi)).wide (fun _ hb => .inl hb)
  ·rw [hget]
   by_cases c : i < args.length
   ·rw [if_pos c]
    rw [GY (by simpa using c), BC] at hi
    obtain ⟨y, hy, rfl⟩ := AY.1 hi
    have hno : (E y).isOwn = false := by
     cases hc : (E y).isOwn with
     | false => rfl
     | true =>
      have : (args.any fun x => (E x).isOwn) = true := Iv.2 ⟨y, Bk hy, hc⟩
      rw [hb] at this
      cases this
    obtain ⟨b1, b2⟩ := WK hno (p1 y (Bk hy))
    rw [b1]
    exact (hx i y hy).toPur b2
   ·rw [if_neg c]
    rw [GX (by simpa using c), Ac] at hi
    exact (hcr _ _ hi).toPur (Gx p0 hi)
 | _ => exact fun hφ => hφ.2.elim
end
section
variable {P : Program} {U : Tbl} {C : Ctx U} {h : Nat -> Option Ob} {w : World} {M : Nat -> Prop} {ι : Nat -> Value} {o : Oper} {a : Act} {E : AE -> V} {G : Tab} {d : Nat}
theorem Aj8 {f : Nat} {caps : Array Operand} {cs : List AE} (ho : o.op = .makeFunc (.func f) #[] caps) (hc : caps.toList.mapM trE = some cs) (hm : Mem C h w M ι) (hx : ∀ (i : Nat) (y : AE), cs[i]? = some y -> Rel M w ι h (E y) ((caps.map a.eval).getD i undef)) : Sim P G C h w M ι o a E d (.mkfn f cs) := by
 intro _
 have hlen := NN hc
 refine .run (cv := .func (.func f) #[] (caps.map a.eval)) (w' := w) ?_ (Ay.same hm (.fn f _ _ (by simpa using hlen) (fun i v hi => ?_)))
 ·simp [execOp, ho, Instr.makeFunc]
 ·rw [BC] at hi
  obtain ⟨y, hy, rfl⟩ := AY.1 hi
  exact hx i y hy
theorem AjY {src dst : TypeId} {k ks : IntKind} {x0 : Operand} {x : AE} (ho : o.op = .convert src dst x0) (hs : P.underlying src = some (.int ks)) (hd : P.underlying dst = some (.int k)) (hm : Mem C h w M ι) (hx : Rel M w ι h (E x) (a.eval x0)) : Sim P G C h w M ι o a E d (.conv k x) := by
 unfold Sim At OU
 dsimp only
 generalize hEx : E x = ex at hx
 cases ex with
 | int k0 n =>
  intro hφ
  refine .run (cv := .int k n) (w' := w) ?_ (Ay.same hm (.pur (.int _ _)))
  have e : k.wrap n = n := hφ
  simp [execOp, ho, hx.int_inv, convert, run_underlying hs, run_underlying hd, Conv.intToInt, e]
 | _ => exact fun hφ => hφ.elim
theorem Ab3 (w : World) (src dst e : TypeId) (p : Option Addr) (c : Nat) (hs : P.underlying src = some (.slice e)) (he : P.underlying e = some (.int .u8)) (hd : P.underlying dst = some .string) :
  (convert src dst (.slice p 0 c)).run P w = .ok (.string ⟨([] : List UInt8).toArray⟩) w := by
 rw [run_convert_bytes_string w src dst e _ 0 c hs he hd]
 cases p <;> simp [Conv.bytesToString, loadCells]
 all_goals rfl
theorem AjZ {src dst : TypeId} {k ks : IntKind} {x0 : Operand} {x : AE} (ho : o.op = .convert src dst x0) (hs : P.underlying src = some (.int ks)) (hd : P.underlying dst = some (.int k)) (hm : Mem C h w M ι) (hx : Rel M w ι h (E x) (a.eval x0)) : Sim P G C h w M ι o a E d (.convw k x) := by
 unfold Sim At OV
 dsimp only
 generalize hEx : E x = ex at hx
 cases ex with
 | int k0 n =>
  intro hφ
  refine .run (cv := .int k (k.wrap n)) (w' := w) ?_ (Ay.same hm (.pur (.int _ _)))
  simp [execOp, ho, hx.int_inv, convert, run_underlying hs, run_underlying hd, Conv.intToInt]
 | _ => exact fun hφ => hφ.elim
theorem Abe : ∀ {rows : List (List V)} {ns : List Int}, Mb rows = some ns -> rows = ns.map fun n => [V.int .u8 n]
 | [], ns, h => by simp only [Mb, BS] at h; subst h; rfl
 | r :: l, ns, h => by
  unfold Mb at h
  split at h
  ·rename_i n ns' h2
   injection h with h
   subst h
   rw [BE, <- Abe h2]
  ·cases h
theorem AjO {src dst e : TypeId} {x0 : Operand} {x : AE} (ho : o.op = .convert src dst x0) (hs : P.underlying src = some (.slice e)) (hd : P.underlying dst = some .string) (he : P.underlying e = some (.int .u8)) (hm : Mem C h w M ι) (hx : Rel M w ι h (E x) (a.eval x0)) : Sim P G C h w M ι o a E d (.b2s x) := by
 unfold Sim At OP
 dsimp only
 generalize hEx : E x = ex at hx
 cases ex with
 | list rows fit =>
  dsimp only
  split
  ·rename_i ns hns
   intro _
   obtain rfl := Abe hns
   cases hx with
   | pur hp =>
   generalize hcv : a.eval x0 = cv at hp
   cases hp with
   | list _ _ aa cap sz g off f hf hcap hn ha hr hc hv =>
    rw [Ac] at hcap hcv
    refine .run (cv := .string ⟨(ns.map fun n => UInt8.ofNat n.toNat).toArray⟩) (w' := w) ?_ (Ay.same hm (.pur (.str _)))
    rcases ha with ha | ⟨rfl, hg⟩
    ·obtain rfl : ns = [] := Nr.1 ha
     have hrun := Ab3 (P := P) w src dst e aa cap hs he hd
     simp only [execOp, ho, hcv, AA, Ax, hrun, AK, Bb]
     rfl
    ·have hrun := run_convert_bytes_arg (P := P) w src e hs he g off ns.length cap ns rfl (fun i hi => ?_) dst hd
     ·simp only [execOp, ho, hcv, AA, hrun, AK, Bb]
      rfl
     ·have hsz : sz = 1 := by
       have := hr [V.int .u8 ns[i]] (Am.2 ⟨_, AI hi, rfl⟩)
       simpa using this.symm
      subst hsz
      obtain ⟨c1, c2⟩ := hc i 0 (by rw [Ac]; exact hi) (by omega)
      have v1 := hv i 0 [V.int .u8 ns[i]] (.int .u8 ns[i]) (by rw [BC, Bm hi]; rfl) rfl
      rw [LP, Fe] at c1
      rw [c1]
      cases hfi : f i 0 with
      | _ => rw [hfi] at v1; cases v1 <;> simp [AS, Bm hi]
  ·exact fun hφ => hφ.elim
 | nils =>
  intro _
  refine .run (cv := .string ⟨([] : List UInt8).toArray⟩) (w' := w) ?_ (Ay.same hm (.pur (.str _)))
  have hrun := Ab3 (P := P) w src dst e none 0 hs he hd
  simp only [execOp, ho, hx.nils_inv, AA, hrun, AK, Bb]
 | _ => exact fun hφ => hφ.elim
theorem AgB (p q : Int) : (if q < p then q else p) = min p q := by rw [Int.min_def]; split <;> split <;> omega
theorem AgA (p q : Int) : (if q > p then q else p) = max p q := by rw [Int.max_def]; split <;> split <;> omega
theorem Akd {x0 y0 : Operand} {x y : AE} {args : Array Operand} {ats : Array TypeId} (ho : o.op = .call { callee := .builtin .min, args, argTypes := ats }) (ha : args = #[x0, y0]) (hm : Mem C h w M ι) (hx : Rel M w ι h (E x) (a.eval x0)) (hy : Rel M w ι h (E y) (a.eval y0)) : Sim P G C h w M ι o a E d (.mn x y) := by
 unfold Sim At Pa
 dsimp only
 split
 ·rename_i p q e1 e2
  rw [e1] at hx; rw [e2] at hy
  intro _
  refine .run (cv := .int .i64 (min p q)) (w' := w) ?_ (Ay.same hm (.pur (.int _ _)))
  simp only [execOp, ho, ha, resolve, invoke, builtin, AA, Bb, AK, List.map_toArray, BE, HC, hx.int_inv, hy.int_inv, Builtin.min_, List.foldlM_cons, List.foldlM_nil, Builtin.min2]
  rw [AgB]
 ·exact fun hφ => hφ.elim
theorem Ake {x0 y0 : Operand} {x y : AE} {args : Array Operand} {ats : Array TypeId} (ho : o.op = .call { callee := .builtin .max, args, argTypes := ats }) (ha : args = #[x0, y0]) (hm : Mem C h w M ι) (hx : Rel M w ι h (E x) (a.eval x0)) (hy : Rel M w ι h (E y) (a.eval y0)) : Sim P G C h w M ι o a E d (.mx x y) := by
 unfold Sim At Pb
 dsimp only
 split
 ·rename_i p q e1 e2
  rw [e1] at hx; rw [e2] at hy
  intro _
  refine .run (cv := .int .i64 (max p q)) (w' := w) ?_ (Ay.same hm (.pur (.int _ _)))
  simp only [execOp, ho, ha, resolve, invoke, builtin, AA, Bb, AK, List.map_toArray, BE, HC, hx.int_inv, hy.int_inv, Builtin.max_, List.foldlM_cons, List.foldlM_nil, Builtin.max2]
  rw [AgA]
 ·exact fun hφ => hφ.elim
theorem Rel.map_inv {n : Nat} {cv : Value} (r : Rel M w ι h (.map n) cv) : ∃ es, h n = some (.mp es) /\ cv = ι n := by
 cases r with
 | pur hp => cases hp
 | map _ es ho _ hv _ => exact ⟨es, ho, hv⟩
theorem Rel.nilm_inv {cv : Value} (r : Rel M w ι h .nilm cv) : cv = .map none := by cases r with | pur hp => cases hp; rfl
theorem AaJ {k : V} {key : Ky} {cv : Value} (r : Rel M w ι h k cv) (hk : Lz k = some key) : BH key cv := by
 unfold Lz at hk
 split at hk
 ·injection hk with hk; subst hk; exact r.str_inv
 ·injection hk with hk; subst hk; exact r.int_inv
 ·injection hk with hk
  subst hk
  obtain ⟨cs, e, hl, _, hv⟩ := r.agg_inv
  have h0 := (hv 0 _ rfl).str_inv
  have h1 := (hv 1 _ rfl).str_inv
  show _ = _
  rw [e]
  congr 1
  apply Array.ext
  ·simpa using hl.symm
  ·intro i hi hi2
   have hi3 : i < 2 := by simpa using hi2
   match i, hi3 with
   | 0, _ => simpa [Array.getD, hi] using h0
   | 1, _ => simpa [Array.getD, hi] using h1
 ·injection hk with hk
  subst hk
  obtain ⟨cs, e, hl, _, hv⟩ := r.agg_inv
  have h0 := (hv 0 _ rfl).str_inv
  have h1 := (hv 1 _ rfl).int_inv
  have h2 := (hv 2 _ rfl).int_inv
  have h3 := (hv 3 _ rfl).str_inv
  show _ = _
  rw [e]
  congr 1
  apply Array.ext
  ·simpa using hl.symm
  ·intro i hi hi2
   have hi3 : i < 4 := by simpa using hi2
   match i, hi3 with
   | 0, _ => simpa [Array.getD, hi] using h0
   | 1, _ => simpa [Array.getD, hi] using h1
   | 2, _ => simpa [Array.getD, hi] using h2
   | 3, _ => simpa [Array.getD, hi] using h3
 ·cases hk
def Jz (P : Program) (kt : TypeId) : Nat -> Prop
 | 0 => P.underlying kt = some .string
 | 1 => P.underlying kt = some (.int .i64)
 | 2 => ∃ e, P.underlying kt = some (.array 2 e) /\ P.underlying e = some .string /\ szT P e = some 1
 | 3 => ∃ fs, P.underlying kt = some (.struct fs) /\ EC P 8 kt = some [.s, .i .i64, .i .i64, .s] /\ ∀ f ∈ fs.toList, (P.underlying f.type = some .string \/ P.underlying f.type = some (.int .i64)) /\ f.offset < 4
 | _ => False
theorem Aai {P : Program} {kt : TypeId} {td : TypeDesc} {kv : Value} {key : Ky} {sm : Ky -> Bool} {w : World} (hkt : P.underlying kt = some td) (hs : ∀ (k' : Ky) (cv' : Value), BH k' cv' -> sm k' = true -> Instr.sameNow td kv cv' = some (decide (k' = key))) (es : List (Ky × V)) (ents : List MapEntry) (hl : es.length = ents.length) (h2 : ∀ p ∈ es, sm p.1 = true)
  (he : ∀ (j : Nat) (p : Ky × V), es[j]? = some p -> ∃ en, ents[j]? = some en /\ BH p.1 en.key) : (Instr.findKey kt kv ents).run P w = .ok ((es.findIdx? fun p => decide (p.1 = key)).map fun j => (0 + j, (ents.getD j default).val)) w := by
 have main : ∀ (es : List (Ky × V)) (ents : List MapEntry) (i : Nat), es.length = ents.length -> (∀ p ∈ es, sm p.1 = true) -> (∀ (j : Nat) (p : Ky × V), es[j]? = some p -> ∃ en, ents[j]? = some en /\ BH p.1 en.key) ->
   Instr.findNow td kv ents i = some ((es.findIdx? fun p => decide (p.1 = key)).map fun j => (i + j, (ents.getD j default).val)) := by
  intro es
  induction es with
  | nil =>
   intro ents i hl _ _
   cases ents with
   | nil => rfl
   | cons _ _ => cases hl
  | cons p es ih =>
   intro ents i hl h2 he
   cases ents with
   | nil => cases hl
   | cons en ents =>
    obtain ⟨en', h1, h3⟩ := he 0 p rfl
    simp only [Fa, BS] at h1
    subst h1
    rw [Instr.findNow, hs _ _ h3 (h2 p (AH ..)), Nv]
    by_cases e : p.1 = key
    ·simp [e]
    ·simp only [e, decide_false]
     rw [ih ents (i + 1) (by simpa using hl) (fun q hq => h2 q (AU _ hq)) (fun j q hj => by
      obtain ⟨en2, g1, g2⟩ := he (j + 1) q (by rw [DM]; exact hj)
      rw [DM] at g1
      exact ⟨en2, g1, g2⟩)]
     simp only [Bl, if_false, Option.map_map, BS]
     congr 1
     funext j
     simp only [LC, LU]
     congr 1
     omega
 unfold Instr.findKey
 rw [AA, run_underlying hkt]
 simp only [AK]
 rw [main es ents 0 hl h2 he]
 rfl
theorem Afz {P : Program} {kt e : TypeId} (h1 : P.underlying kt = some (.array 2 e)) (h2 : P.underlying e = some .string) (h3 : szT P e = some 1) (a b c d : List UInt8) (w : World) :
  (Op.equal kt (.agg #[.string ⟨a.toArray⟩, .string ⟨b.toArray⟩]) (.agg #[.string ⟨c.toArray⟩, .string ⟨d.toArray⟩])).run P w = .ok (decide (a = c) && decide (b = d)) w := by
 have hag : BM P e = some false := by simp [BM, h2]
 have hstr : ∀ (x y : List UInt8), ((⟨x.toArray⟩ : ByteArray) == ⟨y.toArray⟩) = decide (x = y) := fun x y => by
  rw [beq_toListBytes, Qs]
 have heq : ∀ (x y : List UInt8), (Op.equalIn 9999 e (.string ⟨x.toArray⟩) (.string ⟨y.toArray⟩)).run P w = .ok (decide (x = y)) w := fun x y => by
  rw [show (9999 : Nat) = 9998 + 1 from rfl, Op.equalIn, AA, run_underlying h2]
  simp only [AK, Bb, hstr]
 unfold Op.equal
 rw [show Op.maxDepth = 9999 + 1 from rfl, Op.equalIn, AA, run_underlying h1]
 simp only [AK]
 rw [AA, run_sizeOf h3]
 simp only [AK, Std.Legacy.Range.forIn_eq_forIn_range', Std.Legacy.Range.size, Nat.sub_zero, Nat.reduceAdd, Nat.add_one_sub_one, Nat.reduceDiv, List.range'_succ, List.range'_zero, List.forIn_cons, List.forIn_nil]
 cases q1 : decide (a = c) <;> cases q2 : decide (b = d) <;> simp [AA, part, HK hag, heq, q1, q2]
theorem Af3 {P : Program} {kt e : TypeId} (h1 : P.underlying kt = some (.array 2 e)) (h2 : P.underlying e = some .string) (h3 : szT P e = some 1) {kv : Value} {key : Ky} (hk : BH key kv) (s1 : key.kd = 2) {w : World} (es : List (Ky × V)) (ents : List MapEntry) (hl : es.length = ents.length) (hs : ∀ p ∈ es, p.1.kd = 2)
  (he : ∀ (j : Nat) (p : Ky × V), es[j]? = some p -> ∃ en, ents[j]? = some en /\ BH p.1 en.key) : (Instr.findKey kt kv ents).run P w = .ok ((es.findIdx? fun p => decide (p.1 = key)).map fun j => (0 + j, (ents.getD j default).val)) w := by
 cases key with
 | s _ => cases s1
 | i _ => cases s1
 | lg _ _ _ _ => cases s1
 | ss a b =>
 simp only [BH] at hk
 subst hk
 have main : ∀ (es : List (Ky × V)) (ents : List MapEntry) (i : Nat), es.length = ents.length -> (∀ p ∈ es, p.1.kd = 2) -> (∀ (j : Nat) (p : Ky × V), es[j]? = some p -> ∃ en, ents[j]? = some en /\ BH p.1 en.key) ->
   (Instr.findAsking kt (.agg #[.string ⟨a.toArray⟩, .string ⟨b.toArray⟩]) ents i).run P w = .ok ((es.findIdx? fun p => decide (p.1 = .ss a b)).map fun j => (i + j, (ents.getD j default).val)) w := by
  intro es
  induction es with
  | nil =>
   intro ents i hl _ _
   cases ents with
   | nil => rfl
   | cons _ _ => cases hl
  | cons p es ih =>
   intro ents i hl hs he
   cases ents with
   | nil => cases hl
   | cons en ents =>
    obtain ⟨en', g1, g3⟩ := he 0 p rfl
    simp only [Fa, BS] at g1
    subst g1
    have hp := hs p (AH ..)
    obtain ⟨pk, pv⟩ := p
    cases pk with
    | s _ => cases hp
    | i _ => cases hp
    | lg _ _ _ _ => cases hp
    | ss c d =>
    simp only [BH] at g3
    rw [Instr.findAsking, AA, g3, Afz h1 h2 h3, Nv]
    simp only [AK, Ky.ss.injEq]
    by_cases q : c = a /\ d = b
    ·obtain ⟨rfl, rfl⟩ := q
     simp
    ·have q' : (decide (a = c) && decide (b = d)) = false := by
      rw [Bool.and_eq_false_iff, decide_eq_false_iff_not, decide_eq_false_iff_not]
      by_cases qa : a = c
      ·exact .inr fun qb => q ⟨qa.symm, qb.symm⟩
      ·exact .inl qa
     rw [q', decide_eq_false q]
     simp only [Bl, if_false]
     rw [ih ents (i + 1) (by simpa using hl) (fun q hq => hs q (AU _ hq)) (fun j q hj => by
      obtain ⟨en2, g1, g2⟩ := he (j + 1) q (by rw [DM]; exact hj)
      rw [DM] at g1
      exact ⟨en2, g1, g2⟩)]
     simp only [Option.map_map]
     congr 2
     funext j
     simp only [LC, LU]
     congr 1
     omega
 unfold Instr.findKey
 rw [AA, run_underlying h1]
 simp only [AK]
 cases ents with
 | nil =>
  have : es = [] := Hy.1 hl
  subst this
  rfl
 | cons en ents =>
  rw [Instr.findNow, Instr.sameNow]
  ·exact main es (en :: ents) 0 hl hs he
  all_goals (intros; simp_all)
theorem Afy {P : Program} {kt : TypeId} (ht : Jz P kt 3) (a : List UInt8) (n m : Int) (b : List UInt8) (a' : List UInt8) (n' m' : Int) (b' : List UInt8) (w : World) :
  (Op.equal kt (.agg #[.string ⟨a.toArray⟩, .int .i64 n, .int .i64 m, .string ⟨b.toArray⟩]) (.agg #[.string ⟨a'.toArray⟩, .int .i64 n', .int .i64 m', .string ⟨b'.toArray⟩])).run P w = .ok (decide (Ky.lg a n m b = Ky.lg a' n' m' b')) w := by
 obtain ⟨fs, h1, h2, _⟩ := ht
 have hag : BM P kt = some true := by simp [BM, h1]
 have := flat_agg (w := w) (e := 9992) (d := 7) h2 hag (vs := [.str a, .int .i64 n, .int .i64 m, .str b]) (us := [.str a', .int .i64 n', .int .i64 m', .str b']) rfl rfl
 unfold Op.equal
 rw [show Op.maxDepth = 7 + 1 + 9992 from rfl]
 refine this.trans ?_
 congr 1
 simp only [CL, eqV, Ku, Ky.lg.injEq]
 by_cases q1 : a = a' <;> by_cases q2 : n = n' <;> by_cases q3 : m = m' <;> by_cases q4 : b = b' <;> simp [q1, q2, q3, q4]
theorem Af4 {P : Program} {kt : TypeId} (ht : Jz P kt 3) {kv : Value} {key : Ky} (hk : BH key kv) (s1 : key.kd = 3) {w : World} (es : List (Ky × V)) (ents : List MapEntry) (hl : es.length = ents.length) (hs : ∀ p ∈ es, p.1.kd = 3)
  (he : ∀ (j : Nat) (p : Ky × V), es[j]? = some p -> ∃ en, ents[j]? = some en /\ BH p.1 en.key) : (Instr.findKey kt kv ents).run P w = .ok ((es.findIdx? fun p => decide (p.1 = key)).map fun j => (0 + j, (ents.getD j default).val)) w := by
 cases key with
 | s _ => cases s1
 | i _ => cases s1
 | ss _ _ => cases s1
 | lg a n m b =>
 simp only [BH] at hk
 subst hk
 have main : ∀ (es : List (Ky × V)) (ents : List MapEntry) (i : Nat), es.length = ents.length -> (∀ p ∈ es, p.1.kd = 3) -> (∀ (j : Nat) (p : Ky × V), es[j]? = some p -> ∃ en, ents[j]? = some en /\ BH p.1 en.key) ->
   (Instr.findAsking kt (.agg #[.string ⟨a.toArray⟩, .int .i64 n, .int .i64 m, .string ⟨b.toArray⟩]) ents i).run P w = .ok ((es.findIdx? fun p => decide (p.1 = .lg a n m b)).map fun j => (i + j, (ents.getD j default).val)) w := by
  intro es
  induction es with
  | nil =>
   intro ents i hl _ _
   cases ents with
   | nil => rfl
   | cons _ _ => cases hl
  | cons p es ih =>
   intro ents i hl hs he
   cases ents with
   | nil => cases hl
   | cons en ents =>
    obtain ⟨en', g1, g3⟩ := he 0 p rfl
    simp only [Fa, BS] at g1
    subst g1
    have hp := hs p (AH ..)
    obtain ⟨pk, pv⟩ := p
    cases pk with
    | s _ => cases hp
    | i _ => cases hp
    | ss _ _ => cases hp
    | lg a' n' m' b' =>
    simp only [BH] at g3
    rw [Instr.findAsking, AA, g3, Afy ht, Nv]
    simp only [AK]
    by_cases q : Ky.lg a n m b = Ky.lg a' n' m' b'
    ·rw [q]; simp
    ·have q' : ¬ Ky.lg a' n' m' b' = Ky.lg a n m b := fun h => q h.symm
     rw [decide_eq_false q, decide_eq_false q']
     simp only [Bl, if_false]
     rw [ih ents (i + 1) (by simpa using hl) (fun q hq => hs q (AU _ hq)) (fun j q hj => by
      obtain ⟨en2, g1, g2⟩ := he (j + 1) q (by rw [DM]; exact hj)
      rw [DM] at g1
      exact ⟨en2, g1, g2⟩)]
     simp only [Option.map_map]
     congr 2
     funext j
     simp only [LC, LU]
     congr 1
     omega
 unfold Instr.findKey
 obtain ⟨fs, h1, _⟩ := id ht
 rw [AA, run_underlying h1]
 simp only [AK]
 cases ents with
 | nil =>
  have : es = [] := Hy.1 hl
  subst this
  rfl
 | cons en ents =>
  rw [Instr.findNow, Instr.sameNow]
  ·exact main es (en :: ents) 0 hl hs he
  all_goals (intros; simp_all)
theorem Aah {P : Program} {kt : TypeId} {ks : Nat} {key : Ky} {kv : Value} {w : World} (hkt : Jz P kt ks) (hk : BH key kv) (s1 : key.kd = ks) (es : List (Ky × V)) (ents : List MapEntry) (hl : es.length = ents.length) (hs : ∀ p ∈ es, p.1.kd = ks)
  (he : ∀ (j : Nat) (p : Ky × V), es[j]? = some p -> ∃ en, ents[j]? = some en /\ BH p.1 en.key) : (Instr.findKey kt kv ents).run P w = .ok ((es.findIdx? fun p => decide (p.1 = key)).map fun j => (0 + j, (ents.getD j default).val)) w := by
 subst s1
 cases key with
 | s l =>
  refine Aai (sm := fun k => decide (k.kd = 0)) (td := .string) hkt (fun k' cv' h1 h2 => ?_) es ents hl (fun p hp => decide_eq_true (hs p hp)) he
  cases k' with
  | s l' =>
   simp only [BH] at hk h1
   subst hk h1
   simp only [Instr.sameNow, BS]
   rw [beq_toListBytes, Qs]
   by_cases e : l' = l
   ·subst e; simp
   ·simp [e, Ne.symm e]
  | _ => simp [Ky.kd] at h2
 | i n =>
  refine Aai (sm := fun k => decide (k.kd = 1)) (td := .int .i64) hkt (fun k' cv' h1 h2 => ?_) es ents hl (fun p hp => decide_eq_true (hs p hp)) he
  cases k' with
  | i n' =>
   simp only [BH] at hk h1
   subst hk h1
   simp only [Instr.sameNow, if_true, BS]
   by_cases e : n' = n
   ·subst e; simp
   ·simp [e, Ne.symm e]
  | _ => simp [Ky.kd] at h2
 | ss a b =>
  obtain ⟨e, h1, h2, h3⟩ := hkt
  exact Af3 h1 h2 h3 hk rfl es ents hl hs he
 | lg a n m b => exact Af4 hkt hk rfl es ents hl hs he
theorem Ahs (hm : Mem C h w M ι) {m : V} {cv : Value} (hr : Rel M w ι h m cv) {es : List (Ky × V)} (he : KD h m = some es) : (cv = .map none /\ es = []) \/ ∃ (b : Nat) (ents : Array MapEntry) (clock : Nat), cv = .map (some b) /\ w.heap[b]? = some (.map ents clock) /\ ∃ es0 : List (Ky × V), MpSz es es0 ents clock /\
  ∀ (i : Nat) (kv : Ky × V), es0[i]? = some kv -> ∃ en : MapEntry, ents[i]? = some en /\ BH kv.1 en.key /\ Rel M w ι h kv.2 en.val := by
 unfold KD at he
 cases m with
 | map n =>
  dsimp only at he
  obtain ⟨es', hn, hcv⟩ := hr.map_inv
  rw [hn] at he
  injection he with he
  subst he
  obtain ⟨b, ents, clock, e, hh, es0, hl, hv⟩ := hm.obj n _ hn
  exact .inr ⟨b, ents, clock, hcv.trans e, hh, es0, hl, hv⟩
 | nilm => injection he with he; subst he; exact .inl ⟨hr.nilm_inv, rfl⟩
 | fmap es' =>
  injection he with he
  subst he
  cases hr with
  | pur hp =>
   cases hp with
   | fmap _ es0 b ents clock f hb hh hs hk hv => exact .inr ⟨b, ents, clock, rfl, hh, es0, hs, fun i kv hi => ⟨f i, (hk i kv hi).1, (hk i kv hi).2, .pur (hv i kv hi)⟩⟩
 | _ => cases he
theorem AaT {es : List (Ky × V)} {k : Ky} {zero : V} {j : Nat} (hj : (es.findIdx? fun p => decide (p.1 = k)) = some j) : ∃ p, es[j]? = some p /\ CM es k zero = p.2 /\ mhas es k = true /\ p.1 = k := by
 obtain ⟨hlt, h1, h2⟩ := List.findIdx?_eq_some_iff_getElem.1 hj
 refine ⟨es[j], Bm hlt, ?_, Iv.2 ⟨es[j], AI hlt, h1⟩, by simpa using h1⟩
 unfold CM
 have : es.find? (fun p => decide (p.1 = k)) = some es[j] := by
  rw [List.find?_eq_some_iff_getElem]
  exact ⟨h1, j, hlt, rfl, fun i hi => by simpa using h2 i hi⟩
 rw [this]
 rfl
theorem Ahi {es : List (Ky × V)} {k : Ky} {zero : V} (hj : (es.findIdx? fun p => decide (p.1 = k)) = none) : CM es k zero = zero /\ mhas es k = false := by
 have h1 : ∀ p ∈ es, ¬ p.1 = k := by simpa using hj
 refine ⟨?_, Nz.2 (fun p hp => by simpa using h1 p hp)⟩
 unfold CM
 have : es.find? (fun p => decide (p.1 = k)) = none := Nw.2 (fun p hp => by simpa using h1 p hp)
 rw [this]
 rfl
theorem Hp {P : Program} {e : Bool} {t : TypeId} {key : Ky} {kv : Value} {ks : Nat} (ht : Jz P t ks) (hk : BH key kv) (s1 : key.kd = ks) (w : World) : (Instr.checkKey e 10000 t kv).run P w = .ok () w := by
 subst s1
 have plain : ∀ {n : Nat} {t : TypeId} {kv : Value}, (P.underlying t = some .string \/ P.underlying t = some (.int .i64)) -> (Instr.checkKey e (n + 1) t kv).run P w = .ok () w := by
  intro n t kv ht
  rw [Instr.checkKey, AA]
  rcases ht with ht | ht <;> (rw [run_underlying ht]; rfl)
 cases key with
 | s l => exact plain (n := 9999) (.inl ht)
 | i n => exact plain (n := 9999) (.inr ht)
 | ss a b =>
  obtain ⟨el, h1, h2, h3⟩ := ht
  simp only [BH] at hk
  subst hk
  have hag : BM P el = some false := by simp [BM, h2]
  have hp : ∀ kv, (Instr.checkKey e 9999 el kv).run P w = .ok () w := fun kv => plain (n := 9998) (.inl h2)
  rw [show (10000 : Nat) = 9999 + 1 from rfl, Instr.checkKey, AA, run_underlying h1]
  simp only [AK, Std.Legacy.Range.forIn_eq_forIn_range', Std.Legacy.Range.size, Nat.sub_zero, Nat.reduceAdd, Nat.add_one_sub_one, Nat.reduceDiv, List.range'_succ, List.range'_zero, List.forIn_cons, List.forIn_nil]
  simp [AA, part, HK hag, run_sizeOf h3, hp]
 | lg a n m b =>
  obtain ⟨fs, h1, _, h3⟩ := ht
  simp only [BH] at hk
  subst hk
  rw [show (10000 : Nat) = 9999 + 1 from rfl, Instr.checkKey, AA, run_underlying h1]
  simp only [AK]
  rw [<- Array.forIn_toList]
  generalize fs.toList = fl at h3
  induction fl with
  | nil => rfl
  | cons f fl ih =>
   obtain ⟨g1, g2⟩ := h3 f (AH ..)
   have ih' := ih fun f hf => h3 f (AU _ hf)
   simp only [ne_eq, AA, Bb] at ih'
   have hag : BM P f.type = some false := by rcases g1 with g1 | g1 <;> simp [BM, g1]
   have hp : ∀ kv, (Instr.checkKey e 9999 f.type kv).run P w = .ok () w := fun kv => plain (n := 9998) g1
   have hpt : ∃ c, (part f.type #[.string ⟨a.toArray⟩, .int .i64 n, .int .i64 m, .string ⟨b.toArray⟩] f.offset).run P w = .ok c w := by
    obtain ⟨c, hc⟩ : ∃ c, (#[.string ⟨a.toArray⟩, .int .i64 n, .int .i64 m, .string ⟨b.toArray⟩] : Array Value)[f.offset]? = some c := ⟨_, Ji (by simpa using g2)⟩
    exact ⟨c, by simp only [part, AA, HK hag, AK, Bl, if_false, hc, Bb]⟩
   obtain ⟨c, hc⟩ := hpt
   rw [List.forIn_cons]
   by_cases hn : f.name = "_"
   ·simp only [hn, ne_eq, not_true_eq_false, if_false, AA, Bb, AK]
    exact ih'
   ·simp only [hn, ne_eq, not_false_eq_true, if_true, AA, hc, hp, Bb, AK]
    exact ih'
theorem AgX {k j : Ky} {v : Value} (h1 : BH k v) (h2 : BH j v) : k = j := by
 cases k <;> cases j <;> simp only [BH] at h1 h2 <;> rw [h1] at h2 <;> simp at h2
 ·rw [h2]
 ·rw [h2]
 ·rw [h2.1, h2.2]
 ·rw [h2.1, h2.2.1, h2.2.2.1, h2.2.2.2]
theorem LW (p : Ky × V) (es : List (Ky × V)) (k : Ky) (z : V) : CM (p :: es) k z = if p.1 = k then p.2 else CM es k z := by
 unfold CM
 rw [List.find?_cons]
 by_cases h : p.1 = k <;> simp [h]
theorem Jp (p : Ky × V) (es : List (Ky × V)) (k : Ky) (v : V) : BK (p :: es) k v = if p.1 = k then (k, v) :: es else p :: BK es k v := by
 unfold BK
 rw [Nv]
 by_cases h : p.1 = k
 ·simp [h]
 ·simp only [h, decide_false, Bl, if_false]
  cases es.findIdx? (fun p => decide (p.1 = k)) <;> simp
theorem Ahj {es0 es : List (Ky × V)} (hp : es0.Perm es) : (es.map (·.1)).Nodup -> ∀ {k : Ky} {z : V}, CM es0 k z = CM es k z := by
 induction hp with
 | nil => intros; rfl
 | cons x _ ih =>
  intro nd k z
  rw [LW, LW, ih (Iw.1 nd).2]
 | swap x y l =>
  intro nd k z
  rw [LW, LW, LW, LW]
  have : y.1 ≠ x.1 := fun e => (Iw.1 nd).1 (by simp [e])
  by_cases h1 : y.1 = k
  ·rw [if_pos h1, if_neg (fun e => this (h1.trans e.symm)), if_pos h1]
  ·rw [if_neg h1, if_neg h1]
 | trans h1 h2 ih1 ih2 => intro nd k z; rw [ih1 ((h2.map _).nodup_iff.2 nd), ih2 nd]
theorem Ahm {es0 es : List (Ky × V)} (hp : es0.Perm es) {k : Ky} : mhas es0 k = mhas es k := by
 unfold mhas
 rw [Bool.eq_iff_iff, Iv, Iv]
 exact ⟨fun ⟨x, h1, h2⟩ => ⟨x, hp.mem_iff.1 h1, h2⟩, fun ⟨x, h1, h2⟩ => ⟨x, hp.mem_iff.2 h1, h2⟩⟩
theorem Ahw {es0 es : List (Ky × V)} (hp : es0.Perm es) : (es.map (·.1)).Nodup -> ∀ (k : Ky) (v : V), (BK es0 k v).Perm (BK es k v) := by
 induction hp with
 | nil => intro _ k v; exact .refl _
 | cons x h ih =>
  intro nd k v
  rw [Jp, Jp]
  split
  ·exact h.cons _
  ·exact (ih (Iw.1 nd).2 k v).cons _
 | swap x y l =>
  intro nd k v
  rw [Jp, Jp, Jp, Jp]
  have : y.1 ≠ x.1 := fun e => (Iw.1 nd).1 (by simp [e])
  by_cases h1 : y.1 = k
  ·rw [if_pos h1, if_neg (fun e => this (h1.trans e.symm)), if_pos h1]; exact .swap _ _ _
  ·rw [if_neg h1, if_neg h1]
   by_cases h2 : x.1 = k
   ·rw [if_pos h2, if_pos h2]; exact .swap _ _ _
   ·rw [if_neg h2, if_neg h2]; exact .swap _ _ _
 | trans h1 h2 ih1 ih2 => intro nd k v; exact (ih1 ((h2.map _).nodup_iff.2 nd) k v).trans (ih2 nd k v)
theorem Aht (es : List (Ky × V)) (k j : Ky) (v : V) : j ∈ (BK es k v).map (·.1) ↔ j = k \/ j ∈ es.map (·.1) := by
 induction es with
 | nil => simp [BK]
 | cons p es ih =>
  rw [Jp]
  by_cases h : p.1 = k
  ·rw [if_pos h]; simp [h]
  ·rw [if_neg h, BE, AN, ih, BE, AN]
   constructor
   ·rintro (a | a | a); exact .inr (.inl a); exact .inl a; exact .inr (.inr a)
   ·rintro (a | a | a); exact .inr (.inl a); exact .inl a; exact .inr (.inr a)
theorem Ahu {es : List (Ky × V)} (nd : (es.map (·.1)).Nodup) (k : Ky) (v : V) : ((BK es k v).map (·.1)).Nodup := by
 induction es with
 | nil => simp [BK]
 | cons p es ih =>
  obtain ⟨n1, n2⟩ := Iw.1 nd
  rw [Jp]
  split
  ·rename_i h
   rw [BE]
   exact Iw.2 ⟨by rw [<- h]; exact n1, n2⟩
  ·rename_i h
   rw [BE]
   exact Iw.2 ⟨fun hm => ((Aht es k p.1 v).1 hm).elim h n1, ih n2⟩
theorem Aka {t : TypeId} (ho : o.op = .makeMap t none) (hm : Mem C h w M ι) : Sim P G C h w M ι o a E d .mkmap := by
 intro hφ
 obtain ⟨q2, q3⟩ := hφ
 refine .run (cv := .map (some w.heap.size)) (w' := w.alloc (.map #[] 0)) ?_ ?_
 ·simp only [execOp, ho, Jm, AA, run_makeMap, AK, Bb]
 ·refine HZ hm q2 q3 (.mp []) (.map (some w.heap.size)) (w.alloc (.map #[] 0)) (by simp) rfl rfl rfl (fun k hk => heap_alloc_old w _ hk) (fun g hg => by cases hg; exact AF _) (fun {h' ι'} hk hi hMw => ?_) ?_
  ·exact ⟨w.heap.size, #[], 0, hi, heap_alloc_new w _, [], ⟨.refl _, rfl, MapKept.stamped_empty 0, List.nodup_nil⟩, fun i kv hi' => by simp at hi'⟩
  ·exact .map d [] (Dd _ _ _) _ (CU _ _ _).symm rfl
theorem Aj7 {t kt et : TypeId} {ks : Nat} {ok : Bool} {i : TypeInfo} {z : Value} {m0 k0 : Operand} {m k : AE} (ho : o.op = .lookup t m0 k0 ok) (ht : P.underlying t = some (.map kt et)) (hkt : Jz P kt ks) (hi : P.info? et = some i) (hz : i.zero = some z)
  (hm : Mem C h w M ι) (hmr : Rel M w ι h (E m) (a.eval m0)) (hkr : Rel M w ι h (E k) (a.eval k0)) : Sim P G C h w M ι o a E d (.look ks ok (IA z) m k) := by
 unfold Sim At ML
 dsimp only
 split
 ·rename_i es key he hke
  intro hφ
  obtain ⟨s1, s2⟩ := hφ
  have hk := AaJ hkr hke
  have fin : ∀ (es : List (Ky × V)) (ents : Array MapEntry), (∀ p ∈ es, p.1.kd = ks) -> es.length = ents.size -> (∀ (i : Nat) (kv : Ky × V), es[i]? = some kv -> ∃ en : MapEntry, ents[i]? = some en /\ BH kv.1 en.key /\ Rel M w ι h kv.2 en.val) ->
    ((a.eval m0 = .map none /\ ents = #[]) \/ ∃ b clock, a.eval m0 = .map (some b) /\ (getObj b).run P w = .ok (.map ents clock) w) ->
    CZ P o a w (Ay C h w M ι h (if ok then .tup [CM es key (IA z), .bool (mhas es key)] else CM es key (IA z))) := by
   intro es ents s2 hl hv hcase
   have hfk : (Instr.findKey kt (a.eval k0) ents.toList).run P w = .ok ((es.findIdx? fun p => decide (p.1 = key)).map fun j => (0 + j, (ents.toList.getD j default).val)) w := by
    exact Aah hkt hk s1 es ents.toList (by simpa using hl) s2 (fun j p hj => by
     obtain ⟨en, g1, g2, _⟩ := hv j p hj
     exact ⟨en, by simpa using g1, g2⟩)
   cases hidx : es.findIdx? (fun p => decide (p.1 = key)) with
   | none =>
    obtain ⟨g1, g2⟩ := Ahi (zero := IA z) hidx
    rw [hidx] at hfk
    rw [g1, g2]
    cases ok
    ·refine .run (cv := z) (w' := w) ?_ (Ay.same hm (.pur (Tw M w z)))
     rcases hcase with ⟨e0, rfl⟩ | ⟨b, clock, e0, hgo⟩
     ·simp only [execOp, ho, Instr.lookup, AA, run_underlying ht, AK, e0, Hp hkt hk s1, hfk, Jm, zeroValue, typeInfo, run_program, hi, hz, AA, Bb, Bl, if_false]
     ·simp only [execOp, ho, Instr.lookup, AA, run_underlying ht, AK, e0, hgo, Hp hkt hk s1, hfk, Jm, zeroValue, typeInfo, run_program, hi, hz, AA, Bb, Bl, if_false]
    ·refine .run (cv := .tuple #[z, .bool false]) (w' := w) ?_ (Ay.same hm (.tup _ _ rfl (fun i v hi' => ?_)))
     ·rcases hcase with ⟨e0, rfl⟩ | ⟨b, clock, e0, hgo⟩
      ·simp only [execOp, ho, Instr.lookup, AA, run_underlying ht, AK, e0, Hp hkt hk s1, hfk, Jm, zeroValue, typeInfo, run_program, hi, hz, AA, Bb, if_true]
      ·simp only [execOp, ho, Instr.lookup, AA, run_underlying ht, AK, e0, hgo, Hp hkt hk s1, hfk, Jm, zeroValue, typeInfo, run_program, hi, hz, AA, Bb, if_true]
     ·match i, hi' with
      | 0, hi' => injection hi' with hi'; subst hi'; exact .pur (Tw M w z)
      | 1, hi' => injection hi' with hi'; subst hi'; exact .pur (.bool _)
   | some j =>
    obtain ⟨p, g1, g2, g3, g4⟩ := AaT (zero := IA z) hidx
    rw [hidx] at hfk
    obtain ⟨en, v1, v2, v3⟩ := hv j p g1
    have hval : (ents.toList.getD j default).val = en.val := by rw [AS, Cv, v1]; rfl
    rw [g2, g3]
    cases ok
    ·refine .run (cv := en.val) (w' := w) ?_ (Ay.same hm v3)
     rcases hcase with ⟨e0, rfl⟩ | ⟨b, clock, e0, hgo⟩
     ·simp only [execOp, ho, Instr.lookup, AA, run_underlying ht, AK, e0, Hp hkt hk s1, hfk, Er, hval, AA, Bb, Bl, if_false]
     ·simp only [execOp, ho, Instr.lookup, AA, run_underlying ht, AK, e0, hgo, Hp hkt hk s1, hfk, Er, hval, AA, Bb, Bl, if_false]
    ·refine .run (cv := .tuple #[en.val, .bool true]) (w' := w) ?_ (Ay.same hm (.tup _ _ rfl (fun i v hi' => ?_)))
     ·rcases hcase with ⟨e0, rfl⟩ | ⟨b, clock, e0, hgo⟩
      ·simp only [execOp, ho, Instr.lookup, AA, run_underlying ht, AK, e0, Hp hkt hk s1, hfk, Er, hval, AA, Bb, if_true]
      ·simp only [execOp, ho, Instr.lookup, AA, run_underlying ht, AK, e0, hgo, Hp hkt hk s1, hfk, Er, hval, AA, Bb, if_true]
     ·match i, hi' with
      | 0, hi' => injection hi' with hi'; subst hi'; exact v3
      | 1, hi' => injection hi' with hi'; subst hi'; exact .pur (.bool _)
  rcases Ahs hm hmr he with ⟨e0, rfl⟩ | ⟨b, ents, clock, e0, hh, es0, hl, hv⟩
  ·exact fin [] #[] s2 rfl (fun i kv hi' => by simp at hi') (.inl ⟨e0, rfl⟩)
  ·have := fin es0 ents (fun p hp => s2 p (hl.perm.mem_iff.1 hp)) hl.len hv (.inr ⟨b, clock, e0, by simp only [getObj, Sem.run, hh]⟩)
   rwa [Ahj hl.perm hl.nd, Ahm hl.perm] at this
 ·exact fun hφ => hφ.elim
theorem AjD {k : Ky} {u v : Value} (h1 : BH k u) (h2 : BH k v) : u = v /\ Instr.sameBits 10000 u v = true := by
 cases k with
 | s l => simp only [BH] at h1 h2; subst h1 h2; exact ⟨rfl, by simp [Instr.sameBits, beq_toListBytes]⟩
 | i n => simp only [BH] at h1 h2; subst h1 h2; exact ⟨rfl, by simp [Instr.sameBits]⟩
 | ss a b => simp only [BH] at h1 h2; subst h1 h2; exact ⟨rfl, by simp [Instr.sameBits, beq_toListBytes]⟩
 | lg a n m b => simp only [BH] at h1 h2; subst h1 h2; exact ⟨rfl, by simp [Instr.sameBits, beq_toListBytes]⟩
theorem AcI {t kt et : TypeId} {ks : Nat} {m0 k0 x0 : Operand} {m k x : AE} (ho : o.op = .mapUpdate t m0 k0 x0 \/ o.op = .insert t m0 k0 x0) (ht : P.underlying t = some (.map kt et)) (hkt : Jz P kt ks)
  (hm : Mem C h w M ι) (hmr : Rel M w ι h (E m) (a.eval m0)) (hkr : Rel M w ι h (E k) (a.eval k0)) (hxr : Rel M w ι h (E x) (a.eval x0)) : Sim P G C h w M ι o a E d (.mset ks m k x) := by
 unfold Sim At JY
 dsimp only
 split
 ·rename_i n key e1 hke
  rw [e1] at hmr
  obtain ⟨es, hn, hcv⟩ := hmr.map_inv
  rw [hn]
  intro hφ
  obtain ⟨s1, s2⟩ := hφ
  have hk := AaJ hkr hke
  obtain ⟨b, ents, clock, e, hh, es0, hsz, hv⟩ := hm.obj n _ hn
  have hl := hsz.len
  have s20 : ∀ p ∈ es0, p.1.kd = ks := fun p hp => s2 p (hsz.perm.mem_iff.1 hp)
  have e0 := hcv.trans e
  have hgo : (getObj b).run P w = .ok (.map ents clock) w := by simp only [getObj, Sem.run, hh]
  have hblt : b < w.heap.size := (FX.1 hh).1
  have hset : ∀ ob, (setObj b ob).run P w = .ok () { w with heap := w.heap.setIfInBounds b ob } := fun ob => by simp only [setObj, Sem.run, hh]
  have hfk : (Instr.findKey kt (a.eval k0) ents.toList).run P w = .ok ((es0.findIdx? fun p => decide (p.1 = key)).map fun j => (0 + j, (ents.toList.getD j default).val)) w := by
   exact Aah hkt hk s1 es0 ents.toList (by simpa using hl) s20 (fun j p hj => by
    obtain ⟨en, g1, g2, _⟩ := hv j p hj
    exact ⟨en, by simpa using g1, g2⟩)
  have fin : ∀ (ents' : Array MapEntry) (clock' : Nat), (BK es0 key (E x)).length = ents'.size -> MapKept.Stamped ents' clock' -> (∀ (i : Nat) (kv : Ky × V), (BK es0 key (E x))[i]? = some kv -> ∃ en : MapEntry, ents'[i]? = some en /\ BH kv.1 en.key /\ Rel M w ι h kv.2 en.val) ->
    Ay C h w M ι (BI h n (.mp (BK es key (E x)))) .any undef { w with heap := w.heap.setIfInBounds b (.map ents' clock') } := by
   intro ents' clock' hl' hst' hv'
   have hoth : ∀ k, k ≠ b -> ({ w with heap := w.heap.setIfInBounds b (.map ents' clock') } : World).heap[k]? = w.heap[k]? := fun k hk => by
    show (w.heap.setIfInBounds b _)[k]? = _
    rw [Array.getElem?_setIfInBounds_ne (Ne.symm hk)]
   have hMw : ∀ c, M c -> ({ w with heap := w.heap.setIfInBounds b (.map ents' clock') } : World).heap[c]? = w.heap[c]? := fun c hc => hoth c (fun ec => hm.imm n b (by rw [hn]; rfl) (by rw [e]; rfl) (ec ▸ hc))
   have hk2 : Keeps h (BI h n (.mp (BK es key (E x)))) ι (DK ι n (ι n)) := .put hn (.inr (.inr ⟨es, _, rfl, rfl, rfl⟩))
   obtain ⟨g1, g2⟩ := hm.step n (.mp (BK es key (E x))) (ι n) { w with heap := w.heap.setIfInBounds b (.map ents' clock') } (by simp) rfl rfl rfl (fun k _ hne => hoth k (fun ek => hne _ hn (by rw [e, ek]; rfl))) (fun g hg => .inl ⟨_, hn, hg⟩) hk2
    ⟨b, ents', clock', by rw [CU]; exact e, by show (w.heap.setIfInBounds b _)[b]? = _; simp [hblt], BK es0 key (E x), ⟨Ahw hsz.perm hsz.nd _ _, hl', hst', Ahu hsz.nd _ _⟩, fun i kv hi => by
     obtain ⟨en, w1, w2, w3⟩ := hv' i kv hi
     exact ⟨en, w1, w2, w3.keep (fun _ hb => hb) hMw hk2⟩⟩
    (fun _ => by rw [hn]; rfl) (fun h1000 => ⟨fun t c he => (by cases he), fun _ _ => (hm.pin n h1000).2 es hn⟩)
   exact ⟨M, _, g1, .pur (.any _), fun _ hb => hb, g2, hk2⟩
  cases hidx : es0.findIdx? (fun p => decide (p.1 = key)) with
  | none =>
   rw [hidx] at hfk
   have hput : BK es0 key (E x) = es0 ++ [(key, E x)] := by unfold BK; rw [hidx]
   refine .skip (w' := { w with heap := w.heap.setIfInBounds b (.map (ents.push { key := a.eval k0, val := a.eval x0, born := clock }) (clock + 1)) }) ?_ (fin _ _ ?_ ?_ ?_)
   ·rcases ho with ho | ho <;> simp only [execOp, ho, Instr.mapUpdate, AA, run_underlying ht, AK, e0, hgo, Hp hkt hk s1, hfk, Jm, hset, Bb]
   ·rw [hput]; simp [hl]
   ·refine MapKept.stamped_push hsz.st fun y hy ek => ?_
    obtain ⟨q, hq, eq⟩ := FY.1 hy
    have hq2 : q < es0.length := by rw [hl]; simpa using hq
    obtain ⟨en, w1, w2, _⟩ := hv q es0[q] (Bm hq2)
    have : en = y := by
     rw [<- eq, Array.getElem_toList]
     have := w1
     rw [Ji (by omega)] at this
     injection this with this
     exact this.symm
    subst this
    rw [ek] at w2
    have := List.findIdx?_eq_none_iff.1 hidx es0[q] (AI hq2)
    exact absurd (AgX w2 hk) (by simpa using this)
   ·intro i kv hi
    rw [hput] at hi
    by_cases c : i < es0.length
    ·rw [GY c] at hi
     obtain ⟨en, w1, w2, w3⟩ := hv i kv hi
     exact ⟨en, by rw [Array.getElem?_push_lt (by omega)]; rw [Ji (by omega)] at w1; exact w1, w2, w3⟩
    ·rw [GX (by omega)] at hi
     have : i - es0.length = 0 := by
      have := (BQ.1 hi).1
      simp at this; omega
     rw [this] at hi
     injection hi with hi
     subst hi
     have ei : i = ents.size := by omega
     subst ei
     exact ⟨{ key := a.eval k0, val := a.eval x0, born := clock }, by simp, hk, hxr⟩
  | some j =>
   rw [hidx] at hfk
   obtain ⟨p, g1, _, _, g4⟩ := AaT (zero := .any) hidx
   obtain ⟨en, v1, v2, v3⟩ := hv j p g1
   have hput : BK es0 key (E x) = es0.set j (key, E x) := by unfold BK; rw [hidx]
   have hsame := AjD (g4 ▸ v2) hk
   have hj : j < ents.size := (FX.1 v1).1
   have hstay : (Instr.keyThatStays (((ents[0 + j]?).map (·.key)).getD (a.eval k0)) (a.eval k0)).run P w = .ok (a.eval k0) w := by
    rw [CI, v1]
    simp only [Er, Fd, Instr.keyThatStays, hsame.2, if_true, Bb]
   refine .skip (w' := { w with heap := w.heap.setIfInBounds b (.map (ents.modify (0 + j) fun e => { e with key := a.eval k0, val := a.eval x0 }) clock) }) ?_ (fin _ _ ?_ ?_ ?_)
   ·rcases ho with ho | ho <;> simp only [execOp, ho, Instr.mapUpdate, AA, run_underlying ht, AK, e0, hgo, Hp hkt hk s1, hfk, Er, hstay, hset, Bb]
   ·rw [hput]; simp [hl]
   ·refine MapKept.stamped_modify hsz.st _ _ (fun _ _ => rfl) fun e' _ he' => ?_
    rw [CI, v1] at he'
    injection he' with he'
    subst he'
    exact hsame.1.symm
   ·intro i kv hi
    rw [hput] at hi
    rw [CI, Array.getElem?_modify]
    by_cases c : j = i
    ·subst c
     rw [List.getElem?_set_self (by omega)] at hi
     injection hi with hi
     subst hi
     rw [if_pos rfl, v1]
     exact ⟨_, rfl, hk, hxr⟩
    ·rw [List.getElem?_set_ne c] at hi
     rw [if_neg c]
     exact hv i kv hi
 ·exact fun hφ => hφ.elim
theorem AaS {z : Array Value} {n k : Nat} (hz : 0 < z.size) (hk : k < n) : (madeCells z n)[k]? = some (z.getD (k % z.size) undef) := by
 have : k % z.size < z.size := Nat.mod_lt _ hz
 simp [madeCells, hk, this]
theorem Akb {t e : TypeId} {i : TypeInfo} {z : Value} {sz bytes : Nat} {n0 c0 : Operand} {n c : AE} (ho : o.op = .makeSlice t n0 c0) (ht : P.underlying t = some (.slice e)) (hi : P.info? e = some i) (hz : i.zero = some z) (hsz : i.size = sz) (hby : i.bytes = bytes) (hzs : z.cells.size = sz) (hpos : 0 < sz)
  (h1 : z.cells.toList.all Value.oneCell' = true) (hm : Mem C h w M ι) (hn : Rel M w ι h (E n) (a.eval n0)) (hc : Rel M w ι h (E c) (a.eval c0)) : Sim P G C h w M ι o a E d (.mks e sz bytes (z.cells.toList.map De) n c) := by
 unfold Sim At JW
 dsimp only
 split
 ·rename_i l q e1 e2
  rw [e1] at hn; rw [e2] at hc
  intro hφ
  obtain ⟨q1, q2, q3, q4, q5⟩ := hφ
  have hq0 : 0 <= q := by omega
  obtain ⟨qn, rfl⟩ := Jj hq0
  obtain ⟨ln, rfl⟩ := Jj q3
  have hbb : (qn : Int) * bytes <= 140737488355328 /\ (qn : Int) <= 140737488355328 := by
   have e3 : (qn : Int) * (bytes + 1) = qn * bytes + qn := by rw [Kx, Int.mul_one]
   have p1 : 0 <= (qn : Int) * bytes := Jg (by omega) (by omega)
   omega
  have hrun := run_make (P := P) w t e i z ht hi hz .i64 .i64 (ln : Int) (qn : Int) q3 q4 (by rw [hby, LO]; omega) (by omega)
  simp only [Fc, hsz] at hrun
  have hlq : ln <= qn := by omega
  refine .run (cv := .slice (some ⟨w.heap.size, 0, none⟩) ln qn) (w' := w.alloc (.cells (madeCells z.cells (qn * sz)) e)) ?_ ?_
  ·simp only [execOp, ho, hn.int_inv, hc.int_inv, AA, hrun, AK, Bb]
  ·simp only [Fc]
   have hms : (madeCells z.cells (qn * sz)).size = qn * sz := by simp [madeCells]
   have hle : ln * sz <= qn * sz := CB _ hlq
   have hget : ∀ k, k < ln * sz -> ((madeCells z.cells (qn * sz)).toList.take (ln * sz))[k]? = some (z.cells.getD (k % sz) undef) := fun k hk => by
    rw [Ir hk, Cv, AaS (by omega) (by omega), hzs]
   refine HZ hm q1 q2 (.arr e sz (List.replicate ln (z.cells.toList.map De))) (.slice (some ⟨w.heap.size, 0, none⟩) ln qn) (w.alloc (.cells (madeCells z.cells (qn * sz)) e)) (by simp) rfl rfl rfl (fun k hk => heap_alloc_old w _ hk) (fun g hg => by cases hg; exact AF _) (fun {h' ι'} hk hi' hMw => ?_) ?_
   ·refine ⟨(madeCells z.cells (qn * sz)).toList.take (ln * sz), ?_, fun r hr => ?_, fun x hx => ?_, fun i j r v hi1 hj => ?_⟩
    ·rw [hi', KB]
     refine ⟨by rw [BJ, Ep, hms]; omega, .inr ⟨w.heap.size, qn, _, rfl, As _, heap_alloc_new w _, hlq, by unfold maxLen; omega, hms, rfl⟩⟩
    ·rw [List.eq_of_mem_replicate hr]; simp [hzs]
    ·obtain ⟨k, hk, hk2⟩ := FY.1 hx
     have hk3 : k < ln * sz := by rw [BJ] at hk; omega
     have := hget k hk3
     rw [Bm hk, hk2] at this
     injection this with this
     rw [this]
     exact Ch.1 h1 _ (by
      have hmod : k % sz < z.cells.size := by rw [hzs]; exact Nat.mod_lt _ hpos
      have := Nk hmod
      rw [<- Cv] at this
      exact Bk this)
    ·have hil : i < ln := by have := (BQ.1 hi1).1; simpa using this
     rw [List.getElem?_replicate_of_lt hil] at hi1
     injection hi1 with hi1
     subst hi1
     rw [BC] at hj
     obtain ⟨c', hc', rfl⟩ := AY.1 hj
     have hjs : j < sz := by have := (BQ.1 hc').1; rw [Ep, hzs] at this; exact this
     have hlt : i * sz + j < ln * sz := by
      have : i * sz + sz <= ln * sz := by rw [<- EI]; exact CB _ hil
      omega
     have hmod : (i * sz + j) % sz = j := by rw [LN, Nat.mul_add_mod, PN hjs]
     rw [AS, hget _ hlt, hmod]
     have : z.cells.getD j undef = c' := by rw [Cv] at hc'; simp [hc']
     simp only [Fd, this]
     exact .pur (Ks _ _ _)
   ·exact .own d ln e sz _ _ (Dd _ _ _) (by rw [KB]; exact AF _) (fun _ => (CU _ _ _).symm) rfl
 ·exact fun hφ => hφ.elim
theorem Akc {t e : TypeId} {i : TypeInfo} {z : Value} {sz bytes : Nat} {n0 c0 : Operand} {n c : AE} (ho : o.op = .makeSlice t n0 c0) (ht : P.underlying t = some (.slice e)) (hi : P.info? e = some i) (hz : i.zero = some z) (hsz : i.size = sz) (hby : i.bytes = bytes) (hzs : z.cells.size = sz) (hpos : 0 < sz)
  (h1 : z.cells.toList.all Value.oneCell' = true) (hm : Mem C h w M ι) (hn : Rel M w ι h (E n) (a.eval n0)) (hc : Rel M w ι h (E c) (a.eval c0)) : Sim P G C h w M ι o a E d (.mkv e sz bytes (z.cells.toList.map De) n c) := by
 unfold Sim At JX
 dsimp only
 split
 ·rename_i l q e1 e2
  rw [e1] at hn; rw [e2] at hc
  intro hφ
  obtain ⟨q1, q2, q3, q4, q5⟩ := hφ
  have hq0 : 0 <= q := by omega
  obtain ⟨qn, rfl⟩ := Jj hq0
  obtain ⟨ln, rfl⟩ := Jj q3
  have hbb : (qn : Int) * bytes <= 140737488355328 /\ (qn : Int) <= 140737488355328 := by
   have e3 : (qn : Int) * (bytes + 1) = qn * bytes + qn := by rw [Kx, Int.mul_one]
   have p1 : 0 <= (qn : Int) * bytes := Jg (by omega) (by omega)
   omega
  have hrun := run_make (P := P) w t e i z ht hi hz .i64 .i64 (ln : Int) (qn : Int) q3 q4 (by rw [hby, LO]; omega) (by omega)
  simp only [Fc, hsz] at hrun
  have hlq : ln <= qn := by omega
  refine .run (cv := .slice (some ⟨w.heap.size, 0, none⟩) ln qn) (w' := w.alloc (.cells (madeCells z.cells (qn * sz)) e)) ?_ ?_
  ·simp only [execOp, ho, hn.int_inv, hc.int_inv, AA, hrun, AK, Bb]
  ·simp only [Fc]
   have hms : (madeCells z.cells (qn * sz)).size = qn * sz := by simp [madeCells]
   have hle : qn * sz <= qn * sz := AF _
   have hget : ∀ k, k < qn * sz -> ((madeCells z.cells (qn * sz)).toList.take (qn * sz))[k]? = some (z.cells.getD (k % sz) undef) := fun k hk => by
    rw [Ir hk, Cv, AaS (by omega) (by omega), hzs]
   refine HZ hm q1 q2 (.arr e sz (List.replicate qn (z.cells.toList.map De))) (.slice (some ⟨w.heap.size, 0, none⟩) qn qn) (w.alloc (.cells (madeCells z.cells (qn * sz)) e)) (by simp) rfl rfl rfl (fun k hk => heap_alloc_old w _ hk) (fun g hg => by cases hg; exact AF _) (fun {h' ι'} hk hi' hMw => ?_) ?_
   ·refine ⟨(madeCells z.cells (qn * sz)).toList.take (qn * sz), ?_, fun r hr => ?_, fun x hx => ?_, fun i j r v hi1 hj => ?_⟩
    ·rw [hi', KB]
     refine ⟨by rw [BJ, Ep, hms]; omega, .inr ⟨w.heap.size, qn, _, rfl, As _, heap_alloc_new w _, AF _, by unfold maxLen; omega, hms, rfl⟩⟩
    ·rw [List.eq_of_mem_replicate hr]; simp [hzs]
    ·obtain ⟨k, hk, hk2⟩ := FY.1 hx
     have hk3 : k < qn * sz := by rw [BJ] at hk; omega
     have := hget k hk3
     rw [Bm hk, hk2] at this
     injection this with this
     rw [this]
     exact Ch.1 h1 _ (by
      have hmod : k % sz < z.cells.size := by rw [hzs]; exact Nat.mod_lt _ hpos
      have := Nk hmod
      rw [<- Cv] at this
      exact Bk this)
    ·have hil : i < qn := by have := (BQ.1 hi1).1; simpa using this
     rw [List.getElem?_replicate_of_lt hil] at hi1
     injection hi1 with hi1
     subst hi1
     rw [BC] at hj
     obtain ⟨c', hc', rfl⟩ := AY.1 hj
     have hjs : j < sz := by have := (BQ.1 hc').1; rw [Ep, hzs] at this; exact this
     have hlt : i * sz + j < qn * sz := by
      have : i * sz + sz <= qn * sz := by rw [<- EI]; exact CB _ hil
      omega
     have hmod : (i * sz + j) % sz = j := by rw [LN, Nat.mul_add_mod, PN hjs]
     rw [AS, hget _ hlt, hmod]
     have : z.cells.getD j undef = c' := by rw [Cv] at hc'; simp [hc']
     simp only [Fd, this]
     exact .pur (Ks _ _ _)
   ·refine .vw d 0 ln qn false e sz (List.replicate qn (z.cells.toList.map De)) _ (Dd _ _ _) (by rw [KB]; exact AF _) (by omega) rfl (fun _ => ⟨w.heap.size, qn, _, _, ?_, rfl, hlq, fun e => (by cases e), fun _ => by omega, fun _ => by rw [NH]⟩)
    exact CU _ _ _
 ·exact fun hφ => hφ.elim
theorem Ew {b : Option Value} {bv : Option V} {dflt x : Int} (hr : match bv, b with | none, none => True | some u, some cv => Rel M w ι h u cv | _, _ => False) (hb : El dflt bv = some x) : (b = none /\ x = dflt) \/ ∃ k, b = some (.int k x) := by
 cases bv with
 | none =>
  cases b with
  | none => simp only [El, BS] at hb; exact .inl ⟨rfl, hb.symm⟩
  | some cv => exact hr.elim
 | some u =>
  cases b with
  | none => exact hr.elim
  | some cv =>
   unfold El at hb
   split at hb
   ·rename_i e; cases e
   ·rename_i k n e
    injection e with e
    subst e
    injection hb with hb
    subst hb
    exact .inr ⟨k, by rw [Rel.int_inv hr]⟩
   ·cases hb
theorem KL (k : IntKind) (y : Nat) (cd : BoundsCode) {x : Int} (h0 : 0 <= x) (h1 : x <= y) : (Instr.sliceBound (.int k x) y cd).run P w = .ok x.toNat w := by
 simp [Instr.sliceBound, asIntOf, h0, h1]
theorem Ab2 (isS : Bool) (len cap : Nat) {lo hi : Option Value} {l r : Int} (hl : (lo = none /\ l = 0) \/ ∃ k, lo = some (.int k l)) (hr : (hi = none /\ r = len) \/ ∃ k, hi = some (.int k r)) (h0 : 0 <= l) (h1 : l <= r) (h2 : r <= cap) (h3 : len <= cap) :
  (Instr.sliceBounds isS len cap lo hi none).run P w = .ok (l.toNat, r.toNat, cap) w := by
 rcases hl with ⟨rfl, rfl⟩ | ⟨kl, rfl⟩ <;> rcases hr with ⟨rfl, rfl⟩ | ⟨kr, rfl⟩
 ·simp [Instr.sliceBounds]
 ·simp [Instr.sliceBounds, KL kr cap _ (by omega : (0 : Int) <= r) h2]
 ·have := KL (P := P) (w := w) kl len (.sliceB) h0 h1
  simp [Instr.sliceBounds, this]
 ·have := KL (P := P) (w := w) kl r.toNat (.sliceB) h0 (by omega : l <= (r.toNat : Int))
  simp [Instr.sliceBounds, KL kr cap _ (by omega : (0 : Int) <= r) h2, this]
theorem Akk {t : TypeId} {x0 : Operand} {x : AE} {lo0 hi0 : Option Operand} {lo hi : Option AE} (ho : o.op = .slice t x0 lo0 hi0 none) (ht : P.underlying t = some .string) (hm : Mem C h w M ι) (hx : Rel M w ι h (E x) (a.eval x0))
  (hlo : match lo.map E, lo0.map a.eval with | none, none => True | some u, some cv => Rel M w ι h u cv | _, _ => False) (hhi : match hi.map E, hi0.map a.eval with | none, none => True | some u, some cv => Rel M w ι h u cv | _, _ => False) : Sim P G C h w M ι o a E d (.ssub lo hi x) := by
 unfold Sim At Pd
 dsimp only
 split
 ·rename_i s e1
  rw [e1] at hx
  split
  ·rename_i l r hl hr
   intro hφ
   obtain ⟨h0, h1, h2⟩ := hφ
   have hb := Ab2 (P := P) (w := w) false s.length s.length (Ew hlo hl) (Ew hhi hr) h0 h1 h2 (AF _)
   refine .run (cv := .string ⟨((s.take r.toNat).drop l.toNat).toArray⟩) (w' := w) ?_ (Ay.same hm (.pur (.str _)))
   have hext : (⟨s.toArray⟩ : ByteArray).extract l.toNat r.toNat = ⟨((s.take r.toNat).drop l.toNat).toArray⟩ := by
    apply ByteArray.ext
    rw [ByteArray.data_extract]
    apply Array.toList_inj.1
    simp [List.drop_take]
   simp only [execOp, ho, Jm, Instr.sliceAt, AA, run_underlying ht, AK, Instr.slice, hx.str_inv, Nt, Bl, if_false, OJ, hb, Bb, hext]
  ·exact fun hφ => hφ.elim
 ·exact fun hφ => hφ.elim
theorem Ajy (isS : Bool) (len cap : Nat) {lo hi : Option Value} {l r c : Int} (kc : IntKind) (hl : (lo = none /\ l = 0) \/ ∃ k, lo = some (.int k l)) (hr : ∃ k, hi = some (.int k r)) (h0 : 0 <= l) (h1 : l <= r) (h2 : r <= c) (h3 : c <= cap) :
  (Instr.sliceBounds isS len cap lo hi (some (.int kc c))).run P w = .ok (l.toNat, r.toNat, c.toNat) w := by
 have b3 := fun cd => KL (P := P) (w := w) kc cap cd (by omega : (0 : Int) <= c) h3
 obtain ⟨kr, rfl⟩ := hr
 have b2 := fun cd => KL (P := P) (w := w) kr c.toNat cd (by omega : (0 : Int) <= r) (by omega)
 rcases hl with ⟨rfl, rfl⟩ | ⟨kl, rfl⟩
 ·simp [Instr.sliceBounds, b3, b2]
 ·have b1 := fun cd => KL (P := P) (w := w) kl r.toNat cd h0 (by omega : l <= (r.toNat : Int))
  simp [Instr.sliceBounds, b3, b2, b1]
theorem AnE {m off : Nat} {l r c : Int} (h0 : 0 <= l) (h1 : l <= r) (h2 : r <= c) (h3 : (off : Int) + c <= m) (h4 : r = c \/ (off : Int) + c = m) : r.toNat - l.toNat <= c.toNat - l.toNat /\ (decide (r = c) = true -> c.toNat - l.toNat = r.toNat - l.toNat) /\ (decide (r = c) = false -> m <= off + l.toNat + (c.toNat - l.toNat)) /\ off + l.toNat + (r.toNat - l.toNat) <= m := by
 refine ⟨by omega, fun e => ?_, fun e => ?_, by omega⟩
 ·have := of_decide_eq_true e; omega
 ·have := of_decide_eq_false e; omega
theorem AcL {t e : TypeId} {sz : Nat} {x0 : Operand} {x : AE} {lo0 hi0 mx0 : Option Operand} {lo hi mx : Option AE} (ho : o.op = .slice t x0 lo0 hi0 mx0) (ht : P.underlying t = some (.slice e)) (hs : szT P e = some sz) (hm : Mem C h w M ι) (hx : Rel M w ι h (E x) (a.eval x0))
  (hlo : match lo.map E, lo0.map a.eval with | none, none => True | some u, some cv => Rel M w ι h u cv | _, _ => False) (hhi : match hi.map E, hi0.map a.eval with | none, none => True | some u, some cv => Rel M w ι h u cv | _, _ => False)
  (hmx : match mx.map E, mx0.map a.eval with | none, none => True | some u, some cv => Rel M w ι h u cv | _, _ => False) : Sim P G C h w M ι o a E d (.sub sz lo hi mx x) := by
 have run : ∀ (p : Option Addr) (len cap : Nat) (l r : Int), mx0.map a.eval = none -> a.eval x0 = .slice p len cap -> ((lo0.map a.eval = none /\ l = 0) \/ ∃ k, lo0.map a.eval = some (.int k l)) -> ((hi0.map a.eval = none /\ r = len) \/ ∃ k, hi0.map a.eval = some (.int k r)) -> 0 <= l -> l <= r -> r <= cap -> len <= cap ->
   (execOp a.eval o).run P w = .ok (.value (.slice (if cap = l.toNat then p else p.map (·.add (l.toNat * sz))) (r.toNat - l.toNat) (cap - l.toNat))) w := by
  intro p len cap l r e0 e hl hr h0 h1 h2 h3
  have hb := Ab2 (P := P) (w := w) true len cap hl hr h0 h1 h2 h3
  simp only [execOp, ho, e0, Instr.sliceAt, AA, run_underlying ht, AK, Instr.slice, e, hb, run_sizeOf hs, Bb]
 have run3 : ∀ (p : Option Addr) (len cap : Nat) (l r c : Int) (kc : IntKind), mx0.map a.eval = some (.int kc c) -> a.eval x0 = .slice p len cap -> ((lo0.map a.eval = none /\ l = 0) \/ ∃ k, lo0.map a.eval = some (.int k l)) -> (∃ k, hi0.map a.eval = some (.int k r)) -> 0 <= l -> l <= r -> r <= c -> c <= cap ->
   (execOp a.eval o).run P w = .ok (.value (.slice (if c.toNat = l.toNat then p else p.map (·.add (l.toNat * sz))) (r.toNat - l.toNat) (c.toNat - l.toNat))) w := by
  intro p len cap l r c kc e0 e hl hr h0 h1 h2 h3
  have hb := Ajy (P := P) (w := w) true len cap kc hl hr h0 h1 h2 h3
  simp only [execOp, ho, e0, Instr.sliceAt, AA, run_underlying ht, AK, Instr.slice, e, hb, run_sizeOf hs, Bb]
 have nomx : mx.map E = none -> mx0.map a.eval = none := fun e => by rw [e] at hmx; cases e2 : mx0.map a.eval with | none => rfl | some _ => rw [e2] at hmx; exact hmx.elim
 have somx : ∀ {k c}, mx.map E = some (.int k c) -> mx0.map a.eval = some (.int k c) := fun {k c} e => by
  rw [e] at hmx; cases e2 : mx0.map a.eval with | none => rw [e2] at hmx; exact hmx.elim | some cv => rw [e2] at hmx; dsimp only at hmx; rw [hmx.int_inv]
 have sohi : ∀ {k r}, hi.map E = some (.int k r) -> ∃ k, hi0.map a.eval = some (.int k r) := fun {k r} e => by
  rw [e] at hhi; cases e2 : hi0.map a.eval with | none => rw [e2] at hhi; exact hhi.elim | some cv => rw [e2] at hhi; dsimp only at hhi; exact ⟨k, by rw [hhi.int_inv]⟩
 have adr : ∀ (g q k cap c : Nat), (if c = k then (some ⟨g, q, none⟩ : Option Addr) else (some (⟨g, q, none⟩ : Addr)).map (·.add (k * sz))) = some (if c = k then ⟨g, q, none⟩ else ⟨g, q + k * sz, none⟩) := fun g q k cap c => by
  split
  ·rfl
  ·simp only [Er, DW]
 unfold Sim At Hr
 dsimp only
 split
 ·rename_i rows fit e0 e1
  rw [e1] at hx
  split
  ·rename_i l r hl hr
   intro hφ
   obtain ⟨h0, h1, h2, h3⟩ := hφ
   obtain ⟨p, cap, g, off, sz', hcv, _, hcap, hnone, hne, hrl, f, hc, hv⟩ := hx.list_inv
   have hlen : ((rows.take r.toNat).drop l.toNat).length = r.toNat - l.toNat := by rw [BW, BJ]; omega
   refine .run (run p rows.length cap l r (nomx e0) hcv (Ew hlo hl) (Ew hhi hr) h0 h1 (by omega) hcap) (Ay.same hm (.pur ?_))
   have hget : ∀ i, i < r.toNat - l.toNat -> ((rows.take r.toNat).drop l.toNat)[i]? = rows[l.toNat + i]? := fun i hi => by
    rw [Jl, Ir (by omega)]
   rw [<- hlen]
   by_cases hrow : rows = []
   ·subst hrow
    have hl0 : l = 0 := by simp only [Ax] at h2; omega
    have hr0 : r = 0 := by simp only [Ax] at h2; omega
    subst hl0 hr0
    refine .list _ false _ _ 0 0 0 (fun _ _ => undef) (fun e => (by cases e)) (by simp) (fun e => ?_) (.inl (by simp)) (fun r hr => by simp at hr) (fun i j hi _ => (by simp at hi)) (fun i j r v hi => by simp at hi)
    by_cases hz : cap = 0
    ·simp [hz]
    ·have : (if cap = (0 : Int).toNat then p else p.map (·.add ((0 : Int).toNat * sz))) = p.map (·.add ((0 : Int).toNat * sz)) := if_neg (by simpa using hz)
     rw [this] at e
     have hp : p = none := by cases p with | none => rfl | some q => cases e
     rw [hnone hp]; rfl
   ·obtain ⟨rfl, hM⟩ := hne.resolve_left hrow
    have hss : sz' = sz := by
     obtain ⟨q, hq⟩ := NK _ hrow
     rw [<- hrl q hq, h3 q hq]
    subst hss
    have hpos : 0 < rows.length := Ns.2 hrow
    refine .list _ false _ _ sz' g (off + l.toNat * sz') (fun i j => f (l.toNat + i) j) (fun e => (by cases e)) (by rw [hlen]; omega) (fun e => ?_) ?_ (fun q hq => h3 q (EG (Fb hq))) (fun i j hi hj => ?_) (fun i j q v hi hj => ?_)
    ·split at e <;> cases e
    ·by_cases hemp : (rows.take r.toNat).drop l.toNat = []
     ·exact .inl hemp
     ·have hlt : l.toNat < r.toNat := by
       have : 0 < ((rows.take r.toNat).drop l.toNat).length := Ns.2 hemp
       omega
      refine .inr ⟨?_, hM⟩
      rw [if_neg (by omega)]
      simp only [Er, DW]
    ·rw [hlen] at hi
     have := hc (l.toNat + i) j (by omega) hj
     rwa [show off + (l.toNat + i) * sz' + j = off + l.toNat * sz' + i * sz' + j by rw [EJ]; omega] at this
    ·have hil : i < r.toNat - l.toNat := by rw [<- hlen]; exact (BQ.1 hi).1
     rw [hget i hil] at hi
     exact hv _ _ _ _ hi hj
  ·exact fun hφ => hφ.elim
 ·rename_i e0 e1
  rw [e1] at hx
  split
  ·rename_i l r hl hr
   intro hφ
   obtain ⟨rfl, rfl⟩ := hφ
   refine .run (run none 0 0 0 0 (nomx e0) hx.nils_inv (Ew hlo hl) (Ew hhi hr) (by omega) (by omega) (by omega) (by omega)) (Ay.same hm (.pur .nils))
  ·exact fun hφ => hφ.elim
 ·rename_i n len e0 e1
  rw [e1] at hx
  obtain ⟨t', sz', rows, hn, hle, hv⟩ := hx.own_inv
  rw [hn]
  dsimp only
  split
  ·rename_i l r hl hr
   intro hφ
   obtain ⟨q1, q2, q3, h0, h1, h2⟩ := hφ
   subst q2
   obtain ⟨xs, hown, _⟩ := hm.obj n _ hn
   have hcv := hv q1
   rcases hown.2 with ⟨e, hz⟩ | ⟨g, cap, cur, e, _, hh, hnc, _⟩
   ·omega
   ·rw [e, q1] at hcv
    refine .run (run _ len cap l r (nomx e0) hcv (Ew hlo hl) (Ew hhi hr) h0 h1 (by omega) (by omega)) (Ay.same hm ?_)
    rw [adr g 0 l.toNat cap cap]
    exact .vw n l.toNat (r.toNat - l.toNat) len false t' sz' rows _ hn hle (by omega) rfl (fun _ => ⟨g, cap, _, _, by rw [e, q1], rfl, by omega, fun e => (by cases e), fun _ => by omega, fun hc => by rw [if_neg (by omega), CI]⟩)
  ·exact fun hφ => hφ.elim
 ·rename_i n off ln m fit e0 e1
  rw [e1] at hx
  obtain ⟨t', sz', rows, hn, hle, hb, hv⟩ := hx.vw_inv
  rw [hn]
  dsimp only
  split
  ·rename_i l r hl hr
   intro hφ
   obtain ⟨q1, q2, q3, h0, h1, h2⟩ := hφ
   subst q2 q3
   obtain ⟨g, cap0, ad, cap, e, hcv, hlc, _, hf, ha⟩ := hv q1
   have hmc := hf rfl
   by_cases hc0 : cap = 0
   ·subst hc0
    refine .run (run _ ln 0 l r (nomx e0) hcv (Ew hlo hl) (Ew hhi hr) h0 h1 (by omega) (by omega)) (Ay.same hm ?_)
    rw [if_pos (by omega)]
    exact .vw n (off + l.toNat) (r.toNat - l.toNat) m false t' sz' rows _ hn hle (by omega) rfl (fun _ => ⟨g, cap0, _, _, e, rfl, by omega, fun e => (by cases e), fun _ => by omega, fun hc => by omega⟩)
   ·rw [ha (by omega)] at hcv
    refine .run (run _ ln cap l r (nomx e0) hcv (Ew hlo hl) (Ew hhi hr) h0 h1 (by omega) (by omega)) (Ay.same hm ?_)
    rw [adr g (off * sz') l.toNat cap cap]
    exact .vw n (off + l.toNat) (r.toNat - l.toNat) m false t' sz' rows _ hn hle (by omega) rfl (fun _ => ⟨g, cap0, _, _, e, rfl, by omega, fun e => (by cases e), fun _ => by omega, fun hc => by rw [if_neg (by omega), EJ]⟩)
  ·exact fun hφ => hφ.elim
 ·rename_i kc c rows fit e0 e1
  rw [e1] at hx
  split
  ·rename_i l k1 r hl hr
   intro hφ
   obtain ⟨h0, h1, h2, h2c, h3⟩ := hφ
   obtain ⟨p, cap, g, off, sz', hcv, _, hcap, hnone, hne, hrl, f, hc, hv⟩ := hx.list_inv
   have hlen : ((rows.take r.toNat).drop l.toNat).length = r.toNat - l.toNat := by rw [BW, BJ]; omega
   refine .run (run3 p rows.length cap l r c kc (somx e0) hcv (Ew hlo hl) (sohi hr) h0 h1 h2 (by omega)) (Ay.same hm (.pur ?_))
   have hget : ∀ i, i < r.toNat - l.toNat -> ((rows.take r.toNat).drop l.toNat)[i]? = rows[l.toNat + i]? := fun i hi => by
    rw [Jl, Ir (by omega)]
   rw [<- hlen]
   by_cases hrow : ((rows.take r.toNat).drop l.toNat) = []
   ·have hlr : l = r := by rw [hrow] at hlen; simp only [Ax] at hlen; omega
    rw [hrow]
    refine .list [] _ _ _ 0 0 0 (fun _ _ => undef) (fun e => ?_) (As _) (fun e => ?_) (.inl rfl) (fun r hr => by simp at hr) (fun i j hi _ => (by simp at hi)) (fun i j r v hi => by simp at hi)
    ·have := of_decide_eq_true e; simp only [Ax]; omega
    ·split at e
     ·omega
     ·have hp : p = none := by cases p with | none => rfl | some q => cases e
      have := hnone hp; omega
   ·have hrow0 : rows ≠ [] := fun e => hrow (by rw [e]; simp)
    obtain ⟨rfl, hM⟩ := hne.resolve_left hrow0
    have hss : sz' = sz := by
     obtain ⟨q, hq⟩ := NK _ hrow0
     rw [<- hrl q hq, h3 q hq]
    subst hss
    have hlt : l.toNat < r.toNat := by
     have : 0 < ((rows.take r.toNat).drop l.toNat).length := Ns.2 hrow
     omega
    refine .list _ _ _ _ sz' g (off + l.toNat * sz') (fun i j => f (l.toNat + i) j) (fun e => by have := of_decide_eq_true e; rw [hlen]; omega) (by rw [hlen]; omega) (fun e => ?_) (.inr ⟨?_, hM⟩) (fun q hq => h3 q (EG (Fb hq))) (fun i j hi hj => ?_) (fun i j q v hi hj => ?_)
    ·split at e <;> cases e
    ·rw [if_neg (by omega)]
     simp only [Er, DW]
    ·rw [hlen] at hi
     have := hc (l.toNat + i) j (by omega) hj
     rwa [show off + (l.toNat + i) * sz' + j = off + l.toNat * sz' + i * sz' + j by rw [EJ]; omega] at this
    ·have hil : i < r.toNat - l.toNat := by rw [<- hlen]; exact (BQ.1 hi).1
     rw [hget i hil] at hi
     exact hv _ _ _ _ hi hj
  ·exact fun hφ => hφ.elim
 ·rename_i kc c n len e0 e1
  rw [e1] at hx
  obtain ⟨t', sz', rows, hn, hle, hv⟩ := hx.own_inv
  rw [hn]
  dsimp only
  split
  ·rename_i l k1 r hl hr
   intro hφ
   obtain ⟨q1, q2, q3, h0, h1, h2, h3, h4⟩ := hφ
   subst q2
   obtain ⟨xs, hown, _⟩ := hm.obj n _ hn
   have hcv := hv q1
   rcases hown.2 with ⟨e, hz⟩ | ⟨g, cap, cur, e, _, hh, hnc, _⟩
   ·omega
   ·rw [e, q1] at hcv
    refine .run (run3 _ len cap l r c kc (somx e0) hcv (Ew hlo hl) (sohi hr) h0 h1 h2 (by omega)) (Ay.same hm ?_)
    rw [adr g 0 l.toNat cap c.toNat]
    exact .vw n l.toNat (r.toNat - l.toNat) len (decide (r = c)) t' sz' rows _ hn hle (by omega) rfl (fun _ => ⟨g, cap, _, _, by rw [e, q1], rfl, by omega, fun e => (by have := of_decide_eq_true e; omega), fun e => by have := of_decide_eq_false e; omega, fun hc => by rw [if_neg (by omega), CI]⟩)
  ·exact fun hφ => hφ.elim
 ·rename_i kc c n off ln m fit e0 e1
  rw [e1] at hx
  obtain ⟨t', sz', rows, hn, hle, hb, hv⟩ := hx.vw_inv
  rw [hn]
  dsimp only
  split
  ·rename_i l k1 r hl hr
   intro hφ
   obtain ⟨q1, q2, q3, h0, h1, h2, h3, h4⟩ := hφ
   subst q2 q3
   obtain ⟨g, cap0, ad, cap, e, hcv, hlc, _, hf, ha⟩ := hv q1
   have hmc := hf rfl
   obtain ⟨k1, k2, k3, k4⟩ := AnE h0 h1 h2 h3 h4
   by_cases hc0 : cap = 0
   ·subst hc0
    refine .run (run3 _ ln 0 l r c kc (somx e0) hcv (Ew hlo hl) (sohi hr) h0 h1 h2 (by omega)) (Ay.same hm ?_)
    rw [if_pos (by omega)]
    exact .vw n (off + l.toNat) (r.toNat - l.toNat) m (decide (r = c)) t' sz' rows _ hn hle k4 rfl (fun _ => ⟨g, cap0, _, _, e, rfl, k1, k2, k3, fun hc => absurd hc (by omega)⟩)
   ·rw [ha (by omega)] at hcv
    refine .run (run3 _ ln cap l r c kc (somx e0) hcv (Ew hlo hl) (sohi hr) h0 h1 h2 (by omega)) (Ay.same hm ?_)
    rw [adr g (off * sz') l.toNat cap c.toNat]
    exact .vw n (off + l.toNat) (r.toNat - l.toNat) m (decide (r = c)) t' sz' rows _ hn hle k4 rfl (fun _ => ⟨g, cap0, _, _, e, rfl, k1, k2, k3, fun hc => by rw [if_neg (by omega), EJ]⟩)
  ·exact fun hφ => hφ.elim
 ·exact fun hφ => hφ.elim
end
def mkE : List (Nat × V) -> Nat -> V
 | [], _ => .any
 | (t, v) :: r, u => if u = t then v else mkE r u
def mkH : List (Nat × Ob) -> Nat -> Option Ob
 | [], _ => none
 | (t, v) :: r, u => if u = t then some v else mkH r u
theorem AaX : ∀ {l : List (Nat × V)} {t : Nat}, mkE l t = .any \/ (t, mkE l t) ∈ l
 | [], _ => .inl rfl
 | (u, v) :: r, t => by
  unfold mkE
  by_cases e : t = u
  ·subst e; rw [if_pos rfl]; exact .inr (AH ..)
  ·rw [if_neg e]; exact (AaX (l := r)).imp id (AU _)
theorem LY : ∀ {l : List (Nat × Ob)} {t : Nat} {o : Ob}, mkH l t = some o -> (t, o) ∈ l
 | [], _, _, h => by cases h
 | (u, v) :: r, t, o, h => by
  unfold mkH at h
  by_cases e : t = u
  ·subst e; rw [if_pos rfl] at h; injection h with h; subst h; exact AH ..
  ·rw [if_neg e] at h; exact AU _ (LY h)
theorem NQ : ∀ {l : List (Nat × Ob)} {t : Nat}, t ∈ l.map (·.1) -> (mkH l t).isSome = true
 | [], _, h => by cases h
 | (u, v) :: r, t, h => by
  unfold mkH
  by_cases e : t = u
  ·rw [if_pos e]; rfl
  ·rw [if_neg e]
   rcases AN.1 h with h | h
   ·exact absurd h e
   ·exact NQ h
theorem Ahp {l : List (Nat × Ob)} {t : Nat} (h : (mkH l t).isSome = true) : t ∈ l.map (·.1) := by
 obtain ⟨o, ho⟩ := Fv.1 h
 exact Am.2 ⟨_, LY ho, rfl⟩
mutual
def V.nin (dom : List Nat) : V -> Bool
 | .ptr n _ => dom.contains n
 | .eptr n _ _ _ => dom.contains n
 | .own n _ => dom.contains n
 | .iown _ n _ => dom.contains n
 | .vw n _ _ _ _ => dom.contains n
 | .map n => dom.contains n
 | .agg vs => V.nins dom vs
 | .tup vs => V.nins dom vs
 | .fn _ vs => V.nins dom vs
 | .when _ v => v.nin dom
 | .any => true
 | .bool _ => true
 | .int _ _ => true
 | .str _ => true
 | .nils => true
 | .nilp => true
 | .nilm => true
 | .pin _ => true
 | .fmap _ => true
 | .list _ _ => true
 | .row _ _ => true
def V.nins (dom : List Nat) : List V -> Bool
 | [] => true
 | v :: vs => v.nin dom && V.nins dom vs
end
theorem HF {dom : List Nat} {vs : List V} (hp : V.nins dom vs = true) : ∀ {i : Nat} {v : V}, vs[i]? = some v -> v.nin dom = true := by
 intro i v hi
 induction vs generalizing i with
 | nil => simp at hi
 | cons u us ih =>
  simp only [V.nins, Bx] at hp
  cases i with
  | zero => simp only [Fa, BS] at hi; subst hi; exact hp.1
  | succ i => rw [DM] at hi; exact ih hp.2 hi
mutual
def V.ren (σ : Nat -> Nat) : V -> V
 | .ptr n o => .ptr (σ n) o
 | .eptr n l i o => .eptr (σ n) l i o
 | .own n l => .own (σ n) l
 | .iown tt n l => .iown tt (σ n) l
 | .vw n o l m f => .vw (σ n) o l m f
 | .map n => .map (σ n)
 | .agg vs => .agg (V.rens σ vs)
 | .tup vs => .tup (V.rens σ vs)
 | .fn f vs => .fn f (V.rens σ vs)
 | .when b v => .when b (v.ren σ)
 | .any => .any
 | .bool b => .bool b
 | .int k n => .int k n
 | .str s => .str s
 | .nils => .nils
 | .nilp => .nilp
 | .nilm => .nilm
 | .pin cv => .pin cv
 | .fmap es => .fmap es
 | .list r f => .list r f
 | .row vs o => .row vs o
def V.rens (σ : Nat -> Nat) : List V -> List V
 | [] => []
 | v :: vs => v.ren σ :: V.rens σ vs
end
theorem TT (σ : Nat -> Nat) : ∀ (vs : List V), V.rens σ vs = vs.map (V.ren σ)
 | [] => by simp only [V.rens, HC]
 | v :: vs => by simp only [V.rens, BE, TT σ vs]
def NX (σ : Nat -> Nat) (rows : List (List V)) : List (List V) := rows.map (V.rens σ)
theorem Js (σ : Nat -> Nat) (rows : List (List V)) : (NX σ rows).length = rows.length := Ac _
mutual
theorem V.ren_pur (σ : Nat -> Nat) : ∀ v : V, v.pur = true -> v.ren σ = v
 | .ptr _ _, h | .eptr _ _ _ _, h | .own _ _, h | .iown _ _ _, h | .vw _ _ _ _ _, h | .map _, h => by simp [V.pur] at h
 | .any, _ | .bool _, _ | .int _ _, _ | .str _, _ | .nils, _ | .nilp, _ | .nilm, _ | .pin _, _ | .fmap _, _ | .list _ _, _ | .row _ _, _ => by simp only [V.ren]
 | .agg vs, h | .tup vs, h | .fn _ vs, h => by simp only [V.pur] at h; simp only [V.ren]; rw [V.rens_pur σ vs h]
 | .when _ v, h => by simp only [V.pur] at h; simp only [V.ren]; rw [V.ren_pur σ v h]
theorem V.rens_pur (σ : Nat -> Nat) : ∀ vs : List V, V.purs vs = true -> V.rens σ vs = vs
 | [], _ => by simp only [V.rens]
 | v :: vs, h => by simp only [V.purs, Bx] at h; simp only [V.rens]; rw [V.ren_pur σ v h.1, V.rens_pur σ vs h.2]
end
theorem BF {σ : Nat -> Nat} {rows : List (List V)} (h : ∀ r ∈ rows, V.purs r = true) : NX σ rows = rows := by
 unfold NX
 conv => rhs; rw [<- List.map_id rows]
 exact FZ fun r hr => V.rens_pur σ r (h r hr)
def Ob.ren (σ : Nat -> Nat) : Ob -> Ob
 | .box t cells => .box t (V.rens σ cells)
 | .arr t sz rows => .arr t sz (NX σ rows)
 | .mp es => .mp (es.map fun p => (p.1, p.2.ren σ))
def Ob.nin (dom : List Nat) : Ob -> Prop
 | .box _ cells => V.nins dom cells = true
 | .arr _ _ rows => (∀ r ∈ rows, V.purs r = true) \/ ∀ r ∈ rows, V.nins dom r = true
 | .mp es => ∀ p ∈ es, p.2.nin dom = true
def Ob.kind : Ob -> Ob -> Prop
 | .box t _, .box t' _ => t' = t
 | .arr t sz _, .arr t' sz' _ => t' = t /\ sz' = sz
 | .mp _, .mp _ => True
 | _, _ => False
section
variable {w : World} {M M2 : Nat -> Prop} {ι ι2 : Nat -> Value} {h h2 : Nat -> Option Ob}
structure Ren (dom : List Nat) (σ : Nat -> Nat) (ι : Nat -> Value) (h : Nat -> Option Ob) (ι2 : Nat -> Value) (h2 : Nat -> Option Ob) : Prop where
 hd : ∀ n ∈ dom, ι2 (σ n) = ι n
 box : ∀ n ∈ dom, ∀ t c, h n = some (.box t c) -> ∃ c', h2 (σ n) = some (.box t c')
 arr : ∀ n ∈ dom, ∀ t sz r, h n = some (.arr t sz r) -> ∃ r', r'.length = r.length /\ h2 (σ n) = some (.arr t sz r')
 mp : ∀ n ∈ dom, ∀ es, h n = some (.mp es) -> ∃ es', h2 (σ n) = some (.mp es')
theorem ID {σ : Nat -> Nat} {vs : List V} {i : Nat} {v : V} (hi : (V.rens σ vs)[i]? = some v) : ∃ u, vs[i]? = some u /\ v = u.ren σ := by
 rw [TT, BC] at hi
 obtain ⟨u, hu, e⟩ := AY.1 hi
 exact ⟨u, hu, e.symm⟩
theorem HI (σ : Nat -> Nat) (vs : List V) : (V.rens σ vs).length = vs.length := by rw [TT, Ac]
theorem Pur.ren {v : V} {cv : Value} (hp : Pur M w v cv) (σ : Nat -> Nat) : Pur M w (v.ren σ) cv := by
 induction hp with
 | agg vs cs hl ho _ ih =>
  simp only [V.ren]
  refine .agg _ cs (by rw [HI]; exact hl) ho (fun i v hi => ?_)
  obtain ⟨u, hu, rfl⟩ := ID hi
  exact ih i u hu
 | tup vs cs hl _ ih =>
  simp only [V.ren]
  refine .tup _ cs (by rw [HI]; exact hl) (fun i v hi => ?_)
  obtain ⟨u, hu, rfl⟩ := ID hi
  exact ih i u hu
 | fn n vs cs hl _ ih =>
  simp only [V.ren]
  refine .fn n _ cs (by rw [HI]; exact hl) (fun i v hi => ?_)
  obtain ⟨u, hu, rfl⟩ := ID hi
  exact ih i u hu
 | when b v cv _ hf ih => simp only [V.ren]; exact .when b _ cv ih hf
 | any cv => simp only [V.ren]; exact .any cv
 | bool b => simp only [V.ren]; exact .bool b
 | int k n => simp only [V.ren]; exact .int k n
 | str s => simp only [V.ren]; exact .str s
 | nils => simp only [V.ren]; exact .nils
 | nilp => simp only [V.ren]; exact .nilp
 | nilm => simp only [V.ren]; exact .nilm
 | pin cv => simp only [V.ren]; exact .pin cv
 | fmap es es0 b ents clock f hb hh hs he hv _ => simp only [V.ren]; exact .fmap es es0 b ents clock f hb hh hs he hv
 | list rows fit a cap sz g off f hf hcap hn ha hr hc hv _ => simp only [V.ren]; exact .list rows fit a cap sz g off f hf hcap hn ha hr hc hv
 | row vs off g o f hg hc hv _ => simp only [V.ren]; exact .row vs off g o f hg hc hv
theorem Rel.ren {dom : List Nat} {σ : Nat -> Nat} (hM : ∀ b, M b -> M2 b) (hk : Ren dom σ ι h ι2 h2) {v : V} {cv : Value} (r : Rel M w ι h v cv) : v.nin dom = true -> Rel M2 w ι2 h2 (v.ren σ) cv := by
 induction r with
 | pur hp => exact fun _ => .pur ((hp.wide hM).ren σ)
 | agg vs cs hl ho _ ih =>
  intro hn
  simp only [V.nin] at hn
  simp only [V.ren]
  refine .agg _ cs (by rw [HI]; exact hl) ho (fun i v hi => ?_)
  obtain ⟨u, hu, rfl⟩ := ID hi
  exact ih i u hu (HF hn hu)
 | tup vs cs hl _ ih =>
  intro hn
  simp only [V.nin] at hn
  simp only [V.ren]
  refine .tup _ cs (by rw [HI]; exact hl) (fun i v hi => ?_)
  obtain ⟨u, hu, rfl⟩ := ID hi
  exact ih i u hu (HF hn hu)
 | fn n vs cs hl _ ih =>
  intro hn
  simp only [V.nin] at hn
  simp only [V.ren]
  refine .fn n _ cs (by rw [HI]; exact hl) (fun i v hi => ?_)
  obtain ⟨u, hu, rfl⟩ := ID hi
  exact ih i u hu (HF hn hu)
 | when b v cv _ hf ih =>
  intro hn
  simp only [V.nin] at hn
  simp only [V.ren]
  exact .when b _ cv (fun e => ih e hn) hf
 | ptrb n off b t cells ho hb =>
  intro hn
  simp only [V.nin, GZ] at hn
  simp only [V.ren]
  obtain ⟨c', hc'⟩ := hk.box n hn t cells ho
  exact .ptrb _ off b t c' hc' ((hk.hd n hn).trans hb)
 | eptr n len i off t sz rows cv ho hle hs hv =>
  intro hn
  simp only [V.nin, GZ] at hn
  simp only [V.ren]
  obtain ⟨r', e1, e2⟩ := hk.arr n hn t sz rows ho
  exact .eptr _ len i off t sz r' cv e2 (by omega) hs (fun e => by rw [hk.hd n hn]; exact hv (by omega))
 | own n len t sz rows cv ho hle hv hs =>
  intro hn
  simp only [V.nin, GZ] at hn
  simp only [V.ren]
  obtain ⟨r', e1, e2⟩ := hk.arr n hn t sz rows ho
  exact .own _ len t sz r' cv e2 (by omega) (fun e => by rw [hk.hd n hn]; exact hv (by omega)) hs
 | iown tt n len t sz rows cv ho hle hv hs =>
  intro hn
  simp only [V.nin, GZ] at hn
  simp only [V.ren]
  obtain ⟨r', e1, e2⟩ := hk.arr n hn t sz rows ho
  exact .iown tt _ len t sz r' cv e2 (by omega) (fun e => by rw [hk.hd n hn]; exact hv (by omega)) hs
 | vw n off len m fit t sz rows cv ho hle hb hs hv =>
  intro hn
  simp only [V.nin, GZ] at hn
  simp only [V.ren]
  obtain ⟨r', e1, e2⟩ := hk.arr n hn t sz rows ho
  exact .vw _ off len m fit t sz r' cv e2 (by omega) hb hs (fun e => by rw [hk.hd n hn]; exact hv (by omega))
 | map n es ho cv hv hs =>
  intro hn
  simp only [V.nin, GZ] at hn
  simp only [V.ren]
  obtain ⟨e', he'⟩ := hk.mp n hn es ho
  exact .map _ e' he' cv (hv.trans (hk.hd n hn).symm) hs
theorem obR.ren {dom : List Nat} {σ : Nat -> Nat} (hM : ∀ b, M b -> M2 b) (hk : Ren dom σ ι h ι2 h2) {n : Nat} (hn : n ∈ dom) {o : Ob} (hr : obR M w ι h n o) (hd : o.nin dom) : obR M2 w ι2 h2 (σ n) (o.ren σ) := by
 cases o with
 | box t c =>
  obtain ⟨b, cs, e, hh, hl, ho, hv⟩ := hr
  refine ⟨b, cs, (hk.hd n hn).trans e, hh, by rw [HI]; exact hl, ho, fun i v hi => ?_⟩
  obtain ⟨u, hu, rfl⟩ := ID hi
  exact (hv i u hu).ren hM hk (HF hd hu)
 | arr t sz rows =>
  obtain ⟨xs, hown, hrl, hx1, hv⟩ := hr
  refine ⟨xs, by rw [hk.hd n hn, Js]; exact hown, fun r hr => ?_, hx1, fun i j r v h1 h2 => ?_⟩
  ·obtain ⟨r0, hr0, rfl⟩ := Am.1 hr
   rw [HI]; exact hrl r0 hr0
  ·unfold NX at h1
   rw [BC] at h1
   obtain ⟨r0, hr0, rfl⟩ := AY.1 h1
   obtain ⟨u, hu, rfl⟩ := ID h2
   have hr := hv i j r0 u hr0 hu
   rcases hd with hd | hd
   ·have hp := Gx (hd r0 (Bk hr0)) hu
    rw [V.ren_pur σ u hp]
    exact .pur ((hr.toPur hp).wide hM)
   ·exact hr.ren hM hk (HF (hd r0 (Bk hr0)) hu)
 | mp es =>
  obtain ⟨b, ents, clock, e, hh, es0, hl, hv⟩ := hr
  refine ⟨b, ents, clock, (hk.hd n hn).trans e, hh, es0.map (fun p => (p.1, p.2.ren σ)), ⟨hl.perm.map _, by rw [Ac]; exact hl.len, hl.st, by rw [Kw]; exact hl.nd⟩, fun i kv hi => ?_⟩
  rw [BC] at hi
  obtain ⟨p, hp, rfl⟩ := AY.1 hi
  obtain ⟨en, h1, h2', h3⟩ := hv i p hp
  exact ⟨en, h1, h2', h3.ren hM hk (hd p (hl.perm.mem_iff.1 (Bk hp)))⟩
end
def hov : List (Nat × Ob) -> (Nat -> Option Ob) -> Nat -> Option Ob
 | [], h, m => h m
 | (n, o) :: r, h, m => if m = n then some o else hov r h m
def rn : List (Nat × Nat) -> Nat -> Nat
 | [], n => n
 | (a, b) :: r, n => if n = a then b else rn r n
def rni : List (Nat × Nat) -> Nat -> Nat
 | [], n => n
 | (a, b) :: r, n => if n = b then a else rni r n
def okL (L : List (Nat × Nat)) : Bool := (L.map (·.1)).Nodup && (L.map (·.2)).Nodup
theorem IE : ∀ {L : List (Nat × Nat)}, (L.map (·.1)).Nodup -> ∀ {a b : Nat}, (a, b) ∈ L -> rn L a = b
 | (c, d) :: r, hn, a, b, h => by
  rw [BE, Iw] at hn
  unfold rn
  rcases AN.1 h with e | e
  ·injection e with e1 e2; subst e1 e2; rw [if_pos rfl]
  ·rw [if_neg (fun e' => hn.1 (Am.2 ⟨_, e, e'⟩))]
   exact IE hn.2 e
theorem Me : ∀ {L : List (Nat × Nat)}, (L.map (·.2)).Nodup -> ∀ {a b : Nat}, (a, b) ∈ L -> rni L b = a
 | (c, d) :: r, hn, a, b, h => by
  rw [BE, Iw] at hn
  unfold rni
  rcases AN.1 h with e | e
  ·injection e with e1 e2; subst e1 e2; rw [if_pos rfl]
  ·rw [if_neg (fun e' => hn.1 (Am.2 ⟨_, e, e'⟩))]
   exact Me hn.2 e
def Ady (P : Program) (U : Tbl) (f : Nat) (vs : List V) (hl : List (Nat × Ob)) (v : V) (hl' : List (Nat × Ob)) : Prop :=
 Jw P f /\ ∀ (w : World) (M : Nat -> Prop) (ι : Nat -> Value) (cargs : Array Value), Mem (U := U) ⟨w, fun b => ∃ n, (mkH hl n).isSome = true /\ blk (ι n) = some b, 0, M, ι, mkH hl⟩ (mkH hl) w M ι -> cargs.size = vs.length ->
  (∀ (i : Nat) (u : V), vs[i]? = some u -> Rel M w ι (mkH hl) u (cargs.getD i undef)) ->
  Calls P f cargs w fun e w' => ∃ (cv : Value) (M' : Nat -> Prop) (ι' : Nat -> Value), e = .returned cv /\ Rel M' w' ι' (mkH hl') v cv /\ Mem (U := U) ⟨w, fun b => ∃ n, (mkH hl n).isSome = true /\ blk (ι n) = some b, 0, M, ι, mkH hl⟩ (mkH hl') w' M' ι'
def Adz (P : Program) (U : Tbl) (f : Nat) (vs : List V) (hl : List (Nat × Ob)) (v : V) (hl' : List (Nat × Ob)) : Prop :=
 ∀ (w : World) (M : Nat -> Prop) (ι : Nat -> Value) (cargs : Array Value), Mem (U := U) ⟨w, fun b => ∃ n, (mkH hl n).isSome = true /\ blk (ι n) = some b, 0, M, ι, mkH hl⟩ (mkH hl) w M ι -> cargs.size = vs.length ->
  (∀ (i : Nat) (u : V), vs[i]? = some u -> Rel M w ι (mkH hl) u (cargs.getD i undef)) ->
  ∃ (cv : Value) (w' : World) (M' : Nat -> Prop) (ι' : Nat -> Value), (callFunc f cargs).run P w = .ok (.value cv) w' /\ Rel M' w' ι' (mkH hl') v cv /\ Mem (U := U) ⟨w, fun b => ∃ n, (mkH hl n).isSome = true /\ blk (ι n) = some b, 0, M, ι, mkH hl⟩ (mkH hl') w' M' ι'
def Eff (P : Program) (U : Tbl) (f : Nat) (vs : List V) (hl : List (Nat × Ob)) (v : V) (hl' : List (Nat × Ob)) : Prop := Ady P U f vs hl v hl' \/ Adz P U f vs hl v hl'
structure EUse (h : Nat -> Option Ob) (L0 L1 : List (Nat × Nat)) (us : List V) (vs : List V) (hl : List (Nat × Ob)) (v : V) (hl' : List (Nat × Ob)) : Prop where
 okL : okL (L0 ++ L1) = true
 n1 : hl.map (·.1) = L0.map (·.1)
 n2 : hl'.map (·.1) = (L0 ++ L1).map (·.1)
 big : ∀ p ∈ L0, 1000 <= p.1
 new : ∀ p ∈ L1, h p.2 = none /\ p.2 < 1000
 obj : ∀ p ∈ L0, ∃ o, h p.2 = some o /\ mkH hl p.1 = some (o.ren (rni L0)) /\ o.nin (L0.map (·.2))
 args : V.rens (rni L0) us = vs
 argn : V.nins (L0.map (·.2)) us = true
 vn : v.nin (hl'.map (·.1)) = true
 on : ∀ q ∈ hl', q.2.nin (hl'.map (·.1))
 kind : ∀ p ∈ L0, ∀ o o', mkH hl p.1 = some o -> mkH hl' p.1 = some o' -> o.kind o'
section
variable {U : Tbl} {P : Program} {C : Ctx U} {h : Nat -> Option Ob} {w : World} {M : Nat -> Prop} {ι : Nat -> Value} {o : Oper} {a : Act}
theorem Aa8 {α : Type} {l r : List α} (h : (l ++ r).Nodup) : l.Nodup := (List.nodup_append.1 h).1
theorem AfA {f : Nat} {cargs : Array Value} {L0 L1 : List (Nat × Nat)} {us vs : List V} {hl hl' : List (Nat × Ob)} {v : V} (hrun : Jw P f -> (execOp a.eval o).run P w = .ok (.enter f cargs) w) (hrunX : (execOp a.eval o).run P w = (callFunc f cargs).run P w) (hE : Eff P U f vs hl v hl') (hu : EUse h L0 L1 us vs hl v hl')
  (hm : Mem C h w M ι) (hlen : cargs.size = us.length) (hx : ∀ (i : Nat) (u : V), us[i]? = some u -> Rel M w ι h u (cargs.getD i undef)) :
  CZ P o a w (Ay C h w M ι (hov (hl'.map fun q => (rn (L0 ++ L1) q.1, q.2.ren (rn (L0 ++ L1)))) h) (v.ren (rn (L0 ++ L1)))) := by
 have hok := hu.okL
 simp only [okL, Bx, decide_eq_true_eq, DO] at hok
 obtain ⟨nd1, nd2⟩ := hok
 have nd1' : ((L0 ++ L1).map (·.1)).Nodup := by rw [DO]; exact nd1
 have nd2' : ((L0 ++ L1).map (·.2)).Nodup := by rw [DO]; exact nd2
 have nd10 := Aa8 nd1
 have nd20 := Aa8 nd2
 let ιc : Nat -> Value := fun n => ι (rn L0 n)
 have inL0 : ∀ {n : Nat}, (mkH hl n).isSome = true -> ∃ b, (n, b) ∈ L0 /\ rn L0 n = b := fun {n} hs => by
  have := Ahp hs
  rw [hu.n1] at this
  obtain ⟨p, hp, rfl⟩ := Am.1 this
  exact ⟨p.2, hp, IE nd10 hp⟩
 have hren0 : Ren (L0.map (·.2)) (rni L0) ι h ιc (mkH hl) := by
  have key : ∀ n ∈ L0.map (·.2), ∃ a, (a, n) ∈ L0 /\ rni L0 n = a /\ rn L0 a = n := fun n hn => by
   obtain ⟨p, hp, rfl⟩ := Am.1 hn
   exact ⟨p.1, hp, Me nd20 hp, IE nd10 hp⟩
  refine ⟨fun n hn => ?_, fun n hn t c ho => ?_, fun n hn t sz r ho => ?_, fun n hn es ho => ?_⟩ <;> obtain ⟨a, ha, e1, e2⟩ := key n hn <;> rw [e1]
  ·show ι (rn L0 a) = ι n; rw [e2]
  ·obtain ⟨ob, g1, g2, _⟩ := hu.obj _ ha
   dsimp only at g1 g2
   rw [ho] at g1; injection g1 with g1; subst g1
   exact ⟨_, g2⟩
  ·obtain ⟨ob, g1, g2, _⟩ := hu.obj _ ha
   dsimp only at g1 g2
   rw [ho] at g1; injection g1 with g1; subst g1
   exact ⟨_, Js _ _, g2⟩
  ·obtain ⟨ob, g1, g2, _⟩ := hu.obj _ ha
   dsimp only at g1 g2
   rw [ho] at g1; injection g1 with g1; subst g1
   exact ⟨_, g2⟩
 have old : ∀ {n b : Nat}, (n, b) ∈ L0 -> (h b).isSome = true := fun {n b} hp => by obtain ⟨ob, g1, _⟩ := hu.obj _ hp; rw [g1]; rfl
 have hcm : Mem (U := U) ⟨w, fun b => ∃ n, (mkH hl n).isSome = true /\ blk (ιc n) = some b, 0, M, ιc, mkH hl⟩ (mkH hl) w M ιc := by
  refine ⟨fun n ob hn => ?_, fun n m b h1 h2 e1 e2 => ?_, fun n b hs hb => ?_, hm.lt, fun n b hs hb => .inl ⟨n, hs, hb⟩, AF _, fun _ _ _ => rfl, rfl, rfl, rfl, fun _ hb => hb, hm.tb, hm.tm, fun _ _ hb => .inl hb, fun n t sz r0 t' sz' rows _ h0 ho => ?_, fun n _ => ⟨fun _ _ _ => rfl, fun _ _ => rfl⟩⟩
  ·obtain ⟨b, hp, e⟩ := inL0 (by rw [hn]; rfl)
   obtain ⟨ob2, g1, g2, g3⟩ := hu.obj _ hp
   dsimp only at g1 g2
   rw [hn] at g2; injection g2 with g2
   have := (hm.obj b ob2 g1).ren (fun _ hb => hb) hren0 (Am.2 ⟨_, hp, rfl⟩) g3
   rw [show rni L0 b = n from Me nd20 hp, <- g2] at this
   exact this
  ·obtain ⟨b1, hp1, r1⟩ := inL0 h1
   obtain ⟨b2, hp2, r2⟩ := inL0 h2
   have e1' : blk (ι (rn L0 n)) = some b := e1
   have e2' : blk (ι (rn L0 m)) = some b := e2
   rw [r1] at e1'
   rw [r2] at e2'
   have := hm.dis b1 b2 b (old hp1) (old hp2) e1' e2'
   subst this
   rw [<- Me nd20 hp1, <- Me nd20 hp2]
  ·obtain ⟨b1, hp1, r1⟩ := inL0 hs
   have e1' : blk (ι (rn L0 n)) = some b := hb
   rw [r1] at e1'
   exact hm.imm b1 b (old hp1) e1'
  ·dsimp only at h0
   rw [ho] at h0
   injection h0 with h0
   injection h0 with _ _ h0
   subst h0
   exact ⟨AF _, fun _ => rfl⟩
 have hargs : ∀ (i : Nat) (u : V), vs[i]? = some u -> Rel M w ιc (mkH hl) u (cargs.getD i undef) := fun i u hi => by
  rw [<- hu.args] at hi
  obtain ⟨u', hu', rfl⟩ := ID hi
  exact (hx i u' hu').ren (fun _ hb => hb) hren0 (HF hu.argn hu')
 suffices post : ∀ (cv : Value) (w' : World) (M' : Nat -> Prop) (ι' : Nat -> Value), Rel M' w' ι' (mkH hl') v cv -> Mem (U := U) ⟨w, fun b => ∃ n, (mkH hl n).isSome = true /\ blk (ιc n) = some b, 0, M, ιc, mkH hl⟩ (mkH hl') w' M' ι' ->
   Ay C h w M ι (hov (hl'.map fun q => (rn (L0 ++ L1) q.1, q.2.ren (rn (L0 ++ L1)))) h) (v.ren (rn (L0 ++ L1))) cv w' by
  rcases hE with hE | hE
  ·refine .call (f := f) (args := cargs) (hrun hE.1) ((hE.2 w M ιc cargs hcm (by rw [<- hu.args, HI]; exact hlen) hargs).mono ?_)
   rintro e w' ⟨cv, M', ι', rfl, hrel, hm'⟩
   exact ⟨cv, rfl, post cv w' M' ι' hrel hm'⟩
  ·obtain ⟨cv, w', M', ι', h1, hrel, hm'⟩ := hE w M ιc cargs hcm (by rw [<- hu.args, HI]; exact hlen) hargs
   exact .run (hrunX.trans h1) (post cv w' M' ι' hrel hm')
 intro cv w' M' ι' hrel hm'
 generalize hσ : rn (L0 ++ L1) = σ at *
 have hσm : ∀ {a b : Nat}, (a, b) ∈ L0 ++ L1 -> σ a = b := fun hp => by rw [<- hσ]; exact IE nd1' hp
 let τ := rni (L0 ++ L1)
 have hτm : ∀ {a b : Nat}, (a, b) ∈ L0 ++ L1 -> τ b = a := fun hp => Me nd2' hp
 have hXm : ∀ {b : Nat}, (∃ n, (mkH hl n).isSome = true /\ blk (ιc n) = some b) -> ∃ m, (∃ a, (a, m) ∈ L0) /\ (h m).isSome = true /\ blk (ι m) = some b := by
  rintro b ⟨n, hs, hb⟩
  obtain ⟨m, hp, e⟩ := inL0 hs
  have hb' : blk (ι (rn L0 n)) = some b := hb
  rw [e] at hb'
  exact ⟨m, ⟨n, hp⟩, old hp, hb'⟩
 have dom' : ∀ {n : Nat}, n ∈ hl'.map (·.1) ↔ ∃ b, (n, b) ∈ L0 ++ L1 := fun {n} => by
  rw [hu.n2]
  exact ⟨fun hn => let ⟨p, hp, e⟩ := Am.1 hn; ⟨p.2, e ▸ hp⟩, fun ⟨b, hb⟩ => Am.2 ⟨_, hb, rfl⟩⟩
 let hn : Nat -> Option Ob := hov (hl'.map fun q => (σ q.1, q.2.ren σ)) h
 let ιn : Nat -> Value := fun m => if m ∈ (L0 ++ L1).map (·.2) then ι' (τ m) else ι m
 have hnL : ∀ {a b : Nat}, (a, b) ∈ L0 ++ L1 -> ∃ ob, mkH hl' a = some ob /\ hn b = some (ob.ren σ) /\ ιn b = ι' a := by
  intro a b hp
  obtain ⟨ob, hob⟩ := Fv.1 (NQ (dom'.2 ⟨b, hp⟩))
  refine ⟨ob, hob, ?_, ?_⟩
  ·show hov _ h b = _
   have key : ∀ (l : List (Nat × Ob)), (∀ q ∈ l, ∃ b, (q.1, b) ∈ L0 ++ L1) -> ∀ ob, mkH l a = some ob -> hov (l.map fun q => (σ q.1, q.2.ren σ)) h b = some (ob.ren σ) := by
    intro l
    induction l with
    | nil => intro _ ob ho; cases ho
    | cons q l ih =>
     intro hq ob ho
     obtain ⟨n, o2⟩ := q
     simp only [BE, hov]
     unfold mkH at ho
     by_cases e : a = n
     ·subst e
      rw [if_pos rfl] at ho
      injection ho with ho
      subst ho
      rw [if_pos (hσm hp).symm]
     ·rw [if_neg e] at ho
      obtain ⟨c, hc⟩ := hq _ (AH ..)
      rw [if_neg (fun e2 => e (by
       have e3 : σ n = c := hσm hc
       rw [e3] at e2
       subst e2
       rw [<- hτm hp, hτm hc]))]
      exact ih (fun q hq' => hq q (AU _ hq')) ob ho
   exact key hl' (fun q hq => dom'.1 (Am.2 ⟨q, hq, rfl⟩)) ob hob
  ·show (if b ∈ (L0 ++ L1).map (·.2) then ι' (τ b) else ι b) = _
   rw [if_pos (Am.2 ⟨_, hp, rfl⟩), hτm hp]
 have hnO : ∀ {m : Nat}, m ∉ (L0 ++ L1).map (·.2) -> hn m = h m /\ ιn m = ι m := by
  intro m hm0
  refine ⟨?_, if_neg hm0⟩
  show hov _ h m = _
  have key : ∀ (l : List (Nat × Ob)), (∀ q ∈ l, ∃ b, (q.1, b) ∈ L0 ++ L1) -> hov (l.map fun q => (σ q.1, q.2.ren σ)) h m = h m := by
   intro l
   induction l with
   | nil => intro _; rfl
   | cons q l ih =>
    intro hq
    simp only [BE, hov]
    obtain ⟨c, hc⟩ := hq _ (AH ..)
    rw [if_neg (fun e => hm0 (by rw [e, hσm hc]; exact Am.2 ⟨_, hc, rfl⟩))]
    exact ih (fun q hq' => hq q (AU _ hq'))
  exact key hl' (fun q hq => dom'.1 (Am.2 ⟨q, hq, rfl⟩))
 have split : ∀ m, (∃ a, (a, m) ∈ L0 ++ L1) \/ m ∉ (L0 ++ L1).map (·.2) := fun m => by
  by_cases c : m ∈ (L0 ++ L1).map (·.2)
  ·obtain ⟨p, hp, e⟩ := Am.1 c; exact .inl ⟨p.1, e ▸ hp⟩
  ·exact .inr c
 have renB : Ren (hl'.map (·.1)) σ ι' (mkH hl') ιn hn := by
  refine ⟨fun n hn' => ?_, fun n hn' t c ho => ?_, fun n hn' t sz r ho => ?_, fun n hn' es ho => ?_⟩ <;> obtain ⟨b, hp⟩ := dom'.1 hn' <;> obtain ⟨ob, g1, g2, g3⟩ := hnL hp <;> rw [hσm hp]
  ·exact g3
  ·rw [ho] at g1; injection g1 with g1; subst g1; exact ⟨_, g2⟩
  ·rw [ho] at g1; injection g1 with g1; subst g1; exact ⟨_, Js _ _, g2⟩
  ·rw [ho] at g1; injection g1 with g1; subst g1; exact ⟨_, g2⟩
 have hMM : ∀ b, M b -> M' b := hm'.base
 have hMw : ∀ b, M b -> w'.heap[b]? = w.heap[b]? := fun b hb => hm'.keep b (hm.lt b hb) (fun hX => by
  obtain ⟨m, _, h1, h2⟩ := hXm hX
  exact hm.imm m b h1 h2 hb)
 have notX : ∀ {m b : Nat}, m ∉ (L0 ++ L1).map (·.2) -> (h m).isSome = true -> blk (ι m) = some b -> ¬ ∃ n, (mkH hl n).isSome = true /\ blk (ιc n) = some b := by
  intro m b c h1 h2 hX
  obtain ⟨m2, ⟨a2, hp⟩, k1, k2⟩ := hXm hX
  have := hm.dis m m2 b h1 k1 h2 k2
  subst this
  exact c (Am.2 ⟨_, KC _ hp, rfl⟩)
 have kindOf : ∀ {a b : Nat}, (a, b) ∈ L0 -> ∀ ob, h b = some ob -> ∃ ob', mkH hl' a = some ob' /\ (ob.ren (rni L0)).kind ob' /\ mkH hl a = some (ob.ren (rni L0)) := by
  intro a b hp ob ho
  obtain ⟨ob1, g1, g2, _⟩ := hu.obj _ hp
  dsimp only at g1 g2
  rw [ho] at g1; injection g1 with g1; subst g1
  obtain ⟨ob', hob'⟩ := Fv.1 (NQ (dom'.2 ⟨b, KC _ hp⟩))
  exact ⟨ob', hob', hu.kind _ hp _ _ g2 hob', g2⟩
 have hk : Keeps h hn ι ιn := by
  refine ⟨fun m t c ho => ?_, fun m t sz r ho => ?_, fun m es ho => ?_⟩
  ·rcases split m with ⟨a, hp⟩ | hno
   ·rcases BT.1 hp with hp0 | hp1
    ·obtain ⟨ob', k1, k2, k3⟩ := kindOf hp0 _ ho
     obtain ⟨ob2, g1, g2, g3⟩ := hnL hp
     rw [k1] at g1; injection g1 with g1; subst g1
     cases ob' with
     | box t' c' =>
      have e : t' = t := k2
      subst e
      refine ⟨?_, _, g2⟩
      rw [g3, (hm'.pin a (hu.big _ hp0)).1 _ _ k1]
      show ι (rn L0 a) = ι m
      rw [IE nd10 hp0]
     | _ => exact k2.elim
    ·have := (hu.new _ hp1).1; dsimp only at this; rw [ho] at this; cases this
   ·obtain ⟨e1, e2⟩ := hnO hno
    exact ⟨e2, c, by rw [e1]; exact ho⟩
  ·rcases split m with ⟨a, hp⟩ | hno
   ·rcases BT.1 hp with hp0 | hp1
    ·obtain ⟨ob', k1, k2, k3⟩ := kindOf hp0 _ ho
     obtain ⟨ob2, g1, g2, g3⟩ := hnL hp
     rw [k1] at g1; injection g1 with g1; subst g1
     cases ob' with
     | arr t' sz' r' =>
      obtain ⟨e1, e2⟩ := (k2 : t' = t /\ sz' = sz)
      subst e1 e2
      obtain ⟨l1, l2⟩ := hm'.arr0 a _ _ _ _ _ _ (hu.big _ hp0) k3 k1
      rw [Js] at l1 l2
      refine ⟨_, g2, by rw [Js]; exact l1, fun he => ?_⟩
      rw [Js] at he
      rw [g3, l2 he]
      show ι (rn L0 a) = ι m
      rw [IE nd10 hp0]
     | _ => exact k2.elim
    ·have := (hu.new _ hp1).1; dsimp only at this; rw [ho] at this; cases this
   ·obtain ⟨e1, e2⟩ := hnO hno
    exact ⟨r, by rw [e1]; exact ho, AF _, fun _ => e2⟩
  ·rcases split m with ⟨a, hp⟩ | hno
   ·rcases BT.1 hp with hp0 | hp1
    ·obtain ⟨ob', k1, k2, k3⟩ := kindOf hp0 _ ho
     obtain ⟨ob2, g1, g2, g3⟩ := hnL hp
     rw [k1] at g1; injection g1 with g1; subst g1
     cases ob' with
     | mp es' =>
      refine ⟨?_, _, g2⟩
      rw [g3, (hm'.pin a (hu.big _ hp0)).2 _ k1]
      show ι (rn L0 a) = ι m
      rw [IE nd10 hp0]
     | _ => exact k2.elim
    ·have := (hu.new _ hp1).1; dsimp only at this; rw [ho] at this; cases this
   ·obtain ⟨e1, e2⟩ := hnO hno
    exact ⟨e2, es, by rw [e1]; exact ho⟩
 have isL : ∀ {a m : Nat}, (a, m) ∈ L0 ++ L1 -> (mkH hl' a).isSome = true := fun hp => NQ (dom'.2 ⟨_, hp⟩)
 have oldS : ∀ {m : Nat}, m ∉ (L0 ++ L1).map (·.2) -> (hn m).isSome = true -> (h m).isSome = true := fun hno hs => by rwa [(hnO hno).1] at hs
 refine ⟨M', ιn, ⟨fun m ob ho => ?_, fun m k b h1 h2 e1 e2 => ?_, fun m b hs hb => ?_, hm'.lt, fun m b hs hb => ?_, HB hm.size hm'.size, fun b hb hX => ?_, hm'.os.trans hm.os, hm'.tape.trans hm.tape, hm'.output.trans hm.output, fun b hb => hMM b (hm.base b hb), hm'.tb, hm'.tm, fun b hb hM2 => ?_, fun m t sz r0 t' sz' rows h1000 h0 ho => ?_, fun m h1000 => ?_⟩, ?_, hMM, hMw, hk⟩
 ·rcases split m with ⟨a, hp⟩ | hno
  ·obtain ⟨ob2, g1, g2, g3⟩ := hnL hp
   replace ho : hn m = some ob := ho
   rw [g2] at ho; injection ho with ho; subst ho
   have := (hm'.obj a ob2 g1).ren (fun _ hb => hb) renB (dom'.2 ⟨_, hp⟩) (hu.on _ (LY g1))
   rwa [hσm hp] at this
  ·obtain ⟨e1, e2⟩ := hnO hno
   replace ho : hn m = some ob := ho
   rw [e1] at ho
   exact (hm.obj m ob ho).keep hMM hMw hk e2 (fun b hb => hm'.keep b (hm.blt m b (by rw [ho]; rfl) hb) (notX hno (by rw [ho]; rfl) hb))
 ·rcases split m with ⟨a, hp⟩ | hno
  ·obtain ⟨_, _, _, g3⟩ := hnL hp
   rw [g3] at e1
   rcases split k with ⟨c, hq⟩ | hno2
   ·obtain ⟨_, _, _, q3⟩ := hnL hq
    rw [q3] at e2
    have := hm'.dis a c b (isL hp) (isL hq) e1 e2
    subst this
    rw [<- hσm hp, <- hσm hq]
   ·rw [(hnO hno2).2] at e2
    exfalso
    rcases hm'.may a b (isL hp) e1 with hX | hX
    ·exact notX hno2 (oldS hno2 h2) e2 hX
    ·have := hm.blt k b (oldS hno2 h2) e2
     dsimp only at hX
     omega
  ·rw [(hnO hno).2] at e1
   rcases split k with ⟨c, hq⟩ | hno2
   ·obtain ⟨_, _, _, q3⟩ := hnL hq
    rw [q3] at e2
    exfalso
    rcases hm'.may c b (isL hq) e2 with hX | hX
    ·exact notX hno (oldS hno h1) e1 hX
    ·have := hm.blt m b (oldS hno h1) e1
     dsimp only at hX
     omega
   ·rw [(hnO hno2).2] at e2
    exact hm.dis m k b (oldS hno h1) (oldS hno2 h2) e1 e2
 ·rcases split m with ⟨a, hp⟩ | hno
  ·obtain ⟨_, _, _, g3⟩ := hnL hp
   rw [g3] at hb
   exact hm'.imm a b (isL hp) hb
  ·rw [(hnO hno).2] at hb
   intro hM2
   rcases hm'.old b (hm.blt m b (oldS hno hs) hb) hM2 with h1 | h1
   ·exact hm.imm m b (oldS hno hs) hb h1
   ·exact notX hno (oldS hno hs) hb h1
 ·rcases split m with ⟨a, hp⟩ | hno
  ·obtain ⟨_, _, _, g3⟩ := hnL hp
   rw [g3] at hb
   rcases hm'.may a b (isL hp) hb with hX | hX
   ·obtain ⟨m2, _, k1, k2⟩ := hXm hX
    exact hm.may m2 b k1 k2
   ·exact .inr (HB hm.size hX)
  ·rw [(hnO hno).2] at hb
   exact hm.may m b (oldS hno hs) hb
 ·refine (hm'.keep b (Is hb hm.size) (fun hXc => ?_)).trans (hm.keep b hb hX)
  obtain ⟨m2, _, k1, k2⟩ := hXm hXc
  rcases hm.may m2 b k1 k2 with h1 | h1
  ·exact hX h1
  ·omega
 ·rcases hm'.old b (Is hb hm.size) hM2 with h1 | h1
  ·exact hm.old b hb h1
  ·obtain ⟨m2, _, k1, k2⟩ := hXm h1
   exact .inr ((hm.may m2 b k1 k2).resolve_right (by omega))
 ·rcases split m with ⟨a, hp⟩ | hno
  ·rcases BT.1 hp with hp0 | hp1
   ·obtain ⟨ob, hob⟩ := Fv.1 (old hp0)
    obtain ⟨ob', k1, k2, k3⟩ := kindOf hp0 _ hob
    obtain ⟨ob2, g1, g2, g3⟩ := hnL hp
    rw [k1] at g1; injection g1 with g1; subst g1
    replace ho : hn m = _ := ho
    rw [g2] at ho
    injection ho with ho
    cases ob' with
    | arr t2 sz2 r2 =>
     injection ho with _ _ ho
     subst ho
     cases ob with
     | arr t3 sz3 r3 =>
      obtain ⟨l1, l2⟩ := hm'.arr0 a _ _ _ _ _ _ (hu.big _ hp0) k3 k1
      obtain ⟨l3, l4⟩ := hm.arr0 m t sz r0 _ _ _ h1000 h0 hob
      have e9 := Js (rn (L0 ++ L1)) r2
      rw [Js] at l1 l2 ⊢
      refine ⟨by omega, fun he => ?_⟩
      rw [g3, l2 (by omega), <- l4 (by omega)]
      show ι (rn L0 a) = ι m
      rw [IE nd10 hp0]
     | _ => exact k2.elim
    | _ => cases ho
   ·have := (hu.new _ hp1).2; dsimp only at this; omega
  ·obtain ⟨e1, e2⟩ := hnO hno
   replace ho : hn m = _ := ho
   rw [e1] at ho
   rw [e2]
   exact hm.arr0 m t sz r0 t' sz' rows h1000 h0 ho
 ·rcases split m with ⟨a, hp⟩ | hno
  ·rcases BT.1 hp with hp0 | hp1
   ·obtain ⟨ob, hob⟩ := Fv.1 (old hp0)
    obtain ⟨ob', k1, k2, k3⟩ := kindOf hp0 _ hob
    obtain ⟨ob2, g1, g2, g3⟩ := hnL hp
    rw [k1] at g1; injection g1 with g1; subst g1
    have back : ιc a = ι m := by show ι (rn L0 a) = ι m; rw [IE nd10 hp0]
    refine ⟨fun t c hc => ?_, fun es hc => ?_⟩
    ·replace hc : hn m = _ := hc
     rw [g2] at hc
     injection hc with hc
     cases ob' with
     | box t2 c2 =>
      rw [g3, (hm'.pin a (hu.big _ hp0)).1 _ _ k1]
      cases ob with
      | box t3 c3 => exact back.trans ((hm.pin m h1000).1 _ _ hob)
      | _ => exact k2.elim
     | _ => cases hc
    ·replace hc : hn m = _ := hc
     rw [g2] at hc
     injection hc with hc
     cases ob' with
     | mp e2 =>
      rw [g3, (hm'.pin a (hu.big _ hp0)).2 _ k1]
      cases ob with
      | mp e3 => exact back.trans ((hm.pin m h1000).2 _ hob)
      | _ => exact k2.elim
     | _ => cases hc
   ·have := (hu.new _ hp1).2; dsimp only at this; omega
  ·obtain ⟨e1, e2⟩ := hnO hno
   show (∀ t c, hn m = _ -> ιn m = _) /\ ∀ es, hn m = _ -> ιn m = _
   rw [e1, e2]
   exact hm.pin m h1000
 ·exact hrel.ren (fun _ hb => hb) renB hu.vn
end
end Go.Proofs.YtjkclhbckfkeeaaGreatDoor
