import Derived.Test.YtllhcpjgilpbnaaDoorTs6
namespace Go.Proofs.YtllhcpjgilpbnaaDoor
open Go Go.RowKit
set_option linter.unusedSimpArgs false
set_option linter.unusedVariables false
set_option linter.deprecated false
theorem get_use {d : Option Nat} {s : St} {K : St → Prop} {cs : List Config} {L : List Leg} {i : Lid} {ν : Nat → Nat} (hB : LgsB L) (hν : Inj ν) (hat : ∀ q ∈ stO ν cs L, s.h q.1 = some q.2) (hK : K ⟨setE d (getV ν L i) s.e, s.h⟩) : EStep Tryd.prog UT d 48 [.ptr (ν 0) 0, .agg i.enc] s K := by
  refine use_fam (K1 := []) (ar := fun ν => [.ptr (ν 0) 0, .agg i.enc]) (vf := fun ν => [getV ν L i]) nu ν (stO_fam cs L) (by rw [List.append_nil]; exact stO_fam cs L) ((FamV.ptr 0 (stK_0 L)).cons (FamV.pure (vs := [.agg i.enc]) rfl fun _ => by simp [V.nins, V.nin, Lid.enc])) (by rw [List.append_nil]; exact getV_fam L i) (get_e cs L i hB) rfl rfl (fun k _ => by unfold nu; omega)
    (by rw [List.append_nil]; exact nu_inj.nd (stK_nd hB)) (by rw [List.append_nil]; exact hν.nd (stK_nd hB)) (fun k hk => nomatch hk) hat ⟨[], by rw [List.append_nil]⟩ fun v' h => ?_
  injection h with h _
  subst h
  rw [hov_same hat]
  exact hK
def legAt (L : List Leg) (i : Lid) : Option Leg := match legIx L i with
  | some j => L[j]?
  | none => none
def equipV : Option Leg → V
  | some x => .tup [.str x.conf.equip, .bool true]
  | none => .tup [.str [], .bool false]
def leftO (cls : List UInt8) : Option Leg → Int
  | some x => leftS x.conf x.sold cls
  | none => 0
def EFg : Nat → Bool := fun f => f == 48 || f == 26
theorem equip_e (cs : List Config) (L : List Leg) (i : Lid) (hB : LgsB L) : Eff Tryd.prog UT 47 [.ptr (nu 0) 0, .agg i.enc] (stO nu cs L) (equipV (legAt L i)) (stO nu cs L) := by
  have hG := tNo_ok
  have hTl := stO_at nu_inj (cs := cs) hB
  have hGe := stO_ge (cs := cs) (L := L)
  have hF := stO_fam cs L
  have e00 : nu 0 = 1000 := rfl
  have hlg := fun j (h : j < L.length) => st_leg nu_inj cs hB h
  obtain ⟨W, hW⟩ : ∃ x, x = legAt L i := ⟨_, rfl⟩
  have hWd := hW
  unfold legAt at hWd
  rw [← hW]
  have hgv : getV nu L i = match legIx L i with | some j => .ptr (nu (10 * j + 2)) 0 | none => .nilp := rfl
  rcases hix : legIx L i with _ | j
  · rw [hix] at hgv hWd
    dsimp only at hgv hWd
    subst hWd
    refine Eff.of_aw Tryd.func47 body47 nm47 res47 (by rw [nt47]; simp) fun C hN Q hQ => ?_
    rw [nt47] at hN
    unfold c47
    refine aw_seq (aw_region (EF := EFg) hG (by rw [hN]; exact tr47_0) ?_)
    simp only [a47_0, go_sem, simprocAttr, EFg, stO_lo, e00, Lid.enc]
    refine aw_seq (aw_region (EF := EFg) hG (by rw [hN]; exact tr47_1) ?_)
    simp only [a47_1, go_sem, simprocAttr, EFg, stO_lo, e00, Lid.enc]
    refine get_use (ν := nu) (i := i) hB nu_inj (fun q hq => by have hge := hGe q hq; (try dsimp only [hupd, hupds, hov]); (repeat rw [if_neg (by omega)]); exact hTl q hq) ?_
    simp only [go_sem, simprocAttr, hgv]
    refine aw_seq ?_
    refine aw_seq (aw_region (EF := EFg) hG (by rw [hN]; exact tr47_2) ?_)
    simp only [a47_2, go_sem, simprocAttr, EFg, stO_lo, e00, Lid.enc]
    refine aw_condT rfl ?_
    refine aw_seq (aw_region (EF := EFg) hG (by rw [hN]; exact tr47_3) ?_)
    simp only [a47_3, go_sem, simprocAttr, EFg, stO_lo, e00, Lid.enc]
    refine aw_ret ?_
    show Q _ _
    refine hQ _ _ ⟨mkE [(4, .str []), (5, .bool false)], mkH ([] ++ stO nu cs L)⟩ (.inl rfl) (Le.tail _ _ _ ?_ ?_ ?_ rfl) rfl ?_ ?_
    · exact fun q hq => ⟨by (have hge := hGe q hq; (try dsimp only [hupd, hupds, hov]); (repeat rw [if_neg (by omega)]); exact hTl q hq), Fam.ni1 (hF) q hq⟩
    all_goals simp only [outφ, outV, AR.res, go_sem, simprocAttr, equipV]
  · rw [hix] at hgv hWd
    obtain ⟨hj, _⟩ := legIx_some hix
    have hlj := hlg j hj
    dsimp only at hgv hWd
    rw [List.getElem?_eq_getElem hj] at hWd
    subst hWd
    refine Eff.of_aw Tryd.func47 body47 nm47 res47 (by rw [nt47]; simp) fun C hN Q hQ => ?_
    rw [nt47] at hN
    unfold c47
    refine aw_seq (aw_region (EF := EFg) hG (by rw [hN]; exact tr47_0) ?_)
    simp only [a47_0, go_sem, simprocAttr, EFg, stO_lo, e00, Lid.enc, nu_ne]
    refine aw_seq (aw_region (EF := EFg) hG (by rw [hN]; exact tr47_1) ?_)
    simp only [a47_1, go_sem, simprocAttr, EFg, stO_lo, e00, Lid.enc, nu_ne]
    refine get_use (ν := nu) (i := i) hB nu_inj (fun q hq => by have hge := hGe q hq; (try dsimp only [hupd, hupds, hov]); (repeat rw [if_neg (by omega)]); exact hTl q hq) ?_
    simp only [go_sem, simprocAttr, hgv]
    refine aw_seq ?_
    refine aw_seq (aw_region (EF := EFg) hG (by rw [hN]; exact tr47_2) ?_)
    simp only [a47_2, go_sem, simprocAttr, EFg, stO_lo, e00, Lid.enc, nu_ne]
    refine aw_condF rfl ?_
    refine aw_skip ?_
    try simp only [go_sem, simprocAttr]
    refine aw_seq (aw_region (EF := EFg) hG (by rw [hN]; exact tr47_4) ?_)
    simp only [a47_4, go_sem, simprocAttr, hlj, EFg, stO_lo, e00, Lid.enc, nu_ne]
    refine aw_ret ?_
    show Q _ _
    refine hQ _ _ ⟨mkE [(4, .str L[j].conf.equip), (5, .bool true)], mkH ([] ++ stO nu cs L)⟩ (.inl rfl) (Le.tail _ _ _ ?_ ?_ ?_ rfl) rfl ?_ ?_
    · exact fun q hq => ⟨by (have hge := hGe q hq; (try dsimp only [hupd, hupds, hov]); (repeat rw [if_neg (by omega)]); exact hTl q hq), Fam.ni1 (hF) q hq⟩
    all_goals simp only [outφ, outV, AR.res, go_sem, simprocAttr, equipV]
def LgsOk (L : List Leg) : Prop := ∀ x ∈ L, LegOk x.conf x.sold
theorem LgsOk.b {L : List Leg} (h : LgsOk L) : LgsB L := fun x hx => (h x hx).le
theorem inj_sh {ν : Nat → Nat} (h : Inj ν) (c : Nat) : Inj (fun k => ν (k + c)) := fun a b e => by have := h _ _ e; omega
theorem left_use {d : Option Nat} {s : St} {K : St → Prop} {cs : List Config} {L : List Leg} {cls : List UInt8} {ν : Nat → Nat} (hok : LgsOk L) {j : Nat} (hj : j < L.length) {nb : Nat} (hnb : ν (10 * j + 2) = nb) (hν : Inj ν) (hat : ∀ q ∈ stO ν cs L, s.h q.1 = some q.2) (hK : K ⟨setE d (.int .i64 (leftS L[j].conf L[j].sold cls)) s.e, s.h⟩) : EStep Tryd.prog UT d 26 [.ptr nb 0, .str cls] s K := by
  have := leg_use0 (ν := fun k => ν (k + (10 * j + 2))) (s := s) (K := K) (d := d) (left_e L[j].conf L[j].sold cls (hok _ (List.getElem_mem hj))) rfl (fun _ => by simp [V.nins, V.nin]) rfl (fun _ => rfl) (inj_sh hν _) (fun q hq => hat q (st_mem hj hq)) hK
  rw [show 0 + (10 * j + 2) = 10 * j + 2 by omega, hnb] at this
  exact this
theorem Left_e (cs : List Config) (L : List Leg) (i : Lid) (cls : List UInt8) (hok : LgsOk L) : Eff Tryd.prog UT 29 [.ptr (nu 0) 0, .agg i.enc, .str cls] (stO nu cs L) (.int .i64 (leftO cls (legAt L i))) (stO nu cs L) := by
  have hG := tNo_ok
  have hB := hok.b
  have hTl := stO_at nu_inj (cs := cs) hB
  have hGe := stO_ge (cs := cs) (L := L)
  have hF := stO_fam cs L
  have e00 : nu 0 = 1000 := rfl
  have hlg := fun j (h : j < L.length) => st_leg nu_inj cs hB h
  obtain ⟨W, hW⟩ : ∃ x, x = legAt L i := ⟨_, rfl⟩
  have hWd := hW
  unfold legAt at hWd
  rw [← hW]
  have hgv : getV nu L i = match legIx L i with | some j => .ptr (nu (10 * j + 2)) 0 | none => .nilp := rfl
  rcases hix : legIx L i with _ | j
  · rw [hix] at hgv hWd
    dsimp only at hgv hWd
    subst hWd
    refine Eff.of_aw Tryd.func29 body29 nm29 res29 (by rw [nt29]; simp) fun C hN Q hQ => ?_
    rw [nt29] at hN
    unfold c29
    refine aw_seq (aw_region (EF := EFg) hG (by rw [hN]; exact tr29_0) ?_)
    simp only [a29_0, go_sem, simprocAttr, EFg, stO_lo, e00, Lid.enc]
    refine aw_seq (aw_region (EF := EFg) hG (by rw [hN]; exact tr29_1) ?_)
    simp only [a29_1, go_sem, simprocAttr, EFg, stO_lo, e00, Lid.enc]
    refine get_use (ν := nu) (i := i) hB nu_inj (fun q hq => by have hge := hGe q hq; (try dsimp only [hupd, hupds, hov]); (repeat rw [if_neg (by omega)]); exact hTl q hq) ?_
    simp only [go_sem, simprocAttr, hgv]
    refine aw_seq ?_
    refine aw_seq (aw_region (EF := EFg) hG (by rw [hN]; exact tr29_2) ?_)
    simp only [a29_2, go_sem, simprocAttr, EFg, stO_lo, e00, Lid.enc]
    (repeat' apply And.intro) <;> try exact sdA
    refine aw_condT rfl ?_
    refine aw_seq (aw_region (EF := EFg) hG (by rw [hN]; exact tr29_3) ?_)
    simp only [a29_3, go_sem, simprocAttr, EFg, stO_lo, e00, Lid.enc]
    refine aw_ret ?_
    show Q _ _
    refine hQ _ _ ⟨mkE [(6, .int .i64 0)], mkH ([] ++ stO nu cs L)⟩ (.inl rfl) (Le.tail _ _ _ ?_ ?_ ?_ rfl) rfl ?_ ?_
    · exact fun q hq => ⟨by (have hge := hGe q hq; (try dsimp only [hupd, hupds, hov]); (repeat rw [if_neg (by omega)]); exact hTl q hq), Fam.ni1 (hF) q hq⟩
    all_goals simp only [outφ, outV, AR.res, go_sem, simprocAttr, leftO]
  · rw [hix] at hgv hWd
    obtain ⟨hj, _⟩ := legIx_some hix
    have hlj := hlg j hj
    dsimp only at hgv hWd
    rw [List.getElem?_eq_getElem hj] at hWd
    subst hWd
    refine Eff.of_aw Tryd.func29 body29 nm29 res29 (by rw [nt29]; simp) fun C hN Q hQ => ?_
    rw [nt29] at hN
    unfold c29
    refine aw_seq (aw_region (EF := EFg) hG (by rw [hN]; exact tr29_0) ?_)
    simp only [a29_0, go_sem, simprocAttr, EFg, stO_lo, e00, Lid.enc, nu_ne]
    refine aw_seq (aw_region (EF := EFg) hG (by rw [hN]; exact tr29_1) ?_)
    simp only [a29_1, go_sem, simprocAttr, EFg, stO_lo, e00, Lid.enc, nu_ne]
    refine get_use (ν := nu) (i := i) hB nu_inj (fun q hq => by have hge := hGe q hq; (try dsimp only [hupd, hupds, hov]); (repeat rw [if_neg (by omega)]); exact hTl q hq) ?_
    simp only [go_sem, simprocAttr, hgv]
    refine aw_seq ?_
    refine aw_seq (aw_region (EF := EFg) hG (by rw [hN]; exact tr29_2) ?_)
    simp only [a29_2, go_sem, simprocAttr, hlj, EFg, stO_lo, e00, Lid.enc, nu_ne]
    (repeat' apply And.intro) <;> try exact sdA
    refine aw_condF rfl ?_
    refine aw_skip ?_
    try simp only [go_sem, simprocAttr]
    refine aw_seq (aw_region (EF := EFg) hG (by rw [hN]; exact tr29_4) ?_)
    simp only [a29_4, go_sem, simprocAttr, EFg, stO_lo, e00, Lid.enc, nu_ne]
    refine left_use (ν := nu) (cs := cs) hok hj rfl nu_inj (fun q hq => by have hge := hGe q hq; (try dsimp only [hupd, hupds, hov]); (repeat rw [if_neg (by omega)]); exact hTl q hq) ?_
    simp only [go_sem, simprocAttr]
    refine aw_ret ?_
    show Q _ _
    refine hQ _ _ ⟨mkE [(6, .int .i64 (leftS L[j].conf L[j].sold cls))], mkH ([] ++ stO nu cs L)⟩ (.inl rfl) (Le.tail _ _ _ ?_ ?_ ?_ rfl) rfl ?_ ?_
    · exact fun q hq => ⟨by (have hge := hGe q hq; (try dsimp only [hupd, hupds, hov]); (repeat rw [if_neg (by omega)]); exact hTl q hq), Fam.ni1 (hF) q hq⟩
    all_goals simp only [outφ, outV, AR.res, go_sem, simprocAttr, leftO]
set_option linter.unusedSimpArgs false
set_option linter.unusedVariables false
set_option linter.deprecated false
theorem closed_e (c : Config) (S : List (List Int)) : Eff Tryd.prog UT 44 [.ptr (nu 0) 0] (legO nu c S) (.bool false) (legO nu c S) := by
  have hG := tNo_ok
  have hTl := legO_at (c := c) (S := S)
  have hGe := legO_ge (c := c) (S := S)
  have hF := legO_fam c S
  have hb0 : mkH (legO nu c S) 1000 = some (.box 73 [.str c.equip, .list (c.cabs.map Cabin.enc) false, .own 1001 S.length, .bool false]) := hTl (nu 0, _) (List.mem_cons_self ..)
  have e00 : nu 0 = 1000 := rfl
  refine Eff.of_aw Tryd.func44 body44 nm44 res44 (by rw [nt44]; simp) fun C hN Q hQ => ?_
  rw [nt44] at hN
  unfold c44
  refine aw_seq (aw_region (EF := EF0) hG (by rw [hN]; exact tr44_0) ?_)
  simp only [a44_0, go_sem, simprocAttr, hb0, e00]
  refine aw_seq (aw_region (EF := EF0) hG (by rw [hN]; exact tr44_1) ?_)
  simp only [a44_1, go_sem, simprocAttr, hb0, e00]
  refine aw_ret ?_
  show Q _ _
  refine hQ _ _ ⟨mkE [(2, .bool false)], mkH ([] ++ legO nu c S)⟩ (.inl rfl) (Le.tail _ _ _ ?_ ?_ ?_ rfl) rfl ?_ ?_
  · exact fun q hq => ⟨by (have hge := hGe q hq; (try dsimp only [hupd, hupds, hov]); (repeat rw [if_neg (by omega)]); exact hTl q hq), Fam.ni1 (hF) q hq⟩
  all_goals simp only [outφ, outV, AR.res, go_sem, simprocAttr, e00]
def legB (ν : Nat → Nat) (cls : List UInt8) (n : Int) (c : Config) (S : List (List Int)) : List (Nat × Ob) := (ν 0, .box 9 [.str cls]) :: (ν 1, .box 3 [.int .i64 n]) :: legO (fun k => ν (k + 2)) c S
def legBK (S : List (List Int)) : List Nat := 0 :: 1 :: (legK S).map (· + 2)
theorem legBK_nd (S : List (List Int)) : (legBK S).Nodup := by
  refine List.nodup_cons.2 ⟨fun h => ?_, List.nodup_cons.2 ⟨fun h => ?_, nodup_map (legK_nd S) fun a _ b _ e => by omega⟩⟩
  · rcases List.mem_cons.1 h with h | h
    · omega
    · obtain ⟨a, _, e⟩ := List.mem_map.1 h; omega
  · obtain ⟨a, _, e⟩ := List.mem_map.1 h; omega
theorem legB_fam (cls : List UInt8) (n : Int) (c : Config) (S : List (List Int)) : Fam (legBK S) (legBK S) (fun ν => legB ν cls n c S) :=
  Fam.cons (o := fun _ => .box 9 [.str cls]) (List.mem_cons_self ..) (fun _ => by simp [Ob.ren, V.rens, V.ren]) (fun _ => by simp [Ob.nin, V.nins, V.nin])
    (Fam.cons (o := fun _ => .box 3 [.int .i64 n]) (List.mem_cons_of_mem _ (List.mem_cons_self ..)) (fun _ => by simp [Ob.ren, V.rens, V.ren]) (fun _ => by simp [Ob.nin, V.nins, V.nin])
      (((legO_fam c S).at (· + 2)).mono fun k hk => List.mem_cons_of_mem _ (List.mem_cons_of_mem _ hk)))
theorem legB_at {cls : List UInt8} {n : Int} {c : Config} {S : List (List Int)} : ∀ q ∈ legB nu cls n c S, mkH (legB nu cls n c S) q.1 = some q.2 := fun _ hq => mkH_at (by rw [(legB_fam cls n c S).nm]; exact nu_inj.nd (legBK_nd S)) hq
theorem legB_ge {cls : List UInt8} {n : Int} {c : Config} {S : List (List Int)} : ∀ q ∈ legB nu cls n c S, 1000 ≤ q.1 := fun q hq => by
  have : q.1 ∈ (legB nu cls n c S).map (·.1) := List.mem_map.2 ⟨q, hq, rfl⟩
  rw [(legB_fam cls n c S).nm] at this
  obtain ⟨k, _, e⟩ := List.mem_map.1 this
  rw [← e]; unfold nu; omega
theorem left_use1 {d : Option Nat} {s : St} {K : St → Prop} {cls : List UInt8} {n : Int} {c : Config} {S : List (List Int)} (hL : LegOk c S) (hat : ∀ q ∈ legB nu cls n c S, s.h q.1 = some q.2) (hK : K ⟨setE d (.int .i64 (leftS c S cls)) s.e, s.h⟩) : EStep Tryd.prog UT d 26 [.ptr 1002 0, .str cls] s K :=
  leg_use0 (ν := fun k => nu (k + 2)) (s := s) (K := K) (d := d) (left_e c S cls hL) rfl (fun _ => by simp [V.nins, V.nin]) rfl (fun _ => rfl) (inj_sh nu_inj _) (fun q hq => hat q (List.mem_cons_of_mem _ (List.mem_cons_of_mem _ hq))) hK
theorem less_e (cls : List UInt8) (n : Int) (c : Config) (S : List (List Int)) (hL : LegOk c S) : Eff Tryd.prog UT 25 [.ptr (nu 2) 0, .ptr (nu 0) 0, .ptr (nu 1) 0] (legB nu cls n c S) (.bool (decide (leftS c S cls < n))) (legB nu cls n c S) := by
  have hG := tNo_ok
  have hTl := legB_at (cls := cls) (n := n) (c := c) (S := S)
  have hGe := legB_ge (cls := cls) (n := n) (c := c) (S := S)
  have hF := legB_fam cls n c S
  have hb0 : mkH (legB nu cls n c S) 1000 = some (.box 9 [.str cls]) := hTl (nu 0, _) (List.mem_cons_self ..)
  have hb1 : mkH (legB nu cls n c S) 1001 = some (.box 3 [.int .i64 n]) := hTl (nu 1, _) (List.mem_cons_of_mem _ (List.mem_cons_self ..))
  have e00 : nu 0 = 1000 := rfl
  have e01 : nu 1 = 1001 := rfl
  have e02 : nu 2 = 1002 := rfl
  refine Eff.of_aw Tryd.func25 body25 nm25 res25 (by rw [nt25]; simp) fun C hN Q hQ => ?_
  rw [nt25] at hN
  unfold c25
  refine aw_seq (aw_region (EF := EFg) hG (by rw [hN]; exact tr25_0) ?_)
  simp only [a25_0, go_sem, simprocAttr, EFg, hb0, hb1, e00, e01, e02]
  refine aw_seq (aw_regionA (EF := EFg) (dd := [[], [], [0, 1], [], [2, 3], [4, 2, 0, 1, 2, 3, 4]]) 6 hG mixed (by rw [hN]; exact tr25_1) (by kernel_rfl) (by kernel_rfl) ?_)
  rw [show List.range 6 = [0, 1, 2, 3, 4, 5] from rfl]
  iterate 6
    all_goals rw [awAll_s]
    all_goals simp only [rdy, List.getD_cons_zero, List.getD_cons_succ, List.getD_nil, List.contains_cons, List.contains_nil, List.all_cons, List.all_nil, Nat.reduceBEq, Bool.or_false, Bool.false_or, Bool.or_true, Bool.true_or, Bool.not_true, Bool.not_false, Bool.and_true, Bool.true_and, Bool.and_false, Bool.false_and, Bool.false_eq_true, if_true, if_false, List.forall_mem_cons, List.not_mem_nil, false_implies, implies_true, and_true]
    all_goals (repeat' apply And.intro)
    all_goals simp only [awStep, a25_1, List.getD_cons_zero, List.getD_cons_succ, EFg, hb0, hb1, go_sem, simprocAttr]
    all_goals (try (refine left_use1 hL (fun q hq => hTl q hq) ?_; simp only [go_sem, simprocAttr]))
  all_goals rw [awAll_0]
  all_goals simp only [go_sem, simprocAttr]
  all_goals refine aw_ret ?_
  all_goals show Q _ _
  all_goals (refine hQ _ _ ⟨mkE [(4, .bool (decide (leftS c S cls < n)))], mkH ([] ++ legB nu cls n c S)⟩ (.inl rfl) (Le.tail _ _ _ (Fam.tail0 hF (fun q hq => hTl q hq)) ?_ ?_ rfl) rfl ?_ ?_ <;> simp only [outφ, outV, AR.res, go_sem, simprocAttr])
set_option linter.unusedSimpArgs false
set_option linter.unusedVariables false
set_option linter.deprecated false
theorem Le.keepH {e : Nat → V} {h : Nat → Option Ob} (l : List (Nat × V)) (hl : List (Nat × Ob)) (hh : ∀ q ∈ hl, h q.1 = some q.2) (hni : ∀ q ∈ hl, q.2.nin (hl.map (·.1))) (henv : ∀ p ∈ l, Wk h hl (e p.1) p.2) : Le ⟨e, h⟩ ⟨mkE l, mkH hl⟩ :=
  Le.tail l [] hl (fun q hq => ⟨hh q hq, hni q hq⟩) henv (fun q hq => nomatch hq) rfl
structure Held (hl : List (Nat × Ob)) : Prop where
  nd : (hl.map (·.1)).Nodup
  ge : ∀ q ∈ hl, 1000 ≤ q.1
  ni : ∀ q ∈ hl, q.2.nin (hl.map (·.1))
theorem Held.at {hl : List (Nat × Ob)} (h : Held hl) : ∀ q ∈ hl, mkH hl q.1 = some q.2 := fun _ hq => mkH_at h.nd hq
theorem Held.lo {hl : List (Nat × Ob)} (h : Held hl) {m : Nat} (hm : m < 1000) : mkH hl m = none := mkH_none fun hc => by
  obtain ⟨q, hq, e⟩ := List.mem_map.1 hc
  have := h.ge q hq
  omega
def ClOk (hl : List (Nat × Ob)) (fc : Nat) (cap : List V) (pt : Nat → V) (p : Nat → Bool) (j : Nat) : Prop := ∀ (d : Option Nat) (s : St) (K : St → Prop), (∀ q ∈ hl, s.h q.1 = some q.2) → K ⟨setE d (.bool (p j)) s.e, s.h⟩ → EStep Tryd.prog UT d fc (pt j :: cap) s K
theorem indexP_e {hl : List (Nat × Ob)} {js : List Nat} {p : Nat → Bool} {fc : Nat} {cap : List V} {pt : Nat → V} (hH : Held hl) (hrow : (1000, Ob.arr 67 1 (js.map fun j => [pt j])) ∈ hl) (hlen : js.length ≤ 1000000) (hcap : V.nins (hl.map (·.1)) cap = true)
    (hcl : ∀ j ∈ js, ClOk hl fc cap pt p j) : Eff Tryd.prog UT 45 [.own 1000 js.length, .fn fc cap] hl (.int .i64 (idxOf (js.findIdx? p))) hl := by
  have hG := tNo_ok
  have hTl := hH.at
  have hr0 := hTl _ hrow
  dsimp only at hr0
  have hin : (hl.map (·.1)).contains 1000 = true := by rw [List.contains_iff_mem]; exact List.mem_map.2 ⟨_, hrow, rfl⟩
  obtain ⟨W, hW⟩ : ∃ x, x = js.findIdx? p := ⟨_, rfl⟩
  rw [← hW]
  refine Eff.of_aw Tryd.func45 body45 nm45 res45 (by rw [nt45]; simp) fun C hN Q hQ => ?_
  rw [nt45] at hN
  unfold c45
  refine aw_seq (aw_region (EF := (fun f => f == fc)) hG (by rw [hN]; exact tr45_0) ?_)
  simp only [a45_0, go_sem, simprocAttr, hr0, beq_self_eq_true]
  refine aw_seq ?_
  refine aw_seq (aw_region (EF := (fun f => f == fc)) hG (by rw [hN]; exact tr45_1) ?_)
  simp only [a45_1, go_sem, simprocAttr, List.length_map, hr0, beq_self_eq_true]
  refine aw_block ?_
  refine aw_loop (α := Nat) (fun i => (i ≤ js.length) ∧ (∀ j ∈ js.take i, p j = false)) (fun i => ⟨mkE [(0, V.own 1000 js.length), (1, V.fn fc cap), (7, V.int IntKind.i64 ↑js.length), (8, .int .i64 i)], mkH hl⟩) (fun i => js.length - i) 0 (by simp) ?_ ?_
  · exact Le.keepH _ _ (fun q hq => hTl q hq) hH.ni (by simp only [go_sem, simprocAttr, hin]; exact wk_fn hcap)
  · rintro i ⟨hi, hp⟩ KL0 hKL0
    try dsimp only at *
    refine aw_seq (aw_region (EF := (fun f => f == fc)) hG (by rw [hN]; exact tr45_2) ?_)
    simp only [a45_2, go_sem, simprocAttr, hr0, beq_self_eq_true]
    refine aw_seq ?_
    refine aw_cond (b := _) rfl (fun hc2 => ?_) (fun hc2 => ?_)
    · skip
      have hc : i < js.length := by simp at hc2; omega
      refine aw_skip ?_
      try simp only [go_sem, simprocAttr]
      refine aw_seq ?_
      refine aw_block ?_
      refine aw_seq (aw_region (EF := (fun f => f == fc)) hG (by rw [hN]; exact tr45_3) ?_)
      simp only [a45_3, go_sem, simprocAttr, hr0, beq_self_eq_true]
      refine aw_seq (aw_region (EF := (fun f => f == fc)) hG (by rw [hN]; exact tr45_4) ?_)
      simp only [a45_4, go_sem, simprocAttr, getD_mapd _ _ _ _ hc, hc, List.length_map, List.cons_append, List.nil_append, hr0, beq_self_eq_true]
      (repeat' apply And.intro) <;> try exact sdA
      refine hcl js[i] (List.getElem_mem hc) _ _ _ (fun q hq => hTl q hq) ?_
      simp only [go_sem, simprocAttr]
      refine aw_cond (b := _) rfl (fun hb => ?_) (fun hb => ?_)
      · skip
        have hWi : W = some i := by rw [hW]; exact findIdx_at hc hp hb
        refine aw_seq (aw_region (EF := (fun f => f == fc)) hG (by rw [hN]; exact tr45_5) ?_)
        simp only [a45_5, go_sem, simprocAttr, hr0, beq_self_eq_true]
        refine aw_ret ?_
        show Q _ _
        refine hQ _ _ ⟨mkE [(4, .int .i64 i)], mkH hl⟩ (.inl rfl) (Le.keepH _ _ (fun q hq => hTl q hq) hH.ni ?_) rfl ?_ ?_ <;> simp only [outφ, outV, AR.res, go_sem, simprocAttr, hWi, idxOf]
      · skip
        refine aw_skip ?_
        try simp only [go_sem, simprocAttr]
        refine aw_region (EF := (fun f => f == fc)) hG (by rw [hN]; exact tr45_6) ?_
        simp only [a45_6, go_sem, simprocAttr, inI, hr0, beq_self_eq_true]
        (repeat' apply And.intro) <;> try exact sdA
        refine hKL0 (i + 1) _ ?_ ?_ ?_
        · (try dsimp only); exact ⟨hc, take_all hc hp hb⟩
        · (try dsimp only); omega
        · exact Le.keepH _ _ (fun q hq => hTl q hq) hH.ni (by simp only [go_sem, simprocAttr, hin]; exact wk_fn hcap)
    · skip
      have hWi : W = none := by rw [hW]; exact findIdx_no (by simp at hc2; omega) hp
      refine aw_exit ?_
      simp only [go_sem, simprocAttr]
      refine aw_seq (aw_region (EF := (fun f => f == fc)) hG (by rw [hN]; exact tr45_7) ?_)
      simp only [a45_7, go_sem, simprocAttr, hr0, beq_self_eq_true]
      refine aw_ret ?_
      show Q _ _
      refine hQ _ _ ⟨mkE [(4, .int .i64 (-1))], mkH hl⟩ (.inl rfl) (Le.keepH _ _ (fun q hq => hTl q hq) hH.ni ?_) rfl ?_ ?_ <;> simp only [outφ, outV, AR.res, go_sem, simprocAttr, hWi, idxOf]
theorem rn_id : ∀ {L : List (Nat × Nat)}, (∀ p ∈ L, p.1 = p.2) → ∀ n, rn L n = n ∧ rni L n = n
  | [], _, n => ⟨rfl, rfl⟩
  | (a, b) :: L, h, n => by
    have e : a = b := h (a, b) (List.mem_cons_self ..)
    subst e
    obtain ⟨h1, h2⟩ := rn_id (L := L) (fun p hp => h p (List.mem_cons_of_mem _ hp)) n
    rw [rn, rni]
    constructor
    · split
      · rename_i e; exact e.symm
      · exact h1
    · split
      · rename_i e; exact e.symm
      · exact h2
theorem Held.use {hl : List (Nat × Ob)} (hH : Held hl) {d : Option Nat} {s : St} {K : St → Prop} {f : Nat} {us : List V} {v : V} (he : Eff Tryd.prog UT f us hl v hl) (hus : V.nins (hl.map (·.1)) us = true) (hv : v.pur = true) (hvn : ∀ D, v.nin D = true) (hat : ∀ q ∈ hl, s.h q.1 = some q.2) (hK : K ⟨setE d v s.e, s.h⟩) : EStep Tryd.prog UT d f us s K := by
  have i1 : (hl.map fun q => (q.1, q.1)).map (·.1) = hl.map (·.1) := by rw [List.map_map]; rfl
  have i2 : (hl.map fun q => (q.1, q.1)).map (·.2) = hl.map (·.1) := by rw [List.map_map]; rfl
  have hid : ∀ p ∈ hl.map fun q => (q.1, q.1), p.1 = p.2 := fun p hp => by obtain ⟨q, _, rfl⟩ := List.mem_map.1 hp; rfl
  have e1 : rn (hl.map fun q => (q.1, q.1)) = fun n => n := funext fun n => (rn_id hid n).1
  have e2 : rni (hl.map fun q => (q.1, q.1)) = fun n => n := funext fun n => (rn_id hid n).2
  refine ⟨hl.map fun q => (q.1, q.1), [], us, hl, v, hl, he, ⟨?_, i1.symm, by rw [List.append_nil]; exact i1.symm, fun p hp => ?_, fun p hp => (nomatch hp), fun p hp => ?_, ?_, by rw [i2]; exact hus, hvn _, hH.ni, fun p hp o o' h1 h2 => ?_⟩, ?_⟩
  · rw [List.append_nil]; simp only [okL, Bool.and_eq_true, decide_eq_true_eq]
    exact ⟨by rw [i1]; exact hH.nd, by rw [i2]; exact hH.nd⟩
  · obtain ⟨q, hq, rfl⟩ := List.mem_map.1 hp; exact hH.ge q hq
  · obtain ⟨q, hq, rfl⟩ := List.mem_map.1 hp
    exact ⟨q.2, hat q hq, by rw [e2, Ob.ren_same]; exact hH.at q hq, by rw [i2]; exact hH.ni q hq⟩
  · rw [e2, V.rens_same]
  · rw [h1] at h2; injection h2 with h2; subst h2; exact Ob.kind_tag rfl
  · rw [List.append_nil, e1, V.ren_same, show (hl.map fun q => (q.1, q.2.ren fun n => n)) = hl by
      conv => rhs; rw [← List.map_id hl]
      exact List.map_congr_left fun q _ => by rw [Ob.ren_same]; rfl, hov_same hat]
    exact hK
def EFi : Nat → Bool := fun f => f == 45
theorem containsP_e {hl : List (Nat × Ob)} {js : List Nat} {p : Nat → Bool} {fc : Nat} {cap : List V} {pt : Nat → V} (hH : Held hl) (hrow : (1000, Ob.arr 67 1 (js.map fun j => [pt j])) ∈ hl) (hlen : js.length ≤ 1000000) (hcap : V.nins (hl.map (·.1)) cap = true)
    (hcl : ∀ j ∈ js, ClOk hl fc cap pt p j) : Eff Tryd.prog UT 24 [.own 1000 js.length, .fn fc cap] hl (.bool (js.any p)) hl := by
  have hG := tNo_ok
  have hTl := hH.at
  have hin : (hl.map (·.1)).contains 1000 = true := by rw [List.contains_iff_mem]; exact List.mem_map.2 ⟨_, hrow, rfl⟩
  have hie := indexP_e hH hrow hlen hcap hcl
  have hus : V.nins (hl.map (·.1)) [.own 1000 js.length, .fn fc cap] = true := by simp only [V.nins, V.nin, hin, hcap, Bool.and_self]
  have hx := idx_any p js
  refine Eff.of_aw Tryd.func24 body24 nm24 res24 (by rw [nt24]; simp) fun C hN Q hQ => ?_
  rw [nt24] at hN
  unfold c24
  refine aw_seq (aw_region (EF := EFi) hG (by rw [hN]; exact tr24_0) ?_)
  simp only [a24_0, go_sem, simprocAttr, EFi]
  refine aw_seq (aw_region (EF := EFi) hG (by rw [hN]; exact tr24_1) ?_)
  simp only [a24_1, go_sem, simprocAttr, EFi]
  refine hH.use hie hus rfl (fun _ => rfl) (fun q hq => hTl q hq) ?_
  simp only [go_sem, simprocAttr, hx]
  refine aw_ret ?_
  show Q _ _
  refine hQ _ _ ⟨mkE [(4, .bool (js.any p))], mkH hl⟩ (.inl rfl) (Le.keepH _ _ (fun q hq => hTl q hq) hH.ni ?_) rfl ?_ ?_ <;> simp only [outφ, outV, AR.res, go_sem, simprocAttr]
set_option linter.unusedSimpArgs false
set_option linter.unusedVariables false
set_option linter.deprecated false
def ptR (ν : Nat → Nat) (js : List Nat) : List (List V) := js.map fun j => [.ptr (ν (10 * j + 2)) 0]
theorem ptR_len (ν : Nat → Nat) (js : List Nat) : (ptR ν js).length = js.length := List.length_map _
theorem ptR_one (ν : Nat → Nat) (js : List Nat) : (∀ r ∈ ptR ν js, r.length = 1) ↔ True := iff_true_intro fun r hr => by obtain ⟨j, _, rfl⟩ := List.mem_map.1 hr; rfl
theorem ptR_ren {ν ν' σ : Nat → Nat} {js : List Nat} {L : List Leg} (hj : ∀ j ∈ js, j < L.length) (h : ∀ k ∈ stK L, σ (ν k) = ν' k) : renR σ (ptR ν js) = ptR ν' js := by
  unfold renR ptR
  rw [List.map_map]
  exact List.map_congr_left fun j hm => by simp only [Function.comp_apply, V.rens, V.ren, h _ (stK_leg (hj j hm))]
theorem ptR_nin {ν : Nat → Nat} {D : List Nat} {js : List Nat} {L : List Leg} (hj : ∀ j ∈ js, j < L.length) (h : ∀ k ∈ stK L, ν k ∈ D) : ∀ r ∈ ptR ν js, V.nins D r = true := fun r hr => by
  obtain ⟨j, hm, rfl⟩ := List.mem_map.1 hr
  simp only [V.nins, V.nin, Bool.and_true, List.contains_iff_mem, h _ (stK_leg (hj j hm))]
def rwO (ν : Nat → Nat) (js : List Nat) (cs : List Config) (L : List Leg) : List (Nat × Ob) := (ν 0, .arr 67 1 (ptR (fun k => ν (k + 1)) js)) :: stO (fun k => ν (k + 1)) cs L
def rwK (L : List Leg) : List Nat := 0 :: (stK L).map (· + 1)
theorem rwK_nd {L : List Leg} (h : LgsB L) : (rwK L).Nodup := List.nodup_cons.2 ⟨fun h => by obtain ⟨a, _, e⟩ := List.mem_map.1 h; omega, nodup_map (stK_nd h) fun a _ b _ e => by omega⟩
theorem rwO_fam {js : List Nat} (cs : List Config) {L : List Leg} (hj : ∀ j ∈ js, j < L.length) : Fam (rwK L) (rwK L) (fun ν => rwO ν js cs L) :=
  Fam.cons (o := fun ν => .arr 67 1 (ptR (fun k => ν (k + 1)) js)) (List.mem_cons_self ..) (fun hs => by rw [Ob.ren, ptR_ren hj fun k hk => hs (k + 1) (List.mem_cons_of_mem _ (List.mem_map.2 ⟨k, hk, rfl⟩))])
    (fun hs => .inr (ptR_nin hj fun k hk => hs (k + 1) (List.mem_cons_of_mem _ (List.mem_map.2 ⟨k, hk, rfl⟩)))) (((stO_fam cs L).at (· + 1)).mono fun k hk => List.mem_cons_of_mem _ hk)
theorem Fam.held {K : List Nat} {hl : (Nat → Nat) → List (Nat × Ob)} (hF : Fam K K hl) (hK : K.Nodup) : Held (hl nu) :=
  ⟨by rw [hF.nm]; exact nu_inj.nd hK, fun q hq => by
    have : q.1 ∈ (hl nu).map (·.1) := List.mem_map.2 ⟨q, hq, rfl⟩
    rw [hF.nm] at this
    obtain ⟨k, _, e⟩ := List.mem_map.1 this
    rw [← e]; unfold nu; omega, hF.ni fun k hk => by rw [hF.nm]; exact List.mem_map.2 ⟨k, hk, rfl⟩⟩
theorem anyClosed_e {js : List Nat} (cs : List Config) {L : List Leg} (hB : LgsB L) (hj : ∀ j ∈ js, j < L.length) (hlen : js.length ≤ 1000000) : Eff Tryd.prog UT 24 [.own (nu 0) js.length, .fn 44 []] (rwO nu js cs L) (.bool false) (rwO nu js cs L) := by
  have h := containsP_e (js := js) (p := fun _ => false) (fc := 44) (cap := []) (pt := fun j => .ptr (nu (10 * j + 2 + 1)) 0) ((rwO_fam (js := js) cs hj).held (rwK_nd hB)) (List.mem_cons_self ..) hlen (by simp [V.nins]) fun j hm d s K hat hK => by
    have hjl := hj j hm
    have := leg_use0 (ν := fun k => nu (k + (10 * j + 2) + 1)) (s := s) (K := K) (d := d) (xs := []) (closed_e L[j].conf L[j].sold) rfl (fun _ => by simp [V.nins]) rfl (fun _ => rfl) (fun a b e => by have := nu_inj _ _ e; omega) (fun q hq => hat q (List.mem_cons_of_mem _ (st_mem (ν := fun k => nu (k + 1)) (hj j hm) hq))) hK
    rw [show 0 + (10 * j + 2) + 1 = 10 * j + 2 + 1 by omega] at this
    exact this
  rw [show js.any (fun _ => false) = false from List.any_eq_false.2 fun _ _ => by decide] at h
  exact h
def rwN (r : Nat) (ν : Nat → Nat) : Nat → Nat
  | 0 => r
  | k + 1 => ν k
theorem rwN_inj {r : Nat} {ν : Nat → Nat} (hν : Inj ν) (hr : ∀ k, ν k ≠ r) : Inj (rwN r ν) := fun a b e => by
  cases a with
  | zero => cases b with
    | zero => rfl
    | succ b => exact absurd e.symm (hr b)
  | succ a => cases b with
    | zero => exact absurd e (hr a)
    | succ b => rw [hν _ _ e]
theorem rwO_rwN (r : Nat) (ν : Nat → Nat) (js : List Nat) (cs : List Config) (L : List Leg) : rwO (rwN r ν) js cs L = (r, .arr 67 1 (ptR ν js)) :: stO ν cs L := rfl
theorem anyClosed_use {d : Option Nat} {s : St} {K : St → Prop} {js : List Nat} {cs : List Config} {L : List Leg} {r : Nat} {ν : Nat → Nat} (hB : LgsB L) (hj : ∀ j ∈ js, j < L.length) (hlen : js.length ≤ 1000000) (hν : Inj ν) (hr : ∀ k, ν k ≠ r) (hrow : s.h r = some (.arr 67 1 (ptR ν js))) (hat : ∀ q ∈ stO ν cs L, s.h q.1 = some q.2)
    (hK : K ⟨setE d (.bool false) s.e, s.h⟩) : EStep Tryd.prog UT d 24 [.own r js.length, .fn 44 []] s K := by
  have hat2 : ∀ q ∈ rwO (rwN r ν) js cs L, s.h q.1 = some q.2 := fun q hq => by
    rw [rwO_rwN] at hq
    rcases List.mem_cons.1 hq with rfl | hq
    · exact hrow
    · exact hat q hq
  exact use_fam0 (ar := fun ν => [.own (ν 0) js.length, .fn 44 []]) nu (rwN r ν) (rwO_fam (js := js) cs hj) (rwO_fam cs hj) ((FamV.own _ (List.mem_cons_self ..)).cons (FamV.pure (vs := [.fn 44 []]) rfl fun _ => by simp [V.nins, V.nin])) rfl (anyClosed_e cs hB hj hlen) (fun _ => rfl) rfl (fun k _ => by unfold nu; omega) (nu_inj.nd (rwK_nd hB)) ((rwN_inj hν hr).nd (rwK_nd hB)) hat2 rfl (by rw [hov_same hat2]; exact hK)
def rbO (ν : Nat → Nat) (js : List Nat) (cls : List UInt8) (n : Int) (cs : List Config) (L : List Leg) : List (Nat × Ob) :=
  (ν 0, .arr 67 1 (ptR (fun k => ν (k + 3)) js)) :: (ν 1, .box 9 [.str cls]) :: (ν 2, .box 3 [.int .i64 n]) :: stO (fun k => ν (k + 3)) cs L
def rbK (L : List Leg) : List Nat := 0 :: 1 :: 2 :: (stK L).map (· + 3)
theorem rbK_nd {L : List Leg} (h : LgsB L) : (rbK L).Nodup := by
  refine List.nodup_cons.2 ⟨fun h => ?_, List.nodup_cons.2 ⟨fun h => ?_, List.nodup_cons.2 ⟨fun h => ?_, nodup_map (stK_nd h) fun a _ b _ e => by omega⟩⟩⟩ <;> simp only [List.mem_cons, List.mem_map] at h
  · rcases h with h | h | ⟨a, _, e⟩ <;> omega
  · rcases h with h | ⟨a, _, e⟩ <;> omega
  · obtain ⟨a, _, e⟩ := h; omega
theorem rbO_fam {js : List Nat} (cls : List UInt8) (n : Int) (cs : List Config) {L : List Leg} (hj : ∀ j ∈ js, j < L.length) : Fam (rbK L) (rbK L) (fun ν => rbO ν js cls n cs L) := by
  have k3 : ∀ k ∈ stK L, k + 3 ∈ rbK L := fun k hk => List.mem_cons_of_mem _ (List.mem_cons_of_mem _ (List.mem_cons_of_mem _ (List.mem_map.2 ⟨k, hk, rfl⟩)))
  refine Fam.cons (o := fun ν => .arr 67 1 (ptR (fun k => ν (k + 3)) js)) (List.mem_cons_self ..) (fun hs => by rw [Ob.ren, ptR_ren hj fun k hk => hs (k + 3) (k3 k hk)]) (fun hs => .inr (ptR_nin hj fun k hk => hs (k + 3) (k3 k hk)))
    (Fam.cons (o := fun _ => .box 9 [.str cls]) (List.mem_cons_of_mem _ (List.mem_cons_self ..)) (fun _ => by simp [Ob.ren, V.rens, V.ren]) (fun _ => by simp [Ob.nin, V.nins, V.nin])
      (Fam.cons (o := fun _ => .box 3 [.int .i64 n]) (List.mem_cons_of_mem _ (List.mem_cons_of_mem _ (List.mem_cons_self ..))) (fun _ => by simp [Ob.ren, V.rens, V.ren]) (fun _ => by simp [Ob.nin, V.nins, V.nin])
        (((stO_fam cs L).at (· + 3)).mono fun k hk => List.mem_cons_of_mem _ (List.mem_cons_of_mem _ (List.mem_cons_of_mem _ hk)))))
def lessJ (L : List Leg) (cls : List UInt8) (n : Int) (j : Nat) : Bool := match L[j]? with
  | some x => decide (leftS x.conf x.sold cls < n)
  | none => false
def lbN (a b : Nat) (ν : Nat → Nat) : Nat → Nat
  | 0 => a
  | 1 => b
  | k + 2 => ν k
theorem lbN_inj {a b : Nat} {ν : Nat → Nat} (hν : Inj ν) (ha : ∀ k, ν k ≠ a) (hb : ∀ k, ν k ≠ b) (hab : a ≠ b) : Inj (lbN a b ν) := fun x y e => by
  match x, y with
  | 0, 0 => rfl
  | 0, 1 => exact absurd e hab
  | 0, y + 2 => exact absurd e.symm (ha y)
  | 1, 0 => exact absurd e.symm hab
  | 1, 1 => rfl
  | 1, y + 2 => exact absurd e.symm (hb y)
  | x + 2, 0 => exact absurd e (ha x)
  | x + 2, 1 => exact absurd e (hb x)
  | x + 2, y + 2 => have h := hν _ _ e; subst h; rfl
theorem anyLess_e {js : List Nat} {cls : List UInt8} {n : Int} (cs : List Config) {L : List Leg} (hok : LgsOk L) (hj : ∀ j ∈ js, j < L.length) (hlen : js.length ≤ 1000000) : Eff Tryd.prog UT 24 [.own (nu 0) js.length, .fn 25 [.ptr (nu 1) 0, .ptr (nu 2) 0]] (rbO nu js cls n cs L) (.bool (js.any (lessJ L cls n))) (rbO nu js cls n cs L) := by
  refine containsP_e (js := js) (p := lessJ L cls n) (fc := 25) (cap := [.ptr (nu 1) 0, .ptr (nu 2) 0]) (pt := fun j => .ptr (nu (10 * j + 2 + 3)) 0) ((rbO_fam (js := js) cls n cs hj).held (rbK_nd hok.b)) (List.mem_cons_self ..) hlen ?_ fun j hm d s K hat hK => ?_
  · have h1 : ∀ k ∈ rbK L, ((rbO nu js cls n cs L).map (·.1)).contains (nu k) = true := fun k hk => by rw [List.contains_iff_mem, (rbO_fam (js := js) cls n cs hj).nm]; exact List.mem_map.2 ⟨k, hk, rfl⟩
    simp only [V.nins, V.nin, h1 1 (List.mem_cons_of_mem _ (List.mem_cons_self ..)), h1 2 (List.mem_cons_of_mem _ (List.mem_cons_of_mem _ (List.mem_cons_self ..))), Bool.and_self]
  · have hjl := hj j hm
    have hE := less_e cls n L[j].conf L[j].sold (hok _ (List.getElem_mem hjl))
    have hp : lessJ L cls n j = decide (leftS L[j].conf L[j].sold cls < n) := by unfold lessJ; rw [List.getElem?_eq_getElem hjl]
    rw [hp] at hK
    have hat2 : ∀ q ∈ legB (lbN (nu 1) (nu 2) (fun k => nu (k + (10 * j + 2) + 3))) cls n L[j].conf L[j].sold, s.h q.1 = some q.2 := fun q hq => by
      unfold legB at hq
      rcases List.mem_cons.1 hq with rfl | hq
      · exact hat (nu 1, _) (List.mem_cons_of_mem _ (List.mem_cons_self ..))
      rcases List.mem_cons.1 hq with rfl | hq
      · exact hat (nu 2, _) (List.mem_cons_of_mem _ (List.mem_cons_of_mem _ (List.mem_cons_self ..)))
      · exact hat q (List.mem_cons_of_mem _ (List.mem_cons_of_mem _ (List.mem_cons_of_mem _ (st_mem (ν := fun k => nu (k + 3)) hjl hq))))
    have k2 : 2 ∈ legBK L[j].sold := List.mem_cons_of_mem _ (List.mem_cons_of_mem _ (List.mem_map.2 ⟨0, legK_0 _, rfl⟩))
    have := use_fam0 (ar := fun ν => [.ptr (ν 2) 0, .ptr (ν 0) 0, .ptr (ν 1) 0]) (s := s) (d := d) (Kc := K) nu (lbN (nu 1) (nu 2) (fun k => nu (k + (10 * j + 2) + 3))) (legB_fam cls n L[j].conf L[j].sold) (legB_fam cls n L[j].conf L[j].sold)
      ((FamV.ptr 0 k2).cons ((FamV.ptr 0 (List.mem_cons_self ..)).cons (FamV.ptr 0 (List.mem_cons_of_mem _ (List.mem_cons_self ..))))) rfl hE (fun _ => rfl) rfl (fun k _ => by unfold nu; omega) (nu_inj.nd (legBK_nd _))
      ((lbN_inj (fun a b e => by have := nu_inj _ _ e; omega) (fun k e => by have := nu_inj _ _ e; omega) (fun k e => by have := nu_inj _ _ e; omega) (fun e => by have := nu_inj _ _ e; omega)).nd (legBK_nd _)) hat2 rfl (by rw [hov_same hat2]; exact hK)
    have e1 : lbN (nu 1) (nu 2) (fun k => nu (k + (10 * j + 2) + 3)) 2 = nu (10 * j + 2 + 3) := by show nu (0 + (10 * j + 2) + 3) = _; rw [show 0 + (10 * j + 2) + 3 = 10 * j + 2 + 3 by omega]
    rw [e1] at this
    exact this
def rbN (r a b : Nat) (ν : Nat → Nat) : Nat → Nat
  | 0 => r
  | 1 => a
  | 2 => b
  | k + 3 => ν k
theorem rbN_inj {r a b : Nat} {ν : Nat → Nat} (hν : Inj ν) (hr : ∀ k, ν k ≠ r) (ha : ∀ k, ν k ≠ a) (hb : ∀ k, ν k ≠ b) (h1 : r ≠ a) (h2 : r ≠ b) (h3 : a ≠ b) : Inj (rbN r a b ν) := fun x y e => by
  match x, y with
  | 0, 0 => rfl
  | 0, 1 => exact absurd e h1
  | 0, 2 => exact absurd e h2
  | 0, y + 3 => exact absurd e.symm (hr y)
  | 1, 0 => exact absurd e.symm h1
  | 1, 1 => rfl
  | 1, 2 => exact absurd e h3
  | 1, y + 3 => exact absurd e.symm (ha y)
  | 2, 0 => exact absurd e.symm h2
  | 2, 1 => exact absurd e.symm h3
  | 2, 2 => rfl
  | 2, y + 3 => exact absurd e.symm (hb y)
  | x + 3, 0 => exact absurd e (hr x)
  | x + 3, 1 => exact absurd e (ha x)
  | x + 3, 2 => exact absurd e (hb x)
  | x + 3, y + 3 => have h := hν _ _ e; subst h; rfl
theorem rbO_rbN (r a b : Nat) (ν : Nat → Nat) (js : List Nat) (cls : List UInt8) (n : Int) (cs : List Config) (L : List Leg) : rbO (rbN r a b ν) js cls n cs L = (r, .arr 67 1 (ptR ν js)) :: (a, .box 9 [.str cls]) :: (b, .box 3 [.int .i64 n]) :: stO ν cs L := rfl
theorem anyLess_use {d : Option Nat} {s : St} {K : St → Prop} {js : List Nat} {cls : List UInt8} {n : Int} {cs : List Config} {L : List Leg} {r a b : Nat} {ν : Nat → Nat} (hok : LgsOk L) (hj : ∀ j ∈ js, j < L.length) (hlen : js.length ≤ 1000000) (hν : Inj ν) (hr : ∀ k, ν k ≠ r) (ha : ∀ k, ν k ≠ a) (hb : ∀ k, ν k ≠ b) (h1 : r ≠ a) (h2 : r ≠ b) (h3 : a ≠ b)
    (hrow : s.h r = some (.arr 67 1 (ptR ν js))) (hba : s.h a = some (.box 9 [.str cls])) (hbb : s.h b = some (.box 3 [.int .i64 n])) (hat : ∀ q ∈ stO ν cs L, s.h q.1 = some q.2)
    (hK : K ⟨setE d (.bool (js.any (lessJ L cls n))) s.e, s.h⟩) : EStep Tryd.prog UT d 24 [.own r js.length, .fn 25 [.ptr a 0, .ptr b 0]] s K := by
  have hat2 : ∀ q ∈ rbO (rbN r a b ν) js cls n cs L, s.h q.1 = some q.2 := fun q hq => by
    rw [rbO_rbN] at hq
    rcases List.mem_cons.1 hq with rfl | hq
    · exact hrow
    rcases List.mem_cons.1 hq with rfl | hq
    · exact hba
    rcases List.mem_cons.1 hq with rfl | hq
    · exact hbb
    · exact hat q hq
  have k1 : 1 ∈ rbK L := List.mem_cons_of_mem _ (List.mem_cons_self ..)
  have k2 : 2 ∈ rbK L := List.mem_cons_of_mem _ (List.mem_cons_of_mem _ (List.mem_cons_self ..))
  have hfn : FamV (rbK L) (fun ν => [.fn 25 [.ptr (ν 1) 0, .ptr (ν 2) 0]]) := ⟨fun hs => by simp only [V.rens, V.ren, hs 1 k1, hs 2 k2], fun hs => by simp only [V.nins, V.nin, Bool.and_true, List.contains_iff_mem, hs 1 k1, hs 2 k2, Bool.and_self, decide_true, Bool.and_eq_true, and_self]⟩
  exact use_fam0 (ar := fun ν => [.own (ν 0) js.length, .fn 25 [.ptr (ν 1) 0, .ptr (ν 2) 0]]) nu (rbN r a b ν) (rbO_fam (js := js) cls n cs hj) (rbO_fam cls n cs hj) ((FamV.own _ (List.mem_cons_self ..)).cons hfn) rfl (anyLess_e cs hok hj hlen) (fun _ => rfl) rfl (fun k _ => by unfold nu; omega) (nu_inj.nd (rbK_nd hok.b)) ((rbN_inj hν hr ha hb h1 h2 h3).nd (rbK_nd hok.b)) hat2 rfl (by rw [hov_same hat2]; exact hK)
set_option linter.unusedSimpArgs false
set_option linter.unusedVariables false
set_option linter.deprecated false
def jsOf (L : List Leg) (ids : List Lid) : List Nat := ids.filterMap (legIx L)
def missing (L : List Leg) (ids : List Lid) : Bool := ids.any fun i => (legIx L i).isNone
def noPl (L : List Leg) (cls : List UInt8) (j : Nat) : Bool := match L[j]? with
  | some x => (place x.conf.cabs cls).isNone
  | none => false
def dupB (ids : List Lid) : Bool := !decide ((ids.map Lid.ky).Nodup)
def findE (L : List Leg) (ids : List Lid) (cls : List UInt8) (n : Int) : Int :=
  if n < 1 ∨ ids.length = 0 then 2 else if dupB ids = true then 6 else if missing L ids = true then 7 else if (jsOf L ids).any (noPl L cls) = true then 16 else 0
theorem ptR_snoc (ν : Nat → Nat) (js : List Nat) (j : Nat) : ptR ν js ++ [[.ptr (ν (10 * j + 2)) 0]] = ptR ν (js ++ [j]) := by unfold ptR; rw [List.map_append]; rfl
def findV (E : Int) (m : Nat) (js : List Nat) : V := if E = 0 then .tup [.own m js.length, .int .i64 0] else .tup [.nils, .int .i64 E]
def findO (E : Int) (m : Nat) (ν : Nat → Nat) (js : List Nat) : List (Nat × Ob) := if E = 0 then [(m, .arr 67 1 (ptR ν js))] else []
theorem jsOf_lt {L : List Leg} {ids : List Lid} : ∀ j ∈ jsOf L ids, j < L.length := fun j hj => by
  obtain ⟨i, _, h⟩ := List.mem_filterMap.1 hj
  exact (legIx_some h).1
theorem jsOf_step {L : List Leg} {ids : List Lid} {i : Nat} (h : i < ids.length) {j : Nat} (hj : legIx L ids[i] = some j) : jsOf L (ids.take (i + 1)) = jsOf L (ids.take i) ++ [j] := by
  unfold jsOf
  rw [take_succ' h, List.filterMap_append]
  simp [hj]
theorem missing_step {L : List Leg} {ids : List Lid} {i : Nat} (h : i < ids.length) {j : Nat} (hj : legIx L ids[i] = some j) (hm : missing L (ids.take i) = false) : missing L (ids.take (i + 1)) = false := by
  unfold missing at hm ⊢
  rw [take_succ' h, List.any_append, hm]
  simp [hj]
theorem missing_at {L : List Leg} {ids : List Lid} {i : Nat} (h : i < ids.length) (hj : legIx L ids[i] = none) : missing L ids = true := by
  unfold missing
  exact List.any_eq_true.2 ⟨_, List.getElem_mem h, by rw [hj]; rfl⟩
def zLid : Lid := ⟨[], 0, 0, []⟩
def DistTo (ids : List Lid) (i : Nat) : Prop := ∀ a, a < i → ∀ b, b < a → (ids.getD b zLid).ky ≠ (ids.getD a zLid).ky
def NeTo (ids : List Lid) (i k : Nat) : Prop := ∀ b, b < k → (ids.getD b zLid).ky ≠ (ids.getD i zLid).ky
theorem getD_lid {ids : List Lid} {i : Nat} (h : i < ids.length) : ids.getD i zLid = ids[i] := by rw [List.getD_eq_getElem?_getD, List.getElem?_eq_getElem h]; rfl
theorem dist_step {ids : List Lid} {i : Nat} (h : DistTo ids i) (h2 : NeTo ids i i) : DistTo ids (i + 1) := fun a ha b hb => by
  by_cases e : a = i
  · subst e; exact h2 b hb
  · exact h a (by omega) b hb
theorem ne_step {ids : List Lid} {i k : Nat} (h : NeTo ids i k) (h2 : (ids.getD k zLid).ky ≠ (ids.getD i zLid).ky) : NeTo ids i (k + 1) := fun b hb => by
  by_cases e : b = k
  · subst e; exact h2
  · exact h b (by omega)
theorem dist_nodup {ids : List Lid} (h : DistTo ids ids.length) : dupB ids = false := by
  unfold dupB
  rw [Bool.not_eq_false', decide_eq_true_eq]
  refine List.pairwise_iff_getElem.2 fun i j hi hj hij => ?_
  rw [List.length_map] at hi hj
  rw [List.getElem_map, List.getElem_map, ← getD_lid hi, ← getD_lid hj]
  exact h j hj i hij
theorem dup_at {ids : List Lid} {i k : Nat} (hi : i < ids.length) (hk : k < i) (h : (ids.getD k zLid).ky = (ids.getD i zLid).ky) : dupB ids = true := by
  unfold dupB
  rw [Bool.not_eq_true', decide_eq_false_iff_not]
  intro hn
  have := List.pairwise_iff_getElem.1 hn k i (by rw [List.length_map]; omega) (by rw [List.length_map]; exact hi) hk
  rw [List.getElem_map, List.getElem_map, ← getD_lid hi, ← getD_lid (show k < ids.length by omega)] at this
  exact this h
theorem lid_eqVs (a b : Lid) : (decide (a.car = b.car) && (decide (a.num = b.num) && (decide (a.day = b.day) && (decide (a.frm = b.frm) && true)))) = decide (a.ky = b.ky) := by
  unfold Lid.ky
  simp only [Ky.lg.injEq, Bool.and_true]
  by_cases h1 : a.car = b.car <;> by_cases h2 : a.num = b.num <;> by_cases h3 : a.day = b.day <;> by_cases h4 : a.frm = b.frm <;> simp [h1, h2, h3, h4]
def EFf : Nat → Bool := fun f => f == 20 || f == 24
noncomputable def tFi : Tab
  | 27 => (gOf aPlace fPlace)
  | _ => gNo
theorem tFi_ok : ∀ f, PureC Tryd.prog UT f (tFi f) := fun f => by
  unfold tFi
  split
  · exact place_p
  · exact PureC.no
set_option maxHeartbeats 4000000 in
theorem find_e (cs : List Config) (L : List Leg) (ids : List Lid) (cls : List UInt8) (n : Int) (sale : Bool) (hok : LgsOk L) (hlen : ids.length ≤ 1000000) : Eff Tryd.prog UT 23 [.ptr (nu 0) 0, .list (ids.map Lid.enc) false, .str cls, .int .i64 n, .bool sale] (stO nu cs L) (findV (findE L ids cls n) 70 (jsOf L ids)) (findO (findE L ids cls n) 70 nu (jsOf L ids) ++ stO nu cs L) := by
  have hG := tFi_ok
  have hB := hok.b
  have hTl := stO_at nu_inj (cs := cs) hB
  have hGe := stO_ge (cs := cs) (L := L)
  have hF := stO_fam cs L
  have hb0 : mkH (stO nu cs L) 1000 = some (.box 63 [.list (cs.map Config.enc) false, .map 1001]) := st_box nu cs L
  have hb1 : mkH (stO nu cs L) 1001 = some (.mp (lgE (fun k => nu (k + 2)) L)) := st_map nu_inj cs L
  have hlg := fun j (h : j < L.length) => st_leg nu_inj cs hB h
  have e00 : nu 0 = 1000 := rfl
  have hkd := lgE_kd (fun k => nu (k + 2)) L
  have hin0 : ((stO nu cs L).map (·.1)).contains 1000 = true := st_in (stK_0 L)
  have hinl : ∀ j, j < L.length → ((stO nu cs L).map (·.1)).contains (nu (10 * j + 2)) = true := fun j hj => st_in (stK_leg hj)
  have hpn : ∀ ids' : List Lid, (∀ r ∈ ptR nu (jsOf L ids'), V.nins (70 :: (stO nu cs L).map (·.1)) r = true) ↔ True := fun ids' => iff_true_intro (ptR_nin (L := L) jsOf_lt fun k hk => List.mem_cons_of_mem _ (by rw [hF.nm]; exact List.mem_map.2 ⟨k, hk, rfl⟩))
  obtain ⟨E, hE⟩ : ∃ x, x = findE L ids cls n := ⟨_, rfl⟩
  have hEd := hE
  unfold findE at hEd
  rw [← hE]
  obtain ⟨V0, hV0⟩ : ∃ x, x = findV E 70 (jsOf L ids) := ⟨_, rfl⟩
  obtain ⟨O0, hO0⟩ : ∃ x, x = findO E 70 nu (jsOf L ids) := ⟨_, rfl⟩
  rw [← hV0, ← hO0]
  have bad : ∀ e : Int, e ≠ 0 → E = e → V0 = .tup [.nils, .int .i64 e] ∧ O0 = [] := fun e he hEe => by rw [hV0, hO0, hEe]; unfold findV findO; rw [if_neg he, if_neg he]; exact ⟨rfl, rfl⟩
  refine Eff.of_aw Tryd.func23 body23 nm23 res23 (by rw [nt23]; simp) fun C hN Q hQ => ?_
  rw [nt23] at hN
  unfold c23
  refine aw_seq (aw_region (EF := EFf) hG (by rw [hN]; exact tr23_0) ?_)
  simp only [a23_0, go_sem, simprocAttr, tFi, EFf, e00, stO_lo, hb0, hb1, nu_ne, List.cons_append, List.nil_append]
  refine aw_seq ?_
  refine aw_seq (aw_region (EF := EFf) hG (by rw [hN]; exact tr23_1) ?_)
  simp only [a23_1, go_sem, simprocAttr, tFi, EFf, e00, stO_lo, hb0, hb1, nu_ne, List.cons_append, List.nil_append]
  refine st_use0 (ν := nu) (made_e cs L hB) hB rfl (fun _ => rfl) rfl (fun _ => rfl) nu_inj (fun q hq => by have hge := hGe q hq; (try dsimp only [hupd, hupds, hov]); (repeat rw [if_neg (by omega)]); exact hTl q hq) ?_
  simp only [go_sem, simprocAttr]
  refine aw_condF rfl ?_
  refine aw_skip ?_
  try simp only [go_sem, simprocAttr]
  refine aw_seq ?_
  refine aw_seq (aw_region (EF := EFf) hG (by rw [hN]; exact tr23_3) ?_)
  simp only [a23_3, go_sem, simprocAttr, List.length_map, tFi, EFf, e00, stO_lo, hb0, hb1, nu_ne, List.cons_append, List.nil_append]
  (repeat' apply And.intro) <;> try exact sdA
  refine aw_cond (b := _) rfl (fun hb3 => ?_) (fun hb3 => ?_)
  · skip
    have h3 : n < 1 ∨ ids.length = 0 := by by_cases h : n < 1; exact .inl h; exact .inr (by simp [h] at hb3; simp [hb3])
    obtain ⟨rfl, rfl⟩ := bad 2 (by decide) (by rw [hEd, if_pos h3])
    refine aw_seq (aw_region (EF := EFf) hG (by rw [hN]; exact tr23_4) ?_)
    simp only [a23_4, go_sem, simprocAttr, tFi, EFf, e00, stO_lo, hb0, hb1, nu_ne, List.cons_append, List.nil_append]
    refine aw_ret ?_
    show Q _ _
    refine hQ _ _ ⟨mkE [(10, .nils), (11, .int .i64 2)], mkH ([] ++ stO nu cs L)⟩ (.inl rfl) (Le.tail _ _ _ ?_ ?_ ?_ rfl) rfl ?_ ?_
    · exact fun q hq => ⟨by (have hge := hGe q hq; (try dsimp only [hupd, hupds, hov]); (repeat rw [if_neg (by omega)]); exact hTl q hq), Fam.ni1 (hF) q hq⟩
    all_goals simp only [outφ, outV, AR.res, go_sem, simprocAttr, e00]
  · skip
    have h3 : ¬ (n < 1 ∨ ids.length = 0) := by rintro (h | h); (simp [h] at hb3); (by_cases h2 : n < 1 <;> simp [h, h2] at hb3)
    rw [if_neg h3] at hEd
    refine aw_skip ?_
    try simp only [go_sem, simprocAttr]
    refine aw_seq ?_
    refine aw_seq (aw_region (EF := EFf) hG (by rw [hN]; exact tr23_5) ?_)
    simp only [a23_5, go_sem, simprocAttr, List.length_map, tFi, EFf, e00, stO_lo, hb0, hb1, nu_ne, List.cons_append, List.nil_append]
    refine aw_block ?_
    refine aw_loop (α := Nat) (fun i => (i ≤ ids.length) ∧ (DistTo ids i)) (fun i => ⟨mkE [(0, V.ptr 1000 0), (1, V.list (List.map Lid.enc ids) false), (2, V.str cls), (4, V.bool sale), (34, V.int IntKind.i64 ↑ids.length), (35, .int .i64 i)], mkH ([] ++ stO nu cs L)⟩) (fun i => ids.length - i) 0 ⟨Nat.zero_le _, fun a ha => absurd ha (Nat.not_lt_zero _)⟩ ?_ ?_
    · refine Le.tail _ _ _ ?_ ?_ ?_ rfl
      · exact fun q hq => ⟨by (have hge := hGe q hq; (try dsimp only [hupd, hupds, hov]); (repeat rw [if_neg (by omega)]); exact hTl q hq), Fam.ni1 (hF) q hq⟩
      all_goals (simp only [go_sem, simprocAttr, hin0, e00] <;> (repeat' apply And.intro) <;> try exact leA)
    · rintro i ⟨hi, hd⟩ KL0 hKL0
      try dsimp only at *
      refine aw_seq (aw_region (EF := EFf) hG (by rw [hN]; exact tr23_6) ?_)
      simp only [a23_6, go_sem, simprocAttr, tFi, EFf, e00, stO_lo, hb0, hb1, nu_ne, List.cons_append, List.nil_append]
      refine aw_seq ?_
      refine aw_cond (b := _) rfl (fun hc6 => ?_) (fun hc6 => ?_)
      · skip
        have hc : i < ids.length := by simp at hc6; omega
        refine aw_skip ?_
        try simp only [go_sem, simprocAttr]
        refine aw_seq ?_
        refine aw_block ?_
        refine aw_seq (aw_region (EF := EFf) hG (by rw [hN]; exact tr23_7) ?_)
        simp only [a23_7, go_sem, simprocAttr, tFi, EFf, e00, stO_lo, hb0, hb1, nu_ne, List.cons_append, List.nil_append]
        refine aw_seq (aw_region (EF := EFf) hG (by rw [hN]; exact tr23_8) ?_)
        simp only [a23_8, go_sem, simprocAttr, tFi, EFf, e00, stO_lo, hb0, hb1, nu_ne, List.cons_append, List.nil_append]
        refine aw_block ?_
        refine aw_loop (α := Nat) (fun k => (k ≤ i) ∧ (NeTo ids i k)) (fun k => ⟨mkE [(0, V.ptr 1000 0), (1, V.list (List.map Lid.enc ids) false), (2, V.str cls), (4, V.bool sale), (12, V.int IntKind.i64 ↑i), (34, V.int IntKind.i64 ↑ids.length), (35, V.int IntKind.i64 ↑i), (38, V.int IntKind.i64 ↑i), (39, .int .i64 k)], mkH ([] ++ stO nu cs L)⟩) (fun k => i - k) 0 ⟨Nat.zero_le _, fun a ha => absurd ha (Nat.not_lt_zero _)⟩ ?_ ?_
        · refine Le.tail _ _ _ ?_ ?_ ?_ rfl
          · exact fun q hq => ⟨by (have hge := hGe q hq; (try dsimp only [hupd, hupds, hov]); (repeat rw [if_neg (by omega)]); exact hTl q hq), Fam.ni1 (hF) q hq⟩
          all_goals (simp only [go_sem, simprocAttr, hin0, e00] <;> (repeat' apply And.intro) <;> try exact leA)
        · rintro k ⟨hk, hn⟩ KL2 hKL2
          try dsimp only at *
          refine aw_seq (aw_region (EF := EFf) hG (by rw [hN]; exact tr23_9) ?_)
          simp only [a23_9, go_sem, simprocAttr, tFi, EFf, e00, stO_lo, hb0, hb1, nu_ne, List.cons_append, List.nil_append]
          refine aw_seq ?_
          refine aw_cond (b := _) rfl (fun hc9 => ?_) (fun hc9 => ?_)
          · skip
            have hck : k < i := by simp at hc9; omega
            have hck2 : k < ids.length := by omega
            refine aw_skip ?_
            try simp only [go_sem, simprocAttr]
            refine aw_seq ?_
            refine aw_block ?_
            refine aw_seq (aw_region (EF := EFf) hG (by rw [hN]; exact tr23_10) ?_)
            simp only [a23_10, go_sem, simprocAttr, tFi, EFf, e00, stO_lo, hb0, hb1, nu_ne, List.cons_append, List.nil_append]
            refine aw_seq (aw_regionD (EF := EFf) hG mixed (by rw [hN]; exact tr23_11) ok23_11 ?_)
            simp only [a23_11, d23_11, go_sem, simprocAttr, getD_mapd _ _ _ _ hc, getD_mapd _ _ _ _ hck2, hc, hck2, List.length_map, Lid.enc, eqVs, eqV, fitKs, fitK, lid_eqVs, tFi, EFf, e00, stO_lo, hb0, hb1, nu_ne, List.cons_append, List.nil_append]
            (repeat' apply And.intro) <;> try exact sdA
            refine aw_cond (b := _) rfl (fun hb11 => ?_) (fun hb11 => ?_)
            · skip
              have h11 : (ids.getD k zLid).ky = (ids.getD i zLid).ky := by rw [getD_lid hc, getD_lid hck2]; simp only [Lid.ky, Ky.lg.injEq, ne_eq]; simpa using hb11
              obtain ⟨rfl, rfl⟩ := bad 6 (by decide) (by rw [hEd, if_pos (dup_at hc hck h11)])
              refine aw_seq (aw_region (EF := EFf) hG (by rw [hN]; exact tr23_12) ?_)
              simp only [a23_12, go_sem, simprocAttr, tFi, EFf, e00, stO_lo, hb0, hb1, nu_ne, List.cons_append, List.nil_append]
              refine aw_ret ?_
              show Q _ _
              refine hQ _ _ ⟨mkE [(10, .nils), (11, .int .i64 6)], mkH ([] ++ stO nu cs L)⟩ (.inl rfl) (Le.tail _ _ _ ?_ ?_ ?_ rfl) rfl ?_ ?_
              · exact fun q hq => ⟨by (have hge := hGe q hq; (try dsimp only [hupd, hupds, hov]); (repeat rw [if_neg (by omega)]); exact hTl q hq), Fam.ni1 (hF) q hq⟩
              all_goals simp only [outφ, outV, AR.res, go_sem, simprocAttr, e00]
            · skip
              have h11 : (ids.getD k zLid).ky ≠ (ids.getD i zLid).ky := by rw [getD_lid hc, getD_lid hck2]; simp only [Lid.ky, Ky.lg.injEq, ne_eq]; simpa using hb11
              refine aw_skip ?_
              try simp only [go_sem, simprocAttr]
              refine aw_region (EF := EFf) hG (by rw [hN]; exact tr23_13) ?_
              simp only [a23_13, go_sem, simprocAttr, inI, tFi, EFf, e00, stO_lo, hb0, hb1, nu_ne, List.cons_append, List.nil_append]
              (repeat' apply And.intro) <;> try exact sdA
              refine hKL2 (k + 1) _ ?_ ?_ ?_
              · (try dsimp only); exact ⟨hck, ne_step hn h11⟩
              · (try dsimp only); omega
              · refine Le.tail _ _ _ ?_ ?_ ?_ rfl
                · exact fun q hq => ⟨by (have hge := hGe q hq; (try dsimp only [hupd, hupds, hov]); (repeat rw [if_neg (by omega)]); exact hTl q hq), Fam.ni1 (hF) q hq⟩
                all_goals (simp only [go_sem, simprocAttr, hin0, e00] <;> (repeat' apply And.intro) <;> try exact leA)
          · skip
            obtain rfl : k = i := by simp at hc9; omega
            refine aw_exit ?_
            simp only [go_sem, simprocAttr]
            refine aw_region (EF := EFf) hG (by rw [hN]; exact tr23_14) ?_
            simp only [a23_14, go_sem, simprocAttr, inI, tFi, EFf, e00, stO_lo, hb0, hb1, nu_ne, List.cons_append, List.nil_append]
            (repeat' apply And.intro) <;> try exact sdA
            refine hKL0 (k + 1) _ ?_ ?_ ?_
            · (try dsimp only); exact ⟨hc, dist_step hd hn⟩
            · (try dsimp only); omega
            · refine Le.tail _ _ _ ?_ ?_ ?_ rfl
              · exact fun q hq => ⟨by (have hge := hGe q hq; (try dsimp only [hupd, hupds, hov]); (repeat rw [if_neg (by omega)]); exact hTl q hq), Fam.ni1 (hF) q hq⟩
              all_goals (simp only [go_sem, simprocAttr, hin0, e00] <;> (repeat' apply And.intro) <;> try exact leA)
      · skip
        obtain rfl : i = ids.length := by simp at hc6; omega
        have hdup := dist_nodup hd
        rw [if_neg (by rw [hdup]; decide)] at hEd
        have h70 : ptR nu (jsOf L (ids.take 0)) = [] := rfl
        refine aw_exit ?_
        simp only [go_sem, simprocAttr]
        refine aw_seq (aw_region (EF := EFf) hG (by rw [hN]; exact tr23_15) ?_)
        simp only [a23_15, go_sem, simprocAttr, tFi, EFf, e00, stO_lo, hb0, hb1, nu_ne, List.cons_append, List.nil_append]
        refine aw_seq ?_
        refine aw_seq (aw_region (EF := EFf) hG (by rw [hN]; exact tr23_16) ?_)
        simp only [a23_16, go_sem, simprocAttr, List.length_map, tFi, EFf, e00, stO_lo, hb0, hb1, nu_ne, List.cons_append, List.nil_append]
        refine aw_block ?_
        refine aw_loop (α := Nat) (fun i => (i ≤ ids.length) ∧ (missing L (ids.take i) = false) ∧ ((jsOf L (ids.take i)).length = i)) (fun i => ⟨mkE [(0, V.ptr 1000 0), (2, V.str cls), (4, V.bool sale), (14, .own 70 i), (53, V.list (List.map Lid.enc ids) false), (54, V.int IntKind.i64 ↑ids.length), (55, .int .i64 i)], mkH ([(70, .arr 67 1 (ptR nu (jsOf L (ids.take i))))] ++ stO nu cs L)⟩) (fun i => ids.length - i) 0 ⟨Nat.zero_le _, rfl, rfl⟩ ?_ ?_
        · refine Le.tail _ _ _ ?_ ?_ ?_ rfl
          · exact fun q hq => ⟨by (have hge := hGe q hq; (try dsimp only [hupd, hupds, hov]); (repeat rw [if_neg (by omega)]); exact hTl q hq), Fam.ni1 (hF) q hq⟩
          all_goals (simp only [go_sem, simprocAttr, hin0, e00, h70, stO_lo, hpn] <;> (repeat' apply And.intro) <;> try exact leA)
          exact .nilo _ _ _ rfl (stO_lo (by decide))
        · rintro i ⟨hi, hm, hjl⟩ KL4 hKL4
          try dsimp only at *
          refine aw_seq (aw_region (EF := EFf) hG (by rw [hN]; exact tr23_17) ?_)
          simp only [a23_17, go_sem, simprocAttr, tFi, EFf, e00, stO_lo, hb0, hb1, nu_ne, List.cons_append, List.nil_append]
          refine aw_seq ?_
          refine aw_cond (b := _) rfl (fun hc17 => ?_) (fun hc17 => ?_)
          · skip
            have hc : i < ids.length := by simp at hc17; omega
            obtain ⟨x, hx⟩ : ∃ x, x = ids[i] := ⟨_, rfl⟩
            have hlk := lgE_look L x
            refine aw_skip ?_
            try simp only [go_sem, simprocAttr]
            refine aw_seq ?_
            refine aw_block ?_
            refine aw_seq (aw_region (EF := EFf) hG (by rw [hN]; exact tr23_18) ?_)
            simp only [a23_18, go_sem, simprocAttr, getD_mapd _ _ _ _ hc, hc, List.length_map, Lid.enc, ← hx, tFi, EFf, e00, stO_lo, hb0, hb1, nu_ne, List.cons_append, List.nil_append]
            (repeat' apply And.intro) <;> try exact sdA
            by_cases hix : legIx L x = none
            · skip
              have hgv : getV nu L x = .nilp := by unfold getV; rw [hix]
              refine aw_seq (aw_regionD (EF := EFf) hG mixed (by rw [hN]; exact tr23_19) ok23_19 ?_)
              simp only [a23_19, d23_19, go_sem, simprocAttr, tFi, EFf, e00, stO_lo, hb0, hb1, nu_ne, List.cons_append, List.nil_append, hlk, hgv, hkd]
              (repeat' apply And.intro) <;> try exact sdA
              refine aw_seq ?_
              refine aw_seq (aw_region (EF := EFf) hG (by rw [hN]; exact tr23_20) ?_)
              simp only [a23_20, go_sem, simprocAttr, tFi, EFf, e00, stO_lo, hb0, hb1, nu_ne, List.cons_append, List.nil_append]
              refine aw_condT rfl ?_
              refine aw_seq (aw_region (EF := EFf) hG (by rw [hN]; exact tr23_21) ?_)
              simp only [a23_21, go_sem, simprocAttr, tFi, EFf, e00, stO_lo, hb0, hb1, nu_ne, List.cons_append, List.nil_append]
              obtain ⟨rfl, rfl⟩ := bad 7 (by decide) (by rw [hEd, if_pos (missing_at (L := L) hc (by rw [← hx]; exact hix))])
              refine aw_ret ?_
              show Q _ _
              refine hQ _ _ ⟨mkE [(10, .nils), (11, .int .i64 7)], mkH ([] ++ stO nu cs L)⟩ (.inl rfl) (Le.tail _ _ _ ?_ ?_ ?_ rfl) rfl ?_ ?_
              · exact fun q hq => ⟨by (have hge := hGe q hq; (try dsimp only [hupd, hupds, hov]); (repeat rw [if_neg (by omega)]); exact hTl q hq), Fam.ni1 (hF) q hq⟩
              all_goals simp only [outφ, outV, AR.res, go_sem, simprocAttr, e00]
            · skip
              obtain ⟨j, hj⟩ : ∃ j, legIx L x = some j := by cases h : legIx L x with | none => exact absurd h hix | some j => exact ⟨j, rfl⟩
              have hgv : getV nu L x = .ptr (nu (10 * j + 2)) 0 := by unfold getV; rw [hj]
              have hjL := (legIx_some hj).1
              have hin' := hinl j hjL
              have hst := jsOf_step (L := L) hc (by rw [← hx]; exact hj)
              have hms := missing_step (L := L) hc (by rw [← hx]; exact hj) hm
              refine aw_seq (aw_regionD (EF := EFf) hG mixed (by rw [hN]; exact tr23_19) ok23_19 ?_)
              simp only [a23_19, d23_19, go_sem, simprocAttr, tFi, EFf, e00, stO_lo, hb0, hb1, nu_ne, List.cons_append, List.nil_append, hlk, hgv, hkd]
              (repeat' apply And.intro) <;> try exact sdA
              refine aw_seq ?_
              refine aw_seq (aw_region (EF := EFf) hG (by rw [hN]; exact tr23_20) ?_)
              simp only [a23_20, go_sem, simprocAttr, tFi, EFf, e00, stO_lo, hb0, hb1, nu_ne, List.cons_append, List.nil_append]
              refine aw_condF rfl ?_
              refine aw_skip ?_
              try simp only [go_sem, simprocAttr]
              refine aw_region (EF := EFf) hG (by rw [hN]; exact tr23_22) ?_
              simp only [a23_22, go_sem, simprocAttr, ptR_len, hjl, ptR_one, tFi, EFf, e00, stO_lo, hb0, hb1, nu_ne, List.cons_append, List.nil_append]
              (repeat' apply And.intro) <;> try exact sdA
              refine aw_region (EF := EFf) hG (by rw [hN]; exact tr23_23) ?_
              simp only [a23_23, go_sem, simprocAttr, inI, tFi, EFf, e00, stO_lo, hb0, hb1, nu_ne, List.cons_append, List.nil_append]
              (repeat' apply And.intro) <;> try exact sdA
              refine hKL4 (i + 1) _ ?_ ?_ ?_
              · (try dsimp only); exact ⟨hc, hms, by rw [hst, List.length_append, hjl]; rfl⟩
              · (try dsimp only); omega
              · refine Le.tail _ _ _ ?_ ?_ ?_ rfl
                · exact fun q hq => ⟨by (have hge := hGe q hq; (try dsimp only [hupd, hupds, hov]); (repeat rw [if_neg (by omega)]); exact hTl q hq), Fam.ni1 (hF) q hq⟩
                all_goals (simp only [go_sem, simprocAttr, hin0, hin', e00, ptR_snoc, ← hst, hpn] <;> (repeat' apply And.intro) <;> try exact leA)
          · skip
            obtain rfl : i = ids.length := by simp at hc17; omega
            rw [List.take_length] at hm hjl
            rw [if_neg (by rw [hm]; decide)] at hEd
            refine aw_exit ?_
            simp only [go_sem, simprocAttr]
            refine aw_seq ?_
            by_cases hsale : sale = true
            · skip
              subst hsale
              rw [List.take_length]
              have hjt := jsOf_lt (L := L) (ids := ids)
              have hpn2 := hpn ids
              obtain ⟨js, hjs⟩ : ∃ js, js = jsOf L ids := ⟨_, rfl⟩
              rw [← hjs] at hjt hjl hEd hV0 hO0 hpn2 ⊢
              rw [← hjl]
              have hjs6 : js.length ≤ 1000000 := by omega
              refine aw_seq (aw_region (EF := EFf) hG (by rw [hN]; exact tr23_24) ?_)
              simp only [a23_24, go_sem, simprocAttr, tFi, EFf, e00, stO_lo, hb0, hb1, nu_ne, List.cons_append, List.nil_append]
              refine anyClosed_use (ν := nu) (cs := cs) hB hjt hjs6 nu_inj (fun k => by unfold nu; omega) rfl (fun q hq => by have hge := hGe q hq; (try dsimp only [hupd, hupds, hov]); (repeat rw [if_neg (by omega)]); exact hTl q hq) ?_
              simp only [go_sem, simprocAttr]
              refine aw_condF rfl ?_
              refine aw_skip ?_
              try simp only [go_sem, simprocAttr]
              refine aw_seq ?_
              refine aw_seq (aw_region (EF := EFf) hG (by rw [hN]; exact tr23_26) ?_)
              simp only [a23_26, go_sem, simprocAttr, ptR_len, tFi, EFf, e00, stO_lo, hb0, hb1, nu_ne, List.cons_append, List.nil_append]
              refine aw_block ?_
              refine aw_loop (α := Nat) (fun m => (m ≤ js.length) ∧ (∀ j ∈ js.take m, noPl L cls j = false)) (fun m => ⟨mkE [(2, V.str cls), (14, V.own 70 js.length), (77, V.own 70 js.length), (78, V.int IntKind.i64 ↑js.length), (79, .int .i64 m)], mkH ([(70, .arr 67 1 (ptR nu js))] ++ stO nu cs L)⟩) (fun m => js.length - m) 0 ⟨Nat.zero_le _, fun j hj => nomatch hj⟩ ?_ ?_
              · refine Le.tail _ _ _ ?_ ?_ ?_ rfl
                · exact fun q hq => ⟨by (have hge := hGe q hq; (try dsimp only [hupd, hupds, hov]); (repeat rw [if_neg (by omega)]); exact hTl q hq), Fam.ni1 (hF) q hq⟩
                all_goals (simp only [go_sem, simprocAttr, hin0, e00, hpn2] <;> (repeat' apply And.intro) <;> try exact leA)
              · rintro m ⟨hm6, hp6⟩ KL6 hKL6
                try dsimp only at *
                refine aw_seq (aw_region (EF := EFf) hG (by rw [hN]; exact tr23_27) ?_)
                simp only [a23_27, go_sem, simprocAttr, tFi, EFf, e00, stO_lo, hb0, hb1, nu_ne, List.cons_append, List.nil_append]
                refine aw_seq ?_
                refine aw_cond (b := _) rfl (fun hc27 => ?_) (fun hc27 => ?_)
                · skip
                  have hc7 : m < js.length := by simp at hc27; omega
                  obtain ⟨j, hj⟩ : ∃ j, j = js[m] := ⟨_, rfl⟩
                  have hjL : j < L.length := by rw [hj]; exact hjt _ (List.getElem_mem hc7)
                  have hlj := hlg j hjL
                  have hpt : (ptR nu js).getD m [] = [.ptr (nu (10 * j + 2)) 0] := by rw [hj]; unfold ptR; rw [getD_mapd _ _ _ _ hc7]
                  have hcok := (hok _ (List.getElem_mem hjL)).ok
                  have hno : noPl L cls j = (place L[j].conf.cabs cls).isNone := by unfold noPl; rw [List.getElem?_eq_getElem hjL]
                  obtain ⟨⟨q, lc⟩, hcf⟩ : ∃ c, c = L[j].conf := ⟨_, rfl⟩
                  rw [← hcf] at hlj hcok hno
                  dsimp only at hlj hno
                  obtain ⟨pl, hpl⟩ : ∃ p, p = place lc cls := ⟨_, rfl⟩
                  rw [← hpl] at hno
                  have hplV : ∃ a b : Int, placeV pl = .tup [.int .i64 a, .int .i64 b, .bool pl.isSome] := by rcases pl with _ | ⟨a, b⟩; exact ⟨0, 0, rfl⟩; exact ⟨a, b, rfl⟩
                  obtain ⟨pa, pb, hpv⟩ := hplV
                  refine aw_skip ?_
                  try simp only [go_sem, simprocAttr]
                  refine aw_seq ?_
                  refine aw_block ?_
                  refine aw_seq (aw_region (EF := EFf) hG (by rw [hN]; exact tr23_28) ?_)
                  simp only [a23_28, go_sem, simprocAttr, hpt, ptR_len, hc7, List.length_cons, List.length_nil, List.getD_cons_zero, tFi, EFf, e00, stO_lo, hb0, hb1, nu_ne, List.cons_append, List.nil_append]
                  (repeat' apply And.intro) <;> try exact sdA
                  refine aw_seq (aw_region (EF := EFf) hG (by rw [hN]; exact tr23_29) ?_)
                  simp only [a23_29, go_sem, simprocAttr, hlj, fPlace_eq, hcok, ← hpl, hpv, tFi, EFf, e00, stO_lo, hb0, hb1, nu_ne, List.cons_append, List.nil_append]
                  (repeat' apply And.intro) <;> try exact sdA
                  refine aw_seq (aw_region (EF := EFf) hG (by rw [hN]; exact tr23_30) ?_)
                  simp only [a23_30, go_sem, simprocAttr, tFi, EFf, e00, stO_lo, hb0, hb1, nu_ne, List.cons_append, List.nil_append]
                  refine aw_cond (b := _) rfl (fun hb30 => ?_) (fun hb30 => ?_)
                  · skip
                    have h30 : (js.any (noPl L cls)) = true := List.any_eq_true.2 ⟨j, by rw [hj]; exact List.getElem_mem hc7, by rw [hno]; cases pl; rfl; simp at hb30⟩
                    refine aw_seq (aw_region (EF := EFf) hG (by rw [hN]; exact tr23_31) ?_)
                    simp only [a23_31, go_sem, simprocAttr, tFi, EFf, e00, stO_lo, hb0, hb1, nu_ne, List.cons_append, List.nil_append]
                    obtain ⟨rfl, rfl⟩ := bad 16 (by decide) (by rw [hEd, if_pos h30])
                    refine aw_ret ?_
                    show Q _ _
                    refine hQ _ _ ⟨mkE [(10, .nils), (11, .int .i64 16)], mkH ([] ++ stO nu cs L)⟩ (.inl rfl) (Le.tail _ _ _ ?_ ?_ ?_ rfl) rfl ?_ ?_
                    · exact fun q hq => ⟨by (have hge := hGe q hq; (try dsimp only [hupd, hupds, hov]); (repeat rw [if_neg (by omega)]); exact hTl q hq), Fam.ni1 (hF) q hq⟩
                    all_goals simp only [outφ, outV, AR.res, go_sem, simprocAttr, e00]
                  · skip
                    have h30 : noPl L cls js[m] = false := by rw [← hj, hno]; cases pl; simp at hb30; rfl
                    refine aw_skip ?_
                    try simp only [go_sem, simprocAttr]
                    refine aw_region (EF := EFf) hG (by rw [hN]; exact tr23_32) ?_
                    simp only [a23_32, go_sem, simprocAttr, inI, tFi, EFf, e00, stO_lo, hb0, hb1, nu_ne, List.cons_append, List.nil_append]
                    (repeat' apply And.intro) <;> try exact sdA
                    refine hKL6 (m + 1) _ ?_ ?_ ?_
                    · (try dsimp only); exact ⟨hc7, take_all hc7 hp6 h30⟩
                    · (try dsimp only); omega
                    · refine Le.tail _ _ _ ?_ ?_ ?_ rfl
                      · exact fun q hq => ⟨by (have hge := hGe q hq; (try dsimp only [hupd, hupds, hov]); (repeat rw [if_neg (by omega)]); exact hTl q hq), Fam.ni1 (hF) q hq⟩
                      all_goals (simp only [go_sem, simprocAttr, hin0, e00, hpn2] <;> (repeat' apply And.intro) <;> try exact leA)
                · skip
                  obtain rfl : m = js.length := by simp at hc27; omega
                  rw [List.take_length] at hp6
                  have hE0 : E = 0 := by rw [hEd, if_neg (by rw [List.any_eq_false.2 fun j hj => by rw [hp6 j hj]; decide]; decide)]
                  obtain rfl : V0 = .tup [.own 70 js.length, .int .i64 0] := by rw [hV0, hE0]; rfl
                  obtain rfl : O0 = [(70, .arr 67 1 (ptR nu js))] := by rw [hO0, hE0]; rfl
                  refine aw_exit ?_
                  simp only [go_sem, simprocAttr]
                  refine aw_seq (aw_region (EF := EFf) hG (by rw [hN]; exact tr23_33) ?_)
                  simp only [a23_33, go_sem, simprocAttr, tFi, EFf, e00, stO_lo, hb0, hb1, nu_ne, List.cons_append, List.nil_append]
                  refine aw_ret ?_
                  show Q _ _
                  refine hQ _ _ ⟨mkE [(10, .own 70 js.length), (11, .int .i64 0)], mkH ([(70, .arr 67 1 (ptR nu js))] ++ stO nu cs L)⟩ (.inl rfl) (Le.tail _ _ _ ?_ ?_ ?_ rfl) rfl ?_ ?_
                  · exact fun q hq => ⟨by (have hge := hGe q hq; (try dsimp only [hupd, hupds, hov]); (repeat rw [if_neg (by omega)]); exact hTl q hq), Fam.ni1 (hF) q hq⟩
                  all_goals simp only [outφ, outV, AR.res, go_sem, simprocAttr, hpn2]
            · skip
              obtain rfl : sale = false := by simpa using hsale
              rw [List.take_length]
              have hjt := jsOf_lt (L := L) (ids := ids)
              have hpn2 := hpn ids
              obtain ⟨js, hjs⟩ : ∃ js, js = jsOf L ids := ⟨_, rfl⟩
              rw [← hjs] at hjt hjl hEd hV0 hO0 hpn2 ⊢
              rw [← hjl]
              have hjs6 : js.length ≤ 1000000 := by omega
              refine aw_seq (aw_region (EF := EFf) hG (by rw [hN]; exact tr23_24) ?_)
              simp only [a23_24, go_sem, simprocAttr, tFi, EFf, e00, stO_lo, hb0, hb1, nu_ne, List.cons_append, List.nil_append]
              refine aw_condF rfl ?_
              refine aw_skip ?_
              try simp only [go_sem, simprocAttr]
              refine aw_seq ?_
              refine aw_seq (aw_region (EF := EFf) hG (by rw [hN]; exact tr23_26) ?_)
              simp only [a23_26, go_sem, simprocAttr, ptR_len, tFi, EFf, e00, stO_lo, hb0, hb1, nu_ne, List.cons_append, List.nil_append]
              refine aw_block ?_
              refine aw_loop (α := Nat) (fun m => (m ≤ js.length) ∧ (∀ j ∈ js.take m, noPl L cls j = false)) (fun m => ⟨mkE [(2, V.str cls), (14, V.own 70 js.length), (77, V.own 70 js.length), (78, V.int IntKind.i64 ↑js.length), (79, .int .i64 m)], mkH ([(70, .arr 67 1 (ptR nu js))] ++ stO nu cs L)⟩) (fun m => js.length - m) 0 ⟨Nat.zero_le _, fun j hj => nomatch hj⟩ ?_ ?_
              · refine Le.tail _ _ _ ?_ ?_ ?_ rfl
                · exact fun q hq => ⟨by (have hge := hGe q hq; (try dsimp only [hupd, hupds, hov]); (repeat rw [if_neg (by omega)]); exact hTl q hq), Fam.ni1 (hF) q hq⟩
                all_goals (simp only [go_sem, simprocAttr, hin0, e00, hpn2] <;> (repeat' apply And.intro) <;> try exact leA)
              · rintro m ⟨hm6, hp6⟩ KL6 hKL6
                try dsimp only at *
                refine aw_seq (aw_region (EF := EFf) hG (by rw [hN]; exact tr23_27) ?_)
                simp only [a23_27, go_sem, simprocAttr, tFi, EFf, e00, stO_lo, hb0, hb1, nu_ne, List.cons_append, List.nil_append]
                refine aw_seq ?_
                refine aw_cond (b := _) rfl (fun hc27 => ?_) (fun hc27 => ?_)
                · skip
                  have hc7 : m < js.length := by simp at hc27; omega
                  obtain ⟨j, hj⟩ : ∃ j, j = js[m] := ⟨_, rfl⟩
                  have hjL : j < L.length := by rw [hj]; exact hjt _ (List.getElem_mem hc7)
                  have hlj := hlg j hjL
                  have hpt : (ptR nu js).getD m [] = [.ptr (nu (10 * j + 2)) 0] := by rw [hj]; unfold ptR; rw [getD_mapd _ _ _ _ hc7]
                  have hcok := (hok _ (List.getElem_mem hjL)).ok
                  have hno : noPl L cls j = (place L[j].conf.cabs cls).isNone := by unfold noPl; rw [List.getElem?_eq_getElem hjL]
                  obtain ⟨⟨q, lc⟩, hcf⟩ : ∃ c, c = L[j].conf := ⟨_, rfl⟩
                  rw [← hcf] at hlj hcok hno
                  dsimp only at hlj hno
                  obtain ⟨pl, hpl⟩ : ∃ p, p = place lc cls := ⟨_, rfl⟩
                  rw [← hpl] at hno
                  have hplV : ∃ a b : Int, placeV pl = .tup [.int .i64 a, .int .i64 b, .bool pl.isSome] := by rcases pl with _ | ⟨a, b⟩; exact ⟨0, 0, rfl⟩; exact ⟨a, b, rfl⟩
                  obtain ⟨pa, pb, hpv⟩ := hplV
                  refine aw_skip ?_
                  try simp only [go_sem, simprocAttr]
                  refine aw_seq ?_
                  refine aw_block ?_
                  refine aw_seq (aw_region (EF := EFf) hG (by rw [hN]; exact tr23_28) ?_)
                  simp only [a23_28, go_sem, simprocAttr, hpt, ptR_len, hc7, List.length_cons, List.length_nil, List.getD_cons_zero, tFi, EFf, e00, stO_lo, hb0, hb1, nu_ne, List.cons_append, List.nil_append]
                  (repeat' apply And.intro) <;> try exact sdA
                  refine aw_seq (aw_region (EF := EFf) hG (by rw [hN]; exact tr23_29) ?_)
                  simp only [a23_29, go_sem, simprocAttr, hlj, fPlace_eq, hcok, ← hpl, hpv, tFi, EFf, e00, stO_lo, hb0, hb1, nu_ne, List.cons_append, List.nil_append]
                  (repeat' apply And.intro) <;> try exact sdA
                  refine aw_seq (aw_region (EF := EFf) hG (by rw [hN]; exact tr23_30) ?_)
                  simp only [a23_30, go_sem, simprocAttr, tFi, EFf, e00, stO_lo, hb0, hb1, nu_ne, List.cons_append, List.nil_append]
                  refine aw_cond (b := _) rfl (fun hb30 => ?_) (fun hb30 => ?_)
                  · skip
                    have h30 : (js.any (noPl L cls)) = true := List.any_eq_true.2 ⟨j, by rw [hj]; exact List.getElem_mem hc7, by rw [hno]; cases pl; rfl; simp at hb30⟩
                    refine aw_seq (aw_region (EF := EFf) hG (by rw [hN]; exact tr23_31) ?_)
                    simp only [a23_31, go_sem, simprocAttr, tFi, EFf, e00, stO_lo, hb0, hb1, nu_ne, List.cons_append, List.nil_append]
                    obtain ⟨rfl, rfl⟩ := bad 16 (by decide) (by rw [hEd, if_pos h30])
                    refine aw_ret ?_
                    show Q _ _
                    refine hQ _ _ ⟨mkE [(10, .nils), (11, .int .i64 16)], mkH ([] ++ stO nu cs L)⟩ (.inl rfl) (Le.tail _ _ _ ?_ ?_ ?_ rfl) rfl ?_ ?_
                    · exact fun q hq => ⟨by (have hge := hGe q hq; (try dsimp only [hupd, hupds, hov]); (repeat rw [if_neg (by omega)]); exact hTl q hq), Fam.ni1 (hF) q hq⟩
                    all_goals simp only [outφ, outV, AR.res, go_sem, simprocAttr, e00]
                  · skip
                    have h30 : noPl L cls js[m] = false := by rw [← hj, hno]; cases pl; simp at hb30; rfl
                    refine aw_skip ?_
                    try simp only [go_sem, simprocAttr]
                    refine aw_region (EF := EFf) hG (by rw [hN]; exact tr23_32) ?_
                    simp only [a23_32, go_sem, simprocAttr, inI, tFi, EFf, e00, stO_lo, hb0, hb1, nu_ne, List.cons_append, List.nil_append]
                    (repeat' apply And.intro) <;> try exact sdA
                    refine hKL6 (m + 1) _ ?_ ?_ ?_
                    · (try dsimp only); exact ⟨hc7, take_all hc7 hp6 h30⟩
                    · (try dsimp only); omega
                    · refine Le.tail _ _ _ ?_ ?_ ?_ rfl
                      · exact fun q hq => ⟨by (have hge := hGe q hq; (try dsimp only [hupd, hupds, hov]); (repeat rw [if_neg (by omega)]); exact hTl q hq), Fam.ni1 (hF) q hq⟩
                      all_goals (simp only [go_sem, simprocAttr, hin0, e00, hpn2] <;> (repeat' apply And.intro) <;> try exact leA)
                · skip
                  obtain rfl : m = js.length := by simp at hc27; omega
                  rw [List.take_length] at hp6
                  have hE0 : E = 0 := by rw [hEd, if_neg (by rw [List.any_eq_false.2 fun j hj => by rw [hp6 j hj]; decide]; decide)]
                  obtain rfl : V0 = .tup [.own 70 js.length, .int .i64 0] := by rw [hV0, hE0]; rfl
                  obtain rfl : O0 = [(70, .arr 67 1 (ptR nu js))] := by rw [hO0, hE0]; rfl
                  refine aw_exit ?_
                  simp only [go_sem, simprocAttr]
                  refine aw_seq (aw_region (EF := EFf) hG (by rw [hN]; exact tr23_33) ?_)
                  simp only [a23_33, go_sem, simprocAttr, tFi, EFf, e00, stO_lo, hb0, hb1, nu_ne, List.cons_append, List.nil_append]
                  refine aw_ret ?_
                  show Q _ _
                  refine hQ _ _ ⟨mkE [(10, .own 70 js.length), (11, .int .i64 0)], mkH ([(70, .arr 67 1 (ptR nu js))] ++ stO nu cs L)⟩ (.inl rfl) (Le.tail _ _ _ ?_ ?_ ?_ rfl) rfl ?_ ?_
                  · exact fun q hq => ⟨by (have hge := hGe q hq; (try dsimp only [hupd, hupds, hov]); (repeat rw [if_neg (by omega)]); exact hTl q hq), Fam.ni1 (hF) q hq⟩
                  all_goals simp only [outφ, outV, AR.res, go_sem, simprocAttr, hpn2]
end Go.Proofs.YtllhcpjgilpbnaaDoor
