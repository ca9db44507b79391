import Derived.Test.YtllhcpjgilpbnaaDoorTs16
namespace Go.Proofs.YtllhcpjgilpbnaaDoor
open Go Go.RowKit
set_option linter.unusedSimpArgs false
set_option linter.unusedVariables false
set_option linter.deprecated false
def sellE (L : List Leg) (ids : List Lid) (cls : List UInt8) (n : Int) : Int := if findE L ids cls n ≠ 0 then findE L ids cls n else if (jsOf L ids).any (lessJ L cls n) = true then 17 else 0
def sellL (L : List Leg) (ids : List Lid) (cls : List UInt8) (n : Int) : List Leg := if sellE L ids cls n = 0 then addJs cls n L (jsOf L ids) else L
theorem findE_0 {L : List Leg} {ids : List Lid} {cls : List UInt8} {n : Int} (h : findE L ids cls n = 0) : 1 ≤ n ∧ ids.length ≠ 0 ∧ (ids.map Lid.ky).Nodup ∧ missing L ids = false ∧ (jsOf L ids).any (noPl L cls) = false := by
  unfold findE at h
  split at h
  · cases h
  · rename_i h1
    split at h
    · cases h
    · rename_i h2
      split at h
      · cases h
      · rename_i h3
        split at h
        · cases h
        · rename_i h4
          refine ⟨by omega, by omega, ?_, by simpa using h3, by simpa using h4⟩
          unfold dupB at h2
          simpa using h2
theorem jsOf_nd {L : List Leg} : ∀ {ids : List Lid}, (ids.map Lid.ky).Nodup → (jsOf L ids).Nodup
  | [], _ => List.nodup_nil
  | i :: ids, h => by
    rw [List.map_cons, List.nodup_cons] at h
    have ih := jsOf_nd (L := L) h.2
    unfold jsOf at ih ⊢
    rw [List.filterMap_cons]
    cases hx : legIx L i with
    | none => exact ih
    | some j =>
      refine List.nodup_cons.2 ⟨fun hm => h.1 ?_, ih⟩
      obtain ⟨i2, h2, h3⟩ := List.mem_filterMap.1 hm
      obtain ⟨a1, a2⟩ := legIx_some hx
      obtain ⟨b1, b2⟩ := legIx_some h3
      exact List.mem_map.2 ⟨i2, h2, by rw [← b2, ← a2]⟩
theorem nd_take {l : List Nat} (h : l.Nodup) {m : Nat} (hm : m < l.length) : l[m] ∉ l.take m := fun hc => by
  obtain ⟨a, ha, e⟩ := List.mem_take_iff_getElem.1 hc
  have h2 := List.pairwise_iff_getElem.1 h a m (by omega) hm (by omega)
  exact h2 e
theorem addJ_at {cls : List UInt8} {n : Int} {L : List Leg} {j : Nat} {x : Leg} {i k : Nat} (hx : L[j]? = some x) (hp : place x.conf.cabs cls = some (i, k)) : addJ cls n L j = L.set j (x.put i ((x.sold.getD i []).set k ((x.sold.getD i []).getD k 0 + n))) := by
  unfold addJ
  rw [hx]
  dsimp only
  unfold addAt
  rw [hp]
theorem place_row {c : Config} {S : List (List Int)} {cls : List UInt8} {i k : Nat} (h : LegOk c S) (hp : place c.cabs cls = some (i, k)) : ∃ (hi : i < c.cabs.length) (hs : i < S.length) (hk : k < S[i].length), S.getD i [] = S[i] ∧ (S.getD i []).getD k 0 = S[i][k] ∧ c.cabs.getD i zCabin = c.cabs[i] := by
  obtain ⟨hi, hk⟩ := place_lt hp
  have hs : i < S.length := by have := h.len; omega
  have e1 : S.getD i [] = S[i] := by rw [List.getD_eq_getElem?_getD, List.getElem?_eq_getElem hs]; rfl
  have e2 : c.cabs.getD i zCabin = c.cabs[i] := by rw [List.getD_eq_getElem?_getD, List.getElem?_eq_getElem hi]; rfl
  have hk2 : k < S[i].length := by rw [h.num i hs, e2]; exact hk
  exact ⟨hi, hs, hk2, e1, by rw [e1, List.getD_eq_getElem?_getD, List.getElem?_eq_getElem hk2]; rfl, e2⟩
def EFs : Nat → Bool := fun f => f == 23 || f == 24
noncomputable def tSe : Tab
  | 27 => (gOf aPlace fPlace)
  | _ => gNo
theorem tSe_ok : ∀ f, PureC Tryd.prog UT f (tSe f) := fun f => by
  unfold tSe
  split
  · exact place_p
  · exact PureC.no
set_option maxHeartbeats 4000000 in
theorem sell_e (cs : List Config) (L : List Leg) (ids : List Lid) (cls : List UInt8) (n : Int) (hok : LgsOk L) (hlen : ids.length ≤ 1000000) : Eff Tryd.prog UT 9 [.ptr (nu 0) 0, .list (ids.map Lid.enc) false, .str cls, .int .i64 n] (stO nu cs L) (.int .i64 (sellE L ids cls n)) (stO nu cs (sellL L ids cls n)) := by
  have hG := tSe_ok
  have hB := hok.b
  have e00 : nu 0 = 1000 := rfl
  have hTl := stO_at nu_inj (cs := cs) hB
  have hGe := stO_ge (cs := cs) (L := L)
  have hF := stO_fam cs L
  have hin0 : ∀ L' : List Leg, ((stO nu cs L').map (·.1)).contains 1000 = true := fun L' => st_in (stK_0 L')
  by_cases hE : findE L ids cls n = 0
  · have hjt := jsOf_lt (L := L) (ids := ids)
    obtain ⟨h1n, hne, hnd, hmis, hpl⟩ := findE_0 hE
    have hjn := jsOf_nd (L := L) hnd
    have hjl : (jsOf L ids).length ≤ ids.length := List.length_filterMap_le _ _
    have hjs6 : (jsOf L ids).length ≤ 1000000 := by omega
    have hpn : ∀ L' : List Leg, L'.map (fun x => x.sold.length) = L.map (fun x => x.sold.length) → ((∀ r ∈ ptR nu (jsOf L ids), V.nins (21 :: 6 :: 7 :: (stO nu cs L').map (·.1)) r = true) ↔ True) := fun L' hl => iff_true_intro (ptR_nin (L := L) hjt fun k hk => List.mem_cons_of_mem _ (List.mem_cons_of_mem _ (List.mem_cons_of_mem _ (by rw [(stO_fam cs L').nm, stK_eq hl]; exact List.mem_map.2 ⟨k, hk, rfl⟩))))
    by_cases hA : (jsOf L ids).any (lessJ L cls n) = true
    · have hS : sellE L ids cls n = 17 := by unfold sellE; rw [if_neg (by simp [hE]), if_pos hA]
      have hSL : sellL L ids cls n = L := by unfold sellL; rw [hS]; rfl
      rw [hS, hSL]
      refine Eff.of_aw Tryd.func9 body9 nm9 res9 (by rw [nt9]; simp) fun C hN Q hQ => ?_
      rw [nt9] at hN
      unfold c9
      refine aw_seq (aw_region (EF := EFs) hG (by rw [hN]; exact tr9_0) ?_)
      simp only [a9_0, go_sem, simprocAttr, tSe, EFs, e00, stO_lo, nu_ne, List.cons_append, List.nil_append]
      refine aw_seq (aw_region (EF := EFs) hG (by rw [hN]; exact tr9_1) ?_)
      simp only [a9_1, go_sem, simprocAttr, tSe, EFs, e00, stO_lo, nu_ne, List.cons_append, List.nil_append]
      refine find_good (ν := nu) (r := 21) hok hlen hE nu_inj (fun k => by unfold nu; omega) (by simp only [go_sem, simprocAttr, stO_lo]) (by decide) (fun q hq => by have hge := hGe q hq; (try dsimp only [hupd, hupds, hov]); (repeat rw [if_neg (by omega)]); exact hTl q hq) ?_
      simp only [go_sem, simprocAttr, stO_lo]
      refine aw_seq ?_
      refine aw_seq (aw_region (EF := EFs) hG (by rw [hN]; exact tr9_2) ?_)
      simp only [a9_2, go_sem, simprocAttr, tSe, EFs, e00, stO_lo, nu_ne, List.cons_append, List.nil_append]
      refine aw_condF rfl ?_
      refine aw_skip ?_
      try simp only [go_sem, simprocAttr]
      refine aw_seq ?_
      refine aw_seq (aw_region (EF := EFs) hG (by rw [hN]; exact tr9_4) ?_)
      simp only [a9_4, go_sem, simprocAttr, tSe, EFs, e00, stO_lo, nu_ne, List.cons_append, List.nil_append]
      refine anyLess_use (cs := cs) (cls := cls) (n := n) (ν := nu) (r := 21) (a := 6) (b := 7) hok hjt hjs6 nu_inj (fun k => by unfold nu; omega) (fun k => by unfold nu; omega) (fun k => by unfold nu; omega) (by decide) (by decide) (by decide) (by simp only [go_sem, simprocAttr]) (by simp only [go_sem, simprocAttr]) (by simp only [go_sem, simprocAttr]) (fun q hq => by have hge := hGe q hq; (try dsimp only [hupd, hupds, hov]); (repeat rw [if_neg (by omega)]); exact hTl q hq) ?_
      simp only [go_sem, simprocAttr, hA]
      refine aw_condT rfl ?_
      refine aw_seq (aw_region (EF := EFs) hG (by rw [hN]; exact tr9_5) ?_)
      simp only [a9_5, go_sem, simprocAttr, tSe, EFs, e00, stO_lo, nu_ne, List.cons_append, List.nil_append]
      refine aw_ret ?_
      show Q _ _
      refine hQ _ _ ⟨mkE [(8, .int .i64 17)], mkH ([] ++ stO nu cs L)⟩ (.inl rfl) (Le.tail _ _ _ ?_ ?_ ?_ rfl) rfl ?_ ?_
      · exact fun q hq => ⟨by (have hge := hGe q hq; (try dsimp only [hupd, hupds, hov]); (repeat rw [if_neg (by omega)]); exact hTl q hq), Fam.ni1 (hF) q hq⟩
      all_goals simp only [outφ, outV, AR.res, go_sem, simprocAttr, e00]
    · have hA2 : (jsOf L ids).any (lessJ L cls n) = false := by simpa using hA
      have hS : sellE L ids cls n = 0 := by unfold sellE; rw [if_neg (by simp [hE]), if_neg hA]
      have hSL : sellL L ids cls n = addJs cls n L (jsOf L ids) := by unfold sellL; rw [if_pos hS]
      rw [hS, hSL]
      obtain ⟨js, hjs⟩ : ∃ js, js = jsOf L ids := ⟨_, rfl⟩
      rw [← hjs] at hjt hjn hjs6 hpn hA2 ⊢
      refine Eff.of_aw Tryd.func9 body9 nm9 res9 (by rw [nt9]; simp) fun C hN Q hQ => ?_
      rw [nt9] at hN
      unfold c9
      refine aw_seq (aw_region (EF := EFs) hG (by rw [hN]; exact tr9_0) ?_)
      simp only [a9_0, go_sem, simprocAttr, tSe, EFs, e00, stO_lo, nu_ne, List.cons_append, List.nil_append]
      refine aw_seq (aw_region (EF := EFs) hG (by rw [hN]; exact tr9_1) ?_)
      simp only [a9_1, go_sem, simprocAttr, tSe, EFs, e00, stO_lo, nu_ne, List.cons_append, List.nil_append]
      refine find_good (ν := nu) (r := 21) hok hlen hE nu_inj (fun k => by unfold nu; omega) (by simp only [go_sem, simprocAttr, stO_lo]) (by decide) (fun q hq => by have hge := hGe q hq; (try dsimp only [hupd, hupds, hov]); (repeat rw [if_neg (by omega)]); exact hTl q hq) ?_
      rw [← hjs]
      simp only [go_sem, simprocAttr, stO_lo]
      refine aw_seq ?_
      refine aw_seq (aw_region (EF := EFs) hG (by rw [hN]; exact tr9_2) ?_)
      simp only [a9_2, go_sem, simprocAttr, tSe, EFs, e00, stO_lo, nu_ne, List.cons_append, List.nil_append]
      refine aw_condF rfl ?_
      refine aw_skip ?_
      try simp only [go_sem, simprocAttr]
      refine aw_seq ?_
      refine aw_seq (aw_region (EF := EFs) hG (by rw [hN]; exact tr9_4) ?_)
      simp only [a9_4, go_sem, simprocAttr, tSe, EFs, e00, stO_lo, nu_ne, List.cons_append, List.nil_append]
      refine anyLess_use (cs := cs) (cls := cls) (n := n) (ν := nu) (r := 21) (a := 6) (b := 7) hok hjt hjs6 nu_inj (fun k => by unfold nu; omega) (fun k => by unfold nu; omega) (fun k => by unfold nu; omega) (by decide) (by decide) (by decide) (by simp only [go_sem, simprocAttr]) (by simp only [go_sem, simprocAttr]) (by simp only [go_sem, simprocAttr]) (fun q hq => by have hge := hGe q hq; (try dsimp only [hupd, hupds, hov]); (repeat rw [if_neg (by omega)]); exact hTl q hq) ?_
      simp only [go_sem, simprocAttr, hA2]
      refine aw_condF rfl ?_
      refine aw_skip ?_
      try simp only [go_sem, simprocAttr]
      refine aw_seq ?_
      refine aw_seq (aw_region (EF := EFs) hG (by rw [hN]; exact tr9_6) ?_)
      simp only [a9_6, go_sem, simprocAttr, ptR_len, tSe, EFs, e00, stO_lo, nu_ne, List.cons_append, List.nil_append]
      refine aw_block ?_
      refine aw_loop (α := Nat) (fun m => (m ≤ js.length)) (fun m => ⟨mkE [(6, V.ptr 6 0), (7, V.ptr 7 0), (30, V.own 21 js.length), (31, V.int IntKind.i64 ↑js.length), (32, .int .i64 m)], mkH ([(21, .arr 67 1 (ptR nu js)), (6, .box 9 [.str cls]), (7, .box 3 [.int .i64 n])] ++ stO nu cs (addJs cls n L (js.take m)))⟩) (fun m => js.length - m) 0 (Nat.zero_le _) ?_ ?_
      · refine Le.tail _ _ _ ?_ ?_ ?_ rfl
        · exact fun q hq => ⟨by (have hge := hGe q hq; (try dsimp only [hupd, hupds, hov]); (repeat rw [if_neg (by omega)]); exact hTl q hq), Fam.ni1 (stO_fam cs L) q hq⟩
        all_goals (simp only [go_sem, simprocAttr, hin0, e00, hpn (addJs cls n L []) rfl] <;> (repeat' apply And.intro) <;> try exact leA)
      · rintro m hm KL0 hKL0
        try dsimp only at *
        refine aw_seq (aw_region (EF := EFs) hG (by rw [hN]; exact tr9_7) ?_)
        simp only [a9_7, go_sem, simprocAttr, tSe, EFs, e00, stO_lo, nu_ne, List.cons_append, List.nil_append]
        refine aw_seq ?_
        refine aw_cond (b := _) rfl (fun hc7 => ?_) (fun hc7 => ?_)
        · skip
          have hc : m < js.length := by simp at hc7; omega
          obtain ⟨Lm, hLm⟩ : ∃ x, x = addJs cls n L (js.take m) := ⟨_, rfl⟩
          rw [← hLm]
          have hokm : LgsOk Lm := by rw [hLm]; exact addJs_ok hok
          have hlm : Lm.map (fun x => x.sold.length) = L.map (fun x => x.sold.length) := by rw [hLm]; exact addJs_lens
          have hTl := stO_at nu_inj (cs := cs) hokm.b
          have hGe := stO_ge (cs := cs) (L := Lm)
          obtain ⟨j, hj⟩ : ∃ j, j = js[m] := ⟨_, rfl⟩
          have hjL : j < L.length := by rw [hj]; exact hjt _ (List.getElem_mem hc)
          have hjm : j < Lm.length := by rw [hLm, addJs_len]; exact hjL
          have hgm : Lm[j]? = some L[j] := by rw [hLm, addJs_get _ _ _ _ _ (List.Nodup.sublist (List.take_sublist m js) hjn), if_neg (by rw [hj]; exact nd_take hjn hc), List.getElem?_eq_getElem hjL]
          have hgm2 : Lm[j] = L[j] := by rw [List.getElem?_eq_getElem hjm] at hgm; injection hgm
          have hlb := st_leg nu_inj cs hokm.b hjm
          have hls := st_rows nu_inj cs hokm.b hjm
          have hlr := fun i h => st_row nu_inj cs hokm.b hjm (i := i) h
          have hset := fun i r h h2 (q : Nat × Ob) => stO_set (cs := cs) nu_inj hokm.b hjm (i := i) (r := r) h h2 (q := q)
          have hlok := hok _ (List.getElem_mem hjL)
          have hsn := addJs_snoc cls n L (js.take m) js[m]
          rw [← take_succ' hc, ← hLm, ← hj] at hsn
          have hles : n ≤ leftS L[j].conf L[j].sold cls := by have := List.any_eq_false.1 hA2 j (by rw [hj]; exact List.getElem_mem hc); unfold lessJ at this; rw [List.getElem?_eq_getElem hjL] at this; simpa using this
          obtain ⟨i, k, hpl, hri, hkc, hsp⟩ := left_sold h1n hles
          have hadd := addJ_at (n := n) hgm hpl
          rw [hgm2] at hlb hls hlr hset
          obtain ⟨x, hx⟩ : ∃ x, x = L[j] := ⟨_, rfl⟩
          rw [← hx] at hlb hls hlr hset hlok hpl hri hkc hsp hadd
          obtain ⟨hi, hs, hk, e1, e2, e3⟩ := place_row hlok hpl
          have hnum := right_num hri
          rw [e1] at hnum hsp hri
          rw [e2, e1] at hadd
          rw [e3] at hnum hsp hkc
          have hrg := hnum.rng x.sold[i][k] (List.getElem_mem hk)
          have hcab := hlok.cab _ (List.getElem_mem hi)
          have hb1 := belowS_rng hnum hcab.le (k + 1)
          have hb2 := belowS_step hk
          have hlim := hcab.lim k
          unfold spareAt at hsp
          rw [limits_getD _ hkc] at hsp
          have hlri := hlr i hs
          have hsat := soH_at (ν := fun k => nu (k + (10 * j + 4))) hs
          have hsl := soH_len (fun k => nu (k + (10 * j + 4))) x.sold
          have hseti := hset i (x.sold[i].set k (x.sold[i][k] + n)) hs (by rw [List.length_set])
          rw [← hadd, ← hsn] at hseti
          have hpt : (ptR nu js).getD m [] = [.ptr (nu (10 * j + 2)) 0] := by rw [hj]; unfold ptR; rw [getD_mapd _ _ _ _ hc]
          have hcok := hlok.ok
          obtain ⟨⟨q, lc⟩, hcf⟩ : ∃ c, c = x.conf := ⟨_, rfl⟩
          rw [← hcf] at hlb hcok hpl
          dsimp only at hlb hpl hsat
          generalize hnb : nu (10 * j + 2) = nb at hlb hpt
          generalize hnsn : nu (10 * j + 3) = ns at hlb hls
          generalize hnr : nu (i + (10 * j + 4)) = nr at hlri hsat hseti
          have nbl : ∀ k, k < 1000 → (nb = k) = False := fun k hk => by rw [← hnb]; exact nu_ne hk
          have nsl : ∀ k, k < 1000 → (ns = k) = False := fun k hk => by rw [← hnsn]; exact nu_ne hk
          have nrl : ∀ k, k < 1000 → (nr = k) = False := fun k hk => by rw [← hnr]; exact nu_ne hk
          refine aw_skip ?_
          try simp only [go_sem, simprocAttr]
          refine aw_seq ?_
          refine aw_block ?_
          refine aw_seq (aw_region (EF := EFs) hG (by rw [hN]; exact tr9_8) ?_)
          simp only [a9_8, go_sem, simprocAttr, hpt, ptR_len, hc, List.length_cons, List.length_nil, List.getD_cons_zero, tSe, EFs, e00, stO_lo, nu_ne, List.cons_append, List.nil_append]
          (repeat' apply And.intro) <;> try exact sdA
          refine aw_seq (aw_regionD (EF := EFs) hG mixed (by rw [hN]; exact tr9_9) ok9_9 ?_)
          simp only [a9_9, d9_9, go_sem, simprocAttr, hlb, fPlace_eq, hcok, hpl, placeV, nbl, tSe, EFs, e00, stO_lo, nu_ne, List.cons_append, List.nil_append]
          (repeat' apply And.intro) <;> try exact sdA
          refine aw_regionD (EF := EFs) hG mixed (by rw [hN]; exact tr9_10) ok9_10 ?_
          simp only [a9_10, d9_10, go_sem, simprocAttr, inI, hlb, hls, hlri, hsat, hsl, hs, ints_at _ _ hk, hk, nbl, nsl, nrl, ints_len, putAt, ints_set, tSe, EFs, e00, stO_lo, nu_ne, List.cons_append, List.nil_append]
          (repeat' apply And.intro) <;> try exact sdA
          refine aw_region (EF := EFs) hG (by rw [hN]; exact tr9_11) ?_
          simp only [a9_11, go_sem, simprocAttr, inI, tSe, EFs, e00, stO_lo, nu_ne, List.cons_append, List.nil_append]
          (repeat' apply And.intro) <;> try exact sdA
          refine hKL0 (m + 1) _ ?_ ?_ ?_
          · (try dsimp only); exact hc
          · (try dsimp only); omega
          · refine Le.tail _ _ _ ?_ ?_ ?_ rfl
            · intro q hq
              refine ⟨?_, Fam.ni1 (stO_fam cs _) q hq⟩
              rcases hseti q hq with rfl | ⟨hq, hne2⟩
              · dsimp only [hupd]; rw [if_pos rfl]
              · have hge := hGe q hq; dsimp only [hupd]; rw [if_neg hne2]; (repeat rw [if_neg (by omega)]); exact hTl q hq
            all_goals (simp only [go_sem, simprocAttr, hin0, e00, hpn (addJs cls n L (js.take (m + 1))) addJs_lens, List.cons_append, List.nil_append, nrl, fun k (hk : k < 1000) => eq_false (fun e : k = nr => (by have := nrl k hk; rw [← e] at this; simp at this))])
        · skip
          obtain rfl : m = js.length := by simp at hc7; omega
          rw [List.take_length]
          have hokm : LgsOk (addJs cls n L js) := addJs_ok hok
          have hTl := stO_at nu_inj (cs := cs) hokm.b
          have hGe := stO_ge (cs := cs) (L := addJs cls n L js)
          refine aw_exit ?_
          simp only [go_sem, simprocAttr]
          refine aw_seq (aw_region (EF := EFs) hG (by rw [hN]; exact tr9_12) ?_)
          simp only [a9_12, go_sem, simprocAttr, tSe, EFs, e00, stO_lo, nu_ne, List.cons_append, List.nil_append]
          refine aw_ret ?_
          show Q _ _
          refine hQ _ _ ⟨mkE [(8, .int .i64 0)], mkH ([] ++ stO nu cs (addJs cls n L js))⟩ (.inl rfl) (Le.tail _ _ _ ?_ ?_ ?_ rfl) rfl ?_ ?_
          · exact fun q hq => ⟨by (have hge := hGe q hq; (try dsimp only [hupd, hupds, hov]); (repeat rw [if_neg (by omega)]); exact hTl q hq), Fam.ni1 (stO_fam cs _) q hq⟩
          all_goals simp only [outφ, outV, AR.res, go_sem, simprocAttr, e00]
  · have hS : sellE L ids cls n = findE L ids cls n := by unfold sellE; rw [if_pos hE]
    have hSL : sellL L ids cls n = L := by unfold sellL; rw [hS, if_neg hE]
    rw [hS, hSL]
    obtain ⟨E, hEe⟩ : ∃ x, x = findE L ids cls n := ⟨_, rfl⟩
    have hE2 := hE
    rw [← hEe] at hE2 ⊢
    refine Eff.of_aw Tryd.func9 body9 nm9 res9 (by rw [nt9]; simp) fun C hN Q hQ => ?_
    rw [nt9] at hN
    unfold c9
    refine aw_seq (aw_region (EF := EFs) hG (by rw [hN]; exact tr9_0) ?_)
    simp only [a9_0, go_sem, simprocAttr, tSe, EFs, e00, stO_lo, nu_ne, List.cons_append, List.nil_append]
    refine aw_seq (aw_region (EF := EFs) hG (by rw [hN]; exact tr9_1) ?_)
    simp only [a9_1, go_sem, simprocAttr, tSe, EFs, e00, stO_lo, nu_ne, List.cons_append, List.nil_append]
    refine find_bad (ν := nu) hok hlen hE nu_inj (fun q hq => by have hge := hGe q hq; (try dsimp only [hupd, hupds, hov]); (repeat rw [if_neg (by omega)]); exact hTl q hq) ?_
    rw [← hEe]
    simp only [go_sem, simprocAttr, stO_lo]
    refine aw_seq ?_
    refine aw_seq (aw_region (EF := EFs) hG (by rw [hN]; exact tr9_2) ?_)
    simp only [a9_2, go_sem, simprocAttr, tSe, EFs, e00, stO_lo, nu_ne, List.cons_append, List.nil_append]
    refine aw_cond (b := _) rfl (fun hb2 => ?_) (fun hb2 => ?_)
    · skip
      refine aw_seq (aw_region (EF := EFs) hG (by rw [hN]; exact tr9_3) ?_)
      simp only [a9_3, go_sem, simprocAttr, tSe, EFs, e00, stO_lo, nu_ne, List.cons_append, List.nil_append]
      refine aw_ret ?_
      show Q _ _
      refine hQ _ _ ⟨mkE [(8, .int .i64 E)], mkH ([] ++ stO nu cs L)⟩ (.inl rfl) (Le.tail _ _ _ ?_ ?_ ?_ rfl) rfl ?_ ?_
      · exact fun q hq => ⟨by (have hge := hGe q hq; (try dsimp only [hupd, hupds, hov]); (repeat rw [if_neg (by omega)]); exact hTl q hq), Fam.ni1 (hF) q hq⟩
      all_goals simp only [outφ, outV, AR.res, go_sem, simprocAttr, e00]
    · exact absurd hb2 (by simp [hE2])
set_option linter.unusedSimpArgs false
set_option linter.unusedVariables false
set_option linter.deprecated false
def EFc2 : Nat → Bool := fun f => f == 23
set_option maxHeartbeats 4000000 in
theorem cancel_e (cs : List Config) (L : List Leg) (ids : List Lid) (cls : List UInt8) (n : Int) (hok : LgsOk L) (hlen : ids.length ≤ 1000000) (hE : findE L ids cls n = 0) (hn : n ≤ 1000000)
    (hsold : ∀ j ∈ jsOf L ids, ∀ x, L[j]? = some x → ∃ i k, place x.conf.cabs cls = some (i, k) ∧ n ≤ (x.sold.getD i []).getD k 0 ∧ (x.sold.getD i []).getD k 0 ≤ 1000000) :
    Eff Tryd.prog UT 12 [.ptr (nu 0) 0, .list (ids.map Lid.enc) false, .str cls, .int .i64 n] (stO nu cs L) (.int .i64 0) (stO nu cs (addJs cls (-n) L (jsOf L ids))) := by
  have hG := tSe_ok
  have hB := hok.b
  have e00 : nu 0 = 1000 := rfl
  have hTl := stO_at nu_inj (cs := cs) hB
  have hGe := stO_ge (cs := cs) (L := L)
  have hF := stO_fam cs L
  have hin0 : ∀ L' : List Leg, ((stO nu cs L').map (·.1)).contains 1000 = true := fun L' => st_in (stK_0 L')
  have hjt := jsOf_lt (L := L) (ids := ids)
  obtain ⟨h1n, hne, hnd, hmis, hpl⟩ := findE_0 hE
  have hjn := jsOf_nd (L := L) hnd
  have hjl : (jsOf L ids).length ≤ ids.length := List.length_filterMap_le _ _
  have hjs6 : (jsOf L ids).length ≤ 1000000 := by omega
  have hpn : ∀ L' : List Leg, L'.map (fun x => x.sold.length) = L.map (fun x => x.sold.length) → ((∀ r ∈ ptR nu (jsOf L ids), V.nins (26 :: (stO nu cs L').map (·.1)) r = true) ↔ True) := fun L' hl => iff_true_intro (ptR_nin (L := L) hjt fun k hk => List.mem_cons_of_mem _ (by rw [(stO_fam cs L').nm, stK_eq hl]; exact List.mem_map.2 ⟨k, hk, rfl⟩))
  obtain ⟨js, hjs⟩ : ∃ js, js = jsOf L ids := ⟨_, rfl⟩
  rw [← hjs] at hjt hjn hjs6 hpn hsold ⊢
  have hlgb := fun j (h : j < L.length) => st_leg nu_inj cs hB h
  have hlgr := fun j (h : j < L.length) => st_rows nu_inj cs hB h
  have hlgw := fun j (h : j < L.length) i hi => st_row nu_inj cs hB h (i := i) hi
  refine Eff.of_aw Tryd.func12 body12 nm12 res12 (by rw [nt12]; simp) fun C hN Q hQ => ?_
  rw [nt12] at hN
  unfold c12
  refine aw_seq (aw_region (EF := EFc2) hG (by rw [hN]; exact tr12_0) ?_)
  simp only [a12_0, go_sem, simprocAttr, tSe, EFc2, e00, stO_lo, nu_ne, List.cons_append, List.nil_append]
  refine aw_seq (aw_region (EF := EFc2) hG (by rw [hN]; exact tr12_1) ?_)
  simp only [a12_1, go_sem, simprocAttr, tSe, EFc2, e00, stO_lo, nu_ne, List.cons_append, List.nil_append]
  refine find_good (ν := nu) (r := 26) hok hlen hE nu_inj (fun k => by unfold nu; omega) (by simp only [go_sem, simprocAttr, stO_lo]) (by decide) (fun q hq => by have hge := hGe q hq; (try dsimp only [hupd, hupds, hov]); (repeat rw [if_neg (by omega)]); exact hTl q hq) ?_
  rw [← hjs]
  simp only [go_sem, simprocAttr, stO_lo]
  refine aw_seq ?_
  refine aw_seq (aw_region (EF := EFc2) hG (by rw [hN]; exact tr12_2) ?_)
  simp only [a12_2, go_sem, simprocAttr, tSe, EFc2, e00, stO_lo, nu_ne, List.cons_append, List.nil_append]
  refine aw_condF rfl ?_
  refine aw_skip ?_
  try simp only [go_sem, simprocAttr]
  refine aw_seq ?_
  refine aw_seq (aw_region (EF := EFc2) hG (by rw [hN]; exact tr12_4) ?_)
  simp only [a12_4, go_sem, simprocAttr, ptR_len, tSe, EFc2, e00, stO_lo, nu_ne, List.cons_append, List.nil_append]
  refine aw_block ?_
  refine aw_loop (α := Nat) (fun m => (m ≤ js.length)) (fun m => ⟨mkE [(2, V.str cls), (3, V.int IntKind.i64 n), (9, V.own 26 js.length), (32, V.own 26 js.length), (33, V.int IntKind.i64 ↑js.length), (34, .int .i64 m)], mkH ([(26, .arr 67 1 (ptR nu js))] ++ stO nu cs L)⟩) (fun m => js.length - m) 0 (Nat.zero_le _) ?_ ?_
  · refine Le.tail _ _ _ ?_ ?_ ?_ rfl
    · exact fun q hq => ⟨by (have hge := hGe q hq; (try dsimp only [hupd, hupds, hov]); (repeat rw [if_neg (by omega)]); exact hTl q hq), Fam.ni1 (stO_fam cs L) q hq⟩
    all_goals (simp only [go_sem, simprocAttr, hin0, e00, hpn L rfl] <;> (repeat' apply And.intro) <;> try exact leA)
  · rintro m hm KL0 hKL0
    try dsimp only at *
    refine aw_seq (aw_region (EF := EFc2) hG (by rw [hN]; exact tr12_5) ?_)
    simp only [a12_5, go_sem, simprocAttr, tSe, EFc2, e00, stO_lo, nu_ne, List.cons_append, List.nil_append]
    refine aw_seq ?_
    refine aw_cond (b := _) rfl (fun hc5 => ?_) (fun hc5 => ?_)
    · skip
      have hc : m < js.length := by simp at hc5; omega
      obtain ⟨j, hj⟩ : ∃ j, j = js[m] := ⟨_, rfl⟩
      have hjL : j < L.length := by rw [hj]; exact hjt _ (List.getElem_mem hc)
      have hlb := hlgb j hjL
      have hls := hlgr j hjL
      have hlr := hlgw j hjL
      have hlok := hok _ (List.getElem_mem hjL)
      obtain ⟨i, k, hpl, hsn1, hsn2⟩ := hsold j (by rw [hj]; exact List.getElem_mem hc) L[j] (List.getElem?_eq_getElem hjL)
      obtain ⟨x, hx⟩ : ∃ x, x = L[j] := ⟨_, rfl⟩
      rw [← hx] at hlb hls hlr hlok hpl hsn1 hsn2
      obtain ⟨hi, hs, hk, e1, e2, e3⟩ := place_row hlok hpl
      rw [e2] at hsn1 hsn2
      have hlri := hlr i hs
      have hsat := soH_at (ν := fun k => nu (k + (10 * j + 4))) hs
      have hsl := soH_len (fun k => nu (k + (10 * j + 4))) x.sold
      have hpt : (ptR nu js).getD m [] = [.ptr (nu (10 * j + 2)) 0] := by rw [hj]; unfold ptR; rw [getD_mapd _ _ _ _ hc]
      have hcok := hlok.ok
      obtain ⟨⟨q, lc⟩, hcf⟩ : ∃ c, c = x.conf := ⟨_, rfl⟩
      rw [← hcf] at hlb hcok hpl
      dsimp only at hlb hpl hsat
      generalize hnb : nu (10 * j + 2) = nb at hlb hpt
      generalize hnsn : nu (10 * j + 3) = ns at hlb hls
      generalize hnr : nu (i + (10 * j + 4)) = nr at hlri hsat
      have nbl : ∀ k, k < 1000 → (nb = k) = False := fun k hk => by rw [← hnb]; exact nu_ne hk
      have nsl : ∀ k, k < 1000 → (ns = k) = False := fun k hk => by rw [← hnsn]; exact nu_ne hk
      have nrl : ∀ k, k < 1000 → (nr = k) = False := fun k hk => by rw [← hnr]; exact nu_ne hk
      refine aw_skip ?_
      try simp only [go_sem, simprocAttr]
      refine aw_seq ?_
      refine aw_block ?_
      refine aw_seq (aw_region (EF := EFc2) hG (by rw [hN]; exact tr12_6) ?_)
      simp only [a12_6, go_sem, simprocAttr, hpt, ptR_len, hc, List.length_cons, List.length_nil, List.getD_cons_zero, tSe, EFc2, e00, stO_lo, nu_ne, List.cons_append, List.nil_append]
      (repeat' apply And.intro) <;> try exact sdA
      refine aw_seq (aw_region (EF := EFc2) hG (by rw [hN]; exact tr12_7) ?_)
      simp only [a12_7, go_sem, simprocAttr, hlb, fPlace_eq, hcok, hpl, placeV, nbl, tSe, EFc2, e00, stO_lo, nu_ne, List.cons_append, List.nil_append]
      (repeat' apply And.intro) <;> try exact sdA
      refine aw_seq (aw_region (EF := EFc2) hG (by rw [hN]; exact tr12_8) ?_)
      simp only [a12_8, go_sem, simprocAttr, hlb, hls, hlri, hsat, hsl, hs, ints_at _ _ hk, hk, nbl, nsl, nrl, ints_len, tSe, EFc2, e00, stO_lo, nu_ne, List.cons_append, List.nil_append]
      (repeat' apply And.intro) <;> try exact sdA
      refine aw_cond (b := _) rfl (fun hb8 => ?_) (fun hb8 => ?_)
      · exact absurd hb8 (by simp; omega)
      · skip
        refine aw_skip ?_
        try simp only [go_sem, simprocAttr]
        refine aw_region (EF := EFc2) hG (by rw [hN]; exact tr12_10) ?_
        simp only [a12_10, go_sem, simprocAttr, inI, tSe, EFc2, e00, stO_lo, nu_ne, List.cons_append, List.nil_append]
        (repeat' apply And.intro) <;> try exact sdA
        refine hKL0 (m + 1) _ ?_ ?_ ?_
        · (try dsimp only); exact hc
        · (try dsimp only); omega
        · refine Le.tail _ _ _ ?_ ?_ ?_ rfl
          · exact fun q hq => ⟨by (have hge := hGe q hq; (try dsimp only [hupd, hupds, hov]); (repeat rw [if_neg (by omega)]); exact hTl q hq), Fam.ni1 (stO_fam cs L) q hq⟩
          all_goals (simp only [go_sem, simprocAttr, hin0, e00, hpn L rfl] <;> (repeat' apply And.intro) <;> try exact leA)
    · skip
      refine aw_exit ?_
      simp only [go_sem, simprocAttr]
      refine aw_seq ?_
      refine aw_seq (aw_region (EF := EFc2) hG (by rw [hN]; exact tr12_11) ?_)
      simp only [a12_11, go_sem, simprocAttr, ptR_len, tSe, EFc2, e00, stO_lo, nu_ne, List.cons_append, List.nil_append]
      refine aw_block ?_
      refine aw_loop (α := Nat) (fun m => (m ≤ js.length)) (fun m => ⟨mkE [(2, V.str cls), (3, V.int IntKind.i64 n), (61, V.own 26 js.length), (62, V.int IntKind.i64 ↑js.length), (63, .int .i64 m)], mkH ([(26, .arr 67 1 (ptR nu js))] ++ stO nu cs (addJs cls (-n) L (js.take m)))⟩) (fun m => js.length - m) 0 (Nat.zero_le _) ?_ ?_
      · refine Le.tail _ _ _ ?_ ?_ ?_ rfl
        · exact fun q hq => ⟨by (have hge := hGe q hq; (try dsimp only [hupd, hupds, hov]); (repeat rw [if_neg (by omega)]); exact hTl q hq), Fam.ni1 (stO_fam cs L) q hq⟩
        all_goals (simp only [go_sem, simprocAttr, hin0, e00, hpn (addJs cls (-n) L []) rfl] <;> (repeat' apply And.intro) <;> try exact leA)
      · rintro m hm KL2 hKL2
        try dsimp only at *
        refine aw_seq (aw_region (EF := EFc2) hG (by rw [hN]; exact tr12_12) ?_)
        simp only [a12_12, go_sem, simprocAttr, tSe, EFc2, e00, stO_lo, nu_ne, List.cons_append, List.nil_append]
        refine aw_seq ?_
        refine aw_cond (b := _) rfl (fun hc12 => ?_) (fun hc12 => ?_)
        · skip
          have hc : m < js.length := by simp at hc12; omega
          obtain ⟨Lm, hLm⟩ : ∃ x, x = addJs cls (-n) L (js.take m) := ⟨_, rfl⟩
          rw [← hLm]
          have hokm : LgsOk Lm := by rw [hLm]; exact addJs_ok hok
          have hlm : Lm.map (fun x => x.sold.length) = L.map (fun x => x.sold.length) := by rw [hLm]; exact addJs_lens
          have hTl := stO_at nu_inj (cs := cs) hokm.b
          have hGe := stO_ge (cs := cs) (L := Lm)
          obtain ⟨j, hj⟩ : ∃ j, j = js[m] := ⟨_, rfl⟩
          have hjL : j < L.length := by rw [hj]; exact hjt _ (List.getElem_mem hc)
          have hjm : j < Lm.length := by rw [hLm, addJs_len]; exact hjL
          have hgm : Lm[j]? = some L[j] := by rw [hLm, addJs_get _ _ _ _ _ (List.Nodup.sublist (List.take_sublist m js) hjn), if_neg (by rw [hj]; exact nd_take hjn hc), List.getElem?_eq_getElem hjL]
          have hgm2 : Lm[j] = L[j] := by rw [List.getElem?_eq_getElem hjm] at hgm; injection hgm
          have hlb := st_leg nu_inj cs hokm.b hjm
          have hls := st_rows nu_inj cs hokm.b hjm
          have hlr := fun i h => st_row nu_inj cs hokm.b hjm (i := i) h
          have hset := fun i r h h2 (q : Nat × Ob) => stO_set (cs := cs) nu_inj hokm.b hjm (i := i) (r := r) h h2 (q := q)
          have hlok := hok _ (List.getElem_mem hjL)
          have hsn := addJs_snoc cls (-n) L (js.take m) js[m]
          rw [← take_succ' hc, ← hLm, ← hj] at hsn
          obtain ⟨i, k, hpl, hsn1, hsn2⟩ := hsold j (by rw [hj]; exact List.getElem_mem hc) L[j] (List.getElem?_eq_getElem hjL)
          have hadd := addJ_at (n := -n) hgm hpl
          rw [hgm2] at hlb hls hlr hset
          obtain ⟨x, hx⟩ : ∃ x, x = L[j] := ⟨_, rfl⟩
          rw [← hx] at hlb hls hlr hset hlok hpl hsn1 hsn2 hadd
          obtain ⟨hi, hs, hk, e1, e2, e3⟩ := place_row hlok hpl
          rw [e2, e1] at hadd
          rw [e2] at hsn1 hsn2
          have hlri := hlr i hs
          have hsat := soH_at (ν := fun k => nu (k + (10 * j + 4))) hs
          have hsl := soH_len (fun k => nu (k + (10 * j + 4))) x.sold
          have hseti := hset i (x.sold[i].set k (x.sold[i][k] + -n)) hs (by rw [List.length_set])
          rw [← hadd, ← hsn] at hseti
          have hpt : (ptR nu js).getD m [] = [.ptr (nu (10 * j + 2)) 0] := by rw [hj]; unfold ptR; rw [getD_mapd _ _ _ _ hc]
          have hcok := hlok.ok
          obtain ⟨⟨q, lc⟩, hcf⟩ : ∃ c, c = x.conf := ⟨_, rfl⟩
          rw [← hcf] at hlb hcok hpl
          dsimp only at hlb hpl hsat
          generalize hnb : nu (10 * j + 2) = nb at hlb hpt
          generalize hnsn : nu (10 * j + 3) = ns at hlb hls
          generalize hnr : nu (i + (10 * j + 4)) = nr at hlri hsat hseti
          have nbl : ∀ k, k < 1000 → (nb = k) = False := fun k hk => by rw [← hnb]; exact nu_ne hk
          have nsl : ∀ k, k < 1000 → (ns = k) = False := fun k hk => by rw [← hnsn]; exact nu_ne hk
          have nrl : ∀ k, k < 1000 → (nr = k) = False := fun k hk => by rw [← hnr]; exact nu_ne hk
          refine aw_skip ?_
          try simp only [go_sem, simprocAttr]
          refine aw_seq ?_
          refine aw_block ?_
          refine aw_seq (aw_region (EF := EFc2) hG (by rw [hN]; exact tr12_13) ?_)
          simp only [a12_13, go_sem, simprocAttr, hpt, ptR_len, hc, List.length_cons, List.length_nil, List.getD_cons_zero, tSe, EFc2, e00, stO_lo, nu_ne, List.cons_append, List.nil_append]
          (repeat' apply And.intro) <;> try exact sdA
          refine aw_seq (aw_region (EF := EFc2) hG (by rw [hN]; exact tr12_14) ?_)
          simp only [a12_14, go_sem, simprocAttr, hlb, fPlace_eq, hcok, hpl, placeV, nbl, tSe, EFc2, e00, stO_lo, nu_ne, List.cons_append, List.nil_append]
          (repeat' apply And.intro) <;> try exact sdA
          refine aw_region (EF := EFc2) hG (by rw [hN]; exact tr12_15) ?_
          simp only [a12_15, go_sem, simprocAttr, inI, hlb, hls, hlri, hsat, hsl, hs, ints_at _ _ hk, hk, nbl, nsl, nrl, ints_len, putAt, ints_set, Int.sub_eq_add_neg, tSe, EFc2, e00, stO_lo, nu_ne, List.cons_append, List.nil_append]
          (repeat' apply And.intro) <;> try exact sdA
          refine aw_region (EF := EFc2) hG (by rw [hN]; exact tr12_16) ?_
          simp only [a12_16, go_sem, simprocAttr, inI, tSe, EFc2, e00, stO_lo, nu_ne, List.cons_append, List.nil_append]
          (repeat' apply And.intro) <;> try exact sdA
          refine hKL2 (m + 1) _ ?_ ?_ ?_
          · (try dsimp only); exact hc
          · (try dsimp only); omega
          · refine Le.tail _ _ _ ?_ ?_ ?_ rfl
            · intro q hq
              refine ⟨?_, Fam.ni1 (stO_fam cs _) q hq⟩
              rcases hseti q hq with rfl | ⟨hq, hne2⟩
              · dsimp only [hupd]; rw [if_pos rfl]
              · have hge := hGe q hq; dsimp only [hupd]; rw [if_neg hne2]; (repeat rw [if_neg (by omega)]); exact hTl q hq
            all_goals (simp only [go_sem, simprocAttr, hin0, e00, hpn (addJs cls (-n) L (js.take (m + 1))) addJs_lens, List.cons_append, List.nil_append, nrl, fun k (hk : k < 1000) => eq_false (fun e : k = nr => (by have := nrl k hk; rw [← e] at this; simp at this))])
        · skip
          obtain rfl : m = js.length := by simp at hc12; omega
          rw [List.take_length]
          have hokm : LgsOk (addJs cls (-n) L js) := addJs_ok hok
          have hTl := stO_at nu_inj (cs := cs) hokm.b
          have hGe := stO_ge (cs := cs) (L := addJs cls (-n) L js)
          refine aw_exit ?_
          simp only [go_sem, simprocAttr]
          refine aw_seq (aw_region (EF := EFc2) hG (by rw [hN]; exact tr12_17) ?_)
          simp only [a12_17, go_sem, simprocAttr, tSe, EFc2, e00, stO_lo, nu_ne, List.cons_append, List.nil_append]
          refine aw_ret ?_
          show Q _ _
          refine hQ _ _ ⟨mkE [(8, .int .i64 0)], mkH ([] ++ stO nu cs (addJs cls (-n) L js))⟩ (.inl rfl) (Le.tail _ _ _ ?_ ?_ ?_ rfl) rfl ?_ ?_
          · exact fun q hq => ⟨by (have hge := hGe q hq; (try dsimp only [hupd, hupds, hov]); (repeat rw [if_neg (by omega)]); exact hTl q hq), Fam.ni1 (stO_fam cs _) q hq⟩
          all_goals simp only [outφ, outV, AR.res, go_sem, simprocAttr, e00]
set_option linter.unusedSimpArgs false
set_option linter.unusedVariables false
set_option linter.deprecated false
theorem equip_use {d : Option Nat} {s : St} {K : St → Prop} {cs : List Config} {L : List Leg} {i : Lid} {x : Leg} {ν : Nat → Nat} (hB : LgsB L) (hx : legAt L i = some x) (hν : Inj ν) (hat : ∀ q ∈ stO ν cs L, s.h q.1 = some q.2) (hK : K ⟨setE d (.tup [.str x.conf.equip, .bool true]) s.e, s.h⟩) :
    EStep Tryd.prog UT d 47 [.ptr (ν 0) 0, .agg i.enc] s K := by
  have he := equip_e cs L i hB
  rw [hx] at he
  exact st_use0 (v := .tup [.str x.conf.equip, .bool true]) (xs := [.agg i.enc]) he hB rfl (fun _ => by simp [V.nins, V.nin, Lid.enc]) rfl (fun _ => by simp [V.nins, V.nin]) hν hat hK
theorem Left_use {d : Option Nat} {s : St} {K : St → Prop} {cs : List Config} {L : List Leg} {i : Lid} {cls : List UInt8} {ν : Nat → Nat} (hok : LgsOk L) (hν : Inj ν) (hat : ∀ q ∈ stO ν cs L, s.h q.1 = some q.2) (hK : K ⟨setE d (.int .i64 (leftO cls (legAt L i))) s.e, s.h⟩) :
    EStep Tryd.prog UT d 29 [.ptr (ν 0) 0, .agg i.enc, .str cls] s K :=
  st_use0 (xs := [.agg i.enc, .str cls]) (Left_e cs L i cls hok) hok.b rfl (fun _ => by simp [V.nins, V.nin, Lid.enc]) rfl (fun _ => by simp [V.nin]) hν hat hK
def seenM (l : List Lid) : List (Ky × V) := l.map fun x => (x.ky, V.bool true)
theorem seenM_get {l : List Lid} {x : Lid} {z : V} (h : x.ky ∉ l.map Lid.ky) : mget (seenM l) x.ky z = z := by
  induction l with
  | nil => rfl
  | cons y l ih =>
    rw [List.map_cons, List.mem_cons, not_or] at h
    show mget ((y.ky, V.bool true) :: seenM l) x.ky z = z
    rw [mgetC, if_neg (fun e => h.1 e.symm)]
    exact ih h.2
theorem seenM_put {l : List Lid} {x : Lid} (h : x.ky ∉ l.map Lid.ky) : mput (seenM l) x.ky (.bool true) = seenM (l ++ [x]) := by
  induction l with
  | nil => rfl
  | cons y l ih =>
    rw [List.map_cons, List.mem_cons, not_or] at h
    show mput ((y.ky, V.bool true) :: seenM l) x.ky _ = (y.ky, V.bool true) :: seenM (l ++ [x])
    rw [mputC, if_neg (fun e => h.1 e.symm), ih h.2]
theorem seenM_kd (l : List Lid) : (∀ p ∈ seenM l, p.1.kd = 3) ↔ True := iff_true_intro fun p hp => by obtain ⟨x, _, rfl⟩ := List.mem_map.1 hp; rfl
theorem seenM_pur (l : List Lid) : (∀ p ∈ seenM l, p.2.pur = true) ↔ True := iff_true_intro fun p hp => by obtain ⟨x, _, rfl⟩ := List.mem_map.1 hp; rfl
structure IdsOk (L : List Leg) (ids : List Lid) : Prop where
  nd : (ids.map Lid.ky).Nodup
  at' : ∀ i ∈ ids, ∃ x, legAt L i = some x
  len : ids.length ≤ 1000000
theorem nd_at {ids : List Lid} (h : (ids.map Lid.ky).Nodup) {i : Nat} (hi : i < ids.length) : ids[i].ky ∉ (ids.take i).map Lid.ky := fun hc => by
  obtain ⟨x, hx, e⟩ := List.mem_map.1 hc
  obtain ⟨a, ha, rfl⟩ := List.mem_take_iff_getElem.1 hx
  have h2 := List.pairwise_iff_getElem.1 h a i (by rw [List.length_map]; omega) (by rw [List.length_map]; exact hi) (by omega)
  rw [List.getElem_map, List.getElem_map] at h2
  exact h2 e
def EFu : Nat → Bool := fun f => f == 47
theorem usable_e (cs : List Config) (L : List Leg) (ids : List Lid) (hB : LgsB L) (hI : IdsOk L ids) : Eff Tryd.prog UT 28 [.ptr (nu 0) 0, .list (ids.map Lid.enc) false] (stO nu cs L) (.bool (decide (0 < ids.length))) (stO nu cs L) := by
  have hG := tNo_ok
  have hTl := stO_at nu_inj (cs := cs) hB
  have hGe := stO_ge (cs := cs) (L := L)
  have hF := stO_fam cs L
  have e00 : nu 0 = 1000 := rfl
  have hin0 : ((stO nu cs L).map (·.1)).contains 1000 = true := st_in (stK_0 L)
  obtain ⟨hnd, hat', hlen⟩ := hI
  have hdz : decide ((0:Int) < (ids.length:Int)) = decide (0 < ids.length) := decide_eq_decide.2 (by omega)
  have hs0 : seenM (ids.take 0) = [] := rfl
  refine Eff.of_aw Tryd.func28 body28 nm28 res28 (by rw [nt28]; simp) fun C hN Q hQ => ?_
  rw [nt28] at hN
  unfold c28
  refine aw_seq (aw_region (EF := EFu) hG (by rw [hN]; exact tr28_0) ?_)
  simp only [a28_0, go_sem, simprocAttr, EFu, e00, stO_lo, nu_ne, List.cons_append, List.nil_append]
  refine aw_seq (aw_region (EF := EFu) hG (by rw [hN]; exact tr28_1) ?_)
  simp only [a28_1, go_sem, simprocAttr, EFu, e00, stO_lo, nu_ne, List.cons_append, List.nil_append]
  refine aw_seq ?_
  refine aw_seq (aw_region (EF := EFu) hG (by rw [hN]; exact tr28_2) ?_)
  simp only [a28_2, go_sem, simprocAttr, List.length_map, EFu, e00, stO_lo, nu_ne, List.cons_append, List.nil_append]
  refine aw_block ?_
  refine aw_loop (α := Nat) (fun i => (i ≤ ids.length)) (fun i => ⟨mkE [(0, V.ptr 1000 0), (1, V.list (List.map Lid.enc ids) false), (5, V.map 10), (11, V.list (List.map Lid.enc ids) false), (12, V.int IntKind.i64 ↑ids.length), (13, .int .i64 i)], mkH ([(10, .mp (seenM (ids.take i)))] ++ stO nu cs L)⟩) (fun i => ids.length - i) 0 (Nat.zero_le _) ?_ ?_
  · refine Le.tail _ _ _ ?_ ?_ ?_ rfl
    · exact fun q hq => ⟨by (have hge := hGe q hq; (try dsimp only [hupd, hupds, hov]); (repeat rw [if_neg (by omega)]); exact hTl q hq), Fam.ni1 (hF) q hq⟩
    all_goals (simp only [go_sem, simprocAttr, hin0, e00, hs0] <;> (repeat' apply And.intro) <;> try exact leA)
  · rintro i hi KL0 hKL0
    try dsimp only at *
    refine aw_seq (aw_region (EF := EFu) hG (by rw [hN]; exact tr28_3) ?_)
    simp only [a28_3, go_sem, simprocAttr, EFu, e00, stO_lo, nu_ne, List.cons_append, List.nil_append]
    refine aw_seq ?_
    refine aw_cond (b := _) rfl (fun hc3 => ?_) (fun hc3 => ?_)
    · skip
      have hc : i < ids.length := by simp at hc3; omega
      obtain ⟨x, hx⟩ := hat' ids[i] (List.getElem_mem hc)
      have hni := nd_at hnd hc
      have hsg := seenM_get (z := V.bool false) hni
      have hsp := seenM_put hni
      rw [← take_succ' hc] at hsp
      have hkd := seenM_kd (ids.take i)
      obtain ⟨y, hy⟩ : ∃ y, y = ids[i] := ⟨_, rfl⟩
      rw [← hy] at hx hsg hsp
      unfold Lid.ky at hsg hsp
      refine aw_skip ?_
      try simp only [go_sem, simprocAttr]
      refine aw_seq ?_
      refine aw_block ?_
      refine aw_seq (aw_region (EF := EFu) hG (by rw [hN]; exact tr28_4) ?_)
      simp only [a28_4, go_sem, simprocAttr, getD_mapd _ _ _ _ hc, hc, List.length_map, Lid.enc, ← hy, EFu, e00, stO_lo, nu_ne, List.cons_append, List.nil_append]
      (repeat' apply And.intro) <;> try exact sdA
      refine aw_seq ?_
      refine aw_seq (aw_region (EF := EFu) hG (by rw [hN]; exact tr28_5) ?_)
      simp only [a28_5, go_sem, simprocAttr, EFu, e00, stO_lo, nu_ne, List.cons_append, List.nil_append]
      refine equip_use (ν := nu) (i := y) hB hx nu_inj (fun q hq => by have hge := hGe q hq; (try dsimp only [hupd, hupds, hov]); (repeat rw [if_neg (by omega)]); exact hTl q hq) ?_
      simp only [go_sem, simprocAttr]
      refine aw_seq (aw_region (EF := EFu) hG (by rw [hN]; exact tr28_6) ?_)
      simp only [a28_6, go_sem, simprocAttr, hkd, hsg, EFu, e00, stO_lo, nu_ne, List.cons_append, List.nil_append]
      (repeat' apply And.intro) <;> try exact sdA
      refine aw_condF rfl ?_
      refine aw_skip ?_
      try simp only [go_sem, simprocAttr]
      refine aw_region (EF := EFu) hG (by rw [hN]; exact tr28_8) ?_
      simp only [a28_8, go_sem, simprocAttr, hkd, hsp, EFu, e00, stO_lo, nu_ne, List.cons_append, List.nil_append]
      (repeat' apply And.intro) <;> try exact sdA
      refine aw_region (EF := EFu) hG (by rw [hN]; exact tr28_9) ?_
      simp only [a28_9, go_sem, simprocAttr, inI, EFu, e00, stO_lo, nu_ne, List.cons_append, List.nil_append]
      (repeat' apply And.intro) <;> try exact sdA
      refine hKL0 (i + 1) _ ?_ ?_ ?_
      · (try dsimp only); exact hc
      · (try dsimp only); omega
      · refine Le.tail _ _ _ ?_ ?_ ?_ rfl
        · exact fun q hq => ⟨by (have hge := hGe q hq; (try dsimp only [hupd, hupds, hov]); (repeat rw [if_neg (by omega)]); exact hTl q hq), Fam.ni1 (hF) q hq⟩
        all_goals (simp only [go_sem, simprocAttr, hin0, e00, seenM_pur] <;> (repeat' apply And.intro) <;> try exact leA)
    · skip
      obtain rfl : i = ids.length := by simp at hc3; omega
      refine aw_exit ?_
      simp only [go_sem, simprocAttr]
      refine aw_seq (aw_region (EF := EFu) hG (by rw [hN]; exact tr28_10) ?_)
      simp only [a28_10, go_sem, simprocAttr, List.length_map, hdz, EFu, e00, stO_lo, nu_ne, List.cons_append, List.nil_append]
      refine aw_ret ?_
      show Q _ _
      refine hQ _ _ ⟨mkE [(4, .bool (decide (0 < ids.length)))], mkH ([] ++ stO nu cs L)⟩ (.inl rfl) (Le.tail _ _ _ ?_ ?_ ?_ rfl) rfl ?_ ?_
      · exact fun q hq => ⟨by (have hge := hGe q hq; (try dsimp only [hupd, hupds, hov]); (repeat rw [if_neg (by omega)]); exact hTl q hq), Fam.ni1 (hF) q hq⟩
      all_goals simp only [outφ, outV, AR.res, go_sem, simprocAttr, e00]
theorem usable_use {d : Option Nat} {s : St} {K : St → Prop} {cs : List Config} {L : List Leg} {ids : List Lid} {ν : Nat → Nat} (hB : LgsB L) (hI : IdsOk L ids) (hν : Inj ν) (hat : ∀ q ∈ stO ν cs L, s.h q.1 = some q.2) (hK : K ⟨setE d (.bool (decide (0 < ids.length))) s.e, s.h⟩) :
    EStep Tryd.prog UT d 28 [.ptr (ν 0) 0, .list (ids.map Lid.enc) false] s K :=
  st_use0 (xs := [.list (ids.map Lid.enc) false]) (usable_e cs L ids hB hI) hB rfl (fun _ => by simp [V.nins, V.nin]) rfl (fun _ => by simp [V.nin]) hν hat hK
def avail (L : List Leg) (cls : List UInt8) : List Lid → Int
  | [] => 0
  | i :: ids => ids.foldl (fun n i => min n (leftO cls (legAt L i))) (leftO cls (legAt L i))
def EFv : Nat → Bool := fun f => f == 28 || f == 29
theorem avail_e (cs : List Config) (L : List Leg) (ids : List Lid) (cls : List UInt8) (hok : LgsOk L) (hI : IdsOk L ids) : Eff Tryd.prog UT 10 [.ptr (nu 0) 0, .list (ids.map Lid.enc) false, .str cls] (stO nu cs L) (.int .i64 (avail L cls ids)) (stO nu cs L) := by
  have hG := tNo_ok
  have hB := hok.b
  have hTl := stO_at nu_inj (cs := cs) hB
  have hGe := stO_ge (cs := cs) (L := L)
  have hF := stO_fam cs L
  have e00 : nu 0 = 1000 := rfl
  have hin0 : ((stO nu cs L).map (·.1)).contains 1000 = true := st_in (stK_0 L)
  have hlen := hI.len
  cases ids with
  | nil =>
    refine Eff.of_aw Tryd.func10 body10 nm10 res10 (by rw [nt10]; simp) fun C hN Q hQ => ?_
    rw [nt10] at hN
    unfold c10
    refine aw_seq (aw_region (EF := EFv) hG (by rw [hN]; exact tr10_0) ?_)
    simp only [a10_0, go_sem, simprocAttr, EFv, e00, stO_lo, nu_ne, List.cons_append, List.nil_append]
    refine aw_seq ?_
    refine aw_seq (aw_region (EF := EFv) hG (by rw [hN]; exact tr10_1) ?_)
    simp only [a10_1, go_sem, simprocAttr, EFv, e00, stO_lo, nu_ne, List.cons_append, List.nil_append]
    refine usable_use (ids := []) (ν := nu) hB hI nu_inj (fun q hq => hTl q hq) ?_
    simp only [go_sem, simprocAttr, List.length_nil]
    refine aw_condT rfl ?_
    refine aw_seq (aw_region (EF := EFv) hG (by rw [hN]; exact tr10_2) ?_)
    simp only [a10_2, go_sem, simprocAttr, EFv, e00, stO_lo, nu_ne, List.cons_append, List.nil_append]
    refine aw_ret ?_
    show Q _ _
    refine hQ _ _ ⟨mkE [(6, .int .i64 0)], mkH ([] ++ stO nu cs L)⟩ (.inl rfl) (Le.tail _ _ _ ?_ ?_ ?_ rfl) rfl ?_ ?_
    · exact fun q hq => ⟨by (have hge := hGe q hq; (try dsimp only [hupd, hupds, hov]); (repeat rw [if_neg (by omega)]); exact hTl q hq), Fam.ni1 (hF) q hq⟩
    all_goals simp only [outφ, outV, AR.res, go_sem, simprocAttr, avail]
  | cons y r =>
    have hlr : r.length ≤ 1000000 := by simp at hlen; omega
    have hdr : List.drop 1 (List.take ((r.length:Int) + 1).toNat ([V.str y.car, V.int IntKind.i64 y.num, V.int IntKind.i64 y.day, V.str y.frm] :: List.map Lid.enc r)) = r.map Lid.enc := by
      rw [show ((r.length:Int) + 1).toNat = r.length + 1 by omega, List.take_succ_cons, List.drop_succ_cons, List.drop_zero, List.take_of_length_le (by rw [List.length_map]; exact Nat.le_refl _)]
    obtain ⟨F, hFd⟩ : ∃ F : Nat → Int, ∀ k, F k = (r.take k).foldl (fun n i => min n (leftO cls (legAt L i))) (leftO cls (legAt L y)) := ⟨_, fun _ => rfl⟩
    have hF0 : leftO cls (legAt L y) = F 0 := by rw [hFd]; rfl
    have hFs : ∀ k (hk : k < r.length), min (F k) (leftO cls (legAt L r[k])) = F (k+1) := fun k hk => by rw [hFd, hFd, take_succ' hk, List.foldl_append]; rfl
    have hFe : avail L cls (y :: r) = F r.length := by rw [hFd, List.take_length]; rfl
    rw [hFe]
    refine Eff.of_aw Tryd.func10 body10 nm10 res10 (by rw [nt10]; simp) fun C hN Q hQ => ?_
    rw [nt10] at hN
    unfold c10
    refine aw_seq (aw_region (EF := EFv) hG (by rw [hN]; exact tr10_0) ?_)
    simp only [a10_0, go_sem, simprocAttr, EFv, e00, stO_lo, nu_ne, List.cons_append, List.nil_append]
    refine aw_seq ?_
    refine aw_seq (aw_region (EF := EFv) hG (by rw [hN]; exact tr10_1) ?_)
    simp only [a10_1, go_sem, simprocAttr, EFv, e00, stO_lo, nu_ne, List.cons_append, List.nil_append]
    refine usable_use (ids := y :: r) (ν := nu) hB hI nu_inj (fun q hq => hTl q hq) ?_
    simp only [go_sem, simprocAttr, List.length_cons, Nat.zero_lt_succ, decide_true]
    refine aw_condF rfl ?_
    refine aw_skip ?_
    try simp only [go_sem, simprocAttr]
    refine aw_seq (aw_region (EF := EFv) hG (by rw [hN]; exact tr10_3) ?_)
    simp only [a10_3, go_sem, simprocAttr, List.map_cons, List.getD_cons_zero, List.length_cons, Lid.enc, EFv, e00, stO_lo, nu_ne, List.cons_append, List.nil_append]
    (repeat' apply And.intro) <;> try exact sdA
    refine Left_use (ν := nu) (i := y) hok nu_inj (fun q hq => hTl q hq) ?_
    simp only [go_sem, simprocAttr]
    refine aw_seq ?_
    refine aw_seq (aw_region (EF := EFv) hG (by rw [hN]; exact tr10_4) ?_)
    simp only [a10_4, go_sem, simprocAttr, List.map_cons, List.length_cons, List.length_map, Lid.enc, hdr, hF0, EFv, e00, stO_lo, nu_ne, List.cons_append, List.nil_append]
    (repeat' apply And.intro) <;> try exact sdA
    refine aw_block ?_
    refine aw_loop (α := Nat) (fun i => (i ≤ r.length)) (fun i => ⟨mkE [(0, V.ptr 1000 0), (2, V.str cls), (7, .int .i64 (F i)), (21, V.list (List.map Lid.enc r) false), (22, V.int IntKind.i64 ↑r.length), (23, .int .i64 i)], mkH ([] ++ stO nu cs L)⟩) (fun i => r.length - i) 0 (Nat.zero_le _) ?_ ?_
    · refine Le.tail _ _ _ ?_ ?_ ?_ rfl
      · exact fun q hq => ⟨by (have hge := hGe q hq; (try dsimp only [hupd, hupds, hov]); (repeat rw [if_neg (by omega)]); exact hTl q hq), Fam.ni1 (hF) q hq⟩
      all_goals (simp only [go_sem, simprocAttr, hin0, e00] <;> (repeat' apply And.intro) <;> try exact leA)
    · rintro i hi KL0 hKL0
      try dsimp only at *
      refine aw_seq (aw_region (EF := EFv) hG (by rw [hN]; exact tr10_5) ?_)
      simp only [a10_5, go_sem, simprocAttr, List.length_map, EFv, e00, stO_lo, nu_ne, List.cons_append, List.nil_append]
      refine aw_seq ?_
      refine aw_cond (b := _) rfl (fun hc5 => ?_) (fun hc5 => ?_)
      · skip
        have hc : i < r.length := by simp at hc5; omega
        refine aw_skip ?_
        try simp only [go_sem, simprocAttr]
        refine aw_seq ?_
        refine aw_block ?_
        refine aw_seq (aw_region (EF := EFv) hG (by rw [hN]; exact tr10_6) ?_)
        simp only [a10_6, go_sem, simprocAttr, getD_mapd _ _ _ _ hc, hc, List.length_map, Lid.enc, EFv, e00, stO_lo, nu_ne, List.cons_append, List.nil_append]
        (repeat' apply And.intro) <;> try exact sdA
        refine aw_region (EF := EFv) hG (by rw [hN]; exact tr10_7) ?_
        simp only [a10_7, go_sem, simprocAttr, EFv, e00, stO_lo, nu_ne, List.cons_append, List.nil_append]
        (repeat' apply And.intro) <;> try exact sdA
        refine Left_use (ν := nu) (i := r[i]) hok nu_inj (fun q hq => by have hge := hGe q hq; (try dsimp only [hupd, hupds, hov]); (repeat rw [if_neg (by omega)]); exact hTl q hq) ?_
        simp only [go_sem, simprocAttr, hFs i hc]
        clear hFs hFd hF0 hdr hFe
        refine aw_region (EF := EFv) hG (by rw [hN]; exact tr10_8) ?_
        simp only [a10_8, go_sem, simprocAttr, inI, EFv, e00, stO_lo, nu_ne, List.cons_append, List.nil_append]
        (repeat' apply And.intro) <;> try exact sdA
        refine hKL0 (i + 1) _ ?_ ?_ ?_
        · (try dsimp only); exact hc
        · (try dsimp only); omega
        · refine Le.tail _ _ _ ?_ ?_ ?_ rfl
          · exact fun q hq => ⟨by (have hge := hGe q hq; (try dsimp only [hupd, hupds, hov]); (repeat rw [if_neg (by omega)]); exact hTl q hq), Fam.ni1 (hF) q hq⟩
          all_goals (simp only [go_sem, simprocAttr, hin0, e00] <;> (repeat' apply And.intro) <;> try exact leA)
      · skip
        obtain rfl : i = r.length := by simp at hc5; omega
        refine aw_exit ?_
        simp only [go_sem, simprocAttr]
        refine aw_seq (aw_region (EF := EFv) hG (by rw [hN]; exact tr10_9) ?_)
        simp only [a10_9, go_sem, simprocAttr, EFv, e00, stO_lo, nu_ne, List.cons_append, List.nil_append]
        refine aw_ret ?_
        show Q _ _
        refine hQ _ _ ⟨mkE [(6, .int .i64 (F r.length))], mkH ([] ++ stO nu cs L)⟩ (.inl rfl) (Le.tail _ _ _ ?_ ?_ ?_ rfl) rfl ?_ ?_
        · exact fun q hq => ⟨by (have hge := hGe q hq; (try dsimp only [hupd, hupds, hov]); (repeat rw [if_neg (by omega)]); exact hTl q hq), Fam.ni1 (hF) q hq⟩
        all_goals simp only [outφ, outV, AR.res, go_sem, simprocAttr, e00]
theorem avail_use {d : Option Nat} {s : St} {K : St → Prop} {cs : List Config} {L : List Leg} {ids : List Lid} {cls : List UInt8} {ν : Nat → Nat} (hok : LgsOk L) (hI : IdsOk L ids) (hν : Inj ν) (hat : ∀ q ∈ stO ν cs L, s.h q.1 = some q.2) (hK : K ⟨setE d (.int .i64 (avail L cls ids)) s.e, s.h⟩) :
    EStep Tryd.prog UT d 10 [.ptr (ν 0) 0, .list (ids.map Lid.enc) false, .str cls] s K :=
  st_use0 (xs := [.list (ids.map Lid.enc) false, .str cls]) (avail_e cs L ids cls hok hI) hok.b rfl (fun _ => by simp [V.nins, V.nin]) rfl (fun _ => by simp [V.nin]) hν hat hK
set_option linter.unusedSimpArgs false
set_option linter.unusedVariables false
set_option linter.deprecated false
theorem Fam.le {K : List Nat} {hl : (Nat → Nat) → List (Nat × Ob)} (hF : Fam K K hl) {e : Nat → V} {h : Nat → Option Ob} (ν ν' : Nat → Nat) (l l' : List (Nat × V)) (h1 : ∀ q ∈ hl ν, h q.1 = some q.2) (h2 : ∀ p ∈ l, e p.1 = p.2 ∧ p.2.nin ((hl ν).map (·.1)) = true)
    (i1 : ∀ a ∈ K, ∀ b ∈ K, ν a = ν b → a = b) (i2 : ∀ a ∈ K, ∀ b ∈ K, ν' a = ν' b → a = b) (big : ∀ k ∈ K, 1000 ≤ ν' k → ν' k = ν k) (el : ∀ σ : Nat → Nat, (∀ k ∈ K, σ (ν k) = ν' k) → l.map (fun p => (p.1, p.2.ren σ)) = l') : Le ⟨e, h⟩ ⟨mkE l', mkH (hl ν')⟩ := by
  obtain ⟨σ, hσ⟩ : ∃ σ : Nat → Nat, ∀ k ∈ K, σ (ν k) = ν' k := by
    refine ⟨fun n => match K.find? (fun k => ν k == n) with | some k => ν' k | none => n, fun k hk => ?_⟩
    cases hf : K.find? (fun b => ν b == ν k) with
    | none => exact absurd (List.find?_eq_none.1 hf k hk) (by simp)
    | some b =>
      have hb := List.mem_of_find?_eq_some hf
      have hs := List.find?_some hf
      simp only [beq_iff_eq] at hs
      have := i1 b hb k hk hs
      subst this
      show (match K.find? (fun b' => ν b' == ν b) with | some k => ν' k | none => ν b) = ν' b
      rw [hf]
  have nm : ∀ a ∈ (hl ν).map (·.1), ∃ k ∈ K, ν k = a := fun a ha => by
    rw [hF.nm] at ha; exact List.mem_map.1 ha
  refine Le.re σ l l' (hl ν) (hl ν') h1 h2 (hF.ni fun k hk => by rw [hF.nm]; exact List.mem_map.2 ⟨k, hk, rfl⟩) (fun a ha b hb e => ?_) (fun q hq hb => ?_) (el σ hσ) (hF.rn hσ)
  · obtain ⟨k, hk, rfl⟩ := nm a ha
    obtain ⟨m, hm, rfl⟩ := nm b hb
    rw [hσ k hk, hσ m hm] at e
    rw [i2 k hk m hm e]
  · obtain ⟨k, hk, e⟩ := nm q.1 (List.mem_map.2 ⟨q, hq, rfl⟩)
    rw [← e, hσ k hk] at hb ⊢
    exact big k hk hb
theorem nodup_on {ν : Nat → Nat} {K : List Nat} (h : K.Nodup) (i : ∀ a ∈ K, ∀ b ∈ K, ν a = ν b → a = b) : (K.map ν).Nodup := nodup_map h i
def legPO (ν : Nat → Nat) (L : List Leg) (j : Nat) : List (Nat × Ob) := match L[j]? with
  | none => []
  | some x => legO (fun k => ν (k + (10 * j + 2))) x.conf x.sold
def legPK (L : List Leg) (j : Nat) : List Nat := match L[j]? with
  | none => []
  | some x => (legK x.sold).map (· + (10 * j + 2))
def legPE (ν : Nat → Nat) (L : List Leg) (j : Nat) : List (Ky × V) := match L[j]? with
  | none => []
  | some x => [(x.id.ky, .ptr (ν (10 * j + 2)) 0)]
def doneO (ν : Nat → Nat) (L : List Leg) (js : List Nat) : List (Nat × Ob) := js.flatMap (legPO ν L)
def doneK (L : List Leg) (js : List Nat) : List Nat := js.flatMap (legPK L)
def doneE (ν : Nat → Nat) (L : List Leg) (js : List Nat) : List (Ky × V) := js.flatMap (legPE ν L)
theorem legPO_at {ν : Nat → Nat} {L : List Leg} {j : Nat} (h : j < L.length) : legPO ν L j = legO (fun k => ν (k + (10 * j + 2))) L[j].conf L[j].sold := by unfold legPO; rw [List.getElem?_eq_getElem h]
theorem legPE_at {ν : Nat → Nat} {L : List Leg} {j : Nat} (h : j < L.length) : legPE ν L j = [(L[j].id.ky, .ptr (ν (10 * j + 2)) 0)] := by unfold legPE; rw [List.getElem?_eq_getElem h]
theorem legPO_fam (L : List Leg) (j : Nat) : Fam (legPK L j) (legPK L j) (fun ν => legPO ν L j) := by
  cases h : L[j]? with
  | none => unfold legPO legPK; rw [h]; exact Fam.nil _
  | some x => unfold legPO legPK; rw [h]; exact (legO_fam x.conf x.sold).at (· + (10 * j + 2))
theorem doneO_fam (L : List Leg) : ∀ js : List Nat, Fam (doneK L js) (doneK L js) (fun ν => doneO ν L js)
  | [] => Fam.nil _
  | j :: js => by
    have := Fam.app ((legPO_fam L j).mono (R' := doneK L (j :: js)) fun k hk => List.mem_append_left _ hk) ((doneO_fam L js).mono (R' := doneK L (j :: js)) fun k hk => List.mem_append_right _ hk)
    exact this
theorem doneK_mem {L : List Leg} {js : List Nat} {k : Nat} (h : k ∈ doneK L js) : ∃ j ∈ js, ∃ hj : j < L.length, ∃ m, m < L[j].sold.length + 2 ∧ k = m + (10 * j + 2) := by
  obtain ⟨j, hj, hk⟩ := List.mem_flatMap.1 h
  unfold legPK at hk
  cases e : L[j]? with
  | none => rw [e] at hk; cases hk
  | some x =>
    rw [e] at hk
    obtain ⟨hl, rfl⟩ := List.getElem?_eq_some_iff.1 e
    obtain ⟨m, hm, rfl⟩ := List.mem_map.1 hk
    exact ⟨j, hj, hl, m, legK_lt.1 hm, rfl⟩
theorem doneK_lt {L : List Leg} (hB : LgsB L) {js : List Nat} {k : Nat} (h : k ∈ doneK L js) : 2 ≤ k ∧ k < 10 * L.length + 2 := by
  obtain ⟨j, _, hj, m, hm, rfl⟩ := doneK_mem h
  have := hB _ (List.getElem_mem hj)
  omega
theorem doneK_nd {L : List Leg} (hB : LgsB L) : ∀ {js : List Nat}, js.Nodup → (doneK L js).Nodup
  | [], _ => List.nodup_nil
  | j :: js, h => by
    obtain ⟨h1, h2⟩ := List.nodup_cons.1 h
    refine List.nodup_append.2 ⟨?_, doneK_nd hB h2, fun a ha b hb e => ?_⟩
    · unfold legPK
      cases e : L[j]? with
      | none => exact List.nodup_nil
      | some x => exact nodup_map (legK_nd _) fun a _ b _ e => by omega
    · subst e
      have ha' : a ∈ doneK L [j] := by unfold doneK; rw [List.flatMap_cons, List.flatMap_nil, List.append_nil]; exact ha
      obtain ⟨j1, hj1, hl1, m1, hm1, e1⟩ := doneK_mem ha'
      obtain ⟨j2, hj2, hl2, m2, hm2, e2⟩ := doneK_mem hb
      have b1 := hB _ (List.getElem_mem hl1)
      have b2 := hB _ (List.getElem_mem hl2)
      rw [List.mem_singleton] at hj1
      subst hj1
      have : j1 = j2 := by omega
      subst this
      exact h1 hj2
theorem doneE_ren {ν ν' σ : Nat → Nat} {L : List Leg} {js : List Nat} (h : ∀ k ∈ doneK L js, σ (ν k) = ν' k) : (doneE ν L js).map (fun p => (p.1, p.2.ren σ)) = doneE ν' L js := by
  induction js with
  | nil => rfl
  | cons j js ih =>
    show (legPE ν L j ++ doneE ν L js).map _ = legPE ν' L j ++ doneE ν' L js
    rw [List.map_append, ih fun k hk => h k (List.mem_append_right _ hk)]
    congr 1
    cases e : L[j]? with
    | none => unfold legPE; rw [e]; rfl
    | some x =>
      have := h (0 + (10 * j + 2)) (List.mem_append_left _ (by unfold legPK; rw [e]; exact List.mem_map.2 ⟨0, legK_0 _, rfl⟩))
      rw [Nat.zero_add] at this
      unfold legPE; rw [e]
      simp only [List.map_cons, List.map_nil, V.ren, this]
theorem doneE_nin {ν : Nat → Nat} {D : List Nat} {L : List Leg} {js : List Nat} (h : ∀ k ∈ doneK L js, ν k ∈ D) : ∀ p ∈ doneE ν L js, p.2.nin D = true := fun p hp => by
  obtain ⟨j, hj, hp⟩ := List.mem_flatMap.1 hp
  unfold legPE at hp
  cases e : L[j]? with
  | none => rw [e] at hp; cases hp
  | some x =>
    rw [e] at hp
    rw [List.mem_singleton.1 hp]
    have := h (0 + (10 * j + 2)) (List.mem_flatMap.2 ⟨j, hj, by unfold legPK; rw [e]; exact List.mem_map.2 ⟨0, legK_0 _, rfl⟩⟩)
    rw [Nat.zero_add] at this
    simp only [V.nin, List.contains_iff_mem, this]
theorem doneE_kd (ν : Nat → Nat) (L : List Leg) (js : List Nat) : (∀ p ∈ doneE ν L js, p.1.kd = 3) ↔ True := iff_true_intro fun p hp => by
  obtain ⟨j, hj, hp⟩ := List.mem_flatMap.1 hp
  unfold legPE at hp
  cases e : L[j]? with
  | none => rw [e] at hp; cases hp
  | some x => rw [e] at hp; rw [List.mem_singleton.1 hp]; rfl
def viO (ν : Nat → Nat) (cs : List Config) (L : List Leg) (js : List Nat) (j : Nat) (S : List (List Int)) : List (Nat × Ob) :=
  (ν 0, .box 63 [.list (cs.map Config.enc) false, .map (ν 1)]) :: (ν 1, .mp (doneE ν L js)) :: (doneO ν L js ++ (soO (fun k => ν (k + (10 * j + 4))) S ++ lgO (fun k => ν (k + 1002)) L))
def viK (L : List Leg) (js : List Nat) (j : Nat) (S : List (List Int)) : List Nat := 0 :: 1 :: (doneK L js ++ ((soK S).map (· + (10 * j + 4)) ++ (lgK L).map (· + 1002)))
theorem viO_fam (cs : List Config) (L : List Leg) (js : List Nat) (j : Nat) (S : List (List Int)) : Fam (viK L js j S) (viK L js j S) (fun ν => viO ν cs L js j S) := by
  have k0 : ∀ k ∈ doneK L js, k ∈ viK L js j S := fun k hk => List.mem_cons_of_mem _ (List.mem_cons_of_mem _ (List.mem_append_left _ hk))
  have k1 : 1 ∈ viK L js j S := List.mem_cons_of_mem _ (List.mem_cons_self ..)
  refine Fam.cons (o := fun ν => .box 63 [.list (cs.map Config.enc) false, .map (ν 1)]) (List.mem_cons_self ..) (fun hs => ?_) (fun hs => ?_) (Fam.cons (o := fun ν => .mp (doneE ν L js)) k1 (fun hs => ?_) (fun hs => ?_) (Fam.app ((doneO_fam L js).mono k0) (Fam.app (((soO_fam S).at (· + (10 * j + 4))).mono fun k hk => ?_) (((lgO_fam L).at (· + 1002)).mono fun k hk => ?_))))
  · simp only [Ob.ren, V.rens, V.ren, hs 1 k1]
  · simp only [Ob.nin, V.nins, V.nin, Bool.and_true, Bool.true_and, List.contains_iff_mem, hs 1 k1]
  · rw [Ob.ren, doneE_ren fun k hk => hs _ (k0 k hk)]
  · exact doneE_nin fun k hk => hs _ (k0 k hk)
  · exact List.mem_cons_of_mem _ (List.mem_cons_of_mem _ (List.mem_append_right _ (List.mem_append_left _ hk)))
  · exact List.mem_cons_of_mem _ (List.mem_cons_of_mem _ (List.mem_append_right _ (List.mem_append_right _ hk)))
def cpO (ν : Nat → Nat) (cs : List Config) (L : List Leg) (js : List Nat) : List (Nat × Ob) := viO ν cs L js 0 []
def cpK (L : List Leg) (js : List Nat) : List Nat := viK L js 0 []
theorem cpO_fam (cs : List Config) (L : List Leg) (js : List Nat) : Fam (cpK L js) (cpK L js) (fun ν => cpO ν cs L js) := viO_fam cs L js 0 []
def outN (k : Nat) : Nat := if k = 0 then 18 else if k = 1 then 16 else if k < 1000 then 600 + k else k
def curN (j k : Nat) : Nat := if k = 10 * j + 2 then 38 else if k = 10 * j + 3 then 56 else outN k
theorem outN_0 : outN 0 = 18 := rfl
theorem outN_mid {k : Nat} (h : 2 ≤ k) (h2 : k < 1000) : outN k = 600 + k := by unfold outN; rw [if_neg (by omega), if_neg (by omega), if_pos h2]
theorem outN_hi (k : Nat) : outN (k + 1002) = nu (k + 2) := by unfold outN nu; rw [if_neg (by omega), if_neg (by omega), if_neg (by omega)]; omega
theorem viK_is {L : List Leg} (hB : LgsB L) (hl : L.length ≤ 30) {js : List Nat} {j : Nat} {S : List (List Int)} (hS : S.length ≤ 8) (hj : j < L.length) {k : Nat} (h : k ∈ viK L js j S) : k = 0 ∨ k = 1 ∨ (2 ≤ k ∧ k < 320) ∨ 1002 ≤ k := by
  unfold viK at h
  rcases List.mem_cons.1 h with h | h
  · exact .inl h
  rcases List.mem_cons.1 h with h | h
  · exact .inr (.inl h)
  rcases List.mem_append.1 h with h | h
  · have := doneK_lt hB h; exact .inr (.inr (.inl ⟨by omega, by omega⟩))
  rcases List.mem_append.1 h with h | h
  · obtain ⟨a, ha, rfl⟩ := List.mem_map.1 h
    have := soK_lt.1 ha
    exact .inr (.inr (.inl ⟨by omega, by omega⟩))
  · obtain ⟨a, ha, rfl⟩ := List.mem_map.1 h
    exact .inr (.inr (.inr (by omega)))
theorem cpK_is {L : List Leg} (hB : LgsB L) (hl : L.length ≤ 30) {js : List Nat} {k : Nat} (h : k ∈ cpK L js) : k = 0 ∨ k = 1 ∨ (2 ≤ k ∧ k < 320) ∨ 1002 ≤ k := by
  unfold cpK viK at h
  rcases List.mem_cons.1 h with h | h
  · exact .inl h
  rcases List.mem_cons.1 h with h | h
  · exact .inr (.inl h)
  rcases List.mem_append.1 h with h | h
  · have := doneK_lt hB h; exact .inr (.inr (.inl ⟨by omega, by omega⟩))
  rcases List.mem_append.1 h with h | h
  · cases h
  · obtain ⟨a, ha, rfl⟩ := List.mem_map.1 h
    exact .inr (.inr (.inr (by omega)))
theorem outN_cases {k : Nat} (h : k = 0 ∨ k = 1 ∨ (2 ≤ k ∧ k < 320) ∨ 1002 ≤ k) : (k = 0 ∧ outN k = 18) ∨ (k = 1 ∧ outN k = 16) ∨ (2 ≤ k ∧ k < 320 ∧ outN k = 600 + k) ∨ (1002 ≤ k ∧ outN k = k) := by
  rcases h with rfl | rfl | ⟨h1, h2⟩ | h
  · exact .inl ⟨rfl, rfl⟩
  · exact .inr (.inl ⟨rfl, rfl⟩)
  · exact .inr (.inr (.inl ⟨h1, h2, outN_mid h1 (by omega)⟩))
  · exact .inr (.inr (.inr ⟨h, by unfold outN; rw [if_neg (by omega), if_neg (by omega), if_neg (by omega)]⟩))
theorem outN_on {a b : Nat} (ha : a = 0 ∨ a = 1 ∨ (2 ≤ a ∧ a < 320) ∨ 1002 ≤ a) (hb : b = 0 ∨ b = 1 ∨ (2 ≤ b ∧ b < 320) ∨ 1002 ≤ b) (e : outN a = outN b) : a = b := by
  have h1 := outN_cases ha
  have h2 := outN_cases hb
  omega
theorem curN_cases (j : Nat) {k : Nat} (h : k = 0 ∨ k = 1 ∨ (2 ≤ k ∧ k < 320) ∨ 1002 ≤ k) : (k = 10 * j + 2 ∧ curN j k = 38) ∨ (k = 10 * j + 3 ∧ curN j k = 56) ∨ (k ≠ 10 * j + 2 ∧ k ≠ 10 * j + 3 ∧ curN j k = outN k) := by
  unfold curN
  split
  · exact .inl ⟨‹_›, rfl⟩
  · split
    · exact .inr (.inl ⟨‹_›, rfl⟩)
    · exact .inr (.inr ⟨‹_›, ‹_›, rfl⟩)
theorem curN_on (j : Nat) {a b : Nat} (ha : a = 0 ∨ a = 1 ∨ (2 ≤ a ∧ a < 320) ∨ 1002 ≤ a) (hb : b = 0 ∨ b = 1 ∨ (2 ≤ b ∧ b < 320) ∨ 1002 ≤ b) (e : curN j a = curN j b) : a = b := by
  have h1 := outN_cases ha
  have h2 := outN_cases hb
  have h3 := curN_cases j ha
  have h4 := curN_cases j hb
  omega
set_option linter.unusedSimpArgs false
set_option linter.unusedVariables false
set_option linter.deprecated false
theorem clone_useT {d : Option Nat} {s : St} {K : St → Prop} {nr nn : Nat} {l : List Int} (h0 : l ≠ []) (hl : l.length ≤ 1000000) (hr : s.h nr = some (.arr 3 1 (ints l))) (hn : s.h nn = none) (h1 : nn < 1000) (hne : nr ≠ nn)
    (hK : K ⟨setE d (.own nn l.length) s.e, hupd s.h nn (.arr 3 1 (ints l))⟩) : EStepT Tryd.prog UT [nr, nn] d 30 [.own nr l.length] s K := by
  have hne2 := Ne.symm hne
  have p0 : ∀ l : List Int, renR (rni [(1000, nr)]) (ints l) = ints l := fun l => renR_pure (ints_pur l)
  have p1 : ∀ l : List Int, renR (rn ([(1000, nr)] ++ [(5, nn)])) (ints l) = ints l := fun l => renR_pure (ints_pur l)
  refine ⟨[(1000, nr)], [(5, nn)], _, _, _, _, cloneo_e l h0 hl, ⟨by simp [okL, hne], rfl, rfl, by simp, ?_, ?_, by simp [V.rens, V.ren, rni], by simp [V.nins, V.nin], by simp [V.nin], ?_, ?_⟩, by simp, ?_⟩
  · intro p hp
    simp only [List.mem_cons, List.not_mem_nil, or_false] at hp
    subst hp; exact ⟨hn, h1⟩
  · intro p hp
    simp only [List.mem_cons, List.not_mem_nil, or_false] at hp
    subst hp
    exact ⟨_, hr, by simp [mkH, Ob.ren, p0], .inl (ints_pur l)⟩
  · intro q hq
    simp only [List.mem_cons, List.not_mem_nil, or_false] at hq
    rcases hq with rfl | rfl <;> exact .inl (ints_pur _)
  · intro p hp o o' h1 h2
    simp only [List.mem_cons, List.not_mem_nil, or_false] at hp
    subst hp; simp [mkH] at h1 h2; subst h1 h2; simp [Ob.kind]
  · have e1 : (V.own 5 l.length).ren (rn ([(1000, nr)] ++ [(5, nn)])) = .own nn l.length := by simp [V.ren, rn]
    have e2 : [((1000, .arr 3 1 (ints l)) : Nat × Ob), (5, .arr 3 1 (ints l))].map (fun q : Nat × Ob => (rn ([(1000, nr)] ++ [(5, nn)]) q.1, q.2.ren (rn ([(1000, nr)] ++ [(5, nn)])))) = [(nr, .arr 3 1 (ints l)), (nn, .arr 3 1 (ints l))] := by simp [rn, Ob.ren]; exact p1 _
    rw [e1, e2]
    have e3 : hov [(nr, Ob.arr 3 1 (ints l)), (nn, .arr 3 1 (ints l))] s.h = hupd s.h nn (.arr 3 1 (ints l)) := by
      funext m
      show (if m = nr then some _ else if m = nn then some _ else s.h m) = if m = nn then some _ else s.h m
      by_cases e : m = nr
      · subst e; rw [if_pos rfl, if_neg hne, hr]
      · rw [if_neg e]
    rw [e3]; exact hK
section
variable {cs : List Config} {L : List Leg} {js : List Nat} {j : Nat} {S : List (List Int)}
theorem vi_eq : viO outN cs L js j S = (18, .box 63 [.list (cs.map Config.enc) false, .map 16]) :: (16, .mp (doneE outN L js)) :: (doneO outN L js ++ (soO (fun k => outN (k + (10 * j + 4))) S ++ lgO (fun k => nu (k + 2)) L)) := by
  unfold viO
  rw [show (fun k => outN (k + 1002)) = fun k => nu (k + 2) from funext outN_hi]; rfl
theorem viK_nd (hB : LgsB L) (hl : L.length ≤ 30) (hS : S.length ≤ 8) (hj : j < L.length ∨ S = []) (hn : js.Nodup) (hjn : j ∉ js ∨ S = []) : (viK L js j S).Nodup := by
  have h0 : ∀ k ∈ doneK L js ++ ((soK S).map (· + (10 * j + 4)) ++ (lgK L).map (· + 1002)), 2 ≤ k := fun k hk => by
    rcases List.mem_append.1 hk with h | h
    · exact (doneK_lt hB h).1
    rcases List.mem_append.1 h with h | h <;> obtain ⟨a, _, rfl⟩ := List.mem_map.1 h <;> omega
  refine List.nodup_cons.2 ⟨fun h => ?_, List.nodup_cons.2 ⟨fun h => by have := h0 _ h; omega, List.nodup_append.2 ⟨doneK_nd hB hn, List.nodup_append.2 ⟨nodup_map (soK_nd S) fun a _ b _ e => by omega, nodup_map (lgK_nd hB) fun a _ b _ e => by omega, fun a ha b hb e => ?_⟩, fun a ha b hb e => ?_⟩⟩⟩
  · rcases List.mem_cons.1 h with h | h
    · omega
    · have := h0 _ h; omega
  · subst e
    obtain ⟨k, hk, rfl⟩ := List.mem_map.1 ha
    obtain ⟨m, _, e⟩ := List.mem_map.1 hb
    have h1 := soK_lt.1 hk
    rcases hj with hj | rfl
    · omega
    · cases hk
  · subst e
    obtain ⟨i, hi, hil, m, hm, e1⟩ := doneK_mem ha
    have := hB _ (List.getElem_mem hil)
    rcases List.mem_append.1 hb with h | h
    · obtain ⟨k, hk, e2⟩ := List.mem_map.1 h
      have h1 := soK_lt.1 hk
      rcases hjn with hjn | rfl
      · have : i = j := by omega
        exact hjn (this ▸ hi)
      · cases hk
    · obtain ⟨k, hk, e2⟩ := List.mem_map.1 h
      omega
theorem viK_out (hB : LgsB L) (hl : L.length ≤ 30) (hS : S.length ≤ 8) (hj : j < L.length ∨ S = []) : ∀ a ∈ viK L js j S, a = 0 ∨ a = 1 ∨ (2 ≤ a ∧ a < 320) ∨ 1002 ≤ a := fun a ha => by
  rcases hj with hj | rfl
  · exact viK_is hB hl hS hj ha
  · exact cpK_is (js := js) hB hl ha
theorem vi_nd (hB : LgsB L) (hl : L.length ≤ 30) (hS : S.length ≤ 8) (hj : j < L.length ∨ S = []) (hn : js.Nodup) (hjn : j ∉ js ∨ S = []) : ((viO outN cs L js j S).map (·.1)).Nodup := by
  rw [(viO_fam cs L js j S).nm]
  have := viK_out (js := js) hB hl (by omega) hj
  exact nodup_on (viK_nd hB hl hS hj hn hjn) fun a ha b hb => outN_on (this a ha) (this b hb)
theorem vi_ge (hB : LgsB L) (hl : L.length ≤ 30) (hS : S.length ≤ 8) (hj : j < L.length ∨ S = []) : ∀ q ∈ viO outN cs L js j S, q.1 = 18 ∨ q.1 = 16 ∨ (602 ≤ q.1 ∧ q.1 < 920) ∨ 1002 ≤ q.1 := fun q hq => by
  have : q.1 ∈ (viO outN cs L js j S).map (·.1) := List.mem_map.2 ⟨q, hq, rfl⟩
  rw [(viO_fam cs L js j S).nm] at this
  obtain ⟨k, hk, e⟩ := List.mem_map.1 this
  have := outN_cases (viK_out hB hl hS hj k hk)
  omega
theorem vi_18 : mkH (viO outN cs L js j S) 18 = some (.box 63 [.list (cs.map Config.enc) false, .map 16]) := by rw [vi_eq, mkH, if_pos rfl]
theorem vi_16 : mkH (viO outN cs L js j S) 16 = some (.mp (doneE outN L js)) := by rw [vi_eq, mkH, if_neg (by decide), mkH, if_pos rfl]
theorem vi_lo (hB : LgsB L) (hl : L.length ≤ 30) (hS : S.length ≤ 8) (hj : j < L.length ∨ S = []) {m : Nat} (hm : m < 600) (h1 : m ≠ 18) (h2 : m ≠ 16) : mkH (viO outN cs L js j S) m = none := mkH_none fun hc => by
  obtain ⟨q, hq, e⟩ := List.mem_map.1 hc
  have := vi_ge hB hl hS hj q hq
  omega
theorem vi_mem {m : Nat} (hm : m < L.length) {q : Nat × Ob} (hq : q ∈ legO (fun k => nu (k + (10 * m + 2))) L[m].conf L[m].sold) : q ∈ viO outN cs L js j S := by
  rw [vi_eq]
  exact List.mem_cons_of_mem _ (List.mem_cons_of_mem _ (List.mem_append_right _ (List.mem_append_right _ (lgO_mem (ν := fun k => nu (k + 2)) hm hq))))
theorem vi_leg {m : Nat} (hm : m < L.length) (hd : ((viO outN cs L js j S).map (·.1)).Nodup) : mkH (viO outN cs L js j S) (nu (10 * m + 2)) = some (.box 73 [.str L[m].conf.equip, .list (L[m].conf.cabs.map Cabin.enc) false, .own (nu (10 * m + 3)) L[m].sold.length, .bool false]) := by
  have := mkH_at hd (vi_mem (cs := cs) (js := js) (j := j) (S := S) hm (List.mem_cons_self ..))
  dsimp only at this
  rw [show 0 + (10 * m + 2) = 10 * m + 2 by omega, show 1 + (10 * m + 2) = 10 * m + 3 by omega] at this
  exact this
theorem vi_rows {m : Nat} (hm : m < L.length) (hd : ((viO outN cs L js j S).map (·.1)).Nodup) : mkH (viO outN cs L js j S) (nu (10 * m + 3)) = some (.arr 82 1 (soH (fun k => nu (k + (10 * m + 4))) L[m].sold)) := by
  have := mkH_at hd (vi_mem (cs := cs) (js := js) (j := j) (S := S) hm (List.mem_cons_of_mem _ (List.mem_cons_self ..)))
  dsimp only at this
  have e : (fun k => nu (k + 2 + (10 * m + 2))) = fun k => nu (k + (10 * m + 4)) := by funext k; congr 1; omega
  rw [show 1 + (10 * m + 2) = 10 * m + 3 by omega, e] at this
  exact this
theorem vi_row {m i : Nat} (hm : m < L.length) (hi : i < L[m].sold.length) (hd : ((viO outN cs L js j S).map (·.1)).Nodup) : mkH (viO outN cs L js j S) (nu (i + (10 * m + 4))) = some (.arr 3 1 (ints L[m].sold[i])) := by
  have := mkH_at hd (vi_mem (cs := cs) (js := js) (j := j) (S := S) hm (List.mem_cons_of_mem _ (List.mem_cons_of_mem _ (soO_mem hi))))
  dsimp only at this
  rw [show i + 2 + (10 * m + 2) = i + (10 * m + 4) by omega] at this
  exact this
theorem vi_snoc {r : List Int} {q : Nat × Ob} (hq : q ∈ viO outN cs L js j (S ++ [r])) : q ∈ viO outN cs L js j S ∨ q = (outN (S.length + (10 * j + 4)), .arr 3 1 (ints r)) := by
  rw [vi_eq, soO_app] at hq
  rw [vi_eq]
  simp only [List.mem_cons, List.mem_append, List.not_mem_nil, or_false] at hq ⊢
  rcases hq with h | h | h | (h | h) | h
  · exact .inl (.inl h)
  · exact .inl (.inr (.inl h))
  · exact .inl (.inr (.inr (.inl h)))
  · exact .inl (.inr (.inr (.inr (.inl h))))
  · exact .inr h
  · exact .inl (.inr (.inr (.inr (.inr h))))
theorem vi_new (hB : LgsB L) (hl : L.length ≤ 30) (hS : S.length ≤ 7) (hj : j < L.length) (hn : js.Nodup) (hjn : j ∉ js) : ∀ q ∈ viO outN cs L js j S, q.1 ≠ outN (S.length + (10 * j + 4)) := fun q hq e => by
  have hd := vi_nd (cs := cs) (S := S ++ [[]]) hB hl (by rw [List.length_append]; simp; omega) (.inl hj) hn (.inl hjn)
  rw [vi_eq] at hd hq
  rw [soO_app] at hd
  have h1 : outN (S.length + (10 * j + 4)) ∈ ((18, .box 63 [.list (cs.map Config.enc) false, .map 16]) :: (16, .mp (doneE outN L js)) :: (doneO outN L js ++ (soO (fun k => outN (k + (10 * j + 4))) S ++ lgO (fun k => nu (k + 2)) L)) : List (Nat × Ob)).map (·.1) := List.mem_map.2 ⟨q, hq, e⟩
  simp only [List.map_cons, List.map_append, List.map_nil, List.nodup_cons, List.nodup_append, List.mem_cons, List.mem_append, List.not_mem_nil, or_false] at hd h1
  obtain ⟨d1, d2, d3, d4, d5⟩ := hd
  obtain ⟨⟨d6, d7, d8⟩, d9, d10⟩ := d4
  rcases h1 with h | h | h | h | h
  · exact d1 (.inr (.inr (.inl (.inr h.symm))))
  · exact d2 (.inr (.inl (.inr h.symm)))
  · exact d5 _ h _ (.inl (.inr rfl)) rfl
  · exact d8 _ h _ rfl rfl
  · exact d10 _ (.inr rfl) _ h rfl
theorem vi_rowin {k : Nat} (hk : k ∈ soK S) : outN (k + (10 * j + 4)) ∈ (viO outN cs L js j S).map (·.1) := by
  rw [(viO_fam cs L js j S).nm]
  exact List.mem_map.2 ⟨k + (10 * j + 4), List.mem_cons_of_mem _ (List.mem_cons_of_mem _ (List.mem_append_right _ (List.mem_append_left _ (List.mem_map.2 ⟨k, hk, rfl⟩)))), rfl⟩
end
end Go.Proofs.YtllhcpjgilpbnaaDoor
