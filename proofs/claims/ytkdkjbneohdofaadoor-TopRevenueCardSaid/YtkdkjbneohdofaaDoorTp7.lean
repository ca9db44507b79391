/- The payments of a star of dues. -/
import Derived.Test.YtkdkjbneohdofaaDoorTp6
namespace Go.Proofs.YtkdkjbneohdofaaDoor
open Go Go.RowKit
set_option linter.unusedSimpArgs false
set_option linter.unusedVariables false
set_option linter.deprecated false
theorem Rev.ok {n : Nat} {c : List UInt8} {D : List Due} {w : Int} (h : Rev n c D w) (hn : n ≤ 8) (hc : c.length ≤ 140737488355328) : OkD D := by
  refine ⟨by have := h.len; omega, fun d hd => ?_⟩
  obtain ⟨⟨a1, a2, a3⟩, a4, a5⟩ := h.star d hd
  exact ⟨by rw [a1]; exact hc, a5, by unfold inI; omega⟩
theorem Rev.get {n : Nat} {c : List UInt8} {D : List Due} {w : Int} (h : Rev n c D w) (hn : n ≤ 8) (k : List UInt8) : (k = c → getA (sumD D) k = -w) ∧ (k ≠ c → 0 ≤ getA (sumD D) k ∧ getA (sumD D) k ≤ w) := by
  refine ⟨fun e => ?_, fun e => ?_⟩
  · have := star_c [] (fun d hd => (h.star d hd).1)
    subst e
    unfold sumD
    rw [this, h.sum, show getA [] k = 0 from rfl]; omega
  · have := star_k e [] (fun d hd => (h.star d hd).1)
    unfold sumD
    rw [h.sum, show getA [] k = 0 from rfl] at this
    omega
theorem Rev.net {n : Nat} {c : List UInt8} {D : List Due} {w : Int} (h : Rev n c D w) (hn : n ≤ 8) : netP D = (postsA (sumD D), 0) := by
  have hb := h.bd
  unfold netP
  rw [if_neg (fun e => ?_), if_neg (fun e => ?_)]
  · obtain ⟨p, hp, e⟩ := List.any_eq_true.1 e
    unfold postsA at hp
    obtain ⟨k, hk, rfl⟩ := List.mem_map.1 hp
    obtain ⟨g1, g2⟩ := h.get hn k
    have : outB (getA (sumD D) k) = false := by
      by_cases e : k = c
      · exact out_of (by rw [g1 e]; omega)
      · exact out_of (by have := g2 e; omega)
    rw [this] at e; cases e
  · obtain ⟨d, hd, e⟩ := List.any_eq_true.1 e
    obtain ⟨⟨a1, a2, a3⟩, a4, a5⟩ := h.star d hd
    have : outB d.amount = false := out_of (by omega)
    rw [this] at e; cases e
theorem trP_run {l : List Post} (h : (trP l).2 = 0) : (trP l).1 = runT l.length l [] := by
  unfold trP at h ⊢
  split
  · rename_i c; rw [if_pos c] at h; cases h
  · rename_i c
    rw [if_neg c] at h
    split
    · rename_i c2
      rw [if_pos c2] at h
      split
      · rfl
      · rename_i c3; rw [if_neg c3] at h; cases h
    · rename_i c2; rw [if_neg c2] at h; cases h
structure PayOk (c : List UInt8) (D : List Due) (w : Int) (a : List Post) (pay : List Due) : Prop where
  net : netP D = (a, 0)
  alen : a.length ≤ 1000
  tr : trP a = (pay, 0)
  ok : OkD pay
  set : setP D pay = true
  star : ∀ p ∈ pay, Star c p
  sum : dsum pay = w
theorem Rev.pay {n : Nat} {c : List UInt8} {D : List Due} {w : Int} (h : Rev n c D w) (hn : n ≤ 8) (hc : c.length ≤ 140737488355328) : ∃ a pay, PayOk c D w a pay := by
  have hok := h.ok hn hc
  have hnet := h.net hn
  have hl := h.len
  have h0 : (netP D).2 = 0 := by rw [hnet]
  obtain ⟨t1, t2, t3⟩ := tr_settles hok (by omega) h0
  obtain ⟨nok, he⟩ := net_ok hok h0
  have hrun := trP_run t1
  have hfew := (tr_few t1).2
  have hpay := run_pays (netP D).1
  have hflow := run_flow (l := (netP D).1) (netP D).1.length (netP D).1 [] (nz_le _) ⟨rise_nd nok.rise, netP_sum hok, fun k => by rw [show getA (sumD []) k = 0 from rfl]; omega⟩
  rw [← hrun] at hpay hflow
  have hneg : ∀ x ∈ (netP D).1, x.amount < 0 → x.account = c := fun x hx hlt => by
    rw [hnet] at hx
    unfold postsA at hx
    obtain ⟨k, hk, rfl⟩ := List.mem_map.1 hx
    by_cases e : k = c
    · exact e
    · have := ((h.get hn k).2 e).1
      dsimp only at hlt; omega
  have hstar : ∀ p ∈ (trP (netP D).1).1, Star c p := fun p hp => by
    obtain ⟨p1, i, j, hi, hj, hn1, _, hf, _⟩ := hpay p hp
    have hcc : p.from' = c := by
      rw [hf, getD_lt _ _ _ hi]
      rw [getD_lt _ _ _ hi] at hn1
      exact hneg _ (List.getElem_mem hi) hn1
    exact ⟨hcc, fun e => hfew.2 p hp p hp (by rw [e, hcc]), hfew.1 p hp⟩
  refine ⟨(netP D).1, (trP (netP D).1).1, ⟨by rw [hnet], by have := nok.len; omega, by rw [← t1], t2, t3, hstar, ?_⟩⟩
  have f1 := hflow c
  have f2 := star_c [] hstar
  have f3 := (netL_inv D).val c
  rw [← he] at f3
  have f4 := (h.get hn c).1 rfl
  have f5 : getA (sumD (trP (netP D).1).1) c = - dsum (trP (netP D).1).1 := by
    unfold sumD; rw [f2, show getA [] c = 0 from rfl]; omega
  omega
theorem Rev.start (c : List UInt8) : Rev 0 c [] 0 := ⟨by simp, fun d hd => (by cases hd), rfl, by omega⟩
theorem Rev.step {n : Nat} {c : List UInt8} {D : List Due} {w : Int} (h : Rev n c D w) {P : NA} (hs : ∀ p ∈ P, small p.2) (hk : ∀ p ∈ P, p.1.length ≤ 140737488355328) (hl : P.length ≤ 8) : Rev (n + 1) c (D ++ billP c (shP P)) (w + owe c P) := by
  have h1 := bill_len c (shP P)
  have h2 := shP_len P
  have h3 := h.len
  have h4 := owe_bd c hs
  have h5 := h.bd
  refine ⟨by rw [List.length_append]; omega, fun d hd => ?_, by rw [dsum_app, h.sum, bill_owe], by omega⟩
  rcases List.mem_append.1 hd with hd | hd
  · exact h.star d hd
  · exact bill_star hs hk (by omega) d hd
/-! A ticket. -/
theorem prS_sm {cs : List Coupon} {o : List (List UInt8)} : ∀ (i : Nat), i ≤ cs.length → (∀ k (h : k < cs.length), k < i → small cs[k].value) → ∀ p ∈ prS cs o i, small p.2
  | 0, _, _, p, hp => by cases hp
  | i + 1, hi, h, p, hp => by
    have ih := prS_sm (o := o) i (by omega) fun k hk hki => h k hk (by omega)
    have e : (cs.getD i Coupon.zero) = cs[i] := by rw [List.getD_eq_getElem?_getD, List.getElem?_eq_getElem (by omega)]; rfl
    rw [prS, e] at hp
    split at hp
    · rcases List.mem_append.1 hp with hp | hp
      · exact ih p hp
      · obtain rfl := List.mem_singleton.1 hp
        exact h i (by omega) (by omega)
    · exact ih p hp
def owC (c : List UInt8) (cs : List Coupon) (o : List (List UInt8)) (i : Nat) : Int := owe c (prS cs o i)
theorem owC_step {c : List UInt8} {cs : List Coupon} {o : List (List UInt8)} {i : Nat} (h : i < cs.length) (h2 : i < o.length) : owC c cs o (i + 1) = if cs[i].status = 5 ∧ o[i] ≠ c then owC c cs o i + cs[i].value else owC c cs o i := by
  have e : (cs.getD i Coupon.zero) = cs[i] := by rw [List.getD_eq_getElem?_getD, List.getElem?_eq_getElem h]; rfl
  have e2 : o.getD i [] = o[i] := by rw [List.getD_eq_getElem?_getD, List.getElem?_eq_getElem h2]; rfl
  unfold owC
  rw [prS, e, e2]
  by_cases hs : cs[i].status = 5
  · rw [if_pos hs, owe_snoc]
    by_cases ho : o[i] = c
    · rw [if_pos ho, if_neg (fun h => h.2 ho)]; omega
    · rw [if_neg ho, if_pos ⟨hs, ho⟩]
  · rw [if_neg hs, if_neg (fun h => hs h.1)]
end Go.Proofs.YtkdkjbneohdofaaDoor
