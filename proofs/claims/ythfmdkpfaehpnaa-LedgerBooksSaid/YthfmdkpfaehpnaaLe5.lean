/- The ledger as an object: New, Post of the program. -/
import Derived.Test.YthfmdkpfaehpnaaLe4
namespace Go.Proofs.Ythfmdkpfaehpnaa
open Go Go.RowKit
set_option linter.unusedSimpArgs false
set_option linter.unusedVariables false
set_option linter.deprecated false
def lgO (nb na nm : Nat) (es : List Entry) (L : Assoc Int) : List (Nat × Ob) := [(nb, .box 49 [.own na es.length, .map nm]), (na, .arr 24 3 (es.map Entry.enc)), (nm, .mp (kmap fI8 L))]
theorem lg_use {d : Option Nat} {s : St} {K : St → Prop} {f nb na nm : Nat} {es es' : List Entry} {L L' : Assoc Int} {xs : List V} {v : V} (he : Eff Try.prog UT f (.ptr 1000 0 :: xs) (lgO 1000 1001 1002 es L) v (lgO 1000 1001 1002 es' L')) (hr : ∀ σ, V.rens σ xs = xs) (hn : ∀ D, V.nins D xs = true) (hv : ∀ σ, v.ren σ = v) (hvn : ∀ D, v.nin D = true)
    (hb : s.h nb = some (.box 49 [.own na es.length, .map nm])) (ha : s.h na = some (.arr 24 3 (es.map Entry.enc))) (hm : s.h nm = some (.mp (kmap fI8 L))) (n1 : nb ≠ na) (n2 : nb ≠ nm) (n3 : na ≠ nm)
    (hK : K ⟨setE d v s.e, hov (lgO nb na nm es' L') s.h⟩) : EStep Try.prog UT d f (.ptr nb 0 :: xs) s K := by
  have n1' := Ne.symm n1
  have n2' := Ne.symm n2
  have n3' := Ne.symm n3
  refine ⟨[(1000, nb), (1001, na), (1002, nm)], [], _, _, _, _, he, ⟨by simp [okL, n1, n2, n3], rfl, rfl, by simp, by simp, ?_, ?_, ?_, hvn _, ?_, ?_⟩, ?_⟩
  · intro p hp
    simp only [List.mem_cons, List.not_mem_nil, or_false] at hp
    rcases hp with rfl | rfl | rfl
    · exact ⟨_, hb, by simp [lgO, mkH, Ob.ren, V.rens, V.ren, rni, n1', n2', n3'], by simp [Ob.nin, V.nins, V.nin]⟩
    · exact ⟨_, ha, by simp [lgO, mkH, Ob.ren], by simp only [Ob.nin, Entry.purs]⟩
    · exact ⟨_, hm, by simp [lgO, mkH, Ob.ren, kmap_renI], by simp only [Ob.nin, kmap_ninI]⟩
  · simp only [V.rens, V.ren, hr]; simp [rni]
  · simp only [V.nins, V.nin, hn]; simp
  · intro q hq
    simp only [lgO, List.mem_cons, List.not_mem_nil, or_false] at hq
    rcases hq with rfl | rfl | rfl
    · simp [Ob.nin, V.nins, V.nin, lgO]
    · simp only [Ob.nin, Entry.purs]
    · simp only [Ob.nin, kmap_ninI]
  · intro p hp o o' h1 h2
    simp only [List.mem_cons, List.not_mem_nil, or_false] at hp
    rcases hp with rfl | rfl | rfl <;> simp [lgO, mkH] at h1 h2 <;> subst h1 h2 <;> simp [Ob.kind]
  · have e2 : (lgO 1000 1001 1002 es' L').map (fun q => (rn ([(1000, nb), (1001, na), (1002, nm)] ++ []) q.1, q.2.ren (rn ([(1000, nb), (1001, na), (1002, nm)] ++ [])))) = lgO nb na nm es' L' := by
      simp [lgO, rn, Ob.ren, V.rens, V.ren, kmap_renI]
    rw [hv, e2]
    exact hK
theorem new_e : Eff Try.prog UT 15 [] [] (.ptr 3 0) (lgO 3 999 1 [] []) := by
  have hG := tNo_ok
  refine Eff.of_aw Try.func15 body15 nm15 res15 (by rw [nt15]; simp) fun C hN Q hQ => ?_
  rw [nt15] at hN
  unfold c15
  refine aw_seq (aw_region (EF := EF0) hG (by rw [hN]; exact tr15_0) ?_)
  simp only [a15_0, go_sem, ↓reduceIte, Nat.reduceEqDiff, reduceCtorEq, Nat.reduceAdd, Nat.reduceLT, Nat.reduceLeDiff, Nat.reduceBNe, Nat.reduceBEq, Int.reduceToNat]
  refine aw_seq (aw_region (EF := EF0) hG (by rw [hN]; exact tr15_1) ?_)
  simp only [a15_1, go_sem, ↓reduceIte, Nat.reduceEqDiff, reduceCtorEq, Nat.reduceAdd, Nat.reduceLT, Nat.reduceLeDiff, Nat.reduceBNe, Nat.reduceBEq, Int.reduceToNat]
  refine aw_ret ?_
  show Q _ _
  refine hQ _ _ ⟨mkE [(0, .ptr 3 0)], mkH ([(3, .box 49 [.own 999 0, .map 1]), (999, .arr 24 3 []), (1, .mp [])])⟩ (.inl rfl) (Le.mk _ _ ?_ ?_ rfl) rfl ?_ ?_ <;> simp only [outφ, outV, AR.res, go_sem, ↓reduceIte, Nat.reduceEqDiff, reduceCtorEq, Nat.reduceAdd, Nat.reduceLT, Nat.reduceLeDiff, Nat.reduceBNe, Nat.reduceBEq, Int.reduceToNat, lgO, kmap_nil]
  · exact .nilo 999 _ _ rfl rfl
theorem new_use {d : Option Nat} {s : St} {K : St → Prop} (nb na nm : Nat) (n1 : nb ≠ na) (n2 : nb ≠ nm) (n3 : na ≠ nm) (h1 : s.h nb = none) (h2 : s.h na = none) (h3 : s.h nm = none) (l1 : nb < 1000) (l2 : na < 1000) (l3 : nm < 1000)
    (hK : K ⟨setE d (.ptr nb 0) s.e, hov (lgO nb na nm [] []) s.h⟩) : EStep Try.prog UT d 15 [] s K := by
  have n1' := Ne.symm n1
  have n2' := Ne.symm n2
  have n3' := Ne.symm n3
  refine ⟨[], [(3, nb), (999, na), (1, nm)], _, _, _, _, new_e, ⟨by simp [okL, n1, n2, n3], rfl, rfl, by simp, ?_, by simp, rfl, rfl, by simp [V.nin, lgO], ?_, by simp⟩, ?_⟩
  · intro p hp
    simp only [List.mem_cons, List.not_mem_nil, or_false] at hp
    rcases hp with rfl | rfl | rfl
    · exact ⟨h1, l1⟩
    · exact ⟨h2, l2⟩
    · exact ⟨h3, l3⟩
  · intro q hq
    simp only [lgO, List.mem_cons, List.not_mem_nil, or_false] at hq
    rcases hq with rfl | rfl | rfl
    · simp [Ob.nin, V.nins, V.nin, lgO]
    · simp [Ob.nin]
    · simp [Ob.nin, kmap]
  · have e2 : (lgO 3 999 1 [] []).map (fun q => (rn ([] ++ [(3, nb), (999, na), (1, nm)]) q.1, q.2.ren (rn ([] ++ [(3, nb), (999, na), (1, nm)])))) = lgO nb na nm [] [] := by
      simp [lgO, rn, Ob.ren, V.rens, V.ren, kmap]
    have e1 : (V.ptr 3 0).ren (rn ([] ++ [(3, nb), (999, na), (1, nm)])) = .ptr nb 0 := by simp [V.ren, rn]
    rw [e1, e2]
    exact hK
/-! A map copied into another. -/
theorem mem_kmap {A : Assoc Int} {q : Ky × V} : q ∈ kmap fI8 A ↔ ∃ k v, (k, v) ∈ A ∧ q = (Ky.s k, V.int .i64 v) := by
  unfold kmap
  rw [List.mem_map]
  constructor
  · rintro ⟨⟨k, v⟩, h, rfl⟩; exact ⟨k, v, h, rfl⟩
  · rintro ⟨k, v, h, rfl⟩; exact ⟨(k, v), h, rfl⟩
theorem nd_pairs {A : Assoc Int} (h : (A.map (·.1)).Nodup) : A.Nodup := by
  induction A with
  | nil => exact List.nodup_nil
  | cons p A ih =>
    obtain ⟨h1, h2⟩ := List.nodup_cons.1 h
    exact List.nodup_cons.2 ⟨fun hm => h1 (List.mem_map.2 ⟨p, hm, rfl⟩), ih h2⟩
theorem perm_get {A B : Assoc Int} (hA : (A.map (·.1)).Nodup) (hB : (B.map (·.1)).Nodup) (h : ∀ k, aget A k = aget B k) : A.Perm B :=
  (List.perm_ext_iff_of_nodup (nd_pairs hA) (nd_pairs hB)).2 fun ⟨k, v⟩ => ⟨fun hm => aget_in (by rw [← h]; exact aget_at hA hm), fun hm => aget_in (by rw [h]; exact aget_at hB hm)⟩
theorem get_perm {A B : Assoc Int} (hA : (A.map (·.1)).Nodup) (hB : (B.map (·.1)).Nodup) (h : ∀ p, p ∈ A ↔ p ∈ B) (k : List UInt8) : aget A k = aget B k := by
  cases e : aget A k with
  | some v => exact (aget_at hB ((h _).1 (aget_in e))).symm
  | none =>
    cases e2 : aget B k with
    | none => rfl
    | some v =>
      have := aget_at hA ((h _).2 (aget_in e2))
      rw [e] at this; cases this
theorem copy_perm {A B L : Assoc Int} (hL : (L.map (·.1)).Nodup) (hA : (A.map (·.1)).Nodup) (hB : (B.map (·.1)).Nodup) (h : ∀ p, p ∈ A ↔ p ∈ B) : (copyL L A).Perm (copyL L B) :=
  perm_get (copy_nd hL) (copy_nd hL) fun k => by rw [copy_get L k hA, copy_get L k hB, get_perm hA hB h k]
theorem copyL_snoc (L A : Assoc Int) (k : List UInt8) (v : Int) : copyL L (A ++ [(k, v)]) = aput (copyL L A) k v := by unfold copyL; rw [List.foldl_append]; rfl
theorem copy_fresh {A B : Assoc Int} {k : List UInt8} {v : Int} (hA : (A.map (·.1)).Nodup) (hkv : (k, v) ∈ A) (hpn : (Ky.s k, V.int .i64 v) ∉ kmap fI8 B) (hsub : ∀ q ∈ kmap fI8 B, q ∈ kmap fI8 A) : k ∉ B.map (·.1) := fun h => by
  obtain ⟨⟨k', v'⟩, hm, rfl⟩ := List.mem_map.1 h
  obtain ⟨k2, v2, h2, e⟩ := mem_kmap.1 (hsub _ (mem_kmap.2 ⟨k', v', hm, rfl⟩))
  injection e with e1 e2
  injection e1 with e1
  injection e2 with _ e2
  subst e1 e2
  have := aget_at hA h2
  rw [aget_at hA hkv] at this
  injection this with this
  subst this
  exact hpn (mem_kmap.2 ⟨_, _, hm, rfl⟩)
theorem nodup_snoc {B : Assoc Int} {k : List UInt8} {v : Int} (h : (B.map (·.1)).Nodup) (hk : k ∉ B.map (·.1)) : ((B ++ [(k, v)]).map (·.1)).Nodup := by
  rw [List.map_append]
  exact List.nodup_append.2 ⟨h, by simp, fun x hx y hy => by rw [List.mem_map] at hy; obtain ⟨z, hz, rfl⟩ := hy; rw [List.mem_singleton] at hz; subst hz; rintro rfl; exact hk hx⟩
theorem copy_all {A B : Assoc Int} (hall : ∀ q, q ∈ kmap fI8 B ↔ q ∈ kmap fI8 A) (p : List UInt8 × Int) : p ∈ B ↔ p ∈ A := by
  have key : ∀ {X : Assoc Int}, p ∈ X ↔ (Ky.s p.1, V.int .i64 p.2) ∈ kmap fI8 X := fun {X} => ⟨fun h => mem_kmap.2 ⟨_, _, h, rfl⟩, fun h => by
    obtain ⟨k, v, h1, e⟩ := mem_kmap.1 h
    injection e with e1 e2
    injection e1 with e1
    injection e2 with _ e2
    obtain ⟨a, b⟩ := p
    dsimp only at e1 e2
    subst e1 e2; exact h1⟩
  rw [key, key, hall]
set_option maxHeartbeats 4000000 in
theorem mcopy_e (L A : Assoc Int) (hL : (L.map (·.1)).Nodup) (hA : (A.map (·.1)).Nodup) : Eff Try.prog UT 29 [.map 1000, .fmap (kmap fI8 A)] [(1000, .mp (kmap fI8 L))] (.tup []) [(1000, .mp (kmap fI8 (copyL L A)))] := by
  have hG := tNo_ok
  refine Eff.of_aw Try.func29 body29 nm29 res29 (by rw [nt29]; simp) fun C hN Q hQ => ?_
  rw [nt29] at hN
  unfold c29
  refine aw_rangeM (EF := EF0) (l0 := (ro Try.f29 0).toList.dropLast) (o0 := (ro Try.f29 0).toList.getD 1 default) (o1 := (ro Try.f29 1).toList.getD 0 default) (o2 := (ro Try.f29 1).toList.getD 1 default) (o3 := (ro Try.f29 2).toList.getD 0 default) (l3 := (ro Try.f29 2).toList.tail) (pre := a29_0p) (aos3 := a29_2s) (tm := 6) (it := 7) (nx := 8) (more := 9) (pair := 10) (mt := 47) (es := kmap fI8 A) (α := (Assoc Int)) hG hN (by kernel_rfl) tr29_0p ⟨by kernel_rfl, by kernel_rfl, by kernel_rfl⟩ Try.underlying47 (by kernel_rfl) ⟨by kernel_rfl, by kernel_rfl, by kernel_rfl⟩ ⟨by kernel_rfl, by kernel_rfl, by kernel_rfl⟩ (by kernel_rfl) ⟨by kernel_rfl, by kernel_rfl, by kernel_rfl⟩ tr29_2s (by decide) (by decide) (fun p hp => by obtain ⟨_, _, rfl⟩ := List.mem_map.1 hp; rfl) (fun done B => (done = kmap fI8 B ∧ (B.map (·.1)).Nodup)) (fun B iv => ⟨mkE [(0, .map 1000), (7, .pin iv)], mkH [(1000, .mp (kmap fI8 (copyL L B)))]⟩) ([]) (fun _ _ => rfl) ⟨rfl, List.nodup_nil⟩ ?_ ?_ ?_
  · intro KRP hKRP
    simp only [a29_0p, go_sem, ↓reduceIte, Nat.reduceEqDiff, reduceCtorEq, Nat.reduceAdd, Nat.reduceLT, Nat.reduceLeDiff, Nat.reduceBNe, Nat.reduceBEq, Int.reduceToNat, copyL, List.foldl_nil]
    refine hKRP _ ?_ (fun iv => ?_)
    · first | rfl | (simp only [go_sem, ↓reduceIte, Nat.reduceEqDiff, reduceCtorEq, Nat.reduceAdd, Nat.reduceLT, Nat.reduceLeDiff, Nat.reduceBNe, Nat.reduceBEq, Int.reduceToNat, copyL, List.foldl_nil]; done)
    refine Le.mk _ _ ?_ ?_ rfl <;> simp only [go_sem, ↓reduceIte, Nat.reduceEqDiff, reduceCtorEq, Nat.reduceAdd, Nat.reduceLT, Nat.reduceLeDiff, Nat.reduceBNe, Nat.reduceBEq, Int.reduceToNat, copyL, List.foldl_nil] <;> (repeat' apply And.intro) <;> (try first | rfl | exact wk_frzb rfl rfl rfl | exact wk_fn rfl | exact .nilo _ _ _ rfl rfl | exact wk_frzm rfl rfl (fun kv hk => by obtain ⟨_, _, rfl⟩ := List.mem_map.1 hk; rfl))
  · rintro C hN iv B done p hB hpm hpn hsub KRM hKRM
    try dsimp only at *
    obtain ⟨k, v, hkv, rfl⟩ := mem_kmap.1 hpm
    obtain ⟨rfl, hBn⟩ := hB
    have hkn : k ∉ B.map (·.1) := copy_fresh hA hkv hpn hsub
    simp only [a29_2s, kyV, go_sem, ↓reduceIte, Nat.reduceEqDiff, reduceCtorEq, Nat.reduceAdd, Nat.reduceLT, Nat.reduceLeDiff, Nat.reduceBNe, Nat.reduceBEq, Int.reduceToNat]
    refine aw_region (EF := EF0) hG (by rw [hN]; exact tr29_3) ?_
    simp only [a29_3, go_sem, ↓reduceIte, Nat.reduceEqDiff, reduceCtorEq, Nat.reduceAdd, Nat.reduceLT, Nat.reduceLeDiff, Nat.reduceBNe, Nat.reduceBEq, Int.reduceToNat]
    (repeat' apply And.intro) <;> (try first | omega | ((fail_if_success refine idW ?_); (fail_if_success refine idS ?_); intros; (repeat' apply And.intro) <;> first | assumption | omega | (simp_all; done)))
    refine hKRM (B ++ [(k, v)]) _ ?_ ?_
    · (try dsimp only); exact ⟨by unfold kmap; rw [List.map_append]; rfl, nodup_snoc hBn hkn⟩
    · refine Le.mk _ _ ?_ ?_ rfl <;> simp only [go_sem, ↓reduceIte, Nat.reduceEqDiff, reduceCtorEq, Nat.reduceAdd, Nat.reduceLT, Nat.reduceLeDiff, Nat.reduceBNe, Nat.reduceBEq, Int.reduceToNat, copyL_snoc] <;> (repeat' apply And.intro) <;> (try first | rfl | exact wk_frzb rfl rfl rfl | exact wk_fn rfl | exact .nilo _ _ _ rfl rfl | exact wk_frzm rfl rfl (fun kv hk => by obtain ⟨_, _, rfl⟩ := List.mem_map.1 hk; rfl))
  · rintro iv B done hB hall
    try dsimp only at *
    obtain ⟨rfl, hBn⟩ := hB
    simp only [go_sem, ↓reduceIte, Nat.reduceEqDiff, reduceCtorEq, Nat.reduceAdd, Nat.reduceLT, Nat.reduceLeDiff, Nat.reduceBNe, Nat.reduceBEq, Int.reduceToNat]
    show Q _ _
    refine hQ _ _ ⟨mkE [], mkH [(1000, .mp (kmap fI8 (copyL L A)))]⟩ (.inr rfl) (Le.trans (Le.perm (n := 1000) (es' := kmap fI8 (copyL L A)) rfl ((copy_perm hL hBn hA (fun p => copy_all hall p)).map _)) (Le.mk _ _ ?_ ?_ rfl)) rfl ?_ ?_ <;> simp only [outφ, outV, AR.res, go_sem, ↓reduceIte, Nat.reduceEqDiff, reduceCtorEq, Nat.reduceAdd, Nat.reduceLT, Nat.reduceLeDiff, Nat.reduceBNe, Nat.reduceBEq, Int.reduceToNat]
theorem mcopy_use {d : Option Nat} {s : St} {K : St → Prop} {n : Nat} {L A : Assoc Int} (hL : (L.map (·.1)).Nodup) (hA : (A.map (·.1)).Nodup) (hn : s.h n = some (.mp (kmap fI8 L))) (hK : K ⟨setE d (.tup []) s.e, hov [(n, .mp (kmap fI8 (copyL L A)))] s.h⟩) : EStep Try.prog UT d 29 [.map n, .fmap (kmap fI8 A)] s K := by
  have fm : (kmap fI8 A).all (fun q => q.2.pur) = true := List.all_eq_true.2 fun q hq => (kmap_purI A).2 trivial q hq
  refine ⟨[(1000, n)], [], _, _, _, _, mcopy_e L A hL hA, ⟨by simp [okL], rfl, rfl, by simp, by simp, ?_, by simp [V.rens, V.ren, rni], by simp [V.nins, V.nin], by simp [V.nin, V.nins], ?_, ?_⟩, ?_⟩
  · intro p hp
    simp only [List.mem_cons, List.not_mem_nil, or_false] at hp
    subst hp
    exact ⟨_, hn, by simp [mkH, Ob.ren, kmap_renI], by simp only [Ob.nin, kmap_ninI]⟩
  · intro q hq
    simp only [List.mem_cons, List.not_mem_nil, or_false] at hq
    subst hq; simp only [Ob.nin, kmap_ninI]
  · intro p hp o o' h1 h2
    simp only [List.mem_cons, List.not_mem_nil, or_false] at hp
    subst hp; simp [mkH] at h1 h2; subst h1 h2; simp [Ob.kind]
  · simp only [List.append_nil, V.ren, V.rens, rn, List.map_cons, List.map_nil, Ob.ren, if_true, kmap_renI]
    simpa [rn] using hK
end Go.Proofs.Ythfmdkpfaehpnaa
