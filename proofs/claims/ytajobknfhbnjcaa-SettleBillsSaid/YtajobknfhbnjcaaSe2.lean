/- Balances in order: the reference's add and Net. -/
import Derived.Test.YtajobknfhbnjcaaSe1
namespace Go.Proofs.Ytajobknfhbnjcaa
open Go Go.RowKit
set_option linter.unusedSimpArgs false
set_option linter.unusedVariables false
set_option linter.deprecated false
def addP : List Post → List UInt8 → Int → List Post
  | [], n, a => [⟨n, a⟩]
  | p :: l, n, a => if p.account = n then ⟨p.account, p.amount + a⟩ :: l else if slt n p.account = true then ⟨n, a⟩ :: p :: l else p :: addP l n a
/-- A new balance ahead of another one. -/
def insB : List Post → List UInt8 → Bool
  | [], _ => false
  | p :: l, n => if p.account = n then false else if slt n p.account = true then true else insB l n
def PreP (l : List Post) (n : List UInt8) : Prop := ∀ x ∈ l, ¬ x.account = n ∧ slt n x.account = false
theorem addP_app {A : List Post} {n : List UInt8} (h : PreP A n) (B : List Post) (a : Int) : addP (A ++ B) n a = A ++ addP B n a ∧ insB (A ++ B) n = insB B n := by
  induction A with
  | nil => exact ⟨rfl, rfl⟩
  | cons p A ih =>
    obtain ⟨h1, h2⟩ := h p (List.mem_cons_self ..)
    obtain ⟨i1, i2⟩ := ih fun x hx => h x (List.mem_cons_of_mem _ hx)
    rw [List.cons_append, addP, insB, if_neg h1, if_neg h1, if_neg (by rw [h2]; decide), if_neg (by rw [h2]; decide), i1, i2]
    exact ⟨rfl, rfl⟩
theorem split_at {α : Type} {l : List α} {i : Nat} (h : i < l.length) : l = l.take i ++ l[i] :: l.drop (i + 1) := by
  rw [← List.drop_eq_getElem_cons h, List.take_append_drop]
theorem addP_found {l : List Post} {n : List UInt8} {i : Nat} {m : Int} (h : i < l.length) (hp : PreP (l.take i) n) (e : l[i] = ⟨n, m⟩) (a : Int) : addP l n a = l.set i ⟨n, m + a⟩ ∧ insB l n = false := by
  obtain ⟨h1, h2⟩ := addP_app hp (l[i] :: l.drop (i + 1)) a
  rw [← split_at h] at h1 h2
  rw [h1, h2, e, addP, insB, if_pos rfl, if_pos rfl]
  refine ⟨?_, rfl⟩
  rw [List.set_eq_take_append_cons_drop, if_pos h]
theorem addP_ins {l : List Post} {n k : List UInt8} {i : Nat} {m : Int} (h : i < l.length) (hp : PreP (l.take i) n) (e : l[i] = ⟨k, m⟩) (h1 : ¬ k = n) (h2 : slt n k = true) (a : Int) : addP l n a = l.take i ++ ⟨n, a⟩ :: l.drop i ∧ insB l n = true := by
  obtain ⟨g1, g2⟩ := addP_app hp (l[i] :: l.drop (i + 1)) a
  rw [← split_at h] at g1 g2
  rw [g1, g2, e, addP, insB, if_neg h1, if_neg h1, if_pos h2, if_pos h2]
  refine ⟨?_, rfl⟩
  rw [← e, List.drop_eq_getElem_cons h]
theorem addP_end {l : List Post} {n : List UInt8} (hp : PreP l n) (a : Int) : addP l n a = l ++ [⟨n, a⟩] ∧ insB l n = false := by
  have := addP_app hp [] a
  rwa [List.append_nil] at this
theorem pre_snoc {l : List Post} {n k : List UInt8} {i : Nat} {m : Int} (h : i < l.length) (hp : PreP (l.take i) n) (e : l[i] = ⟨k, m⟩) (h1 : ¬ k = n) (h2 : slt n k = false) : PreP (l.take (i + 1)) n := by
  intro x hx
  rw [take_succ' h] at hx
  rcases List.mem_append.1 hx with hx | hx
  · exact hp x hx
  · rw [List.mem_singleton.1 hx, e]; exact ⟨h1, h2⟩
theorem ins_rows (l : List Post) (i : Nat) (n : List UInt8) (a : Int) : List.take i (l.map Post.enc) ++ ([[V.str n, V.int .i64 a]] ++ List.drop i (l.map Post.enc)) = (l.take i ++ ⟨n, a⟩ :: l.drop i).map Post.enc := by
  rw [List.map_append, List.map_cons, List.map_take, List.map_drop]; rfl
theorem set_post (l : List Post) (i : Nat) (n : List UInt8) (a : Int) : (l.map Post.enc).set i [V.str n, V.int .i64 a] = (l.set i (⟨n, a⟩ : Post)).map Post.enc := by rw [List.map_set]; rfl
set_option maxHeartbeats 4000000 in
theorem add_e (l : List Post) (n : List UInt8) (a : Int) (v : V) (hl' : List (Nat × Ob)) (hl : l.length ≤ 100000) (ha : ∀ x ∈ l, inI (x.amount + a))
    (hF : insB l n = false → v = .own 1000 (addP l n a).length ∧ hl' = [(1000, .arr 30 2 ((addP l n a).map Post.enc))])
    (hT : insB l n = true → v = .own 54 (addP l n a).length ∧ hl' = [(1000, .arr 30 2 (l.map Post.enc)), (54, .arr 30 2 ((addP l n a).map Post.enc))]) :
    Eff Try.prog UT 24 [.own 1000 l.length, .str n, .int .i64 a] [(1000, .arr 30 2 (l.map Post.enc))] v hl' := by
  have hG := tNo_ok
  refine Eff.of_aw Try.func24 body24 nm24 res24 (by rw [nt24]; simp) fun C hN Q hQ => ?_
  rw [nt24] at hN
  unfold c24
  refine aw_seq (aw_region (EF := EF0) hG (by rw [hN]; exact tr24_0) ?_)
  simp only [a24_0, go_sem, ↓reduceIte, Nat.reduceEqDiff, reduceCtorEq, Nat.reduceAdd, Nat.reduceLT, Nat.reduceLeDiff, Nat.reduceBNe, Nat.reduceBEq, Int.reduceToNat]
  refine aw_seq ?_
  refine aw_seq (aw_region (EF := EF0) hG (by rw [hN]; exact tr24_1) ?_)
  simp only [a24_1, go_sem, ↓reduceIte, Nat.reduceEqDiff, reduceCtorEq, Nat.reduceAdd, Nat.reduceLT, Nat.reduceLeDiff, Nat.reduceBNe, Nat.reduceBEq, Int.reduceToNat]
  refine aw_block ?_
  refine aw_loop (α := Nat) (fun i => (i ≤ l.length) ∧ (PreP (l.take i) n)) (fun i => ⟨mkE [(0, V.own 1000 l.length), (1, V.str n), (2, V.int IntKind.i64 a), (7, .int .i64 i)], mkH [(1000, Ob.arr 30 2 (List.map Post.enc l))]⟩) (fun i => l.length - i) 0 ⟨Nat.zero_le _, fun x hx => by simp at hx⟩ ?_ ?_
  · refine Le.mk _ _ ?_ ?_ rfl <;> simp only [go_sem, ↓reduceIte, Nat.reduceEqDiff, reduceCtorEq, Nat.reduceAdd, Nat.reduceLT, Nat.reduceLeDiff, Nat.reduceBNe, Nat.reduceBEq, Int.reduceToNat] <;> (repeat' apply And.intro) <;> (try first | rfl | exact wk_frzb rfl rfl rfl | exact wk_fn rfl | exact .nilo _ _ _ rfl rfl | exact wk_frzm rfl rfl (fun kv hk => by obtain ⟨_, _, rfl⟩ := List.mem_map.1 hk; rfl))
  · rintro i ⟨hi, hp⟩ KL0 hKL0
    try dsimp only at *
    refine aw_seq ?_
    refine aw_seq (aw_region (EF := EF0) hG (by rw [hN]; exact tr24_2) ?_)
    simp only [a24_2, go_sem, ↓reduceIte, Nat.reduceEqDiff, reduceCtorEq, Nat.reduceAdd, Nat.reduceLT, Nat.reduceLeDiff, Nat.reduceBNe, Nat.reduceBEq, Int.reduceToNat]
    refine aw_cond (b := _) rfl (fun hc2 => ?_) (fun hc2 => ?_)
    · simp only [decide_eq_true_eq, decide_eq_false_iff_not, Bool.and_eq_true, Bool.or_eq_true, Bool.not_eq_true', Bool.not_eq_false', Bool.and_eq_false_iff, Bool.or_eq_false_iff, Int.ofNat_lt, Int.ofNat_le, Nat.not_lt, Nat.not_le, Int.not_lt, Int.not_le] at hc2
      refine aw_skip ?_
      try simp only [go_sem, ↓reduceIte, Nat.reduceEqDiff, reduceCtorEq, Nat.reduceAdd, Nat.reduceLT, Nat.reduceLeDiff, Nat.reduceBNe, Nat.reduceBEq, Int.reduceToNat]
      refine aw_seq ?_
      refine aw_block ?_
      refine aw_seq ?_
      have hax := ha _ (List.getElem_mem hc2)
      generalize hxx : l[i] = x at hax
      obtain ⟨k, m⟩ := x
      dsimp only at hax
      obtain ⟨hx1, hx2⟩ := hax
      have hcm : (l.length - i + 1 = 1 + (l.length - i)) = True := eq_true (Nat.add_comm _ _)
      have hdr : List.take (l.length - i) (List.drop i (l.map Post.enc)) = (l.drop i).map Post.enc := by rw [← List.map_drop, List.take_of_length_le (by rw [List.length_map, List.length_drop]; exact Nat.le_refl _)]
      refine aw_seq (aw_region (EF := EF0) hG (by rw [hN]; exact tr24_4) ?_)
      simp only [a24_4, go_sem, ↓reduceIte, Nat.reduceEqDiff, reduceCtorEq, Nat.reduceAdd, Nat.reduceLT, Nat.reduceLeDiff, Nat.reduceBNe, Nat.reduceBEq, Int.reduceToNat, getD_mapd _ _ _ _ hc2, hc2, hxx, Post.enc, List.length_map]
      (repeat' apply And.intro) <;> (try first | omega | (intros; (repeat' apply And.intro) <;> first | assumption | omega | (simp_all; done)))
      refine aw_cond (b := _) rfl (fun hb4 => ?_) (fun hb4 => ?_)
      · skip
        refine aw_seq (aw_region (EF := EF0) hG (by rw [hN]; exact tr24_5) ?_)
        simp only [a24_5, go_sem, ↓reduceIte, Nat.reduceEqDiff, reduceCtorEq, Nat.reduceAdd, Nat.reduceLT, Nat.reduceLeDiff, Nat.reduceBNe, Nat.reduceBEq, Int.reduceToNat, inI, getD_mapd _ _ _ _ hc2, hc2, hxx, Post.enc, List.length_map, List.set_cons_succ, List.set_cons_zero, set_post]
        (repeat' apply And.intro) <;> (try first | omega | (intros; (repeat' apply And.intro) <;> first | assumption | omega | (simp_all; done)))
        refine aw_seq (aw_region (EF := EF0) hG (by rw [hN]; exact tr24_6) ?_)
        simp only [a24_6, go_sem, ↓reduceIte, Nat.reduceEqDiff, reduceCtorEq, Nat.reduceAdd, Nat.reduceLT, Nat.reduceLeDiff, Nat.reduceBNe, Nat.reduceBEq, Int.reduceToNat, List.length_map]
        obtain ⟨g1, g2⟩ := addP_found hc2 hp (by rw [hxx, of_decide_eq_true hb4]) a
        obtain ⟨rfl, rfl⟩ := hF g2
        refine aw_ret ?_
        show Q _ _
        refine hQ _ _ ⟨mkE [(6, .own 1000 (addP l n a).length)], mkH ([(1000, .arr 30 2 ((addP l n a).map Post.enc))])⟩ (.inl rfl) (Le.mk _ _ ?_ ?_ rfl) rfl ?_ ?_ <;> simp only [outφ, outV, AR.res, go_sem, ↓reduceIte, Nat.reduceEqDiff, reduceCtorEq, Nat.reduceAdd, Nat.reduceLT, Nat.reduceLeDiff, Nat.reduceBNe, Nat.reduceBEq, Int.reduceToNat, g1, List.length_set, of_decide_eq_true hb4]
      · skip
        refine aw_skip ?_
        try simp only [go_sem, ↓reduceIte, Nat.reduceEqDiff, reduceCtorEq, Nat.reduceAdd, Nat.reduceLT, Nat.reduceLeDiff, Nat.reduceBNe, Nat.reduceBEq, Int.reduceToNat]
        refine aw_seq (aw_region (EF := EF0) hG (by rw [hN]; exact tr24_7) ?_)
        simp only [a24_7, go_sem, ↓reduceIte, Nat.reduceEqDiff, reduceCtorEq, Nat.reduceAdd, Nat.reduceLT, Nat.reduceLeDiff, Nat.reduceBNe, Nat.reduceBEq, Int.reduceToNat, getD_mapd _ _ _ _ hc2, hc2, hxx, Post.enc, List.length_map]
        (repeat' apply And.intro) <;> (try first | omega | (intros; (repeat' apply And.intro) <;> first | assumption | omega | (simp_all; done)))
        refine aw_cond (b := _) rfl (fun hb7 => ?_) (fun hb7 => ?_)
        · skip
          refine aw_seq (aw_regionO (EF := EF0) hG (by rw [hN]; exact tr24_8) ?_)
          simp only [a24_8, go_sem, ↓reduceIte, Nat.reduceEqDiff, reduceCtorEq, Nat.reduceAdd, Nat.reduceLT, Nat.reduceLeDiff, Nat.reduceBNe, Nat.reduceBEq, Int.reduceToNat, List.length_map, Int.toNat_natCast, hdr, List.length_drop]
          (repeat' apply And.intro) <;> (try first | omega | (intros; (repeat' apply And.intro) <;> first | assumption | omega | (simp_all; done)))
          refine aw_seq (aw_region (EF := EF0) hG (by rw [hN]; exact tr24_9) ?_)
          simp only [a24_9, go_sem, ↓reduceIte, Nat.reduceEqDiff, reduceCtorEq, Nat.reduceAdd, Nat.reduceLT, Nat.reduceLeDiff, Nat.reduceBNe, Nat.reduceBEq, Int.reduceToNat, List.length_map, Int.toNat_natCast, List.length_append, List.length_cons, List.length_nil, List.length_drop, hcm, Nat.sub_zero]
          (repeat' apply And.intro) <;> (try first | omega | (intros; (repeat' apply And.intro) <;> first | assumption | omega | (simp_all; done)))
          obtain ⟨g1, g2⟩ := addP_ins hc2 hp hxx (by simpa using hb4) hb7 a
          obtain ⟨rfl, rfl⟩ := hT g2
          have hln : i + (l.length - i + 1) = (addP l n a).length := by rw [g1]; simp; omega
          have hrw : List.take i (l.map Post.enc) ++ [V.str n, V.int .i64 a] :: (l.drop i).map Post.enc = (addP l n a).map Post.enc := by rw [g1, ← ins_rows, List.map_drop]; rfl
          refine aw_ret ?_
          show Q _ _
          refine hQ _ _ ⟨mkE [(6, .own 54 (addP l n a).length)], mkH ([(1000, .arr 30 2 (l.map Post.enc)), (54, .arr 30 2 ((addP l n a).map Post.enc))])⟩ (.inl rfl) (Le.mk _ _ ?_ ?_ rfl) rfl ?_ ?_ <;> simp only [outφ, outV, AR.res, go_sem, ↓reduceIte, Nat.reduceEqDiff, reduceCtorEq, Nat.reduceAdd, Nat.reduceLT, Nat.reduceLeDiff, Nat.reduceBNe, Nat.reduceBEq, Int.reduceToNat, hln, hrw]
        · skip
          refine aw_skip ?_
          try simp only [go_sem, ↓reduceIte, Nat.reduceEqDiff, reduceCtorEq, Nat.reduceAdd, Nat.reduceLT, Nat.reduceLeDiff, Nat.reduceBNe, Nat.reduceBEq, Int.reduceToNat]
          refine aw_region (EF := EF0) hG (by rw [hN]; exact tr24_3) ?_
          simp only [a24_3, go_sem, ↓reduceIte, Nat.reduceEqDiff, reduceCtorEq, Nat.reduceAdd, Nat.reduceLT, Nat.reduceLeDiff, Nat.reduceBNe, Nat.reduceBEq, Int.reduceToNat, inI]
          (repeat' apply And.intro) <;> (try first | omega | (intros; (repeat' apply And.intro) <;> first | assumption | omega | (simp_all; done)))
          refine hKL0 (i + 1) _ ?_ ?_ ?_
          · (try dsimp only); exact ⟨hc2, pre_snoc hc2 hp hxx (by simpa using hb4) hb7⟩
          · (try dsimp only); omega
          · refine Le.mk _ _ ?_ ?_ rfl <;> simp only [go_sem, ↓reduceIte, Nat.reduceEqDiff, reduceCtorEq, Nat.reduceAdd, Nat.reduceLT, Nat.reduceLeDiff, Nat.reduceBNe, Nat.reduceBEq, Int.reduceToNat] <;> (repeat' apply And.intro) <;> (try first | rfl | exact wk_frzb rfl rfl rfl | exact wk_fn rfl | exact .nilo _ _ _ rfl rfl | exact wk_frzm rfl rfl (fun kv hk => by obtain ⟨_, _, rfl⟩ := List.mem_map.1 hk; rfl))
    · simp only [decide_eq_true_eq, decide_eq_false_iff_not, Bool.and_eq_true, Bool.or_eq_true, Bool.not_eq_true', Bool.not_eq_false', Bool.and_eq_false_iff, Bool.or_eq_false_iff, Int.ofNat_lt, Int.ofNat_le, Nat.not_lt, Nat.not_le, Int.not_lt, Int.not_le] at hc2
      refine aw_exit ?_
      simp only [go_sem, ↓reduceIte, Nat.reduceEqDiff, reduceCtorEq, Nat.reduceAdd, Nat.reduceLT, Nat.reduceLeDiff, Nat.reduceBNe, Nat.reduceBEq, Int.reduceToNat]
      have hie : i = l.length := Nat.le_antisymm hi hc2
      subst hie
      rw [List.take_length] at hp
      refine aw_seq (aw_region (EF := EF0) hG (by rw [hN]; exact tr24_10) ?_)
      simp only [a24_10, go_sem, ↓reduceIte, Nat.reduceEqDiff, reduceCtorEq, Nat.reduceAdd, Nat.reduceLT, Nat.reduceLeDiff, Nat.reduceBNe, Nat.reduceBEq, Int.reduceToNat, List.length_map, post_snoc]
      (repeat' apply And.intro) <;> (try first | omega | (intros; (repeat' apply And.intro) <;> first | assumption | omega | (simp_all; done)))
      obtain ⟨g1, g2⟩ := addP_end hp a
      obtain ⟨rfl, rfl⟩ := hF g2
      refine aw_ret ?_
      show Q _ _
      refine hQ _ _ ⟨mkE [(6, .own 1000 (addP l n a).length)], mkH ([(1000, .arr 30 2 ((addP l n a).map Post.enc))])⟩ (.inl rfl) (Le.mk _ _ ?_ ?_ rfl) rfl ?_ ?_ <;> simp only [outφ, outV, AR.res, go_sem, ↓reduceIte, Nat.reduceEqDiff, reduceCtorEq, Nat.reduceAdd, Nat.reduceLT, Nat.reduceLeDiff, Nat.reduceBNe, Nat.reduceBEq, Int.reduceToNat, g1, List.length_append, List.length_cons, List.length_nil]
end Go.Proofs.Ytajobknfhbnjcaa
