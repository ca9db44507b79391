/- Callers' rules; what holds after entries were posted. -/
import Derived.Test.YthfmdkpfaehpnaaLe10
namespace Go.Proofs.Ythfmdkpfaehpnaa
open Go Go.RowKit
set_option linter.unusedSimpArgs false
set_option linter.unusedVariables false
set_option linter.deprecated false
section
variable {d : Option Nat} {s : St} {K : St → Prop} {nb na nm : Nat} {es : List Entry} {L : Assoc Int}
theorem post_use {e : Entry} (hI : LInv (pst es) L) (hok : e.ok) (hes : es.length ≤ 100000) (hb : s.h nb = some (.box 49 [.own na es.length, .map nm])) (ha : s.h na = some (.arr 24 3 (es.map Entry.enc))) (hm : s.h nm = some (.mp (kmap fI8 L))) (n1 : nb ≠ na) (n2 : nb ≠ nm) (n3 : na ≠ nm)
    (hK : K ⟨setE d (.int .i64 (postC L e)) s.e, hov (lgO nb na nm (postE L es e) (postL L e)) s.h⟩) : EStep Try.prog UT d 17 [.ptr nb 0, .agg [.int .i64 e.day, .str e.text, .list (e.posts.map Post.enc) false]] s K :=
  lg_use (post_e es L e hI hok hes) (fun σ => by simp [V.rens, V.ren]) (fun D => by simp [V.nins, V.nin]) (fun σ => by simp [V.ren]) (fun D => by simp [V.nin]) hb ha hm n1 n2 n3 hK
theorem trial_use (hL : L.length ≤ 1000000) (hk : ∀ k ∈ L.map (·.1), k.length ≤ 140737488355328) (hb : s.h nb = some (.box 49 [.own na es.length, .map nm])) (ha : s.h na = some (.arr 24 3 (es.map Entry.enc))) (hm : s.h nm = some (.mp (kmap fI8 L))) (n1 : nb ≠ na) (n2 : nb ≠ nm) (n3 : na ≠ nm)
    (hK : K ⟨setE d (.list ((triL L).map Post.enc) false) s.e, hov (lgO nb na nm es L) s.h⟩) : EStep Try.prog UT d 20 [.ptr nb 0] s K :=
  lg_use (trial_e es L hL hk) (fun σ => by simp [V.rens]) (fun D => by simp [V.nins]) (fun σ => by simp [V.ren]) (fun D => by simp [V.nin]) hb ha hm n1 n2 n3 hK
theorem bal_use {k : List UInt8} (hb : s.h nb = some (.box 49 [.own na es.length, .map nm])) (ha : s.h na = some (.arr 24 3 (es.map Entry.enc))) (hm : s.h nm = some (.mp (kmap fI8 L))) (n1 : nb ≠ na) (n2 : nb ≠ nm) (n3 : na ≠ nm)
    (hK : K ⟨setE d (.int .i64 (getA L k)) s.e, hov (lgO nb na nm es L) s.h⟩) : EStep Try.prog UT d 22 [.ptr nb 0, .str k] s K :=
  lg_use (bal_e es L k) (fun σ => by simp [V.rens, V.ren]) (fun D => by simp [V.nins, V.nin]) (fun σ => by simp [V.ren]) (fun D => by simp [V.nin]) hb ha hm n1 n2 n3 hK
theorem ents_use {a b : Int} (hes : EntOk es) (hb : s.h nb = some (.box 49 [.own na es.length, .map nm])) (ha : s.h na = some (.arr 24 3 (es.map Entry.enc))) (hm : s.h nm = some (.mp (kmap fI8 L))) (n1 : nb ≠ na) (n2 : nb ≠ nm) (n3 : na ≠ nm)
    (hK : K ⟨setE d (.list ((entF es a b).map Entry.enc) false) s.e, hov (lgO nb na nm es L) s.h⟩) : EStep Try.prog UT d 24 [.ptr nb 0, .int .i64 a, .int .i64 b] s K :=
  lg_use (ents_e es L a b hes.1 hes.2) (fun σ => by simp [V.rens, V.ren]) (fun D => by simp [V.nins, V.nin]) (fun σ => by simp [V.ren]) (fun D => by simp [V.nin]) hb ha hm n1 n2 n3 hK
theorem rpost_use {e : Entry} (hbo : BalOk es) (hl : (pst es).length ≤ 90000) (hes : es.length ≤ 90000) (hok : e.ok) (hb : s.h nb = some (.box 55 [.list (es.map Entry.enc) false, .bool true]))
    (hK : K ⟨setE d (.int .i64 (postR es e)) s.e, hov (lrO nb (postRE es e)) s.h⟩) : EStep Try.prog UT d 18 [.ptr nb 0, .agg [.int .i64 e.day, .str e.text, .list (e.posts.map Post.enc) false]] s K :=
  lr_use (rpost_e es e hbo hl hes hok) (fun σ => by simp [V.rens, V.ren]) (fun D => by simp [V.nins, V.nin]) (fun σ => by simp [V.ren]) (fun D => by simp [V.nin]) hb hK
theorem rtrial_use (hbo : BalOk es) (hb : s.h nb = some (.box 55 [.list (es.map Entry.enc) false, .bool true]))
    (hK : K ⟨setE d (.list ((namL (namS (pst es)) (balL (pst es))).map Post.enc) false) s.e, hov (lrO nb es) s.h⟩) : EStep Try.prog UT d 21 [.ptr nb 0] s K :=
  lr_use (rtrial_e es hbo) (fun σ => by simp [V.rens]) (fun D => by simp [V.nins]) (fun σ => by simp [V.ren]) (fun D => by simp [V.nin]) hb hK
end
/-! After entries were posted. -/
structure RunI (n : Nat) (es : List Entry) (L : Assoc Int) : Prop where
  inv : LInv (pst es) L
  len : es.length ≤ n
  pl : (pst es).length ≤ 10 * n
  am : AmB (pst es)
  en : ∀ e ∈ es, e.posts ≠ [] ∧ e.posts.length ≤ 10 ∧ dayX e.day = false ∧ sumP e.posts = 0
  ks : ∀ p ∈ pst es, p.account.length ≤ 140737488355328
  ml : L.length ≤ 10 * n
theorem RunI.start : RunI 0 [] [] := ⟨LInv.start, by simp, by simp [pst], fun p hp => (by simp [pst] at hp), fun e he => (by cases he), fun p hp => (by simp [pst] at hp), by simp⟩
theorem RunI.mono {n m : Nat} {es : List Entry} {L : Assoc Int} (h : RunI n es L) (hnm : n ≤ m) : RunI m es L := ⟨h.inv, by have := h.len; omega, by have := h.pl; omega, h.am, h.en, h.ks, by have := h.ml; omega⟩
theorem copyL_len : ∀ {A L : Assoc Int}, (copyL L A).length ≤ L.length + A.length
  | [], L => by simp [copyL]
  | (a, v) :: A, L => by
    show (copyL (aput L a v) A).length ≤ _
    have := copyL_len (A := A) (L := aput L a v)
    have := aput_len L a v
    simp; omega
theorem postC_z {L : Assoc Int} {e : Entry} (h : postC L e = 0) : chkE e = 0 ∧ overA (aftL L e.posts) = false := by
  unfold postC at h
  split at h
  · rename_i h1
    refine ⟨h1, ?_⟩
    split at h
    · cases h
    · rename_i h2; simpa using h2
  · rename_i h1; exact absurd h h1
theorem RunI.post {n : Nat} {es : List Entry} {L : Assoc Int} (h : RunI n es L) {e : Entry} (hok : e.ok) (hl : e.posts.length ≤ 10) : RunI (n + 1) (postE L es e) (postL L e) := by
  unfold postE postL
  by_cases hc : postC L e = 0
  · rw [if_pos hc, if_pos hc]
    obtain ⟨h1, h2⟩ := postC_z hc
    have ck := chk_ok h1
    have hA := aft_inv L e.posts
    have mem : ∀ p, p ∈ pst (es ++ [e]) → p ∈ pst es ∨ p ∈ e.posts := fun p hp => by rw [pst_snoc] at hp; exact List.mem_append.1 hp
    refine ⟨by rw [pst_snoc]; exact h.inv.post h2, by have := h.len; simp; omega, by have := h.pl; rw [pst_snoc, List.length_append]; omega, fun p hp => ?_, fun x hx => ?_, fun p hp => ?_, ?_⟩
    · rcases mem p hp with hp | hp
      · exact h.am p hp
      · exact ck.am p hp
    · rcases List.mem_append.1 hx with hx | hx
      · exact h.en x hx
      · rw [List.mem_singleton.1 hx]; exact ⟨ck.ne, hl, ck.day, ck.sum⟩
    · rcases mem p hp with hp | hp
      · exact h.ks p hp
      · exact (hok.2.2.2 p hp).1
    · have := copyL_len (L := L) (A := aftL L e.posts)
      have := hA.len
      have := h.ml
      omega
  · rw [if_neg hc, if_neg hc]; exact h.mono (by omega)
theorem RunI.bal {n : Nat} {es : List Entry} {L : Assoc Int} (h : RunI n es L) (hn : n ≤ 1000) : BalOk es := ⟨by have := h.len; omega, by have := h.pl; omega, h.am⟩
theorem RunI.ent {n : Nat} {es : List Entry} {L : Assoc Int} (h : RunI n es L) (hn : n ≤ 1000) : EntOk es := ⟨by have := h.len; omega, fun e he => ⟨(h.en e he).1, by have := (h.en e he).2.1; omega⟩⟩
theorem RunI.key {n : Nat} {es : List Entry} {L : Assoc Int} (h : RunI n es L) : ∀ k ∈ L.map (·.1), k.length ≤ 140737488355328 := fun k hk => by
  obtain ⟨p, hp, rfl⟩ := List.mem_map.1 ((h.inv.mem k).1 hk)
  exact h.ks p hp
theorem RunI.code {n : Nat} {es : List Entry} {L : Assoc Int} (h : RunI n es L) (e : Entry) : postR es e = postC L e := by
  unfold postR postC
  rw [over_iff h.inv, pst_snoc]; rfl
theorem RunI.same {n : Nat} {es : List Entry} {L : Assoc Int} (h : RunI n es L) (e : Entry) : postRE es e = postE L es e := by
  unfold postRE postE
  rw [h.code e]
theorem RunI.tri {n : Nat} {es : List Entry} {L : Assoc Int} (h : RunI n es L) : namL (namS (pst es)) (balL (pst es)) = triL L := (tri_eq h.inv).symm
end Go.Proofs.Ythfmdkpfaehpnaa
