/- Balances in order: the reference's add and Net. -/
import Derived.Test.YtkdkjbneohdofaaDoorSe1
namespace Go.Proofs.YtkdkjbneohdofaaDoor
open Go Go.RowKit
set_option linter.unusedSimpArgs false
set_option linter.unusedVariables false
set_option linter.deprecated false
def adP : List Post → List UInt8 → Int → List Post
  | [], n, a => [⟨n, a⟩]
  | p :: l, n, a => if p.account = n then ⟨p.account, p.amount + a⟩ :: l else if slt n p.account = true then ⟨n, a⟩ :: p :: l else p :: adP l n a
/-- A new balance ahead of another one. -/
def insB : List Post → List UInt8 → Bool
  | [], _ => false
  | p :: l, n => if p.account = n then false else if slt n p.account = true then true else insB l n
def PreP (l : List Post) (n : List UInt8) : Prop := ∀ x ∈ l, ¬ x.account = n ∧ slt n x.account = false
theorem adP_app {A : List Post} {n : List UInt8} (h : PreP A n) (B : List Post) (a : Int) : adP (A ++ B) n a = A ++ adP B n a ∧ insB (A ++ B) n = insB B n := by
  induction A with
  | nil => exact ⟨rfl, rfl⟩
  | cons p A ih =>
    obtain ⟨h1, h2⟩ := h p (List.mem_cons_self ..)
    obtain ⟨i1, i2⟩ := ih fun x hx => h x (List.mem_cons_of_mem _ hx)
    rw [List.cons_append, adP, insB, if_neg h1, if_neg h1, if_neg (by rw [h2]; decide), if_neg (by rw [h2]; decide), i1, i2]
    exact ⟨rfl, rfl⟩
theorem split_at {α : Type} {l : List α} {i : Nat} (h : i < l.length) : l = l.take i ++ l[i] :: l.drop (i + 1) := by
  rw [← List.drop_eq_getElem_cons h, List.take_append_drop]
theorem adP_found {l : List Post} {n : List UInt8} {i : Nat} {m : Int} (h : i < l.length) (hp : PreP (l.take i) n) (e : l[i] = ⟨n, m⟩) (a : Int) : adP l n a = l.set i ⟨n, m + a⟩ ∧ insB l n = false := by
  obtain ⟨h1, h2⟩ := adP_app hp (l[i] :: l.drop (i + 1)) a
  rw [← split_at h] at h1 h2
  rw [h1, h2, e, adP, insB, if_pos rfl, if_pos rfl]
  refine ⟨?_, rfl⟩
  rw [List.set_eq_take_append_cons_drop, if_pos h]
theorem adP_ins {l : List Post} {n k : List UInt8} {i : Nat} {m : Int} (h : i < l.length) (hp : PreP (l.take i) n) (e : l[i] = ⟨k, m⟩) (h1 : ¬ k = n) (h2 : slt n k = true) (a : Int) : adP l n a = l.take i ++ ⟨n, a⟩ :: l.drop i ∧ insB l n = true := by
  obtain ⟨g1, g2⟩ := adP_app hp (l[i] :: l.drop (i + 1)) a
  rw [← split_at h] at g1 g2
  rw [g1, g2, e, adP, insB, if_neg h1, if_neg h1, if_pos h2, if_pos h2]
  refine ⟨?_, rfl⟩
  rw [← e, List.drop_eq_getElem_cons h]
theorem adP_end {l : List Post} {n : List UInt8} (hp : PreP l n) (a : Int) : adP l n a = l ++ [⟨n, a⟩] ∧ insB l n = false := by
  have := adP_app hp [] a
  rwa [List.append_nil] at this
theorem pre_snoc {l : List Post} {n k : List UInt8} {i : Nat} {m : Int} (h : i < l.length) (hp : PreP (l.take i) n) (e : l[i] = ⟨k, m⟩) (h1 : ¬ k = n) (h2 : slt n k = false) : PreP (l.take (i + 1)) n := by
  intro x hx
  rw [take_succ' h] at hx
  rcases List.mem_append.1 hx with hx | hx
  · exact hp x hx
  · rw [List.mem_singleton.1 hx, e]; exact ⟨h1, h2⟩
theorem ins_rows (l : List Post) (i : Nat) (n : List UInt8) (a : Int) : List.take i (l.map Post.enc) ++ ([[V.str n, V.int .i64 a]] ++ List.drop i (l.map Post.enc)) = (l.take i ++ ⟨n, a⟩ :: l.drop i).map Post.enc := by
  rw [List.map_append, List.map_cons, List.map_take, List.map_drop]; rfl
theorem set_post (l : List Post) (i : Nat) (n : List UInt8) (a : Int) : (l.map Post.enc).set i [V.str n, V.int .i64 a] = (l.set i (⟨n, a⟩ : Post)).map Post.enc := by rw [List.map_set]; rfl
end Go.Proofs.YtkdkjbneohdofaaDoor
