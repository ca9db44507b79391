/- Record locators: the plain law. -/
import Derived.Test.YtffapkiilkeadaaDoorPaN
namespace Go.Proofs.YtffapkiilkeadaaDoor
open Go Go.RowKit
set_option linter.unusedSimpArgs false
set_option linter.unusedVariables false
set_option linter.deprecated false
def alpha : List UInt8 := [50, 51, 52, 53, 54, 55, 56, 57, 65, 66, 67, 68, 69, 70, 71, 72, 74, 75, 76, 77, 78, 80, 81, 82, 83, 84, 85, 86, 87, 88, 89, 90]
def ixA (c : UInt8) : Int := Lib.indexByte alpha c
def al (k : Int) : UInt8 := alpha.getD k.toNat 0
theorem ix_get : ∀ (l : List UInt8) (c : UInt8), 0 ≤ Lib.indexByte l c → l.getD (Lib.indexByte l c).toNat 0 = c
  | [], c, h => by simp [Lib.indexByte] at h
  | b :: l, c, h => by
    have ih := ix_get l c
    have hg := Lib.indexByte_ge l c
    unfold Lib.indexByte at h ⊢
    by_cases e : (b == c) = true
    · rw [if_pos e]; simpa using e
    · rw [if_neg e] at h ⊢
      by_cases e2 : (Lib.indexByte l c == -1) = true
      · rw [if_pos e2] at h; omega
      · rw [if_neg e2] at h ⊢
        have h1 : Lib.indexByte l c ≠ -1 := by simpa using e2
        obtain ⟨k, hk⟩ := Int.eq_ofNat_of_zero_le (show 0 ≤ Lib.indexByte l c by omega)
        have := ih (by omega)
        rw [hk] at this ⊢
        rw [show ((k : Int) + 1).toNat = k + 1 by omega, List.getD_cons_succ]
        simpa using this
theorem ix_first : ∀ {l : List UInt8} {c : UInt8} {i : Nat} (h : i < l.length), (∀ x ∈ l.take i, x ≠ c) → l[i] = c → Lib.indexByte l c = i
  | b :: l, c, 0, h, _, e => by
    unfold Lib.indexByte; rw [if_pos (by simpa using e)]; rfl
  | b :: l, c, i + 1, h, hp, e => by
    have h1 : b ≠ c := hp b (by simp)
    have := ix_first (l := l) (i := i) (by simpa using h) (fun x hx => hp x (by rw [List.take_succ_cons]; exact List.mem_cons_of_mem _ hx)) (by simpa using e)
    unfold Lib.indexByte
    rw [if_neg (by simpa using h1), this, if_neg (by first | (simp; done) | (simp; omega))]
    try omega
theorem ix_none : ∀ {l : List UInt8} {c : UInt8}, (∀ x ∈ l, x ≠ c) → Lib.indexByte l c = -1
  | [], _, _ => rfl
  | b :: l, c, h => by
    unfold Lib.indexByte
    rw [if_neg (by simpa using h b (List.mem_cons_self ..)), ix_none fun x hx => h x (List.mem_cons_of_mem _ hx)]; rfl
theorem ixA_bd (c : UInt8) : -1 ≤ ixA c ∧ ixA c < 32 := by
  have h1 := Lib.indexByte_ge alpha c
  have h2 := ix_lt alpha c
  have h3 : alpha.length = 32 := rfl
  unfold ixA
  rcases h2 with h2 | h2
  · rw [h3] at h2; exact ⟨h1, h2⟩
  · omega
theorem al_ix {c : UInt8} (h : 0 ≤ ixA c) : al (ixA c) = c := ix_get alpha c h
def num5 (v : List Int) : Int := v.foldl (fun n x => 32 * n + x) 0
def ofM (n : Int) : List UInt8 := [al (n / 1048576 % 32), al (n / 32768 % 32), al (n / 1024 % 32), al (n / 32 % 32), al (n % 32),
  al ((n / 1048576 % 32 + 3 * (n / 32768 % 32) + 5 * (n / 1024 % 32) + 7 * (n / 32 % 32) + 9 * (n % 32)) % 32)]
def sum5 (v0 v1 v2 v3 v4 : Int) : Int := (v0 + 3 * v1 + 5 * v2 + 7 * v3 + 9 * v4) % 32
def locB : List UInt8 → Bool
  | [a, b, c, d, e, f] => decide (0 ≤ ixA a) && decide (0 ≤ ixA b) && decide (0 ≤ ixA c) && decide (0 ≤ ixA d) && decide (0 ≤ ixA e) && decide (f = al (sum5 (ixA a) (ixA b) (ixA c) (ixA d) (ixA e)))
  | _ => false
theorem locB_len {s : List UInt8} (h : s.length ≠ 6) : locB s = false := by
  unfold locB
  split
  · simp at h
  · rfl
theorem num5_bd : ∀ (l : List UInt8), (∀ c ∈ l, 0 ≤ ixA c) → ∀ n : Int, 0 ≤ n → 0 ≤ (l.map ixA).foldl (fun n x => 32 * n + x) n
  | [], _, n, h => h
  | c :: l, hl, n, h => num5_bd l (fun x hx => hl x (List.mem_cons_of_mem _ hx)) _ (by have := hl c (List.mem_cons_self ..); dsimp only; omega)
theorem loc_ref (s : List UInt8) : ((s.take 5).all (fun c => decide (0 ≤ ixA c)) && decide (ofM (num5 ((s.take 5).map ixA)) = s)) = locB s := by
  by_cases hl : s.length = 6
  · match s, hl with
    | [a, b, c, d, e, f], _ =>
      have ha := ixA_bd a
      have hb := ixA_bd b
      have hc := ixA_bd c
      have hd := ixA_bd d
      have he := ixA_bd e
      simp only [List.take_succ_cons, List.take_zero, List.all_cons, List.all_nil, Bool.and_true, List.map_cons, List.map_nil, num5, List.foldl_cons, List.foldl_nil, locB]
      by_cases g : (0 ≤ ixA a ∧ 0 ≤ ixA b ∧ 0 ≤ ixA c ∧ 0 ≤ ixA d ∧ 0 ≤ ixA e)
      · obtain ⟨g1, g2, g3, g4, g5⟩ := g
        have e1 := al_ix g1
        have e2 := al_ix g2
        have e3 := al_ix g3
        have e4 := al_ix g4
        have e5 := al_ix g5
        generalize ixA a = va at *
        generalize ixA b = vb at *
        generalize ixA c = vc at *
        generalize ixA d = vd at *
        generalize ixA e = ve at *
        have n0 : (32 * (32 * (32 * (32 * (32 * 0 + va) + vb) + vc) + vd) + ve) / 1048576 % 32 = va := by omega
        have n1 : (32 * (32 * (32 * (32 * (32 * 0 + va) + vb) + vc) + vd) + ve) / 32768 % 32 = vb := by omega
        have n2 : (32 * (32 * (32 * (32 * (32 * 0 + va) + vb) + vc) + vd) + ve) / 1024 % 32 = vc := by omega
        have n3 : (32 * (32 * (32 * (32 * (32 * 0 + va) + vb) + vc) + vd) + ve) / 32 % 32 = vd := by omega
        have n4 : (32 * (32 * (32 * (32 * (32 * 0 + va) + vb) + vc) + vd) + ve) % 32 = ve := by omega
        unfold ofM
        rw [n0, n1, n2, n3, n4, e1, e2, e3, e4, e5]
        simp only [g1, g2, g3, g4, g5, decide_true, Bool.true_and, List.cons.injEq, true_and, and_true, sum5]
        exact decide_eq_decide.2 eq_comm
      · have : (decide (0 ≤ ixA a) && decide (0 ≤ ixA b) && decide (0 ≤ ixA c) && decide (0 ≤ ixA d) && decide (0 ≤ ixA e)) = false := by
          rw [Bool.eq_false_iff]
          intro h
          simp only [Bool.and_eq_true, decide_eq_true_eq] at h
          exact g ⟨h.1.1.1.1, h.1.1.1.2, h.1.1.2, h.1.2, h.2⟩
        rw [this, Bool.false_and]
        have h2 : (decide (0 ≤ ixA a) && (decide (0 ≤ ixA b) && (decide (0 ≤ ixA c) && (decide (0 ≤ ixA d) && decide (0 ≤ ixA e))))) = false := by simpa only [Bool.and_assoc] using this
        rw [h2, Bool.false_and]
  · rw [locB_len hl]
    have : decide (ofM (num5 ((s.take 5).map ixA)) = s) = false := decide_eq_false fun h => hl (by rw [← h]; rfl)
    rw [this, Bool.and_false]
end Go.Proofs.YtffapkiilkeadaaDoor
