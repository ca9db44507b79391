/- padded, digits, Print, Parse. -/
import Derived.Test.YtejmfhbnbelklaaDoorA2
import Derived.Test.YtejmfhbnbelklaaDoorB1
import Derived.Test.YtejmfhbnbelklaaDoorShelf
import Derived.WalkSmall
namespace Go.Proofs.YtejmfhbnbelklaaDoor
open Go Go.RowKit

abbrev Ext (w w' : World) : Prop := Below w.heap.size w w'
theorem Ext.refl (w : World) : Ext w w := Below.refl _ _
theorem Ext.trans {a b c : World} (h : Ext a b) (k : Ext b c) : Ext a c := Below.trans h (k.mono h.size)
theorem ext_grow {w : World} {k : Nat} {os : Array Obj} : Ext w (Sort.grow (w.drewN k) os) := by
  refine ⟨rfl, rfl, rfl, ?_, fun i hi => ?_⟩
  · show w.heap.size ≤ (w.heap ++ os).size; simp
  · show (w.heap ++ os)[i]? = w.heap[i]?
    rw [Array.getElem?_append_left hi]
abbrev Tab (w : World) : Prop := Lib.TabIs Tryd.prog w "internal/strconv.uint64pow10" .u64 Lib.pow10Tab
theorem gTab : Tryd.prog.globalNamed "internal/strconv.uint64pow10" = some 0 := by kernel_rfl
theorem Tab.ext {w w' : World} (h : Tab w) (e : Ext w w') : Tab w' := by
  have h0 : 0 < w.heap.size := by
    have h' := h
    unfold Tab Lib.TabIs World.var? at h'
    rw [gTab] at h'
    simp only [Option.bind_some] at h'
    refine Nat.pos_of_ne_zero fun hz => ?_
    rw [Array.getElem?_eq_none (by omega)] at h'
    simp at h'
  exact var?_below e gTab h0 h

theorem itoa_any (n : Int) (w : World) (h0 : -9223372036854775808 ≤ n) (h1 : n ≤ 9223372036854775807) (ht : Tab w) :
    Calls Tryd.prog 26 #[.int .i64 n] w fun e w' => e = .returned (.string ⟨(Lib.itoa n).toArray⟩) ∧ Ext w w' :=
  (Tryd.strconv_Itoa n h0 h1 w ht).mono fun e w' ⟨he, k, os, hw⟩ => ⟨he, hw ▸ ext_grow⟩

def strLen : Value → Nat | .string s => s.size | _ => 0
def PadIs (d : Nat) (l m : List UInt8) : Prop := pad d m = pad d l
theorem padIs_done {d : Nat} {l m : List UInt8} (h : PadIs d l m) (hl : d ≤ m.length) : m = pad d l := by
  rw [← h, pad_of_le _ _ hl]
set_option maxHeartbeats 400000 in
theorem padded_any (n d : Int) (w : World) (h0 : 0 ≤ n) (h1 : n ≤ 9223372036854775807) (hd : 0 ≤ d) (hd' : d ≤ 100) (ht : Tab w) (hl : (Lib.itoa n).length ≤ 100) :
    Calls Tryd.prog 23 #[.int .i64 n, .int .i64 d] w fun e w' => e = .returned (.string ⟨(pad d.toNat (Lib.itoa n)).toArray⟩) ∧ Ext w w' := by
  have hc := itoa_any n w (by omega) h1 ht
  generalize Lib.itoa n = l at hl hc
  have H := Lib.hid hc; clear hc
  go_enter Tryd.func23, Tryd.ntmps23
  go_wp2_with (go_at_call 26; refine (H.out).mono ?_; rintro e w' ⟨rfl, hb⟩)
  have HB := Lib.hid hb; clear hb
  go_loop [5] (fun s => ∃ m : List UInt8, m.length ≤ 100 ∧ s = .string ⟨m.toArray⟩ ∧ PadIs d.toNat l m) (fun s => 100 - strLen s)
  case atStart => exact ⟨l, hl, rfl, rfl⟩
  case round =>
    obtain ⟨m, hm, rfl, hp⟩ := hrel
    by_cases hlt : (m.length : Int) < d
    · go_wp2
      go_round
      case rel => exact ⟨48 :: m, by simp; omega, str_app [48] m _ rfl, by unfold PadIs at *; rw [pad_cons _ _ (by omega)]; exact hp⟩
      case measure => simp [strLen, ba_size]; omega
    · go_wp2
      go_ret
      exact ⟨by rw [padIs_done hp (by omega)]; rfl, HB.out⟩


theorem conv_one {P : Program} (w : World) (x : Int) (src e dst : TypeId) (hs : P.underlying src = some (.slice e)) (he : P.underlying e = some (.int .u8)) (hd : P.underlying dst = some .string) :
    (convert src dst (.slice (some ⟨w.heap.size, 0, none⟩) 1 1)).run P (w.alloc (.cells #[.int .u8 x] e)) = .ok (.string ⟨[UInt8.ofNat x.toNat].toArray⟩) (w.alloc (.cells #[.int .u8 x] e)) := by
  have h := run_convert_bytes_arg (P := P) (w.alloc (.cells #[.int .u8 x] e)) src e hs he w.heap.size 0 1 1 [x] rfl (by
    intro i hi
    obtain rfl : i = 0 := by omega
    simp) dst hd
  rw [h]; simp [strOfNums]
theorem dgs_step (n : Int) (j : Nat) : [UInt8.ofNat (48 + quo n j % 10).toNat] ++ dgs n j = dgs n (j + 1) := rfl
set_option maxHeartbeats 400000 in
theorem digits_any (n k : Int) (w : World) (h0 : 0 ≤ n) (h1 : n ≤ 9223372036854775807) (hd : 0 ≤ k) (hd' : k ≤ 100) :
    Calls Tryd.prog 24 #[.int .i64 n, .int .i64 k] w fun e w' => e = .returned (.string ⟨(dgs n k.toNat).toArray⟩) ∧ Ext w w' := by
  go_enter Tryd.func24, Tryd.ntmps24
  go_wp2
  go_loopw [0, 5, 6] (fun x s i wr => ∃ j : Nat, (j : Int) ≤ k ∧ i = .int .i64 j ∧ x = .int .i64 (quo n j) ∧ s = .string ⟨(dgs n j).toArray⟩ ∧ Ext w wr) (fun _ _ i _ => (k - intOf i).toNat)
  case atStart => exact ⟨0, by omega, rfl, rfl, rfl, Ext.refl _⟩
  case round =>
    obtain ⟨j, hj, rfl, rfl, rfl, he⟩ := hrel
    have hq := quo_nonneg n h0 j
    have hl : (dgs n j).length ≤ 100 := by rw [dgs_len]; omega
    have HB := Lib.hid he; clear he
    by_cases hlt : (j : Int) < k
    · have hcv := fun x : Int => conv_one (P := Tryd.prog) wr x 41 5 9 Tryd.underlying41 Tryd.underlying5 Tryd.underlying9
      go_wp2
      go_roundw
      case rel => exact ⟨j + 1, by omega, by go_num, rfl, str_app _ _ _ (dgs_step n j), HB.out.alloc HB.out.size _⟩
      case measure => simp [intOf]; omega
    · have hjk : k.toNat = j := by omega
      have HK := Lib.hid hjk
      clear hjk
      go_wp2
      go_ret
      exact ⟨by rw [HK.out]; rfl, HB.out⟩
end Go.Proofs.YtejmfhbnbelklaaDoor
