/- Plain: 64 bytes, cut and spliced. No program in sight. -/
import Derived.Test.YtmggpfngbkbkmaaGreatDoorPlainBlock
namespace Go.Proofs.YtmggpfngbkbkmaaGreatDoor
open Go.RowKit
set_option linter.unusedVariables false
set_option linter.unusedSimpArgs false

def cutL (L : List UInt8) (N i : Nat) : List UInt8 := L.take N ++ (List.replicate (i - N) 0 ++ L.drop i)
def splL (L : List UInt8) (a : Nat) (s : List UInt8) (i : Nat) : List UInt8 := L.take a ++ (s.take i ++ L.drop (a + i))
theorem cutL_step (L : List UInt8) (hl : L.length = 64) (N i : Nat) (hN : N ≤ i) (h : i < 64) : (cutL L N i).set i 0 = cutL L N (i + 1) := by
  unfold cutL
  have h1 : (L.take N).length = N := by simp; omega
  have h2 : (List.replicate (i - N) (0 : UInt8)).length = i - N := by simp
  rw [List.set_append_right _ _ (by omega), h1, List.set_append_right _ _ (by omega), h2, Nat.sub_self, List.drop_eq_getElem_cons (by omega), List.set_cons_zero, show i + 1 - N = (i - N) + 1 by omega, List.replicate_succ', List.append_assoc]
  rfl
theorem splL_step (L : List UInt8) (hl : L.length = 64) (a i : Nat) (s : List UInt8) (hi : i < s.length) (h : a + i < 64) : (splL L a s i).set (a + i) s[i] = splL L a s (i + 1) := by
  unfold splL
  have h1 : (L.take a).length = a := by simp; omega
  have h2 : (s.take i).length = i := by simp; omega
  rw [List.set_append_right _ _ (by omega), h1, show a + i - a = i by omega, List.set_append_right _ _ (by omega), h2, Nat.sub_self, List.drop_eq_getElem_cons (by omega), List.set_cons_zero, List.take_succ_eq_append_getElem hi, List.append_assoc]
  rfl
theorem cutL_zero (L : List UInt8) (N : Nat) : cutL L N N = L := by simp [cutL]
theorem splL_zero (L : List UInt8) (a : Nat) (s : List UInt8) : splL L a s 0 = L := by simp [splL]
theorem cutL_length (L : List UInt8) (hl : L.length = 64) (N i : Nat) (hN : N ≤ i) (h : i ≤ 64) : (cutL L N i).length = 64 := by simp [cutL]; omega
theorem splL_length (L : List UInt8) (hl : L.length = 64) (a i : Nat) (s : List UInt8) (hi : i ≤ s.length) (h : a + i ≤ 64) : (splL L a s i).length = 64 := by simp [splL]; omega
theorem cutL_full (L : List UInt8) (hl : L.length = 64) (N : Nat) : trimL (cutL L N 64) = trimL (L.take N) := by
  unfold cutL
  rw [List.drop_of_length_le (by omega), List.append_nil, trimL_zeros]
theorem atL_take (l : List UInt8) (f n m : Nat) (h : m ≤ n) : (atL l f n).take m = atL l f m := by
  unfold atL; rw [← List.map_take, List.take_range, Nat.min_eq_left h]
theorem atL_drop (l : List UInt8) (n m : Nat) (h : m ≤ n) : (atL l 0 n).drop m = atL l m (n - m) := by
  apply List.ext_getElem
  · simp [atL]
  · intro i h1 h2; simp [atL]
theorem atL_64 (l : List UInt8) (f n : Nat) (h : f + n ≤ 64) : atL (l.take 64) f n = atL l f n := by
  apply List.map_congr_left
  intro i hi
  have := List.mem_range.1 hi
  rw [List.getD_eq_getElem?_getD, List.getD_eq_getElem?_getD, List.getElem?_take, if_pos (by omega)]
theorem atL_all (l : List UInt8) : trimL (atL l 0 64) = trimL (l.take 64) := by
  have : atL l 0 64 = l.take 64 ++ List.replicate (64 - (l.take 64).length) 0 := by
    apply List.ext_getElem
    · simp [atL]; omega
    · intro i h1 h2
      have hi : i < 64 := by simpa [atL] using h1
      simp only [atL, List.getElem_map, List.getElem_range, Nat.zero_add]
      by_cases hl : i < l.length
      · rw [List.getElem_append_left (by simp; omega), List.getElem_take, List.getD_eq_getElem?_getD, List.getElem?_eq_getElem hl]; rfl
      · rw [List.getElem_append_right (by simp; omega), List.getElem_replicate, List.getD_eq_getElem?_getD, List.getElem?_eq_none (by omega)]; rfl
  rw [this, trimL_zeros]
end Go.Proofs.YtmggpfngbkbkmaaGreatDoor
