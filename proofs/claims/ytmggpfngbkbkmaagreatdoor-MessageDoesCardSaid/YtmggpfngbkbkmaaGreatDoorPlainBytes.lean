/- Plain: numbers as bytes. No program in sight. -/
import Derived.Test.YtmggpfngbkbkmaaGreatDoorBase
namespace Go.Proofs.YtmggpfngbkbkmaaGreatDoor
open Go.RowKit
set_option linter.unusedVariables false
set_option linter.unusedSimpArgs false

/-- The number that bytes tell, the highest first. -/
def be (l : List UInt8) : Nat := l.foldl (fun n c => n * 256 + c.toNat) 0
theorem be_snoc (l : List UInt8) (c : UInt8) : be (l ++ [c]) = be l * 256 + c.toNat := by simp [be]
theorem be_lt_rev (l : List UInt8) : be l.reverse < 256 ^ l.length := by
  induction l with
  | nil => simp [be]
  | cons c l ih =>
    rw [List.reverse_cons, be_snoc, List.length_cons, Nat.pow_succ]
    have := c.toNat_lt
    have h2 : (be l.reverse + 1) * 256 ≤ 256 ^ l.length * 256 := Nat.mul_le_mul_right _ ih
    omega
theorem be_lt (l : List UInt8) : be l < 256 ^ l.length := by simpa using be_lt_rev l.reverse
theorem be_small (l : List UInt8) (n : Nat) (h : l.length ≤ n) : be l < 256 ^ n := Nat.lt_of_lt_of_le (be_lt l) (Nat.pow_le_pow_right (by omega) h)
def numBytes (n W : Nat) : List UInt8 := (List.range W).map fun i => UInt8.ofNat (n / 2 ^ (8 * (W - 1 - i)))
theorem numBytes_length (n W : Nat) : (numBytes n W).length = W := by simp [numBytes]
theorem numBytes_snoc (n W k j : Nat) (h : k + j + 1 = W) : (numBytes n W).take (k + 1) = (numBytes n W).take k ++ [UInt8.ofNat (n / 2 ^ (8 * j))] := by
  have hk : k < (numBytes n W).length := by rw [numBytes_length]; omega
  rw [List.take_succ_eq_append_getElem hk]
  simp only [numBytes, List.getElem_map, List.getElem_range]
  rw [show W - 1 - k = j by omega]
end Go.Proofs.YtmggpfngbkbkmaaGreatDoor
