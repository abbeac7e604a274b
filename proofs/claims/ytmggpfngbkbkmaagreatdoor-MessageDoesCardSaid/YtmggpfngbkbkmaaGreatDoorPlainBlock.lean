/- Plain: blocks and their patches (packages block, rillbedref08). No program in sight. -/
import Derived.Test.YtmggpfngbkbkmaaGreatDoorPlainRead
namespace Go.Proofs.YtmggpfngbkbkmaaGreatDoor
open Go.RowKit
set_option linter.unusedVariables false
set_option linter.unusedSimpArgs false

/-- Without the noughts at its end. -/
def trimL (l : List UInt8) : List UInt8 := (l.reverse.dropWhile (· == 0)).reverse
def trimB (s : ByteArray) : ByteArray := ⟨(trimL s.data.toList).toArray⟩
/-- So many bytes from a place on, noughts behind the end. -/
def atL (l : List UInt8) (f n : Nat) : List UInt8 := (List.range n).map fun i => l.getD (f + i) 0
/-- A block's error. -/
def blkCheck (s : ByteArray) : Int := if s.size = 0 ∨ 64 < s.size ∨ s.data.toList.getLast? = some 0 then 4 else 0
structure PPatch where
  cut : Bool
  at_ : Int
  n : Int
  s : ByteArray
def PPatch.may (p : PPatch) : Bool :=
  if p.cut = true then decide (0 ≤ p.n) && decide (p.n < 64) && decide (p.at_ = 0) && decide (p.s.size = 0)
  else decide (p.s.size ≠ 0) && decide (p.s.size ≤ 64) && decide (0 ≤ p.at_) && decide (p.at_ ≤ 64 - (p.s.size : Int)) && decide (p.n = 0)
def PPatch.zero : PPatch := ⟨false, 0, 0, ⟨#[]⟩⟩
/-- A text's patch, or why it is none. -/
def rdPatch (s : ByteArray) : PPatch := if numV (some s) 1 = 2 then ⟨true, 0, numV (fixR (some s) 1) 1, ⟨#[]⟩⟩ else ⟨false, numV (fixR (some s) 1) 1, 0, textV (fixR (fixR (some s) 1) 1)⟩
def rdPatchR (s : ByteArray) : Option ByteArray := if numV (some s) 1 = 2 then fixR (fixR (some s) 1) 1 else textR (fixR (fixR (some s) 1) 1)
def patchE (s : ByteArray) : Int :=
  if s.size = 0 then 10 else if numV (some s) 1 ≠ 1 ∧ numV (some s) 1 ≠ 2 then 4
  else if rdPatchR s = none then 10 else if wholeE (rdPatchR s) = 0 ∧ (rdPatch s).may = true then 0 else 4
def patchV (s : ByteArray) : PPatch := if patchE s = 0 then rdPatch s else PPatch.zero
/-- What a patch makes of a block. -/
def blkApply (v : ByteArray) (p : PPatch) : ByteArray :=
  if p.may = false then ⟨(trimL (v.data.toList.take 64)).toArray⟩
  else if p.cut = true then ⟨(trimL (atL (v.data.toList.take 64) 0 p.n.toNat)).toArray⟩
  else ⟨(trimL (atL (v.data.toList.take 64) 0 p.at_.toNat ++ (p.s.data.toList ++ atL (v.data.toList.take 64) (p.at_.toNat + p.s.size) (64 - (p.at_.toNat + p.s.size))))).toArray⟩
theorem atL_length (l : List UInt8) (f n : Nat) : (atL l f n).length = n := by simp [atL]
theorem atL_snoc (l : List UInt8) (f n : Nat) : atL l f (n + 1) = atL l f n ++ [l.getD (f + n) 0] := by simp [atL, List.range_succ]
theorem atL_beyond (l : List UInt8) (f f' n : Nat) (h : l.length ≤ f) (h' : l.length ≤ f') : atL l f n = atL l f' n := by
  unfold atL
  apply List.map_congr_left
  intro i _
  rw [List.getD_eq_getElem?_getD, List.getD_eq_getElem?_getD, List.getElem?_eq_none (by omega), List.getElem?_eq_none (by omega)]
theorem trimL_snoc_zero (l : List UInt8) : trimL (l ++ [0]) = trimL l := by simp [trimL]
theorem trimL_zeros (l : List UInt8) (n : Nat) : trimL (l ++ List.replicate n 0) = trimL l := by
  induction n with
  | zero => simp
  | succ n ih => rw [List.replicate_succ', ← List.append_assoc, trimL_snoc_zero, ih]
theorem trimL_snoc_ne (l : List UInt8) (c : UInt8) (h : c ≠ 0) : trimL (l ++ [c]) = l ++ [c] := by
  simp [trimL, h]
theorem trimL_nil : trimL [] = [] := rfl
end Go.Proofs.YtmggpfngbkbkmaaGreatDoor
