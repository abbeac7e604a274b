/- Plain: what a reader reads: metas and changes. No program in sight. -/
import Derived.Test.YtmggpfngbkbkmaaGreatDoorPlainMeta
namespace Go.Proofs.YtmggpfngbkbkmaaGreatDoor
open Go.RowKit
set_option linter.unusedVariables false
set_option linter.unusedSimpArgs false

/-- A reader's step: so many bytes of what is left; 'none': torn. -/
def fixV (r : Option ByteArray) (n : Nat) : ByteArray := match r with
  | none => ⟨#[]⟩
  | some s => if n ≤ s.size then s.extract 0 n else ⟨#[]⟩
def fixR (r : Option ByteArray) (n : Nat) : Option ByteArray := match r with
  | none => none
  | some s => if n ≤ s.size then some (s.extract n s.size) else none
theorem fixV_size (r : Option ByteArray) (n : Nat) : (fixV r n).size ≤ n := by
  cases r with
  | none => exact Nat.zero_le _
  | some s =>
    by_cases h : n ≤ s.size
    · simp [fixV, h] <;> omega
    · simp only [fixV, if_neg h]; exact Nat.zero_le _
/-- What a number of so many bytes is, and what is left. -/
def numV (r : Option ByteArray) (n : Nat) : Nat := be (fixV r n).data.toList
theorem numV_lt (r : Option ByteArray) (n : Nat) : numV r n < 256 ^ n := be_small _ _ (by simpa using fixV_size r n)
def textV (r : Option ByteArray) : ByteArray := fixV (fixR r 2) (numV r 2)
def textR (r : Option ByteArray) : Option ByteArray := fixR (fixR r 2) (numV r 2)
def rdErr (r : Option ByteArray) : Int := if r.isSome then 0 else 10
def rdRest (r : Option ByteArray) : ByteArray := r.getD ⟨#[]⟩

/-- Is a reader's text read to its end? If not, why. -/
def wholeE (r : Option ByteArray) : Int := match r with
  | none => 10
  | some s => if s.size = 0 then 0 else 4
def rdMeta (s : ByteArray) : PMeta := ⟨numV (some s) 1, numV (fixR (some s) 1) 4, numV (fixR (fixR (some s) 1) 4) 8, numV (fixR (fixR (fixR (some s) 1) 4) 8) 8⟩
def rdMetaR (s : ByteArray) : Option ByteArray := fixR (fixR (fixR (fixR (some s) 1) 4) 8) 8
/-- A text's meta, or why it is none. -/
def metaE (s : ByteArray) : Int := if wholeE (rdMetaR s) = 0 then (rdMeta s).err else wholeE (rdMetaR s)
def metaV (s : ByteArray) : PMeta := if metaE s = 0 then rdMeta s else PMeta.zero
theorem rdMeta_wf (s : ByteArray) : (rdMeta s).wf := by
  refine ⟨⟨by simp [rdMeta], ?_⟩, ⟨by simp [rdMeta], ?_⟩, ⟨by simp [rdMeta], ?_⟩, ⟨by simp [rdMeta], ?_⟩⟩
  · have := numV_lt (some s) 1; simp only [rdMeta]; omega
  · have := numV_lt (fixR (some s) 1) 4; simp only [rdMeta]; omega
  · have := numV_lt (fixR (fixR (some s) 1) 4) 8; simp only [rdMeta]; omega
  · have := numV_lt (fixR (fixR (fixR (some s) 1) 4) 8) 8; simp only [rdMeta]; omega
/-- A text's change, by its first byte; what is left. -/
def rdWhat (s : ByteArray) : Nat := numV (some s) 1
def rdChange (s : ByteArray) : PChange :=
  if rdWhat s = 3 then ⟨rdWhat s, 0, numV (fixR (some s) 1) 1, numV (fixR (fixR (some s) 1) 1) 8⟩
  else if rdWhat s = 4 then ⟨rdWhat s, numV (fixR (some s) 1) 8, 0, 0⟩ else ⟨rdWhat s, numV (fixR (some s) 1) 4, 0, 0⟩
def rdChangeR (s : ByteArray) : Option ByteArray :=
  if rdWhat s = 3 then fixR (fixR (fixR (some s) 1) 1) 8
  else if rdWhat s = 4 then fixR (fixR (some s) 1) 8 else fixR (fixR (some s) 1) 4
def changeE (s : ByteArray) : Int :=
  if s.size = 0 then 10 else if rdWhat s = 0 ∨ 4 < rdWhat s then 4
  else if wholeE (rdChangeR s) = 0 then (if (rdChange s).may = true then 0 else 4) else wholeE (rdChangeR s)
def changeV (s : ByteArray) : PChange := if changeE s = 0 then rdChange s else PChange.zero
end Go.Proofs.YtmggpfngbkbkmaaGreatDoor
