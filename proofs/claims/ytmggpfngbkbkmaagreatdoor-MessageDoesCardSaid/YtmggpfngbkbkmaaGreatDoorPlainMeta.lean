/- Plain: what is known of a file, and changes of it (packages meta, rillbedref07). No program in sight. -/
import Derived.Test.YtmggpfngbkbkmaaGreatDoorPlainNum
import Derived.Test.YtmggpfngbkbkmaaGreatDoorPlainBytes
namespace Go.Proofs.YtmggpfngbkbkmaaGreatDoor
open Go.RowKit
set_option linter.unusedVariables false
set_option linter.unusedSimpArgs false

structure PMeta where
  kind : Int
  size : Int
  mark : Int
  stamp : Int
  deriving DecidableEq
structure PChange where
  what : Int
  n : Int
  op : Int
  by_ : Int
  deriving DecidableEq
def PMeta.val (m : PMeta) : Value := .agg #[.int .u8 m.kind, .int .u32 m.size, .int .u64 m.mark, .int .u64 m.stamp]
/-- Are the numbers of their kinds? -/
def PMeta.wf (m : PMeta) : Prop := (0 ≤ m.kind ∧ m.kind < 256) ∧ (0 ≤ m.size ∧ m.size < 4294967296) ∧ (0 ≤ m.mark ∧ m.mark < 18446744073709551616) ∧ (0 ≤ m.stamp ∧ m.stamp < 18446744073709551616)
def PChange.wf (c : PChange) : Prop := (0 ≤ c.what ∧ c.what < 256) ∧ (0 ≤ c.n ∧ c.n < 18446744073709551616) ∧ (0 ≤ c.op ∧ c.op < 256) ∧ (0 ≤ c.by_ ∧ c.by_ < 18446744073709551616)
def PMeta.zero : PMeta := ⟨0, 0, 0, 0⟩
def PChange.zero : PChange := ⟨0, 0, 0, 0⟩
/-- May a meta be? -/
def PMeta.may (m : PMeta) : Bool := (decide (m.kind = 1) || decide (m.kind = 2)) && decide (m.size ≤ 2048) && (decide (m.kind ≠ 2) || decide (m.size = 0)) && decide ((quietN m.mark.toNat : Int) = m.mark)
def PMeta.err (m : PMeta) : Int := if m.may = true then 0 else 4
/-- May a change be? -/
def PChange.may (c : PChange) : Bool :=
  if c.what = 1 ∨ c.what = 2 then decide (c.n ≤ 2048) && decide (c.op = 0) && decide (c.by_ = 0)
  else if c.what = 4 then decide (c.op = 0) && decide (c.by_ = 0)
  else if c.what = 3 then decide (c.n = 0) && decide (1 ≤ c.op) && decide (c.op ≤ 5) else false
/-- What a change makes of a meta. -/
def PMeta.change (m : PMeta) (c : PChange) : PMeta :=
  if m.may = false ∨ c.may = false then m
  else if c.what = 1 then (if m.kind = 1 then { m with size := max m.size c.n } else m)
  else if c.what = 2 then (if m.kind = 1 then { m with size := c.n } else m)
  else if c.what = 3 then { m with mark := (stepN m.mark.toNat c.op c.by_.toNat : Nat) }
  else { m with stamp := c.n }
/-- A meta's text. -/
def PMeta.bytes (m : PMeta) : List UInt8 := numBytes m.kind.toNat 1 ++ numBytes m.size.toNat 4 ++ numBytes m.mark.toNat 8 ++ numBytes m.stamp.toNat 8
def PMeta.text (m : PMeta) : ByteArray := if m.may = true then ⟨m.bytes.toArray⟩ else ⟨#[]⟩
theorem PMeta.err_yes {m : PMeta} (h : m.may = true) : m.err = 0 := if_pos h
theorem PMeta.err_no {m : PMeta} (h : ¬ m.may = true) : m.err = 4 := if_neg h
theorem PMeta.text_yes {m : PMeta} (h : m.may = true) : m.text = ⟨m.bytes.toArray⟩ := if_pos h
theorem PMeta.text_no {m : PMeta} (h : ¬ m.may = true) : m.text = ⟨#[]⟩ := if_neg h
end Go.Proofs.YtmggpfngbkbkmaaGreatDoor
