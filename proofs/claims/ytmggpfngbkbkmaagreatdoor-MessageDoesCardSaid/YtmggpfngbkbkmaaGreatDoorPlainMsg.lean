/- Plain: messages (packages message, rillbedref09). No program in sight. -/
import Derived.Test.YtmggpfngbkbkmaaGreatDoorPlainBlock
namespace Go.Proofs.YtmggpfngbkbkmaaGreatDoor
open Go.RowKit
set_option linter.unusedVariables false
set_option linter.unusedSimpArgs false

structure PMsg where
  op : Int
  key : ByteArray
  to : ByteArray
  value : ByteArray
def first (k : ByteArray) : Nat := (k.data.toList.headD 0).toNat
def valueOk (k v : ByteArray) : Bool := if first k = 109 then metaE v == 0 else if first k = 100 then blkCheck v == 0 else decide (v.size ≤ 64)
def patchOk (k v : ByteArray) : Bool := if first k = 109 then changeE v == 0 else if first k = 100 then patchE v == 0 else false
def keyOk (s : ByteArray) : Bool := decide (s.size ≠ 0) && decide (s.size ≤ 108)
/-- One text before the other; an empty one. -/
def less (a b : ByteArray) : Bool := Op.bytesLess a.toList b.toList
def emp (s : ByteArray) : Bool := s.toList.isEmpty
/-- May a message be? -/
def PMsg.may (m : PMsg) : Bool :=
  keyOk m.key && (if m.op == 1 then emp m.to && valueOk m.key m.value
   else if m.op == 4 then emp m.to && patchOk m.key m.value
   else if m.op == 2 then emp m.to && emp m.value
   else if m.op == 3 then emp m.value && (keyOk m.to && less m.key m.to)
   else false)
end Go.Proofs.YtmggpfngbkbkmaaGreatDoor
