/- Plain: what of a message lies in a range. No program in sight. -/
import Derived.Test.YtmggpfngbkbkmaaGreatDoorPlainMsg3
import Derived.Lib.MinMaxS
namespace Go.Proofs.YtmggpfngbkbkmaaGreatDoor
open Go.RowKit
set_option linter.unusedVariables false
set_option linter.unusedSimpArgs false

def PMsg.zero : PMsg := ⟨0, ⟨#[]⟩, ⟨#[]⟩, ⟨#[]⟩⟩
def PMsg.cut (m : PMsg) (fr tt : ByteArray) : PMsg := if m.op == 3 then ⟨3, Lib.maxS m.key fr, if emp tt then m.to else Lib.minS m.to tt, m.value⟩ else m
def PMsg.lies (m : PMsg) (fr tt : ByteArray) : Bool := m.may && (if m.op == 3 then less (m.cut fr tt).key (m.cut fr tt).to else !less m.key fr && (emp tt || less m.key tt))
def PMsg.part (m : PMsg) (fr tt : ByteArray) : PMsg := if m.lies fr tt then m.cut fr tt else PMsg.zero
end Go.Proofs.YtmggpfngbkbkmaaGreatDoor
