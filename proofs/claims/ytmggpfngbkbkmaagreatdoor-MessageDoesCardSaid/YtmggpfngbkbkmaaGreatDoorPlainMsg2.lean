/- Plain: what a message makes of a value. No program in sight. -/
import Derived.Test.YtmggpfngbkbkmaaGreatDoorPlainMsg
import Derived.Laws.FloatBits
namespace Go.Proofs.YtmggpfngbkbkmaaGreatDoor
open Go.RowKit
set_option linter.unusedVariables false
set_option linter.unusedSimpArgs false

def PMsg.err (m : PMsg) : Int := if m.may then 0 else 4
/-- Does a message that may be touch a key? -/
def PMsg.hits (m : PMsg) (k : ByteArray) : Bool := if m.op == 3 then !less k m.key && less k m.to else k.toList == m.key.toList
def PMsg.touches (m : PMsg) (k : ByteArray) : Bool := m.may && m.hits k
theorem quietN_lt {x : Nat} (h : x < 18446744073709551616) : quietN x < 18446744073709551616 := by
  unfold quietN; split <;> omega
theorem stepN_lt {x y : Nat} (op : Int) (hx : x < 18446744073709551616) (hy : y < 18446744073709551616) : stepN x op y < 18446744073709551616 := by
  have e : (2 : Nat) ^ FloatKind.f64.format.width = 18446744073709551616 := by decide
  have ha : qAdd x y < 18446744073709551616 := by
    unfold qAdd
    split
    · rename_i r h
      exact quietN_lt (e ▸ Ieee.Format.add_lt _ h)
    · omega
  have hb : qMul x y < 18446744073709551616 := by
    unfold qMul
    split
    · rename_i r h
      exact quietN_lt (e ▸ Ieee.Format.mul_lt _ h)
    · omega
  have h1 := quietN_lt hx
  have h2 := quietN_lt hy
  unfold stepN
  repeat (first | assumption | omega | split)
theorem metaV_wf (s : ByteArray) : (metaV s).wf := by
  unfold metaV
  split
  · exact rdMeta_wf s
  · exact ⟨by decide, by decide, by decide, by decide⟩
theorem rdChange_wf (s : ByteArray) : (rdChange s).wf := by
  have h1 := numV_lt (some s) 1
  have h2 := numV_lt (fixR (some s) 1) 1
  have h3 := numV_lt (fixR (fixR (some s) 1) 1) 8
  have h4 := numV_lt (fixR (some s) 1) 8
  have h5 := numV_lt (fixR (some s) 1) 4
  unfold rdChange
  have h6 : rdWhat s < 256 ^ 1 := h1
  split
  · exact ⟨⟨by simp, by simp only; omega⟩, ⟨by simp, by simp⟩, ⟨by simp, by simp only; omega⟩, ⟨by simp, by simp only; omega⟩⟩
  · split
    · exact ⟨⟨by simp, by simp only; omega⟩, ⟨by simp, by simp only; omega⟩, ⟨by simp, by simp⟩, ⟨by simp, by simp⟩⟩
    · exact ⟨⟨by simp, by simp only; omega⟩, ⟨by simp, by simp only; omega⟩, ⟨by simp, by simp⟩, ⟨by simp, by simp⟩⟩
theorem changeV_wf (s : ByteArray) : (changeV s).wf := by
  unfold changeV
  split
  · exact rdChange_wf s
  · exact ⟨by decide, by decide, by decide, by decide⟩
theorem change_wf {m : PMeta} {c : PChange} (hm : m.wf) (hc : c.wf) : (m.change c).wf := by
  unfold PMeta.change
  by_cases h : m.may = false ∨ c.may = false
  · rw [if_pos h]; exact hm
  · rw [if_neg h]
    have hy : c.may = true := by
      cases hh : c.may
      · exact absurd (.inr hh) h
      · rfl
    clear h
    obtain ⟨k, s, mk, st⟩ := m
    obtain ⟨a, n, o, b⟩ := c
    obtain ⟨hk, hs, hmk, hst⟩ := hm
    obtain ⟨ha, hn, ho, hb⟩ := hc
    simp only at hk hs hmk hst ha hn ho hb ⊢
    have hst' := stepN_lt (x := mk.toNat) (y := b.toNat) o (by omega) (by omega)
    unfold PChange.may at hy
    simp only at hy
    by_cases h1 : a = 1
    · rw [if_pos (.inl h1)] at hy
      simp at hy
      rw [if_pos h1]
      split
      · exact ⟨hk, ⟨by simp only; omega, by simp only; omega⟩, hmk, hst⟩
      · exact ⟨hk, hs, hmk, hst⟩
    · rw [if_neg h1]
      by_cases h2 : a = 2
      · rw [if_pos (.inr h2)] at hy
        simp at hy
        rw [if_pos h2]
        split
        · exact ⟨hk, ⟨by simp only; omega, by simp only; omega⟩, hmk, hst⟩
        · exact ⟨hk, hs, hmk, hst⟩
      · rw [if_neg h2]
        split
        · exact ⟨hk, hs, ⟨by simp only; omega, by simp only; omega⟩, hst⟩
        · exact ⟨hk, hs, hmk, hn⟩
theorem patchV_size (s : ByteArray) : (patchV s).s.size < 4611686018427387904 := by
  have h1 := fixV_size (fixR (fixR (fixR (some s) 1) 1) 2) (numV (fixR (fixR (some s) 1) 1) 2)
  have h2 := numV_lt (fixR (fixR (some s) 1) 1) 2
  unfold patchV
  split
  · unfold rdPatch
    split
    · exact (by decide : (0 : Nat) < 4611686018427387904)
    · show (textV _).size < _
      unfold textV
      omega
  · exact (by decide : (0 : Nat) < 4611686018427387904)
/-- A value behind a patch; is it there then? -/
def patS (key value v : ByteArray) (there : Bool) : ByteArray :=
  if first key = 100 then blkApply v (patchV value) else if there = true ∧ metaE v = 0 then ((metaV v).change (changeV value)).text else v
def patB (key value v : ByteArray) (there : Bool) : Bool :=
  if first key = 100 then !emp (blkApply v (patchV value)) else if there = true ∧ metaE v = 0 then true else there
/-- What a message makes of a key. -/
def wasS (v : ByteArray) (there : Bool) : ByteArray := if there then v else ⟨#[]⟩
def PMsg.makesS (m : PMsg) (k v : ByteArray) (there : Bool) : ByteArray :=
  if m.touches k = false then wasS v there else if m.op = 1 then m.value else if m.op = 4 then patS m.key m.value (wasS v there) there else ⟨#[]⟩
def PMsg.makesB (m : PMsg) (k v : ByteArray) (there : Bool) : Bool :=
  if m.touches k = false then there else if m.op = 1 then true else if m.op = 4 then patB m.key m.value (wasS v there) there else false
end Go.Proofs.YtmggpfngbkbkmaaGreatDoor
