/- Plain: what a message makes of a value. No program in sight. -/
import Derived.Test.YtmggpfngbkbkmaaGreatDoorR0
import Derived.Laws.FloatBits
namespace Go.Proofs.YtmggpfngbkbkmaaGreatDoor
open Go.RowKit
set_option linter.unusedVariables false
set_option linter.unusedSimpArgs false

def PMsg.err (m : PMsg) : Int := if m.may then 0 else 4
/-- Does a message that may be touch a key? -/
def PMsg.hits (m : PMsg) (k : ByteArray) : Bool := if m.op == 3 then !less k m.key && less k m.til else k.toList == m.key.toList
def PMsg.touches (m : PMsg) (k : ByteArray) : Bool := m.may && m.hits k
theorem quietN_lt {x : Nat} (h : x < 18446744073709551616) : quietN x < 18446744073709551616 := by
  unfold quietN; split <;> omega
theorem stepN_lt {x y : Nat} (op : Int) (hx : x < 18446744073709551616) (hy : y < 18446744073709551616) : stepN x op y < 18446744073709551616 := by
  have e : (2 : Nat) ^ FloatKind.f64.format.width = 18446744073709551616 := by decide
  have ha : qAdd x y < 18446744073709551616 := by
    unfold qAdd
    split
    · rename_i r h
      exact quietN_lt (e ▸ Ieee.Format.add_lt _ h)
    · omega
  have hb : qMul x y < 18446744073709551616 := by
    unfold qMul
    split
    · rename_i r h
      exact quietN_lt (e ▸ Ieee.Format.mul_lt _ h)
    · omega
  have h1 := quietN_lt hx
  have h2 := quietN_lt hy
  unfold stepN
  repeat (first | assumption | omega | split)
theorem metaV_wf (s : ByteArray) : (metaV s).wf := by
  unfold metaV
  split
  · exact rdMeta_wf s
  · exact ⟨by decide, by decide, by decide, by decide⟩
theorem rdChange_wf (s : ByteArray) : (rdChange s).wf := by
  have h1 := numV_lt (some s) 1
  have h2 := numV_lt (fixR (some s) 1) 1
  have h3 := numV_lt (fixR (fixR (some s) 1) 1) 8
  have h4 := numV_lt (fixR (some s) 1) 8
  have h5 := numV_lt (fixR (some s) 1) 4
  unfold rdChange
  have h6 : rdWhat s < 256 ^ 1 := h1
  split
  · exact ⟨⟨by simp, by simp only; omega⟩, ⟨by simp, by simp⟩, ⟨by simp, by simp only; omega⟩, ⟨by simp, by simp only; omega⟩⟩
  · split
    · exact ⟨⟨by simp, by simp only; omega⟩, ⟨by simp, by simp only; omega⟩, ⟨by simp, by simp⟩, ⟨by simp, by simp⟩⟩
    · exact ⟨⟨by simp, by simp only; omega⟩, ⟨by simp, by simp only; omega⟩, ⟨by simp, by simp⟩, ⟨by simp, by simp⟩⟩
theorem changeV_wf (s : ByteArray) : (changeV s).wf := by
  unfold changeV
  split
  · exact rdChange_wf s
  · exact ⟨by decide, by decide, by decide, by decide⟩
theorem change_wf {m : PMeta} {c : PChange} (hm : m.wf) (hc : c.wf) : (m.change c).wf := by
  unfold PMeta.change
  by_cases h : m.may = false ∨ c.may = false
  · rw [if_pos h]; exact hm
  · rw [if_neg h]
    have hy : c.may = true := by
      cases hh : c.may
      · exact absurd (.inr hh) h
      · rfl
    clear h
    obtain ⟨k, s, mk, st⟩ := m
    obtain ⟨a, n, o, b⟩ := c
    obtain ⟨hk, hs, hmk, hst⟩ := hm
    obtain ⟨ha, hn, ho, hb⟩ := hc
    simp only at hk hs hmk hst ha hn ho hb ⊢
    have hst' := stepN_lt (x := mk.toNat) (y := b.toNat) o (by omega) (by omega)
    unfold PChange.may at hy
    simp only at hy
    by_cases h1 : a = 1
    · rw [if_pos (.inl h1)] at hy
      simp at hy
      rw [if_pos h1]
      split
      · exact ⟨hk, ⟨by simp only; omega, by simp only; omega⟩, hmk, hst⟩
      · exact ⟨hk, hs, hmk, hst⟩
    · rw [if_neg h1]
      by_cases h2 : a = 2
      · rw [if_pos (.inr h2)] at hy
        simp at hy
        rw [if_pos h2]
        split
        · exact ⟨hk, ⟨by simp only; omega, by simp only; omega⟩, hmk, hst⟩
        · exact ⟨hk, hs, hmk, hst⟩
      · rw [if_neg h2]
        split
        · exact ⟨hk, hs, ⟨by simp only; omega, by simp only; omega⟩, hst⟩
        · exact ⟨hk, hs, hmk, hn⟩
theorem patchV_size (s : ByteArray) : (patchV s).s.size < 4611686018427387904 := by
  have h1 := fixV_size (fixR (fixR (fixR (some s) 1) 1) 2) (numV (fixR (fixR (some s) 1) 1) 2)
  have h2 := numV_lt (fixR (fixR (some s) 1) 1) 2
  unfold patchV
  split
  · unfold rdPatch
    split
    · exact (by decide : (0 : Nat) < 4611686018427387904)
    · show (textV _).size < _
      unfold textV
      omega
  · exact (by decide : (0 : Nat) < 4611686018427387904)
/-- A value behind a patch; is it there then? -/
def patS (key value v : ByteArray) (there : Bool) : ByteArray :=
  if first key = 100 then blkApply v (patchV value) else if there = true ∧ metaE v = 0 then ((metaV v).change (changeV value)).text else v
def patB (key value v : ByteArray) (there : Bool) : Bool :=
  if first key = 100 then !emp (blkApply v (patchV value)) else if there = true ∧ metaE v = 0 then true else there
/-- What a message makes of a key. -/
def wasS (v : ByteArray) (there : Bool) : ByteArray := if there then v else ⟨#[]⟩
def PMsg.makesS (m : PMsg) (k v : ByteArray) (there : Bool) : ByteArray :=
  if m.touches k = false then wasS v there else if m.op = 1 then m.value else if m.op = 4 then patS m.key m.value (wasS v there) there else ⟨#[]⟩
def PMsg.makesB (m : PMsg) (k v : ByteArray) (there : Bool) : Bool :=
  if m.touches k = false then there else if m.op = 1 then true else if m.op = 4 then patB m.key m.value (wasS v there) there else false
end Go.Proofs.YtmggpfngbkbkmaaGreatDoor
/- Plain: a message's text, and how long its parts are. No program in sight. -/
namespace Go.Proofs.YtmggpfngbkbkmaaGreatDoor
open Go.RowKit
set_option linter.unusedVariables false
set_option linter.unusedSimpArgs false

def txt (s : ByteArray) : List UInt8 := numBytes s.size 2 ++ s.data.toList
def PMsg.bytes (m : PMsg) : List UInt8 := numBytes m.op.toNat 1 ++ (txt m.key ++ (if m.op = 3 then txt m.til else if m.op = 1 ∨ m.op = 4 then txt m.value else []))
def PMsg.text (m : PMsg) : ByteArray := if m.may then ⟨m.bytes.toArray⟩ else ⟨#[]⟩
theorem fixR_some {r : Option ByteArray} {n : Nat} {t : ByteArray} (h : fixR r n = some t) : ∃ s, r = some s ∧ s.size = n + t.size := by
  cases r with
  | none => exact absurd h (by simp [fixR])
  | some s =>
    refine ⟨s, rfl, ?_⟩
    unfold fixR at h
    by_cases hn : n ≤ s.size
    · simp only [if_pos hn, Option.some.injEq] at h
      subst h
      simp; omega
    · simp [if_neg hn] at h
theorem whole_some {r : Option ByteArray} (h : wholeE r = 0) : ∃ t, r = some t ∧ t.size = 0 := by
  cases r with
  | none => exact absurd h (by simp [wholeE])
  | some s =>
    refine ⟨s, rfl, ?_⟩
    unfold wholeE at h
    by_cases hn : s.size = 0
    · exact hn
    · simp only [if_neg hn] at h; exact absurd h (by decide)
theorem metaE_size {s : ByteArray} (h : metaE s = 0) : s.size = 21 := by
  have hw : wholeE (rdMetaR s) = 0 := by
    unfold metaE at h
    by_cases hw : wholeE (rdMetaR s) = 0
    · exact hw
    · rw [if_neg hw] at h; exact absurd h hw
  obtain ⟨t, ht, h0⟩ := whole_some hw
  unfold rdMetaR at ht
  obtain ⟨a, ha, h1⟩ := fixR_some ht
  obtain ⟨b, hb, h2⟩ := fixR_some ha
  obtain ⟨c, hc, h3⟩ := fixR_some hb
  obtain ⟨d, hd, h4⟩ := fixR_some hc
  injection hd with hd
  subst hd
  omega
theorem changeE_size {s : ByteArray} (h : changeE s = 0) : s.size ≤ 10 := by
  have hw : wholeE (rdChangeR s) = 0 := by
    unfold changeE at h
    by_cases h1 : s.size = 0
    · rw [if_pos h1] at h; exact absurd h (by decide)
    · rw [if_neg h1] at h
      by_cases h2 : rdWhat s = 0 ∨ 4 < rdWhat s
      · rw [if_pos h2] at h; exact absurd h (by decide)
      · rw [if_neg h2] at h
        by_cases h3 : wholeE (rdChangeR s) = 0
        · exact h3
        · rw [if_neg h3] at h; exact h
  obtain ⟨t, ht, h0⟩ := whole_some hw
  unfold rdChangeR at ht
  by_cases h3 : rdWhat s = 3
  · rw [if_pos h3] at ht
    obtain ⟨a, ha, h1⟩ := fixR_some ht
    obtain ⟨b, hb, h2⟩ := fixR_some ha
    obtain ⟨c, hc, h3⟩ := fixR_some hb
    injection hc with hc
    subst hc
    omega
  · rw [if_neg h3] at ht
    by_cases h4 : rdWhat s = 4
    · rw [if_pos h4] at ht
      obtain ⟨a, ha, h1⟩ := fixR_some ht
      obtain ⟨b, hb, h2⟩ := fixR_some ha
      injection hb with hb
      subst hb
      omega
    · rw [if_neg h4] at ht
      obtain ⟨a, ha, h1⟩ := fixR_some ht
      obtain ⟨b, hb, h2⟩ := fixR_some ha
      injection hb with hb
      subst hb
      omega
theorem patchE_size {s : ByteArray} (h : patchE s = 0) : s.size < 65540 := by
  have hw : wholeE (rdPatchR s) = 0 := by
    unfold patchE at h
    by_cases h1 : s.size = 0
    · rw [if_pos h1] at h; exact absurd h (by decide)
    · rw [if_neg h1] at h
      by_cases h2 : numV (some s) 1 ≠ 1 ∧ numV (some s) 1 ≠ 2
      · rw [if_pos h2] at h; exact absurd h (by decide)
      · rw [if_neg h2] at h
        by_cases h3 : rdPatchR s = none
        · rw [if_pos h3] at h; exact absurd h (by decide)
        · rw [if_neg h3] at h
          by_cases h4 : wholeE (rdPatchR s) = 0 ∧ (rdPatch s).may = true
          · exact h4.1
          · rw [if_neg h4] at h; exact absurd h (by decide)
  obtain ⟨t, ht, h0⟩ := whole_some hw
  unfold rdPatchR at ht
  by_cases h3 : numV (some s) 1 = 2
  · rw [if_pos h3] at ht
    obtain ⟨a, ha, h1⟩ := fixR_some ht
    obtain ⟨b, hb, h2⟩ := fixR_some ha
    injection hb with hb
    subst hb
    omega
  · rw [if_neg h3] at ht
    unfold textR at ht
    have h5 := numV_lt (fixR (fixR (some s) 1) 1) 2
    obtain ⟨a, ha, h1⟩ := fixR_some ht
    obtain ⟨b, hb, h2⟩ := fixR_some ha
    obtain ⟨c, hc, h3⟩ := fixR_some hb
    obtain ⟨d, hd, h4⟩ := fixR_some hc
    injection hd with hd
    subst hd
    omega
theorem patchE_small {s : ByteArray} (h : patchE s = 0) : s.size ≤ 68 := by
  have hm : wholeE (rdPatchR s) = 0 ∧ (rdPatch s).may = true := by
    unfold patchE at h
    by_cases h1 : s.size = 0
    · rw [if_pos h1] at h; exact absurd h (by decide)
    · rw [if_neg h1] at h
      by_cases h2 : numV (some s) 1 ≠ 1 ∧ numV (some s) 1 ≠ 2
      · rw [if_pos h2] at h; exact absurd h (by decide)
      · rw [if_neg h2] at h
        by_cases h3 : rdPatchR s = none
        · rw [if_pos h3] at h; exact absurd h (by decide)
        · rw [if_neg h3] at h
          by_cases h4 : wholeE (rdPatchR s) = 0 ∧ (rdPatch s).may = true
          · exact h4
          · rw [if_neg h4] at h; exact absurd h (by decide)
  obtain ⟨hw, hy⟩ := hm
  obtain ⟨t, ht, h0⟩ := whole_some hw
  unfold rdPatchR at ht
  unfold rdPatch at hy
  by_cases h3 : numV (some s) 1 = 2
  · rw [if_pos h3] at ht
    obtain ⟨a, ha, h1⟩ := fixR_some ht
    obtain ⟨b, hb, h2⟩ := fixR_some ha
    injection hb with hb
    subst hb
    omega
  · rw [if_neg h3] at ht hy
    unfold PPatch.may at hy
    simp only [Bool.false_eq_true, if_false, Bool.and_eq_true, decide_eq_true_eq] at hy
    have hz := hy.1.1.1.2
    unfold textR at ht
    obtain ⟨a, ha, h1⟩ := fixR_some ht
    have hv : (textV (fixR (fixR (some s) 1) 1)).size = numV (fixR (fixR (some s) 1) 1) 2 := by
      unfold textV
      rw [ha]
      simp only [fixV]
      rw [if_pos (by omega)]
      simp; omega
    obtain ⟨b, hb, h2⟩ := fixR_some ha
    obtain ⟨c, hc, h3⟩ := fixR_some hb
    obtain ⟨d, hd, h4⟩ := fixR_some hc
    injection hd with hd
    subst hd
    omega
theorem blkCheck_size {s : ByteArray} (h : blkCheck s = 0) : s.size ≤ 64 := by
  unfold blkCheck at h
  by_cases hc : s.size = 0 ∨ 64 < s.size ∨ s.data.toList.getLast? = some 0
  · rw [if_pos hc] at h; exact absurd h (by decide)
  · omega
theorem valueOk_size {k v : ByteArray} (h : valueOk k v = true) : v.size ≤ 64 := by
  unfold valueOk at h
  by_cases h1 : first k = 109
  · rw [if_pos h1] at h
    have := metaE_size (beq_iff_eq.1 h)
    omega
  · rw [if_neg h1] at h
    by_cases h2 : first k = 100
    · rw [if_pos h2] at h
      exact blkCheck_size (beq_iff_eq.1 h)
    · rw [if_neg h2] at h
      exact of_decide_eq_true h
theorem patchOk_size {k v : ByteArray} (h : patchOk k v = true) : v.size ≤ 68 := by
  unfold patchOk at h
  by_cases h1 : first k = 109
  · rw [if_pos h1] at h
    have := changeE_size (beq_iff_eq.1 h)
    omega
  · rw [if_neg h1] at h
    by_cases h2 : first k = 100
    · rw [if_pos h2] at h
      exact patchE_small (beq_iff_eq.1 h)
    · rw [if_neg h2] at h
      exact absurd h (by decide)
theorem keyOk_size {k : ByteArray} (h : keyOk k = true) : 0 < k.size ∧ k.size ≤ 108 := by
  unfold keyOk at h
  rw [Bool.and_eq_true, decide_eq_true_eq, decide_eq_true_eq] at h
  omega
theorem emp_iff (s : ByteArray) : emp s = true ↔ s.size = 0 := by
  unfold emp
  rw [List.isEmpty_iff]
  rw [ByteArray.toList_eq]
  constructor
  · intro h; have : s.data.toList.length = 0 := by rw [h]; rfl
    simpa using this
  · intro h; exact List.eq_nil_of_length_eq_zero (by simpa using h)
/-- What a message that may be is. -/
theorem may_parts {m : PMsg} (h : m.may = true) : (m.key.size ≤ 108 ∧ 0 < m.key.size) ∧ m.til.size ≤ 108 ∧ m.value.size ≤ 68 ∧ (m.op = 1 ∨ m.op = 2 ∨ m.op = 3 ∨ m.op = 4) := by
  unfold PMsg.may at h
  rw [Bool.and_eq_true] at h
  obtain ⟨h1, h2⟩ := h
  have hk := keyOk_size h1
  refine ⟨⟨hk.2, hk.1⟩, ?_⟩
  by_cases o1 : m.op = 1
  · rw [if_pos (beq_iff_eq.2 o1), Bool.and_eq_true] at h2
    have := (emp_iff _).1 h2.1
    have := valueOk_size h2.2
    omega
  · rw [if_neg (by simpa using o1)] at h2
    by_cases o4 : m.op = 4
    · rw [if_pos (beq_iff_eq.2 o4), Bool.and_eq_true] at h2
      have := (emp_iff _).1 h2.1
      have := patchOk_size h2.2
      omega
    · rw [if_neg (by simpa using o4)] at h2
      by_cases o2 : m.op = 2
      · rw [if_pos (beq_iff_eq.2 o2), Bool.and_eq_true] at h2
        have := (emp_iff _).1 h2.1
        have := (emp_iff _).1 h2.2
        omega
      · rw [if_neg (by simpa using o2)] at h2
        by_cases o3 : m.op = 3
        · rw [if_pos (beq_iff_eq.2 o3), Bool.and_eq_true, Bool.and_eq_true] at h2
          have := (emp_iff _).1 h2.1
          have := keyOk_size h2.2.1
          omega
        · rw [if_neg (by simpa using o3)] at h2
          exact absurd h2 (by decide)
end Go.Proofs.YtmggpfngbkbkmaaGreatDoor
