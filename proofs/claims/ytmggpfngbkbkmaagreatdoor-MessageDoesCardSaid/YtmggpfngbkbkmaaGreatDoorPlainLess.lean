/- Plain: the order of texts. No program in sight. -/
import Derived.Test.YtmggpfngbkbkmaaGreatDoorPlainMsg4
namespace Go.Proofs.YtmggpfngbkbkmaaGreatDoor
open Go.RowKit
set_option linter.unusedVariables false
set_option linter.unusedSimpArgs false

theorem bl_irrefl (x : List UInt8) : Op.bytesLess x x = false := by
  induction x with
  | nil => rfl
  | cons a x ih => simp [Op.bytesLess, ih]
theorem bl_trans : ∀ x y z : List UInt8, Op.bytesLess x y = true → Op.bytesLess y z = true → Op.bytesLess x z = true
  | x, y, [] => fun _ h => by simp [Op.bytesLess] at h
  | [], y, c :: z => fun _ _ => rfl
  | a :: x, [], c :: z => fun h _ => by simp [Op.bytesLess] at h
  | a :: x, b :: y, c :: z => fun h h2 => by
    simp only [Op.bytesLess, Bool.or_eq_true, decide_eq_true_eq, Bool.and_eq_true, beq_iff_eq] at h h2 ⊢
    rcases h with h | ⟨rfl, h⟩
    · rcases h2 with h2 | ⟨rfl, h2⟩
      · exact .inl (UInt8.lt_trans h h2)
      · exact .inl h
    · rcases h2 with h2 | ⟨rfl, h2⟩
      · exact .inl h2
      · exact .inr ⟨rfl, bl_trans x y z h h2⟩
theorem bl_total : ∀ x y : List UInt8, Op.bytesLess x y = false → Op.bytesLess y x = false → x = y
  | [], [] => fun _ _ => rfl
  | [], b :: y => fun h _ => by simp [Op.bytesLess] at h
  | a :: x, [] => fun _ h => by simp [Op.bytesLess] at h
  | a :: x, b :: y => fun h h2 => by
    simp only [Op.bytesLess, Bool.or_eq_false_iff, decide_eq_false_iff_not] at h h2
    obtain ⟨h, h3⟩ := h
    obtain ⟨h2, h4⟩ := h2
    have hab : a = b := UInt8.le_antisymm (UInt8.not_lt.1 h2) (UInt8.not_lt.1 h)
    subst hab
    simp at h3 h4
    rw [bl_total x y h3 h4]
theorem bl_gt (x y : List UInt8) : (!Op.bytesLess x y && !(x == y)) = Op.bytesLess y x := by
  cases h : Op.bytesLess x y
  · cases h2 : Op.bytesLess y x
    · have := bl_total x y h h2
      subst this
      simp
    · have : x ≠ y := by
        intro e; subst e; rw [h] at h2; exact absurd h2 (by decide)
      simp [this]
  · cases h2 : Op.bytesLess y x
    · rfl
    · have := bl_trans x y x h h2
      rw [bl_irrefl] at this
      exact absurd this (by decide)
theorem tl_inj {a b : ByteArray} (h : a.toList = b.toList) : a = b := by
  rw [ByteArray.toList_eq, ByteArray.toList_eq] at h
  cases a; cases b
  simp at h
  rw [h]
theorem less_irrefl (a : ByteArray) : less a a = false := bl_irrefl _
theorem less_trans {a b c : ByteArray} (h : less a b = true) (k : less b c = true) : less a c = true := bl_trans _ _ _ h k
theorem less_total {a b : ByteArray} (h : less a b = false) (k : less b a = false) : a = b := tl_inj (bl_total _ _ h k)
theorem less_ne {a b : ByteArray} (h : less a b = true) : a ≠ b := by
  intro e; subst e; rw [less_irrefl] at h; exact absurd h (by decide)
theorem less_asymm {a b : ByteArray} (h : less a b = true) : less b a = false := by
  cases k : less b a
  · rfl
  · have := less_trans h k
    rw [less_irrefl] at this
    exact absurd this (by decide)
/-- Not below, and below: from 'a ≤ b' and 'b < c'. -/
theorem le_less {a b c : ByteArray} (h : less b a = false) (k : less b c = true) : less a c = true := by
  cases h2 : less a b
  · rw [less_total h2 h]; exact k
  · exact less_trans h2 k
theorem less_le {a b c : ByteArray} (h : less a b = true) (k : less c b = false) : less a c = true := by
  cases h2 : less b c
  · rw [← less_total h2 k]; exact h
  · exact less_trans h h2
theorem le_trans' {a b c : ByteArray} (h : less b a = false) (k : less c b = false) : less c a = false := by
  cases h2 : less c a
  · rfl
  · have := less_le h2 h
    rw [this] at k; exact absurd k (by decide)
theorem less_bl (a b : ByteArray) : less a b = Op.bytesLess a.toList b.toList := rfl
theorem maxS_less (a b : ByteArray) : Lib.maxS a b = if less a b then b else a := by
  unfold Lib.maxS
  rw [less_bl, Proofs.bytesLess_eq, Lib.toList_data, Lib.toList_data]
  by_cases h : a.data.toList < b.data.toList <;> simp [h]
theorem minS_less (a b : ByteArray) : Lib.minS a b = if less b a then b else a := by
  unfold Lib.minS
  have e : (a.data.toList = b.data.toList) ↔ a = b := by
    constructor
    · intro h; apply tl_inj; rw [Lib.toList_data, Lib.toList_data, h]
    · rintro rfl; rfl
  have e2 : (a.data.toList < b.data.toList) ↔ less a b = true := by
    rw [less_bl, Proofs.bytesLess_eq, Lib.toList_data, Lib.toList_data]; simp
  simp only [e, e2]
  cases h : less b a
  · by_cases h2 : less a b = true
    · rw [if_pos (.inl h2)]; simp
    · rw [if_pos (.inr (less_total (by simpa using h2) h))]; simp
  · rw [if_neg]
    · simp
    · rintro (h2 | rfl)
      · rw [less_asymm h] at h2; exact absurd h2 (by decide)
      · rw [less_irrefl] at h; exact absurd h (by decide)
end Go.Proofs.YtmggpfngbkbkmaaGreatDoor
