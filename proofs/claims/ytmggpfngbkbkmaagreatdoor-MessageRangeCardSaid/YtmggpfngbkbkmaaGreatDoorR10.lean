/- Plain: what of a message lies in a range. No program in sight. -/
import Derived.Test.YtmggpfngbkbkmaaGreatDoorR8
import Derived.Lib.MinMaxS
namespace Go.Proofs.YtmggpfngbkbkmaaGreatDoor
open Go.RowKit
set_option linter.unusedVariables false
set_option linter.unusedSimpArgs false

def PMsg.zero : PMsg := ⟨0, ⟨#[]⟩, ⟨#[]⟩, ⟨#[]⟩⟩
def PMsg.cut (m : PMsg) (fr tt : ByteArray) : PMsg := if m.op == 3 then ⟨3, Lib.maxS m.key fr, if emp tt then m.til else Lib.minS m.til tt, m.value⟩ else m
def PMsg.lies (m : PMsg) (fr tt : ByteArray) : Bool := m.may && (if m.op == 3 then less (m.cut fr tt).key (m.cut fr tt).til else !less m.key fr && (emp tt || less m.key tt))
def PMsg.part (m : PMsg) (fr tt : ByteArray) : PMsg := if m.lies fr tt then m.cut fr tt else PMsg.zero
end Go.Proofs.YtmggpfngbkbkmaaGreatDoor
/- Plain: the order of texts. No program in sight. -/
namespace Go.Proofs.YtmggpfngbkbkmaaGreatDoor
open Go.RowKit
set_option linter.unusedVariables false
set_option linter.unusedSimpArgs false

theorem bl_irrefl (x : List UInt8) : Op.bytesLess x x = false := by
  induction x with
  | nil => rfl
  | cons a x ih => simp [Op.bytesLess, ih]
theorem bl_trans : ∀ x y z : List UInt8, Op.bytesLess x y = true → Op.bytesLess y z = true → Op.bytesLess x z = true
  | x, y, [] => fun _ h => by simp [Op.bytesLess] at h
  | [], y, c :: z => fun _ _ => rfl
  | a :: x, [], c :: z => fun h _ => by simp [Op.bytesLess] at h
  | a :: x, b :: y, c :: z => fun h h2 => by
    simp only [Op.bytesLess, Bool.or_eq_true, decide_eq_true_eq, Bool.and_eq_true, beq_iff_eq] at h h2 ⊢
    rcases h with h | ⟨rfl, h⟩
    · rcases h2 with h2 | ⟨rfl, h2⟩
      · exact .inl (UInt8.lt_trans h h2)
      · exact .inl h
    · rcases h2 with h2 | ⟨rfl, h2⟩
      · exact .inl h2
      · exact .inr ⟨rfl, bl_trans x y z h h2⟩
theorem bl_total : ∀ x y : List UInt8, Op.bytesLess x y = false → Op.bytesLess y x = false → x = y
  | [], [] => fun _ _ => rfl
  | [], b :: y => fun h _ => by simp [Op.bytesLess] at h
  | a :: x, [] => fun _ h => by simp [Op.bytesLess] at h
  | a :: x, b :: y => fun h h2 => by
    simp only [Op.bytesLess, Bool.or_eq_false_iff, decide_eq_false_iff_not] at h h2
    obtain ⟨h, h3⟩ := h
    obtain ⟨h2, h4⟩ := h2
    have hab : a = b := UInt8.le_antisymm (UInt8.not_lt.1 h2) (UInt8.not_lt.1 h)
    subst hab
    simp at h3 h4
    rw [bl_total x y h3 h4]
theorem bl_gt (x y : List UInt8) : (!Op.bytesLess x y && !(x == y)) = Op.bytesLess y x := by
  cases h : Op.bytesLess x y
  · cases h2 : Op.bytesLess y x
    · have := bl_total x y h h2
      subst this
      simp
    · have : x ≠ y := by
        intro e; subst e; rw [h] at h2; exact absurd h2 (by decide)
      simp [this]
  · cases h2 : Op.bytesLess y x
    · rfl
    · have := bl_trans x y x h h2
      rw [bl_irrefl] at this
      exact absurd this (by decide)
theorem tl_inj {a b : ByteArray} (h : a.toList = b.toList) : a = b := by
  rw [ByteArray.toList_eq, ByteArray.toList_eq] at h
  cases a; cases b
  simp at h
  rw [h]
theorem less_irrefl (a : ByteArray) : less a a = false := bl_irrefl _
theorem less_trans {a b c : ByteArray} (h : less a b = true) (k : less b c = true) : less a c = true := bl_trans _ _ _ h k
theorem less_total {a b : ByteArray} (h : less a b = false) (k : less b a = false) : a = b := tl_inj (bl_total _ _ h k)
theorem less_ne {a b : ByteArray} (h : less a b = true) : a ≠ b := by
  intro e; subst e; rw [less_irrefl] at h; exact absurd h (by decide)
theorem less_asymm {a b : ByteArray} (h : less a b = true) : less b a = false := by
  cases k : less b a
  · rfl
  · have := less_trans h k
    rw [less_irrefl] at this
    exact absurd this (by decide)
/-- Not below, and below: from 'a ≤ b' and 'b < c'. -/
theorem le_less {a b c : ByteArray} (h : less b a = false) (k : less b c = true) : less a c = true := by
  cases h2 : less a b
  · rw [less_total h2 h]; exact k
  · exact less_trans h2 k
theorem less_le {a b c : ByteArray} (h : less a b = true) (k : less c b = false) : less a c = true := by
  cases h2 : less b c
  · rw [← less_total h2 k]; exact h
  · exact less_trans h h2
theorem le_trans' {a b c : ByteArray} (h : less b a = false) (k : less c b = false) : less c a = false := by
  cases h2 : less c a
  · rfl
  · have := less_le h2 h
    rw [this] at k; exact absurd k (by decide)
theorem less_bl (a b : ByteArray) : less a b = Op.bytesLess a.toList b.toList := rfl
theorem maxS_less (a b : ByteArray) : Lib.maxS a b = if less a b then b else a := by
  unfold Lib.maxS
  rw [less_bl, Proofs.bytesLess_eq, Lib.toList_data, Lib.toList_data]
  by_cases h : a.data.toList < b.data.toList <;> simp [h]
theorem minS_less (a b : ByteArray) : Lib.minS a b = if less b a then b else a := by
  unfold Lib.minS
  have e : (a.data.toList = b.data.toList) ↔ a = b := by
    constructor
    · intro h; apply tl_inj; rw [Lib.toList_data, Lib.toList_data, h]
    · rintro rfl; rfl
  have e2 : (a.data.toList < b.data.toList) ↔ less a b = true := by
    rw [less_bl, Proofs.bytesLess_eq, Lib.toList_data, Lib.toList_data]; simp
  simp only [e, e2]
  cases h : less b a
  · by_cases h2 : less a b = true
    · rw [if_pos (.inl h2)]; simp
    · rw [if_pos (.inr (less_total (by simpa using h2) h))]; simp
  · rw [if_neg]
    · simp
    · rintro (h2 | rfl)
      · rw [less_asymm h] at h2; exact absurd h2 (by decide)
      · rw [less_irrefl] at h; exact absurd h (by decide)
end Go.Proofs.YtmggpfngbkbkmaaGreatDoor
/- Plain: the chapter's examples. No program in sight. -/
namespace Go.Proofs.YtmggpfngbkbkmaaGreatDoor
open Go.RowKit
set_option linter.unusedVariables false
set_option linter.unusedSimpArgs false

theorem less_data (a b : ByteArray) : less a b = Op.bytesLess a.data.toList b.data.toList := by rw [less_bl, Lib.toList_data, Lib.toList_data]
theorem emp_data (a : ByteArray) : emp a = a.data.toList.isEmpty := by unfold emp; rw [Lib.toList_data]
theorem aw1 : PMsg.may ⟨1, ⟨#[120]⟩, ⟨#[]⟩, ⟨#[49]⟩⟩ = true := by
  unfold PMsg.may; simp only [emp_data]; decide
theorem aw1t : PMsg.text ⟨1, ⟨#[120]⟩, ⟨#[]⟩, ⟨#[49]⟩⟩ = ⟨#[1, 0, 1, 120, 0, 1, 49]⟩ := by
  unfold PMsg.text; rw [aw1]; decide
theorem aw2 : PMsg.may ⟨3, ⟨#[98]⟩, ⟨#[97]⟩, ⟨#[]⟩⟩ = false := by
  unfold PMsg.may; simp only [emp_data, less_data]; decide
theorem aw3 : PMsg.may ⟨3, ⟨#[97]⟩, ⟨#[122]⟩, ⟨#[]⟩⟩ = true := by
  unfold PMsg.may; simp only [emp_data, less_data]; decide
theorem aw4 : PMsg.may ⟨3, ⟨#[97]⟩, ⟨#[99]⟩, ⟨#[]⟩⟩ = true := by
  unfold PMsg.may; simp only [emp_data, less_data]; decide
theorem aw1h : PMsg.touches ⟨1, ⟨#[120]⟩, ⟨#[]⟩, ⟨#[49]⟩⟩ ⟨#[120]⟩ = true := by
  unfold PMsg.touches PMsg.hits; simp only [aw1, Lib.toList_data]; decide
theorem aw3h : PMsg.touches ⟨3, ⟨#[97]⟩, ⟨#[122]⟩, ⟨#[]⟩⟩ ⟨#[120]⟩ = true := by
  unfold PMsg.touches PMsg.hits; simp only [aw3, less_data]; decide
theorem aw4h : PMsg.touches ⟨3, ⟨#[97]⟩, ⟨#[99]⟩, ⟨#[]⟩⟩ ⟨#[98]⟩ = true := by
  unfold PMsg.touches PMsg.hits; simp only [aw4, less_data]; decide
theorem aw1s : PMsg.makesS ⟨1, ⟨#[120]⟩, ⟨#[]⟩, ⟨#[49]⟩⟩ ⟨#[120]⟩ ⟨#[]⟩ false = ⟨#[49]⟩ := by
  unfold PMsg.makesS; rw [aw1h]; rfl
theorem aw1b : PMsg.makesB ⟨1, ⟨#[120]⟩, ⟨#[]⟩, ⟨#[49]⟩⟩ ⟨#[120]⟩ ⟨#[]⟩ false = true := by
  unfold PMsg.makesB; rw [aw1h]; rfl
theorem aw3s : PMsg.makesS ⟨3, ⟨#[97]⟩, ⟨#[122]⟩, ⟨#[]⟩⟩ ⟨#[120]⟩ ⟨#[49]⟩ true = ⟨#[]⟩ := by
  unfold PMsg.makesS; rw [aw3h]; rfl
theorem aw3b : PMsg.makesB ⟨3, ⟨#[97]⟩, ⟨#[122]⟩, ⟨#[]⟩⟩ ⟨#[120]⟩ ⟨#[49]⟩ true = false := by
  unfold PMsg.makesB; rw [aw3h]; rfl
end Go.Proofs.YtmggpfngbkbkmaaGreatDoor
/- Plain: what a part touches, and makes. No program in sight. -/
namespace Go.Proofs.YtmggpfngbkbkmaaGreatDoor
open Go.RowKit
set_option linter.unusedVariables false
set_option linter.unusedSimpArgs false

def inR (k fr tt : ByteArray) : Bool := !less k fr && (emp tt || less k tt)
theorem zero_touches (k : ByteArray) : PMsg.zero.touches k = false := rfl
theorem empty_less (k : ByteArray) : less k ⟨#[]⟩ = false := by
  cases h : less k ⟨#[]⟩
  · rfl
  · rw [less_bl, Lib.toList_data, Lib.toList_data] at h
    cases hk : k.data.toList <;> simp [hk, Op.bytesLess] at h
theorem size_of_less {a b : ByteArray} (h : less a b = true) : b.size ≠ 0 := by
  intro h0
  have : b = ⟨#[]⟩ := by
    cases b with | mk d => cases d with | mk l => cases l with
      | nil => rfl
      | cons x r => exact absurd h0 (by show ¬ (x :: r).length = 0; simp)
  rw [this, empty_less] at h
  exact absurd h (by decide)
theorem keyOk_iff (k : ByteArray) : keyOk k = true ↔ 0 < k.size ∧ k.size ≤ 108 := by
  unfold keyOk
  rw [Bool.and_eq_true, decide_eq_true_eq, decide_eq_true_eq]
  omega
/-- What a clearing message is. -/
theorem may3 {m : PMsg} (h : m.may = true) (ho : m.op = 3) : m.value.size = 0 ∧ keyOk m.key = true ∧ keyOk m.til = true ∧ less m.key m.til = true := by
  unfold PMsg.may at h
  rw [ho] at h
  rw [Bool.and_eq_true] at h
  obtain ⟨h1, h2⟩ := h
  rw [if_neg (by decide), if_neg (by decide), if_neg (by decide), if_pos (by decide), Bool.and_eq_true, Bool.and_eq_true] at h2
  exact ⟨(emp_iff _).1 h2.1, h1, h2.2.1, h2.2.2⟩
theorem may3_mk {key too value : ByteArray} (h1 : keyOk key = true) (h2 : keyOk too = true) (h3 : less key too = true) (h4 : value.size = 0) : PMsg.may ⟨3, key, too, value⟩ = true := by
  have e : PMsg.may ⟨3, key, too, value⟩ = (keyOk key && (emp value && (keyOk too && less key too))) := rfl
  rw [e, h1, h2, h3, (emp_iff _).2 h4]
  rfl
theorem less_max (k a b : ByteArray) : less k (Lib.maxS a b) = (less k a || less k b) := by
  rw [maxS_less]
  cases h : less a b
  · cases h1 : less k a
    · cases h2 : less k b
      · simp [h1]
      · have := le_less (a := k) (b := a) (c := b)
        exfalso
        have h3 := less_le h2 h
        rw [h1] at h3; exact absurd h3 (by decide)
    · simp [h1]
  · cases h1 : less k a
    · simp
    · simp [less_trans h1 h]
theorem less_min (k a b : ByteArray) : less k (Lib.minS a b) = (less k a && less k b) := by
  rw [minS_less]
  cases h : less b a
  · cases h1 : less k a
    · simp [h1]
    · have := less_le h1 h
      simp [h1, this]
  · cases h1 : less k b
    · simp [h1]
    · simp [h1, less_trans h1 h]
theorem min_size {a b : ByteArray} {n : Nat} (ha : a.size ≤ n) (hb : b.size ≤ n) : (Lib.minS a b).size ≤ n := by rw [minS_less]; split <;> assumption
theorem max_size {a b : ByteArray} {n : Nat} (ha : a.size ≤ n) (hb : b.size ≤ n) : (Lib.maxS a b).size ≤ n := by rw [maxS_less]; split <;> assumption
theorem cut_key {m : PMsg} {fr tt : ByteArray} (ho : m.op = 3) : (m.cut fr tt) = ⟨3, Lib.maxS m.key fr, if emp tt then m.til else Lib.minS m.til tt, m.value⟩ := by
  unfold PMsg.cut; rw [if_pos (by rw [ho]; rfl)]
theorem cut_o {m : PMsg} {fr tt : ByteArray} (ho : m.op ≠ 3) : m.cut fr tt = m := by
  unfold PMsg.cut; rw [if_neg (by simpa using ho)]
theorem less_cutTo (k too tt : ByteArray) : less k (if emp tt then too else Lib.minS too tt) = (less k too && (emp tt || less k tt)) := by
  cases h : emp tt
  · simp [less_min]
  · simp
theorem part_touches (m : PMsg) (fr tt k : ByteArray) (hf : fr.size ≤ 108) (ht : tt.size ≤ 108) : (m.part fr tt).touches k = (m.touches k && inR k fr tt) := by
  cases hm : m.may
  · have hl : m.lies fr tt = false := by unfold PMsg.lies; rw [hm]; rfl
    have h1 : m.touches k = false := by unfold PMsg.touches; rw [hm]; rfl
    unfold PMsg.part
    rw [hl, h1]
    rfl
  · have h1 : m.touches k = m.hits k := by unfold PMsg.touches; rw [hm]; rfl
    by_cases ho : m.op = 3
    · obtain ⟨v0, k1, k2, k3⟩ := may3 hm ho
      have hh : m.hits k = (!less k m.key && less k m.til) := by unfold PMsg.hits; rw [if_pos (by rw [ho]; rfl)]
      have hL : m.lies fr tt = less (Lib.maxS m.key fr) (if emp tt then m.til else Lib.minS m.til tt) := by
        unfold PMsg.lies; rw [hm, if_pos (by rw [ho]; rfl), cut_key ho]; rfl
      cases hl : m.lies fr tt
      · have hp : m.part fr tt = PMsg.zero := by unfold PMsg.part; rw [hl]; rfl
        rw [hp, zero_touches, h1, hh]
        cases hr : ((!less k m.key && less k m.til) && inR k fr tt)
        · rfl
        · exfalso
          unfold inR at hr
          simp only [Bool.and_eq_true, Bool.not_eq_true', Bool.or_eq_true] at hr
          obtain ⟨⟨a1, a2⟩, a3, a4⟩ := hr
          have b1 : less k (Lib.maxS m.key fr) = false := by rw [less_max, a1, a3]; rfl
          have b2 : less k (if emp tt then m.til else Lib.minS m.til tt) = true := by
            rw [less_cutTo, a2]
            rcases a4 with a4 | a4 <;> simp [a4]
          have := le_less b1 b2
          rw [← hL, hl] at this
          exact absurd this (by decide)
      · have hp : m.part fr tt = m.cut fr tt := by unfold PMsg.part; rw [hl]; rfl
        rw [hp, cut_key ho, h1, hh]
        rw [hL] at hl
        have c1 : keyOk (Lib.maxS m.key fr) = true := by
          rw [keyOk_iff] at k1 ⊢
          refine ⟨?_, max_size k1.2 hf⟩
          rw [maxS_less]
          split
          · next h => exact Nat.pos_of_ne_zero (size_of_less h)
          · exact k1.1
        have c2 : keyOk (if emp tt then m.til else Lib.minS m.til tt) = true := by
          rw [keyOk_iff] at k2 ⊢
          refine ⟨Nat.pos_of_ne_zero (size_of_less hl), ?_⟩
          split
          · exact k2.2
          · exact min_size k2.2 ht
        unfold PMsg.touches PMsg.hits
        rw [may3_mk c1 c2 hl v0, if_pos (by rfl)]
        simp only [less_max, less_cutTo, inR, Bool.true_and, Bool.not_or]
        cases less k m.key <;> cases less k fr <;> cases less k m.til <;> cases emp tt <;> cases less k tt <;> rfl
    · have hh : m.hits k = (k.toList == m.key.toList) := by unfold PMsg.hits; rw [if_neg (by simpa using ho)]
      have hL : m.lies fr tt = inR m.key fr tt := by
        unfold PMsg.lies; rw [hm, if_neg (by simpa using ho)]; rfl
      cases hl : m.lies fr tt
      · have hp : m.part fr tt = PMsg.zero := by unfold PMsg.part; rw [hl]; rfl
        rw [hp, zero_touches, h1, hh]
        cases hk : (k.toList == m.key.toList)
        · rfl
        · have := tl_inj (beq_iff_eq.1 hk)
          rw [this, ← hL, hl]; rfl
      · have hp : m.part fr tt = m := by unfold PMsg.part; rw [hl, cut_o ho]; rfl
        rw [hp, h1, hh]
        cases hk : (k.toList == m.key.toList)
        · rfl
        · have := tl_inj (beq_iff_eq.1 hk)
          rw [this, ← hL, hl]; rfl
theorem part_makes (m : PMsg) (fr tt k v : ByteArray) (there : Bool) (hf : fr.size ≤ 108) (ht : tt.size ≤ 108) (hi : inR k fr tt = true) :
    (m.part fr tt).makesS k v there = m.makesS k v there ∧ (m.part fr tt).makesB k v there = m.makesB k v there := by
  have h := part_touches m fr tt k hf ht
  rw [hi, Bool.and_true] at h
  cases hx : m.touches k
  · unfold PMsg.makesS PMsg.makesB
    rw [h, hx]
    exact ⟨rfl, rfl⟩
  · have hl : m.lies fr tt = true := by
      cases hl : m.lies fr tt
      · have hp : m.part fr tt = PMsg.zero := by unfold PMsg.part; rw [hl]; rfl
        rw [hp, zero_touches, hx] at h
        exact absurd h (by decide)
      · rfl
    have hp : m.part fr tt = m.cut fr tt := by unfold PMsg.part; rw [hl]; rfl
    by_cases ho : m.op = 3
    · unfold PMsg.makesS PMsg.makesB
      rw [h, hx, hp, cut_key ho, ho]
      exact ⟨rfl, rfl⟩
    · rw [hp, cut_o ho]
      exact ⟨rfl, rfl⟩
/-- What two parts of ranges that follow each other touch. -/
def lowPart (m : PMsg) (fr mid : ByteArray) : PMsg := if emp mid then PMsg.zero else m.part fr mid
theorem low_touches (m : PMsg) (fr mid k : ByteArray) (hf : fr.size ≤ 108) (hm : mid.size ≤ 108) : (lowPart m fr mid).touches k = (m.touches k && (!emp mid && inR k fr mid)) := by
  unfold lowPart
  cases h : emp mid
  · rw [if_neg (by decide), part_touches m fr mid k hf hm]; rfl
  · rw [if_pos rfl, zero_touches]; simp
theorem emp_eq {a : ByteArray} (h : emp a = true) : a = ⟨#[]⟩ := by
  have := (emp_iff a).1 h
  cases a with | mk d => cases d with | mk l => cases l with
    | nil => rfl
    | cons x r => exact absurd this (by show ¬ (x :: r).length = 0; simp)
/-- The range's key, below the middle or not. -/
theorem in_low {k fr mid tt : ByteArray} (h1 : less mid fr = false) (h2 : emp tt = true ∨ less tt mid = false) :
    (inR k fr tt = true → less k mid = true → (!emp mid && inR k fr mid) = true ∧ inR k mid tt = false) ∧
    (inR k fr tt = true → less k mid = false → (!emp mid && inR k fr mid) = false ∧ inR k mid tt = true) ∧
    (inR k fr tt = false → (!emp mid && inR k fr mid) = false ∧ inR k mid tt = false) := by
  unfold inR
  refine ⟨fun hi hk => ?_, fun hi hk => ?_, fun hi => ?_⟩
  · simp only [Bool.and_eq_true, Bool.not_eq_true'] at hi
    have he : emp mid = false := by
      cases he : emp mid
      · rfl
      · rw [emp_eq he, empty_less] at hk; exact absurd hk (by decide)
    rw [he, hi.1, hk]
    exact ⟨rfl, rfl⟩
  · simp only [Bool.and_eq_true, Bool.not_eq_true'] at hi
    rw [hi.1, hk, hi.2]
    cases emp mid <;> exact ⟨rfl, rfl⟩
  · cases he : emp mid
    · cases hf : less k fr
      · rw [hf] at hi
        simp only [Bool.not_false, Bool.true_and, Bool.or_eq_false_iff] at hi
        have h3 : less tt mid = false := by
          rcases h2 with h2 | h2
          · rw [h2] at hi; exact absurd hi.1 (by decide)
          · exact h2
        have h4 : less k mid = false := by
          cases h : less k mid
          · rfl
          · have := less_le h h3
            rw [hi.2] at this; exact absurd this (by decide)
        rw [h4, hi.1, hi.2]
        exact ⟨rfl, rfl⟩
      · have h4 : less k mid = true := less_le hf h1
        rw [h4]
        exact ⟨rfl, rfl⟩
    · have hm := emp_eq he
      subst hm
      have hfr : fr = ⟨#[]⟩ := less_total (empty_less fr) h1
      subst hfr
      rw [empty_less] at hi ⊢
      rw [hi]
      exact ⟨rfl, rfl⟩
theorem min_max (a b : ByteArray) : less (Lib.maxS a b) (Lib.minS a b) = false := by
  rw [minS_less, maxS_less]
  cases h : less a b
  · cases h2 : less b a
    · exact less_irrefl _
    · simp only [Bool.false_eq_true, if_false, if_true]; exact less_asymm h2
  · rw [less_asymm h]
    simp only [Bool.false_eq_true, if_false, if_true]; exact less_asymm h
end Go.Proofs.YtmggpfngbkbkmaaGreatDoor
