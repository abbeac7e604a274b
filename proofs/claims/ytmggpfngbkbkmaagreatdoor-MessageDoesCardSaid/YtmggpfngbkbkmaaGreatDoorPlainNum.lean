/- Plain: marks as whole numbers: which are NaNs, their order, the five steps. No program in sight. -/
import Derived.Test.YtmggpfngbkbkmaaGreatDoorBase
namespace Go.Proofs.YtmggpfngbkbkmaaGreatDoor
open Go.RowKit
set_option linter.unusedVariables false
set_option linter.unusedSimpArgs false

/-- Does a mark say a NaN? -/
def nanB (x : Nat) : Bool := decide (9218868437227405312 < x % 9223372036854775808)
def quietN (x : Nat) : Nat := if nanB x = true then 9221120237041090561 else x
def orderN (x : Nat) : Nat := if 9223372036854775808 ≤ x then 18446744073709551615 - x else x + 9223372036854775808
def backN (x : Nat) : Nat := if 9223372036854775808 ≤ x then x - 9223372036854775808 else 18446744073709551615 - x
/-- Sum and product as marks. -/
def qAdd (x y : Nat) : Nat := match FloatKind.f64.format.add x y with | some r => quietN r | none => 9221120237041090561
def qMul (x y : Nat) : Nat := match FloatKind.f64.format.mul x y with | some r => quietN r | none => 9221120237041090561
/-- The NaN that an operation without an answer gives in a world. -/
def nanOf (w : World) (x y : Nat) : Nat := (Question.nanBits .f64 x y).cut (w.tape w.drawn (.nanBits .f64 x y))

theorem f64_fmt : FloatKind.f64.format = Ieee.double := rfl
theorem nan_order (x : Nat) : (FloatKind.f64.format.order x x != some Ordering.eq) = nanB x := by
  have h1 : Ieee.double.signWeight = 9223372036854775808 := by decide
  have h2 : Ieee.double.binade = 4503599627370496 := by decide
  have h3 : Ieee.double.infRung = 9218868437227405312 := by decide
  have hlt : x % 9223372036854775808 < 9223372036854775808 := Nat.mod_lt _ (by decide)
  rw [f64_fmt]
  unfold Ieee.Format.order Ieee.Format.read nanB
  simp only [h1, h2, h3]
  by_cases a : x % 9223372036854775808 < 4503599627370496
  · rw [if_pos a]
    have : ¬ (9218868437227405312 < x % 9223372036854775808) := by omega
    simp [Ieee.Datum.order, this]
  · rw [if_neg a]
    by_cases b : x % 9223372036854775808 < 9218868437227405312
    · rw [if_pos b]
      have : ¬ (9218868437227405312 < x % 9223372036854775808) := by omega
      simp [Ieee.Datum.order, this]
    · rw [if_neg b]
      by_cases c : x % 9223372036854775808 = 9218868437227405312
      · rw [if_pos c]
        have : ¬ (9218868437227405312 < x % 9223372036854775808) := by omega
        simp [Ieee.Datum.order, this]
      · rw [if_neg c]
        have : (9218868437227405312 < x % 9223372036854775808) := by omega
        simp [Ieee.Datum.order, this]
theorem nan_bits (x : Nat) (hx : x < 18446744073709551616) : nanB x = (decide (x / 4503599627370496 % 2048 = 2047) && decide (x * 4096 % 18446744073709551616 ≠ 0)) := by
  unfold nanB
  rw [Bool.eq_iff_iff]
  simp only [Bool.and_eq_true, decide_eq_true_eq]
  omega
theorem nanOf_quiet (w : World) (x y : Nat) : quietN (nanOf w x y) = 9221120237041090561 := by
  have h : nanB (nanOf w x y) = true := by
    unfold nanOf nanB
    generalize w.tape w.drawn (.nanBits .f64 x y) = t
    apply decide_eq_true
    simp only [Question.cut]
    have hm : t / 2 % (2 ^ 52 - 1) < 4503599627370495 := Nat.mod_lt _ (by decide)
    generalize t / 2 % (2 ^ 52 - 1) = m at hm ⊢
    rcases (show t % 2 = 0 ∨ t % 2 = 1 by omega) with h | h <;> rw [h] <;> omega
  unfold quietN
  rw [if_pos h]
theorem nanOf_lt (w : World) (x y : Nat) : nanOf w x y < 18446744073709551616 := by
  unfold nanOf
  generalize w.tape w.drawn (.nanBits .f64 x y) = t
  simp only [Question.cut]
  have hm : t / 2 % (2 ^ 52 - 1) < 4503599627370495 := Nat.mod_lt _ (by decide)
  generalize t / 2 % (2 ^ 52 - 1) = m at hm ⊢
  rcases (show t % 2 = 0 ∨ t % 2 = 1 by omega) with h | h <;> rw [h] <;> omega
theorem qAdd_some {x y r : Nat} (h : FloatKind.f64.format.add x y = some r) : qAdd x y = quietN r := by simp [qAdd, h]
theorem qAdd_none {x y : Nat} (h : FloatKind.f64.format.add x y = none) : qAdd x y = 9221120237041090561 := by simp [qAdd, h]
theorem run_fadd_some {P : Program} {x y r : Nat} (h : FloatKind.f64.format.add x y = some r) (t : TypeId) (w : World) : (binOp .add t (.float .f64 x) (.float .f64 y)).run P w = .ok (.float .f64 r) w := by
  simp [binOp, Op.floatArith, h]
theorem run_fadd_none {P : Program} {x y : Nat} (h : FloatKind.f64.format.add x y = none) (t : TypeId) (w : World) : (binOp .add t (.float .f64 x) (.float .f64 y)).run P w = .ok (.float .f64 (nanOf w x y)) w.drew := by
  simp [binOp, Op.floatArith, h, nanOf, Question.forced]
theorem qMul_some {x y r : Nat} (h : FloatKind.f64.format.mul x y = some r) : qMul x y = quietN r := by simp [qMul, h]
theorem qMul_none {x y : Nat} (h : FloatKind.f64.format.mul x y = none) : qMul x y = 9221120237041090561 := by simp [qMul, h]
theorem run_fmul_some {P : Program} {x y r : Nat} (h : FloatKind.f64.format.mul x y = some r) (t : TypeId) (w : World) : (binOp .mul t (.float .f64 x) (.float .f64 y)).run P w = .ok (.float .f64 r) w := by
  simp [binOp, Op.floatArith, h]
theorem run_fmul_none {P : Program} {x y : Nat} (h : FloatKind.f64.format.mul x y = none) (t : TypeId) (w : World) : (binOp .mul t (.float .f64 x) (.float .f64 y)).run P w = .ok (.float .f64 (nanOf w x y)) w.drew := by
  simp [binOp, Op.floatArith, h, nanOf, Question.forced]
theorem quiet_lt (x : Nat) (hx : x < 18446744073709551616) : quietN x < 18446744073709551616 := by unfold quietN; split <;> omega
theorem quiet_quiet (x : Nat) : quietN (quietN x) = quietN x := by
  unfold quietN
  by_cases h : nanB x = true
  · rw [if_pos h, if_pos (by decide)]
  · rw [if_neg h, if_neg h]
theorem order_lt (x : Nat) (hx : x < 18446744073709551616) : orderN x < 18446744073709551616 := by unfold orderN; split <;> omega
theorem back_lt (x : Nat) (hx : x < 18446744073709551616) : backN x < 18446744073709551616 := by unfold backN; split <;> omega
theorem back_order (x : Nat) (hx : x < 18446744073709551616) : backN (orderN x) = x := by
  unfold orderN
  split
  · unfold backN; rw [if_neg (by omega)]; omega
  · unfold backN; rw [if_pos (by omega)]; omega
theorem nat_and63 (x : Nat) (hx : x < 18446744073709551616) : x &&& 9223372036854775808 = if 9223372036854775808 ≤ x then 9223372036854775808 else 0 := by
  have e : (2 : Nat) ^ 63 = 9223372036854775808 := by decide
  have hd := Nat.testBit_eq_decide_div_mod_eq (x := x) (i := 63)
  rw [e] at hd
  rw [← e]
  apply Nat.eq_of_testBit_eq
  intro i
  rw [Nat.testBit_and, Nat.testBit_two_pow]
  by_cases hi : 63 = i
  · subst hi
    rw [hd]
    by_cases h : 9223372036854775808 ≤ x
    · rw [e, if_pos h]
      have h1 : x / 9223372036854775808 = 1 := by omega
      rw [h1]; rfl
    · rw [e, if_neg h]
      have h1 : x / 9223372036854775808 = 0 := by omega
      rw [h1]; rfl
  · rw [decide_eq_false hi, Bool.and_false]
    by_cases h : 9223372036854775808 ≤ x
    · rw [e, if_pos h, ← e, Nat.testBit_two_pow, decide_eq_false hi]
    · rw [e, if_neg h, Nat.zero_testBit]
theorem and63 (x : Int) (h0 : 0 ≤ x) (hx : x < 18446744073709551616) : (bits BinOp.and IntKind.u64 x 9223372036854775808 != 0) = decide (9223372036854775808 ≤ x) := by
  obtain ⟨n, rfl⟩ := Int.eq_ofNat_of_zero_le h0
  have := u64_and_nat n 9223372036854775808 (by omega) (by decide)
  have e : ((9223372036854775808 : Nat) : Int) = 9223372036854775808 := rfl
  rw [e] at this
  rw [this, nat_and63 n (by omega)]
  by_cases h : 9223372036854775808 ≤ n
  · rw [if_pos h, decide_eq_true (by omega)]; rfl
  · rw [if_neg h, decide_eq_false (by omega)]; rfl
theorem not64 (x : Int) (h0 : 0 ≤ x) (hx : x < 18446744073709551616) : bits BinOp.xor IntKind.u64 IntKind.u64.max x = 18446744073709551615 - x := by
  obtain ⟨n, rfl⟩ := Int.eq_ofNat_of_zero_le h0
  have hm : IntKind.u64.max = ((18446744073709551615 : Nat) : Int) := rfl
  rw [hm, u64_xor_nat _ n (by decide) (by omega)]
  have h : 18446744073709551615 ^^^ n = 18446744073709551615 - n := by
    have := BitVec.toNat_not (x := BitVec.ofNat 64 n)
    have h2 : ~~~ (BitVec.ofNat 64 n) = BitVec.allOnes 64 ^^^ BitVec.ofNat 64 n := (BitVec.allOnes_xor).symm
    rw [h2, BitVec.toNat_xor] at this
    have h3 : (BitVec.ofNat 64 n).toNat = n := by simp; omega
    have h4 : (BitVec.allOnes 64).toNat = 18446744073709551615 := by decide
    rw [h3, h4] at this
    omega
  rw [h]; omega
theorem or63 (x : Int) (h0 : 0 ≤ x) (hx : x < 9223372036854775808) : bits BinOp.or IntKind.u64 x 9223372036854775808 = x + 9223372036854775808 := by
  obtain ⟨n, rfl⟩ := Int.eq_ofNat_of_zero_le h0
  have := u64_or_nat n 9223372036854775808 (by omega) (by decide)
  have e : ((9223372036854775808 : Nat) : Int) = 9223372036854775808 := rfl
  rw [e] at this
  rw [this]
  have h : n ||| 9223372036854775808 = n + 9223372036854775808 := by
    have := Nat.two_pow_add_eq_or_of_lt (i := 63) (b := n) (by omega) 1
    rw [Nat.or_comm]
    have e2 : (2 : Nat) ^ 63 * 1 = 9223372036854775808 := by decide
    rw [e2] at this
    omega
  rw [h]; omega
theorem andNot63 (x : Int) (h0 : 9223372036854775808 ≤ x) (hx : x < 18446744073709551616) : bits BinOp.andNot IntKind.u64 x 9223372036854775808 = x - 9223372036854775808 := by
  obtain ⟨n, rfl⟩ := Int.eq_ofNat_of_zero_le (show 0 ≤ x by omega)
  have := u64_andNot_nat n 9223372036854775808 (by omega) (by decide)
  have e : ((9223372036854775808 : Nat) : Int) = 9223372036854775808 := rfl
  rw [e] at this
  rw [this]
  have h : n &&& (18446744073709551615 - 9223372036854775808) = n % 9223372036854775808 := by
    have := Nat.and_two_pow_sub_one_eq_mod n 63
    have e2 : (2 : Nat) ^ 63 - 1 = 18446744073709551615 - 9223372036854775808 := by decide
    have e3 : (2 : Nat) ^ 63 = 9223372036854775808 := by decide
    rw [e2, e3] at this
    exact this
  rw [h]; omega
/-- What a step makes of a mark, and its error. -/
def stepN (x : Nat) (op : Int) (y : Nat) : Nat :=
  if op = 1 then quietN y else if op = 2 then qAdd x y else if op = 5 then qMul x y
  else if op = 3 then (if orderN (quietN x) < orderN (quietN y) then quietN y else quietN x)
  else if op = 4 then (if orderN (quietN y) < orderN (quietN x) then quietN y else quietN x) else 0
def stepE (op : Int) : Int := if 1 ≤ op ∧ op ≤ 5 then 0 else 2
end Go.Proofs.YtmggpfngbkbkmaaGreatDoor
