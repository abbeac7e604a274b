/- Marks: floats as their bits (packages number and rillbedref01). -/
import Derived.Test.YtmggpfngbkbkmaaGreatDoorProg
import Derived.Test.YtmggpfngbkbkmaaGreatDoorR0
import Derived.Laws.FloatBits
import Derived.Deep.QuietTactic
import Derived.BigQuiet
import Derived.Deep.RegionWith
import Derived.Deep.RegionHeld3
import Derived.Test.YtmggpfngbkbkmaaGreatDoorR1
namespace Go.Proofs.YtmggpfngbkbkmaaGreatDoor
open Go.RowKit
set_option linter.unusedVariables false
set_option linter.unusedSimpArgs false

theorem Format_add_lt {x y r : Nat} (h : FloatKind.f64.format.add x y = some r) : (r : Int) < 18446744073709551616 := by
  have h2 := FloatKind.f64.format.add_lt h
  have e : 2 ^ FloatKind.f64.format.width = 18446744073709551616 := by decide
  omega
theorem Format_mul_lt {x y r : Nat} (h : FloatKind.f64.format.mul x y = some r) : (r : Int) < 18446744073709551616 := by
  have h2 := FloatKind.f64.format.mul_lt h
  have e : 2 ^ FloatKind.f64.format.width = 18446744073709551616 := by decide
  omega
theorem frombits_run (n : Int) (w : World) : (callFunc 153 #[.int .u64 n]).run Tryz.prog w = .ok (.value (.float .f64 n.toNat)) w := by
  rw [run_callFunc_extern Tryz.func153 (by kernel_rfl) (by kernel_rfl) (by kernel_rfl) (e := Extern.MathFloatBits.float64frombits) (by kernel_rfl)]
  rfl
theorem tobits_run (n : Nat) (w : World) : (callFunc 152 #[.float .f64 n]).run Tryz.prog w = .ok (.value (.int .u64 n)) w := by
  rw [run_callFunc_extern Tryz.func152 (by kernel_rfl) (by kernel_rfl) (by kernel_rfl) (e := Extern.MathFloatBits.float64bits) (by kernel_rfl)]
  rfl
set_option maxRecDepth 100000 in
theorem quiet_c (x : Int) (h0 : 0 ≤ x) (w : World) :
    Calls Tryz.prog 148 #[.int .u64 x] w fun e w' => e = .returned (.int .u64 (quietN x.toNat)) ∧ w = w' := by
  have hfb := frombits_run
  have hn := nan_order x.toNat
  by_cases hq : nanB x.toNat = true
  · have hv : quietN x.toNat = 9221120237041090561 := if_pos hq
    have HV := Aside.mk hv
    clear hv
    go_enter Tryz.func148, Tryz.ntmps148
    go_wp2_with fail
    go_ret
    exact ⟨by rw [HV.out]; rfl, rfl⟩
  · have hv : quietN x.toNat = x.toNat := if_neg hq
    have HV := Aside.mk hv
    have hq' : nanB x.toNat = false := by simpa using hq
    clear hv hq
    go_enter Tryz.func148, Tryz.ntmps148
    go_wp2_with fail
    go_ret
    exact ⟨by rw [HV.out, Int.toNat_of_nonneg h0]; rfl, rfl⟩
theorem order_c (x : Int) (h0 : 0 ≤ x) (hx : x < 18446744073709551616) (w : World) :
    Calls Tryz.prog 157 #[.int .u64 x] w fun e w' => e = .returned (.int .u64 (orderN x.toNat)) ∧ w = w' := by
  have ha := and63 x h0 hx
  by_cases h : 9223372036854775808 ≤ x
  · have ha' : (bits BinOp.and IntKind.u64 x 9223372036854775808 != 0) = true := ha.trans (decide_eq_true h)
    clear ha
    have hs : IntKind.u64.signed = false := rfl
    go_enter Tryz.func157, Tryz.ntmps157
    go_wp2_with fail
    go_ret
    refine ⟨ret_int ?_, rfl⟩
    rw [not64 x h0 hx]; unfold orderN; rw [if_pos (by omega)]; omega
  · have ha' : (bits BinOp.and IntKind.u64 x 9223372036854775808 != 0) = false := ha.trans (decide_eq_false h)
    clear ha
    go_enter Tryz.func157, Tryz.ntmps157
    go_wp2_with fail
    go_ret
    refine ⟨ret_int ?_, rfl⟩
    rw [or63 x h0 (by omega)]; unfold orderN; rw [if_neg (by omega)]; omega
theorem back_c (x : Int) (h0 : 0 ≤ x) (hx : x < 18446744073709551616) (w : World) :
    Calls Tryz.prog 156 #[.int .u64 x] w fun e w' => e = .returned (.int .u64 (backN x.toNat)) ∧ w = w' := by
  have ha := and63 x h0 hx
  by_cases h : 9223372036854775808 ≤ x
  · have ha' : (bits BinOp.and IntKind.u64 x 9223372036854775808 != 0) = true := ha.trans (decide_eq_true h)
    clear ha
    go_enter Tryz.func156, Tryz.ntmps156
    go_wp2_with fail
    go_ret
    refine ⟨ret_int ?_, rfl⟩
    rw [andNot63 x h hx]; unfold backN; rw [if_pos (by omega)]; omega
  · have ha' : (bits BinOp.and IntKind.u64 x 9223372036854775808 != 0) = false := ha.trans (decide_eq_false h)
    clear ha
    have hs : IntKind.u64.signed = false := rfl
    go_enter Tryz.func156, Tryz.ntmps156
    go_wp2_with fail
    go_ret
    refine ⟨ret_int ?_, rfl⟩
    rw [not64 x h0 hx]; unfold backN; rw [if_neg (by omega)]; omega
theorem and2047 (x : Int) (h0 : 0 ≤ x) (hx : x < 18446744073709551616) : bits BinOp.and IntKind.u64 (x / 4503599627370496) 2047 = ((x.toNat / 4503599627370496 % 2048 : Nat) : Int) := by
  obtain ⟨n, rfl⟩ := Int.eq_ofNat_of_zero_le h0
  have := u64_and_nat (n / 4503599627370496) 2047 (by omega) (by decide)
  rw [Nat.and_two_pow_sub_one_eq_mod _ 11] at this
  exact this
theorem mul4096 (x : Int) (h0 : 0 ≤ x) : (IntKind.u64.wrap (x * 4096) != 0) = decide (x.toNat * 4096 % 18446744073709551616 ≠ 0) := by
  obtain ⟨n, rfl⟩ := Int.eq_ofNat_of_zero_le h0
  rw [IntKind.wrap_u64, Bool.eq_iff_iff, bne_iff_ne, decide_eq_true_eq]
  simp only [Int.toNat_natCast]
  omega
set_option maxRecDepth 100000 in
theorem rnan_c (x : Int) (h0 : 0 ≤ x) (hx : x < 18446744073709551616) (w : World) :
    Calls Tryz.prog 158 #[.int .u64 x] w fun e w' => e = .returned (.bool (nanB x.toNat)) ∧ w = w' := by
  have hb := nan_bits x.toNat (by omega)
  have HB := Aside.mk hb
  have ha := Aside.mk (and2047 x h0 hx)
  have hm := Aside.mk (mul4096 x h0)
  clear hb
  go_enter Tryz.func158, Tryz.ntmps158
  go_wp2_with fail
  · go_ret; go_tidy
    rename_i h
    rw [ha.out] at h
    refine ⟨?_, rfl⟩
    rw [HB.out, decide_eq_true (by omega), Bool.true_and, ← hm.out]; rfl
  · go_ret; go_tidy
    rename_i h
    rw [ha.out] at h
    refine ⟨?_, rfl⟩
    rw [HB.out, decide_eq_false (by omega)]; rfl
set_option maxRecDepth 100000 in
theorem rquiet_c (x : Int) (h0 : 0 ≤ x) (hx : x < 18446744073709551616) (w : World) :
    Calls Tryz.prog 124 #[.int .u64 x] w fun e w' => e = .returned (.int .u64 (quietN x.toNat)) ∧ w = w' := by
  by_cases hq : nanB x.toNat = true
  · have HV := Aside.mk (show quietN x.toNat = 9221120237041090561 from if_pos hq)
    go_enter Tryz.func124, Tryz.ntmps124
    go_wp2_with (go_at_call 158; refine (rnan_c x h0 hx _).mono ?_; rintro e w1 ⟨rfl, rfl⟩)
    go_ret
    exact ⟨by rw [HV.out]; rfl, rfl⟩
  · have HV := Aside.mk (show quietN x.toNat = x.toNat from if_neg hq)
    have hq' : nanB x.toNat = false := by simpa using hq
    clear hq
    go_enter Tryz.func124, Tryz.ntmps124
    go_wp2_with (go_at_call 158; refine (rnan_c x h0 hx _).mono ?_; rintro e w1 ⟨rfl, rfl⟩)
    go_ret
    exact ⟨by rw [HV.out, Int.toNat_of_nonneg h0]; rfl, rfl⟩
set_option maxRecDepth 100000 in
theorem rorder_c (x : Int) (h0 : 0 ≤ x) (hx : x < 18446744073709551616) (w : World) :
    Calls Tryz.prog 127 #[.int .u64 x] w fun e w' => e = .returned (.int .u64 (orderN x.toNat)) ∧ w = w' := by
  by_cases h : 9223372036854775808 ≤ x
  · have hv : (orderN x.toNat : Int) = 18446744073709551615 - x := by unfold orderN; rw [if_pos (by omega)]; omega
    have HV := Aside.mk hv
    clear hv
    go_enter Tryz.func127, Tryz.ntmps127
    go_wp2_with fail
    go_ret
    refine ⟨by rw [HV.out]; exact ret_int (by first | rfl | (rw [wrap_u64 _ (by omega) (by omega)])), rfl⟩
  · have hv : (orderN x.toNat : Int) = x + 9223372036854775808 := by unfold orderN; rw [if_neg (by omega)]; omega
    have HV := Aside.mk hv
    clear hv
    go_enter Tryz.func127, Tryz.ntmps127
    go_wp2_with fail
    go_ret
    refine ⟨by rw [HV.out]; exact ret_int (by first | rfl | (rw [wrap_u64 _ (by omega) (by omega)])), rfl⟩

/-- The call returns v, and has drawn at most. -/
def DRet (w : World) (v : Value) (e : Ending) (w' : World) : Prop := e = .returned v ∧ ∃ n, w' = w.drewN n

set_option maxRecDepth 100000 in
theorem rSum_c (x y : Int) (h0 : 0 ≤ x) (h1 : 0 ≤ y) (w : World) :
    Calls Tryz.prog 125 #[.int .u64 x, .int .u64 y] w (DRet w (.int .u64 (qAdd x.toNat y.toNat))) := by
  have hfb := frombits_run
  have htb := tobits_run
  cases hr : FloatKind.f64.format.add x.toNat y.toNat with
  | some r =>
    have ha := run_fadd_some (P := Tryz.prog) hr
    have HV := Aside.mk (qAdd_some hr)
    have hrl := Format_add_lt hr
    clear hr
    go_enter Tryz.func125, Tryz.ntmps125
    go_wp2_with (go_at_call 124; refine (rquiet_c r (by omega) (by omega) _).mono ?_; rintro e w1 ⟨rfl, rfl⟩)
    go_ret
    exact ⟨by rw [HV.out]; rfl, 0, rfl⟩
  | none =>
    have ha := run_fadd_none (P := Tryz.prog) hr
    have HV := Aside.mk (qAdd_none hr)
    clear hr
    go_enter Tryz.func125, Tryz.ntmps125
    go_wp2_with (go_at_call 124; refine (rquiet_c (nanOf w x.toNat y.toNat) (by omega) (by have := nanOf_lt w x.toNat y.toNat; omega) _).mono ?_; rintro e w1 ⟨rfl, rfl⟩)
    go_ret
    exact ⟨by rw [HV.out]; exact ret_int (by rw [nanOf_quiet]), 1, rfl⟩
set_option maxRecDepth 100000 in
theorem rProduct_c (x y : Int) (h0 : 0 ≤ x) (h1 : 0 ≤ y) (w : World) :
    Calls Tryz.prog 126 #[.int .u64 x, .int .u64 y] w (DRet w (.int .u64 (qMul x.toNat y.toNat))) := by
  have hfb := frombits_run
  have htb := tobits_run
  cases hr : FloatKind.f64.format.mul x.toNat y.toNat with
  | some r =>
    have ha := run_fmul_some (P := Tryz.prog) hr
    have HV := Aside.mk (qMul_some hr)
    have hrl := Format_mul_lt hr
    clear hr
    go_enter Tryz.func126, Tryz.ntmps126
    go_wp2_with (go_at_call 124; refine (rquiet_c r (by omega) (by omega) _).mono ?_; rintro e w1 ⟨rfl, rfl⟩)
    go_ret
    exact ⟨by rw [HV.out]; rfl, 0, rfl⟩
  | none =>
    have ha := run_fmul_none (P := Tryz.prog) hr
    have HV := Aside.mk (qMul_none hr)
    clear hr
    go_enter Tryz.func126, Tryz.ntmps126
    go_wp2_with (go_at_call 124; refine (rquiet_c (nanOf w x.toNat y.toNat) (by omega) (by have := nanOf_lt w x.toNat y.toNat; omega) _).mono ?_; rintro e w1 ⟨rfl, rfl⟩)
    go_ret
    exact ⟨by rw [HV.out]; exact ret_int (by rw [nanOf_quiet]), 1, rfl⟩
theorem ret2 {k k' : IntKind} {a b c d : Int} (h : a = b) (h' : c = d) : Ending.returned (.tuple #[.int k a, .int k' c]) = .returned (.tuple #[.int k b, .int k' d]) := by rw [h, h']
set_option maxRecDepth 100000 in
theorem rstep_c (x op y : Int) (h0 : 0 ≤ x) (hx : x < 18446744073709551616) (h1 : 0 ≤ y) (hy : y < 18446744073709551616) (w : World) :
    Calls Tryz.prog 96 #[.int .u64 x, .int .u8 op, .int .u64 y] w (DRet w (.tuple #[.int .u64 (stepN x.toNat op y.toNat), .int .i64 (stepE op)])) := by
  have qx := quiet_lt x.toNat (by omega)
  have qy := quiet_lt y.toNat (by omega)
  by_cases o1 : op = 1
  · subst o1
    have HV := Aside.mk (show stepN x.toNat 1 y.toNat = quietN y.toNat from rfl)
    go_enter Tryz.func96, Tryz.ntmps96
    go_wp2_with (go_at_call 124; refine (rquiet_c y h1 hy _).mono ?_; rintro e w1 ⟨rfl, rfl⟩)
    go_ret2
    exact ⟨by rw [HV.out]; rfl, 0, rfl⟩
  by_cases o2 : op = 2
  · subst o2
    have HV := Aside.mk (show stepN x.toNat 2 y.toNat = qAdd x.toNat y.toNat from rfl)
    go_enter Tryz.func96, Tryz.ntmps96
    go_wp2_with (go_at_call 125; refine (rSum_c x y h0 h1 _).mono ?_; rintro e w1 ⟨rfl, n, rfl⟩)
    go_ret2
    exact ⟨by rw [HV.out]; rfl, n, rfl⟩
  by_cases o5 : op = 5
  · subst o5
    have HV := Aside.mk (show stepN x.toNat 5 y.toNat = qMul x.toNat y.toNat from rfl)
    go_enter Tryz.func96, Tryz.ntmps96
    go_wp2_with (go_at_call 126; refine (rProduct_c x y h0 h1 _).mono ?_; rintro e w1 ⟨rfl, n, rfl⟩)
    go_ret2
    exact ⟨by rw [HV.out]; rfl, n, rfl⟩
  by_cases o3 : op = 3
  · subst o3
    have HV := Aside.mk (show stepN x.toNat 3 y.toNat = if orderN (quietN x.toNat) < orderN (quietN y.toNat) then quietN y.toNat else quietN x.toNat from rfl)
    go_enter Tryz.func96, Tryz.ntmps96
    go_wp2_with (first | (go_at_call 124; refine (rquiet_c _ (by omega) (by omega) _).mono ?_; rintro e w1 ⟨rfl, rfl⟩) | (go_at_call 127; refine (rorder_c _ (by omega) (by omega) _).mono ?_; rintro e w1 ⟨rfl, rfl⟩))
    · go_ret2; go_tidy
      rename_i h
      exact ⟨by rw [HV.out, if_pos h]; rfl, 0, rfl⟩
    · go_ret2; go_tidy
      rename_i h
      exact ⟨by rw [HV.out, if_neg h]; rfl, 0, rfl⟩
  by_cases o4 : op = 4
  · subst o4
    have HV := Aside.mk (show stepN x.toNat 4 y.toNat = if orderN (quietN y.toNat) < orderN (quietN x.toNat) then quietN y.toNat else quietN x.toNat from rfl)
    go_enter Tryz.func96, Tryz.ntmps96
    go_wp2_with (first | (go_at_call 124; refine (rquiet_c _ (by omega) (by omega) _).mono ?_; rintro e w1 ⟨rfl, rfl⟩) | (go_at_call 127; refine (rorder_c _ (by omega) (by omega) _).mono ?_; rintro e w1 ⟨rfl, rfl⟩))
    · go_ret2; go_tidy
      rename_i h
      exact ⟨by rw [HV.out, if_pos h]; rfl, 0, rfl⟩
    · go_ret2; go_tidy
      rename_i h
      exact ⟨by rw [HV.out, if_neg h]; rfl, 0, rfl⟩
  have HV := Aside.mk (show stepN x.toNat op y.toNat = 0 by simp [stepN, *])
  have HE := Aside.mk (show stepE op = 2 by unfold stepE; rw [if_neg (by omega)])
  have e1 : (op == 1) = false := beq_eq_false_iff_ne.2 o1
  have e2 : (op == 2) = false := beq_eq_false_iff_ne.2 o2
  have e3 : (op == 3) = false := beq_eq_false_iff_ne.2 o3
  have e4 : (op == 4) = false := beq_eq_false_iff_ne.2 o4
  have e5 : (op == 5) = false := beq_eq_false_iff_ne.2 o5
  clear o1 o2 o3 o4 o5
  go_enter Tryz.func96, Tryz.ntmps96
  go_wp2_with fail
  go_ret2
  exact ⟨by rw [HV.out, HE.out]; rfl, 0, rfl⟩


set_option maxRecDepth 100000 in
theorem fAdd_some {x y r : Nat} (h : FloatKind.f64.format.add x y = some r) (w : World) :
    Calls Tryz.prog 154 #[.float .f64 x, .float .f64 y] w fun e w' => e = .returned (.float .f64 r) ∧ w = w' := by
  have ha := run_fadd_some (P := Tryz.prog) h
  clear h
  go_enter Tryz.func154, Tryz.ntmps154
  go_wp2
  go_ret
  exact ⟨rfl, rfl⟩
theorem fAdd_none {x y : Nat} (h : FloatKind.f64.format.add x y = none) (w : World) :
    Calls Tryz.prog 154 #[.float .f64 x, .float .f64 y] w fun e w' => e = .returned (.float .f64 (nanOf w x y)) ∧ w.drew = w' := by
  have ha := run_fadd_none (P := Tryz.prog) h
  clear h
  go_enter Tryz.func154, Tryz.ntmps154
  go_wp2
  go_ret
  exact ⟨rfl, rfl⟩
set_option maxRecDepth 100000 in
theorem floatsAdd_c (x y : Int) (h0 : 0 ≤ x) (h1 : 0 ≤ y) (bx bs : Nat) (w : World) (c0 : w.cell? ⟨bx, 0, none⟩ = some (.int .u64 x)) (c1 : w.cell? ⟨bs, 1, none⟩ = some (.int .u64 y)) :
    Calls Tryz.prog 151 #[.func (Fn.func 154) #[] #[], .pointer (some ⟨bx, 0, none⟩), .pointer (some ⟨bs, 0, none⟩)] w (DRet w (.tuple #[.int .u64 (qAdd x.toNat y.toNat), .int .i64 0])) := by
  have hfb := frombits_run
  have htb := tobits_run
  cases hr : FloatKind.f64.format.add x.toNat y.toNat with
  | some r =>
    have HV := Aside.mk (qAdd_some hr)
    have HR := Aside.mk hr
    clear hr
    go_enter Tryz.func151, Tryz.ntmps151
    go_wp2_with fail
    go_quiet ((first | (go_at_call 154; exact quietS (fAdd_some HR.out _)) | (go_at_call 148; exact quietS (quiet_c _ (by omega) _))))
    go_wp2_with fail
    go_ret2
    exact ⟨by rw [HV.out]; rfl, _, rfl⟩
  | none =>
    have HV := Aside.mk (qAdd_none hr)
    have HR := Aside.mk hr
    clear hr
    go_enter Tryz.func151, Tryz.ntmps151
    go_wp2_with fail
    go_region_held3 (fun w' => w'.cell? ⟨bx, 0, none⟩ = some (.int .u64 x) ∧ w'.cell? ⟨bs, 1, none⟩ = some (.int .u64 y)) (first | exact ⟨c0, c1⟩ | go_keep) (first | (go_at_call 154; refine (fAdd_none HR.out _).mono ?_; rintro e w1 ⟨rfl, rfl⟩) | (go_at_call 148; refine (quiet_c _ (by omega) _).mono ?_; rintro e w1 ⟨rfl, rfl⟩))
    all_goals go_wp2_with fail
    all_goals go_ret2
    all_goals exact ⟨by rw [HV.out]; exact ret2 (by rw [nanOf_quiet]) rfl, 2, rfl⟩
set_option maxRecDepth 100000 in
theorem fMul_some {x y r : Nat} (h : FloatKind.f64.format.mul x y = some r) (w : World) :
    Calls Tryz.prog 155 #[.float .f64 x, .float .f64 y] w fun e w' => e = .returned (.float .f64 r) ∧ w = w' := by
  have ha := run_fmul_some (P := Tryz.prog) h
  clear h
  go_enter Tryz.func155, Tryz.ntmps155
  go_wp2
  go_ret
  exact ⟨rfl, rfl⟩
theorem fMul_none {x y : Nat} (h : FloatKind.f64.format.mul x y = none) (w : World) :
    Calls Tryz.prog 155 #[.float .f64 x, .float .f64 y] w fun e w' => e = .returned (.float .f64 (nanOf w x y)) ∧ w.drew = w' := by
  have ha := run_fmul_none (P := Tryz.prog) h
  clear h
  go_enter Tryz.func155, Tryz.ntmps155
  go_wp2
  go_ret
  exact ⟨rfl, rfl⟩
set_option maxRecDepth 100000 in
theorem floatsMul_c (x y : Int) (h0 : 0 ≤ x) (h1 : 0 ≤ y) (bx bs : Nat) (w : World) (c0 : w.cell? ⟨bx, 0, none⟩ = some (.int .u64 x)) (c1 : w.cell? ⟨bs, 1, none⟩ = some (.int .u64 y)) :
    Calls Tryz.prog 151 #[.func (Fn.func 155) #[] #[], .pointer (some ⟨bx, 0, none⟩), .pointer (some ⟨bs, 0, none⟩)] w (DRet w (.tuple #[.int .u64 (qMul x.toNat y.toNat), .int .i64 0])) := by
  have hfb := frombits_run
  have htb := tobits_run
  cases hr : FloatKind.f64.format.mul x.toNat y.toNat with
  | some r =>
    have HV := Aside.mk (qMul_some hr)
    have HR := Aside.mk hr
    clear hr
    go_enter Tryz.func151, Tryz.ntmps151
    go_wp2_with fail
    go_quiet ((first | (go_at_call 155; exact quietS (fMul_some HR.out _)) | (go_at_call 148; exact quietS (quiet_c _ (by omega) _))))
    go_wp2_with fail
    go_ret2
    exact ⟨by rw [HV.out]; rfl, _, rfl⟩
  | none =>
    have HV := Aside.mk (qMul_none hr)
    have HR := Aside.mk hr
    clear hr
    go_enter Tryz.func151, Tryz.ntmps151
    go_wp2_with fail
    go_region_held3 (fun w' => w'.cell? ⟨bx, 0, none⟩ = some (.int .u64 x) ∧ w'.cell? ⟨bs, 1, none⟩ = some (.int .u64 y)) (first | exact ⟨c0, c1⟩ | go_keep) (first | (go_at_call 155; refine (fMul_none HR.out _).mono ?_; rintro e w1 ⟨rfl, rfl⟩) | (go_at_call 148; refine (quiet_c _ (by omega) _).mono ?_; rintro e w1 ⟨rfl, rfl⟩))
    all_goals go_wp2_with fail
    all_goals go_ret2
    all_goals exact ⟨by rw [HV.out]; exact ret2 (by rw [nanOf_quiet]) rfl, 2, rfl⟩

set_option maxRecDepth 100000 in
theorem step_c (x op y : Int) (h0 : 0 ≤ x) (hx : x < 18446744073709551616) (h1 : 0 ≤ y) (hy : y < 18446744073709551616) (w : World) :
    Calls Tryz.prog 123 #[.int .u64 x, .agg #[.int .u8 op, .int .u64 y]] w (Ret w (.tuple #[.int .u64 (stepN x.toNat op y.toNat), .int .i64 (stepE op)])) := by
  have qx := quiet_lt x.toNat (by omega)
  have qy := quiet_lt y.toNat (by omega)
  by_cases o1 : op = 1
  · subst o1
    have HV := Aside.mk (show stepN x.toNat 1 y.toNat = quietN y.toNat from rfl)
    go_enter Tryz.func123, Tryz.ntmps123
    go_wp2_with fail
    go_quiet ((go_at_call 148; exact quietS (quiet_c _ (by omega) _)))
    go_wp2_with fail
    go_ret2
    exact ⟨by rw [HV.out]; rfl, below_drewN (((Below.refl _ _).alloc (Nat.le_refl _) _).alloc (by simp) _) _⟩
  by_cases o3 : op = 3
  · subst o3
    have HV := Aside.mk (show stepN x.toNat 3 y.toNat = if orderN (quietN x.toNat) < orderN (quietN y.toNat) then quietN y.toNat else quietN x.toNat from rfl)
    have ox := order_lt _ qx
    have oy := order_lt _ qy
    have bx := Aside.mk (back_order _ qx)
    have bY := Aside.mk (back_order _ qy)
    go_enter Tryz.func123, Tryz.ntmps123
    go_wp2_with fail
    go_quiet ((go_at_call 148; exact quietS (quiet_c _ (by omega) _)))
    go_wp2_with (first | (go_at_call 157; refine (order_c _ (by omega) (by omega) _).mono ?_; rintro e w1 ⟨rfl, rfl⟩) | (go_at_call 156; refine (back_c _ (by omega) (by omega) _).mono ?_; rintro e w1 ⟨rfl, rfl⟩))
    · go_ret2; go_tidy
      refine ⟨?_, ?_⟩
      · rw [HV.out, if_pos h]
        show Ending.returned (.tuple #[.int .u64 (backN (orderN (quietN y.toNat)) : Nat), .int .i64 0]) = _
        rw [bY.out]; rfl
      exact below_drewN (((Below.refl _ _).alloc (Nat.le_refl _) _).alloc (by simp) _) _
    · go_ret2; go_tidy
      refine ⟨?_, ?_⟩
      · rw [HV.out, if_neg h]
        show Ending.returned (.tuple #[.int .u64 (backN (orderN (quietN x.toNat)) : Nat), .int .i64 0]) = _
        rw [bx.out]; rfl
      exact below_drewN (((Below.refl _ _).alloc (Nat.le_refl _) _).alloc (by simp) _) _
  by_cases o4 : op = 4
  · subst o4
    have HV := Aside.mk (show stepN x.toNat 4 y.toNat = if orderN (quietN y.toNat) < orderN (quietN x.toNat) then quietN y.toNat else quietN x.toNat from rfl)
    have ox := order_lt _ qx
    have oy := order_lt _ qy
    have bx := Aside.mk (back_order _ qx)
    have bY := Aside.mk (back_order _ qy)
    go_enter Tryz.func123, Tryz.ntmps123
    go_wp2_with fail
    go_quiet ((go_at_call 148; exact quietS (quiet_c _ (by omega) _)))
    go_wp2_with (first | (go_at_call 157; refine (order_c _ (by omega) (by omega) _).mono ?_; rintro e w1 ⟨rfl, rfl⟩) | (go_at_call 156; refine (back_c _ (by omega) (by omega) _).mono ?_; rintro e w1 ⟨rfl, rfl⟩))
    · go_ret2; go_tidy
      refine ⟨?_, ?_⟩
      · rw [HV.out, if_pos h]
        show Ending.returned (.tuple #[.int .u64 (backN (orderN (quietN y.toNat)) : Nat), .int .i64 0]) = _
        rw [bY.out]; rfl
      exact below_drewN (((Below.refl _ _).alloc (Nat.le_refl _) _).alloc (by simp) _) _
    · go_ret2; go_tidy
      refine ⟨?_, ?_⟩
      · rw [HV.out, if_neg h]
        show Ending.returned (.tuple #[.int .u64 (backN (orderN (quietN x.toNat)) : Nat), .int .i64 0]) = _
        rw [bx.out]; rfl
      exact below_drewN (((Below.refl _ _).alloc (Nat.le_refl _) _).alloc (by simp) _) _
  by_cases o2 : op = 2
  · subst o2
    have HV := Aside.mk (show stepN x.toNat 2 y.toNat = qAdd x.toNat y.toNat from rfl)
    go_enter Tryz.func123, Tryz.ntmps123
    go_wp2_with fail
    go_quiet ((go_at_call 148; exact quietS (quiet_c _ (by omega) _)))
    go_wp2_with (go_at_call 151; refine (floatsAdd_c x y h0 h1 _ _ _ (by go_simp) (by go_simp)).mono ?_; rintro e w1 ⟨rfl, n, rfl⟩)
    go_ret2
    exact ⟨by rw [HV.out]; rfl, (by repeat (first | (with_reducible first | exact Below.refl _ _ | assumption | refine below_drewN ?_ _ | refine Below.drew ?_ | refine below_alloc ?_ _) | (with_reducible refine below_set ?_ ?side _; (case side => first | omega | (simp; omega) | (simp only [World.size_alloc]; omega))) | (with_reducible refine below_trans ?_ (by assumption))))⟩
  by_cases o5 : op = 5
  · subst o5
    have HV := Aside.mk (show stepN x.toNat 5 y.toNat = qMul x.toNat y.toNat from rfl)
    go_enter Tryz.func123, Tryz.ntmps123
    go_wp2_with fail
    go_quiet ((go_at_call 148; exact quietS (quiet_c _ (by omega) _)))
    go_wp2_with (go_at_call 151; refine (floatsMul_c x y h0 h1 _ _ _ (by go_simp) (by go_simp)).mono ?_; rintro e w1 ⟨rfl, n, rfl⟩)
    go_ret2
    exact ⟨by rw [HV.out]; rfl, (by repeat (first | (with_reducible first | exact Below.refl _ _ | assumption | refine below_drewN ?_ _ | refine Below.drew ?_ | refine below_alloc ?_ _) | (with_reducible refine below_set ?_ ?side _; (case side => first | omega | (simp; omega) | (simp only [World.size_alloc]; omega))) | (with_reducible refine below_trans ?_ (by assumption))))⟩
  have HV := Aside.mk (show stepN x.toNat op y.toNat = 0 by simp [stepN, *])
  have HE := Aside.mk (show stepE op = 2 by unfold stepE; rw [if_neg (by omega)])
  have e1 : (op == 1) = false := beq_eq_false_iff_ne.2 o1
  have e2 : (op == 2) = false := beq_eq_false_iff_ne.2 o2
  have e3 : (op == 3) = false := beq_eq_false_iff_ne.2 o3
  have e4 : (op == 4) = false := beq_eq_false_iff_ne.2 o4
  have e5 : (op == 5) = false := beq_eq_false_iff_ne.2 o5
  clear o1 o2 o3 o4 o5
  go_enter Tryz.func123, Tryz.ntmps123
  go_wp2_with fail
  go_quiet ((go_at_call 148; exact quietS (quiet_c _ (by omega) _)))
  go_wp2_with fail
  go_ret2
  exact ⟨by rw [HV.out, HE.out]; rfl, below_drewN (((Below.refl _ _).alloc (Nat.le_refl _) _).alloc (by simp) _) _⟩
end Go.Proofs.YtmggpfngbkbkmaaGreatDoor
/- What package meta does. -/
namespace Go.Proofs.YtmggpfngbkbkmaaGreatDoor
open Go.RowKit
set_option linter.unusedVariables false
set_option linter.unusedSimpArgs false

set_option maxRecDepth 100000 in
theorem metaCheck_c (k s mk st : Int) (hs0 : 0 ≤ s) (hm0 : 0 ≤ mk) (w : World) :
    Calls Tryz.prog 119 #[.agg #[.int .u8 k, .int .u32 s, .int .u64 mk, .int .u64 st]] w (Ret w (.int .i64 (PMeta.mk k s mk st).err)) := by
  go_enter Tryz.func119, Tryz.ntmps119
  go_wp2_with fail
  all_goals try (go_quiet ((go_at_call 148; exact quietS (quiet_c _ hm0 _))))
  all_goals try go_wp2_with fail
  all_goals (go_ret; go_tidy)
  all_goals (refine ⟨ret_int ?_, (by repeat (first | (with_reducible first | exact Below.refl _ _ | assumption | refine below_drewN ?_ _ | refine Below.drew ?_ | refine below_alloc ?_ _) | (with_reducible refine below_set ?_ ?side _; (case side => first | omega | (simp; omega) | (simp only [World.size_alloc]; omega))) | (with_reducible refine below_trans ?_ (by assumption))))⟩; simp_all [PMeta.err, PMeta.may] <;> omega)

set_option maxRecDepth 100000 in
theorem metaPut_c (m : PMeta) (hm : m.wf) (w : World) :
    Calls Tryz.prog 87 #[.agg #[.int .u8 m.kind, .int .u32 m.size, .int .u64 m.mark, .int .u64 m.stamp]] w (Ret w (.tuple #[.string m.text, .int .i64 m.err])) := by
  obtain ⟨k, s, mk, st⟩ := m
  obtain ⟨⟨h1, h1'⟩, ⟨h2, h2'⟩, ⟨h3, h3'⟩, ⟨h4, h4'⟩⟩ := hm
  simp only at h1 h1' h2 h2' h3 h3' h4 h4' ⊢
  by_cases hy : (PMeta.mk k s mk st).may = true
  · have HE := Aside.mk (PMeta.err_yes hy)
    have HT := Aside.mk (PMeta.text_yes hy)
    clear hy
    go_enter Tryz.func87, Tryz.ntmps87
    go_wp2_with fail
    refine (metaCheck_c k s mk st h2 h3 _).mono ?_
    rintro e w1 ⟨rfl, hb⟩
    rw [HE.out]
    have hz : w.heap.size < w1.heap.size := by have := hb.size; simp at this; omega
    have hB : w1.heap[w.heap.size]? = some (.cells #[.int .u8 k, .int .u32 s, .int .u64 mk, .int .u64 st] 76 (0, 0)) := below_keep hb (heap_new w _)
    have d0 := cell_of hB 0
    have d1 := cell_of hB 1
    have d2 := cell_of hB 2
    have d3 := cell_of hB 3
    simp at d0 d1 d2 d3
    go_wp2_with fail
    have hS := WrS.new (heap_new w1 (.cells #[.slice none 0 0, .int .i64 0] 142))
    have hB' := heap_alloc hB (.cells #[.slice none 0 0, .int .i64 0] 142)
    clear d0 d1 d2 d3
    refine (wrsU8_c _ hS k h1 h1' (by simp)).mono ?_
    rintro e w2 ⟨rfl, hS2⟩
    have d1 := cell_of (hS2.keep hB' (by omega)) 1
    simp at d1
    go_wp2_with fail
    refine (wrsU32_c _ hS2 s h2 h2' (by simp [numBytes_length])).mono ?_
    rintro e w3 ⟨rfl, hS3⟩
    have d2 := cell_of (hS3.keep hB' (by omega)) 2
    simp at d2
    go_wp2_with fail
    refine (wrsU64_c _ hS3 mk h3 h3' (by simp [numBytes_length])).mono ?_
    rintro e w4 ⟨rfl, hS4⟩
    have d3 := cell_of (hS4.keep hB' (by omega)) 3
    simp at d3
    go_wp2_with fail
    refine (wrsU64_c _ hS4 st h4 h4' (by simp [numBytes_length])).mono ?_
    rintro e w5 ⟨rfl, hS5⟩
    go_wp2_with fail
    refine (wrsBytes_c _ hS5).mono ?_
    rintro e w6 ⟨rfl, rfl⟩
    go_wp2_with fail
    go_ret2
    refine ⟨by rw [HE.out, HT.out]; rfl, ?_⟩
    have hz2 := hb.size
    simp at hz2
    exact below_touch (below_alloc (below_trans (below_alloc (Below.refl _ _) _) hb) _) hS5.touch (by intro i hi e; omega)
  · have HE := Aside.mk (PMeta.err_no hy)
    have HT := Aside.mk (PMeta.text_no hy)
    clear hy
    go_enter Tryz.func87, Tryz.ntmps87
    go_wp2_with fail
    refine (metaCheck_c k s mk st h2 h3 _).mono ?_
    rintro e w1 ⟨rfl, hb⟩
    rw [HE.out]
    go_wp2_with fail
    go_ret2
    exact ⟨by rw [HE.out, HT.out]; rfl, (by repeat (first | (with_reducible first | exact Below.refl _ _ | assumption | refine below_drewN ?_ _ | refine Below.drew ?_ | refine below_alloc ?_ _) | (with_reducible refine below_set ?_ ?side _; (case side => first | omega | (simp; omega) | (simp only [World.size_alloc]; omega))) | (with_reducible refine below_trans ?_ (by assumption))))⟩
end Go.Proofs.YtmggpfngbkbkmaaGreatDoor
/- What package meta does (2): Take, changes. -/
namespace Go.Proofs.YtmggpfngbkbkmaaGreatDoor
open Go.RowKit
set_option linter.unusedVariables false
set_option linter.unusedSimpArgs false

theorem toList_nil (s : ByteArray) : s.toList = [] ↔ s.size = 0 := by
  rw [ByteArray.toList_eq]
  constructor
  · intro h; have : s.data.toList.length = 0 := by rw [h]; rfl
    simpa using this
  · intro h; exact List.eq_nil_of_length_eq_zero (by simpa using h)
theorem heap_new' (w : World) (o : Obj) {g : Nat} (h : w.heap.size = g) : (w.alloc o).heap[g]? = some o := by subst h; exact heap_new w o
theorem rd_new (w : World) (s : ByteArray) {g : Nat} (h : w.heap.size = g) : RdAt (w.alloc (.cells #[.string s, .int .i64 0] 172)) g (some s) := heap_new' w _ h

theorem whole_c (g : Nat) (r : Option ByteArray) (w : World) (h : RdAt w g r) :
    Calls Tryz.prog 118 #[.pointer (some ⟨g, 0, none⟩)] w fun e w' => e = .returned (.int .i64 (wholeE r)) ∧ w = w' := by
  cases r with
  | none =>
    have hw := Aside.mk (show wholeE none = 10 from rfl)
    have he := Aside.mk (show rdErr none = 10 from rfl)
    go_enter Tryz.func118, Tryz.ntmps118
    go_wp2_with (go_at_call 111; refine (rdErr_c g _ _ h).mono ?_; rintro e w1 ⟨rfl, rfl⟩; rw [he.out])
    go_ret
    exact ⟨by rw [hw.out]; rfl, rfl⟩
  | some s =>
    have he := Aside.mk (show rdErr (some s) = 0 from rfl)
    have hr := Aside.mk (show rdRest (some s) = s from rfl)
    by_cases hs : s.size = 0
    · have hw := Aside.mk (show wholeE (some s) = 0 from if_pos hs)
      have ht : (s.toList == ([] : List UInt8)) = true := by simpa [toList_nil] using hs
      clear hs
      go_enter Tryz.func118, Tryz.ntmps118
      go_wp2_with (first | (go_at_call 111; refine (rdErr_c g _ _ h).mono ?_; rintro e w1 ⟨rfl, rfl⟩; rw [he.out]) | (go_at_call 112; refine (rdRest_c g _ _ h).mono ?_; rintro e w1 ⟨rfl, rfl⟩; rw [hr.out]))
      go_ret
      exact ⟨by rw [hw.out]; rfl, rfl⟩
    · have hw := Aside.mk (show wholeE (some s) = 4 from if_neg hs)
      have ht : (s.toList == ([] : List UInt8)) = false := by simpa [toList_nil] using hs
      clear hs
      go_enter Tryz.func118, Tryz.ntmps118
      go_wp2_with (first | (go_at_call 111; refine (rdErr_c g _ _ h).mono ?_; rintro e w1 ⟨rfl, rfl⟩; rw [he.out]) | (go_at_call 112; refine (rdRest_c g _ _ h).mono ?_; rintro e w1 ⟨rfl, rfl⟩; rw [hr.out]))
      go_ret
      exact ⟨by rw [hw.out]; rfl, rfl⟩

set_option maxHeartbeats 4000000 in
set_option maxRecDepth 100000 in
theorem metaTake_c (s : ByteArray) (w : World) :
    Calls Tryz.prog 85 #[.string s] w (Ret w (.tuple #[.agg #[.int .u8 (metaV s).kind, .int .u32 (metaV s).size, .int .u64 (metaV s).mark, .int .u64 (metaV s).stamp], .int .i64 (metaE s)])) := by
  have hwf := rdMeta_wf s
  obtain ⟨⟨k1, k2⟩, ⟨s1, s2⟩, ⟨m1, m2⟩, ⟨t1, t2⟩⟩ := hwf
  have HM := Aside.mk (show rdMeta s = ⟨numV (some s) 1, numV (fixR (some s) 1) 4, numV (fixR (fixR (some s) 1) 4) 8, numV (fixR (fixR (fixR (some s) 1) 4) 8) 8⟩ from rfl)
  go_enter Tryz.func85, Tryz.ntmps85
  go_wp2_with (go_at_call 108; refine (rdNew_c s _).mono ?_; rintro e w1 ⟨rfl, rfl⟩)
  have hR := rd_new (w.alloc (.cells #[.int .u8 0, .int .u32 0, .int .u64 0, .int .u64 0] 76)) s (g := w.heap.size + 1) (by simp)
  have hO := heap_alloc (heap_new w (.cells #[.int .u8 0, .int .u32 0, .int .u64 0, .int .u64 0] 76)) (.cells #[.string s, .int .i64 0] 172)
  refine (rdU8_c _ _ _ hR).mono ?_
  rintro e w1 ⟨rfl, hR1, ht1⟩
  have hz1 := ht1.size
  simp at hz1
  have hO1 := ht1.keep hO (by omega)
  go_wp2_with fail
  refine (rdU32_c _ _ _ hR1).mono ?_
  rintro e w2 ⟨rfl, hR2, ht2⟩
  have hO2 := ht2.keep hO1 (by omega)
  go_wp2_with fail
  refine (rdU64_c _ _ _ hR2).mono ?_
  rintro e w3 ⟨rfl, hR3, ht3⟩
  have hO3 := ht3.keep hO2 (by omega)
  go_wp2_with fail
  refine (rdU64_c _ _ _ hR3).mono ?_
  rintro e w4 ⟨rfl, hR4, ht4⟩
  have hO4 := ht4.keep hO3 (by omega)
  have hT := ((ht1.trans ht2).trans ht3).trans ht4
  have hz4 := hT.size
  simp at hz4
  go_wp2_with fail
  have hR5 : RdAt (w4.alloc (.cells #[.int .u8 (numV (some s) 1), .int .u32 (numV (fixR (some s) 1) 4), .int .u64 (numV (fixR (fixR (some s) 1) 4) 8), .int .u64 (numV (fixR (fixR (fixR (some s) 1) 4) 8) 8)] 76)) (w.heap.size + 1) (rdMetaR s) := heap_alloc hR4 _
  have hO5 := heap_alloc hO4 (.cells #[.int .u8 (numV (some s) 1), .int .u32 (numV (fixR (some s) 1) 4), .int .u64 (numV (fixR (fixR (some s) 1) 4) 8), .int .u64 (numV (fixR (fixR (fixR (some s) 1) 4) 8) 8)] 76)
  have hM5 := heap_new w4 (.cells #[.int .u8 (numV (some s) 1), .int .u32 (numV (fixR (some s) 1) 4), .int .u64 (numV (fixR (fixR (some s) 1) 4) 8), .int .u64 (numV (fixR (fixR (fixR (some s) 1) 4) 8) 8)] 76)
  have hB4 : Below w.heap.size w w4 := below_touch (below_alloc (below_alloc (Below.refl _ _) _) _) hT (by intro i hi e; omega)
  refine (whole_c _ _ _ hR5).mono ?_
  rintro e w5 ⟨rfl, rfl⟩
  by_cases hw : wholeE (rdMetaR s) = 0
  · by_cases hm : (rdMeta s).err = 0
    · have HE := Aside.mk (show metaE s = 0 by unfold metaE; rw [if_pos hw, hm])
      have HV := Aside.mk (show metaV s = rdMeta s from if_pos HE.out)
      rw [hw]
      have HC := Aside.mk hm
      clear hw hm
      go_wp2_with fail
      refine (metaCheck_c _ _ _ _ (by omega) (by omega) _).mono ?_
      rintro e w6 ⟨rfl, hb6⟩
      rw [show (PMeta.mk (numV (some s) 1) (numV (fixR (some s) 1) 4) (numV (fixR (fixR (some s) 1) 4) 8) (numV (fixR (fixR (fixR (some s) 1) 4) 8) 8)).err = 0 from HC.out]
      have hM6 := below_keep hb6 hM5
      have hO6 := below_keep hb6 hO5
      have d0 := cell_of hM6 0
      have d1 := cell_of hM6 1
      have d2 := cell_of hM6 2
      have d3 := cell_of hM6 3
      have o0 := cell_of hO6 0
      have o1 := cell_of hO6 1
      have o2 := cell_of hO6 2
      have o3 := cell_of hO6 3
      have f0 := free_of hO6 0
      have f1 := free_of hO6 1
      have f2 := free_of hO6 2
      have f3 := free_of hO6 3
      simp at d0 d1 d2 d3 o0 o1 o2 o3
      go_wp2_with fail
      go_tidy
      refine bodyPost_ret (v := .tuple #[.agg #[.int .u8 (numV (some s) 1), .int .u32 (numV (fixR (some s) 1) 4), .int .u64 (numV (fixR (fixR (some s) 1) 4) 8), .int .u64 (numV (fixR (fixR (fixR (some s) 1) 4) 8) 8)], .int .i64 0]) (by simp [results, Tryz.results85, go_sem, o0, o1, o2, o3]) rfl ⟨by rw [HE.out, HV.out]; rfl, ?_⟩
      repeat (first | (with_reducible first | exact Below.refl _ _ | assumption | refine below_drewN ?_ _ | refine Below.drew ?_ | refine below_alloc ?_ _) | (with_reducible refine below_set ?_ ?side _; (case side => first | omega | (simp; omega) | (simp only [World.size_alloc]; omega))) | (with_reducible refine below_trans ?_ (by assumption)))
    · have hm4 : (rdMeta s).err = 4 := PMeta.err_no (fun h => hm (PMeta.err_yes h))
      have HE := Aside.mk (show metaE s = 4 by unfold metaE; rw [if_pos hw, hm4])
      have HV := Aside.mk (show metaV s = PMeta.zero from if_neg (by rw [HE.out]; decide))
      rw [hw]
      have HC := Aside.mk hm4
      clear hw hm hm4
      go_wp2_with fail
      refine (metaCheck_c _ _ _ _ (by omega) (by omega) _).mono ?_
      rintro e w6 ⟨rfl, hb6⟩
      rw [show (PMeta.mk (numV (some s) 1) (numV (fixR (some s) 1) 4) (numV (fixR (fixR (some s) 1) 4) 8) (numV (fixR (fixR (fixR (some s) 1) 4) 8) 8)).err = 4 from HC.out]
      have hO6 := below_keep hb6 hO5
      have o0 := cell_of hO6 0
      have o1 := cell_of hO6 1
      have o2 := cell_of hO6 2
      have o3 := cell_of hO6 3
      have f0 := free_of hO6 0
      have f1 := free_of hO6 1
      have f2 := free_of hO6 2
      have f3 := free_of hO6 3
      simp at o0 o1 o2 o3
      go_wp2_with fail
      go_tidy
      refine bodyPost_ret (v := .tuple #[.agg #[.int .u8 0, .int .u32 0, .int .u64 0, .int .u64 0], .int .i64 4]) (by simp [results, Tryz.results85, go_sem, o0, o1, o2, o3]) rfl ⟨by rw [HE.out, HV.out]; rfl, ?_⟩
      repeat (first | (with_reducible first | exact Below.refl _ _ | assumption | refine below_drewN ?_ _ | refine Below.drew ?_ | refine below_alloc ?_ _) | (with_reducible refine below_set ?_ ?side _; (case side => first | omega | (simp; omega) | (simp only [World.size_alloc]; omega))) | (with_reducible refine below_trans ?_ (by assumption)))
  · have HE := Aside.mk (show metaE s = wholeE (rdMetaR s) by unfold metaE; rw [if_neg hw])
    have HV := Aside.mk (show metaV s = PMeta.zero from if_neg (by rw [HE.out]; exact hw))
    have e1 : (wholeE (rdMetaR s) == 0) = false := beq_eq_false_iff_ne.2 hw
    have e2 : (wholeE (rdMetaR s) != 0) = true := bne_iff_ne.2 hw
    clear hw
    generalize wholeE (rdMetaR s) = x at HE e1 e2 ⊢
    have o0 := cell_of hO5 0
    have o1 := cell_of hO5 1
    have o2 := cell_of hO5 2
    have o3 := cell_of hO5 3
    have f0 := free_of hO5 0
    have f1 := free_of hO5 1
    have f2 := free_of hO5 2
    have f3 := free_of hO5 3
    simp at o0 o1 o2 o3
    go_wp2_with fail
    go_tidy
    refine bodyPost_ret (v := .tuple #[.agg #[.int .u8 0, .int .u32 0, .int .u64 0, .int .u64 0], .int .i64 x]) (by simp [results, Tryz.results85, go_sem, o0, o1, o2, o3]) rfl ⟨by rw [HE.out, HV.out]; rfl, ?_⟩
    repeat (first | (with_reducible first | exact Below.refl _ _ | assumption | refine below_drewN ?_ _ | refine Below.drew ?_ | refine below_alloc ?_ _) | (with_reducible refine below_set ?_ ?side _; (case side => first | omega | (simp; omega) | (simp only [World.size_alloc]; omega))) | (with_reducible refine below_trans ?_ (by assumption)))

end Go.Proofs.YtmggpfngbkbkmaaGreatDoor
/- What package meta does (3): changes. -/
namespace Go.Proofs.YtmggpfngbkbkmaaGreatDoor
open Go.RowKit
set_option linter.unusedVariables false
set_option linter.unusedSimpArgs false

theorem ret_bool {a b : Bool} (h : a = b) : Ending.returned (.bool a) = .returned (.bool b) := by rw [h]
set_option maxHeartbeats 1000000 in
set_option maxRecDepth 100000 in
theorem changeMay_c (a n o b : Int) (hn0 : 0 ≤ n) (ho0 : 0 ≤ o) (w : World) :
    Calls Tryz.prog 120 #[.agg #[.int .u8 a, .int .u64 n, .int .u8 o, .int .u64 b]] w (Ret w (.bool (PChange.mk a n o b).may)) := by
  go_enter Tryz.func120, Tryz.ntmps120
  go_wp2_with fail
  all_goals (go_ret; go_tidy)
  all_goals (refine ⟨ret_bool ?_, (by repeat (first | (with_reducible first | exact Below.refl _ _ | assumption | refine below_drewN ?_ _ | refine Below.drew ?_ | refine below_alloc ?_ _) | (with_reducible refine below_set ?_ ?side _; (case side => first | omega | (simp; omega) | (simp only [World.size_alloc]; omega))) | (with_reducible refine below_trans ?_ (by assumption))))⟩)
  all_goals (simp_all [PChange.may] <;> try omega)

/-- The facts of a block of four cells. -/
theorem four {w : World} {k : Nat} {c0 c1 c2 c3 : Value} {T : TypeId} (h : w.heap[k]? = some (.cells #[c0, c1, c2, c3] T (0, 0))) :
    (w.cell? ⟨k, 0, none⟩ = some c0 ∧ w.cell? ⟨k, 1, none⟩ = some c1 ∧ w.cell? ⟨k, 2, none⟩ = some c2 ∧ w.cell? ⟨k, 3, none⟩ = some c3) ∧
    (w.frozen? ⟨k, 0, none⟩ = false ∧ w.frozen? ⟨k, 1, none⟩ = false ∧ w.frozen? ⟨k, 2, none⟩ = false ∧ w.frozen? ⟨k, 3, none⟩ = false) := by
  refine ⟨⟨?_, ?_, ?_, ?_⟩, free_of h 0, free_of h 1, free_of h 2, free_of h 3⟩ <;> rw [cell_of h] <;> rfl

end Go.Proofs.YtmggpfngbkbkmaaGreatDoor
/- What package meta does (4): TakeChange. -/
namespace Go.Proofs.YtmggpfngbkbkmaaGreatDoor
open Go.RowKit
set_option linter.unusedVariables false
set_option linter.unusedSimpArgs false

set_option maxHeartbeats 8000000 in
set_option maxRecDepth 100000 in
theorem takeChange1_c (s : ByteArray) (hs : ¬ s.size = 0) (hK : rdWhat s = 1) (w : World) :
    Calls Tryz.prog 86 #[.string s] w (Ret w (.tuple #[.agg #[.int .u8 (changeV s).what, .int .u64 (changeV s).n, .int .u8 (changeV s).op, .int .u64 (changeV s).by_], .int .i64 (changeE s)])) := by
  have hk : ¬ (rdWhat s = 0 ∨ 4 < rdWhat s) := by omega
  have HRR := Aside.mk (show rdChangeR s = fixR (fixR (some s) 1) 4 by unfold rdChangeR; rw [if_neg (by omega), if_neg (by omega)])
  have HCC := Aside.mk (show rdChange s = ⟨(1 : Int), (numV (fixR (some s) 1) 4 : Int), (0 : Int), (0 : Int)⟩ by unfold rdChange; rw [if_neg (by omega), if_neg (by omega), hK]; rfl)
  have HK := Aside.mk (show numV (some s) 1 = 1 from hK)
  have hN := numV_lt (fixR (some s) 1) 4
  have hte : (s.toList == ([] : List UInt8)) = false := by simpa [toList_nil] using hs
  clear hK
  go_enter Tryz.func86, Tryz.ntmps86
  go_wp2_with (go_at_call 108; refine (rdNew_c s _).mono ?_; rintro e w1 ⟨rfl, rfl⟩)
  have hR := rd_new (w.alloc (.cells #[.int .u8 0, .int .u64 0, .int .u8 0, .int .u64 0] 113)) s (g := w.heap.size + 1) (by simp)
  have hO := heap_alloc (heap_new w (.cells #[.int .u8 0, .int .u64 0, .int .u8 0, .int .u64 0] 113)) (.cells #[.string s, .int .i64 0] 172)
  refine (rdU8_c _ _ _ hR).mono ?_
  rintro e w1 ⟨rfl, hR1, ht1⟩
  rw [HK.out]
  have hz1 := ht1.size
  simp at hz1
  have hO1 := heap_alloc (ht1.keep hO (by omega)) (.cells #[.int .u8 1, .int .u64 0, .int .u8 0, .int .u64 0] 113)
  have hM1 := heap_new w1 (.cells #[.int .u8 1, .int .u64 0, .int .u8 0, .int .u64 0] 113)
  have hR1' : RdAt (w1.alloc (.cells #[.int .u8 1, .int .u64 0, .int .u8 0, .int .u64 0] 113)) (w.heap.size + 1) (fixR (some s) 1) := heap_alloc hR1 _
  go_wp2_with fail
  refine (rdU32_c _ _ _ hR1').mono ?_
  rintro e w2 ⟨rfl, hR2, ht2⟩
  have hz2 := ht2.size
  simp at hz2
  have hO2 := ht2.keep hO1 (by omega)
  have hM2 := ht2.keep hM1 (by omega)
  obtain ⟨⟨d0, d1, d2, d3⟩, g0, g1, g2, g3⟩ := four hM2
  have hwr : IntKind.u64.wrap (numV (fixR (some s) 1) 4 : Int) = (numV (fixR (some s) 1) 4 : Int) := wrap_u64 _ (by omega) (by omega)
  go_wp2_with fail
  have hR5 : RdAt (w2.setCell ⟨w1.heap.size, 1, none⟩ (.int .u64 (numV (fixR (some s) 1) 4))) (w.heap.size + 1) (fixR (fixR (some s) 1) 4) := (heap_set_ne (by omega) _ _).trans hR2
  have hO5 := (heap_set_ne (g := w.heap.size) (k := w1.heap.size) (by omega) 1 (.int .u64 (numV (fixR (some s) 1) 4))).trans hO2
  have hM5 : (w2.setCell ⟨w1.heap.size, 1, none⟩ (.int .u64 (numV (fixR (some s) 1) 4))).heap[w1.heap.size]? = some (.cells #[.int .u8 (1 : Int), .int .u64 (numV (fixR (some s) 1) 4 : Int), .int .u8 (0 : Int), .int .u64 (0 : Int)] 113 (0, 0)) := heap_set hM2 1 _
  have hB4 : Below w.heap.size w w2 := below_touch (below_alloc (below_touch (below_alloc (below_alloc (Below.refl _ _) _) _) ht1 (by intro i hi e; omega)) _) ht2 (by intro i hi e; omega)
  refine (whole_c _ _ _ hR5).mono ?_
  rintro e w5 ⟨rfl, rfl⟩
  obtain ⟨⟨o0, o1, o2, o3⟩, f0, f1, f2, f3⟩ := four hO5
  by_cases hw : wholeE (fixR (fixR (some s) 1) 4) = 0
  · by_cases hm : (PChange.mk ((1 : Int)) ((numV (fixR (some s) 1) 4 : Int)) ((0 : Int)) ((0 : Int))).may = true
    · have HE := Aside.mk (show changeE s = 0 by unfold changeE; rw [if_neg hs, if_neg hk, HRR.out, HCC.out, if_pos hw, if_pos hm])
      have HV := Aside.mk (show changeV s = rdChange s from if_pos HE.out)
      rw [hw]
      have HC := Aside.mk hm
      clear hw hm hs hk
      go_wp2_with fail
      refine (changeMay_c (1 : Int) (numV (fixR (some s) 1) 4 : Int) (0 : Int) (0 : Int) (by omega) (by omega) _).mono ?_
      rintro e w6 ⟨rfl, hb6⟩
      rw [HC.out]
      have hM6 := below_keep hb6 hM5
      have hO6 := below_keep hb6 hO5
      clear o0 o1 o2 o3 f0 f1 f2 f3
      obtain ⟨⟨o0, o1, o2, o3⟩, f0, f1, f2, f3⟩ := four hO6
      obtain ⟨⟨d0, d1, d2, d3⟩, g0, g1, g2, g3⟩ := four hM6
      go_wp2_with fail
      go_tidy
      refine bodyPost_ret (v := .tuple #[.agg #[.int .u8 ((1 : Int)), .int .u64 ((numV (fixR (some s) 1) 4 : Int)), .int .u8 ((0 : Int)), .int .u64 ((0 : Int))], .int .i64 0]) (by simp [results, Tryz.results86, go_sem, o0, o1, o2, o3]) rfl ⟨by rw [HE.out, HV.out, HCC.out], ?_⟩
      repeat (first | (with_reducible first | exact Below.refl _ _ | assumption | refine below_drewN ?_ _ | refine Below.drew ?_ | refine below_alloc ?_ _) | (with_reducible refine below_set ?_ ?side _; (case side => first | omega | (simp; omega) | (simp only [World.size_alloc]; omega))) | (with_reducible refine below_trans ?_ (by assumption)))
    · have HE := Aside.mk (show changeE s = 4 by unfold changeE; rw [if_neg hs, if_neg hk, HRR.out, HCC.out, if_pos hw, if_neg hm])
      have HV := Aside.mk (show changeV s = PChange.zero from if_neg (by rw [HE.out]; decide))
      rw [hw]
      have HC := Aside.mk (Bool.eq_false_iff.2 hm)
      clear hw hm hs hk
      go_wp2_with fail
      refine (changeMay_c (1 : Int) (numV (fixR (some s) 1) 4 : Int) (0 : Int) (0 : Int) (by omega) (by omega) _).mono ?_
      rintro e w6 ⟨rfl, hb6⟩
      rw [HC.out]
      have hO6 := below_keep hb6 hO5
      clear o0 o1 o2 o3 f0 f1 f2 f3
      obtain ⟨⟨o0, o1, o2, o3⟩, f0, f1, f2, f3⟩ := four hO6
      go_wp2_with fail
      go_tidy
      refine bodyPost_ret (v := .tuple #[.agg #[.int .u8 0, .int .u64 0, .int .u8 0, .int .u64 0], .int .i64 4]) (by simp [results, Tryz.results86, go_sem, o0, o1, o2, o3]) rfl ⟨by rw [HE.out, HV.out]; rfl, ?_⟩
      repeat (first | (with_reducible first | exact Below.refl _ _ | assumption | refine below_drewN ?_ _ | refine Below.drew ?_ | refine below_alloc ?_ _) | (with_reducible refine below_set ?_ ?side _; (case side => first | omega | (simp; omega) | (simp only [World.size_alloc]; omega))) | (with_reducible refine below_trans ?_ (by assumption)))
  · have HE := Aside.mk (show changeE s = wholeE (fixR (fixR (some s) 1) 4) by unfold changeE; rw [if_neg hs, if_neg hk, HRR.out, if_neg hw])
    have HV := Aside.mk (show changeV s = PChange.zero from if_neg (by rw [HE.out]; exact hw))
    have e1 : (wholeE (fixR (fixR (some s) 1) 4) == 0) = false := beq_eq_false_iff_ne.2 hw
    have e2 : (wholeE (fixR (fixR (some s) 1) 4) != 0) = true := bne_iff_ne.2 hw
    clear hw hs hk
    generalize wholeE (fixR (fixR (some s) 1) 4) = x at HE e1 e2 ⊢
    go_wp2_with fail
    go_tidy
    refine bodyPost_ret (v := .tuple #[.agg #[.int .u8 0, .int .u64 0, .int .u8 0, .int .u64 0], .int .i64 x]) (by simp [results, Tryz.results86, go_sem, o0, o1, o2, o3]) rfl ⟨by rw [HE.out, HV.out]; rfl, ?_⟩
    repeat (first | (with_reducible first | exact Below.refl _ _ | assumption | refine below_drewN ?_ _ | refine Below.drew ?_ | refine below_alloc ?_ _) | (with_reducible refine below_set ?_ ?side _; (case side => first | omega | (simp; omega) | (simp only [World.size_alloc]; omega))) | (with_reducible refine below_trans ?_ (by assumption)))
end Go.Proofs.YtmggpfngbkbkmaaGreatDoor
/- What package meta does (5): TakeChange. -/
namespace Go.Proofs.YtmggpfngbkbkmaaGreatDoor
open Go.RowKit
set_option linter.unusedVariables false
set_option linter.unusedSimpArgs false

set_option maxHeartbeats 8000000 in
set_option maxRecDepth 100000 in
theorem takeChange4_c (s : ByteArray) (hs : ¬ s.size = 0) (hK : rdWhat s = 4) (w : World) :
    Calls Tryz.prog 86 #[.string s] w (Ret w (.tuple #[.agg #[.int .u8 (changeV s).what, .int .u64 (changeV s).n, .int .u8 (changeV s).op, .int .u64 (changeV s).by_], .int .i64 (changeE s)])) := by
  have hk : ¬ (rdWhat s = 0 ∨ 4 < rdWhat s) := by omega
  have HRR := Aside.mk (show rdChangeR s = fixR (fixR (some s) 1) 8 by unfold rdChangeR; rw [if_neg (by omega), if_pos (by omega)])
  have HCC := Aside.mk (show rdChange s = ⟨(4 : Int), (numV (fixR (some s) 1) 8 : Int), (0 : Int), (0 : Int)⟩ by unfold rdChange; rw [if_neg (by omega), if_pos (by omega), hK]; rfl)
  have HK := Aside.mk (show numV (some s) 1 = 4 from hK)
  have hN := numV_lt (fixR (some s) 1) 8
  have hte : (s.toList == ([] : List UInt8)) = false := by simpa [toList_nil] using hs
  clear hK
  go_enter Tryz.func86, Tryz.ntmps86
  go_wp2_with (go_at_call 108; refine (rdNew_c s _).mono ?_; rintro e w1 ⟨rfl, rfl⟩)
  have hR := rd_new (w.alloc (.cells #[.int .u8 0, .int .u64 0, .int .u8 0, .int .u64 0] 113)) s (g := w.heap.size + 1) (by simp)
  have hO := heap_alloc (heap_new w (.cells #[.int .u8 0, .int .u64 0, .int .u8 0, .int .u64 0] 113)) (.cells #[.string s, .int .i64 0] 172)
  refine (rdU8_c _ _ _ hR).mono ?_
  rintro e w1 ⟨rfl, hR1, ht1⟩
  rw [HK.out]
  have hz1 := ht1.size
  simp at hz1
  have hO1 := heap_alloc (ht1.keep hO (by omega)) (.cells #[.int .u8 4, .int .u64 0, .int .u8 0, .int .u64 0] 113)
  have hM1 := heap_new w1 (.cells #[.int .u8 4, .int .u64 0, .int .u8 0, .int .u64 0] 113)
  have hR1' : RdAt (w1.alloc (.cells #[.int .u8 4, .int .u64 0, .int .u8 0, .int .u64 0] 113)) (w.heap.size + 1) (fixR (some s) 1) := heap_alloc hR1 _
  go_wp2_with fail
  refine (rdU64_c _ _ _ hR1').mono ?_
  rintro e w2 ⟨rfl, hR2, ht2⟩
  have hz2 := ht2.size
  simp at hz2
  have hO2 := ht2.keep hO1 (by omega)
  have hM2 := ht2.keep hM1 (by omega)
  obtain ⟨⟨d0, d1, d2, d3⟩, g0, g1, g2, g3⟩ := four hM2
  go_wp2_with fail
  have hR5 : RdAt (w2.setCell ⟨w1.heap.size, 1, none⟩ (.int .u64 (numV (fixR (some s) 1) 8))) (w.heap.size + 1) (fixR (fixR (some s) 1) 8) := (heap_set_ne (by omega) _ _).trans hR2
  have hO5 := (heap_set_ne (g := w.heap.size) (k := w1.heap.size) (by omega) 1 (.int .u64 (numV (fixR (some s) 1) 8))).trans hO2
  have hM5 : (w2.setCell ⟨w1.heap.size, 1, none⟩ (.int .u64 (numV (fixR (some s) 1) 8))).heap[w1.heap.size]? = some (.cells #[.int .u8 (4 : Int), .int .u64 (numV (fixR (some s) 1) 8 : Int), .int .u8 (0 : Int), .int .u64 (0 : Int)] 113 (0, 0)) := heap_set hM2 1 _
  have hB4 : Below w.heap.size w w2 := below_touch (below_alloc (below_touch (below_alloc (below_alloc (Below.refl _ _) _) _) ht1 (by intro i hi e; omega)) _) ht2 (by intro i hi e; omega)
  refine (whole_c _ _ _ hR5).mono ?_
  rintro e w5 ⟨rfl, rfl⟩
  obtain ⟨⟨o0, o1, o2, o3⟩, f0, f1, f2, f3⟩ := four hO5
  by_cases hw : wholeE (fixR (fixR (some s) 1) 8) = 0
  · by_cases hm : (PChange.mk ((4 : Int)) ((numV (fixR (some s) 1) 8 : Int)) ((0 : Int)) ((0 : Int))).may = true
    · have HE := Aside.mk (show changeE s = 0 by unfold changeE; rw [if_neg hs, if_neg hk, HRR.out, HCC.out, if_pos hw, if_pos hm])
      have HV := Aside.mk (show changeV s = rdChange s from if_pos HE.out)
      rw [hw]
      have HC := Aside.mk hm
      clear hw hm hs hk
      go_wp2_with fail
      refine (changeMay_c (4 : Int) (numV (fixR (some s) 1) 8 : Int) (0 : Int) (0 : Int) (by omega) (by omega) _).mono ?_
      rintro e w6 ⟨rfl, hb6⟩
      rw [HC.out]
      have hM6 := below_keep hb6 hM5
      have hO6 := below_keep hb6 hO5
      clear o0 o1 o2 o3 f0 f1 f2 f3
      obtain ⟨⟨o0, o1, o2, o3⟩, f0, f1, f2, f3⟩ := four hO6
      obtain ⟨⟨d0, d1, d2, d3⟩, g0, g1, g2, g3⟩ := four hM6
      go_wp2_with fail
      go_tidy
      refine bodyPost_ret (v := .tuple #[.agg #[.int .u8 ((4 : Int)), .int .u64 ((numV (fixR (some s) 1) 8 : Int)), .int .u8 ((0 : Int)), .int .u64 ((0 : Int))], .int .i64 0]) (by simp [results, Tryz.results86, go_sem, o0, o1, o2, o3]) rfl ⟨by rw [HE.out, HV.out, HCC.out], ?_⟩
      repeat (first | (with_reducible first | exact Below.refl _ _ | assumption | refine below_drewN ?_ _ | refine Below.drew ?_ | refine below_alloc ?_ _) | (with_reducible refine below_set ?_ ?side _; (case side => first | omega | (simp; omega) | (simp only [World.size_alloc]; omega))) | (with_reducible refine below_trans ?_ (by assumption)))
    · have HE := Aside.mk (show changeE s = 4 by unfold changeE; rw [if_neg hs, if_neg hk, HRR.out, HCC.out, if_pos hw, if_neg hm])
      have HV := Aside.mk (show changeV s = PChange.zero from if_neg (by rw [HE.out]; decide))
      rw [hw]
      have HC := Aside.mk (Bool.eq_false_iff.2 hm)
      clear hw hm hs hk
      go_wp2_with fail
      refine (changeMay_c (4 : Int) (numV (fixR (some s) 1) 8 : Int) (0 : Int) (0 : Int) (by omega) (by omega) _).mono ?_
      rintro e w6 ⟨rfl, hb6⟩
      rw [HC.out]
      have hO6 := below_keep hb6 hO5
      clear o0 o1 o2 o3 f0 f1 f2 f3
      obtain ⟨⟨o0, o1, o2, o3⟩, f0, f1, f2, f3⟩ := four hO6
      go_wp2_with fail
      go_tidy
      refine bodyPost_ret (v := .tuple #[.agg #[.int .u8 0, .int .u64 0, .int .u8 0, .int .u64 0], .int .i64 4]) (by simp [results, Tryz.results86, go_sem, o0, o1, o2, o3]) rfl ⟨by rw [HE.out, HV.out]; rfl, ?_⟩
      repeat (first | (with_reducible first | exact Below.refl _ _ | assumption | refine below_drewN ?_ _ | refine Below.drew ?_ | refine below_alloc ?_ _) | (with_reducible refine below_set ?_ ?side _; (case side => first | omega | (simp; omega) | (simp only [World.size_alloc]; omega))) | (with_reducible refine below_trans ?_ (by assumption)))
  · have HE := Aside.mk (show changeE s = wholeE (fixR (fixR (some s) 1) 8) by unfold changeE; rw [if_neg hs, if_neg hk, HRR.out, if_neg hw])
    have HV := Aside.mk (show changeV s = PChange.zero from if_neg (by rw [HE.out]; exact hw))
    have e1 : (wholeE (fixR (fixR (some s) 1) 8) == 0) = false := beq_eq_false_iff_ne.2 hw
    have e2 : (wholeE (fixR (fixR (some s) 1) 8) != 0) = true := bne_iff_ne.2 hw
    clear hw hs hk
    generalize wholeE (fixR (fixR (some s) 1) 8) = x at HE e1 e2 ⊢
    go_wp2_with fail
    go_tidy
    refine bodyPost_ret (v := .tuple #[.agg #[.int .u8 0, .int .u64 0, .int .u8 0, .int .u64 0], .int .i64 x]) (by simp [results, Tryz.results86, go_sem, o0, o1, o2, o3]) rfl ⟨by rw [HE.out, HV.out]; rfl, ?_⟩
    repeat (first | (with_reducible first | exact Below.refl _ _ | assumption | refine below_drewN ?_ _ | refine Below.drew ?_ | refine below_alloc ?_ _) | (with_reducible refine below_set ?_ ?side _; (case side => first | omega | (simp; omega) | (simp only [World.size_alloc]; omega))) | (with_reducible refine below_trans ?_ (by assumption)))
end Go.Proofs.YtmggpfngbkbkmaaGreatDoor
/- What package meta does (6): TakeChange. -/
namespace Go.Proofs.YtmggpfngbkbkmaaGreatDoor
open Go.RowKit
set_option linter.unusedVariables false
set_option linter.unusedSimpArgs false

set_option maxHeartbeats 1200000 in
set_option maxRecDepth 100000 in
theorem takeChange3_c (s : ByteArray) (hs : ¬ s.size = 0) (hK : rdWhat s = 3) (w : World) :
    Calls Tryz.prog 86 #[.string s] w (Ret w (.tuple #[.agg #[.int .u8 (changeV s).what, .int .u64 (changeV s).n, .int .u8 (changeV s).op, .int .u64 (changeV s).by_], .int .i64 (changeE s)])) := by
  have hk : ¬ (rdWhat s = 0 ∨ 4 < rdWhat s) := by omega
  have HRR := Aside.mk (show rdChangeR s = fixR (fixR (fixR (some s) 1) 1) 8 by unfold rdChangeR; rw [if_pos (by omega)])
  have HCC := Aside.mk (show rdChange s = ⟨(3 : Int), (0 : Int), (numV (fixR (some s) 1) 1 : Int), (numV (fixR (fixR (some s) 1) 1) 8 : Int)⟩ by unfold rdChange; rw [if_pos (by omega), hK]; rfl)
  have HK := Aside.mk (show numV (some s) 1 = 3 from hK)
  have hte : (s.toList == ([] : List UInt8)) = false := by simpa [toList_nil] using hs
  clear hK
  go_enter Tryz.func86, Tryz.ntmps86
  go_wp2_with (go_at_call 108; refine (rdNew_c s _).mono ?_; rintro e w1 ⟨rfl, rfl⟩)
  have hR := rd_new (w.alloc (.cells #[.int .u8 0, .int .u64 0, .int .u8 0, .int .u64 0] 113)) s (g := w.heap.size + 1) (by simp)
  have hO := heap_alloc (heap_new w (.cells #[.int .u8 0, .int .u64 0, .int .u8 0, .int .u64 0] 113)) (.cells #[.string s, .int .i64 0] 172)
  refine (rdU8_c _ _ _ hR).mono ?_
  rintro e w1 ⟨rfl, hR1, ht1⟩
  rw [HK.out]
  have hz1 := ht1.size
  simp at hz1
  have hO1 := heap_alloc (ht1.keep hO (by omega)) (.cells #[.int .u8 3, .int .u64 0, .int .u8 0, .int .u64 0] 113)
  have hM1 := heap_new w1 (.cells #[.int .u8 3, .int .u64 0, .int .u8 0, .int .u64 0] 113)
  have hR1' : RdAt (w1.alloc (.cells #[.int .u8 3, .int .u64 0, .int .u8 0, .int .u64 0] 113)) (w.heap.size + 1) (fixR (some s) 1) := heap_alloc hR1 _
  go_wp2_with fail
  refine (rdU8_c _ _ _ hR1').mono ?_
  rintro e w2 ⟨rfl, hR2, ht2⟩
  have hz2 := ht2.size
  simp at hz2
  have hO2 := ht2.keep hO1 (by omega)
  have hM2 := ht2.keep hM1 (by omega)
  go_wp2_with fail
  refine (rdU64_c _ _ _ hR2).mono ?_
  rintro e w3 ⟨rfl, hR3, ht3⟩
  have hz3 := ht3.size
  have hO3 := ht3.keep hO2 (by omega)
  have hM3 := ht3.keep hM2 (by omega)
  obtain ⟨⟨d0, d1, d2, d3⟩, g0, g1, g2, g3⟩ := four hM3
  go_wp2_with fail
  have hR5 : RdAt ((w3.setCell ⟨w1.heap.size, 2, none⟩ (.int .u8 (numV (fixR (some s) 1) 1 : Int))).setCell ⟨w1.heap.size, 3, none⟩ (.int .u64 (numV (fixR (fixR (some s) 1) 1) 8 : Int))) (w.heap.size + 1) (fixR (fixR (fixR (some s) 1) 1) 8) := (heap_set_ne (by omega) _ _).trans ((heap_set_ne (by omega) _ _).trans hR3)
  have hO5 := (heap_set_ne (w := w3.setCell ⟨w1.heap.size, 2, none⟩ (.int .u8 (numV (fixR (some s) 1) 1 : Int))) (g := w.heap.size) (k := w1.heap.size) (by omega) 3 (.int .u64 (numV (fixR (fixR (some s) 1) 1) 8 : Int))).trans ((heap_set_ne (g := w.heap.size) (k := w1.heap.size) (by omega) 2 (.int .u8 (numV (fixR (some s) 1) 1 : Int))).trans hO3)
  have hM5 : ((w3.setCell ⟨w1.heap.size, 2, none⟩ (.int .u8 (numV (fixR (some s) 1) 1 : Int))).setCell ⟨w1.heap.size, 3, none⟩ (.int .u64 (numV (fixR (fixR (some s) 1) 1) 8 : Int))).heap[w1.heap.size]? = some (.cells #[.int .u8 (3 : Int), .int .u64 (0 : Int), .int .u8 (numV (fixR (some s) 1) 1 : Int), .int .u64 (numV (fixR (fixR (some s) 1) 1) 8 : Int)] 113 (0, 0)) := heap_set (heap_set hM3 2 _) 3 _
  have hB4 : Below w.heap.size w w3 := below_touch (below_touch (below_alloc (below_touch (below_alloc (below_alloc (Below.refl _ _) _) _) ht1 (by intro i hi e; omega)) _) ht2 (by intro i hi e; omega)) ht3 (by intro i hi e; omega)
  refine (whole_c _ _ _ hR5).mono ?_
  rintro e w5 ⟨rfl, rfl⟩
  obtain ⟨⟨o0, o1, o2, o3⟩, f0, f1, f2, f3⟩ := four hO5
  by_cases hw : wholeE (fixR (fixR (fixR (some s) 1) 1) 8) = 0
  · by_cases hm : (PChange.mk ((3 : Int)) ((0 : Int)) ((numV (fixR (some s) 1) 1 : Int)) ((numV (fixR (fixR (some s) 1) 1) 8 : Int))).may = true
    · have HE := Aside.mk (show changeE s = 0 by unfold changeE; rw [if_neg hs, if_neg hk, HRR.out, HCC.out, if_pos hw, if_pos hm])
      have HV := Aside.mk (show changeV s = rdChange s from if_pos HE.out)
      rw [hw]
      have HC := Aside.mk hm
      clear hw hm hs hk
      go_wp2_with fail
      refine (changeMay_c (3 : Int) (0 : Int) (numV (fixR (some s) 1) 1 : Int) (numV (fixR (fixR (some s) 1) 1) 8 : Int) (by omega) (by omega) _).mono ?_
      rintro e w6 ⟨rfl, hb6⟩
      rw [HC.out]
      have hM6 := below_keep hb6 hM5
      have hO6 := below_keep hb6 hO5
      clear o0 o1 o2 o3 f0 f1 f2 f3
      obtain ⟨⟨o0, o1, o2, o3⟩, f0, f1, f2, f3⟩ := four hO6
      obtain ⟨⟨d0, d1, d2, d3⟩, g0, g1, g2, g3⟩ := four hM6
      go_wp2_with fail
      go_tidy
      refine bodyPost_ret (v := .tuple #[.agg #[.int .u8 ((3 : Int)), .int .u64 ((0 : Int)), .int .u8 ((numV (fixR (some s) 1) 1 : Int)), .int .u64 ((numV (fixR (fixR (some s) 1) 1) 8 : Int))], .int .i64 0]) (by simp [results, Tryz.results86, go_sem, o0, o1, o2, o3]) rfl ⟨by rw [HE.out, HV.out, HCC.out], ?_⟩
      repeat (first | (with_reducible first | exact Below.refl _ _ | assumption | refine below_drewN ?_ _ | refine Below.drew ?_ | refine below_alloc ?_ _) | (with_reducible refine below_set ?_ ?side _; (case side => first | omega | (simp; omega) | (simp only [World.size_alloc]; omega))) | (with_reducible refine below_trans ?_ (by assumption)))
    · have HE := Aside.mk (show changeE s = 4 by unfold changeE; rw [if_neg hs, if_neg hk, HRR.out, HCC.out, if_pos hw, if_neg hm])
      have HV := Aside.mk (show changeV s = PChange.zero from if_neg (by rw [HE.out]; decide))
      rw [hw]
      have HC := Aside.mk (Bool.eq_false_iff.2 hm)
      clear hw hm hs hk
      go_wp2_with fail
      refine (changeMay_c (3 : Int) (0 : Int) (numV (fixR (some s) 1) 1 : Int) (numV (fixR (fixR (some s) 1) 1) 8 : Int) (by omega) (by omega) _).mono ?_
      rintro e w6 ⟨rfl, hb6⟩
      rw [HC.out]
      have hO6 := below_keep hb6 hO5
      clear o0 o1 o2 o3 f0 f1 f2 f3
      obtain ⟨⟨o0, o1, o2, o3⟩, f0, f1, f2, f3⟩ := four hO6
      go_wp2_with fail
      go_tidy
      refine bodyPost_ret (v := .tuple #[.agg #[.int .u8 0, .int .u64 0, .int .u8 0, .int .u64 0], .int .i64 4]) (by simp [results, Tryz.results86, go_sem, o0, o1, o2, o3]) rfl ⟨by rw [HE.out, HV.out]; rfl, ?_⟩
      repeat (first | (with_reducible first | exact Below.refl _ _ | assumption | refine below_drewN ?_ _ | refine Below.drew ?_ | refine below_alloc ?_ _) | (with_reducible refine below_set ?_ ?side _; (case side => first | omega | (simp; omega) | (simp only [World.size_alloc]; omega))) | (with_reducible refine below_trans ?_ (by assumption)))
  · have HE := Aside.mk (show changeE s = wholeE (fixR (fixR (fixR (some s) 1) 1) 8) by unfold changeE; rw [if_neg hs, if_neg hk, HRR.out, if_neg hw])
    have HV := Aside.mk (show changeV s = PChange.zero from if_neg (by rw [HE.out]; exact hw))
    have e1 : (wholeE (fixR (fixR (fixR (some s) 1) 1) 8) == 0) = false := beq_eq_false_iff_ne.2 hw
    have e2 : (wholeE (fixR (fixR (fixR (some s) 1) 1) 8) != 0) = true := bne_iff_ne.2 hw
    clear hw hs hk
    generalize wholeE (fixR (fixR (fixR (some s) 1) 1) 8) = x at HE e1 e2 ⊢
    go_wp2_with fail
    go_tidy
    refine bodyPost_ret (v := .tuple #[.agg #[.int .u8 0, .int .u64 0, .int .u8 0, .int .u64 0], .int .i64 x]) (by simp [results, Tryz.results86, go_sem, o0, o1, o2, o3]) rfl ⟨by rw [HE.out, HV.out]; rfl, ?_⟩
    repeat (first | (with_reducible first | exact Below.refl _ _ | assumption | refine below_drewN ?_ _ | refine Below.drew ?_ | refine below_alloc ?_ _) | (with_reducible refine below_set ?_ ?side _; (case side => first | omega | (simp; omega) | (simp only [World.size_alloc]; omega))) | (with_reducible refine below_trans ?_ (by assumption)))
end Go.Proofs.YtmggpfngbkbkmaaGreatDoor
/- What package meta does (4): TakeChange. -/
namespace Go.Proofs.YtmggpfngbkbkmaaGreatDoor
open Go.RowKit
set_option linter.unusedVariables false
set_option linter.unusedSimpArgs false

set_option maxHeartbeats 8000000 in
set_option maxRecDepth 100000 in
theorem takeChange2_c (s : ByteArray) (hs : ¬ s.size = 0) (hK : rdWhat s = 2) (w : World) :
    Calls Tryz.prog 86 #[.string s] w (Ret w (.tuple #[.agg #[.int .u8 (changeV s).what, .int .u64 (changeV s).n, .int .u8 (changeV s).op, .int .u64 (changeV s).by_], .int .i64 (changeE s)])) := by
  have hk : ¬ (rdWhat s = 0 ∨ 4 < rdWhat s) := by omega
  have HRR := Aside.mk (show rdChangeR s = fixR (fixR (some s) 1) 4 by unfold rdChangeR; rw [if_neg (by omega), if_neg (by omega)])
  have HCC := Aside.mk (show rdChange s = ⟨(2 : Int), (numV (fixR (some s) 1) 4 : Int), (0 : Int), (0 : Int)⟩ by unfold rdChange; rw [if_neg (by omega), if_neg (by omega), hK]; rfl)
  have HK := Aside.mk (show numV (some s) 1 = 2 from hK)
  have hN := numV_lt (fixR (some s) 1) 4
  have hte : (s.toList == ([] : List UInt8)) = false := by simpa [toList_nil] using hs
  clear hK
  go_enter Tryz.func86, Tryz.ntmps86
  go_wp2_with (go_at_call 108; refine (rdNew_c s _).mono ?_; rintro e w1 ⟨rfl, rfl⟩)
  have hR := rd_new (w.alloc (.cells #[.int .u8 0, .int .u64 0, .int .u8 0, .int .u64 0] 113)) s (g := w.heap.size + 1) (by simp)
  have hO := heap_alloc (heap_new w (.cells #[.int .u8 0, .int .u64 0, .int .u8 0, .int .u64 0] 113)) (.cells #[.string s, .int .i64 0] 172)
  refine (rdU8_c _ _ _ hR).mono ?_
  rintro e w1 ⟨rfl, hR1, ht1⟩
  rw [HK.out]
  have hz1 := ht1.size
  simp at hz1
  have hO1 := heap_alloc (ht1.keep hO (by omega)) (.cells #[.int .u8 2, .int .u64 0, .int .u8 0, .int .u64 0] 113)
  have hM1 := heap_new w1 (.cells #[.int .u8 2, .int .u64 0, .int .u8 0, .int .u64 0] 113)
  have hR1' : RdAt (w1.alloc (.cells #[.int .u8 2, .int .u64 0, .int .u8 0, .int .u64 0] 113)) (w.heap.size + 1) (fixR (some s) 1) := heap_alloc hR1 _
  go_wp2_with fail
  refine (rdU32_c _ _ _ hR1').mono ?_
  rintro e w2 ⟨rfl, hR2, ht2⟩
  have hz2 := ht2.size
  simp at hz2
  have hO2 := ht2.keep hO1 (by omega)
  have hM2 := ht2.keep hM1 (by omega)
  obtain ⟨⟨d0, d1, d2, d3⟩, g0, g1, g2, g3⟩ := four hM2
  have hwr : IntKind.u64.wrap (numV (fixR (some s) 1) 4 : Int) = (numV (fixR (some s) 1) 4 : Int) := wrap_u64 _ (by omega) (by omega)
  go_wp2_with fail
  have hR5 : RdAt (w2.setCell ⟨w1.heap.size, 1, none⟩ (.int .u64 (numV (fixR (some s) 1) 4))) (w.heap.size + 1) (fixR (fixR (some s) 1) 4) := (heap_set_ne (by omega) _ _).trans hR2
  have hO5 := (heap_set_ne (g := w.heap.size) (k := w1.heap.size) (by omega) 1 (.int .u64 (numV (fixR (some s) 1) 4))).trans hO2
  have hM5 : (w2.setCell ⟨w1.heap.size, 1, none⟩ (.int .u64 (numV (fixR (some s) 1) 4))).heap[w1.heap.size]? = some (.cells #[.int .u8 (2 : Int), .int .u64 (numV (fixR (some s) 1) 4 : Int), .int .u8 (0 : Int), .int .u64 (0 : Int)] 113 (0, 0)) := heap_set hM2 1 _
  have hB4 : Below w.heap.size w w2 := below_touch (below_alloc (below_touch (below_alloc (below_alloc (Below.refl _ _) _) _) ht1 (by intro i hi e; omega)) _) ht2 (by intro i hi e; omega)
  refine (whole_c _ _ _ hR5).mono ?_
  rintro e w5 ⟨rfl, rfl⟩
  obtain ⟨⟨o0, o1, o2, o3⟩, f0, f1, f2, f3⟩ := four hO5
  by_cases hw : wholeE (fixR (fixR (some s) 1) 4) = 0
  · by_cases hm : (PChange.mk ((2 : Int)) ((numV (fixR (some s) 1) 4 : Int)) ((0 : Int)) ((0 : Int))).may = true
    · have HE := Aside.mk (show changeE s = 0 by unfold changeE; rw [if_neg hs, if_neg hk, HRR.out, HCC.out, if_pos hw, if_pos hm])
      have HV := Aside.mk (show changeV s = rdChange s from if_pos HE.out)
      rw [hw]
      have HC := Aside.mk hm
      clear hw hm hs hk
      go_wp2_with fail
      refine (changeMay_c (2 : Int) (numV (fixR (some s) 1) 4 : Int) (0 : Int) (0 : Int) (by omega) (by omega) _).mono ?_
      rintro e w6 ⟨rfl, hb6⟩
      rw [HC.out]
      have hM6 := below_keep hb6 hM5
      have hO6 := below_keep hb6 hO5
      clear o0 o1 o2 o3 f0 f1 f2 f3
      obtain ⟨⟨o0, o1, o2, o3⟩, f0, f1, f2, f3⟩ := four hO6
      obtain ⟨⟨d0, d1, d2, d3⟩, g0, g1, g2, g3⟩ := four hM6
      go_wp2_with fail
      go_tidy
      refine bodyPost_ret (v := .tuple #[.agg #[.int .u8 ((2 : Int)), .int .u64 ((numV (fixR (some s) 1) 4 : Int)), .int .u8 ((0 : Int)), .int .u64 ((0 : Int))], .int .i64 0]) (by simp [results, Tryz.results86, go_sem, o0, o1, o2, o3]) rfl ⟨by rw [HE.out, HV.out, HCC.out], ?_⟩
      repeat (first | (with_reducible first | exact Below.refl _ _ | assumption | refine below_drewN ?_ _ | refine Below.drew ?_ | refine below_alloc ?_ _) | (with_reducible refine below_set ?_ ?side _; (case side => first | omega | (simp; omega) | (simp only [World.size_alloc]; omega))) | (with_reducible refine below_trans ?_ (by assumption)))
    · have HE := Aside.mk (show changeE s = 4 by unfold changeE; rw [if_neg hs, if_neg hk, HRR.out, HCC.out, if_pos hw, if_neg hm])
      have HV := Aside.mk (show changeV s = PChange.zero from if_neg (by rw [HE.out]; decide))
      rw [hw]
      have HC := Aside.mk (Bool.eq_false_iff.2 hm)
      clear hw hm hs hk
      go_wp2_with fail
      refine (changeMay_c (2 : Int) (numV (fixR (some s) 1) 4 : Int) (0 : Int) (0 : Int) (by omega) (by omega) _).mono ?_
      rintro e w6 ⟨rfl, hb6⟩
      rw [HC.out]
      have hO6 := below_keep hb6 hO5
      clear o0 o1 o2 o3 f0 f1 f2 f3
      obtain ⟨⟨o0, o1, o2, o3⟩, f0, f1, f2, f3⟩ := four hO6
      go_wp2_with fail
      go_tidy
      refine bodyPost_ret (v := .tuple #[.agg #[.int .u8 0, .int .u64 0, .int .u8 0, .int .u64 0], .int .i64 4]) (by simp [results, Tryz.results86, go_sem, o0, o1, o2, o3]) rfl ⟨by rw [HE.out, HV.out]; rfl, ?_⟩
      repeat (first | (with_reducible first | exact Below.refl _ _ | assumption | refine below_drewN ?_ _ | refine Below.drew ?_ | refine below_alloc ?_ _) | (with_reducible refine below_set ?_ ?side _; (case side => first | omega | (simp; omega) | (simp only [World.size_alloc]; omega))) | (with_reducible refine below_trans ?_ (by assumption)))
  · have HE := Aside.mk (show changeE s = wholeE (fixR (fixR (some s) 1) 4) by unfold changeE; rw [if_neg hs, if_neg hk, HRR.out, if_neg hw])
    have HV := Aside.mk (show changeV s = PChange.zero from if_neg (by rw [HE.out]; exact hw))
    have e1 : (wholeE (fixR (fixR (some s) 1) 4) == 0) = false := beq_eq_false_iff_ne.2 hw
    have e2 : (wholeE (fixR (fixR (some s) 1) 4) != 0) = true := bne_iff_ne.2 hw
    clear hw hs hk
    generalize wholeE (fixR (fixR (some s) 1) 4) = x at HE e1 e2 ⊢
    go_wp2_with fail
    go_tidy
    refine bodyPost_ret (v := .tuple #[.agg #[.int .u8 0, .int .u64 0, .int .u8 0, .int .u64 0], .int .i64 x]) (by simp [results, Tryz.results86, go_sem, o0, o1, o2, o3]) rfl ⟨by rw [HE.out, HV.out]; rfl, ?_⟩
    repeat (first | (with_reducible first | exact Below.refl _ _ | assumption | refine below_drewN ?_ _ | refine Below.drew ?_ | refine below_alloc ?_ _) | (with_reducible refine below_set ?_ ?side _; (case side => first | omega | (simp; omega) | (simp only [World.size_alloc]; omega))) | (with_reducible refine below_trans ?_ (by assumption)))
end Go.Proofs.YtmggpfngbkbkmaaGreatDoor
