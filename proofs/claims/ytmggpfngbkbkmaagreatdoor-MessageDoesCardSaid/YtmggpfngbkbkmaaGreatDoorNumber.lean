/- Marks: floats as their bits (packages number and rillbedref01). -/
import Derived.Test.YtmggpfngbkbkmaaGreatDoorProg
import Derived.Test.YtmggpfngbkbkmaaGreatDoorPlainNum
import Derived.Laws.FloatBits
import Derived.Deep.QuietTactic
import Derived.BigQuiet
import Derived.Deep.RegionWith
import Derived.Deep.RegionHeld3
namespace Go.Proofs.YtmggpfngbkbkmaaGreatDoor
open Go.RowKit
set_option linter.unusedVariables false
set_option linter.unusedSimpArgs false

theorem Format_add_lt {x y r : Nat} (h : FloatKind.f64.format.add x y = some r) : (r : Int) < 18446744073709551616 := by
  have h2 := FloatKind.f64.format.add_lt h
  have e : 2 ^ FloatKind.f64.format.width = 18446744073709551616 := by decide
  omega
theorem Format_mul_lt {x y r : Nat} (h : FloatKind.f64.format.mul x y = some r) : (r : Int) < 18446744073709551616 := by
  have h2 := FloatKind.f64.format.mul_lt h
  have e : 2 ^ FloatKind.f64.format.width = 18446744073709551616 := by decide
  omega
theorem frombits_run (n : Int) (w : World) : (callFunc 153 #[.int .u64 n]).run Tryz.prog w = .ok (.value (.float .f64 n.toNat)) w := by
  rw [run_callFunc_extern Tryz.func153 (by kernel_rfl) (by kernel_rfl) (by kernel_rfl) (e := Extern.MathFloatBits.float64frombits) (by kernel_rfl)]
  rfl
theorem tobits_run (n : Nat) (w : World) : (callFunc 152 #[.float .f64 n]).run Tryz.prog w = .ok (.value (.int .u64 n)) w := by
  rw [run_callFunc_extern Tryz.func152 (by kernel_rfl) (by kernel_rfl) (by kernel_rfl) (e := Extern.MathFloatBits.float64bits) (by kernel_rfl)]
  rfl
set_option maxRecDepth 100000 in
theorem quiet_c (x : Int) (h0 : 0 ≤ x) (w : World) :
    Calls Tryz.prog 148 #[.int .u64 x] w fun e w' => e = .returned (.int .u64 (quietN x.toNat)) ∧ w = w' := by
  have hfb := frombits_run
  have hn := nan_order x.toNat
  by_cases hq : nanB x.toNat = true
  · have hv : quietN x.toNat = 9221120237041090561 := if_pos hq
    have HV := Aside.mk hv
    clear hv
    go_enter Tryz.func148, Tryz.ntmps148
    go_wp2_with fail
    go_ret
    exact ⟨by rw [HV.out]; rfl, rfl⟩
  · have hv : quietN x.toNat = x.toNat := if_neg hq
    have HV := Aside.mk hv
    have hq' : nanB x.toNat = false := by simpa using hq
    clear hv hq
    go_enter Tryz.func148, Tryz.ntmps148
    go_wp2_with fail
    go_ret
    exact ⟨by rw [HV.out, Int.toNat_of_nonneg h0]; rfl, rfl⟩
theorem order_c (x : Int) (h0 : 0 ≤ x) (hx : x < 18446744073709551616) (w : World) :
    Calls Tryz.prog 157 #[.int .u64 x] w fun e w' => e = .returned (.int .u64 (orderN x.toNat)) ∧ w = w' := by
  have ha := and63 x h0 hx
  by_cases h : 9223372036854775808 ≤ x
  · have ha' : (bits BinOp.and IntKind.u64 x 9223372036854775808 != 0) = true := ha.trans (decide_eq_true h)
    clear ha
    have hs : IntKind.u64.signed = false := rfl
    go_enter Tryz.func157, Tryz.ntmps157
    go_wp2_with fail
    go_ret
    refine ⟨ret_int ?_, rfl⟩
    rw [not64 x h0 hx]; unfold orderN; rw [if_pos (by omega)]; omega
  · have ha' : (bits BinOp.and IntKind.u64 x 9223372036854775808 != 0) = false := ha.trans (decide_eq_false h)
    clear ha
    go_enter Tryz.func157, Tryz.ntmps157
    go_wp2_with fail
    go_ret
    refine ⟨ret_int ?_, rfl⟩
    rw [or63 x h0 (by omega)]; unfold orderN; rw [if_neg (by omega)]; omega
theorem back_c (x : Int) (h0 : 0 ≤ x) (hx : x < 18446744073709551616) (w : World) :
    Calls Tryz.prog 156 #[.int .u64 x] w fun e w' => e = .returned (.int .u64 (backN x.toNat)) ∧ w = w' := by
  have ha := and63 x h0 hx
  by_cases h : 9223372036854775808 ≤ x
  · have ha' : (bits BinOp.and IntKind.u64 x 9223372036854775808 != 0) = true := ha.trans (decide_eq_true h)
    clear ha
    go_enter Tryz.func156, Tryz.ntmps156
    go_wp2_with fail
    go_ret
    refine ⟨ret_int ?_, rfl⟩
    rw [andNot63 x h hx]; unfold backN; rw [if_pos (by omega)]; omega
  · have ha' : (bits BinOp.and IntKind.u64 x 9223372036854775808 != 0) = false := ha.trans (decide_eq_false h)
    clear ha
    have hs : IntKind.u64.signed = false := rfl
    go_enter Tryz.func156, Tryz.ntmps156
    go_wp2_with fail
    go_ret
    refine ⟨ret_int ?_, rfl⟩
    rw [not64 x h0 hx]; unfold backN; rw [if_neg (by omega)]; omega
theorem and2047 (x : Int) (h0 : 0 ≤ x) (hx : x < 18446744073709551616) : bits BinOp.and IntKind.u64 (x / 4503599627370496) 2047 = ((x.toNat / 4503599627370496 % 2048 : Nat) : Int) := by
  obtain ⟨n, rfl⟩ := Int.eq_ofNat_of_zero_le h0
  have := u64_and_nat (n / 4503599627370496) 2047 (by omega) (by decide)
  rw [Nat.and_two_pow_sub_one_eq_mod _ 11] at this
  exact this
theorem mul4096 (x : Int) (h0 : 0 ≤ x) : (IntKind.u64.wrap (x * 4096) != 0) = decide (x.toNat * 4096 % 18446744073709551616 ≠ 0) := by
  obtain ⟨n, rfl⟩ := Int.eq_ofNat_of_zero_le h0
  rw [IntKind.wrap_u64, Bool.eq_iff_iff, bne_iff_ne, decide_eq_true_eq]
  simp only [Int.toNat_natCast]
  omega
set_option maxRecDepth 100000 in
theorem rnan_c (x : Int) (h0 : 0 ≤ x) (hx : x < 18446744073709551616) (w : World) :
    Calls Tryz.prog 158 #[.int .u64 x] w fun e w' => e = .returned (.bool (nanB x.toNat)) ∧ w = w' := by
  have hb := nan_bits x.toNat (by omega)
  have HB := Aside.mk hb
  have ha := Aside.mk (and2047 x h0 hx)
  have hm := Aside.mk (mul4096 x h0)
  clear hb
  go_enter Tryz.func158, Tryz.ntmps158
  go_wp2_with fail
  · go_ret; go_tidy
    rename_i h
    rw [ha.out] at h
    refine ⟨?_, rfl⟩
    rw [HB.out, decide_eq_true (by omega), Bool.true_and, ← hm.out]; rfl
  · go_ret; go_tidy
    rename_i h
    rw [ha.out] at h
    refine ⟨?_, rfl⟩
    rw [HB.out, decide_eq_false (by omega)]; rfl
set_option maxRecDepth 100000 in
theorem rquiet_c (x : Int) (h0 : 0 ≤ x) (hx : x < 18446744073709551616) (w : World) :
    Calls Tryz.prog 124 #[.int .u64 x] w fun e w' => e = .returned (.int .u64 (quietN x.toNat)) ∧ w = w' := by
  by_cases hq : nanB x.toNat = true
  · have HV := Aside.mk (show quietN x.toNat = 9221120237041090561 from if_pos hq)
    go_enter Tryz.func124, Tryz.ntmps124
    go_wp2_with (go_at_call 158; refine (rnan_c x h0 hx _).mono ?_; rintro e w1 ⟨rfl, rfl⟩)
    go_ret
    exact ⟨by rw [HV.out]; rfl, rfl⟩
  · have HV := Aside.mk (show quietN x.toNat = x.toNat from if_neg hq)
    have hq' : nanB x.toNat = false := by simpa using hq
    clear hq
    go_enter Tryz.func124, Tryz.ntmps124
    go_wp2_with (go_at_call 158; refine (rnan_c x h0 hx _).mono ?_; rintro e w1 ⟨rfl, rfl⟩)
    go_ret
    exact ⟨by rw [HV.out, Int.toNat_of_nonneg h0]; rfl, rfl⟩
set_option maxRecDepth 100000 in
theorem rorder_c (x : Int) (h0 : 0 ≤ x) (hx : x < 18446744073709551616) (w : World) :
    Calls Tryz.prog 127 #[.int .u64 x] w fun e w' => e = .returned (.int .u64 (orderN x.toNat)) ∧ w = w' := by
  by_cases h : 9223372036854775808 ≤ x
  · have hv : (orderN x.toNat : Int) = 18446744073709551615 - x := by unfold orderN; rw [if_pos (by omega)]; omega
    have HV := Aside.mk hv
    clear hv
    go_enter Tryz.func127, Tryz.ntmps127
    go_wp2_with fail
    go_ret
    refine ⟨by rw [HV.out]; exact ret_int (by first | rfl | (rw [wrap_u64 _ (by omega) (by omega)])), rfl⟩
  · have hv : (orderN x.toNat : Int) = x + 9223372036854775808 := by unfold orderN; rw [if_neg (by omega)]; omega
    have HV := Aside.mk hv
    clear hv
    go_enter Tryz.func127, Tryz.ntmps127
    go_wp2_with fail
    go_ret
    refine ⟨by rw [HV.out]; exact ret_int (by first | rfl | (rw [wrap_u64 _ (by omega) (by omega)])), rfl⟩

/-- The call returns v, and has drawn at most. -/
def DRet (w : World) (v : Value) (e : Ending) (w' : World) : Prop := e = .returned v ∧ ∃ n, w' = w.drewN n

set_option maxRecDepth 100000 in
theorem rSum_c (x y : Int) (h0 : 0 ≤ x) (h1 : 0 ≤ y) (w : World) :
    Calls Tryz.prog 125 #[.int .u64 x, .int .u64 y] w (DRet w (.int .u64 (qAdd x.toNat y.toNat))) := by
  have hfb := frombits_run
  have htb := tobits_run
  cases hr : FloatKind.f64.format.add x.toNat y.toNat with
  | some r =>
    have ha := run_fadd_some (P := Tryz.prog) hr
    have HV := Aside.mk (qAdd_some hr)
    have hrl := Format_add_lt hr
    clear hr
    go_enter Tryz.func125, Tryz.ntmps125
    go_wp2_with (go_at_call 124; refine (rquiet_c r (by omega) (by omega) _).mono ?_; rintro e w1 ⟨rfl, rfl⟩)
    go_ret
    exact ⟨by rw [HV.out]; rfl, 0, rfl⟩
  | none =>
    have ha := run_fadd_none (P := Tryz.prog) hr
    have HV := Aside.mk (qAdd_none hr)
    clear hr
    go_enter Tryz.func125, Tryz.ntmps125
    go_wp2_with (go_at_call 124; refine (rquiet_c (nanOf w x.toNat y.toNat) (by omega) (by have := nanOf_lt w x.toNat y.toNat; omega) _).mono ?_; rintro e w1 ⟨rfl, rfl⟩)
    go_ret
    exact ⟨by rw [HV.out]; exact ret_int (by rw [nanOf_quiet]), 1, rfl⟩
set_option maxRecDepth 100000 in
theorem rProduct_c (x y : Int) (h0 : 0 ≤ x) (h1 : 0 ≤ y) (w : World) :
    Calls Tryz.prog 126 #[.int .u64 x, .int .u64 y] w (DRet w (.int .u64 (qMul x.toNat y.toNat))) := by
  have hfb := frombits_run
  have htb := tobits_run
  cases hr : FloatKind.f64.format.mul x.toNat y.toNat with
  | some r =>
    have ha := run_fmul_some (P := Tryz.prog) hr
    have HV := Aside.mk (qMul_some hr)
    have hrl := Format_mul_lt hr
    clear hr
    go_enter Tryz.func126, Tryz.ntmps126
    go_wp2_with (go_at_call 124; refine (rquiet_c r (by omega) (by omega) _).mono ?_; rintro e w1 ⟨rfl, rfl⟩)
    go_ret
    exact ⟨by rw [HV.out]; rfl, 0, rfl⟩
  | none =>
    have ha := run_fmul_none (P := Tryz.prog) hr
    have HV := Aside.mk (qMul_none hr)
    clear hr
    go_enter Tryz.func126, Tryz.ntmps126
    go_wp2_with (go_at_call 124; refine (rquiet_c (nanOf w x.toNat y.toNat) (by omega) (by have := nanOf_lt w x.toNat y.toNat; omega) _).mono ?_; rintro e w1 ⟨rfl, rfl⟩)
    go_ret
    exact ⟨by rw [HV.out]; exact ret_int (by rw [nanOf_quiet]), 1, rfl⟩
theorem ret2 {k k' : IntKind} {a b c d : Int} (h : a = b) (h' : c = d) : Ending.returned (.tuple #[.int k a, .int k' c]) = .returned (.tuple #[.int k b, .int k' d]) := by rw [h, h']
set_option maxRecDepth 100000 in
theorem rstep_c (x op y : Int) (h0 : 0 ≤ x) (hx : x < 18446744073709551616) (h1 : 0 ≤ y) (hy : y < 18446744073709551616) (w : World) :
    Calls Tryz.prog 96 #[.int .u64 x, .int .u8 op, .int .u64 y] w (DRet w (.tuple #[.int .u64 (stepN x.toNat op y.toNat), .int .i64 (stepE op)])) := by
  have qx := quiet_lt x.toNat (by omega)
  have qy := quiet_lt y.toNat (by omega)
  by_cases o1 : op = 1
  · subst o1
    have HV := Aside.mk (show stepN x.toNat 1 y.toNat = quietN y.toNat from rfl)
    go_enter Tryz.func96, Tryz.ntmps96
    go_wp2_with (go_at_call 124; refine (rquiet_c y h1 hy _).mono ?_; rintro e w1 ⟨rfl, rfl⟩)
    go_ret2
    exact ⟨by rw [HV.out]; rfl, 0, rfl⟩
  by_cases o2 : op = 2
  · subst o2
    have HV := Aside.mk (show stepN x.toNat 2 y.toNat = qAdd x.toNat y.toNat from rfl)
    go_enter Tryz.func96, Tryz.ntmps96
    go_wp2_with (go_at_call 125; refine (rSum_c x y h0 h1 _).mono ?_; rintro e w1 ⟨rfl, n, rfl⟩)
    go_ret2
    exact ⟨by rw [HV.out]; rfl, n, rfl⟩
  by_cases o5 : op = 5
  · subst o5
    have HV := Aside.mk (show stepN x.toNat 5 y.toNat = qMul x.toNat y.toNat from rfl)
    go_enter Tryz.func96, Tryz.ntmps96
    go_wp2_with (go_at_call 126; refine (rProduct_c x y h0 h1 _).mono ?_; rintro e w1 ⟨rfl, n, rfl⟩)
    go_ret2
    exact ⟨by rw [HV.out]; rfl, n, rfl⟩
  by_cases o3 : op = 3
  · subst o3
    have HV := Aside.mk (show stepN x.toNat 3 y.toNat = if orderN (quietN x.toNat) < orderN (quietN y.toNat) then quietN y.toNat else quietN x.toNat from rfl)
    go_enter Tryz.func96, Tryz.ntmps96
    go_wp2_with (first | (go_at_call 124; refine (rquiet_c _ (by omega) (by omega) _).mono ?_; rintro e w1 ⟨rfl, rfl⟩) | (go_at_call 127; refine (rorder_c _ (by omega) (by omega) _).mono ?_; rintro e w1 ⟨rfl, rfl⟩))
    · go_ret2; go_tidy
      rename_i h
      exact ⟨by rw [HV.out, if_pos h]; rfl, 0, rfl⟩
    · go_ret2; go_tidy
      rename_i h
      exact ⟨by rw [HV.out, if_neg h]; rfl, 0, rfl⟩
  by_cases o4 : op = 4
  · subst o4
    have HV := Aside.mk (show stepN x.toNat 4 y.toNat = if orderN (quietN y.toNat) < orderN (quietN x.toNat) then quietN y.toNat else quietN x.toNat from rfl)
    go_enter Tryz.func96, Tryz.ntmps96
    go_wp2_with (first | (go_at_call 124; refine (rquiet_c _ (by omega) (by omega) _).mono ?_; rintro e w1 ⟨rfl, rfl⟩) | (go_at_call 127; refine (rorder_c _ (by omega) (by omega) _).mono ?_; rintro e w1 ⟨rfl, rfl⟩))
    · go_ret2; go_tidy
      rename_i h
      exact ⟨by rw [HV.out, if_pos h]; rfl, 0, rfl⟩
    · go_ret2; go_tidy
      rename_i h
      exact ⟨by rw [HV.out, if_neg h]; rfl, 0, rfl⟩
  have HV := Aside.mk (show stepN x.toNat op y.toNat = 0 by simp [stepN, *])
  have HE := Aside.mk (show stepE op = 2 by unfold stepE; rw [if_neg (by omega)])
  have e1 : (op == 1) = false := beq_eq_false_iff_ne.2 o1
  have e2 : (op == 2) = false := beq_eq_false_iff_ne.2 o2
  have e3 : (op == 3) = false := beq_eq_false_iff_ne.2 o3
  have e4 : (op == 4) = false := beq_eq_false_iff_ne.2 o4
  have e5 : (op == 5) = false := beq_eq_false_iff_ne.2 o5
  clear o1 o2 o3 o4 o5
  go_enter Tryz.func96, Tryz.ntmps96
  go_wp2_with fail
  go_ret2
  exact ⟨by rw [HV.out, HE.out]; rfl, 0, rfl⟩


set_option maxRecDepth 100000 in
theorem fAdd_some {x y r : Nat} (h : FloatKind.f64.format.add x y = some r) (w : World) :
    Calls Tryz.prog 154 #[.float .f64 x, .float .f64 y] w fun e w' => e = .returned (.float .f64 r) ∧ w = w' := by
  have ha := run_fadd_some (P := Tryz.prog) h
  clear h
  go_enter Tryz.func154, Tryz.ntmps154
  go_wp2
  go_ret
  exact ⟨rfl, rfl⟩
theorem fAdd_none {x y : Nat} (h : FloatKind.f64.format.add x y = none) (w : World) :
    Calls Tryz.prog 154 #[.float .f64 x, .float .f64 y] w fun e w' => e = .returned (.float .f64 (nanOf w x y)) ∧ w.drew = w' := by
  have ha := run_fadd_none (P := Tryz.prog) h
  clear h
  go_enter Tryz.func154, Tryz.ntmps154
  go_wp2
  go_ret
  exact ⟨rfl, rfl⟩
set_option maxRecDepth 100000 in
theorem floatsAdd_c (x y : Int) (h0 : 0 ≤ x) (h1 : 0 ≤ y) (bx bs : Nat) (w : World) (c0 : w.cell? ⟨bx, 0, none⟩ = some (.int .u64 x)) (c1 : w.cell? ⟨bs, 1, none⟩ = some (.int .u64 y)) :
    Calls Tryz.prog 151 #[.func (Fn.func 154) #[] #[], .pointer (some ⟨bx, 0, none⟩), .pointer (some ⟨bs, 0, none⟩)] w (DRet w (.tuple #[.int .u64 (qAdd x.toNat y.toNat), .int .i64 0])) := by
  have hfb := frombits_run
  have htb := tobits_run
  cases hr : FloatKind.f64.format.add x.toNat y.toNat with
  | some r =>
    have HV := Aside.mk (qAdd_some hr)
    have HR := Aside.mk hr
    clear hr
    go_enter Tryz.func151, Tryz.ntmps151
    go_wp2_with fail
    go_quiet ((first | (go_at_call 154; exact quietS (fAdd_some HR.out _)) | (go_at_call 148; exact quietS (quiet_c _ (by omega) _))))
    go_wp2_with fail
    go_ret2
    exact ⟨by rw [HV.out]; rfl, _, rfl⟩
  | none =>
    have HV := Aside.mk (qAdd_none hr)
    have HR := Aside.mk hr
    clear hr
    go_enter Tryz.func151, Tryz.ntmps151
    go_wp2_with fail
    go_region_held3 (fun w' => w'.cell? ⟨bx, 0, none⟩ = some (.int .u64 x) ∧ w'.cell? ⟨bs, 1, none⟩ = some (.int .u64 y)) (first | exact ⟨c0, c1⟩ | go_keep) (first | (go_at_call 154; refine (fAdd_none HR.out _).mono ?_; rintro e w1 ⟨rfl, rfl⟩) | (go_at_call 148; refine (quiet_c _ (by omega) _).mono ?_; rintro e w1 ⟨rfl, rfl⟩))
    all_goals go_wp2_with fail
    all_goals go_ret2
    all_goals exact ⟨by rw [HV.out]; exact ret2 (by rw [nanOf_quiet]) rfl, 2, rfl⟩
set_option maxRecDepth 100000 in
theorem fMul_some {x y r : Nat} (h : FloatKind.f64.format.mul x y = some r) (w : World) :
    Calls Tryz.prog 155 #[.float .f64 x, .float .f64 y] w fun e w' => e = .returned (.float .f64 r) ∧ w = w' := by
  have ha := run_fmul_some (P := Tryz.prog) h
  clear h
  go_enter Tryz.func155, Tryz.ntmps155
  go_wp2
  go_ret
  exact ⟨rfl, rfl⟩
theorem fMul_none {x y : Nat} (h : FloatKind.f64.format.mul x y = none) (w : World) :
    Calls Tryz.prog 155 #[.float .f64 x, .float .f64 y] w fun e w' => e = .returned (.float .f64 (nanOf w x y)) ∧ w.drew = w' := by
  have ha := run_fmul_none (P := Tryz.prog) h
  clear h
  go_enter Tryz.func155, Tryz.ntmps155
  go_wp2
  go_ret
  exact ⟨rfl, rfl⟩
set_option maxRecDepth 100000 in
theorem floatsMul_c (x y : Int) (h0 : 0 ≤ x) (h1 : 0 ≤ y) (bx bs : Nat) (w : World) (c0 : w.cell? ⟨bx, 0, none⟩ = some (.int .u64 x)) (c1 : w.cell? ⟨bs, 1, none⟩ = some (.int .u64 y)) :
    Calls Tryz.prog 151 #[.func (Fn.func 155) #[] #[], .pointer (some ⟨bx, 0, none⟩), .pointer (some ⟨bs, 0, none⟩)] w (DRet w (.tuple #[.int .u64 (qMul x.toNat y.toNat), .int .i64 0])) := by
  have hfb := frombits_run
  have htb := tobits_run
  cases hr : FloatKind.f64.format.mul x.toNat y.toNat with
  | some r =>
    have HV := Aside.mk (qMul_some hr)
    have HR := Aside.mk hr
    clear hr
    go_enter Tryz.func151, Tryz.ntmps151
    go_wp2_with fail
    go_quiet ((first | (go_at_call 155; exact quietS (fMul_some HR.out _)) | (go_at_call 148; exact quietS (quiet_c _ (by omega) _))))
    go_wp2_with fail
    go_ret2
    exact ⟨by rw [HV.out]; rfl, _, rfl⟩
  | none =>
    have HV := Aside.mk (qMul_none hr)
    have HR := Aside.mk hr
    clear hr
    go_enter Tryz.func151, Tryz.ntmps151
    go_wp2_with fail
    go_region_held3 (fun w' => w'.cell? ⟨bx, 0, none⟩ = some (.int .u64 x) ∧ w'.cell? ⟨bs, 1, none⟩ = some (.int .u64 y)) (first | exact ⟨c0, c1⟩ | go_keep) (first | (go_at_call 155; refine (fMul_none HR.out _).mono ?_; rintro e w1 ⟨rfl, rfl⟩) | (go_at_call 148; refine (quiet_c _ (by omega) _).mono ?_; rintro e w1 ⟨rfl, rfl⟩))
    all_goals go_wp2_with fail
    all_goals go_ret2
    all_goals exact ⟨by rw [HV.out]; exact ret2 (by rw [nanOf_quiet]) rfl, 2, rfl⟩

set_option maxRecDepth 100000 in
theorem step_c (x op y : Int) (h0 : 0 ≤ x) (hx : x < 18446744073709551616) (h1 : 0 ≤ y) (hy : y < 18446744073709551616) (w : World) :
    Calls Tryz.prog 123 #[.int .u64 x, .agg #[.int .u8 op, .int .u64 y]] w (Ret w (.tuple #[.int .u64 (stepN x.toNat op y.toNat), .int .i64 (stepE op)])) := by
  have qx := quiet_lt x.toNat (by omega)
  have qy := quiet_lt y.toNat (by omega)
  by_cases o1 : op = 1
  · subst o1
    have HV := Aside.mk (show stepN x.toNat 1 y.toNat = quietN y.toNat from rfl)
    go_enter Tryz.func123, Tryz.ntmps123
    go_wp2_with fail
    go_quiet ((go_at_call 148; exact quietS (quiet_c _ (by omega) _)))
    go_wp2_with fail
    go_ret2
    exact ⟨by rw [HV.out]; rfl, below_drewN (((Below.refl _ _).alloc (Nat.le_refl _) _).alloc (by simp) _) _⟩
  by_cases o3 : op = 3
  · subst o3
    have HV := Aside.mk (show stepN x.toNat 3 y.toNat = if orderN (quietN x.toNat) < orderN (quietN y.toNat) then quietN y.toNat else quietN x.toNat from rfl)
    have ox := order_lt _ qx
    have oy := order_lt _ qy
    have bx := Aside.mk (back_order _ qx)
    have bY := Aside.mk (back_order _ qy)
    go_enter Tryz.func123, Tryz.ntmps123
    go_wp2_with fail
    go_quiet ((go_at_call 148; exact quietS (quiet_c _ (by omega) _)))
    go_wp2_with (first | (go_at_call 157; refine (order_c _ (by omega) (by omega) _).mono ?_; rintro e w1 ⟨rfl, rfl⟩) | (go_at_call 156; refine (back_c _ (by omega) (by omega) _).mono ?_; rintro e w1 ⟨rfl, rfl⟩))
    · go_ret2; go_tidy
      refine ⟨?_, ?_⟩
      · rw [HV.out, if_pos h]
        show Ending.returned (.tuple #[.int .u64 (backN (orderN (quietN y.toNat)) : Nat), .int .i64 0]) = _
        rw [bY.out]; rfl
      exact below_drewN (((Below.refl _ _).alloc (Nat.le_refl _) _).alloc (by simp) _) _
    · go_ret2; go_tidy
      refine ⟨?_, ?_⟩
      · rw [HV.out, if_neg h]
        show Ending.returned (.tuple #[.int .u64 (backN (orderN (quietN x.toNat)) : Nat), .int .i64 0]) = _
        rw [bx.out]; rfl
      exact below_drewN (((Below.refl _ _).alloc (Nat.le_refl _) _).alloc (by simp) _) _
  by_cases o4 : op = 4
  · subst o4
    have HV := Aside.mk (show stepN x.toNat 4 y.toNat = if orderN (quietN y.toNat) < orderN (quietN x.toNat) then quietN y.toNat else quietN x.toNat from rfl)
    have ox := order_lt _ qx
    have oy := order_lt _ qy
    have bx := Aside.mk (back_order _ qx)
    have bY := Aside.mk (back_order _ qy)
    go_enter Tryz.func123, Tryz.ntmps123
    go_wp2_with fail
    go_quiet ((go_at_call 148; exact quietS (quiet_c _ (by omega) _)))
    go_wp2_with (first | (go_at_call 157; refine (order_c _ (by omega) (by omega) _).mono ?_; rintro e w1 ⟨rfl, rfl⟩) | (go_at_call 156; refine (back_c _ (by omega) (by omega) _).mono ?_; rintro e w1 ⟨rfl, rfl⟩))
    · go_ret2; go_tidy
      refine ⟨?_, ?_⟩
      · rw [HV.out, if_pos h]
        show Ending.returned (.tuple #[.int .u64 (backN (orderN (quietN y.toNat)) : Nat), .int .i64 0]) = _
        rw [bY.out]; rfl
      exact below_drewN (((Below.refl _ _).alloc (Nat.le_refl _) _).alloc (by simp) _) _
    · go_ret2; go_tidy
      refine ⟨?_, ?_⟩
      · rw [HV.out, if_neg h]
        show Ending.returned (.tuple #[.int .u64 (backN (orderN (quietN x.toNat)) : Nat), .int .i64 0]) = _
        rw [bx.out]; rfl
      exact below_drewN (((Below.refl _ _).alloc (Nat.le_refl _) _).alloc (by simp) _) _
  by_cases o2 : op = 2
  · subst o2
    have HV := Aside.mk (show stepN x.toNat 2 y.toNat = qAdd x.toNat y.toNat from rfl)
    go_enter Tryz.func123, Tryz.ntmps123
    go_wp2_with fail
    go_quiet ((go_at_call 148; exact quietS (quiet_c _ (by omega) _)))
    go_wp2_with (go_at_call 151; refine (floatsAdd_c x y h0 h1 _ _ _ (by go_simp) (by go_simp)).mono ?_; rintro e w1 ⟨rfl, n, rfl⟩)
    go_ret2
    exact ⟨by rw [HV.out]; rfl, (by repeat (first | (with_reducible first | exact Below.refl _ _ | assumption | refine below_drewN ?_ _ | refine Below.drew ?_ | refine below_alloc ?_ _) | (with_reducible refine below_set ?_ ?side _; (case side => first | omega | (simp; omega) | (simp only [World.size_alloc]; omega))) | (with_reducible refine below_trans ?_ (by assumption))))⟩
  by_cases o5 : op = 5
  · subst o5
    have HV := Aside.mk (show stepN x.toNat 5 y.toNat = qMul x.toNat y.toNat from rfl)
    go_enter Tryz.func123, Tryz.ntmps123
    go_wp2_with fail
    go_quiet ((go_at_call 148; exact quietS (quiet_c _ (by omega) _)))
    go_wp2_with (go_at_call 151; refine (floatsMul_c x y h0 h1 _ _ _ (by go_simp) (by go_simp)).mono ?_; rintro e w1 ⟨rfl, n, rfl⟩)
    go_ret2
    exact ⟨by rw [HV.out]; rfl, (by repeat (first | (with_reducible first | exact Below.refl _ _ | assumption | refine below_drewN ?_ _ | refine Below.drew ?_ | refine below_alloc ?_ _) | (with_reducible refine below_set ?_ ?side _; (case side => first | omega | (simp; omega) | (simp only [World.size_alloc]; omega))) | (with_reducible refine below_trans ?_ (by assumption))))⟩
  have HV := Aside.mk (show stepN x.toNat op y.toNat = 0 by simp [stepN, *])
  have HE := Aside.mk (show stepE op = 2 by unfold stepE; rw [if_neg (by omega)])
  have e1 : (op == 1) = false := beq_eq_false_iff_ne.2 o1
  have e2 : (op == 2) = false := beq_eq_false_iff_ne.2 o2
  have e3 : (op == 3) = false := beq_eq_false_iff_ne.2 o3
  have e4 : (op == 4) = false := beq_eq_false_iff_ne.2 o4
  have e5 : (op == 5) = false := beq_eq_false_iff_ne.2 o5
  clear o1 o2 o3 o4 o5
  go_enter Tryz.func123, Tryz.ntmps123
  go_wp2_with fail
  go_quiet ((go_at_call 148; exact quietS (quiet_c _ (by omega) _)))
  go_wp2_with fail
  go_ret2
  exact ⟨by rw [HV.out, HE.out]; rfl, below_drewN (((Below.refl _ _).alloc (Nat.le_refl _) _).alloc (by simp) _) _⟩
end Go.Proofs.YtmggpfngbkbkmaaGreatDoor
