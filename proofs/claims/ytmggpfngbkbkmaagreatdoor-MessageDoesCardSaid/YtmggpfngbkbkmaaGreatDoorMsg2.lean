/- What package message does (2): rules. -/
import Derived.Test.YtmggpfngbkbkmaaGreatDoorMsg
import Derived.Test.YtmggpfngbkbkmaaGreatDoorPlainMsg
import Derived.Laws.EntriesVeiled
namespace Go.Proofs.YtmggpfngbkbkmaaGreatDoor
open Go.RowKit
set_option linter.unusedVariables false
set_option linter.unusedSimpArgs false

def fv (f : FuncId) : Value := .func (.func f) #[] #[]
set_option maxRecDepth 100000 in
theorem rules_m (k : ByteArray) (h0 : 0 < k.size) (hk : (k[0]).toNat = 109) (w : World) :
    Calls Tryz.prog 98 #[.string k] w (Ret w (.agg #[fv 128, fv 129])) := by
  have hpi : (0 : Int) < (k.size : Int) := by omega
  have e1 : (((k[0]).toNat : Int) == 109) = decide ((k[0]).toNat = 109) := by rw [Bool.eq_iff_iff, beq_iff_eq, decide_eq_true_eq]; omega
  have e2 : (((k[0]).toNat : Int) == 100) = decide ((k[0]).toNat = 100) := by rw [Bool.eq_iff_iff, beq_iff_eq, decide_eq_true_eq]; omega
  have hO := heap_new w (.cells #[.func (.func 128) #[] #[], .func (.func 129) #[] #[]] 132)
  have o0 := cell_of hO 0
  have o1 := cell_of hO 1
  simp at o0 o1
  go_enter Tryz.func98, Tryz.ntmps98
  go_wp2_with fail
  all_goals
    go_tidy
    refine bodyPost_ret (v := .agg #[.func (.func 128) #[] #[], .func (.func 129) #[] #[]]) (by simp [results, Tryz.results98, go_sem, o0, o1]) rfl ⟨rfl, ?_⟩
    repeat (first | (with_reducible first | exact Below.refl _ _ | assumption | refine below_drewN ?_ _ | refine Below.drew ?_ | refine below_alloc ?_ _) | (with_reducible refine below_set ?_ ?side _; (case side => first | omega | (simp; omega) | (simp only [World.size_alloc]; omega))) | (with_reducible refine below_trans ?_ (by assumption)))
set_option maxRecDepth 100000 in
theorem rules_d (k : ByteArray) (h0 : 0 < k.size) (hk : (k[0]).toNat = 100) (w : World) :
    Calls Tryz.prog 98 #[.string k] w (Ret w (.agg #[fv 130, fv 132])) := by
  have hpi : (0 : Int) < (k.size : Int) := by omega
  have e1 : (((k[0]).toNat : Int) == 109) = decide ((k[0]).toNat = 109) := by rw [Bool.eq_iff_iff, beq_iff_eq, decide_eq_true_eq]; omega
  have e2 : (((k[0]).toNat : Int) == 100) = decide ((k[0]).toNat = 100) := by rw [Bool.eq_iff_iff, beq_iff_eq, decide_eq_true_eq]; omega
  have hO := heap_new w (.cells #[.func (.func 130) #[] #[], .func (.func 132) #[] #[]] 132)
  have o0 := cell_of hO 0
  have o1 := cell_of hO 1
  simp at o0 o1
  go_enter Tryz.func98, Tryz.ntmps98
  go_wp2_with fail
  all_goals
    go_tidy
    refine bodyPost_ret (v := .agg #[.func (.func 130) #[] #[], .func (.func 132) #[] #[]]) (by simp [results, Tryz.results98, go_sem, o0, o1]) rfl ⟨rfl, ?_⟩
    repeat (first | (with_reducible first | exact Below.refl _ _ | assumption | refine below_drewN ?_ _ | refine Below.drew ?_ | refine below_alloc ?_ _) | (with_reducible refine below_set ?_ ?side _; (case side => first | omega | (simp; omega) | (simp only [World.size_alloc]; omega))) | (with_reducible refine below_trans ?_ (by assumption)))
set_option maxRecDepth 100000 in
theorem rules_o (k : ByteArray) (h0 : 0 < k.size) (hk : (k[0]).toNat ≠ 109 ∧ (k[0]).toNat ≠ 100) (w : World) :
    Calls Tryz.prog 98 #[.string k] w (Ret w (.agg #[fv 133, fv 134])) := by
  have hpi : (0 : Int) < (k.size : Int) := by omega
  have e1 : (((k[0]).toNat : Int) == 109) = decide ((k[0]).toNat = 109) := by rw [Bool.eq_iff_iff, beq_iff_eq, decide_eq_true_eq]; omega
  have e2 : (((k[0]).toNat : Int) == 100) = decide ((k[0]).toNat = 100) := by rw [Bool.eq_iff_iff, beq_iff_eq, decide_eq_true_eq]; omega
  have hO := heap_new w (.cells #[.func (.func 133) #[] #[], .func (.func 134) #[] #[]] 132)
  have o0 := cell_of hO 0
  have o1 := cell_of hO 1
  simp at o0 o1
  go_enter Tryz.func98, Tryz.ntmps98
  go_wp2_with fail
  all_goals
    go_tidy
    refine bodyPost_ret (v := .agg #[.func (.func 133) #[] #[], .func (.func 134) #[] #[]]) (by simp [results, Tryz.results98, go_sem, o0, o1]) rfl ⟨rfl, ?_⟩
    repeat (first | (with_reducible first | exact Below.refl _ _ | assumption | refine below_drewN ?_ _ | refine Below.drew ?_ | refine below_alloc ?_ _) | (with_reducible refine below_set ?_ ?side _; (case side => first | omega | (simp; omega) | (simp only [World.size_alloc]; omega))) | (with_reducible refine below_trans ?_ (by assumption)))
end Go.Proofs.YtmggpfngbkbkmaaGreatDoor
