/- What rillbedref07 does (1): May, MayChange, Put. -/
import Derived.Test.YtmggpfngbkbkmaaGreatDoorRef03
import Derived.Test.YtmggpfngbkbkmaaGreatDoorMeta8
namespace Go.Proofs.YtmggpfngbkbkmaaGreatDoor
open Go.RowKit
set_option linter.unusedVariables false
set_option linter.unusedSimpArgs false

set_option maxHeartbeats 1000000 in
set_option maxRecDepth 100000 in
theorem rmay_c (k s mk st : Int) (hs0 : 0 ≤ s) (hm0 : 0 ≤ mk) (hm1 : mk < 18446744073709551616) (w : World) :
    Calls Tryz.prog 93 #[.agg #[.int .u8 k, .int .u32 s, .int .u64 mk, .int .u64 st]] w (Ret w (.bool (PMeta.mk k s mk st).may)) := by
  by_cases k2 : k = 2
  · subst k2
    by_cases h0 : s = 0
    · subst h0
      go_enter Tryz.func93, Tryz.ntmps93
      go_wp2_with fail
      go_quiet ((go_at_call 124; exact quietS (rquiet_c _ hm0 hm1 _)))
      all_goals try go_wp2_with fail
      all_goals (go_ret; go_tidy)
      all_goals (refine ⟨ret_bool ?_, (by repeat (first | (with_reducible first | exact Below.refl _ _ | assumption | refine below_drewN ?_ _ | refine Below.drew ?_ | refine below_alloc ?_ _) | (with_reducible refine below_set ?_ ?side _; (case side => first | omega | (simp; omega) | (simp only [World.size_alloc]; omega))) | (with_reducible refine below_trans ?_ (by assumption))))⟩)
      all_goals (simp_all [PMeta.may] <;> try first | rfl | omega)
    · have e0 : (s == 0) = false := beq_eq_false_iff_ne.2 h0
      go_enter Tryz.func93, Tryz.ntmps93
      go_wp2_with fail
      go_quiet ((go_at_call 124; exact quietS (rquiet_c _ hm0 hm1 _)))
      all_goals try go_wp2_with fail
      all_goals (go_ret; go_tidy)
      all_goals (refine ⟨ret_bool ?_, (by repeat (first | (with_reducible first | exact Below.refl _ _ | assumption | refine below_drewN ?_ _ | refine Below.drew ?_ | refine below_alloc ?_ _) | (with_reducible refine below_set ?_ ?side _; (case side => first | omega | (simp; omega) | (simp only [World.size_alloc]; omega))) | (with_reducible refine below_trans ?_ (by assumption))))⟩)
      all_goals (simp_all [PMeta.may] <;> try first | rfl | omega)
  · have e2 : (k == 2) = false := beq_eq_false_iff_ne.2 k2
    by_cases k1 : k = 1
    · subst k1
      by_cases h0 : s ≤ 2048
      · have e3 : decide (s ≤ 2048) = true := by simpa using h0
        go_enter Tryz.func93, Tryz.ntmps93
        go_wp2_with fail
        go_quiet ((go_at_call 124; exact quietS (rquiet_c _ hm0 hm1 _)))
        all_goals try go_wp2_with fail
        all_goals (go_ret; go_tidy)
        all_goals (refine ⟨ret_bool ?_, (by repeat (first | (with_reducible first | exact Below.refl _ _ | assumption | refine below_drewN ?_ _ | refine Below.drew ?_ | refine below_alloc ?_ _) | (with_reducible refine below_set ?_ ?side _; (case side => first | omega | (simp; omega) | (simp only [World.size_alloc]; omega))) | (with_reducible refine below_trans ?_ (by assumption))))⟩)
        all_goals (simp_all [PMeta.may] <;> try first | rfl | omega)
      · have e3 : decide (s ≤ 2048) = false := by simpa using h0
        go_enter Tryz.func93, Tryz.ntmps93
        go_wp2_with fail
        go_quiet ((go_at_call 124; exact quietS (rquiet_c _ hm0 hm1 _)))
        all_goals try go_wp2_with fail
        all_goals (go_ret; go_tidy)
        all_goals (refine ⟨ret_bool ?_, (by repeat (first | (with_reducible first | exact Below.refl _ _ | assumption | refine below_drewN ?_ _ | refine Below.drew ?_ | refine below_alloc ?_ _) | (with_reducible refine below_set ?_ ?side _; (case side => first | omega | (simp; omega) | (simp only [World.size_alloc]; omega))) | (with_reducible refine below_trans ?_ (by assumption))))⟩)
        all_goals (simp_all [PMeta.may] <;> try first | rfl | omega)
    · have e1 : (k == 1) = false := beq_eq_false_iff_ne.2 k1
      go_enter Tryz.func93, Tryz.ntmps93
      go_wp2_with fail
      go_quiet ((go_at_call 124; exact quietS (rquiet_c _ hm0 hm1 _)))
      all_goals try go_wp2_with fail
      all_goals (go_ret; go_tidy)
      all_goals (refine ⟨ret_bool ?_, (by repeat (first | (with_reducible first | exact Below.refl _ _ | assumption | refine below_drewN ?_ _ | refine Below.drew ?_ | refine below_alloc ?_ _) | (with_reducible refine below_set ?_ ?side _; (case side => first | omega | (simp; omega) | (simp only [World.size_alloc]; omega))) | (with_reducible refine below_trans ?_ (by assumption))))⟩)
      all_goals (simp_all [PMeta.may] <;> try first | rfl | omega)
set_option maxHeartbeats 1000000 in
set_option maxRecDepth 100000 in
theorem rmayChange_c (a n o b : Int) (hn0 : 0 ≤ n) (ho0 : 0 ≤ o) (w : World) :
    Calls Tryz.prog 94 #[.agg #[.int .u8 a, .int .u64 n, .int .u8 o, .int .u64 b]] w (Ret w (.bool (PChange.mk a n o b).may)) := by
  go_enter Tryz.func94, Tryz.ntmps94
  go_wp2_with fail
  all_goals (go_ret; go_tidy)
  all_goals (refine ⟨ret_bool ?_, (by repeat (first | (with_reducible first | exact Below.refl _ _ | assumption | refine below_drewN ?_ _ | refine Below.drew ?_ | refine below_alloc ?_ _) | (with_reducible refine below_set ?_ ?side _; (case side => first | omega | (simp; omega) | (simp only [World.size_alloc]; omega))) | (with_reducible refine below_trans ?_ (by assumption))))⟩)
  all_goals (simp_all [PChange.may] <;> try first | rfl | omega)
end Go.Proofs.YtmggpfngbkbkmaaGreatDoor
