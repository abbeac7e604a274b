/- What package meta does (3): changes. -/
import Derived.Test.YtmggpfngbkbkmaaGreatDoorMeta2
namespace Go.Proofs.YtmggpfngbkbkmaaGreatDoor
open Go.RowKit
set_option linter.unusedVariables false
set_option linter.unusedSimpArgs false

theorem ret_bool {a b : Bool} (h : a = b) : Ending.returned (.bool a) = .returned (.bool b) := by rw [h]
set_option maxHeartbeats 1000000 in
set_option maxRecDepth 100000 in
theorem changeMay_c (a n o b : Int) (hn0 : 0 ≤ n) (ho0 : 0 ≤ o) (w : World) :
    Calls Tryz.prog 120 #[.agg #[.int .u8 a, .int .u64 n, .int .u8 o, .int .u64 b]] w (Ret w (.bool (PChange.mk a n o b).may)) := by
  go_enter Tryz.func120, Tryz.ntmps120
  go_wp2_with fail
  all_goals (go_ret; go_tidy)
  all_goals (refine ⟨ret_bool ?_, (by repeat (first | (with_reducible first | exact Below.refl _ _ | assumption | refine below_drewN ?_ _ | refine Below.drew ?_ | refine below_alloc ?_ _) | (with_reducible refine below_set ?_ ?side _; (case side => first | omega | (simp; omega) | (simp only [World.size_alloc]; omega))) | (with_reducible refine below_trans ?_ (by assumption))))⟩)
  all_goals (simp_all [PChange.may] <;> try omega)

/-- The facts of a block of four cells. -/
theorem four {w : World} {k : Nat} {c0 c1 c2 c3 : Value} {T : TypeId} (h : w.heap[k]? = some (.cells #[c0, c1, c2, c3] T (0, 0))) :
    (w.cell? ⟨k, 0, none⟩ = some c0 ∧ w.cell? ⟨k, 1, none⟩ = some c1 ∧ w.cell? ⟨k, 2, none⟩ = some c2 ∧ w.cell? ⟨k, 3, none⟩ = some c3) ∧
    (w.frozen? ⟨k, 0, none⟩ = false ∧ w.frozen? ⟨k, 1, none⟩ = false ∧ w.frozen? ⟨k, 2, none⟩ = false ∧ w.frozen? ⟨k, 3, none⟩ = false) := by
  refine ⟨⟨?_, ?_, ?_, ?_⟩, free_of h 0, free_of h 1, free_of h 2, free_of h 3⟩ <;> rw [cell_of h] <;> rfl

end Go.Proofs.YtmggpfngbkbkmaaGreatDoor
