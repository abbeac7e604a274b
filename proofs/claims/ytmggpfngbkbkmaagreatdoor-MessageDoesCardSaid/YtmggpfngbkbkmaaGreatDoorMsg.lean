/- What package message does (1): key, the rules. -/
import Derived.Test.YtmggpfngbkbkmaaGreatDoorBlock4
import Derived.Test.YtmggpfngbkbkmaaGreatDoorMeta8
import Derived.Test.YtmggpfngbkbkmaaGreatDoorPlainMsg
namespace Go.Proofs.YtmggpfngbkbkmaaGreatDoor
open Go.RowKit
set_option linter.unusedVariables false
set_option linter.unusedSimpArgs false

theorem key_c (s : ByteArray) (hs : s.size < 4611686018427387904) (w : World) :
    Calls Tryz.prog 97 #[.string s] w fun e w' => e = .returned (.bool (keyOk s)) ∧ w = w' := by
  by_cases h0 : s.size = 0
  · have HE := Aside.mk (show keyOk s = false by simp [keyOk, h0])
    have hte : (s.toList == ([] : List UInt8)) = true := by simpa [toList_nil] using h0
    clear h0
    go_enter Tryz.func97, Tryz.ntmps97
    go_wp2
    go_ret
    exact ⟨by rw [HE.out]; rfl, rfl⟩
  · have hte : (s.toList == ([] : List UInt8)) = false := by simpa [toList_nil] using h0
    by_cases h1 : s.size ≤ 108
    · have HE := Aside.mk (show keyOk s = true by simp only [keyOk, decide_eq_true h1, decide_eq_true h0]; rfl)
      clear h0
      go_enter Tryz.func97, Tryz.ntmps97
      go_wp2
      all_goals (go_ret; go_tidy)
      all_goals (refine ⟨ret_bool ?_, rfl⟩; rw [HE.out]; first | rfl | (simp; omega) | (simp_all; done) | (simp_all; omega))
    · have HE := Aside.mk (show keyOk s = false by simp only [keyOk, decide_eq_false h1, Bool.and_false])
      clear h0
      go_enter Tryz.func97, Tryz.ntmps97
      go_wp2
      all_goals (go_ret; go_tidy)
      all_goals (refine ⟨ret_bool ?_, rfl⟩; rw [HE.out]; first | rfl | (simp; omega) | (simp_all; done) | (simp_all; omega))
set_option maxRecDepth 100000 in
theorem rule1_c (s : ByteArray) (hs : s.size < 4611686018427387904) (w : World) :
    Calls Tryz.prog 128 #[.string s] w (Ret w (.bool (metaE s == 0))) := by
  go_enter Tryz.func128, Tryz.ntmps128
  go_wp2_with fail
  refine (metaTake_c s _).mono ?_
  rintro e w1 ⟨rfl, hb⟩
  try unfold patchVal
  go_wp2_with fail
  go_ret
  exact ⟨rfl, (by repeat (first | (with_reducible first | exact Below.refl _ _ | assumption | refine below_drewN ?_ _ | refine Below.drew ?_ | refine below_alloc ?_ _) | (with_reducible refine below_set ?_ ?side _; (case side => first | omega | (simp; omega) | (simp only [World.size_alloc]; omega))) | (with_reducible refine below_trans ?_ (by assumption))))⟩
set_option maxRecDepth 100000 in
theorem rule2_c (s : ByteArray) (hs : s.size < 4611686018427387904) (w : World) :
    Calls Tryz.prog 129 #[.string s] w (Ret w (.bool (changeE s == 0))) := by
  go_enter Tryz.func129, Tryz.ntmps129
  go_wp2_with fail
  refine (takeChange_c s _).mono ?_
  rintro e w1 ⟨rfl, hb⟩
  try unfold patchVal
  go_wp2_with fail
  go_ret
  exact ⟨rfl, (by repeat (first | (with_reducible first | exact Below.refl _ _ | assumption | refine below_drewN ?_ _ | refine Below.drew ?_ | refine below_alloc ?_ _) | (with_reducible refine below_set ?_ ?side _; (case side => first | omega | (simp; omega) | (simp only [World.size_alloc]; omega))) | (with_reducible refine below_trans ?_ (by assumption))))⟩
set_option maxRecDepth 100000 in
theorem rule4_c (s : ByteArray) (hs : s.size < 4611686018427387904) (w : World) :
    Calls Tryz.prog 132 #[.string s] w (Ret w (.bool (patchE s == 0))) := by
  go_enter Tryz.func132, Tryz.ntmps132
  go_wp2_with fail
  refine (blkTake_c s hs _).mono ?_
  rintro e w1 ⟨rfl, hb⟩
  try unfold patchVal
  go_wp2_with fail
  go_ret
  exact ⟨rfl, (by repeat (first | (with_reducible first | exact Below.refl _ _ | assumption | refine below_drewN ?_ _ | refine Below.drew ?_ | refine below_alloc ?_ _) | (with_reducible refine below_set ?_ ?side _; (case side => first | omega | (simp; omega) | (simp only [World.size_alloc]; omega))) | (with_reducible refine below_trans ?_ (by assumption))))⟩
set_option maxRecDepth 100000 in
theorem rule3_c (s : ByteArray) (hs : s.size < 4611686018427387904) (w : World) :
    Calls Tryz.prog 130 #[.string s] w (Ret w (.bool (blkCheck s == 0))) := by
  go_enter Tryz.func130, Tryz.ntmps130
  go_wp2_with fail
  refine (blkCheck_c s hs _).mono ?_
  rintro e w1 ⟨rfl, rfl⟩
  go_wp2_with fail
  go_ret
  exact ⟨rfl, (by repeat (first | (with_reducible first | exact Below.refl _ _ | assumption | refine below_drewN ?_ _ | refine Below.drew ?_ | refine below_alloc ?_ _) | (with_reducible refine below_set ?_ ?side _; (case side => first | omega | (simp; omega) | (simp only [World.size_alloc]; omega))) | (with_reducible refine below_trans ?_ (by assumption))))⟩
theorem rule5_c (s : ByteArray) (hs : s.size < 4611686018427387904) (w : World) :
    Calls Tryz.prog 133 #[.string s] w (Ret w (.bool (decide (s.size ≤ 64)))) := by
  go_enter Tryz.func133, Tryz.ntmps133
  go_wp2_with fail
  all_goals (go_ret; go_tidy)
  all_goals (refine ⟨ret_bool ?_, (by repeat (first | (with_reducible first | exact Below.refl _ _ | assumption | refine below_drewN ?_ _ | refine Below.drew ?_ | refine below_alloc ?_ _) | (with_reducible refine below_set ?_ ?side _; (case side => first | omega | (simp; omega) | (simp only [World.size_alloc]; omega))) | (with_reducible refine below_trans ?_ (by assumption))))⟩; first | rfl | (simp; done) | (simp; omega) | (simp_all; omega))
theorem rule6_c (s : ByteArray) (hs : s.size < 4611686018427387904) (w : World) :
    Calls Tryz.prog 134 #[.string s] w (Ret w (.bool false)) := by
  go_enter Tryz.func134, Tryz.ntmps134
  go_wp2_with fail
  go_ret
  exact ⟨rfl, (by repeat (first | (with_reducible first | exact Below.refl _ _ | assumption | refine below_drewN ?_ _ | refine Below.drew ?_ | refine below_alloc ?_ _) | (with_reducible refine below_set ?_ ?side _; (case side => first | omega | (simp; omega) | (simp only [World.size_alloc]; omega))) | (with_reducible refine below_trans ?_ (by assumption))))⟩
end Go.Proofs.YtmggpfngbkbkmaaGreatDoor
