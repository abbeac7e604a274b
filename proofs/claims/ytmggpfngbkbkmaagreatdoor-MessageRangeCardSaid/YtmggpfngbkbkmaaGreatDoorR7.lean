/- What package message does (2): rules. -/
import Derived.Test.YtmggpfngbkbkmaaGreatDoorR5
import Derived.Test.YtmggpfngbkbkmaaGreatDoorR0
import Derived.Laws.EntriesVeiled
namespace Go.Proofs.YtmggpfngbkbkmaaGreatDoor
open Go.RowKit
set_option linter.unusedVariables false
set_option linter.unusedSimpArgs false

def fv (f : FuncId) : Value := .func (.func f) #[] #[]
set_option maxRecDepth 100000 in
theorem rules_m (k : ByteArray) (h0 : 0 < k.size) (hk : (k[0]).toNat = 109) (w : World) :
    Calls Tryz.prog 98 #[.string k] w (Ret w (.agg #[fv 128, fv 129])) := by
  have hpi : (0 : Int) < (k.size : Int) := by omega
  have e1 : (((k[0]).toNat : Int) == 109) = decide ((k[0]).toNat = 109) := by rw [Bool.eq_iff_iff, beq_iff_eq, decide_eq_true_eq]; omega
  have e2 : (((k[0]).toNat : Int) == 100) = decide ((k[0]).toNat = 100) := by rw [Bool.eq_iff_iff, beq_iff_eq, decide_eq_true_eq]; omega
  have hO := heap_new w (.cells #[.func (.func 128) #[] #[], .func (.func 129) #[] #[]] 132)
  have o0 := cell_of hO 0
  have o1 := cell_of hO 1
  simp at o0 o1
  go_enter Tryz.func98, Tryz.ntmps98
  go_wp2_with fail
  all_goals
    go_tidy
    refine bodyPost_ret (v := .agg #[.func (.func 128) #[] #[], .func (.func 129) #[] #[]]) (by simp [results, Tryz.results98, go_sem, o0, o1]) rfl ⟨rfl, ?_⟩
    (repeat (first | (with_reducible first | exact Below.refl _ _ | assumption | refine below_drewN ?_ _ | refine Below.drew ?_ | refine below_alloc ?_ _) | (with_reducible refine below_set ?_ ?side _; (case side => first | omega | (simp; omega) | (simp only [World.size_alloc]; omega))) | (with_reducible refine below_trans ?_ (by assumption))))
set_option maxRecDepth 100000 in
theorem rules_d (k : ByteArray) (h0 : 0 < k.size) (hk : (k[0]).toNat = 100) (w : World) :
    Calls Tryz.prog 98 #[.string k] w (Ret w (.agg #[fv 130, fv 132])) := by
  have hpi : (0 : Int) < (k.size : Int) := by omega
  have e1 : (((k[0]).toNat : Int) == 109) = decide ((k[0]).toNat = 109) := by rw [Bool.eq_iff_iff, beq_iff_eq, decide_eq_true_eq]; omega
  have e2 : (((k[0]).toNat : Int) == 100) = decide ((k[0]).toNat = 100) := by rw [Bool.eq_iff_iff, beq_iff_eq, decide_eq_true_eq]; omega
  have hO := heap_new w (.cells #[.func (.func 130) #[] #[], .func (.func 132) #[] #[]] 132)
  have o0 := cell_of hO 0
  have o1 := cell_of hO 1
  simp at o0 o1
  go_enter Tryz.func98, Tryz.ntmps98
  go_wp2_with fail
  all_goals
    go_tidy
    refine bodyPost_ret (v := .agg #[.func (.func 130) #[] #[], .func (.func 132) #[] #[]]) (by simp [results, Tryz.results98, go_sem, o0, o1]) rfl ⟨rfl, ?_⟩
    (repeat (first | (with_reducible first | exact Below.refl _ _ | assumption | refine below_drewN ?_ _ | refine Below.drew ?_ | refine below_alloc ?_ _) | (with_reducible refine below_set ?_ ?side _; (case side => first | omega | (simp; omega) | (simp only [World.size_alloc]; omega))) | (with_reducible refine below_trans ?_ (by assumption))))
set_option maxRecDepth 100000 in
theorem rules_o (k : ByteArray) (h0 : 0 < k.size) (hk : (k[0]).toNat ≠ 109 ∧ (k[0]).toNat ≠ 100) (w : World) :
    Calls Tryz.prog 98 #[.string k] w (Ret w (.agg #[fv 133, fv 134])) := by
  have hpi : (0 : Int) < (k.size : Int) := by omega
  have e1 : (((k[0]).toNat : Int) == 109) = decide ((k[0]).toNat = 109) := by rw [Bool.eq_iff_iff, beq_iff_eq, decide_eq_true_eq]; omega
  have e2 : (((k[0]).toNat : Int) == 100) = decide ((k[0]).toNat = 100) := by rw [Bool.eq_iff_iff, beq_iff_eq, decide_eq_true_eq]; omega
  have hO := heap_new w (.cells #[.func (.func 133) #[] #[], .func (.func 134) #[] #[]] 132)
  have o0 := cell_of hO 0
  have o1 := cell_of hO 1
  simp at o0 o1
  go_enter Tryz.func98, Tryz.ntmps98
  go_wp2_with fail
  all_goals
    go_tidy
    refine bodyPost_ret (v := .agg #[.func (.func 133) #[] #[], .func (.func 134) #[] #[]]) (by simp [results, Tryz.results98, go_sem, o0, o1]) rfl ⟨rfl, ?_⟩
    (repeat (first | (with_reducible first | exact Below.refl _ _ | assumption | refine below_drewN ?_ _ | refine Below.drew ?_ | refine below_alloc ?_ _) | (with_reducible refine below_set ?_ ?side _; (case side => first | omega | (simp; omega) | (simp only [World.size_alloc]; omega))) | (with_reducible refine below_trans ?_ (by assumption))))
end Go.Proofs.YtmggpfngbkbkmaaGreatDoor
/- What package message does (3): may. -/
namespace Go.Proofs.YtmggpfngbkbkmaaGreatDoor
open Go.RowKit
set_option linter.unusedVariables false
set_option linter.unusedSimpArgs false

def msgVal (m : PMsg) : Value := .agg #[.int .i64 m.op, .string m.key, .string m.til, .string m.value]
set_option maxHeartbeats 2000000 in
set_option maxRecDepth 100000 in
theorem msgMay_no (m : PMsg) (hk : m.key.size < 4611686018427387904) (h : keyOk m.key = false) (w : World) :
    Calls Tryz.prog 56 #[msgVal m] w (Ret w (.bool m.may)) := by
  obtain ⟨op, key, too, value⟩ := m
  have HE := Aside.mk (show (PMsg.mk op key too value).may = false by unfold PMsg.may; rw [show keyOk key = false from h]; rfl)
  have HK := Aside.mk h
  clear h
  simp only [msgVal] at hk ⊢
  go_enter Tryz.func56, Tryz.ntmps56
  go_wp2_with fail
  refine (key_c key hk _).mono ?_
  rintro e w1 ⟨rfl, rfl⟩
  rw [HK.out]
  go_wp2_with fail
  go_ret
  exact ⟨by rw [HE.out]; rfl, (by repeat (first | (with_reducible first | exact Below.refl _ _ | assumption | refine below_drewN ?_ _ | refine Below.drew ?_ | refine below_alloc ?_ _) | (with_reducible refine below_set ?_ ?side _; (case side => first | omega | (simp; omega) | (simp only [World.size_alloc]; omega))) | (with_reducible refine below_trans ?_ (by assumption))))⟩
theorem first_of {k : ByteArray} (h : 0 < k.size) : first k = (k[0]).toNat := by
  obtain ⟨⟨l⟩⟩ := k
  cases l with
  | nil => exact absurd h (by decide)
  | cons x r => rfl
set_option maxHeartbeats 2000000 in
set_option maxRecDepth 100000 in
theorem msgMay_m (op : Int) (key too value : ByteArray) (hk : key.size < 4611686018427387904) (ht : too.size < 4611686018427387904) (hv : value.size < 4611686018427387904) (h0 : 0 < key.size) (h : keyOk key = true) (hx : (key[0]).toNat = 109) (w : World) :
    Calls Tryz.prog 56 #[msgVal ⟨op, key, too, value⟩] w (Ret w (.bool (PMsg.mk op key too value).may)) := by
  have HK := Aside.mk h
  have HV := Aside.mk (show valueOk key value = (metaE value == 0) by unfold valueOk; rw [first_of h0]; simp [hx])
  have HP := Aside.mk (show patchOk key value = (changeE value == 0) by unfold patchOk; rw [first_of h0]; simp [hx])
  clear h
  simp only [msgVal] at hk ⊢
  go_enter Tryz.func56, Tryz.ntmps56
  go_wp2_with fail
  refine (key_c key hk _).mono ?_
  rintro e w1 ⟨rfl, rfl⟩
  rw [HK.out]
  go_wp2_with fail
  refine (rules_m key h0 hx _).mono ?_
  rintro e w1 ⟨rfl, hb1⟩
  unfold fv
  have hM := below_keep hb1 (heap_new w (.cells #[.int .i64 op, .string key, .string too, .string value] 23))
  obtain ⟨⟨d0, d1, d2, d3⟩, g0, g1, g2, g3⟩ := four hM
  have hz1 : w.heap.size < w1.heap.size := heap_lt hM
  go_wp2_with (first | (go_at_call 128; refine (rule1_c value hv _).mono ?_; rintro e w2 ⟨rfl, hb2⟩) | (go_at_call 129; refine (rule2_c value hv _).mono ?_; rintro e w2 ⟨rfl, hb2⟩) | (go_at_call 97; refine (key_c too ht _).mono ?_; rintro e w2 ⟨rfl, rfl⟩))
  all_goals (go_ret; go_tidy)
  all_goals (refine ⟨ret_bool ?_, (by repeat (first | (with_reducible first | exact Below.refl _ _ | assumption | refine below_drewN ?_ _ | refine Below.drew ?_ | refine below_alloc ?_ _) | (with_reducible refine below_set ?_ ?side _; (case side => first | omega | (simp; omega) | (simp only [World.size_alloc]; omega))) | (with_reducible refine below_trans ?_ (by assumption))))⟩)
  all_goals simp_all [PMsg.may, HK.out, HV.out, HP.out, emp, less]
set_option maxHeartbeats 2000000 in
set_option maxRecDepth 100000 in
theorem msgMay_d (op : Int) (key too value : ByteArray) (hk : key.size < 4611686018427387904) (ht : too.size < 4611686018427387904) (hv : value.size < 4611686018427387904) (h0 : 0 < key.size) (h : keyOk key = true) (hx : (key[0]).toNat = 100) (w : World) :
    Calls Tryz.prog 56 #[msgVal ⟨op, key, too, value⟩] w (Ret w (.bool (PMsg.mk op key too value).may)) := by
  have HK := Aside.mk h
  have HV := Aside.mk (show valueOk key value = (blkCheck value == 0) by unfold valueOk; rw [first_of h0]; simp [hx])
  have HP := Aside.mk (show patchOk key value = (patchE value == 0) by unfold patchOk; rw [first_of h0]; simp [hx])
  clear h
  simp only [msgVal] at hk ⊢
  go_enter Tryz.func56, Tryz.ntmps56
  go_wp2_with fail
  refine (key_c key hk _).mono ?_
  rintro e w1 ⟨rfl, rfl⟩
  rw [HK.out]
  go_wp2_with fail
  refine (rules_d key h0 hx _).mono ?_
  rintro e w1 ⟨rfl, hb1⟩
  unfold fv
  have hM := below_keep hb1 (heap_new w (.cells #[.int .i64 op, .string key, .string too, .string value] 23))
  obtain ⟨⟨d0, d1, d2, d3⟩, g0, g1, g2, g3⟩ := four hM
  have hz1 : w.heap.size < w1.heap.size := heap_lt hM
  go_wp2_with (first | (go_at_call 130; refine (rule3_c value hv _).mono ?_; rintro e w2 ⟨rfl, hb2⟩) | (go_at_call 132; refine (rule4_c value hv _).mono ?_; rintro e w2 ⟨rfl, hb2⟩) | (go_at_call 97; refine (key_c too ht _).mono ?_; rintro e w2 ⟨rfl, rfl⟩))
  all_goals (go_ret; go_tidy)
  all_goals (refine ⟨ret_bool ?_, (by repeat (first | (with_reducible first | exact Below.refl _ _ | assumption | refine below_drewN ?_ _ | refine Below.drew ?_ | refine below_alloc ?_ _) | (with_reducible refine below_set ?_ ?side _; (case side => first | omega | (simp; omega) | (simp only [World.size_alloc]; omega))) | (with_reducible refine below_trans ?_ (by assumption))))⟩)
  all_goals simp_all [PMsg.may, HK.out, HV.out, HP.out, emp, less]
set_option maxHeartbeats 2000000 in
set_option maxRecDepth 100000 in
theorem msgMay_o (op : Int) (key too value : ByteArray) (hk : key.size < 4611686018427387904) (ht : too.size < 4611686018427387904) (hv : value.size < 4611686018427387904) (h0 : 0 < key.size) (h : keyOk key = true) (hx : (key[0]).toNat ≠ 109 ∧ (key[0]).toNat ≠ 100) (w : World) :
    Calls Tryz.prog 56 #[msgVal ⟨op, key, too, value⟩] w (Ret w (.bool (PMsg.mk op key too value).may)) := by
  have HK := Aside.mk h
  have HV := Aside.mk (show valueOk key value = (decide (value.size ≤ 64)) by unfold valueOk; rw [first_of h0]; simp [hx])
  have HP := Aside.mk (show patchOk key value = (false) by unfold patchOk; rw [first_of h0]; simp [hx])
  clear h
  simp only [msgVal] at hk ⊢
  go_enter Tryz.func56, Tryz.ntmps56
  go_wp2_with fail
  refine (key_c key hk _).mono ?_
  rintro e w1 ⟨rfl, rfl⟩
  rw [HK.out]
  go_wp2_with fail
  refine (rules_o key h0 hx _).mono ?_
  rintro e w1 ⟨rfl, hb1⟩
  unfold fv
  have hM := below_keep hb1 (heap_new w (.cells #[.int .i64 op, .string key, .string too, .string value] 23))
  obtain ⟨⟨d0, d1, d2, d3⟩, g0, g1, g2, g3⟩ := four hM
  have hz1 : w.heap.size < w1.heap.size := heap_lt hM
  go_wp2_with (first | (go_at_call 133; refine (rule5_c value hv _).mono ?_; rintro e w2 ⟨rfl, hb2⟩) | (go_at_call 134; refine (rule6_c value hv _).mono ?_; rintro e w2 ⟨rfl, hb2⟩) | (go_at_call 97; refine (key_c too ht _).mono ?_; rintro e w2 ⟨rfl, rfl⟩))
  all_goals (go_ret; go_tidy)
  all_goals (refine ⟨ret_bool ?_, (by repeat (first | (with_reducible first | exact Below.refl _ _ | assumption | refine below_drewN ?_ _ | refine Below.drew ?_ | refine below_alloc ?_ _) | (with_reducible refine below_set ?_ ?side _; (case side => first | omega | (simp; omega) | (simp only [World.size_alloc]; omega))) | (with_reducible refine below_trans ?_ (by assumption))))⟩)
  all_goals simp_all [PMsg.may, HK.out, HV.out, HP.out, emp, less]
end Go.Proofs.YtmggpfngbkbkmaaGreatDoor
