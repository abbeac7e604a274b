/- What package rillbedref09 does (1): Value, Patch, May. -/
import Derived.Test.YtmggpfngbkbkmaaGreatDoorMsg8
import Derived.Test.YtmggpfngbkbkmaaGreatDoorPlainLess
import Derived.Test.YtmggpfngbkbkmaaGreatDoorRef07e
import Derived.Test.YtmggpfngbkbkmaaGreatDoorRef08c
namespace Go.Proofs.YtmggpfngbkbkmaaGreatDoor
open Go.RowKit
set_option linter.unusedVariables false
set_option linter.unusedSimpArgs false

set_option maxRecDepth 100000 in
theorem rValue_m (key v : ByteArray) (hv : v.size < 4611686018427387904) (h0 : 0 < key.size) (hx : (key[0]).toNat = 109) (w : World) :
    Calls Tryz.prog 103 #[.string key, .string v] w (Ret w (.bool (valueOk key v))) := by
  have HV := Aside.mk (show valueOk key v = (metaE v == 0) by unfold valueOk; rw [first_of h0]; simp [hx])
  have e1 : (((key[0]).toNat : Int) == 109) = true := by rw [hx]; rfl
  have e2 : (((key[0]).toNat : Int) == 100) = false := by rw [hx]; rfl
  have hpi : (0 : Int) < (key.size : Int) := by omega
  clear hx
  go_enter Tryz.func103, Tryz.ntmps103
  go_wp2_with fail
  refine (rTake_c v hv _).mono ?_
  rintro e w1 ⟨rfl, hb1⟩
  try unfold metaVal
  try subst hb1
  go_wp2_with fail
  all_goals (go_ret; go_tidy)
  all_goals (refine ⟨by rw [HV.out]; rfl, ?_⟩; (repeat (first | (with_reducible first | exact Below.refl _ _ | assumption | refine below_drewN ?_ _ | refine Below.drew ?_ | refine below_alloc ?_ _) | (with_reducible refine below_set ?_ ?side _; (case side => first | omega | (simp; omega) | (simp only [World.size_alloc]; omega))) | (with_reducible refine below_trans ?_ (by assumption)))))
set_option maxRecDepth 100000 in
theorem rValue_d (key v : ByteArray) (hv : v.size < 4611686018427387904) (h0 : 0 < key.size) (hx : (key[0]).toNat = 100) (w : World) :
    Calls Tryz.prog 103 #[.string key, .string v] w (Ret w (.bool (valueOk key v))) := by
  have HV := Aside.mk (show valueOk key v = (blkCheck v == 0) by unfold valueOk; rw [first_of h0]; simp [hx])
  have e1 : (((key[0]).toNat : Int) == 109) = false := by rw [hx]; rfl
  have e2 : (((key[0]).toNat : Int) == 100) = true := by rw [hx]; rfl
  have hpi : (0 : Int) < (key.size : Int) := by omega
  clear hx
  go_enter Tryz.func103, Tryz.ntmps103
  go_wp2_with fail
  refine (rCheck_c v hv _).mono ?_
  rintro e w1 ⟨rfl, hb1⟩
  try unfold metaVal
  try subst hb1
  go_wp2_with fail
  all_goals (go_ret; go_tidy)
  all_goals (refine ⟨by rw [HV.out]; rfl, ?_⟩; (repeat (first | (with_reducible first | exact Below.refl _ _ | assumption | refine below_drewN ?_ _ | refine Below.drew ?_ | refine below_alloc ?_ _) | (with_reducible refine below_set ?_ ?side _; (case side => first | omega | (simp; omega) | (simp only [World.size_alloc]; omega))) | (with_reducible refine below_trans ?_ (by assumption)))))
set_option maxRecDepth 100000 in
theorem rValue_o (key v : ByteArray) (hv : v.size < 4611686018427387904) (h0 : 0 < key.size) (h1 : (key[0]).toNat ≠ 109) (h2 : (key[0]).toNat ≠ 100) (w : World) :
    Calls Tryz.prog 103 #[.string key, .string v] w (Ret w (.bool (valueOk key v))) := by
  have HV := Aside.mk (show valueOk key v = decide (v.size ≤ 64) by unfold valueOk; rw [first_of h0, if_neg h1, if_neg h2])
  have e1 : (((key[0]).toNat : Int) == 109) = false := beq_eq_false_iff_ne.2 (by omega)
  have e2 : (((key[0]).toNat : Int) == 100) = false := beq_eq_false_iff_ne.2 (by omega)
  have hpi : (0 : Int) < (key.size : Int) := by omega
  clear h1 h2
  go_enter Tryz.func103, Tryz.ntmps103
  go_wp2_with fail
  all_goals (go_ret; go_tidy)
  all_goals (refine ⟨by rw [HV.out]; simp; omega, ?_⟩; (repeat (first | (with_reducible first | exact Below.refl _ _ | assumption | refine below_drewN ?_ _ | refine Below.drew ?_ | refine below_alloc ?_ _) | (with_reducible refine below_set ?_ ?side _; (case side => first | omega | (simp; omega) | (simp only [World.size_alloc]; omega))) | (with_reducible refine below_trans ?_ (by assumption)))))
theorem rValue_c (key v : ByteArray) (hv : v.size < 4611686018427387904) (h0 : 0 < key.size) (w : World) :
    Calls Tryz.prog 103 #[.string key, .string v] w (Ret w (.bool (valueOk key v))) := by
  by_cases h1 : (key[0]).toNat = 109
  · exact rValue_m key v hv h0 h1 w
  · by_cases h2 : (key[0]).toNat = 100
    · exact rValue_d key v hv h0 h2 w
    · exact rValue_o key v hv h0 h1 h2 w
set_option maxRecDepth 100000 in
theorem rPatch_m (key v : ByteArray) (hv : v.size < 4611686018427387904) (h0 : 0 < key.size) (hx : (key[0]).toNat = 109) (w : World) :
    Calls Tryz.prog 104 #[.string key, .string v] w (Ret w (.bool (patchOk key v))) := by
  have HV := Aside.mk (show patchOk key v = (changeE v == 0) by unfold patchOk; rw [first_of h0]; simp [hx])
  have e1 : (((key[0]).toNat : Int) == 109) = true := by rw [hx]; rfl
  have e2 : (((key[0]).toNat : Int) == 100) = false := by rw [hx]; rfl
  have hpi : (0 : Int) < (key.size : Int) := by omega
  clear hx
  go_enter Tryz.func104, Tryz.ntmps104
  go_wp2_with fail
  refine (rTakeChange_c v hv _).mono ?_
  rintro e w1 ⟨rfl, hb1⟩
  unfold changeVal
  go_wp2_with fail
  all_goals (go_ret; go_tidy)
  all_goals (refine ⟨by rw [HV.out]; rfl, ?_⟩; (repeat (first | (with_reducible first | exact Below.refl _ _ | assumption | refine below_drewN ?_ _ | refine Below.drew ?_ | refine below_alloc ?_ _) | (with_reducible refine below_set ?_ ?side _; (case side => first | omega | (simp; omega) | (simp only [World.size_alloc]; omega))) | (with_reducible refine below_trans ?_ (by assumption)))))
set_option maxRecDepth 100000 in
theorem rPatch_d (key v : ByteArray) (hv : v.size < 4611686018427387904) (h0 : 0 < key.size) (hx : (key[0]).toNat = 100) (w : World) :
    Calls Tryz.prog 104 #[.string key, .string v] w (Ret w (.bool (patchOk key v))) := by
  have HV := Aside.mk (show patchOk key v = (patchE v == 0) by unfold patchOk; rw [first_of h0]; simp [hx])
  have e1 : (((key[0]).toNat : Int) == 109) = false := by rw [hx]; rfl
  have e2 : (((key[0]).toNat : Int) == 100) = true := by rw [hx]; rfl
  have hpi : (0 : Int) < (key.size : Int) := by omega
  clear hx
  go_enter Tryz.func104, Tryz.ntmps104
  go_wp2_with fail
  refine (rpTake_c v hv _).mono ?_
  rintro e w1 ⟨rfl, hb1⟩
  unfold patchVal
  go_wp2_with fail
  all_goals (go_ret; go_tidy)
  all_goals (refine ⟨by rw [HV.out]; rfl, ?_⟩; (repeat (first | (with_reducible first | exact Below.refl _ _ | assumption | refine below_drewN ?_ _ | refine Below.drew ?_ | refine below_alloc ?_ _) | (with_reducible refine below_set ?_ ?side _; (case side => first | omega | (simp; omega) | (simp only [World.size_alloc]; omega))) | (with_reducible refine below_trans ?_ (by assumption)))))
set_option maxRecDepth 100000 in
theorem rPatch_o (key v : ByteArray) (h0 : 0 < key.size) (h1 : (key[0]).toNat ≠ 109) (h2 : (key[0]).toNat ≠ 100) (w : World) :
    Calls Tryz.prog 104 #[.string key, .string v] w (Ret w (.bool (patchOk key v))) := by
  have HV := Aside.mk (show patchOk key v = false by unfold patchOk; rw [first_of h0, if_neg h1, if_neg h2])
  have e1 : (((key[0]).toNat : Int) == 109) = false := beq_eq_false_iff_ne.2 (by omega)
  have e2 : (((key[0]).toNat : Int) == 100) = false := beq_eq_false_iff_ne.2 (by omega)
  have hpi : (0 : Int) < (key.size : Int) := by omega
  clear h1 h2
  go_enter Tryz.func104, Tryz.ntmps104
  go_wp2_with fail
  all_goals (go_ret; go_tidy)
  all_goals (refine ⟨by rw [HV.out]; rfl, ?_⟩; (repeat (first | (with_reducible first | exact Below.refl _ _ | assumption | refine below_drewN ?_ _ | refine Below.drew ?_ | refine below_alloc ?_ _) | (with_reducible refine below_set ?_ ?side _; (case side => first | omega | (simp; omega) | (simp only [World.size_alloc]; omega))) | (with_reducible refine below_trans ?_ (by assumption)))))
theorem rPatch_c (key v : ByteArray) (hv : v.size < 4611686018427387904) (h0 : 0 < key.size) (w : World) :
    Calls Tryz.prog 104 #[.string key, .string v] w (Ret w (.bool (patchOk key v))) := by
  by_cases h1 : (key[0]).toNat = 109
  · exact rPatch_m key v hv h0 h1 w
  · by_cases h2 : (key[0]).toNat = 100
    · exact rPatch_d key v hv h0 h2 w
    · exact rPatch_o key v h0 h1 h2 w
theorem less_nil {k s : ByteArray} (h : less k s = true) : s.size ≠ 0 := by
  intro h0
  have : s.toList = [] := (toList_nil s).2 h0
  unfold less at h
  rw [this] at h
  cases hk : k.toList <;> simp [hk, Op.bytesLess] at h
theorem keyOk_of {k : ByteArray} (h0 : 0 < k.size) (h : k.size ≤ 108) : keyOk k = true := by
  unfold keyOk; rw [decide_eq_true (by omega), decide_eq_true h]; rfl
theorem keyOk_not {k : ByteArray} (h : k.size = 0 ∨ 108 < k.size) : keyOk k = false := by
  unfold keyOk
  rcases h with h | h
  · rw [decide_eq_false (by omega)]; rfl
  · rw [decide_eq_false (p := k.size ≤ 108) (by omega), Bool.and_false]
set_option maxRecDepth 100000 in
theorem rMay_no (op : Int) (key too value : ByteArray) (hk : key.size < 4611686018427387904) (h : key.size = 0 ∨ 108 < key.size ∨ op < 1 ∨ 4 < op) (w : World) :
    Calls Tryz.prog 78 #[msgVal ⟨op, key, too, value⟩] w (Ret w (.bool false)) := by
  simp only [msgVal]
  rcases h with h | h | h | h
  all_goals
    go_enter Tryz.func78, Tryz.ntmps78
    go_wp2_with fail
    all_goals first
      | (exfalso; simp_all; omega)
      | (go_ret; go_tidy; refine Ret.mk' (by first | rfl | (simp; done) | (simp_all; done)) ?_; (repeat (first | (with_reducible first | exact Below.refl _ _ | assumption | refine below_drewN ?_ _ | refine Below.drew ?_ | refine below_alloc ?_ _) | (with_reducible refine below_set ?_ ?side _; (case side => first | omega | (simp; omega) | (simp only [World.size_alloc]; omega))) | (with_reducible refine below_trans ?_ (by assumption)))))
set_option maxRecDepth 100000 in
theorem rMay_1 (key too value : ByteArray) (h0 : 0 < key.size) (h1 : key.size ≤ 108) (hv : value.size < 4611686018427387904) (w : World) :
    Calls Tryz.prog 78 #[msgVal ⟨1, key, too, value⟩] w (Ret w (.bool (PMsg.may ⟨1, key, too, value⟩))) := by
  have HM := Aside.mk (show PMsg.may ⟨1, key, too, value⟩ = (emp too && valueOk key value) by unfold PMsg.may; rw [keyOk_of h0 h1]; rfl)
  have hB := heap_new w (.cells #[.int .i64 1, .string key, .string too, .string value] 23)
  simp only [msgVal]
  go_enter Tryz.func78, Tryz.ntmps78
  go_wp2_with (refine (rValue_c key value hv h0 _).mono ?_; rintro e w1 ⟨rfl, hb1⟩)
  all_goals (go_ret; go_tidy)
  all_goals (refine Ret.mk' ?_ ?_)
  all_goals first | ((repeat (first | (with_reducible first | exact Below.refl _ _ | assumption | refine below_drewN ?_ _ | refine Below.drew ?_ | refine below_alloc ?_ _) | (with_reducible refine below_set ?_ ?side _; (case side => first | omega | (simp; omega) | (simp only [World.size_alloc]; omega))) | (with_reducible refine below_trans ?_ (by assumption)))); done) | (rw [HM.out]; simp_all [emp])
set_option maxRecDepth 100000 in
theorem rMay_4 (key too value : ByteArray) (h0 : 0 < key.size) (h1 : key.size ≤ 108) (hv : value.size < 4611686018427387904) (w : World) :
    Calls Tryz.prog 78 #[msgVal ⟨4, key, too, value⟩] w (Ret w (.bool (PMsg.may ⟨4, key, too, value⟩))) := by
  have HM := Aside.mk (show PMsg.may ⟨4, key, too, value⟩ = (emp too && patchOk key value) by unfold PMsg.may; rw [keyOk_of h0 h1]; rfl)
  have hB := heap_new w (.cells #[.int .i64 4, .string key, .string too, .string value] 23)
  simp only [msgVal]
  go_enter Tryz.func78, Tryz.ntmps78
  go_wp2_with (refine (rPatch_c key value hv h0 _).mono ?_; rintro e w1 ⟨rfl, hb1⟩)
  all_goals (go_ret; go_tidy)
  all_goals (refine Ret.mk' ?_ ?_)
  all_goals first | ((repeat (first | (with_reducible first | exact Below.refl _ _ | assumption | refine below_drewN ?_ _ | refine Below.drew ?_ | refine below_alloc ?_ _) | (with_reducible refine below_set ?_ ?side _; (case side => first | omega | (simp; omega) | (simp only [World.size_alloc]; omega))) | (with_reducible refine below_trans ?_ (by assumption)))); done) | (rw [HM.out]; simp_all [emp])
set_option maxRecDepth 100000 in
theorem rMay_2 (key too value : ByteArray) (h0 : 0 < key.size) (h1 : key.size ≤ 108) (ht : too.size < 4611686018427387904) (hv : value.size < 4611686018427387904) (w : World) :
    Calls Tryz.prog 78 #[msgVal ⟨2, key, too, value⟩] w (Ret w (.bool (PMsg.may ⟨2, key, too, value⟩))) := by
  have HM := Aside.mk (show PMsg.may ⟨2, key, too, value⟩ = (emp too && emp value) by unfold PMsg.may; rw [keyOk_of h0 h1]; rfl)
  have HL := Aside.mk (fun h : less key too = true => less_nil h)
  simp only [msgVal]
  go_enter Tryz.func78, Tryz.ntmps78
  go_wp2_with fail
  all_goals (go_ret; go_tidy)
  all_goals (refine Ret.mk' ?_ ?_)
  all_goals first | ((repeat (first | (with_reducible first | exact Below.refl _ _ | assumption | refine below_drewN ?_ _ | refine Below.drew ?_ | refine below_alloc ?_ _) | (with_reducible refine below_set ?_ ?side _; (case side => first | omega | (simp; omega) | (simp only [World.size_alloc]; omega))) | (with_reducible refine below_trans ?_ (by assumption)))); done) | (rw [HM.out]; have HL' := HL.out; clear HL HM; simp_all [emp, less, keyOk]; done) | (rw [HM.out]; have HL' := HL.out; clear HL HM; simp_all [emp, less, keyOk]; omega) | skip
  skip
set_option maxRecDepth 100000 in
theorem rMay_3 (key too value : ByteArray) (h0 : 0 < key.size) (h1 : key.size ≤ 108) (ht : too.size < 4611686018427387904) (hv : value.size < 4611686018427387904) (w : World) :
    Calls Tryz.prog 78 #[msgVal ⟨3, key, too, value⟩] w (Ret w (.bool (PMsg.may ⟨3, key, too, value⟩))) := by
  have HM := Aside.mk (show PMsg.may ⟨3, key, too, value⟩ = (emp value && (keyOk too && less key too)) by unfold PMsg.may; rw [keyOk_of h0 h1]; rfl)
  have HL := Aside.mk (fun h : less key too = true => less_nil h)
  simp only [msgVal]
  go_enter Tryz.func78, Tryz.ntmps78
  go_wp2_with fail
  all_goals (go_ret; go_tidy)
  all_goals (refine Ret.mk' ?_ ?_)
  all_goals first | ((repeat (first | (with_reducible first | exact Below.refl _ _ | assumption | refine below_drewN ?_ _ | refine Below.drew ?_ | refine below_alloc ?_ _) | (with_reducible refine below_set ?_ ?side _; (case side => first | omega | (simp; omega) | (simp only [World.size_alloc]; omega))) | (with_reducible refine below_trans ?_ (by assumption)))); done) | (rw [HM.out]; have HL' := HL.out; clear HL HM; simp_all [emp, less, keyOk]; done) | (rw [HM.out]; have HL' := HL.out; clear HL HM; simp_all [emp, less, keyOk]; omega) | skip
  all_goals
    have hv0 : emp value = true := by unfold emp; simp_all
    have ht' : too.size ≤ 108 := by omega
    rw [HM.out, hv0, Bool.true_and]
    show Value.bool (!Op.bytesLess too.toList key.toList && !(too.toList == key.toList)) = _
    rw [bl_gt]
    show Value.bool (less key too) = _
    cases hl : less key too
    · rw [Bool.and_false]
    · have h2 := HL.out hl
      rw [keyOk_of (by omega) ht']; rfl
theorem rMay_c (m : PMsg) (hk : m.key.size < 4611686018427387904) (ht : m.to.size < 4611686018427387904) (hv : m.value.size < 4611686018427387904) (w : World) :
    Calls Tryz.prog 78 #[msgVal m] w (Ret w (.bool m.may)) := by
  obtain ⟨op, key, too, value⟩ := m
  simp only at hk ht hv
  by_cases h : key.size = 0 ∨ 108 < key.size
  · have hm : PMsg.may ⟨op, key, too, value⟩ = false := by unfold PMsg.may; rw [keyOk_not h]; rfl
    rw [hm]
    exact rMay_no op key too value hk (by omega) w
  · by_cases ho : op < 1 ∨ 4 < op
    · have hm : PMsg.may ⟨op, key, too, value⟩ = false := by
        cases hy : PMsg.may ⟨op, key, too, value⟩
        · rfl
        · have := (may_parts hy).2.2.2; simp only at this; omega
      rw [hm]
      exact rMay_no op key too value hk (by omega) w
    · rcases (show op = 1 ∨ op = 2 ∨ op = 3 ∨ op = 4 by omega) with rfl | rfl | rfl | rfl
      · exact rMay_1 key too value (by omega) (by omega) hv w
      · exact rMay_2 key too value (by omega) (by omega) ht hv w
      · exact rMay_3 key too value (by omega) (by omega) ht hv w
      · exact rMay_4 key too value (by omega) (by omega) hv w
end Go.Proofs.YtmggpfngbkbkmaaGreatDoor
