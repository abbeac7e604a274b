/- What package rillbedref09 does (1): Value, Patch, May. -/
import Derived.Test.YtmggpfngbkbkmaaGreatDoorR11
import Derived.Test.YtmggpfngbkbkmaaGreatDoorR10
import Derived.Test.YtmggpfngbkbkmaaGreatDoorR6
import Derived.Test.YtmggpfngbkbkmaaGreatDoorR12
namespace Go.Proofs.YtmggpfngbkbkmaaGreatDoor
open Go.RowKit
set_option linter.unusedVariables false
set_option linter.unusedSimpArgs false

set_option maxRecDepth 100000 in
theorem rValue_m (key v : ByteArray) (hv : v.size < 4611686018427387904) (h0 : 0 < key.size) (hx : (key[0]).toNat = 109) (w : World) :
    Calls Tryz.prog 103 #[.string key, .string v] w (Ret w (.bool (valueOk key v))) := by
  have HV := Aside.mk (show valueOk key v = (metaE v == 0) by unfold valueOk; rw [first_of h0]; simp [hx])
  have e1 : (((key[0]).toNat : Int) == 109) = true := by rw [hx]; rfl
  have e2 : (((key[0]).toNat : Int) == 100) = false := by rw [hx]; rfl
  have hpi : (0 : Int) < (key.size : Int) := by omega
  clear hx
  go_enter Tryz.func103, Tryz.ntmps103
  go_wp2_with fail
  refine (rTake_c v hv _).mono ?_
  rintro e w1 ⟨rfl, hb1⟩
  try unfold metaVal
  try subst hb1
  go_wp2_with fail
  all_goals (go_ret; go_tidy)
  all_goals (refine ⟨by rw [HV.out]; rfl, ?_⟩; (repeat (first | (with_reducible first | exact Below.refl _ _ | assumption | refine below_drewN ?_ _ | refine Below.drew ?_ | refine below_alloc ?_ _) | (with_reducible refine below_set ?_ ?side _; (case side => first | omega | (simp; omega) | (simp only [World.size_alloc]; omega))) | (with_reducible refine below_trans ?_ (by assumption)))))
set_option maxRecDepth 100000 in
theorem rValue_d (key v : ByteArray) (hv : v.size < 4611686018427387904) (h0 : 0 < key.size) (hx : (key[0]).toNat = 100) (w : World) :
    Calls Tryz.prog 103 #[.string key, .string v] w (Ret w (.bool (valueOk key v))) := by
  have HV := Aside.mk (show valueOk key v = (blkCheck v == 0) by unfold valueOk; rw [first_of h0]; simp [hx])
  have e1 : (((key[0]).toNat : Int) == 109) = false := by rw [hx]; rfl
  have e2 : (((key[0]).toNat : Int) == 100) = true := by rw [hx]; rfl
  have hpi : (0 : Int) < (key.size : Int) := by omega
  clear hx
  go_enter Tryz.func103, Tryz.ntmps103
  go_wp2_with fail
  refine (rCheck_c v hv _).mono ?_
  rintro e w1 ⟨rfl, hb1⟩
  try unfold metaVal
  try subst hb1
  go_wp2_with fail
  all_goals (go_ret; go_tidy)
  all_goals (refine ⟨by rw [HV.out]; rfl, ?_⟩; (repeat (first | (with_reducible first | exact Below.refl _ _ | assumption | refine below_drewN ?_ _ | refine Below.drew ?_ | refine below_alloc ?_ _) | (with_reducible refine below_set ?_ ?side _; (case side => first | omega | (simp; omega) | (simp only [World.size_alloc]; omega))) | (with_reducible refine below_trans ?_ (by assumption)))))
set_option maxRecDepth 100000 in
theorem rValue_o (key v : ByteArray) (hv : v.size < 4611686018427387904) (h0 : 0 < key.size) (h1 : (key[0]).toNat ≠ 109) (h2 : (key[0]).toNat ≠ 100) (w : World) :
    Calls Tryz.prog 103 #[.string key, .string v] w (Ret w (.bool (valueOk key v))) := by
  have HV := Aside.mk (show valueOk key v = decide (v.size ≤ 64) by unfold valueOk; rw [first_of h0, if_neg h1, if_neg h2])
  have e1 : (((key[0]).toNat : Int) == 109) = false := beq_eq_false_iff_ne.2 (by omega)
  have e2 : (((key[0]).toNat : Int) == 100) = false := beq_eq_false_iff_ne.2 (by omega)
  have hpi : (0 : Int) < (key.size : Int) := by omega
  clear h1 h2
  go_enter Tryz.func103, Tryz.ntmps103
  go_wp2_with fail
  all_goals (go_ret; go_tidy)
  all_goals (refine ⟨by rw [HV.out]; simp; omega, ?_⟩; (repeat (first | (with_reducible first | exact Below.refl _ _ | assumption | refine below_drewN ?_ _ | refine Below.drew ?_ | refine below_alloc ?_ _) | (with_reducible refine below_set ?_ ?side _; (case side => first | omega | (simp; omega) | (simp only [World.size_alloc]; omega))) | (with_reducible refine below_trans ?_ (by assumption)))))
theorem rValue_c (key v : ByteArray) (hv : v.size < 4611686018427387904) (h0 : 0 < key.size) (w : World) :
    Calls Tryz.prog 103 #[.string key, .string v] w (Ret w (.bool (valueOk key v))) := by
  by_cases h1 : (key[0]).toNat = 109
  · exact rValue_m key v hv h0 h1 w
  · by_cases h2 : (key[0]).toNat = 100
    · exact rValue_d key v hv h0 h2 w
    · exact rValue_o key v hv h0 h1 h2 w
set_option maxRecDepth 100000 in
theorem rPatch_m (key v : ByteArray) (hv : v.size < 4611686018427387904) (h0 : 0 < key.size) (hx : (key[0]).toNat = 109) (w : World) :
    Calls Tryz.prog 104 #[.string key, .string v] w (Ret w (.bool (patchOk key v))) := by
  have HV := Aside.mk (show patchOk key v = (changeE v == 0) by unfold patchOk; rw [first_of h0]; simp [hx])
  have e1 : (((key[0]).toNat : Int) == 109) = true := by rw [hx]; rfl
  have e2 : (((key[0]).toNat : Int) == 100) = false := by rw [hx]; rfl
  have hpi : (0 : Int) < (key.size : Int) := by omega
  clear hx
  go_enter Tryz.func104, Tryz.ntmps104
  go_wp2_with fail
  refine (rTakeChange_c v hv _).mono ?_
  rintro e w1 ⟨rfl, hb1⟩
  unfold changeVal
  go_wp2_with fail
  all_goals (go_ret; go_tidy)
  all_goals (refine ⟨by rw [HV.out]; rfl, ?_⟩; (repeat (first | (with_reducible first | exact Below.refl _ _ | assumption | refine below_drewN ?_ _ | refine Below.drew ?_ | refine below_alloc ?_ _) | (with_reducible refine below_set ?_ ?side _; (case side => first | omega | (simp; omega) | (simp only [World.size_alloc]; omega))) | (with_reducible refine below_trans ?_ (by assumption)))))
set_option maxRecDepth 100000 in
theorem rPatch_d (key v : ByteArray) (hv : v.size < 4611686018427387904) (h0 : 0 < key.size) (hx : (key[0]).toNat = 100) (w : World) :
    Calls Tryz.prog 104 #[.string key, .string v] w (Ret w (.bool (patchOk key v))) := by
  have HV := Aside.mk (show patchOk key v = (patchE v == 0) by unfold patchOk; rw [first_of h0]; simp [hx])
  have e1 : (((key[0]).toNat : Int) == 109) = false := by rw [hx]; rfl
  have e2 : (((key[0]).toNat : Int) == 100) = true := by rw [hx]; rfl
  have hpi : (0 : Int) < (key.size : Int) := by omega
  clear hx
  go_enter Tryz.func104, Tryz.ntmps104
  go_wp2_with fail
  refine (rpTake_c v hv _).mono ?_
  rintro e w1 ⟨rfl, hb1⟩
  unfold patchVal
  go_wp2_with fail
  all_goals (go_ret; go_tidy)
  all_goals (refine ⟨by rw [HV.out]; rfl, ?_⟩; (repeat (first | (with_reducible first | exact Below.refl _ _ | assumption | refine below_drewN ?_ _ | refine Below.drew ?_ | refine below_alloc ?_ _) | (with_reducible refine below_set ?_ ?side _; (case side => first | omega | (simp; omega) | (simp only [World.size_alloc]; omega))) | (with_reducible refine below_trans ?_ (by assumption)))))
set_option maxRecDepth 100000 in
theorem rPatch_o (key v : ByteArray) (h0 : 0 < key.size) (h1 : (key[0]).toNat ≠ 109) (h2 : (key[0]).toNat ≠ 100) (w : World) :
    Calls Tryz.prog 104 #[.string key, .string v] w (Ret w (.bool (patchOk key v))) := by
  have HV := Aside.mk (show patchOk key v = false by unfold patchOk; rw [first_of h0, if_neg h1, if_neg h2])
  have e1 : (((key[0]).toNat : Int) == 109) = false := beq_eq_false_iff_ne.2 (by omega)
  have e2 : (((key[0]).toNat : Int) == 100) = false := beq_eq_false_iff_ne.2 (by omega)
  have hpi : (0 : Int) < (key.size : Int) := by omega
  clear h1 h2
  go_enter Tryz.func104, Tryz.ntmps104
  go_wp2_with fail
  all_goals (go_ret; go_tidy)
  all_goals (refine ⟨by rw [HV.out]; rfl, ?_⟩; (repeat (first | (with_reducible first | exact Below.refl _ _ | assumption | refine below_drewN ?_ _ | refine Below.drew ?_ | refine below_alloc ?_ _) | (with_reducible refine below_set ?_ ?side _; (case side => first | omega | (simp; omega) | (simp only [World.size_alloc]; omega))) | (with_reducible refine below_trans ?_ (by assumption)))))
theorem rPatch_c (key v : ByteArray) (hv : v.size < 4611686018427387904) (h0 : 0 < key.size) (w : World) :
    Calls Tryz.prog 104 #[.string key, .string v] w (Ret w (.bool (patchOk key v))) := by
  by_cases h1 : (key[0]).toNat = 109
  · exact rPatch_m key v hv h0 h1 w
  · by_cases h2 : (key[0]).toNat = 100
    · exact rPatch_d key v hv h0 h2 w
    · exact rPatch_o key v h0 h1 h2 w
theorem less_nil {k s : ByteArray} (h : less k s = true) : s.size ≠ 0 := by
  intro h0
  have : s.toList = [] := (toList_nil s).2 h0
  unfold less at h
  rw [this] at h
  cases hk : k.toList <;> simp [hk, Op.bytesLess] at h
theorem keyOk_of {k : ByteArray} (h0 : 0 < k.size) (h : k.size ≤ 108) : keyOk k = true := by
  unfold keyOk; rw [decide_eq_true (by omega), decide_eq_true h]; rfl
theorem keyOk_not {k : ByteArray} (h : k.size = 0 ∨ 108 < k.size) : keyOk k = false := by
  unfold keyOk
  rcases h with h | h
  · rw [decide_eq_false (by omega)]; rfl
  · rw [decide_eq_false (p := k.size ≤ 108) (by omega), Bool.and_false]
set_option maxRecDepth 100000 in
theorem rMay_no (op : Int) (key too value : ByteArray) (hk : key.size < 4611686018427387904) (h : key.size = 0 ∨ 108 < key.size ∨ op < 1 ∨ 4 < op) (w : World) :
    Calls Tryz.prog 78 #[msgVal ⟨op, key, too, value⟩] w (Ret w (.bool false)) := by
  simp only [msgVal]
  rcases h with h | h | h | h
  all_goals
    go_enter Tryz.func78, Tryz.ntmps78
    go_wp2_with fail
    all_goals first
      | (exfalso; simp_all; omega)
      | (go_ret; go_tidy; refine Ret.mk' (by first | rfl | (simp; done) | (simp_all; done)) ?_; (repeat (first | (with_reducible first | exact Below.refl _ _ | assumption | refine below_drewN ?_ _ | refine Below.drew ?_ | refine below_alloc ?_ _) | (with_reducible refine below_set ?_ ?side _; (case side => first | omega | (simp; omega) | (simp only [World.size_alloc]; omega))) | (with_reducible refine below_trans ?_ (by assumption)))))
set_option maxRecDepth 100000 in
theorem rMay_1 (key too value : ByteArray) (h0 : 0 < key.size) (h1 : key.size ≤ 108) (hv : value.size < 4611686018427387904) (w : World) :
    Calls Tryz.prog 78 #[msgVal ⟨1, key, too, value⟩] w (Ret w (.bool (PMsg.may ⟨1, key, too, value⟩))) := by
  have HM := Aside.mk (show PMsg.may ⟨1, key, too, value⟩ = (emp too && valueOk key value) by unfold PMsg.may; rw [keyOk_of h0 h1]; rfl)
  have hB := heap_new w (.cells #[.int .i64 1, .string key, .string too, .string value] 23)
  simp only [msgVal]
  go_enter Tryz.func78, Tryz.ntmps78
  go_wp2_with (refine (rValue_c key value hv h0 _).mono ?_; rintro e w1 ⟨rfl, hb1⟩)
  all_goals (go_ret; go_tidy)
  all_goals (refine Ret.mk' ?_ ?_)
  all_goals first | ((repeat (first | (with_reducible first | exact Below.refl _ _ | assumption | refine below_drewN ?_ _ | refine Below.drew ?_ | refine below_alloc ?_ _) | (with_reducible refine below_set ?_ ?side _; (case side => first | omega | (simp; omega) | (simp only [World.size_alloc]; omega))) | (with_reducible refine below_trans ?_ (by assumption)))); done) | (rw [HM.out]; simp_all [emp])
set_option maxRecDepth 100000 in
theorem rMay_4 (key too value : ByteArray) (h0 : 0 < key.size) (h1 : key.size ≤ 108) (hv : value.size < 4611686018427387904) (w : World) :
    Calls Tryz.prog 78 #[msgVal ⟨4, key, too, value⟩] w (Ret w (.bool (PMsg.may ⟨4, key, too, value⟩))) := by
  have HM := Aside.mk (show PMsg.may ⟨4, key, too, value⟩ = (emp too && patchOk key value) by unfold PMsg.may; rw [keyOk_of h0 h1]; rfl)
  have hB := heap_new w (.cells #[.int .i64 4, .string key, .string too, .string value] 23)
  simp only [msgVal]
  go_enter Tryz.func78, Tryz.ntmps78
  go_wp2_with (refine (rPatch_c key value hv h0 _).mono ?_; rintro e w1 ⟨rfl, hb1⟩)
  all_goals (go_ret; go_tidy)
  all_goals (refine Ret.mk' ?_ ?_)
  all_goals first | ((repeat (first | (with_reducible first | exact Below.refl _ _ | assumption | refine below_drewN ?_ _ | refine Below.drew ?_ | refine below_alloc ?_ _) | (with_reducible refine below_set ?_ ?side _; (case side => first | omega | (simp; omega) | (simp only [World.size_alloc]; omega))) | (with_reducible refine below_trans ?_ (by assumption)))); done) | (rw [HM.out]; simp_all [emp])
set_option maxRecDepth 100000 in
theorem rMay_2 (key too value : ByteArray) (h0 : 0 < key.size) (h1 : key.size ≤ 108) (ht : too.size < 4611686018427387904) (hv : value.size < 4611686018427387904) (w : World) :
    Calls Tryz.prog 78 #[msgVal ⟨2, key, too, value⟩] w (Ret w (.bool (PMsg.may ⟨2, key, too, value⟩))) := by
  have HM := Aside.mk (show PMsg.may ⟨2, key, too, value⟩ = (emp too && emp value) by unfold PMsg.may; rw [keyOk_of h0 h1]; rfl)
  have HL := Aside.mk (fun h : less key too = true => less_nil h)
  simp only [msgVal]
  go_enter Tryz.func78, Tryz.ntmps78
  go_wp2_with fail
  all_goals (go_ret; go_tidy)
  all_goals (refine Ret.mk' ?_ ?_)
  all_goals first | ((repeat (first | (with_reducible first | exact Below.refl _ _ | assumption | refine below_drewN ?_ _ | refine Below.drew ?_ | refine below_alloc ?_ _) | (with_reducible refine below_set ?_ ?side _; (case side => first | omega | (simp; omega) | (simp only [World.size_alloc]; omega))) | (with_reducible refine below_trans ?_ (by assumption)))); done) | (rw [HM.out]; have HL' := HL.out; clear HL HM; simp_all [emp, less, keyOk]; done) | (rw [HM.out]; have HL' := HL.out; clear HL HM; simp_all [emp, less, keyOk]; omega) | skip
  skip
set_option maxRecDepth 100000 in
theorem rMay_3 (key too value : ByteArray) (h0 : 0 < key.size) (h1 : key.size ≤ 108) (ht : too.size < 4611686018427387904) (hv : value.size < 4611686018427387904) (w : World) :
    Calls Tryz.prog 78 #[msgVal ⟨3, key, too, value⟩] w (Ret w (.bool (PMsg.may ⟨3, key, too, value⟩))) := by
  have HM := Aside.mk (show PMsg.may ⟨3, key, too, value⟩ = (emp value && (keyOk too && less key too)) by unfold PMsg.may; rw [keyOk_of h0 h1]; rfl)
  have HL := Aside.mk (fun h : less key too = true => less_nil h)
  simp only [msgVal]
  go_enter Tryz.func78, Tryz.ntmps78
  go_wp2_with fail
  all_goals (go_ret; go_tidy)
  all_goals (refine Ret.mk' ?_ ?_)
  all_goals first | ((repeat (first | (with_reducible first | exact Below.refl _ _ | assumption | refine below_drewN ?_ _ | refine Below.drew ?_ | refine below_alloc ?_ _) | (with_reducible refine below_set ?_ ?side _; (case side => first | omega | (simp; omega) | (simp only [World.size_alloc]; omega))) | (with_reducible refine below_trans ?_ (by assumption)))); done) | (rw [HM.out]; have HL' := HL.out; clear HL HM; simp_all [emp, less, keyOk]; done) | (rw [HM.out]; have HL' := HL.out; clear HL HM; simp_all [emp, less, keyOk]; omega) | skip
  all_goals
    have hv0 : emp value = true := by unfold emp; simp_all
    have ht' : too.size ≤ 108 := by omega
    rw [HM.out, hv0, Bool.true_and]
    show Value.bool (!Op.bytesLess too.toList key.toList && !(too.toList == key.toList)) = _
    rw [bl_gt]
    show Value.bool (less key too) = _
    cases hl : less key too
    · rw [Bool.and_false]
    · have h2 := HL.out hl
      rw [keyOk_of (by omega) ht']; rfl
theorem rMay_c (m : PMsg) (hk : m.key.size < 4611686018427387904) (ht : m.til.size < 4611686018427387904) (hv : m.value.size < 4611686018427387904) (w : World) :
    Calls Tryz.prog 78 #[msgVal m] w (Ret w (.bool m.may)) := by
  obtain ⟨op, key, too, value⟩ := m
  simp only at hk ht hv
  by_cases h : key.size = 0 ∨ 108 < key.size
  · have hm : PMsg.may ⟨op, key, too, value⟩ = false := by unfold PMsg.may; rw [keyOk_not h]; rfl
    rw [hm]
    exact rMay_no op key too value hk (by omega) w
  · by_cases ho : op < 1 ∨ 4 < op
    · have hm : PMsg.may ⟨op, key, too, value⟩ = false := by
        cases hy : PMsg.may ⟨op, key, too, value⟩
        · rfl
        · have := (may_parts hy).2.2.2; simp only at this; omega
      rw [hm]
      exact rMay_no op key too value hk (by omega) w
    · rcases (show op = 1 ∨ op = 2 ∨ op = 3 ∨ op = 4 by omega) with rfl | rfl | rfl | rfl
      · exact rMay_1 key too value (by omega) (by omega) hv w
      · exact rMay_2 key too value (by omega) (by omega) ht hv w
      · exact rMay_3 key too value (by omega) (by omega) ht hv w
      · exact rMay_4 key too value (by omega) (by omega) hv w
end Go.Proofs.YtmggpfngbkbkmaaGreatDoor
/- What package rillbedref09 does (2): Touches, Part. -/
namespace Go.Proofs.YtmggpfngbkbkmaaGreatDoor
open Go.RowKit
set_option linter.unusedVariables false
set_option linter.unusedSimpArgs false

set_option maxRecDepth 100000 in
theorem rTouches_c (m : PMsg) (hk : m.key.size < 4611686018427387904) (ht : m.til.size < 4611686018427387904) (hv : m.value.size < 4611686018427387904) (k : ByteArray) (w : World) :
    Calls Tryz.prog 49 #[msgVal m, .string k] w (Ret w (.bool (m.touches k))) := by
  obtain ⟨op, key, too, value⟩ := m
  cases hm : PMsg.may ⟨op, key, too, value⟩
  · have HT := Aside.mk (show PMsg.touches ⟨op, key, too, value⟩ k = false by unfold PMsg.touches; rw [hm]; rfl)
    have HM := Aside.mk hm
    clear hm
    simp only [msgVal]
    go_enter Tryz.func49, Tryz.ntmps49
    go_wp2_with fail
    refine (rMay_c ⟨op, key, too, value⟩ hk ht hv _).mono ?_
    rintro e w1 ⟨rfl, hb⟩
    rw [HM.out]
    go_wp2_with fail
    go_ret
    exact ⟨by rw [HT.out]; rfl, (by repeat (first | (with_reducible first | exact Below.refl _ _ | assumption | refine below_drewN ?_ _ | refine Below.drew ?_ | refine below_alloc ?_ _) | (with_reducible refine below_set ?_ ?side _; (case side => first | omega | (simp; omega) | (simp only [World.size_alloc]; omega))) | (with_reducible refine below_trans ?_ (by assumption))))⟩
  · have HT := Aside.mk (show PMsg.touches ⟨op, key, too, value⟩ k = PMsg.hits ⟨op, key, too, value⟩ k by unfold PMsg.touches; rw [hm]; rfl)
    have HM := Aside.mk hm
    clear hm
    simp only [msgVal]
    go_enter Tryz.func49, Tryz.ntmps49
    go_wp2_with fail
    refine (rMay_c ⟨op, key, too, value⟩ hk ht hv _).mono ?_
    rintro e w1 ⟨rfl, hb⟩
    rw [HM.out]
    have hM := below_keep hb (heap_new w (.cells #[.int .i64 op, .string key, .string too, .string value] 23))
    obtain ⟨⟨d0, d1, d2, d3⟩, g0, g1, g2, g3⟩ := four hM
    have hz1 : w.heap.size < w1.heap.size := heap_lt hM
    go_wp2_with fail
    all_goals (go_ret; go_tidy)
    all_goals (refine Ret.mk' ?_ (by repeat (first | (with_reducible first | exact Below.refl _ _ | assumption | refine below_drewN ?_ _ | refine Below.drew ?_ | refine below_alloc ?_ _) | (with_reducible refine below_set ?_ ?side _; (case side => first | omega | (simp; omega) | (simp only [World.size_alloc]; omega))) | (with_reducible refine below_trans ?_ (by assumption)))))
    all_goals (rw [HT.out]; clear d0 d1 d2 d3 g0 g1 g2 g3 hM hb HT HM; simp_all [PMsg.hits, less])
set_option maxRecDepth 100000 in
theorem rPart_no (m : PMsg) (hk : m.key.size < 4611686018427387904) (ht : m.til.size < 4611686018427387904) (hv : m.value.size < 4611686018427387904) (h : m.may = false) (fr tt : ByteArray) (w : World) :
    Calls Tryz.prog 62 #[msgVal m, .string fr, .string tt] w (Ret w (.tuple #[msgVal (m.part fr tt), .bool (m.lies fr tt)])) := by
  obtain ⟨op, key, too, value⟩ := m
  have HL := Aside.mk (show PMsg.lies ⟨op, key, too, value⟩ fr tt = false by unfold PMsg.lies; rw [h]; rfl)
  have HP := Aside.mk (show PMsg.part ⟨op, key, too, value⟩ fr tt = PMsg.zero by unfold PMsg.part; rw [HL.out]; rfl)
  have HM := Aside.mk h
  clear h
  simp only [msgVal]
  have hR := heap_alloc2 w (.cells #[.int .i64 op, .string key, .string too, .string value] 23) (.cells #[.int .i64 0, .string ⟨#[]⟩, .string ⟨#[]⟩, .string ⟨#[]⟩] 23)
  go_enter Tryz.func62, Tryz.ntmps62
  go_wp2_with fail
  refine (rMay_c ⟨op, key, too, value⟩ hk ht hv _).mono ?_
  rintro e w1 ⟨rfl, hb⟩
  rw [HM.out]
  have hR := below_keep hb hR
  obtain ⟨⟨r0, r1, r2, r3⟩, q0, q1, q2, q3⟩ := four hR
  have hz2 : w.heap.size + 1 < w1.heap.size := heap_lt hR
  go_wp2_with fail
  go_tidy
  refine bodyPost_ret (v := .tuple #[.agg #[.int .i64 0, .string ⟨#[]⟩, .string ⟨#[]⟩, .string ⟨#[]⟩], .bool false]) (by simp [results, Tryz.results62, go_sem, r0, r1, r2, r3, q0, q1, q2, q3, hz2]) rfl ⟨by rw [HL.out, HP.out]; rfl, ?_⟩
  (repeat (first | (with_reducible first | exact Below.refl _ _ | assumption | refine below_drewN ?_ _ | refine Below.drew ?_ | refine below_alloc ?_ _) | (with_reducible refine below_set ?_ ?side _; (case side => first | omega | (simp; omega) | (simp only [World.size_alloc]; omega))) | (with_reducible refine below_trans ?_ (by assumption))))
set_option maxHeartbeats 2000000 in
set_option maxRecDepth 100000 in
theorem rPart_o (op : Int) (ho : op ≠ 3) (key too value fr tt : ByteArray) (h : PMsg.may ⟨op, key, too, value⟩ = true) (w : World) :
    Calls Tryz.prog 62 #[msgVal ⟨op, key, too, value⟩, .string fr, .string tt] w (Ret w (.tuple #[msgVal (PMsg.part ⟨op, key, too, value⟩ fr tt), .bool (PMsg.lies ⟨op, key, too, value⟩ fr tt)])) := by
  obtain ⟨⟨hk, h0⟩, ht, hv, -⟩ := may_parts h
  simp only at hk h0 ht hv
  have HM := Aside.mk h
  have e3 : (op == 3) = false := beq_eq_false_iff_ne.2 ho
  have e4 : (op != 3) = true := bne_iff_ne.2 ho
  clear ho h
  simp only [msgVal]
  have hR := heap_alloc2 w (.cells #[.int .i64 op, .string key, .string too, .string value] 23) (.cells #[.int .i64 0, .string ⟨#[]⟩, .string ⟨#[]⟩, .string ⟨#[]⟩] 23)
  go_enter Tryz.func62, Tryz.ntmps62
  go_wp2_with fail
  refine (rMay_c ⟨op, key, too, value⟩ (by simp only; omega) (by simp only; omega) (by simp only; omega) _).mono ?_
  rintro e w1 ⟨rfl, hb⟩
  rw [HM.out]
  have hB := below_keep hb (heap_alloc (heap_new w (.cells #[.int .i64 op, .string key, .string too, .string value] 23)) _)
  have hR := below_keep hb hR
  obtain ⟨⟨d0, d1, d2, d3⟩, g0, g1, g2, g3⟩ := four hB
  obtain ⟨⟨r0, r1, r2, r3⟩, q0, q1, q2, q3⟩ := four hR
  have hz1 : w.heap.size < w1.heap.size := heap_lt hB
  have hz2 : w.heap.size + 1 < w1.heap.size := heap_lt hR
  go_wp2_with fail
  all_goals go_tidy
  all_goals first
    | (refine bodyPost_ret (v := .tuple #[.agg #[.int .i64 0, .string ⟨#[]⟩, .string ⟨#[]⟩, .string ⟨#[]⟩], .bool false]) ?_ rfl ⟨?_, ?_⟩; focus (simp [results, Tryz.results62, go_sem, r0, r1, r2, r3, q0, q1, q2, q3, hz1, hz2]; done))
    | (refine bodyPost_ret (v := .tuple #[.agg #[.int .i64 op, .string key, .string too, .string value], .bool true]) ?_ rfl ⟨?_, ?_⟩; focus (simp [results, Tryz.results62, go_sem, r0, r1, r2, r3, q0, q1, q2, q3, hz1, hz2]; done))
  all_goals try
    (refine congrArg Ending.returned ?_
     clear d0 d1 d2 d3 g0 g1 g2 g3 r0 r1 r2 r3 q0 q1 q2 q3 hz1 hz2 hB hR hb
     have HM' := HM.out
     clear HM
     simp_all [PMsg.part, PMsg.lies, PMsg.cut, PMsg.zero, emp, less, msgVal])
  all_goals (repeat (first | (with_reducible first | exact Below.refl _ _ | assumption | refine below_drewN ?_ _ | refine Below.drew ?_ | refine below_alloc ?_ _) | (with_reducible refine below_set ?_ ?side _; (case side => first | omega | (simp; omega) | (simp only [World.size_alloc]; omega))) | (with_reducible refine below_trans ?_ (by assumption))))
set_option maxHeartbeats 4000000 in
set_option maxRecDepth 100000 in
theorem rPart_3 (key too value fr tt : ByteArray) (h : PMsg.may ⟨3, key, too, value⟩ = true) (w : World) :
    Calls Tryz.prog 62 #[msgVal ⟨3, key, too, value⟩, .string fr, .string tt] w (Ret w (.tuple #[msgVal (PMsg.part ⟨3, key, too, value⟩ fr tt), .bool (PMsg.lies ⟨3, key, too, value⟩ fr tt)])) := by
  obtain ⟨⟨hk, h0⟩, ht, hv, -⟩ := may_parts h
  simp only at hk h0 ht hv
  have HM := Aside.mk h
  clear h
  simp only [msgVal]
  have hR := heap_alloc2 w (.cells #[.int .i64 3, .string key, .string too, .string value] 23) (.cells #[.int .i64 0, .string ⟨#[]⟩, .string ⟨#[]⟩, .string ⟨#[]⟩] 23)
  go_enter Tryz.func62, Tryz.ntmps62
  go_wp2_with fail
  refine (rMay_c ⟨3, key, too, value⟩ (by simp only; omega) (by simp only; omega) (by simp only; omega) _).mono ?_
  rintro e w1 ⟨rfl, hb⟩
  rw [HM.out]
  have hB := below_keep hb (heap_alloc (heap_new w (.cells #[.int .i64 3, .string key, .string too, .string value] 23)) _)
  have hR := below_keep hb hR
  obtain ⟨⟨d0, d1, d2, d3⟩, g0, g1, g2, g3⟩ := four hB
  obtain ⟨⟨r0, r1, r2, r3⟩, q0, q1, q2, q3⟩ := four hR
  have hz1 : w.heap.size < w1.heap.size := heap_lt hB
  have hz2 : w.heap.size + 1 < w1.heap.size := heap_lt hR
  go_wp2_with fail
  all_goals go_tidy
  all_goals first
    | (refine bodyPost_ret (v := .tuple #[.agg #[.int .i64 0, .string ⟨#[]⟩, .string ⟨#[]⟩, .string ⟨#[]⟩], .bool false]) ?_ rfl ⟨?_, ?_⟩; focus (simp [results, Tryz.results62, go_sem, r0, r1, r2, r3, q0, q1, q2, q3, hz1, hz2]; done))
    | (refine bodyPost_ret (v := .tuple #[.agg #[.int .i64 3, .string key, .string too, .string value], .bool true]) ?_ rfl ⟨?_, ?_⟩; focus (simp [results, Tryz.results62, go_sem, r0, r1, r2, r3, q0, q1, q2, q3, hz1, hz2]; done))
    | (refine bodyPost_ret (v := .tuple #[.agg #[.int .i64 3, .string key, .string tt, .string value], .bool true]) ?_ rfl ⟨?_, ?_⟩; focus (simp [results, Tryz.results62, go_sem, r0, r1, r2, r3, q0, q1, q2, q3, hz1, hz2]; done))
    | (refine bodyPost_ret (v := .tuple #[.agg #[.int .i64 3, .string fr, .string too, .string value], .bool true]) ?_ rfl ⟨?_, ?_⟩; focus (simp [results, Tryz.results62, go_sem, r0, r1, r2, r3, q0, q1, q2, q3, hz1, hz2]; done))
    | (refine bodyPost_ret (v := .tuple #[.agg #[.int .i64 3, .string fr, .string tt, .string value], .bool true]) ?_ rfl ⟨?_, ?_⟩; focus (simp [results, Tryz.results62, go_sem, r0, r1, r2, r3, q0, q1, q2, q3, hz1, hz2]; done))
  all_goals try
    (refine congrArg Ending.returned ?_
     clear d0 d1 d2 d3 g0 g1 g2 g3 r0 r1 r2 r3 q0 q1 q2 q3 hz1 hz2 hB hR hb
     have HM' := HM.out
     clear HM
     have G := bl_gt fr.toList key.toList
     cases hkf : Op.bytesLess key.toList fr.toList <;> cases htt : Op.bytesLess tt.toList too.toList <;> simp_all [PMsg.part, PMsg.lies, PMsg.cut, PMsg.zero, emp, less, msgVal, maxS_less, minS_less])
  all_goals (repeat (first | (with_reducible first | exact Below.refl _ _ | assumption | refine below_drewN ?_ _ | refine Below.drew ?_ | refine below_alloc ?_ _) | (with_reducible refine below_set ?_ ?side _; (case side => first | omega | (simp; omega) | (simp only [World.size_alloc]; omega))) | (with_reducible refine below_trans ?_ (by assumption))))
theorem rPart_c (m : PMsg) (hk : m.key.size < 4611686018427387904) (ht : m.til.size < 4611686018427387904) (hv : m.value.size < 4611686018427387904) (fr tt : ByteArray) (w : World) :
    Calls Tryz.prog 62 #[msgVal m, .string fr, .string tt] w (Ret w (.tuple #[msgVal (m.part fr tt), .bool (m.lies fr tt)])) := by
  cases h : m.may
  · exact rPart_no m hk ht hv h fr tt w
  · obtain ⟨op, key, too, value⟩ := m
    by_cases ho : op = 3
    · subst ho
      exact rPart_3 key too value fr tt h w
    · exact rPart_o op ho key too value fr tt h w
end Go.Proofs.YtmggpfngbkbkmaaGreatDoor
/- What package rillbedref09 does (3): Apply. -/
namespace Go.Proofs.YtmggpfngbkbkmaaGreatDoor
open Go.RowKit
set_option linter.unusedVariables false
set_option linter.unusedSimpArgs false

set_option maxHeartbeats 2000000 in
set_option maxRecDepth 100000 in
theorem r9_plain_true (op : Int) (h4 : op ≠ 4) (key too value : ByteArray) (hk : key.size < 4611686018427387904) (ht : too.size < 4611686018427387904) (hv : value.size < 4611686018427387904) (k v : ByteArray) (w : World) :
    Calls Tryz.prog 14 #[msgVal ⟨op, key, too, value⟩, .string k, .string v, .bool true] w (Ret w (.tuple #[.string (PMsg.makesS ⟨op, key, too, value⟩ k v true), .bool (PMsg.makesB ⟨op, key, too, value⟩ k v true)])) := by
  by_cases h1 : PMsg.touches ⟨op, key, too, value⟩ k = true
  · have e4 : (op == 4) = false := beq_eq_false_iff_ne.2 h4
    have e4' : (op != 4) = true := bne_iff_ne.2 h4
    by_cases h2 : op = 1
    · have HS := Aside.mk (show PMsg.makesS ⟨op, key, too, value⟩ k v true = value by unfold PMsg.makesS; rw [if_neg (by simp [h1]), if_pos h2])
      have HB := Aside.mk (show PMsg.makesB ⟨op, key, too, value⟩ k v true = true by unfold PMsg.makesB; rw [if_neg (by simp [h1]), if_pos h2])
      have e1 : (op == 1) = true := beq_iff_eq.2 h2
      have HT := Aside.mk h1
      clear h1 h2 h4
      simp only [msgVal]
      go_enter Tryz.func14, Tryz.ntmps14
      go_wp2_with fail
      refine (rTouches_c ⟨op, key, too, value⟩ hk ht hv k _).mono ?_
      rintro e w1 ⟨rfl, hb1⟩
      rw [HT.out]
      have hM := below_keep hb1 (heap_new w (.cells #[.int .i64 op, .string key, .string too, .string value] 23))
      obtain ⟨⟨d0, d1, d2, d3⟩, g0, g1, g2, g3⟩ := four hM
      have hz1 : w.heap.size < w1.heap.size := heap_lt hM
      go_wp2_with fail
      all_goals (go_ret2; go_tidy)
      all_goals (refine Ret.mk' ?_ (by repeat (first | (with_reducible first | exact Below.refl _ _ | assumption | refine below_drewN ?_ _ | refine Below.drew ?_ | refine below_alloc ?_ _) | (with_reducible refine below_set ?_ ?side _; (case side => first | omega | (simp; omega) | (simp only [World.size_alloc]; omega))) | (with_reducible refine below_trans ?_ (by assumption)))); rw [HS.out, HB.out]; rfl)
    · have HS := Aside.mk (show PMsg.makesS ⟨op, key, too, value⟩ k v true = ⟨#[]⟩ by unfold PMsg.makesS; rw [if_neg (by simp [h1]), if_neg h2, if_neg h4])
      have HB := Aside.mk (show PMsg.makesB ⟨op, key, too, value⟩ k v true = false by unfold PMsg.makesB; rw [if_neg (by simp [h1]), if_neg h2, if_neg h4])
      have e1 : (op == 1) = false := beq_eq_false_iff_ne.2 h2
      have HT := Aside.mk h1
      clear h1 h2 h4
      simp only [msgVal]
      go_enter Tryz.func14, Tryz.ntmps14
      go_wp2_with fail
      refine (rTouches_c ⟨op, key, too, value⟩ hk ht hv k _).mono ?_
      rintro e w1 ⟨rfl, hb1⟩
      rw [HT.out]
      have hM := below_keep hb1 (heap_new w (.cells #[.int .i64 op, .string key, .string too, .string value] 23))
      obtain ⟨⟨d0, d1, d2, d3⟩, g0, g1, g2, g3⟩ := four hM
      have hz1 : w.heap.size < w1.heap.size := heap_lt hM
      go_wp2_with fail
      all_goals (go_ret2; go_tidy)
      all_goals (refine Ret.mk' ?_ (by repeat (first | (with_reducible first | exact Below.refl _ _ | assumption | refine below_drewN ?_ _ | refine Below.drew ?_ | refine below_alloc ?_ _) | (with_reducible refine below_set ?_ ?side _; (case side => first | omega | (simp; omega) | (simp only [World.size_alloc]; omega))) | (with_reducible refine below_trans ?_ (by assumption)))); rw [HS.out, HB.out]; rfl)
  · have h1' : PMsg.touches ⟨op, key, too, value⟩ k = false := by simpa using h1
    have HS := Aside.mk (show PMsg.makesS ⟨op, key, too, value⟩ k v true = v by unfold PMsg.makesS; rw [if_pos h1']; rfl)
    have HB := Aside.mk (show PMsg.makesB ⟨op, key, too, value⟩ k v true = true by unfold PMsg.makesB; rw [if_pos h1'])
    have HT := Aside.mk h1'
    clear h1 h1' h4
    simp only [msgVal]
    go_enter Tryz.func14, Tryz.ntmps14
    go_wp2_with fail
    refine (rTouches_c ⟨op, key, too, value⟩ hk ht hv k _).mono ?_
    rintro e w1 ⟨rfl, hb1⟩
    rw [HT.out]
    have hM := below_keep hb1 (heap_new w (.cells #[.int .i64 op, .string key, .string too, .string value] 23))
    obtain ⟨⟨d0, d1, d2, d3⟩, g0, g1, g2, g3⟩ := four hM
    have hz1 : w.heap.size < w1.heap.size := heap_lt hM
    go_wp2_with fail
    all_goals (go_ret2; go_tidy)
    all_goals (refine Ret.mk' ?_ (by repeat (first | (with_reducible first | exact Below.refl _ _ | assumption | refine below_drewN ?_ _ | refine Below.drew ?_ | refine below_alloc ?_ _) | (with_reducible refine below_set ?_ ?side _; (case side => first | omega | (simp; omega) | (simp only [World.size_alloc]; omega))) | (with_reducible refine below_trans ?_ (by assumption)))); rw [HS.out, HB.out]; rfl)
set_option maxHeartbeats 2000000 in
set_option maxRecDepth 100000 in
theorem r9_not_true (op : Int) (key too value : ByteArray) (hk : key.size < 4611686018427387904) (ht : too.size < 4611686018427387904) (hv : value.size < 4611686018427387904) (k v : ByteArray) (h1' : PMsg.touches ⟨op, key, too, value⟩ k = false) (w : World) :
    Calls Tryz.prog 14 #[msgVal ⟨op, key, too, value⟩, .string k, .string v, .bool true] w (Ret w (.tuple #[.string (PMsg.makesS ⟨op, key, too, value⟩ k v true), .bool (PMsg.makesB ⟨op, key, too, value⟩ k v true)])) := by
    have HS := Aside.mk (show PMsg.makesS ⟨op, key, too, value⟩ k v true = v by unfold PMsg.makesS; rw [if_pos h1']; rfl)
    have HB := Aside.mk (show PMsg.makesB ⟨op, key, too, value⟩ k v true = true by unfold PMsg.makesB; rw [if_pos h1'])
    have HT := Aside.mk h1'
    clear h1'
    simp only [msgVal]
    go_enter Tryz.func14, Tryz.ntmps14
    go_wp2_with fail
    refine (rTouches_c ⟨op, key, too, value⟩ hk ht hv k _).mono ?_
    rintro e w1 ⟨rfl, hb1⟩
    rw [HT.out]
    have hM := below_keep hb1 (heap_new w (.cells #[.int .i64 op, .string key, .string too, .string value] 23))
    obtain ⟨⟨d0, d1, d2, d3⟩, g0, g1, g2, g3⟩ := four hM
    have hz1 : w.heap.size < w1.heap.size := heap_lt hM
    go_wp2_with fail
    all_goals (go_ret2; go_tidy)
    all_goals (refine Ret.mk' ?_ (by repeat (first | (with_reducible first | exact Below.refl _ _ | assumption | refine below_drewN ?_ _ | refine Below.drew ?_ | refine below_alloc ?_ _) | (with_reducible refine below_set ?_ ?side _; (case side => first | omega | (simp; omega) | (simp only [World.size_alloc]; omega))) | (with_reducible refine below_trans ?_ (by assumption)))); rw [HS.out, HB.out]; rfl)
set_option maxHeartbeats 2000000 in
set_option maxRecDepth 100000 in
theorem r9_d_true (op : Int) (h4 : op = 4) (key too value : ByteArray) (hk : key.size < 4611686018427387904) (ht : too.size < 4611686018427387904) (hv : value.size < 4611686018427387904) (k v : ByteArray) (hs : v.size < 4611686018427387904) (h0 : 0 < k.size) (hkk : k = key) (hx : (k[0]).toNat = 100) (h1 : PMsg.touches ⟨op, key, too, value⟩ k = true) (w : World) :
    Calls Tryz.prog 14 #[msgVal ⟨op, key, too, value⟩, .string k, .string v, .bool true] w (Ret w (.tuple #[.string (PMsg.makesS ⟨op, key, too, value⟩ k v true), .bool (PMsg.makesB ⟨op, key, too, value⟩ k v true)])) := by
  have h100 : first key = 100 := by rw [← hkk, first_of h0, hx]
  have hs0 : (ByteArray.mk #[]).size < 4611686018427387904 := by decide
  have HS := Aside.mk (show PMsg.makesS ⟨op, key, too, value⟩ k v true = blkApply v (patchV value) by unfold PMsg.makesS; rw [if_neg (by simp [h1]), if_neg (show ¬ op = 1 by omega), if_pos h4]; unfold patS; rw [if_pos h100]; rfl)
  have HB := Aside.mk (show PMsg.makesB ⟨op, key, too, value⟩ k v true = !emp (blkApply v (patchV value)) by unfold PMsg.makesB; rw [if_neg (by simp [h1]), if_neg (show ¬ op = 1 by omega), if_pos h4]; unfold patB; rw [if_pos h100]; rfl)
  have e1 : (op == 1) = false := by subst h4; rfl
  have e4 : (op == 4) = true := by subst h4; rfl
  have e4' : (op != 4) = false := by subst h4; rfl
  have e2 : (((k[0]).toNat : Int) == 100) = true := beq_iff_eq.2 (by omega)
  have hpi : (0 : Int) < (k.size : Int) := by omega
  have HP := Aside.mk (patchV_size value)
  have HT := Aside.mk h1
  clear h1 h4 hx hkk h100
  simp only [msgVal]
  go_enter Tryz.func14, Tryz.ntmps14
  go_wp2_with fail
  refine (rTouches_c ⟨op, key, too, value⟩ hk ht hv k _).mono ?_
  rintro e w1 ⟨rfl, hb1⟩
  rw [HT.out]
  have hM := below_keep hb1 (heap_new w (.cells #[.int .i64 op, .string key, .string too, .string value] 23))
  obtain ⟨⟨d0, d1, d2, d3⟩, g0, g1, g2, g3⟩ := four hM
  have hz1 : w.heap.size < w1.heap.size := heap_lt hM
  go_wp2_with fail
  refine (rpTake_c value hv _).mono ?_
  rintro e w2 ⟨rfl, hb2⟩
  unfold patchVal
  go_wp2_with fail
  refine (rpApply_c v (by assumption) (patchV value) HP.out _).mono ?_
  rintro e w3 ⟨rfl, hb3⟩
  go_wp2_with fail
  all_goals (go_ret2; go_tidy)
  all_goals (refine Ret.mk' ?_ (by repeat (first | (with_reducible first | exact Below.refl _ _ | assumption | refine below_drewN ?_ _ | refine Below.drew ?_ | refine below_alloc ?_ _) | (with_reducible refine below_set ?_ ?side _; (case side => first | omega | (simp; omega) | (simp only [World.size_alloc]; omega))) | (with_reducible refine below_trans ?_ (by assumption)))); rw [HS.out, HB.out]; rfl)
set_option maxHeartbeats 2000000 in
set_option maxRecDepth 100000 in
theorem r9_no_true (op : Int) (h4 : op = 4) (key too value : ByteArray) (hk : key.size < 4611686018427387904) (ht : too.size < 4611686018427387904) (hv : value.size < 4611686018427387904) (k v : ByteArray) (hs : v.size < 4611686018427387904) (h0 : 0 < k.size) (hkk : k = key) (hx : (k[0]).toNat ≠ 100) (hy : ¬ (true = true ∧ metaE v = 0)) (h1 : PMsg.touches ⟨op, key, too, value⟩ k = true) (w : World) :
    Calls Tryz.prog 14 #[msgVal ⟨op, key, too, value⟩, .string k, .string v, .bool true] w (Ret w (.tuple #[.string (PMsg.makesS ⟨op, key, too, value⟩ k v true), .bool (PMsg.makesB ⟨op, key, too, value⟩ k v true)])) := by
  have h100 : first key ≠ 100 := by rw [← hkk, first_of h0]; exact hx
  have hs0 : (ByteArray.mk #[]).size < 4611686018427387904 := by decide
  have HS := Aside.mk (show PMsg.makesS ⟨op, key, too, value⟩ k v true = v by unfold PMsg.makesS; rw [if_neg (by simp [h1]), if_neg (show ¬ op = 1 by omega), if_pos h4]; unfold patS; rw [if_neg h100]; exact if_neg hy)
  have HB := Aside.mk (show PMsg.makesB ⟨op, key, too, value⟩ k v true = true by unfold PMsg.makesB; rw [if_neg (by simp [h1]), if_neg (show ¬ op = 1 by omega), if_pos h4]; unfold patB; rw [if_neg h100]; exact if_neg hy)
  have e1 : (op == 1) = false := by subst h4; rfl
  have e4 : (op == 4) = true := by subst h4; rfl
  have e4' : (op != 4) = false := by subst h4; rfl
  have e2 : (((k[0]).toNat : Int) == 100) = false := beq_eq_false_iff_ne.2 (by omega)
  have hpi : (0 : Int) < (k.size : Int) := by omega
  have e3 : (metaE v != 0) = true := bne_iff_ne.2 fun h => hy ⟨rfl, h⟩
  have HT := Aside.mk h1
  clear h1 h4 hx hkk h100 hy
  simp only [msgVal]
  go_enter Tryz.func14, Tryz.ntmps14
  go_wp2_with fail
  refine (rTouches_c ⟨op, key, too, value⟩ hk ht hv k _).mono ?_
  rintro e w1 ⟨rfl, hb1⟩
  rw [HT.out]
  have hM := below_keep hb1 (heap_new w (.cells #[.int .i64 op, .string key, .string too, .string value] 23))
  obtain ⟨⟨d0, d1, d2, d3⟩, g0, g1, g2, g3⟩ := four hM
  have hz1 : w.heap.size < w1.heap.size := heap_lt hM
  go_wp2_with fail
  refine (rTake_c v (by assumption) _).mono ?_
  rintro e w2 ⟨rfl, hb2⟩
  unfold metaVal
  go_wp2_with fail
  all_goals (go_ret2; go_tidy)
  all_goals (refine Ret.mk' ?_ (by repeat (first | (with_reducible first | exact Below.refl _ _ | assumption | refine below_drewN ?_ _ | refine Below.drew ?_ | refine below_alloc ?_ _) | (with_reducible refine below_set ?_ ?side _; (case side => first | omega | (simp; omega) | (simp only [World.size_alloc]; omega))) | (with_reducible refine below_trans ?_ (by assumption)))); rw [HS.out, HB.out]; rfl)
set_option maxHeartbeats 2000000 in
set_option maxRecDepth 100000 in
theorem r9_plain_false (op : Int) (h4 : op ≠ 4) (key too value : ByteArray) (hk : key.size < 4611686018427387904) (ht : too.size < 4611686018427387904) (hv : value.size < 4611686018427387904) (k v : ByteArray) (w : World) :
    Calls Tryz.prog 14 #[msgVal ⟨op, key, too, value⟩, .string k, .string v, .bool false] w (Ret w (.tuple #[.string (PMsg.makesS ⟨op, key, too, value⟩ k v false), .bool (PMsg.makesB ⟨op, key, too, value⟩ k v false)])) := by
  by_cases h1 : PMsg.touches ⟨op, key, too, value⟩ k = true
  · have e4 : (op == 4) = false := beq_eq_false_iff_ne.2 h4
    have e4' : (op != 4) = true := bne_iff_ne.2 h4
    by_cases h2 : op = 1
    · have HS := Aside.mk (show PMsg.makesS ⟨op, key, too, value⟩ k v false = value by unfold PMsg.makesS; rw [if_neg (by simp [h1]), if_pos h2])
      have HB := Aside.mk (show PMsg.makesB ⟨op, key, too, value⟩ k v false = true by unfold PMsg.makesB; rw [if_neg (by simp [h1]), if_pos h2])
      have e1 : (op == 1) = true := beq_iff_eq.2 h2
      have HT := Aside.mk h1
      clear h1 h2 h4
      simp only [msgVal]
      go_enter Tryz.func14, Tryz.ntmps14
      go_wp2_with fail
      refine (rTouches_c ⟨op, key, too, value⟩ hk ht hv k _).mono ?_
      rintro e w1 ⟨rfl, hb1⟩
      rw [HT.out]
      have hM := below_keep hb1 (heap_new w (.cells #[.int .i64 op, .string key, .string too, .string value] 23))
      obtain ⟨⟨d0, d1, d2, d3⟩, g0, g1, g2, g3⟩ := four hM
      have hz1 : w.heap.size < w1.heap.size := heap_lt hM
      go_wp2_with fail
      all_goals (go_ret2; go_tidy)
      all_goals (refine Ret.mk' ?_ (by repeat (first | (with_reducible first | exact Below.refl _ _ | assumption | refine below_drewN ?_ _ | refine Below.drew ?_ | refine below_alloc ?_ _) | (with_reducible refine below_set ?_ ?side _; (case side => first | omega | (simp; omega) | (simp only [World.size_alloc]; omega))) | (with_reducible refine below_trans ?_ (by assumption)))); rw [HS.out, HB.out]; rfl)
    · have HS := Aside.mk (show PMsg.makesS ⟨op, key, too, value⟩ k v false = ⟨#[]⟩ by unfold PMsg.makesS; rw [if_neg (by simp [h1]), if_neg h2, if_neg h4])
      have HB := Aside.mk (show PMsg.makesB ⟨op, key, too, value⟩ k v false = false by unfold PMsg.makesB; rw [if_neg (by simp [h1]), if_neg h2, if_neg h4])
      have e1 : (op == 1) = false := beq_eq_false_iff_ne.2 h2
      have HT := Aside.mk h1
      clear h1 h2 h4
      simp only [msgVal]
      go_enter Tryz.func14, Tryz.ntmps14
      go_wp2_with fail
      refine (rTouches_c ⟨op, key, too, value⟩ hk ht hv k _).mono ?_
      rintro e w1 ⟨rfl, hb1⟩
      rw [HT.out]
      have hM := below_keep hb1 (heap_new w (.cells #[.int .i64 op, .string key, .string too, .string value] 23))
      obtain ⟨⟨d0, d1, d2, d3⟩, g0, g1, g2, g3⟩ := four hM
      have hz1 : w.heap.size < w1.heap.size := heap_lt hM
      go_wp2_with fail
      all_goals (go_ret2; go_tidy)
      all_goals (refine Ret.mk' ?_ (by repeat (first | (with_reducible first | exact Below.refl _ _ | assumption | refine below_drewN ?_ _ | refine Below.drew ?_ | refine below_alloc ?_ _) | (with_reducible refine below_set ?_ ?side _; (case side => first | omega | (simp; omega) | (simp only [World.size_alloc]; omega))) | (with_reducible refine below_trans ?_ (by assumption)))); rw [HS.out, HB.out]; rfl)
  · have h1' : PMsg.touches ⟨op, key, too, value⟩ k = false := by simpa using h1
    have HS := Aside.mk (show PMsg.makesS ⟨op, key, too, value⟩ k v false = ⟨#[]⟩ by unfold PMsg.makesS; rw [if_pos h1']; rfl)
    have HB := Aside.mk (show PMsg.makesB ⟨op, key, too, value⟩ k v false = false by unfold PMsg.makesB; rw [if_pos h1'])
    have HT := Aside.mk h1'
    clear h1 h1' h4
    simp only [msgVal]
    go_enter Tryz.func14, Tryz.ntmps14
    go_wp2_with fail
    refine (rTouches_c ⟨op, key, too, value⟩ hk ht hv k _).mono ?_
    rintro e w1 ⟨rfl, hb1⟩
    rw [HT.out]
    have hM := below_keep hb1 (heap_new w (.cells #[.int .i64 op, .string key, .string too, .string value] 23))
    obtain ⟨⟨d0, d1, d2, d3⟩, g0, g1, g2, g3⟩ := four hM
    have hz1 : w.heap.size < w1.heap.size := heap_lt hM
    go_wp2_with fail
    all_goals (go_ret2; go_tidy)
    all_goals (refine Ret.mk' ?_ (by repeat (first | (with_reducible first | exact Below.refl _ _ | assumption | refine below_drewN ?_ _ | refine Below.drew ?_ | refine below_alloc ?_ _) | (with_reducible refine below_set ?_ ?side _; (case side => first | omega | (simp; omega) | (simp only [World.size_alloc]; omega))) | (with_reducible refine below_trans ?_ (by assumption)))); rw [HS.out, HB.out]; rfl)
set_option maxHeartbeats 2000000 in
set_option maxRecDepth 100000 in
theorem r9_not_false (op : Int) (key too value : ByteArray) (hk : key.size < 4611686018427387904) (ht : too.size < 4611686018427387904) (hv : value.size < 4611686018427387904) (k v : ByteArray) (h1' : PMsg.touches ⟨op, key, too, value⟩ k = false) (w : World) :
    Calls Tryz.prog 14 #[msgVal ⟨op, key, too, value⟩, .string k, .string v, .bool false] w (Ret w (.tuple #[.string (PMsg.makesS ⟨op, key, too, value⟩ k v false), .bool (PMsg.makesB ⟨op, key, too, value⟩ k v false)])) := by
    have HS := Aside.mk (show PMsg.makesS ⟨op, key, too, value⟩ k v false = ⟨#[]⟩ by unfold PMsg.makesS; rw [if_pos h1']; rfl)
    have HB := Aside.mk (show PMsg.makesB ⟨op, key, too, value⟩ k v false = false by unfold PMsg.makesB; rw [if_pos h1'])
    have HT := Aside.mk h1'
    clear h1'
    simp only [msgVal]
    go_enter Tryz.func14, Tryz.ntmps14
    go_wp2_with fail
    refine (rTouches_c ⟨op, key, too, value⟩ hk ht hv k _).mono ?_
    rintro e w1 ⟨rfl, hb1⟩
    rw [HT.out]
    have hM := below_keep hb1 (heap_new w (.cells #[.int .i64 op, .string key, .string too, .string value] 23))
    obtain ⟨⟨d0, d1, d2, d3⟩, g0, g1, g2, g3⟩ := four hM
    have hz1 : w.heap.size < w1.heap.size := heap_lt hM
    go_wp2_with fail
    all_goals (go_ret2; go_tidy)
    all_goals (refine Ret.mk' ?_ (by repeat (first | (with_reducible first | exact Below.refl _ _ | assumption | refine below_drewN ?_ _ | refine Below.drew ?_ | refine below_alloc ?_ _) | (with_reducible refine below_set ?_ ?side _; (case side => first | omega | (simp; omega) | (simp only [World.size_alloc]; omega))) | (with_reducible refine below_trans ?_ (by assumption)))); rw [HS.out, HB.out]; rfl)
set_option maxHeartbeats 2000000 in
set_option maxRecDepth 100000 in
theorem r9_d_false (op : Int) (h4 : op = 4) (key too value : ByteArray) (hk : key.size < 4611686018427387904) (ht : too.size < 4611686018427387904) (hv : value.size < 4611686018427387904) (k v : ByteArray) (hs : v.size < 4611686018427387904) (h0 : 0 < k.size) (hkk : k = key) (hx : (k[0]).toNat = 100) (h1 : PMsg.touches ⟨op, key, too, value⟩ k = true) (w : World) :
    Calls Tryz.prog 14 #[msgVal ⟨op, key, too, value⟩, .string k, .string v, .bool false] w (Ret w (.tuple #[.string (PMsg.makesS ⟨op, key, too, value⟩ k v false), .bool (PMsg.makesB ⟨op, key, too, value⟩ k v false)])) := by
  have h100 : first key = 100 := by rw [← hkk, first_of h0, hx]
  have hs0 : (ByteArray.mk #[]).size < 4611686018427387904 := by decide
  have HS := Aside.mk (show PMsg.makesS ⟨op, key, too, value⟩ k v false = blkApply ⟨#[]⟩ (patchV value) by unfold PMsg.makesS; rw [if_neg (by simp [h1]), if_neg (show ¬ op = 1 by omega), if_pos h4]; unfold patS; rw [if_pos h100]; rfl)
  have HB := Aside.mk (show PMsg.makesB ⟨op, key, too, value⟩ k v false = !emp (blkApply ⟨#[]⟩ (patchV value)) by unfold PMsg.makesB; rw [if_neg (by simp [h1]), if_neg (show ¬ op = 1 by omega), if_pos h4]; unfold patB; rw [if_pos h100]; rfl)
  have e1 : (op == 1) = false := by subst h4; rfl
  have e4 : (op == 4) = true := by subst h4; rfl
  have e4' : (op != 4) = false := by subst h4; rfl
  have e2 : (((k[0]).toNat : Int) == 100) = true := beq_iff_eq.2 (by omega)
  have hpi : (0 : Int) < (k.size : Int) := by omega
  have HP := Aside.mk (patchV_size value)
  have HT := Aside.mk h1
  clear h1 h4 hx hkk h100
  simp only [msgVal]
  go_enter Tryz.func14, Tryz.ntmps14
  go_wp2_with fail
  refine (rTouches_c ⟨op, key, too, value⟩ hk ht hv k _).mono ?_
  rintro e w1 ⟨rfl, hb1⟩
  rw [HT.out]
  have hM := below_keep hb1 (heap_new w (.cells #[.int .i64 op, .string key, .string too, .string value] 23))
  obtain ⟨⟨d0, d1, d2, d3⟩, g0, g1, g2, g3⟩ := four hM
  have hz1 : w.heap.size < w1.heap.size := heap_lt hM
  go_wp2_with fail
  refine (rpTake_c value hv _).mono ?_
  rintro e w2 ⟨rfl, hb2⟩
  unfold patchVal
  go_wp2_with fail
  refine (rpApply_c ⟨#[]⟩ (by assumption) (patchV value) HP.out _).mono ?_
  rintro e w3 ⟨rfl, hb3⟩
  go_wp2_with fail
  all_goals (go_ret2; go_tidy)
  all_goals (refine Ret.mk' ?_ (by repeat (first | (with_reducible first | exact Below.refl _ _ | assumption | refine below_drewN ?_ _ | refine Below.drew ?_ | refine below_alloc ?_ _) | (with_reducible refine below_set ?_ ?side _; (case side => first | omega | (simp; omega) | (simp only [World.size_alloc]; omega))) | (with_reducible refine below_trans ?_ (by assumption)))); rw [HS.out, HB.out]; rfl)
set_option maxHeartbeats 2000000 in
set_option maxRecDepth 100000 in
theorem r9_no_false (op : Int) (h4 : op = 4) (key too value : ByteArray) (hk : key.size < 4611686018427387904) (ht : too.size < 4611686018427387904) (hv : value.size < 4611686018427387904) (k v : ByteArray) (hs : v.size < 4611686018427387904) (h0 : 0 < k.size) (hkk : k = key) (hx : (k[0]).toNat ≠ 100) (hy : ¬ (false = true ∧ metaE ⟨#[]⟩ = 0)) (h1 : PMsg.touches ⟨op, key, too, value⟩ k = true) (w : World) :
    Calls Tryz.prog 14 #[msgVal ⟨op, key, too, value⟩, .string k, .string v, .bool false] w (Ret w (.tuple #[.string (PMsg.makesS ⟨op, key, too, value⟩ k v false), .bool (PMsg.makesB ⟨op, key, too, value⟩ k v false)])) := by
  have h100 : first key ≠ 100 := by rw [← hkk, first_of h0]; exact hx
  have hs0 : (ByteArray.mk #[]).size < 4611686018427387904 := by decide
  have HS := Aside.mk (show PMsg.makesS ⟨op, key, too, value⟩ k v false = ⟨#[]⟩ by unfold PMsg.makesS; rw [if_neg (by simp [h1]), if_neg (show ¬ op = 1 by omega), if_pos h4]; unfold patS; rw [if_neg h100]; exact if_neg hy)
  have HB := Aside.mk (show PMsg.makesB ⟨op, key, too, value⟩ k v false = false by unfold PMsg.makesB; rw [if_neg (by simp [h1]), if_neg (show ¬ op = 1 by omega), if_pos h4]; unfold patB; rw [if_neg h100]; exact if_neg hy)
  have e1 : (op == 1) = false := by subst h4; rfl
  have e4 : (op == 4) = true := by subst h4; rfl
  have e4' : (op != 4) = false := by subst h4; rfl
  have e2 : (((k[0]).toNat : Int) == 100) = false := beq_eq_false_iff_ne.2 (by omega)
  have hpi : (0 : Int) < (k.size : Int) := by omega
  skip
  have HT := Aside.mk h1
  clear h1 h4 hx hkk h100 hy
  simp only [msgVal]
  go_enter Tryz.func14, Tryz.ntmps14
  go_wp2_with fail
  refine (rTouches_c ⟨op, key, too, value⟩ hk ht hv k _).mono ?_
  rintro e w1 ⟨rfl, hb1⟩
  rw [HT.out]
  have hM := below_keep hb1 (heap_new w (.cells #[.int .i64 op, .string key, .string too, .string value] 23))
  obtain ⟨⟨d0, d1, d2, d3⟩, g0, g1, g2, g3⟩ := four hM
  have hz1 : w.heap.size < w1.heap.size := heap_lt hM
  go_wp2_with fail
  refine (rTake_c ⟨#[]⟩ (by assumption) _).mono ?_
  rintro e w2 ⟨rfl, hb2⟩
  unfold metaVal
  go_wp2_with fail
  all_goals (go_ret2; go_tidy)
  all_goals (refine Ret.mk' ?_ (by repeat (first | (with_reducible first | exact Below.refl _ _ | assumption | refine below_drewN ?_ _ | refine Below.drew ?_ | refine below_alloc ?_ _) | (with_reducible refine below_set ?_ ?side _; (case side => first | omega | (simp; omega) | (simp only [World.size_alloc]; omega))) | (with_reducible refine below_trans ?_ (by assumption)))); rw [HS.out, HB.out]; rfl)
set_option maxHeartbeats 2000000 in
set_option maxRecDepth 100000 in
theorem r9_yes (op : Int) (h4 : op = 4) (key too value : ByteArray) (hk : key.size < 4611686018427387904) (ht : too.size < 4611686018427387904) (hv : value.size < 4611686018427387904) (k v : ByteArray) (hs : v.size < 4611686018427387904) (h0 : 0 < k.size) (hkk : k = key) (hx : (k[0]).toNat ≠ 100) (hy : metaE v = 0) (h1 : PMsg.touches ⟨op, key, too, value⟩ k = true) (w : World) :
    Calls Tryz.prog 14 #[msgVal ⟨op, key, too, value⟩, .string k, .string v, .bool true] w (Ret w (.tuple #[.string (PMsg.makesS ⟨op, key, too, value⟩ k v true), .bool (PMsg.makesB ⟨op, key, too, value⟩ k v true)])) := by
  have h100 : first key ≠ 100 := by rw [← hkk, first_of h0]; exact hx
  have HS := Aside.mk (show PMsg.makesS ⟨op, key, too, value⟩ k v true = ((metaV v).change (changeV value)).text by unfold PMsg.makesS; rw [if_neg (by simp [h1]), if_neg (show ¬ op = 1 by omega), if_pos h4]; unfold patS; rw [if_neg h100]; exact if_pos ⟨rfl, hy⟩)
  have HB := Aside.mk (show PMsg.makesB ⟨op, key, too, value⟩ k v true = true by unfold PMsg.makesB; rw [if_neg (by simp [h1]), if_neg (show ¬ op = 1 by omega), if_pos h4]; unfold patB; rw [if_neg h100]; exact if_pos ⟨rfl, hy⟩)
  have e1 : (op == 1) = false := by subst h4; rfl
  have e4 : (op == 4) = true := by subst h4; rfl
  have e4' : (op != 4) = false := by subst h4; rfl
  have e2 : (((k[0]).toNat : Int) == 100) = false := beq_eq_false_iff_ne.2 (by omega)
  have hpi : (0 : Int) < (k.size : Int) := by omega
  have HY := Aside.mk hy
  have HT := Aside.mk h1
  clear h1 h4 hx hkk h100 hy
  simp only [msgVal]
  go_enter Tryz.func14, Tryz.ntmps14
  go_wp2_with fail
  refine (rTouches_c ⟨op, key, too, value⟩ hk ht hv k _).mono ?_
  rintro e w1 ⟨rfl, hb1⟩
  rw [HT.out]
  have hM := below_keep hb1 (heap_new w (.cells #[.int .i64 op, .string key, .string too, .string value] 23))
  obtain ⟨⟨d0, d1, d2, d3⟩, g0, g1, g2, g3⟩ := four hM
  have hz1 : w.heap.size < w1.heap.size := heap_lt hM
  go_wp2_with fail
  refine (rTake_c v hs _).mono ?_
  rintro e w2 ⟨rfl, hb2⟩
  rw [HY.out]
  unfold metaVal
  have hM2 := below_keep hb2 hM
  clear d0 d1 d2 d3 g0 g1 g2 g3
  obtain ⟨⟨d0, d1, d2, d3⟩, g0, g1, g2, g3⟩ := four hM2
  have hz2 := hb2.size
  have hz3 : w.heap.size < w2.heap.size := heap_lt hM2
  go_wp2_with fail
  refine (rTakeChange_c value hv _).mono ?_
  rintro e w3 ⟨rfl, hb3⟩
  unfold changeVal
  have hA := below_keep hb3 (heap_new w2 (.cells #[.int .u8 (metaV v).kind, .int .u32 (metaV v).size, .int .u64 (metaV v).mark, .int .u64 (metaV v).stamp] 76))
  clear d0 d1 d2 d3 g0 g1 g2 g3
  obtain ⟨⟨d0, d1, d2, d3⟩, g0, g1, g2, g3⟩ := four hA
  have hz4 : w2.heap.size < w3.heap.size := heap_lt hA
  go_wp2_with fail
  refine (rApply_c (metaV v) (changeV value) (metaV_wf v) (changeV_wf value) _).mono ?_
  rintro e w4 ⟨rfl, hb4⟩
  unfold metaVal
  go_wp2_with fail
  refine (rPut_c _ (change_wf (metaV_wf v) (changeV_wf value)) _).mono ?_
  rintro e w5 ⟨rfl, hb5⟩
  go_wp2_with fail
  all_goals (go_ret2; go_tidy)
  all_goals (refine Ret.mk' ?_ (by repeat (first | (with_reducible first | exact Below.refl _ _ | assumption | refine below_drewN ?_ _ | refine Below.drew ?_ | refine below_alloc ?_ _) | (with_reducible refine below_set ?_ ?side _; (case side => first | omega | (simp; omega) | (simp only [World.size_alloc]; omega))) | (with_reducible refine below_trans ?_ (by assumption)))); rw [HS.out, HB.out]; rfl)
theorem hits_eq {op : Int} {key too value k : ByteArray} (h4 : op = 4) (h : PMsg.touches ⟨op, key, too, value⟩ k = true) : k = key := by
  unfold PMsg.touches PMsg.hits at h
  subst h4
  rw [Bool.and_eq_true] at h
  have := h.2
  rw [if_neg (show ¬ ((4 : Int) == 3) = true by decide)] at this
  exact tl_inj (beq_iff_eq.1 this)
theorem r9Apply_c (m : PMsg) (hk : m.key.size < 4611686018427387904) (ht : m.til.size < 4611686018427387904) (hv : m.value.size < 4611686018427387904) (k v : ByteArray) (hs : v.size < 4611686018427387904) (there : Bool) (w : World) :
    Calls Tryz.prog 14 #[msgVal m, .string k, .string v, .bool there] w (Ret w (.tuple #[.string (m.makesS k v there), .bool (m.makesB k v there)])) := by
  obtain ⟨op, key, too, value⟩ := m
  simp only at hk ht hv
  by_cases h4 : op = 4
  · cases h1 : PMsg.touches ⟨op, key, too, value⟩ k
    · cases there
      · exact r9_not_false op key too value hk ht hv k v h1 w
      · exact r9_not_true op key too value hk ht hv k v h1 w
    · have hkk := hits_eq h4 h1
      have h0 : 0 < k.size := by rw [hkk]; exact touches_key h1
      by_cases hx : (k[0]).toNat = 100
      · cases there
        · exact r9_d_false op h4 key too value hk ht hv k v hs h0 hkk hx h1 w
        · exact r9_d_true op h4 key too value hk ht hv k v hs h0 hkk hx h1 w
      · cases there
        · exact r9_no_false op h4 key too value hk ht hv k v hs h0 hkk hx (by simp) h1 w
        · by_cases hy : metaE v = 0
          · exact r9_yes op h4 key too value hk ht hv k v hs h0 hkk hx hy h1 w
          · exact r9_no_true op h4 key too value hk ht hv k v hs h0 hkk hx (by simpa using hy) h1 w
  · cases there
    · exact r9_plain_false op h4 key too value hk ht hv k v w
    · exact r9_plain_true op h4 key too value hk ht hv k v w
end Go.Proofs.YtmggpfngbkbkmaaGreatDoor
/- What rillbedlaw09.MessageDoes does: true. -/
namespace Go.Proofs.YtmggpfngbkbkmaaGreatDoor
open Go.RowKit
set_option linter.unusedVariables false
set_option linter.unusedSimpArgs false

theorem three {w : World} {k : Nat} {c0 c1 c2 : Value} {T : TypeId} (h : w.heap[k]? = some (.cells #[c0, c1, c2] T (0, 0))) :
    (w.cell? ⟨k, 0, none⟩ = some c0 ∧ w.cell? ⟨k, 1, none⟩ = some c1 ∧ w.cell? ⟨k, 2, none⟩ = some c2) ∧
    (w.frozen? ⟨k, 0, none⟩ = false ∧ w.frozen? ⟨k, 1, none⟩ = false ∧ w.frozen? ⟨k, 2, none⟩ = false) := by
  refine ⟨⟨?_, ?_, ?_⟩, free_of h 0, free_of h 1, free_of h 2⟩ <;> rw [cell_of h] <;> rfl
theorem few_sizes {m : PMsg} {n : Int} (h : m.few n = true) : (m.key.size : Int) ≤ n ∧ (m.til.size : Int) ≤ n ∧ (m.value.size : Int) ≤ n := by
  unfold PMsg.few at h
  simpa [Bool.and_eq_true, and_assoc] using h
set_option maxHeartbeats 1000000 in
set_option maxRecDepth 100000 in
theorem does9_no (m : PMsg) (k v : ByteArray) (b : Bool) (h : m.few 1000 = false ∨ 1000 < (k.size : Int) ∨ 1000 < (v.size : Int)) (w : World) :
    Calls Tryz.prog 3 #[msgVal m, .agg #[.string k, .string v, .bool b]] w (Ret w (.bool true)) := by
  cases hf : m.few 1000
  · have HF := Aside.mk hf
    clear hf h
    obtain ⟨op, key, too, value⟩ := m
    simp only [msgVal]
    go_enter Tryz.func3, Tryz.ntmps3
    go_wp2_with fail
    refine (few9_c ⟨op, key, too, value⟩ _).mono ?_
    rintro e w1 ⟨rfl, hb1⟩
    rw [HF.out]
    go_wp2_with fail
    refine (awake9_c _).mono ?_
    rintro e w2 ⟨rfl, hb2⟩
    go_wp2_with fail
    go_ret
    exact Ret.mk' rfl (by repeat (first | (with_reducible first | exact Below.refl _ _ | assumption | refine below_drewN ?_ _ | refine Below.drew ?_ | refine below_alloc ?_ _) | (with_reducible refine below_set ?_ ?side _; (case side => first | omega | (simp; omega) | (simp only [World.size_alloc]; omega))) | (with_reducible refine below_trans ?_ (by assumption))))
  · have HF := Aside.mk hf
    have h' : 1000 < (k.size : Int) ∨ (k.size : Int) ≤ 1000 ∧ 1000 < (v.size : Int) := by
      rcases h with h | h | h
      · rw [hf] at h; exact absurd h (by decide)
      · exact .inl h
      · omega
    clear hf h
    obtain ⟨op, key, too, value⟩ := m
    simp only [msgVal]
    rcases h' with h1 | ⟨h1, h2⟩
    all_goals
      go_enter Tryz.func3, Tryz.ntmps3
      go_wp2_with fail
      refine (few9_c ⟨op, key, too, value⟩ _).mono ?_
      rintro e w1 ⟨rfl, hb1⟩
      rw [HF.out]
      have hK := below_keep hb1 (heap_alloc2 w (.cells #[.int .i64 op, .string key, .string too, .string value] 23) (.cells #[.string k, .string v, .bool b] 25))
      obtain ⟨⟨r0, r1, r2⟩, q0, q1, q2⟩ := three hK
      have hz2 : w.heap.size + 1 < w1.heap.size := heap_lt hK
      go_wp2_with fail
      refine (awake9_c _).mono ?_
      rintro e w2 ⟨rfl, hb2⟩
      go_wp2_with fail
      go_ret
      exact Ret.mk' rfl (by repeat (first | (with_reducible first | exact Below.refl _ _ | assumption | refine below_drewN ?_ _ | refine Below.drew ?_ | refine below_alloc ?_ _) | (with_reducible refine below_set ?_ ?side _; (case side => first | omega | (simp; omega) | (simp only [World.size_alloc]; omega))) | (with_reducible refine below_trans ?_ (by assumption))))
set_option maxHeartbeats 2000000 in
set_option maxRecDepth 100000 in
theorem does9_yes (m : PMsg) (k v : ByteArray) (b : Bool) (hf : m.few 1000 = true) (h1 : (k.size : Int) ≤ 1000) (h2 : (v.size : Int) ≤ 1000) (w : World) :
    Calls Tryz.prog 3 #[msgVal m, .agg #[.string k, .string v, .bool b]] w (Ret w (.bool true)) := by
  obtain ⟨s1, s2, s3⟩ := few_sizes hf
  have HF := Aside.mk hf
  clear hf
  obtain ⟨op, key, too, value⟩ := m
  simp only [msgVal] at s1 s2 s3 ⊢
  go_enter Tryz.func3, Tryz.ntmps3
  go_wp2_with fail
  refine (few9_c ⟨op, key, too, value⟩ _).mono ?_
  rintro e w1 ⟨rfl, hb1⟩
  rw [HF.out]
  have hM := below_keep hb1 (heap_alloc (heap_new w (.cells #[.int .i64 op, .string key, .string too, .string value] 23)) (.cells #[.string k, .string v, .bool b] 25))
  have hK := below_keep hb1 (heap_alloc2 w (.cells #[.int .i64 op, .string key, .string too, .string value] 23) (.cells #[.string k, .string v, .bool b] 25))
  obtain ⟨⟨d0, d1, d2, d3⟩, g0, g1, g2, g3⟩ := four hM
  obtain ⟨⟨r0, r1, r2⟩, q0, q1, q2⟩ := three hK
  have hz1 : w.heap.size < w1.heap.size := heap_lt hM
  have hz2 : w.heap.size + 1 < w1.heap.size := heap_lt hK
  go_wp2_with fail
  refine (msgApply_c ⟨op, key, too, value⟩ (by simp only; omega) (by simp only; omega) (by simp only; omega) k v (by omega) b _).mono ?_
  rintro e w2 ⟨rfl, hb2⟩
  clear d0 d1 d2 d3 g0 g1 g2 g3 r0 r1 r2 q0 q1 q2
  obtain ⟨⟨d0, d1, d2, d3⟩, g0, g1, g2, g3⟩ := four (below_keep hb2 hM)
  obtain ⟨⟨r0, r1, r2⟩, q0, q1, q2⟩ := three (below_keep hb2 hK)
  have hz3 : w.heap.size < w2.heap.size := heap_lt (below_keep hb2 hM)
  have hz4 : w.heap.size + 1 < w2.heap.size := heap_lt (below_keep hb2 hK)
  go_wp2_with fail
  refine (r9Apply_c ⟨op, key, too, value⟩ (by simp only; omega) (by simp only; omega) (by simp only; omega) k v (by omega) b _).mono ?_
  rintro e w3 ⟨rfl, hb3⟩
  generalize PMsg.makesS ⟨op, key, too, value⟩ k v b = x
  generalize PMsg.makesB ⟨op, key, too, value⟩ k v b = y
  go_wp2_with (first | (refine (awake9_c _).mono ?_; rintro e w4 ⟨rfl, hb4⟩))
  all_goals (go_ret; go_tidy)
  all_goals (refine Ret.mk' (by first | rfl | simp) (by repeat (first | (with_reducible first | exact Below.refl _ _ | assumption | refine below_drewN ?_ _ | refine Below.drew ?_ | refine below_alloc ?_ _) | (with_reducible refine below_set ?_ ?side _; (case side => first | omega | (simp; omega) | (simp only [World.size_alloc]; omega))) | (with_reducible refine below_trans ?_ (by assumption)))))
theorem does9_c (m : PMsg) (k v : ByteArray) (b : Bool) (w : World) :
    Calls Tryz.prog 3 #[msgVal m, .agg #[.string k, .string v, .bool b]] w (Ret w (.bool true)) := by
  by_cases h : m.few 1000 = false ∨ 1000 < (k.size : Int) ∨ 1000 < (v.size : Int)
  · exact does9_no m k v b h w
  · have hf : m.few 1000 = true := by
      cases hf : m.few 1000
      · exact absurd (.inl hf) h
      · rfl
    exact does9_yes m k v b hf (by omega) (by omega) w
end Go.Proofs.YtmggpfngbkbkmaaGreatDoor
/- What rillbedlaw09.MessageRange does (1): the guards. -/
namespace Go.Proofs.YtmggpfngbkbkmaaGreatDoor
open Go.RowKit
set_option linter.unusedVariables false
set_option linter.unusedSimpArgs false

theorem heap_alloc3 (w : World) (o o' o2 : Obj) : (((w.alloc o).alloc o').alloc o2).heap[w.heap.size + 2]? = some o2 := by
  have := heap_new ((w.alloc o).alloc o') o2
  simpa using this
set_option maxHeartbeats 1000000 in
set_option maxRecDepth 100000 in
theorem range9_few (m : PMsg) (k v : ByteArray) (b : Bool) (r0 r1 r2 : ByteArray) (h : m.few 1000 = false) (w : World) :
    Calls Tryz.prog 4 #[msgVal m, .agg #[.string k, .string v, .bool b], .agg #[.string r0, .string r1, .string r2]] w (Ret w (.bool true)) := by
  have HF := Aside.mk h
  clear h
  obtain ⟨op, key, too, value⟩ := m
  simp only [msgVal]
  go_enter Tryz.func4, Tryz.ntmps4
  go_wp2_with fail
  refine (few9_c ⟨op, key, too, value⟩ _).mono ?_
  rintro e w1 ⟨rfl, hb1⟩
  rw [HF.out]
  go_wp2_with fail
  refine (awake9_c _).mono ?_
  rintro e w2 ⟨rfl, hb2⟩
  go_wp2_with fail
  go_ret
  exact Ret.mk' rfl (by repeat (first | (with_reducible first | exact Below.refl _ _ | assumption | refine below_drewN ?_ _ | refine Below.drew ?_ | refine below_alloc ?_ _) | (with_reducible refine below_set ?_ ?side _; (case side => first | omega | (simp; omega) | (simp only [World.size_alloc]; omega))) | (with_reducible refine below_trans ?_ (by assumption))))
set_option maxHeartbeats 4000000 in
set_option maxRecDepth 100000 in
theorem range9_long (m : PMsg) (k v : ByteArray) (b : Bool) (r0 r1 r2 : ByteArray) (hf : m.few 1000 = true) (h : 1000 < (k.size : Int) ∨ 1000 < (v.size : Int) ∨ 108 < (r0.size : Int) ∨ 108 < (r1.size : Int) ∨ 108 < (r2.size : Int)) (w : World) :
    Calls Tryz.prog 4 #[msgVal m, .agg #[.string k, .string v, .bool b], .agg #[.string r0, .string r1, .string r2]] w (Ret w (.bool true)) := by
  have HF := Aside.mk hf
  have h' : 1000 < (k.size : Int) ∨ (k.size : Int) ≤ 1000 ∧ 1000 < (v.size : Int) ∨ (k.size : Int) ≤ 1000 ∧ (v.size : Int) ≤ 1000 ∧ 108 < (r0.size : Int)
      ∨ (k.size : Int) ≤ 1000 ∧ (v.size : Int) ≤ 1000 ∧ (r0.size : Int) ≤ 108 ∧ 108 < (r1.size : Int) ∨ (k.size : Int) ≤ 1000 ∧ (v.size : Int) ≤ 1000 ∧ (r0.size : Int) ≤ 108 ∧ (r1.size : Int) ≤ 108 ∧ 108 < (r2.size : Int) := by omega
  clear hf h
  obtain ⟨op, key, too, value⟩ := m
  rcases h' with h1 | ⟨h1, h2⟩ | ⟨h1, h2, h3⟩ | ⟨h1, h2, h3, h4⟩ | ⟨h1, h2, h3, h4, h5⟩
  all_goals
    simp only [msgVal]
    go_enter Tryz.func4, Tryz.ntmps4
    go_wp2_with fail
    refine (few9_c ⟨op, key, too, value⟩ _).mono ?_
    rintro e w1 ⟨rfl, hb1⟩
    rw [HF.out]
    have hM := below_keep hb1 (heap_alloc (heap_alloc (heap_new w (.cells #[.int .i64 op, .string key, .string too, .string value] 23)) (.cells #[.string k, .string v, .bool b] 25)) (.cells #[.string r0, .string r1, .string r2] 31))
    have hK := below_keep hb1 (heap_alloc (heap_alloc2 w (.cells #[.int .i64 op, .string key, .string too, .string value] 23) (.cells #[.string k, .string v, .bool b] 25)) (.cells #[.string r0, .string r1, .string r2] 31))
    have hR := below_keep hb1 (heap_alloc3 w (.cells #[.int .i64 op, .string key, .string too, .string value] 23) (.cells #[.string k, .string v, .bool b] 25) (.cells #[.string r0, .string r1, .string r2] 31))
    obtain ⟨⟨d0, d1, d2, d3⟩, g0, g1, g2, g3⟩ := four hM
    obtain ⟨⟨c0, c1, c2⟩, f0, f1, f2⟩ := three hK
    obtain ⟨⟨r0', r1', r2'⟩, q0, q1, q2⟩ := three hR
    have hz1 : w.heap.size < w1.heap.size := heap_lt hM
    have hz2 : w.heap.size + 1 < w1.heap.size := heap_lt hK
    have hz3 : w.heap.size + 2 < w1.heap.size := heap_lt hR
    go_wp2_with fail
    refine (awake9_c _).mono ?_
    rintro e w2 ⟨rfl, hb2⟩
    go_wp2_with fail
    go_ret
    exact Ret.mk' rfl (by repeat (first | (with_reducible first | exact Below.refl _ _ | assumption | refine below_drewN ?_ _ | refine Below.drew ?_ | refine below_alloc ?_ _) | (with_reducible refine below_set ?_ ?side _; (case side => first | omega | (simp; omega) | (simp only [World.size_alloc]; omega))) | (with_reducible refine below_trans ?_ (by assumption))))
set_option maxHeartbeats 4000000 in
set_option maxRecDepth 100000 in
theorem range9_turn (m : PMsg) (k v : ByteArray) (b : Bool) (r0 r1 r2 : ByteArray) (hf : m.few 1000 = true) (h1 : (k.size : Int) ≤ 1000) (h2 : (v.size : Int) ≤ 1000) (h3 : (r0.size : Int) ≤ 108) (h4 : (r1.size : Int) ≤ 108) (h5 : (r2.size : Int) ≤ 108)
    (he : emp r2 = false) (hl : less r2 (Lib.maxS r0 r1) = true) (w : World) :
    Calls Tryz.prog 4 #[msgVal m, .agg #[.string k, .string v, .bool b], .agg #[.string r0, .string r1, .string r2]] w (Ret w (.bool true)) := by
  have HF := Aside.mk hf
  clear hf
  obtain ⟨op, key, too, value⟩ := m
  have hmx : ∀ (w : World) (ts : Array TypeId) (t : TypeId) (x y : ByteArray), (Builtin.max_ ts t #[.string x, .string y]).run Tryz.prog w = .ok (.string (Lib.maxS x y)) w := Lib.run_max_strs
  have hmn : ∀ (w : World) (ts : Array TypeId) (t : TypeId) (x y : ByteArray), (Builtin.min_ ts t #[.string x, .string y]).run Tryz.prog w = .ok (.string (Lib.minS x y)) w := Lib.run_min_strs
  have e1 : r2.toList.isEmpty = false := he
  have e2 : Op.bytesLess r2.toList (Lib.maxS r0 r1).toList = true := hl
  clear he hl
  simp only [msgVal]
  go_enter Tryz.func4, Tryz.ntmps4
  go_wp2_with fail
  refine (few9_c ⟨op, key, too, value⟩ _).mono ?_
  rintro e w1 ⟨rfl, hb1⟩
  rw [HF.out]
  have hM := below_keep hb1 (heap_alloc (heap_alloc (heap_new w (.cells #[.int .i64 op, .string key, .string too, .string value] 23)) (.cells #[.string k, .string v, .bool b] 25)) (.cells #[.string r0, .string r1, .string r2] 31))
  have hK := below_keep hb1 (heap_alloc (heap_alloc2 w (.cells #[.int .i64 op, .string key, .string too, .string value] 23) (.cells #[.string k, .string v, .bool b] 25)) (.cells #[.string r0, .string r1, .string r2] 31))
  have hR := below_keep hb1 (heap_alloc3 w (.cells #[.int .i64 op, .string key, .string too, .string value] 23) (.cells #[.string k, .string v, .bool b] 25) (.cells #[.string r0, .string r1, .string r2] 31))
  obtain ⟨⟨d0, d1, d2, d3⟩, g0, g1, g2, g3⟩ := four hM
  obtain ⟨⟨c0, c1, c2⟩, f0, f1, f2⟩ := three hK
  obtain ⟨⟨r0', r1', r2'⟩, q0, q1, q2⟩ := three hR
  have hz1 : w.heap.size < w1.heap.size := heap_lt hM
  have hz2 : w.heap.size + 1 < w1.heap.size := heap_lt hK
  have hz3 : w.heap.size + 2 < w1.heap.size := heap_lt hR
  go_wp2_with fail
  go_quiet (fail)
  go_wp2_with fail
  refine (awake9_c _).mono ?_
  rintro e w2 ⟨rfl, hb2⟩
  go_wp2_with fail
  go_ret
  exact Ret.mk' rfl (by repeat (first | (with_reducible first | exact Below.refl _ _ | assumption | refine below_drewN ?_ _ | refine Below.drew ?_ | refine below_alloc ?_ _) | (with_reducible refine below_set ?_ ?side _; (case side => first | omega | (simp; omega) | (simp only [World.size_alloc]; omega))) | (with_reducible refine below_trans ?_ (by assumption))))
end Go.Proofs.YtmggpfngbkbkmaaGreatDoor
