/- What package message does (7): Put, Size. -/
import Derived.Test.YtmggpfngbkbkmaaGreatDoorMsg6
import Derived.Test.YtmggpfngbkbkmaaGreatDoorPlainMsg3
namespace Go.Proofs.YtmggpfngbkbkmaaGreatDoor
open Go.RowKit
set_option linter.unusedVariables false
set_option linter.unusedSimpArgs false

set_option maxHeartbeats 2000000 in
set_option maxRecDepth 100000 in
theorem msgPut_1 (key too value : ByteArray) (h : PMsg.may ⟨1, key, too, value⟩ = true) (w : World) :
    Calls Tryz.prog 80 #[msgVal ⟨1, key, too, value⟩] w (Ret w (.tuple #[.string (PMsg.text ⟨1, key, too, value⟩), .int .i64 0])) := by
  obtain ⟨⟨hk, h0⟩, ht, hv, -⟩ := may_parts h
  simp only at hk h0 ht hv
  have HT := Aside.mk (show PMsg.text ⟨1, key, too, value⟩ = _ from if_pos h)
  have HM := Aside.mk h
  clear h
  simp only [msgVal]
  go_enter Tryz.func80, Tryz.ntmps80
  go_wp2_with fail
  refine (msgMay_c ⟨1, key, too, value⟩ (by simp only; omega) (by simp only; omega) (by simp only; omega) _).mono ?_
  rintro e w1 ⟨rfl, hb⟩
  rw [HM.out]
  have hB := below_keep hb (heap_new w (.cells #[.int .i64 1, .string key, .string too, .string value] 23))
  obtain ⟨⟨d0, d1, d2, d3⟩, g0, g1, g2, g3⟩ := four hB
  have hz1 : w.heap.size < w1.heap.size := heap_lt hB
  go_wp2_with fail
  have hS := WrS.new (heap_new w1 (.cells #[.slice none 0 0, .int .i64 0] 142))
  have hB' := heap_alloc hB (.cells #[.slice none 0 0, .int .i64 0] 142)
  clear d0 d1 d2 d3 g0 g1 g2 g3
  refine (wrsU8_c _ hS 1 (by decide) (by decide) (by simp)).mono ?_
  rintro e w2 ⟨rfl, hS2⟩
  obtain ⟨⟨d0, d1, d2, d3⟩, g0, g1, g2, g3⟩ := four (hS2.keep hB' (by omega))
  go_wp2_with fail
  refine (wrsText_c _ hS2 key (by omega) (by simp [numBytes_length])).mono ?_
  rintro e w3 ⟨rfl, hS3⟩
  clear d0 d1 d2 d3 g0 g1 g2 g3
  obtain ⟨⟨d0, d1, d2, d3⟩, g0, g1, g2, g3⟩ := four (hS3.keep hB' (by omega))
  go_wp2_with fail
  refine (wrsText_c _ hS3 (value) (by omega) (by simp [numBytes_length]; omega)).mono ?_
  rintro e w4 ⟨rfl, hSB⟩
  go_wp2_with fail
  refine (wrsBytes_c _ hSB).mono ?_
  rintro e w5 ⟨rfl, rfl⟩
  go_wp2_with fail
  go_ret2
  refine ⟨by rw [HT.out]; refine congrArg Ending.returned (congrArg (fun l : List UInt8 => Value.tuple #[.string ⟨l.toArray⟩, .int .i64 0]) ?_); simp [PMsg.bytes, txt], ?_⟩
  have hz2 := hb.size
  simp at hz2
  exact below_touch (below_alloc (below_trans (below_alloc (Below.refl _ _) _) hb) _) hSB.touch (by intro i hi e; omega)
set_option maxHeartbeats 2000000 in
set_option maxRecDepth 100000 in
theorem msgPut_2 (key too value : ByteArray) (h : PMsg.may ⟨2, key, too, value⟩ = true) (w : World) :
    Calls Tryz.prog 80 #[msgVal ⟨2, key, too, value⟩] w (Ret w (.tuple #[.string (PMsg.text ⟨2, key, too, value⟩), .int .i64 0])) := by
  obtain ⟨⟨hk, h0⟩, ht, hv, -⟩ := may_parts h
  simp only at hk h0 ht hv
  have HT := Aside.mk (show PMsg.text ⟨2, key, too, value⟩ = _ from if_pos h)
  have HM := Aside.mk h
  clear h
  simp only [msgVal]
  go_enter Tryz.func80, Tryz.ntmps80
  go_wp2_with fail
  refine (msgMay_c ⟨2, key, too, value⟩ (by simp only; omega) (by simp only; omega) (by simp only; omega) _).mono ?_
  rintro e w1 ⟨rfl, hb⟩
  rw [HM.out]
  have hB := below_keep hb (heap_new w (.cells #[.int .i64 2, .string key, .string too, .string value] 23))
  obtain ⟨⟨d0, d1, d2, d3⟩, g0, g1, g2, g3⟩ := four hB
  have hz1 : w.heap.size < w1.heap.size := heap_lt hB
  go_wp2_with fail
  have hS := WrS.new (heap_new w1 (.cells #[.slice none 0 0, .int .i64 0] 142))
  have hB' := heap_alloc hB (.cells #[.slice none 0 0, .int .i64 0] 142)
  clear d0 d1 d2 d3 g0 g1 g2 g3
  refine (wrsU8_c _ hS 2 (by decide) (by decide) (by simp)).mono ?_
  rintro e w2 ⟨rfl, hS2⟩
  obtain ⟨⟨d0, d1, d2, d3⟩, g0, g1, g2, g3⟩ := four (hS2.keep hB' (by omega))
  go_wp2_with fail
  refine (wrsText_c _ hS2 key (by omega) (by simp [numBytes_length])).mono ?_
  rintro e w3 ⟨rfl, hS3⟩
  clear d0 d1 d2 d3 g0 g1 g2 g3
  obtain ⟨⟨d0, d1, d2, d3⟩, g0, g1, g2, g3⟩ := four (hS3.keep hB' (by omega))
  go_wp2_with fail
  have hSB := hS3
  refine (wrsBytes_c _ hSB).mono ?_
  rintro e w5 ⟨rfl, rfl⟩
  go_wp2_with fail
  go_ret2
  refine ⟨by rw [HT.out]; refine congrArg Ending.returned (congrArg (fun l : List UInt8 => Value.tuple #[.string ⟨l.toArray⟩, .int .i64 0]) ?_); simp [PMsg.bytes, txt], ?_⟩
  have hz2 := hb.size
  simp at hz2
  exact below_touch (below_alloc (below_trans (below_alloc (Below.refl _ _) _) hb) _) hSB.touch (by intro i hi e; omega)
set_option maxHeartbeats 2000000 in
set_option maxRecDepth 100000 in
theorem msgPut_3 (key too value : ByteArray) (h : PMsg.may ⟨3, key, too, value⟩ = true) (w : World) :
    Calls Tryz.prog 80 #[msgVal ⟨3, key, too, value⟩] w (Ret w (.tuple #[.string (PMsg.text ⟨3, key, too, value⟩), .int .i64 0])) := by
  obtain ⟨⟨hk, h0⟩, ht, hv, -⟩ := may_parts h
  simp only at hk h0 ht hv
  have HT := Aside.mk (show PMsg.text ⟨3, key, too, value⟩ = _ from if_pos h)
  have HM := Aside.mk h
  clear h
  simp only [msgVal]
  go_enter Tryz.func80, Tryz.ntmps80
  go_wp2_with fail
  refine (msgMay_c ⟨3, key, too, value⟩ (by simp only; omega) (by simp only; omega) (by simp only; omega) _).mono ?_
  rintro e w1 ⟨rfl, hb⟩
  rw [HM.out]
  have hB := below_keep hb (heap_new w (.cells #[.int .i64 3, .string key, .string too, .string value] 23))
  obtain ⟨⟨d0, d1, d2, d3⟩, g0, g1, g2, g3⟩ := four hB
  have hz1 : w.heap.size < w1.heap.size := heap_lt hB
  go_wp2_with fail
  have hS := WrS.new (heap_new w1 (.cells #[.slice none 0 0, .int .i64 0] 142))
  have hB' := heap_alloc hB (.cells #[.slice none 0 0, .int .i64 0] 142)
  clear d0 d1 d2 d3 g0 g1 g2 g3
  refine (wrsU8_c _ hS 3 (by decide) (by decide) (by simp)).mono ?_
  rintro e w2 ⟨rfl, hS2⟩
  obtain ⟨⟨d0, d1, d2, d3⟩, g0, g1, g2, g3⟩ := four (hS2.keep hB' (by omega))
  go_wp2_with fail
  refine (wrsText_c _ hS2 key (by omega) (by simp [numBytes_length])).mono ?_
  rintro e w3 ⟨rfl, hS3⟩
  clear d0 d1 d2 d3 g0 g1 g2 g3
  obtain ⟨⟨d0, d1, d2, d3⟩, g0, g1, g2, g3⟩ := four (hS3.keep hB' (by omega))
  go_wp2_with fail
  refine (wrsText_c _ hS3 (too) (by omega) (by simp [numBytes_length]; omega)).mono ?_
  rintro e w4 ⟨rfl, hSB⟩
  go_wp2_with fail
  refine (wrsBytes_c _ hSB).mono ?_
  rintro e w5 ⟨rfl, rfl⟩
  go_wp2_with fail
  go_ret2
  refine ⟨by rw [HT.out]; refine congrArg Ending.returned (congrArg (fun l : List UInt8 => Value.tuple #[.string ⟨l.toArray⟩, .int .i64 0]) ?_); simp [PMsg.bytes, txt], ?_⟩
  have hz2 := hb.size
  simp at hz2
  exact below_touch (below_alloc (below_trans (below_alloc (Below.refl _ _) _) hb) _) hSB.touch (by intro i hi e; omega)
set_option maxHeartbeats 2000000 in
set_option maxRecDepth 100000 in
theorem msgPut_4 (key too value : ByteArray) (h : PMsg.may ⟨4, key, too, value⟩ = true) (w : World) :
    Calls Tryz.prog 80 #[msgVal ⟨4, key, too, value⟩] w (Ret w (.tuple #[.string (PMsg.text ⟨4, key, too, value⟩), .int .i64 0])) := by
  obtain ⟨⟨hk, h0⟩, ht, hv, -⟩ := may_parts h
  simp only at hk h0 ht hv
  have HT := Aside.mk (show PMsg.text ⟨4, key, too, value⟩ = _ from if_pos h)
  have HM := Aside.mk h
  clear h
  simp only [msgVal]
  go_enter Tryz.func80, Tryz.ntmps80
  go_wp2_with fail
  refine (msgMay_c ⟨4, key, too, value⟩ (by simp only; omega) (by simp only; omega) (by simp only; omega) _).mono ?_
  rintro e w1 ⟨rfl, hb⟩
  rw [HM.out]
  have hB := below_keep hb (heap_new w (.cells #[.int .i64 4, .string key, .string too, .string value] 23))
  obtain ⟨⟨d0, d1, d2, d3⟩, g0, g1, g2, g3⟩ := four hB
  have hz1 : w.heap.size < w1.heap.size := heap_lt hB
  go_wp2_with fail
  have hS := WrS.new (heap_new w1 (.cells #[.slice none 0 0, .int .i64 0] 142))
  have hB' := heap_alloc hB (.cells #[.slice none 0 0, .int .i64 0] 142)
  clear d0 d1 d2 d3 g0 g1 g2 g3
  refine (wrsU8_c _ hS 4 (by decide) (by decide) (by simp)).mono ?_
  rintro e w2 ⟨rfl, hS2⟩
  obtain ⟨⟨d0, d1, d2, d3⟩, g0, g1, g2, g3⟩ := four (hS2.keep hB' (by omega))
  go_wp2_with fail
  refine (wrsText_c _ hS2 key (by omega) (by simp [numBytes_length])).mono ?_
  rintro e w3 ⟨rfl, hS3⟩
  clear d0 d1 d2 d3 g0 g1 g2 g3
  obtain ⟨⟨d0, d1, d2, d3⟩, g0, g1, g2, g3⟩ := four (hS3.keep hB' (by omega))
  go_wp2_with fail
  refine (wrsText_c _ hS3 (value) (by omega) (by simp [numBytes_length]; omega)).mono ?_
  rintro e w4 ⟨rfl, hSB⟩
  go_wp2_with fail
  refine (wrsBytes_c _ hSB).mono ?_
  rintro e w5 ⟨rfl, rfl⟩
  go_wp2_with fail
  go_ret2
  refine ⟨by rw [HT.out]; refine congrArg Ending.returned (congrArg (fun l : List UInt8 => Value.tuple #[.string ⟨l.toArray⟩, .int .i64 0]) ?_); simp [PMsg.bytes, txt], ?_⟩
  have hz2 := hb.size
  simp at hz2
  exact below_touch (below_alloc (below_trans (below_alloc (Below.refl _ _) _) hb) _) hSB.touch (by intro i hi e; omega)
set_option maxRecDepth 100000 in
theorem msgPut_no (m : PMsg) (hk : m.key.size < 4611686018427387904) (ht : m.to.size < 4611686018427387904) (hv : m.value.size < 4611686018427387904) (h : m.may = false) (w : World) :
    Calls Tryz.prog 80 #[msgVal m] w (Ret w (.tuple #[.string m.text, .int .i64 m.err])) := by
  obtain ⟨op, key, too, value⟩ := m
  have HT := Aside.mk (show PMsg.text ⟨op, key, too, value⟩ = ⟨#[]⟩ by unfold PMsg.text; rw [h]; rfl)
  have HE := Aside.mk (show PMsg.err ⟨op, key, too, value⟩ = 4 by unfold PMsg.err; rw [h]; rfl)
  have HM := Aside.mk h
  clear h
  simp only [msgVal]
  go_enter Tryz.func80, Tryz.ntmps80
  go_wp2_with fail
  refine (msgMay_c ⟨op, key, too, value⟩ hk ht hv _).mono ?_
  rintro e w1 ⟨rfl, hb⟩
  rw [HM.out]
  go_wp2_with fail
  all_goals (go_ret2; go_tidy)
  all_goals (refine Ret.mk' ?_ (by repeat (first | (with_reducible first | exact Below.refl _ _ | assumption | refine below_drewN ?_ _ | refine Below.drew ?_ | refine below_alloc ?_ _) | (with_reducible refine below_set ?_ ?side _; (case side => first | omega | (simp; omega) | (simp only [World.size_alloc]; omega))) | (with_reducible refine below_trans ?_ (by assumption)))); rw [HT.out, HE.out]; rfl)
theorem msgPut_c (m : PMsg) (hk : m.key.size < 4611686018427387904) (ht : m.to.size < 4611686018427387904) (hv : m.value.size < 4611686018427387904) (w : World) :
    Calls Tryz.prog 80 #[msgVal m] w (Ret w (.tuple #[.string m.text, .int .i64 m.err])) := by
  cases h : m.may
  · exact msgPut_no m hk ht hv h w
  · obtain ⟨-, -, -, ho⟩ := may_parts h
    have he : m.err = 0 := by unfold PMsg.err; rw [h]; rfl
    rw [he]
    obtain ⟨op, key, too, value⟩ := m
    simp only at ho
    rcases ho with rfl | rfl | rfl | rfl
    · exact msgPut_1 key too value h w
    · exact msgPut_2 key too value h w
    · exact msgPut_3 key too value h w
    · exact msgPut_4 key too value h w
set_option maxRecDepth 100000 in
theorem msgSize_c (m : PMsg) (hk : m.key.size < 4611686018427387904) (ht : m.to.size < 4611686018427387904) (hv : m.value.size < 4611686018427387904) (w : World) :
    Calls Tryz.prog 81 #[msgVal m] w (Ret w (.int .i64 m.text.size)) := by
  obtain ⟨op, key, too, value⟩ := m
  simp only [msgVal]
  go_enter Tryz.func81, Tryz.ntmps81
  go_wp2_with fail
  refine (msgPut_c ⟨op, key, too, value⟩ hk ht hv _).mono ?_
  rintro e w1 ⟨rfl, hb⟩
  go_wp2_with fail
  all_goals (go_ret; go_tidy)
  all_goals (refine Ret.mk' ?_ (by repeat (first | (with_reducible first | exact Below.refl _ _ | assumption | refine below_drewN ?_ _ | refine Below.drew ?_ | refine below_alloc ?_ _) | (with_reducible refine below_set ?_ ?side _; (case side => first | omega | (simp; omega) | (simp only [World.size_alloc]; omega))) | (with_reducible refine below_trans ?_ (by assumption)))); rfl)
end Go.Proofs.YtmggpfngbkbkmaaGreatDoor
