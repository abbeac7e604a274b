/- What package message does (5): patched. -/
import Derived.Test.YtmggpfngbkbkmaaGreatDoorMsg4
namespace Go.Proofs.YtmggpfngbkbkmaaGreatDoor
open Go.RowKit
set_option linter.unusedVariables false
set_option linter.unusedSimpArgs false

theorem emp_size (s : ByteArray) : emp s = decide (s.size = 0) := by
  unfold emp; rw [Bool.eq_iff_iff]; simp [toList_nil]
set_option maxHeartbeats 2000000 in
set_option maxRecDepth 100000 in
theorem patched_d (op : Int) (key too value v : ByteArray) (there : Bool) (hv : value.size < 4611686018427387904) (hs : v.size < 4611686018427387904) (h0 : 0 < key.size) (hx : (key[0]).toNat = 100) (w : World) :
    Calls Tryz.prog 48 #[msgVal ⟨op, key, too, value⟩, .string v, .bool there] w (Ret w (.tuple #[.string (patS key value v there), .bool (patB key value v there)])) := by
  have HS := Aside.mk (show patS key value v there = blkApply v (patchV value) from if_pos (by rw [first_of h0, hx]))
  have HB := Aside.mk (show patB key value v there = !emp (blkApply v (patchV value)) from if_pos (by rw [first_of h0, hx]))
  have hps : (patchV value).s.size < 4611686018427387904 := patchV_size value
  have e2 : (((key[0]).toNat : Int) == 100) = true := beq_iff_eq.2 (by omega)
  have hpi : (0 : Int) < (key.size : Int) := by omega
  have HP := Aside.mk hps
  clear hps hx
  simp only [msgVal]
  go_enter Tryz.func48, Tryz.ntmps48
  go_wp2_with fail
  refine (blkTake_c value hv _).mono ?_
  rintro e w1 ⟨rfl, hb1⟩
  unfold patchVal
  go_wp2_with fail
  refine (blkApply_c v hs (patchV value) HP.out _).mono ?_
  rintro e w2 ⟨rfl, hb2⟩
  go_wp2_with fail
  all_goals (go_ret2; go_tidy)
  all_goals (refine Ret.mk' ?_ (by repeat (first | (with_reducible first | exact Below.refl _ _ | assumption | refine below_drewN ?_ _ | refine Below.drew ?_ | refine below_alloc ?_ _) | (with_reducible refine below_set ?_ ?side _; (case side => first | omega | (simp; omega) | (simp only [World.size_alloc]; omega))) | (with_reducible refine below_trans ?_ (by assumption)))); rw [HS.out, HB.out]; rfl)
set_option maxHeartbeats 2000000 in
set_option maxRecDepth 100000 in
theorem patched_no (op : Int) (key too value v : ByteArray) (there : Bool) (hv : value.size < 4611686018427387904) (hs : v.size < 4611686018427387904) (h0 : 0 < key.size) (hx : (key[0]).toNat ≠ 100) (hy : ¬ (there = true ∧ metaE v = 0)) (w : World) :
    Calls Tryz.prog 48 #[msgVal ⟨op, key, too, value⟩, .string v, .bool there] w (Ret w (.tuple #[.string (patS key value v there), .bool (patB key value v there)])) := by
  have HS := Aside.mk (show patS key value v there = v by unfold patS; rw [first_of h0, if_neg hx, if_neg hy])
  have HB := Aside.mk (show patB key value v there = there by unfold patB; rw [first_of h0, if_neg hx, if_neg hy])
  have e2 : (((key[0]).toNat : Int) == 100) = false := beq_eq_false_iff_ne.2 (by omega)
  have hpi : (0 : Int) < (key.size : Int) := by omega
  have HY := Aside.mk hy
  clear hx hy
  simp only [msgVal]
  cases there
  · go_enter Tryz.func48, Tryz.ntmps48
    go_wp2_with fail
    refine (metaTake_c v _).mono ?_
    rintro e w1 ⟨rfl, hb1⟩
    go_wp2_with fail
    all_goals (go_ret2; go_tidy)
    all_goals (refine Ret.mk' ?_ (by repeat (first | (with_reducible first | exact Below.refl _ _ | assumption | refine below_drewN ?_ _ | refine Below.drew ?_ | refine below_alloc ?_ _) | (with_reducible refine below_set ?_ ?side _; (case side => first | omega | (simp; omega) | (simp only [World.size_alloc]; omega))) | (with_reducible refine below_trans ?_ (by assumption)))); rw [HS.out, HB.out]; rfl)
  · have e3 : (metaE v != 0) = true := bne_iff_ne.2 fun h => HY.out ⟨rfl, h⟩
    go_enter Tryz.func48, Tryz.ntmps48
    go_wp2_with fail
    refine (metaTake_c v _).mono ?_
    rintro e w1 ⟨rfl, hb1⟩
    go_wp2_with fail
    all_goals (go_ret2; go_tidy)
    all_goals (refine Ret.mk' ?_ (by repeat (first | (with_reducible first | exact Below.refl _ _ | assumption | refine below_drewN ?_ _ | refine Below.drew ?_ | refine below_alloc ?_ _) | (with_reducible refine below_set ?_ ?side _; (case side => first | omega | (simp; omega) | (simp only [World.size_alloc]; omega))) | (with_reducible refine below_trans ?_ (by assumption)))); rw [HS.out, HB.out]; rfl)
set_option maxHeartbeats 2000000 in
set_option maxRecDepth 100000 in
theorem patched_yes (op : Int) (key too value v : ByteArray) (hv : value.size < 4611686018427387904) (hs : v.size < 4611686018427387904) (h0 : 0 < key.size) (hx : (key[0]).toNat ≠ 100) (hy : metaE v = 0) (w : World) :
    Calls Tryz.prog 48 #[msgVal ⟨op, key, too, value⟩, .string v, .bool true] w (Ret w (.tuple #[.string (patS key value v true), .bool (patB key value v true)])) := by
  have HS := Aside.mk (show patS key value v true = ((metaV v).change (changeV value)).text by unfold patS; rw [first_of h0, if_neg hx, if_pos ⟨rfl, hy⟩])
  have HB := Aside.mk (show patB key value v true = true by unfold patB; rw [first_of h0, if_neg hx, if_pos ⟨rfl, hy⟩])
  have e2 : (((key[0]).toNat : Int) == 100) = false := beq_eq_false_iff_ne.2 (by omega)
  have hpi : (0 : Int) < (key.size : Int) := by omega
  have HY := Aside.mk hy
  clear hx hy
  simp only [msgVal]
  go_enter Tryz.func48, Tryz.ntmps48
  go_wp2_with fail
  refine (metaTake_c v _).mono ?_
  rintro e w1 ⟨rfl, hb1⟩
  rw [HY.out]
  have hM := below_keep hb1 (heap_new w (.cells #[.int .i64 op, .string key, .string too, .string value] 23))
  obtain ⟨⟨d0, d1, d2, d3⟩, g0, g1, g2, g3⟩ := four hM
  have hz1 : w.heap.size < w1.heap.size := heap_lt hM
  go_wp2_with fail
  refine (takeChange_c value _).mono ?_
  rintro e w2 ⟨rfl, hb2⟩
  have hA := below_keep hb2 (heap_new w1 (.cells #[.int .u8 (metaV v).kind, .int .u32 (metaV v).size, .int .u64 (metaV v).mark, .int .u64 (metaV v).stamp] 76))
  clear d0 d1 d2 d3 g0 g1 g2 g3
  obtain ⟨⟨d0, d1, d2, d3⟩, g0, g1, g2, g3⟩ := four hA
  have hz2 : w1.heap.size < w2.heap.size := heap_lt hA
  go_wp2_with fail
  refine (metaApply_c (metaV v) (changeV value) (metaV_wf v) (changeV_wf value) _).mono ?_
  rintro e w3 ⟨rfl, hb3⟩
  go_wp2_with fail
  refine (metaPut_c _ (change_wf (metaV_wf v) (changeV_wf value)) _).mono ?_
  rintro e w4 ⟨rfl, hb4⟩
  go_wp2_with fail
  all_goals (go_ret2; go_tidy)
  all_goals (refine Ret.mk' ?_ (by repeat (first | (with_reducible first | exact Below.refl _ _ | assumption | refine below_drewN ?_ _ | refine Below.drew ?_ | refine below_alloc ?_ _) | (with_reducible refine below_set ?_ ?side _; (case side => first | omega | (simp; omega) | (simp only [World.size_alloc]; omega))) | (with_reducible refine below_trans ?_ (by assumption)))); rw [HS.out, HB.out]; rfl)
theorem patched_c (m : PMsg) (v : ByteArray) (there : Bool) (hv : m.value.size < 4611686018427387904) (hs : v.size < 4611686018427387904) (h0 : 0 < m.key.size) (w : World) :
    Calls Tryz.prog 48 #[msgVal m, .string v, .bool there] w (Ret w (.tuple #[.string (patS m.key m.value v there), .bool (patB m.key m.value v there)])) := by
  obtain ⟨op, key, too, value⟩ := m
  by_cases hx : (key[0]).toNat = 100
  · exact patched_d op key too value v there hv hs h0 hx w
  · by_cases hy : there = true ∧ metaE v = 0
    · obtain ⟨rfl, hy⟩ := hy
      exact patched_yes op key too value v hv hs h0 hx hy w
    · exact patched_no op key too value v there hv hs h0 hx hy w
end Go.Proofs.YtmggpfngbkbkmaaGreatDoor
