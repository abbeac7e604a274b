/- What package message does (4): may as a whole, Check, touches, Touches. -/
import Derived.Test.YtmggpfngbkbkmaaGreatDoorR7
import Derived.Test.YtmggpfngbkbkmaaGreatDoorR8
namespace Go.Proofs.YtmggpfngbkbkmaaGreatDoor
open Go.RowKit
set_option linter.unusedVariables false
set_option linter.unusedSimpArgs false

theorem msgMay_c (m : PMsg) (hk : m.key.size < 4611686018427387904) (ht : m.til.size < 4611686018427387904) (hv : m.value.size < 4611686018427387904) (w : World) :
    Calls Tryz.prog 56 #[msgVal m] w (Ret w (.bool m.may)) := by
  by_cases h : keyOk m.key = true
  · obtain ⟨op, key, too, value⟩ := m
    have h0 : 0 < key.size := by
      have h' := h
      unfold keyOk at h'
      rw [Bool.and_eq_true, decide_eq_true_eq] at h'
      exact Nat.pos_of_ne_zero h'.1
    by_cases h1 : (key[0]).toNat = 109
    · exact msgMay_m op key too value hk ht hv h0 h h1 w
    · by_cases h2 : (key[0]).toNat = 100
      · exact msgMay_d op key too value hk ht hv h0 h h2 w
      · exact msgMay_o op key too value hk ht hv h0 h ⟨h1, h2⟩ w
  · exact msgMay_no m hk (by simpa using h) w
theorem msgCheck_c (m : PMsg) (hk : m.key.size < 4611686018427387904) (ht : m.til.size < 4611686018427387904) (hv : m.value.size < 4611686018427387904) (w : World) :
    Calls Tryz.prog 41 #[msgVal m] w (Ret w (.int .i64 m.err)) := by
  obtain ⟨op, key, too, value⟩ := m
  generalize hm : PMsg.mk op key too value = m at *
  have HE := Aside.mk hm
  clear hm
  cases hy : m.may
  all_goals
    have HM := Aside.mk hy
    have HR := Aside.mk (show m.err = _ from by unfold PMsg.err; rw [hy])
    clear hy
    rw [← HE.out]
    unfold msgVal
    go_enter Tryz.func41, Tryz.ntmps41
    go_wp2_with fail
    refine (msgMay_c ⟨op, key, too, value⟩ (by rw [HE.out]; exact hk) (by rw [HE.out]; exact ht) (by rw [HE.out]; exact hv) _).mono ?_
    rintro e w1 ⟨rfl, hb⟩
    rw [HE.out, HM.out]
    go_wp2_with fail
    go_ret
    exact ⟨by rw [HE.out, HR.out]; rfl, (by repeat (first | (with_reducible first | exact Below.refl _ _ | assumption | refine below_drewN ?_ _ | refine Below.drew ?_ | refine below_alloc ?_ _) | (with_reducible refine below_set ?_ ?side _; (case side => first | omega | (simp; omega) | (simp only [World.size_alloc]; omega))) | (with_reducible refine below_trans ?_ (by assumption))))⟩
theorem hits_c (m : PMsg) (k : ByteArray) (w : World) :
    Calls Tryz.prog 57 #[msgVal m, .string k] w (Ret w (.bool (m.hits k))) := by
  obtain ⟨op, key, too, value⟩ := m
  unfold msgVal
  go_enter Tryz.func57, Tryz.ntmps57
  go_wp2_with fail
  all_goals (go_ret; go_tidy)
  all_goals (refine ⟨ret_bool ?_, (by repeat (first | (with_reducible first | exact Below.refl _ _ | assumption | refine below_drewN ?_ _ | refine Below.drew ?_ | refine below_alloc ?_ _) | (with_reducible refine below_set ?_ ?side _; (case side => first | omega | (simp; omega) | (simp only [World.size_alloc]; omega))) | (with_reducible refine below_trans ?_ (by assumption))))⟩)
  all_goals simp_all [PMsg.hits, less]
theorem touches_c (m : PMsg) (hk : m.key.size < 4611686018427387904) (ht : m.til.size < 4611686018427387904) (hv : m.value.size < 4611686018427387904) (k : ByteArray) (w : World) :
    Calls Tryz.prog 16 #[msgVal m, .string k] w (Ret w (.bool (m.touches k))) := by
  obtain ⟨op, key, too, value⟩ := m
  have HT := Aside.mk (show PMsg.touches ⟨op, key, too, value⟩ k = (PMsg.may ⟨op, key, too, value⟩ && PMsg.hits ⟨op, key, too, value⟩ k) from rfl)
  rw [HT.out]
  generalize hm : PMsg.may ⟨op, key, too, value⟩ = a at *
  have HM := Aside.mk hm
  clear hm
  generalize hm : PMsg.hits ⟨op, key, too, value⟩ k = b at *
  have HH := Aside.mk hm
  clear hm
  cases a
  · unfold msgVal
    go_enter Tryz.func16, Tryz.ntmps16
    go_wp2_with fail
    refine (msgMay_c ⟨op, key, too, value⟩ hk ht hv _).mono ?_
    rintro e w1 ⟨rfl, hb⟩
    rw [HM.out]
    go_wp2_with fail
    go_ret
    exact ⟨rfl, (by repeat (first | (with_reducible first | exact Below.refl _ _ | assumption | refine below_drewN ?_ _ | refine Below.drew ?_ | refine below_alloc ?_ _) | (with_reducible refine below_set ?_ ?side _; (case side => first | omega | (simp; omega) | (simp only [World.size_alloc]; omega))) | (with_reducible refine below_trans ?_ (by assumption))))⟩
  · unfold msgVal
    go_enter Tryz.func16, Tryz.ntmps16
    go_wp2_with fail
    refine (msgMay_c ⟨op, key, too, value⟩ hk ht hv _).mono ?_
    rintro e w1 ⟨rfl, hb⟩
    rw [HM.out]
    have hM := below_keep hb (heap_new w (.cells #[.int .i64 op, .string key, .string too, .string value] 23))
    obtain ⟨⟨d0, d1, d2, d3⟩, g0, g1, g2, g3⟩ := four hM
    have hz1 : w.heap.size < w1.heap.size := heap_lt hM
    go_wp2_with fail
    refine (hits_c ⟨op, key, too, value⟩ k _).mono ?_
    rintro e w2 ⟨rfl, hb2⟩
    rw [HH.out]
    go_wp2_with fail
    go_ret
    exact ⟨rfl, (by repeat (first | (with_reducible first | exact Below.refl _ _ | assumption | refine below_drewN ?_ _ | refine Below.drew ?_ | refine below_alloc ?_ _) | (with_reducible refine below_set ?_ ?side _; (case side => first | omega | (simp; omega) | (simp only [World.size_alloc]; omega))) | (with_reducible refine below_trans ?_ (by assumption))))⟩
end Go.Proofs.YtmggpfngbkbkmaaGreatDoor
/- What package message does (5): patched. -/
namespace Go.Proofs.YtmggpfngbkbkmaaGreatDoor
open Go.RowKit
set_option linter.unusedVariables false
set_option linter.unusedSimpArgs false

theorem emp_size (s : ByteArray) : emp s = decide (s.size = 0) := by
  unfold emp; rw [Bool.eq_iff_iff]; simp [toList_nil]
set_option maxHeartbeats 2000000 in
set_option maxRecDepth 100000 in
theorem patched_d (op : Int) (key too value v : ByteArray) (there : Bool) (hv : value.size < 4611686018427387904) (hs : v.size < 4611686018427387904) (h0 : 0 < key.size) (hx : (key[0]).toNat = 100) (w : World) :
    Calls Tryz.prog 48 #[msgVal ⟨op, key, too, value⟩, .string v, .bool there] w (Ret w (.tuple #[.string (patS key value v there), .bool (patB key value v there)])) := by
  have HS := Aside.mk (show patS key value v there = blkApply v (patchV value) from if_pos (by rw [first_of h0, hx]))
  have HB := Aside.mk (show patB key value v there = !emp (blkApply v (patchV value)) from if_pos (by rw [first_of h0, hx]))
  have hps : (patchV value).s.size < 4611686018427387904 := patchV_size value
  have e2 : (((key[0]).toNat : Int) == 100) = true := beq_iff_eq.2 (by omega)
  have hpi : (0 : Int) < (key.size : Int) := by omega
  have HP := Aside.mk hps
  clear hps hx
  simp only [msgVal]
  go_enter Tryz.func48, Tryz.ntmps48
  go_wp2_with fail
  refine (blkTake_c value hv _).mono ?_
  rintro e w1 ⟨rfl, hb1⟩
  unfold patchVal
  go_wp2_with fail
  refine (blkApply_c v hs (patchV value) HP.out _).mono ?_
  rintro e w2 ⟨rfl, hb2⟩
  go_wp2_with fail
  all_goals (go_ret2; go_tidy)
  all_goals (refine Ret.mk' ?_ (by repeat (first | (with_reducible first | exact Below.refl _ _ | assumption | refine below_drewN ?_ _ | refine Below.drew ?_ | refine below_alloc ?_ _) | (with_reducible refine below_set ?_ ?side _; (case side => first | omega | (simp; omega) | (simp only [World.size_alloc]; omega))) | (with_reducible refine below_trans ?_ (by assumption)))); rw [HS.out, HB.out]; rfl)
set_option maxHeartbeats 2000000 in
set_option maxRecDepth 100000 in
theorem patched_no (op : Int) (key too value v : ByteArray) (there : Bool) (hv : value.size < 4611686018427387904) (hs : v.size < 4611686018427387904) (h0 : 0 < key.size) (hx : (key[0]).toNat ≠ 100) (hy : ¬ (there = true ∧ metaE v = 0)) (w : World) :
    Calls Tryz.prog 48 #[msgVal ⟨op, key, too, value⟩, .string v, .bool there] w (Ret w (.tuple #[.string (patS key value v there), .bool (patB key value v there)])) := by
  have HS := Aside.mk (show patS key value v there = v by unfold patS; rw [first_of h0, if_neg hx, if_neg hy])
  have HB := Aside.mk (show patB key value v there = there by unfold patB; rw [first_of h0, if_neg hx, if_neg hy])
  have e2 : (((key[0]).toNat : Int) == 100) = false := beq_eq_false_iff_ne.2 (by omega)
  have hpi : (0 : Int) < (key.size : Int) := by omega
  have HY := Aside.mk hy
  clear hx hy
  simp only [msgVal]
  cases there
  · go_enter Tryz.func48, Tryz.ntmps48
    go_wp2_with fail
    refine (metaTake_c v _).mono ?_
    rintro e w1 ⟨rfl, hb1⟩
    go_wp2_with fail
    all_goals (go_ret2; go_tidy)
    all_goals (refine Ret.mk' ?_ (by repeat (first | (with_reducible first | exact Below.refl _ _ | assumption | refine below_drewN ?_ _ | refine Below.drew ?_ | refine below_alloc ?_ _) | (with_reducible refine below_set ?_ ?side _; (case side => first | omega | (simp; omega) | (simp only [World.size_alloc]; omega))) | (with_reducible refine below_trans ?_ (by assumption)))); rw [HS.out, HB.out]; rfl)
  · have e3 : (metaE v != 0) = true := bne_iff_ne.2 fun h => HY.out ⟨rfl, h⟩
    go_enter Tryz.func48, Tryz.ntmps48
    go_wp2_with fail
    refine (metaTake_c v _).mono ?_
    rintro e w1 ⟨rfl, hb1⟩
    go_wp2_with fail
    all_goals (go_ret2; go_tidy)
    all_goals (refine Ret.mk' ?_ (by repeat (first | (with_reducible first | exact Below.refl _ _ | assumption | refine below_drewN ?_ _ | refine Below.drew ?_ | refine below_alloc ?_ _) | (with_reducible refine below_set ?_ ?side _; (case side => first | omega | (simp; omega) | (simp only [World.size_alloc]; omega))) | (with_reducible refine below_trans ?_ (by assumption)))); rw [HS.out, HB.out]; rfl)
set_option maxHeartbeats 2000000 in
set_option maxRecDepth 100000 in
theorem patched_yes (op : Int) (key too value v : ByteArray) (hv : value.size < 4611686018427387904) (hs : v.size < 4611686018427387904) (h0 : 0 < key.size) (hx : (key[0]).toNat ≠ 100) (hy : metaE v = 0) (w : World) :
    Calls Tryz.prog 48 #[msgVal ⟨op, key, too, value⟩, .string v, .bool true] w (Ret w (.tuple #[.string (patS key value v true), .bool (patB key value v true)])) := by
  have HS := Aside.mk (show patS key value v true = ((metaV v).change (changeV value)).text by unfold patS; rw [first_of h0, if_neg hx, if_pos ⟨rfl, hy⟩])
  have HB := Aside.mk (show patB key value v true = true by unfold patB; rw [first_of h0, if_neg hx, if_pos ⟨rfl, hy⟩])
  have e2 : (((key[0]).toNat : Int) == 100) = false := beq_eq_false_iff_ne.2 (by omega)
  have hpi : (0 : Int) < (key.size : Int) := by omega
  have HY := Aside.mk hy
  clear hx hy
  simp only [msgVal]
  go_enter Tryz.func48, Tryz.ntmps48
  go_wp2_with fail
  refine (metaTake_c v _).mono ?_
  rintro e w1 ⟨rfl, hb1⟩
  rw [HY.out]
  have hM := below_keep hb1 (heap_new w (.cells #[.int .i64 op, .string key, .string too, .string value] 23))
  obtain ⟨⟨d0, d1, d2, d3⟩, g0, g1, g2, g3⟩ := four hM
  have hz1 : w.heap.size < w1.heap.size := heap_lt hM
  go_wp2_with fail
  refine (takeChange_c value _).mono ?_
  rintro e w2 ⟨rfl, hb2⟩
  have hA := below_keep hb2 (heap_new w1 (.cells #[.int .u8 (metaV v).kind, .int .u32 (metaV v).size, .int .u64 (metaV v).mark, .int .u64 (metaV v).stamp] 76))
  clear d0 d1 d2 d3 g0 g1 g2 g3
  obtain ⟨⟨d0, d1, d2, d3⟩, g0, g1, g2, g3⟩ := four hA
  have hz2 : w1.heap.size < w2.heap.size := heap_lt hA
  go_wp2_with fail
  refine (metaApply_c (metaV v) (changeV value) (metaV_wf v) (changeV_wf value) _).mono ?_
  rintro e w3 ⟨rfl, hb3⟩
  go_wp2_with fail
  refine (metaPut_c _ (change_wf (metaV_wf v) (changeV_wf value)) _).mono ?_
  rintro e w4 ⟨rfl, hb4⟩
  go_wp2_with fail
  all_goals (go_ret2; go_tidy)
  all_goals (refine Ret.mk' ?_ (by repeat (first | (with_reducible first | exact Below.refl _ _ | assumption | refine below_drewN ?_ _ | refine Below.drew ?_ | refine below_alloc ?_ _) | (with_reducible refine below_set ?_ ?side _; (case side => first | omega | (simp; omega) | (simp only [World.size_alloc]; omega))) | (with_reducible refine below_trans ?_ (by assumption)))); rw [HS.out, HB.out]; rfl)
theorem patched_c (m : PMsg) (v : ByteArray) (there : Bool) (hv : m.value.size < 4611686018427387904) (hs : v.size < 4611686018427387904) (h0 : 0 < m.key.size) (w : World) :
    Calls Tryz.prog 48 #[msgVal m, .string v, .bool there] w (Ret w (.tuple #[.string (patS m.key m.value v there), .bool (patB m.key m.value v there)])) := by
  obtain ⟨op, key, too, value⟩ := m
  by_cases hx : (key[0]).toNat = 100
  · exact patched_d op key too value v there hv hs h0 hx w
  · by_cases hy : there = true ∧ metaE v = 0
    · obtain ⟨rfl, hy⟩ := hy
      exact patched_yes op key too value v hv hs h0 hx hy w
    · exact patched_no op key too value v there hv hs h0 hx hy w
end Go.Proofs.YtmggpfngbkbkmaaGreatDoor
/- What package message does (6): Apply. -/
namespace Go.Proofs.YtmggpfngbkbkmaaGreatDoor
open Go.RowKit
set_option linter.unusedVariables false
set_option linter.unusedSimpArgs false

theorem touches_key {m : PMsg} {k : ByteArray} (h : m.touches k = true) : 0 < m.key.size := by
  unfold PMsg.touches PMsg.may keyOk at h
  rw [Bool.and_eq_true, Bool.and_eq_true, Bool.and_eq_true, decide_eq_true_eq] at h
  exact Nat.pos_of_ne_zero h.1.1.1
set_option maxHeartbeats 2000000 in
set_option maxRecDepth 100000 in
theorem msgApply_true (m : PMsg) (hk : m.key.size < 4611686018427387904) (ht : m.til.size < 4611686018427387904) (hv : m.value.size < 4611686018427387904) (k v : ByteArray) (hs : v.size < 4611686018427387904) (w : World) :
    Calls Tryz.prog 13 #[msgVal m, .string k, .string v, .bool true] w (Ret w (.tuple #[.string (m.makesS k v true), .bool (m.makesB k v true)])) := by
  obtain ⟨op, key, too, value⟩ := m
  simp only at hk ht hv
  have hs0 : (ByteArray.mk #[]).size < 4611686018427387904 := by decide
  by_cases h1 : PMsg.touches ⟨op, key, too, value⟩ k = true
  · have h0 := touches_key h1
    simp only at h0
    by_cases h2 : op = 1
    · have HS := Aside.mk (show PMsg.makesS ⟨op, key, too, value⟩ k v true = value by unfold PMsg.makesS; rw [if_neg (by simp [h1]), if_pos h2])
      have HB := Aside.mk (show PMsg.makesB ⟨op, key, too, value⟩ k v true = true by unfold PMsg.makesB; rw [if_neg (by simp [h1]), if_pos h2])
      have e1 : (op == 1) = true := beq_iff_eq.2 h2
      have HT := Aside.mk h1
      clear h1 h2
      simp only [msgVal]
      go_enter Tryz.func13, Tryz.ntmps13
      go_wp2_with fail
      refine (touches_c ⟨op, key, too, value⟩ hk ht hv k _).mono ?_
      rintro e w1 ⟨rfl, hb1⟩
      rw [HT.out]
      have hM := below_keep hb1 (heap_new w (.cells #[.int .i64 op, .string key, .string too, .string value] 23))
      obtain ⟨⟨d0, d1, d2, d3⟩, g0, g1, g2, g3⟩ := four hM
      have hz1 : w.heap.size < w1.heap.size := heap_lt hM
      go_wp2_with fail
      all_goals (go_ret2; go_tidy)
      all_goals (refine Ret.mk' ?_ (by repeat (first | (with_reducible first | exact Below.refl _ _ | assumption | refine below_drewN ?_ _ | refine Below.drew ?_ | refine below_alloc ?_ _) | (with_reducible refine below_set ?_ ?side _; (case side => first | omega | (simp; omega) | (simp only [World.size_alloc]; omega))) | (with_reducible refine below_trans ?_ (by assumption)))); rw [HS.out, HB.out]; rfl)
    · by_cases h4 : op = 4
      · have HS := Aside.mk (show PMsg.makesS ⟨op, key, too, value⟩ k v true = patS key value v true by unfold PMsg.makesS; rw [if_neg (by simp [h1]), if_neg h2, if_pos h4]; rfl)
        have HB := Aside.mk (show PMsg.makesB ⟨op, key, too, value⟩ k v true = patB key value v true by unfold PMsg.makesB; rw [if_neg (by simp [h1]), if_neg h2, if_pos h4]; rfl)
        have e1 : (op == 1) = false := beq_eq_false_iff_ne.2 h2
        have e4 : (op == 4) = true := beq_iff_eq.2 h4
        have HT := Aside.mk h1
        clear h1 h2 h4
        simp only [msgVal]
        go_enter Tryz.func13, Tryz.ntmps13
        go_wp2_with fail
        refine (touches_c ⟨op, key, too, value⟩ hk ht hv k _).mono ?_
        rintro e w1 ⟨rfl, hb1⟩
        rw [HT.out]
        have hM := below_keep hb1 (heap_new w (.cells #[.int .i64 op, .string key, .string too, .string value] 23))
        obtain ⟨⟨d0, d1, d2, d3⟩, g0, g1, g2, g3⟩ := four hM
        have hz1 : w.heap.size < w1.heap.size := heap_lt hM
        go_wp2_with fail
        refine (patched_c ⟨op, key, too, value⟩ v true hv (by assumption) h0 _).mono ?_
        rintro e w2 ⟨rfl, hb2⟩
        go_wp2_with fail
        all_goals (go_ret2; go_tidy)
        all_goals (refine Ret.mk' ?_ (by repeat (first | (with_reducible first | exact Below.refl _ _ | assumption | refine below_drewN ?_ _ | refine Below.drew ?_ | refine below_alloc ?_ _) | (with_reducible refine below_set ?_ ?side _; (case side => first | omega | (simp; omega) | (simp only [World.size_alloc]; omega))) | (with_reducible refine below_trans ?_ (by assumption)))); rw [HS.out, HB.out]; rfl)
      · have HS := Aside.mk (show PMsg.makesS ⟨op, key, too, value⟩ k v true = ⟨#[]⟩ by unfold PMsg.makesS; rw [if_neg (by simp [h1]), if_neg h2, if_neg h4])
        have HB := Aside.mk (show PMsg.makesB ⟨op, key, too, value⟩ k v true = false by unfold PMsg.makesB; rw [if_neg (by simp [h1]), if_neg h2, if_neg h4])
        have e1 : (op == 1) = false := beq_eq_false_iff_ne.2 h2
        have e4 : (op == 4) = false := beq_eq_false_iff_ne.2 h4
        have HT := Aside.mk h1
        clear h1 h2 h4
        simp only [msgVal]
        go_enter Tryz.func13, Tryz.ntmps13
        go_wp2_with fail
        refine (touches_c ⟨op, key, too, value⟩ hk ht hv k _).mono ?_
        rintro e w1 ⟨rfl, hb1⟩
        rw [HT.out]
        have hM := below_keep hb1 (heap_new w (.cells #[.int .i64 op, .string key, .string too, .string value] 23))
        obtain ⟨⟨d0, d1, d2, d3⟩, g0, g1, g2, g3⟩ := four hM
        have hz1 : w.heap.size < w1.heap.size := heap_lt hM
        go_wp2_with fail
        all_goals (go_ret2; go_tidy)
        all_goals (refine Ret.mk' ?_ (by repeat (first | (with_reducible first | exact Below.refl _ _ | assumption | refine below_drewN ?_ _ | refine Below.drew ?_ | refine below_alloc ?_ _) | (with_reducible refine below_set ?_ ?side _; (case side => first | omega | (simp; omega) | (simp only [World.size_alloc]; omega))) | (with_reducible refine below_trans ?_ (by assumption)))); rw [HS.out, HB.out]; rfl)
  · have h1' : PMsg.touches ⟨op, key, too, value⟩ k = false := by simpa using h1
    have HS := Aside.mk (show PMsg.makesS ⟨op, key, too, value⟩ k v true = v by unfold PMsg.makesS; rw [if_pos h1']; rfl)
    have HB := Aside.mk (show PMsg.makesB ⟨op, key, too, value⟩ k v true = true by unfold PMsg.makesB; rw [if_pos h1'])
    have HT := Aside.mk h1'
    clear h1 h1'
    simp only [msgVal]
    go_enter Tryz.func13, Tryz.ntmps13
    go_wp2_with fail
    refine (touches_c ⟨op, key, too, value⟩ hk ht hv k _).mono ?_
    rintro e w1 ⟨rfl, hb1⟩
    rw [HT.out]
    go_wp2_with fail
    all_goals (go_ret2; go_tidy)
    all_goals (refine Ret.mk' ?_ (by repeat (first | (with_reducible first | exact Below.refl _ _ | assumption | refine below_drewN ?_ _ | refine Below.drew ?_ | refine below_alloc ?_ _) | (with_reducible refine below_set ?_ ?side _; (case side => first | omega | (simp; omega) | (simp only [World.size_alloc]; omega))) | (with_reducible refine below_trans ?_ (by assumption)))); rw [HS.out, HB.out]; rfl)
set_option maxHeartbeats 2000000 in
set_option maxRecDepth 100000 in
theorem msgApply_false (m : PMsg) (hk : m.key.size < 4611686018427387904) (ht : m.til.size < 4611686018427387904) (hv : m.value.size < 4611686018427387904) (k v : ByteArray) (hs : v.size < 4611686018427387904) (w : World) :
    Calls Tryz.prog 13 #[msgVal m, .string k, .string v, .bool false] w (Ret w (.tuple #[.string (m.makesS k v false), .bool (m.makesB k v false)])) := by
  obtain ⟨op, key, too, value⟩ := m
  simp only at hk ht hv
  have hs0 : (ByteArray.mk #[]).size < 4611686018427387904 := by decide
  by_cases h1 : PMsg.touches ⟨op, key, too, value⟩ k = true
  · have h0 := touches_key h1
    simp only at h0
    by_cases h2 : op = 1
    · have HS := Aside.mk (show PMsg.makesS ⟨op, key, too, value⟩ k v false = value by unfold PMsg.makesS; rw [if_neg (by simp [h1]), if_pos h2])
      have HB := Aside.mk (show PMsg.makesB ⟨op, key, too, value⟩ k v false = true by unfold PMsg.makesB; rw [if_neg (by simp [h1]), if_pos h2])
      have e1 : (op == 1) = true := beq_iff_eq.2 h2
      have HT := Aside.mk h1
      clear h1 h2
      simp only [msgVal]
      go_enter Tryz.func13, Tryz.ntmps13
      go_wp2_with fail
      refine (touches_c ⟨op, key, too, value⟩ hk ht hv k _).mono ?_
      rintro e w1 ⟨rfl, hb1⟩
      rw [HT.out]
      have hM := below_keep hb1 (heap_new w (.cells #[.int .i64 op, .string key, .string too, .string value] 23))
      obtain ⟨⟨d0, d1, d2, d3⟩, g0, g1, g2, g3⟩ := four hM
      have hz1 : w.heap.size < w1.heap.size := heap_lt hM
      go_wp2_with fail
      all_goals (go_ret2; go_tidy)
      all_goals (refine Ret.mk' ?_ (by repeat (first | (with_reducible first | exact Below.refl _ _ | assumption | refine below_drewN ?_ _ | refine Below.drew ?_ | refine below_alloc ?_ _) | (with_reducible refine below_set ?_ ?side _; (case side => first | omega | (simp; omega) | (simp only [World.size_alloc]; omega))) | (with_reducible refine below_trans ?_ (by assumption)))); rw [HS.out, HB.out]; rfl)
    · by_cases h4 : op = 4
      · have HS := Aside.mk (show PMsg.makesS ⟨op, key, too, value⟩ k v false = patS key value ⟨#[]⟩ false by unfold PMsg.makesS; rw [if_neg (by simp [h1]), if_neg h2, if_pos h4]; rfl)
        have HB := Aside.mk (show PMsg.makesB ⟨op, key, too, value⟩ k v false = patB key value ⟨#[]⟩ false by unfold PMsg.makesB; rw [if_neg (by simp [h1]), if_neg h2, if_pos h4]; rfl)
        have e1 : (op == 1) = false := beq_eq_false_iff_ne.2 h2
        have e4 : (op == 4) = true := beq_iff_eq.2 h4
        have HT := Aside.mk h1
        clear h1 h2 h4
        simp only [msgVal]
        go_enter Tryz.func13, Tryz.ntmps13
        go_wp2_with fail
        refine (touches_c ⟨op, key, too, value⟩ hk ht hv k _).mono ?_
        rintro e w1 ⟨rfl, hb1⟩
        rw [HT.out]
        have hM := below_keep hb1 (heap_new w (.cells #[.int .i64 op, .string key, .string too, .string value] 23))
        obtain ⟨⟨d0, d1, d2, d3⟩, g0, g1, g2, g3⟩ := four hM
        have hz1 : w.heap.size < w1.heap.size := heap_lt hM
        go_wp2_with fail
        refine (patched_c ⟨op, key, too, value⟩ ⟨#[]⟩ false hv (by assumption) h0 _).mono ?_
        rintro e w2 ⟨rfl, hb2⟩
        go_wp2_with fail
        all_goals (go_ret2; go_tidy)
        all_goals (refine Ret.mk' ?_ (by repeat (first | (with_reducible first | exact Below.refl _ _ | assumption | refine below_drewN ?_ _ | refine Below.drew ?_ | refine below_alloc ?_ _) | (with_reducible refine below_set ?_ ?side _; (case side => first | omega | (simp; omega) | (simp only [World.size_alloc]; omega))) | (with_reducible refine below_trans ?_ (by assumption)))); rw [HS.out, HB.out]; rfl)
      · have HS := Aside.mk (show PMsg.makesS ⟨op, key, too, value⟩ k v false = ⟨#[]⟩ by unfold PMsg.makesS; rw [if_neg (by simp [h1]), if_neg h2, if_neg h4])
        have HB := Aside.mk (show PMsg.makesB ⟨op, key, too, value⟩ k v false = false by unfold PMsg.makesB; rw [if_neg (by simp [h1]), if_neg h2, if_neg h4])
        have e1 : (op == 1) = false := beq_eq_false_iff_ne.2 h2
        have e4 : (op == 4) = false := beq_eq_false_iff_ne.2 h4
        have HT := Aside.mk h1
        clear h1 h2 h4
        simp only [msgVal]
        go_enter Tryz.func13, Tryz.ntmps13
        go_wp2_with fail
        refine (touches_c ⟨op, key, too, value⟩ hk ht hv k _).mono ?_
        rintro e w1 ⟨rfl, hb1⟩
        rw [HT.out]
        have hM := below_keep hb1 (heap_new w (.cells #[.int .i64 op, .string key, .string too, .string value] 23))
        obtain ⟨⟨d0, d1, d2, d3⟩, g0, g1, g2, g3⟩ := four hM
        have hz1 : w.heap.size < w1.heap.size := heap_lt hM
        go_wp2_with fail
        all_goals (go_ret2; go_tidy)
        all_goals (refine Ret.mk' ?_ (by repeat (first | (with_reducible first | exact Below.refl _ _ | assumption | refine below_drewN ?_ _ | refine Below.drew ?_ | refine below_alloc ?_ _) | (with_reducible refine below_set ?_ ?side _; (case side => first | omega | (simp; omega) | (simp only [World.size_alloc]; omega))) | (with_reducible refine below_trans ?_ (by assumption)))); rw [HS.out, HB.out]; rfl)
  · have h1' : PMsg.touches ⟨op, key, too, value⟩ k = false := by simpa using h1
    have HS := Aside.mk (show PMsg.makesS ⟨op, key, too, value⟩ k v false = ⟨#[]⟩ by unfold PMsg.makesS; rw [if_pos h1']; rfl)
    have HB := Aside.mk (show PMsg.makesB ⟨op, key, too, value⟩ k v false = false by unfold PMsg.makesB; rw [if_pos h1'])
    have HT := Aside.mk h1'
    clear h1 h1'
    simp only [msgVal]
    go_enter Tryz.func13, Tryz.ntmps13
    go_wp2_with fail
    refine (touches_c ⟨op, key, too, value⟩ hk ht hv k _).mono ?_
    rintro e w1 ⟨rfl, hb1⟩
    rw [HT.out]
    go_wp2_with fail
    all_goals (go_ret2; go_tidy)
    all_goals (refine Ret.mk' ?_ (by repeat (first | (with_reducible first | exact Below.refl _ _ | assumption | refine below_drewN ?_ _ | refine Below.drew ?_ | refine below_alloc ?_ _) | (with_reducible refine below_set ?_ ?side _; (case side => first | omega | (simp; omega) | (simp only [World.size_alloc]; omega))) | (with_reducible refine below_trans ?_ (by assumption)))); rw [HS.out, HB.out]; rfl)
theorem msgApply_c (m : PMsg) (hk : m.key.size < 4611686018427387904) (ht : m.til.size < 4611686018427387904) (hv : m.value.size < 4611686018427387904) (k v : ByteArray) (hs : v.size < 4611686018427387904) (there : Bool) (w : World) :
    Calls Tryz.prog 13 #[msgVal m, .string k, .string v, .bool there] w (Ret w (.tuple #[.string (m.makesS k v there), .bool (m.makesB k v there)])) := by
  cases there
  · exact msgApply_false m hk ht hv k v hs w
  · exact msgApply_true m hk ht hv k v hs w
end Go.Proofs.YtmggpfngbkbkmaaGreatDoor
/- What package message does (7): Put, Size. -/
namespace Go.Proofs.YtmggpfngbkbkmaaGreatDoor
open Go.RowKit
set_option linter.unusedVariables false
set_option linter.unusedSimpArgs false

set_option maxHeartbeats 2000000 in
set_option maxRecDepth 100000 in
theorem msgPut_1 (key too value : ByteArray) (h : PMsg.may ⟨1, key, too, value⟩ = true) (w : World) :
    Calls Tryz.prog 80 #[msgVal ⟨1, key, too, value⟩] w (Ret w (.tuple #[.string (PMsg.text ⟨1, key, too, value⟩), .int .i64 0])) := by
  obtain ⟨⟨hk, h0⟩, ht, hv, -⟩ := may_parts h
  simp only at hk h0 ht hv
  have HT := Aside.mk (show PMsg.text ⟨1, key, too, value⟩ = _ from if_pos h)
  have HM := Aside.mk h
  clear h
  simp only [msgVal]
  go_enter Tryz.func80, Tryz.ntmps80
  go_wp2_with fail
  refine (msgMay_c ⟨1, key, too, value⟩ (by simp only; omega) (by simp only; omega) (by simp only; omega) _).mono ?_
  rintro e w1 ⟨rfl, hb⟩
  rw [HM.out]
  have hB := below_keep hb (heap_new w (.cells #[.int .i64 1, .string key, .string too, .string value] 23))
  obtain ⟨⟨d0, d1, d2, d3⟩, g0, g1, g2, g3⟩ := four hB
  have hz1 : w.heap.size < w1.heap.size := heap_lt hB
  go_wp2_with fail
  have hS := WrS.new (heap_new w1 (.cells #[.slice none 0 0, .int .i64 0] 142))
  have hB' := heap_alloc hB (.cells #[.slice none 0 0, .int .i64 0] 142)
  clear d0 d1 d2 d3 g0 g1 g2 g3
  refine (wrsU8_c _ hS 1 (by decide) (by decide) (by simp)).mono ?_
  rintro e w2 ⟨rfl, hS2⟩
  obtain ⟨⟨d0, d1, d2, d3⟩, g0, g1, g2, g3⟩ := four (hS2.keep hB' (by omega))
  go_wp2_with fail
  refine (wrsText_c _ hS2 key (by omega) (by simp [numBytes_length])).mono ?_
  rintro e w3 ⟨rfl, hS3⟩
  clear d0 d1 d2 d3 g0 g1 g2 g3
  obtain ⟨⟨d0, d1, d2, d3⟩, g0, g1, g2, g3⟩ := four (hS3.keep hB' (by omega))
  go_wp2_with fail
  refine (wrsText_c _ hS3 (value) (by omega) (by simp [numBytes_length]; omega)).mono ?_
  rintro e w4 ⟨rfl, hSB⟩
  go_wp2_with fail
  refine (wrsBytes_c _ hSB).mono ?_
  rintro e w5 ⟨rfl, rfl⟩
  go_wp2_with fail
  go_ret2
  refine ⟨by rw [HT.out]; refine congrArg Ending.returned (congrArg (fun l : List UInt8 => Value.tuple #[.string ⟨l.toArray⟩, .int .i64 0]) ?_); simp [PMsg.bytes, txt], ?_⟩
  have hz2 := hb.size
  simp at hz2
  exact below_touch (below_alloc (below_trans (below_alloc (Below.refl _ _) _) hb) _) hSB.touch (by intro i hi e; omega)
set_option maxHeartbeats 2000000 in
set_option maxRecDepth 100000 in
theorem msgPut_2 (key too value : ByteArray) (h : PMsg.may ⟨2, key, too, value⟩ = true) (w : World) :
    Calls Tryz.prog 80 #[msgVal ⟨2, key, too, value⟩] w (Ret w (.tuple #[.string (PMsg.text ⟨2, key, too, value⟩), .int .i64 0])) := by
  obtain ⟨⟨hk, h0⟩, ht, hv, -⟩ := may_parts h
  simp only at hk h0 ht hv
  have HT := Aside.mk (show PMsg.text ⟨2, key, too, value⟩ = _ from if_pos h)
  have HM := Aside.mk h
  clear h
  simp only [msgVal]
  go_enter Tryz.func80, Tryz.ntmps80
  go_wp2_with fail
  refine (msgMay_c ⟨2, key, too, value⟩ (by simp only; omega) (by simp only; omega) (by simp only; omega) _).mono ?_
  rintro e w1 ⟨rfl, hb⟩
  rw [HM.out]
  have hB := below_keep hb (heap_new w (.cells #[.int .i64 2, .string key, .string too, .string value] 23))
  obtain ⟨⟨d0, d1, d2, d3⟩, g0, g1, g2, g3⟩ := four hB
  have hz1 : w.heap.size < w1.heap.size := heap_lt hB
  go_wp2_with fail
  have hS := WrS.new (heap_new w1 (.cells #[.slice none 0 0, .int .i64 0] 142))
  have hB' := heap_alloc hB (.cells #[.slice none 0 0, .int .i64 0] 142)
  clear d0 d1 d2 d3 g0 g1 g2 g3
  refine (wrsU8_c _ hS 2 (by decide) (by decide) (by simp)).mono ?_
  rintro e w2 ⟨rfl, hS2⟩
  obtain ⟨⟨d0, d1, d2, d3⟩, g0, g1, g2, g3⟩ := four (hS2.keep hB' (by omega))
  go_wp2_with fail
  refine (wrsText_c _ hS2 key (by omega) (by simp [numBytes_length])).mono ?_
  rintro e w3 ⟨rfl, hS3⟩
  clear d0 d1 d2 d3 g0 g1 g2 g3
  obtain ⟨⟨d0, d1, d2, d3⟩, g0, g1, g2, g3⟩ := four (hS3.keep hB' (by omega))
  go_wp2_with fail
  have hSB := hS3
  refine (wrsBytes_c _ hSB).mono ?_
  rintro e w5 ⟨rfl, rfl⟩
  go_wp2_with fail
  go_ret2
  refine ⟨by rw [HT.out]; refine congrArg Ending.returned (congrArg (fun l : List UInt8 => Value.tuple #[.string ⟨l.toArray⟩, .int .i64 0]) ?_); simp [PMsg.bytes, txt], ?_⟩
  have hz2 := hb.size
  simp at hz2
  exact below_touch (below_alloc (below_trans (below_alloc (Below.refl _ _) _) hb) _) hSB.touch (by intro i hi e; omega)
set_option maxHeartbeats 2000000 in
set_option maxRecDepth 100000 in
theorem msgPut_3 (key too value : ByteArray) (h : PMsg.may ⟨3, key, too, value⟩ = true) (w : World) :
    Calls Tryz.prog 80 #[msgVal ⟨3, key, too, value⟩] w (Ret w (.tuple #[.string (PMsg.text ⟨3, key, too, value⟩), .int .i64 0])) := by
  obtain ⟨⟨hk, h0⟩, ht, hv, -⟩ := may_parts h
  simp only at hk h0 ht hv
  have HT := Aside.mk (show PMsg.text ⟨3, key, too, value⟩ = _ from if_pos h)
  have HM := Aside.mk h
  clear h
  simp only [msgVal]
  go_enter Tryz.func80, Tryz.ntmps80
  go_wp2_with fail
  refine (msgMay_c ⟨3, key, too, value⟩ (by simp only; omega) (by simp only; omega) (by simp only; omega) _).mono ?_
  rintro e w1 ⟨rfl, hb⟩
  rw [HM.out]
  have hB := below_keep hb (heap_new w (.cells #[.int .i64 3, .string key, .string too, .string value] 23))
  obtain ⟨⟨d0, d1, d2, d3⟩, g0, g1, g2, g3⟩ := four hB
  have hz1 : w.heap.size < w1.heap.size := heap_lt hB
  go_wp2_with fail
  have hS := WrS.new (heap_new w1 (.cells #[.slice none 0 0, .int .i64 0] 142))
  have hB' := heap_alloc hB (.cells #[.slice none 0 0, .int .i64 0] 142)
  clear d0 d1 d2 d3 g0 g1 g2 g3
  refine (wrsU8_c _ hS 3 (by decide) (by decide) (by simp)).mono ?_
  rintro e w2 ⟨rfl, hS2⟩
  obtain ⟨⟨d0, d1, d2, d3⟩, g0, g1, g2, g3⟩ := four (hS2.keep hB' (by omega))
  go_wp2_with fail
  refine (wrsText_c _ hS2 key (by omega) (by simp [numBytes_length])).mono ?_
  rintro e w3 ⟨rfl, hS3⟩
  clear d0 d1 d2 d3 g0 g1 g2 g3
  obtain ⟨⟨d0, d1, d2, d3⟩, g0, g1, g2, g3⟩ := four (hS3.keep hB' (by omega))
  go_wp2_with fail
  refine (wrsText_c _ hS3 (too) (by omega) (by simp [numBytes_length]; omega)).mono ?_
  rintro e w4 ⟨rfl, hSB⟩
  go_wp2_with fail
  refine (wrsBytes_c _ hSB).mono ?_
  rintro e w5 ⟨rfl, rfl⟩
  go_wp2_with fail
  go_ret2
  refine ⟨by rw [HT.out]; refine congrArg Ending.returned (congrArg (fun l : List UInt8 => Value.tuple #[.string ⟨l.toArray⟩, .int .i64 0]) ?_); simp [PMsg.bytes, txt], ?_⟩
  have hz2 := hb.size
  simp at hz2
  exact below_touch (below_alloc (below_trans (below_alloc (Below.refl _ _) _) hb) _) hSB.touch (by intro i hi e; omega)
set_option maxHeartbeats 2000000 in
set_option maxRecDepth 100000 in
theorem msgPut_4 (key too value : ByteArray) (h : PMsg.may ⟨4, key, too, value⟩ = true) (w : World) :
    Calls Tryz.prog 80 #[msgVal ⟨4, key, too, value⟩] w (Ret w (.tuple #[.string (PMsg.text ⟨4, key, too, value⟩), .int .i64 0])) := by
  obtain ⟨⟨hk, h0⟩, ht, hv, -⟩ := may_parts h
  simp only at hk h0 ht hv
  have HT := Aside.mk (show PMsg.text ⟨4, key, too, value⟩ = _ from if_pos h)
  have HM := Aside.mk h
  clear h
  simp only [msgVal]
  go_enter Tryz.func80, Tryz.ntmps80
  go_wp2_with fail
  refine (msgMay_c ⟨4, key, too, value⟩ (by simp only; omega) (by simp only; omega) (by simp only; omega) _).mono ?_
  rintro e w1 ⟨rfl, hb⟩
  rw [HM.out]
  have hB := below_keep hb (heap_new w (.cells #[.int .i64 4, .string key, .string too, .string value] 23))
  obtain ⟨⟨d0, d1, d2, d3⟩, g0, g1, g2, g3⟩ := four hB
  have hz1 : w.heap.size < w1.heap.size := heap_lt hB
  go_wp2_with fail
  have hS := WrS.new (heap_new w1 (.cells #[.slice none 0 0, .int .i64 0] 142))
  have hB' := heap_alloc hB (.cells #[.slice none 0 0, .int .i64 0] 142)
  clear d0 d1 d2 d3 g0 g1 g2 g3
  refine (wrsU8_c _ hS 4 (by decide) (by decide) (by simp)).mono ?_
  rintro e w2 ⟨rfl, hS2⟩
  obtain ⟨⟨d0, d1, d2, d3⟩, g0, g1, g2, g3⟩ := four (hS2.keep hB' (by omega))
  go_wp2_with fail
  refine (wrsText_c _ hS2 key (by omega) (by simp [numBytes_length])).mono ?_
  rintro e w3 ⟨rfl, hS3⟩
  clear d0 d1 d2 d3 g0 g1 g2 g3
  obtain ⟨⟨d0, d1, d2, d3⟩, g0, g1, g2, g3⟩ := four (hS3.keep hB' (by omega))
  go_wp2_with fail
  refine (wrsText_c _ hS3 (value) (by omega) (by simp [numBytes_length]; omega)).mono ?_
  rintro e w4 ⟨rfl, hSB⟩
  go_wp2_with fail
  refine (wrsBytes_c _ hSB).mono ?_
  rintro e w5 ⟨rfl, rfl⟩
  go_wp2_with fail
  go_ret2
  refine ⟨by rw [HT.out]; refine congrArg Ending.returned (congrArg (fun l : List UInt8 => Value.tuple #[.string ⟨l.toArray⟩, .int .i64 0]) ?_); simp [PMsg.bytes, txt], ?_⟩
  have hz2 := hb.size
  simp at hz2
  exact below_touch (below_alloc (below_trans (below_alloc (Below.refl _ _) _) hb) _) hSB.touch (by intro i hi e; omega)
set_option maxRecDepth 100000 in
theorem msgPut_no (m : PMsg) (hk : m.key.size < 4611686018427387904) (ht : m.til.size < 4611686018427387904) (hv : m.value.size < 4611686018427387904) (h : m.may = false) (w : World) :
    Calls Tryz.prog 80 #[msgVal m] w (Ret w (.tuple #[.string m.text, .int .i64 m.err])) := by
  obtain ⟨op, key, too, value⟩ := m
  have HT := Aside.mk (show PMsg.text ⟨op, key, too, value⟩ = ⟨#[]⟩ by unfold PMsg.text; rw [h]; rfl)
  have HE := Aside.mk (show PMsg.err ⟨op, key, too, value⟩ = 4 by unfold PMsg.err; rw [h]; rfl)
  have HM := Aside.mk h
  clear h
  simp only [msgVal]
  go_enter Tryz.func80, Tryz.ntmps80
  go_wp2_with fail
  refine (msgMay_c ⟨op, key, too, value⟩ hk ht hv _).mono ?_
  rintro e w1 ⟨rfl, hb⟩
  rw [HM.out]
  go_wp2_with fail
  all_goals (go_ret2; go_tidy)
  all_goals (refine Ret.mk' ?_ (by repeat (first | (with_reducible first | exact Below.refl _ _ | assumption | refine below_drewN ?_ _ | refine Below.drew ?_ | refine below_alloc ?_ _) | (with_reducible refine below_set ?_ ?side _; (case side => first | omega | (simp; omega) | (simp only [World.size_alloc]; omega))) | (with_reducible refine below_trans ?_ (by assumption)))); rw [HT.out, HE.out]; rfl)
theorem msgPut_c (m : PMsg) (hk : m.key.size < 4611686018427387904) (ht : m.til.size < 4611686018427387904) (hv : m.value.size < 4611686018427387904) (w : World) :
    Calls Tryz.prog 80 #[msgVal m] w (Ret w (.tuple #[.string m.text, .int .i64 m.err])) := by
  cases h : m.may
  · exact msgPut_no m hk ht hv h w
  · obtain ⟨-, -, -, ho⟩ := may_parts h
    have he : m.err = 0 := by unfold PMsg.err; rw [h]; rfl
    rw [he]
    obtain ⟨op, key, too, value⟩ := m
    simp only at ho
    rcases ho with rfl | rfl | rfl | rfl
    · exact msgPut_1 key too value h w
    · exact msgPut_2 key too value h w
    · exact msgPut_3 key too value h w
    · exact msgPut_4 key too value h w
set_option maxRecDepth 100000 in
theorem msgSize_c (m : PMsg) (hk : m.key.size < 4611686018427387904) (ht : m.til.size < 4611686018427387904) (hv : m.value.size < 4611686018427387904) (w : World) :
    Calls Tryz.prog 81 #[msgVal m] w (Ret w (.int .i64 m.text.size)) := by
  obtain ⟨op, key, too, value⟩ := m
  simp only [msgVal]
  go_enter Tryz.func81, Tryz.ntmps81
  go_wp2_with fail
  refine (msgPut_c ⟨op, key, too, value⟩ hk ht hv _).mono ?_
  rintro e w1 ⟨rfl, hb⟩
  go_wp2_with fail
  all_goals (go_ret; go_tidy)
  all_goals (refine Ret.mk' ?_ (by repeat (first | (with_reducible first | exact Below.refl _ _ | assumption | refine below_drewN ?_ _ | refine Below.drew ?_ | refine below_alloc ?_ _) | (with_reducible refine below_set ?_ ?side _; (case side => first | omega | (simp; omega) | (simp only [World.size_alloc]; omega))) | (with_reducible refine below_trans ?_ (by assumption)))); rfl)
end Go.Proofs.YtmggpfngbkbkmaaGreatDoor
