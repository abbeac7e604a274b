/- What package rillbedref09 does (3): Apply. -/
import Derived.Test.YtmggpfngbkbkmaaGreatDoorRef09b
import Derived.Test.YtmggpfngbkbkmaaGreatDoorRef07c
import Derived.Test.YtmggpfngbkbkmaaGreatDoorRef07d
namespace Go.Proofs.YtmggpfngbkbkmaaGreatDoor
open Go.RowKit
set_option linter.unusedVariables false
set_option linter.unusedSimpArgs false

set_option maxHeartbeats 2000000 in
set_option maxRecDepth 100000 in
theorem r9_plain_true (op : Int) (h4 : op ≠ 4) (key too value : ByteArray) (hk : key.size < 4611686018427387904) (ht : too.size < 4611686018427387904) (hv : value.size < 4611686018427387904) (k v : ByteArray) (w : World) :
    Calls Tryz.prog 14 #[msgVal ⟨op, key, too, value⟩, .string k, .string v, .bool true] w (Ret w (.tuple #[.string (PMsg.makesS ⟨op, key, too, value⟩ k v true), .bool (PMsg.makesB ⟨op, key, too, value⟩ k v true)])) := by
  by_cases h1 : PMsg.touches ⟨op, key, too, value⟩ k = true
  · have e4 : (op == 4) = false := beq_eq_false_iff_ne.2 h4
    have e4' : (op != 4) = true := bne_iff_ne.2 h4
    by_cases h2 : op = 1
    · have HS := Aside.mk (show PMsg.makesS ⟨op, key, too, value⟩ k v true = value by unfold PMsg.makesS; rw [if_neg (by simp [h1]), if_pos h2])
      have HB := Aside.mk (show PMsg.makesB ⟨op, key, too, value⟩ k v true = true by unfold PMsg.makesB; rw [if_neg (by simp [h1]), if_pos h2])
      have e1 : (op == 1) = true := beq_iff_eq.2 h2
      have HT := Aside.mk h1
      clear h1 h2 h4
      simp only [msgVal]
      go_enter Tryz.func14, Tryz.ntmps14
      go_wp2_with fail
      refine (rTouches_c ⟨op, key, too, value⟩ hk ht hv k _).mono ?_
      rintro e w1 ⟨rfl, hb1⟩
      rw [HT.out]
      have hM := below_keep hb1 (heap_new w (.cells #[.int .i64 op, .string key, .string too, .string value] 23))
      obtain ⟨⟨d0, d1, d2, d3⟩, g0, g1, g2, g3⟩ := four hM
      have hz1 : w.heap.size < w1.heap.size := heap_lt hM
      go_wp2_with fail
      all_goals (go_ret2; go_tidy)
      all_goals (refine Ret.mk' ?_ (by repeat (first | (with_reducible first | exact Below.refl _ _ | assumption | refine below_drewN ?_ _ | refine Below.drew ?_ | refine below_alloc ?_ _) | (with_reducible refine below_set ?_ ?side _; (case side => first | omega | (simp; omega) | (simp only [World.size_alloc]; omega))) | (with_reducible refine below_trans ?_ (by assumption)))); rw [HS.out, HB.out]; rfl)
    · have HS := Aside.mk (show PMsg.makesS ⟨op, key, too, value⟩ k v true = ⟨#[]⟩ by unfold PMsg.makesS; rw [if_neg (by simp [h1]), if_neg h2, if_neg h4])
      have HB := Aside.mk (show PMsg.makesB ⟨op, key, too, value⟩ k v true = false by unfold PMsg.makesB; rw [if_neg (by simp [h1]), if_neg h2, if_neg h4])
      have e1 : (op == 1) = false := beq_eq_false_iff_ne.2 h2
      have HT := Aside.mk h1
      clear h1 h2 h4
      simp only [msgVal]
      go_enter Tryz.func14, Tryz.ntmps14
      go_wp2_with fail
      refine (rTouches_c ⟨op, key, too, value⟩ hk ht hv k _).mono ?_
      rintro e w1 ⟨rfl, hb1⟩
      rw [HT.out]
      have hM := below_keep hb1 (heap_new w (.cells #[.int .i64 op, .string key, .string too, .string value] 23))
      obtain ⟨⟨d0, d1, d2, d3⟩, g0, g1, g2, g3⟩ := four hM
      have hz1 : w.heap.size < w1.heap.size := heap_lt hM
      go_wp2_with fail
      all_goals (go_ret2; go_tidy)
      all_goals (refine Ret.mk' ?_ (by repeat (first | (with_reducible first | exact Below.refl _ _ | assumption | refine below_drewN ?_ _ | refine Below.drew ?_ | refine below_alloc ?_ _) | (with_reducible refine below_set ?_ ?side _; (case side => first | omega | (simp; omega) | (simp only [World.size_alloc]; omega))) | (with_reducible refine below_trans ?_ (by assumption)))); rw [HS.out, HB.out]; rfl)
  · have h1' : PMsg.touches ⟨op, key, too, value⟩ k = false := by simpa using h1
    have HS := Aside.mk (show PMsg.makesS ⟨op, key, too, value⟩ k v true = v by unfold PMsg.makesS; rw [if_pos h1']; rfl)
    have HB := Aside.mk (show PMsg.makesB ⟨op, key, too, value⟩ k v true = true by unfold PMsg.makesB; rw [if_pos h1'])
    have HT := Aside.mk h1'
    clear h1 h1' h4
    simp only [msgVal]
    go_enter Tryz.func14, Tryz.ntmps14
    go_wp2_with fail
    refine (rTouches_c ⟨op, key, too, value⟩ hk ht hv k _).mono ?_
    rintro e w1 ⟨rfl, hb1⟩
    rw [HT.out]
    have hM := below_keep hb1 (heap_new w (.cells #[.int .i64 op, .string key, .string too, .string value] 23))
    obtain ⟨⟨d0, d1, d2, d3⟩, g0, g1, g2, g3⟩ := four hM
    have hz1 : w.heap.size < w1.heap.size := heap_lt hM
    go_wp2_with fail
    all_goals (go_ret2; go_tidy)
    all_goals (refine Ret.mk' ?_ (by repeat (first | (with_reducible first | exact Below.refl _ _ | assumption | refine below_drewN ?_ _ | refine Below.drew ?_ | refine below_alloc ?_ _) | (with_reducible refine below_set ?_ ?side _; (case side => first | omega | (simp; omega) | (simp only [World.size_alloc]; omega))) | (with_reducible refine below_trans ?_ (by assumption)))); rw [HS.out, HB.out]; rfl)
set_option maxHeartbeats 2000000 in
set_option maxRecDepth 100000 in
theorem r9_not_true (op : Int) (key too value : ByteArray) (hk : key.size < 4611686018427387904) (ht : too.size < 4611686018427387904) (hv : value.size < 4611686018427387904) (k v : ByteArray) (h1' : PMsg.touches ⟨op, key, too, value⟩ k = false) (w : World) :
    Calls Tryz.prog 14 #[msgVal ⟨op, key, too, value⟩, .string k, .string v, .bool true] w (Ret w (.tuple #[.string (PMsg.makesS ⟨op, key, too, value⟩ k v true), .bool (PMsg.makesB ⟨op, key, too, value⟩ k v true)])) := by
    have HS := Aside.mk (show PMsg.makesS ⟨op, key, too, value⟩ k v true = v by unfold PMsg.makesS; rw [if_pos h1']; rfl)
    have HB := Aside.mk (show PMsg.makesB ⟨op, key, too, value⟩ k v true = true by unfold PMsg.makesB; rw [if_pos h1'])
    have HT := Aside.mk h1'
    clear h1'
    simp only [msgVal]
    go_enter Tryz.func14, Tryz.ntmps14
    go_wp2_with fail
    refine (rTouches_c ⟨op, key, too, value⟩ hk ht hv k _).mono ?_
    rintro e w1 ⟨rfl, hb1⟩
    rw [HT.out]
    have hM := below_keep hb1 (heap_new w (.cells #[.int .i64 op, .string key, .string too, .string value] 23))
    obtain ⟨⟨d0, d1, d2, d3⟩, g0, g1, g2, g3⟩ := four hM
    have hz1 : w.heap.size < w1.heap.size := heap_lt hM
    go_wp2_with fail
    all_goals (go_ret2; go_tidy)
    all_goals (refine Ret.mk' ?_ (by repeat (first | (with_reducible first | exact Below.refl _ _ | assumption | refine below_drewN ?_ _ | refine Below.drew ?_ | refine below_alloc ?_ _) | (with_reducible refine below_set ?_ ?side _; (case side => first | omega | (simp; omega) | (simp only [World.size_alloc]; omega))) | (with_reducible refine below_trans ?_ (by assumption)))); rw [HS.out, HB.out]; rfl)
set_option maxHeartbeats 2000000 in
set_option maxRecDepth 100000 in
theorem r9_d_true (op : Int) (h4 : op = 4) (key too value : ByteArray) (hk : key.size < 4611686018427387904) (ht : too.size < 4611686018427387904) (hv : value.size < 4611686018427387904) (k v : ByteArray) (hs : v.size < 4611686018427387904) (h0 : 0 < k.size) (hkk : k = key) (hx : (k[0]).toNat = 100) (h1 : PMsg.touches ⟨op, key, too, value⟩ k = true) (w : World) :
    Calls Tryz.prog 14 #[msgVal ⟨op, key, too, value⟩, .string k, .string v, .bool true] w (Ret w (.tuple #[.string (PMsg.makesS ⟨op, key, too, value⟩ k v true), .bool (PMsg.makesB ⟨op, key, too, value⟩ k v true)])) := by
  have h100 : first key = 100 := by rw [← hkk, first_of h0, hx]
  have hs0 : (ByteArray.mk #[]).size < 4611686018427387904 := by decide
  have HS := Aside.mk (show PMsg.makesS ⟨op, key, too, value⟩ k v true = blkApply v (patchV value) by unfold PMsg.makesS; rw [if_neg (by simp [h1]), if_neg (show ¬ op = 1 by omega), if_pos h4]; unfold patS; rw [if_pos h100]; rfl)
  have HB := Aside.mk (show PMsg.makesB ⟨op, key, too, value⟩ k v true = !emp (blkApply v (patchV value)) by unfold PMsg.makesB; rw [if_neg (by simp [h1]), if_neg (show ¬ op = 1 by omega), if_pos h4]; unfold patB; rw [if_pos h100]; rfl)
  have e1 : (op == 1) = false := by subst h4; rfl
  have e4 : (op == 4) = true := by subst h4; rfl
  have e4' : (op != 4) = false := by subst h4; rfl
  have e2 : (((k[0]).toNat : Int) == 100) = true := beq_iff_eq.2 (by omega)
  have hpi : (0 : Int) < (k.size : Int) := by omega
  have HP := Aside.mk (patchV_size value)
  have HT := Aside.mk h1
  clear h1 h4 hx hkk h100
  simp only [msgVal]
  go_enter Tryz.func14, Tryz.ntmps14
  go_wp2_with fail
  refine (rTouches_c ⟨op, key, too, value⟩ hk ht hv k _).mono ?_
  rintro e w1 ⟨rfl, hb1⟩
  rw [HT.out]
  have hM := below_keep hb1 (heap_new w (.cells #[.int .i64 op, .string key, .string too, .string value] 23))
  obtain ⟨⟨d0, d1, d2, d3⟩, g0, g1, g2, g3⟩ := four hM
  have hz1 : w.heap.size < w1.heap.size := heap_lt hM
  go_wp2_with fail
  refine (rpTake_c value hv _).mono ?_
  rintro e w2 ⟨rfl, hb2⟩
  unfold patchVal
  go_wp2_with fail
  refine (rpApply_c v (by assumption) (patchV value) HP.out _).mono ?_
  rintro e w3 ⟨rfl, hb3⟩
  go_wp2_with fail
  all_goals (go_ret2; go_tidy)
  all_goals (refine Ret.mk' ?_ (by repeat (first | (with_reducible first | exact Below.refl _ _ | assumption | refine below_drewN ?_ _ | refine Below.drew ?_ | refine below_alloc ?_ _) | (with_reducible refine below_set ?_ ?side _; (case side => first | omega | (simp; omega) | (simp only [World.size_alloc]; omega))) | (with_reducible refine below_trans ?_ (by assumption)))); rw [HS.out, HB.out]; rfl)
set_option maxHeartbeats 2000000 in
set_option maxRecDepth 100000 in
theorem r9_no_true (op : Int) (h4 : op = 4) (key too value : ByteArray) (hk : key.size < 4611686018427387904) (ht : too.size < 4611686018427387904) (hv : value.size < 4611686018427387904) (k v : ByteArray) (hs : v.size < 4611686018427387904) (h0 : 0 < k.size) (hkk : k = key) (hx : (k[0]).toNat ≠ 100) (hy : ¬ (true = true ∧ metaE v = 0)) (h1 : PMsg.touches ⟨op, key, too, value⟩ k = true) (w : World) :
    Calls Tryz.prog 14 #[msgVal ⟨op, key, too, value⟩, .string k, .string v, .bool true] w (Ret w (.tuple #[.string (PMsg.makesS ⟨op, key, too, value⟩ k v true), .bool (PMsg.makesB ⟨op, key, too, value⟩ k v true)])) := by
  have h100 : first key ≠ 100 := by rw [← hkk, first_of h0]; exact hx
  have hs0 : (ByteArray.mk #[]).size < 4611686018427387904 := by decide
  have HS := Aside.mk (show PMsg.makesS ⟨op, key, too, value⟩ k v true = v by unfold PMsg.makesS; rw [if_neg (by simp [h1]), if_neg (show ¬ op = 1 by omega), if_pos h4]; unfold patS; rw [if_neg h100]; exact if_neg hy)
  have HB := Aside.mk (show PMsg.makesB ⟨op, key, too, value⟩ k v true = true by unfold PMsg.makesB; rw [if_neg (by simp [h1]), if_neg (show ¬ op = 1 by omega), if_pos h4]; unfold patB; rw [if_neg h100]; exact if_neg hy)
  have e1 : (op == 1) = false := by subst h4; rfl
  have e4 : (op == 4) = true := by subst h4; rfl
  have e4' : (op != 4) = false := by subst h4; rfl
  have e2 : (((k[0]).toNat : Int) == 100) = false := beq_eq_false_iff_ne.2 (by omega)
  have hpi : (0 : Int) < (k.size : Int) := by omega
  have e3 : (metaE v != 0) = true := bne_iff_ne.2 fun h => hy ⟨rfl, h⟩
  have HT := Aside.mk h1
  clear h1 h4 hx hkk h100 hy
  simp only [msgVal]
  go_enter Tryz.func14, Tryz.ntmps14
  go_wp2_with fail
  refine (rTouches_c ⟨op, key, too, value⟩ hk ht hv k _).mono ?_
  rintro e w1 ⟨rfl, hb1⟩
  rw [HT.out]
  have hM := below_keep hb1 (heap_new w (.cells #[.int .i64 op, .string key, .string too, .string value] 23))
  obtain ⟨⟨d0, d1, d2, d3⟩, g0, g1, g2, g3⟩ := four hM
  have hz1 : w.heap.size < w1.heap.size := heap_lt hM
  go_wp2_with fail
  refine (rTake_c v (by assumption) _).mono ?_
  rintro e w2 ⟨rfl, hb2⟩
  unfold metaVal
  go_wp2_with fail
  all_goals (go_ret2; go_tidy)
  all_goals (refine Ret.mk' ?_ (by repeat (first | (with_reducible first | exact Below.refl _ _ | assumption | refine below_drewN ?_ _ | refine Below.drew ?_ | refine below_alloc ?_ _) | (with_reducible refine below_set ?_ ?side _; (case side => first | omega | (simp; omega) | (simp only [World.size_alloc]; omega))) | (with_reducible refine below_trans ?_ (by assumption)))); rw [HS.out, HB.out]; rfl)
set_option maxHeartbeats 2000000 in
set_option maxRecDepth 100000 in
theorem r9_plain_false (op : Int) (h4 : op ≠ 4) (key too value : ByteArray) (hk : key.size < 4611686018427387904) (ht : too.size < 4611686018427387904) (hv : value.size < 4611686018427387904) (k v : ByteArray) (w : World) :
    Calls Tryz.prog 14 #[msgVal ⟨op, key, too, value⟩, .string k, .string v, .bool false] w (Ret w (.tuple #[.string (PMsg.makesS ⟨op, key, too, value⟩ k v false), .bool (PMsg.makesB ⟨op, key, too, value⟩ k v false)])) := by
  by_cases h1 : PMsg.touches ⟨op, key, too, value⟩ k = true
  · have e4 : (op == 4) = false := beq_eq_false_iff_ne.2 h4
    have e4' : (op != 4) = true := bne_iff_ne.2 h4
    by_cases h2 : op = 1
    · have HS := Aside.mk (show PMsg.makesS ⟨op, key, too, value⟩ k v false = value by unfold PMsg.makesS; rw [if_neg (by simp [h1]), if_pos h2])
      have HB := Aside.mk (show PMsg.makesB ⟨op, key, too, value⟩ k v false = true by unfold PMsg.makesB; rw [if_neg (by simp [h1]), if_pos h2])
      have e1 : (op == 1) = true := beq_iff_eq.2 h2
      have HT := Aside.mk h1
      clear h1 h2 h4
      simp only [msgVal]
      go_enter Tryz.func14, Tryz.ntmps14
      go_wp2_with fail
      refine (rTouches_c ⟨op, key, too, value⟩ hk ht hv k _).mono ?_
      rintro e w1 ⟨rfl, hb1⟩
      rw [HT.out]
      have hM := below_keep hb1 (heap_new w (.cells #[.int .i64 op, .string key, .string too, .string value] 23))
      obtain ⟨⟨d0, d1, d2, d3⟩, g0, g1, g2, g3⟩ := four hM
      have hz1 : w.heap.size < w1.heap.size := heap_lt hM
      go_wp2_with fail
      all_goals (go_ret2; go_tidy)
      all_goals (refine Ret.mk' ?_ (by repeat (first | (with_reducible first | exact Below.refl _ _ | assumption | refine below_drewN ?_ _ | refine Below.drew ?_ | refine below_alloc ?_ _) | (with_reducible refine below_set ?_ ?side _; (case side => first | omega | (simp; omega) | (simp only [World.size_alloc]; omega))) | (with_reducible refine below_trans ?_ (by assumption)))); rw [HS.out, HB.out]; rfl)
    · have HS := Aside.mk (show PMsg.makesS ⟨op, key, too, value⟩ k v false = ⟨#[]⟩ by unfold PMsg.makesS; rw [if_neg (by simp [h1]), if_neg h2, if_neg h4])
      have HB := Aside.mk (show PMsg.makesB ⟨op, key, too, value⟩ k v false = false by unfold PMsg.makesB; rw [if_neg (by simp [h1]), if_neg h2, if_neg h4])
      have e1 : (op == 1) = false := beq_eq_false_iff_ne.2 h2
      have HT := Aside.mk h1
      clear h1 h2 h4
      simp only [msgVal]
      go_enter Tryz.func14, Tryz.ntmps14
      go_wp2_with fail
      refine (rTouches_c ⟨op, key, too, value⟩ hk ht hv k _).mono ?_
      rintro e w1 ⟨rfl, hb1⟩
      rw [HT.out]
      have hM := below_keep hb1 (heap_new w (.cells #[.int .i64 op, .string key, .string too, .string value] 23))
      obtain ⟨⟨d0, d1, d2, d3⟩, g0, g1, g2, g3⟩ := four hM
      have hz1 : w.heap.size < w1.heap.size := heap_lt hM
      go_wp2_with fail
      all_goals (go_ret2; go_tidy)
      all_goals (refine Ret.mk' ?_ (by repeat (first | (with_reducible first | exact Below.refl _ _ | assumption | refine below_drewN ?_ _ | refine Below.drew ?_ | refine below_alloc ?_ _) | (with_reducible refine below_set ?_ ?side _; (case side => first | omega | (simp; omega) | (simp only [World.size_alloc]; omega))) | (with_reducible refine below_trans ?_ (by assumption)))); rw [HS.out, HB.out]; rfl)
  · have h1' : PMsg.touches ⟨op, key, too, value⟩ k = false := by simpa using h1
    have HS := Aside.mk (show PMsg.makesS ⟨op, key, too, value⟩ k v false = ⟨#[]⟩ by unfold PMsg.makesS; rw [if_pos h1']; rfl)
    have HB := Aside.mk (show PMsg.makesB ⟨op, key, too, value⟩ k v false = false by unfold PMsg.makesB; rw [if_pos h1'])
    have HT := Aside.mk h1'
    clear h1 h1' h4
    simp only [msgVal]
    go_enter Tryz.func14, Tryz.ntmps14
    go_wp2_with fail
    refine (rTouches_c ⟨op, key, too, value⟩ hk ht hv k _).mono ?_
    rintro e w1 ⟨rfl, hb1⟩
    rw [HT.out]
    have hM := below_keep hb1 (heap_new w (.cells #[.int .i64 op, .string key, .string too, .string value] 23))
    obtain ⟨⟨d0, d1, d2, d3⟩, g0, g1, g2, g3⟩ := four hM
    have hz1 : w.heap.size < w1.heap.size := heap_lt hM
    go_wp2_with fail
    all_goals (go_ret2; go_tidy)
    all_goals (refine Ret.mk' ?_ (by repeat (first | (with_reducible first | exact Below.refl _ _ | assumption | refine below_drewN ?_ _ | refine Below.drew ?_ | refine below_alloc ?_ _) | (with_reducible refine below_set ?_ ?side _; (case side => first | omega | (simp; omega) | (simp only [World.size_alloc]; omega))) | (with_reducible refine below_trans ?_ (by assumption)))); rw [HS.out, HB.out]; rfl)
set_option maxHeartbeats 2000000 in
set_option maxRecDepth 100000 in
theorem r9_not_false (op : Int) (key too value : ByteArray) (hk : key.size < 4611686018427387904) (ht : too.size < 4611686018427387904) (hv : value.size < 4611686018427387904) (k v : ByteArray) (h1' : PMsg.touches ⟨op, key, too, value⟩ k = false) (w : World) :
    Calls Tryz.prog 14 #[msgVal ⟨op, key, too, value⟩, .string k, .string v, .bool false] w (Ret w (.tuple #[.string (PMsg.makesS ⟨op, key, too, value⟩ k v false), .bool (PMsg.makesB ⟨op, key, too, value⟩ k v false)])) := by
    have HS := Aside.mk (show PMsg.makesS ⟨op, key, too, value⟩ k v false = ⟨#[]⟩ by unfold PMsg.makesS; rw [if_pos h1']; rfl)
    have HB := Aside.mk (show PMsg.makesB ⟨op, key, too, value⟩ k v false = false by unfold PMsg.makesB; rw [if_pos h1'])
    have HT := Aside.mk h1'
    clear h1'
    simp only [msgVal]
    go_enter Tryz.func14, Tryz.ntmps14
    go_wp2_with fail
    refine (rTouches_c ⟨op, key, too, value⟩ hk ht hv k _).mono ?_
    rintro e w1 ⟨rfl, hb1⟩
    rw [HT.out]
    have hM := below_keep hb1 (heap_new w (.cells #[.int .i64 op, .string key, .string too, .string value] 23))
    obtain ⟨⟨d0, d1, d2, d3⟩, g0, g1, g2, g3⟩ := four hM
    have hz1 : w.heap.size < w1.heap.size := heap_lt hM
    go_wp2_with fail
    all_goals (go_ret2; go_tidy)
    all_goals (refine Ret.mk' ?_ (by repeat (first | (with_reducible first | exact Below.refl _ _ | assumption | refine below_drewN ?_ _ | refine Below.drew ?_ | refine below_alloc ?_ _) | (with_reducible refine below_set ?_ ?side _; (case side => first | omega | (simp; omega) | (simp only [World.size_alloc]; omega))) | (with_reducible refine below_trans ?_ (by assumption)))); rw [HS.out, HB.out]; rfl)
set_option maxHeartbeats 2000000 in
set_option maxRecDepth 100000 in
theorem r9_d_false (op : Int) (h4 : op = 4) (key too value : ByteArray) (hk : key.size < 4611686018427387904) (ht : too.size < 4611686018427387904) (hv : value.size < 4611686018427387904) (k v : ByteArray) (hs : v.size < 4611686018427387904) (h0 : 0 < k.size) (hkk : k = key) (hx : (k[0]).toNat = 100) (h1 : PMsg.touches ⟨op, key, too, value⟩ k = true) (w : World) :
    Calls Tryz.prog 14 #[msgVal ⟨op, key, too, value⟩, .string k, .string v, .bool false] w (Ret w (.tuple #[.string (PMsg.makesS ⟨op, key, too, value⟩ k v false), .bool (PMsg.makesB ⟨op, key, too, value⟩ k v false)])) := by
  have h100 : first key = 100 := by rw [← hkk, first_of h0, hx]
  have hs0 : (ByteArray.mk #[]).size < 4611686018427387904 := by decide
  have HS := Aside.mk (show PMsg.makesS ⟨op, key, too, value⟩ k v false = blkApply ⟨#[]⟩ (patchV value) by unfold PMsg.makesS; rw [if_neg (by simp [h1]), if_neg (show ¬ op = 1 by omega), if_pos h4]; unfold patS; rw [if_pos h100]; rfl)
  have HB := Aside.mk (show PMsg.makesB ⟨op, key, too, value⟩ k v false = !emp (blkApply ⟨#[]⟩ (patchV value)) by unfold PMsg.makesB; rw [if_neg (by simp [h1]), if_neg (show ¬ op = 1 by omega), if_pos h4]; unfold patB; rw [if_pos h100]; rfl)
  have e1 : (op == 1) = false := by subst h4; rfl
  have e4 : (op == 4) = true := by subst h4; rfl
  have e4' : (op != 4) = false := by subst h4; rfl
  have e2 : (((k[0]).toNat : Int) == 100) = true := beq_iff_eq.2 (by omega)
  have hpi : (0 : Int) < (k.size : Int) := by omega
  have HP := Aside.mk (patchV_size value)
  have HT := Aside.mk h1
  clear h1 h4 hx hkk h100
  simp only [msgVal]
  go_enter Tryz.func14, Tryz.ntmps14
  go_wp2_with fail
  refine (rTouches_c ⟨op, key, too, value⟩ hk ht hv k _).mono ?_
  rintro e w1 ⟨rfl, hb1⟩
  rw [HT.out]
  have hM := below_keep hb1 (heap_new w (.cells #[.int .i64 op, .string key, .string too, .string value] 23))
  obtain ⟨⟨d0, d1, d2, d3⟩, g0, g1, g2, g3⟩ := four hM
  have hz1 : w.heap.size < w1.heap.size := heap_lt hM
  go_wp2_with fail
  refine (rpTake_c value hv _).mono ?_
  rintro e w2 ⟨rfl, hb2⟩
  unfold patchVal
  go_wp2_with fail
  refine (rpApply_c ⟨#[]⟩ (by assumption) (patchV value) HP.out _).mono ?_
  rintro e w3 ⟨rfl, hb3⟩
  go_wp2_with fail
  all_goals (go_ret2; go_tidy)
  all_goals (refine Ret.mk' ?_ (by repeat (first | (with_reducible first | exact Below.refl _ _ | assumption | refine below_drewN ?_ _ | refine Below.drew ?_ | refine below_alloc ?_ _) | (with_reducible refine below_set ?_ ?side _; (case side => first | omega | (simp; omega) | (simp only [World.size_alloc]; omega))) | (with_reducible refine below_trans ?_ (by assumption)))); rw [HS.out, HB.out]; rfl)
set_option maxHeartbeats 2000000 in
set_option maxRecDepth 100000 in
theorem r9_no_false (op : Int) (h4 : op = 4) (key too value : ByteArray) (hk : key.size < 4611686018427387904) (ht : too.size < 4611686018427387904) (hv : value.size < 4611686018427387904) (k v : ByteArray) (hs : v.size < 4611686018427387904) (h0 : 0 < k.size) (hkk : k = key) (hx : (k[0]).toNat ≠ 100) (hy : ¬ (false = true ∧ metaE ⟨#[]⟩ = 0)) (h1 : PMsg.touches ⟨op, key, too, value⟩ k = true) (w : World) :
    Calls Tryz.prog 14 #[msgVal ⟨op, key, too, value⟩, .string k, .string v, .bool false] w (Ret w (.tuple #[.string (PMsg.makesS ⟨op, key, too, value⟩ k v false), .bool (PMsg.makesB ⟨op, key, too, value⟩ k v false)])) := by
  have h100 : first key ≠ 100 := by rw [← hkk, first_of h0]; exact hx
  have hs0 : (ByteArray.mk #[]).size < 4611686018427387904 := by decide
  have HS := Aside.mk (show PMsg.makesS ⟨op, key, too, value⟩ k v false = ⟨#[]⟩ by unfold PMsg.makesS; rw [if_neg (by simp [h1]), if_neg (show ¬ op = 1 by omega), if_pos h4]; unfold patS; rw [if_neg h100]; exact if_neg hy)
  have HB := Aside.mk (show PMsg.makesB ⟨op, key, too, value⟩ k v false = false by unfold PMsg.makesB; rw [if_neg (by simp [h1]), if_neg (show ¬ op = 1 by omega), if_pos h4]; unfold patB; rw [if_neg h100]; exact if_neg hy)
  have e1 : (op == 1) = false := by subst h4; rfl
  have e4 : (op == 4) = true := by subst h4; rfl
  have e4' : (op != 4) = false := by subst h4; rfl
  have e2 : (((k[0]).toNat : Int) == 100) = false := beq_eq_false_iff_ne.2 (by omega)
  have hpi : (0 : Int) < (k.size : Int) := by omega
  skip
  have HT := Aside.mk h1
  clear h1 h4 hx hkk h100 hy
  simp only [msgVal]
  go_enter Tryz.func14, Tryz.ntmps14
  go_wp2_with fail
  refine (rTouches_c ⟨op, key, too, value⟩ hk ht hv k _).mono ?_
  rintro e w1 ⟨rfl, hb1⟩
  rw [HT.out]
  have hM := below_keep hb1 (heap_new w (.cells #[.int .i64 op, .string key, .string too, .string value] 23))
  obtain ⟨⟨d0, d1, d2, d3⟩, g0, g1, g2, g3⟩ := four hM
  have hz1 : w.heap.size < w1.heap.size := heap_lt hM
  go_wp2_with fail
  refine (rTake_c ⟨#[]⟩ (by assumption) _).mono ?_
  rintro e w2 ⟨rfl, hb2⟩
  unfold metaVal
  go_wp2_with fail
  all_goals (go_ret2; go_tidy)
  all_goals (refine Ret.mk' ?_ (by repeat (first | (with_reducible first | exact Below.refl _ _ | assumption | refine below_drewN ?_ _ | refine Below.drew ?_ | refine below_alloc ?_ _) | (with_reducible refine below_set ?_ ?side _; (case side => first | omega | (simp; omega) | (simp only [World.size_alloc]; omega))) | (with_reducible refine below_trans ?_ (by assumption)))); rw [HS.out, HB.out]; rfl)
set_option maxHeartbeats 2000000 in
set_option maxRecDepth 100000 in
theorem r9_yes (op : Int) (h4 : op = 4) (key too value : ByteArray) (hk : key.size < 4611686018427387904) (ht : too.size < 4611686018427387904) (hv : value.size < 4611686018427387904) (k v : ByteArray) (hs : v.size < 4611686018427387904) (h0 : 0 < k.size) (hkk : k = key) (hx : (k[0]).toNat ≠ 100) (hy : metaE v = 0) (h1 : PMsg.touches ⟨op, key, too, value⟩ k = true) (w : World) :
    Calls Tryz.prog 14 #[msgVal ⟨op, key, too, value⟩, .string k, .string v, .bool true] w (Ret w (.tuple #[.string (PMsg.makesS ⟨op, key, too, value⟩ k v true), .bool (PMsg.makesB ⟨op, key, too, value⟩ k v true)])) := by
  have h100 : first key ≠ 100 := by rw [← hkk, first_of h0]; exact hx
  have HS := Aside.mk (show PMsg.makesS ⟨op, key, too, value⟩ k v true = ((metaV v).change (changeV value)).text by unfold PMsg.makesS; rw [if_neg (by simp [h1]), if_neg (show ¬ op = 1 by omega), if_pos h4]; unfold patS; rw [if_neg h100]; exact if_pos ⟨rfl, hy⟩)
  have HB := Aside.mk (show PMsg.makesB ⟨op, key, too, value⟩ k v true = true by unfold PMsg.makesB; rw [if_neg (by simp [h1]), if_neg (show ¬ op = 1 by omega), if_pos h4]; unfold patB; rw [if_neg h100]; exact if_pos ⟨rfl, hy⟩)
  have e1 : (op == 1) = false := by subst h4; rfl
  have e4 : (op == 4) = true := by subst h4; rfl
  have e4' : (op != 4) = false := by subst h4; rfl
  have e2 : (((k[0]).toNat : Int) == 100) = false := beq_eq_false_iff_ne.2 (by omega)
  have hpi : (0 : Int) < (k.size : Int) := by omega
  have HY := Aside.mk hy
  have HT := Aside.mk h1
  clear h1 h4 hx hkk h100 hy
  simp only [msgVal]
  go_enter Tryz.func14, Tryz.ntmps14
  go_wp2_with fail
  refine (rTouches_c ⟨op, key, too, value⟩ hk ht hv k _).mono ?_
  rintro e w1 ⟨rfl, hb1⟩
  rw [HT.out]
  have hM := below_keep hb1 (heap_new w (.cells #[.int .i64 op, .string key, .string too, .string value] 23))
  obtain ⟨⟨d0, d1, d2, d3⟩, g0, g1, g2, g3⟩ := four hM
  have hz1 : w.heap.size < w1.heap.size := heap_lt hM
  go_wp2_with fail
  refine (rTake_c v hs _).mono ?_
  rintro e w2 ⟨rfl, hb2⟩
  rw [HY.out]
  unfold metaVal
  have hM2 := below_keep hb2 hM
  clear d0 d1 d2 d3 g0 g1 g2 g3
  obtain ⟨⟨d0, d1, d2, d3⟩, g0, g1, g2, g3⟩ := four hM2
  have hz2 := hb2.size
  have hz3 : w.heap.size < w2.heap.size := heap_lt hM2
  go_wp2_with fail
  refine (rTakeChange_c value hv _).mono ?_
  rintro e w3 ⟨rfl, hb3⟩
  unfold changeVal
  have hA := below_keep hb3 (heap_new w2 (.cells #[.int .u8 (metaV v).kind, .int .u32 (metaV v).size, .int .u64 (metaV v).mark, .int .u64 (metaV v).stamp] 76))
  clear d0 d1 d2 d3 g0 g1 g2 g3
  obtain ⟨⟨d0, d1, d2, d3⟩, g0, g1, g2, g3⟩ := four hA
  have hz4 : w2.heap.size < w3.heap.size := heap_lt hA
  go_wp2_with fail
  refine (rApply_c (metaV v) (changeV value) (metaV_wf v) (changeV_wf value) _).mono ?_
  rintro e w4 ⟨rfl, hb4⟩
  unfold metaVal
  go_wp2_with fail
  refine (rPut_c _ (change_wf (metaV_wf v) (changeV_wf value)) _).mono ?_
  rintro e w5 ⟨rfl, hb5⟩
  go_wp2_with fail
  all_goals (go_ret2; go_tidy)
  all_goals (refine Ret.mk' ?_ (by repeat (first | (with_reducible first | exact Below.refl _ _ | assumption | refine below_drewN ?_ _ | refine Below.drew ?_ | refine below_alloc ?_ _) | (with_reducible refine below_set ?_ ?side _; (case side => first | omega | (simp; omega) | (simp only [World.size_alloc]; omega))) | (with_reducible refine below_trans ?_ (by assumption)))); rw [HS.out, HB.out]; rfl)
theorem hits_eq {op : Int} {key too value k : ByteArray} (h4 : op = 4) (h : PMsg.touches ⟨op, key, too, value⟩ k = true) : k = key := by
  unfold PMsg.touches PMsg.hits at h
  subst h4
  rw [Bool.and_eq_true] at h
  have := h.2
  rw [if_neg (show ¬ ((4 : Int) == 3) = true by decide)] at this
  exact tl_inj (beq_iff_eq.1 this)
theorem r9Apply_c (m : PMsg) (hk : m.key.size < 4611686018427387904) (ht : m.to.size < 4611686018427387904) (hv : m.value.size < 4611686018427387904) (k v : ByteArray) (hs : v.size < 4611686018427387904) (there : Bool) (w : World) :
    Calls Tryz.prog 14 #[msgVal m, .string k, .string v, .bool there] w (Ret w (.tuple #[.string (m.makesS k v there), .bool (m.makesB k v there)])) := by
  obtain ⟨op, key, too, value⟩ := m
  simp only at hk ht hv
  by_cases h4 : op = 4
  · cases h1 : PMsg.touches ⟨op, key, too, value⟩ k
    · cases there
      · exact r9_not_false op key too value hk ht hv k v h1 w
      · exact r9_not_true op key too value hk ht hv k v h1 w
    · have hkk := hits_eq h4 h1
      have h0 : 0 < k.size := by rw [hkk]; exact touches_key h1
      by_cases hx : (k[0]).toNat = 100
      · cases there
        · exact r9_d_false op h4 key too value hk ht hv k v hs h0 hkk hx h1 w
        · exact r9_d_true op h4 key too value hk ht hv k v hs h0 hkk hx h1 w
      · cases there
        · exact r9_no_false op h4 key too value hk ht hv k v hs h0 hkk hx (by simp) h1 w
        · by_cases hy : metaE v = 0
          · exact r9_yes op h4 key too value hk ht hv k v hs h0 hkk hx hy h1 w
          · exact r9_no_true op h4 key too value hk ht hv k v hs h0 hkk hx (by simpa using hy) h1 w
  · cases there
    · exact r9_plain_false op h4 key too value hk ht hv k v w
    · exact r9_plain_true op h4 key too value hk ht hv k v w
end Go.Proofs.YtmggpfngbkbkmaaGreatDoor
