/- What package message does (6): Apply. -/
import Derived.Test.YtmggpfngbkbkmaaGreatDoorMsg5
namespace Go.Proofs.YtmggpfngbkbkmaaGreatDoor
open Go.RowKit
set_option linter.unusedVariables false
set_option linter.unusedSimpArgs false

theorem touches_key {m : PMsg} {k : ByteArray} (h : m.touches k = true) : 0 < m.key.size := by
  unfold PMsg.touches PMsg.may keyOk at h
  rw [Bool.and_eq_true, Bool.and_eq_true, Bool.and_eq_true, decide_eq_true_eq] at h
  exact Nat.pos_of_ne_zero h.1.1.1
set_option maxHeartbeats 2000000 in
set_option maxRecDepth 100000 in
theorem msgApply_true (m : PMsg) (hk : m.key.size < 4611686018427387904) (ht : m.to.size < 4611686018427387904) (hv : m.value.size < 4611686018427387904) (k v : ByteArray) (hs : v.size < 4611686018427387904) (w : World) :
    Calls Tryz.prog 13 #[msgVal m, .string k, .string v, .bool true] w (Ret w (.tuple #[.string (m.makesS k v true), .bool (m.makesB k v true)])) := by
  obtain ⟨op, key, too, value⟩ := m
  simp only at hk ht hv
  have hs0 : (ByteArray.mk #[]).size < 4611686018427387904 := by decide
  by_cases h1 : PMsg.touches ⟨op, key, too, value⟩ k = true
  · have h0 := touches_key h1
    simp only at h0
    by_cases h2 : op = 1
    · have HS := Aside.mk (show PMsg.makesS ⟨op, key, too, value⟩ k v true = value by unfold PMsg.makesS; rw [if_neg (by simp [h1]), if_pos h2])
      have HB := Aside.mk (show PMsg.makesB ⟨op, key, too, value⟩ k v true = true by unfold PMsg.makesB; rw [if_neg (by simp [h1]), if_pos h2])
      have e1 : (op == 1) = true := beq_iff_eq.2 h2
      have HT := Aside.mk h1
      clear h1 h2
      simp only [msgVal]
      go_enter Tryz.func13, Tryz.ntmps13
      go_wp2_with fail
      refine (touches_c ⟨op, key, too, value⟩ hk ht hv k _).mono ?_
      rintro e w1 ⟨rfl, hb1⟩
      rw [HT.out]
      have hM := below_keep hb1 (heap_new w (.cells #[.int .i64 op, .string key, .string too, .string value] 23))
      obtain ⟨⟨d0, d1, d2, d3⟩, g0, g1, g2, g3⟩ := four hM
      have hz1 : w.heap.size < w1.heap.size := heap_lt hM
      go_wp2_with fail
      all_goals (go_ret2; go_tidy)
      all_goals (refine Ret.mk' ?_ (by repeat (first | (with_reducible first | exact Below.refl _ _ | assumption | refine below_drewN ?_ _ | refine Below.drew ?_ | refine below_alloc ?_ _) | (with_reducible refine below_set ?_ ?side _; (case side => first | omega | (simp; omega) | (simp only [World.size_alloc]; omega))) | (with_reducible refine below_trans ?_ (by assumption)))); rw [HS.out, HB.out]; rfl)
    · by_cases h4 : op = 4
      · have HS := Aside.mk (show PMsg.makesS ⟨op, key, too, value⟩ k v true = patS key value v true by unfold PMsg.makesS; rw [if_neg (by simp [h1]), if_neg h2, if_pos h4]; rfl)
        have HB := Aside.mk (show PMsg.makesB ⟨op, key, too, value⟩ k v true = patB key value v true by unfold PMsg.makesB; rw [if_neg (by simp [h1]), if_neg h2, if_pos h4]; rfl)
        have e1 : (op == 1) = false := beq_eq_false_iff_ne.2 h2
        have e4 : (op == 4) = true := beq_iff_eq.2 h4
        have HT := Aside.mk h1
        clear h1 h2 h4
        simp only [msgVal]
        go_enter Tryz.func13, Tryz.ntmps13
        go_wp2_with fail
        refine (touches_c ⟨op, key, too, value⟩ hk ht hv k _).mono ?_
        rintro e w1 ⟨rfl, hb1⟩
        rw [HT.out]
        have hM := below_keep hb1 (heap_new w (.cells #[.int .i64 op, .string key, .string too, .string value] 23))
        obtain ⟨⟨d0, d1, d2, d3⟩, g0, g1, g2, g3⟩ := four hM
        have hz1 : w.heap.size < w1.heap.size := heap_lt hM
        go_wp2_with fail
        refine (patched_c ⟨op, key, too, value⟩ v true hv (by assumption) h0 _).mono ?_
        rintro e w2 ⟨rfl, hb2⟩
        go_wp2_with fail
        all_goals (go_ret2; go_tidy)
        all_goals (refine Ret.mk' ?_ (by repeat (first | (with_reducible first | exact Below.refl _ _ | assumption | refine below_drewN ?_ _ | refine Below.drew ?_ | refine below_alloc ?_ _) | (with_reducible refine below_set ?_ ?side _; (case side => first | omega | (simp; omega) | (simp only [World.size_alloc]; omega))) | (with_reducible refine below_trans ?_ (by assumption)))); rw [HS.out, HB.out]; rfl)
      · have HS := Aside.mk (show PMsg.makesS ⟨op, key, too, value⟩ k v true = ⟨#[]⟩ by unfold PMsg.makesS; rw [if_neg (by simp [h1]), if_neg h2, if_neg h4])
        have HB := Aside.mk (show PMsg.makesB ⟨op, key, too, value⟩ k v true = false by unfold PMsg.makesB; rw [if_neg (by simp [h1]), if_neg h2, if_neg h4])
        have e1 : (op == 1) = false := beq_eq_false_iff_ne.2 h2
        have e4 : (op == 4) = false := beq_eq_false_iff_ne.2 h4
        have HT := Aside.mk h1
        clear h1 h2 h4
        simp only [msgVal]
        go_enter Tryz.func13, Tryz.ntmps13
        go_wp2_with fail
        refine (touches_c ⟨op, key, too, value⟩ hk ht hv k _).mono ?_
        rintro e w1 ⟨rfl, hb1⟩
        rw [HT.out]
        have hM := below_keep hb1 (heap_new w (.cells #[.int .i64 op, .string key, .string too, .string value] 23))
        obtain ⟨⟨d0, d1, d2, d3⟩, g0, g1, g2, g3⟩ := four hM
        have hz1 : w.heap.size < w1.heap.size := heap_lt hM
        go_wp2_with fail
        all_goals (go_ret2; go_tidy)
        all_goals (refine Ret.mk' ?_ (by repeat (first | (with_reducible first | exact Below.refl _ _ | assumption | refine below_drewN ?_ _ | refine Below.drew ?_ | refine below_alloc ?_ _) | (with_reducible refine below_set ?_ ?side _; (case side => first | omega | (simp; omega) | (simp only [World.size_alloc]; omega))) | (with_reducible refine below_trans ?_ (by assumption)))); rw [HS.out, HB.out]; rfl)
  · have h1' : PMsg.touches ⟨op, key, too, value⟩ k = false := by simpa using h1
    have HS := Aside.mk (show PMsg.makesS ⟨op, key, too, value⟩ k v true = v by unfold PMsg.makesS; rw [if_pos h1']; rfl)
    have HB := Aside.mk (show PMsg.makesB ⟨op, key, too, value⟩ k v true = true by unfold PMsg.makesB; rw [if_pos h1'])
    have HT := Aside.mk h1'
    clear h1 h1'
    simp only [msgVal]
    go_enter Tryz.func13, Tryz.ntmps13
    go_wp2_with fail
    refine (touches_c ⟨op, key, too, value⟩ hk ht hv k _).mono ?_
    rintro e w1 ⟨rfl, hb1⟩
    rw [HT.out]
    go_wp2_with fail
    all_goals (go_ret2; go_tidy)
    all_goals (refine Ret.mk' ?_ (by repeat (first | (with_reducible first | exact Below.refl _ _ | assumption | refine below_drewN ?_ _ | refine Below.drew ?_ | refine below_alloc ?_ _) | (with_reducible refine below_set ?_ ?side _; (case side => first | omega | (simp; omega) | (simp only [World.size_alloc]; omega))) | (with_reducible refine below_trans ?_ (by assumption)))); rw [HS.out, HB.out]; rfl)
set_option maxHeartbeats 2000000 in
set_option maxRecDepth 100000 in
theorem msgApply_false (m : PMsg) (hk : m.key.size < 4611686018427387904) (ht : m.to.size < 4611686018427387904) (hv : m.value.size < 4611686018427387904) (k v : ByteArray) (hs : v.size < 4611686018427387904) (w : World) :
    Calls Tryz.prog 13 #[msgVal m, .string k, .string v, .bool false] w (Ret w (.tuple #[.string (m.makesS k v false), .bool (m.makesB k v false)])) := by
  obtain ⟨op, key, too, value⟩ := m
  simp only at hk ht hv
  have hs0 : (ByteArray.mk #[]).size < 4611686018427387904 := by decide
  by_cases h1 : PMsg.touches ⟨op, key, too, value⟩ k = true
  · have h0 := touches_key h1
    simp only at h0
    by_cases h2 : op = 1
    · have HS := Aside.mk (show PMsg.makesS ⟨op, key, too, value⟩ k v false = value by unfold PMsg.makesS; rw [if_neg (by simp [h1]), if_pos h2])
      have HB := Aside.mk (show PMsg.makesB ⟨op, key, too, value⟩ k v false = true by unfold PMsg.makesB; rw [if_neg (by simp [h1]), if_pos h2])
      have e1 : (op == 1) = true := beq_iff_eq.2 h2
      have HT := Aside.mk h1
      clear h1 h2
      simp only [msgVal]
      go_enter Tryz.func13, Tryz.ntmps13
      go_wp2_with fail
      refine (touches_c ⟨op, key, too, value⟩ hk ht hv k _).mono ?_
      rintro e w1 ⟨rfl, hb1⟩
      rw [HT.out]
      have hM := below_keep hb1 (heap_new w (.cells #[.int .i64 op, .string key, .string too, .string value] 23))
      obtain ⟨⟨d0, d1, d2, d3⟩, g0, g1, g2, g3⟩ := four hM
      have hz1 : w.heap.size < w1.heap.size := heap_lt hM
      go_wp2_with fail
      all_goals (go_ret2; go_tidy)
      all_goals (refine Ret.mk' ?_ (by repeat (first | (with_reducible first | exact Below.refl _ _ | assumption | refine below_drewN ?_ _ | refine Below.drew ?_ | refine below_alloc ?_ _) | (with_reducible refine below_set ?_ ?side _; (case side => first | omega | (simp; omega) | (simp only [World.size_alloc]; omega))) | (with_reducible refine below_trans ?_ (by assumption)))); rw [HS.out, HB.out]; rfl)
    · by_cases h4 : op = 4
      · have HS := Aside.mk (show PMsg.makesS ⟨op, key, too, value⟩ k v false = patS key value ⟨#[]⟩ false by unfold PMsg.makesS; rw [if_neg (by simp [h1]), if_neg h2, if_pos h4]; rfl)
        have HB := Aside.mk (show PMsg.makesB ⟨op, key, too, value⟩ k v false = patB key value ⟨#[]⟩ false by unfold PMsg.makesB; rw [if_neg (by simp [h1]), if_neg h2, if_pos h4]; rfl)
        have e1 : (op == 1) = false := beq_eq_false_iff_ne.2 h2
        have e4 : (op == 4) = true := beq_iff_eq.2 h4
        have HT := Aside.mk h1
        clear h1 h2 h4
        simp only [msgVal]
        go_enter Tryz.func13, Tryz.ntmps13
        go_wp2_with fail
        refine (touches_c ⟨op, key, too, value⟩ hk ht hv k _).mono ?_
        rintro e w1 ⟨rfl, hb1⟩
        rw [HT.out]
        have hM := below_keep hb1 (heap_new w (.cells #[.int .i64 op, .string key, .string too, .string value] 23))
        obtain ⟨⟨d0, d1, d2, d3⟩, g0, g1, g2, g3⟩ := four hM
        have hz1 : w.heap.size < w1.heap.size := heap_lt hM
        go_wp2_with fail
        refine (patched_c ⟨op, key, too, value⟩ ⟨#[]⟩ false hv (by assumption) h0 _).mono ?_
        rintro e w2 ⟨rfl, hb2⟩
        go_wp2_with fail
        all_goals (go_ret2; go_tidy)
        all_goals (refine Ret.mk' ?_ (by repeat (first | (with_reducible first | exact Below.refl _ _ | assumption | refine below_drewN ?_ _ | refine Below.drew ?_ | refine below_alloc ?_ _) | (with_reducible refine below_set ?_ ?side _; (case side => first | omega | (simp; omega) | (simp only [World.size_alloc]; omega))) | (with_reducible refine below_trans ?_ (by assumption)))); rw [HS.out, HB.out]; rfl)
      · have HS := Aside.mk (show PMsg.makesS ⟨op, key, too, value⟩ k v false = ⟨#[]⟩ by unfold PMsg.makesS; rw [if_neg (by simp [h1]), if_neg h2, if_neg h4])
        have HB := Aside.mk (show PMsg.makesB ⟨op, key, too, value⟩ k v false = false by unfold PMsg.makesB; rw [if_neg (by simp [h1]), if_neg h2, if_neg h4])
        have e1 : (op == 1) = false := beq_eq_false_iff_ne.2 h2
        have e4 : (op == 4) = false := beq_eq_false_iff_ne.2 h4
        have HT := Aside.mk h1
        clear h1 h2 h4
        simp only [msgVal]
        go_enter Tryz.func13, Tryz.ntmps13
        go_wp2_with fail
        refine (touches_c ⟨op, key, too, value⟩ hk ht hv k _).mono ?_
        rintro e w1 ⟨rfl, hb1⟩
        rw [HT.out]
        have hM := below_keep hb1 (heap_new w (.cells #[.int .i64 op, .string key, .string too, .string value] 23))
        obtain ⟨⟨d0, d1, d2, d3⟩, g0, g1, g2, g3⟩ := four hM
        have hz1 : w.heap.size < w1.heap.size := heap_lt hM
        go_wp2_with fail
        all_goals (go_ret2; go_tidy)
        all_goals (refine Ret.mk' ?_ (by repeat (first | (with_reducible first | exact Below.refl _ _ | assumption | refine below_drewN ?_ _ | refine Below.drew ?_ | refine below_alloc ?_ _) | (with_reducible refine below_set ?_ ?side _; (case side => first | omega | (simp; omega) | (simp only [World.size_alloc]; omega))) | (with_reducible refine below_trans ?_ (by assumption)))); rw [HS.out, HB.out]; rfl)
  · have h1' : PMsg.touches ⟨op, key, too, value⟩ k = false := by simpa using h1
    have HS := Aside.mk (show PMsg.makesS ⟨op, key, too, value⟩ k v false = ⟨#[]⟩ by unfold PMsg.makesS; rw [if_pos h1']; rfl)
    have HB := Aside.mk (show PMsg.makesB ⟨op, key, too, value⟩ k v false = false by unfold PMsg.makesB; rw [if_pos h1'])
    have HT := Aside.mk h1'
    clear h1 h1'
    simp only [msgVal]
    go_enter Tryz.func13, Tryz.ntmps13
    go_wp2_with fail
    refine (touches_c ⟨op, key, too, value⟩ hk ht hv k _).mono ?_
    rintro e w1 ⟨rfl, hb1⟩
    rw [HT.out]
    go_wp2_with fail
    all_goals (go_ret2; go_tidy)
    all_goals (refine Ret.mk' ?_ (by repeat (first | (with_reducible first | exact Below.refl _ _ | assumption | refine below_drewN ?_ _ | refine Below.drew ?_ | refine below_alloc ?_ _) | (with_reducible refine below_set ?_ ?side _; (case side => first | omega | (simp; omega) | (simp only [World.size_alloc]; omega))) | (with_reducible refine below_trans ?_ (by assumption)))); rw [HS.out, HB.out]; rfl)
theorem msgApply_c (m : PMsg) (hk : m.key.size < 4611686018427387904) (ht : m.to.size < 4611686018427387904) (hv : m.value.size < 4611686018427387904) (k v : ByteArray) (hs : v.size < 4611686018427387904) (there : Bool) (w : World) :
    Calls Tryz.prog 13 #[msgVal m, .string k, .string v, .bool there] w (Ret w (.tuple #[.string (m.makesS k v there), .bool (m.makesB k v there)])) := by
  cases there
  · exact msgApply_false m hk ht hv k v hs w
  · exact msgApply_true m hk ht hv k v hs w
end Go.Proofs.YtmggpfngbkbkmaaGreatDoor
