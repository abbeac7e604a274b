/- What package rillbedref09 does (2): Touches, Part. -/
import Derived.Test.YtmggpfngbkbkmaaGreatDoorRef09
namespace Go.Proofs.YtmggpfngbkbkmaaGreatDoor
open Go.RowKit
set_option linter.unusedVariables false
set_option linter.unusedSimpArgs false

set_option maxRecDepth 100000 in
theorem rTouches_c (m : PMsg) (hk : m.key.size < 4611686018427387904) (ht : m.to.size < 4611686018427387904) (hv : m.value.size < 4611686018427387904) (k : ByteArray) (w : World) :
    Calls Tryz.prog 49 #[msgVal m, .string k] w (Ret w (.bool (m.touches k))) := by
  obtain ⟨op, key, too, value⟩ := m
  cases hm : PMsg.may ⟨op, key, too, value⟩
  · have HT := Aside.mk (show PMsg.touches ⟨op, key, too, value⟩ k = false by unfold PMsg.touches; rw [hm]; rfl)
    have HM := Aside.mk hm
    clear hm
    simp only [msgVal]
    go_enter Tryz.func49, Tryz.ntmps49
    go_wp2_with fail
    refine (rMay_c ⟨op, key, too, value⟩ hk ht hv _).mono ?_
    rintro e w1 ⟨rfl, hb⟩
    rw [HM.out]
    go_wp2_with fail
    go_ret
    exact ⟨by rw [HT.out]; rfl, (by repeat (first | (with_reducible first | exact Below.refl _ _ | assumption | refine below_drewN ?_ _ | refine Below.drew ?_ | refine below_alloc ?_ _) | (with_reducible refine below_set ?_ ?side _; (case side => first | omega | (simp; omega) | (simp only [World.size_alloc]; omega))) | (with_reducible refine below_trans ?_ (by assumption))))⟩
  · have HT := Aside.mk (show PMsg.touches ⟨op, key, too, value⟩ k = PMsg.hits ⟨op, key, too, value⟩ k by unfold PMsg.touches; rw [hm]; rfl)
    have HM := Aside.mk hm
    clear hm
    simp only [msgVal]
    go_enter Tryz.func49, Tryz.ntmps49
    go_wp2_with fail
    refine (rMay_c ⟨op, key, too, value⟩ hk ht hv _).mono ?_
    rintro e w1 ⟨rfl, hb⟩
    rw [HM.out]
    have hM := below_keep hb (heap_new w (.cells #[.int .i64 op, .string key, .string too, .string value] 23))
    obtain ⟨⟨d0, d1, d2, d3⟩, g0, g1, g2, g3⟩ := four hM
    have hz1 : w.heap.size < w1.heap.size := heap_lt hM
    go_wp2_with fail
    all_goals (go_ret; go_tidy)
    all_goals (refine Ret.mk' ?_ (by repeat (first | (with_reducible first | exact Below.refl _ _ | assumption | refine below_drewN ?_ _ | refine Below.drew ?_ | refine below_alloc ?_ _) | (with_reducible refine below_set ?_ ?side _; (case side => first | omega | (simp; omega) | (simp only [World.size_alloc]; omega))) | (with_reducible refine below_trans ?_ (by assumption)))))
    all_goals (rw [HT.out]; clear d0 d1 d2 d3 g0 g1 g2 g3 hM hb HT HM; simp_all [PMsg.hits, less])
set_option maxRecDepth 100000 in
theorem rPart_no (m : PMsg) (hk : m.key.size < 4611686018427387904) (ht : m.to.size < 4611686018427387904) (hv : m.value.size < 4611686018427387904) (h : m.may = false) (fr tt : ByteArray) (w : World) :
    Calls Tryz.prog 62 #[msgVal m, .string fr, .string tt] w (Ret w (.tuple #[msgVal (m.part fr tt), .bool (m.lies fr tt)])) := by
  obtain ⟨op, key, too, value⟩ := m
  have HL := Aside.mk (show PMsg.lies ⟨op, key, too, value⟩ fr tt = false by unfold PMsg.lies; rw [h]; rfl)
  have HP := Aside.mk (show PMsg.part ⟨op, key, too, value⟩ fr tt = PMsg.zero by unfold PMsg.part; rw [HL.out]; rfl)
  have HM := Aside.mk h
  clear h
  simp only [msgVal]
  have hR := heap_alloc2 w (.cells #[.int .i64 op, .string key, .string too, .string value] 23) (.cells #[.int .i64 0, .string ⟨#[]⟩, .string ⟨#[]⟩, .string ⟨#[]⟩] 23)
  go_enter Tryz.func62, Tryz.ntmps62
  go_wp2_with fail
  refine (rMay_c ⟨op, key, too, value⟩ hk ht hv _).mono ?_
  rintro e w1 ⟨rfl, hb⟩
  rw [HM.out]
  have hR := below_keep hb hR
  obtain ⟨⟨r0, r1, r2, r3⟩, q0, q1, q2, q3⟩ := four hR
  have hz2 : w.heap.size + 1 < w1.heap.size := heap_lt hR
  go_wp2_with fail
  go_tidy
  refine bodyPost_ret (v := .tuple #[.agg #[.int .i64 0, .string ⟨#[]⟩, .string ⟨#[]⟩, .string ⟨#[]⟩], .bool false]) (by simp [results, Tryz.results62, go_sem, r0, r1, r2, r3, q0, q1, q2, q3, hz2]) rfl ⟨by rw [HL.out, HP.out]; rfl, ?_⟩
  (repeat (first | (with_reducible first | exact Below.refl _ _ | assumption | refine below_drewN ?_ _ | refine Below.drew ?_ | refine below_alloc ?_ _) | (with_reducible refine below_set ?_ ?side _; (case side => first | omega | (simp; omega) | (simp only [World.size_alloc]; omega))) | (with_reducible refine below_trans ?_ (by assumption))))
set_option maxHeartbeats 2000000 in
set_option maxRecDepth 100000 in
theorem rPart_o (op : Int) (ho : op ≠ 3) (key too value fr tt : ByteArray) (h : PMsg.may ⟨op, key, too, value⟩ = true) (w : World) :
    Calls Tryz.prog 62 #[msgVal ⟨op, key, too, value⟩, .string fr, .string tt] w (Ret w (.tuple #[msgVal (PMsg.part ⟨op, key, too, value⟩ fr tt), .bool (PMsg.lies ⟨op, key, too, value⟩ fr tt)])) := by
  obtain ⟨⟨hk, h0⟩, ht, hv, -⟩ := may_parts h
  simp only at hk h0 ht hv
  have HM := Aside.mk h
  have e3 : (op == 3) = false := beq_eq_false_iff_ne.2 ho
  have e4 : (op != 3) = true := bne_iff_ne.2 ho
  clear ho h
  simp only [msgVal]
  have hR := heap_alloc2 w (.cells #[.int .i64 op, .string key, .string too, .string value] 23) (.cells #[.int .i64 0, .string ⟨#[]⟩, .string ⟨#[]⟩, .string ⟨#[]⟩] 23)
  go_enter Tryz.func62, Tryz.ntmps62
  go_wp2_with fail
  refine (rMay_c ⟨op, key, too, value⟩ (by simp only; omega) (by simp only; omega) (by simp only; omega) _).mono ?_
  rintro e w1 ⟨rfl, hb⟩
  rw [HM.out]
  have hB := below_keep hb (heap_alloc (heap_new w (.cells #[.int .i64 op, .string key, .string too, .string value] 23)) _)
  have hR := below_keep hb hR
  obtain ⟨⟨d0, d1, d2, d3⟩, g0, g1, g2, g3⟩ := four hB
  obtain ⟨⟨r0, r1, r2, r3⟩, q0, q1, q2, q3⟩ := four hR
  have hz1 : w.heap.size < w1.heap.size := heap_lt hB
  have hz2 : w.heap.size + 1 < w1.heap.size := heap_lt hR
  go_wp2_with fail
  all_goals go_tidy
  all_goals first
    | (refine bodyPost_ret (v := .tuple #[.agg #[.int .i64 0, .string ⟨#[]⟩, .string ⟨#[]⟩, .string ⟨#[]⟩], .bool false]) ?_ rfl ⟨?_, ?_⟩; focus (simp [results, Tryz.results62, go_sem, r0, r1, r2, r3, q0, q1, q2, q3, hz1, hz2]; done))
    | (refine bodyPost_ret (v := .tuple #[.agg #[.int .i64 op, .string key, .string too, .string value], .bool true]) ?_ rfl ⟨?_, ?_⟩; focus (simp [results, Tryz.results62, go_sem, r0, r1, r2, r3, q0, q1, q2, q3, hz1, hz2]; done))
  all_goals try
    (refine congrArg Ending.returned ?_
     clear d0 d1 d2 d3 g0 g1 g2 g3 r0 r1 r2 r3 q0 q1 q2 q3 hz1 hz2 hB hR hb
     have HM' := HM.out
     clear HM
     simp_all [PMsg.part, PMsg.lies, PMsg.cut, PMsg.zero, emp, less, msgVal])
  all_goals (repeat (first | (with_reducible first | exact Below.refl _ _ | assumption | refine below_drewN ?_ _ | refine Below.drew ?_ | refine below_alloc ?_ _) | (with_reducible refine below_set ?_ ?side _; (case side => first | omega | (simp; omega) | (simp only [World.size_alloc]; omega))) | (with_reducible refine below_trans ?_ (by assumption))))
set_option maxHeartbeats 4000000 in
set_option maxRecDepth 100000 in
theorem rPart_3 (key too value fr tt : ByteArray) (h : PMsg.may ⟨3, key, too, value⟩ = true) (w : World) :
    Calls Tryz.prog 62 #[msgVal ⟨3, key, too, value⟩, .string fr, .string tt] w (Ret w (.tuple #[msgVal (PMsg.part ⟨3, key, too, value⟩ fr tt), .bool (PMsg.lies ⟨3, key, too, value⟩ fr tt)])) := by
  obtain ⟨⟨hk, h0⟩, ht, hv, -⟩ := may_parts h
  simp only at hk h0 ht hv
  have HM := Aside.mk h
  clear h
  simp only [msgVal]
  have hR := heap_alloc2 w (.cells #[.int .i64 3, .string key, .string too, .string value] 23) (.cells #[.int .i64 0, .string ⟨#[]⟩, .string ⟨#[]⟩, .string ⟨#[]⟩] 23)
  go_enter Tryz.func62, Tryz.ntmps62
  go_wp2_with fail
  refine (rMay_c ⟨3, key, too, value⟩ (by simp only; omega) (by simp only; omega) (by simp only; omega) _).mono ?_
  rintro e w1 ⟨rfl, hb⟩
  rw [HM.out]
  have hB := below_keep hb (heap_alloc (heap_new w (.cells #[.int .i64 3, .string key, .string too, .string value] 23)) _)
  have hR := below_keep hb hR
  obtain ⟨⟨d0, d1, d2, d3⟩, g0, g1, g2, g3⟩ := four hB
  obtain ⟨⟨r0, r1, r2, r3⟩, q0, q1, q2, q3⟩ := four hR
  have hz1 : w.heap.size < w1.heap.size := heap_lt hB
  have hz2 : w.heap.size + 1 < w1.heap.size := heap_lt hR
  go_wp2_with fail
  all_goals go_tidy
  all_goals first
    | (refine bodyPost_ret (v := .tuple #[.agg #[.int .i64 0, .string ⟨#[]⟩, .string ⟨#[]⟩, .string ⟨#[]⟩], .bool false]) ?_ rfl ⟨?_, ?_⟩; focus (simp [results, Tryz.results62, go_sem, r0, r1, r2, r3, q0, q1, q2, q3, hz1, hz2]; done))
    | (refine bodyPost_ret (v := .tuple #[.agg #[.int .i64 3, .string key, .string too, .string value], .bool true]) ?_ rfl ⟨?_, ?_⟩; focus (simp [results, Tryz.results62, go_sem, r0, r1, r2, r3, q0, q1, q2, q3, hz1, hz2]; done))
    | (refine bodyPost_ret (v := .tuple #[.agg #[.int .i64 3, .string key, .string tt, .string value], .bool true]) ?_ rfl ⟨?_, ?_⟩; focus (simp [results, Tryz.results62, go_sem, r0, r1, r2, r3, q0, q1, q2, q3, hz1, hz2]; done))
    | (refine bodyPost_ret (v := .tuple #[.agg #[.int .i64 3, .string fr, .string too, .string value], .bool true]) ?_ rfl ⟨?_, ?_⟩; focus (simp [results, Tryz.results62, go_sem, r0, r1, r2, r3, q0, q1, q2, q3, hz1, hz2]; done))
    | (refine bodyPost_ret (v := .tuple #[.agg #[.int .i64 3, .string fr, .string tt, .string value], .bool true]) ?_ rfl ⟨?_, ?_⟩; focus (simp [results, Tryz.results62, go_sem, r0, r1, r2, r3, q0, q1, q2, q3, hz1, hz2]; done))
  all_goals try
    (refine congrArg Ending.returned ?_
     clear d0 d1 d2 d3 g0 g1 g2 g3 r0 r1 r2 r3 q0 q1 q2 q3 hz1 hz2 hB hR hb
     have HM' := HM.out
     clear HM
     have G := bl_gt fr.toList key.toList
     cases hkf : Op.bytesLess key.toList fr.toList <;> cases htt : Op.bytesLess tt.toList too.toList <;> simp_all [PMsg.part, PMsg.lies, PMsg.cut, PMsg.zero, emp, less, msgVal, maxS_less, minS_less])
  all_goals (repeat (first | (with_reducible first | exact Below.refl _ _ | assumption | refine below_drewN ?_ _ | refine Below.drew ?_ | refine below_alloc ?_ _) | (with_reducible refine below_set ?_ ?side _; (case side => first | omega | (simp; omega) | (simp only [World.size_alloc]; omega))) | (with_reducible refine below_trans ?_ (by assumption))))
theorem rPart_c (m : PMsg) (hk : m.key.size < 4611686018427387904) (ht : m.to.size < 4611686018427387904) (hv : m.value.size < 4611686018427387904) (fr tt : ByteArray) (w : World) :
    Calls Tryz.prog 62 #[msgVal m, .string fr, .string tt] w (Ret w (.tuple #[msgVal (m.part fr tt), .bool (m.lies fr tt)])) := by
  cases h : m.may
  · exact rPart_no m hk ht hv h fr tt w
  · obtain ⟨op, key, too, value⟩ := m
    by_cases ho : op = 3
    · subst ho
      exact rPart_3 key too value fr tt h w
    · exact rPart_o op ho key too value fr tt h w
end Go.Proofs.YtmggpfngbkbkmaaGreatDoor
