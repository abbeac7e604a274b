/- What package message does (8): Part, Take of nothing. -/
import Derived.Test.YtmggpfngbkbkmaaGreatDoorR9
import Derived.Test.YtmggpfngbkbkmaaGreatDoorR10
namespace Go.Proofs.YtmggpfngbkbkmaaGreatDoor
open Go.RowKit
set_option linter.unusedVariables false
set_option linter.unusedSimpArgs false

theorem heap_alloc2 (w : World) (o o' : Obj) : ((w.alloc o).alloc o').heap[w.heap.size + 1]? = some o' := by
  have := heap_new (w.alloc o) o'
  simpa using this
set_option maxHeartbeats 2000000 in
set_option maxRecDepth 100000 in
theorem msgPart_3 (key too value fr tt : ByteArray) (h : PMsg.may ⟨3, key, too, value⟩ = true) (w : World) :
    Calls Tryz.prog 15 #[msgVal ⟨3, key, too, value⟩, .string fr, .string tt] w (Ret w (.tuple #[msgVal (PMsg.part ⟨3, key, too, value⟩ fr tt), .bool (PMsg.lies ⟨3, key, too, value⟩ fr tt)])) := by
  obtain ⟨⟨hk, h0⟩, ht, hv, -⟩ := may_parts h
  simp only at hk h0 ht hv
  have HM := Aside.mk h
  clear h
  have hmx : ∀ (w : World) (ts : Array TypeId) (t : TypeId) (x y : ByteArray), (Builtin.max_ ts t #[.string x, .string y]).run Tryz.prog w = .ok (.string (Lib.maxS x y)) w := Lib.run_max_strs
  have hmn : ∀ (w : World) (ts : Array TypeId) (t : TypeId) (x y : ByteArray), (Builtin.min_ ts t #[.string x, .string y]).run Tryz.prog w = .ok (.string (Lib.minS x y)) w := Lib.run_min_strs
  simp only [msgVal]
  have hR := heap_alloc2 w (.cells #[.int .i64 3, .string key, .string too, .string value] 23) (.cells #[.int .i64 0, .string ⟨#[]⟩, .string ⟨#[]⟩, .string ⟨#[]⟩] 23)
  go_enter Tryz.func15, Tryz.ntmps15
  go_wp2_with fail
  refine (msgMay_c ⟨3, key, too, value⟩ (by simp only; omega) (by simp only; omega) (by simp only; omega) _).mono ?_
  rintro e w1 ⟨rfl, hb⟩
  rw [HM.out]
  have hB := below_keep hb (heap_alloc (heap_new w (.cells #[.int .i64 3, .string key, .string too, .string value] 23)) _)
  have hR := below_keep hb hR
  obtain ⟨⟨d0, d1, d2, d3⟩, g0, g1, g2, g3⟩ := four hB
  obtain ⟨⟨r0, r1, r2, r3⟩, q0, q1, q2, q3⟩ := four hR
  have hz1 : w.heap.size < w1.heap.size := heap_lt hB
  have hz2 : w.heap.size + 1 < w1.heap.size := heap_lt hR
  go_wp2_with fail
  all_goals go_tidy
  all_goals first
    | (refine bodyPost_ret (v := .tuple #[.agg #[.int .i64 0, .string ⟨#[]⟩, .string ⟨#[]⟩, .string ⟨#[]⟩], .bool false]) ?_ rfl ⟨?_, ?_⟩; focus (simp [results, Tryz.results15, go_sem, r0, r1, r2, r3, q0, q1, q2, q3, hz1, hz2]; done))
    | (refine bodyPost_ret (v := .tuple #[.agg #[.int .i64 3, .string (Lib.maxS key fr), .string too, .string value], .bool true]) ?_ rfl ⟨?_, ?_⟩; focus (simp [results, Tryz.results15, go_sem, r0, r1, r2, r3, q0, q1, q2, q3, hz1, hz2]; done))
    | (refine bodyPost_ret (v := .tuple #[.agg #[.int .i64 3, .string (Lib.maxS key fr), .string (Lib.minS too tt), .string value], .bool true]) ?_ rfl ⟨?_, ?_⟩; focus (simp [results, Tryz.results15, go_sem, r0, r1, r2, r3, q0, q1, q2, q3, hz1, hz2]; done))
  all_goals try
    (refine congrArg Ending.returned ?_
     clear d0 d1 d2 d3 g0 g1 g2 g3 r0 r1 r2 r3 q0 q1 q2 q3 hz1 hz2 hB hR hb
     have HM' := HM.out
     clear HM
     simp_all [PMsg.part, PMsg.lies, PMsg.cut, PMsg.zero, emp, less, msgVal])
  all_goals (repeat (first | (with_reducible first | exact Below.refl _ _ | assumption | refine below_drewN ?_ _ | refine Below.drew ?_ | refine below_alloc ?_ _) | (with_reducible refine below_set ?_ ?side _; (case side => first | omega | (simp; omega) | (simp only [World.size_alloc]; omega))) | (with_reducible refine below_trans ?_ (by assumption))))
set_option maxHeartbeats 2000000 in
set_option maxRecDepth 100000 in
theorem msgPart_o (op : Int) (ho : op ≠ 3) (key too value fr tt : ByteArray) (h : PMsg.may ⟨op, key, too, value⟩ = true) (w : World) :
    Calls Tryz.prog 15 #[msgVal ⟨op, key, too, value⟩, .string fr, .string tt] w (Ret w (.tuple #[msgVal (PMsg.part ⟨op, key, too, value⟩ fr tt), .bool (PMsg.lies ⟨op, key, too, value⟩ fr tt)])) := by
  obtain ⟨⟨hk, h0⟩, ht, hv, -⟩ := may_parts h
  simp only at hk h0 ht hv
  have HM := Aside.mk h
  have e3 : (op == 3) = false := beq_eq_false_iff_ne.2 ho
  clear ho
  clear h
  skip
  have hmx : ∀ (w : World) (ts : Array TypeId) (t : TypeId) (x y : ByteArray), (Builtin.max_ ts t #[.string x, .string y]).run Tryz.prog w = .ok (.string (Lib.maxS x y)) w := Lib.run_max_strs
  have hmn : ∀ (w : World) (ts : Array TypeId) (t : TypeId) (x y : ByteArray), (Builtin.min_ ts t #[.string x, .string y]).run Tryz.prog w = .ok (.string (Lib.minS x y)) w := Lib.run_min_strs
  simp only [msgVal]
  have hR := heap_alloc2 w (.cells #[.int .i64 op, .string key, .string too, .string value] 23) (.cells #[.int .i64 0, .string ⟨#[]⟩, .string ⟨#[]⟩, .string ⟨#[]⟩] 23)
  go_enter Tryz.func15, Tryz.ntmps15
  go_wp2_with fail
  refine (msgMay_c ⟨op, key, too, value⟩ (by simp only; omega) (by simp only; omega) (by simp only; omega) _).mono ?_
  rintro e w1 ⟨rfl, hb⟩
  rw [HM.out]
  have hB := below_keep hb (heap_alloc (heap_new w (.cells #[.int .i64 op, .string key, .string too, .string value] 23)) _)
  have hR := below_keep hb hR
  obtain ⟨⟨d0, d1, d2, d3⟩, g0, g1, g2, g3⟩ := four hB
  obtain ⟨⟨r0, r1, r2, r3⟩, q0, q1, q2, q3⟩ := four hR
  have hz1 : w.heap.size < w1.heap.size := heap_lt hB
  have hz2 : w.heap.size + 1 < w1.heap.size := heap_lt hR
  go_wp2_with fail
  all_goals go_tidy
  all_goals first
    | (refine bodyPost_ret (v := .tuple #[.agg #[.int .i64 0, .string ⟨#[]⟩, .string ⟨#[]⟩, .string ⟨#[]⟩], .bool false]) ?_ rfl ⟨?_, ?_⟩; focus (simp [results, Tryz.results15, go_sem, r0, r1, r2, r3, q0, q1, q2, q3, hz1, hz2]; done))
    | (refine bodyPost_ret (v := .tuple #[.agg #[.int .i64 op, .string key, .string too, .string value], .bool true]) ?_ rfl ⟨?_, ?_⟩; focus (simp [results, Tryz.results15, go_sem, r0, r1, r2, r3, q0, q1, q2, q3, hz1, hz2]; done))
  all_goals try
    (refine congrArg Ending.returned ?_
     clear d0 d1 d2 d3 g0 g1 g2 g3 r0 r1 r2 r3 q0 q1 q2 q3 hz1 hz2 hB hR hb
     have HM' := HM.out
     clear HM
     simp_all [PMsg.part, PMsg.lies, PMsg.cut, PMsg.zero, emp, less, msgVal])
  all_goals (repeat (first | (with_reducible first | exact Below.refl _ _ | assumption | refine below_drewN ?_ _ | refine Below.drew ?_ | refine below_alloc ?_ _) | (with_reducible refine below_set ?_ ?side _; (case side => first | omega | (simp; omega) | (simp only [World.size_alloc]; omega))) | (with_reducible refine below_trans ?_ (by assumption))))
set_option maxHeartbeats 2000000 in
set_option maxRecDepth 100000 in
theorem msgPart_no (m : PMsg) (hk : m.key.size < 4611686018427387904) (ht : m.til.size < 4611686018427387904) (hv : m.value.size < 4611686018427387904) (h : m.may = false) (fr tt : ByteArray) (w : World) :
    Calls Tryz.prog 15 #[msgVal m, .string fr, .string tt] w (Ret w (.tuple #[msgVal (m.part fr tt), .bool (m.lies fr tt)])) := by
  obtain ⟨op, key, too, value⟩ := m
  have HL := Aside.mk (show PMsg.lies ⟨op, key, too, value⟩ fr tt = false by unfold PMsg.lies; rw [h]; rfl)
  have HP := Aside.mk (show PMsg.part ⟨op, key, too, value⟩ fr tt = PMsg.zero by unfold PMsg.part; rw [HL.out]; rfl)
  have HM := Aside.mk h
  clear h
  simp only [msgVal]
  have hR := heap_alloc2 w (.cells #[.int .i64 op, .string key, .string too, .string value] 23) (.cells #[.int .i64 0, .string ⟨#[]⟩, .string ⟨#[]⟩, .string ⟨#[]⟩] 23)
  go_enter Tryz.func15, Tryz.ntmps15
  go_wp2_with fail
  refine (msgMay_c ⟨op, key, too, value⟩ hk ht hv _).mono ?_
  rintro e w1 ⟨rfl, hb⟩
  rw [HM.out]
  have hR := below_keep hb hR
  obtain ⟨⟨r0, r1, r2, r3⟩, q0, q1, q2, q3⟩ := four hR
  have hz2 : w.heap.size + 1 < w1.heap.size := heap_lt hR
  go_wp2_with fail
  go_tidy
  refine bodyPost_ret (v := .tuple #[.agg #[.int .i64 0, .string ⟨#[]⟩, .string ⟨#[]⟩, .string ⟨#[]⟩], .bool false]) (by simp [results, Tryz.results15, go_sem, r0, r1, r2, r3, q0, q1, q2, q3, hz2]) rfl ⟨by rw [HL.out, HP.out]; rfl, ?_⟩
  (repeat (first | (with_reducible first | exact Below.refl _ _ | assumption | refine below_drewN ?_ _ | refine Below.drew ?_ | refine below_alloc ?_ _) | (with_reducible refine below_set ?_ ?side _; (case side => first | omega | (simp; omega) | (simp only [World.size_alloc]; omega))) | (with_reducible refine below_trans ?_ (by assumption))))
theorem msgPart_c (m : PMsg) (hk : m.key.size < 4611686018427387904) (ht : m.til.size < 4611686018427387904) (hv : m.value.size < 4611686018427387904) (fr tt : ByteArray) (w : World) :
    Calls Tryz.prog 15 #[msgVal m, .string fr, .string tt] w (Ret w (.tuple #[msgVal (m.part fr tt), .bool (m.lies fr tt)])) := by
  cases h : m.may
  · exact msgPart_no m hk ht hv h fr tt w
  · obtain ⟨op, key, too, value⟩ := m
    by_cases ho : op = 3
    · subst ho
      exact msgPart_3 key too value fr tt h w
    · exact msgPart_o op ho key too value fr tt h w
set_option maxRecDepth 100000 in
theorem msgTake_nil (w : World) :
    Calls Tryz.prog 82 #[.string ⟨#[]⟩] w (Ret w (.tuple #[msgVal PMsg.zero, .int .i64 10])) := by
  have hR := heap_new w (.cells #[.int .i64 0, .string ⟨#[]⟩, .string ⟨#[]⟩, .string ⟨#[]⟩] 23)
  obtain ⟨⟨r0, r1, r2, r3⟩, q0, q1, q2, q3⟩ := four hR
  go_enter Tryz.func82, Tryz.ntmps82
  go_wp2_with fail
  go_tidy
  refine bodyPost_ret (v := .tuple #[.agg #[.int .i64 0, .string ⟨#[]⟩, .string ⟨#[]⟩, .string ⟨#[]⟩], .int .i64 10]) (by simp [results, Tryz.results82, go_sem, r0, r1, r2, r3, q0, q1, q2, q3]) rfl ⟨rfl, ?_⟩
  (repeat (first | (with_reducible first | exact Below.refl _ _ | assumption | refine below_drewN ?_ _ | refine Below.drew ?_ | refine below_alloc ?_ _) | (with_reducible refine below_set ?_ ?side _; (case side => first | omega | (simp; omega) | (simp only [World.size_alloc]; omega))) | (with_reducible refine below_trans ?_ (by assumption))))
end Go.Proofs.YtmggpfngbkbkmaaGreatDoor
/- What package rillbedlaw09 does (1): few, awake. -/
namespace Go.Proofs.YtmggpfngbkbkmaaGreatDoor
open Go.RowKit
set_option linter.unusedVariables false
set_option linter.unusedSimpArgs false

def PMsg.few (n : Int) (m : PMsg) : Bool := decide ((m.key.size : Int) ≤ n) && decide ((m.til.size : Int) ≤ n) && decide ((m.value.size : Int) ≤ n)
theorem few9_c (m : PMsg) (w : World) :
    Calls Tryz.prog 11 #[msgVal m] w (Ret w (.bool (m.few 1000))) := by
  obtain ⟨op, key, too, value⟩ := m
  simp only [msgVal]
  go_enter Tryz.func11, Tryz.ntmps11
  go_wp2_with fail
  all_goals (go_ret; go_tidy)
  all_goals (refine Ret.mk' ?_ (by repeat (first | (with_reducible first | exact Below.refl _ _ | assumption | refine below_drewN ?_ _ | refine Below.drew ?_ | refine below_alloc ?_ _) | (with_reducible refine below_set ?_ ?side _; (case side => first | omega | (simp; omega) | (simp only [World.size_alloc]; omega))) | (with_reducible refine below_trans ?_ (by assumption)))); simp_all [PMsg.few] <;> omega)
theorem put9_c (k v : ByteArray) (w : World) :
    Calls Tryz.prog 43 #[.string k, .string v] w (Ret w (msgVal ⟨1, k, ⟨#[]⟩, v⟩)) := by
  go_enter Tryz.func43, Tryz.ntmps43
  go_wp2_with fail
  all_goals go_tidy
  refine bodyPost_ret (v := .agg #[.int .i64 1, .string k, .string ⟨#[]⟩, .string v]) (by simp [results, Tryz.results43, go_sem]) rfl ⟨rfl, ?_⟩
  (repeat (first | (with_reducible first | exact Below.refl _ _ | assumption | refine below_drewN ?_ _ | refine Below.drew ?_ | refine below_alloc ?_ _) | (with_reducible refine below_set ?_ ?side _; (case side => first | omega | (simp; omega) | (simp only [World.size_alloc]; omega))) | (with_reducible refine below_trans ?_ (by assumption))))
theorem sweep9_c (k v : ByteArray) (w : World) :
    Calls Tryz.prog 45 #[.string k, .string v] w (Ret w (msgVal ⟨3, k, v, ⟨#[]⟩⟩)) := by
  go_enter Tryz.func45, Tryz.ntmps45
  go_wp2_with fail
  all_goals go_tidy
  refine bodyPost_ret (v := .agg #[.int .i64 3, .string k, .string v, .string ⟨#[]⟩]) (by simp [results, Tryz.results45, go_sem]) rfl ⟨rfl, ?_⟩
  (repeat (first | (with_reducible first | exact Below.refl _ _ | assumption | refine below_drewN ?_ _ | refine Below.drew ?_ | refine below_alloc ?_ _) | (with_reducible refine below_set ?_ ?side _; (case side => first | omega | (simp; omega) | (simp only [World.size_alloc]; omega))) | (with_reducible refine below_trans ?_ (by assumption))))
set_option maxRecDepth 100000 in
theorem text9_c (m : PMsg) (hm : m.may = true) (t : ByteArray) (ht : m.text = t) (w : World) :
    Calls Tryz.prog 42 #[msgVal m, .string t] w (Ret w (.bool true)) := by
  obtain ⟨⟨hk, h0⟩, hto, hv, -⟩ := may_parts hm
  have HT := Aside.mk ht
  have HE := Aside.mk (show m.err = 0 by unfold PMsg.err; rw [hm]; rfl)
  clear hm ht
  obtain ⟨op, key, too, value⟩ := m
  simp only at hk hto hv h0
  simp only [msgVal]
  go_enter Tryz.func42, Tryz.ntmps42
  go_wp2_with fail
  refine (msgPut_c ⟨op, key, too, value⟩ (by simp only; omega) (by simp only; omega) (by simp only; omega) _).mono ?_
  rintro e w1 ⟨rfl, hb⟩
  rw [HT.out, HE.out]
  have hB := below_keep hb (heap_new w (.cells #[.int .i64 op, .string key, .string too, .string value] 23))
  obtain ⟨⟨d0, d1, d2, d3⟩, g0, g1, g2, g3⟩ := four hB
  have hz1 : w.heap.size < w1.heap.size := heap_lt hB
  go_wp2_with fail
  refine (msgSize_c ⟨op, key, too, value⟩ (by simp only; omega) (by simp only; omega) (by simp only; omega) _).mono ?_
  rintro e w2 ⟨rfl, hb2⟩
  rw [HT.out]
  go_wp2_with fail
  go_ret
  exact Ret.mk' (by first | rfl | simp) (by repeat (first | (with_reducible first | exact Below.refl _ _ | assumption | refine below_drewN ?_ _ | refine Below.drew ?_ | refine below_alloc ?_ _) | (with_reducible refine below_set ?_ ?side _; (case side => first | omega | (simp; omega) | (simp only [World.size_alloc]; omega))) | (with_reducible refine below_trans ?_ (by assumption))))
set_option maxRecDepth 100000 in
theorem none9_c (m : PMsg) (hk : m.key.size < 4611686018427387904) (ht : m.til.size < 4611686018427387904) (hv : m.value.size < 4611686018427387904) (hm : m.may = false) (w : World) :
    Calls Tryz.prog 44 #[msgVal m] w (Ret w (.bool true)) := by
  have HT := Aside.mk (show m.text = ⟨#[]⟩ by unfold PMsg.text; rw [hm]; rfl)
  have HE := Aside.mk (show m.err = 4 by unfold PMsg.err; rw [hm]; rfl)
  clear hm
  obtain ⟨op, key, too, value⟩ := m
  simp only [msgVal] at hk ht hv ⊢
  go_enter Tryz.func44, Tryz.ntmps44
  go_wp2_with fail
  refine (msgCheck_c ⟨op, key, too, value⟩ hk ht hv _).mono ?_
  rintro e w1 ⟨rfl, hb⟩
  rw [HE.out]
  have hB := below_keep hb (heap_new w (.cells #[.int .i64 op, .string key, .string too, .string value] 23))
  obtain ⟨⟨d0, d1, d2, d3⟩, g0, g1, g2, g3⟩ := four hB
  have hz1 : w.heap.size < w1.heap.size := heap_lt hB
  go_wp2_with fail
  refine (msgSize_c ⟨op, key, too, value⟩ hk ht hv _).mono ?_
  rintro e w2 ⟨rfl, hb2⟩
  rw [HT.out]
  go_wp2_with fail
  go_ret
  exact Ret.mk' (by first | rfl | simp) (by repeat (first | (with_reducible first | exact Below.refl _ _ | assumption | refine below_drewN ?_ _ | refine Below.drew ?_ | refine below_alloc ?_ _) | (with_reducible refine below_set ?_ ?side _; (case side => first | omega | (simp; omega) | (simp only [World.size_alloc]; omega))) | (with_reducible refine below_trans ?_ (by assumption))))
set_option maxRecDepth 100000 in
theorem fails9_c (w : World) :
    Calls Tryz.prog 46 #[.string ⟨#[]⟩, .int .i64 10] w (Ret w (.bool true)) := by
  go_enter Tryz.func46, Tryz.ntmps46
  go_wp2_with fail
  refine (msgTake_nil _).mono ?_
  rintro e w1 ⟨rfl, hb⟩
  unfold msgVal PMsg.zero
  go_wp2_with fail
  go_ret
  exact Ret.mk' (by first | rfl | simp) (by repeat (first | (with_reducible first | exact Below.refl _ _ | assumption | refine below_drewN ?_ _ | refine Below.drew ?_ | refine below_alloc ?_ _) | (with_reducible refine below_set ?_ ?side _; (case side => first | omega | (simp; omega) | (simp only [World.size_alloc]; omega))) | (with_reducible refine below_trans ?_ (by assumption))))
set_option maxRecDepth 100000 in
theorem makes9_true (m : PMsg) (hk : m.key.size < 4611686018427387904) (ht : m.til.size < 4611686018427387904) (hv : m.value.size < 4611686018427387904) (k v : ByteArray) (hs : v.size < 4611686018427387904) (there : Bool) (s : ByteArray) (h1 : m.makesS k v there = s) (h2 : m.makesB k v there = true) (w : World) :
    Calls Tryz.prog 47 #[msgVal m, .string k, .string v, .bool there] w (Ret w (.string (s))) := by
  have H1 := Aside.mk h1
  have H2 := Aside.mk h2
  clear h1 h2
  obtain ⟨op, key, too, value⟩ := m
  simp only [msgVal] at hk ht hv ⊢
  go_enter Tryz.func47, Tryz.ntmps47
  go_wp2_with fail
  refine (msgApply_c ⟨op, key, too, value⟩ hk ht hv k v hs there _).mono ?_
  rintro e w1 ⟨rfl, hb⟩
  rw [H1.out, H2.out]
  go_wp2_with fail
  go_ret
  exact Ret.mk' (by first | rfl | simp) (by repeat (first | (with_reducible first | exact Below.refl _ _ | assumption | refine below_drewN ?_ _ | refine Below.drew ?_ | refine below_alloc ?_ _) | (with_reducible refine below_set ?_ ?side _; (case side => first | omega | (simp; omega) | (simp only [World.size_alloc]; omega))) | (with_reducible refine below_trans ?_ (by assumption))))
set_option maxRecDepth 100000 in
theorem makes9_false (m : PMsg) (hk : m.key.size < 4611686018427387904) (ht : m.til.size < 4611686018427387904) (hv : m.value.size < 4611686018427387904) (k v : ByteArray) (hs : v.size < 4611686018427387904) (there : Bool) (s : ByteArray) (h1 : m.makesS k v there = ⟨#[]⟩) (h2 : m.makesB k v there = false) (w : World) :
    Calls Tryz.prog 47 #[msgVal m, .string k, .string v, .bool there] w (Ret w (.string (⟨#[45]⟩))) := by
  have H1 := Aside.mk h1
  have H2 := Aside.mk h2
  clear h1 h2
  obtain ⟨op, key, too, value⟩ := m
  simp only [msgVal] at hk ht hv ⊢
  go_enter Tryz.func47, Tryz.ntmps47
  go_wp2_with fail
  refine (msgApply_c ⟨op, key, too, value⟩ hk ht hv k v hs there _).mono ?_
  rintro e w1 ⟨rfl, hb⟩
  rw [H1.out, H2.out]
  go_wp2_with fail
  go_ret
  exact Ret.mk' (by first | rfl | simp) (by repeat (first | (with_reducible first | exact Below.refl _ _ | assumption | refine below_drewN ?_ _ | refine Below.drew ?_ | refine below_alloc ?_ _) | (with_reducible refine below_set ?_ ?side _; (case side => first | omega | (simp; omega) | (simp only [World.size_alloc]; omega))) | (with_reducible refine below_trans ?_ (by assumption))))
set_option maxRecDepth 100000 in
theorem awake9_c (w : World) : Calls Tryz.prog 12 #[] w (Ret w (.bool true)) := by
  go_enter Tryz.func12, Tryz.ntmps12
  go_wp2_with fail
  refine (put9_c _ _ _).mono ?_
  rintro e w1 ⟨rfl, hb1⟩
  go_wp2_with fail
  refine (text9_c _ aw1 _ aw1t _).mono ?_
  rintro e w2 ⟨rfl, hb2⟩
  go_wp2_with fail
  refine (sweep9_c _ _ _).mono ?_
  rintro e w3 ⟨rfl, hb3⟩
  go_wp2_with fail
  refine (none9_c _ (by decide) (by decide) (by decide) aw2 _).mono ?_
  rintro e w4 ⟨rfl, hb4⟩
  go_wp2_with fail
  refine (fails9_c _).mono ?_
  rintro e w5 ⟨rfl, hb5⟩
  go_wp2_with fail
  refine (put9_c _ _ _).mono ?_
  rintro e w6 ⟨rfl, hb6⟩
  go_wp2_with fail
  refine (makes9_true _ (by decide) (by decide) (by decide) _ _ (by decide) _ _ aw1s aw1b _).mono ?_
  rintro e w7 ⟨rfl, hb7⟩
  go_wp2_with fail
  refine (sweep9_c _ _ _).mono ?_
  rintro e w8 ⟨rfl, hb8⟩
  go_wp2_with fail
  refine (makes9_false _ (by decide) (by decide) (by decide) _ _ (by decide) _ ⟨#[]⟩ aw3s aw3b _).mono ?_
  rintro e w9 ⟨rfl, hb9⟩
  go_wp2_with fail
  refine (sweep9_c _ _ _).mono ?_
  rintro e w10 ⟨rfl, hb10⟩
  go_wp2_with fail
  refine (touches_c _ (by decide) (by decide) (by decide) _ _).mono ?_
  rintro e w11 ⟨rfl, hb11⟩
  rw [aw4h]
  go_wp2_with fail
  go_ret
  exact Ret.mk' (by first | rfl | simp) (by repeat (first | (with_reducible first | exact Below.refl _ _ | assumption | refine below_drewN ?_ _ | refine Below.drew ?_ | refine below_alloc ?_ _) | (with_reducible refine below_set ?_ ?side _; (case side => first | omega | (simp; omega) | (simp only [World.size_alloc]; omega))) | (with_reducible refine below_trans ?_ (by assumption))))
end Go.Proofs.YtmggpfngbkbkmaaGreatDoor
