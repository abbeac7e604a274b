/- What package rillbedlaw09 does (1): few, awake. -/
import Derived.Test.YtmggpfngbkbkmaaGreatDoorMsg8
import Derived.Test.YtmggpfngbkbkmaaGreatDoorPlainAw
namespace Go.Proofs.YtmggpfngbkbkmaaGreatDoor
open Go.RowKit
set_option linter.unusedVariables false
set_option linter.unusedSimpArgs false

def PMsg.few (n : Int) (m : PMsg) : Bool := decide ((m.key.size : Int) ≤ n) && decide ((m.to.size : Int) ≤ n) && decide ((m.value.size : Int) ≤ n)
theorem few9_c (m : PMsg) (w : World) :
    Calls Tryz.prog 11 #[msgVal m] w (Ret w (.bool (m.few 1000))) := by
  obtain ⟨op, key, too, value⟩ := m
  simp only [msgVal]
  go_enter Tryz.func11, Tryz.ntmps11
  go_wp2_with fail
  all_goals (go_ret; go_tidy)
  all_goals (refine Ret.mk' ?_ (by repeat (first | (with_reducible first | exact Below.refl _ _ | assumption | refine below_drewN ?_ _ | refine Below.drew ?_ | refine below_alloc ?_ _) | (with_reducible refine below_set ?_ ?side _; (case side => first | omega | (simp; omega) | (simp only [World.size_alloc]; omega))) | (with_reducible refine below_trans ?_ (by assumption)))); simp_all [PMsg.few] <;> omega)
theorem put9_c (k v : ByteArray) (w : World) :
    Calls Tryz.prog 43 #[.string k, .string v] w (Ret w (msgVal ⟨1, k, ⟨#[]⟩, v⟩)) := by
  go_enter Tryz.func43, Tryz.ntmps43
  go_wp2_with fail
  all_goals go_tidy
  refine bodyPost_ret (v := .agg #[.int .i64 1, .string k, .string ⟨#[]⟩, .string v]) (by simp [results, Tryz.results43, go_sem]) rfl ⟨rfl, ?_⟩
  (repeat (first | (with_reducible first | exact Below.refl _ _ | assumption | refine below_drewN ?_ _ | refine Below.drew ?_ | refine below_alloc ?_ _) | (with_reducible refine below_set ?_ ?side _; (case side => first | omega | (simp; omega) | (simp only [World.size_alloc]; omega))) | (with_reducible refine below_trans ?_ (by assumption))))
theorem sweep9_c (k v : ByteArray) (w : World) :
    Calls Tryz.prog 45 #[.string k, .string v] w (Ret w (msgVal ⟨3, k, v, ⟨#[]⟩⟩)) := by
  go_enter Tryz.func45, Tryz.ntmps45
  go_wp2_with fail
  all_goals go_tidy
  refine bodyPost_ret (v := .agg #[.int .i64 3, .string k, .string v, .string ⟨#[]⟩]) (by simp [results, Tryz.results45, go_sem]) rfl ⟨rfl, ?_⟩
  (repeat (first | (with_reducible first | exact Below.refl _ _ | assumption | refine below_drewN ?_ _ | refine Below.drew ?_ | refine below_alloc ?_ _) | (with_reducible refine below_set ?_ ?side _; (case side => first | omega | (simp; omega) | (simp only [World.size_alloc]; omega))) | (with_reducible refine below_trans ?_ (by assumption))))
set_option maxRecDepth 100000 in
theorem text9_c (m : PMsg) (hm : m.may = true) (t : ByteArray) (ht : m.text = t) (w : World) :
    Calls Tryz.prog 42 #[msgVal m, .string t] w (Ret w (.bool true)) := by
  obtain ⟨⟨hk, h0⟩, hto, hv, -⟩ := may_parts hm
  have HT := Aside.mk ht
  have HE := Aside.mk (show m.err = 0 by unfold PMsg.err; rw [hm]; rfl)
  clear hm ht
  obtain ⟨op, key, too, value⟩ := m
  simp only at hk hto hv h0
  simp only [msgVal]
  go_enter Tryz.func42, Tryz.ntmps42
  go_wp2_with fail
  refine (msgPut_c ⟨op, key, too, value⟩ (by simp only; omega) (by simp only; omega) (by simp only; omega) _).mono ?_
  rintro e w1 ⟨rfl, hb⟩
  rw [HT.out, HE.out]
  have hB := below_keep hb (heap_new w (.cells #[.int .i64 op, .string key, .string too, .string value] 23))
  obtain ⟨⟨d0, d1, d2, d3⟩, g0, g1, g2, g3⟩ := four hB
  have hz1 : w.heap.size < w1.heap.size := heap_lt hB
  go_wp2_with fail
  refine (msgSize_c ⟨op, key, too, value⟩ (by simp only; omega) (by simp only; omega) (by simp only; omega) _).mono ?_
  rintro e w2 ⟨rfl, hb2⟩
  rw [HT.out]
  go_wp2_with fail
  go_ret
  exact Ret.mk' (by first | rfl | simp) (by repeat (first | (with_reducible first | exact Below.refl _ _ | assumption | refine below_drewN ?_ _ | refine Below.drew ?_ | refine below_alloc ?_ _) | (with_reducible refine below_set ?_ ?side _; (case side => first | omega | (simp; omega) | (simp only [World.size_alloc]; omega))) | (with_reducible refine below_trans ?_ (by assumption))))
set_option maxRecDepth 100000 in
theorem none9_c (m : PMsg) (hk : m.key.size < 4611686018427387904) (ht : m.to.size < 4611686018427387904) (hv : m.value.size < 4611686018427387904) (hm : m.may = false) (w : World) :
    Calls Tryz.prog 44 #[msgVal m] w (Ret w (.bool true)) := by
  have HT := Aside.mk (show m.text = ⟨#[]⟩ by unfold PMsg.text; rw [hm]; rfl)
  have HE := Aside.mk (show m.err = 4 by unfold PMsg.err; rw [hm]; rfl)
  clear hm
  obtain ⟨op, key, too, value⟩ := m
  simp only [msgVal] at hk ht hv ⊢
  go_enter Tryz.func44, Tryz.ntmps44
  go_wp2_with fail
  refine (msgCheck_c ⟨op, key, too, value⟩ hk ht hv _).mono ?_
  rintro e w1 ⟨rfl, hb⟩
  rw [HE.out]
  have hB := below_keep hb (heap_new w (.cells #[.int .i64 op, .string key, .string too, .string value] 23))
  obtain ⟨⟨d0, d1, d2, d3⟩, g0, g1, g2, g3⟩ := four hB
  have hz1 : w.heap.size < w1.heap.size := heap_lt hB
  go_wp2_with fail
  refine (msgSize_c ⟨op, key, too, value⟩ hk ht hv _).mono ?_
  rintro e w2 ⟨rfl, hb2⟩
  rw [HT.out]
  go_wp2_with fail
  go_ret
  exact Ret.mk' (by first | rfl | simp) (by repeat (first | (with_reducible first | exact Below.refl _ _ | assumption | refine below_drewN ?_ _ | refine Below.drew ?_ | refine below_alloc ?_ _) | (with_reducible refine below_set ?_ ?side _; (case side => first | omega | (simp; omega) | (simp only [World.size_alloc]; omega))) | (with_reducible refine below_trans ?_ (by assumption))))
set_option maxRecDepth 100000 in
theorem fails9_c (w : World) :
    Calls Tryz.prog 46 #[.string ⟨#[]⟩, .int .i64 10] w (Ret w (.bool true)) := by
  go_enter Tryz.func46, Tryz.ntmps46
  go_wp2_with fail
  refine (msgTake_nil _).mono ?_
  rintro e w1 ⟨rfl, hb⟩
  unfold msgVal PMsg.zero
  go_wp2_with fail
  go_ret
  exact Ret.mk' (by first | rfl | simp) (by repeat (first | (with_reducible first | exact Below.refl _ _ | assumption | refine below_drewN ?_ _ | refine Below.drew ?_ | refine below_alloc ?_ _) | (with_reducible refine below_set ?_ ?side _; (case side => first | omega | (simp; omega) | (simp only [World.size_alloc]; omega))) | (with_reducible refine below_trans ?_ (by assumption))))
set_option maxRecDepth 100000 in
theorem makes9_true (m : PMsg) (hk : m.key.size < 4611686018427387904) (ht : m.to.size < 4611686018427387904) (hv : m.value.size < 4611686018427387904) (k v : ByteArray) (hs : v.size < 4611686018427387904) (there : Bool) (s : ByteArray) (h1 : m.makesS k v there = s) (h2 : m.makesB k v there = true) (w : World) :
    Calls Tryz.prog 47 #[msgVal m, .string k, .string v, .bool there] w (Ret w (.string (s))) := by
  have H1 := Aside.mk h1
  have H2 := Aside.mk h2
  clear h1 h2
  obtain ⟨op, key, too, value⟩ := m
  simp only [msgVal] at hk ht hv ⊢
  go_enter Tryz.func47, Tryz.ntmps47
  go_wp2_with fail
  refine (msgApply_c ⟨op, key, too, value⟩ hk ht hv k v hs there _).mono ?_
  rintro e w1 ⟨rfl, hb⟩
  rw [H1.out, H2.out]
  go_wp2_with fail
  go_ret
  exact Ret.mk' (by first | rfl | simp) (by repeat (first | (with_reducible first | exact Below.refl _ _ | assumption | refine below_drewN ?_ _ | refine Below.drew ?_ | refine below_alloc ?_ _) | (with_reducible refine below_set ?_ ?side _; (case side => first | omega | (simp; omega) | (simp only [World.size_alloc]; omega))) | (with_reducible refine below_trans ?_ (by assumption))))
set_option maxRecDepth 100000 in
theorem makes9_false (m : PMsg) (hk : m.key.size < 4611686018427387904) (ht : m.to.size < 4611686018427387904) (hv : m.value.size < 4611686018427387904) (k v : ByteArray) (hs : v.size < 4611686018427387904) (there : Bool) (s : ByteArray) (h1 : m.makesS k v there = ⟨#[]⟩) (h2 : m.makesB k v there = false) (w : World) :
    Calls Tryz.prog 47 #[msgVal m, .string k, .string v, .bool there] w (Ret w (.string (⟨#[45]⟩))) := by
  have H1 := Aside.mk h1
  have H2 := Aside.mk h2
  clear h1 h2
  obtain ⟨op, key, too, value⟩ := m
  simp only [msgVal] at hk ht hv ⊢
  go_enter Tryz.func47, Tryz.ntmps47
  go_wp2_with fail
  refine (msgApply_c ⟨op, key, too, value⟩ hk ht hv k v hs there _).mono ?_
  rintro e w1 ⟨rfl, hb⟩
  rw [H1.out, H2.out]
  go_wp2_with fail
  go_ret
  exact Ret.mk' (by first | rfl | simp) (by repeat (first | (with_reducible first | exact Below.refl _ _ | assumption | refine below_drewN ?_ _ | refine Below.drew ?_ | refine below_alloc ?_ _) | (with_reducible refine below_set ?_ ?side _; (case side => first | omega | (simp; omega) | (simp only [World.size_alloc]; omega))) | (with_reducible refine below_trans ?_ (by assumption))))
set_option maxRecDepth 100000 in
theorem awake9_c (w : World) : Calls Tryz.prog 12 #[] w (Ret w (.bool true)) := by
  go_enter Tryz.func12, Tryz.ntmps12
  go_wp2_with fail
  refine (put9_c _ _ _).mono ?_
  rintro e w1 ⟨rfl, hb1⟩
  go_wp2_with fail
  refine (text9_c _ aw1 _ aw1t _).mono ?_
  rintro e w2 ⟨rfl, hb2⟩
  go_wp2_with fail
  refine (sweep9_c _ _ _).mono ?_
  rintro e w3 ⟨rfl, hb3⟩
  go_wp2_with fail
  refine (none9_c _ (by decide) (by decide) (by decide) aw2 _).mono ?_
  rintro e w4 ⟨rfl, hb4⟩
  go_wp2_with fail
  refine (fails9_c _).mono ?_
  rintro e w5 ⟨rfl, hb5⟩
  go_wp2_with fail
  refine (put9_c _ _ _).mono ?_
  rintro e w6 ⟨rfl, hb6⟩
  go_wp2_with fail
  refine (makes9_true _ (by decide) (by decide) (by decide) _ _ (by decide) _ _ aw1s aw1b _).mono ?_
  rintro e w7 ⟨rfl, hb7⟩
  go_wp2_with fail
  refine (sweep9_c _ _ _).mono ?_
  rintro e w8 ⟨rfl, hb8⟩
  go_wp2_with fail
  refine (makes9_false _ (by decide) (by decide) (by decide) _ _ (by decide) _ ⟨#[]⟩ aw3s aw3b _).mono ?_
  rintro e w9 ⟨rfl, hb9⟩
  go_wp2_with fail
  refine (sweep9_c _ _ _).mono ?_
  rintro e w10 ⟨rfl, hb10⟩
  go_wp2_with fail
  refine (touches_c _ (by decide) (by decide) (by decide) _ _).mono ?_
  rintro e w11 ⟨rfl, hb11⟩
  rw [aw4h]
  go_wp2_with fail
  go_ret
  exact Ret.mk' (by first | rfl | simp) (by repeat (first | (with_reducible first | exact Below.refl _ _ | assumption | refine below_drewN ?_ _ | refine Below.drew ?_ | refine below_alloc ?_ _) | (with_reducible refine below_set ?_ ?side _; (case side => first | omega | (simp; omega) | (simp only [World.size_alloc]; omega))) | (with_reducible refine below_trans ?_ (by assumption))))
end Go.Proofs.YtmggpfngbkbkmaaGreatDoor
