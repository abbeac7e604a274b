/- What package message does (4): may as a whole, Check, touches, Touches. -/
import Derived.Test.YtmggpfngbkbkmaaGreatDoorMsg3
import Derived.Test.YtmggpfngbkbkmaaGreatDoorPlainMsg2
namespace Go.Proofs.YtmggpfngbkbkmaaGreatDoor
open Go.RowKit
set_option linter.unusedVariables false
set_option linter.unusedSimpArgs false

theorem msgMay_c (m : PMsg) (hk : m.key.size < 4611686018427387904) (ht : m.to.size < 4611686018427387904) (hv : m.value.size < 4611686018427387904) (w : World) :
    Calls Tryz.prog 56 #[msgVal m] w (Ret w (.bool m.may)) := by
  by_cases h : keyOk m.key = true
  · obtain ⟨op, key, too, value⟩ := m
    have h0 : 0 < key.size := by
      have h' := h
      unfold keyOk at h'
      rw [Bool.and_eq_true, decide_eq_true_eq] at h'
      exact Nat.pos_of_ne_zero h'.1
    by_cases h1 : (key[0]).toNat = 109
    · exact msgMay_m op key too value hk ht hv h0 h h1 w
    · by_cases h2 : (key[0]).toNat = 100
      · exact msgMay_d op key too value hk ht hv h0 h h2 w
      · exact msgMay_o op key too value hk ht hv h0 h ⟨h1, h2⟩ w
  · exact msgMay_no m hk (by simpa using h) w
theorem msgCheck_c (m : PMsg) (hk : m.key.size < 4611686018427387904) (ht : m.to.size < 4611686018427387904) (hv : m.value.size < 4611686018427387904) (w : World) :
    Calls Tryz.prog 41 #[msgVal m] w (Ret w (.int .i64 m.err)) := by
  obtain ⟨op, key, too, value⟩ := m
  generalize hm : PMsg.mk op key too value = m at *
  have HE := Aside.mk hm
  clear hm
  cases hy : m.may
  all_goals
    have HM := Aside.mk hy
    have HR := Aside.mk (show m.err = _ from by unfold PMsg.err; rw [hy])
    clear hy
    rw [← HE.out]
    unfold msgVal
    go_enter Tryz.func41, Tryz.ntmps41
    go_wp2_with fail
    refine (msgMay_c ⟨op, key, too, value⟩ (by rw [HE.out]; exact hk) (by rw [HE.out]; exact ht) (by rw [HE.out]; exact hv) _).mono ?_
    rintro e w1 ⟨rfl, hb⟩
    rw [HE.out, HM.out]
    go_wp2_with fail
    go_ret
    exact ⟨by rw [HE.out, HR.out]; rfl, (by repeat (first | (with_reducible first | exact Below.refl _ _ | assumption | refine below_drewN ?_ _ | refine Below.drew ?_ | refine below_alloc ?_ _) | (with_reducible refine below_set ?_ ?side _; (case side => first | omega | (simp; omega) | (simp only [World.size_alloc]; omega))) | (with_reducible refine below_trans ?_ (by assumption))))⟩
theorem hits_c (m : PMsg) (k : ByteArray) (w : World) :
    Calls Tryz.prog 57 #[msgVal m, .string k] w (Ret w (.bool (m.hits k))) := by
  obtain ⟨op, key, too, value⟩ := m
  unfold msgVal
  go_enter Tryz.func57, Tryz.ntmps57
  go_wp2_with fail
  all_goals (go_ret; go_tidy)
  all_goals (refine ⟨ret_bool ?_, (by repeat (first | (with_reducible first | exact Below.refl _ _ | assumption | refine below_drewN ?_ _ | refine Below.drew ?_ | refine below_alloc ?_ _) | (with_reducible refine below_set ?_ ?side _; (case side => first | omega | (simp; omega) | (simp only [World.size_alloc]; omega))) | (with_reducible refine below_trans ?_ (by assumption))))⟩)
  all_goals simp_all [PMsg.hits, less]
theorem touches_c (m : PMsg) (hk : m.key.size < 4611686018427387904) (ht : m.to.size < 4611686018427387904) (hv : m.value.size < 4611686018427387904) (k : ByteArray) (w : World) :
    Calls Tryz.prog 16 #[msgVal m, .string k] w (Ret w (.bool (m.touches k))) := by
  obtain ⟨op, key, too, value⟩ := m
  have HT := Aside.mk (show PMsg.touches ⟨op, key, too, value⟩ k = (PMsg.may ⟨op, key, too, value⟩ && PMsg.hits ⟨op, key, too, value⟩ k) from rfl)
  rw [HT.out]
  generalize hm : PMsg.may ⟨op, key, too, value⟩ = a at *
  have HM := Aside.mk hm
  clear hm
  generalize hm : PMsg.hits ⟨op, key, too, value⟩ k = b at *
  have HH := Aside.mk hm
  clear hm
  cases a
  · unfold msgVal
    go_enter Tryz.func16, Tryz.ntmps16
    go_wp2_with fail
    refine (msgMay_c ⟨op, key, too, value⟩ hk ht hv _).mono ?_
    rintro e w1 ⟨rfl, hb⟩
    rw [HM.out]
    go_wp2_with fail
    go_ret
    exact ⟨rfl, (by repeat (first | (with_reducible first | exact Below.refl _ _ | assumption | refine below_drewN ?_ _ | refine Below.drew ?_ | refine below_alloc ?_ _) | (with_reducible refine below_set ?_ ?side _; (case side => first | omega | (simp; omega) | (simp only [World.size_alloc]; omega))) | (with_reducible refine below_trans ?_ (by assumption))))⟩
  · unfold msgVal
    go_enter Tryz.func16, Tryz.ntmps16
    go_wp2_with fail
    refine (msgMay_c ⟨op, key, too, value⟩ hk ht hv _).mono ?_
    rintro e w1 ⟨rfl, hb⟩
    rw [HM.out]
    have hM := below_keep hb (heap_new w (.cells #[.int .i64 op, .string key, .string too, .string value] 23))
    obtain ⟨⟨d0, d1, d2, d3⟩, g0, g1, g2, g3⟩ := four hM
    have hz1 : w.heap.size < w1.heap.size := heap_lt hM
    go_wp2_with fail
    refine (hits_c ⟨op, key, too, value⟩ k _).mono ?_
    rintro e w2 ⟨rfl, hb2⟩
    rw [HH.out]
    go_wp2_with fail
    go_ret
    exact ⟨rfl, (by repeat (first | (with_reducible first | exact Below.refl _ _ | assumption | refine below_drewN ?_ _ | refine Below.drew ?_ | refine below_alloc ?_ _) | (with_reducible refine below_set ?_ ?side _; (case side => first | omega | (simp; omega) | (simp only [World.size_alloc]; omega))) | (with_reducible refine below_trans ?_ (by assumption))))⟩
end Go.Proofs.YtmggpfngbkbkmaaGreatDoor
