/- What rillbedlaw09.MessageDoes does: true. -/
import Derived.Test.YtmggpfngbkbkmaaGreatDoorLaw09
import Derived.Test.YtmggpfngbkbkmaaGreatDoorRef09c
namespace Go.Proofs.YtmggpfngbkbkmaaGreatDoor
open Go.RowKit
set_option linter.unusedVariables false
set_option linter.unusedSimpArgs false

theorem three {w : World} {k : Nat} {c0 c1 c2 : Value} {T : TypeId} (h : w.heap[k]? = some (.cells #[c0, c1, c2] T (0, 0))) :
    (w.cell? ⟨k, 0, none⟩ = some c0 ∧ w.cell? ⟨k, 1, none⟩ = some c1 ∧ w.cell? ⟨k, 2, none⟩ = some c2) ∧
    (w.frozen? ⟨k, 0, none⟩ = false ∧ w.frozen? ⟨k, 1, none⟩ = false ∧ w.frozen? ⟨k, 2, none⟩ = false) := by
  refine ⟨⟨?_, ?_, ?_⟩, free_of h 0, free_of h 1, free_of h 2⟩ <;> rw [cell_of h] <;> rfl
theorem few_sizes {m : PMsg} {n : Int} (h : m.few n = true) : (m.key.size : Int) ≤ n ∧ (m.to.size : Int) ≤ n ∧ (m.value.size : Int) ≤ n := by
  unfold PMsg.few at h
  simpa [Bool.and_eq_true, and_assoc] using h
set_option maxHeartbeats 1000000 in
set_option maxRecDepth 100000 in
theorem does9_no (m : PMsg) (k v : ByteArray) (b : Bool) (h : m.few 1000 = false ∨ 1000 < (k.size : Int) ∨ 1000 < (v.size : Int)) (w : World) :
    Calls Tryz.prog 3 #[msgVal m, .agg #[.string k, .string v, .bool b]] w (Ret w (.bool true)) := by
  cases hf : m.few 1000
  · have HF := Aside.mk hf
    clear hf h
    obtain ⟨op, key, too, value⟩ := m
    simp only [msgVal]
    go_enter Tryz.func3, Tryz.ntmps3
    go_wp2_with fail
    refine (few9_c ⟨op, key, too, value⟩ _).mono ?_
    rintro e w1 ⟨rfl, hb1⟩
    rw [HF.out]
    go_wp2_with fail
    refine (awake9_c _).mono ?_
    rintro e w2 ⟨rfl, hb2⟩
    go_wp2_with fail
    go_ret
    exact Ret.mk' rfl (by repeat (first | (with_reducible first | exact Below.refl _ _ | assumption | refine below_drewN ?_ _ | refine Below.drew ?_ | refine below_alloc ?_ _) | (with_reducible refine below_set ?_ ?side _; (case side => first | omega | (simp; omega) | (simp only [World.size_alloc]; omega))) | (with_reducible refine below_trans ?_ (by assumption))))
  · have HF := Aside.mk hf
    have h' : 1000 < (k.size : Int) ∨ (k.size : Int) ≤ 1000 ∧ 1000 < (v.size : Int) := by
      rcases h with h | h | h
      · rw [hf] at h; exact absurd h (by decide)
      · exact .inl h
      · omega
    clear hf h
    obtain ⟨op, key, too, value⟩ := m
    simp only [msgVal]
    rcases h' with h1 | ⟨h1, h2⟩
    all_goals
      go_enter Tryz.func3, Tryz.ntmps3
      go_wp2_with fail
      refine (few9_c ⟨op, key, too, value⟩ _).mono ?_
      rintro e w1 ⟨rfl, hb1⟩
      rw [HF.out]
      have hK := below_keep hb1 (heap_alloc2 w (.cells #[.int .i64 op, .string key, .string too, .string value] 23) (.cells #[.string k, .string v, .bool b] 25))
      obtain ⟨⟨r0, r1, r2⟩, q0, q1, q2⟩ := three hK
      have hz2 : w.heap.size + 1 < w1.heap.size := heap_lt hK
      go_wp2_with fail
      refine (awake9_c _).mono ?_
      rintro e w2 ⟨rfl, hb2⟩
      go_wp2_with fail
      go_ret
      exact Ret.mk' rfl (by repeat (first | (with_reducible first | exact Below.refl _ _ | assumption | refine below_drewN ?_ _ | refine Below.drew ?_ | refine below_alloc ?_ _) | (with_reducible refine below_set ?_ ?side _; (case side => first | omega | (simp; omega) | (simp only [World.size_alloc]; omega))) | (with_reducible refine below_trans ?_ (by assumption))))
set_option maxHeartbeats 2000000 in
set_option maxRecDepth 100000 in
theorem does9_yes (m : PMsg) (k v : ByteArray) (b : Bool) (hf : m.few 1000 = true) (h1 : (k.size : Int) ≤ 1000) (h2 : (v.size : Int) ≤ 1000) (w : World) :
    Calls Tryz.prog 3 #[msgVal m, .agg #[.string k, .string v, .bool b]] w (Ret w (.bool true)) := by
  obtain ⟨s1, s2, s3⟩ := few_sizes hf
  have HF := Aside.mk hf
  clear hf
  obtain ⟨op, key, too, value⟩ := m
  simp only [msgVal] at s1 s2 s3 ⊢
  go_enter Tryz.func3, Tryz.ntmps3
  go_wp2_with fail
  refine (few9_c ⟨op, key, too, value⟩ _).mono ?_
  rintro e w1 ⟨rfl, hb1⟩
  rw [HF.out]
  have hM := below_keep hb1 (heap_alloc (heap_new w (.cells #[.int .i64 op, .string key, .string too, .string value] 23)) (.cells #[.string k, .string v, .bool b] 25))
  have hK := below_keep hb1 (heap_alloc2 w (.cells #[.int .i64 op, .string key, .string too, .string value] 23) (.cells #[.string k, .string v, .bool b] 25))
  obtain ⟨⟨d0, d1, d2, d3⟩, g0, g1, g2, g3⟩ := four hM
  obtain ⟨⟨r0, r1, r2⟩, q0, q1, q2⟩ := three hK
  have hz1 : w.heap.size < w1.heap.size := heap_lt hM
  have hz2 : w.heap.size + 1 < w1.heap.size := heap_lt hK
  go_wp2_with fail
  refine (msgApply_c ⟨op, key, too, value⟩ (by simp only; omega) (by simp only; omega) (by simp only; omega) k v (by omega) b _).mono ?_
  rintro e w2 ⟨rfl, hb2⟩
  clear d0 d1 d2 d3 g0 g1 g2 g3 r0 r1 r2 q0 q1 q2
  obtain ⟨⟨d0, d1, d2, d3⟩, g0, g1, g2, g3⟩ := four (below_keep hb2 hM)
  obtain ⟨⟨r0, r1, r2⟩, q0, q1, q2⟩ := three (below_keep hb2 hK)
  have hz3 : w.heap.size < w2.heap.size := heap_lt (below_keep hb2 hM)
  have hz4 : w.heap.size + 1 < w2.heap.size := heap_lt (below_keep hb2 hK)
  go_wp2_with fail
  refine (r9Apply_c ⟨op, key, too, value⟩ (by simp only; omega) (by simp only; omega) (by simp only; omega) k v (by omega) b _).mono ?_
  rintro e w3 ⟨rfl, hb3⟩
  generalize PMsg.makesS ⟨op, key, too, value⟩ k v b = x
  generalize PMsg.makesB ⟨op, key, too, value⟩ k v b = y
  go_wp2_with (first | (refine (awake9_c _).mono ?_; rintro e w4 ⟨rfl, hb4⟩))
  all_goals (go_ret; go_tidy)
  all_goals (refine Ret.mk' (by first | rfl | simp) (by repeat (first | (with_reducible first | exact Below.refl _ _ | assumption | refine below_drewN ?_ _ | refine Below.drew ?_ | refine below_alloc ?_ _) | (with_reducible refine below_set ?_ ?side _; (case side => first | omega | (simp; omega) | (simp only [World.size_alloc]; omega))) | (with_reducible refine below_trans ?_ (by assumption)))))
theorem does9_c (m : PMsg) (k v : ByteArray) (b : Bool) (w : World) :
    Calls Tryz.prog 3 #[msgVal m, .agg #[.string k, .string v, .bool b]] w (Ret w (.bool true)) := by
  by_cases h : m.few 1000 = false ∨ 1000 < (k.size : Int) ∨ 1000 < (v.size : Int)
  · exact does9_no m k v b h w
  · have hf : m.few 1000 = true := by
      cases hf : m.few 1000
      · exact absurd (.inl hf) h
      · rfl
    exact does9_yes m k v b hf (by omega) (by omega) w
end Go.Proofs.YtmggpfngbkbkmaaGreatDoor
