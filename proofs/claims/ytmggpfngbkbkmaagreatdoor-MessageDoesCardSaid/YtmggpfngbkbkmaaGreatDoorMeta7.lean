/- What package meta does (4): TakeChange. -/
import Derived.Test.YtmggpfngbkbkmaaGreatDoorMeta3
namespace Go.Proofs.YtmggpfngbkbkmaaGreatDoor
open Go.RowKit
set_option linter.unusedVariables false
set_option linter.unusedSimpArgs false

set_option maxHeartbeats 8000000 in
set_option maxRecDepth 100000 in
theorem takeChange2_c (s : ByteArray) (hs : ¬ s.size = 0) (hK : rdWhat s = 2) (w : World) :
    Calls Tryz.prog 86 #[.string s] w (Ret w (.tuple #[.agg #[.int .u8 (changeV s).what, .int .u64 (changeV s).n, .int .u8 (changeV s).op, .int .u64 (changeV s).by_], .int .i64 (changeE s)])) := by
  have hk : ¬ (rdWhat s = 0 ∨ 4 < rdWhat s) := by omega
  have HRR := Aside.mk (show rdChangeR s = fixR (fixR (some s) 1) 4 by unfold rdChangeR; rw [if_neg (by omega), if_neg (by omega)])
  have HCC := Aside.mk (show rdChange s = ⟨(2 : Int), (numV (fixR (some s) 1) 4 : Int), (0 : Int), (0 : Int)⟩ by unfold rdChange; rw [if_neg (by omega), if_neg (by omega), hK]; rfl)
  have HK := Aside.mk (show numV (some s) 1 = 2 from hK)
  have hN := numV_lt (fixR (some s) 1) 4
  have hte : (s.toList == ([] : List UInt8)) = false := by simpa [toList_nil] using hs
  clear hK
  go_enter Tryz.func86, Tryz.ntmps86
  go_wp2_with (go_at_call 108; refine (rdNew_c s _).mono ?_; rintro e w1 ⟨rfl, rfl⟩)
  have hR := rd_new (w.alloc (.cells #[.int .u8 0, .int .u64 0, .int .u8 0, .int .u64 0] 113)) s (g := w.heap.size + 1) (by simp)
  have hO := heap_alloc (heap_new w (.cells #[.int .u8 0, .int .u64 0, .int .u8 0, .int .u64 0] 113)) (.cells #[.string s, .int .i64 0] 172)
  refine (rdU8_c _ _ _ hR).mono ?_
  rintro e w1 ⟨rfl, hR1, ht1⟩
  rw [HK.out]
  have hz1 := ht1.size
  simp at hz1
  have hO1 := heap_alloc (ht1.keep hO (by omega)) (.cells #[.int .u8 2, .int .u64 0, .int .u8 0, .int .u64 0] 113)
  have hM1 := heap_new w1 (.cells #[.int .u8 2, .int .u64 0, .int .u8 0, .int .u64 0] 113)
  have hR1' : RdAt (w1.alloc (.cells #[.int .u8 2, .int .u64 0, .int .u8 0, .int .u64 0] 113)) (w.heap.size + 1) (fixR (some s) 1) := heap_alloc hR1 _
  go_wp2_with fail
  refine (rdU32_c _ _ _ hR1').mono ?_
  rintro e w2 ⟨rfl, hR2, ht2⟩
  have hz2 := ht2.size
  simp at hz2
  have hO2 := ht2.keep hO1 (by omega)
  have hM2 := ht2.keep hM1 (by omega)
  obtain ⟨⟨d0, d1, d2, d3⟩, g0, g1, g2, g3⟩ := four hM2
  have hwr : IntKind.u64.wrap (numV (fixR (some s) 1) 4 : Int) = (numV (fixR (some s) 1) 4 : Int) := wrap_u64 _ (by omega) (by omega)
  go_wp2_with fail
  have hR5 : RdAt (w2.setCell ⟨w1.heap.size, 1, none⟩ (.int .u64 (numV (fixR (some s) 1) 4))) (w.heap.size + 1) (fixR (fixR (some s) 1) 4) := (heap_set_ne (by omega) _ _).trans hR2
  have hO5 := (heap_set_ne (g := w.heap.size) (k := w1.heap.size) (by omega) 1 (.int .u64 (numV (fixR (some s) 1) 4))).trans hO2
  have hM5 : (w2.setCell ⟨w1.heap.size, 1, none⟩ (.int .u64 (numV (fixR (some s) 1) 4))).heap[w1.heap.size]? = some (.cells #[.int .u8 (2 : Int), .int .u64 (numV (fixR (some s) 1) 4 : Int), .int .u8 (0 : Int), .int .u64 (0 : Int)] 113 (0, 0)) := heap_set hM2 1 _
  have hB4 : Below w.heap.size w w2 := below_touch (below_alloc (below_touch (below_alloc (below_alloc (Below.refl _ _) _) _) ht1 (by intro i hi e; omega)) _) ht2 (by intro i hi e; omega)
  refine (whole_c _ _ _ hR5).mono ?_
  rintro e w5 ⟨rfl, rfl⟩
  obtain ⟨⟨o0, o1, o2, o3⟩, f0, f1, f2, f3⟩ := four hO5
  by_cases hw : wholeE (fixR (fixR (some s) 1) 4) = 0
  · by_cases hm : (PChange.mk ((2 : Int)) ((numV (fixR (some s) 1) 4 : Int)) ((0 : Int)) ((0 : Int))).may = true
    · have HE := Aside.mk (show changeE s = 0 by unfold changeE; rw [if_neg hs, if_neg hk, HRR.out, HCC.out, if_pos hw, if_pos hm])
      have HV := Aside.mk (show changeV s = rdChange s from if_pos HE.out)
      rw [hw]
      have HC := Aside.mk hm
      clear hw hm hs hk
      go_wp2_with fail
      refine (changeMay_c (2 : Int) (numV (fixR (some s) 1) 4 : Int) (0 : Int) (0 : Int) (by omega) (by omega) _).mono ?_
      rintro e w6 ⟨rfl, hb6⟩
      rw [HC.out]
      have hM6 := below_keep hb6 hM5
      have hO6 := below_keep hb6 hO5
      clear o0 o1 o2 o3 f0 f1 f2 f3
      obtain ⟨⟨o0, o1, o2, o3⟩, f0, f1, f2, f3⟩ := four hO6
      obtain ⟨⟨d0, d1, d2, d3⟩, g0, g1, g2, g3⟩ := four hM6
      go_wp2_with fail
      go_tidy
      refine bodyPost_ret (v := .tuple #[.agg #[.int .u8 ((2 : Int)), .int .u64 ((numV (fixR (some s) 1) 4 : Int)), .int .u8 ((0 : Int)), .int .u64 ((0 : Int))], .int .i64 0]) (by simp [results, Tryz.results86, go_sem, o0, o1, o2, o3]) rfl ⟨by rw [HE.out, HV.out, HCC.out], ?_⟩
      repeat (first | (with_reducible first | exact Below.refl _ _ | assumption | refine below_drewN ?_ _ | refine Below.drew ?_ | refine below_alloc ?_ _) | (with_reducible refine below_set ?_ ?side _; (case side => first | omega | (simp; omega) | (simp only [World.size_alloc]; omega))) | (with_reducible refine below_trans ?_ (by assumption)))
    · have HE := Aside.mk (show changeE s = 4 by unfold changeE; rw [if_neg hs, if_neg hk, HRR.out, HCC.out, if_pos hw, if_neg hm])
      have HV := Aside.mk (show changeV s = PChange.zero from if_neg (by rw [HE.out]; decide))
      rw [hw]
      have HC := Aside.mk (Bool.eq_false_iff.2 hm)
      clear hw hm hs hk
      go_wp2_with fail
      refine (changeMay_c (2 : Int) (numV (fixR (some s) 1) 4 : Int) (0 : Int) (0 : Int) (by omega) (by omega) _).mono ?_
      rintro e w6 ⟨rfl, hb6⟩
      rw [HC.out]
      have hO6 := below_keep hb6 hO5
      clear o0 o1 o2 o3 f0 f1 f2 f3
      obtain ⟨⟨o0, o1, o2, o3⟩, f0, f1, f2, f3⟩ := four hO6
      go_wp2_with fail
      go_tidy
      refine bodyPost_ret (v := .tuple #[.agg #[.int .u8 0, .int .u64 0, .int .u8 0, .int .u64 0], .int .i64 4]) (by simp [results, Tryz.results86, go_sem, o0, o1, o2, o3]) rfl ⟨by rw [HE.out, HV.out]; rfl, ?_⟩
      repeat (first | (with_reducible first | exact Below.refl _ _ | assumption | refine below_drewN ?_ _ | refine Below.drew ?_ | refine below_alloc ?_ _) | (with_reducible refine below_set ?_ ?side _; (case side => first | omega | (simp; omega) | (simp only [World.size_alloc]; omega))) | (with_reducible refine below_trans ?_ (by assumption)))
  · have HE := Aside.mk (show changeE s = wholeE (fixR (fixR (some s) 1) 4) by unfold changeE; rw [if_neg hs, if_neg hk, HRR.out, if_neg hw])
    have HV := Aside.mk (show changeV s = PChange.zero from if_neg (by rw [HE.out]; exact hw))
    have e1 : (wholeE (fixR (fixR (some s) 1) 4) == 0) = false := beq_eq_false_iff_ne.2 hw
    have e2 : (wholeE (fixR (fixR (some s) 1) 4) != 0) = true := bne_iff_ne.2 hw
    clear hw hs hk
    generalize wholeE (fixR (fixR (some s) 1) 4) = x at HE e1 e2 ⊢
    go_wp2_with fail
    go_tidy
    refine bodyPost_ret (v := .tuple #[.agg #[.int .u8 0, .int .u64 0, .int .u8 0, .int .u64 0], .int .i64 x]) (by simp [results, Tryz.results86, go_sem, o0, o1, o2, o3]) rfl ⟨by rw [HE.out, HV.out]; rfl, ?_⟩
    repeat (first | (with_reducible first | exact Below.refl _ _ | assumption | refine below_drewN ?_ _ | refine Below.drew ?_ | refine below_alloc ?_ _) | (with_reducible refine below_set ?_ ?side _; (case side => first | omega | (simp; omega) | (simp only [World.size_alloc]; omega))) | (with_reducible refine below_trans ?_ (by assumption)))
end Go.Proofs.YtmggpfngbkbkmaaGreatDoor
