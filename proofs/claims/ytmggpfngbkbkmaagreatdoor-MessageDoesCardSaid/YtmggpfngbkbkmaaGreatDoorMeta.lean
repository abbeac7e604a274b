/- What package meta does. -/
import Derived.Test.YtmggpfngbkbkmaaGreatDoorPlainMeta
import Derived.Test.YtmggpfngbkbkmaaGreatDoorCodecW2
import Derived.Test.YtmggpfngbkbkmaaGreatDoorNumber
namespace Go.Proofs.YtmggpfngbkbkmaaGreatDoor
open Go.RowKit
set_option linter.unusedVariables false
set_option linter.unusedSimpArgs false

set_option maxRecDepth 100000 in
theorem metaCheck_c (k s mk st : Int) (hs0 : 0 ≤ s) (hm0 : 0 ≤ mk) (w : World) :
    Calls Tryz.prog 119 #[.agg #[.int .u8 k, .int .u32 s, .int .u64 mk, .int .u64 st]] w (Ret w (.int .i64 (PMeta.mk k s mk st).err)) := by
  go_enter Tryz.func119, Tryz.ntmps119
  go_wp2_with fail
  all_goals try (go_quiet ((go_at_call 148; exact quietS (quiet_c _ hm0 _))))
  all_goals try go_wp2_with fail
  all_goals (go_ret; go_tidy)
  all_goals (refine ⟨ret_int ?_, (by repeat (first | (with_reducible first | exact Below.refl _ _ | assumption | refine below_drewN ?_ _ | refine Below.drew ?_ | refine below_alloc ?_ _) | (with_reducible refine below_set ?_ ?side _; (case side => first | omega | (simp; omega) | (simp only [World.size_alloc]; omega))) | (with_reducible refine below_trans ?_ (by assumption))))⟩; simp_all [PMeta.err, PMeta.may] <;> omega)

set_option maxRecDepth 100000 in
theorem metaPut_c (m : PMeta) (hm : m.wf) (w : World) :
    Calls Tryz.prog 87 #[.agg #[.int .u8 m.kind, .int .u32 m.size, .int .u64 m.mark, .int .u64 m.stamp]] w (Ret w (.tuple #[.string m.text, .int .i64 m.err])) := by
  obtain ⟨k, s, mk, st⟩ := m
  obtain ⟨⟨h1, h1'⟩, ⟨h2, h2'⟩, ⟨h3, h3'⟩, ⟨h4, h4'⟩⟩ := hm
  simp only at h1 h1' h2 h2' h3 h3' h4 h4' ⊢
  by_cases hy : (PMeta.mk k s mk st).may = true
  · have HE := Aside.mk (PMeta.err_yes hy)
    have HT := Aside.mk (PMeta.text_yes hy)
    clear hy
    go_enter Tryz.func87, Tryz.ntmps87
    go_wp2_with fail
    refine (metaCheck_c k s mk st h2 h3 _).mono ?_
    rintro e w1 ⟨rfl, hb⟩
    rw [HE.out]
    have hz : w.heap.size < w1.heap.size := by have := hb.size; simp at this; omega
    have hB : w1.heap[w.heap.size]? = some (.cells #[.int .u8 k, .int .u32 s, .int .u64 mk, .int .u64 st] 76 (0, 0)) := below_keep hb (heap_new w _)
    have d0 := cell_of hB 0
    have d1 := cell_of hB 1
    have d2 := cell_of hB 2
    have d3 := cell_of hB 3
    simp at d0 d1 d2 d3
    go_wp2_with fail
    have hS := WrS.new (heap_new w1 (.cells #[.slice none 0 0, .int .i64 0] 142))
    have hB' := heap_alloc hB (.cells #[.slice none 0 0, .int .i64 0] 142)
    clear d0 d1 d2 d3
    refine (wrsU8_c _ hS k h1 h1' (by simp)).mono ?_
    rintro e w2 ⟨rfl, hS2⟩
    have d1 := cell_of (hS2.keep hB' (by omega)) 1
    simp at d1
    go_wp2_with fail
    refine (wrsU32_c _ hS2 s h2 h2' (by simp [numBytes_length])).mono ?_
    rintro e w3 ⟨rfl, hS3⟩
    have d2 := cell_of (hS3.keep hB' (by omega)) 2
    simp at d2
    go_wp2_with fail
    refine (wrsU64_c _ hS3 mk h3 h3' (by simp [numBytes_length])).mono ?_
    rintro e w4 ⟨rfl, hS4⟩
    have d3 := cell_of (hS4.keep hB' (by omega)) 3
    simp at d3
    go_wp2_with fail
    refine (wrsU64_c _ hS4 st h4 h4' (by simp [numBytes_length])).mono ?_
    rintro e w5 ⟨rfl, hS5⟩
    go_wp2_with fail
    refine (wrsBytes_c _ hS5).mono ?_
    rintro e w6 ⟨rfl, rfl⟩
    go_wp2_with fail
    go_ret2
    refine ⟨by rw [HE.out, HT.out]; rfl, ?_⟩
    have hz2 := hb.size
    simp at hz2
    exact below_touch (below_alloc (below_trans (below_alloc (Below.refl _ _) _) hb) _) hS5.touch (by intro i hi e; omega)
  · have HE := Aside.mk (PMeta.err_no hy)
    have HT := Aside.mk (PMeta.text_no hy)
    clear hy
    go_enter Tryz.func87, Tryz.ntmps87
    go_wp2_with fail
    refine (metaCheck_c k s mk st h2 h3 _).mono ?_
    rintro e w1 ⟨rfl, hb⟩
    rw [HE.out]
    go_wp2_with fail
    go_ret2
    exact ⟨by rw [HE.out, HT.out]; rfl, (by repeat (first | (with_reducible first | exact Below.refl _ _ | assumption | refine below_drewN ?_ _ | refine Below.drew ?_ | refine below_alloc ?_ _) | (with_reducible refine below_set ?_ ?side _; (case side => first | omega | (simp; omega) | (simp only [World.size_alloc]; omega))) | (with_reducible refine below_trans ?_ (by assumption))))⟩
end Go.Proofs.YtmggpfngbkbkmaaGreatDoor
