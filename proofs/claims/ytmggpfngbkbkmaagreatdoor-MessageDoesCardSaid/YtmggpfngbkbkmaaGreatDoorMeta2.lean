/- What package meta does (2): Take, changes. -/
import Derived.Test.YtmggpfngbkbkmaaGreatDoorMeta
namespace Go.Proofs.YtmggpfngbkbkmaaGreatDoor
open Go.RowKit
set_option linter.unusedVariables false
set_option linter.unusedSimpArgs false

theorem toList_nil (s : ByteArray) : s.toList = [] ↔ s.size = 0 := by
  rw [ByteArray.toList_eq]
  constructor
  · intro h; have : s.data.toList.length = 0 := by rw [h]; rfl
    simpa using this
  · intro h; exact List.eq_nil_of_length_eq_zero (by simpa using h)
theorem heap_new' (w : World) (o : Obj) {g : Nat} (h : w.heap.size = g) : (w.alloc o).heap[g]? = some o := by subst h; exact heap_new w o
theorem rd_new (w : World) (s : ByteArray) {g : Nat} (h : w.heap.size = g) : RdAt (w.alloc (.cells #[.string s, .int .i64 0] 172)) g (some s) := heap_new' w _ h

theorem whole_c (g : Nat) (r : Option ByteArray) (w : World) (h : RdAt w g r) :
    Calls Tryz.prog 118 #[.pointer (some ⟨g, 0, none⟩)] w fun e w' => e = .returned (.int .i64 (wholeE r)) ∧ w = w' := by
  cases r with
  | none =>
    have hw := Aside.mk (show wholeE none = 10 from rfl)
    have he := Aside.mk (show rdErr none = 10 from rfl)
    go_enter Tryz.func118, Tryz.ntmps118
    go_wp2_with (go_at_call 111; refine (rdErr_c g _ _ h).mono ?_; rintro e w1 ⟨rfl, rfl⟩; rw [he.out])
    go_ret
    exact ⟨by rw [hw.out]; rfl, rfl⟩
  | some s =>
    have he := Aside.mk (show rdErr (some s) = 0 from rfl)
    have hr := Aside.mk (show rdRest (some s) = s from rfl)
    by_cases hs : s.size = 0
    · have hw := Aside.mk (show wholeE (some s) = 0 from if_pos hs)
      have ht : (s.toList == ([] : List UInt8)) = true := by simpa [toList_nil] using hs
      clear hs
      go_enter Tryz.func118, Tryz.ntmps118
      go_wp2_with (first | (go_at_call 111; refine (rdErr_c g _ _ h).mono ?_; rintro e w1 ⟨rfl, rfl⟩; rw [he.out]) | (go_at_call 112; refine (rdRest_c g _ _ h).mono ?_; rintro e w1 ⟨rfl, rfl⟩; rw [hr.out]))
      go_ret
      exact ⟨by rw [hw.out]; rfl, rfl⟩
    · have hw := Aside.mk (show wholeE (some s) = 4 from if_neg hs)
      have ht : (s.toList == ([] : List UInt8)) = false := by simpa [toList_nil] using hs
      clear hs
      go_enter Tryz.func118, Tryz.ntmps118
      go_wp2_with (first | (go_at_call 111; refine (rdErr_c g _ _ h).mono ?_; rintro e w1 ⟨rfl, rfl⟩; rw [he.out]) | (go_at_call 112; refine (rdRest_c g _ _ h).mono ?_; rintro e w1 ⟨rfl, rfl⟩; rw [hr.out]))
      go_ret
      exact ⟨by rw [hw.out]; rfl, rfl⟩

set_option maxHeartbeats 4000000 in
set_option maxRecDepth 100000 in
theorem metaTake_c (s : ByteArray) (w : World) :
    Calls Tryz.prog 85 #[.string s] w (Ret w (.tuple #[.agg #[.int .u8 (metaV s).kind, .int .u32 (metaV s).size, .int .u64 (metaV s).mark, .int .u64 (metaV s).stamp], .int .i64 (metaE s)])) := by
  have hwf := rdMeta_wf s
  obtain ⟨⟨k1, k2⟩, ⟨s1, s2⟩, ⟨m1, m2⟩, ⟨t1, t2⟩⟩ := hwf
  have HM := Aside.mk (show rdMeta s = ⟨numV (some s) 1, numV (fixR (some s) 1) 4, numV (fixR (fixR (some s) 1) 4) 8, numV (fixR (fixR (fixR (some s) 1) 4) 8) 8⟩ from rfl)
  go_enter Tryz.func85, Tryz.ntmps85
  go_wp2_with (go_at_call 108; refine (rdNew_c s _).mono ?_; rintro e w1 ⟨rfl, rfl⟩)
  have hR := rd_new (w.alloc (.cells #[.int .u8 0, .int .u32 0, .int .u64 0, .int .u64 0] 76)) s (g := w.heap.size + 1) (by simp)
  have hO := heap_alloc (heap_new w (.cells #[.int .u8 0, .int .u32 0, .int .u64 0, .int .u64 0] 76)) (.cells #[.string s, .int .i64 0] 172)
  refine (rdU8_c _ _ _ hR).mono ?_
  rintro e w1 ⟨rfl, hR1, ht1⟩
  have hz1 := ht1.size
  simp at hz1
  have hO1 := ht1.keep hO (by omega)
  go_wp2_with fail
  refine (rdU32_c _ _ _ hR1).mono ?_
  rintro e w2 ⟨rfl, hR2, ht2⟩
  have hO2 := ht2.keep hO1 (by omega)
  go_wp2_with fail
  refine (rdU64_c _ _ _ hR2).mono ?_
  rintro e w3 ⟨rfl, hR3, ht3⟩
  have hO3 := ht3.keep hO2 (by omega)
  go_wp2_with fail
  refine (rdU64_c _ _ _ hR3).mono ?_
  rintro e w4 ⟨rfl, hR4, ht4⟩
  have hO4 := ht4.keep hO3 (by omega)
  have hT := ((ht1.trans ht2).trans ht3).trans ht4
  have hz4 := hT.size
  simp at hz4
  go_wp2_with fail
  have hR5 : RdAt (w4.alloc (.cells #[.int .u8 (numV (some s) 1), .int .u32 (numV (fixR (some s) 1) 4), .int .u64 (numV (fixR (fixR (some s) 1) 4) 8), .int .u64 (numV (fixR (fixR (fixR (some s) 1) 4) 8) 8)] 76)) (w.heap.size + 1) (rdMetaR s) := heap_alloc hR4 _
  have hO5 := heap_alloc hO4 (.cells #[.int .u8 (numV (some s) 1), .int .u32 (numV (fixR (some s) 1) 4), .int .u64 (numV (fixR (fixR (some s) 1) 4) 8), .int .u64 (numV (fixR (fixR (fixR (some s) 1) 4) 8) 8)] 76)
  have hM5 := heap_new w4 (.cells #[.int .u8 (numV (some s) 1), .int .u32 (numV (fixR (some s) 1) 4), .int .u64 (numV (fixR (fixR (some s) 1) 4) 8), .int .u64 (numV (fixR (fixR (fixR (some s) 1) 4) 8) 8)] 76)
  have hB4 : Below w.heap.size w w4 := below_touch (below_alloc (below_alloc (Below.refl _ _) _) _) hT (by intro i hi e; omega)
  refine (whole_c _ _ _ hR5).mono ?_
  rintro e w5 ⟨rfl, rfl⟩
  by_cases hw : wholeE (rdMetaR s) = 0
  · by_cases hm : (rdMeta s).err = 0
    · have HE := Aside.mk (show metaE s = 0 by unfold metaE; rw [if_pos hw, hm])
      have HV := Aside.mk (show metaV s = rdMeta s from if_pos HE.out)
      rw [hw]
      have HC := Aside.mk hm
      clear hw hm
      go_wp2_with fail
      refine (metaCheck_c _ _ _ _ (by omega) (by omega) _).mono ?_
      rintro e w6 ⟨rfl, hb6⟩
      rw [show (PMeta.mk (numV (some s) 1) (numV (fixR (some s) 1) 4) (numV (fixR (fixR (some s) 1) 4) 8) (numV (fixR (fixR (fixR (some s) 1) 4) 8) 8)).err = 0 from HC.out]
      have hM6 := below_keep hb6 hM5
      have hO6 := below_keep hb6 hO5
      have d0 := cell_of hM6 0
      have d1 := cell_of hM6 1
      have d2 := cell_of hM6 2
      have d3 := cell_of hM6 3
      have o0 := cell_of hO6 0
      have o1 := cell_of hO6 1
      have o2 := cell_of hO6 2
      have o3 := cell_of hO6 3
      have f0 := free_of hO6 0
      have f1 := free_of hO6 1
      have f2 := free_of hO6 2
      have f3 := free_of hO6 3
      simp at d0 d1 d2 d3 o0 o1 o2 o3
      go_wp2_with fail
      go_tidy
      refine bodyPost_ret (v := .tuple #[.agg #[.int .u8 (numV (some s) 1), .int .u32 (numV (fixR (some s) 1) 4), .int .u64 (numV (fixR (fixR (some s) 1) 4) 8), .int .u64 (numV (fixR (fixR (fixR (some s) 1) 4) 8) 8)], .int .i64 0]) (by simp [results, Tryz.results85, go_sem, o0, o1, o2, o3]) rfl ⟨by rw [HE.out, HV.out]; rfl, ?_⟩
      repeat (first | (with_reducible first | exact Below.refl _ _ | assumption | refine below_drewN ?_ _ | refine Below.drew ?_ | refine below_alloc ?_ _) | (with_reducible refine below_set ?_ ?side _; (case side => first | omega | (simp; omega) | (simp only [World.size_alloc]; omega))) | (with_reducible refine below_trans ?_ (by assumption)))
    · have hm4 : (rdMeta s).err = 4 := PMeta.err_no (fun h => hm (PMeta.err_yes h))
      have HE := Aside.mk (show metaE s = 4 by unfold metaE; rw [if_pos hw, hm4])
      have HV := Aside.mk (show metaV s = PMeta.zero from if_neg (by rw [HE.out]; decide))
      rw [hw]
      have HC := Aside.mk hm4
      clear hw hm hm4
      go_wp2_with fail
      refine (metaCheck_c _ _ _ _ (by omega) (by omega) _).mono ?_
      rintro e w6 ⟨rfl, hb6⟩
      rw [show (PMeta.mk (numV (some s) 1) (numV (fixR (some s) 1) 4) (numV (fixR (fixR (some s) 1) 4) 8) (numV (fixR (fixR (fixR (some s) 1) 4) 8) 8)).err = 4 from HC.out]
      have hO6 := below_keep hb6 hO5
      have o0 := cell_of hO6 0
      have o1 := cell_of hO6 1
      have o2 := cell_of hO6 2
      have o3 := cell_of hO6 3
      have f0 := free_of hO6 0
      have f1 := free_of hO6 1
      have f2 := free_of hO6 2
      have f3 := free_of hO6 3
      simp at o0 o1 o2 o3
      go_wp2_with fail
      go_tidy
      refine bodyPost_ret (v := .tuple #[.agg #[.int .u8 0, .int .u32 0, .int .u64 0, .int .u64 0], .int .i64 4]) (by simp [results, Tryz.results85, go_sem, o0, o1, o2, o3]) rfl ⟨by rw [HE.out, HV.out]; rfl, ?_⟩
      repeat (first | (with_reducible first | exact Below.refl _ _ | assumption | refine below_drewN ?_ _ | refine Below.drew ?_ | refine below_alloc ?_ _) | (with_reducible refine below_set ?_ ?side _; (case side => first | omega | (simp; omega) | (simp only [World.size_alloc]; omega))) | (with_reducible refine below_trans ?_ (by assumption)))
  · have HE := Aside.mk (show metaE s = wholeE (rdMetaR s) by unfold metaE; rw [if_neg hw])
    have HV := Aside.mk (show metaV s = PMeta.zero from if_neg (by rw [HE.out]; exact hw))
    have e1 : (wholeE (rdMetaR s) == 0) = false := beq_eq_false_iff_ne.2 hw
    have e2 : (wholeE (rdMetaR s) != 0) = true := bne_iff_ne.2 hw
    clear hw
    generalize wholeE (rdMetaR s) = x at HE e1 e2 ⊢
    have o0 := cell_of hO5 0
    have o1 := cell_of hO5 1
    have o2 := cell_of hO5 2
    have o3 := cell_of hO5 3
    have f0 := free_of hO5 0
    have f1 := free_of hO5 1
    have f2 := free_of hO5 2
    have f3 := free_of hO5 3
    simp at o0 o1 o2 o3
    go_wp2_with fail
    go_tidy
    refine bodyPost_ret (v := .tuple #[.agg #[.int .u8 0, .int .u32 0, .int .u64 0, .int .u64 0], .int .i64 x]) (by simp [results, Tryz.results85, go_sem, o0, o1, o2, o3]) rfl ⟨by rw [HE.out, HV.out]; rfl, ?_⟩
    repeat (first | (with_reducible first | exact Below.refl _ _ | assumption | refine below_drewN ?_ _ | refine Below.drew ?_ | refine below_alloc ?_ _) | (with_reducible refine below_set ?_ ?side _; (case side => first | omega | (simp; omega) | (simp only [World.size_alloc]; omega))) | (with_reducible refine below_trans ?_ (by assumption)))

end Go.Proofs.YtmggpfngbkbkmaaGreatDoor
