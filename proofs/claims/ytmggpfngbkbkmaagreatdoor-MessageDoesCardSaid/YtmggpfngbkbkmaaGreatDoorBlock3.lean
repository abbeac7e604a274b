/- What package block does (3): Take. -/
import Derived.Test.YtmggpfngbkbkmaaGreatDoorBlock2
namespace Go.Proofs.YtmggpfngbkbkmaaGreatDoor
open Go.RowKit
set_option linter.unusedVariables false
set_option linter.unusedSimpArgs false

def patchVal (p : PPatch) : Value := .agg #[.bool p.cut, .int .i64 p.at_, .int .i64 p.n, .string p.s]
theorem rdErr_one {s : ByteArray} (h : s.size ≠ 0) : rdErr (fixR (some s) 1) = 0 := by
  have : 1 ≤ s.size := by omega
  simp [fixR, rdErr, this]
theorem rdErr_nil {s : ByteArray} (h : s.size = 0) : rdErr (fixR (some s) 1) = 10 := by
  have : ¬ 1 ≤ s.size := by omega
  simp [fixR, rdErr, this]

set_option maxHeartbeats 2000000 in
set_option maxRecDepth 100000 in
theorem blkTake_c (s : ByteArray) (hs : s.size < 4611686018427387904) (w : World) :
    Calls Tryz.prog 83 #[.string s] w (Ret w (.tuple #[patchVal (patchV s), .int .i64 (patchE s)])) := by
  have hO := heap_new w (.cells #[.bool false, .int .i64 0, .int .i64 0, .string ⟨#[]⟩] 104)
  go_enter Tryz.func83, Tryz.ntmps83
  go_wp2_with (go_at_call 108; refine (rdNew_c s _).mono ?_; rintro e w1 ⟨rfl, rfl⟩)
  have hR := heap_alloc (rd_new (w.alloc (.cells #[.bool false, .int .i64 0, .int .i64 0, .string ⟨#[]⟩] 104)) s (g := w.heap.size + 1) (by simp)) (.cells #[.bool false, .int .i64 0, .int .i64 0, .string ⟨#[]⟩] 104)
  have hO := heap_alloc (heap_alloc (heap_new w (.cells #[.bool false, .int .i64 0, .int .i64 0, .string ⟨#[]⟩] 104)) (.cells #[.string s, .int .i64 0] 172)) (.cells #[.bool false, .int .i64 0, .int .i64 0, .string ⟨#[]⟩] 104)
  have hP := heap_new' ((w.alloc (.cells #[.bool false, .int .i64 0, .int .i64 0, .string ⟨#[]⟩] 104)).alloc (.cells #[.string s, .int .i64 0] 172)) (.cells #[.bool false, .int .i64 0, .int .i64 0, .string ⟨#[]⟩] 104) (g := w.heap.size + 2) (by simp)
  refine (rdU8_c _ _ _ hR).mono ?_
  rintro e w1 ⟨rfl, hR1, ht1⟩
  have hz1 := ht1.size
  simp at hz1
  have hO1 := ht1.keep hO (by omega)
  have hP1 := ht1.keep hP (by omega)
  have hB1 : Below w.heap.size w w1 := below_touch (below_alloc (below_alloc (below_alloc (Below.refl _ _) _) _) _) ht1 (by intro i hi e; omega)
  clear hO hP hR ht1
  go_wp2_with fail
  refine (rdErr_c _ _ _ hR1).mono ?_
  rintro e w2 ⟨rfl, rfl⟩
  obtain ⟨⟨o0, o1, o2, o3⟩, f0, f1, f2, f3⟩ := four hO1
  obtain ⟨⟨d0, d1, d2, d3⟩, g0, g1, g2, g3⟩ := four hP1
  by_cases h0 : s.size = 0
  · have HE := Aside.mk (show patchE s = 10 from if_pos h0)
    have HV := Aside.mk (show patchV s = PPatch.zero from if_neg (by rw [HE.out]; decide))
    rw [rdErr_nil h0]
    clear h0
    go_wp2_with fail
    go_tidy
    refine bodyPost_ret (v := .tuple #[patchVal PPatch.zero, .int .i64 10]) (by simp [results, Tryz.results83, go_sem, o0, o1, o2, o3]; rfl) rfl ⟨by rw [HE.out, HV.out], ?_⟩
    repeat (first | (with_reducible first | exact Below.refl _ _ | assumption | refine below_drewN ?_ _ | refine Below.drew ?_ | refine below_alloc ?_ _) | (with_reducible refine below_set ?_ ?side _; (case side => first | omega | (simp; omega) | (simp only [World.size_alloc]; omega))) | (with_reducible refine below_trans ?_ (by assumption)))
  have HZ := Aside.mk h0
  rw [rdErr_one h0]
  clear h0
  have hq : (numV (some s) 1 : Int) = numV (some s) 1 := rfl
  generalize hk : numV (some s) 1 = k at hq ⊢
  have HK := Aside.mk hk
  clear hk hq
  have hm1 : numV (fixR (some s) 1) 1 < 256 := numV_lt _ _
  by_cases k2 : k = 2
  · subst k2
    have HS := Aside.mk (show rdPatchR s = fixR (fixR (some s) 1) 1 from if_pos HK.out)
    have HP := Aside.mk (show rdPatch s = ⟨true, 0, (numV (fixR (some s) 1) 1), ⟨#[]⟩⟩ from if_pos HK.out)
    have hT : (⟨#[]⟩ : ByteArray).size < 4611686018427387904 := by decide
    go_wp2_with fail
    refine (rdU8_c _ _ _ hR1).mono ?_
    rintro e w2 ⟨rfl, hR2, ht2⟩
    have hO2 := ht2.keep hO1 (by omega)
    have hP2 := ht2.keep hP1 (by omega)
    have hB2 := below_touch hB1 ht2 (by intro i hi e; omega)
    have hz2 := ht2.size
    clear hO1 hP1 hR1 ht2 o0 o1 o2 o3 f0 f1 f2 f3 d0 d1 d2 d3 g0 g1 g2 g3
    obtain ⟨⟨d0, d1, d2, d3⟩, g0, g1, g2, g3⟩ := four hP2
    go_wp2_with fail
    have hP3 : ((((w2.setCell ⟨w.heap.size + 2, 0, none⟩ (.bool true)).setCell ⟨w.heap.size + 2, 1, none⟩ (.int .i64 0)).setCell ⟨w.heap.size + 2, 2, none⟩ (.int .i64 (numV (fixR (some s) 1) 1))).setCell ⟨w.heap.size + 2, 3, none⟩ (.string ⟨#[]⟩)).heap[w.heap.size + 2]? = some (.cells #[.bool true, .int .i64 0, .int .i64 (numV (fixR (some s) 1) 1), .string ⟨#[]⟩] 104 (0, 0)) := heap_set (heap_set (heap_set (heap_set hP2 0 _) 1 _) 2 _) 3 _
    have hO3 := (((hO2 |> (heap_set_ne (k := w.heap.size + 2) (by omega) 0 (.bool true)).trans) |> (heap_set_ne (k := w.heap.size + 2) (by omega) 1 (.int .i64 0)).trans) |> (heap_set_ne (k := w.heap.size + 2) (by omega) 2 (.int .i64 (numV (fixR (some s) 1) 1))).trans) |> (heap_set_ne (k := w.heap.size + 2) (by omega) 3 (.string ⟨#[]⟩)).trans
    have hR3 : RdAt ((((w2.setCell ⟨w.heap.size + 2, 0, none⟩ (.bool true)).setCell ⟨w.heap.size + 2, 1, none⟩ (.int .i64 0)).setCell ⟨w.heap.size + 2, 2, none⟩ (.int .i64 (numV (fixR (some s) 1) 1))).setCell ⟨w.heap.size + 2, 3, none⟩ (.string ⟨#[]⟩)) (w.heap.size + 1) (fixR (fixR (some s) 1) 1) := (((hR2 |> (heap_set_ne (k := w.heap.size + 2) (by omega) 0 (.bool true)).trans) |> (heap_set_ne (k := w.heap.size + 2) (by omega) 1 (.int .i64 0)).trans) |> (heap_set_ne (k := w.heap.size + 2) (by omega) 2 (.int .i64 (numV (fixR (some s) 1) 1))).trans) |> (heap_set_ne (k := w.heap.size + 2) (by omega) 3 (.string ⟨#[]⟩)).trans
    have hB3 : Below w.heap.size w ((((w2.setCell ⟨w.heap.size + 2, 0, none⟩ (.bool true)).setCell ⟨w.heap.size + 2, 1, none⟩ (.int .i64 0)).setCell ⟨w.heap.size + 2, 2, none⟩ (.int .i64 (numV (fixR (some s) 1) 1))).setCell ⟨w.heap.size + 2, 3, none⟩ (.string ⟨#[]⟩)) := below_set (below_set (below_set (below_set hB2 (by simp) _) (by simp) _) (by simp) _) (by simp) _
    have hz3 := hB3.size
    clear d0 d1 d2 d3 g0 g1 g2 g3 hO2 hP2 hR2
    refine (rdErr_c _ _ _ hR3).mono ?_
    rintro e w4 ⟨rfl, rfl⟩
    obtain ⟨⟨o0, o1, o2, o3⟩, f0, f1, f2, f3⟩ := four hO3
    obtain ⟨⟨d0, d1, d2, d3⟩, g0, g1, g2, g3⟩ := four hP3
    generalize hRR : fixR (fixR (some s) 1) 1 = r at hR3 ⊢
    have HR := Aside.mk (HS.out.trans hRR)
    clear hRR
    cases r with
    | none =>
      have HE := Aside.mk (show patchE s = 10 by unfold patchE; rw [if_neg HZ.out, HK.out, if_neg (by decide), if_pos HR.out])
      have HV := Aside.mk (show patchV s = PPatch.zero from if_neg (by rw [HE.out]; decide))
      rw [show rdErr none = 10 from rfl]
      go_wp2_with fail
      go_tidy
      refine bodyPost_ret (v := .tuple #[patchVal PPatch.zero, .int .i64 10]) (by simp [results, Tryz.results83, go_sem, o0, o1, o2, o3]; rfl) rfl ⟨by rw [HE.out, HV.out], ?_⟩
      repeat (first | (with_reducible first | exact Below.refl _ _ | assumption | refine below_drewN ?_ _ | refine Below.drew ?_ | refine below_alloc ?_ _) | (with_reducible refine below_set ?_ ?side _; (case side => first | omega | (simp; omega) | (simp only [World.size_alloc]; omega))) | (with_reducible refine below_trans ?_ (by assumption)))
    | some t =>
      rw [show rdErr (some t) = 0 from rfl]
      go_wp2_with fail
      refine (rdRest_c _ _ _ hR3).mono ?_
      rintro e w5 ⟨rfl, rfl⟩
      rw [show rdRest (some t) = t from rfl]
      by_cases ht : t.size = 0
      · have hte : (t.toList == ([] : List UInt8)) = true := by simpa [toList_nil] using ht
        have HW := Aside.mk (show wholeE (some t) = 0 from if_pos ht)
        clear ht
        by_cases hm : (PPatch.mk true 0 (numV (fixR (some s) 1) 1) ⟨#[]⟩).may = true
        · have HE := Aside.mk (show patchE s = 0 by unfold patchE; rw [if_neg HZ.out, HK.out, if_neg (by decide), HR.out, if_neg (by simp), if_pos ⟨HW.out, HP.out ▸ hm⟩])
          have HV := Aside.mk (show patchV s = rdPatch s from if_pos HE.out)
          have HM := Aside.mk hm
          clear hm
          go_wp2_with fail
          refine (patchMay_c true 0 (numV (fixR (some s) 1) 1) ⟨#[]⟩ hT _).mono ?_
          rintro e w6 ⟨rfl, hb6⟩
          rw [HM.out]
          have hP6 := below_keep hb6 hP3
          have hO6 := below_keep hb6 hO3
          clear o0 o1 o2 o3 f0 f1 f2 f3 d0 d1 d2 d3 g0 g1 g2 g3
          obtain ⟨⟨o0, o1, o2, o3⟩, f0, f1, f2, f3⟩ := four hO6
          obtain ⟨⟨d0, d1, d2, d3⟩, g0, g1, g2, g3⟩ := four hP6
          go_wp2_with fail
          go_tidy
          refine bodyPost_ret (v := .tuple #[patchVal ⟨true, 0, (numV (fixR (some s) 1) 1), ⟨#[]⟩⟩, .int .i64 0]) (by simp [results, Tryz.results83, go_sem, o0, o1, o2, o3]; rfl) rfl ⟨by rw [HE.out, HV.out, HP.out], ?_⟩
          repeat (first | (with_reducible first | exact Below.refl _ _ | assumption | refine below_drewN ?_ _ | refine Below.drew ?_ | refine below_alloc ?_ _) | (with_reducible refine below_set ?_ ?side _; (case side => first | omega | (simp; omega) | (simp only [World.size_alloc]; omega))) | (with_reducible refine below_trans ?_ (by assumption)))
        · have HE := Aside.mk (show patchE s = 4 by unfold patchE; rw [if_neg HZ.out, HK.out, if_neg (by decide), HR.out, if_neg (by simp), if_neg (fun h => hm (HP.out ▸ h.2))])
          have HV := Aside.mk (show patchV s = PPatch.zero from if_neg (by rw [HE.out]; decide))
          have HM := Aside.mk (Bool.eq_false_iff.2 hm)
          clear hm
          go_wp2_with fail
          refine (patchMay_c true 0 (numV (fixR (some s) 1) 1) ⟨#[]⟩ hT _).mono ?_
          rintro e w6 ⟨rfl, hb6⟩
          rw [HM.out]
          have hO6 := below_keep hb6 hO3
          clear o0 o1 o2 o3 f0 f1 f2 f3 d0 d1 d2 d3 g0 g1 g2 g3
          obtain ⟨⟨o0, o1, o2, o3⟩, f0, f1, f2, f3⟩ := four hO6
          go_wp2_with fail
          go_tidy
          refine bodyPost_ret (v := .tuple #[patchVal PPatch.zero, .int .i64 4]) (by simp [results, Tryz.results83, go_sem, o0, o1, o2, o3]; rfl) rfl ⟨by rw [HE.out, HV.out], ?_⟩
          repeat (first | (with_reducible first | exact Below.refl _ _ | assumption | refine below_drewN ?_ _ | refine Below.drew ?_ | refine below_alloc ?_ _) | (with_reducible refine below_set ?_ ?side _; (case side => first | omega | (simp; omega) | (simp only [World.size_alloc]; omega))) | (with_reducible refine below_trans ?_ (by assumption)))
      · have hte : (t.toList == ([] : List UInt8)) = false := by simpa [toList_nil] using ht
        have HE := Aside.mk (show patchE s = 4 by unfold patchE; rw [if_neg HZ.out, HK.out, if_neg (by decide), HR.out, if_neg (by simp), if_neg (fun h => absurd h.1 (by simp [wholeE, ht]))])
        have HV := Aside.mk (show patchV s = PPatch.zero from if_neg (by rw [HE.out]; decide))
        clear ht
        go_wp2_with fail
        go_tidy
        refine bodyPost_ret (v := .tuple #[patchVal PPatch.zero, .int .i64 4]) (by simp [results, Tryz.results83, go_sem, o0, o1, o2, o3]; rfl) rfl ⟨by rw [HE.out, HV.out], ?_⟩
        repeat (first | (with_reducible first | exact Below.refl _ _ | assumption | refine below_drewN ?_ _ | refine Below.drew ?_ | refine below_alloc ?_ _) | (with_reducible refine below_set ?_ ?side _; (case side => first | omega | (simp; omega) | (simp only [World.size_alloc]; omega))) | (with_reducible refine below_trans ?_ (by assumption)))
  by_cases k1 : k = 1
  · subst k1
    have HS := Aside.mk (show rdPatchR s = textR (fixR (fixR (some s) 1) 1) from if_neg (by rw [HK.out]; decide))
    have HP := Aside.mk (show rdPatch s = ⟨false, (numV (fixR (some s) 1) 1), 0, (textV (fixR (fixR (some s) 1) 1))⟩ from if_neg (by rw [HK.out]; decide))
    have hT : ((textV (fixR (fixR (some s) 1) 1)) : ByteArray).size < 4611686018427387904 := by
      have h1 := fixV_size (fixR (fixR (fixR (some s) 1) 1) 2) (numV (fixR (fixR (some s) 1) 1) 2)
      have h2 : numV (fixR (fixR (some s) 1) 1) 2 < 65536 := numV_lt _ _
      show (fixV _ _).size < _
      omega
    go_wp2_with fail
    refine (rdU8_c _ _ _ hR1).mono ?_
    rintro e w2 ⟨rfl, hR2, ht2⟩
    have hO2 := ht2.keep hO1 (by omega)
    have hP2 := ht2.keep hP1 (by omega)
    have hB2 := below_touch hB1 ht2 (by intro i hi e; omega)
    have hz2 := ht2.size
    clear hO1 hP1 hR1 ht2 o0 o1 o2 o3 f0 f1 f2 f3 d0 d1 d2 d3 g0 g1 g2 g3
    obtain ⟨⟨d0, d1, d2, d3⟩, g0, g1, g2, g3⟩ := four hP2
    go_wp2_with fail
    have hP3 : (w2.setCell ⟨w.heap.size + 2, 1, none⟩ (.int .i64 (numV (fixR (some s) 1) 1))).heap[w.heap.size + 2]? = some (.cells #[.bool false, .int .i64 (numV (fixR (some s) 1) 1), .int .i64 0, .string ⟨#[]⟩] 104 (0, 0)) := heap_set hP2 1 _
    have hO3 := hO2 |> (heap_set_ne (k := w.heap.size + 2) (by omega) 1 (.int .i64 (numV (fixR (some s) 1) 1))).trans
    have hR3 : RdAt (w2.setCell ⟨w.heap.size + 2, 1, none⟩ (.int .i64 (numV (fixR (some s) 1) 1))) (w.heap.size + 1) (fixR (fixR (some s) 1) 1) := hR2 |> (heap_set_ne (k := w.heap.size + 2) (by omega) 1 (.int .i64 (numV (fixR (some s) 1) 1))).trans
    have hB3 : Below w.heap.size w (w2.setCell ⟨w.heap.size + 2, 1, none⟩ (.int .i64 (numV (fixR (some s) 1) 1))) := below_set hB2 (by simp) _
    clear d0 d1 d2 d3 g0 g1 g2 g3 hO2 hP2 hR2
    refine (rdText_c _ _ _ hR3).mono ?_
    rintro e w3 ⟨rfl, hR2, ht3⟩
    have hO2 := ht3.keep hO3 (by omega)
    have hP2 := ht3.keep hP3 (by omega)
    have hB2 := below_touch hB3 ht3 (by intro i hi e; omega)
    have hz3 := ht3.size
    simp at hz3
    clear hO3 hP3 hR3 ht3
    obtain ⟨⟨d0, d1, d2, d3⟩, g0, g1, g2, g3⟩ := four hP2
    go_wp2_with fail
    have hP3 : (w3.setCell ⟨w.heap.size + 2, 3, none⟩ (.string (textV (fixR (fixR (some s) 1) 1)))).heap[w.heap.size + 2]? = some (.cells #[.bool false, .int .i64 (numV (fixR (some s) 1) 1), .int .i64 0, .string (textV (fixR (fixR (some s) 1) 1))] 104 (0, 0)) := heap_set hP2 3 _
    have hO3 := hO2 |> (heap_set_ne (k := w.heap.size + 2) (by omega) 3 (.string (textV (fixR (fixR (some s) 1) 1)))).trans
    have hR3 : RdAt (w3.setCell ⟨w.heap.size + 2, 3, none⟩ (.string (textV (fixR (fixR (some s) 1) 1)))) (w.heap.size + 1) (textR (fixR (fixR (some s) 1) 1)) := hR2 |> (heap_set_ne (k := w.heap.size + 2) (by omega) 3 (.string (textV (fixR (fixR (some s) 1) 1)))).trans
    have hB3 : Below w.heap.size w (w3.setCell ⟨w.heap.size + 2, 3, none⟩ (.string (textV (fixR (fixR (some s) 1) 1)))) := below_set hB2 (by simp) _
    clear d0 d1 d2 d3 g0 g1 g2 g3 hO2 hP2 hR2
    refine (rdErr_c _ _ _ hR3).mono ?_
    rintro e w4 ⟨rfl, rfl⟩
    obtain ⟨⟨o0, o1, o2, o3⟩, f0, f1, f2, f3⟩ := four hO3
    obtain ⟨⟨d0, d1, d2, d3⟩, g0, g1, g2, g3⟩ := four hP3
    generalize hRR : textR (fixR (fixR (some s) 1) 1) = r at hR3 ⊢
    have HR := Aside.mk (HS.out.trans hRR)
    clear hRR
    cases r with
    | none =>
      have HE := Aside.mk (show patchE s = 10 by unfold patchE; rw [if_neg HZ.out, HK.out, if_neg (by decide), if_pos HR.out])
      have HV := Aside.mk (show patchV s = PPatch.zero from if_neg (by rw [HE.out]; decide))
      rw [show rdErr none = 10 from rfl]
      go_wp2_with fail
      go_tidy
      refine bodyPost_ret (v := .tuple #[patchVal PPatch.zero, .int .i64 10]) (by simp [results, Tryz.results83, go_sem, o0, o1, o2, o3]; rfl) rfl ⟨by rw [HE.out, HV.out], ?_⟩
      repeat (first | (with_reducible first | exact Below.refl _ _ | assumption | refine below_drewN ?_ _ | refine Below.drew ?_ | refine below_alloc ?_ _) | (with_reducible refine below_set ?_ ?side _; (case side => first | omega | (simp; omega) | (simp only [World.size_alloc]; omega))) | (with_reducible refine below_trans ?_ (by assumption)))
    | some t =>
      rw [show rdErr (some t) = 0 from rfl]
      go_wp2_with fail
      refine (rdRest_c _ _ _ hR3).mono ?_
      rintro e w5 ⟨rfl, rfl⟩
      rw [show rdRest (some t) = t from rfl]
      by_cases ht : t.size = 0
      · have hte : (t.toList == ([] : List UInt8)) = true := by simpa [toList_nil] using ht
        have HW := Aside.mk (show wholeE (some t) = 0 from if_pos ht)
        clear ht
        by_cases hm : (PPatch.mk false (numV (fixR (some s) 1) 1) 0 (textV (fixR (fixR (some s) 1) 1))).may = true
        · have HE := Aside.mk (show patchE s = 0 by unfold patchE; rw [if_neg HZ.out, HK.out, if_neg (by decide), HR.out, if_neg (by simp), if_pos ⟨HW.out, HP.out ▸ hm⟩])
          have HV := Aside.mk (show patchV s = rdPatch s from if_pos HE.out)
          have HM := Aside.mk hm
          clear hm
          go_wp2_with fail
          refine (patchMay_c false (numV (fixR (some s) 1) 1) 0 (textV (fixR (fixR (some s) 1) 1)) hT _).mono ?_
          rintro e w6 ⟨rfl, hb6⟩
          rw [HM.out]
          have hP6 := below_keep hb6 hP3
          have hO6 := below_keep hb6 hO3
          clear o0 o1 o2 o3 f0 f1 f2 f3 d0 d1 d2 d3 g0 g1 g2 g3
          obtain ⟨⟨o0, o1, o2, o3⟩, f0, f1, f2, f3⟩ := four hO6
          obtain ⟨⟨d0, d1, d2, d3⟩, g0, g1, g2, g3⟩ := four hP6
          go_wp2_with fail
          go_tidy
          refine bodyPost_ret (v := .tuple #[patchVal ⟨false, (numV (fixR (some s) 1) 1), 0, (textV (fixR (fixR (some s) 1) 1))⟩, .int .i64 0]) (by simp [results, Tryz.results83, go_sem, o0, o1, o2, o3]; rfl) rfl ⟨by rw [HE.out, HV.out, HP.out], ?_⟩
          repeat (first | (with_reducible first | exact Below.refl _ _ | assumption | refine below_drewN ?_ _ | refine Below.drew ?_ | refine below_alloc ?_ _) | (with_reducible refine below_set ?_ ?side _; (case side => first | omega | (simp; omega) | (simp only [World.size_alloc]; omega))) | (with_reducible refine below_trans ?_ (by assumption)))
        · have HE := Aside.mk (show patchE s = 4 by unfold patchE; rw [if_neg HZ.out, HK.out, if_neg (by decide), HR.out, if_neg (by simp), if_neg (fun h => hm (HP.out ▸ h.2))])
          have HV := Aside.mk (show patchV s = PPatch.zero from if_neg (by rw [HE.out]; decide))
          have HM := Aside.mk (Bool.eq_false_iff.2 hm)
          clear hm
          go_wp2_with fail
          refine (patchMay_c false (numV (fixR (some s) 1) 1) 0 (textV (fixR (fixR (some s) 1) 1)) hT _).mono ?_
          rintro e w6 ⟨rfl, hb6⟩
          rw [HM.out]
          have hO6 := below_keep hb6 hO3
          clear o0 o1 o2 o3 f0 f1 f2 f3 d0 d1 d2 d3 g0 g1 g2 g3
          obtain ⟨⟨o0, o1, o2, o3⟩, f0, f1, f2, f3⟩ := four hO6
          go_wp2_with fail
          go_tidy
          refine bodyPost_ret (v := .tuple #[patchVal PPatch.zero, .int .i64 4]) (by simp [results, Tryz.results83, go_sem, o0, o1, o2, o3]; rfl) rfl ⟨by rw [HE.out, HV.out], ?_⟩
          repeat (first | (with_reducible first | exact Below.refl _ _ | assumption | refine below_drewN ?_ _ | refine Below.drew ?_ | refine below_alloc ?_ _) | (with_reducible refine below_set ?_ ?side _; (case side => first | omega | (simp; omega) | (simp only [World.size_alloc]; omega))) | (with_reducible refine below_trans ?_ (by assumption)))
      · have hte : (t.toList == ([] : List UInt8)) = false := by simpa [toList_nil] using ht
        have HE := Aside.mk (show patchE s = 4 by unfold patchE; rw [if_neg HZ.out, HK.out, if_neg (by decide), HR.out, if_neg (by simp), if_neg (fun h => absurd h.1 (by simp [wholeE, ht]))])
        have HV := Aside.mk (show patchV s = PPatch.zero from if_neg (by rw [HE.out]; decide))
        clear ht
        go_wp2_with fail
        go_tidy
        refine bodyPost_ret (v := .tuple #[patchVal PPatch.zero, .int .i64 4]) (by simp [results, Tryz.results83, go_sem, o0, o1, o2, o3]; rfl) rfl ⟨by rw [HE.out, HV.out], ?_⟩
        repeat (first | (with_reducible first | exact Below.refl _ _ | assumption | refine below_drewN ?_ _ | refine Below.drew ?_ | refine below_alloc ?_ _) | (with_reducible refine below_set ?_ ?side _; (case side => first | omega | (simp; omega) | (simp only [World.size_alloc]; omega))) | (with_reducible refine below_trans ?_ (by assumption)))
  have e1 : ((k : Int) == 1) = false := beq_eq_false_iff_ne.2 (by omega)
  have e2 : ((k : Int) == 2) = false := beq_eq_false_iff_ne.2 (by omega)
  have HE := Aside.mk (show patchE s = 4 by unfold patchE; rw [if_neg HZ.out, HK.out, if_pos ⟨k1, k2⟩])
  have HV := Aside.mk (show patchV s = PPatch.zero from if_neg (by rw [HE.out]; decide))
  clear k1 k2
  go_wp2_with fail
  go_tidy
  refine bodyPost_ret (v := .tuple #[patchVal PPatch.zero, .int .i64 4]) (by simp [results, Tryz.results83, go_sem, o0, o1, o2, o3]; rfl) rfl ⟨by rw [HE.out, HV.out], ?_⟩
  repeat (first | (with_reducible first | exact Below.refl _ _ | assumption | refine below_drewN ?_ _ | refine Below.drew ?_ | refine below_alloc ?_ _) | (with_reducible refine below_set ?_ ?side _; (case side => first | omega | (simp; omega) | (simp only [World.size_alloc]; omega))) | (with_reducible refine below_trans ?_ (by assumption)))
end Go.Proofs.YtmggpfngbkbkmaaGreatDoor
