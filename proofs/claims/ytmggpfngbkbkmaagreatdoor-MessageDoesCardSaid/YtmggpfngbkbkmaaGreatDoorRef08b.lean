/- What rillbedref08 does (2): Take. -/
import Derived.Test.YtmggpfngbkbkmaaGreatDoorRef08
import Derived.Test.YtmggpfngbkbkmaaGreatDoorRef07b
namespace Go.Proofs.YtmggpfngbkbkmaaGreatDoor
open Go.RowKit
set_option linter.unusedVariables false
set_option linter.unusedSimpArgs false

theorem patchE_torn {s : ByteArray} (h0 : s.size ≠ 0) (hk : numV (some s) 1 = 1 ∨ numV (some s) 1 = 2) (h : rdPatchR s = none) : patchE s = 10 := by
  unfold patchE; rw [if_neg h0, if_neg (by omega), if_pos h]
theorem patchE_more {s t : ByteArray} (h0 : s.size ≠ 0) (hk : numV (some s) 1 = 1 ∨ numV (some s) 1 = 2) (h : rdPatchR s = some t) (ht : t.size ≠ 0) : patchE s = 4 := by
  unfold patchE; rw [if_neg h0, if_neg (by omega), h, if_neg (by simp), if_neg (fun h => absurd h.1 (by simp [wholeE, ht]))]
theorem patchE_yes {s t : ByteArray} {p : PPatch} (h0 : s.size ≠ 0) (hk : numV (some s) 1 = 1 ∨ numV (some s) 1 = 2) (h : rdPatchR s = some t) (ht : t.size = 0) (hp : rdPatch s = p) (hm : p.may = true) : patchE s = 0 := by
  unfold patchE; rw [if_neg h0, if_neg (by omega), h, if_neg (by simp), if_pos ⟨by simp [wholeE, ht], by rw [hp, hm]⟩]
theorem patchE_no {s t : ByteArray} {p : PPatch} (h0 : s.size ≠ 0) (hk : numV (some s) 1 = 1 ∨ numV (some s) 1 = 2) (h : rdPatchR s = some t) (hp : rdPatch s = p) (hm : p.may = false) : patchE s = 4 := by
  unfold patchE; rw [if_neg h0, if_neg (by omega), h, if_neg (by simp), if_neg (fun h => by rw [hp, hm] at h; exact absurd h.2 (by decide))]
theorem numV_first {s : ByteArray} (h0 : 0 < s.size) : numV (some s) 1 = (s[0]).toNat := by
  have := numV_ext s 0 1 (by omega)
  rw [ext_self, be_one s 0 h0] at this
  exact this
theorem k2_short {s : ByteArray} (h0 : 0 < s.size) (hk : (s[0]).toNat = 2) (h : s.size < 2) : rdPatchR s = none := by
  unfold rdPatchR
  rw [if_pos (by rw [numV_first h0, hk])]
  conv => lhs; arg 1; rw [← ext_self s]
  rw [fixR_ext s 0 1 (by omega), fixR_short s _ 1 (by omega) (by omega)]
theorem k2_long {s : ByteArray} (h : 2 ≤ s.size) (hk : (s[0]).toNat = 2) : rdPatchR s = some (s.extract 2 s.size) ∧ rdPatch s = ⟨true, 0, (s[1]).toNat, ⟨#[]⟩⟩ := by
  have e : some s = some (s.extract 0 s.size) := by rw [ext_self]
  have hn : numV (some s) 1 = 2 := by rw [numV_first (by omega), hk]
  have hr : fixR (some s) 1 = some (s.extract 1 s.size) := by rw [e, fixR_ext s _ 1 (by omega)]
  constructor
  · unfold rdPatchR; rw [if_pos hn, hr, fixR_ext s _ 1 (by omega)]
  · unfold rdPatch; rw [if_pos hn, hr, numV_ext s _ 1 (by omega), be_one s 1 (by omega)]
theorem be_two (s : ByteArray) (i : Nat) (h : i + 1 < s.size) : be (s.extract i (i + 2)).data.toList = (s[i]).toNat * 256 + (s[i + 1]).toNat := by
  have e1 := ext_snoc s i (i + 2) 1 (by omega) (by omega)
  have e2 := ext_snoc s i (i + 2) 0 (by omega) (by omega)
  rw [List.take_of_length_le (by simp; omega)] at e1
  rw [e1, be_snoc, e2]
  simp [be]
theorem k1_short {s : ByteArray} (h0 : 0 < s.size) (hk : (s[0]).toNat = 1) (h : s.size < 4) : rdPatchR s = none := by
  have e : some s = some (s.extract 0 s.size) := by rw [ext_self]
  have hn : numV (some s) 1 = 1 := by rw [numV_first (by omega), hk]
  unfold rdPatchR textR
  rw [if_neg (by rw [hn]; decide)]
  have : fixR (fixR (fixR (some s) 1) 1) 2 = none := by
    rw [e, fixR_ext s _ 1 (by omega)]
    by_cases h2 : s.size < 2
    · rw [fixR_short s _ 1 (by omega) (by omega)]; rfl
    · rw [fixR_ext s _ 1 (by omega), fixR_short s _ 2 (by omega) (by omega)]
  rw [this]; rfl
theorem k1_n {s : ByteArray} (h : 4 ≤ s.size) : numV (fixR (fixR (some s) 1) 1) 2 = (s[2]).toNat * 256 + (s[3]).toNat := by
  have e : some s = some (s.extract 0 s.size) := by rw [ext_self]
  rw [e, fixR_ext s _ 1 (by omega), fixR_ext s _ 1 (by omega), numV_ext s _ 2 (by omega), be_two s 2 (by omega)]
theorem k1_torn {s : ByteArray} (h : 4 ≤ s.size) (hk : (s[0]).toNat = 1) (hs : s.size < 4 + ((s[2]).toNat * 256 + (s[3]).toNat)) : rdPatchR s = none := by
  have e : some s = some (s.extract 0 s.size) := by rw [ext_self]
  have hn : numV (some s) 1 = 1 := by rw [numV_first (by omega), hk]
  unfold rdPatchR textR
  rw [if_neg (by rw [hn]; decide), k1_n h, e, fixR_ext s _ 1 (by omega), fixR_ext s _ 1 (by omega), fixR_ext s _ 2 (by omega), fixR_short s _ _ (by omega) (by omega)]
theorem k1_long {s : ByteArray} (h : 4 ≤ s.size) (hk : (s[0]).toNat = 1) (hs : 4 + ((s[2]).toNat * 256 + (s[3]).toNat) ≤ s.size) :
    rdPatchR s = some (s.extract (4 + ((s[2]).toNat * 256 + (s[3]).toNat)) s.size) ∧ rdPatch s = ⟨false, (s[1]).toNat, 0, s.extract 4 (4 + ((s[2]).toNat * 256 + (s[3]).toNat))⟩ := by
  have e : some s = some (s.extract 0 s.size) := by rw [ext_self]
  have hn : numV (some s) 1 = 1 := by rw [numV_first (by omega), hk]
  have hr : fixR (some s) 1 = some (s.extract 1 s.size) := by rw [e, fixR_ext s _ 1 (by omega)]
  have hr2 : fixR (fixR (some s) 1) 1 = some (s.extract 2 s.size) := by rw [hr, fixR_ext s _ 1 (by omega)]
  constructor
  · unfold rdPatchR textR; rw [if_neg (by rw [hn]; decide), k1_n h, hr2, fixR_ext s _ 2 (by omega), fixR_ext s _ _ (by omega)]
  · unfold rdPatch textV
    rw [if_neg (by rw [hn]; decide), k1_n h, hr2, fixR_ext s _ 2 (by omega), hr, numV_ext s _ 1 (by omega), be_one s 1 (by omega)]
    congr 1
    have hz : (s.extract 4 s.size).size = s.size - 4 := by simp
    show (if _ ≤ (s.extract 4 s.size).size then _ else _) = _
    rw [hz, if_pos (by omega), ext_ext]
    congr 1
    omega

set_option maxHeartbeats 4000000 in
set_option maxRecDepth 100000 in
theorem rpTake1_c (s : ByteArray) (hs : s.size < 4611686018427387904) (h4 : 4 ≤ s.size) (k1 : (s[0]).toNat = 1) (hn4 : 4 + ((s[2]).toNat * 256 + (s[3]).toNat) ≤ s.size) (w : World) :
    Calls Tryz.prog 50 #[.string s] w (Ret w (.tuple #[patchVal (patchV s), .int .i64 (patchE s)])) := by
  have HO := Aside.mk (heap_new w (.cells #[.bool false, .int .i64 0, .int .i64 0, .string ⟨#[]⟩] 69))
  have h0 : ¬ s.size = 0 := by omega
  have hp : 0 < s.size := by omega
  have hpi : (0 : Int) < (s.size : Int) := by omega
  have hp2 : (2 : Int) < (s.size : Int) := by omega
  have hp3 : (3 : Int) < (s.size : Int) := by omega
  have hge : (4 : Int) + (256 : Int) * ((s[2]).toNat : Int) + ((s[3]).toNat : Int) ≤ (s.size : Int) := by omega
  have HK := Aside.mk (numV_first hp)
  have HKK : Aside (numV (some s) 1 = 1 ∨ numV (some s) 1 = 2) := ⟨.inl (by rw [HK.out, k1])⟩
  have e1 : (((s[0]).toNat : Int) == 2) = false := by rw [k1]; rfl
  have e2 : (((s[0]).toNat : Int) != 1) = false := by rw [k1]; rfl
  have h2lt := (s[2]).toNat_lt
  have h3lt := (s[3]).toNat_lt
  have hL := k1_long (by omega) k1 (by omega)
  rw [show 4 + ((s[2]).toNat * 256 + (s[3]).toNat) = 4 + 256 * (s[2]).toNat + (s[3]).toNat by omega] at hL
  have hT : (s.extract 4 (4 + 256 * (s[2]).toNat + (s[3]).toNat)).size < 4611686018427387904 := by simp; omega
  have HR := Aside.mk hL.1
  have HP := Aside.mk hL.2
  clear hL
  have h1lt := (s[1]).toNat_lt
  have hO1' := fun n => (show (((w.alloc (.cells #[.bool false, .int .i64 0, .int .i64 0, .string ⟨#[]⟩] 69)).alloc (.cells #[.bool false, .int .i64 0, .int .i64 0, .string ⟨#[]⟩] 69)).drewN n).heap[w.heap.size]? = some (.cells #[.bool false, .int .i64 0, .int .i64 0, .string ⟨#[]⟩] 69) from heap_alloc HO.out (.cells #[.bool false, .int .i64 0, .int .i64 0, .string ⟨#[]⟩] 69))
  have hP1' := fun n => (show (((w.alloc (.cells #[.bool false, .int .i64 0, .int .i64 0, .string ⟨#[]⟩] 69)).alloc (.cells #[.bool false, .int .i64 0, .int .i64 0, .string ⟨#[]⟩] 69)).drewN n).heap[w.heap.size + 1]? = some (.cells #[.bool false, .int .i64 0, .int .i64 0, .string ⟨#[]⟩] 69) from heap_new' (w.alloc (.cells #[.bool false, .int .i64 0, .int .i64 0, .string ⟨#[]⟩] 69)) (.cells #[.bool false, .int .i64 0, .int .i64 0, .string ⟨#[]⟩] 69) (g := w.heap.size + 1) (by simp))
  have hO1 : ∀ n, (((((w.alloc (.cells #[.bool false, .int .i64 0, .int .i64 0, .string ⟨#[]⟩] 69)).alloc (.cells #[.bool false, .int .i64 0, .int .i64 0, .string ⟨#[]⟩] 69)).drewN n).setCell ⟨w.heap.size + 1, 1, none⟩ (.int .i64 ((s[1]).toNat))).setCell ⟨w.heap.size + 1, 3, none⟩ (.string (s.extract 4 (4 + 256 * (s[2]).toNat + (s[3]).toNat)))).heap[w.heap.size]? = some (.cells #[.bool false, .int .i64 0, .int .i64 0, .string ⟨#[]⟩] 69) := fun n => (heap_set_ne (by omega) 3 _).trans ((heap_set_ne (by omega) 1 _).trans (hO1' n))
  have hP1 : ∀ n, (((((w.alloc (.cells #[.bool false, .int .i64 0, .int .i64 0, .string ⟨#[]⟩] 69)).alloc (.cells #[.bool false, .int .i64 0, .int .i64 0, .string ⟨#[]⟩] 69)).drewN n).setCell ⟨w.heap.size + 1, 1, none⟩ (.int .i64 ((s[1]).toNat))).setCell ⟨w.heap.size + 1, 3, none⟩ (.string (s.extract 4 (4 + 256 * (s[2]).toNat + (s[3]).toNat)))).heap[w.heap.size + 1]? = some (.cells #[.bool false, .int .i64 ((s[1]).toNat), .int .i64 0, .string (s.extract 4 (4 + 256 * (s[2]).toNat + (s[3]).toNat))] 69 (0, 0)) := fun n => heap_set (heap_set (hP1' n) 1 _) 3 _
  have HO1 := Aside.mk hO1
  have HP1 := Aside.mk hP1
  clear hO1' hP1' hO1 hP1
  have hor : ((s.extract (4 + 256 * (s[2]).toNat + (s[3]).toNat) s.size).size = 0 ∧ (s.size : Int) ≤ (4 : Int) + (256 : Int) * ((s[2]).toNat : Int) + ((s[3]).toNat : Int)) ∨ ((s.extract (4 + 256 * (s[2]).toNat + (s[3]).toNat) s.size).size ≠ 0 ∧ (4 : Int) + (256 : Int) * ((s[2]).toNat : Int) + ((s[3]).toNat : Int) < (s.size : Int)) := by
    have hz : (s.extract (4 + 256 * (s[2]).toNat + (s[3]).toNat) s.size).size = s.size - (4 + 256 * (s[2]).toNat + (s[3]).toNat) := by simp
    rw [hz]; omega
  rcases hor with ⟨ht, hle⟩ | ⟨hmore, hlt⟩
  · go_enter Tryz.func50, Tryz.ntmps50
    go_wp2_with fail
    go_quiet (fail)
    have hO1 := HO1.out nq
    have hP1 := HP1.out nq
    obtain ⟨⟨o0, o1, o2, o3⟩, f0, f1, f2, f3⟩ := four hO1
    obtain ⟨⟨d0, d1, d2, d3⟩, g0, g1, g2, g3⟩ := four hP1
    by_cases hm : (PPatch.mk false ((s[1]).toNat) 0 (s.extract 4 (4 + 256 * (s[2]).toNat + (s[3]).toNat))).may = true
    · have HE := Aside.mk (patchE_yes h0 HKK.out HR.out ht HP.out hm)
      have HV := Aside.mk ((show patchV s = rdPatch s from if_pos HE.out).trans HP.out)
      have HM := Aside.mk hm
      clear hm ht
      go_wp2_with fail
      refine (rpatchMay_c _ _ _ _ hT _).mono ?_
      rintro e w6 ⟨rfl, hb6⟩
      rw [HM.out]
      clear o0 o1 o2 o3 f0 f1 f2 f3 d0 d1 d2 d3 g0 g1 g2 g3
      obtain ⟨⟨o0, o1, o2, o3⟩, f0, f1, f2, f3⟩ := four (below_keep hb6 hO1)
      obtain ⟨⟨d0, d1, d2, d3⟩, g0, g1, g2, g3⟩ := four (below_keep hb6 hP1)
      go_wp2_with fail
      go_tidy
      refine bodyPost_ret (v := .tuple #[patchVal ⟨false, ((s[1]).toNat), 0, (s.extract 4 (4 + 256 * (s[2]).toNat + (s[3]).toNat))⟩, .int .i64 0]) (by simp [results, Tryz.results50, go_sem, o0, o1, o2, o3]; rfl) rfl ⟨by rw [HE.out, HV.out], ?_⟩
      repeat (first | (with_reducible first | exact Below.refl _ _ | assumption | refine below_drewN ?_ _ | refine Below.drew ?_ | refine below_alloc ?_ _) | (with_reducible refine below_set ?_ ?side _; (case side => first | omega | (simp; omega) | (simp only [World.size_alloc]; omega))) | (with_reducible refine below_trans ?_ (by assumption)))
    · have HE := Aside.mk (patchE_no h0 HKK.out HR.out HP.out (Bool.eq_false_iff.2 hm))
      have HV := Aside.mk (show patchV s = PPatch.zero from if_neg (by rw [HE.out]; decide))
      have HM := Aside.mk (Bool.eq_false_iff.2 hm)
      clear hm ht
      go_wp2_with fail
      refine (rpatchMay_c _ _ _ _ hT _).mono ?_
      rintro e w6 ⟨rfl, hb6⟩
      rw [HM.out]
      clear o0 o1 o2 o3 f0 f1 f2 f3 d0 d1 d2 d3 g0 g1 g2 g3
      obtain ⟨⟨o0, o1, o2, o3⟩, f0, f1, f2, f3⟩ := four (below_keep hb6 hO1)
      go_wp2_with fail
      go_tidy
      refine bodyPost_ret (v := .tuple #[patchVal PPatch.zero, .int .i64 4]) (by simp [results, Tryz.results50, go_sem, o0, o1, o2, o3]; rfl) rfl ⟨by rw [HE.out, HV.out], ?_⟩
      repeat (first | (with_reducible first | exact Below.refl _ _ | assumption | refine below_drewN ?_ _ | refine Below.drew ?_ | refine below_alloc ?_ _) | (with_reducible refine below_set ?_ ?side _; (case side => first | omega | (simp; omega) | (simp only [World.size_alloc]; omega))) | (with_reducible refine below_trans ?_ (by assumption)))
  · have HE := Aside.mk (patchE_more h0 HKK.out HR.out hmore)
    have HV := Aside.mk (show patchV s = PPatch.zero from if_neg (by rw [HE.out]; decide))
    clear hmore
    go_enter Tryz.func50, Tryz.ntmps50
    go_wp2_with fail
    go_quiet (fail)
    obtain ⟨⟨o0, o1, o2, o3⟩, f0, f1, f2, f3⟩ := four (HO1.out nq)
    go_wp2_with fail
    go_tidy
    refine bodyPost_ret (v := .tuple #[patchVal PPatch.zero, .int .i64 4]) (by simp [results, Tryz.results50, go_sem, o0, o1, o2, o3]; rfl) rfl ⟨by rw [HE.out, HV.out], ?_⟩
    repeat (first | (with_reducible first | exact Below.refl _ _ | assumption | refine below_drewN ?_ _ | refine Below.drew ?_ | refine below_alloc ?_ _) | (with_reducible refine below_set ?_ ?side _; (case side => first | omega | (simp; omega) | (simp only [World.size_alloc]; omega))) | (with_reducible refine below_trans ?_ (by assumption)))
set_option maxHeartbeats 2000000 in
set_option maxRecDepth 100000 in
theorem rpTake_c (s : ByteArray) (hs : s.size < 4611686018427387904) (w : World) :
    Calls Tryz.prog 50 #[.string s] w (Ret w (.tuple #[patchVal (patchV s), .int .i64 (patchE s)])) := by
  have hO := heap_new w (.cells #[.bool false, .int .i64 0, .int .i64 0, .string ⟨#[]⟩] 69)
  have HO := Aside.mk hO
  obtain ⟨⟨o0, o1, o2, o3⟩, f0, f1, f2, f3⟩ := four hO
  clear hO
  by_cases h0 : s.size = 0
  · have HE := Aside.mk (show patchE s = 10 from if_pos h0)
    have HV := Aside.mk (show patchV s = PPatch.zero from if_neg (by rw [HE.out]; decide))
    go_enter Tryz.func50, Tryz.ntmps50
    go_wp2_with fail
    go_tidy
    refine bodyPost_ret (v := .tuple #[patchVal PPatch.zero, .int .i64 10]) (by simp [results, Tryz.results50, go_sem, o0, o1, o2, o3]; rfl) rfl ⟨by rw [HE.out, HV.out], ?_⟩
    repeat (first | (with_reducible first | exact Below.refl _ _ | assumption | refine below_drewN ?_ _ | refine Below.drew ?_ | refine below_alloc ?_ _) | (with_reducible refine below_set ?_ ?side _; (case side => first | omega | (simp; omega) | (simp only [World.size_alloc]; omega))) | (with_reducible refine below_trans ?_ (by assumption)))
  have hp : 0 < s.size := by omega
  have hpi : (0 : Int) < (s.size : Int) := by omega
  have HK := Aside.mk (numV_first hp)
  by_cases k2 : (s[0]).toNat = 2
  · have HKK : Aside (numV (some s) 1 = 1 ∨ numV (some s) 1 = 2) := ⟨.inr (by rw [HK.out, k2])⟩
    have e1 : (((s[0]).toNat : Int) == 2) = true := by rw [k2]; rfl
    have e2 : (((s[0]).toNat : Int) != 2) = false := by rw [k2]; rfl
    by_cases hsh : s.size < 2
    · have HE := Aside.mk (patchE_torn h0 HKK.out (k2_short hp k2 hsh))
      have HV := Aside.mk (show patchV s = PPatch.zero from if_neg (by rw [HE.out]; decide))
      obtain ⟨⟨o0, o1, o2, o3⟩, f0, f1, f2, f3⟩ := four (heap_alloc HO.out (.cells #[.bool false, .int .i64 0, .int .i64 0, .string ⟨#[]⟩] 69))
      go_enter Tryz.func50, Tryz.ntmps50
      go_wp2_with fail
      go_tidy
      refine bodyPost_ret (v := .tuple #[patchVal PPatch.zero, .int .i64 10]) (by simp [results, Tryz.results50, go_sem, o0, o1, o2, o3]; rfl) rfl ⟨by rw [HE.out, HV.out], ?_⟩
      repeat (first | (with_reducible first | exact Below.refl _ _ | assumption | refine below_drewN ?_ _ | refine Below.drew ?_ | refine below_alloc ?_ _) | (with_reducible refine below_set ?_ ?side _; (case side => first | omega | (simp; omega) | (simp only [World.size_alloc]; omega))) | (with_reducible refine below_trans ?_ (by assumption)))
    have hL := k2_long (by omega) k2
    have HR := Aside.mk hL.1
    have HP := Aside.mk hL.2
    have hT : (⟨#[]⟩ : ByteArray).size < 4611686018427387904 := by decide
    have h1lt := (s[1]).toNat_lt
    clear hL
    have hO1 := heap_alloc HO.out (.cells #[.bool true, .int .i64 0, .int .i64 (s[1]).toNat, .string ⟨#[]⟩] 69)
    have hP1 := heap_new' (w.alloc (.cells #[.bool false, .int .i64 0, .int .i64 0, .string ⟨#[]⟩] 69)) (.cells #[.bool true, .int .i64 0, .int .i64 (s[1]).toNat, .string ⟨#[]⟩] 69) (g := w.heap.size + 1) (by simp)
    clear o0 o1 o2 o3 f0 f1 f2 f3
    obtain ⟨⟨o0, o1, o2, o3⟩, f0, f1, f2, f3⟩ := four hO1
    obtain ⟨⟨d0, d1, d2, d3⟩, g0, g1, g2, g3⟩ := four hP1
    by_cases hmore : s.size = 2
    · have ht : (s.extract 2 s.size).size = 0 := by simp; omega
      go_enter Tryz.func50, Tryz.ntmps50
      by_cases hm : (PPatch.mk true 0 ((s[1]).toNat) ⟨#[]⟩).may = true
      · have HE := Aside.mk (patchE_yes h0 HKK.out HR.out ht HP.out hm)
        have HV := Aside.mk ((show patchV s = rdPatch s from if_pos HE.out).trans HP.out)
        have HM := Aside.mk hm
        clear hm ht
        go_wp2_with fail
        refine (rpatchMay_c _ _ _ _ hT _).mono ?_
        rintro e w6 ⟨rfl, hb6⟩
        rw [HM.out]
        clear o0 o1 o2 o3 f0 f1 f2 f3 d0 d1 d2 d3 g0 g1 g2 g3
        obtain ⟨⟨o0, o1, o2, o3⟩, f0, f1, f2, f3⟩ := four (below_keep hb6 hO1)
        obtain ⟨⟨d0, d1, d2, d3⟩, g0, g1, g2, g3⟩ := four (below_keep hb6 hP1)
        go_wp2_with fail
        go_tidy
        refine bodyPost_ret (v := .tuple #[patchVal ⟨true, 0, ((s[1]).toNat), ⟨#[]⟩⟩, .int .i64 0]) (by simp [results, Tryz.results50, go_sem, o0, o1, o2, o3]; rfl) rfl ⟨by rw [HE.out, HV.out], ?_⟩
        repeat (first | (with_reducible first | exact Below.refl _ _ | assumption | refine below_drewN ?_ _ | refine Below.drew ?_ | refine below_alloc ?_ _) | (with_reducible refine below_set ?_ ?side _; (case side => first | omega | (simp; omega) | (simp only [World.size_alloc]; omega))) | (with_reducible refine below_trans ?_ (by assumption)))
      · have HE := Aside.mk (patchE_no h0 HKK.out HR.out HP.out (Bool.eq_false_iff.2 hm))
        have HV := Aside.mk (show patchV s = PPatch.zero from if_neg (by rw [HE.out]; decide))
        have HM := Aside.mk (Bool.eq_false_iff.2 hm)
        clear hm ht
        go_wp2_with fail
        refine (rpatchMay_c _ _ _ _ hT _).mono ?_
        rintro e w6 ⟨rfl, hb6⟩
        rw [HM.out]
        clear o0 o1 o2 o3 f0 f1 f2 f3 d0 d1 d2 d3 g0 g1 g2 g3
        obtain ⟨⟨o0, o1, o2, o3⟩, f0, f1, f2, f3⟩ := four (below_keep hb6 hO1)
        go_wp2_with fail
        go_tidy
        refine bodyPost_ret (v := .tuple #[patchVal PPatch.zero, .int .i64 4]) (by simp [results, Tryz.results50, go_sem, o0, o1, o2, o3]; rfl) rfl ⟨by rw [HE.out, HV.out], ?_⟩
        repeat (first | (with_reducible first | exact Below.refl _ _ | assumption | refine below_drewN ?_ _ | refine Below.drew ?_ | refine below_alloc ?_ _) | (with_reducible refine below_set ?_ ?side _; (case side => first | omega | (simp; omega) | (simp only [World.size_alloc]; omega))) | (with_reducible refine below_trans ?_ (by assumption)))
    · have HE := Aside.mk (patchE_more h0 HKK.out HR.out (by simp; omega))
      have HV := Aside.mk (show patchV s = PPatch.zero from if_neg (by rw [HE.out]; decide))
      go_enter Tryz.func50, Tryz.ntmps50
      go_wp2_with fail
      go_tidy
      refine bodyPost_ret (v := .tuple #[patchVal PPatch.zero, .int .i64 4]) (by simp [results, Tryz.results50, go_sem, o0, o1, o2, o3]; rfl) rfl ⟨by rw [HE.out, HV.out], ?_⟩
      repeat (first | (with_reducible first | exact Below.refl _ _ | assumption | refine below_drewN ?_ _ | refine Below.drew ?_ | refine below_alloc ?_ _) | (with_reducible refine below_set ?_ ?side _; (case side => first | omega | (simp; omega) | (simp only [World.size_alloc]; omega))) | (with_reducible refine below_trans ?_ (by assumption)))
  by_cases k1 : (s[0]).toNat = 1
  · have HKK : Aside (numV (some s) 1 = 1 ∨ numV (some s) 1 = 2) := ⟨.inl (by rw [HK.out, k1])⟩
    have e1 : (((s[0]).toNat : Int) == 2) = false := by rw [k1]; rfl
    have e2 : (((s[0]).toNat : Int) != 1) = false := by rw [k1]; rfl
    by_cases hsh : s.size < 4
    · have HE := Aside.mk (patchE_torn h0 HKK.out (k1_short hp k1 hsh))
      have HV := Aside.mk (show patchV s = PPatch.zero from if_neg (by rw [HE.out]; decide))
      obtain ⟨⟨o0, o1, o2, o3⟩, f0, f1, f2, f3⟩ := four (heap_alloc HO.out (.cells #[.bool false, .int .i64 0, .int .i64 0, .string ⟨#[]⟩] 69))
      go_enter Tryz.func50, Tryz.ntmps50
      go_wp2_with fail
      go_tidy
      refine bodyPost_ret (v := .tuple #[patchVal PPatch.zero, .int .i64 10]) (by simp [results, Tryz.results50, go_sem, o0, o1, o2, o3]; rfl) rfl ⟨by rw [HE.out, HV.out], ?_⟩
      repeat (first | (with_reducible first | exact Below.refl _ _ | assumption | refine below_drewN ?_ _ | refine Below.drew ?_ | refine below_alloc ?_ _) | (with_reducible refine below_set ?_ ?side _; (case side => first | omega | (simp; omega) | (simp only [World.size_alloc]; omega))) | (with_reducible refine below_trans ?_ (by assumption)))
    have hp2 : (2 : Int) < (s.size : Int) := by omega
    have hp3 : (3 : Int) < (s.size : Int) := by omega
    have h2lt := (s[2]).toNat_lt
    have h3lt := (s[3]).toNat_lt
    by_cases hsn : s.size < 4 + ((s[2]).toNat * 256 + (s[3]).toNat)
    · have HE := Aside.mk (patchE_torn h0 HKK.out (k1_torn (by omega) k1 hsn))
      have HV := Aside.mk (show patchV s = PPatch.zero from if_neg (by rw [HE.out]; decide))
      obtain ⟨⟨o0, o1, o2, o3⟩, f0, f1, f2, f3⟩ := four (heap_alloc HO.out (.cells #[.bool false, .int .i64 0, .int .i64 0, .string ⟨#[]⟩] 69))
      go_enter Tryz.func50, Tryz.ntmps50
      go_wp2_with fail
      go_quiet (fail)
      go_wp2_with fail
      go_tidy
      refine bodyPost_ret (v := .tuple #[patchVal PPatch.zero, .int .i64 10]) (by simp [results, Tryz.results50, go_sem, o0, o1, o2, o3]; rfl) rfl ⟨by rw [HE.out, HV.out], ?_⟩
      repeat (first | (with_reducible first | exact Below.refl _ _ | assumption | refine below_drewN ?_ _ | refine Below.drew ?_ | refine below_alloc ?_ _) | (with_reducible refine below_set ?_ ?side _; (case side => first | omega | (simp; omega) | (simp only [World.size_alloc]; omega))) | (with_reducible refine below_trans ?_ (by assumption)))
    exact rpTake1_c s hs (by omega) k1 (by omega) w
  have HE := Aside.mk (show patchE s = 4 by unfold patchE; rw [if_neg h0, HK.out, if_pos ⟨k1, k2⟩])
  have HV := Aside.mk (show patchV s = PPatch.zero from if_neg (by rw [HE.out]; decide))
  have e1 : (((s[0]).toNat : Int) != 1) = true := bne_iff_ne.2 (by omega)
  have e2 : (((s[0]).toNat : Int) != 2) = true := bne_iff_ne.2 (by omega)
  go_enter Tryz.func50, Tryz.ntmps50
  go_wp2_with fail
  go_tidy
  refine bodyPost_ret (v := .tuple #[patchVal PPatch.zero, .int .i64 4]) (by simp [results, Tryz.results50, go_sem, o0, o1, o2, o3]; rfl) rfl ⟨by rw [HE.out, HV.out], ?_⟩
  repeat (first | (with_reducible first | exact Below.refl _ _ | assumption | refine below_drewN ?_ _ | refine Below.drew ?_ | refine below_alloc ?_ _) | (with_reducible refine below_set ?_ ?side _; (case side => first | omega | (simp; omega) | (simp only [World.size_alloc]; omega))) | (with_reducible refine below_trans ?_ (by assumption)))
end Go.Proofs.YtmggpfngbkbkmaaGreatDoor
