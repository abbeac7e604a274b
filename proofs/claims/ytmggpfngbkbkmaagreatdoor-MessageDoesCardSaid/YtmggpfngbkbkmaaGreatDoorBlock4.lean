/- What package block does (4): Apply. -/
import Derived.Test.YtmggpfngbkbkmaaGreatDoorBlock3
import Derived.Deep.RegionHeld3
namespace Go.Proofs.YtmggpfngbkbkmaaGreatDoor
open Go.RowKit
set_option linter.unusedVariables false
set_option linter.unusedSimpArgs false

theorem at_i (s : ByteArray) (hs : s.size < 4611686018427387904) (f n : Int) (hf0 : 0 ≤ f) (hf : f < 4611686018427387904) (hn0 : 0 ≤ n) (hn : n ≤ 64) (w : World) :
    Calls Tryz.prog 115 #[.string s, .int .i64 f, .int .i64 n] w (Ret w (.string ⟨(atL s.data.toList f.toNat n.toNat).toArray⟩)) := by
  have h := at_c s hs f.toNat n.toNat (by omega) (by omega) w
  rwa [Int.toNat_of_nonneg hf0, Int.toNat_of_nonneg hn0] at h
def cut64 (v : ByteArray) : ByteArray := v.extract 0 (min (v.size : Int) 64).toNat
theorem cut64_list (v : ByteArray) : (cut64 v).data.toList = v.data.toList.take 64 := by
  simp only [cut64, extract_take]
  by_cases h : v.size ≤ 64
  · rw [show (min (v.size : Int) 64).toNat = v.size by omega, List.take_of_length_le (by simp), List.take_of_length_le (by simpa using h)]
  · rw [show (min (v.size : Int) 64).toNat = 64 by omega]
theorem cut64_size (v : ByteArray) : (cut64 v).size ≤ 64 := by
  have : (cut64 v).data.toList.length ≤ 64 := by rw [cut64_list]; simp; omega
  simpa using this
theorem tog1 (bk : Nat) (V : ByteArray) {T : TypeId} {fr : Nat × Nat} (w : World) (h : w.heap[bk]? = some (.cells #[.string V] T fr)) (hV : V.size ≤ 64) :
    Calls Tryz.prog 114 #[.slice (some ⟨bk, 0, none⟩) 1 1] w (Ret w (.string ⟨(trimL V.data.toList).toArray⟩)) := by
  have := together_c bk 1 [V] w (fun j x hj => by
    cases j with
    | zero => simp at hj; subst hj; rw [cell_of h]; rfl
    | succ j => simp at hj) (heap_lt h) (by simp) (Nat.le_refl _) (by simp; omega)
  simpa using this
theorem tog3 (bk : Nat) (V X Y : ByteArray) {T : TypeId} {fr : Nat × Nat} (w : World) (h : w.heap[bk]? = some (.cells #[.string V, .string X, .string Y] T fr)) (hV : V.size ≤ 64) (hX : X.size ≤ 64) (hY : Y.size ≤ 64) :
    Calls Tryz.prog 114 #[.slice (some ⟨bk, 0, none⟩) 3 3] w (Ret w (.string ⟨(trimL (V.data.toList ++ (X.data.toList ++ Y.data.toList))).toArray⟩)) := by
  have := together_c bk 3 [V, X, Y] w (fun j x hj => by
    match j, hj with
    | 0, hj => simp at hj; subst hj; rw [cell_of h]; rfl
    | 1, hj => simp at hj; subst hj; rw [cell_of h]; rfl
    | 2, hj => simp at hj; subst hj; rw [cell_of h]; rfl
    | j + 3, hj => simp at hj) (heap_lt h) (by simp) (Nat.le_refl _) (by simp; omega)
  simpa using this
theorem held2 {w w1 w2 : World} {k i j : Nat} {x y : Value} (h : w1.cell? ⟨k, i, none⟩ = some x ∧ w1.cell? ⟨k, j, none⟩ = some y ∧ Below k w w1 ∧ k < w1.heap.size) (hb : Below w1.heap.size w1 w2) :
    w2.cell? ⟨k, i, none⟩ = some x ∧ w2.cell? ⟨k, j, none⟩ = some y ∧ Below k w w2 ∧ k < w2.heap.size :=
  ⟨(hb.cell (p := ⟨k, i, none⟩) h.2.2.2).trans h.1, (hb.cell (p := ⟨k, j, none⟩) h.2.2.2).trans h.2.1, h.2.2.1.trans (hb.mono (Nat.le_of_lt h.2.2.2)), Nat.lt_of_lt_of_le h.2.2.2 hb.size⟩
theorem at_size (l : List UInt8) (f n : Nat) : (ByteArray.mk (atL l f n).toArray).size = n := by
  show (atL l f n).toArray.size = n
  simp [atL]
set_option maxHeartbeats 2000000 in
set_option maxRecDepth 100000 in
theorem blkApply_c (v : ByteArray) (hv : v.size < 4611686018427387904) (p : PPatch) (hs : p.s.size < 4611686018427387904) (w : World) :
    Calls Tryz.prog 84 #[.string v, patchVal p] w (Ret w (.string (blkApply v p))) := by
  obtain ⟨c, a, n, s⟩ := p
  simp only [patchVal] at hs ⊢
  have hB := heap_new w (.cells #[.bool c, .int .i64 a, .int .i64 n, .string s] 104)
  go_enter Tryz.func84, Tryz.ntmps84
  go_wp2_with fail
  refine (patchMay_c c a n s hs _).mono ?_
  rintro e w1 ⟨rfl, hb1⟩
  have hV := cut64_size v
  have HC := Aside.mk (cut64_list v)
  change (v.extract 0 (min (v.size : Int) 64).toNat).size ≤ 64 at hV
  change Aside ((v.extract 0 (min (v.size : Int) 64).toNat).data.toList = _) at HC
  generalize v.extract 0 (min (v.size : Int) 64).toNat = V at hV HC ⊢
  have hB1 := below_keep hb1 hB
  have hz1 := hb1.size
  simp at hz1
  obtain ⟨⟨o0, o1, o2, o3⟩, -⟩ := four hB1
  by_cases hm : (PPatch.mk c a n s).may = true
  · have HM := Aside.mk hm
    have hr := hm
    rw [HM.out]
    cases c
    · simp [PPatch.may] at hr
      obtain ⟨⟨⟨⟨h1, h2⟩, h3⟩, h4⟩, h5⟩ := hr
      have HF' : blkApply v ⟨false, a, n, s⟩ = ⟨(trimL (atL V.data.toList 0 a.toNat ++ (s.data.toList ++ atL V.data.toList (a + s.size).toNat (64 - (a + s.size)).toNat))).toArray⟩ := by
        unfold blkApply
        rw [if_neg (by rw [HM.out]; decide), if_neg (by simp), HC.out]
        rw [show (a + s.size).toNat = a.toNat + s.size by omega, show (64 - (a + (s.size : Int))).toNat = 64 - (a.toNat + s.size) by omega]
      have HF := Aside.mk HF'
      clear HF'
      have hwr : IntKind.i64.wrap (64 - (a + (s.size : Int))) = 64 - (a + (s.size : Int)) := IntWalk.i64_in _ (by omega)
      clear hm h1
      go_wp2_with fail
      go_region_held3 (fun w' => w'.cell? ⟨w.heap.size, 1, none⟩ = some (.int .i64 a) ∧ w'.cell? ⟨w.heap.size, 3, none⟩ = some (.string s) ∧ Below w.heap.size w w' ∧ w.heap.size < w'.heap.size) (first | exact ⟨o1, o3, (by repeat (first | (with_reducible first | exact Below.refl _ _ | assumption | refine below_drewN ?_ _ | refine Below.drew ?_ | refine below_alloc ?_ _) | (with_reducible refine below_set ?_ ?side _; (case side => first | omega | (simp; omega) | (simp only [World.size_alloc]; omega))) | (with_reducible refine below_trans ?_ (by assumption)))), by show w.heap.size < w1.heap.size; omega⟩ | assumption | exact held2 (by assumption) (below_alloc (Below.refl _ _) _)) (first | (go_at_call 115; (try rw [hwr]); refine (at_i V (by omega) _ _ (by omega) (by omega) (by omega) (by omega) _).mono ?_; rintro e w2 ⟨rfl, hb2⟩; have hh := held2 (by assumption) hb2) | (go_at_call 114; refine (tog3 _ _ _ _ _ (heap_new _ _) (by rw [at_size]; omega) (by omega) (by rw [at_size]; omega)).mono ?_; rintro e w2 ⟨rfl, hb2⟩; have hh := held2 (by assumption) hb2))
      all_goals
        go_wp2_with fail
        go_ret
        refine ⟨by rw [HF.out]; rfl, ?_⟩
        exact hh.2.2.1
    · simp [PPatch.may] at hr
      obtain ⟨⟨⟨h1, h2⟩, h3⟩, h4⟩ := hr
      have HF' : blkApply v ⟨true, a, n, s⟩ = ⟨(trimL (atL V.data.toList 0 n.toNat)).toArray⟩ := by
        unfold blkApply
        rw [if_neg (by rw [HM.out]; decide), if_pos rfl, HC.out]
      have HF := Aside.mk HF'
      clear HF'
      clear hm h4
      go_wp2_with fail
      refine (at_i V (by omega) 0 n (by omega) (by omega) h1 (by omega) _).mono ?_
      rintro e w2 ⟨rfl, hb2⟩
      go_wp2_with fail
      refine (tog1 w2.heap.size _ _ (heap_new w2 _) (by rw [at_size]; omega)).mono ?_
      rintro e w3 ⟨rfl, hb3⟩
      go_wp2_with fail
      go_ret
      refine ⟨by rw [HF.out]; rfl, ?_⟩
      repeat (first | (with_reducible first | exact Below.refl _ _ | assumption | refine below_drewN ?_ _ | refine Below.drew ?_ | refine below_alloc ?_ _) | (with_reducible refine below_set ?_ ?side _; (case side => first | omega | (simp; omega) | (simp only [World.size_alloc]; omega))) | (with_reducible refine below_trans ?_ (by assumption)))
  · have HF' : blkApply v ⟨c, a, n, s⟩ = ⟨(trimL V.data.toList).toArray⟩ := by
      unfold blkApply; rw [if_pos (Bool.eq_false_iff.2 hm), HC.out]
    have HF := Aside.mk HF'
    clear HF'
    have HM := Aside.mk (Bool.eq_false_iff.2 hm)
    clear hm
    rw [HM.out]
    go_wp2_with fail
    refine (tog1 w1.heap.size V _ (heap_new w1 _) hV).mono ?_
    rintro e w2 ⟨rfl, hb2⟩
    go_wp2_with fail
    go_ret
    refine ⟨by rw [HF.out]; rfl, ?_⟩
    repeat (first | (with_reducible first | exact Below.refl _ _ | assumption | refine below_drewN ?_ _ | refine Below.drew ?_ | refine below_alloc ?_ _) | (with_reducible refine below_set ?_ ?side _; (case side => first | omega | (simp; omega) | (simp only [World.size_alloc]; omega))) | (with_reducible refine below_trans ?_ (by assumption)))
end Go.Proofs.YtmggpfngbkbkmaaGreatDoor
