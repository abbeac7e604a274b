/- What rillbedref08 does (3): Apply. -/
import Derived.Test.YtmggpfngbkbkmaaGreatDoorR6
import Derived.Test.YtmggpfngbkbkmaaGreatDoorR0
import Derived.StillTailTactics
namespace Go.Proofs.YtmggpfngbkbkmaaGreatDoor
open Go.RowKit
set_option linter.unusedVariables false
set_option linter.unusedSimpArgs false

/-- The array's cells when its first k bytes have been laid. -/
def arrCells (l : List UInt8) (k : Nat) : Array Value := (byteVs (l.take k) ++ List.replicate (64 - k) (Value.int .u8 0)).toArray
theorem arrCells_step (l : List UInt8) (hl : l.length = 64) (k : Nat) (h : k < 64) : (arrCells l k).setIfInBounds k (.int .u8 (l[k]'(by omega)).toNat) = arrCells l (k + 1) := by
  obtain ⟨j, hj⟩ : ∃ j, 64 - k = j + 1 := ⟨63 - k, by omega⟩
  have hlen : (byteVs (l.take k)).length = k := by simp [byteVs]; omega
  unfold arrCells
  rw [List.setIfInBounds_toArray, hj, List.replicate_succ, List.set_append_right _ _ (by omega), hlen, Nat.sub_self, List.set_cons_zero, show 64 - (k + 1) = j by omega, List.take_succ_eq_append_getElem (by omega), byteVs_snoc, List.append_assoc]
  rfl
theorem arrCells_get (l : List UInt8) (hl : l.length = 64) (k : Nat) (h : k < 64) : (arrCells l k)[k]? = some (.int .u8 0) := by
  have hlen : (byteVs (l.take k)).length = k := by simp [byteVs]; omega
  unfold arrCells
  rw [List.getElem?_toArray, List.getElem?_append_right (by omega), hlen, Nat.sub_self, List.getElem?_replicate, if_pos (by omega)]
theorem arrCells_full (l : List UInt8) (hl : l.length = 64) : arrCells l 64 = (byteVs l).toArray := by
  unfold arrCells; rw [List.take_of_length_le (by omega)]; simp
theorem bv_set (l : List UInt8) (i : Nat) (c : UInt8) : (byteVs l).toArray.setIfInBounds i (.int .u8 c.toNat) = (byteVs (l.set i c)).toArray := by
  simp [byteVs, List.map_set]
theorem bv_get (l : List UInt8) (i : Nat) (h : i < l.length) : (byteVs l).toArray[i]? = some (.int .u8 (l[i]).toNat) := by
  simp [byteVs, h]
theorem arr_str {l : List UInt8} {w : World} {g : Nat} {T : TypeId} {fr : Nat × Nat} (h : w.heap[g]? = some (.cells (byteVs l).toArray T fr)) (hl : l.length = 64) :
    (Go.convert 122 9 (.slice (some ⟨g, 0, none⟩) 64 64)).run Tryz.prog w = .ok (.string ⟨l.toArray⟩) w := by
  have hc := run_convert_bytes_arg (P := Tryz.prog) w 122 5 Tryz.underlying122 Tryz.underlying5 g 0 64 64 (l.map fun c => (c.toNat : Int)) (by simp [hl]) (fun i hi => by
    rw [cell_of h, Nat.zero_add, bv_get l i (by omega)]
    simp [List.getD, hl, hi]) 9 Tryz.underlying9
  rwa [strOf] at hc
set_option maxHeartbeats 4000000 in
set_option maxRecDepth 100000 in
theorem rpApply_c (v : ByteArray) (hv : v.size < 4611686018427387904) (p : PPatch) (hs : p.s.size < 4611686018427387904) (w : World) :
    Calls Tryz.prog 51 #[.string v, patchVal p] w (Ret w (.string (blkApply v p))) := by
  obtain ⟨c, a, n, s⟩ := p
  simp only [patchVal] at hs ⊢
  have hB := heap_new w (.cells #[.bool c, .int .i64 a, .int .i64 n, .string s] 69)
  go_enter Tryz.func51, Tryz.ntmps51
  go_wp2_with fail
  have hlen := atL_length v.data.toList 0 64
  generalize hL : atL v.data.toList 0 64 = L at hlen
  have HL := Aside.mk hL
  clear hL
  go_loopw [6] (fun i wr => ∃ k : Nat, k ≤ 64 ∧ i = .int .i64 k ∧ wr.heap[w.heap.size + 1]? = some (.cells (arrCells L k) 119 (0, 0)) ∧ wr.heap[w.heap.size]? = some (.cells #[.bool c, .int .i64 a, .int .i64 n, .string s] 69 (0, 0)) ∧ Below w.heap.size w wr) (fun i _ => 64 - (intOf i).toNat)
  case atStart => exact ⟨0, by omega, rfl, (heap_new' _ _ (by simp)).trans (by simp [arrCells, byteVs]), heap_alloc hB _, (by repeat (first | (with_reducible first | exact Below.refl _ _ | assumption | refine below_drewN ?_ _ | refine Below.drew ?_ | refine below_alloc ?_ _) | (with_reducible refine below_set ?_ ?side _; (case side => first | omega | (simp; omega) | (simp only [World.size_alloc]; omega))) | (with_reducible refine below_trans ?_ (by assumption))))⟩
  case round =>
    obtain ⟨k, hk, rfl, hA, hP, hb⟩ := hrel
    by_cases hlt : k < 64
    · have hf : wr.frozen? ⟨w.heap.size + 1, k, none⟩ = false := free_of hA k
      have hcl : wr.cell? ⟨w.heap.size + 1, k, none⟩ = some (.int .u8 0) := (cell_of hA k).trans (arrCells_get L hlen k hlt)
      have HS := Aside.mk (arrCells_step L hlen k hlt)
      have hgt : (v.data.toList.getD k 0) = L[k] := by
        have := HL.out
        subst this
        simp [atL]
      have hby : ∀ w : World, Calls Tryz.prog 90 #[.string v, .int .i64 k] w fun e w' => e = .returned (.int .u8 (L[k]).toNat) ∧ w = w' := fun w => by rw [← hgt]; exact byteAt_c v hv k w
      clear hgt
      go_wp2_with (go_at_call 90; refine (hby _).mono ?_; rintro e w1 ⟨rfl, rfl⟩)
      go_roundw
      case rel => exact ⟨k + 1, by omega, by go_num, by rw [← HS.out]; exact heap_set hA k _, (heap_set_ne (by omega) _ _).trans hP, (by repeat (first | (with_reducible first | exact Below.refl _ _ | assumption | refine below_drewN ?_ _ | refine Below.drew ?_ | refine below_alloc ?_ _) | (with_reducible refine below_set ?_ ?side _; (case side => first | omega | (simp; omega) | (simp only [World.size_alloc]; omega))) | (with_reducible refine below_trans ?_ (by assumption))))⟩
      case measure => simp [intOf]; omega
    · have hk64 : k = 64 := by omega
      subst hk64
      rw [arrCells_full L hlen] at hA
      obtain ⟨⟨d0, d1, d2, d3⟩, -⟩ := four hP
      go_wp2_with fail
      refine (rpatchMay_c c a n s hs _).mono ?_
      rintro e w1 ⟨rfl, hb1⟩
      have hA1 := below_keep hb1 hA
      have hP1 := below_keep hb1 hP
      have hB1 := below_trans hb hb1
      clear d0 d1 d2 d3 hA hP hb hb1 hk hlt
      by_cases hm : (PPatch.mk c a n s).may = true
      · have HMAY := Aside.mk hm
        rw [HMAY.out]
        have hr := hm
        obtain ⟨⟨d0, d1, d2, d3⟩, -⟩ := four hP1
        cases c with
        | true =>
          simp [PPatch.may] at hr
          obtain ⟨⟨⟨q1, q2⟩, q3⟩, q4⟩ := hr
          obtain ⟨N, rfl⟩ := Int.eq_ofNat_of_zero_le q1
          have HF := Aside.mk (show blkApply v ⟨true, a, N, s⟩ = ⟨(trimL (atL (v.data.toList.take 64) 0 N)).toArray⟩ by
            unfold blkApply; rw [if_neg (by rw [hm]; decide), if_pos rfl]; rfl)
          clear hm q3 q4 q1
          go_wp2_with fail
          clear d0 d1 d2 d3
          go_loopw [7] (fun i w3 => ∃ k : Nat, N ≤ k ∧ k ≤ 64 ∧ i = .int .i64 k ∧ w3.heap[w.heap.size + 1]? = some (.cells (byteVs (cutL L N k)).toArray 119 (0, 0)) ∧ w3.heap[w.heap.size]? = some (.cells #[.bool true, .int .i64 a, .int .i64 N, .string s] 69 (0, 0)) ∧ Below w.heap.size w w3) (fun i _ => 64 - (intOf i).toNat)
          case atStart => exact ⟨N, Nat.le_refl _, by omega, rfl, by rw [cutL_zero]; exact hA1, hP1, hB1⟩
          case round =>
            obtain ⟨k, hk1, hk2, rfl, hA, hP, hb⟩ := hrel
            by_cases hlt : k < 64
            · have hf : wr.frozen? ⟨w.heap.size + 1, k, none⟩ = false := free_of hA k
              have hcl := (cell_of hA k).trans (bv_get _ k (by rw [cutL_length L hlen N k hk1 (by omega)]; exact hlt))
              have HS := Aside.mk (show (byteVs (cutL L N k)).toArray.setIfInBounds k (.int .u8 0) = (byteVs (cutL L N (k + 1))).toArray by rw [← cutL_step L hlen N k hk1 hlt, ← bv_set]; rfl)
              go_wp2_with fail
              go_roundw
              case rel => exact ⟨k + 1, by omega, by omega, by go_num, by rw [← HS.out]; exact heap_set hA k _, (heap_set_ne (by omega) _ _).trans hP, (by repeat (first | (with_reducible first | exact Below.refl _ _ | assumption | refine below_drewN ?_ _ | refine Below.drew ?_ | refine below_alloc ?_ _) | (with_reducible refine below_set ?_ ?side _; (case side => first | omega | (simp; omega) | (simp only [World.size_alloc]; omega))) | (with_reducible refine below_trans ?_ (by assumption))))⟩
              case measure => simp [intOf]; omega
            · have hk64 : k = 64 := by omega
              subst hk64
              obtain ⟨⟨d0, d1, d2, d3⟩, -⟩ := four hP
              have hA4 := hA
              have hP4 := hP
              clear hA hP
              go_wp2_with fail
              refine (rpatchMay_c true a N s hs _).mono ?_
              rintro e w5 ⟨rfl, hb5⟩
              rw [HMAY.out]
              have hA := below_keep hb5 hA4
              have hP := below_keep hb5 hP4
              have hx := below_trans hb hb5
              clear d0 d1 d2 d3 hA4 hP4 hA1 hP1
              obtain ⟨⟨d0, d1, d2, d3⟩, -⟩ := four hP
              have HM := Aside.mk (show trimL (cutL L N 64) = trimL (atL (v.data.toList.take 64) 0 N) by rw [cutL_full L hlen N, ← HL.out, atL_take _ _ _ _ (by omega), atL_64 _ _ _ (by omega)])
              have hM := cutL_length L hlen N 64 (by omega) (by omega)
              generalize cutL L N 64 = M at hA HM hM
              have hcv := arr_str hA hM
              have hTT := Aside.mk (show trimB ⟨M.toArray⟩ = blkApply v ⟨true, a, N, s⟩ by rw [HF.out]; apply ba_ext; simp [trimB, HM.out])
              clear hA
              go_wp2_with (first | (go_at_call 91; refine (rTrim_c ⟨M.toArray⟩ (by show M.toArray.size < _; simp [hM]) _).mono ?_; rintro e w9 ⟨rfl, rfl⟩))
              go_ret
              exact ⟨by rw [← hTT.out]; rfl, by assumption⟩
        | false =>
          simp [PPatch.may] at hr
          obtain ⟨⟨⟨⟨q1, q2⟩, q3⟩, q4⟩, q5⟩ := hr
          obtain ⟨a, rfl⟩ := Int.eq_ofNat_of_zero_le q3
          have q6 : a + s.size ≤ 64 := by omega
          have HF := Aside.mk (show blkApply v ⟨false, a, n, s⟩ = ⟨(trimL (atL (v.data.toList.take 64) 0 a ++ (s.data.toList ++ atL (v.data.toList.take 64) (a + s.size) (64 - (a + s.size))))).toArray⟩ by
            unfold blkApply; rw [if_neg (by rw [hm]; decide), if_neg (by simp)]; rfl)
          clear hm q1 q2 q3 q4 q5
          go_wp2_with fail
          refine (rpatchMay_c false a n s hs _).mono ?_
          rintro e w2 ⟨rfl, hb2⟩
          rw [HMAY.out]
          have hA2 := below_keep hb2 hA1
          have hP2 := below_keep hb2 hP1
          have hB2 := below_trans hB1 hb2
          clear d0 d1 d2 d3 hP1 hA1
          obtain ⟨⟨d0, d1, d2, d3⟩, -⟩ := four hP2
          go_wp2_with fail
          clear d0 d1 d2 d3
          go_loopw [8] (fun i w3 => ∃ k : Nat, k ≤ s.size ∧ i = .int .i64 k ∧ w3.heap[w.heap.size + 1]? = some (.cells (byteVs (splL L a s.data.toList k)).toArray 119 (0, 0)) ∧ w3.heap[w.heap.size]? = some (.cells #[.bool false, .int .i64 a, .int .i64 n, .string s] 69 (0, 0)) ∧ Below w.heap.size w w3) (fun i _ => s.size - (intOf i).toNat)
          case atStart => exact ⟨0, Nat.zero_le _, rfl, by rw [splL_zero]; exact hA2, hP2, hB2⟩
          case round =>
            obtain ⟨k, hk, rfl, hA, hP, hb⟩ := hrel
            obtain ⟨⟨d0, d1, d2, d3⟩, -⟩ := four hP
            by_cases hlt : k < s.size
            · have hf : wr.frozen? ⟨w.heap.size + 1, a + k, none⟩ = false := free_of hA (a + k)
              have hcl := (cell_of hA (a + k)).trans (bv_get _ (a + k) (by rw [splL_length L hlen a k _ (by simpa using hk) (by omega)]; omega))
              have HS := Aside.mk (show (byteVs (splL L a s.data.toList k)).toArray.setIfInBounds (a + k) (.int .u8 (s[k]).toNat) = (byteVs (splL L a s.data.toList (k + 1))).toArray by rw [← splL_step L hlen a k s.data.toList (by simpa using hlt) (by omega), ← bv_set]; rfl)
              have hak : IntKind.i64.wrap ((a : Int) + (k : Int)) = (a : Int) + (k : Int) := IntWalk.i64_in _ (by omega)
              have hk0 : (0 : Int) ≤ (k : Int) := by omega
              have hks : (k : Int) < (s.size : Int) := by omega
              have hak0 : (0 : Int) ≤ (a : Int) + (k : Int) := by omega
              have hak1 : (a : Int) + (k : Int) < 64 := by omega
              go_wp2_with fail
              have htn : ((a : Int) + (k : Int)).toNat = a + k := by omega
              go_still_tail 9, (by kernel_rfl)
              change wpList _ _ _ _ _ wr.drew
              have hf' : wr.drew.frozen? ⟨w.heap.size + 1, a + k, none⟩ = false := hf
              have hcl' : wr.drew.cell? ⟨w.heap.size + 1, a + k, none⟩ = _ := hcl
              go_wp2
              all_goals go_roundw
              all_goals first
                | exact ⟨k + 1, by omega, by go_num, by rw [← HS.out]; exact heap_set (w := wr) hA (a + k) _, (heap_set_ne (w := wr) (by omega) _ _).trans hP, (by repeat (first | (with_reducible first | exact Below.refl _ _ | assumption | refine below_drewN ?_ _ | refine Below.drew ?_ | refine below_alloc ?_ _) | (with_reducible refine below_set ?_ ?side _; (case side => first | omega | (simp; omega) | (simp only [World.size_alloc]; omega))) | (with_reducible refine below_trans ?_ (by assumption))))⟩
                | (simp [intOf]; omega)
            · have hks : k = s.size := by omega
              subst hks
              have hA4 := hA
              clear hA
              have HM := Aside.mk (show trimL (splL L a s.data.toList s.size) = trimL (atL (v.data.toList.take 64) 0 a ++ (s.data.toList ++ atL (v.data.toList.take 64) (a + s.size) (64 - (a + s.size)))) by
                unfold splL
                rw [show s.data.toList.take s.size = s.data.toList from List.take_of_length_le (by simp), ← HL.out, atL_take _ _ _ _ (by omega), atL_drop _ _ _ (by omega), atL_64 _ _ _ (by omega), atL_64 _ _ _ (by omega)])
              have hM := splL_length L hlen a s.size s.data.toList (by simp) (by omega)
              have hA := hA4
              have hx := hb
              clear hA4
              generalize splL L a s.data.toList s.size = M at hA HM hM
              have hcv := arr_str hA hM
              have hTT := Aside.mk (show trimB ⟨M.toArray⟩ = blkApply v ⟨false, a, n, s⟩ by rw [HF.out]; apply ba_ext; simp [trimB, HM.out])
              clear hA
              go_wp2_with (first | (go_at_call 91; refine (rTrim_c ⟨M.toArray⟩ (by show M.toArray.size < _; simp [hM]) _).mono ?_; rintro e w9 ⟨rfl, rfl⟩))
              go_ret
              exact ⟨by rw [← hTT.out]; rfl, by assumption⟩
      · have HF := Aside.mk (show blkApply v ⟨c, a, n, s⟩ = ⟨(trimL (v.data.toList.take 64)).toArray⟩ from if_pos (Bool.eq_false_iff.2 hm))
        have HMAY := Aside.mk (Bool.eq_false_iff.2 hm)
        rw [HMAY.out]
        clear hm
        obtain ⟨⟨d0, d1, d2, d3⟩, -⟩ := four hP1
        go_wp2_with fail
        refine (rpatchMay_c c a n s hs _).mono ?_
        rintro e w2 ⟨rfl, hb2⟩
        rw [HMAY.out]
        have hA := below_keep hb2 hA1
        have hx := below_trans hB1 hb2
        clear d0 d1 d2 d3 hP1 hA1
        have HM := Aside.mk (show trimL L = trimL (v.data.toList.take 64) by rw [← HL.out, atL_all])
        have hM := hlen
        generalize L = M at hA HM hM
        have hcv := arr_str hA hM
        have hTT := Aside.mk (show trimB ⟨M.toArray⟩ = blkApply v ⟨c, a, n, s⟩ by rw [HF.out]; apply ba_ext; simp [trimB, HM.out])
        clear hA
        go_wp2_with (first | (go_at_call 91; refine (rTrim_c ⟨M.toArray⟩ (by show M.toArray.size < _; simp [hM]) _).mono ?_; rintro e w9 ⟨rfl, rfl⟩))
        go_ret
        exact ⟨by rw [← hTT.out]; rfl, by assumption⟩
end Go.Proofs.YtmggpfngbkbkmaaGreatDoor
