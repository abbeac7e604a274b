/- What the references' rillbedref03.Number and rillbedref07.number do. -/
import Derived.Test.YtmggpfngbkbkmaaGreatDoorBlock4
namespace Go.Proofs.YtmggpfngbkbkmaaGreatDoor
open Go.RowKit
set_option linter.unusedVariables false
set_option linter.unusedSimpArgs false

theorem numBytes_cons (n k : Nat) : numBytes n (k + 1) = UInt8.ofNat (n / 256 ^ k) :: numBytes n k := by
  unfold numBytes
  rw [List.range_succ_eq_map, List.map_cons, List.map_map]
  congr 1
  · simp only [Nat.add_sub_cancel, Nat.sub_zero]; rw [show (256 : Nat) = 2 ^ 8 from rfl, ← Nat.pow_mul]
  · apply List.map_congr_left
    intro i hi
    simp only [Function.comp, Nat.succ_eq_add_one]
    rw [show k + 1 - 1 - (i + 1) = k - 1 - i by omega]
/-- The row's cells when k of W bytes have been laid, from the end. -/
def numCells (n W k : Nat) : Array Value := (List.replicate (W - k) (Value.int .u8 0) ++ byteVs (numBytes n k)).toArray
theorem numCells_zero (n W : Nat) : numCells n W 0 = (List.replicate W (Value.int .u8 0)).toArray := by simp [numCells, numBytes, byteVs]
theorem numCells_step (n W k : Nat) (h : k < W) (v : Value) (hv : v = .int .u8 ((UInt8.ofNat (n / 256 ^ k)).toNat : Int)) : (numCells n W k).setIfInBounds (W - 1 - k) v = numCells n W (k + 1) := by
  obtain ⟨j, rfl⟩ : ∃ j, W = j + 1 + k := ⟨W - k - 1, by omega⟩
  subst hv
  simp only [numCells, List.setIfInBounds_toArray, numBytes_cons, show j + 1 + k - k = j + 1 by omega, show j + 1 + k - (k + 1) = j by omega, show j + 1 + k - 1 - k = j by omega]
  congr 1
  rw [List.replicate_succ', List.append_assoc, List.set_append_right _ _ (by simp)]
  simp [byteVs]
theorem numCells_full (n W : Nat) : numCells n W W = (byteVs (numBytes n W)).toArray := by simp [numCells]
theorem own_of {w : World} {k : Nat} {l : List UInt8} (h : w.heap[k]? = some (.cells (byteVs l).toArray 5 (0, 0))) (hl : l.length ≤ 1000000) : w.ownsRow 0 5 1 (.slice (some ⟨k, 0, none⟩) l.length l.length) l.length (byteVs l) := by
  refine ⟨by simp [byteVs], .inr ⟨k, l.length, (byteVs l).toArray, rfl, Nat.zero_le _, h, Nat.le_refl _, ?_, by simp [byteVs], ?_⟩⟩
  · unfold maxLen; omega
  · rw [List.take_of_length_le (by simp [byteVs])]
theorem byte_rem (n k : Nat) : (((n / 256 ^ k : Nat) : Int) % 256) = ((UInt8.ofNat (n / 256 ^ k)).toNat : Int) := by simp
theorem numCells_get (n W k : Nat) (h : k < W) : (numCells n W k)[W - 1 - k]? = some (.int .u8 0) := by
  simp only [numCells, List.getElem?_toArray]
  rw [List.getElem?_append_left (by simp; omega), List.getElem?_replicate, if_pos (by omega)]
theorem byte_quo (n k : Nat) : (((n / 256 ^ k : Nat) : Int) / 256) = ((n / 256 ^ (k + 1) : Nat) : Int) := by
  rw [Nat.pow_succ, ← Nat.div_div_eq_div_mul]; rfl
theorem row_heap {w : World} {b e g n : Nat} {xs : List Value} (h : w.ownsRow b e 1 (.slice (some ⟨g, 0, none⟩) n n) n xs) (hn : 0 < n) : w.heap[g]? = some (.cells xs.toArray e (0, 0)) := by
  rcases h.2 with ⟨h1, _⟩ | ⟨g', cap, cur, h1, _, h2, _, _, h5, h6⟩
  · simp at h1
  · simp at h1
    obtain ⟨rfl, rfl⟩ := h1
    rw [h2, ← h6, List.take_of_length_le (by simp [h5])]
set_option maxRecDepth 100000 in
theorem number4_c (n : Int) (h0 : 0 ≤ n) (hn : n < 18446744073709551616) (w : World) :
    Calls Tryz.prog 95 #[.int .u64 n, .int .i64 4] w (Ret w (.string ⟨(numBytes n.toNat 4).toArray⟩)) := by
  obtain ⟨i0, hi, hz0, hz1, hz2⟩ := info_parts el_u8.1
  have hc := numCells_zero n.toNat 4
  go_enter Tryz.func95, Tryz.ntmps95
  go_wp2_with (at_make; refine wpList_make_full _ rfl (.tmp 7) (.tmp 7) 122 rfl w.heap.size 5 i0 (.int .u8 0) 1 Tryz.underlying122 hi hz0 hz1 .i64 .i64 4 4 4 rfl rfl rfl rfl (by omega) (by unfold maxLen; omega) (Nat.le_refl _) ?_; intro w1 hown hgrow)
  have hh : w1.heap[w.heap.size]? = some (.cells (List.replicate 4 (Value.int .u8 0)).toArray 5 (0, 0)) := (row_heap (n := 4) hown (by decide)).trans (by simp [madeCells, Value.cells, Nat.mod_one, List.range_succ])
  have hb : Below w.heap.size w w1 := ⟨hgrow.os, hgrow.tape, hgrow.output, hgrow.size, fun k hk => hgrow.block k hk (by simp)⟩
  go_loopw [0, 6] (fun x i wr => ∃ k : Nat, k ≤ 4 ∧ x = .int .u64 ((n.toNat / 256 ^ k : Nat) : Int) ∧ i = .int .i64 (4 - 1 - (k : Int)) ∧ wr.heap[w.heap.size]? = some (.cells (numCells n.toNat 4 k) 5 (0, 0)) ∧ Below w.heap.size w wr) (fun _ i _ => ((intOf i) + 1).toNat)
  case atStart => exact ⟨0, by omega, by simp; omega, by rfl, by rw [hc]; exact hh, hb⟩
  case round =>
    obtain ⟨k, hk, rfl, rfl, hrow, hbb⟩ := hrel
    by_cases hlt : k < 4
    · have hf : wr.frozen? ⟨w.heap.size, 3 - k, none⟩ = false := free_of hrow (3 - k)
      have hcl : wr.cell? ⟨w.heap.size, 3 - k, none⟩ = some (.int .u8 0) := (cell_of hrow (3 - k)).trans (numCells_get n.toNat 4 k hlt)
      have HR := Aside.mk (byte_rem n.toNat k)
      have HQ := Aside.mk (byte_quo n.toNat k)
      have HS := Aside.mk (numCells_step n.toNat 4 k hlt _ rfl)
      have hm64 : n.toNat / 256 ^ k < 18446744073709551616 := Nat.lt_of_le_of_lt (Nat.div_le_self _ _) (by omega)
      generalize n.toNat / 256 ^ k = m at *
      go_wp2_with fail
      go_roundw
      case rel =>
        refine ⟨k + 1, by omega, ?_, ?_, ?_, (by repeat (first | (with_reducible first | exact Below.refl _ _ | assumption | refine below_drewN ?_ _ | refine Below.drew ?_ | refine below_alloc ?_ _) | (with_reducible refine below_set ?_ ?side _; (case side => first | omega | (simp; omega) | (simp only [World.size_alloc]; omega))) | (with_reducible refine below_trans ?_ (by assumption))))⟩
        · rw [← HQ.out]
        · congr 1; omega
        · have := heap_set hrow (3 - k) (.int .u8 ((m : Int) % 256))
          rw [HR.out] at this ⊢
          exact this.trans (congrArg (fun x => some (Obj.cells x 5 (0, 0))) HS.out)
      case measure => simp [intOf]; omega
    · have hkn : k = 4 := by omega
      subst hkn
      rw [numCells_full] at hrow
      have hcv := bytes_str (own_of hrow (by rw [numBytes_length]; decide))
      rw [numBytes_length] at hcv
      generalize hL : numBytes n.toNat 4 = L at hcv
      have HL := Aside.mk hL
      clear hL
      clear hc hh hrow
      go_wp2
      go_ret
      exact ⟨by rw [HL.out]; rfl, hbb⟩
set_option maxRecDepth 100000 in
theorem number8_c (n : Int) (h0 : 0 ≤ n) (hn : n < 18446744073709551616) (w : World) :
    Calls Tryz.prog 95 #[.int .u64 n, .int .i64 8] w (Ret w (.string ⟨(numBytes n.toNat 8).toArray⟩)) := by
  obtain ⟨i0, hi, hz0, hz1, hz2⟩ := info_parts el_u8.1
  have hc := numCells_zero n.toNat 8
  go_enter Tryz.func95, Tryz.ntmps95
  go_wp2_with (at_make; refine wpList_make_full _ rfl (.tmp 7) (.tmp 7) 122 rfl w.heap.size 5 i0 (.int .u8 0) 1 Tryz.underlying122 hi hz0 hz1 .i64 .i64 8 8 8 rfl rfl rfl rfl (by omega) (by unfold maxLen; omega) (Nat.le_refl _) ?_; intro w1 hown hgrow)
  have hh : w1.heap[w.heap.size]? = some (.cells (List.replicate 8 (Value.int .u8 0)).toArray 5 (0, 0)) := (row_heap (n := 8) hown (by decide)).trans (by simp [madeCells, Value.cells, Nat.mod_one, List.range_succ])
  have hb : Below w.heap.size w w1 := ⟨hgrow.os, hgrow.tape, hgrow.output, hgrow.size, fun k hk => hgrow.block k hk (by simp)⟩
  go_loopw [0, 6] (fun x i wr => ∃ k : Nat, k ≤ 8 ∧ x = .int .u64 ((n.toNat / 256 ^ k : Nat) : Int) ∧ i = .int .i64 (8 - 1 - (k : Int)) ∧ wr.heap[w.heap.size]? = some (.cells (numCells n.toNat 8 k) 5 (0, 0)) ∧ Below w.heap.size w wr) (fun _ i _ => ((intOf i) + 1).toNat)
  case atStart => exact ⟨0, by omega, by simp; omega, by rfl, by rw [hc]; exact hh, hb⟩
  case round =>
    obtain ⟨k, hk, rfl, rfl, hrow, hbb⟩ := hrel
    by_cases hlt : k < 8
    · have hf : wr.frozen? ⟨w.heap.size, 7 - k, none⟩ = false := free_of hrow (7 - k)
      have hcl : wr.cell? ⟨w.heap.size, 7 - k, none⟩ = some (.int .u8 0) := (cell_of hrow (7 - k)).trans (numCells_get n.toNat 8 k hlt)
      have HR := Aside.mk (byte_rem n.toNat k)
      have HQ := Aside.mk (byte_quo n.toNat k)
      have HS := Aside.mk (numCells_step n.toNat 8 k hlt _ rfl)
      have hm64 : n.toNat / 256 ^ k < 18446744073709551616 := Nat.lt_of_le_of_lt (Nat.div_le_self _ _) (by omega)
      generalize n.toNat / 256 ^ k = m at *
      go_wp2_with fail
      go_roundw
      case rel =>
        refine ⟨k + 1, by omega, ?_, ?_, ?_, (by repeat (first | (with_reducible first | exact Below.refl _ _ | assumption | refine below_drewN ?_ _ | refine Below.drew ?_ | refine below_alloc ?_ _) | (with_reducible refine below_set ?_ ?side _; (case side => first | omega | (simp; omega) | (simp only [World.size_alloc]; omega))) | (with_reducible refine below_trans ?_ (by assumption))))⟩
        · rw [← HQ.out]
        · congr 1; omega
        · have := heap_set hrow (7 - k) (.int .u8 ((m : Int) % 256))
          rw [HR.out] at this ⊢
          exact this.trans (congrArg (fun x => some (Obj.cells x 5 (0, 0))) HS.out)
      case measure => simp [intOf]; omega
    · have hkn : k = 8 := by omega
      subst hkn
      rw [numCells_full] at hrow
      have hcv := bytes_str (own_of hrow (by rw [numBytes_length]; decide))
      rw [numBytes_length] at hcv
      generalize hL : numBytes n.toNat 8 = L at hcv
      have HL := Aside.mk hL
      clear hL
      clear hc hh hrow
      go_wp2
      go_ret
      exact ⟨by rw [HL.out]; rfl, hbb⟩
theorem ext_list (s : ByteArray) (f t : Nat) : (s.extract f t).data.toList = (s.data.toList.drop f).take (t - f) := by
  simp
theorem ext_snoc (s : ByteArray) (f t k : Nat) (h : f + k < t) (ht : t ≤ s.size) : (s.extract f t).data.toList.take (k + 1) = (s.extract f t).data.toList.take k ++ [s[f + k]'(by omega)] := by
  rw [ext_list, List.take_take, List.take_take, Nat.min_eq_left (by omega), Nat.min_eq_left (by omega), List.take_add_one]
  congr 1
  rw [List.getElem?_drop, List.getElem?_eq_getElem (by simp; omega)]
  rfl
set_option maxRecDepth 100000 in
theorem rnum_c (s : ByteArray) (f t : Nat) (hft : f ≤ t) (ht : t ≤ s.size) (h8 : t - f ≤ 8) (hs : s.size < 4611686018427387904) (w : World) :
    Calls Tryz.prog 92 #[.string s, .int .i64 f, .int .i64 t] w fun e w' => e = .returned (.int .u64 (be (s.extract f t).data.toList)) ∧ w = w' := by
  go_enter Tryz.func92, Tryz.ntmps92
  go_wp2
  go_loop [7, 8] (fun x i => ∃ k : Nat, f + k ≤ t ∧ x = .int .u64 (be ((s.extract f t).data.toList.take k)) ∧ i = .int .i64 ((f : Int) + k)) (fun _ i => ((t : Int) - intOf i).toNat)
  case atStart => exact ⟨0, by omega, by simp [be], by simp⟩
  case round =>
    obtain ⟨k, hk, rfl, rfl⟩ := hrel
    by_cases hlt : f + k < t
    · have hb := be_small ((s.extract f t).data.toList.take k) 7 (by simp; omega)
      have hin : f + k < s.size := by omega
      have HS := Aside.mk (show be ((s.extract f t).data.toList.take (k + 1)) = be ((s.extract f t).data.toList.take k) * 256 + (s[f + k]).toNat by rw [ext_snoc s f t k hlt ht, be_snoc])
      generalize be ((s.extract f t).data.toList.take k) = m at hb HS ⊢
      have e1 : IntKind.u64.wrap ((m : Int) * 256) = (m : Int) * 256 := wrap_u64 _ (by omega) (by omega)
      have hc := (s[f + k]).toNat_lt
      have e2 : IntKind.u64.wrap ((m : Int) * 256 + ((s[f + k]).toNat : Int)) = (m : Int) * 256 + ((s[f + k]).toNat : Int) := wrap_u64 _ (by omega) (by omega)
      go_wp2_with fail
      go_round
      case rel => exact ⟨k + 1, by omega, by rw [HS.out]; simp, by go_num⟩
      case measure => simp [intOf]; omega
    · have hkn : (s.extract f t).data.toList.take k = (s.extract f t).data.toList := List.take_of_length_le (by simp; omega)
      rw [hkn]
      go_wp2
      go_ret
      exact ⟨rfl, rfl⟩
end Go.Proofs.YtmggpfngbkbkmaaGreatDoor
