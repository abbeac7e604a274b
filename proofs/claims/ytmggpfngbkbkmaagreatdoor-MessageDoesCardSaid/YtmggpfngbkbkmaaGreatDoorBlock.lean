/- What package block does (1): Check, Trim, At. -/
import Derived.Test.YtmggpfngbkbkmaaGreatDoorMeta3
import Derived.Test.YtmggpfngbkbkmaaGreatDoorPlainBlock
import Derived.Test.YtmggpfngbkbkmaaGreatDoorShelf
namespace Go.Proofs.YtmggpfngbkbkmaaGreatDoor
open Go.RowKit
set_option linter.unusedVariables false
set_option linter.unusedSimpArgs false

theorem last_of {s : ByteArray} {n : Nat} (h : s.size = n + 1) : s.data.toList.getLast? = some (s[n]'(by omega)) := by
  rw [List.getLast?_eq_getElem?]
  have : s.data.toList.length = n + 1 := by simpa using h
  rw [this, Nat.add_sub_cancel, List.getElem?_eq_getElem (by omega)]
  rfl
theorem snoc_of {s : ByteArray} {n : Nat} (h : s.size = n + 1) : s.data.toList = s.data.toList.take n ++ [s[n]'(by omega)] := by
  have e := take_snoc s n (by omega)
  rw [List.take_of_length_le (by simp; omega)] at e
  exact e
theorem ba_ext {a b : ByteArray} (h : a.data.toList = b.data.toList) : a = b := by
  cases a; cases b; simp at h; congr
theorem trimB_empty {t : ByteArray} (h : t.size = 0) : trimB t = t := by
  apply ba_ext
  have : t.data.toList = [] := List.eq_nil_of_length_eq_zero (by simpa using h)
  simp [trimB, this, trimL]
theorem trimB_ne {t : ByteArray} {n : Nat} (h : t.size = n + 1) (hz : t[n] ≠ 0) : trimB t = t := by
  apply ba_ext
  have e := snoc_of h
  show trimL t.data.toList = t.data.toList
  rw [e, trimL_snoc_ne _ _ hz]
theorem extract_take (t : ByteArray) (n : Nat) : (t.extract 0 n).data.toList = t.data.toList.take n := by simp
theorem trimB_zero {t : ByteArray} {n : Nat} (h : t.size = n + 1) (hz : t[n] = 0) : trimB (t.extract 0 n) = trimB t := by
  apply ba_ext
  show trimL (t.extract 0 n).data.toList = trimL t.data.toList
  rw [snoc_of h, hz, trimL_snoc_zero, extract_take]
theorem byte_ne {c : UInt8} (h : c ≠ 0) : ((c.toNat : Int) == 0) = false := by
  rw [beq_eq_false_iff_ne]; intro e; apply h; apply UInt8.toNat.inj; simpa using e
theorem byte_eq {c : UInt8} (h : ((c.toNat : Int) == 0) = true) : c = 0 := by
  have := beq_iff_eq.1 h; apply UInt8.toNat.inj; simpa using this
/-- A slot's size, for a measure. -/
def strOf' : Value → Nat | .string s => s.size | _ => 0
theorem blkCheck_c (s : ByteArray) (hs : s.size < 4611686018427387904) (w : World) :
    Calls Tryz.prog 131 #[.string s] w fun e w' => e = .returned (.int .i64 (blkCheck s)) ∧ w = w' := by
  by_cases h0 : s.size = 0
  · have HE := Aside.mk (show blkCheck s = 4 from if_pos (.inl h0))
    have ht : (s.toList == ([] : List UInt8)) = true := by simpa [toList_nil] using h0
    clear h0
    go_enter Tryz.func131, Tryz.ntmps131
    go_wp2
    go_ret
    exact ⟨by rw [HE.out]; rfl, rfl⟩
  · obtain ⟨n, hn⟩ : ∃ n, s.size = n + 1 := ⟨s.size - 1, by omega⟩
    have hlast := last_of hn
    have ht : (s.toList == ([] : List UInt8)) = false := by simpa [toList_nil] using h0
    go_enter Tryz.func131, Tryz.ntmps131
    have HL := Aside.mk hlast
    clear hlast h0
    go_wp2
    · go_ret; go_tidy
      rename_i h1 h2 h3
      refine ⟨ret_int ?_, rfl⟩
      unfold blkCheck
      by_cases hb : 64 < s.size
      · rw [if_pos (.inr (.inl hb))]
      · rw [if_pos (.inr (.inr (by rw [HL.out]; exact congrArg some (byte_eq (h3.resolve_left (by omega))))))]
    · go_ret; go_tidy
      rename_i h1
      refine ⟨ret_int ?_, rfl⟩
      unfold blkCheck
      rw [HL.out, if_neg]
      rintro (h | h | h)
      · omega
      · omega
      · injection h with h; rw [h] at h1; simp at h1
    · go_ret; go_tidy
      rename_i h1
      refine ⟨ret_int ?_, rfl⟩
      unfold blkCheck
      rw [if_pos (.inr (.inl (by omega)))]
theorem trimByte_c (s : ByteArray) (hs : s.size < 4611686018427387904) (w : World) :
    Calls Tryz.prog 168 #[.string s, .int .u8 0] w fun e w' => e = .returned (.string (trimB s)) ∧ w = w' := by
  go_enter Tryz.func168, Tryz.ntmps168
  go_wp2
  go_loop [0] (fun v => ∃ t : ByteArray, t.size ≤ s.size ∧ v = .string t ∧ trimB t = trimB s) (fun v => strOf' v)
  case atStart => exact ⟨s, Nat.le_refl _, rfl, rfl⟩
  case round =>
    obtain ⟨t, ht, rfl, hts⟩ := hrel
    have HT := Aside.mk hts
    clear hts
    by_cases h0 : t.size = 0
    · have hl : t.size = 0 := h0
      clear h0
      go_wp2
      go_ret
      exact ⟨by rw [← HT.out, trimB_empty hl]; rfl, rfl⟩
    · obtain ⟨n, hn⟩ : ∃ n, t.size = n + 1 := ⟨t.size - 1, by omega⟩
      by_cases hz : t[n] = 0
      · have HZ := Aside.mk (trimB_zero hn hz)
        go_wp2
        go_round
        case rel => exact ⟨t.extract 0 n, by simp; omega, rfl, by rw [HZ.out, HT.out]⟩
        case measure => simp [strOf']; omega
      · have HZ := Aside.mk (trimB_ne hn hz)
        have hb := byte_ne hz
        clear hz
        go_wp2
        go_ret
        exact ⟨by rw [← HT.out, HZ.out]; rfl, rfl⟩
set_option maxRecDepth 100000 in
theorem trim_c (s : ByteArray) (hs : s.size < 4611686018427387904) (w : World) :
    Calls Tryz.prog 144 #[.string s] w fun e w' => e = .returned (.string (trimB s)) ∧ w = w' := by
  by_cases h0 : s.size = 0
  · have HT := Aside.mk (trimB_empty h0)
    have ht : (s.toList == ([] : List UInt8)) = true := by simpa [toList_nil] using h0
    clear h0
    go_enter Tryz.func144, Tryz.ntmps144
    go_wp2_with (go_at_call 162; go_in)
    go_ret
    exact ⟨by rw [HT.out]; rfl, rfl⟩
  · have ht : (s.toList == ([] : List UInt8)) = false := by simpa [toList_nil] using h0
    clear h0
    go_enter Tryz.func144, Tryz.ntmps144
    go_wp2_with (first | (go_at_call 162; go_in) | (go_at_call 168; refine (trimByte_c s hs _).mono ?_; rintro e w1 ⟨rfl, rfl⟩))
    go_ret
    exact ⟨rfl, rfl⟩
end Go.Proofs.YtmggpfngbkbkmaaGreatDoor
