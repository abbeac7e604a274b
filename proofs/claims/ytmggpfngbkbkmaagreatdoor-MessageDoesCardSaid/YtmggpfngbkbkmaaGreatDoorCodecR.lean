/- What codec's Reader does, method by method: a text, or torn. -/
import Derived.Test.YtmggpfngbkbkmaaGreatDoorProg
import Derived.Test.YtmggpfngbkbkmaaGreatDoorBase
import Derived.Test.YtmggpfngbkbkmaaGreatDoorPlainRead
namespace Go.Proofs.YtmggpfngbkbkmaaGreatDoor
open Go.RowKit
set_option linter.unusedVariables false
set_option linter.unusedSimpArgs false

/-- At block g stands a reader: what is left, or torn. -/
def RdAt (w : World) (g : Nat) (r : Option ByteArray) : Prop :=
  w.heap[g]? = some (.cells #[.string (r.getD ⟨#[]⟩), .int .i64 (if r.isSome then 0 else 10)] 172 (0, 0))
/-- The call returns v; the reader stands as r; no other old block is touched. -/
def RdRet (w : World) (g : Nat) (v : Value) (r : Option ByteArray) (e : Ending) (w' : World) : Prop :=
  e = .returned v ∧ RdAt w' g r ∧ Touch (· = g) w w'

theorem RdAt.c0 {w : World} {g : Nat} {r : Option ByteArray} (h : RdAt w g r) : w.cell? ⟨g, 0, none⟩ = some (.string (r.getD ⟨#[]⟩)) := by
  unfold RdAt at h; simp [World.cell?, h]
theorem RdAt.c1 {w : World} {g : Nat} {r : Option ByteArray} (h : RdAt w g r) : w.cell? ⟨g, 1, none⟩ = some (.int .i64 (if r.isSome then 0 else 10)) := by
  unfold RdAt at h; simp [World.cell?, h]
theorem RdAt.f {w : World} {g : Nat} {r : Option ByteArray} (h : RdAt w g r) (o : Nat) : w.frozen? ⟨g, o, none⟩ = false := by
  unfold RdAt at h; simp [World.frozen?, h]

theorem fixed_c (g : Nat) (r : Option ByteArray) (n : Int) (hn : 0 ≤ n) (w : World) (h : RdAt w g r) :
    Calls Tryz.prog 142 #[.pointer (some ⟨g, 0, none⟩), .int .i64 n] w (RdRet w g (.string (fixV r n.toNat)) (fixR r n.toNat)) := by
  have H := Aside.mk h
  have c0 := h.c0
  have c1 := h.c1
  have f0 := h.f 0
  have f1 := h.f 1
  clear h
  obtain ⟨n, rfl⟩ := Int.eq_ofNat_of_zero_le hn
  clear hn
  cases r with
  | none =>
    simp only [Option.getD_none, Option.isSome_none, Bool.false_eq_true, if_false] at c0 c1
    go_enter Tryz.func142, Tryz.ntmps142
    go_wp2
    go_ret
    exact ⟨rfl, H.out, Touch.refl _ _⟩
  | some s =>
    simp only [Option.getD_some, Option.isSome_some, if_true] at c0 c1
    go_enter Tryz.func142, Tryz.ntmps142
    go_wp2
    · go_ret; go_tidy
      rename_i h0
      exact ⟨by simp [fixV, h0, show (⟨#[]⟩ : ByteArray) = ByteArray.empty from rfl], by simpa [fixR, h0] using H.out, Touch.refl _ _⟩
    · go_ret; go_tidy
      rename_i h0 h1
      exact ⟨by simp [fixV, Nat.not_le.2 h1], by simpa [fixR, RdAt, Nat.not_le.2 h1] using heap_set (heap_set H.out 0 _) 1 _, ((Touch.refl _ _).setCell (by exact rfl) _).setCell (by exact rfl) _⟩
    · go_ret; go_tidy
      rename_i h0 h1
      exact ⟨by simp [fixV, Nat.not_lt.1 h1], by simpa [fixR, RdAt, Nat.not_lt.1 h1] using heap_set H.out 0 _, (Touch.refl _ _).setCell (by exact rfl) _⟩
theorem take_snoc (s : ByteArray) (k : Nat) (h : k < s.size) : s.data.toList.take (k + 1) = s.data.toList.take k ++ [s[k]] := by
  rw [List.take_succ_eq_append_getElem (by simpa using h)]; rfl
theorem or_step (b : Nat) (c : UInt8) (hb : b < 72057594037927936) :
    bits BinOp.or IntKind.u64 (IntKind.u64.wrap ((b : Int) * 256)) (IntKind.u64.wrap (c.toNat : Int)) = ((b * 256 + c.toNat : Nat) : Int) := by
  have hc := c.toNat_lt
  have e1 : IntKind.u64.wrap ((b : Int) * 256) = ((b * 256 : Nat) : Int) := (wrap_u64 _ (by omega) (by omega)).trans (by omega)
  have e2 : IntKind.u64.wrap (c.toNat : Int) = (c.toNat : Int) := wrap_u64 _ (by omega) (by omega)
  rw [e1, e2, u64_or_nat _ _ (by omega) (by omega), Nat.or_comm, nat_join8' _ _ (by omega) (by omega)]
theorem get_uint8_c (g : Nat) (r : Option ByteArray) (n : Int) (hn : 0 ≤ n) (hn8 : n ≤ 1) (w : World) (h : RdAt w g r) :
    Calls Tryz.prog 141 #[.pointer (some ⟨g, 0, none⟩), .int .i64 n] w (RdRet w g (.int .u8 (be (fixV r n.toNat).data.toList)) (fixR r n.toNat)) := by
  go_enter Tryz.func141, Tryz.ntmps141
  go_wp2_with (go_at_call 142; refine (fixed_c g r n hn _ h).mono ?_; rintro e w1 ⟨rfl, h1, ht⟩)
  have hs := fixV_size r n.toNat
  generalize fixV r n.toNat = s at *
  have hs2 : s.size ≤ 1 := by omega
  go_loop [6, 13] (fun n i => ∃ k : Nat, k ≤ s.size ∧ i = .int .i64 k ∧ n = .int .u64 (be (s.data.toList.take k))) (fun _ i => s.size - (intOf i).toNat)
  case atStart => exact ⟨0, Nat.zero_le _, rfl, rfl⟩
  case round =>
    obtain ⟨k, hk, rfl, rfl⟩ := hrel
    by_cases hlt : k < s.size
    · have hb := be_small (s.data.toList.take k) 7 (by simp; omega)
      have ho := or_step (be (s.data.toList.take k)) s[k] hb
      have ht1 := take_snoc s k hlt
      have H1 := Aside.mk ho
      have H2 := Aside.mk ht1
      clear ho ht1 hb
      go_wp2
      go_round
      case rel => exact ⟨k + 1, by omega, by go_num, by rw [H2.out, be_snoc, H1.out]⟩
      case measure => simp [intOf]; omega
    · go_wp2
      go_ret
      have hk' : List.take k s.data.toList = s.data.toList := List.take_of_length_le (by simp; omega)
      have hb := be_small s.data.toList 1 (by simp; omega)
      exact ⟨by simp only [hk']; exact ret_int (by first | exact wrap_u8 _ (by omega) (by omega) | omega), h1, ht⟩
theorem get_uint16_c (g : Nat) (r : Option ByteArray) (n : Int) (hn : 0 ≤ n) (hn8 : n ≤ 2) (w : World) (h : RdAt w g r) :
    Calls Tryz.prog 161 #[.pointer (some ⟨g, 0, none⟩), .int .i64 n] w (RdRet w g (.int .u16 (be (fixV r n.toNat).data.toList)) (fixR r n.toNat)) := by
  go_enter Tryz.func161, Tryz.ntmps161
  go_wp2_with (go_at_call 142; refine (fixed_c g r n hn _ h).mono ?_; rintro e w1 ⟨rfl, h1, ht⟩)
  have hs := fixV_size r n.toNat
  generalize fixV r n.toNat = s at *
  have hs2 : s.size ≤ 2 := by omega
  go_loop [6, 13] (fun n i => ∃ k : Nat, k ≤ s.size ∧ i = .int .i64 k ∧ n = .int .u64 (be (s.data.toList.take k))) (fun _ i => s.size - (intOf i).toNat)
  case atStart => exact ⟨0, Nat.zero_le _, rfl, rfl⟩
  case round =>
    obtain ⟨k, hk, rfl, rfl⟩ := hrel
    by_cases hlt : k < s.size
    · have hb := be_small (s.data.toList.take k) 7 (by simp; omega)
      have ho := or_step (be (s.data.toList.take k)) s[k] hb
      have ht1 := take_snoc s k hlt
      have H1 := Aside.mk ho
      have H2 := Aside.mk ht1
      clear ho ht1 hb
      go_wp2
      go_round
      case rel => exact ⟨k + 1, by omega, by go_num, by rw [H2.out, be_snoc, H1.out]⟩
      case measure => simp [intOf]; omega
    · go_wp2
      go_ret
      have hk' : List.take k s.data.toList = s.data.toList := List.take_of_length_le (by simp; omega)
      have hb := be_small s.data.toList 2 (by simp; omega)
      exact ⟨by simp only [hk']; exact ret_int (by first | exact wrap_u16 _ (by omega) (by omega) | omega), h1, ht⟩
theorem get_uint32_c (g : Nat) (r : Option ByteArray) (n : Int) (hn : 0 ≤ n) (hn8 : n ≤ 4) (w : World) (h : RdAt w g r) :
    Calls Tryz.prog 146 #[.pointer (some ⟨g, 0, none⟩), .int .i64 n] w (RdRet w g (.int .u32 (be (fixV r n.toNat).data.toList)) (fixR r n.toNat)) := by
  go_enter Tryz.func146, Tryz.ntmps146
  go_wp2_with (go_at_call 142; refine (fixed_c g r n hn _ h).mono ?_; rintro e w1 ⟨rfl, h1, ht⟩)
  have hs := fixV_size r n.toNat
  generalize fixV r n.toNat = s at *
  have hs2 : s.size ≤ 4 := by omega
  go_loop [6, 13] (fun n i => ∃ k : Nat, k ≤ s.size ∧ i = .int .i64 k ∧ n = .int .u64 (be (s.data.toList.take k))) (fun _ i => s.size - (intOf i).toNat)
  case atStart => exact ⟨0, Nat.zero_le _, rfl, rfl⟩
  case round =>
    obtain ⟨k, hk, rfl, rfl⟩ := hrel
    by_cases hlt : k < s.size
    · have hb := be_small (s.data.toList.take k) 7 (by simp; omega)
      have ho := or_step (be (s.data.toList.take k)) s[k] hb
      have ht1 := take_snoc s k hlt
      have H1 := Aside.mk ho
      have H2 := Aside.mk ht1
      clear ho ht1 hb
      go_wp2
      go_round
      case rel => exact ⟨k + 1, by omega, by go_num, by rw [H2.out, be_snoc, H1.out]⟩
      case measure => simp [intOf]; omega
    · go_wp2
      go_ret
      have hk' : List.take k s.data.toList = s.data.toList := List.take_of_length_le (by simp; omega)
      have hb := be_small s.data.toList 4 (by simp; omega)
      exact ⟨by simp only [hk']; exact ret_int (by first | exact wrap_u32 _ (by omega) (by omega) | omega), h1, ht⟩
theorem get_uint64_c (g : Nat) (r : Option ByteArray) (n : Int) (hn : 0 ≤ n) (hn8 : n ≤ 8) (w : World) (h : RdAt w g r) :
    Calls Tryz.prog 147 #[.pointer (some ⟨g, 0, none⟩), .int .i64 n] w (RdRet w g (.int .u64 (be (fixV r n.toNat).data.toList)) (fixR r n.toNat)) := by
  go_enter Tryz.func147, Tryz.ntmps147
  go_wp2_with (go_at_call 142; refine (fixed_c g r n hn _ h).mono ?_; rintro e w1 ⟨rfl, h1, ht⟩)
  have hs := fixV_size r n.toNat
  generalize fixV r n.toNat = s at *
  have hs2 : s.size ≤ 8 := by omega
  go_loop [6, 13] (fun n i => ∃ k : Nat, k ≤ s.size ∧ i = .int .i64 k ∧ n = .int .u64 (be (s.data.toList.take k))) (fun _ i => s.size - (intOf i).toNat)
  case atStart => exact ⟨0, Nat.zero_le _, rfl, rfl⟩
  case round =>
    obtain ⟨k, hk, rfl, rfl⟩ := hrel
    by_cases hlt : k < s.size
    · have hb := be_small (s.data.toList.take k) 7 (by simp; omega)
      have ho := or_step (be (s.data.toList.take k)) s[k] hb
      have ht1 := take_snoc s k hlt
      have H1 := Aside.mk ho
      have H2 := Aside.mk ht1
      clear ho ht1 hb
      go_wp2
      go_round
      case rel => exact ⟨k + 1, by omega, by go_num, by rw [H2.out, be_snoc, H1.out]⟩
      case measure => simp [intOf]; omega
    · go_wp2
      go_ret
      have hk' : List.take k s.data.toList = s.data.toList := List.take_of_length_le (by simp; omega)
      have hb := be_small s.data.toList 8 (by simp; omega)
      exact ⟨by simp only [hk']; exact ret_int (by first | exact wrap_u64 _ (by omega) (by omega) | omega), h1, ht⟩
theorem rdU8_c (g : Nat) (r : Option ByteArray) (w : World) (h : RdAt w g r) :
    Calls Tryz.prog 109 #[.pointer (some ⟨g, 0, none⟩)] w (RdRet w g (.int .u8 (numV r 1)) (fixR r 1)) := by
  go_enter Tryz.func109, Tryz.ntmps109
  go_wp2_with (go_at_call 141; refine (get_uint8_c g r 1 (by omega) (by omega) _ h).mono ?_; rintro e w1 ⟨rfl, h1, ht⟩)
  go_ret
  exact ⟨rfl, h1, ht⟩
theorem rdU16_c (g : Nat) (r : Option ByteArray) (w : World) (h : RdAt w g r) :
    Calls Tryz.prog 143 #[.pointer (some ⟨g, 0, none⟩)] w (RdRet w g (.int .u16 (numV r 2)) (fixR r 2)) := by
  go_enter Tryz.func143, Tryz.ntmps143
  go_wp2_with (go_at_call 161; refine (get_uint16_c g r 2 (by omega) (by omega) _ h).mono ?_; rintro e w1 ⟨rfl, h1, ht⟩)
  go_ret
  exact ⟨rfl, h1, ht⟩
theorem rdU32_c (g : Nat) (r : Option ByteArray) (w : World) (h : RdAt w g r) :
    Calls Tryz.prog 116 #[.pointer (some ⟨g, 0, none⟩)] w (RdRet w g (.int .u32 (numV r 4)) (fixR r 4)) := by
  go_enter Tryz.func116, Tryz.ntmps116
  go_wp2_with (go_at_call 146; refine (get_uint32_c g r 4 (by omega) (by omega) _ h).mono ?_; rintro e w1 ⟨rfl, h1, ht⟩)
  go_ret
  exact ⟨rfl, h1, ht⟩
theorem rdU64_c (g : Nat) (r : Option ByteArray) (w : World) (h : RdAt w g r) :
    Calls Tryz.prog 117 #[.pointer (some ⟨g, 0, none⟩)] w (RdRet w g (.int .u64 (numV r 8)) (fixR r 8)) := by
  go_enter Tryz.func117, Tryz.ntmps117
  go_wp2_with (go_at_call 147; refine (get_uint64_c g r 8 (by omega) (by omega) _ h).mono ?_; rintro e w1 ⟨rfl, h1, ht⟩)
  go_ret
  exact ⟨rfl, h1, ht⟩

theorem rdText_c (g : Nat) (r : Option ByteArray) (w : World) (h : RdAt w g r) :
    Calls Tryz.prog 110 #[.pointer (some ⟨g, 0, none⟩)] w (RdRet w g (.string (textV r)) (textR r)) := by
  have hl : numV r 2 < 65536 := numV_lt r 2
  go_enter Tryz.func110, Tryz.ntmps110
  go_wp2_with (go_at_call 143; refine (rdU16_c g r _ h).mono ?_; rintro e w1 ⟨rfl, h1, ht⟩)
  refine (fixed_c g _ (numV r 2) (by omega) _ h1).mono ?_
  rintro e w2 ⟨rfl, h2, ht2⟩
  go_wp2
  go_ret
  exact ⟨rfl, h2, ht.trans ht2⟩

theorem rdErr_c (g : Nat) (r : Option ByteArray) (w : World) (h : RdAt w g r) :
    Calls Tryz.prog 111 #[.pointer (some ⟨g, 0, none⟩)] w fun e w' => e = .returned (.int .i64 (rdErr r)) ∧ w = w' := by
  have c1 : w.cell? ⟨g, 1, none⟩ = some (.int .i64 (rdErr r)) := h.c1
  clear h
  go_enter Tryz.func111, Tryz.ntmps111
  go_wp2
  go_ret
  exact ⟨rfl, rfl⟩
theorem rdRest_c (g : Nat) (r : Option ByteArray) (w : World) (h : RdAt w g r) :
    Calls Tryz.prog 112 #[.pointer (some ⟨g, 0, none⟩)] w fun e w' => e = .returned (.string (rdRest r)) ∧ w = w' := by
  have c0 : w.cell? ⟨g, 0, none⟩ = some (.string (rdRest r)) := h.c0
  clear h
  go_enter Tryz.func112, Tryz.ntmps112
  go_wp2
  go_ret
  exact ⟨rfl, rfl⟩
theorem rdNew_c (s : ByteArray) (w : World) :
    Calls Tryz.prog 108 #[.string s] w fun e w' => e = .returned (.pointer (some ⟨w.heap.size, 0, none⟩)) ∧ w' = w.alloc (.cells #[.string s, .int .i64 0] 172) := by
  go_enter Tryz.func108, Tryz.ntmps108
  go_wp2
  go_ret
  exact ⟨rfl, rfl⟩
end Go.Proofs.YtmggpfngbkbkmaaGreatDoor
