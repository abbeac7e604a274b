/- What codec's Reader does, method by method: a text, or torn. -/
import Derived.Test.YtmggpfngbkbkmaaGreatDoorProg
import Derived.Test.YtmggpfngbkbkmaaGreatDoorR0
import Derived.Deep.RegionLaw
import Derived.Deep.AppendLies
import Derived.Laws.Rows
import Derived.IntWalk
namespace Go.Proofs.YtmggpfngbkbkmaaGreatDoor
open Go.RowKit
set_option linter.unusedVariables false
set_option linter.unusedSimpArgs false

/-- At block g stands a reader: what is left, or torn. -/
def RdAt (w : World) (g : Nat) (r : Option ByteArray) : Prop :=
  w.heap[g]? = some (.cells #[.string (r.getD ⟨#[]⟩), .int .i64 (if r.isSome then 0 else 10)] 172 (0, 0))
/-- The call returns v; the reader stands as r; no other old block is touched. -/
def RdRet (w : World) (g : Nat) (v : Value) (r : Option ByteArray) (e : Ending) (w' : World) : Prop :=
  e = .returned v ∧ RdAt w' g r ∧ Touch (· = g) w w'

theorem RdAt.c0 {w : World} {g : Nat} {r : Option ByteArray} (h : RdAt w g r) : w.cell? ⟨g, 0, none⟩ = some (.string (r.getD ⟨#[]⟩)) := by
  unfold RdAt at h; simp [World.cell?, h]
theorem RdAt.c1 {w : World} {g : Nat} {r : Option ByteArray} (h : RdAt w g r) : w.cell? ⟨g, 1, none⟩ = some (.int .i64 (if r.isSome then 0 else 10)) := by
  unfold RdAt at h; simp [World.cell?, h]
theorem RdAt.f {w : World} {g : Nat} {r : Option ByteArray} (h : RdAt w g r) (o : Nat) : w.frozen? ⟨g, o, none⟩ = false := by
  unfold RdAt at h; simp [World.frozen?, h]

theorem fixed_c (g : Nat) (r : Option ByteArray) (n : Int) (hn : 0 ≤ n) (w : World) (h : RdAt w g r) :
    Calls Tryz.prog 142 #[.pointer (some ⟨g, 0, none⟩), .int .i64 n] w (RdRet w g (.string (fixV r n.toNat)) (fixR r n.toNat)) := by
  have H := Aside.mk h
  have c0 := h.c0
  have c1 := h.c1
  have f0 := h.f 0
  have f1 := h.f 1
  clear h
  obtain ⟨n, rfl⟩ := Int.eq_ofNat_of_zero_le hn
  clear hn
  cases r with
  | none =>
    simp only [Option.getD_none, Option.isSome_none, Bool.false_eq_true, if_false] at c0 c1
    go_enter Tryz.func142, Tryz.ntmps142
    go_wp2
    go_ret
    exact ⟨rfl, H.out, Touch.refl _ _⟩
  | some s =>
    simp only [Option.getD_some, Option.isSome_some, if_true] at c0 c1
    go_enter Tryz.func142, Tryz.ntmps142
    go_wp2
    · go_ret; go_tidy
      rename_i h0
      exact ⟨by simp [fixV, h0, show (⟨#[]⟩ : ByteArray) = ByteArray.empty from rfl], by simpa [fixR, h0] using H.out, Touch.refl _ _⟩
    · go_ret; go_tidy
      rename_i h0 h1
      exact ⟨by simp [fixV, Nat.not_le.2 h1], by simpa [fixR, RdAt, Nat.not_le.2 h1] using heap_set (heap_set H.out 0 _) 1 _, ((Touch.refl _ _).setCell (by exact rfl) _).setCell (by exact rfl) _⟩
    · go_ret; go_tidy
      rename_i h0 h1
      exact ⟨by simp [fixV, Nat.not_lt.1 h1], by simpa [fixR, RdAt, Nat.not_lt.1 h1] using heap_set H.out 0 _, (Touch.refl _ _).setCell (by exact rfl) _⟩
theorem take_snoc (s : ByteArray) (k : Nat) (h : k < s.size) : s.data.toList.take (k + 1) = s.data.toList.take k ++ [s[k]] := by
  rw [List.take_succ_eq_append_getElem (by simpa using h)]; rfl
theorem or_step (b : Nat) (c : UInt8) (hb : b < 72057594037927936) :
    bits BinOp.or IntKind.u64 (IntKind.u64.wrap ((b : Int) * 256)) (IntKind.u64.wrap (c.toNat : Int)) = ((b * 256 + c.toNat : Nat) : Int) := by
  have hc := c.toNat_lt
  have e1 : IntKind.u64.wrap ((b : Int) * 256) = ((b * 256 : Nat) : Int) := (wrap_u64 _ (by omega) (by omega)).trans (by omega)
  have e2 : IntKind.u64.wrap (c.toNat : Int) = (c.toNat : Int) := wrap_u64 _ (by omega) (by omega)
  rw [e1, e2, u64_or_nat _ _ (by omega) (by omega), Nat.or_comm, nat_join8' _ _ (by omega) (by omega)]
theorem get_uint8_c (g : Nat) (r : Option ByteArray) (n : Int) (hn : 0 ≤ n) (hn8 : n ≤ 1) (w : World) (h : RdAt w g r) :
    Calls Tryz.prog 141 #[.pointer (some ⟨g, 0, none⟩), .int .i64 n] w (RdRet w g (.int .u8 (be (fixV r n.toNat).data.toList)) (fixR r n.toNat)) := by
  go_enter Tryz.func141, Tryz.ntmps141
  go_wp2_with (go_at_call 142; refine (fixed_c g r n hn _ h).mono ?_; rintro e w1 ⟨rfl, h1, ht⟩)
  have hs := fixV_size r n.toNat
  generalize fixV r n.toNat = s at *
  have hs2 : s.size ≤ 1 := by omega
  go_loop [6, 13] (fun n i => ∃ k : Nat, k ≤ s.size ∧ i = .int .i64 k ∧ n = .int .u64 (be (s.data.toList.take k))) (fun _ i => s.size - (intOf i).toNat)
  case atStart => exact ⟨0, Nat.zero_le _, rfl, rfl⟩
  case round =>
    obtain ⟨k, hk, rfl, rfl⟩ := hrel
    by_cases hlt : k < s.size
    · have hb := be_small (s.data.toList.take k) 7 (by simp; omega)
      have ho := or_step (be (s.data.toList.take k)) s[k] hb
      have ht1 := take_snoc s k hlt
      have H1 := Aside.mk ho
      have H2 := Aside.mk ht1
      clear ho ht1 hb
      go_wp2
      go_round
      case rel => exact ⟨k + 1, by omega, by go_num, by rw [H2.out, be_snoc, H1.out]⟩
      case measure => simp [intOf]; omega
    · go_wp2
      go_ret
      have hk' : List.take k s.data.toList = s.data.toList := List.take_of_length_le (by simp; omega)
      have hb := be_small s.data.toList 1 (by simp; omega)
      exact ⟨by simp only [hk']; exact ret_int (by first | exact wrap_u8 _ (by omega) (by omega) | omega), h1, ht⟩
theorem get_uint16_c (g : Nat) (r : Option ByteArray) (n : Int) (hn : 0 ≤ n) (hn8 : n ≤ 2) (w : World) (h : RdAt w g r) :
    Calls Tryz.prog 161 #[.pointer (some ⟨g, 0, none⟩), .int .i64 n] w (RdRet w g (.int .u16 (be (fixV r n.toNat).data.toList)) (fixR r n.toNat)) := by
  go_enter Tryz.func161, Tryz.ntmps161
  go_wp2_with (go_at_call 142; refine (fixed_c g r n hn _ h).mono ?_; rintro e w1 ⟨rfl, h1, ht⟩)
  have hs := fixV_size r n.toNat
  generalize fixV r n.toNat = s at *
  have hs2 : s.size ≤ 2 := by omega
  go_loop [6, 13] (fun n i => ∃ k : Nat, k ≤ s.size ∧ i = .int .i64 k ∧ n = .int .u64 (be (s.data.toList.take k))) (fun _ i => s.size - (intOf i).toNat)
  case atStart => exact ⟨0, Nat.zero_le _, rfl, rfl⟩
  case round =>
    obtain ⟨k, hk, rfl, rfl⟩ := hrel
    by_cases hlt : k < s.size
    · have hb := be_small (s.data.toList.take k) 7 (by simp; omega)
      have ho := or_step (be (s.data.toList.take k)) s[k] hb
      have ht1 := take_snoc s k hlt
      have H1 := Aside.mk ho
      have H2 := Aside.mk ht1
      clear ho ht1 hb
      go_wp2
      go_round
      case rel => exact ⟨k + 1, by omega, by go_num, by rw [H2.out, be_snoc, H1.out]⟩
      case measure => simp [intOf]; omega
    · go_wp2
      go_ret
      have hk' : List.take k s.data.toList = s.data.toList := List.take_of_length_le (by simp; omega)
      have hb := be_small s.data.toList 2 (by simp; omega)
      exact ⟨by simp only [hk']; exact ret_int (by first | exact wrap_u16 _ (by omega) (by omega) | omega), h1, ht⟩
theorem get_uint32_c (g : Nat) (r : Option ByteArray) (n : Int) (hn : 0 ≤ n) (hn8 : n ≤ 4) (w : World) (h : RdAt w g r) :
    Calls Tryz.prog 146 #[.pointer (some ⟨g, 0, none⟩), .int .i64 n] w (RdRet w g (.int .u32 (be (fixV r n.toNat).data.toList)) (fixR r n.toNat)) := by
  go_enter Tryz.func146, Tryz.ntmps146
  go_wp2_with (go_at_call 142; refine (fixed_c g r n hn _ h).mono ?_; rintro e w1 ⟨rfl, h1, ht⟩)
  have hs := fixV_size r n.toNat
  generalize fixV r n.toNat = s at *
  have hs2 : s.size ≤ 4 := by omega
  go_loop [6, 13] (fun n i => ∃ k : Nat, k ≤ s.size ∧ i = .int .i64 k ∧ n = .int .u64 (be (s.data.toList.take k))) (fun _ i => s.size - (intOf i).toNat)
  case atStart => exact ⟨0, Nat.zero_le _, rfl, rfl⟩
  case round =>
    obtain ⟨k, hk, rfl, rfl⟩ := hrel
    by_cases hlt : k < s.size
    · have hb := be_small (s.data.toList.take k) 7 (by simp; omega)
      have ho := or_step (be (s.data.toList.take k)) s[k] hb
      have ht1 := take_snoc s k hlt
      have H1 := Aside.mk ho
      have H2 := Aside.mk ht1
      clear ho ht1 hb
      go_wp2
      go_round
      case rel => exact ⟨k + 1, by omega, by go_num, by rw [H2.out, be_snoc, H1.out]⟩
      case measure => simp [intOf]; omega
    · go_wp2
      go_ret
      have hk' : List.take k s.data.toList = s.data.toList := List.take_of_length_le (by simp; omega)
      have hb := be_small s.data.toList 4 (by simp; omega)
      exact ⟨by simp only [hk']; exact ret_int (by first | exact wrap_u32 _ (by omega) (by omega) | omega), h1, ht⟩
theorem get_uint64_c (g : Nat) (r : Option ByteArray) (n : Int) (hn : 0 ≤ n) (hn8 : n ≤ 8) (w : World) (h : RdAt w g r) :
    Calls Tryz.prog 147 #[.pointer (some ⟨g, 0, none⟩), .int .i64 n] w (RdRet w g (.int .u64 (be (fixV r n.toNat).data.toList)) (fixR r n.toNat)) := by
  go_enter Tryz.func147, Tryz.ntmps147
  go_wp2_with (go_at_call 142; refine (fixed_c g r n hn _ h).mono ?_; rintro e w1 ⟨rfl, h1, ht⟩)
  have hs := fixV_size r n.toNat
  generalize fixV r n.toNat = s at *
  have hs2 : s.size ≤ 8 := by omega
  go_loop [6, 13] (fun n i => ∃ k : Nat, k ≤ s.size ∧ i = .int .i64 k ∧ n = .int .u64 (be (s.data.toList.take k))) (fun _ i => s.size - (intOf i).toNat)
  case atStart => exact ⟨0, Nat.zero_le _, rfl, rfl⟩
  case round =>
    obtain ⟨k, hk, rfl, rfl⟩ := hrel
    by_cases hlt : k < s.size
    · have hb := be_small (s.data.toList.take k) 7 (by simp; omega)
      have ho := or_step (be (s.data.toList.take k)) s[k] hb
      have ht1 := take_snoc s k hlt
      have H1 := Aside.mk ho
      have H2 := Aside.mk ht1
      clear ho ht1 hb
      go_wp2
      go_round
      case rel => exact ⟨k + 1, by omega, by go_num, by rw [H2.out, be_snoc, H1.out]⟩
      case measure => simp [intOf]; omega
    · go_wp2
      go_ret
      have hk' : List.take k s.data.toList = s.data.toList := List.take_of_length_le (by simp; omega)
      have hb := be_small s.data.toList 8 (by simp; omega)
      exact ⟨by simp only [hk']; exact ret_int (by first | exact wrap_u64 _ (by omega) (by omega) | omega), h1, ht⟩
theorem rdU8_c (g : Nat) (r : Option ByteArray) (w : World) (h : RdAt w g r) :
    Calls Tryz.prog 109 #[.pointer (some ⟨g, 0, none⟩)] w (RdRet w g (.int .u8 (numV r 1)) (fixR r 1)) := by
  go_enter Tryz.func109, Tryz.ntmps109
  go_wp2_with (go_at_call 141; refine (get_uint8_c g r 1 (by omega) (by omega) _ h).mono ?_; rintro e w1 ⟨rfl, h1, ht⟩)
  go_ret
  exact ⟨rfl, h1, ht⟩
theorem rdU16_c (g : Nat) (r : Option ByteArray) (w : World) (h : RdAt w g r) :
    Calls Tryz.prog 143 #[.pointer (some ⟨g, 0, none⟩)] w (RdRet w g (.int .u16 (numV r 2)) (fixR r 2)) := by
  go_enter Tryz.func143, Tryz.ntmps143
  go_wp2_with (go_at_call 161; refine (get_uint16_c g r 2 (by omega) (by omega) _ h).mono ?_; rintro e w1 ⟨rfl, h1, ht⟩)
  go_ret
  exact ⟨rfl, h1, ht⟩
theorem rdU32_c (g : Nat) (r : Option ByteArray) (w : World) (h : RdAt w g r) :
    Calls Tryz.prog 116 #[.pointer (some ⟨g, 0, none⟩)] w (RdRet w g (.int .u32 (numV r 4)) (fixR r 4)) := by
  go_enter Tryz.func116, Tryz.ntmps116
  go_wp2_with (go_at_call 146; refine (get_uint32_c g r 4 (by omega) (by omega) _ h).mono ?_; rintro e w1 ⟨rfl, h1, ht⟩)
  go_ret
  exact ⟨rfl, h1, ht⟩
theorem rdU64_c (g : Nat) (r : Option ByteArray) (w : World) (h : RdAt w g r) :
    Calls Tryz.prog 117 #[.pointer (some ⟨g, 0, none⟩)] w (RdRet w g (.int .u64 (numV r 8)) (fixR r 8)) := by
  go_enter Tryz.func117, Tryz.ntmps117
  go_wp2_with (go_at_call 147; refine (get_uint64_c g r 8 (by omega) (by omega) _ h).mono ?_; rintro e w1 ⟨rfl, h1, ht⟩)
  go_ret
  exact ⟨rfl, h1, ht⟩

theorem rdText_c (g : Nat) (r : Option ByteArray) (w : World) (h : RdAt w g r) :
    Calls Tryz.prog 110 #[.pointer (some ⟨g, 0, none⟩)] w (RdRet w g (.string (textV r)) (textR r)) := by
  have hl : numV r 2 < 65536 := numV_lt r 2
  go_enter Tryz.func110, Tryz.ntmps110
  go_wp2_with (go_at_call 143; refine (rdU16_c g r _ h).mono ?_; rintro e w1 ⟨rfl, h1, ht⟩)
  refine (fixed_c g _ (numV r 2) (by omega) _ h1).mono ?_
  rintro e w2 ⟨rfl, h2, ht2⟩
  go_wp2
  go_ret
  exact ⟨rfl, h2, ht.trans ht2⟩

theorem rdErr_c (g : Nat) (r : Option ByteArray) (w : World) (h : RdAt w g r) :
    Calls Tryz.prog 111 #[.pointer (some ⟨g, 0, none⟩)] w fun e w' => e = .returned (.int .i64 (rdErr r)) ∧ w = w' := by
  have c1 : w.cell? ⟨g, 1, none⟩ = some (.int .i64 (rdErr r)) := h.c1
  clear h
  go_enter Tryz.func111, Tryz.ntmps111
  go_wp2
  go_ret
  exact ⟨rfl, rfl⟩
theorem rdRest_c (g : Nat) (r : Option ByteArray) (w : World) (h : RdAt w g r) :
    Calls Tryz.prog 112 #[.pointer (some ⟨g, 0, none⟩)] w fun e w' => e = .returned (.string (rdRest r)) ∧ w = w' := by
  have c0 : w.cell? ⟨g, 0, none⟩ = some (.string (rdRest r)) := h.c0
  clear h
  go_enter Tryz.func112, Tryz.ntmps112
  go_wp2
  go_ret
  exact ⟨rfl, rfl⟩
theorem rdNew_c (s : ByteArray) (w : World) :
    Calls Tryz.prog 108 #[.string s] w fun e w' => e = .returned (.pointer (some ⟨w.heap.size, 0, none⟩)) ∧ w' = w.alloc (.cells #[.string s, .int .i64 0] 172) := by
  go_enter Tryz.func108, Tryz.ntmps108
  go_wp2
  go_ret
  exact ⟨rfl, rfl⟩
end Go.Proofs.YtmggpfngbkbkmaaGreatDoor
/- What codec's Writer does, method by method: bytes, one behind the other. -/
namespace Go.Proofs.YtmggpfngbkbkmaaGreatDoor
open Go.RowKit
set_option linter.unusedVariables false
set_option linter.unusedSimpArgs false

def byteVs (l : List UInt8) : List Value := l.map fun c => .int .u8 c.toNat
/-- At block g stands a writer: its slice, which owns its row, and no error. -/
structure WrAt (w : World) (g : Nat) (v : Value) (l : List UInt8) : Prop where
  blk : w.heap[g]? = some (.cells #[v, .int .i64 0] 142 (0, 0))
  own : w.ownsRow 0 5 1 v l.length (byteVs l)
/-- The call has written what makes l of the writer's bytes; no other old block is touched. -/
def WrRet (w : World) (g : Nat) (v : Value) (l : List UInt8) (e : Ending) (w' : World) : Prop :=
  e = .returned (.tuple #[]) ∧ ∃ v', WrAt w' g v' l ∧ Touch (fun k => k = g ∨ v.ownBlock = some k) w w' ∧ RowAt w v v'

theorem WrAt.c0 {w : World} {g : Nat} {v : Value} {l : List UInt8} (h : WrAt w g v l) : w.cell? ⟨g, 0, none⟩ = some v := by simp [World.cell?, h.blk]
theorem WrAt.c1 {w : World} {g : Nat} {v : Value} {l : List UInt8} (h : WrAt w g v l) : w.cell? ⟨g, 1, none⟩ = some (.int .i64 0) := by simp [World.cell?, h.blk]
theorem WrAt.f {w : World} {g : Nat} {v : Value} {l : List UInt8} (h : WrAt w g v l) (o : Nat) : w.frozen? ⟨g, o, none⟩ = false := by simp [World.frozen?, h.blk]
theorem WrAt.lt {w : World} {g : Nat} {v : Value} {l : List UInt8} (h : WrAt w g v l) : g < w.heap.size := heap_lt h.blk
theorem el_u8 : Elem Tryz.prog 5 (.int .u8 0) 1 1 := ⟨by kernel_rfl, rfl, by decide, by decide⟩


theorem byte_val (n : Int) (hn : 0 ≤ n) (j : Nat) (hj : j ≤ 7) : IntKind.u8.wrap (n / 2 ^ min (8 * (j : Int)).toNat 64) = ((UInt8.ofNat (n.toNat / 2 ^ (8 * j))).toNat : Int) := by
  obtain ⟨m, rfl⟩ := Int.eq_ofNat_of_zero_le hn
  have e1 : min (8 * (j : Int)).toNat 64 = 8 * j := by omega
  rw [e1]
  simp only [IntKind.wrap, IntKind.bits, IntKind.signed, Int.toNat_natCast]
  rw [show ((2 : Int) ^ (8 * j)) = ((2 ^ (8 * j) : Nat) : Int) by simp, ← Int.natCast_ediv]
  generalize m / 2 ^ (8 * j) = q
  simp

theorem wr_push {wr w1 : World} {g : Nat} {vk : Value} {L : List UInt8} {o : Obj} {gg cap : Nat} {x : Int} {c : UInt8} (hw : WrAt wr g vk L) (hgrow : (wr.alloc o).drew.grownBy w1 vk.ownBlock)
    (hown1 : w1.ownsRow 0 5 1 (.slice (some ⟨gg, 0, none⟩) (L.length + 1) cap) (L.length + 1) (byteVs L ++ [.int .u8 x])) (hx : x = c.toNat)
    (hat : vk.ownBlock = some gg ∨ gg = (wr.alloc o).drew.heap.size) :
    WrAt (w1.setCell ⟨g, 0, none⟩ (.slice (some ⟨gg, 0, none⟩) (L.length + 1) cap)) g (.slice (some ⟨gg, 0, none⟩) (L.length + 1) cap) (L ++ [c]) ∧
      Touch (fun k => k = g ∨ vk.ownBlock = some k) wr (w1.setCell ⟨g, 0, none⟩ (.slice (some ⟨gg, 0, none⟩) (L.length + 1) cap)) ∧ RowAt wr vk (.slice (some ⟨gg, 0, none⟩) (L.length + 1) cap) := by
  subst hx
  have hlt := hw.lt
  have hne := own_ne hw.own hw.blk (by decide)
  have hg : g < (wr.alloc o).drew.heap.size := by show g < (wr.alloc o).heap.size; simp; omega
  have hb1 : w1.heap[g]? = some (.cells #[vk, .int .i64 0] 142 (0, 0)) := (hgrow.block g hg (fun e => hne e.symm)).trans (heap_alloc hw.blk o)
  have ht : Touch (fun k => k = g ∨ vk.ownBlock = some k) wr w1 := Touch.grown (((Touch.refl _ wr).alloc o).drew) hgrow (fun k hk _ => .inr hk)
  refine ⟨⟨heap_set hb1 0 _, ?_⟩, ht.setCell (.inl rfl) _, ?_⟩
  · have h2 : gg ≠ g := by
      intro e; subst e
      exact own_ne hown1 hb1 (by decide) rfl
    have h3 := hown1.kept (w' := w1.setCell ⟨g, 0, none⟩ (.slice (some ⟨gg, 0, none⟩) (L.length + 1) cap)) (row := some g) ⟨rfl, rfl, rfl, by simp [World.setCell], fun k hk hn => Below.heap_setCell _ _ _ _ (fun e => hn (by rw [e]))⟩ (.inr (by simp [Value.ownBlock, h2]))
    simpa [byteVs] using h3
  · rcases hat with h | h
    · exact .inl h.symm
    · refine .inr ⟨gg, rfl, ?_⟩
      rw [h]; show _ ≤ (wr.alloc o).heap.size; simp
theorem row_trans {w wr w' : World} {g : Nat} {v vk v' : Value} (ht : Touch (fun k => k = g ∨ v.ownBlock = some k) w wr) (hr : RowAt w v vk)
    (ht' : Touch (fun k => k = g ∨ vk.ownBlock = some k) wr w') (hr' : RowAt wr vk v') : Touch (fun k => k = g ∨ v.ownBlock = some k) w w' ∧ RowAt w v v' := by
  constructor
  · refine ht.trans' ht' fun i hi hs => ?_
    rcases hs with hs | hs
    · exact .inl hs
    · rcases hr with h | ⟨b, h, hb⟩
      · exact .inr (h ▸ hs)
      · rw [h] at hs; injection hs with hs; omega
  · have := ht.size
    rcases hr' with h | ⟨b, h, hb⟩
    · rcases hr with h1 | ⟨b, h1, hb⟩
      · exact .inl (h.trans h1)
      · exact .inr ⟨b, h.trans h1, hb⟩
    · exact .inr ⟨b, h, by omega⟩

set_option maxHeartbeats 800000 in
set_option maxRecDepth 100000 in
theorem put_uint8_c (g : Nat) (v : Value) (l : List UInt8) (n : Int) (hn0 : 0 ≤ n) (hn : n < 256) (hl : l.length < 1073741824) (w : World) (h : WrAt w g v l) :
    Calls Tryz.prog 138 #[.pointer (some ⟨g, 0, none⟩), .int .u8 n, .int .i64 1] w (WrRet w g v (l ++ numBytes n.toNat 1)) := by
  have c1 := h.c1
  go_enter Tryz.func138, Tryz.ntmps138
  go_wp2
  go_loopw [17] (fun i wr => ∃ (k : Nat) (vk : Value), k ≤ 1 ∧ i = .int .i64 k ∧ WrAt wr g vk (l ++ (numBytes n.toNat 1).take k) ∧ Touch (fun k => k = g ∨ v.ownBlock = some k) w wr ∧ RowAt w v vk) (fun i _ => 1 - (intOf i).toNat)
  case atStart => exact ⟨0, v, by omega, rfl, by simpa using h, Touch.refl _ _, .inl rfl⟩
  case round =>
    obtain ⟨k, vk, hk, rfl, hw, ht, hr⟩ := hrel
    have hlen : (l ++ (numBytes n.toNat 1).take k).length ≤ l.length + 1 := by simp; omega
    generalize hL : l ++ (numBytes n.toNat 1).take k = L at hw hlen
    have HL := Aside.mk hL
    clear hL
    have d0 := hw.c0
    have e0 := hw.f 0
    by_cases hlt : k < 1
    · obtain ⟨j, hj⟩ : ∃ j, k + j + 1 = 1 := ⟨1 - 1 - k, by omega⟩
      have a1 : IntKind.i64.wrap 0 = 0 := IntWalk.i64_in _ (by omega)
      have a2 : IntKind.i64.wrap (-(k : Int)) = (j : Int) := (IntWalk.i64_in _ (by omega)).trans (by omega)
      have a3 : IntKind.i64.wrap (8 * (j : Int)) = 8 * (j : Int) := IntWalk.i64_in _ (by omega)
      have a4 : (0 : Int) ≤ 8 * (j : Int) := by omega
      have a5 : IntKind.u64.wrap n = n := wrap_u64 _ (by omega) (by omega)
      have J := Aside.mk hj
      clear hj
      go_wp2_with fail
      have hown := hw.own
      have hne := own_ne hown hw.blk (by decide)
      have hlt := hw.lt
      go_region_law (refine step_app1 rfl (.tmp 24) (.tmp 34) 122 rfl 5 Tryz.underlying122 el_u8 vk _ _ (by rfl) ((hown.alloc _).drew) (by omega) wr.heap.size _ _ (by exact heap_new wr _) (by rfl) rfl (by simp [Value.oneCell']) ?_; intro gg cap w1 hown1 hgrow hat hlt1; have q0 := hgrow.cell_far ⟨g, 0, none⟩ (by simp; omega) (fun e => hne e.symm); have q1 := hgrow.frozen_far ⟨g, 0, none⟩ (by simp; omega) (fun e => hne e.symm); have q2 : w1.cell? ⟨g, 0, none⟩ = some vk := q0.trans (by go_simp); have q3 : w1.frozen? ⟨g, 0, none⟩ = false := q1.trans (by go_simp); clear q0 q1)
      all_goals
        go_wp2
        obtain ⟨p1, p2, p3⟩ := wr_push hw hgrow hown1 (byte_val n hn0 j (by have := J.out; omega)) hat
        obtain ⟨p4, p5⟩ := row_trans ht hr p2 p3
        have hs := numBytes_snoc n.toNat 1 k j J.out
        go_roundw
        case rel => exact ⟨k + 1, _, by omega, by go_num, by rw [hs, ← List.append_assoc, HL.out]; exact p1, p4, p5⟩
        case measure => simp [intOf]; omega
    · go_wp2
      go_end0
      obtain rfl : k = 1 := by omega
      have hL := HL.out
      rw [List.take_of_length_le (by rw [numBytes_length]; exact Nat.le_refl _)] at hL
      subst hL
      exact ⟨rfl, vk, hw, ht, hr⟩
set_option maxHeartbeats 800000 in
set_option maxRecDepth 100000 in
theorem put_uint16_c (g : Nat) (v : Value) (l : List UInt8) (n : Int) (hn0 : 0 ≤ n) (hn : n < 65536) (hl : l.length < 1073741824) (w : World) (h : WrAt w g v l) :
    Calls Tryz.prog 160 #[.pointer (some ⟨g, 0, none⟩), .int .u16 n, .int .i64 2] w (WrRet w g v (l ++ numBytes n.toNat 2)) := by
  have c1 := h.c1
  go_enter Tryz.func160, Tryz.ntmps160
  go_wp2
  go_loopw [17] (fun i wr => ∃ (k : Nat) (vk : Value), k ≤ 2 ∧ i = .int .i64 k ∧ WrAt wr g vk (l ++ (numBytes n.toNat 2).take k) ∧ Touch (fun k => k = g ∨ v.ownBlock = some k) w wr ∧ RowAt w v vk) (fun i _ => 2 - (intOf i).toNat)
  case atStart => exact ⟨0, v, by omega, rfl, by simpa using h, Touch.refl _ _, .inl rfl⟩
  case round =>
    obtain ⟨k, vk, hk, rfl, hw, ht, hr⟩ := hrel
    have hlen : (l ++ (numBytes n.toNat 2).take k).length ≤ l.length + 2 := by simp; omega
    generalize hL : l ++ (numBytes n.toNat 2).take k = L at hw hlen
    have HL := Aside.mk hL
    clear hL
    have d0 := hw.c0
    have e0 := hw.f 0
    by_cases hlt : k < 2
    · obtain ⟨j, hj⟩ : ∃ j, k + j + 1 = 2 := ⟨2 - 1 - k, by omega⟩
      have a1 : IntKind.i64.wrap 1 = 1 := IntWalk.i64_in _ (by omega)
      have a2 : IntKind.i64.wrap (1-(k : Int)) = (j : Int) := (IntWalk.i64_in _ (by omega)).trans (by omega)
      have a3 : IntKind.i64.wrap (8 * (j : Int)) = 8 * (j : Int) := IntWalk.i64_in _ (by omega)
      have a4 : (0 : Int) ≤ 8 * (j : Int) := by omega
      have a5 : IntKind.u64.wrap n = n := wrap_u64 _ (by omega) (by omega)
      have J := Aside.mk hj
      clear hj
      go_wp2_with fail
      have hown := hw.own
      have hne := own_ne hown hw.blk (by decide)
      have hlt := hw.lt
      go_region_law (refine step_app1 rfl (.tmp 24) (.tmp 34) 122 rfl 5 Tryz.underlying122 el_u8 vk _ _ (by rfl) ((hown.alloc _).drew) (by omega) wr.heap.size _ _ (by exact heap_new wr _) (by rfl) rfl (by simp [Value.oneCell']) ?_; intro gg cap w1 hown1 hgrow hat hlt1; have q0 := hgrow.cell_far ⟨g, 0, none⟩ (by simp; omega) (fun e => hne e.symm); have q1 := hgrow.frozen_far ⟨g, 0, none⟩ (by simp; omega) (fun e => hne e.symm); have q2 : w1.cell? ⟨g, 0, none⟩ = some vk := q0.trans (by go_simp); have q3 : w1.frozen? ⟨g, 0, none⟩ = false := q1.trans (by go_simp); clear q0 q1)
      all_goals
        go_wp2
        obtain ⟨p1, p2, p3⟩ := wr_push hw hgrow hown1 (byte_val n hn0 j (by have := J.out; omega)) hat
        obtain ⟨p4, p5⟩ := row_trans ht hr p2 p3
        have hs := numBytes_snoc n.toNat 2 k j J.out
        go_roundw
        case rel => exact ⟨k + 1, _, by omega, by go_num, by rw [hs, ← List.append_assoc, HL.out]; exact p1, p4, p5⟩
        case measure => simp [intOf]; omega
    · go_wp2
      go_end0
      obtain rfl : k = 2 := by omega
      have hL := HL.out
      rw [List.take_of_length_le (by rw [numBytes_length]; exact Nat.le_refl _)] at hL
      subst hL
      exact ⟨rfl, vk, hw, ht, hr⟩
set_option maxHeartbeats 800000 in
set_option maxRecDepth 100000 in
theorem put_uint32_c (g : Nat) (v : Value) (l : List UInt8) (n : Int) (hn0 : 0 ≤ n) (hn : n < 4294967296) (hl : l.length < 1073741824) (w : World) (h : WrAt w g v l) :
    Calls Tryz.prog 149 #[.pointer (some ⟨g, 0, none⟩), .int .u32 n, .int .i64 4] w (WrRet w g v (l ++ numBytes n.toNat 4)) := by
  have c1 := h.c1
  go_enter Tryz.func149, Tryz.ntmps149
  go_wp2
  go_loopw [17] (fun i wr => ∃ (k : Nat) (vk : Value), k ≤ 4 ∧ i = .int .i64 k ∧ WrAt wr g vk (l ++ (numBytes n.toNat 4).take k) ∧ Touch (fun k => k = g ∨ v.ownBlock = some k) w wr ∧ RowAt w v vk) (fun i _ => 4 - (intOf i).toNat)
  case atStart => exact ⟨0, v, by omega, rfl, by simpa using h, Touch.refl _ _, .inl rfl⟩
  case round =>
    obtain ⟨k, vk, hk, rfl, hw, ht, hr⟩ := hrel
    have hlen : (l ++ (numBytes n.toNat 4).take k).length ≤ l.length + 4 := by simp; omega
    generalize hL : l ++ (numBytes n.toNat 4).take k = L at hw hlen
    have HL := Aside.mk hL
    clear hL
    have d0 := hw.c0
    have e0 := hw.f 0
    by_cases hlt : k < 4
    · obtain ⟨j, hj⟩ : ∃ j, k + j + 1 = 4 := ⟨4 - 1 - k, by omega⟩
      have a1 : IntKind.i64.wrap 3 = 3 := IntWalk.i64_in _ (by omega)
      have a2 : IntKind.i64.wrap (3-(k : Int)) = (j : Int) := (IntWalk.i64_in _ (by omega)).trans (by omega)
      have a3 : IntKind.i64.wrap (8 * (j : Int)) = 8 * (j : Int) := IntWalk.i64_in _ (by omega)
      have a4 : (0 : Int) ≤ 8 * (j : Int) := by omega
      have a5 : IntKind.u64.wrap n = n := wrap_u64 _ (by omega) (by omega)
      have J := Aside.mk hj
      clear hj
      go_wp2_with fail
      have hown := hw.own
      have hne := own_ne hown hw.blk (by decide)
      have hlt := hw.lt
      go_region_law (refine step_app1 rfl (.tmp 24) (.tmp 34) 122 rfl 5 Tryz.underlying122 el_u8 vk _ _ (by rfl) ((hown.alloc _).drew) (by omega) wr.heap.size _ _ (by exact heap_new wr _) (by rfl) rfl (by simp [Value.oneCell']) ?_; intro gg cap w1 hown1 hgrow hat hlt1; have q0 := hgrow.cell_far ⟨g, 0, none⟩ (by simp; omega) (fun e => hne e.symm); have q1 := hgrow.frozen_far ⟨g, 0, none⟩ (by simp; omega) (fun e => hne e.symm); have q2 : w1.cell? ⟨g, 0, none⟩ = some vk := q0.trans (by go_simp); have q3 : w1.frozen? ⟨g, 0, none⟩ = false := q1.trans (by go_simp); clear q0 q1)
      all_goals
        go_wp2
        obtain ⟨p1, p2, p3⟩ := wr_push hw hgrow hown1 (byte_val n hn0 j (by have := J.out; omega)) hat
        obtain ⟨p4, p5⟩ := row_trans ht hr p2 p3
        have hs := numBytes_snoc n.toNat 4 k j J.out
        go_roundw
        case rel => exact ⟨k + 1, _, by omega, by go_num, by rw [hs, ← List.append_assoc, HL.out]; exact p1, p4, p5⟩
        case measure => simp [intOf]; omega
    · go_wp2
      go_end0
      obtain rfl : k = 4 := by omega
      have hL := HL.out
      rw [List.take_of_length_le (by rw [numBytes_length]; exact Nat.le_refl _)] at hL
      subst hL
      exact ⟨rfl, vk, hw, ht, hr⟩
set_option maxHeartbeats 800000 in
set_option maxRecDepth 100000 in
theorem put_uint64_c (g : Nat) (v : Value) (l : List UInt8) (n : Int) (hn0 : 0 ≤ n) (hn : n < 18446744073709551616) (hl : l.length < 1073741824) (w : World) (h : WrAt w g v l) :
    Calls Tryz.prog 150 #[.pointer (some ⟨g, 0, none⟩), .int .u64 n, .int .i64 8] w (WrRet w g v (l ++ numBytes n.toNat 8)) := by
  have c1 := h.c1
  go_enter Tryz.func150, Tryz.ntmps150
  go_wp2
  go_loopw [17] (fun i wr => ∃ (k : Nat) (vk : Value), k ≤ 8 ∧ i = .int .i64 k ∧ WrAt wr g vk (l ++ (numBytes n.toNat 8).take k) ∧ Touch (fun k => k = g ∨ v.ownBlock = some k) w wr ∧ RowAt w v vk) (fun i _ => 8 - (intOf i).toNat)
  case atStart => exact ⟨0, v, by omega, rfl, by simpa using h, Touch.refl _ _, .inl rfl⟩
  case round =>
    obtain ⟨k, vk, hk, rfl, hw, ht, hr⟩ := hrel
    have hlen : (l ++ (numBytes n.toNat 8).take k).length ≤ l.length + 8 := by simp; omega
    generalize hL : l ++ (numBytes n.toNat 8).take k = L at hw hlen
    have HL := Aside.mk hL
    clear hL
    have d0 := hw.c0
    have e0 := hw.f 0
    by_cases hlt : k < 8
    · obtain ⟨j, hj⟩ : ∃ j, k + j + 1 = 8 := ⟨8 - 1 - k, by omega⟩
      have a1 : IntKind.i64.wrap 7 = 7 := IntWalk.i64_in _ (by omega)
      have a2 : IntKind.i64.wrap (7-(k : Int)) = (j : Int) := (IntWalk.i64_in _ (by omega)).trans (by omega)
      have a3 : IntKind.i64.wrap (8 * (j : Int)) = 8 * (j : Int) := IntWalk.i64_in _ (by omega)
      have a4 : (0 : Int) ≤ 8 * (j : Int) := by omega
      have a5 : IntKind.u64.wrap n = n := wrap_u64 _ (by omega) (by omega)
      have J := Aside.mk hj
      clear hj
      go_wp2_with fail
      have hown := hw.own
      have hne := own_ne hown hw.blk (by decide)
      have hlt := hw.lt
      go_region_law (refine step_app1 rfl (.tmp 24) (.tmp 33) 122 rfl 5 Tryz.underlying122 el_u8 vk _ _ (by rfl) ((hown.alloc _).drew) (by omega) wr.heap.size _ _ (by exact heap_new wr _) (by rfl) rfl (by simp [Value.oneCell']) ?_; intro gg cap w1 hown1 hgrow hat hlt1; have q0 := hgrow.cell_far ⟨g, 0, none⟩ (by simp; omega) (fun e => hne e.symm); have q1 := hgrow.frozen_far ⟨g, 0, none⟩ (by simp; omega) (fun e => hne e.symm); have q2 : w1.cell? ⟨g, 0, none⟩ = some vk := q0.trans (by go_simp); have q3 : w1.frozen? ⟨g, 0, none⟩ = false := q1.trans (by go_simp); clear q0 q1)
      all_goals
        go_wp2
        obtain ⟨p1, p2, p3⟩ := wr_push hw hgrow hown1 (byte_val n hn0 j (by have := J.out; omega)) hat
        obtain ⟨p4, p5⟩ := row_trans ht hr p2 p3
        have hs := numBytes_snoc n.toNat 8 k j J.out
        go_roundw
        case rel => exact ⟨k + 1, _, by omega, by go_num, by rw [hs, ← List.append_assoc, HL.out]; exact p1, p4, p5⟩
        case measure => simp [intOf]; omega
    · go_wp2
      go_end0
      obtain rfl : k = 8 := by omega
      have hL := HL.out
      rw [List.take_of_length_le (by rw [numBytes_length]; exact Nat.le_refl _)] at hL
      subst hL
      exact ⟨rfl, vk, hw, ht, hr⟩
end Go.Proofs.YtmggpfngbkbkmaaGreatDoor
/- What codec's Writer does, method by method (2): U8 to U64, Raw, Text, Bytes. -/
namespace Go.Proofs.YtmggpfngbkbkmaaGreatDoor
open Go.RowKit
set_option linter.unusedVariables false
set_option linter.unusedSimpArgs false

theorem wrU8_c (g : Nat) (v : Value) (l : List UInt8) (n : Int) (hn0 : 0 ≤ n) (hn : n < 256) (hl : l.length < 1073741824) (w : World) (h : WrAt w g v l) :
    Calls Tryz.prog 105 #[.pointer (some ⟨g, 0, none⟩), .int .u8 n] w (WrRet w g v (l ++ numBytes n.toNat 1)) := by
  go_enter Tryz.func105, Tryz.ntmps105
  go_wp2_with (go_at_call 138; refine (put_uint8_c g v l n hn0 hn hl _ h).mono ?_; rintro e w1 ⟨rfl, hp⟩)
  go_end0
  exact ⟨rfl, hp⟩
theorem wrU16_c (g : Nat) (v : Value) (l : List UInt8) (n : Int) (hn0 : 0 ≤ n) (hn : n < 65536) (hl : l.length < 1073741824) (w : World) (h : WrAt w g v l) :
    Calls Tryz.prog 139 #[.pointer (some ⟨g, 0, none⟩), .int .u16 n] w (WrRet w g v (l ++ numBytes n.toNat 2)) := by
  go_enter Tryz.func139, Tryz.ntmps139
  go_wp2_with (go_at_call 160; refine (put_uint16_c g v l n hn0 hn hl _ h).mono ?_; rintro e w1 ⟨rfl, hp⟩)
  go_end0
  exact ⟨rfl, hp⟩
theorem wrU32_c (g : Nat) (v : Value) (l : List UInt8) (n : Int) (hn0 : 0 ≤ n) (hn : n < 4294967296) (hl : l.length < 1073741824) (w : World) (h : WrAt w g v l) :
    Calls Tryz.prog 121 #[.pointer (some ⟨g, 0, none⟩), .int .u32 n] w (WrRet w g v (l ++ numBytes n.toNat 4)) := by
  go_enter Tryz.func121, Tryz.ntmps121
  go_wp2_with (go_at_call 149; refine (put_uint32_c g v l n hn0 hn hl _ h).mono ?_; rintro e w1 ⟨rfl, hp⟩)
  go_end0
  exact ⟨rfl, hp⟩
theorem wrU64_c (g : Nat) (v : Value) (l : List UInt8) (n : Int) (hn0 : 0 ≤ n) (hn : n < 18446744073709551616) (hl : l.length < 1073741824) (w : World) (h : WrAt w g v l) :
    Calls Tryz.prog 122 #[.pointer (some ⟨g, 0, none⟩), .int .u64 n] w (WrRet w g v (l ++ numBytes n.toNat 8)) := by
  go_enter Tryz.func122, Tryz.ntmps122
  go_wp2_with (go_at_call 150; refine (put_uint64_c g v l n hn0 hn hl _ h).mono ?_; rintro e w1 ⟨rfl, hp⟩)
  go_end0
  exact ⟨rfl, hp⟩

theorem wr_set {w w1 : World} {g : Nat} {v : Value} {l l' : List UInt8} {A : Option Addr} {m c : Nat} (hw : WrAt w g v l) (hgrow : w.grownBy w1 v.ownBlock)
    (hown1 : w1.ownsRow 0 5 1 (.slice A m c) l'.length (byteVs l')) :
    WrAt (w1.setCell ⟨g, 0, none⟩ (.slice A m c)) g (.slice A m c) l' ∧ Touch (fun k => k = g ∨ v.ownBlock = some k) w (w1.setCell ⟨g, 0, none⟩ (.slice A m c)) := by
  have hne := own_ne hw.own hw.blk (by decide)
  have hb1 : w1.heap[g]? = some (.cells #[v, .int .i64 0] 142 (0, 0)) := (hgrow.block g hw.lt (fun e => hne e.symm)).trans hw.blk
  have ht : Touch (fun k => k = g ∨ v.ownBlock = some k) w w1 := Touch.grown (Touch.refl _ w) hgrow (fun k hk _ => .inr hk)
  refine ⟨⟨heap_set hb1 0 _, ?_⟩, ht.setCell (.inl rfl) _⟩
  have h2 := own_ne hown1 hb1 (by decide)
  exact hown1.kept (w' := w1.setCell ⟨g, 0, none⟩ (.slice A m c)) (row := some g) ⟨rfl, rfl, rfl, by simp [World.setCell], fun k hk hn => Below.heap_setCell _ _ _ _ (fun e => hn (by rw [e]))⟩ (.inr h2)

theorem wrRaw_c (g : Nat) (v : Value) (l : List UInt8) (s : ByteArray) (hl : l.length < 1073741824) (hs : s.size < 1073741824) (w : World) (h : WrAt w g v l) :
    Calls Tryz.prog 140 #[.pointer (some ⟨g, 0, none⟩), .string s] w (WrRet w g v (l ++ s.data.toList)) := by
  have c0 := h.c0
  have c1 := h.c1
  have f0 := h.f 0
  have hne := own_ne h.own h.blk (by decide)
  have hlt := h.lt
  go_enter Tryz.func140, Tryz.ntmps140
  go_wp2_with (at_builtin; refine wpList_appstr rfl (.tmp 17) (.tmp 18) 122 9 rfl 5 Tryz.underlying122 Tryz.underlying9 (by kernel_rfl) v _ _ rfl h.own s rfl (by omega) ?_; intro A m c w1 hown hg hat; have q0 : w1.cell? ⟨g, 0, none⟩ = some v := (hg.cell_far ⟨g, 0, none⟩ hlt (fun e => hne e.symm)).trans c0; have q1 : w1.frozen? ⟨g, 0, none⟩ = false := (hg.frozen_far ⟨g, 0, none⟩ hlt (fun e => hne e.symm)).trans f0)
  go_end0
  obtain ⟨p1, p2⟩ := wr_set (l' := l ++ s.data.toList) h hg (by simpa [byteVs, Lib.strCells] using hown)
  exact ⟨rfl, _, p1, p2, hat⟩

theorem wrText_c (g : Nat) (v : Value) (l : List UInt8) (s : ByteArray) (hl : l.length < 1000000000) (hs : s.size < 65536) (w : World) (h : WrAt w g v l) :
    Calls Tryz.prog 106 #[.pointer (some ⟨g, 0, none⟩), .string s] w (WrRet w g v (l ++ (numBytes s.size 2 ++ s.data.toList))) := by
  go_enter Tryz.func106, Tryz.ntmps106
  go_wp2_with fail
  refine (wrU16_c g v l s.size (by omega) (by omega) (by omega) _ h).mono ?_
  rintro e w1 ⟨rfl, v1, h1, ht1, hr1⟩
  go_wp2_with fail
  refine (wrRaw_c g v1 _ s (by simp [numBytes_length]; omega) (by omega) _ h1).mono ?_
  rintro e w2 ⟨rfl, v2, h2, ht2, hr2⟩
  go_wp2
  go_end0
  obtain ⟨p1, p2⟩ := row_trans ht1 hr1 ht2 hr2
  exact ⟨rfl, v2, by rw [← List.append_assoc]; exact h2, p1, p2⟩

theorem strOf (l : List UInt8) : strOfNums (l.map fun c => (c.toNat : Int)) = ⟨l.toArray⟩ := by
  have h : ((fun n : Int => UInt8.ofNat n.toNat) ∘ fun c : UInt8 => (c.toNat : Int)) = id := by funext c; simp
  simp [strOfNums, h]
theorem bytes_str {l : List UInt8} {w : World} {v : Value} (hown : w.ownsRow 0 5 1 v l.length (byteVs l)) :
    (Go.convert 122 9 v).run Tryz.prog w = .ok (.string ⟨l.toArray⟩) w := by
  rcases hown.2 with ⟨rfl, h0⟩ | ⟨g, cap, cur, rfl, _⟩
  · obtain rfl : l = [] := List.eq_nil_of_length_eq_zero h0
    exact run_convert_bytes_nil w 122 5 Tryz.underlying122 Tryz.underlying5 0 0 9 Tryz.underlying9
  · have hl : (l.map fun c => (c.toNat : Int)).length = l.length := by simp
    have hc := run_convert_bytes_arg (P := Tryz.prog) w 122 5 Tryz.underlying122 Tryz.underlying5 g 0 l.length cap (l.map fun c => (c.toNat : Int)) hl (fun i hi => by
      have hc := hown.cells (g := g) rfl i (.int .u8 (l[i].toNat)) (by simp [byteVs, hi])
      have ha : (⟨g, 0, none⟩ : Addr).add i = ⟨g, 0 + i, none⟩ := by unfold Addr.add; split <;> simp_all
      rw [ha] at hc
      rw [hc]
      simp [List.getD, hi]) 9 Tryz.underlying9
    rwa [strOf] at hc

theorem wrBytes_c (g : Nat) (v : Value) (l : List UInt8) (w : World) (h : WrAt w g v l) :
    Calls Tryz.prog 107 #[.pointer (some ⟨g, 0, none⟩)] w fun e w' => e = .returned (.tuple #[.string ⟨l.toArray⟩, .int .i64 0]) ∧ w = w' := by
  have c0 := h.c0
  have c1 := h.c1
  have hc := bytes_str h.own
  go_enter Tryz.func107, Tryz.ntmps107
  go_wp2
  go_ret2
  exact ⟨rfl, rfl⟩

/-- A writer that was new in world W0, and what it has by now; nothing else that was there in W0 is touched. -/
structure WrS (W0 w : World) (g : Nat) (l : List UInt8) : Prop where
  at_ : ∃ v, WrAt w g v l ∧ ∀ k, v.ownBlock = some k → W0.heap.size ≤ k
  touch : Touch (· = g) W0 w
def WrSRet (W0 : World) (g : Nat) (l : List UInt8) (e : Ending) (w' : World) : Prop := e = .returned (.tuple #[]) ∧ WrS W0 w' g l
theorem WrS.keep {W0 w : World} {g : Nat} {l : List UInt8} (h : WrS W0 w g l) {k : Nat} {o : Obj} (hk : W0.heap[k]? = some o) (hn : k ≠ g) : w.heap[k]? = some o := h.touch.keep hk hn
theorem WrS.new {w : World} {g : Nat} (h : w.heap[g]? = some (.cells #[.slice none 0 0, .int .i64 0] 142 (0, 0))) : WrS w w g [] :=
  ⟨⟨_, ⟨h, World.ownsRow_nil _ _ _ _⟩, fun k hk => by simp [Value.ownBlock] at hk⟩, Touch.refl _ _⟩
theorem WrS.step {W0 w w' : World} {g : Nat} {v : Value} {l' : List UInt8} {e : Ending} (hv : ∀ k, v.ownBlock = some k → W0.heap.size ≤ k) (ht : Touch (· = g) W0 w) (h : WrRet w g v l' e w') : WrSRet W0 g l' e w' := by
  obtain ⟨he, v', h1, h2, h3⟩ := h
  refine ⟨he, ⟨v', h1, ?_⟩, ht.trans' h2 ?_⟩
  · intro k hk
    rcases h3 with h3 | ⟨b, h3, hb⟩
    · exact hv k (h3 ▸ hk)
    · rw [h3] at hk; injection hk with hk; have := ht.size; omega
  · intro i hi hs
    rcases hs with hs | hs
    · exact hs
    · have := hv i hs; omega
theorem wrsU8_c {W0 : World} {g : Nat} {l : List UInt8} (w : World) (h : WrS W0 w g l) (n : Int) (hn0 : 0 ≤ n) (hn : n < 256) (hl : l.length < 1073741824) :
    Calls Tryz.prog 105 #[.pointer (some ⟨g, 0, none⟩), .int .u8 n] w (WrSRet W0 g (l ++ numBytes n.toNat 1)) := by
  obtain ⟨⟨v, h1, h2⟩, h3⟩ := h
  exact (wrU8_c g v l n hn0 hn hl w h1).mono fun e w' h => WrS.step h2 h3 h
theorem wrsU16_c {W0 : World} {g : Nat} {l : List UInt8} (w : World) (h : WrS W0 w g l) (n : Int) (hn0 : 0 ≤ n) (hn : n < 65536) (hl : l.length < 1073741824) :
    Calls Tryz.prog 139 #[.pointer (some ⟨g, 0, none⟩), .int .u16 n] w (WrSRet W0 g (l ++ numBytes n.toNat 2)) := by
  obtain ⟨⟨v, h1, h2⟩, h3⟩ := h
  exact (wrU16_c g v l n hn0 hn hl w h1).mono fun e w' h => WrS.step h2 h3 h
theorem wrsU32_c {W0 : World} {g : Nat} {l : List UInt8} (w : World) (h : WrS W0 w g l) (n : Int) (hn0 : 0 ≤ n) (hn : n < 4294967296) (hl : l.length < 1073741824) :
    Calls Tryz.prog 121 #[.pointer (some ⟨g, 0, none⟩), .int .u32 n] w (WrSRet W0 g (l ++ numBytes n.toNat 4)) := by
  obtain ⟨⟨v, h1, h2⟩, h3⟩ := h
  exact (wrU32_c g v l n hn0 hn hl w h1).mono fun e w' h => WrS.step h2 h3 h
theorem wrsU64_c {W0 : World} {g : Nat} {l : List UInt8} (w : World) (h : WrS W0 w g l) (n : Int) (hn0 : 0 ≤ n) (hn : n < 18446744073709551616) (hl : l.length < 1073741824) :
    Calls Tryz.prog 122 #[.pointer (some ⟨g, 0, none⟩), .int .u64 n] w (WrSRet W0 g (l ++ numBytes n.toNat 8)) := by
  obtain ⟨⟨v, h1, h2⟩, h3⟩ := h
  exact (wrU64_c g v l n hn0 hn hl w h1).mono fun e w' h => WrS.step h2 h3 h
theorem wrsText_c {W0 : World} {g : Nat} {l : List UInt8} (w : World) (h : WrS W0 w g l) (s : ByteArray) (hs : s.size < 65536) (hl : l.length < 1000000000) :
    Calls Tryz.prog 106 #[.pointer (some ⟨g, 0, none⟩), .string s] w (WrSRet W0 g (l ++ (numBytes s.size 2 ++ s.data.toList))) := by
  obtain ⟨⟨v, h1, h2⟩, h3⟩ := h
  exact (wrText_c g v l s hl hs w h1).mono fun e w' h => WrS.step h2 h3 h
theorem wrsBytes_c {W0 : World} {g : Nat} {l : List UInt8} (w : World) (h : WrS W0 w g l) :
    Calls Tryz.prog 107 #[.pointer (some ⟨g, 0, none⟩)] w fun e w' => e = .returned (.tuple #[.string ⟨l.toArray⟩, .int .i64 0]) ∧ w = w' := by
  obtain ⟨⟨v, h1, h2⟩, h3⟩ := h
  exact wrBytes_c g v l w h1
end Go.Proofs.YtmggpfngbkbkmaaGreatDoor
