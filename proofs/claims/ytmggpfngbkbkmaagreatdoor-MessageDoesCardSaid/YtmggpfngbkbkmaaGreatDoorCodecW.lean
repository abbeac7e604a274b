/- What codec's Writer does, method by method: bytes, one behind the other. -/
import Derived.Test.YtmggpfngbkbkmaaGreatDoorCodecR
import Derived.Deep.RegionLaw
import Derived.Deep.AppendLies
import Derived.Laws.Rows
import Derived.IntWalk
namespace Go.Proofs.YtmggpfngbkbkmaaGreatDoor
open Go.RowKit
set_option linter.unusedVariables false
set_option linter.unusedSimpArgs false

def byteVs (l : List UInt8) : List Value := l.map fun c => .int .u8 c.toNat
/-- At block g stands a writer: its slice, which owns its row, and no error. -/
structure WrAt (w : World) (g : Nat) (v : Value) (l : List UInt8) : Prop where
  blk : w.heap[g]? = some (.cells #[v, .int .i64 0] 142 (0, 0))
  own : w.ownsRow 0 5 1 v l.length (byteVs l)
/-- The call has written what makes l of the writer's bytes; no other old block is touched. -/
def WrRet (w : World) (g : Nat) (v : Value) (l : List UInt8) (e : Ending) (w' : World) : Prop :=
  e = .returned (.tuple #[]) ∧ ∃ v', WrAt w' g v' l ∧ Touch (fun k => k = g ∨ v.ownBlock = some k) w w' ∧ RowAt w v v'

theorem WrAt.c0 {w : World} {g : Nat} {v : Value} {l : List UInt8} (h : WrAt w g v l) : w.cell? ⟨g, 0, none⟩ = some v := by simp [World.cell?, h.blk]
theorem WrAt.c1 {w : World} {g : Nat} {v : Value} {l : List UInt8} (h : WrAt w g v l) : w.cell? ⟨g, 1, none⟩ = some (.int .i64 0) := by simp [World.cell?, h.blk]
theorem WrAt.f {w : World} {g : Nat} {v : Value} {l : List UInt8} (h : WrAt w g v l) (o : Nat) : w.frozen? ⟨g, o, none⟩ = false := by simp [World.frozen?, h.blk]
theorem WrAt.lt {w : World} {g : Nat} {v : Value} {l : List UInt8} (h : WrAt w g v l) : g < w.heap.size := heap_lt h.blk
theorem el_u8 : Elem Tryz.prog 5 (.int .u8 0) 1 1 := ⟨by kernel_rfl, rfl, by decide, by decide⟩


theorem byte_val (n : Int) (hn : 0 ≤ n) (j : Nat) (hj : j ≤ 7) : IntKind.u8.wrap (n / 2 ^ min (8 * (j : Int)).toNat 64) = ((UInt8.ofNat (n.toNat / 2 ^ (8 * j))).toNat : Int) := by
  obtain ⟨m, rfl⟩ := Int.eq_ofNat_of_zero_le hn
  have e1 : min (8 * (j : Int)).toNat 64 = 8 * j := by omega
  rw [e1]
  simp only [IntKind.wrap, IntKind.bits, IntKind.signed, Int.toNat_natCast]
  rw [show ((2 : Int) ^ (8 * j)) = ((2 ^ (8 * j) : Nat) : Int) by simp, ← Int.natCast_ediv]
  generalize m / 2 ^ (8 * j) = q
  simp

theorem wr_push {wr w1 : World} {g : Nat} {vk : Value} {L : List UInt8} {o : Obj} {gg cap : Nat} {x : Int} {c : UInt8} (hw : WrAt wr g vk L) (hgrow : (wr.alloc o).drew.grownBy w1 vk.ownBlock)
    (hown1 : w1.ownsRow 0 5 1 (.slice (some ⟨gg, 0, none⟩) (L.length + 1) cap) (L.length + 1) (byteVs L ++ [.int .u8 x])) (hx : x = c.toNat)
    (hat : vk.ownBlock = some gg ∨ gg = (wr.alloc o).drew.heap.size) :
    WrAt (w1.setCell ⟨g, 0, none⟩ (.slice (some ⟨gg, 0, none⟩) (L.length + 1) cap)) g (.slice (some ⟨gg, 0, none⟩) (L.length + 1) cap) (L ++ [c]) ∧
      Touch (fun k => k = g ∨ vk.ownBlock = some k) wr (w1.setCell ⟨g, 0, none⟩ (.slice (some ⟨gg, 0, none⟩) (L.length + 1) cap)) ∧ RowAt wr vk (.slice (some ⟨gg, 0, none⟩) (L.length + 1) cap) := by
  subst hx
  have hlt := hw.lt
  have hne := own_ne hw.own hw.blk (by decide)
  have hg : g < (wr.alloc o).drew.heap.size := by show g < (wr.alloc o).heap.size; simp; omega
  have hb1 : w1.heap[g]? = some (.cells #[vk, .int .i64 0] 142 (0, 0)) := (hgrow.block g hg (fun e => hne e.symm)).trans (heap_alloc hw.blk o)
  have ht : Touch (fun k => k = g ∨ vk.ownBlock = some k) wr w1 := Touch.grown (((Touch.refl _ wr).alloc o).drew) hgrow (fun k hk _ => .inr hk)
  refine ⟨⟨heap_set hb1 0 _, ?_⟩, ht.setCell (.inl rfl) _, ?_⟩
  · have h2 : gg ≠ g := by
      intro e; subst e
      exact own_ne hown1 hb1 (by decide) rfl
    have h3 := hown1.kept (w' := w1.setCell ⟨g, 0, none⟩ (.slice (some ⟨gg, 0, none⟩) (L.length + 1) cap)) (row := some g) ⟨rfl, rfl, rfl, by simp [World.setCell], fun k hk hn => Below.heap_setCell _ _ _ _ (fun e => hn (by rw [e]))⟩ (.inr (by simp [Value.ownBlock, h2]))
    simpa [byteVs] using h3
  · rcases hat with h | h
    · exact .inl h.symm
    · refine .inr ⟨gg, rfl, ?_⟩
      rw [h]; show _ ≤ (wr.alloc o).heap.size; simp
theorem row_trans {w wr w' : World} {g : Nat} {v vk v' : Value} (ht : Touch (fun k => k = g ∨ v.ownBlock = some k) w wr) (hr : RowAt w v vk)
    (ht' : Touch (fun k => k = g ∨ vk.ownBlock = some k) wr w') (hr' : RowAt wr vk v') : Touch (fun k => k = g ∨ v.ownBlock = some k) w w' ∧ RowAt w v v' := by
  constructor
  · refine ht.trans' ht' fun i hi hs => ?_
    rcases hs with hs | hs
    · exact .inl hs
    · rcases hr with h | ⟨b, h, hb⟩
      · exact .inr (h ▸ hs)
      · rw [h] at hs; injection hs with hs; omega
  · have := ht.size
    rcases hr' with h | ⟨b, h, hb⟩
    · rcases hr with h1 | ⟨b, h1, hb⟩
      · exact .inl (h.trans h1)
      · exact .inr ⟨b, h.trans h1, hb⟩
    · exact .inr ⟨b, h, by omega⟩

set_option maxHeartbeats 800000 in
set_option maxRecDepth 100000 in
theorem put_uint8_c (g : Nat) (v : Value) (l : List UInt8) (n : Int) (hn0 : 0 ≤ n) (hn : n < 256) (hl : l.length < 1073741824) (w : World) (h : WrAt w g v l) :
    Calls Tryz.prog 138 #[.pointer (some ⟨g, 0, none⟩), .int .u8 n, .int .i64 1] w (WrRet w g v (l ++ numBytes n.toNat 1)) := by
  have c1 := h.c1
  go_enter Tryz.func138, Tryz.ntmps138
  go_wp2
  go_loopw [17] (fun i wr => ∃ (k : Nat) (vk : Value), k ≤ 1 ∧ i = .int .i64 k ∧ WrAt wr g vk (l ++ (numBytes n.toNat 1).take k) ∧ Touch (fun k => k = g ∨ v.ownBlock = some k) w wr ∧ RowAt w v vk) (fun i _ => 1 - (intOf i).toNat)
  case atStart => exact ⟨0, v, by omega, rfl, by simpa using h, Touch.refl _ _, .inl rfl⟩
  case round =>
    obtain ⟨k, vk, hk, rfl, hw, ht, hr⟩ := hrel
    have hlen : (l ++ (numBytes n.toNat 1).take k).length ≤ l.length + 1 := by simp; omega
    generalize hL : l ++ (numBytes n.toNat 1).take k = L at hw hlen
    have HL := Aside.mk hL
    clear hL
    have d0 := hw.c0
    have e0 := hw.f 0
    by_cases hlt : k < 1
    · obtain ⟨j, hj⟩ : ∃ j, k + j + 1 = 1 := ⟨1 - 1 - k, by omega⟩
      have a1 : IntKind.i64.wrap 0 = 0 := IntWalk.i64_in _ (by omega)
      have a2 : IntKind.i64.wrap (-(k : Int)) = (j : Int) := (IntWalk.i64_in _ (by omega)).trans (by omega)
      have a3 : IntKind.i64.wrap (8 * (j : Int)) = 8 * (j : Int) := IntWalk.i64_in _ (by omega)
      have a4 : (0 : Int) ≤ 8 * (j : Int) := by omega
      have a5 : IntKind.u64.wrap n = n := wrap_u64 _ (by omega) (by omega)
      have J := Aside.mk hj
      clear hj
      go_wp2_with fail
      have hown := hw.own
      have hne := own_ne hown hw.blk (by decide)
      have hlt := hw.lt
      go_region_law (refine step_app1 rfl (.tmp 24) (.tmp 34) 122 rfl 5 Tryz.underlying122 el_u8 vk _ _ (by rfl) ((hown.alloc _).drew) (by omega) wr.heap.size _ _ (by exact heap_new wr _) (by rfl) rfl (by simp [Value.oneCell']) ?_; intro gg cap w1 hown1 hgrow hat hlt1; have q0 := hgrow.cell_far ⟨g, 0, none⟩ (by simp; omega) (fun e => hne e.symm); have q1 := hgrow.frozen_far ⟨g, 0, none⟩ (by simp; omega) (fun e => hne e.symm); have q2 : w1.cell? ⟨g, 0, none⟩ = some vk := q0.trans (by go_simp); have q3 : w1.frozen? ⟨g, 0, none⟩ = false := q1.trans (by go_simp); clear q0 q1)
      all_goals
        go_wp2
        obtain ⟨p1, p2, p3⟩ := wr_push hw hgrow hown1 (byte_val n hn0 j (by have := J.out; omega)) hat
        obtain ⟨p4, p5⟩ := row_trans ht hr p2 p3
        have hs := numBytes_snoc n.toNat 1 k j J.out
        go_roundw
        case rel => exact ⟨k + 1, _, by omega, by go_num, by rw [hs, ← List.append_assoc, HL.out]; exact p1, p4, p5⟩
        case measure => simp [intOf]; omega
    · go_wp2
      go_end0
      obtain rfl : k = 1 := by omega
      have hL := HL.out
      rw [List.take_of_length_le (by rw [numBytes_length]; exact Nat.le_refl _)] at hL
      subst hL
      exact ⟨rfl, vk, hw, ht, hr⟩
set_option maxHeartbeats 800000 in
set_option maxRecDepth 100000 in
theorem put_uint16_c (g : Nat) (v : Value) (l : List UInt8) (n : Int) (hn0 : 0 ≤ n) (hn : n < 65536) (hl : l.length < 1073741824) (w : World) (h : WrAt w g v l) :
    Calls Tryz.prog 160 #[.pointer (some ⟨g, 0, none⟩), .int .u16 n, .int .i64 2] w (WrRet w g v (l ++ numBytes n.toNat 2)) := by
  have c1 := h.c1
  go_enter Tryz.func160, Tryz.ntmps160
  go_wp2
  go_loopw [17] (fun i wr => ∃ (k : Nat) (vk : Value), k ≤ 2 ∧ i = .int .i64 k ∧ WrAt wr g vk (l ++ (numBytes n.toNat 2).take k) ∧ Touch (fun k => k = g ∨ v.ownBlock = some k) w wr ∧ RowAt w v vk) (fun i _ => 2 - (intOf i).toNat)
  case atStart => exact ⟨0, v, by omega, rfl, by simpa using h, Touch.refl _ _, .inl rfl⟩
  case round =>
    obtain ⟨k, vk, hk, rfl, hw, ht, hr⟩ := hrel
    have hlen : (l ++ (numBytes n.toNat 2).take k).length ≤ l.length + 2 := by simp; omega
    generalize hL : l ++ (numBytes n.toNat 2).take k = L at hw hlen
    have HL := Aside.mk hL
    clear hL
    have d0 := hw.c0
    have e0 := hw.f 0
    by_cases hlt : k < 2
    · obtain ⟨j, hj⟩ : ∃ j, k + j + 1 = 2 := ⟨2 - 1 - k, by omega⟩
      have a1 : IntKind.i64.wrap 1 = 1 := IntWalk.i64_in _ (by omega)
      have a2 : IntKind.i64.wrap (1-(k : Int)) = (j : Int) := (IntWalk.i64_in _ (by omega)).trans (by omega)
      have a3 : IntKind.i64.wrap (8 * (j : Int)) = 8 * (j : Int) := IntWalk.i64_in _ (by omega)
      have a4 : (0 : Int) ≤ 8 * (j : Int) := by omega
      have a5 : IntKind.u64.wrap n = n := wrap_u64 _ (by omega) (by omega)
      have J := Aside.mk hj
      clear hj
      go_wp2_with fail
      have hown := hw.own
      have hne := own_ne hown hw.blk (by decide)
      have hlt := hw.lt
      go_region_law (refine step_app1 rfl (.tmp 24) (.tmp 34) 122 rfl 5 Tryz.underlying122 el_u8 vk _ _ (by rfl) ((hown.alloc _).drew) (by omega) wr.heap.size _ _ (by exact heap_new wr _) (by rfl) rfl (by simp [Value.oneCell']) ?_; intro gg cap w1 hown1 hgrow hat hlt1; have q0 := hgrow.cell_far ⟨g, 0, none⟩ (by simp; omega) (fun e => hne e.symm); have q1 := hgrow.frozen_far ⟨g, 0, none⟩ (by simp; omega) (fun e => hne e.symm); have q2 : w1.cell? ⟨g, 0, none⟩ = some vk := q0.trans (by go_simp); have q3 : w1.frozen? ⟨g, 0, none⟩ = false := q1.trans (by go_simp); clear q0 q1)
      all_goals
        go_wp2
        obtain ⟨p1, p2, p3⟩ := wr_push hw hgrow hown1 (byte_val n hn0 j (by have := J.out; omega)) hat
        obtain ⟨p4, p5⟩ := row_trans ht hr p2 p3
        have hs := numBytes_snoc n.toNat 2 k j J.out
        go_roundw
        case rel => exact ⟨k + 1, _, by omega, by go_num, by rw [hs, ← List.append_assoc, HL.out]; exact p1, p4, p5⟩
        case measure => simp [intOf]; omega
    · go_wp2
      go_end0
      obtain rfl : k = 2 := by omega
      have hL := HL.out
      rw [List.take_of_length_le (by rw [numBytes_length]; exact Nat.le_refl _)] at hL
      subst hL
      exact ⟨rfl, vk, hw, ht, hr⟩
set_option maxHeartbeats 800000 in
set_option maxRecDepth 100000 in
theorem put_uint32_c (g : Nat) (v : Value) (l : List UInt8) (n : Int) (hn0 : 0 ≤ n) (hn : n < 4294967296) (hl : l.length < 1073741824) (w : World) (h : WrAt w g v l) :
    Calls Tryz.prog 149 #[.pointer (some ⟨g, 0, none⟩), .int .u32 n, .int .i64 4] w (WrRet w g v (l ++ numBytes n.toNat 4)) := by
  have c1 := h.c1
  go_enter Tryz.func149, Tryz.ntmps149
  go_wp2
  go_loopw [17] (fun i wr => ∃ (k : Nat) (vk : Value), k ≤ 4 ∧ i = .int .i64 k ∧ WrAt wr g vk (l ++ (numBytes n.toNat 4).take k) ∧ Touch (fun k => k = g ∨ v.ownBlock = some k) w wr ∧ RowAt w v vk) (fun i _ => 4 - (intOf i).toNat)
  case atStart => exact ⟨0, v, by omega, rfl, by simpa using h, Touch.refl _ _, .inl rfl⟩
  case round =>
    obtain ⟨k, vk, hk, rfl, hw, ht, hr⟩ := hrel
    have hlen : (l ++ (numBytes n.toNat 4).take k).length ≤ l.length + 4 := by simp; omega
    generalize hL : l ++ (numBytes n.toNat 4).take k = L at hw hlen
    have HL := Aside.mk hL
    clear hL
    have d0 := hw.c0
    have e0 := hw.f 0
    by_cases hlt : k < 4
    · obtain ⟨j, hj⟩ : ∃ j, k + j + 1 = 4 := ⟨4 - 1 - k, by omega⟩
      have a1 : IntKind.i64.wrap 3 = 3 := IntWalk.i64_in _ (by omega)
      have a2 : IntKind.i64.wrap (3-(k : Int)) = (j : Int) := (IntWalk.i64_in _ (by omega)).trans (by omega)
      have a3 : IntKind.i64.wrap (8 * (j : Int)) = 8 * (j : Int) := IntWalk.i64_in _ (by omega)
      have a4 : (0 : Int) ≤ 8 * (j : Int) := by omega
      have a5 : IntKind.u64.wrap n = n := wrap_u64 _ (by omega) (by omega)
      have J := Aside.mk hj
      clear hj
      go_wp2_with fail
      have hown := hw.own
      have hne := own_ne hown hw.blk (by decide)
      have hlt := hw.lt
      go_region_law (refine step_app1 rfl (.tmp 24) (.tmp 34) 122 rfl 5 Tryz.underlying122 el_u8 vk _ _ (by rfl) ((hown.alloc _).drew) (by omega) wr.heap.size _ _ (by exact heap_new wr _) (by rfl) rfl (by simp [Value.oneCell']) ?_; intro gg cap w1 hown1 hgrow hat hlt1; have q0 := hgrow.cell_far ⟨g, 0, none⟩ (by simp; omega) (fun e => hne e.symm); have q1 := hgrow.frozen_far ⟨g, 0, none⟩ (by simp; omega) (fun e => hne e.symm); have q2 : w1.cell? ⟨g, 0, none⟩ = some vk := q0.trans (by go_simp); have q3 : w1.frozen? ⟨g, 0, none⟩ = false := q1.trans (by go_simp); clear q0 q1)
      all_goals
        go_wp2
        obtain ⟨p1, p2, p3⟩ := wr_push hw hgrow hown1 (byte_val n hn0 j (by have := J.out; omega)) hat
        obtain ⟨p4, p5⟩ := row_trans ht hr p2 p3
        have hs := numBytes_snoc n.toNat 4 k j J.out
        go_roundw
        case rel => exact ⟨k + 1, _, by omega, by go_num, by rw [hs, ← List.append_assoc, HL.out]; exact p1, p4, p5⟩
        case measure => simp [intOf]; omega
    · go_wp2
      go_end0
      obtain rfl : k = 4 := by omega
      have hL := HL.out
      rw [List.take_of_length_le (by rw [numBytes_length]; exact Nat.le_refl _)] at hL
      subst hL
      exact ⟨rfl, vk, hw, ht, hr⟩
set_option maxHeartbeats 800000 in
set_option maxRecDepth 100000 in
theorem put_uint64_c (g : Nat) (v : Value) (l : List UInt8) (n : Int) (hn0 : 0 ≤ n) (hn : n < 18446744073709551616) (hl : l.length < 1073741824) (w : World) (h : WrAt w g v l) :
    Calls Tryz.prog 150 #[.pointer (some ⟨g, 0, none⟩), .int .u64 n, .int .i64 8] w (WrRet w g v (l ++ numBytes n.toNat 8)) := by
  have c1 := h.c1
  go_enter Tryz.func150, Tryz.ntmps150
  go_wp2
  go_loopw [17] (fun i wr => ∃ (k : Nat) (vk : Value), k ≤ 8 ∧ i = .int .i64 k ∧ WrAt wr g vk (l ++ (numBytes n.toNat 8).take k) ∧ Touch (fun k => k = g ∨ v.ownBlock = some k) w wr ∧ RowAt w v vk) (fun i _ => 8 - (intOf i).toNat)
  case atStart => exact ⟨0, v, by omega, rfl, by simpa using h, Touch.refl _ _, .inl rfl⟩
  case round =>
    obtain ⟨k, vk, hk, rfl, hw, ht, hr⟩ := hrel
    have hlen : (l ++ (numBytes n.toNat 8).take k).length ≤ l.length + 8 := by simp; omega
    generalize hL : l ++ (numBytes n.toNat 8).take k = L at hw hlen
    have HL := Aside.mk hL
    clear hL
    have d0 := hw.c0
    have e0 := hw.f 0
    by_cases hlt : k < 8
    · obtain ⟨j, hj⟩ : ∃ j, k + j + 1 = 8 := ⟨8 - 1 - k, by omega⟩
      have a1 : IntKind.i64.wrap 7 = 7 := IntWalk.i64_in _ (by omega)
      have a2 : IntKind.i64.wrap (7-(k : Int)) = (j : Int) := (IntWalk.i64_in _ (by omega)).trans (by omega)
      have a3 : IntKind.i64.wrap (8 * (j : Int)) = 8 * (j : Int) := IntWalk.i64_in _ (by omega)
      have a4 : (0 : Int) ≤ 8 * (j : Int) := by omega
      have a5 : IntKind.u64.wrap n = n := wrap_u64 _ (by omega) (by omega)
      have J := Aside.mk hj
      clear hj
      go_wp2_with fail
      have hown := hw.own
      have hne := own_ne hown hw.blk (by decide)
      have hlt := hw.lt
      go_region_law (refine step_app1 rfl (.tmp 24) (.tmp 33) 122 rfl 5 Tryz.underlying122 el_u8 vk _ _ (by rfl) ((hown.alloc _).drew) (by omega) wr.heap.size _ _ (by exact heap_new wr _) (by rfl) rfl (by simp [Value.oneCell']) ?_; intro gg cap w1 hown1 hgrow hat hlt1; have q0 := hgrow.cell_far ⟨g, 0, none⟩ (by simp; omega) (fun e => hne e.symm); have q1 := hgrow.frozen_far ⟨g, 0, none⟩ (by simp; omega) (fun e => hne e.symm); have q2 : w1.cell? ⟨g, 0, none⟩ = some vk := q0.trans (by go_simp); have q3 : w1.frozen? ⟨g, 0, none⟩ = false := q1.trans (by go_simp); clear q0 q1)
      all_goals
        go_wp2
        obtain ⟨p1, p2, p3⟩ := wr_push hw hgrow hown1 (byte_val n hn0 j (by have := J.out; omega)) hat
        obtain ⟨p4, p5⟩ := row_trans ht hr p2 p3
        have hs := numBytes_snoc n.toNat 8 k j J.out
        go_roundw
        case rel => exact ⟨k + 1, _, by omega, by go_num, by rw [hs, ← List.append_assoc, HL.out]; exact p1, p4, p5⟩
        case measure => simp [intOf]; omega
    · go_wp2
      go_end0
      obtain rfl : k = 8 := by omega
      have hL := HL.out
      rw [List.take_of_length_le (by rw [numBytes_length]; exact Nat.le_refl _)] at hL
      subst hL
      exact ⟨rfl, vk, hw, ht, hr⟩
end Go.Proofs.YtmggpfngbkbkmaaGreatDoor
