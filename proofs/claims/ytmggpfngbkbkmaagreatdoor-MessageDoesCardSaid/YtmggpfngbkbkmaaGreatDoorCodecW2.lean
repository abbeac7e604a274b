/- What codec's Writer does, method by method (2): U8 to U64, Raw, Text, Bytes. -/
import Derived.Test.YtmggpfngbkbkmaaGreatDoorCodecW
namespace Go.Proofs.YtmggpfngbkbkmaaGreatDoor
open Go.RowKit
set_option linter.unusedVariables false
set_option linter.unusedSimpArgs false

theorem wrU8_c (g : Nat) (v : Value) (l : List UInt8) (n : Int) (hn0 : 0 ≤ n) (hn : n < 256) (hl : l.length < 1073741824) (w : World) (h : WrAt w g v l) :
    Calls Tryz.prog 105 #[.pointer (some ⟨g, 0, none⟩), .int .u8 n] w (WrRet w g v (l ++ numBytes n.toNat 1)) := by
  go_enter Tryz.func105, Tryz.ntmps105
  go_wp2_with (go_at_call 138; refine (put_uint8_c g v l n hn0 hn hl _ h).mono ?_; rintro e w1 ⟨rfl, hp⟩)
  go_end0
  exact ⟨rfl, hp⟩
theorem wrU16_c (g : Nat) (v : Value) (l : List UInt8) (n : Int) (hn0 : 0 ≤ n) (hn : n < 65536) (hl : l.length < 1073741824) (w : World) (h : WrAt w g v l) :
    Calls Tryz.prog 139 #[.pointer (some ⟨g, 0, none⟩), .int .u16 n] w (WrRet w g v (l ++ numBytes n.toNat 2)) := by
  go_enter Tryz.func139, Tryz.ntmps139
  go_wp2_with (go_at_call 160; refine (put_uint16_c g v l n hn0 hn hl _ h).mono ?_; rintro e w1 ⟨rfl, hp⟩)
  go_end0
  exact ⟨rfl, hp⟩
theorem wrU32_c (g : Nat) (v : Value) (l : List UInt8) (n : Int) (hn0 : 0 ≤ n) (hn : n < 4294967296) (hl : l.length < 1073741824) (w : World) (h : WrAt w g v l) :
    Calls Tryz.prog 121 #[.pointer (some ⟨g, 0, none⟩), .int .u32 n] w (WrRet w g v (l ++ numBytes n.toNat 4)) := by
  go_enter Tryz.func121, Tryz.ntmps121
  go_wp2_with (go_at_call 149; refine (put_uint32_c g v l n hn0 hn hl _ h).mono ?_; rintro e w1 ⟨rfl, hp⟩)
  go_end0
  exact ⟨rfl, hp⟩
theorem wrU64_c (g : Nat) (v : Value) (l : List UInt8) (n : Int) (hn0 : 0 ≤ n) (hn : n < 18446744073709551616) (hl : l.length < 1073741824) (w : World) (h : WrAt w g v l) :
    Calls Tryz.prog 122 #[.pointer (some ⟨g, 0, none⟩), .int .u64 n] w (WrRet w g v (l ++ numBytes n.toNat 8)) := by
  go_enter Tryz.func122, Tryz.ntmps122
  go_wp2_with (go_at_call 150; refine (put_uint64_c g v l n hn0 hn hl _ h).mono ?_; rintro e w1 ⟨rfl, hp⟩)
  go_end0
  exact ⟨rfl, hp⟩

theorem wr_set {w w1 : World} {g : Nat} {v : Value} {l l' : List UInt8} {A : Option Addr} {m c : Nat} (hw : WrAt w g v l) (hgrow : w.grownBy w1 v.ownBlock)
    (hown1 : w1.ownsRow 0 5 1 (.slice A m c) l'.length (byteVs l')) :
    WrAt (w1.setCell ⟨g, 0, none⟩ (.slice A m c)) g (.slice A m c) l' ∧ Touch (fun k => k = g ∨ v.ownBlock = some k) w (w1.setCell ⟨g, 0, none⟩ (.slice A m c)) := by
  have hne := own_ne hw.own hw.blk (by decide)
  have hb1 : w1.heap[g]? = some (.cells #[v, .int .i64 0] 142 (0, 0)) := (hgrow.block g hw.lt (fun e => hne e.symm)).trans hw.blk
  have ht : Touch (fun k => k = g ∨ v.ownBlock = some k) w w1 := Touch.grown (Touch.refl _ w) hgrow (fun k hk _ => .inr hk)
  refine ⟨⟨heap_set hb1 0 _, ?_⟩, ht.setCell (.inl rfl) _⟩
  have h2 := own_ne hown1 hb1 (by decide)
  exact hown1.kept (w' := w1.setCell ⟨g, 0, none⟩ (.slice A m c)) (row := some g) ⟨rfl, rfl, rfl, by simp [World.setCell], fun k hk hn => Below.heap_setCell _ _ _ _ (fun e => hn (by rw [e]))⟩ (.inr h2)

theorem wrRaw_c (g : Nat) (v : Value) (l : List UInt8) (s : ByteArray) (hl : l.length < 1073741824) (hs : s.size < 1073741824) (w : World) (h : WrAt w g v l) :
    Calls Tryz.prog 140 #[.pointer (some ⟨g, 0, none⟩), .string s] w (WrRet w g v (l ++ s.data.toList)) := by
  have c0 := h.c0
  have c1 := h.c1
  have f0 := h.f 0
  have hne := own_ne h.own h.blk (by decide)
  have hlt := h.lt
  go_enter Tryz.func140, Tryz.ntmps140
  go_wp2_with (at_builtin; refine wpList_appstr rfl (.tmp 17) (.tmp 18) 122 9 rfl 5 Tryz.underlying122 Tryz.underlying9 (by kernel_rfl) v _ _ rfl h.own s rfl (by omega) ?_; intro A m c w1 hown hg hat; have q0 : w1.cell? ⟨g, 0, none⟩ = some v := (hg.cell_far ⟨g, 0, none⟩ hlt (fun e => hne e.symm)).trans c0; have q1 : w1.frozen? ⟨g, 0, none⟩ = false := (hg.frozen_far ⟨g, 0, none⟩ hlt (fun e => hne e.symm)).trans f0)
  go_end0
  obtain ⟨p1, p2⟩ := wr_set (l' := l ++ s.data.toList) h hg (by simpa [byteVs, Lib.strCells] using hown)
  exact ⟨rfl, _, p1, p2, hat⟩

theorem wrText_c (g : Nat) (v : Value) (l : List UInt8) (s : ByteArray) (hl : l.length < 1000000000) (hs : s.size < 65536) (w : World) (h : WrAt w g v l) :
    Calls Tryz.prog 106 #[.pointer (some ⟨g, 0, none⟩), .string s] w (WrRet w g v (l ++ (numBytes s.size 2 ++ s.data.toList))) := by
  go_enter Tryz.func106, Tryz.ntmps106
  go_wp2_with fail
  refine (wrU16_c g v l s.size (by omega) (by omega) (by omega) _ h).mono ?_
  rintro e w1 ⟨rfl, v1, h1, ht1, hr1⟩
  go_wp2_with fail
  refine (wrRaw_c g v1 _ s (by simp [numBytes_length]; omega) (by omega) _ h1).mono ?_
  rintro e w2 ⟨rfl, v2, h2, ht2, hr2⟩
  go_wp2
  go_end0
  obtain ⟨p1, p2⟩ := row_trans ht1 hr1 ht2 hr2
  exact ⟨rfl, v2, by rw [← List.append_assoc]; exact h2, p1, p2⟩

theorem strOf (l : List UInt8) : strOfNums (l.map fun c => (c.toNat : Int)) = ⟨l.toArray⟩ := by
  have h : ((fun n : Int => UInt8.ofNat n.toNat) ∘ fun c : UInt8 => (c.toNat : Int)) = id := by funext c; simp
  simp [strOfNums, h]
theorem bytes_str {l : List UInt8} {w : World} {v : Value} (hown : w.ownsRow 0 5 1 v l.length (byteVs l)) :
    (Go.convert 122 9 v).run Tryz.prog w = .ok (.string ⟨l.toArray⟩) w := by
  rcases hown.2 with ⟨rfl, h0⟩ | ⟨g, cap, cur, rfl, _⟩
  · obtain rfl : l = [] := List.eq_nil_of_length_eq_zero h0
    exact run_convert_bytes_nil w 122 5 Tryz.underlying122 Tryz.underlying5 0 0 9 Tryz.underlying9
  · have hl : (l.map fun c => (c.toNat : Int)).length = l.length := by simp
    have hc := run_convert_bytes_arg (P := Tryz.prog) w 122 5 Tryz.underlying122 Tryz.underlying5 g 0 l.length cap (l.map fun c => (c.toNat : Int)) hl (fun i hi => by
      have hc := hown.cells (g := g) rfl i (.int .u8 (l[i].toNat)) (by simp [byteVs, hi])
      have ha : (⟨g, 0, none⟩ : Addr).add i = ⟨g, 0 + i, none⟩ := by unfold Addr.add; split <;> simp_all
      rw [ha] at hc
      rw [hc]
      simp [List.getD, hi]) 9 Tryz.underlying9
    rwa [strOf] at hc

theorem wrBytes_c (g : Nat) (v : Value) (l : List UInt8) (w : World) (h : WrAt w g v l) :
    Calls Tryz.prog 107 #[.pointer (some ⟨g, 0, none⟩)] w fun e w' => e = .returned (.tuple #[.string ⟨l.toArray⟩, .int .i64 0]) ∧ w = w' := by
  have c0 := h.c0
  have c1 := h.c1
  have hc := bytes_str h.own
  go_enter Tryz.func107, Tryz.ntmps107
  go_wp2
  go_ret2
  exact ⟨rfl, rfl⟩

/-- A writer that was new in world W0, and what it has by now; nothing else that was there in W0 is touched. -/
structure WrS (W0 w : World) (g : Nat) (l : List UInt8) : Prop where
  at_ : ∃ v, WrAt w g v l ∧ ∀ k, v.ownBlock = some k → W0.heap.size ≤ k
  touch : Touch (· = g) W0 w
def WrSRet (W0 : World) (g : Nat) (l : List UInt8) (e : Ending) (w' : World) : Prop := e = .returned (.tuple #[]) ∧ WrS W0 w' g l
theorem WrS.keep {W0 w : World} {g : Nat} {l : List UInt8} (h : WrS W0 w g l) {k : Nat} {o : Obj} (hk : W0.heap[k]? = some o) (hn : k ≠ g) : w.heap[k]? = some o := h.touch.keep hk hn
theorem WrS.new {w : World} {g : Nat} (h : w.heap[g]? = some (.cells #[.slice none 0 0, .int .i64 0] 142 (0, 0))) : WrS w w g [] :=
  ⟨⟨_, ⟨h, World.ownsRow_nil _ _ _ _⟩, fun k hk => by simp [Value.ownBlock] at hk⟩, Touch.refl _ _⟩
theorem WrS.step {W0 w w' : World} {g : Nat} {v : Value} {l' : List UInt8} {e : Ending} (hv : ∀ k, v.ownBlock = some k → W0.heap.size ≤ k) (ht : Touch (· = g) W0 w) (h : WrRet w g v l' e w') : WrSRet W0 g l' e w' := by
  obtain ⟨he, v', h1, h2, h3⟩ := h
  refine ⟨he, ⟨v', h1, ?_⟩, ht.trans' h2 ?_⟩
  · intro k hk
    rcases h3 with h3 | ⟨b, h3, hb⟩
    · exact hv k (h3 ▸ hk)
    · rw [h3] at hk; injection hk with hk; have := ht.size; omega
  · intro i hi hs
    rcases hs with hs | hs
    · exact hs
    · have := hv i hs; omega
theorem wrsU8_c {W0 : World} {g : Nat} {l : List UInt8} (w : World) (h : WrS W0 w g l) (n : Int) (hn0 : 0 ≤ n) (hn : n < 256) (hl : l.length < 1073741824) :
    Calls Tryz.prog 105 #[.pointer (some ⟨g, 0, none⟩), .int .u8 n] w (WrSRet W0 g (l ++ numBytes n.toNat 1)) := by
  obtain ⟨⟨v, h1, h2⟩, h3⟩ := h
  exact (wrU8_c g v l n hn0 hn hl w h1).mono fun e w' h => WrS.step h2 h3 h
theorem wrsU16_c {W0 : World} {g : Nat} {l : List UInt8} (w : World) (h : WrS W0 w g l) (n : Int) (hn0 : 0 ≤ n) (hn : n < 65536) (hl : l.length < 1073741824) :
    Calls Tryz.prog 139 #[.pointer (some ⟨g, 0, none⟩), .int .u16 n] w (WrSRet W0 g (l ++ numBytes n.toNat 2)) := by
  obtain ⟨⟨v, h1, h2⟩, h3⟩ := h
  exact (wrU16_c g v l n hn0 hn hl w h1).mono fun e w' h => WrS.step h2 h3 h
theorem wrsU32_c {W0 : World} {g : Nat} {l : List UInt8} (w : World) (h : WrS W0 w g l) (n : Int) (hn0 : 0 ≤ n) (hn : n < 4294967296) (hl : l.length < 1073741824) :
    Calls Tryz.prog 121 #[.pointer (some ⟨g, 0, none⟩), .int .u32 n] w (WrSRet W0 g (l ++ numBytes n.toNat 4)) := by
  obtain ⟨⟨v, h1, h2⟩, h3⟩ := h
  exact (wrU32_c g v l n hn0 hn hl w h1).mono fun e w' h => WrS.step h2 h3 h
theorem wrsU64_c {W0 : World} {g : Nat} {l : List UInt8} (w : World) (h : WrS W0 w g l) (n : Int) (hn0 : 0 ≤ n) (hn : n < 18446744073709551616) (hl : l.length < 1073741824) :
    Calls Tryz.prog 122 #[.pointer (some ⟨g, 0, none⟩), .int .u64 n] w (WrSRet W0 g (l ++ numBytes n.toNat 8)) := by
  obtain ⟨⟨v, h1, h2⟩, h3⟩ := h
  exact (wrU64_c g v l n hn0 hn hl w h1).mono fun e w' h => WrS.step h2 h3 h
theorem wrsText_c {W0 : World} {g : Nat} {l : List UInt8} (w : World) (h : WrS W0 w g l) (s : ByteArray) (hs : s.size < 65536) (hl : l.length < 1000000000) :
    Calls Tryz.prog 106 #[.pointer (some ⟨g, 0, none⟩), .string s] w (WrSRet W0 g (l ++ (numBytes s.size 2 ++ s.data.toList))) := by
  obtain ⟨⟨v, h1, h2⟩, h3⟩ := h
  exact (wrText_c g v l s hl hs w h1).mono fun e w' h => WrS.step h2 h3 h
theorem wrsBytes_c {W0 : World} {g : Nat} {l : List UInt8} (w : World) (h : WrS W0 w g l) :
    Calls Tryz.prog 107 #[.pointer (some ⟨g, 0, none⟩)] w fun e w' => e = .returned (.tuple #[.string ⟨l.toArray⟩, .int .i64 0]) ∧ w = w' := by
  obtain ⟨⟨v, h1, h2⟩, h3⟩ := h
  exact wrBytes_c g v l w h1
end Go.Proofs.YtmggpfngbkbkmaaGreatDoor
