/- What a call does to the world, in few words: 'Ret' (old memory stays), 'Touch' (but some blocks), and small laws. No program in sight. -/
import Derived.WalkKit
import Derived.KernelRfl
import Derived.WalkLawsBesides
import Derived.WalkSpells
import Derived.Deep.RegionLaw
import Derived.Deep.AppendLies
import Derived.Laws.Rows
import Derived.IntWalk
import Derived.Lib.AppendStr
import Derived.Deep.QuietTactic
import Derived.BigQuiet
import Derived.Deep.RegionWith
namespace Go.Proofs.YtmggpfngbkbkmaaGreatDoor
open Go.RowKit
set_option linter.unusedVariables false
set_option linter.unusedSimpArgs false

/-- The call returns v, and all that was there is as it was. -/
def Ret (w : World) (v : Value) (e : Ending) (w' : World) : Prop := e = .returned v ∧ Below w.heap.size w w'

theorem Ret.mk' {w w' : World} {v v' : Value} (h : v' = v) (hb : Below w.heap.size w w') : Ret w v (.returned v') w' := ⟨by rw [h], hb⟩

/-- But for the blocks of S the world is as it was. -/
structure Touch (S : Nat → Prop) (w w' : World) : Prop where
  os : w'.os = w.os
  tape : w'.tape = w.tape
  output : w'.output = w.output
  size : w.heap.size ≤ w'.heap.size
  block : ∀ k, k < w.heap.size → ¬ S k → w'.heap[k]? = w.heap[k]?

theorem Touch.refl (S : Nat → Prop) (w : World) : Touch S w w := ⟨rfl, rfl, rfl, Nat.le_refl _, fun _ _ _ => rfl⟩
theorem Touch.trans {S : Nat → Prop} {a b c : World} (h : Touch S a b) (k : Touch S b c) : Touch S a c :=
  ⟨k.os.trans h.os, k.tape.trans h.tape, k.output.trans h.output, Nat.le_trans h.size k.size, fun i hi hs => (k.block i (Nat.lt_of_lt_of_le hi h.size) hs).trans (h.block i hi hs)⟩
/-- The second may touch what is new, besides. -/
theorem Touch.trans' {S S' : Nat → Prop} {a b c : World} (h : Touch S a b) (k : Touch S' b c) (hs : ∀ i, i < a.heap.size → S' i → S i) : Touch S a c :=
  ⟨k.os.trans h.os, k.tape.trans h.tape, k.output.trans h.output, Nat.le_trans h.size k.size, fun i hi hn => (k.block i (Nat.lt_of_lt_of_le hi h.size) (fun h' => hn (hs i hi h'))).trans (h.block i hi hn)⟩
theorem Touch.mono {S S' : Nat → Prop} {a b : World} (h : Touch S a b) (hs : ∀ i, i < a.heap.size → S i → S' i) : Touch S' a b :=
  ⟨h.os, h.tape, h.output, h.size, fun i hi hn => h.block i hi (fun h' => hn (hs i hi h'))⟩
theorem Touch.drew {S : Nat → Prop} {a w : World} (h : Touch S a w) : Touch S a w.drew := ⟨h.os, h.tape, h.output, h.size, h.block⟩
theorem Touch.drewN {S : Nat → Prop} {a w : World} (h : Touch S a w) (n : Nat) : Touch S a (w.drewN n) := ⟨h.os, h.tape, h.output, h.size, h.block⟩
theorem Touch.alloc {S : Nat → Prop} {a w : World} (h : Touch S a w) (o : Obj) : Touch S a (w.alloc o) :=
  h.trans ⟨rfl, rfl, rfl, by simp, fun k hk _ => Below.heap_alloc _ _ _ (by omega)⟩
theorem Touch.setCell {S : Nat → Prop} {a w : World} (h : Touch S a w) {p : Addr} (hp : S p.block) (u : Value) : Touch S a (w.setCell p u) :=
  h.trans ⟨rfl, rfl, rfl, by simp [World.setCell], fun k hk hn => Below.heap_setCell _ _ _ _ (fun e => hn (e ▸ hp))⟩
theorem Touch.of_below {S : Nat → Prop} {a b : World} (h : Below a.heap.size a b) : Touch S a b := ⟨h.os, h.tape, h.output, h.size, fun i hi _ => h.block i hi⟩
theorem Touch.below {S : Nat → Prop} {a b : World} (h : Touch S a b) {B : Nat} (hB : B ≤ a.heap.size) (hs : ∀ i, i < B → ¬ S i) : Below B a b :=
  ⟨h.os, h.tape, h.output, h.size, fun i hi => h.block i (by omega) (hs i hi)⟩
theorem Touch.grown {S : Nat → Prop} {a w w' : World} {row : Option Nat} (h : Touch S a w) (hg : w.grownBy w' row) (hr : ∀ k, row = some k → k < a.heap.size → S k) : Touch S a w' :=
  h.trans' (S' := fun k => row = some k) ⟨hg.os, hg.tape, hg.output, hg.size, fun k hk hn => hg.block k hk (fun e => hn e.symm)⟩ (fun i hi e => hr i e hi)
theorem below_drewN {B : Nat} {a w : World} (h : Below B a w) (n : Nat) : Below B a (w.drewN n) := ⟨h.os, h.tape, h.output, h.size, h.block⟩
/-- A fact that the walk does not use. -/
structure Aside (p : Prop) : Prop where mk :: (out : p)
/-- What stands below the old size stands behind: in the walk's own spelling. -/
theorem bcell {W w1 : World} (hb : Below W.heap.size W w1) : (∀ b o, b < W.heap.size → w1.cell? ⟨b, o, none⟩ = W.cell? ⟨b, o, none⟩) ∧ (∀ b o, b < W.heap.size → w1.frozen? ⟨b, o, none⟩ = W.frozen? ⟨b, o, none⟩) :=
  ⟨fun b o h => hb.cell (p := ⟨b, o, none⟩) h, fun b o h => hb.frozen (p := ⟨b, o, none⟩) h⟩
theorem below_trans {a b c : World} (h : Below a.heap.size a b) (k : Below b.heap.size b c) : Below a.heap.size a c := h.trans (k.mono h.size)
theorem heap_set {w : World} {g : Nat} {cs : Array Value} {T : TypeId} {fr : Nat × Nat} (h : w.heap[g]? = some (.cells cs T fr)) (o : Nat) (v : Value) :
    (w.setCell ⟨g, o, none⟩ v).heap[g]? = some (.cells (cs.setIfInBounds o v) T fr) := by
  simp [World.setCell, Array.getElem?_modify, h]
theorem heap_set_ne {w : World} {g k : Nat} (hne : g ≠ k) (o : Nat) (v : Value) : (w.setCell ⟨k, o, none⟩ v).heap[g]? = w.heap[g]? := Below.heap_setCell _ _ _ _ hne
theorem heap_new (w : World) (o : Obj) : (w.alloc o).heap[w.heap.size]? = some o := by
  show (w.heap.push o)[w.heap.size]? = _
  simp
theorem heap_lt {w : World} {g : Nat} {o : Obj} (h : w.heap[g]? = some o) : g < w.heap.size := (Array.getElem?_eq_some_iff.1 h).1
theorem heap_alloc {w : World} {g : Nat} {o : Obj} (h : w.heap[g]? = some o) (o' : Obj) : (w.alloc o').heap[g]? = some o := (Below.heap_alloc _ _ _ (heap_lt h)).trans h
theorem wrap_u8 (n : Int) (h0 : 0 ≤ n) (h : n < 256) : IntKind.u8.wrap n = n := by
  simp [IntKind.wrap, IntKind.bits, IntKind.signed]; omega
theorem wrap_u16 (n : Int) (h0 : 0 ≤ n) (h : n < 65536) : IntKind.u16.wrap n = n := by
  simp [IntKind.wrap, IntKind.bits, IntKind.signed]; omega
theorem wrap_u32 (n : Int) (h0 : 0 ≤ n) (h : n < 4294967296) : IntKind.u32.wrap n = n := by
  simp [IntKind.wrap, IntKind.bits, IntKind.signed]; omega
theorem wrap_u64 (n : Int) (h0 : 0 ≤ n) (h : n < 18446744073709551616) : IntKind.u64.wrap n = n := by
  simp [IntKind.wrap, IntKind.bits, IntKind.signed]; omega
theorem ret_int {k : IntKind} {a b : Int} (h : a = b) : Ending.returned (.int k a) = .returned (.int k b) := by rw [h]
theorem own_ne {w : World} {base : Nat} {e : TypeId} {size n : Nat} {v : Value} {xs : List Value} (h : w.ownsRow base e size v n xs) {g : Nat} {cs : Array Value} {T : TypeId} {fr : Nat × Nat}
    (hb : w.heap[g]? = some (.cells cs T fr)) (hT : e ≠ T) : v.ownBlock ≠ some g := by
  intro hk
  rcases h.2 with ⟨rfl, _⟩ | ⟨g', cap, cur, rfl, _, hh, _⟩
  · simp [Value.ownBlock] at hk
  · have : g' = g := by simpa [Value.ownBlock] using hk
    subst this
    rw [hh] at hb
    injection hb with hb
    injection hb with _ ht
    exact hT ht
theorem own_lt' {w : World} {base : Nat} {e : TypeId} {size n : Nat} {v : Value} {xs : List Value} (h : w.ownsRow base e size v n xs) (k : Nat) (hk : v.ownBlock = some k) : k < w.heap.size := (h.lt k hk).2
theorem own_slice {w : World} {base n : Nat} {e : TypeId} {size : Nat} {v : Value} {xs : List Value} (h : w.ownsRow base e size v n xs) : ∃ A c, v = .slice A n c := by
  rcases h.2 with ⟨rfl, rfl⟩ | ⟨g, cap, cur, rfl, _⟩
  · exact ⟨none, 0, rfl⟩
  · exact ⟨_, cap, rfl⟩

/-- Where a row lies behind an append: where it lay, or in a new block. -/
def RowAt (w : World) (v v' : Value) : Prop := v'.ownBlock = v.ownBlock ∨ ∃ b, v'.ownBlock = some b ∧ w.heap.size ≤ b
theorem RowAt.trans {w w1 : World} {v v1 v2 : Value} (h : RowAt w v v1) (h2 : RowAt w1 v1 v2) (hs : w.heap.size ≤ w1.heap.size) : RowAt w v v2 := by
  rcases h2 with h2 | ⟨b, h2, hb⟩
  · rcases h with h | ⟨b, h, hb⟩
    · exact .inl (h2.trans h)
    · exact .inr ⟨b, h2.trans h, hb⟩
  · exact .inr ⟨b, h2, by omega⟩
/-- append(b, s...) of a string onto a row of the call's own, and where the row lies then. -/
theorem wpList_appstr {P : Program} {ops : Array Oper} {o : Oper} {rest : List Oper} {a : Act} {w : World} {Q : Exit → Act → World → Prop}
    (hgd : o.guard = none) (sl x : Operand) (t u : TypeId) (ho : o.op = .call { callee := .builtin .append, args := #[sl, x], argTypes := #[t, u] })
    (e : TypeId) (ht : P.underlying t = some (.slice e)) (hu : P.underlying u = some .string) (he : (P.info? e).map (fun i => (i.zero, i.size, i.bytes)) = some (some (.int .u8 0), 1, 1))
    (v : Value) (n : Nat) (xs : List Value) (hs : a.eval sl = v) (hown : w.ownsRow 0 e 1 v n xs) (s : ByteArray) (hx : a.eval x = .string s) (hn : n + s.size < 1000000000000)
    (h : ∀ A m c w', w'.ownsRow 0 e 1 (.slice A m c) (n + s.size) (xs ++ Lib.strCells s) → w.grownBy w' v.ownBlock → RowAt w v (.slice A m c) → wpList P ops Q rest (a.put o.dst (.slice A m c)) w') : wpList P ops Q (o :: rest) a w := by
  obtain ⟨i, hi, hz0, hz1, hz2⟩ := info_parts he
  refine wpList_plain hgd fun K hK => ?_
  obtain ⟨v', w', hr, h2, h3, h4⟩ := Lib.run_append_own_string (P := P) w 0 t u o.type e i ht hu hi hz0 hz1 hz2 v n xs hown s (by unfold maxLen; omega) (by omega) (Nat.zero_le _)
  have hat : RowAt w v v' := by
    rcases hown.2 with ⟨rfl, rfl⟩ | ⟨g, cap, cur, rfl, _, hg, hnc, hcm, hcs, htake⟩
    · have hx0 : xs = [] := List.eq_nil_of_length_eq_zero (by have := hown.1; omega)
      subst hx0
      obtain ⟨v2, w2, hr2, h22, _, _⟩ := Lib.run_append_own_string (P := P) w w.heap.size t u o.type e i ht hu hi hz0 hz1 hz2 (.slice none 0 0) 0 [] (World.ownsRow_nil w _ e 1) s (by unfold maxLen; omega) (by omega) (Nat.le_refl _)
      rw [hr] at hr2
      injection hr2 with e1 e2
      subst e1; subst e2
      rcases h22.2 with ⟨rfl, _⟩ | ⟨g, cap, cur, rfl, hb, _⟩
      · exact .inl rfl
      · exact .inr ⟨g, rfl, hb⟩
    · by_cases hroom : n + s.size ≤ cap
      · have hcs' : cur.size = cap := by simpa using hcs
        have hr2 := Lib.run_append_room_string (P := P) w t u o.type e i ht hu hi hz1 g n cap cur hg s hroom (by omega)
        rw [hr] at hr2
        injection hr2 with e1 e2
        subst e1
        exact .inl rfl
      · have hr2 := Lib.run_append_grow_string (P := P) w t u o.type e i (.int .u8 0) ht hu hi hz0 ⟨g, 0, none⟩ n cap xs (by rw [hz1]; simpa using hown.1) (hown.cells (g := g) rfl) s (by omega) (by omega) (by rw [hz2]; exact growslice_fits (by omega) (by omega))
        rw [hr] at hr2
        injection hr2 with e1 e2
        subst e1
        exact .inr ⟨w.heap.size, rfl, Nat.le_refl _⟩
  unfold Oper.wp execOp
  simp only [ho, resolve, invoke, builtin, Sem.run_bind, Sem.run_pure, Result.andThen_ok, List.map_toArray, List.map_cons, List.map_nil, hs, hx, hr]
  obtain ⟨A, c, rfl⟩ := own_slice h2
  exact hK _ _ (h _ _ _ w' h2 h3 hat)
/-- What is known of an element's type: its zero value, its cells, its bytes. -/
def Elem (P : Program) (e : TypeId) (z : Value) (size bytes : Nat) : Prop := (P.info? e).map (fun i => (i.zero, i.size, i.bytes)) = some (some z, size, bytes) ∧ z.cells.size = size ∧ 0 < size ∧ bytes ≤ 64
/-- append(v, x) onto a row of the call's own, x in a block of its own: at a step of a region that draws. -/
theorem step_app1 {P : Program} {ops : Array Oper} {o : Oper} {a : Act} {w : World} {K : Act → World → Prop} {Q : Exit → Act → World → Prop} {E : Prop}
    (hgd : o.guard = none) (s x : Operand) (t : TypeId) (ho : o.op = .call { callee := .builtin .append, args := #[s, x], argTypes := #[t, t] })
    (e : TypeId) (ht : P.underlying t = some (.slice e)) {z : Value} {size bytes : Nat} (he : Elem P e z size bytes)
    (v : Value) (n : Nat) (xs : List Value) (hs : a.eval s = v) (hown : w.ownsRow 0 e size v n xs) (hn : n < 1000000000000)
    (B : Nat) (cs : Array Value) (fr : Nat × Nat) (hB : w.heap[B]? = some (.cells cs e fr)) (hx : a.eval x = .slice (some ⟨B, 0, none⟩) 1 1) (hcs : cs.size = size) (h1 : ∀ u ∈ cs.toList, u.oneCell' = true)
    (h : ∀ g cap w', w'.ownsRow 0 e size (.slice (some ⟨g, 0, none⟩) (n + 1) cap) (n + 1) (xs ++ cs.toList) → w.grownBy w' v.ownBlock → (v.ownBlock = some g ∨ g = w.heap.size) → g < w'.heap.size → K (a.put o.dst (.slice (some ⟨g, 0, none⟩) (n + 1) cap)) w') :
    if Region.wanted o (yielded ops a.tmps) = true then Oper.wp P o a w K Q else E := by
  obtain ⟨i, hi, hz0, hz1, hz2⟩ := info_parts he.1
  have hb : (n + 1) * bytes ≤ (n + 1) * 64 := Nat.mul_le_mul_left _ he.2.2.2
  exact step_append_lies w hgd s x t ho 0 e i z size bytes ht hi hz0 hz1 hz2 he.2.1 he.2.2.1 v n xs hs hown ⟨B, 0, none⟩ 1 1 cs.toList hx (by simp [hcs]) (World.news_of_block hB) h1 (by omega) (by unfold maxLen; omega) (by omega) (Nat.zero_le _) _ rfl h
theorem wpList_app1 {P : Program} {ops : Array Oper} {o : Oper} {rest : List Oper} {a : Act} {w : World} {Q : Exit → Act → World → Prop}
    (hgd : o.guard = none) (s x : Operand) (t : TypeId) (ho : o.op = .call { callee := .builtin .append, args := #[s, x], argTypes := #[t, t] })
    (e : TypeId) (ht : P.underlying t = some (.slice e)) {z : Value} {size bytes : Nat} (he : Elem P e z size bytes)
    (v : Value) (n : Nat) (xs : List Value) (hs : a.eval s = v) (hown : w.ownsRow 0 e size v n xs) (hn : n < 1000000000000)
    (B : Nat) (cs : Array Value) (fr : Nat × Nat) (hB : w.heap[B]? = some (.cells cs e fr)) (hx : a.eval x = .slice (some ⟨B, 0, none⟩) 1 1) (hcs : cs.size = size) (h1 : ∀ u ∈ cs.toList, u.oneCell' = true)
    (h : ∀ g cap w', w'.ownsRow 0 e size (.slice (some ⟨g, 0, none⟩) (n + 1) cap) (n + 1) (xs ++ cs.toList) → w.grownBy w' v.ownBlock → (v.ownBlock = some g ∨ g = w.heap.size) → g < w'.heap.size → wpList P ops Q rest (a.put o.dst (.slice (some ⟨g, 0, none⟩) (n + 1) cap)) w') :
    wpList P ops Q (o :: rest) a w := by
  obtain ⟨i, hi, hz0, hz1, hz2⟩ := info_parts he.1
  have hb : (n + 1) * bytes ≤ (n + 1) * 64 := Nat.mul_le_mul_left _ he.2.2.2
  exact wpList_append_lies w hgd s x t ho 0 e i z size bytes ht hi hz0 hz1 hz2 he.2.1 he.2.2.1 v n xs hs hown ⟨B, 0, none⟩ 1 1 cs.toList hx (by simp [hcs]) (World.news_of_block hB) h1 (by omega) (by unfold maxLen; omega) (by omega) (Nat.zero_le _) _ rfl h
/-- In a quiet region: a callee that leaves the world alone. -/
theorem quietS {P : Program} {f : FuncId} {args : Array Value} {w : World} {n : Nat} {v : Value}
    (h : Calls P f args (w.drewN n) fun e w' => e = .returned v ∧ w.drewN n = w') : Calls P f args (w.drewN n) fun e w'' => e = .returned v ∧ ∃ m, w'' = w.drewN m :=
  h.mono fun _ _ h2 => ⟨h2.1, n, h2.2.symm⟩
theorem quietD {P : Program} {f : FuncId} {args : Array Value} {w : World} {n : Nat} {v : Value}
    (h : Calls P f args (w.drewN n) fun e w' => e = .returned v ∧ (w.drewN n).drew = w') : Calls P f args (w.drewN n) fun e w'' => e = .returned v ∧ ∃ m, w'' = w.drewN m :=
  h.mono fun _ _ h2 => ⟨h2.1, n + 1, h2.2.symm.trans rfl⟩
theorem quietS' {P : Program} {f : FuncId} {args : Array Value} {w : World} {a n : Nat} {v : Value}
    (h : Calls P f args (w.drewN (a + n)) fun e w' => e = .returned v ∧ w.drewN (a + n) = w') : Calls P f args (w.drewN (a + n)) fun e w'' => e = .returned v ∧ ∃ m, w'' = w.drewN (a + m) :=
  h.mono fun _ _ h2 => ⟨h2.1, n, h2.2.symm⟩
theorem below_alloc {w W : World} (h : Below w.heap.size w W) (o : Obj) : Below w.heap.size w (W.alloc o) := h.alloc h.size o
theorem below_set {w W : World} (h : Below w.heap.size w W) {p : Addr} (hp : w.heap.size ≤ p.block) (u : Value) : Below w.heap.size w (W.setCell p u) := h.setCell hp u
theorem Touch.keep {S : Nat → Prop} {W w1 : World} (h : Touch S W w1) {k : Nat} {o : Obj} (hk : W.heap[k]? = some o) (hn : ¬ S k) : w1.heap[k]? = some o := (h.block k (heap_lt hk) hn).trans hk
theorem below_keep {W w1 : World} (h : Below W.heap.size W w1) {k : Nat} {o : Obj} (hk : W.heap[k]? = some o) : w1.heap[k]? = some o := (h.block k (heap_lt hk)).trans hk
theorem cell_of {w : World} {k : Nat} {cs : Array Value} {T : TypeId} {fr : Nat × Nat} (h : w.heap[k]? = some (.cells cs T fr)) (i : Nat) : w.cell? ⟨k, i, none⟩ = cs[i]? := by simp [World.cell?, h]
theorem free_of {w : World} {k : Nat} {cs : Array Value} {T : TypeId} (h : w.heap[k]? = some (.cells cs T (0, 0))) (i : Nat) : w.frozen? ⟨k, i, none⟩ = false := by simp [World.frozen?, h]
theorem below_touch {w W W1 : World} {S : Nat → Prop} (h : Below w.heap.size w W) (t : Touch S W W1) (hs : ∀ i, i < w.heap.size → ¬ S i) : Below w.heap.size w W1 := h.trans (t.below h.size hs)
end Go.Proofs.YtmggpfngbkbkmaaGreatDoor
/- Plain: marks as whole numbers: which are NaNs, their order, the five steps. No program in sight. -/
namespace Go.Proofs.YtmggpfngbkbkmaaGreatDoor
open Go.RowKit
set_option linter.unusedVariables false
set_option linter.unusedSimpArgs false

/-- Does a mark say a NaN? -/
def nanB (x : Nat) : Bool := decide (9218868437227405312 < x % 9223372036854775808)
def quietN (x : Nat) : Nat := if nanB x = true then 9221120237041090561 else x
def orderN (x : Nat) : Nat := if 9223372036854775808 ≤ x then 18446744073709551615 - x else x + 9223372036854775808
def backN (x : Nat) : Nat := if 9223372036854775808 ≤ x then x - 9223372036854775808 else 18446744073709551615 - x
/-- Sum and product as marks. -/
def qAdd (x y : Nat) : Nat := match FloatKind.f64.format.add x y with | some r => quietN r | none => 9221120237041090561
def qMul (x y : Nat) : Nat := match FloatKind.f64.format.mul x y with | some r => quietN r | none => 9221120237041090561
/-- The NaN that an operation without an answer gives in a world. -/
def nanOf (w : World) (x y : Nat) : Nat := (Question.nanBits .f64 x y).cut (w.tape w.drawn (.nanBits .f64 x y))

theorem f64_fmt : FloatKind.f64.format = Ieee.double := rfl
theorem nan_order (x : Nat) : (FloatKind.f64.format.order x x != some Ordering.eq) = nanB x := by
  have h1 : Ieee.double.signWeight = 9223372036854775808 := by decide
  have h2 : Ieee.double.binade = 4503599627370496 := by decide
  have h3 : Ieee.double.infRung = 9218868437227405312 := by decide
  have hlt : x % 9223372036854775808 < 9223372036854775808 := Nat.mod_lt _ (by decide)
  rw [f64_fmt]
  unfold Ieee.Format.order Ieee.Format.read nanB
  simp only [h1, h2, h3]
  by_cases a : x % 9223372036854775808 < 4503599627370496
  · rw [if_pos a]
    have : ¬ (9218868437227405312 < x % 9223372036854775808) := by omega
    simp [Ieee.Datum.order, this]
  · rw [if_neg a]
    by_cases b : x % 9223372036854775808 < 9218868437227405312
    · rw [if_pos b]
      have : ¬ (9218868437227405312 < x % 9223372036854775808) := by omega
      simp [Ieee.Datum.order, this]
    · rw [if_neg b]
      by_cases c : x % 9223372036854775808 = 9218868437227405312
      · rw [if_pos c]
        have : ¬ (9218868437227405312 < x % 9223372036854775808) := by omega
        simp [Ieee.Datum.order, this]
      · rw [if_neg c]
        have : (9218868437227405312 < x % 9223372036854775808) := by omega
        simp [Ieee.Datum.order, this]
theorem nan_bits (x : Nat) (hx : x < 18446744073709551616) : nanB x = (decide (x / 4503599627370496 % 2048 = 2047) && decide (x * 4096 % 18446744073709551616 ≠ 0)) := by
  unfold nanB
  rw [Bool.eq_iff_iff]
  simp only [Bool.and_eq_true, decide_eq_true_eq]
  omega
theorem nanOf_quiet (w : World) (x y : Nat) : quietN (nanOf w x y) = 9221120237041090561 := by
  have h : nanB (nanOf w x y) = true := by
    unfold nanOf nanB
    generalize w.tape w.drawn (.nanBits .f64 x y) = t
    apply decide_eq_true
    simp only [Question.cut]
    have hm : t / 2 % (2 ^ 52 - 1) < 4503599627370495 := Nat.mod_lt _ (by decide)
    generalize t / 2 % (2 ^ 52 - 1) = m at hm ⊢
    rcases (show t % 2 = 0 ∨ t % 2 = 1 by omega) with h | h <;> rw [h] <;> omega
  unfold quietN
  rw [if_pos h]
theorem nanOf_lt (w : World) (x y : Nat) : nanOf w x y < 18446744073709551616 := by
  unfold nanOf
  generalize w.tape w.drawn (.nanBits .f64 x y) = t
  simp only [Question.cut]
  have hm : t / 2 % (2 ^ 52 - 1) < 4503599627370495 := Nat.mod_lt _ (by decide)
  generalize t / 2 % (2 ^ 52 - 1) = m at hm ⊢
  rcases (show t % 2 = 0 ∨ t % 2 = 1 by omega) with h | h <;> rw [h] <;> omega
theorem qAdd_some {x y r : Nat} (h : FloatKind.f64.format.add x y = some r) : qAdd x y = quietN r := by simp [qAdd, h]
theorem qAdd_none {x y : Nat} (h : FloatKind.f64.format.add x y = none) : qAdd x y = 9221120237041090561 := by simp [qAdd, h]
theorem run_fadd_some {P : Program} {x y r : Nat} (h : FloatKind.f64.format.add x y = some r) (t : TypeId) (w : World) : (binOp .add t (.float .f64 x) (.float .f64 y)).run P w = .ok (.float .f64 r) w := by
  simp [binOp, Op.floatArith, h]
theorem run_fadd_none {P : Program} {x y : Nat} (h : FloatKind.f64.format.add x y = none) (t : TypeId) (w : World) : (binOp .add t (.float .f64 x) (.float .f64 y)).run P w = .ok (.float .f64 (nanOf w x y)) w.drew := by
  simp [binOp, Op.floatArith, h, nanOf, Question.forced]
theorem qMul_some {x y r : Nat} (h : FloatKind.f64.format.mul x y = some r) : qMul x y = quietN r := by simp [qMul, h]
theorem qMul_none {x y : Nat} (h : FloatKind.f64.format.mul x y = none) : qMul x y = 9221120237041090561 := by simp [qMul, h]
theorem run_fmul_some {P : Program} {x y r : Nat} (h : FloatKind.f64.format.mul x y = some r) (t : TypeId) (w : World) : (binOp .mul t (.float .f64 x) (.float .f64 y)).run P w = .ok (.float .f64 r) w := by
  simp [binOp, Op.floatArith, h]
theorem run_fmul_none {P : Program} {x y : Nat} (h : FloatKind.f64.format.mul x y = none) (t : TypeId) (w : World) : (binOp .mul t (.float .f64 x) (.float .f64 y)).run P w = .ok (.float .f64 (nanOf w x y)) w.drew := by
  simp [binOp, Op.floatArith, h, nanOf, Question.forced]
theorem quiet_lt (x : Nat) (hx : x < 18446744073709551616) : quietN x < 18446744073709551616 := by unfold quietN; split <;> omega
theorem quiet_quiet (x : Nat) : quietN (quietN x) = quietN x := by
  unfold quietN
  by_cases h : nanB x = true
  · rw [if_pos h, if_pos (by decide)]
  · rw [if_neg h, if_neg h]
theorem order_lt (x : Nat) (hx : x < 18446744073709551616) : orderN x < 18446744073709551616 := by unfold orderN; split <;> omega
theorem back_lt (x : Nat) (hx : x < 18446744073709551616) : backN x < 18446744073709551616 := by unfold backN; split <;> omega
theorem back_order (x : Nat) (hx : x < 18446744073709551616) : backN (orderN x) = x := by
  unfold orderN
  split
  · unfold backN; rw [if_neg (by omega)]; omega
  · unfold backN; rw [if_pos (by omega)]; omega
theorem nat_and63 (x : Nat) (hx : x < 18446744073709551616) : x &&& 9223372036854775808 = if 9223372036854775808 ≤ x then 9223372036854775808 else 0 := by
  have e : (2 : Nat) ^ 63 = 9223372036854775808 := by decide
  have hd := Nat.testBit_eq_decide_div_mod_eq (x := x) (i := 63)
  rw [e] at hd
  rw [← e]
  apply Nat.eq_of_testBit_eq
  intro i
  rw [Nat.testBit_and, Nat.testBit_two_pow]
  by_cases hi : 63 = i
  · subst hi
    rw [hd]
    by_cases h : 9223372036854775808 ≤ x
    · rw [e, if_pos h]
      have h1 : x / 9223372036854775808 = 1 := by omega
      rw [h1]; rfl
    · rw [e, if_neg h]
      have h1 : x / 9223372036854775808 = 0 := by omega
      rw [h1]; rfl
  · rw [decide_eq_false hi, Bool.and_false]
    by_cases h : 9223372036854775808 ≤ x
    · rw [e, if_pos h, ← e, Nat.testBit_two_pow, decide_eq_false hi]
    · rw [e, if_neg h, Nat.zero_testBit]
theorem and63 (x : Int) (h0 : 0 ≤ x) (hx : x < 18446744073709551616) : (bits BinOp.and IntKind.u64 x 9223372036854775808 != 0) = decide (9223372036854775808 ≤ x) := by
  obtain ⟨n, rfl⟩ := Int.eq_ofNat_of_zero_le h0
  have := u64_and_nat n 9223372036854775808 (by omega) (by decide)
  have e : ((9223372036854775808 : Nat) : Int) = 9223372036854775808 := rfl
  rw [e] at this
  rw [this, nat_and63 n (by omega)]
  by_cases h : 9223372036854775808 ≤ n
  · rw [if_pos h, decide_eq_true (by omega)]; rfl
  · rw [if_neg h, decide_eq_false (by omega)]; rfl
theorem not64 (x : Int) (h0 : 0 ≤ x) (hx : x < 18446744073709551616) : bits BinOp.xor IntKind.u64 IntKind.u64.max x = 18446744073709551615 - x := by
  obtain ⟨n, rfl⟩ := Int.eq_ofNat_of_zero_le h0
  have hm : IntKind.u64.max = ((18446744073709551615 : Nat) : Int) := rfl
  rw [hm, u64_xor_nat _ n (by decide) (by omega)]
  have h : 18446744073709551615 ^^^ n = 18446744073709551615 - n := by
    have := BitVec.toNat_not (x := BitVec.ofNat 64 n)
    have h2 : ~~~ (BitVec.ofNat 64 n) = BitVec.allOnes 64 ^^^ BitVec.ofNat 64 n := (BitVec.allOnes_xor).symm
    rw [h2, BitVec.toNat_xor] at this
    have h3 : (BitVec.ofNat 64 n).toNat = n := by simp; omega
    have h4 : (BitVec.allOnes 64).toNat = 18446744073709551615 := by decide
    rw [h3, h4] at this
    omega
  rw [h]; omega
theorem or63 (x : Int) (h0 : 0 ≤ x) (hx : x < 9223372036854775808) : bits BinOp.or IntKind.u64 x 9223372036854775808 = x + 9223372036854775808 := by
  obtain ⟨n, rfl⟩ := Int.eq_ofNat_of_zero_le h0
  have := u64_or_nat n 9223372036854775808 (by omega) (by decide)
  have e : ((9223372036854775808 : Nat) : Int) = 9223372036854775808 := rfl
  rw [e] at this
  rw [this]
  have h : n ||| 9223372036854775808 = n + 9223372036854775808 := by
    have := Nat.two_pow_add_eq_or_of_lt (i := 63) (b := n) (by omega) 1
    rw [Nat.or_comm]
    have e2 : (2 : Nat) ^ 63 * 1 = 9223372036854775808 := by decide
    rw [e2] at this
    omega
  rw [h]; omega
theorem andNot63 (x : Int) (h0 : 9223372036854775808 ≤ x) (hx : x < 18446744073709551616) : bits BinOp.andNot IntKind.u64 x 9223372036854775808 = x - 9223372036854775808 := by
  obtain ⟨n, rfl⟩ := Int.eq_ofNat_of_zero_le (show 0 ≤ x by omega)
  have := u64_andNot_nat n 9223372036854775808 (by omega) (by decide)
  have e : ((9223372036854775808 : Nat) : Int) = 9223372036854775808 := rfl
  rw [e] at this
  rw [this]
  have h : n &&& (18446744073709551615 - 9223372036854775808) = n % 9223372036854775808 := by
    have := Nat.and_two_pow_sub_one_eq_mod n 63
    have e2 : (2 : Nat) ^ 63 - 1 = 18446744073709551615 - 9223372036854775808 := by decide
    have e3 : (2 : Nat) ^ 63 = 9223372036854775808 := by decide
    rw [e2, e3] at this
    exact this
  rw [h]; omega
/-- What a step makes of a mark, and its error. -/
def stepN (x : Nat) (op : Int) (y : Nat) : Nat :=
  if op = 1 then quietN y else if op = 2 then qAdd x y else if op = 5 then qMul x y
  else if op = 3 then (if orderN (quietN x) < orderN (quietN y) then quietN y else quietN x)
  else if op = 4 then (if orderN (quietN y) < orderN (quietN x) then quietN y else quietN x) else 0
def stepE (op : Int) : Int := if 1 ≤ op ∧ op ≤ 5 then 0 else 2
end Go.Proofs.YtmggpfngbkbkmaaGreatDoor
/- Plain: numbers as bytes. No program in sight. -/
namespace Go.Proofs.YtmggpfngbkbkmaaGreatDoor
open Go.RowKit
set_option linter.unusedVariables false
set_option linter.unusedSimpArgs false

/-- The number that bytes tell, the highest first. -/
def be (l : List UInt8) : Nat := l.foldl (fun n c => n * 256 + c.toNat) 0
theorem be_snoc (l : List UInt8) (c : UInt8) : be (l ++ [c]) = be l * 256 + c.toNat := by simp [be]
theorem be_lt_rev (l : List UInt8) : be l.reverse < 256 ^ l.length := by
  induction l with
  | nil => simp [be]
  | cons c l ih =>
    rw [List.reverse_cons, be_snoc, List.length_cons, Nat.pow_succ]
    have := c.toNat_lt
    have h2 : (be l.reverse + 1) * 256 ≤ 256 ^ l.length * 256 := Nat.mul_le_mul_right _ ih
    omega
theorem be_lt (l : List UInt8) : be l < 256 ^ l.length := by simpa using be_lt_rev l.reverse
theorem be_small (l : List UInt8) (n : Nat) (h : l.length ≤ n) : be l < 256 ^ n := Nat.lt_of_lt_of_le (be_lt l) (Nat.pow_le_pow_right (by omega) h)
def numBytes (n W : Nat) : List UInt8 := (List.range W).map fun i => UInt8.ofNat (n / 2 ^ (8 * (W - 1 - i)))
theorem numBytes_length (n W : Nat) : (numBytes n W).length = W := by simp [numBytes]
theorem numBytes_snoc (n W k j : Nat) (h : k + j + 1 = W) : (numBytes n W).take (k + 1) = (numBytes n W).take k ++ [UInt8.ofNat (n / 2 ^ (8 * j))] := by
  have hk : k < (numBytes n W).length := by rw [numBytes_length]; omega
  rw [List.take_succ_eq_append_getElem hk]
  simp only [numBytes, List.getElem_map, List.getElem_range]
  rw [show W - 1 - k = j by omega]
end Go.Proofs.YtmggpfngbkbkmaaGreatDoor
/- Plain: what is known of a file, and changes of it (packages meta, rillbedref07). No program in sight. -/
namespace Go.Proofs.YtmggpfngbkbkmaaGreatDoor
open Go.RowKit
set_option linter.unusedVariables false
set_option linter.unusedSimpArgs false

structure PMeta where
  kind : Int
  size : Int
  mark : Int
  stamp : Int
  deriving DecidableEq
structure PChange where
  what : Int
  n : Int
  op : Int
  by_ : Int
  deriving DecidableEq
def PMeta.val (m : PMeta) : Value := .agg #[.int .u8 m.kind, .int .u32 m.size, .int .u64 m.mark, .int .u64 m.stamp]
/-- Are the numbers of their kinds? -/
def PMeta.wf (m : PMeta) : Prop := (0 ≤ m.kind ∧ m.kind < 256) ∧ (0 ≤ m.size ∧ m.size < 4294967296) ∧ (0 ≤ m.mark ∧ m.mark < 18446744073709551616) ∧ (0 ≤ m.stamp ∧ m.stamp < 18446744073709551616)
def PChange.wf (c : PChange) : Prop := (0 ≤ c.what ∧ c.what < 256) ∧ (0 ≤ c.n ∧ c.n < 18446744073709551616) ∧ (0 ≤ c.op ∧ c.op < 256) ∧ (0 ≤ c.by_ ∧ c.by_ < 18446744073709551616)
def PMeta.zero : PMeta := ⟨0, 0, 0, 0⟩
def PChange.zero : PChange := ⟨0, 0, 0, 0⟩
/-- May a meta be? -/
def PMeta.may (m : PMeta) : Bool := (decide (m.kind = 1) || decide (m.kind = 2)) && decide (m.size ≤ 2048) && (decide (m.kind ≠ 2) || decide (m.size = 0)) && decide ((quietN m.mark.toNat : Int) = m.mark)
def PMeta.err (m : PMeta) : Int := if m.may = true then 0 else 4
/-- May a change be? -/
def PChange.may (c : PChange) : Bool :=
  if c.what = 1 ∨ c.what = 2 then decide (c.n ≤ 2048) && decide (c.op = 0) && decide (c.by_ = 0)
  else if c.what = 4 then decide (c.op = 0) && decide (c.by_ = 0)
  else if c.what = 3 then decide (c.n = 0) && decide (1 ≤ c.op) && decide (c.op ≤ 5) else false
/-- What a change makes of a meta. -/
def PMeta.change (m : PMeta) (c : PChange) : PMeta :=
  if m.may = false ∨ c.may = false then m
  else if c.what = 1 then (if m.kind = 1 then { m with size := max m.size c.n } else m)
  else if c.what = 2 then (if m.kind = 1 then { m with size := c.n } else m)
  else if c.what = 3 then { m with mark := (stepN m.mark.toNat c.op c.by_.toNat : Nat) }
  else { m with stamp := c.n }
/-- A meta's text. -/
def PMeta.bytes (m : PMeta) : List UInt8 := numBytes m.kind.toNat 1 ++ numBytes m.size.toNat 4 ++ numBytes m.mark.toNat 8 ++ numBytes m.stamp.toNat 8
def PMeta.text (m : PMeta) : ByteArray := if m.may = true then ⟨m.bytes.toArray⟩ else ⟨#[]⟩
theorem PMeta.err_yes {m : PMeta} (h : m.may = true) : m.err = 0 := if_pos h
theorem PMeta.err_no {m : PMeta} (h : ¬ m.may = true) : m.err = 4 := if_neg h
theorem PMeta.text_yes {m : PMeta} (h : m.may = true) : m.text = ⟨m.bytes.toArray⟩ := if_pos h
theorem PMeta.text_no {m : PMeta} (h : ¬ m.may = true) : m.text = ⟨#[]⟩ := if_neg h
end Go.Proofs.YtmggpfngbkbkmaaGreatDoor
/- Plain: what a reader reads: metas and changes. No program in sight. -/
namespace Go.Proofs.YtmggpfngbkbkmaaGreatDoor
open Go.RowKit
set_option linter.unusedVariables false
set_option linter.unusedSimpArgs false

/-- A reader's step: so many bytes of what is left; 'none': torn. -/
def fixV (r : Option ByteArray) (n : Nat) : ByteArray := match r with
  | none => ⟨#[]⟩
  | some s => if n ≤ s.size then s.extract 0 n else ⟨#[]⟩
def fixR (r : Option ByteArray) (n : Nat) : Option ByteArray := match r with
  | none => none
  | some s => if n ≤ s.size then some (s.extract n s.size) else none
theorem fixV_size (r : Option ByteArray) (n : Nat) : (fixV r n).size ≤ n := by
  cases r with
  | none => exact Nat.zero_le _
  | some s =>
    by_cases h : n ≤ s.size
    · simp [fixV, h] <;> omega
    · simp only [fixV, if_neg h]; exact Nat.zero_le _
/-- What a number of so many bytes is, and what is left. -/
def numV (r : Option ByteArray) (n : Nat) : Nat := be (fixV r n).data.toList
theorem numV_lt (r : Option ByteArray) (n : Nat) : numV r n < 256 ^ n := be_small _ _ (by simpa using fixV_size r n)
def textV (r : Option ByteArray) : ByteArray := fixV (fixR r 2) (numV r 2)
def textR (r : Option ByteArray) : Option ByteArray := fixR (fixR r 2) (numV r 2)
def rdErr (r : Option ByteArray) : Int := if r.isSome then 0 else 10
def rdRest (r : Option ByteArray) : ByteArray := r.getD ⟨#[]⟩

/-- Is a reader's text read to its end? If not, why. -/
def wholeE (r : Option ByteArray) : Int := match r with
  | none => 10
  | some s => if s.size = 0 then 0 else 4
def rdMeta (s : ByteArray) : PMeta := ⟨numV (some s) 1, numV (fixR (some s) 1) 4, numV (fixR (fixR (some s) 1) 4) 8, numV (fixR (fixR (fixR (some s) 1) 4) 8) 8⟩
def rdMetaR (s : ByteArray) : Option ByteArray := fixR (fixR (fixR (fixR (some s) 1) 4) 8) 8
/-- A text's meta, or why it is none. -/
def metaE (s : ByteArray) : Int := if wholeE (rdMetaR s) = 0 then (rdMeta s).err else wholeE (rdMetaR s)
def metaV (s : ByteArray) : PMeta := if metaE s = 0 then rdMeta s else PMeta.zero
theorem rdMeta_wf (s : ByteArray) : (rdMeta s).wf := by
  refine ⟨⟨by simp [rdMeta], ?_⟩, ⟨by simp [rdMeta], ?_⟩, ⟨by simp [rdMeta], ?_⟩, ⟨by simp [rdMeta], ?_⟩⟩
  · have := numV_lt (some s) 1; simp only [rdMeta]; omega
  · have := numV_lt (fixR (some s) 1) 4; simp only [rdMeta]; omega
  · have := numV_lt (fixR (fixR (some s) 1) 4) 8; simp only [rdMeta]; omega
  · have := numV_lt (fixR (fixR (fixR (some s) 1) 4) 8) 8; simp only [rdMeta]; omega
/-- A text's change, by its first byte; what is left. -/
def rdWhat (s : ByteArray) : Nat := numV (some s) 1
def rdChange (s : ByteArray) : PChange :=
  if rdWhat s = 3 then ⟨rdWhat s, 0, numV (fixR (some s) 1) 1, numV (fixR (fixR (some s) 1) 1) 8⟩
  else if rdWhat s = 4 then ⟨rdWhat s, numV (fixR (some s) 1) 8, 0, 0⟩ else ⟨rdWhat s, numV (fixR (some s) 1) 4, 0, 0⟩
def rdChangeR (s : ByteArray) : Option ByteArray :=
  if rdWhat s = 3 then fixR (fixR (fixR (some s) 1) 1) 8
  else if rdWhat s = 4 then fixR (fixR (some s) 1) 8 else fixR (fixR (some s) 1) 4
def changeE (s : ByteArray) : Int :=
  if s.size = 0 then 10 else if rdWhat s = 0 ∨ 4 < rdWhat s then 4
  else if wholeE (rdChangeR s) = 0 then (if (rdChange s).may = true then 0 else 4) else wholeE (rdChangeR s)
def changeV (s : ByteArray) : PChange := if changeE s = 0 then rdChange s else PChange.zero
end Go.Proofs.YtmggpfngbkbkmaaGreatDoor
/- Plain: blocks and their patches (packages block, rillbedref08). No program in sight. -/
namespace Go.Proofs.YtmggpfngbkbkmaaGreatDoor
open Go.RowKit
set_option linter.unusedVariables false
set_option linter.unusedSimpArgs false

/-- Without the noughts at its end. -/
def trimL (l : List UInt8) : List UInt8 := (l.reverse.dropWhile (· == 0)).reverse
def trimB (s : ByteArray) : ByteArray := ⟨(trimL s.data.toList).toArray⟩
/-- So many bytes from a place on, noughts behind the end. -/
def atL (l : List UInt8) (f n : Nat) : List UInt8 := (List.range n).map fun i => l.getD (f + i) 0
/-- A block's error. -/
def blkCheck (s : ByteArray) : Int := if s.size = 0 ∨ 64 < s.size ∨ s.data.toList.getLast? = some 0 then 4 else 0
structure PPatch where
  cut : Bool
  at_ : Int
  n : Int
  s : ByteArray
def PPatch.may (p : PPatch) : Bool :=
  if p.cut = true then decide (0 ≤ p.n) && decide (p.n < 64) && decide (p.at_ = 0) && decide (p.s.size = 0)
  else decide (p.s.size ≠ 0) && decide (p.s.size ≤ 64) && decide (0 ≤ p.at_) && decide (p.at_ ≤ 64 - (p.s.size : Int)) && decide (p.n = 0)
def PPatch.zero : PPatch := ⟨false, 0, 0, ⟨#[]⟩⟩
/-- A text's patch, or why it is none. -/
def rdPatch (s : ByteArray) : PPatch := if numV (some s) 1 = 2 then ⟨true, 0, numV (fixR (some s) 1) 1, ⟨#[]⟩⟩ else ⟨false, numV (fixR (some s) 1) 1, 0, textV (fixR (fixR (some s) 1) 1)⟩
def rdPatchR (s : ByteArray) : Option ByteArray := if numV (some s) 1 = 2 then fixR (fixR (some s) 1) 1 else textR (fixR (fixR (some s) 1) 1)
def patchE (s : ByteArray) : Int :=
  if s.size = 0 then 10 else if numV (some s) 1 ≠ 1 ∧ numV (some s) 1 ≠ 2 then 4
  else if rdPatchR s = none then 10 else if wholeE (rdPatchR s) = 0 ∧ (rdPatch s).may = true then 0 else 4
def patchV (s : ByteArray) : PPatch := if patchE s = 0 then rdPatch s else PPatch.zero
/-- What a patch makes of a block. -/
def blkApply (v : ByteArray) (p : PPatch) : ByteArray :=
  if p.may = false then ⟨(trimL (v.data.toList.take 64)).toArray⟩
  else if p.cut = true then ⟨(trimL (atL (v.data.toList.take 64) 0 p.n.toNat)).toArray⟩
  else ⟨(trimL (atL (v.data.toList.take 64) 0 p.at_.toNat ++ (p.s.data.toList ++ atL (v.data.toList.take 64) (p.at_.toNat + p.s.size) (64 - (p.at_.toNat + p.s.size))))).toArray⟩
theorem atL_length (l : List UInt8) (f n : Nat) : (atL l f n).length = n := by simp [atL]
theorem atL_snoc (l : List UInt8) (f n : Nat) : atL l f (n + 1) = atL l f n ++ [l.getD (f + n) 0] := by simp [atL, List.range_succ]
theorem atL_beyond (l : List UInt8) (f f' n : Nat) (h : l.length ≤ f) (h' : l.length ≤ f') : atL l f n = atL l f' n := by
  unfold atL
  apply List.map_congr_left
  intro i _
  rw [List.getD_eq_getElem?_getD, List.getD_eq_getElem?_getD, List.getElem?_eq_none (by omega), List.getElem?_eq_none (by omega)]
theorem trimL_snoc_zero (l : List UInt8) : trimL (l ++ [0]) = trimL l := by simp [trimL]
theorem trimL_zeros (l : List UInt8) (n : Nat) : trimL (l ++ List.replicate n 0) = trimL l := by
  induction n with
  | zero => simp
  | succ n ih => rw [List.replicate_succ', ← List.append_assoc, trimL_snoc_zero, ih]
theorem trimL_snoc_ne (l : List UInt8) (c : UInt8) (h : c ≠ 0) : trimL (l ++ [c]) = l ++ [c] := by
  simp [trimL, h]
theorem trimL_nil : trimL [] = [] := rfl
end Go.Proofs.YtmggpfngbkbkmaaGreatDoor
/- Plain: messages (packages message, rillbedref09). No program in sight. -/
namespace Go.Proofs.YtmggpfngbkbkmaaGreatDoor
open Go.RowKit
set_option linter.unusedVariables false
set_option linter.unusedSimpArgs false

structure PMsg where
  op : Int
  key : ByteArray
  til : ByteArray
  value : ByteArray
def first (k : ByteArray) : Nat := (k.data.toList.headD 0).toNat
def valueOk (k v : ByteArray) : Bool := if first k = 109 then metaE v == 0 else if first k = 100 then blkCheck v == 0 else decide (v.size ≤ 64)
def patchOk (k v : ByteArray) : Bool := if first k = 109 then changeE v == 0 else if first k = 100 then patchE v == 0 else false
def keyOk (s : ByteArray) : Bool := decide (s.size ≠ 0) && decide (s.size ≤ 108)
/-- One text before the other; an empty one. -/
def less (a b : ByteArray) : Bool := Op.bytesLess a.toList b.toList
def emp (s : ByteArray) : Bool := s.toList.isEmpty
/-- May a message be? -/
def PMsg.may (m : PMsg) : Bool :=
  keyOk m.key && (if m.op == 1 then emp m.til && valueOk m.key m.value
   else if m.op == 4 then emp m.til && patchOk m.key m.value
   else if m.op == 2 then emp m.til && emp m.value
   else if m.op == 3 then emp m.value && (keyOk m.til && less m.key m.til)
   else false)
end Go.Proofs.YtmggpfngbkbkmaaGreatDoor
/- Plain: 64 bytes, cut and spliced. No program in sight. -/
namespace Go.Proofs.YtmggpfngbkbkmaaGreatDoor
open Go.RowKit
set_option linter.unusedVariables false
set_option linter.unusedSimpArgs false

def cutL (L : List UInt8) (N i : Nat) : List UInt8 := L.take N ++ (List.replicate (i - N) 0 ++ L.drop i)
def splL (L : List UInt8) (a : Nat) (s : List UInt8) (i : Nat) : List UInt8 := L.take a ++ (s.take i ++ L.drop (a + i))
theorem cutL_step (L : List UInt8) (hl : L.length = 64) (N i : Nat) (hN : N ≤ i) (h : i < 64) : (cutL L N i).set i 0 = cutL L N (i + 1) := by
  unfold cutL
  have h1 : (L.take N).length = N := by simp; omega
  have h2 : (List.replicate (i - N) (0 : UInt8)).length = i - N := by simp
  rw [List.set_append_right _ _ (by omega), h1, List.set_append_right _ _ (by omega), h2, Nat.sub_self, List.drop_eq_getElem_cons (by omega), List.set_cons_zero, show i + 1 - N = (i - N) + 1 by omega, List.replicate_succ', List.append_assoc]
  rfl
theorem splL_step (L : List UInt8) (hl : L.length = 64) (a i : Nat) (s : List UInt8) (hi : i < s.length) (h : a + i < 64) : (splL L a s i).set (a + i) s[i] = splL L a s (i + 1) := by
  unfold splL
  have h1 : (L.take a).length = a := by simp; omega
  have h2 : (s.take i).length = i := by simp; omega
  rw [List.set_append_right _ _ (by omega), h1, show a + i - a = i by omega, List.set_append_right _ _ (by omega), h2, Nat.sub_self, List.drop_eq_getElem_cons (by omega), List.set_cons_zero, List.take_succ_eq_append_getElem hi, List.append_assoc]
  rfl
theorem cutL_zero (L : List UInt8) (N : Nat) : cutL L N N = L := by simp [cutL]
theorem splL_zero (L : List UInt8) (a : Nat) (s : List UInt8) : splL L a s 0 = L := by simp [splL]
theorem cutL_length (L : List UInt8) (hl : L.length = 64) (N i : Nat) (hN : N ≤ i) (h : i ≤ 64) : (cutL L N i).length = 64 := by simp [cutL]; omega
theorem splL_length (L : List UInt8) (hl : L.length = 64) (a i : Nat) (s : List UInt8) (hi : i ≤ s.length) (h : a + i ≤ 64) : (splL L a s i).length = 64 := by simp [splL]; omega
theorem cutL_full (L : List UInt8) (hl : L.length = 64) (N : Nat) : trimL (cutL L N 64) = trimL (L.take N) := by
  unfold cutL
  rw [List.drop_of_length_le (by omega), List.append_nil, trimL_zeros]
theorem atL_take (l : List UInt8) (f n m : Nat) (h : m ≤ n) : (atL l f n).take m = atL l f m := by
  unfold atL; rw [← List.map_take, List.take_range, Nat.min_eq_left h]
theorem atL_drop (l : List UInt8) (n m : Nat) (h : m ≤ n) : (atL l 0 n).drop m = atL l m (n - m) := by
  apply List.ext_getElem
  · simp [atL]
  · intro i h1 h2; simp [atL]
theorem atL_64 (l : List UInt8) (f n : Nat) (h : f + n ≤ 64) : atL (l.take 64) f n = atL l f n := by
  apply List.map_congr_left
  intro i hi
  have := List.mem_range.1 hi
  rw [List.getD_eq_getElem?_getD, List.getD_eq_getElem?_getD, List.getElem?_take, if_pos (by omega)]
theorem atL_all (l : List UInt8) : trimL (atL l 0 64) = trimL (l.take 64) := by
  have : atL l 0 64 = l.take 64 ++ List.replicate (64 - (l.take 64).length) 0 := by
    apply List.ext_getElem
    · simp [atL]; omega
    · intro i h1 h2
      have hi : i < 64 := by simpa [atL] using h1
      simp only [atL, List.getElem_map, List.getElem_range, Nat.zero_add]
      by_cases hl : i < l.length
      · rw [List.getElem_append_left (by simp; omega), List.getElem_take, List.getD_eq_getElem?_getD, List.getElem?_eq_getElem hl]; rfl
      · rw [List.getElem_append_right (by simp; omega), List.getElem_replicate, List.getD_eq_getElem?_getD, List.getElem?_eq_none (by omega)]; rfl
  rw [this, trimL_zeros]
end Go.Proofs.YtmggpfngbkbkmaaGreatDoor
