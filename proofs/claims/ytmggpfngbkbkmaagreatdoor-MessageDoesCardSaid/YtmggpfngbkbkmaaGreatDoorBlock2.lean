/- What package block does (2): At, a patch's may, together. -/
import Derived.Test.YtmggpfngbkbkmaaGreatDoorBlock
namespace Go.Proofs.YtmggpfngbkbkmaaGreatDoor
open Go.RowKit
set_option linter.unusedVariables false
set_option linter.unusedSimpArgs false

/-- append(v, x) onto a row of the call's own that lies in new blocks (from 'base' on). -/
theorem wpList_appB {P : Program} {ops : Array Oper} {o : Oper} {rest : List Oper} {a : Act} {w : World} {Q : Exit → Act → World → Prop}
    (hgd : o.guard = none) (s x : Operand) (t : TypeId) (ho : o.op = .call { callee := .builtin .append, args := #[s, x], argTypes := #[t, t] }) (base : Nat) (hbase : base ≤ w.heap.size)
    (e : TypeId) (ht : P.underlying t = some (.slice e)) {z : Value} {size bytes : Nat} (he : Elem P e z size bytes)
    (v : Value) (n : Nat) (xs : List Value) (hs : a.eval s = v) (hown : w.ownsRow base e size v n xs) (hn : n < 1000000000000)
    (B : Nat) (cs : Array Value) (fr : Nat × Nat) (hB : w.heap[B]? = some (.cells cs e fr)) (hx : a.eval x = .slice (some ⟨B, 0, none⟩) 1 1) (hcs : cs.size = size) (h1 : ∀ u ∈ cs.toList, u.oneCell' = true)
    (h : ∀ g cap w', w'.ownsRow base e size (.slice (some ⟨g, 0, none⟩) (n + 1) cap) (n + 1) (xs ++ cs.toList) → w.grownBy w' v.ownBlock → base ≤ g → g < w'.heap.size → wpList P ops Q rest (a.put o.dst (.slice (some ⟨g, 0, none⟩) (n + 1) cap)) w') :
    wpList P ops Q (o :: rest) a w := by
  obtain ⟨i, hi, hz0, hz1, hz2⟩ := info_parts he.1
  have hb : (n + 1) * bytes ≤ (n + 1) * 64 := Nat.mul_le_mul_left _ he.2.2.2
  exact wpList_append_lies w hgd s x t ho base e i z size bytes ht hi hz0 hz1 hz2 he.2.1 he.2.2.1 v n xs hs hown ⟨B, 0, none⟩ 1 1 cs.toList hx (by simp [hcs]) (World.news_of_block hB) h1 (by omega) (by unfold maxLen; omega) (by omega) hbase _ rfl
    (fun g cap w' h2 h3 h4 h5 => h g cap w' h2 h3 (h2.lt g rfl).1 h5)
/-- What an append leaves alone. -/
theorem below_grown {a w w' : World} {B : Nat} {e : TypeId} {size n : Nat} {v : Value} {xs : List Value} (h : Below B a w) (hg : w.grownBy w' v.ownBlock) (hown : w.ownsRow B e size v n xs) (hB : B ≤ w.heap.size) : Below B a w' :=
  h.trans ⟨hg.os, hg.tape, hg.output, hg.size, fun k hk => hg.block k (by omega) (fun e => by have := (hown.lt k e.symm).1; omega)⟩

theorem bytes_strB {l : List UInt8} {w : World} {v : Value} {B : Nat} (hown : w.ownsRow B 5 1 v l.length (byteVs l)) :
    (Go.convert 122 9 v).run Tryz.prog w = .ok (.string ⟨l.toArray⟩) w := by
  refine bytes_str ⟨hown.1, ?_⟩
  rcases hown.2 with h | ⟨g, cap, cur, h, _, h2⟩
  · exact .inl h
  · exact .inr ⟨g, cap, cur, h, Nat.zero_le _, h2⟩
theorem getD_in {l : ByteArray} {i : Nat} (h : i < l.size) : l.data.toList.getD i 0 = l[i] := by
  rw [List.getD_eq_getElem?_getD, List.getElem?_eq_getElem (by simpa using h)]; rfl
theorem getD_out {l : ByteArray} {i : Nat} (h : l.size ≤ i) : l.data.toList.getD i 0 = 0 := by
  rw [List.getD_eq_getElem?_getD, List.getElem?_eq_none (by simpa using h)]; rfl
theorem byteVs_snoc (l : List UInt8) (c : UInt8) : byteVs (l ++ [c]) = byteVs l ++ [.int .u8 c.toNat] := by simp [byteVs]
set_option maxRecDepth 100000 in
theorem at_c (s : ByteArray) (hs : s.size < 4611686018427387904) (f n : Nat) (hf : f < 4611686018427387904) (hn : n ≤ 64) (w : World) :
    Calls Tryz.prog 115 #[.string s, .int .i64 f, .int .i64 n] w (Ret w (.string ⟨(atL s.data.toList f n).toArray⟩)) := by
  go_enter Tryz.func115, Tryz.ntmps115
  go_wp2
  go_loopw [7, 16] (fun sl i wr => ∃ k : Nat, k ≤ n ∧ i = .int .i64 k ∧ wr.ownsRow w.heap.size 5 1 sl k (byteVs (atL s.data.toList f k)) ∧ Below w.heap.size w wr) (fun _ i _ => n - (intOf i).toNat)
  case atStart => exact ⟨0, by omega, rfl, World.ownsRow_nil _ _ _ _, (by repeat (first | (with_reducible first | exact Below.refl _ _ | assumption | refine below_drewN ?_ _ | refine Below.drew ?_ | refine below_alloc ?_ _) | (with_reducible refine below_set ?_ ?side _; (case side => first | omega | (simp; omega) | (simp only [World.size_alloc]; omega))) | (with_reducible refine below_trans ?_ (by assumption))))⟩
  case round =>
    obtain ⟨k, hk, rfl, hown, hb⟩ := hrel
    have hsz := hb.size
    by_cases hlt : k < n
    · have HA := Aside.mk (atL_snoc s.data.toList f k)
      by_cases hin : f + k < s.size
      · have HC := Aside.mk (getD_in hin)
        go_wp2_with (at_builtin; refine wpList_appB rfl (.tmp 36) (.tmp 38) 122 rfl w.heap.size (by simp; omega) 5 Tryz.underlying122 el_u8 u7 _ _ (by rfl) (hown.alloc _) (by omega) wr.heap.size _ _ (by exact heap_new wr _) (by rfl) rfl (by simp [Value.oneCell']) ?_; intro g cap w1 hown1 hgrow hbg hlt1)
        go_roundw
        case rel => exact ⟨k + 1, by omega, by go_num, by rw [HA.out, HC.out, byteVs_snoc]; exact hown1, below_grown (below_alloc hb _) hgrow (hown.alloc _) (by simp; omega)⟩
        case measure => simp [intOf]; omega
      · have HC := Aside.mk (getD_out (l := s) (i := f + k) (by omega))
        go_wp2_with (at_builtin; refine wpList_appB rfl (.tmp 36) (.tmp 38) 122 rfl w.heap.size (by simp; omega) 5 Tryz.underlying122 el_u8 u7 _ _ (by rfl) (hown.alloc _) (by omega) wr.heap.size _ _ (by exact heap_new wr _) (by rfl) rfl (by simp [Value.oneCell']) ?_; intro g cap w1 hown1 hgrow hbg hlt1)
        all_goals go_roundw
        all_goals try (case rel => exact ⟨k + 1, by omega, by go_num, by rw [HA.out, HC.out, byteVs_snoc]; exact hown1, below_grown (below_alloc hb _) hgrow (hown.alloc _) (by simp; omega)⟩)
        all_goals simp [intOf]; omega
    · have hkn : k = n := by omega
      subst hkn
      have hl := atL_length s.data.toList f k
      generalize hE : atL s.data.toList f k = L at hown hl
      have HE := Aside.mk hE
      clear hE
      subst hl
      have hc := bytes_strB hown
      go_wp2
      go_ret
      exact ⟨by rw [HE.out]; rfl, hb⟩
set_option maxHeartbeats 1000000 in
set_option maxRecDepth 100000 in
theorem patchMay_c (c : Bool) (a n : Int) (s : ByteArray) (hs : s.size < 4611686018427387904) (w : World) :
    Calls Tryz.prog 113 #[.agg #[.bool c, .int .i64 a, .int .i64 n, .string s]] w (Ret w (.bool (PPatch.mk c a n s).may)) := by
  by_cases h0 : s.size = 0
  · have ht : (s.toList == ([] : List UInt8)) = true := by simpa [toList_nil] using h0
    cases c
    all_goals
      go_enter Tryz.func113, Tryz.ntmps113
      go_wp2_with fail
    all_goals (go_ret; go_tidy)
    all_goals (refine ⟨ret_bool ?_, (by repeat (first | (with_reducible first | exact Below.refl _ _ | assumption | refine below_drewN ?_ _ | refine Below.drew ?_ | refine below_alloc ?_ _) | (with_reducible refine below_set ?_ ?side _; (case side => first | omega | (simp; omega) | (simp only [World.size_alloc]; omega))) | (with_reducible refine below_trans ?_ (by assumption))))⟩)
    all_goals (simp_all [PPatch.may] <;> try omega)
  · have ht : (s.toList == ([] : List UInt8)) = false := by simpa [toList_nil] using h0
    cases c
    all_goals
      go_enter Tryz.func113, Tryz.ntmps113
      go_wp2_with fail
    all_goals (go_ret; go_tidy)
    all_goals (refine ⟨ret_bool ?_, (by repeat (first | (with_reducible first | exact Below.refl _ _ | assumption | refine below_drewN ?_ _ | refine Below.drew ?_ | refine below_alloc ?_ _) | (with_reducible refine below_set ?_ ?side _; (case side => first | omega | (simp; omega) | (simp only [World.size_alloc]; omega))) | (with_reducible refine below_trans ?_ (by assumption))))⟩)
    all_goals (simp_all [PPatch.may] <;> try (first | omega | (rw [decide_eq_true (by omega), Bool.true_and]; rfl)))
/-- What a list's strings are, one behind the other, trimmed. -/
theorem join_nil (l : List (List UInt8)) : Go.Lib.join l [] = l.flatten := by
  show [].intercalate l = _
  induction l with
  | nil => rfl
  | cons x r ih =>
    cases r with
    | nil => simp [List.intercalate]
    | cons y r =>
      rw [List.flatten_cons, ← ih]
      simp [List.intercalate]
theorem together_c (bk c : Nat) (xs : List ByteArray) (w : World) (hcells : ∀ (j : Nat) x, xs[j]? = some x → w.cell? ⟨bk, j, none⟩ = some (.string x)) (hbk : bk < w.heap.size) (hN : xs.length ≤ 64) (hcap : xs.length ≤ c)
    (hlen : ((xs.map (·.data.toList)).flatten).length ≤ 100000) :
    Calls Tryz.prog 114 #[.slice (some ⟨bk, 0, none⟩) xs.length c] w (Ret w (.string ⟨(trimL (xs.map (·.data.toList)).flatten).toArray⟩)) := by
  have hj := Aside.mk (join_nil (xs.map (·.data.toList)))
  have hL : (Go.Lib.join (xs.map (·.data.toList)) (⟨#[]⟩ : ByteArray).data.toList) = (xs.map (·.data.toList)).flatten := hj.out
  have HL := Aside.mk hL
  clear hL
  go_enter Tryz.func114, Tryz.ntmps114
  go_wp2_with fail
  refine (Tryz.strings_Join bk 0 c xs ⟨#[]⟩ _ (by simpa using hcells) hbk (by omega) hcap (by rw [HL.out]; omega)).mono ?_
  rintro e w1 ⟨rfl, hb1⟩
  rw [HL.out]
  generalize hE : (xs.map (·.data.toList)).flatten = L at hlen
  have HE := Aside.mk hE
  clear hE
  go_wp2_with fail
  refine (trim_c _ (by show L.length < _; omega) _).mono ?_
  rintro e w2 ⟨rfl, rfl⟩
  go_wp2_with fail
  go_ret
  exact ⟨by rw [HE.out]; rfl, hb1⟩
end Go.Proofs.YtmggpfngbkbkmaaGreatDoor
