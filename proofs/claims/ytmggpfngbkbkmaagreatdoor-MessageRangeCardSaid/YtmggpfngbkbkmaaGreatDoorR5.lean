/- What package block does (1): Check, Trim, At. -/
import Derived.Test.YtmggpfngbkbkmaaGreatDoorR2
import Derived.Test.YtmggpfngbkbkmaaGreatDoorR0
import Derived.Test.YtmggpfngbkbkmaaGreatDoorShelf
import Derived.Deep.RegionHeld3
import Derived.Test.YtmggpfngbkbkmaaGreatDoorR3
namespace Go.Proofs.YtmggpfngbkbkmaaGreatDoor
open Go.RowKit
set_option linter.unusedVariables false
set_option linter.unusedSimpArgs false

theorem last_of {s : ByteArray} {n : Nat} (h : s.size = n + 1) : s.data.toList.getLast? = some (s[n]'(by omega)) := by
  rw [List.getLast?_eq_getElem?]
  have : s.data.toList.length = n + 1 := by simpa using h
  rw [this, Nat.add_sub_cancel, List.getElem?_eq_getElem (by omega)]
  rfl
theorem snoc_of {s : ByteArray} {n : Nat} (h : s.size = n + 1) : s.data.toList = s.data.toList.take n ++ [s[n]'(by omega)] := by
  have e := take_snoc s n (by omega)
  rw [List.take_of_length_le (by simp; omega)] at e
  exact e
theorem ba_ext {a b : ByteArray} (h : a.data.toList = b.data.toList) : a = b := by
  cases a; cases b; simp at h; congr
theorem trimB_empty {t : ByteArray} (h : t.size = 0) : trimB t = t := by
  apply ba_ext
  have : t.data.toList = [] := List.eq_nil_of_length_eq_zero (by simpa using h)
  simp [trimB, this, trimL]
theorem trimB_ne {t : ByteArray} {n : Nat} (h : t.size = n + 1) (hz : t[n] ≠ 0) : trimB t = t := by
  apply ba_ext
  have e := snoc_of h
  show trimL t.data.toList = t.data.toList
  rw [e, trimL_snoc_ne _ _ hz]
theorem extract_take (t : ByteArray) (n : Nat) : (t.extract 0 n).data.toList = t.data.toList.take n := by simp
theorem trimB_zero {t : ByteArray} {n : Nat} (h : t.size = n + 1) (hz : t[n] = 0) : trimB (t.extract 0 n) = trimB t := by
  apply ba_ext
  show trimL (t.extract 0 n).data.toList = trimL t.data.toList
  rw [snoc_of h, hz, trimL_snoc_zero, extract_take]
theorem byte_ne {c : UInt8} (h : c ≠ 0) : ((c.toNat : Int) == 0) = false := by
  rw [beq_eq_false_iff_ne]; intro e; apply h; apply UInt8.toNat.inj; simpa using e
theorem byte_eq {c : UInt8} (h : ((c.toNat : Int) == 0) = true) : c = 0 := by
  have := beq_iff_eq.1 h; apply UInt8.toNat.inj; simpa using this
/-- A slot's size, for a measure. -/
def strOf' : Value → Nat | .string s => s.size | _ => 0
theorem blkCheck_c (s : ByteArray) (hs : s.size < 4611686018427387904) (w : World) :
    Calls Tryz.prog 131 #[.string s] w fun e w' => e = .returned (.int .i64 (blkCheck s)) ∧ w = w' := by
  by_cases h0 : s.size = 0
  · have HE := Aside.mk (show blkCheck s = 4 from if_pos (.inl h0))
    have ht : (s.toList == ([] : List UInt8)) = true := by simpa [toList_nil] using h0
    clear h0
    go_enter Tryz.func131, Tryz.ntmps131
    go_wp2
    go_ret
    exact ⟨by rw [HE.out]; rfl, rfl⟩
  · obtain ⟨n, hn⟩ : ∃ n, s.size = n + 1 := ⟨s.size - 1, by omega⟩
    have hlast := last_of hn
    have ht : (s.toList == ([] : List UInt8)) = false := by simpa [toList_nil] using h0
    go_enter Tryz.func131, Tryz.ntmps131
    have HL := Aside.mk hlast
    clear hlast h0
    go_wp2
    · go_ret; go_tidy
      rename_i h1 h2 h3
      refine ⟨ret_int ?_, rfl⟩
      unfold blkCheck
      by_cases hb : 64 < s.size
      · rw [if_pos (.inr (.inl hb))]
      · rw [if_pos (.inr (.inr (by rw [HL.out]; exact congrArg some (byte_eq (h3.resolve_left (by omega))))))]
    · go_ret; go_tidy
      rename_i h1
      refine ⟨ret_int ?_, rfl⟩
      unfold blkCheck
      rw [HL.out, if_neg]
      rintro (h | h | h)
      · omega
      · omega
      · injection h with h; rw [h] at h1; simp at h1
    · go_ret; go_tidy
      rename_i h1
      refine ⟨ret_int ?_, rfl⟩
      unfold blkCheck
      rw [if_pos (.inr (.inl (by omega)))]
theorem trimByte_c (s : ByteArray) (hs : s.size < 4611686018427387904) (w : World) :
    Calls Tryz.prog 168 #[.string s, .int .u8 0] w fun e w' => e = .returned (.string (trimB s)) ∧ w = w' := by
  go_enter Tryz.func168, Tryz.ntmps168
  go_wp2
  go_loop [0] (fun v => ∃ t : ByteArray, t.size ≤ s.size ∧ v = .string t ∧ trimB t = trimB s) (fun v => strOf' v)
  case atStart => exact ⟨s, Nat.le_refl _, rfl, rfl⟩
  case round =>
    obtain ⟨t, ht, rfl, hts⟩ := hrel
    have HT := Aside.mk hts
    clear hts
    by_cases h0 : t.size = 0
    · have hl : t.size = 0 := h0
      clear h0
      go_wp2
      go_ret
      exact ⟨by rw [← HT.out, trimB_empty hl]; rfl, rfl⟩
    · obtain ⟨n, hn⟩ : ∃ n, t.size = n + 1 := ⟨t.size - 1, by omega⟩
      by_cases hz : t[n] = 0
      · have HZ := Aside.mk (trimB_zero hn hz)
        go_wp2
        go_round
        case rel => exact ⟨t.extract 0 n, by simp; omega, rfl, by rw [HZ.out, HT.out]⟩
        case measure => simp [strOf']; omega
      · have HZ := Aside.mk (trimB_ne hn hz)
        have hb := byte_ne hz
        clear hz
        go_wp2
        go_ret
        exact ⟨by rw [← HT.out, HZ.out]; rfl, rfl⟩
set_option maxRecDepth 100000 in
theorem trim_c (s : ByteArray) (hs : s.size < 4611686018427387904) (w : World) :
    Calls Tryz.prog 144 #[.string s] w fun e w' => e = .returned (.string (trimB s)) ∧ w = w' := by
  by_cases h0 : s.size = 0
  · have HT := Aside.mk (trimB_empty h0)
    have ht : (s.toList == ([] : List UInt8)) = true := by simpa [toList_nil] using h0
    clear h0
    go_enter Tryz.func144, Tryz.ntmps144
    go_wp2_with (go_at_call 162; go_in)
    go_ret
    exact ⟨by rw [HT.out]; rfl, rfl⟩
  · have ht : (s.toList == ([] : List UInt8)) = false := by simpa [toList_nil] using h0
    clear h0
    go_enter Tryz.func144, Tryz.ntmps144
    go_wp2_with (first | (go_at_call 162; go_in) | (go_at_call 168; refine (trimByte_c s hs _).mono ?_; rintro e w1 ⟨rfl, rfl⟩))
    go_ret
    exact ⟨rfl, rfl⟩
end Go.Proofs.YtmggpfngbkbkmaaGreatDoor
/- What package block does (2): At, a patch's may, together. -/
namespace Go.Proofs.YtmggpfngbkbkmaaGreatDoor
open Go.RowKit
set_option linter.unusedVariables false
set_option linter.unusedSimpArgs false

/-- append(v, x) onto a row of the call's own that lies in new blocks (from 'base' on). -/
theorem wpList_appB {P : Program} {ops : Array Oper} {o : Oper} {rest : List Oper} {a : Act} {w : World} {Q : Exit → Act → World → Prop}
    (hgd : o.guard = none) (s x : Operand) (t : TypeId) (ho : o.op = .call { callee := .builtin .append, args := #[s, x], argTypes := #[t, t] }) (base : Nat) (hbase : base ≤ w.heap.size)
    (e : TypeId) (ht : P.underlying t = some (.slice e)) {z : Value} {size bytes : Nat} (he : Elem P e z size bytes)
    (v : Value) (n : Nat) (xs : List Value) (hs : a.eval s = v) (hown : w.ownsRow base e size v n xs) (hn : n < 1000000000000)
    (B : Nat) (cs : Array Value) (fr : Nat × Nat) (hB : w.heap[B]? = some (.cells cs e fr)) (hx : a.eval x = .slice (some ⟨B, 0, none⟩) 1 1) (hcs : cs.size = size) (h1 : ∀ u ∈ cs.toList, u.oneCell' = true)
    (h : ∀ g cap w', w'.ownsRow base e size (.slice (some ⟨g, 0, none⟩) (n + 1) cap) (n + 1) (xs ++ cs.toList) → w.grownBy w' v.ownBlock → base ≤ g → g < w'.heap.size → wpList P ops Q rest (a.put o.dst (.slice (some ⟨g, 0, none⟩) (n + 1) cap)) w') :
    wpList P ops Q (o :: rest) a w := by
  obtain ⟨i, hi, hz0, hz1, hz2⟩ := info_parts he.1
  have hb : (n + 1) * bytes ≤ (n + 1) * 64 := Nat.mul_le_mul_left _ he.2.2.2
  exact wpList_append_lies w hgd s x t ho base e i z size bytes ht hi hz0 hz1 hz2 he.2.1 he.2.2.1 v n xs hs hown ⟨B, 0, none⟩ 1 1 cs.toList hx (by simp [hcs]) (World.news_of_block hB) h1 (by omega) (by unfold maxLen; omega) (by omega) hbase _ rfl
    (fun g cap w' h2 h3 h4 h5 => h g cap w' h2 h3 (h2.lt g rfl).1 h5)
/-- What an append leaves alone. -/
theorem below_grown {a w w' : World} {B : Nat} {e : TypeId} {size n : Nat} {v : Value} {xs : List Value} (h : Below B a w) (hg : w.grownBy w' v.ownBlock) (hown : w.ownsRow B e size v n xs) (hB : B ≤ w.heap.size) : Below B a w' :=
  h.trans ⟨hg.os, hg.tape, hg.output, hg.size, fun k hk => hg.block k (by omega) (fun e => by have := (hown.lt k e.symm).1; omega)⟩

theorem bytes_strB {l : List UInt8} {w : World} {v : Value} {B : Nat} (hown : w.ownsRow B 5 1 v l.length (byteVs l)) :
    (Go.convert 122 9 v).run Tryz.prog w = .ok (.string ⟨l.toArray⟩) w := by
  refine bytes_str ⟨hown.1, ?_⟩
  rcases hown.2 with h | ⟨g, cap, cur, h, _, h2⟩
  · exact .inl h
  · exact .inr ⟨g, cap, cur, h, Nat.zero_le _, h2⟩
theorem getD_in {l : ByteArray} {i : Nat} (h : i < l.size) : l.data.toList.getD i 0 = l[i] := by
  rw [List.getD_eq_getElem?_getD, List.getElem?_eq_getElem (by simpa using h)]; rfl
theorem getD_out {l : ByteArray} {i : Nat} (h : l.size ≤ i) : l.data.toList.getD i 0 = 0 := by
  rw [List.getD_eq_getElem?_getD, List.getElem?_eq_none (by simpa using h)]; rfl
theorem byteVs_snoc (l : List UInt8) (c : UInt8) : byteVs (l ++ [c]) = byteVs l ++ [.int .u8 c.toNat] := by simp [byteVs]
set_option maxRecDepth 100000 in
theorem at_c (s : ByteArray) (hs : s.size < 4611686018427387904) (f n : Nat) (hf : f < 4611686018427387904) (hn : n ≤ 64) (w : World) :
    Calls Tryz.prog 115 #[.string s, .int .i64 f, .int .i64 n] w (Ret w (.string ⟨(atL s.data.toList f n).toArray⟩)) := by
  go_enter Tryz.func115, Tryz.ntmps115
  go_wp2
  go_loopw [7, 16] (fun sl i wr => ∃ k : Nat, k ≤ n ∧ i = .int .i64 k ∧ wr.ownsRow w.heap.size 5 1 sl k (byteVs (atL s.data.toList f k)) ∧ Below w.heap.size w wr) (fun _ i _ => n - (intOf i).toNat)
  case atStart => exact ⟨0, by omega, rfl, World.ownsRow_nil _ _ _ _, (by repeat (first | (with_reducible first | exact Below.refl _ _ | assumption | refine below_drewN ?_ _ | refine Below.drew ?_ | refine below_alloc ?_ _) | (with_reducible refine below_set ?_ ?side _; (case side => first | omega | (simp; omega) | (simp only [World.size_alloc]; omega))) | (with_reducible refine below_trans ?_ (by assumption))))⟩
  case round =>
    obtain ⟨k, hk, rfl, hown, hb⟩ := hrel
    have hsz := hb.size
    by_cases hlt : k < n
    · have HA := Aside.mk (atL_snoc s.data.toList f k)
      by_cases hin : f + k < s.size
      · have HC := Aside.mk (getD_in hin)
        go_wp2_with (at_builtin; refine wpList_appB rfl (.tmp 36) (.tmp 38) 122 rfl w.heap.size (by simp; omega) 5 Tryz.underlying122 el_u8 u7 _ _ (by rfl) (hown.alloc _) (by omega) wr.heap.size _ _ (by exact heap_new wr _) (by rfl) rfl (by simp [Value.oneCell']) ?_; intro g cap w1 hown1 hgrow hbg hlt1)
        go_roundw
        case rel => exact ⟨k + 1, by omega, by go_num, by rw [HA.out, HC.out, byteVs_snoc]; exact hown1, below_grown (below_alloc hb _) hgrow (hown.alloc _) (by simp; omega)⟩
        case measure => simp [intOf]; omega
      · have HC := Aside.mk (getD_out (l := s) (i := f + k) (by omega))
        go_wp2_with (at_builtin; refine wpList_appB rfl (.tmp 36) (.tmp 38) 122 rfl w.heap.size (by simp; omega) 5 Tryz.underlying122 el_u8 u7 _ _ (by rfl) (hown.alloc _) (by omega) wr.heap.size _ _ (by exact heap_new wr _) (by rfl) rfl (by simp [Value.oneCell']) ?_; intro g cap w1 hown1 hgrow hbg hlt1)
        all_goals go_roundw
        all_goals try (case rel => exact ⟨k + 1, by omega, by go_num, by rw [HA.out, HC.out, byteVs_snoc]; exact hown1, below_grown (below_alloc hb _) hgrow (hown.alloc _) (by simp; omega)⟩)
        all_goals simp [intOf]; omega
    · have hkn : k = n := by omega
      subst hkn
      have hl := atL_length s.data.toList f k
      generalize hE : atL s.data.toList f k = L at hown hl
      have HE := Aside.mk hE
      clear hE
      subst hl
      have hc := bytes_strB hown
      go_wp2
      go_ret
      exact ⟨by rw [HE.out]; rfl, hb⟩
set_option maxHeartbeats 1000000 in
set_option maxRecDepth 100000 in
theorem patchMay_c (c : Bool) (a n : Int) (s : ByteArray) (hs : s.size < 4611686018427387904) (w : World) :
    Calls Tryz.prog 113 #[.agg #[.bool c, .int .i64 a, .int .i64 n, .string s]] w (Ret w (.bool (PPatch.mk c a n s).may)) := by
  by_cases h0 : s.size = 0
  · have ht : (s.toList == ([] : List UInt8)) = true := by simpa [toList_nil] using h0
    cases c
    all_goals
      go_enter Tryz.func113, Tryz.ntmps113
      go_wp2_with fail
    all_goals (go_ret; go_tidy)
    all_goals (refine ⟨ret_bool ?_, (by repeat (first | (with_reducible first | exact Below.refl _ _ | assumption | refine below_drewN ?_ _ | refine Below.drew ?_ | refine below_alloc ?_ _) | (with_reducible refine below_set ?_ ?side _; (case side => first | omega | (simp; omega) | (simp only [World.size_alloc]; omega))) | (with_reducible refine below_trans ?_ (by assumption))))⟩)
    all_goals (simp_all [PPatch.may] <;> try omega)
  · have ht : (s.toList == ([] : List UInt8)) = false := by simpa [toList_nil] using h0
    cases c
    all_goals
      go_enter Tryz.func113, Tryz.ntmps113
      go_wp2_with fail
    all_goals (go_ret; go_tidy)
    all_goals (refine ⟨ret_bool ?_, (by repeat (first | (with_reducible first | exact Below.refl _ _ | assumption | refine below_drewN ?_ _ | refine Below.drew ?_ | refine below_alloc ?_ _) | (with_reducible refine below_set ?_ ?side _; (case side => first | omega | (simp; omega) | (simp only [World.size_alloc]; omega))) | (with_reducible refine below_trans ?_ (by assumption))))⟩)
    all_goals (simp_all [PPatch.may] <;> try (first | omega | (rw [decide_eq_true (by omega), Bool.true_and]; rfl)))
/-- What a list's strings are, one behind the other, trimmed. -/
theorem join_nil (l : List (List UInt8)) : Go.Lib.join l [] = l.flatten := by
  show [].intercalate l = _
  induction l with
  | nil => rfl
  | cons x r ih =>
    cases r with
    | nil => simp [List.intercalate]
    | cons y r =>
      rw [List.flatten_cons, ← ih]
      simp [List.intercalate]
theorem together_c (bk c : Nat) (xs : List ByteArray) (w : World) (hcells : ∀ (j : Nat) x, xs[j]? = some x → w.cell? ⟨bk, j, none⟩ = some (.string x)) (hbk : bk < w.heap.size) (hN : xs.length ≤ 64) (hcap : xs.length ≤ c)
    (hlen : ((xs.map (·.data.toList)).flatten).length ≤ 100000) :
    Calls Tryz.prog 114 #[.slice (some ⟨bk, 0, none⟩) xs.length c] w (Ret w (.string ⟨(trimL (xs.map (·.data.toList)).flatten).toArray⟩)) := by
  have hj := Aside.mk (join_nil (xs.map (·.data.toList)))
  have hL : (Go.Lib.join (xs.map (·.data.toList)) (⟨#[]⟩ : ByteArray).data.toList) = (xs.map (·.data.toList)).flatten := hj.out
  have HL := Aside.mk hL
  clear hL
  go_enter Tryz.func114, Tryz.ntmps114
  go_wp2_with fail
  refine (Tryz.strings_Join bk 0 c xs ⟨#[]⟩ _ (by simpa using hcells) hbk (by omega) hcap (by rw [HL.out]; omega)).mono ?_
  rintro e w1 ⟨rfl, hb1⟩
  rw [HL.out]
  generalize hE : (xs.map (·.data.toList)).flatten = L at hlen
  have HE := Aside.mk hE
  clear hE
  go_wp2_with fail
  refine (trim_c _ (by show L.length < _; omega) _).mono ?_
  rintro e w2 ⟨rfl, rfl⟩
  go_wp2_with fail
  go_ret
  exact ⟨by rw [HE.out]; rfl, hb1⟩
end Go.Proofs.YtmggpfngbkbkmaaGreatDoor
/- What package block does (3): Take. -/
namespace Go.Proofs.YtmggpfngbkbkmaaGreatDoor
open Go.RowKit
set_option linter.unusedVariables false
set_option linter.unusedSimpArgs false

def patchVal (p : PPatch) : Value := .agg #[.bool p.cut, .int .i64 p.at_, .int .i64 p.n, .string p.s]
theorem rdErr_one {s : ByteArray} (h : s.size ≠ 0) : rdErr (fixR (some s) 1) = 0 := by
  have : 1 ≤ s.size := by omega
  simp [fixR, rdErr, this]
theorem rdErr_nil {s : ByteArray} (h : s.size = 0) : rdErr (fixR (some s) 1) = 10 := by
  have : ¬ 1 ≤ s.size := by omega
  simp [fixR, rdErr, this]

set_option maxHeartbeats 2000000 in
set_option maxRecDepth 100000 in
theorem blkTake_c (s : ByteArray) (hs : s.size < 4611686018427387904) (w : World) :
    Calls Tryz.prog 83 #[.string s] w (Ret w (.tuple #[patchVal (patchV s), .int .i64 (patchE s)])) := by
  have hO := heap_new w (.cells #[.bool false, .int .i64 0, .int .i64 0, .string ⟨#[]⟩] 104)
  go_enter Tryz.func83, Tryz.ntmps83
  go_wp2_with (go_at_call 108; refine (rdNew_c s _).mono ?_; rintro e w1 ⟨rfl, rfl⟩)
  have hR := heap_alloc (rd_new (w.alloc (.cells #[.bool false, .int .i64 0, .int .i64 0, .string ⟨#[]⟩] 104)) s (g := w.heap.size + 1) (by simp)) (.cells #[.bool false, .int .i64 0, .int .i64 0, .string ⟨#[]⟩] 104)
  have hO := heap_alloc (heap_alloc (heap_new w (.cells #[.bool false, .int .i64 0, .int .i64 0, .string ⟨#[]⟩] 104)) (.cells #[.string s, .int .i64 0] 172)) (.cells #[.bool false, .int .i64 0, .int .i64 0, .string ⟨#[]⟩] 104)
  have hP := heap_new' ((w.alloc (.cells #[.bool false, .int .i64 0, .int .i64 0, .string ⟨#[]⟩] 104)).alloc (.cells #[.string s, .int .i64 0] 172)) (.cells #[.bool false, .int .i64 0, .int .i64 0, .string ⟨#[]⟩] 104) (g := w.heap.size + 2) (by simp)
  refine (rdU8_c _ _ _ hR).mono ?_
  rintro e w1 ⟨rfl, hR1, ht1⟩
  have hz1 := ht1.size
  simp at hz1
  have hO1 := ht1.keep hO (by omega)
  have hP1 := ht1.keep hP (by omega)
  have hB1 : Below w.heap.size w w1 := below_touch (below_alloc (below_alloc (below_alloc (Below.refl _ _) _) _) _) ht1 (by intro i hi e; omega)
  clear hO hP hR ht1
  go_wp2_with fail
  refine (rdErr_c _ _ _ hR1).mono ?_
  rintro e w2 ⟨rfl, rfl⟩
  obtain ⟨⟨o0, o1, o2, o3⟩, f0, f1, f2, f3⟩ := four hO1
  obtain ⟨⟨d0, d1, d2, d3⟩, g0, g1, g2, g3⟩ := four hP1
  by_cases h0 : s.size = 0
  · have HE := Aside.mk (show patchE s = 10 from if_pos h0)
    have HV := Aside.mk (show patchV s = PPatch.zero from if_neg (by rw [HE.out]; decide))
    rw [rdErr_nil h0]
    clear h0
    go_wp2_with fail
    go_tidy
    refine bodyPost_ret (v := .tuple #[patchVal PPatch.zero, .int .i64 10]) (by simp [results, Tryz.results83, go_sem, o0, o1, o2, o3]; rfl) rfl ⟨by rw [HE.out, HV.out], ?_⟩
    repeat (first | (with_reducible first | exact Below.refl _ _ | assumption | refine below_drewN ?_ _ | refine Below.drew ?_ | refine below_alloc ?_ _) | (with_reducible refine below_set ?_ ?side _; (case side => first | omega | (simp; omega) | (simp only [World.size_alloc]; omega))) | (with_reducible refine below_trans ?_ (by assumption)))
  have HZ := Aside.mk h0
  rw [rdErr_one h0]
  clear h0
  have hq : (numV (some s) 1 : Int) = numV (some s) 1 := rfl
  generalize hk : numV (some s) 1 = k at hq ⊢
  have HK := Aside.mk hk
  clear hk hq
  have hm1 : numV (fixR (some s) 1) 1 < 256 := numV_lt _ _
  by_cases k2 : k = 2
  · subst k2
    have HS := Aside.mk (show rdPatchR s = fixR (fixR (some s) 1) 1 from if_pos HK.out)
    have HP := Aside.mk (show rdPatch s = ⟨true, 0, (numV (fixR (some s) 1) 1), ⟨#[]⟩⟩ from if_pos HK.out)
    have hT : (⟨#[]⟩ : ByteArray).size < 4611686018427387904 := by decide
    go_wp2_with fail
    refine (rdU8_c _ _ _ hR1).mono ?_
    rintro e w2 ⟨rfl, hR2, ht2⟩
    have hO2 := ht2.keep hO1 (by omega)
    have hP2 := ht2.keep hP1 (by omega)
    have hB2 := below_touch hB1 ht2 (by intro i hi e; omega)
    have hz2 := ht2.size
    clear hO1 hP1 hR1 ht2 o0 o1 o2 o3 f0 f1 f2 f3 d0 d1 d2 d3 g0 g1 g2 g3
    obtain ⟨⟨d0, d1, d2, d3⟩, g0, g1, g2, g3⟩ := four hP2
    go_wp2_with fail
    have hP3 : ((((w2.setCell ⟨w.heap.size + 2, 0, none⟩ (.bool true)).setCell ⟨w.heap.size + 2, 1, none⟩ (.int .i64 0)).setCell ⟨w.heap.size + 2, 2, none⟩ (.int .i64 (numV (fixR (some s) 1) 1))).setCell ⟨w.heap.size + 2, 3, none⟩ (.string ⟨#[]⟩)).heap[w.heap.size + 2]? = some (.cells #[.bool true, .int .i64 0, .int .i64 (numV (fixR (some s) 1) 1), .string ⟨#[]⟩] 104 (0, 0)) := heap_set (heap_set (heap_set (heap_set hP2 0 _) 1 _) 2 _) 3 _
    have hO3 := (((hO2 |> (heap_set_ne (k := w.heap.size + 2) (by omega) 0 (.bool true)).trans) |> (heap_set_ne (k := w.heap.size + 2) (by omega) 1 (.int .i64 0)).trans) |> (heap_set_ne (k := w.heap.size + 2) (by omega) 2 (.int .i64 (numV (fixR (some s) 1) 1))).trans) |> (heap_set_ne (k := w.heap.size + 2) (by omega) 3 (.string ⟨#[]⟩)).trans
    have hR3 : RdAt ((((w2.setCell ⟨w.heap.size + 2, 0, none⟩ (.bool true)).setCell ⟨w.heap.size + 2, 1, none⟩ (.int .i64 0)).setCell ⟨w.heap.size + 2, 2, none⟩ (.int .i64 (numV (fixR (some s) 1) 1))).setCell ⟨w.heap.size + 2, 3, none⟩ (.string ⟨#[]⟩)) (w.heap.size + 1) (fixR (fixR (some s) 1) 1) := (((hR2 |> (heap_set_ne (k := w.heap.size + 2) (by omega) 0 (.bool true)).trans) |> (heap_set_ne (k := w.heap.size + 2) (by omega) 1 (.int .i64 0)).trans) |> (heap_set_ne (k := w.heap.size + 2) (by omega) 2 (.int .i64 (numV (fixR (some s) 1) 1))).trans) |> (heap_set_ne (k := w.heap.size + 2) (by omega) 3 (.string ⟨#[]⟩)).trans
    have hB3 : Below w.heap.size w ((((w2.setCell ⟨w.heap.size + 2, 0, none⟩ (.bool true)).setCell ⟨w.heap.size + 2, 1, none⟩ (.int .i64 0)).setCell ⟨w.heap.size + 2, 2, none⟩ (.int .i64 (numV (fixR (some s) 1) 1))).setCell ⟨w.heap.size + 2, 3, none⟩ (.string ⟨#[]⟩)) := below_set (below_set (below_set (below_set hB2 (by simp) _) (by simp) _) (by simp) _) (by simp) _
    have hz3 := hB3.size
    clear d0 d1 d2 d3 g0 g1 g2 g3 hO2 hP2 hR2
    refine (rdErr_c _ _ _ hR3).mono ?_
    rintro e w4 ⟨rfl, rfl⟩
    obtain ⟨⟨o0, o1, o2, o3⟩, f0, f1, f2, f3⟩ := four hO3
    obtain ⟨⟨d0, d1, d2, d3⟩, g0, g1, g2, g3⟩ := four hP3
    generalize hRR : fixR (fixR (some s) 1) 1 = r at hR3 ⊢
    have HR := Aside.mk (HS.out.trans hRR)
    clear hRR
    cases r with
    | none =>
      have HE := Aside.mk (show patchE s = 10 by unfold patchE; rw [if_neg HZ.out, HK.out, if_neg (by decide), if_pos HR.out])
      have HV := Aside.mk (show patchV s = PPatch.zero from if_neg (by rw [HE.out]; decide))
      rw [show rdErr none = 10 from rfl]
      go_wp2_with fail
      go_tidy
      refine bodyPost_ret (v := .tuple #[patchVal PPatch.zero, .int .i64 10]) (by simp [results, Tryz.results83, go_sem, o0, o1, o2, o3]; rfl) rfl ⟨by rw [HE.out, HV.out], ?_⟩
      repeat (first | (with_reducible first | exact Below.refl _ _ | assumption | refine below_drewN ?_ _ | refine Below.drew ?_ | refine below_alloc ?_ _) | (with_reducible refine below_set ?_ ?side _; (case side => first | omega | (simp; omega) | (simp only [World.size_alloc]; omega))) | (with_reducible refine below_trans ?_ (by assumption)))
    | some t =>
      rw [show rdErr (some t) = 0 from rfl]
      go_wp2_with fail
      refine (rdRest_c _ _ _ hR3).mono ?_
      rintro e w5 ⟨rfl, rfl⟩
      rw [show rdRest (some t) = t from rfl]
      by_cases ht : t.size = 0
      · have hte : (t.toList == ([] : List UInt8)) = true := by simpa [toList_nil] using ht
        have HW := Aside.mk (show wholeE (some t) = 0 from if_pos ht)
        clear ht
        by_cases hm : (PPatch.mk true 0 (numV (fixR (some s) 1) 1) ⟨#[]⟩).may = true
        · have HE := Aside.mk (show patchE s = 0 by unfold patchE; rw [if_neg HZ.out, HK.out, if_neg (by decide), HR.out, if_neg (by simp), if_pos ⟨HW.out, HP.out ▸ hm⟩])
          have HV := Aside.mk (show patchV s = rdPatch s from if_pos HE.out)
          have HM := Aside.mk hm
          clear hm
          go_wp2_with fail
          refine (patchMay_c true 0 (numV (fixR (some s) 1) 1) ⟨#[]⟩ hT _).mono ?_
          rintro e w6 ⟨rfl, hb6⟩
          rw [HM.out]
          have hP6 := below_keep hb6 hP3
          have hO6 := below_keep hb6 hO3
          clear o0 o1 o2 o3 f0 f1 f2 f3 d0 d1 d2 d3 g0 g1 g2 g3
          obtain ⟨⟨o0, o1, o2, o3⟩, f0, f1, f2, f3⟩ := four hO6
          obtain ⟨⟨d0, d1, d2, d3⟩, g0, g1, g2, g3⟩ := four hP6
          go_wp2_with fail
          go_tidy
          refine bodyPost_ret (v := .tuple #[patchVal ⟨true, 0, (numV (fixR (some s) 1) 1), ⟨#[]⟩⟩, .int .i64 0]) (by simp [results, Tryz.results83, go_sem, o0, o1, o2, o3]; rfl) rfl ⟨by rw [HE.out, HV.out, HP.out], ?_⟩
          repeat (first | (with_reducible first | exact Below.refl _ _ | assumption | refine below_drewN ?_ _ | refine Below.drew ?_ | refine below_alloc ?_ _) | (with_reducible refine below_set ?_ ?side _; (case side => first | omega | (simp; omega) | (simp only [World.size_alloc]; omega))) | (with_reducible refine below_trans ?_ (by assumption)))
        · have HE := Aside.mk (show patchE s = 4 by unfold patchE; rw [if_neg HZ.out, HK.out, if_neg (by decide), HR.out, if_neg (by simp), if_neg (fun h => hm (HP.out ▸ h.2))])
          have HV := Aside.mk (show patchV s = PPatch.zero from if_neg (by rw [HE.out]; decide))
          have HM := Aside.mk (Bool.eq_false_iff.2 hm)
          clear hm
          go_wp2_with fail
          refine (patchMay_c true 0 (numV (fixR (some s) 1) 1) ⟨#[]⟩ hT _).mono ?_
          rintro e w6 ⟨rfl, hb6⟩
          rw [HM.out]
          have hO6 := below_keep hb6 hO3
          clear o0 o1 o2 o3 f0 f1 f2 f3 d0 d1 d2 d3 g0 g1 g2 g3
          obtain ⟨⟨o0, o1, o2, o3⟩, f0, f1, f2, f3⟩ := four hO6
          go_wp2_with fail
          go_tidy
          refine bodyPost_ret (v := .tuple #[patchVal PPatch.zero, .int .i64 4]) (by simp [results, Tryz.results83, go_sem, o0, o1, o2, o3]; rfl) rfl ⟨by rw [HE.out, HV.out], ?_⟩
          repeat (first | (with_reducible first | exact Below.refl _ _ | assumption | refine below_drewN ?_ _ | refine Below.drew ?_ | refine below_alloc ?_ _) | (with_reducible refine below_set ?_ ?side _; (case side => first | omega | (simp; omega) | (simp only [World.size_alloc]; omega))) | (with_reducible refine below_trans ?_ (by assumption)))
      · have hte : (t.toList == ([] : List UInt8)) = false := by simpa [toList_nil] using ht
        have HE := Aside.mk (show patchE s = 4 by unfold patchE; rw [if_neg HZ.out, HK.out, if_neg (by decide), HR.out, if_neg (by simp), if_neg (fun h => absurd h.1 (by simp [wholeE, ht]))])
        have HV := Aside.mk (show patchV s = PPatch.zero from if_neg (by rw [HE.out]; decide))
        clear ht
        go_wp2_with fail
        go_tidy
        refine bodyPost_ret (v := .tuple #[patchVal PPatch.zero, .int .i64 4]) (by simp [results, Tryz.results83, go_sem, o0, o1, o2, o3]; rfl) rfl ⟨by rw [HE.out, HV.out], ?_⟩
        repeat (first | (with_reducible first | exact Below.refl _ _ | assumption | refine below_drewN ?_ _ | refine Below.drew ?_ | refine below_alloc ?_ _) | (with_reducible refine below_set ?_ ?side _; (case side => first | omega | (simp; omega) | (simp only [World.size_alloc]; omega))) | (with_reducible refine below_trans ?_ (by assumption)))
  by_cases k1 : k = 1
  · subst k1
    have HS := Aside.mk (show rdPatchR s = textR (fixR (fixR (some s) 1) 1) from if_neg (by rw [HK.out]; decide))
    have HP := Aside.mk (show rdPatch s = ⟨false, (numV (fixR (some s) 1) 1), 0, (textV (fixR (fixR (some s) 1) 1))⟩ from if_neg (by rw [HK.out]; decide))
    have hT : ((textV (fixR (fixR (some s) 1) 1)) : ByteArray).size < 4611686018427387904 := by
      have h1 := fixV_size (fixR (fixR (fixR (some s) 1) 1) 2) (numV (fixR (fixR (some s) 1) 1) 2)
      have h2 : numV (fixR (fixR (some s) 1) 1) 2 < 65536 := numV_lt _ _
      show (fixV _ _).size < _
      omega
    go_wp2_with fail
    refine (rdU8_c _ _ _ hR1).mono ?_
    rintro e w2 ⟨rfl, hR2, ht2⟩
    have hO2 := ht2.keep hO1 (by omega)
    have hP2 := ht2.keep hP1 (by omega)
    have hB2 := below_touch hB1 ht2 (by intro i hi e; omega)
    have hz2 := ht2.size
    clear hO1 hP1 hR1 ht2 o0 o1 o2 o3 f0 f1 f2 f3 d0 d1 d2 d3 g0 g1 g2 g3
    obtain ⟨⟨d0, d1, d2, d3⟩, g0, g1, g2, g3⟩ := four hP2
    go_wp2_with fail
    have hP3 : (w2.setCell ⟨w.heap.size + 2, 1, none⟩ (.int .i64 (numV (fixR (some s) 1) 1))).heap[w.heap.size + 2]? = some (.cells #[.bool false, .int .i64 (numV (fixR (some s) 1) 1), .int .i64 0, .string ⟨#[]⟩] 104 (0, 0)) := heap_set hP2 1 _
    have hO3 := hO2 |> (heap_set_ne (k := w.heap.size + 2) (by omega) 1 (.int .i64 (numV (fixR (some s) 1) 1))).trans
    have hR3 : RdAt (w2.setCell ⟨w.heap.size + 2, 1, none⟩ (.int .i64 (numV (fixR (some s) 1) 1))) (w.heap.size + 1) (fixR (fixR (some s) 1) 1) := hR2 |> (heap_set_ne (k := w.heap.size + 2) (by omega) 1 (.int .i64 (numV (fixR (some s) 1) 1))).trans
    have hB3 : Below w.heap.size w (w2.setCell ⟨w.heap.size + 2, 1, none⟩ (.int .i64 (numV (fixR (some s) 1) 1))) := below_set hB2 (by simp) _
    clear d0 d1 d2 d3 g0 g1 g2 g3 hO2 hP2 hR2
    refine (rdText_c _ _ _ hR3).mono ?_
    rintro e w3 ⟨rfl, hR2, ht3⟩
    have hO2 := ht3.keep hO3 (by omega)
    have hP2 := ht3.keep hP3 (by omega)
    have hB2 := below_touch hB3 ht3 (by intro i hi e; omega)
    have hz3 := ht3.size
    simp at hz3
    clear hO3 hP3 hR3 ht3
    obtain ⟨⟨d0, d1, d2, d3⟩, g0, g1, g2, g3⟩ := four hP2
    go_wp2_with fail
    have hP3 : (w3.setCell ⟨w.heap.size + 2, 3, none⟩ (.string (textV (fixR (fixR (some s) 1) 1)))).heap[w.heap.size + 2]? = some (.cells #[.bool false, .int .i64 (numV (fixR (some s) 1) 1), .int .i64 0, .string (textV (fixR (fixR (some s) 1) 1))] 104 (0, 0)) := heap_set hP2 3 _
    have hO3 := hO2 |> (heap_set_ne (k := w.heap.size + 2) (by omega) 3 (.string (textV (fixR (fixR (some s) 1) 1)))).trans
    have hR3 : RdAt (w3.setCell ⟨w.heap.size + 2, 3, none⟩ (.string (textV (fixR (fixR (some s) 1) 1)))) (w.heap.size + 1) (textR (fixR (fixR (some s) 1) 1)) := hR2 |> (heap_set_ne (k := w.heap.size + 2) (by omega) 3 (.string (textV (fixR (fixR (some s) 1) 1)))).trans
    have hB3 : Below w.heap.size w (w3.setCell ⟨w.heap.size + 2, 3, none⟩ (.string (textV (fixR (fixR (some s) 1) 1)))) := below_set hB2 (by simp) _
    clear d0 d1 d2 d3 g0 g1 g2 g3 hO2 hP2 hR2
    refine (rdErr_c _ _ _ hR3).mono ?_
    rintro e w4 ⟨rfl, rfl⟩
    obtain ⟨⟨o0, o1, o2, o3⟩, f0, f1, f2, f3⟩ := four hO3
    obtain ⟨⟨d0, d1, d2, d3⟩, g0, g1, g2, g3⟩ := four hP3
    generalize hRR : textR (fixR (fixR (some s) 1) 1) = r at hR3 ⊢
    have HR := Aside.mk (HS.out.trans hRR)
    clear hRR
    cases r with
    | none =>
      have HE := Aside.mk (show patchE s = 10 by unfold patchE; rw [if_neg HZ.out, HK.out, if_neg (by decide), if_pos HR.out])
      have HV := Aside.mk (show patchV s = PPatch.zero from if_neg (by rw [HE.out]; decide))
      rw [show rdErr none = 10 from rfl]
      go_wp2_with fail
      go_tidy
      refine bodyPost_ret (v := .tuple #[patchVal PPatch.zero, .int .i64 10]) (by simp [results, Tryz.results83, go_sem, o0, o1, o2, o3]; rfl) rfl ⟨by rw [HE.out, HV.out], ?_⟩
      repeat (first | (with_reducible first | exact Below.refl _ _ | assumption | refine below_drewN ?_ _ | refine Below.drew ?_ | refine below_alloc ?_ _) | (with_reducible refine below_set ?_ ?side _; (case side => first | omega | (simp; omega) | (simp only [World.size_alloc]; omega))) | (with_reducible refine below_trans ?_ (by assumption)))
    | some t =>
      rw [show rdErr (some t) = 0 from rfl]
      go_wp2_with fail
      refine (rdRest_c _ _ _ hR3).mono ?_
      rintro e w5 ⟨rfl, rfl⟩
      rw [show rdRest (some t) = t from rfl]
      by_cases ht : t.size = 0
      · have hte : (t.toList == ([] : List UInt8)) = true := by simpa [toList_nil] using ht
        have HW := Aside.mk (show wholeE (some t) = 0 from if_pos ht)
        clear ht
        by_cases hm : (PPatch.mk false (numV (fixR (some s) 1) 1) 0 (textV (fixR (fixR (some s) 1) 1))).may = true
        · have HE := Aside.mk (show patchE s = 0 by unfold patchE; rw [if_neg HZ.out, HK.out, if_neg (by decide), HR.out, if_neg (by simp), if_pos ⟨HW.out, HP.out ▸ hm⟩])
          have HV := Aside.mk (show patchV s = rdPatch s from if_pos HE.out)
          have HM := Aside.mk hm
          clear hm
          go_wp2_with fail
          refine (patchMay_c false (numV (fixR (some s) 1) 1) 0 (textV (fixR (fixR (some s) 1) 1)) hT _).mono ?_
          rintro e w6 ⟨rfl, hb6⟩
          rw [HM.out]
          have hP6 := below_keep hb6 hP3
          have hO6 := below_keep hb6 hO3
          clear o0 o1 o2 o3 f0 f1 f2 f3 d0 d1 d2 d3 g0 g1 g2 g3
          obtain ⟨⟨o0, o1, o2, o3⟩, f0, f1, f2, f3⟩ := four hO6
          obtain ⟨⟨d0, d1, d2, d3⟩, g0, g1, g2, g3⟩ := four hP6
          go_wp2_with fail
          go_tidy
          refine bodyPost_ret (v := .tuple #[patchVal ⟨false, (numV (fixR (some s) 1) 1), 0, (textV (fixR (fixR (some s) 1) 1))⟩, .int .i64 0]) (by simp [results, Tryz.results83, go_sem, o0, o1, o2, o3]; rfl) rfl ⟨by rw [HE.out, HV.out, HP.out], ?_⟩
          repeat (first | (with_reducible first | exact Below.refl _ _ | assumption | refine below_drewN ?_ _ | refine Below.drew ?_ | refine below_alloc ?_ _) | (with_reducible refine below_set ?_ ?side _; (case side => first | omega | (simp; omega) | (simp only [World.size_alloc]; omega))) | (with_reducible refine below_trans ?_ (by assumption)))
        · have HE := Aside.mk (show patchE s = 4 by unfold patchE; rw [if_neg HZ.out, HK.out, if_neg (by decide), HR.out, if_neg (by simp), if_neg (fun h => hm (HP.out ▸ h.2))])
          have HV := Aside.mk (show patchV s = PPatch.zero from if_neg (by rw [HE.out]; decide))
          have HM := Aside.mk (Bool.eq_false_iff.2 hm)
          clear hm
          go_wp2_with fail
          refine (patchMay_c false (numV (fixR (some s) 1) 1) 0 (textV (fixR (fixR (some s) 1) 1)) hT _).mono ?_
          rintro e w6 ⟨rfl, hb6⟩
          rw [HM.out]
          have hO6 := below_keep hb6 hO3
          clear o0 o1 o2 o3 f0 f1 f2 f3 d0 d1 d2 d3 g0 g1 g2 g3
          obtain ⟨⟨o0, o1, o2, o3⟩, f0, f1, f2, f3⟩ := four hO6
          go_wp2_with fail
          go_tidy
          refine bodyPost_ret (v := .tuple #[patchVal PPatch.zero, .int .i64 4]) (by simp [results, Tryz.results83, go_sem, o0, o1, o2, o3]; rfl) rfl ⟨by rw [HE.out, HV.out], ?_⟩
          repeat (first | (with_reducible first | exact Below.refl _ _ | assumption | refine below_drewN ?_ _ | refine Below.drew ?_ | refine below_alloc ?_ _) | (with_reducible refine below_set ?_ ?side _; (case side => first | omega | (simp; omega) | (simp only [World.size_alloc]; omega))) | (with_reducible refine below_trans ?_ (by assumption)))
      · have hte : (t.toList == ([] : List UInt8)) = false := by simpa [toList_nil] using ht
        have HE := Aside.mk (show patchE s = 4 by unfold patchE; rw [if_neg HZ.out, HK.out, if_neg (by decide), HR.out, if_neg (by simp), if_neg (fun h => absurd h.1 (by simp [wholeE, ht]))])
        have HV := Aside.mk (show patchV s = PPatch.zero from if_neg (by rw [HE.out]; decide))
        clear ht
        go_wp2_with fail
        go_tidy
        refine bodyPost_ret (v := .tuple #[patchVal PPatch.zero, .int .i64 4]) (by simp [results, Tryz.results83, go_sem, o0, o1, o2, o3]; rfl) rfl ⟨by rw [HE.out, HV.out], ?_⟩
        repeat (first | (with_reducible first | exact Below.refl _ _ | assumption | refine below_drewN ?_ _ | refine Below.drew ?_ | refine below_alloc ?_ _) | (with_reducible refine below_set ?_ ?side _; (case side => first | omega | (simp; omega) | (simp only [World.size_alloc]; omega))) | (with_reducible refine below_trans ?_ (by assumption)))
  have e1 : ((k : Int) == 1) = false := beq_eq_false_iff_ne.2 (by omega)
  have e2 : ((k : Int) == 2) = false := beq_eq_false_iff_ne.2 (by omega)
  have HE := Aside.mk (show patchE s = 4 by unfold patchE; rw [if_neg HZ.out, HK.out, if_pos ⟨k1, k2⟩])
  have HV := Aside.mk (show patchV s = PPatch.zero from if_neg (by rw [HE.out]; decide))
  clear k1 k2
  go_wp2_with fail
  go_tidy
  refine bodyPost_ret (v := .tuple #[patchVal PPatch.zero, .int .i64 4]) (by simp [results, Tryz.results83, go_sem, o0, o1, o2, o3]; rfl) rfl ⟨by rw [HE.out, HV.out], ?_⟩
  repeat (first | (with_reducible first | exact Below.refl _ _ | assumption | refine below_drewN ?_ _ | refine Below.drew ?_ | refine below_alloc ?_ _) | (with_reducible refine below_set ?_ ?side _; (case side => first | omega | (simp; omega) | (simp only [World.size_alloc]; omega))) | (with_reducible refine below_trans ?_ (by assumption)))
end Go.Proofs.YtmggpfngbkbkmaaGreatDoor
/- What package block does (4): Apply. -/
namespace Go.Proofs.YtmggpfngbkbkmaaGreatDoor
open Go.RowKit
set_option linter.unusedVariables false
set_option linter.unusedSimpArgs false

theorem at_i (s : ByteArray) (hs : s.size < 4611686018427387904) (f n : Int) (hf0 : 0 ≤ f) (hf : f < 4611686018427387904) (hn0 : 0 ≤ n) (hn : n ≤ 64) (w : World) :
    Calls Tryz.prog 115 #[.string s, .int .i64 f, .int .i64 n] w (Ret w (.string ⟨(atL s.data.toList f.toNat n.toNat).toArray⟩)) := by
  have h := at_c s hs f.toNat n.toNat (by omega) (by omega) w
  rwa [Int.toNat_of_nonneg hf0, Int.toNat_of_nonneg hn0] at h
def cut64 (v : ByteArray) : ByteArray := v.extract 0 (min (v.size : Int) 64).toNat
theorem cut64_list (v : ByteArray) : (cut64 v).data.toList = v.data.toList.take 64 := by
  simp only [cut64, extract_take]
  by_cases h : v.size ≤ 64
  · rw [show (min (v.size : Int) 64).toNat = v.size by omega, List.take_of_length_le (by simp), List.take_of_length_le (by simpa using h)]
  · rw [show (min (v.size : Int) 64).toNat = 64 by omega]
theorem cut64_size (v : ByteArray) : (cut64 v).size ≤ 64 := by
  have : (cut64 v).data.toList.length ≤ 64 := by rw [cut64_list]; simp; omega
  simpa using this
theorem tog1 (bk : Nat) (V : ByteArray) {T : TypeId} {fr : Nat × Nat} (w : World) (h : w.heap[bk]? = some (.cells #[.string V] T fr)) (hV : V.size ≤ 64) :
    Calls Tryz.prog 114 #[.slice (some ⟨bk, 0, none⟩) 1 1] w (Ret w (.string ⟨(trimL V.data.toList).toArray⟩)) := by
  have := together_c bk 1 [V] w (fun j x hj => by
    cases j with
    | zero => simp at hj; subst hj; rw [cell_of h]; rfl
    | succ j => simp at hj) (heap_lt h) (by simp) (Nat.le_refl _) (by simp; omega)
  simpa using this
theorem tog3 (bk : Nat) (V X Y : ByteArray) {T : TypeId} {fr : Nat × Nat} (w : World) (h : w.heap[bk]? = some (.cells #[.string V, .string X, .string Y] T fr)) (hV : V.size ≤ 64) (hX : X.size ≤ 64) (hY : Y.size ≤ 64) :
    Calls Tryz.prog 114 #[.slice (some ⟨bk, 0, none⟩) 3 3] w (Ret w (.string ⟨(trimL (V.data.toList ++ (X.data.toList ++ Y.data.toList))).toArray⟩)) := by
  have := together_c bk 3 [V, X, Y] w (fun j x hj => by
    match j, hj with
    | 0, hj => simp at hj; subst hj; rw [cell_of h]; rfl
    | 1, hj => simp at hj; subst hj; rw [cell_of h]; rfl
    | 2, hj => simp at hj; subst hj; rw [cell_of h]; rfl
    | j + 3, hj => simp at hj) (heap_lt h) (by simp) (Nat.le_refl _) (by simp; omega)
  simpa using this
theorem held2 {w w1 w2 : World} {k i j : Nat} {x y : Value} (h : w1.cell? ⟨k, i, none⟩ = some x ∧ w1.cell? ⟨k, j, none⟩ = some y ∧ Below k w w1 ∧ k < w1.heap.size) (hb : Below w1.heap.size w1 w2) :
    w2.cell? ⟨k, i, none⟩ = some x ∧ w2.cell? ⟨k, j, none⟩ = some y ∧ Below k w w2 ∧ k < w2.heap.size :=
  ⟨(hb.cell (p := ⟨k, i, none⟩) h.2.2.2).trans h.1, (hb.cell (p := ⟨k, j, none⟩) h.2.2.2).trans h.2.1, h.2.2.1.trans (hb.mono (Nat.le_of_lt h.2.2.2)), Nat.lt_of_lt_of_le h.2.2.2 hb.size⟩
theorem at_size (l : List UInt8) (f n : Nat) : (ByteArray.mk (atL l f n).toArray).size = n := by
  show (atL l f n).toArray.size = n
  simp [atL]
set_option maxHeartbeats 2000000 in
set_option maxRecDepth 100000 in
theorem blkApply_c (v : ByteArray) (hv : v.size < 4611686018427387904) (p : PPatch) (hs : p.s.size < 4611686018427387904) (w : World) :
    Calls Tryz.prog 84 #[.string v, patchVal p] w (Ret w (.string (blkApply v p))) := by
  obtain ⟨c, a, n, s⟩ := p
  simp only [patchVal] at hs ⊢
  have hB := heap_new w (.cells #[.bool c, .int .i64 a, .int .i64 n, .string s] 104)
  go_enter Tryz.func84, Tryz.ntmps84
  go_wp2_with fail
  refine (patchMay_c c a n s hs _).mono ?_
  rintro e w1 ⟨rfl, hb1⟩
  have hV := cut64_size v
  have HC := Aside.mk (cut64_list v)
  change (v.extract 0 (min (v.size : Int) 64).toNat).size ≤ 64 at hV
  change Aside ((v.extract 0 (min (v.size : Int) 64).toNat).data.toList = _) at HC
  generalize v.extract 0 (min (v.size : Int) 64).toNat = V at hV HC ⊢
  have hB1 := below_keep hb1 hB
  have hz1 := hb1.size
  simp at hz1
  obtain ⟨⟨o0, o1, o2, o3⟩, -⟩ := four hB1
  by_cases hm : (PPatch.mk c a n s).may = true
  · have HM := Aside.mk hm
    have hr := hm
    rw [HM.out]
    cases c
    · simp [PPatch.may] at hr
      obtain ⟨⟨⟨⟨h1, h2⟩, h3⟩, h4⟩, h5⟩ := hr
      have HF' : blkApply v ⟨false, a, n, s⟩ = ⟨(trimL (atL V.data.toList 0 a.toNat ++ (s.data.toList ++ atL V.data.toList (a + s.size).toNat (64 - (a + s.size)).toNat))).toArray⟩ := by
        unfold blkApply
        rw [if_neg (by rw [HM.out]; decide), if_neg (by simp), HC.out]
        rw [show (a + s.size).toNat = a.toNat + s.size by omega, show (64 - (a + (s.size : Int))).toNat = 64 - (a.toNat + s.size) by omega]
      have HF := Aside.mk HF'
      clear HF'
      have hwr : IntKind.i64.wrap (64 - (a + (s.size : Int))) = 64 - (a + (s.size : Int)) := IntWalk.i64_in _ (by omega)
      clear hm h1
      go_wp2_with fail
      go_region_held3 (fun w' => w'.cell? ⟨w.heap.size, 1, none⟩ = some (.int .i64 a) ∧ w'.cell? ⟨w.heap.size, 3, none⟩ = some (.string s) ∧ Below w.heap.size w w' ∧ w.heap.size < w'.heap.size) (first | exact ⟨o1, o3, (by repeat (first | (with_reducible first | exact Below.refl _ _ | assumption | refine below_drewN ?_ _ | refine Below.drew ?_ | refine below_alloc ?_ _) | (with_reducible refine below_set ?_ ?side _; (case side => first | omega | (simp; omega) | (simp only [World.size_alloc]; omega))) | (with_reducible refine below_trans ?_ (by assumption)))), by show w.heap.size < w1.heap.size; omega⟩ | assumption | exact held2 (by assumption) (below_alloc (Below.refl _ _) _)) (first | (go_at_call 115; (try rw [hwr]); refine (at_i V (by omega) _ _ (by omega) (by omega) (by omega) (by omega) _).mono ?_; rintro e w2 ⟨rfl, hb2⟩; have hh := held2 (by assumption) hb2) | (go_at_call 114; refine (tog3 _ _ _ _ _ (heap_new _ _) (by rw [at_size]; omega) (by omega) (by rw [at_size]; omega)).mono ?_; rintro e w2 ⟨rfl, hb2⟩; have hh := held2 (by assumption) hb2))
      all_goals
        go_wp2_with fail
        go_ret
        refine ⟨by rw [HF.out]; rfl, ?_⟩
        exact hh.2.2.1
    · simp [PPatch.may] at hr
      obtain ⟨⟨⟨h1, h2⟩, h3⟩, h4⟩ := hr
      have HF' : blkApply v ⟨true, a, n, s⟩ = ⟨(trimL (atL V.data.toList 0 n.toNat)).toArray⟩ := by
        unfold blkApply
        rw [if_neg (by rw [HM.out]; decide), if_pos rfl, HC.out]
      have HF := Aside.mk HF'
      clear HF'
      clear hm h4
      go_wp2_with fail
      refine (at_i V (by omega) 0 n (by omega) (by omega) h1 (by omega) _).mono ?_
      rintro e w2 ⟨rfl, hb2⟩
      go_wp2_with fail
      refine (tog1 w2.heap.size _ _ (heap_new w2 _) (by rw [at_size]; omega)).mono ?_
      rintro e w3 ⟨rfl, hb3⟩
      go_wp2_with fail
      go_ret
      refine ⟨by rw [HF.out]; rfl, ?_⟩
      repeat (first | (with_reducible first | exact Below.refl _ _ | assumption | refine below_drewN ?_ _ | refine Below.drew ?_ | refine below_alloc ?_ _) | (with_reducible refine below_set ?_ ?side _; (case side => first | omega | (simp; omega) | (simp only [World.size_alloc]; omega))) | (with_reducible refine below_trans ?_ (by assumption)))
  · have HF' : blkApply v ⟨c, a, n, s⟩ = ⟨(trimL V.data.toList).toArray⟩ := by
      unfold blkApply; rw [if_pos (Bool.eq_false_iff.2 hm), HC.out]
    have HF := Aside.mk HF'
    clear HF'
    have HM := Aside.mk (Bool.eq_false_iff.2 hm)
    clear hm
    rw [HM.out]
    go_wp2_with fail
    refine (tog1 w1.heap.size V _ (heap_new w1 _) hV).mono ?_
    rintro e w2 ⟨rfl, hb2⟩
    go_wp2_with fail
    go_ret
    refine ⟨by rw [HF.out]; rfl, ?_⟩
    repeat (first | (with_reducible first | exact Below.refl _ _ | assumption | refine below_drewN ?_ _ | refine Below.drew ?_ | refine below_alloc ?_ _) | (with_reducible refine below_set ?_ ?side _; (case side => first | omega | (simp; omega) | (simp only [World.size_alloc]; omega))) | (with_reducible refine below_trans ?_ (by assumption)))
end Go.Proofs.YtmggpfngbkbkmaaGreatDoor
/- What package message does (1): key, the rules. -/
namespace Go.Proofs.YtmggpfngbkbkmaaGreatDoor
open Go.RowKit
set_option linter.unusedVariables false
set_option linter.unusedSimpArgs false

theorem key_c (s : ByteArray) (hs : s.size < 4611686018427387904) (w : World) :
    Calls Tryz.prog 97 #[.string s] w fun e w' => e = .returned (.bool (keyOk s)) ∧ w = w' := by
  by_cases h0 : s.size = 0
  · have HE := Aside.mk (show keyOk s = false by simp [keyOk, h0])
    have hte : (s.toList == ([] : List UInt8)) = true := by simpa [toList_nil] using h0
    clear h0
    go_enter Tryz.func97, Tryz.ntmps97
    go_wp2
    go_ret
    exact ⟨by rw [HE.out]; rfl, rfl⟩
  · have hte : (s.toList == ([] : List UInt8)) = false := by simpa [toList_nil] using h0
    by_cases h1 : s.size ≤ 108
    · have HE := Aside.mk (show keyOk s = true by simp only [keyOk, decide_eq_true h1, decide_eq_true h0]; rfl)
      clear h0
      go_enter Tryz.func97, Tryz.ntmps97
      go_wp2
      all_goals (go_ret; go_tidy)
      all_goals (refine ⟨ret_bool ?_, rfl⟩; rw [HE.out]; first | rfl | (simp; omega) | (simp_all; done) | (simp_all; omega))
    · have HE := Aside.mk (show keyOk s = false by simp only [keyOk, decide_eq_false h1, Bool.and_false])
      clear h0
      go_enter Tryz.func97, Tryz.ntmps97
      go_wp2
      all_goals (go_ret; go_tidy)
      all_goals (refine ⟨ret_bool ?_, rfl⟩; rw [HE.out]; first | rfl | (simp; omega) | (simp_all; done) | (simp_all; omega))
set_option maxRecDepth 100000 in
theorem rule1_c (s : ByteArray) (hs : s.size < 4611686018427387904) (w : World) :
    Calls Tryz.prog 128 #[.string s] w (Ret w (.bool (metaE s == 0))) := by
  go_enter Tryz.func128, Tryz.ntmps128
  go_wp2_with fail
  refine (metaTake_c s _).mono ?_
  rintro e w1 ⟨rfl, hb⟩
  try unfold patchVal
  go_wp2_with fail
  go_ret
  exact ⟨rfl, (by repeat (first | (with_reducible first | exact Below.refl _ _ | assumption | refine below_drewN ?_ _ | refine Below.drew ?_ | refine below_alloc ?_ _) | (with_reducible refine below_set ?_ ?side _; (case side => first | omega | (simp; omega) | (simp only [World.size_alloc]; omega))) | (with_reducible refine below_trans ?_ (by assumption))))⟩
set_option maxRecDepth 100000 in
theorem rule2_c (s : ByteArray) (hs : s.size < 4611686018427387904) (w : World) :
    Calls Tryz.prog 129 #[.string s] w (Ret w (.bool (changeE s == 0))) := by
  go_enter Tryz.func129, Tryz.ntmps129
  go_wp2_with fail
  refine (takeChange_c s _).mono ?_
  rintro e w1 ⟨rfl, hb⟩
  try unfold patchVal
  go_wp2_with fail
  go_ret
  exact ⟨rfl, (by repeat (first | (with_reducible first | exact Below.refl _ _ | assumption | refine below_drewN ?_ _ | refine Below.drew ?_ | refine below_alloc ?_ _) | (with_reducible refine below_set ?_ ?side _; (case side => first | omega | (simp; omega) | (simp only [World.size_alloc]; omega))) | (with_reducible refine below_trans ?_ (by assumption))))⟩
set_option maxRecDepth 100000 in
theorem rule4_c (s : ByteArray) (hs : s.size < 4611686018427387904) (w : World) :
    Calls Tryz.prog 132 #[.string s] w (Ret w (.bool (patchE s == 0))) := by
  go_enter Tryz.func132, Tryz.ntmps132
  go_wp2_with fail
  refine (blkTake_c s hs _).mono ?_
  rintro e w1 ⟨rfl, hb⟩
  try unfold patchVal
  go_wp2_with fail
  go_ret
  exact ⟨rfl, (by repeat (first | (with_reducible first | exact Below.refl _ _ | assumption | refine below_drewN ?_ _ | refine Below.drew ?_ | refine below_alloc ?_ _) | (with_reducible refine below_set ?_ ?side _; (case side => first | omega | (simp; omega) | (simp only [World.size_alloc]; omega))) | (with_reducible refine below_trans ?_ (by assumption))))⟩
set_option maxRecDepth 100000 in
theorem rule3_c (s : ByteArray) (hs : s.size < 4611686018427387904) (w : World) :
    Calls Tryz.prog 130 #[.string s] w (Ret w (.bool (blkCheck s == 0))) := by
  go_enter Tryz.func130, Tryz.ntmps130
  go_wp2_with fail
  refine (blkCheck_c s hs _).mono ?_
  rintro e w1 ⟨rfl, rfl⟩
  go_wp2_with fail
  go_ret
  exact ⟨rfl, (by repeat (first | (with_reducible first | exact Below.refl _ _ | assumption | refine below_drewN ?_ _ | refine Below.drew ?_ | refine below_alloc ?_ _) | (with_reducible refine below_set ?_ ?side _; (case side => first | omega | (simp; omega) | (simp only [World.size_alloc]; omega))) | (with_reducible refine below_trans ?_ (by assumption))))⟩
theorem rule5_c (s : ByteArray) (hs : s.size < 4611686018427387904) (w : World) :
    Calls Tryz.prog 133 #[.string s] w (Ret w (.bool (decide (s.size ≤ 64)))) := by
  go_enter Tryz.func133, Tryz.ntmps133
  go_wp2_with fail
  all_goals (go_ret; go_tidy)
  all_goals (refine ⟨ret_bool ?_, (by repeat (first | (with_reducible first | exact Below.refl _ _ | assumption | refine below_drewN ?_ _ | refine Below.drew ?_ | refine below_alloc ?_ _) | (with_reducible refine below_set ?_ ?side _; (case side => first | omega | (simp; omega) | (simp only [World.size_alloc]; omega))) | (with_reducible refine below_trans ?_ (by assumption))))⟩; first | rfl | (simp; done) | (simp; omega) | (simp_all; omega))
theorem rule6_c (s : ByteArray) (hs : s.size < 4611686018427387904) (w : World) :
    Calls Tryz.prog 134 #[.string s] w (Ret w (.bool false)) := by
  go_enter Tryz.func134, Tryz.ntmps134
  go_wp2_with fail
  go_ret
  exact ⟨rfl, (by repeat (first | (with_reducible first | exact Below.refl _ _ | assumption | refine below_drewN ?_ _ | refine Below.drew ?_ | refine below_alloc ?_ _) | (with_reducible refine below_set ?_ ?side _; (case side => first | omega | (simp; omega) | (simp only [World.size_alloc]; omega))) | (with_reducible refine below_trans ?_ (by assumption))))⟩
end Go.Proofs.YtmggpfngbkbkmaaGreatDoor
/- What the references' rillbedref03.Number and rillbedref07.number do. -/
namespace Go.Proofs.YtmggpfngbkbkmaaGreatDoor
open Go.RowKit
set_option linter.unusedVariables false
set_option linter.unusedSimpArgs false

theorem numBytes_cons (n k : Nat) : numBytes n (k + 1) = UInt8.ofNat (n / 256 ^ k) :: numBytes n k := by
  unfold numBytes
  rw [List.range_succ_eq_map, List.map_cons, List.map_map]
  congr 1
  · simp only [Nat.add_sub_cancel, Nat.sub_zero]; rw [show (256 : Nat) = 2 ^ 8 from rfl, ← Nat.pow_mul]
  · apply List.map_congr_left
    intro i hi
    simp only [Function.comp, Nat.succ_eq_add_one]
    rw [show k + 1 - 1 - (i + 1) = k - 1 - i by omega]
/-- The row's cells when k of W bytes have been laid, from the end. -/
def numCells (n W k : Nat) : Array Value := (List.replicate (W - k) (Value.int .u8 0) ++ byteVs (numBytes n k)).toArray
theorem numCells_zero (n W : Nat) : numCells n W 0 = (List.replicate W (Value.int .u8 0)).toArray := by simp [numCells, numBytes, byteVs]
theorem numCells_step (n W k : Nat) (h : k < W) (v : Value) (hv : v = .int .u8 ((UInt8.ofNat (n / 256 ^ k)).toNat : Int)) : (numCells n W k).setIfInBounds (W - 1 - k) v = numCells n W (k + 1) := by
  obtain ⟨j, rfl⟩ : ∃ j, W = j + 1 + k := ⟨W - k - 1, by omega⟩
  subst hv
  simp only [numCells, List.setIfInBounds_toArray, numBytes_cons, show j + 1 + k - k = j + 1 by omega, show j + 1 + k - (k + 1) = j by omega, show j + 1 + k - 1 - k = j by omega]
  congr 1
  rw [List.replicate_succ', List.append_assoc, List.set_append_right _ _ (by simp)]
  simp [byteVs]
theorem numCells_full (n W : Nat) : numCells n W W = (byteVs (numBytes n W)).toArray := by simp [numCells]
theorem own_of {w : World} {k : Nat} {l : List UInt8} (h : w.heap[k]? = some (.cells (byteVs l).toArray 5 (0, 0))) (hl : l.length ≤ 1000000) : w.ownsRow 0 5 1 (.slice (some ⟨k, 0, none⟩) l.length l.length) l.length (byteVs l) := by
  refine ⟨by simp [byteVs], .inr ⟨k, l.length, (byteVs l).toArray, rfl, Nat.zero_le _, h, Nat.le_refl _, ?_, by simp [byteVs], ?_⟩⟩
  · unfold maxLen; omega
  · rw [List.take_of_length_le (by simp [byteVs])]
theorem byte_rem (n k : Nat) : (((n / 256 ^ k : Nat) : Int) % 256) = ((UInt8.ofNat (n / 256 ^ k)).toNat : Int) := by simp
theorem numCells_get (n W k : Nat) (h : k < W) : (numCells n W k)[W - 1 - k]? = some (.int .u8 0) := by
  simp only [numCells, List.getElem?_toArray]
  rw [List.getElem?_append_left (by simp; omega), List.getElem?_replicate, if_pos (by omega)]
theorem byte_quo (n k : Nat) : (((n / 256 ^ k : Nat) : Int) / 256) = ((n / 256 ^ (k + 1) : Nat) : Int) := by
  rw [Nat.pow_succ, ← Nat.div_div_eq_div_mul]; rfl
theorem row_heap {w : World} {b e g n : Nat} {xs : List Value} (h : w.ownsRow b e 1 (.slice (some ⟨g, 0, none⟩) n n) n xs) (hn : 0 < n) : w.heap[g]? = some (.cells xs.toArray e (0, 0)) := by
  rcases h.2 with ⟨h1, _⟩ | ⟨g', cap, cur, h1, _, h2, _, _, h5, h6⟩
  · simp at h1
  · simp at h1
    obtain ⟨rfl, rfl⟩ := h1
    rw [h2, ← h6, List.take_of_length_le (by simp [h5])]
set_option maxRecDepth 100000 in
theorem number4_c (n : Int) (h0 : 0 ≤ n) (hn : n < 18446744073709551616) (w : World) :
    Calls Tryz.prog 95 #[.int .u64 n, .int .i64 4] w (Ret w (.string ⟨(numBytes n.toNat 4).toArray⟩)) := by
  obtain ⟨i0, hi, hz0, hz1, hz2⟩ := info_parts el_u8.1
  have hc := numCells_zero n.toNat 4
  go_enter Tryz.func95, Tryz.ntmps95
  go_wp2_with (at_make; refine wpList_make_full _ rfl (.tmp 7) (.tmp 7) 122 rfl w.heap.size 5 i0 (.int .u8 0) 1 Tryz.underlying122 hi hz0 hz1 .i64 .i64 4 4 4 rfl rfl rfl rfl (by omega) (by unfold maxLen; omega) (Nat.le_refl _) ?_; intro w1 hown hgrow)
  have hh : w1.heap[w.heap.size]? = some (.cells (List.replicate 4 (Value.int .u8 0)).toArray 5 (0, 0)) := (row_heap (n := 4) hown (by decide)).trans (by simp [madeCells, Value.cells, Nat.mod_one, List.range_succ])
  have hb : Below w.heap.size w w1 := ⟨hgrow.os, hgrow.tape, hgrow.output, hgrow.size, fun k hk => hgrow.block k hk (by simp)⟩
  go_loopw [0, 6] (fun x i wr => ∃ k : Nat, k ≤ 4 ∧ x = .int .u64 ((n.toNat / 256 ^ k : Nat) : Int) ∧ i = .int .i64 (4 - 1 - (k : Int)) ∧ wr.heap[w.heap.size]? = some (.cells (numCells n.toNat 4 k) 5 (0, 0)) ∧ Below w.heap.size w wr) (fun _ i _ => ((intOf i) + 1).toNat)
  case atStart => exact ⟨0, by omega, by simp; omega, by rfl, by rw [hc]; exact hh, hb⟩
  case round =>
    obtain ⟨k, hk, rfl, rfl, hrow, hbb⟩ := hrel
    by_cases hlt : k < 4
    · have hf : wr.frozen? ⟨w.heap.size, 3 - k, none⟩ = false := free_of hrow (3 - k)
      have hcl : wr.cell? ⟨w.heap.size, 3 - k, none⟩ = some (.int .u8 0) := (cell_of hrow (3 - k)).trans (numCells_get n.toNat 4 k hlt)
      have HR := Aside.mk (byte_rem n.toNat k)
      have HQ := Aside.mk (byte_quo n.toNat k)
      have HS := Aside.mk (numCells_step n.toNat 4 k hlt _ rfl)
      have hm64 : n.toNat / 256 ^ k < 18446744073709551616 := Nat.lt_of_le_of_lt (Nat.div_le_self _ _) (by omega)
      generalize n.toNat / 256 ^ k = m at *
      go_wp2_with fail
      go_roundw
      case rel =>
        refine ⟨k + 1, by omega, ?_, ?_, ?_, (by repeat (first | (with_reducible first | exact Below.refl _ _ | assumption | refine below_drewN ?_ _ | refine Below.drew ?_ | refine below_alloc ?_ _) | (with_reducible refine below_set ?_ ?side _; (case side => first | omega | (simp; omega) | (simp only [World.size_alloc]; omega))) | (with_reducible refine below_trans ?_ (by assumption))))⟩
        · rw [← HQ.out]
        · congr 1; omega
        · have := heap_set hrow (3 - k) (.int .u8 ((m : Int) % 256))
          rw [HR.out] at this ⊢
          exact this.trans (congrArg (fun x => some (Obj.cells x 5 (0, 0))) HS.out)
      case measure => simp [intOf]; omega
    · have hkn : k = 4 := by omega
      subst hkn
      rw [numCells_full] at hrow
      have hcv := bytes_str (own_of hrow (by rw [numBytes_length]; decide))
      rw [numBytes_length] at hcv
      generalize hL : numBytes n.toNat 4 = L at hcv
      have HL := Aside.mk hL
      clear hL
      clear hc hh hrow
      go_wp2
      go_ret
      exact ⟨by rw [HL.out]; rfl, hbb⟩
set_option maxRecDepth 100000 in
theorem number8_c (n : Int) (h0 : 0 ≤ n) (hn : n < 18446744073709551616) (w : World) :
    Calls Tryz.prog 95 #[.int .u64 n, .int .i64 8] w (Ret w (.string ⟨(numBytes n.toNat 8).toArray⟩)) := by
  obtain ⟨i0, hi, hz0, hz1, hz2⟩ := info_parts el_u8.1
  have hc := numCells_zero n.toNat 8
  go_enter Tryz.func95, Tryz.ntmps95
  go_wp2_with (at_make; refine wpList_make_full _ rfl (.tmp 7) (.tmp 7) 122 rfl w.heap.size 5 i0 (.int .u8 0) 1 Tryz.underlying122 hi hz0 hz1 .i64 .i64 8 8 8 rfl rfl rfl rfl (by omega) (by unfold maxLen; omega) (Nat.le_refl _) ?_; intro w1 hown hgrow)
  have hh : w1.heap[w.heap.size]? = some (.cells (List.replicate 8 (Value.int .u8 0)).toArray 5 (0, 0)) := (row_heap (n := 8) hown (by decide)).trans (by simp [madeCells, Value.cells, Nat.mod_one, List.range_succ])
  have hb : Below w.heap.size w w1 := ⟨hgrow.os, hgrow.tape, hgrow.output, hgrow.size, fun k hk => hgrow.block k hk (by simp)⟩
  go_loopw [0, 6] (fun x i wr => ∃ k : Nat, k ≤ 8 ∧ x = .int .u64 ((n.toNat / 256 ^ k : Nat) : Int) ∧ i = .int .i64 (8 - 1 - (k : Int)) ∧ wr.heap[w.heap.size]? = some (.cells (numCells n.toNat 8 k) 5 (0, 0)) ∧ Below w.heap.size w wr) (fun _ i _ => ((intOf i) + 1).toNat)
  case atStart => exact ⟨0, by omega, by simp; omega, by rfl, by rw [hc]; exact hh, hb⟩
  case round =>
    obtain ⟨k, hk, rfl, rfl, hrow, hbb⟩ := hrel
    by_cases hlt : k < 8
    · have hf : wr.frozen? ⟨w.heap.size, 7 - k, none⟩ = false := free_of hrow (7 - k)
      have hcl : wr.cell? ⟨w.heap.size, 7 - k, none⟩ = some (.int .u8 0) := (cell_of hrow (7 - k)).trans (numCells_get n.toNat 8 k hlt)
      have HR := Aside.mk (byte_rem n.toNat k)
      have HQ := Aside.mk (byte_quo n.toNat k)
      have HS := Aside.mk (numCells_step n.toNat 8 k hlt _ rfl)
      have hm64 : n.toNat / 256 ^ k < 18446744073709551616 := Nat.lt_of_le_of_lt (Nat.div_le_self _ _) (by omega)
      generalize n.toNat / 256 ^ k = m at *
      go_wp2_with fail
      go_roundw
      case rel =>
        refine ⟨k + 1, by omega, ?_, ?_, ?_, (by repeat (first | (with_reducible first | exact Below.refl _ _ | assumption | refine below_drewN ?_ _ | refine Below.drew ?_ | refine below_alloc ?_ _) | (with_reducible refine below_set ?_ ?side _; (case side => first | omega | (simp; omega) | (simp only [World.size_alloc]; omega))) | (with_reducible refine below_trans ?_ (by assumption))))⟩
        · rw [← HQ.out]
        · congr 1; omega
        · have := heap_set hrow (7 - k) (.int .u8 ((m : Int) % 256))
          rw [HR.out] at this ⊢
          exact this.trans (congrArg (fun x => some (Obj.cells x 5 (0, 0))) HS.out)
      case measure => simp [intOf]; omega
    · have hkn : k = 8 := by omega
      subst hkn
      rw [numCells_full] at hrow
      have hcv := bytes_str (own_of hrow (by rw [numBytes_length]; decide))
      rw [numBytes_length] at hcv
      generalize hL : numBytes n.toNat 8 = L at hcv
      have HL := Aside.mk hL
      clear hL
      clear hc hh hrow
      go_wp2
      go_ret
      exact ⟨by rw [HL.out]; rfl, hbb⟩
theorem ext_list (s : ByteArray) (f t : Nat) : (s.extract f t).data.toList = (s.data.toList.drop f).take (t - f) := by
  simp
theorem ext_snoc (s : ByteArray) (f t k : Nat) (h : f + k < t) (ht : t ≤ s.size) : (s.extract f t).data.toList.take (k + 1) = (s.extract f t).data.toList.take k ++ [s[f + k]'(by omega)] := by
  rw [ext_list, List.take_take, List.take_take, Nat.min_eq_left (by omega), Nat.min_eq_left (by omega), List.take_add_one]
  congr 1
  rw [List.getElem?_drop, List.getElem?_eq_getElem (by simp; omega)]
  rfl
set_option maxRecDepth 100000 in
theorem rnum_c (s : ByteArray) (f t : Nat) (hft : f ≤ t) (ht : t ≤ s.size) (h8 : t - f ≤ 8) (hs : s.size < 4611686018427387904) (w : World) :
    Calls Tryz.prog 92 #[.string s, .int .i64 f, .int .i64 t] w fun e w' => e = .returned (.int .u64 (be (s.extract f t).data.toList)) ∧ w = w' := by
  go_enter Tryz.func92, Tryz.ntmps92
  go_wp2
  go_loop [7, 8] (fun x i => ∃ k : Nat, f + k ≤ t ∧ x = .int .u64 (be ((s.extract f t).data.toList.take k)) ∧ i = .int .i64 ((f : Int) + k)) (fun _ i => ((t : Int) - intOf i).toNat)
  case atStart => exact ⟨0, by omega, by simp [be], by simp⟩
  case round =>
    obtain ⟨k, hk, rfl, rfl⟩ := hrel
    by_cases hlt : f + k < t
    · have hb := be_small ((s.extract f t).data.toList.take k) 7 (by simp; omega)
      have hin : f + k < s.size := by omega
      have HS := Aside.mk (show be ((s.extract f t).data.toList.take (k + 1)) = be ((s.extract f t).data.toList.take k) * 256 + (s[f + k]).toNat by rw [ext_snoc s f t k hlt ht, be_snoc])
      generalize be ((s.extract f t).data.toList.take k) = m at hb HS ⊢
      have e1 : IntKind.u64.wrap ((m : Int) * 256) = (m : Int) * 256 := wrap_u64 _ (by omega) (by omega)
      have hc := (s[f + k]).toNat_lt
      have e2 : IntKind.u64.wrap ((m : Int) * 256 + ((s[f + k]).toNat : Int)) = (m : Int) * 256 + ((s[f + k]).toNat : Int) := wrap_u64 _ (by omega) (by omega)
      go_wp2_with fail
      go_round
      case rel => exact ⟨k + 1, by omega, by rw [HS.out]; simp, by go_num⟩
      case measure => simp [intOf]; omega
    · have hkn : (s.extract f t).data.toList.take k = (s.extract f t).data.toList := List.take_of_length_le (by simp; omega)
      rw [hkn]
      go_wp2
      go_ret
      exact ⟨rfl, rfl⟩
end Go.Proofs.YtmggpfngbkbkmaaGreatDoor
/- What rillbedref07 does (1): May, MayChange, Put. -/
namespace Go.Proofs.YtmggpfngbkbkmaaGreatDoor
open Go.RowKit
set_option linter.unusedVariables false
set_option linter.unusedSimpArgs false

set_option maxHeartbeats 1000000 in
set_option maxRecDepth 100000 in
theorem rmay_c (k s mk st : Int) (hs0 : 0 ≤ s) (hm0 : 0 ≤ mk) (hm1 : mk < 18446744073709551616) (w : World) :
    Calls Tryz.prog 93 #[.agg #[.int .u8 k, .int .u32 s, .int .u64 mk, .int .u64 st]] w (Ret w (.bool (PMeta.mk k s mk st).may)) := by
  by_cases k2 : k = 2
  · subst k2
    by_cases h0 : s = 0
    · subst h0
      go_enter Tryz.func93, Tryz.ntmps93
      go_wp2_with fail
      go_quiet ((go_at_call 124; exact quietS (rquiet_c _ hm0 hm1 _)))
      all_goals try go_wp2_with fail
      all_goals (go_ret; go_tidy)
      all_goals (refine ⟨ret_bool ?_, (by repeat (first | (with_reducible first | exact Below.refl _ _ | assumption | refine below_drewN ?_ _ | refine Below.drew ?_ | refine below_alloc ?_ _) | (with_reducible refine below_set ?_ ?side _; (case side => first | omega | (simp; omega) | (simp only [World.size_alloc]; omega))) | (with_reducible refine below_trans ?_ (by assumption))))⟩)
      all_goals (simp_all [PMeta.may] <;> try first | rfl | omega)
    · have e0 : (s == 0) = false := beq_eq_false_iff_ne.2 h0
      go_enter Tryz.func93, Tryz.ntmps93
      go_wp2_with fail
      go_quiet ((go_at_call 124; exact quietS (rquiet_c _ hm0 hm1 _)))
      all_goals try go_wp2_with fail
      all_goals (go_ret; go_tidy)
      all_goals (refine ⟨ret_bool ?_, (by repeat (first | (with_reducible first | exact Below.refl _ _ | assumption | refine below_drewN ?_ _ | refine Below.drew ?_ | refine below_alloc ?_ _) | (with_reducible refine below_set ?_ ?side _; (case side => first | omega | (simp; omega) | (simp only [World.size_alloc]; omega))) | (with_reducible refine below_trans ?_ (by assumption))))⟩)
      all_goals (simp_all [PMeta.may] <;> try first | rfl | omega)
  · have e2 : (k == 2) = false := beq_eq_false_iff_ne.2 k2
    by_cases k1 : k = 1
    · subst k1
      by_cases h0 : s ≤ 2048
      · have e3 : decide (s ≤ 2048) = true := by simpa using h0
        go_enter Tryz.func93, Tryz.ntmps93
        go_wp2_with fail
        go_quiet ((go_at_call 124; exact quietS (rquiet_c _ hm0 hm1 _)))
        all_goals try go_wp2_with fail
        all_goals (go_ret; go_tidy)
        all_goals (refine ⟨ret_bool ?_, (by repeat (first | (with_reducible first | exact Below.refl _ _ | assumption | refine below_drewN ?_ _ | refine Below.drew ?_ | refine below_alloc ?_ _) | (with_reducible refine below_set ?_ ?side _; (case side => first | omega | (simp; omega) | (simp only [World.size_alloc]; omega))) | (with_reducible refine below_trans ?_ (by assumption))))⟩)
        all_goals (simp_all [PMeta.may] <;> try first | rfl | omega)
      · have e3 : decide (s ≤ 2048) = false := by simpa using h0
        go_enter Tryz.func93, Tryz.ntmps93
        go_wp2_with fail
        go_quiet ((go_at_call 124; exact quietS (rquiet_c _ hm0 hm1 _)))
        all_goals try go_wp2_with fail
        all_goals (go_ret; go_tidy)
        all_goals (refine ⟨ret_bool ?_, (by repeat (first | (with_reducible first | exact Below.refl _ _ | assumption | refine below_drewN ?_ _ | refine Below.drew ?_ | refine below_alloc ?_ _) | (with_reducible refine below_set ?_ ?side _; (case side => first | omega | (simp; omega) | (simp only [World.size_alloc]; omega))) | (with_reducible refine below_trans ?_ (by assumption))))⟩)
        all_goals (simp_all [PMeta.may] <;> try first | rfl | omega)
    · have e1 : (k == 1) = false := beq_eq_false_iff_ne.2 k1
      go_enter Tryz.func93, Tryz.ntmps93
      go_wp2_with fail
      go_quiet ((go_at_call 124; exact quietS (rquiet_c _ hm0 hm1 _)))
      all_goals try go_wp2_with fail
      all_goals (go_ret; go_tidy)
      all_goals (refine ⟨ret_bool ?_, (by repeat (first | (with_reducible first | exact Below.refl _ _ | assumption | refine below_drewN ?_ _ | refine Below.drew ?_ | refine below_alloc ?_ _) | (with_reducible refine below_set ?_ ?side _; (case side => first | omega | (simp; omega) | (simp only [World.size_alloc]; omega))) | (with_reducible refine below_trans ?_ (by assumption))))⟩)
      all_goals (simp_all [PMeta.may] <;> try first | rfl | omega)
set_option maxHeartbeats 1000000 in
set_option maxRecDepth 100000 in
theorem rmayChange_c (a n o b : Int) (hn0 : 0 ≤ n) (ho0 : 0 ≤ o) (w : World) :
    Calls Tryz.prog 94 #[.agg #[.int .u8 a, .int .u64 n, .int .u8 o, .int .u64 b]] w (Ret w (.bool (PChange.mk a n o b).may)) := by
  go_enter Tryz.func94, Tryz.ntmps94
  go_wp2_with fail
  all_goals (go_ret; go_tidy)
  all_goals (refine ⟨ret_bool ?_, (by repeat (first | (with_reducible first | exact Below.refl _ _ | assumption | refine below_drewN ?_ _ | refine Below.drew ?_ | refine below_alloc ?_ _) | (with_reducible refine below_set ?_ ?side _; (case side => first | omega | (simp; omega) | (simp only [World.size_alloc]; omega))) | (with_reducible refine below_trans ?_ (by assumption))))⟩)
  all_goals (simp_all [PChange.may] <;> try first | rfl | omega)
end Go.Proofs.YtmggpfngbkbkmaaGreatDoor
/- What rillbedref07 does (2): Take. -/
namespace Go.Proofs.YtmggpfngbkbkmaaGreatDoor
open Go.RowKit
set_option linter.unusedVariables false
set_option linter.unusedSimpArgs false

theorem ext_self (s : ByteArray) : s.extract 0 s.size = s := by apply ba_ext; simp
theorem ext_ext (s : ByteArray) (i a b : Nat) : (s.extract i s.size).extract a b = s.extract (i + a) (min (i + b) s.size) := by
  apply ba_ext
  simp only [ext_list, List.drop_take, List.drop_drop, List.take_take]
  congr 1
  omega
theorem fixR_ext (s : ByteArray) (i n : Nat) (h : i + n ≤ s.size) : fixR (some (s.extract i s.size)) n = some (s.extract (i + n) s.size) := by
  have hz : (s.extract i s.size).size = s.size - i := by simp
  simp only [fixR, hz]
  rw [if_pos (by omega), ext_ext, show min (i + (s.size - i)) s.size = s.size by omega]
theorem fixR_short (s : ByteArray) (i n : Nat) (h : s.size < i + n) (hn : 0 < n) : fixR (some (s.extract i s.size)) n = none := by
  have hz : (s.extract i s.size).size = s.size - i := by simp
  simp only [fixR, hz]
  rw [if_neg (by omega)]
theorem numV_ext (s : ByteArray) (i n : Nat) (h : i + n ≤ s.size) : numV (some (s.extract i s.size)) n = be (s.extract i (i + n)).data.toList := by
  have hz : (s.extract i s.size).size = s.size - i := by simp
  simp only [numV, fixV, hz]
  rw [if_pos (by omega), ext_ext, show min (i + n) s.size = i + n by omega, Nat.add_zero]
theorem be_one (s : ByteArray) (i : Nat) (h : i < s.size) : be (s.extract i (i + 1)).data.toList = (s[i]).toNat := by
  have := ext_snoc s i (i + 1) 0 (by omega) (by omega)
  rw [List.take_of_length_le (by simp; omega)] at this
  rw [this]
  simp [be]
theorem meta_short (s : ByteArray) (h : s.size < 21) : rdMetaR s = none := by
  unfold rdMetaR
  conv => lhs; arg 1; arg 1; arg 1; rw [← ext_self s]
  by_cases h1 : s.size < 1
  · rw [fixR_short s 0 1 (by omega) (by omega)]; rfl
  rw [fixR_ext s 0 1 (by omega)]
  by_cases h2 : s.size < 5
  · rw [fixR_short s _ 4 (by omega) (by omega)]; rfl
  rw [fixR_ext s _ 4 (by omega)]
  by_cases h3 : s.size < 13
  · rw [fixR_short s _ 8 (by omega) (by omega)]; rfl
  rw [fixR_ext s _ 8 (by omega), fixR_short s _ 8 (by omega) (by omega)]
theorem meta_long (s : ByteArray) (h : 21 ≤ s.size) : rdMetaR s = some (s.extract 21 s.size) ∧ rdMeta s = ⟨(s[0]).toNat, be (s.extract 1 5).data.toList, be (s.extract 5 13).data.toList, be (s.extract 13 21).data.toList⟩ := by
  have e : some s = some (s.extract 0 s.size) := by rw [ext_self]
  constructor
  · unfold rdMetaR; rw [e, fixR_ext s _ 1 (by omega), fixR_ext s _ 4 (by omega), fixR_ext s _ 8 (by omega), fixR_ext s _ 8 (by omega)]
  · unfold rdMeta
    rw [e, fixR_ext s _ 1 (by omega), fixR_ext s _ 4 (by omega), fixR_ext s _ 8 (by omega), numV_ext s _ 1 (by omega), numV_ext s _ 4 (by omega), numV_ext s _ 8 (by omega), numV_ext s _ 8 (by omega), be_one s 0 (by omega)]
theorem meta_over (s : ByteArray) (h : 21 < s.size) : metaE s = 4 := by
  unfold metaE
  rw [(meta_long s (by omega)).1]
  have hz : (s.extract 21 s.size).size = s.size - 21 := by simp
  have : wholeE (some (s.extract 21 s.size)) = 4 := by simp only [wholeE, hz]; rw [if_neg (by omega)]
  rw [this, if_neg (by decide)]
theorem meta_fits (s : ByteArray) (h : s.size = 21) : metaE s = (rdMeta s).err := by
  unfold metaE
  rw [(meta_long s (by omega)).1]
  have hz : (s.extract 21 s.size).size = s.size - 21 := by simp
  have : wholeE (some (s.extract 21 s.size)) = 0 := by simp only [wholeE, hz]; rw [if_pos (by omega)]
  rw [this, if_pos rfl]
def metaVal (m : PMeta) : Value := .agg #[.int .u8 m.kind, .int .u32 m.size, .int .u64 m.mark, .int .u64 m.stamp]

theorem rnum_i (s : ByteArray) (f t : Int) (h0 : 0 ≤ f) (hft : f ≤ t) (ht : t ≤ s.size) (h8 : t - f ≤ 8) (hs : s.size < 4611686018427387904) (w : World) :
    Calls Tryz.prog 92 #[.string s, .int .i64 f, .int .i64 t] w fun e w' => e = .returned (.int .u64 (be (s.extract f.toNat t.toNat).data.toList)) ∧ w = w' := by
  have h := rnum_c s f.toNat t.toNat (by omega) (by omega) (by omega) hs w
  rwa [Int.toNat_of_nonneg h0, Int.toNat_of_nonneg (by omega)] at h
set_option maxHeartbeats 2000000 in
set_option maxRecDepth 100000 in
theorem rTake_c (s : ByteArray) (hs : s.size < 4611686018427387904) (w : World) :
    Calls Tryz.prog 52 #[.string s] w (Ret w (.tuple #[metaVal (metaV s), .int .i64 (metaE s)])) := by
  have hO := heap_new w (.cells #[.int .u8 0, .int .u32 0, .int .u64 0, .int .u64 0] 76)
  by_cases h21 : s.size < 21
  · have HE := Aside.mk (show metaE s = 10 by unfold metaE; rw [meta_short s h21]; rfl)
    have HV := Aside.mk (show metaV s = PMeta.zero from if_neg (by rw [HE.out]; decide))
    obtain ⟨⟨o0, o1, o2, o3⟩, f0, f1, f2, f3⟩ := four hO
    go_enter Tryz.func52, Tryz.ntmps52
    go_wp2_with fail
    go_tidy
    refine bodyPost_ret (v := .tuple #[metaVal PMeta.zero, .int .i64 10]) (by simp [results, Tryz.results52, go_sem, o0, o1, o2, o3]; rfl) rfl ⟨by rw [HE.out, HV.out], ?_⟩
    repeat (first | (with_reducible first | exact Below.refl _ _ | assumption | refine below_drewN ?_ _ | refine Below.drew ?_ | refine below_alloc ?_ _) | (with_reducible refine below_set ?_ ?side _; (case side => first | omega | (simp; omega) | (simp only [World.size_alloc]; omega))) | (with_reducible refine below_trans ?_ (by assumption)))
  have HL := Aside.mk (meta_long s (by omega)).2
  have HC := Aside.mk (rdMeta_wf s)
  obtain ⟨N, hN, hc⟩ : ∃ N : Int → Int → Int, (∀ f t, N f t = be (s.extract f.toNat t.toNat).data.toList) ∧ ∀ (f t : Int), 0 ≤ f → f ≤ t → t ≤ s.size → t - f ≤ 8 → ∀ w, Calls Tryz.prog 92 #[.string s, .int .i64 f, .int .i64 t] w fun e w' => e = .returned (.int .u64 (N f t)) ∧ w = w' :=
    ⟨fun f t => be (s.extract f.toNat t.toNat).data.toList, fun _ _ => rfl, fun f t h0 h1 h2 h3 w => rnum_i s f t h0 h1 h2 h3 hs w⟩
  have b1 : 0 ≤ N 1 5 ∧ N 1 5 < 4294967296 := by rw [hN]; exact ⟨by omega, by have := be_small (s.extract 1 5).data.toList 4 (by simp; omega); exact Int.ofNat_lt.2 this⟩
  have b2 : 0 ≤ N 5 13 ∧ N 5 13 < 18446744073709551616 := by rw [hN]; exact ⟨by omega, by have := be_small (s.extract 5 13).data.toList 8 (by simp; omega); exact Int.ofNat_lt.2 this⟩
  have b3 : 0 ≤ N 13 21 ∧ N 13 21 < 18446744073709551616 := by rw [hN]; exact ⟨by omega, by have := be_small (s.extract 13 21).data.toList 8 (by simp; omega); exact Int.ofNat_lt.2 this⟩
  have hL : rdMeta s = ⟨(s[0]).toNat, N 1 5, N 5 13, N 13 21⟩ := by rw [HL.out, hN, hN, hN]; rfl
  rw [hL] at HC
  have HL := Aside.mk hL
  have HN := Aside.mk hN
  clear hL hN
  have hp : (0 : Int) < (s.size : Int) := by omega
  have hp' : 0 < s.size := by omega
  obtain ⟨b10, b11⟩ := b1
  obtain ⟨b20, b21⟩ := b2
  obtain ⟨b30, b31⟩ := b3
  have hw1 : IntKind.u32.wrap (N 1 5) = N 1 5 := wrap_u32 _ b10 b11
  go_enter Tryz.func52, Tryz.ntmps52
  go_wp2_with fail
  go_region_held3 (fun w' => True) (trivial) (first | (go_at_call 92; refine (hc _ _ (by omega) (by omega) (by omega) (by omega) _).mono ?_; rintro e w1 ⟨rfl, rfl⟩))
  all_goals
    have hO1 : (((w.alloc (.cells #[.int .u8 0, .int .u32 0, .int .u64 0, .int .u64 0] 76)).alloc (.cells #[.int .u8 (s[0]).toNat, .int .u32 (N 1 5), .int .u64 (N 5 13), .int .u64 (N 13 21)] 76)).drew).heap[w.heap.size]? = some (.cells #[.int .u8 0, .int .u32 0, .int .u64 0, .int .u64 0] 76 (0, 0)) := heap_alloc hO _
    have hM1 : (((w.alloc (.cells #[.int .u8 0, .int .u32 0, .int .u64 0, .int .u64 0] 76)).alloc (.cells #[.int .u8 (s[0]).toNat, .int .u32 (N 1 5), .int .u64 (N 5 13), .int .u64 (N 13 21)] 76)).drew).heap[w.heap.size + 1]? = some (.cells #[.int .u8 (s[0]).toNat, .int .u32 (N 1 5), .int .u64 (N 5 13), .int .u64 (N 13 21)] 76 (0, 0)) := heap_new' _ _ (by simp)
    by_cases hov : 21 < s.size
    · have HE := Aside.mk (meta_over s hov)
      have HV := Aside.mk (show metaV s = PMeta.zero from if_neg (by rw [HE.out]; decide))
      obtain ⟨⟨o0, o1, o2, o3⟩, f0, f1, f2, f3⟩ := four hO1
      clear hO hO1 hM1 hc
      go_wp2_with fail
      go_tidy
      refine bodyPost_ret (v := .tuple #[metaVal PMeta.zero, .int .i64 4]) (by simp [results, Tryz.results52, go_sem, o0, o1, o2, o3]; rfl) rfl ⟨by rw [HE.out, HV.out], ?_⟩
      repeat (first | (with_reducible first | exact Below.refl _ _ | assumption | refine below_drewN ?_ _ | refine Below.drew ?_ | refine below_alloc ?_ _) | (with_reducible refine below_set ?_ ?side _; (case side => first | omega | (simp; omega) | (simp only [World.size_alloc]; omega))) | (with_reducible refine below_trans ?_ (by assumption)))
    · have h22 : s.size = 21 := by omega
      have hE := meta_fits s h22
      rw [HL.out] at hE
      obtain ⟨⟨d0, d1, d2, d3⟩, g0, g1, g2, g3⟩ := four hM1
      by_cases hm : (PMeta.mk (s[0]).toNat (N 1 5) (N 5 13) (N 13 21)).may = true
      · have HE := Aside.mk (hE.trans (PMeta.err_yes hm))
        have HV := Aside.mk ((show metaV s = rdMeta s from if_pos HE.out).trans HL.out)
        have HM := Aside.mk hm
        clear hE hm hc
        go_wp2_with fail
        refine (rmay_c _ _ _ _ b10 b20 b21 _).mono ?_
        rintro e w2 ⟨rfl, hb2⟩
        rw [HM.out]
        clear d0 d1 d2 d3 g0 g1 g2 g3
        have hO2 := below_keep hb2 hO1
        have hM2 := below_keep hb2 hM1
        obtain ⟨⟨o0, o1, o2, o3⟩, f0, f1, f2, f3⟩ := four hO2
        obtain ⟨⟨d0, d1, d2, d3⟩, g0, g1, g2, g3⟩ := four hM2
        clear hO hO1 hM1 hO2 hM2
        go_wp2_with fail
        go_tidy
        refine bodyPost_ret (v := .tuple #[metaVal ⟨(s[0]).toNat, N 1 5, N 5 13, N 13 21⟩, .int .i64 0]) (by simp [results, Tryz.results52, go_sem, o0, o1, o2, o3]; rfl) rfl ⟨by rw [HE.out, HV.out], ?_⟩
        repeat (first | (with_reducible first | exact Below.refl _ _ | assumption | refine below_drewN ?_ _ | refine Below.drew ?_ | refine below_alloc ?_ _) | (with_reducible refine below_set ?_ ?side _; (case side => first | omega | (simp; omega) | (simp only [World.size_alloc]; omega))) | (with_reducible refine below_trans ?_ (by assumption)))
      · have HE := Aside.mk (hE.trans (PMeta.err_no hm))
        have HV := Aside.mk (show metaV s = PMeta.zero from if_neg (by rw [HE.out]; decide))
        have HM := Aside.mk (Bool.eq_false_iff.2 hm)
        clear hE hm hc
        go_wp2_with fail
        refine (rmay_c _ _ _ _ b10 b20 b21 _).mono ?_
        rintro e w2 ⟨rfl, hb2⟩
        rw [HM.out]
        clear d0 d1 d2 d3 g0 g1 g2 g3
        have hO2 := below_keep hb2 hO1
        obtain ⟨⟨o0, o1, o2, o3⟩, f0, f1, f2, f3⟩ := four hO2
        clear hO hO1 hM1 hO2
        go_wp2_with fail
        go_tidy
        refine bodyPost_ret (v := .tuple #[metaVal PMeta.zero, .int .i64 4]) (by simp [results, Tryz.results52, go_sem, o0, o1, o2, o3]; rfl) rfl ⟨by rw [HE.out, HV.out], ?_⟩
        repeat (first | (with_reducible first | exact Below.refl _ _ | assumption | refine below_drewN ?_ _ | refine Below.drew ?_ | refine below_alloc ?_ _) | (with_reducible refine below_set ?_ ?side _; (case side => first | omega | (simp; omega) | (simp only [World.size_alloc]; omega))) | (with_reducible refine below_trans ?_ (by assumption)))
end Go.Proofs.YtmggpfngbkbkmaaGreatDoor
