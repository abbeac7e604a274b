/- What rillbedref07 does (5): TakeChange. -/
import Derived.Test.YtmggpfngbkbkmaaGreatDoorR5
namespace Go.Proofs.YtmggpfngbkbkmaaGreatDoor
open Go.RowKit
set_option linter.unusedVariables false
set_option linter.unusedSimpArgs false

theorem what_first {s : ByteArray} (h0 : 0 < s.size) : rdWhat s = (s[0]).toNat := by
  have := numV_ext s 0 1 (by omega)
  rw [ext_self, be_one s 0 h0] at this
  exact this
theorem whole_more (s : ByteArray) (n : Nat) (h : n < s.size) : wholeE (some (s.extract n s.size)) = 4 := by
  have hz : (s.extract n s.size).size = s.size - n := by simp
  simp only [wholeE, hz]; rw [if_neg (by omega)]
theorem whole_all (s : ByteArray) (n : Nat) (h : n = s.size) : wholeE (some (s.extract n s.size)) = 0 := by
  have hz : (s.extract n s.size).size = s.size - n := by simp
  simp only [wholeE, hz]; rw [if_pos (by omega)]
theorem change_torn {s : ByteArray} (h0 : s.size ≠ 0) (hk : ¬ (rdWhat s = 0 ∨ 4 < rdWhat s)) (h : rdChangeR s = none) : changeE s = 10 := by
  unfold changeE; rw [if_neg h0, if_neg hk, h]; rfl
theorem change_more {s : ByteArray} {n : Nat} (h0 : s.size ≠ 0) (hk : ¬ (rdWhat s = 0 ∨ 4 < rdWhat s)) (h : rdChangeR s = some (s.extract n s.size)) (hn : n < s.size) : changeE s = 4 := by
  unfold changeE; rw [if_neg h0, if_neg hk, h, whole_more s n hn]; rfl
theorem change_all {s : ByteArray} {n : Nat} (h0 : s.size ≠ 0) (hk : ¬ (rdWhat s = 0 ∨ 4 < rdWhat s)) (h : rdChangeR s = some (s.extract n s.size)) (hn : n = s.size) : changeE s = if (rdChange s).may = true then 0 else 4 := by
  unfold changeE; rw [if_neg h0, if_neg hk, h, whole_all s n hn, if_pos rfl]
theorem ch1_short {s : ByteArray} (hk : rdWhat s = 1) (h : s.size < 5) : rdChangeR s = none := by
  have e : some s = some (s.extract 0 s.size) := by rw [ext_self]
  unfold rdChangeR
  simp only [hk]
  rw [if_neg (by decide)]
  first
    | rw [if_neg (by decide), e]
    | rw [if_pos trivial, e]
  by_cases h1 : s.size < 1
  · rw [fixR_short s 0 1 (by omega) (by omega)]; rfl
  · rw [fixR_ext s 0 1 (by omega), fixR_short s _ 4 (by omega) (by omega)]
theorem ch1_long {s : ByteArray} (hk : rdWhat s = 1) (h : 5 ≤ s.size) : rdChangeR s = some (s.extract 5 s.size) ∧ rdChange s = ⟨1, be (s.extract 1 5).data.toList, 0, 0⟩ := by
  have e : some s = some (s.extract 0 s.size) := by rw [ext_self]
  have hr : fixR (some s) 1 = some (s.extract 1 s.size) := by rw [e, fixR_ext s _ 1 (by omega)]
  constructor
  · unfold rdChangeR
    simp only [hk]
    rw [if_neg (by decide)]
    first
      | rw [if_neg (by decide), hr, fixR_ext s _ 4 (by omega)]
      | rw [if_pos trivial, hr, fixR_ext s _ 4 (by omega)]
  · unfold rdChange
    simp only [hk]
    rw [if_neg (by decide)]
    first
      | rw [if_neg (by decide), hr, numV_ext s _ 4 (by omega)]; rfl
      | rw [if_pos trivial, hr, numV_ext s _ 4 (by omega)]; rfl
theorem ch2_short {s : ByteArray} (hk : rdWhat s = 2) (h : s.size < 5) : rdChangeR s = none := by
  have e : some s = some (s.extract 0 s.size) := by rw [ext_self]
  unfold rdChangeR
  simp only [hk]
  rw [if_neg (by decide)]
  first
    | rw [if_neg (by decide), e]
    | rw [if_pos trivial, e]
  by_cases h1 : s.size < 1
  · rw [fixR_short s 0 1 (by omega) (by omega)]; rfl
  · rw [fixR_ext s 0 1 (by omega), fixR_short s _ 4 (by omega) (by omega)]
theorem ch2_long {s : ByteArray} (hk : rdWhat s = 2) (h : 5 ≤ s.size) : rdChangeR s = some (s.extract 5 s.size) ∧ rdChange s = ⟨2, be (s.extract 1 5).data.toList, 0, 0⟩ := by
  have e : some s = some (s.extract 0 s.size) := by rw [ext_self]
  have hr : fixR (some s) 1 = some (s.extract 1 s.size) := by rw [e, fixR_ext s _ 1 (by omega)]
  constructor
  · unfold rdChangeR
    simp only [hk]
    rw [if_neg (by decide)]
    first
      | rw [if_neg (by decide), hr, fixR_ext s _ 4 (by omega)]
      | rw [if_pos trivial, hr, fixR_ext s _ 4 (by omega)]
  · unfold rdChange
    simp only [hk]
    rw [if_neg (by decide)]
    first
      | rw [if_neg (by decide), hr, numV_ext s _ 4 (by omega)]; rfl
      | rw [if_pos trivial, hr, numV_ext s _ 4 (by omega)]; rfl
theorem ch4_short {s : ByteArray} (hk : rdWhat s = 4) (h : s.size < 9) : rdChangeR s = none := by
  have e : some s = some (s.extract 0 s.size) := by rw [ext_self]
  unfold rdChangeR
  simp only [hk]
  rw [if_neg (by decide)]
  first
    | rw [if_neg (by decide), e]
    | rw [if_pos trivial, e]
  by_cases h1 : s.size < 1
  · rw [fixR_short s 0 1 (by omega) (by omega)]; rfl
  · rw [fixR_ext s 0 1 (by omega), fixR_short s _ 8 (by omega) (by omega)]
theorem ch4_long {s : ByteArray} (hk : rdWhat s = 4) (h : 9 ≤ s.size) : rdChangeR s = some (s.extract 9 s.size) ∧ rdChange s = ⟨4, be (s.extract 1 9).data.toList, 0, 0⟩ := by
  have e : some s = some (s.extract 0 s.size) := by rw [ext_self]
  have hr : fixR (some s) 1 = some (s.extract 1 s.size) := by rw [e, fixR_ext s _ 1 (by omega)]
  constructor
  · unfold rdChangeR
    simp only [hk]
    rw [if_neg (by decide)]
    first
      | rw [if_neg (by decide), hr, fixR_ext s _ 8 (by omega)]
      | rw [if_pos trivial, hr, fixR_ext s _ 8 (by omega)]
  · unfold rdChange
    simp only [hk]
    rw [if_neg (by decide)]
    first
      | rw [if_neg (by decide), hr, numV_ext s _ 8 (by omega)]; rfl
      | rw [if_pos trivial, hr, numV_ext s _ 8 (by omega)]; rfl
theorem ch3_short {s : ByteArray} (hk : rdWhat s = 3) (h : s.size < 10) : rdChangeR s = none := by
  have e : some s = some (s.extract 0 s.size) := by rw [ext_self]
  unfold rdChangeR
  rw [if_pos hk, e]
  by_cases h1 : s.size < 1
  · rw [fixR_short s 0 1 (by omega) (by omega)]; rfl
  rw [fixR_ext s 0 1 (by omega)]
  by_cases h2 : s.size < 2
  · rw [fixR_short s _ 1 (by omega) (by omega)]; rfl
  rw [fixR_ext s _ 1 (by omega), fixR_short s _ 8 (by omega) (by omega)]
theorem ch3_long {s : ByteArray} (hk : rdWhat s = 3) (h : 10 ≤ s.size) : rdChangeR s = some (s.extract 10 s.size) ∧ rdChange s = ⟨3, 0, (s[1]).toNat, be (s.extract 2 10).data.toList⟩ := by
  have e : some s = some (s.extract 0 s.size) := by rw [ext_self]
  have hr : fixR (some s) 1 = some (s.extract 1 s.size) := by rw [e, fixR_ext s _ 1 (by omega)]
  have hr2 : fixR (fixR (some s) 1) 1 = some (s.extract 2 s.size) := by rw [hr, fixR_ext s _ 1 (by omega)]
  constructor
  · unfold rdChangeR
    rw [if_pos hk, hr2, fixR_ext s _ 8 (by omega)]
  · unfold rdChange
    rw [if_pos hk, hr2, numV_ext s _ 8 (by omega), hr, numV_ext s _ 1 (by omega), be_one s 1 (by omega), hk]
    rfl
def changeVal (c : PChange) : Value := .agg #[.int .u8 c.what, .int .u64 c.n, .int .u8 c.op, .int .u64 c.by_]

set_option maxHeartbeats 4000000 in
set_option maxRecDepth 100000 in
theorem rTakeChange1_c (s : ByteArray) (hs : s.size < 4611686018427387904) (h0 : 0 < s.size) (hK : (s[0]).toNat = 1) (w : World) :
    Calls Tryz.prog 53 #[.string s] w (Ret w (.tuple #[changeVal (changeV s), .int .i64 (changeE s)])) := by
  have hW := (what_first h0).trans hK
  have hbad : ¬ (rdWhat s = 0 ∨ 4 < rdWhat s) := by omega
  have HBAD := Aside.mk hbad
  have HNE := Aside.mk (show s.size ≠ 0 by omega)
  have hpi : (0 : Int) < (s.size : Int) := by omega
  have HO := Aside.mk (heap_new w (.cells #[.int .u8 0, .int .u64 0, .int .u8 0, .int .u64 0] 80))
  have HW := Aside.mk hW
  clear hbad hW
  have hte : (s.toList == ([] : List UInt8)) = false := by have := HNE.out; simpa [toList_nil] using this
  by_cases hsh : s.size < 5
  · have HE := Aside.mk (change_torn HNE.out HBAD.out (ch1_short HW.out hsh))
    have HV := Aside.mk (show changeV s = PChange.zero from if_neg (by rw [HE.out]; decide))
    obtain ⟨⟨o0, o1, o2, o3⟩, f0, f1, f2, f3⟩ := four (heap_alloc HO.out (.cells #[.int .i64 0, .int .i64 5, .int .i64 5, .int .i64 10, .int .i64 9] 3))
    go_enter Tryz.func53, Tryz.ntmps53
    go_wp2_with fail
    go_tidy
    refine bodyPost_ret (v := .tuple #[changeVal PChange.zero, .int .i64 10]) (by simp [results, Tryz.results53, go_sem, o0, o1, o2, o3]; rfl) rfl ⟨by rw [HE.out, HV.out], ?_⟩
    repeat (first | (with_reducible first | exact Below.refl _ _ | assumption | refine below_drewN ?_ _ | refine Below.drew ?_ | refine below_alloc ?_ _) | (with_reducible refine below_set ?_ ?side _; (case side => first | omega | (simp; omega) | (simp only [World.size_alloc]; omega))) | (with_reducible refine below_trans ?_ (by assumption)))
  have hL := ch1_long HW.out (by omega)
  have h1 : (1 : Int) < (s.size : Int) := by omega
  have hor : (Aside (5 = s.size) ∧ (s.size : Int) ≤ 5) ∨ (Aside (5 < s.size) ∧ (5 : Int) < (s.size : Int)) := by
    by_cases hx : 5 = s.size
    · exact .inl ⟨⟨hx⟩, by omega⟩
    · exact .inr ⟨⟨by omega⟩, by omega⟩
  have hge : (5 : Int) ≤ (s.size : Int) := by omega
  have HL1 := Aside.mk hL.1
  obtain ⟨N, hN, hc⟩ : ∃ N : Int → Int → Int, (∀ f t, N f t = be (s.extract f.toNat t.toNat).data.toList) ∧ ∀ (f t : Int), 0 ≤ f → f ≤ t → t ≤ s.size → t - f ≤ 8 → ∀ w, Calls Tryz.prog 92 #[.string s, .int .i64 f, .int .i64 t] w fun e w' => e = .returned (.int .u64 (N f t)) ∧ w = w' :=
    ⟨fun f t => be (s.extract f.toNat t.toNat).data.toList, fun _ _ => rfl, fun f t h0 h1 h2 h3 w => rnum_i s f t h0 h1 h2 h3 hs w⟩
  have hL2 : rdChange s = ⟨1, (N 1 5), 0, 0⟩ := by rw [hL.2, hN]; rfl
  have b1 : 0 ≤ N 1 5 := by rw [hN]; omega
  have hm0 : (0 : Int) ≤ (N 1 5) := by first | exact b1 | omega
  have hq0 : (0 : Int) ≤ 0 := by omega
  have HL2 := Aside.mk hL2
  clear hL hN hL2
  rcases hor with ⟨hmore, hle⟩ | ⟨hmore, hlt⟩
  · have hE := change_all HNE.out HBAD.out HL1.out hmore.out
    rw [HL2.out] at hE
    have hO1 := heap_alloc (heap_alloc HO.out (.cells #[.int .i64 0, .int .i64 5, .int .i64 5, .int .i64 10, .int .i64 9] 3)) (.cells #[.int .u8 1, .int .u64 (N 1 5), .int .u8 0, .int .u64 0] 80)
    have hC1 := heap_new' ((w.alloc (.cells #[.int .u8 0, .int .u64 0, .int .u8 0, .int .u64 0] 80)).alloc (.cells #[.int .i64 0, .int .i64 5, .int .i64 5, .int .i64 10, .int .i64 9] 3)) (.cells #[.int .u8 1, .int .u64 (N 1 5), .int .u8 0, .int .u64 0] 80) (g := w.heap.size + 2) (by simp)
    have HO1 := Aside.mk hO1
    have HC1 := Aside.mk hC1
    have HEE := Aside.mk hE
    clear hO1 hC1 hE
    go_enter Tryz.func53, Tryz.ntmps53
    go_wp2_with (go_at_call 92; refine (hc _ _ (by omega) (by omega) (by omega) (by omega) _).mono ?_; rintro e w1 ⟨rfl, rfl⟩)
    refine (rmayChange_c 1 (N 1 5) 0 0 hm0 hq0 _).mono ?_
    rintro e w2 ⟨rfl, hb2⟩
    obtain ⟨⟨o0, o1, o2, o3⟩, f0, f1, f2, f3⟩ := four (below_keep hb2 HO1.out)
    obtain ⟨⟨d0, d1, d2, d3⟩, g0, g1, g2, g3⟩ := four (below_keep hb2 HC1.out)
    by_cases hm : (PChange.mk 1 (N 1 5) 0 0).may = true
    · have HE := Aside.mk (HEE.out.trans (if_pos hm))
      have HV := Aside.mk ((show changeV s = rdChange s from if_pos HE.out).trans HL2.out)
      have HM := Aside.mk hm
      clear hm
      rw [HM.out]
      go_wp2_with fail
      go_tidy
      refine bodyPost_ret (v := .tuple #[changeVal ⟨1, (N 1 5), 0, 0⟩, .int .i64 0]) (by simp [results, Tryz.results53, go_sem, o0, o1, o2, o3]; rfl) rfl ⟨by rw [HE.out, HV.out], ?_⟩
      repeat (first | (with_reducible first | exact Below.refl _ _ | assumption | refine below_drewN ?_ _ | refine Below.drew ?_ | refine below_alloc ?_ _) | (with_reducible refine below_set ?_ ?side _; (case side => first | omega | (simp; omega) | (simp only [World.size_alloc]; omega))) | (with_reducible refine below_trans ?_ (by assumption)))
    · have HE := Aside.mk (HEE.out.trans (if_neg hm))
      have HV := Aside.mk (show changeV s = PChange.zero from if_neg (by rw [HE.out]; decide))
      have HM := Aside.mk (Bool.eq_false_iff.2 hm)
      clear hm
      rw [HM.out]
      go_wp2_with fail
      go_tidy
      refine bodyPost_ret (v := .tuple #[changeVal PChange.zero, .int .i64 4]) (by simp [results, Tryz.results53, go_sem, o0, o1, o2, o3]; rfl) rfl ⟨by rw [HE.out, HV.out], ?_⟩
      repeat (first | (with_reducible first | exact Below.refl _ _ | assumption | refine below_drewN ?_ _ | refine Below.drew ?_ | refine below_alloc ?_ _) | (with_reducible refine below_set ?_ ?side _; (case side => first | omega | (simp; omega) | (simp only [World.size_alloc]; omega))) | (with_reducible refine below_trans ?_ (by assumption)))
  · have HE := Aside.mk (change_more HNE.out HBAD.out HL1.out hmore.out)
    have HV := Aside.mk (show changeV s = PChange.zero from if_neg (by rw [HE.out]; decide))
    obtain ⟨⟨o0, o1, o2, o3⟩, f0, f1, f2, f3⟩ := four (heap_alloc HO.out (.cells #[.int .i64 0, .int .i64 5, .int .i64 5, .int .i64 10, .int .i64 9] 3))
    go_enter Tryz.func53, Tryz.ntmps53
    go_wp2_with fail
    go_tidy
    refine bodyPost_ret (v := .tuple #[changeVal PChange.zero, .int .i64 4]) (by simp [results, Tryz.results53, go_sem, o0, o1, o2, o3]; rfl) rfl ⟨by rw [HE.out, HV.out], ?_⟩
    repeat (first | (with_reducible first | exact Below.refl _ _ | assumption | refine below_drewN ?_ _ | refine Below.drew ?_ | refine below_alloc ?_ _) | (with_reducible refine below_set ?_ ?side _; (case side => first | omega | (simp; omega) | (simp only [World.size_alloc]; omega))) | (with_reducible refine below_trans ?_ (by assumption)))
set_option maxHeartbeats 4000000 in
set_option maxRecDepth 100000 in
theorem rTakeChange2_c (s : ByteArray) (hs : s.size < 4611686018427387904) (h0 : 0 < s.size) (hK : (s[0]).toNat = 2) (w : World) :
    Calls Tryz.prog 53 #[.string s] w (Ret w (.tuple #[changeVal (changeV s), .int .i64 (changeE s)])) := by
  have hW := (what_first h0).trans hK
  have hbad : ¬ (rdWhat s = 0 ∨ 4 < rdWhat s) := by omega
  have HBAD := Aside.mk hbad
  have HNE := Aside.mk (show s.size ≠ 0 by omega)
  have hpi : (0 : Int) < (s.size : Int) := by omega
  have HO := Aside.mk (heap_new w (.cells #[.int .u8 0, .int .u64 0, .int .u8 0, .int .u64 0] 80))
  have HW := Aside.mk hW
  clear hbad hW
  have hte : (s.toList == ([] : List UInt8)) = false := by have := HNE.out; simpa [toList_nil] using this
  by_cases hsh : s.size < 5
  · have HE := Aside.mk (change_torn HNE.out HBAD.out (ch2_short HW.out hsh))
    have HV := Aside.mk (show changeV s = PChange.zero from if_neg (by rw [HE.out]; decide))
    obtain ⟨⟨o0, o1, o2, o3⟩, f0, f1, f2, f3⟩ := four (heap_alloc HO.out (.cells #[.int .i64 0, .int .i64 5, .int .i64 5, .int .i64 10, .int .i64 9] 3))
    go_enter Tryz.func53, Tryz.ntmps53
    go_wp2_with fail
    go_tidy
    refine bodyPost_ret (v := .tuple #[changeVal PChange.zero, .int .i64 10]) (by simp [results, Tryz.results53, go_sem, o0, o1, o2, o3]; rfl) rfl ⟨by rw [HE.out, HV.out], ?_⟩
    repeat (first | (with_reducible first | exact Below.refl _ _ | assumption | refine below_drewN ?_ _ | refine Below.drew ?_ | refine below_alloc ?_ _) | (with_reducible refine below_set ?_ ?side _; (case side => first | omega | (simp; omega) | (simp only [World.size_alloc]; omega))) | (with_reducible refine below_trans ?_ (by assumption)))
  have hL := ch2_long HW.out (by omega)
  have h1 : (1 : Int) < (s.size : Int) := by omega
  have hor : (Aside (5 = s.size) ∧ (s.size : Int) ≤ 5) ∨ (Aside (5 < s.size) ∧ (5 : Int) < (s.size : Int)) := by
    by_cases hx : 5 = s.size
    · exact .inl ⟨⟨hx⟩, by omega⟩
    · exact .inr ⟨⟨by omega⟩, by omega⟩
  have hge : (5 : Int) ≤ (s.size : Int) := by omega
  have HL1 := Aside.mk hL.1
  obtain ⟨N, hN, hc⟩ : ∃ N : Int → Int → Int, (∀ f t, N f t = be (s.extract f.toNat t.toNat).data.toList) ∧ ∀ (f t : Int), 0 ≤ f → f ≤ t → t ≤ s.size → t - f ≤ 8 → ∀ w, Calls Tryz.prog 92 #[.string s, .int .i64 f, .int .i64 t] w fun e w' => e = .returned (.int .u64 (N f t)) ∧ w = w' :=
    ⟨fun f t => be (s.extract f.toNat t.toNat).data.toList, fun _ _ => rfl, fun f t h0 h1 h2 h3 w => rnum_i s f t h0 h1 h2 h3 hs w⟩
  have hL2 : rdChange s = ⟨2, (N 1 5), 0, 0⟩ := by rw [hL.2, hN]; rfl
  have b1 : 0 ≤ N 1 5 := by rw [hN]; omega
  have hm0 : (0 : Int) ≤ (N 1 5) := by first | exact b1 | omega
  have hq0 : (0 : Int) ≤ 0 := by omega
  have HL2 := Aside.mk hL2
  clear hL hN hL2
  rcases hor with ⟨hmore, hle⟩ | ⟨hmore, hlt⟩
  · have hE := change_all HNE.out HBAD.out HL1.out hmore.out
    rw [HL2.out] at hE
    have hO1 := heap_alloc (heap_alloc HO.out (.cells #[.int .i64 0, .int .i64 5, .int .i64 5, .int .i64 10, .int .i64 9] 3)) (.cells #[.int .u8 2, .int .u64 (N 1 5), .int .u8 0, .int .u64 0] 80)
    have hC1 := heap_new' ((w.alloc (.cells #[.int .u8 0, .int .u64 0, .int .u8 0, .int .u64 0] 80)).alloc (.cells #[.int .i64 0, .int .i64 5, .int .i64 5, .int .i64 10, .int .i64 9] 3)) (.cells #[.int .u8 2, .int .u64 (N 1 5), .int .u8 0, .int .u64 0] 80) (g := w.heap.size + 2) (by simp)
    have HO1 := Aside.mk hO1
    have HC1 := Aside.mk hC1
    have HEE := Aside.mk hE
    clear hO1 hC1 hE
    go_enter Tryz.func53, Tryz.ntmps53
    go_wp2_with (go_at_call 92; refine (hc _ _ (by omega) (by omega) (by omega) (by omega) _).mono ?_; rintro e w1 ⟨rfl, rfl⟩)
    refine (rmayChange_c 2 (N 1 5) 0 0 hm0 hq0 _).mono ?_
    rintro e w2 ⟨rfl, hb2⟩
    obtain ⟨⟨o0, o1, o2, o3⟩, f0, f1, f2, f3⟩ := four (below_keep hb2 HO1.out)
    obtain ⟨⟨d0, d1, d2, d3⟩, g0, g1, g2, g3⟩ := four (below_keep hb2 HC1.out)
    by_cases hm : (PChange.mk 2 (N 1 5) 0 0).may = true
    · have HE := Aside.mk (HEE.out.trans (if_pos hm))
      have HV := Aside.mk ((show changeV s = rdChange s from if_pos HE.out).trans HL2.out)
      have HM := Aside.mk hm
      clear hm
      rw [HM.out]
      go_wp2_with fail
      go_tidy
      refine bodyPost_ret (v := .tuple #[changeVal ⟨2, (N 1 5), 0, 0⟩, .int .i64 0]) (by simp [results, Tryz.results53, go_sem, o0, o1, o2, o3]; rfl) rfl ⟨by rw [HE.out, HV.out], ?_⟩
      repeat (first | (with_reducible first | exact Below.refl _ _ | assumption | refine below_drewN ?_ _ | refine Below.drew ?_ | refine below_alloc ?_ _) | (with_reducible refine below_set ?_ ?side _; (case side => first | omega | (simp; omega) | (simp only [World.size_alloc]; omega))) | (with_reducible refine below_trans ?_ (by assumption)))
    · have HE := Aside.mk (HEE.out.trans (if_neg hm))
      have HV := Aside.mk (show changeV s = PChange.zero from if_neg (by rw [HE.out]; decide))
      have HM := Aside.mk (Bool.eq_false_iff.2 hm)
      clear hm
      rw [HM.out]
      go_wp2_with fail
      go_tidy
      refine bodyPost_ret (v := .tuple #[changeVal PChange.zero, .int .i64 4]) (by simp [results, Tryz.results53, go_sem, o0, o1, o2, o3]; rfl) rfl ⟨by rw [HE.out, HV.out], ?_⟩
      repeat (first | (with_reducible first | exact Below.refl _ _ | assumption | refine below_drewN ?_ _ | refine Below.drew ?_ | refine below_alloc ?_ _) | (with_reducible refine below_set ?_ ?side _; (case side => first | omega | (simp; omega) | (simp only [World.size_alloc]; omega))) | (with_reducible refine below_trans ?_ (by assumption)))
  · have HE := Aside.mk (change_more HNE.out HBAD.out HL1.out hmore.out)
    have HV := Aside.mk (show changeV s = PChange.zero from if_neg (by rw [HE.out]; decide))
    obtain ⟨⟨o0, o1, o2, o3⟩, f0, f1, f2, f3⟩ := four (heap_alloc HO.out (.cells #[.int .i64 0, .int .i64 5, .int .i64 5, .int .i64 10, .int .i64 9] 3))
    go_enter Tryz.func53, Tryz.ntmps53
    go_wp2_with fail
    go_tidy
    refine bodyPost_ret (v := .tuple #[changeVal PChange.zero, .int .i64 4]) (by simp [results, Tryz.results53, go_sem, o0, o1, o2, o3]; rfl) rfl ⟨by rw [HE.out, HV.out], ?_⟩
    repeat (first | (with_reducible first | exact Below.refl _ _ | assumption | refine below_drewN ?_ _ | refine Below.drew ?_ | refine below_alloc ?_ _) | (with_reducible refine below_set ?_ ?side _; (case side => first | omega | (simp; omega) | (simp only [World.size_alloc]; omega))) | (with_reducible refine below_trans ?_ (by assumption)))
set_option maxHeartbeats 4000000 in
set_option maxRecDepth 100000 in
theorem rTakeChange4_c (s : ByteArray) (hs : s.size < 4611686018427387904) (h0 : 0 < s.size) (hK : (s[0]).toNat = 4) (w : World) :
    Calls Tryz.prog 53 #[.string s] w (Ret w (.tuple #[changeVal (changeV s), .int .i64 (changeE s)])) := by
  have hW := (what_first h0).trans hK
  have hbad : ¬ (rdWhat s = 0 ∨ 4 < rdWhat s) := by omega
  have HBAD := Aside.mk hbad
  have HNE := Aside.mk (show s.size ≠ 0 by omega)
  have hpi : (0 : Int) < (s.size : Int) := by omega
  have HO := Aside.mk (heap_new w (.cells #[.int .u8 0, .int .u64 0, .int .u8 0, .int .u64 0] 80))
  have HW := Aside.mk hW
  clear hbad hW
  have hte : (s.toList == ([] : List UInt8)) = false := by have := HNE.out; simpa [toList_nil] using this
  by_cases hsh : s.size < 9
  · have HE := Aside.mk (change_torn HNE.out HBAD.out (ch4_short HW.out hsh))
    have HV := Aside.mk (show changeV s = PChange.zero from if_neg (by rw [HE.out]; decide))
    obtain ⟨⟨o0, o1, o2, o3⟩, f0, f1, f2, f3⟩ := four (heap_alloc HO.out (.cells #[.int .i64 0, .int .i64 5, .int .i64 5, .int .i64 10, .int .i64 9] 3))
    go_enter Tryz.func53, Tryz.ntmps53
    go_wp2_with fail
    go_tidy
    refine bodyPost_ret (v := .tuple #[changeVal PChange.zero, .int .i64 10]) (by simp [results, Tryz.results53, go_sem, o0, o1, o2, o3]; rfl) rfl ⟨by rw [HE.out, HV.out], ?_⟩
    repeat (first | (with_reducible first | exact Below.refl _ _ | assumption | refine below_drewN ?_ _ | refine Below.drew ?_ | refine below_alloc ?_ _) | (with_reducible refine below_set ?_ ?side _; (case side => first | omega | (simp; omega) | (simp only [World.size_alloc]; omega))) | (with_reducible refine below_trans ?_ (by assumption)))
  have hL := ch4_long HW.out (by omega)
  have h1 : (1 : Int) < (s.size : Int) := by omega
  have hor : (Aside (9 = s.size) ∧ (s.size : Int) ≤ 9) ∨ (Aside (9 < s.size) ∧ (9 : Int) < (s.size : Int)) := by
    by_cases hx : 9 = s.size
    · exact .inl ⟨⟨hx⟩, by omega⟩
    · exact .inr ⟨⟨by omega⟩, by omega⟩
  have hge : (9 : Int) ≤ (s.size : Int) := by omega
  have HL1 := Aside.mk hL.1
  obtain ⟨N, hN, hc⟩ : ∃ N : Int → Int → Int, (∀ f t, N f t = be (s.extract f.toNat t.toNat).data.toList) ∧ ∀ (f t : Int), 0 ≤ f → f ≤ t → t ≤ s.size → t - f ≤ 8 → ∀ w, Calls Tryz.prog 92 #[.string s, .int .i64 f, .int .i64 t] w fun e w' => e = .returned (.int .u64 (N f t)) ∧ w = w' :=
    ⟨fun f t => be (s.extract f.toNat t.toNat).data.toList, fun _ _ => rfl, fun f t h0 h1 h2 h3 w => rnum_i s f t h0 h1 h2 h3 hs w⟩
  have hL2 : rdChange s = ⟨4, (N 1 9), 0, 0⟩ := by rw [hL.2, hN]; rfl
  have b1 : 0 ≤ N 1 9 := by rw [hN]; omega
  have hm0 : (0 : Int) ≤ (N 1 9) := by first | exact b1 | omega
  have hq0 : (0 : Int) ≤ 0 := by omega
  have HL2 := Aside.mk hL2
  clear hL hN hL2
  rcases hor with ⟨hmore, hle⟩ | ⟨hmore, hlt⟩
  · have hE := change_all HNE.out HBAD.out HL1.out hmore.out
    rw [HL2.out] at hE
    have hO1 := heap_alloc (heap_alloc HO.out (.cells #[.int .i64 0, .int .i64 5, .int .i64 5, .int .i64 10, .int .i64 9] 3)) (.cells #[.int .u8 4, .int .u64 (N 1 9), .int .u8 0, .int .u64 0] 80)
    have hC1 := heap_new' ((w.alloc (.cells #[.int .u8 0, .int .u64 0, .int .u8 0, .int .u64 0] 80)).alloc (.cells #[.int .i64 0, .int .i64 5, .int .i64 5, .int .i64 10, .int .i64 9] 3)) (.cells #[.int .u8 4, .int .u64 (N 1 9), .int .u8 0, .int .u64 0] 80) (g := w.heap.size + 2) (by simp)
    have HO1 := Aside.mk hO1
    have HC1 := Aside.mk hC1
    have HEE := Aside.mk hE
    clear hO1 hC1 hE
    go_enter Tryz.func53, Tryz.ntmps53
    go_wp2_with (go_at_call 92; refine (hc _ _ (by omega) (by omega) (by omega) (by omega) _).mono ?_; rintro e w1 ⟨rfl, rfl⟩)
    refine (rmayChange_c 4 (N 1 9) 0 0 hm0 hq0 _).mono ?_
    rintro e w2 ⟨rfl, hb2⟩
    obtain ⟨⟨o0, o1, o2, o3⟩, f0, f1, f2, f3⟩ := four (below_keep hb2 HO1.out)
    obtain ⟨⟨d0, d1, d2, d3⟩, g0, g1, g2, g3⟩ := four (below_keep hb2 HC1.out)
    by_cases hm : (PChange.mk 4 (N 1 9) 0 0).may = true
    · have HE := Aside.mk (HEE.out.trans (if_pos hm))
      have HV := Aside.mk ((show changeV s = rdChange s from if_pos HE.out).trans HL2.out)
      have HM := Aside.mk hm
      clear hm
      rw [HM.out]
      go_wp2_with fail
      go_tidy
      refine bodyPost_ret (v := .tuple #[changeVal ⟨4, (N 1 9), 0, 0⟩, .int .i64 0]) (by simp [results, Tryz.results53, go_sem, o0, o1, o2, o3]; rfl) rfl ⟨by rw [HE.out, HV.out], ?_⟩
      repeat (first | (with_reducible first | exact Below.refl _ _ | assumption | refine below_drewN ?_ _ | refine Below.drew ?_ | refine below_alloc ?_ _) | (with_reducible refine below_set ?_ ?side _; (case side => first | omega | (simp; omega) | (simp only [World.size_alloc]; omega))) | (with_reducible refine below_trans ?_ (by assumption)))
    · have HE := Aside.mk (HEE.out.trans (if_neg hm))
      have HV := Aside.mk (show changeV s = PChange.zero from if_neg (by rw [HE.out]; decide))
      have HM := Aside.mk (Bool.eq_false_iff.2 hm)
      clear hm
      rw [HM.out]
      go_wp2_with fail
      go_tidy
      refine bodyPost_ret (v := .tuple #[changeVal PChange.zero, .int .i64 4]) (by simp [results, Tryz.results53, go_sem, o0, o1, o2, o3]; rfl) rfl ⟨by rw [HE.out, HV.out], ?_⟩
      repeat (first | (with_reducible first | exact Below.refl _ _ | assumption | refine below_drewN ?_ _ | refine Below.drew ?_ | refine below_alloc ?_ _) | (with_reducible refine below_set ?_ ?side _; (case side => first | omega | (simp; omega) | (simp only [World.size_alloc]; omega))) | (with_reducible refine below_trans ?_ (by assumption)))
  · have HE := Aside.mk (change_more HNE.out HBAD.out HL1.out hmore.out)
    have HV := Aside.mk (show changeV s = PChange.zero from if_neg (by rw [HE.out]; decide))
    obtain ⟨⟨o0, o1, o2, o3⟩, f0, f1, f2, f3⟩ := four (heap_alloc HO.out (.cells #[.int .i64 0, .int .i64 5, .int .i64 5, .int .i64 10, .int .i64 9] 3))
    go_enter Tryz.func53, Tryz.ntmps53
    go_wp2_with fail
    go_tidy
    refine bodyPost_ret (v := .tuple #[changeVal PChange.zero, .int .i64 4]) (by simp [results, Tryz.results53, go_sem, o0, o1, o2, o3]; rfl) rfl ⟨by rw [HE.out, HV.out], ?_⟩
    repeat (first | (with_reducible first | exact Below.refl _ _ | assumption | refine below_drewN ?_ _ | refine Below.drew ?_ | refine below_alloc ?_ _) | (with_reducible refine below_set ?_ ?side _; (case side => first | omega | (simp; omega) | (simp only [World.size_alloc]; omega))) | (with_reducible refine below_trans ?_ (by assumption)))
set_option maxHeartbeats 4000000 in
set_option maxRecDepth 100000 in
theorem rTakeChange3_c (s : ByteArray) (hs : s.size < 4611686018427387904) (h0 : 0 < s.size) (hK : (s[0]).toNat = 3) (w : World) :
    Calls Tryz.prog 53 #[.string s] w (Ret w (.tuple #[changeVal (changeV s), .int .i64 (changeE s)])) := by
  have hW := (what_first h0).trans hK
  have hbad : ¬ (rdWhat s = 0 ∨ 4 < rdWhat s) := by omega
  have HBAD := Aside.mk hbad
  have HNE := Aside.mk (show s.size ≠ 0 by omega)
  have hpi : (0 : Int) < (s.size : Int) := by omega
  have HO := Aside.mk (heap_new w (.cells #[.int .u8 0, .int .u64 0, .int .u8 0, .int .u64 0] 80))
  have HW := Aside.mk hW
  clear hbad hW
  have hte : (s.toList == ([] : List UInt8)) = false := by have := HNE.out; simpa [toList_nil] using this
  by_cases hsh : s.size < 10
  · have HE := Aside.mk (change_torn HNE.out HBAD.out (ch3_short HW.out hsh))
    have HV := Aside.mk (show changeV s = PChange.zero from if_neg (by rw [HE.out]; decide))
    obtain ⟨⟨o0, o1, o2, o3⟩, f0, f1, f2, f3⟩ := four (heap_alloc HO.out (.cells #[.int .i64 0, .int .i64 5, .int .i64 5, .int .i64 10, .int .i64 9] 3))
    go_enter Tryz.func53, Tryz.ntmps53
    go_wp2_with fail
    go_tidy
    refine bodyPost_ret (v := .tuple #[changeVal PChange.zero, .int .i64 10]) (by simp [results, Tryz.results53, go_sem, o0, o1, o2, o3]; rfl) rfl ⟨by rw [HE.out, HV.out], ?_⟩
    repeat (first | (with_reducible first | exact Below.refl _ _ | assumption | refine below_drewN ?_ _ | refine Below.drew ?_ | refine below_alloc ?_ _) | (with_reducible refine below_set ?_ ?side _; (case side => first | omega | (simp; omega) | (simp only [World.size_alloc]; omega))) | (with_reducible refine below_trans ?_ (by assumption)))
  have hL := ch3_long HW.out (by omega)
  have h1 : (1 : Int) < (s.size : Int) := by omega
  have hor : (Aside (10 = s.size) ∧ (s.size : Int) ≤ 10) ∨ (Aside (10 < s.size) ∧ (10 : Int) < (s.size : Int)) := by
    by_cases hx : 10 = s.size
    · exact .inl ⟨⟨hx⟩, by omega⟩
    · exact .inr ⟨⟨by omega⟩, by omega⟩
  have hge : (10 : Int) ≤ (s.size : Int) := by omega
  have HL1 := Aside.mk hL.1
  obtain ⟨N, hN, hc⟩ : ∃ N : Int → Int → Int, (∀ f t, N f t = be (s.extract f.toNat t.toNat).data.toList) ∧ ∀ (f t : Int), 0 ≤ f → f ≤ t → t ≤ s.size → t - f ≤ 8 → ∀ w, Calls Tryz.prog 92 #[.string s, .int .i64 f, .int .i64 t] w fun e w' => e = .returned (.int .u64 (N f t)) ∧ w = w' :=
    ⟨fun f t => be (s.extract f.toNat t.toNat).data.toList, fun _ _ => rfl, fun f t h0 h1 h2 h3 w => rnum_i s f t h0 h1 h2 h3 hs w⟩
  have hL2 : rdChange s = ⟨3, 0, ((s[1]).toNat), (N 2 10)⟩ := by rw [hL.2, hN]; rfl
  have b1 : 0 ≤ N 2 10 := by rw [hN]; omega
  have hm0 : (0 : Int) ≤ 0 := by first | exact b1 | omega
  have hq0 : (0 : Int) ≤ ((s[1]).toNat) := by omega
  have HL2 := Aside.mk hL2
  clear hL hN hL2
  rcases hor with ⟨hmore, hle⟩ | ⟨hmore, hlt⟩
  · have hE := change_all HNE.out HBAD.out HL1.out hmore.out
    rw [HL2.out] at hE
    have hO1 := heap_alloc (heap_alloc HO.out (.cells #[.int .i64 0, .int .i64 5, .int .i64 5, .int .i64 10, .int .i64 9] 3)) (.cells #[.int .u8 3, .int .u64 0, .int .u8 ((s[1]).toNat), .int .u64 (N 2 10)] 80)
    have hC1 := heap_new' ((w.alloc (.cells #[.int .u8 0, .int .u64 0, .int .u8 0, .int .u64 0] 80)).alloc (.cells #[.int .i64 0, .int .i64 5, .int .i64 5, .int .i64 10, .int .i64 9] 3)) (.cells #[.int .u8 3, .int .u64 0, .int .u8 ((s[1]).toNat), .int .u64 (N 2 10)] 80) (g := w.heap.size + 2) (by simp)
    have HO1 := Aside.mk hO1
    have HC1 := Aside.mk hC1
    have HEE := Aside.mk hE
    clear hO1 hC1 hE
    go_enter Tryz.func53, Tryz.ntmps53
    go_wp2_with (go_at_call 92; refine (hc _ _ (by omega) (by omega) (by omega) (by omega) _).mono ?_; rintro e w1 ⟨rfl, rfl⟩)
    refine (rmayChange_c 3 0 ((s[1]).toNat) (N 2 10) hm0 hq0 _).mono ?_
    rintro e w2 ⟨rfl, hb2⟩
    obtain ⟨⟨o0, o1, o2, o3⟩, f0, f1, f2, f3⟩ := four (below_keep hb2 HO1.out)
    obtain ⟨⟨d0, d1, d2, d3⟩, g0, g1, g2, g3⟩ := four (below_keep hb2 HC1.out)
    by_cases hm : (PChange.mk 3 0 ((s[1]).toNat) (N 2 10)).may = true
    · have HE := Aside.mk (HEE.out.trans (if_pos hm))
      have HV := Aside.mk ((show changeV s = rdChange s from if_pos HE.out).trans HL2.out)
      have HM := Aside.mk hm
      clear hm
      rw [HM.out]
      go_wp2_with fail
      go_tidy
      refine bodyPost_ret (v := .tuple #[changeVal ⟨3, 0, ((s[1]).toNat), (N 2 10)⟩, .int .i64 0]) (by simp [results, Tryz.results53, go_sem, o0, o1, o2, o3]; rfl) rfl ⟨by rw [HE.out, HV.out], ?_⟩
      repeat (first | (with_reducible first | exact Below.refl _ _ | assumption | refine below_drewN ?_ _ | refine Below.drew ?_ | refine below_alloc ?_ _) | (with_reducible refine below_set ?_ ?side _; (case side => first | omega | (simp; omega) | (simp only [World.size_alloc]; omega))) | (with_reducible refine below_trans ?_ (by assumption)))
    · have HE := Aside.mk (HEE.out.trans (if_neg hm))
      have HV := Aside.mk (show changeV s = PChange.zero from if_neg (by rw [HE.out]; decide))
      have HM := Aside.mk (Bool.eq_false_iff.2 hm)
      clear hm
      rw [HM.out]
      go_wp2_with fail
      go_tidy
      refine bodyPost_ret (v := .tuple #[changeVal PChange.zero, .int .i64 4]) (by simp [results, Tryz.results53, go_sem, o0, o1, o2, o3]; rfl) rfl ⟨by rw [HE.out, HV.out], ?_⟩
      repeat (first | (with_reducible first | exact Below.refl _ _ | assumption | refine below_drewN ?_ _ | refine Below.drew ?_ | refine below_alloc ?_ _) | (with_reducible refine below_set ?_ ?side _; (case side => first | omega | (simp; omega) | (simp only [World.size_alloc]; omega))) | (with_reducible refine below_trans ?_ (by assumption)))
  · have HE := Aside.mk (change_more HNE.out HBAD.out HL1.out hmore.out)
    have HV := Aside.mk (show changeV s = PChange.zero from if_neg (by rw [HE.out]; decide))
    obtain ⟨⟨o0, o1, o2, o3⟩, f0, f1, f2, f3⟩ := four (heap_alloc HO.out (.cells #[.int .i64 0, .int .i64 5, .int .i64 5, .int .i64 10, .int .i64 9] 3))
    go_enter Tryz.func53, Tryz.ntmps53
    go_wp2_with fail
    go_tidy
    refine bodyPost_ret (v := .tuple #[changeVal PChange.zero, .int .i64 4]) (by simp [results, Tryz.results53, go_sem, o0, o1, o2, o3]; rfl) rfl ⟨by rw [HE.out, HV.out], ?_⟩
    repeat (first | (with_reducible first | exact Below.refl _ _ | assumption | refine below_drewN ?_ _ | refine Below.drew ?_ | refine below_alloc ?_ _) | (with_reducible refine below_set ?_ ?side _; (case side => first | omega | (simp; omega) | (simp only [World.size_alloc]; omega))) | (with_reducible refine below_trans ?_ (by assumption)))
set_option maxHeartbeats 4000000 in
set_option maxRecDepth 100000 in
theorem rTakeChange_c (s : ByteArray) (hs : s.size < 4611686018427387904) (w : World) :
    Calls Tryz.prog 53 #[.string s] w (Ret w (.tuple #[changeVal (changeV s), .int .i64 (changeE s)])) := by
  have hO := heap_new w (.cells #[.int .u8 0, .int .u64 0, .int .u8 0, .int .u64 0] 80)
  by_cases h0 : s.size = 0
  · have HE := Aside.mk (show changeE s = 10 from if_pos h0)
    have HV := Aside.mk (show changeV s = PChange.zero from if_neg (by rw [HE.out]; decide))
    have hte : (s.toList == ([] : List UInt8)) = true := by simpa [toList_nil] using h0
    obtain ⟨⟨o0, o1, o2, o3⟩, f0, f1, f2, f3⟩ := four hO
    clear h0
    go_enter Tryz.func53, Tryz.ntmps53
    go_wp2_with fail
    go_tidy
    refine bodyPost_ret (v := .tuple #[changeVal PChange.zero, .int .i64 10]) (by simp [results, Tryz.results53, go_sem, o0, o1, o2, o3]; rfl) rfl ⟨by rw [HE.out, HV.out], ?_⟩
    repeat (first | (with_reducible first | exact Below.refl _ _ | assumption | refine below_drewN ?_ _ | refine Below.drew ?_ | refine below_alloc ?_ _) | (with_reducible refine below_set ?_ ?side _; (case side => first | omega | (simp; omega) | (simp only [World.size_alloc]; omega))) | (with_reducible refine below_trans ?_ (by assumption)))
  have hp : 0 < s.size := by omega
  by_cases k1 : (s[0]).toNat = 1
  · exact rTakeChange1_c s hs hp k1 w
  by_cases k2 : (s[0]).toNat = 2
  · exact rTakeChange2_c s hs hp k2 w
  by_cases k3 : (s[0]).toNat = 3
  · exact rTakeChange3_c s hs hp k3 w
  by_cases k4 : (s[0]).toNat = 4
  · exact rTakeChange4_c s hs hp k4 w
  have hlt := (s[0]).toNat_lt
  have hbad : rdWhat s = 0 ∨ 4 < rdWhat s := by rw [what_first hp]; omega
  have HE := Aside.mk (show changeE s = 4 by unfold changeE; rw [if_neg h0, if_pos hbad])
  have HV := Aside.mk (show changeV s = PChange.zero from if_neg (by rw [HE.out]; decide))
  have hte : (s.toList == ([] : List UInt8)) = false := by simpa [toList_nil] using h0
  have hpi : (0 : Int) < (s.size : Int) := by omega
  obtain ⟨⟨o0, o1, o2, o3⟩, f0, f1, f2, f3⟩ := four hO
  have hor : ((s[0]).toNat : Int) < 1 ∨ (4 : Int) < ((s[0]).toNat : Int) := by omega
  clear h0 k1 k2 k3 k4 hbad
  rcases hor with hq | hq
  · go_enter Tryz.func53, Tryz.ntmps53
    go_wp2_with fail
    go_tidy
    refine bodyPost_ret (v := .tuple #[changeVal PChange.zero, .int .i64 4]) (by simp [results, Tryz.results53, go_sem, o0, o1, o2, o3]; rfl) rfl ⟨by rw [HE.out, HV.out], ?_⟩
    repeat (first | (with_reducible first | exact Below.refl _ _ | assumption | refine below_drewN ?_ _ | refine Below.drew ?_ | refine below_alloc ?_ _) | (with_reducible refine below_set ?_ ?side _; (case side => first | omega | (simp; omega) | (simp only [World.size_alloc]; omega))) | (with_reducible refine below_trans ?_ (by assumption)))
  · have hq2 : (1 : Int) ≤ ((s[0]).toNat : Int) := by omega
    go_enter Tryz.func53, Tryz.ntmps53
    go_wp2_with fail
    go_tidy
    refine bodyPost_ret (v := .tuple #[changeVal PChange.zero, .int .i64 4]) (by simp [results, Tryz.results53, go_sem, o0, o1, o2, o3]; rfl) rfl ⟨by rw [HE.out, HV.out], ?_⟩
    repeat (first | (with_reducible first | exact Below.refl _ _ | assumption | refine below_drewN ?_ _ | refine Below.drew ?_ | refine below_alloc ?_ _) | (with_reducible refine below_set ?_ ?side _; (case side => first | omega | (simp; omega) | (simp only [World.size_alloc]; omega))) | (with_reducible refine below_trans ?_ (by assumption)))
end Go.Proofs.YtmggpfngbkbkmaaGreatDoor
/- What rillbedref08 does: Check, Trim, byteAt, May. -/
namespace Go.Proofs.YtmggpfngbkbkmaaGreatDoor
open Go.RowKit
set_option linter.unusedVariables false
set_option linter.unusedSimpArgs false

set_option maxRecDepth 100000 in
theorem rCheck_c (s : ByteArray) (hs : s.size < 4611686018427387904) (w : World) :
    Calls Tryz.prog 137 #[.string s] w fun e w' => e = .returned (.int .i64 (blkCheck s)) ∧ w = w' := by
  by_cases h0 : s.size = 0
  · have HE := Aside.mk (show blkCheck s = 4 from if_pos (.inl h0))
    go_enter Tryz.func137, Tryz.ntmps137
    go_wp2
    go_ret
    exact ⟨by rw [HE.out]; rfl, rfl⟩
  · obtain ⟨n, hn⟩ : ∃ n, s.size = n + 1 := ⟨s.size - 1, by omega⟩
    have hlast := last_of hn
    have e1 : ((n : Int) + 1 == 0) = false := beq_eq_false_iff_ne.2 (by omega)
    by_cases hb : 64 < s.size
    · have HE := Aside.mk (show blkCheck s = 4 from if_pos (.inr (.inl hb)))
      clear hlast h0
      go_enter Tryz.func137, Tryz.ntmps137
      go_wp2
      go_ret
      exact ⟨by rw [HE.out]; rfl, rfl⟩
    · by_cases hz : s[n] = 0
      · have HE := Aside.mk (show blkCheck s = 4 from if_pos (.inr (.inr (by rw [hlast, hz]))))
        have e0 : (((s[n]).toNat : Int) == 0) = true := by rw [hz]; rfl
        clear hlast h0 hz
        go_enter Tryz.func137, Tryz.ntmps137
        go_wp2
        go_ret
        exact ⟨by rw [HE.out]; rfl, rfl⟩
      · have HE := Aside.mk (show blkCheck s = 0 from if_neg (fun h => h.elim h0 (fun h => h.elim hb (fun h => hz (by rw [hlast] at h; injection h)))))
        have e0 := byte_ne hz
        clear hlast h0 hz
        go_enter Tryz.func137, Tryz.ntmps137
        go_wp2
        go_ret
        exact ⟨by rw [HE.out]; rfl, rfl⟩
set_option maxHeartbeats 1000000 in
set_option maxRecDepth 100000 in
theorem rpatchMay_c (c : Bool) (a n : Int) (s : ByteArray) (hs : s.size < 4611686018427387904) (w : World) :
    Calls Tryz.prog 89 #[.agg #[.bool c, .int .i64 a, .int .i64 n, .string s]] w (Ret w (.bool (PPatch.mk c a n s).may)) := by
  by_cases h0 : s.size = 0
  · obtain rfl : s = ByteArray.empty := ba_ext (List.eq_nil_of_length_eq_zero (by simpa using h0))
    clear h0 hs
    cases c
    all_goals
      go_enter Tryz.func89, Tryz.ntmps89
      go_wp2_with fail
    all_goals (go_ret; go_tidy)
    all_goals (refine ⟨ret_bool ?_, (by repeat (first | (with_reducible first | exact Below.refl _ _ | assumption | refine below_drewN ?_ _ | refine Below.drew ?_ | refine below_alloc ?_ _) | (with_reducible refine below_set ?_ ?side _; (case side => first | omega | (simp; omega) | (simp only [World.size_alloc]; omega))) | (with_reducible refine below_trans ?_ (by assumption))))⟩)
    all_goals (simp_all [PPatch.may] <;> try (first | rfl | omega))
  · have hne : ¬ s = ByteArray.empty := fun h => h0 (by rw [h]; rfl)
    have h1 : (1 : Int) ≤ s.size := by omega
    cases c
    all_goals
      go_enter Tryz.func89, Tryz.ntmps89
      go_wp2_with fail
    all_goals (go_ret; go_tidy)
    all_goals (refine ⟨ret_bool ?_, (by repeat (first | (with_reducible first | exact Below.refl _ _ | assumption | refine below_drewN ?_ _ | refine Below.drew ?_ | refine below_alloc ?_ _) | (with_reducible refine below_set ?_ ?side _; (case side => first | omega | (simp; omega) | (simp only [World.size_alloc]; omega))) | (with_reducible refine below_trans ?_ (by assumption))))⟩)
    all_goals (simp_all [PPatch.may] <;> try (first | rfl | omega | (rw [decide_eq_true (by omega), Bool.true_and]; rfl)))
set_option maxRecDepth 100000 in
theorem byteAt_c (s : ByteArray) (hs : s.size < 4611686018427387904) (i : Nat) (w : World) :
    Calls Tryz.prog 90 #[.string s, .int .i64 i] w fun e w' => e = .returned (.int .u8 (s.data.toList.getD i 0).toNat) ∧ w = w' := by
  by_cases hin : i < s.size
  · have HC := Aside.mk (getD_in hin)
    go_enter Tryz.func90, Tryz.ntmps90
    go_wp2
    go_ret
    exact ⟨by rw [HC.out]; rfl, rfl⟩
  · have HC := Aside.mk (getD_out (l := s) (i := i) (by omega))
    go_enter Tryz.func90, Tryz.ntmps90
    go_wp2
    go_ret
    exact ⟨by rw [HC.out]; rfl, rfl⟩
theorem ext_self' (s : ByteArray) : s.extract 0 s.size = s := by apply ba_ext; simp
set_option maxRecDepth 100000 in
theorem rTrim_c (s : ByteArray) (hs : s.size < 4611686018427387904) (w : World) :
    Calls Tryz.prog 91 #[.string s] w fun e w' => e = .returned (.string (trimB s)) ∧ w = w' := by
  go_enter Tryz.func91, Tryz.ntmps91
  go_wp2
  go_loop [3] (fun i => ∃ k : Nat, k ≤ s.size ∧ i = .int .i64 k ∧ trimB (s.extract 0 k) = trimB s) (fun i => (intOf i).toNat)
  case atStart => exact ⟨s.size, Nat.le_refl _, rfl, by rw [ext_self']⟩
  case round =>
    obtain ⟨k, hk, rfl, hts⟩ := hrel
    have HT := Aside.mk hts
    clear hts
    cases k with
    | zero =>
      have HE := Aside.mk (trimB_empty (t := s.extract 0 0) (by simp))
      go_wp2
      go_ret
      exact ⟨by rw [← HT.out, HE.out, show s.extract 0 0 = ⟨#[]⟩ from ba_ext (by simp)]; rfl, rfl⟩
    | succ n =>
      have hsz : (s.extract 0 (n + 1)).size = n + 1 := by simp; omega
      have hget : (s.extract 0 (n + 1))[n] = s[n] := by simp [ByteArray.getElem_extract]
      have hn : n < s.size := by omega
      by_cases hz : s[n] = 0
      · have HZ := Aside.mk (trimB_zero hsz (hget.trans hz))
        have e0 : (((s[n]).toNat : Int) == 0) = true := by rw [hz]; rfl
        clear hz hget hsz
        go_wp2
        go_round
        case rel => exact ⟨n, by omega, by go_num, by rw [← HT.out, ← HZ.out]; congr 1; apply ba_ext; simp [List.take_take]⟩
        case measure => simp [intOf]
      · have HZ := Aside.mk (trimB_ne hsz (by rw [hget]; exact hz))
        have e0 := byte_ne hz
        clear hz hget hsz
        go_wp2
        go_ret
        exact ⟨by rw [← HT.out, HZ.out]; rfl, rfl⟩
end Go.Proofs.YtmggpfngbkbkmaaGreatDoor
/- What rillbedref08 does (2): Take. -/
namespace Go.Proofs.YtmggpfngbkbkmaaGreatDoor
open Go.RowKit
set_option linter.unusedVariables false
set_option linter.unusedSimpArgs false

theorem patchE_torn {s : ByteArray} (h0 : s.size ≠ 0) (hk : numV (some s) 1 = 1 ∨ numV (some s) 1 = 2) (h : rdPatchR s = none) : patchE s = 10 := by
  unfold patchE; rw [if_neg h0, if_neg (by omega), if_pos h]
theorem patchE_more {s t : ByteArray} (h0 : s.size ≠ 0) (hk : numV (some s) 1 = 1 ∨ numV (some s) 1 = 2) (h : rdPatchR s = some t) (ht : t.size ≠ 0) : patchE s = 4 := by
  unfold patchE; rw [if_neg h0, if_neg (by omega), h, if_neg (by simp), if_neg (fun h => absurd h.1 (by simp [wholeE, ht]))]
theorem patchE_yes {s t : ByteArray} {p : PPatch} (h0 : s.size ≠ 0) (hk : numV (some s) 1 = 1 ∨ numV (some s) 1 = 2) (h : rdPatchR s = some t) (ht : t.size = 0) (hp : rdPatch s = p) (hm : p.may = true) : patchE s = 0 := by
  unfold patchE; rw [if_neg h0, if_neg (by omega), h, if_neg (by simp), if_pos ⟨by simp [wholeE, ht], by rw [hp, hm]⟩]
theorem patchE_no {s t : ByteArray} {p : PPatch} (h0 : s.size ≠ 0) (hk : numV (some s) 1 = 1 ∨ numV (some s) 1 = 2) (h : rdPatchR s = some t) (hp : rdPatch s = p) (hm : p.may = false) : patchE s = 4 := by
  unfold patchE; rw [if_neg h0, if_neg (by omega), h, if_neg (by simp), if_neg (fun h => by rw [hp, hm] at h; exact absurd h.2 (by decide))]
theorem numV_first {s : ByteArray} (h0 : 0 < s.size) : numV (some s) 1 = (s[0]).toNat := by
  have := numV_ext s 0 1 (by omega)
  rw [ext_self, be_one s 0 h0] at this
  exact this
theorem k2_short {s : ByteArray} (h0 : 0 < s.size) (hk : (s[0]).toNat = 2) (h : s.size < 2) : rdPatchR s = none := by
  unfold rdPatchR
  rw [if_pos (by rw [numV_first h0, hk])]
  conv => lhs; arg 1; rw [← ext_self s]
  rw [fixR_ext s 0 1 (by omega), fixR_short s _ 1 (by omega) (by omega)]
theorem k2_long {s : ByteArray} (h : 2 ≤ s.size) (hk : (s[0]).toNat = 2) : rdPatchR s = some (s.extract 2 s.size) ∧ rdPatch s = ⟨true, 0, (s[1]).toNat, ⟨#[]⟩⟩ := by
  have e : some s = some (s.extract 0 s.size) := by rw [ext_self]
  have hn : numV (some s) 1 = 2 := by rw [numV_first (by omega), hk]
  have hr : fixR (some s) 1 = some (s.extract 1 s.size) := by rw [e, fixR_ext s _ 1 (by omega)]
  constructor
  · unfold rdPatchR; rw [if_pos hn, hr, fixR_ext s _ 1 (by omega)]
  · unfold rdPatch; rw [if_pos hn, hr, numV_ext s _ 1 (by omega), be_one s 1 (by omega)]
theorem be_two (s : ByteArray) (i : Nat) (h : i + 1 < s.size) : be (s.extract i (i + 2)).data.toList = (s[i]).toNat * 256 + (s[i + 1]).toNat := by
  have e1 := ext_snoc s i (i + 2) 1 (by omega) (by omega)
  have e2 := ext_snoc s i (i + 2) 0 (by omega) (by omega)
  rw [List.take_of_length_le (by simp; omega)] at e1
  rw [e1, be_snoc, e2]
  simp [be]
theorem k1_short {s : ByteArray} (h0 : 0 < s.size) (hk : (s[0]).toNat = 1) (h : s.size < 4) : rdPatchR s = none := by
  have e : some s = some (s.extract 0 s.size) := by rw [ext_self]
  have hn : numV (some s) 1 = 1 := by rw [numV_first (by omega), hk]
  unfold rdPatchR textR
  rw [if_neg (by rw [hn]; decide)]
  have : fixR (fixR (fixR (some s) 1) 1) 2 = none := by
    rw [e, fixR_ext s _ 1 (by omega)]
    by_cases h2 : s.size < 2
    · rw [fixR_short s _ 1 (by omega) (by omega)]; rfl
    · rw [fixR_ext s _ 1 (by omega), fixR_short s _ 2 (by omega) (by omega)]
  rw [this]; rfl
theorem k1_n {s : ByteArray} (h : 4 ≤ s.size) : numV (fixR (fixR (some s) 1) 1) 2 = (s[2]).toNat * 256 + (s[3]).toNat := by
  have e : some s = some (s.extract 0 s.size) := by rw [ext_self]
  rw [e, fixR_ext s _ 1 (by omega), fixR_ext s _ 1 (by omega), numV_ext s _ 2 (by omega), be_two s 2 (by omega)]
theorem k1_torn {s : ByteArray} (h : 4 ≤ s.size) (hk : (s[0]).toNat = 1) (hs : s.size < 4 + ((s[2]).toNat * 256 + (s[3]).toNat)) : rdPatchR s = none := by
  have e : some s = some (s.extract 0 s.size) := by rw [ext_self]
  have hn : numV (some s) 1 = 1 := by rw [numV_first (by omega), hk]
  unfold rdPatchR textR
  rw [if_neg (by rw [hn]; decide), k1_n h, e, fixR_ext s _ 1 (by omega), fixR_ext s _ 1 (by omega), fixR_ext s _ 2 (by omega), fixR_short s _ _ (by omega) (by omega)]
theorem k1_long {s : ByteArray} (h : 4 ≤ s.size) (hk : (s[0]).toNat = 1) (hs : 4 + ((s[2]).toNat * 256 + (s[3]).toNat) ≤ s.size) :
    rdPatchR s = some (s.extract (4 + ((s[2]).toNat * 256 + (s[3]).toNat)) s.size) ∧ rdPatch s = ⟨false, (s[1]).toNat, 0, s.extract 4 (4 + ((s[2]).toNat * 256 + (s[3]).toNat))⟩ := by
  have e : some s = some (s.extract 0 s.size) := by rw [ext_self]
  have hn : numV (some s) 1 = 1 := by rw [numV_first (by omega), hk]
  have hr : fixR (some s) 1 = some (s.extract 1 s.size) := by rw [e, fixR_ext s _ 1 (by omega)]
  have hr2 : fixR (fixR (some s) 1) 1 = some (s.extract 2 s.size) := by rw [hr, fixR_ext s _ 1 (by omega)]
  constructor
  · unfold rdPatchR textR; rw [if_neg (by rw [hn]; decide), k1_n h, hr2, fixR_ext s _ 2 (by omega), fixR_ext s _ _ (by omega)]
  · unfold rdPatch textV
    rw [if_neg (by rw [hn]; decide), k1_n h, hr2, fixR_ext s _ 2 (by omega), hr, numV_ext s _ 1 (by omega), be_one s 1 (by omega)]
    congr 1
    have hz : (s.extract 4 s.size).size = s.size - 4 := by simp
    show (if _ ≤ (s.extract 4 s.size).size then _ else _) = _
    rw [hz, if_pos (by omega), ext_ext]
    congr 1
    omega

set_option maxHeartbeats 4000000 in
set_option maxRecDepth 100000 in
theorem rpTake1_c (s : ByteArray) (hs : s.size < 4611686018427387904) (h4 : 4 ≤ s.size) (k1 : (s[0]).toNat = 1) (hn4 : 4 + ((s[2]).toNat * 256 + (s[3]).toNat) ≤ s.size) (w : World) :
    Calls Tryz.prog 50 #[.string s] w (Ret w (.tuple #[patchVal (patchV s), .int .i64 (patchE s)])) := by
  have HO := Aside.mk (heap_new w (.cells #[.bool false, .int .i64 0, .int .i64 0, .string ⟨#[]⟩] 69))
  have h0 : ¬ s.size = 0 := by omega
  have hp : 0 < s.size := by omega
  have hpi : (0 : Int) < (s.size : Int) := by omega
  have hp2 : (2 : Int) < (s.size : Int) := by omega
  have hp3 : (3 : Int) < (s.size : Int) := by omega
  have hge : (4 : Int) + (256 : Int) * ((s[2]).toNat : Int) + ((s[3]).toNat : Int) ≤ (s.size : Int) := by omega
  have HK := Aside.mk (numV_first hp)
  have HKK : Aside (numV (some s) 1 = 1 ∨ numV (some s) 1 = 2) := ⟨.inl (by rw [HK.out, k1])⟩
  have e1 : (((s[0]).toNat : Int) == 2) = false := by rw [k1]; rfl
  have e2 : (((s[0]).toNat : Int) != 1) = false := by rw [k1]; rfl
  have h2lt := (s[2]).toNat_lt
  have h3lt := (s[3]).toNat_lt
  have hL := k1_long (by omega) k1 (by omega)
  rw [show 4 + ((s[2]).toNat * 256 + (s[3]).toNat) = 4 + 256 * (s[2]).toNat + (s[3]).toNat by omega] at hL
  have hT : (s.extract 4 (4 + 256 * (s[2]).toNat + (s[3]).toNat)).size < 4611686018427387904 := by simp; omega
  have HR := Aside.mk hL.1
  have HP := Aside.mk hL.2
  clear hL
  have h1lt := (s[1]).toNat_lt
  have hO1' := fun n => (show (((w.alloc (.cells #[.bool false, .int .i64 0, .int .i64 0, .string ⟨#[]⟩] 69)).alloc (.cells #[.bool false, .int .i64 0, .int .i64 0, .string ⟨#[]⟩] 69)).drewN n).heap[w.heap.size]? = some (.cells #[.bool false, .int .i64 0, .int .i64 0, .string ⟨#[]⟩] 69) from heap_alloc HO.out (.cells #[.bool false, .int .i64 0, .int .i64 0, .string ⟨#[]⟩] 69))
  have hP1' := fun n => (show (((w.alloc (.cells #[.bool false, .int .i64 0, .int .i64 0, .string ⟨#[]⟩] 69)).alloc (.cells #[.bool false, .int .i64 0, .int .i64 0, .string ⟨#[]⟩] 69)).drewN n).heap[w.heap.size + 1]? = some (.cells #[.bool false, .int .i64 0, .int .i64 0, .string ⟨#[]⟩] 69) from heap_new' (w.alloc (.cells #[.bool false, .int .i64 0, .int .i64 0, .string ⟨#[]⟩] 69)) (.cells #[.bool false, .int .i64 0, .int .i64 0, .string ⟨#[]⟩] 69) (g := w.heap.size + 1) (by simp))
  have hO1 : ∀ n, (((((w.alloc (.cells #[.bool false, .int .i64 0, .int .i64 0, .string ⟨#[]⟩] 69)).alloc (.cells #[.bool false, .int .i64 0, .int .i64 0, .string ⟨#[]⟩] 69)).drewN n).setCell ⟨w.heap.size + 1, 1, none⟩ (.int .i64 ((s[1]).toNat))).setCell ⟨w.heap.size + 1, 3, none⟩ (.string (s.extract 4 (4 + 256 * (s[2]).toNat + (s[3]).toNat)))).heap[w.heap.size]? = some (.cells #[.bool false, .int .i64 0, .int .i64 0, .string ⟨#[]⟩] 69) := fun n => (heap_set_ne (by omega) 3 _).trans ((heap_set_ne (by omega) 1 _).trans (hO1' n))
  have hP1 : ∀ n, (((((w.alloc (.cells #[.bool false, .int .i64 0, .int .i64 0, .string ⟨#[]⟩] 69)).alloc (.cells #[.bool false, .int .i64 0, .int .i64 0, .string ⟨#[]⟩] 69)).drewN n).setCell ⟨w.heap.size + 1, 1, none⟩ (.int .i64 ((s[1]).toNat))).setCell ⟨w.heap.size + 1, 3, none⟩ (.string (s.extract 4 (4 + 256 * (s[2]).toNat + (s[3]).toNat)))).heap[w.heap.size + 1]? = some (.cells #[.bool false, .int .i64 ((s[1]).toNat), .int .i64 0, .string (s.extract 4 (4 + 256 * (s[2]).toNat + (s[3]).toNat))] 69 (0, 0)) := fun n => heap_set (heap_set (hP1' n) 1 _) 3 _
  have HO1 := Aside.mk hO1
  have HP1 := Aside.mk hP1
  clear hO1' hP1' hO1 hP1
  have hor : ((s.extract (4 + 256 * (s[2]).toNat + (s[3]).toNat) s.size).size = 0 ∧ (s.size : Int) ≤ (4 : Int) + (256 : Int) * ((s[2]).toNat : Int) + ((s[3]).toNat : Int)) ∨ ((s.extract (4 + 256 * (s[2]).toNat + (s[3]).toNat) s.size).size ≠ 0 ∧ (4 : Int) + (256 : Int) * ((s[2]).toNat : Int) + ((s[3]).toNat : Int) < (s.size : Int)) := by
    have hz : (s.extract (4 + 256 * (s[2]).toNat + (s[3]).toNat) s.size).size = s.size - (4 + 256 * (s[2]).toNat + (s[3]).toNat) := by simp
    rw [hz]; omega
  rcases hor with ⟨ht, hle⟩ | ⟨hmore, hlt⟩
  · go_enter Tryz.func50, Tryz.ntmps50
    go_wp2_with fail
    go_quiet (fail)
    have hO1 := HO1.out nq
    have hP1 := HP1.out nq
    obtain ⟨⟨o0, o1, o2, o3⟩, f0, f1, f2, f3⟩ := four hO1
    obtain ⟨⟨d0, d1, d2, d3⟩, g0, g1, g2, g3⟩ := four hP1
    by_cases hm : (PPatch.mk false ((s[1]).toNat) 0 (s.extract 4 (4 + 256 * (s[2]).toNat + (s[3]).toNat))).may = true
    · have HE := Aside.mk (patchE_yes h0 HKK.out HR.out ht HP.out hm)
      have HV := Aside.mk ((show patchV s = rdPatch s from if_pos HE.out).trans HP.out)
      have HM := Aside.mk hm
      clear hm ht
      go_wp2_with fail
      refine (rpatchMay_c _ _ _ _ hT _).mono ?_
      rintro e w6 ⟨rfl, hb6⟩
      rw [HM.out]
      clear o0 o1 o2 o3 f0 f1 f2 f3 d0 d1 d2 d3 g0 g1 g2 g3
      obtain ⟨⟨o0, o1, o2, o3⟩, f0, f1, f2, f3⟩ := four (below_keep hb6 hO1)
      obtain ⟨⟨d0, d1, d2, d3⟩, g0, g1, g2, g3⟩ := four (below_keep hb6 hP1)
      go_wp2_with fail
      go_tidy
      refine bodyPost_ret (v := .tuple #[patchVal ⟨false, ((s[1]).toNat), 0, (s.extract 4 (4 + 256 * (s[2]).toNat + (s[3]).toNat))⟩, .int .i64 0]) (by simp [results, Tryz.results50, go_sem, o0, o1, o2, o3]; rfl) rfl ⟨by rw [HE.out, HV.out], ?_⟩
      repeat (first | (with_reducible first | exact Below.refl _ _ | assumption | refine below_drewN ?_ _ | refine Below.drew ?_ | refine below_alloc ?_ _) | (with_reducible refine below_set ?_ ?side _; (case side => first | omega | (simp; omega) | (simp only [World.size_alloc]; omega))) | (with_reducible refine below_trans ?_ (by assumption)))
    · have HE := Aside.mk (patchE_no h0 HKK.out HR.out HP.out (Bool.eq_false_iff.2 hm))
      have HV := Aside.mk (show patchV s = PPatch.zero from if_neg (by rw [HE.out]; decide))
      have HM := Aside.mk (Bool.eq_false_iff.2 hm)
      clear hm ht
      go_wp2_with fail
      refine (rpatchMay_c _ _ _ _ hT _).mono ?_
      rintro e w6 ⟨rfl, hb6⟩
      rw [HM.out]
      clear o0 o1 o2 o3 f0 f1 f2 f3 d0 d1 d2 d3 g0 g1 g2 g3
      obtain ⟨⟨o0, o1, o2, o3⟩, f0, f1, f2, f3⟩ := four (below_keep hb6 hO1)
      go_wp2_with fail
      go_tidy
      refine bodyPost_ret (v := .tuple #[patchVal PPatch.zero, .int .i64 4]) (by simp [results, Tryz.results50, go_sem, o0, o1, o2, o3]; rfl) rfl ⟨by rw [HE.out, HV.out], ?_⟩
      repeat (first | (with_reducible first | exact Below.refl _ _ | assumption | refine below_drewN ?_ _ | refine Below.drew ?_ | refine below_alloc ?_ _) | (with_reducible refine below_set ?_ ?side _; (case side => first | omega | (simp; omega) | (simp only [World.size_alloc]; omega))) | (with_reducible refine below_trans ?_ (by assumption)))
  · have HE := Aside.mk (patchE_more h0 HKK.out HR.out hmore)
    have HV := Aside.mk (show patchV s = PPatch.zero from if_neg (by rw [HE.out]; decide))
    clear hmore
    go_enter Tryz.func50, Tryz.ntmps50
    go_wp2_with fail
    go_quiet (fail)
    obtain ⟨⟨o0, o1, o2, o3⟩, f0, f1, f2, f3⟩ := four (HO1.out nq)
    go_wp2_with fail
    go_tidy
    refine bodyPost_ret (v := .tuple #[patchVal PPatch.zero, .int .i64 4]) (by simp [results, Tryz.results50, go_sem, o0, o1, o2, o3]; rfl) rfl ⟨by rw [HE.out, HV.out], ?_⟩
    repeat (first | (with_reducible first | exact Below.refl _ _ | assumption | refine below_drewN ?_ _ | refine Below.drew ?_ | refine below_alloc ?_ _) | (with_reducible refine below_set ?_ ?side _; (case side => first | omega | (simp; omega) | (simp only [World.size_alloc]; omega))) | (with_reducible refine below_trans ?_ (by assumption)))
set_option maxHeartbeats 2000000 in
set_option maxRecDepth 100000 in
theorem rpTake_c (s : ByteArray) (hs : s.size < 4611686018427387904) (w : World) :
    Calls Tryz.prog 50 #[.string s] w (Ret w (.tuple #[patchVal (patchV s), .int .i64 (patchE s)])) := by
  have hO := heap_new w (.cells #[.bool false, .int .i64 0, .int .i64 0, .string ⟨#[]⟩] 69)
  have HO := Aside.mk hO
  obtain ⟨⟨o0, o1, o2, o3⟩, f0, f1, f2, f3⟩ := four hO
  clear hO
  by_cases h0 : s.size = 0
  · have HE := Aside.mk (show patchE s = 10 from if_pos h0)
    have HV := Aside.mk (show patchV s = PPatch.zero from if_neg (by rw [HE.out]; decide))
    go_enter Tryz.func50, Tryz.ntmps50
    go_wp2_with fail
    go_tidy
    refine bodyPost_ret (v := .tuple #[patchVal PPatch.zero, .int .i64 10]) (by simp [results, Tryz.results50, go_sem, o0, o1, o2, o3]; rfl) rfl ⟨by rw [HE.out, HV.out], ?_⟩
    repeat (first | (with_reducible first | exact Below.refl _ _ | assumption | refine below_drewN ?_ _ | refine Below.drew ?_ | refine below_alloc ?_ _) | (with_reducible refine below_set ?_ ?side _; (case side => first | omega | (simp; omega) | (simp only [World.size_alloc]; omega))) | (with_reducible refine below_trans ?_ (by assumption)))
  have hp : 0 < s.size := by omega
  have hpi : (0 : Int) < (s.size : Int) := by omega
  have HK := Aside.mk (numV_first hp)
  by_cases k2 : (s[0]).toNat = 2
  · have HKK : Aside (numV (some s) 1 = 1 ∨ numV (some s) 1 = 2) := ⟨.inr (by rw [HK.out, k2])⟩
    have e1 : (((s[0]).toNat : Int) == 2) = true := by rw [k2]; rfl
    have e2 : (((s[0]).toNat : Int) != 2) = false := by rw [k2]; rfl
    by_cases hsh : s.size < 2
    · have HE := Aside.mk (patchE_torn h0 HKK.out (k2_short hp k2 hsh))
      have HV := Aside.mk (show patchV s = PPatch.zero from if_neg (by rw [HE.out]; decide))
      obtain ⟨⟨o0, o1, o2, o3⟩, f0, f1, f2, f3⟩ := four (heap_alloc HO.out (.cells #[.bool false, .int .i64 0, .int .i64 0, .string ⟨#[]⟩] 69))
      go_enter Tryz.func50, Tryz.ntmps50
      go_wp2_with fail
      go_tidy
      refine bodyPost_ret (v := .tuple #[patchVal PPatch.zero, .int .i64 10]) (by simp [results, Tryz.results50, go_sem, o0, o1, o2, o3]; rfl) rfl ⟨by rw [HE.out, HV.out], ?_⟩
      repeat (first | (with_reducible first | exact Below.refl _ _ | assumption | refine below_drewN ?_ _ | refine Below.drew ?_ | refine below_alloc ?_ _) | (with_reducible refine below_set ?_ ?side _; (case side => first | omega | (simp; omega) | (simp only [World.size_alloc]; omega))) | (with_reducible refine below_trans ?_ (by assumption)))
    have hL := k2_long (by omega) k2
    have HR := Aside.mk hL.1
    have HP := Aside.mk hL.2
    have hT : (⟨#[]⟩ : ByteArray).size < 4611686018427387904 := by decide
    have h1lt := (s[1]).toNat_lt
    clear hL
    have hO1 := heap_alloc HO.out (.cells #[.bool true, .int .i64 0, .int .i64 (s[1]).toNat, .string ⟨#[]⟩] 69)
    have hP1 := heap_new' (w.alloc (.cells #[.bool false, .int .i64 0, .int .i64 0, .string ⟨#[]⟩] 69)) (.cells #[.bool true, .int .i64 0, .int .i64 (s[1]).toNat, .string ⟨#[]⟩] 69) (g := w.heap.size + 1) (by simp)
    clear o0 o1 o2 o3 f0 f1 f2 f3
    obtain ⟨⟨o0, o1, o2, o3⟩, f0, f1, f2, f3⟩ := four hO1
    obtain ⟨⟨d0, d1, d2, d3⟩, g0, g1, g2, g3⟩ := four hP1
    by_cases hmore : s.size = 2
    · have ht : (s.extract 2 s.size).size = 0 := by simp; omega
      go_enter Tryz.func50, Tryz.ntmps50
      by_cases hm : (PPatch.mk true 0 ((s[1]).toNat) ⟨#[]⟩).may = true
      · have HE := Aside.mk (patchE_yes h0 HKK.out HR.out ht HP.out hm)
        have HV := Aside.mk ((show patchV s = rdPatch s from if_pos HE.out).trans HP.out)
        have HM := Aside.mk hm
        clear hm ht
        go_wp2_with fail
        refine (rpatchMay_c _ _ _ _ hT _).mono ?_
        rintro e w6 ⟨rfl, hb6⟩
        rw [HM.out]
        clear o0 o1 o2 o3 f0 f1 f2 f3 d0 d1 d2 d3 g0 g1 g2 g3
        obtain ⟨⟨o0, o1, o2, o3⟩, f0, f1, f2, f3⟩ := four (below_keep hb6 hO1)
        obtain ⟨⟨d0, d1, d2, d3⟩, g0, g1, g2, g3⟩ := four (below_keep hb6 hP1)
        go_wp2_with fail
        go_tidy
        refine bodyPost_ret (v := .tuple #[patchVal ⟨true, 0, ((s[1]).toNat), ⟨#[]⟩⟩, .int .i64 0]) (by simp [results, Tryz.results50, go_sem, o0, o1, o2, o3]; rfl) rfl ⟨by rw [HE.out, HV.out], ?_⟩
        repeat (first | (with_reducible first | exact Below.refl _ _ | assumption | refine below_drewN ?_ _ | refine Below.drew ?_ | refine below_alloc ?_ _) | (with_reducible refine below_set ?_ ?side _; (case side => first | omega | (simp; omega) | (simp only [World.size_alloc]; omega))) | (with_reducible refine below_trans ?_ (by assumption)))
      · have HE := Aside.mk (patchE_no h0 HKK.out HR.out HP.out (Bool.eq_false_iff.2 hm))
        have HV := Aside.mk (show patchV s = PPatch.zero from if_neg (by rw [HE.out]; decide))
        have HM := Aside.mk (Bool.eq_false_iff.2 hm)
        clear hm ht
        go_wp2_with fail
        refine (rpatchMay_c _ _ _ _ hT _).mono ?_
        rintro e w6 ⟨rfl, hb6⟩
        rw [HM.out]
        clear o0 o1 o2 o3 f0 f1 f2 f3 d0 d1 d2 d3 g0 g1 g2 g3
        obtain ⟨⟨o0, o1, o2, o3⟩, f0, f1, f2, f3⟩ := four (below_keep hb6 hO1)
        go_wp2_with fail
        go_tidy
        refine bodyPost_ret (v := .tuple #[patchVal PPatch.zero, .int .i64 4]) (by simp [results, Tryz.results50, go_sem, o0, o1, o2, o3]; rfl) rfl ⟨by rw [HE.out, HV.out], ?_⟩
        repeat (first | (with_reducible first | exact Below.refl _ _ | assumption | refine below_drewN ?_ _ | refine Below.drew ?_ | refine below_alloc ?_ _) | (with_reducible refine below_set ?_ ?side _; (case side => first | omega | (simp; omega) | (simp only [World.size_alloc]; omega))) | (with_reducible refine below_trans ?_ (by assumption)))
    · have HE := Aside.mk (patchE_more h0 HKK.out HR.out (by simp; omega))
      have HV := Aside.mk (show patchV s = PPatch.zero from if_neg (by rw [HE.out]; decide))
      go_enter Tryz.func50, Tryz.ntmps50
      go_wp2_with fail
      go_tidy
      refine bodyPost_ret (v := .tuple #[patchVal PPatch.zero, .int .i64 4]) (by simp [results, Tryz.results50, go_sem, o0, o1, o2, o3]; rfl) rfl ⟨by rw [HE.out, HV.out], ?_⟩
      repeat (first | (with_reducible first | exact Below.refl _ _ | assumption | refine below_drewN ?_ _ | refine Below.drew ?_ | refine below_alloc ?_ _) | (with_reducible refine below_set ?_ ?side _; (case side => first | omega | (simp; omega) | (simp only [World.size_alloc]; omega))) | (with_reducible refine below_trans ?_ (by assumption)))
  by_cases k1 : (s[0]).toNat = 1
  · have HKK : Aside (numV (some s) 1 = 1 ∨ numV (some s) 1 = 2) := ⟨.inl (by rw [HK.out, k1])⟩
    have e1 : (((s[0]).toNat : Int) == 2) = false := by rw [k1]; rfl
    have e2 : (((s[0]).toNat : Int) != 1) = false := by rw [k1]; rfl
    by_cases hsh : s.size < 4
    · have HE := Aside.mk (patchE_torn h0 HKK.out (k1_short hp k1 hsh))
      have HV := Aside.mk (show patchV s = PPatch.zero from if_neg (by rw [HE.out]; decide))
      obtain ⟨⟨o0, o1, o2, o3⟩, f0, f1, f2, f3⟩ := four (heap_alloc HO.out (.cells #[.bool false, .int .i64 0, .int .i64 0, .string ⟨#[]⟩] 69))
      go_enter Tryz.func50, Tryz.ntmps50
      go_wp2_with fail
      go_tidy
      refine bodyPost_ret (v := .tuple #[patchVal PPatch.zero, .int .i64 10]) (by simp [results, Tryz.results50, go_sem, o0, o1, o2, o3]; rfl) rfl ⟨by rw [HE.out, HV.out], ?_⟩
      repeat (first | (with_reducible first | exact Below.refl _ _ | assumption | refine below_drewN ?_ _ | refine Below.drew ?_ | refine below_alloc ?_ _) | (with_reducible refine below_set ?_ ?side _; (case side => first | omega | (simp; omega) | (simp only [World.size_alloc]; omega))) | (with_reducible refine below_trans ?_ (by assumption)))
    have hp2 : (2 : Int) < (s.size : Int) := by omega
    have hp3 : (3 : Int) < (s.size : Int) := by omega
    have h2lt := (s[2]).toNat_lt
    have h3lt := (s[3]).toNat_lt
    by_cases hsn : s.size < 4 + ((s[2]).toNat * 256 + (s[3]).toNat)
    · have HE := Aside.mk (patchE_torn h0 HKK.out (k1_torn (by omega) k1 hsn))
      have HV := Aside.mk (show patchV s = PPatch.zero from if_neg (by rw [HE.out]; decide))
      obtain ⟨⟨o0, o1, o2, o3⟩, f0, f1, f2, f3⟩ := four (heap_alloc HO.out (.cells #[.bool false, .int .i64 0, .int .i64 0, .string ⟨#[]⟩] 69))
      go_enter Tryz.func50, Tryz.ntmps50
      go_wp2_with fail
      go_quiet (fail)
      go_wp2_with fail
      go_tidy
      refine bodyPost_ret (v := .tuple #[patchVal PPatch.zero, .int .i64 10]) (by simp [results, Tryz.results50, go_sem, o0, o1, o2, o3]; rfl) rfl ⟨by rw [HE.out, HV.out], ?_⟩
      repeat (first | (with_reducible first | exact Below.refl _ _ | assumption | refine below_drewN ?_ _ | refine Below.drew ?_ | refine below_alloc ?_ _) | (with_reducible refine below_set ?_ ?side _; (case side => first | omega | (simp; omega) | (simp only [World.size_alloc]; omega))) | (with_reducible refine below_trans ?_ (by assumption)))
    exact rpTake1_c s hs (by omega) k1 (by omega) w
  have HE := Aside.mk (show patchE s = 4 by unfold patchE; rw [if_neg h0, HK.out, if_pos ⟨k1, k2⟩])
  have HV := Aside.mk (show patchV s = PPatch.zero from if_neg (by rw [HE.out]; decide))
  have e1 : (((s[0]).toNat : Int) != 1) = true := bne_iff_ne.2 (by omega)
  have e2 : (((s[0]).toNat : Int) != 2) = true := bne_iff_ne.2 (by omega)
  go_enter Tryz.func50, Tryz.ntmps50
  go_wp2_with fail
  go_tidy
  refine bodyPost_ret (v := .tuple #[patchVal PPatch.zero, .int .i64 4]) (by simp [results, Tryz.results50, go_sem, o0, o1, o2, o3]; rfl) rfl ⟨by rw [HE.out, HV.out], ?_⟩
  repeat (first | (with_reducible first | exact Below.refl _ _ | assumption | refine below_drewN ?_ _ | refine Below.drew ?_ | refine below_alloc ?_ _) | (with_reducible refine below_set ?_ ?side _; (case side => first | omega | (simp; omega) | (simp only [World.size_alloc]; omega))) | (with_reducible refine below_trans ?_ (by assumption)))
end Go.Proofs.YtmggpfngbkbkmaaGreatDoor
/- What rillbedref07 does (3): Put, Apply. -/
namespace Go.Proofs.YtmggpfngbkbkmaaGreatDoor
open Go.RowKit
set_option linter.unusedVariables false
set_option linter.unusedSimpArgs false

set_option maxHeartbeats 2000000 in
set_option maxRecDepth 100000 in
theorem rApply_c (m : PMeta) (c : PChange) (hm : m.wf) (hc : c.wf) (w : World) :
    Calls Tryz.prog 55 #[metaVal m, .agg #[.int .u8 c.what, .int .u64 c.n, .int .u8 c.op, .int .u64 c.by_]] w (Ret w (metaVal (m.change c))) := by
  obtain ⟨k, s, mk, st⟩ := m
  obtain ⟨a, n, o, b⟩ := c
  obtain ⟨⟨k1, k2⟩, ⟨s1, s2⟩, ⟨m1, m2⟩, ⟨t1, t2⟩⟩ := hm
  obtain ⟨⟨a1, a2⟩, ⟨n1, n2⟩, ⟨o1, o2⟩, ⟨b1, b2⟩⟩ := hc
  simp only [metaVal] at k1 k2 s1 s2 m1 m2 t1 t2 a1 a2 n1 n2 o1 o2 b1 b2 ⊢
  have HM0 := Aside.mk (heap_alloc (heap_alloc (heap_new w (.cells #[.int .u8 k, .int .u32 s, .int .u64 mk, .int .u64 st] 76)) (.cells #[.int .u8 a, .int .u64 n, .int .u8 o, .int .u64 b] 80)) (.cells #[.int .u8 0, .int .u32 0, .int .u64 0, .int .u64 0] 76))
  have HC0 := Aside.mk (heap_alloc (heap_new' (w.alloc (.cells #[.int .u8 k, .int .u32 s, .int .u64 mk, .int .u64 st] 76)) (.cells #[.int .u8 a, .int .u64 n, .int .u8 o, .int .u64 b] 80) (g := w.heap.size + 1) (by simp)) (.cells #[.int .u8 0, .int .u32 0, .int .u64 0, .int .u64 0] 76))
  have HR0 := Aside.mk (heap_new' ((w.alloc (.cells #[.int .u8 k, .int .u32 s, .int .u64 mk, .int .u64 st] 76)).alloc (.cells #[.int .u8 a, .int .u64 n, .int .u8 o, .int .u64 b] 80)) (.cells #[.int .u8 0, .int .u32 0, .int .u64 0, .int .u64 0] 76) (g := w.heap.size + 2) (by simp))
  by_cases hy : (PMeta.mk k s mk st).may = true
  · by_cases hz : (PChange.mk a n o b).may = true
    · have hch : (PMeta.mk k s mk st).change ⟨a, n, o, b⟩ = if a = 1 then (if k = 1 then ⟨k, max s n, mk, st⟩ else ⟨k, s, mk, st⟩) else if a = 2 then (if k = 1 then ⟨k, n, mk, st⟩ else ⟨k, s, mk, st⟩)
          else if a = 3 then ⟨k, s, (stepN mk.toNat o b.toNat : Nat), st⟩ else ⟨k, s, mk, n⟩ := by
        unfold PMeta.change; rw [if_neg (by simp [hy, hz])]
      have HE := Aside.mk hy
      have HZ := Aside.mk hz
      have hmay : (a = 1 ∨ a = 2) ∧ n ≤ 2048 ∨ a = 4 ∨ a = 3 := by
        simp only [PChange.may] at hz
        split at hz
        · rename_i h; simp at hz; exact .inl ⟨h, by omega⟩
        · split at hz
          · rename_i h; exact .inr (.inl h)
          · split at hz
            · rename_i h; exact .inr (.inr h)
            · simp at hz
      have hkd : k = 1 ∨ k = 2 := by
        simp only [PMeta.may] at hy; simp at hy; exact hy.1.1.1
      have HH := Aside.mk hch
      have HMAY := Aside.mk hmay
      have HK := Aside.mk hkd
      clear hy hz hch hmay hkd
      go_enter Tryz.func55, Tryz.ntmps55
      go_wp2_with fail
      refine (rmay_c k s mk st s1 m1 m2 _).mono ?_
      rintro e w1 ⟨rfl, hb1⟩
      rw [HE.out]
      have hM1 := below_keep hb1 HM0.out
      have hC1 := below_keep hb1 HC0.out
      have hR1 := below_keep hb1 HR0.out
      obtain ⟨⟨c0, c1, c2, c3⟩, _⟩ := four hC1
      go_wp2_with fail
      refine (rmayChange_c a n o b n1 o1 _).mono ?_
      rintro e w2 ⟨rfl, hb2⟩
      rw [HZ.out]
      clear c0 c1 c2 c3
      have hM2 := below_keep hb2 hM1
      have hC2 := below_keep hb2 hC1
      have hR2 := below_keep hb2 hR1
      clear hM1 hC1 hR1
      obtain ⟨⟨d0, d1, d2, d3⟩, g0, g1, g2, g3⟩ := four hM2
      obtain ⟨⟨c0, c1, c2, c3⟩, _⟩ := four hC2
      obtain ⟨⟨r0, r1, r2, r3⟩, h0, h1, h2, h3⟩ := four hR2
      have hmay := HMAY.out
      have hkd := HK.out
      rcases hmay with ⟨ha, hn⟩ | ha | ha
      · have hw : IntKind.u32.wrap n = n := wrap_u32 n n1 (by omega)
        rcases ha with rfl | rfl <;> rcases hkd with rfl | rfl
        · have HC := Aside.mk (show (PMeta.mk 1 s mk st).change ⟨1, n, o, b⟩ = ⟨1, max s n, mk, st⟩ by rw [HH.out]; rfl)
          go_wp2_with fail
          · have hmx : max s n = n := by omega
            go_tidy
            refine bodyPost_ret (v := .agg #[.int .u8 1, .int .u32 n, .int .u64 mk, .int .u64 st]) (by simp [results, Tryz.results55, go_sem, r0, r1, r2, r3]) rfl ⟨by rw [HC.out, hmx], ?_⟩
            (repeat (first | (with_reducible first | exact Below.refl _ _ | assumption | refine below_drewN ?_ _ | refine Below.drew ?_ | refine below_alloc ?_ _) | (with_reducible refine below_set ?_ ?side _; (case side => first | omega | (simp; omega) | (simp only [World.size_alloc]; omega))) | (with_reducible refine below_trans ?_ (by assumption))))
          · have hmx : max s n = s := by omega
            go_tidy
            refine bodyPost_ret (v := .agg #[.int .u8 1, .int .u32 s, .int .u64 mk, .int .u64 st]) (by simp [results, Tryz.results55, go_sem, r0, r1, r2, r3]) rfl ⟨by rw [HC.out, hmx], ?_⟩
            (repeat (first | (with_reducible first | exact Below.refl _ _ | assumption | refine below_drewN ?_ _ | refine Below.drew ?_ | refine below_alloc ?_ _) | (with_reducible refine below_set ?_ ?side _; (case side => first | omega | (simp; omega) | (simp only [World.size_alloc]; omega))) | (with_reducible refine below_trans ?_ (by assumption))))
        · have HC := Aside.mk (show (PMeta.mk 2 s mk st).change ⟨1, n, o, b⟩ = ⟨2, s, mk, st⟩ by rw [HH.out]; rfl)
          go_wp2_with fail
          go_tidy
          refine bodyPost_ret (v := .agg #[.int .u8 2, .int .u32 s, .int .u64 mk, .int .u64 st]) (by simp [results, Tryz.results55, go_sem, r0, r1, r2, r3]) rfl ⟨by rw [HC.out], ?_⟩
          (repeat (first | (with_reducible first | exact Below.refl _ _ | assumption | refine below_drewN ?_ _ | refine Below.drew ?_ | refine below_alloc ?_ _) | (with_reducible refine below_set ?_ ?side _; (case side => first | omega | (simp; omega) | (simp only [World.size_alloc]; omega))) | (with_reducible refine below_trans ?_ (by assumption))))
        · have HC := Aside.mk (show (PMeta.mk 1 s mk st).change ⟨2, n, o, b⟩ = ⟨1, n, mk, st⟩ by rw [HH.out]; rfl)
          go_wp2_with fail
          go_tidy
          refine bodyPost_ret (v := .agg #[.int .u8 1, .int .u32 n, .int .u64 mk, .int .u64 st]) (by simp [results, Tryz.results55, go_sem, r0, r1, r2, r3]) rfl ⟨by rw [HC.out], ?_⟩
          (repeat (first | (with_reducible first | exact Below.refl _ _ | assumption | refine below_drewN ?_ _ | refine Below.drew ?_ | refine below_alloc ?_ _) | (with_reducible refine below_set ?_ ?side _; (case side => first | omega | (simp; omega) | (simp only [World.size_alloc]; omega))) | (with_reducible refine below_trans ?_ (by assumption))))
        · have HC := Aside.mk (show (PMeta.mk 2 s mk st).change ⟨2, n, o, b⟩ = ⟨2, s, mk, st⟩ by rw [HH.out]; rfl)
          go_wp2_with fail
          go_tidy
          refine bodyPost_ret (v := .agg #[.int .u8 2, .int .u32 s, .int .u64 mk, .int .u64 st]) (by simp [results, Tryz.results55, go_sem, r0, r1, r2, r3]) rfl ⟨by rw [HC.out], ?_⟩
          (repeat (first | (with_reducible first | exact Below.refl _ _ | assumption | refine below_drewN ?_ _ | refine Below.drew ?_ | refine below_alloc ?_ _) | (with_reducible refine below_set ?_ ?side _; (case side => first | omega | (simp; omega) | (simp only [World.size_alloc]; omega))) | (with_reducible refine below_trans ?_ (by assumption))))
      · subst ha
        have HC := Aside.mk (show (PMeta.mk k s mk st).change ⟨4, n, o, b⟩ = ⟨k, s, mk, n⟩ by rw [HH.out]; rfl)
        clear hkd
        go_wp2_with fail
        go_tidy
        refine bodyPost_ret (v := .agg #[.int .u8 k, .int .u32 s, .int .u64 mk, .int .u64 n]) (by simp [results, Tryz.results55, go_sem, r0, r1, r2, r3]) rfl ⟨by rw [HC.out], ?_⟩
        (repeat (first | (with_reducible first | exact Below.refl _ _ | assumption | refine below_drewN ?_ _ | refine Below.drew ?_ | refine below_alloc ?_ _) | (with_reducible refine below_set ?_ ?side _; (case side => first | omega | (simp; omega) | (simp only [World.size_alloc]; omega))) | (with_reducible refine below_trans ?_ (by assumption))))
      · subst ha
        have HC := Aside.mk (show (PMeta.mk k s mk st).change ⟨3, n, o, b⟩ = ⟨k, s, (stepN mk.toNat o b.toNat : Nat), st⟩ by rw [HH.out]; rfl)
        clear hkd
        go_wp2_with fail
        refine (rstep_c mk o b m1 m2 b1 b2 _).mono ?_
        rintro e w3 ⟨rfl, nd, rfl⟩
        clear d0 d1 d2 d3 g0 g1 g2 g3 c0 c1 c2 c3 r0 r1 r2 r3 h0 h1 h2 h3
        obtain ⟨⟨d0, d1, d2, d3⟩, g0, g1, g2, g3⟩ := four (show (w2.drewN nd).heap[w.heap.size]? = _ from hM2)
        obtain ⟨⟨r0, r1, r2, r3⟩, h0, h1, h2, h3⟩ := four (show (w2.drewN nd).heap[w.heap.size + 2]? = _ from hR2)
        go_wp2_with fail
        go_tidy
        refine bodyPost_ret (v := .agg #[.int .u8 k, .int .u32 s, .int .u64 (stepN mk.toNat o b.toNat : Nat), .int .u64 st]) (by simp [results, Tryz.results55, go_sem, r0, r1, r2, r3]) rfl ⟨by rw [HC.out], ?_⟩
        (repeat (first | (with_reducible first | exact Below.refl _ _ | assumption | refine below_drewN ?_ _ | refine Below.drew ?_ | refine below_alloc ?_ _) | (with_reducible refine below_set ?_ ?side _; (case side => first | omega | (simp; omega) | (simp only [World.size_alloc]; omega))) | (with_reducible refine below_trans ?_ (by assumption))))
    · have HC := Aside.mk (show (PMeta.mk k s mk st).change ⟨a, n, o, b⟩ = ⟨k, s, mk, st⟩ by unfold PMeta.change; rw [if_pos (.inr (Bool.eq_false_iff.2 hz))])
      have HE := Aside.mk hy
      have HZ := Aside.mk (Bool.eq_false_iff.2 hz)
      clear hy hz
      go_enter Tryz.func55, Tryz.ntmps55
      go_wp2_with fail
      refine (rmay_c k s mk st s1 m1 m2 _).mono ?_
      rintro e w1 ⟨rfl, hb1⟩
      rw [HE.out]
      have hM1 := below_keep hb1 HM0.out
      have hC1 := below_keep hb1 HC0.out
      have hR1 := below_keep hb1 HR0.out
      obtain ⟨⟨c0, c1, c2, c3⟩, _⟩ := four hC1
      go_wp2_with fail
      refine (rmayChange_c a n o b n1 o1 _).mono ?_
      rintro e w2 ⟨rfl, hb2⟩
      rw [HZ.out]
      clear c0 c1 c2 c3
      obtain ⟨⟨d0, d1, d2, d3⟩, g0, g1, g2, g3⟩ := four (below_keep hb2 hM1)
      obtain ⟨⟨r0, r1, r2, r3⟩, h0, h1, h2, h3⟩ := four (below_keep hb2 hR1)
      go_wp2_with fail
      go_tidy
      refine bodyPost_ret (v := .agg #[.int .u8 k, .int .u32 s, .int .u64 mk, .int .u64 st]) (by simp [results, Tryz.results55, go_sem, r0, r1, r2, r3]) rfl ⟨by rw [HC.out], ?_⟩
      (repeat (first | (with_reducible first | exact Below.refl _ _ | assumption | refine below_drewN ?_ _ | refine Below.drew ?_ | refine below_alloc ?_ _) | (with_reducible refine below_set ?_ ?side _; (case side => first | omega | (simp; omega) | (simp only [World.size_alloc]; omega))) | (with_reducible refine below_trans ?_ (by assumption))))
  · have HC := Aside.mk (show (PMeta.mk k s mk st).change ⟨a, n, o, b⟩ = ⟨k, s, mk, st⟩ by unfold PMeta.change; rw [if_pos (.inl (Bool.eq_false_iff.2 hy))])
    have HE := Aside.mk (Bool.eq_false_iff.2 hy)
    clear hy
    go_enter Tryz.func55, Tryz.ntmps55
    go_wp2_with fail
    refine (rmay_c k s mk st s1 m1 m2 _).mono ?_
    rintro e w1 ⟨rfl, hb1⟩
    rw [HE.out]
    obtain ⟨⟨d0, d1, d2, d3⟩, g0, g1, g2, g3⟩ := four (below_keep hb1 HM0.out)
    obtain ⟨⟨r0, r1, r2, r3⟩, h0, h1, h2, h3⟩ := four (below_keep hb1 HR0.out)
    go_wp2_with fail
    go_tidy
    refine bodyPost_ret (v := .agg #[.int .u8 k, .int .u32 s, .int .u64 mk, .int .u64 st]) (by simp [results, Tryz.results55, go_sem, r0, r1, r2, r3]) rfl ⟨by rw [HC.out], ?_⟩
    (repeat (first | (with_reducible first | exact Below.refl _ _ | assumption | refine below_drewN ?_ _ | refine Below.drew ?_ | refine below_alloc ?_ _) | (with_reducible refine below_set ?_ ?side _; (case side => first | omega | (simp; omega) | (simp only [World.size_alloc]; omega))) | (with_reducible refine below_trans ?_ (by assumption))))
end Go.Proofs.YtmggpfngbkbkmaaGreatDoor
/- What rillbedref07 does (4): Put. -/
namespace Go.Proofs.YtmggpfngbkbkmaaGreatDoor
open Go.RowKit
set_option linter.unusedVariables false
set_option linter.unusedSimpArgs false

theorem one_byte (k : Int) (h0 : 0 ≤ k) (h : k < 256) (W : World) (g : Nat) (hg : W.heap[g]? = some (.cells #[.int .u8 k] 5 (0, 0))) :
    (Go.convert 122 9 (.slice (some ⟨g, 0, none⟩) 1 1)).run Tryz.prog W = .ok (.string ⟨(numBytes k.toNat 1).toArray⟩) W := by
  have e : byteVs (numBytes k.toNat 1) = [.int .u8 k] := by
    obtain ⟨n, rfl⟩ := Int.eq_ofNat_of_zero_le h0
    simp [byteVs, numBytes, List.range_succ]
    omega
  have := bytes_str (l := numBytes k.toNat 1) (v := .slice (some ⟨g, 0, none⟩) 1 1) (w := W) (by
    have h2 := own_of (l := numBytes k.toNat 1) (k := g) (w := W) (by rw [e]; exact hg) (by rw [numBytes_length]; decide)
    rw [numBytes_length] at h2 ⊢
    exact h2)
  exact this
/-- What a region keeps: two cells, and all that was there. -/
theorem keep4 {w w1 w2 : World} {k : Nat} {x y z u : Value} (h : (w1.cell? ⟨k, 0, none⟩ = some x ∧ w1.cell? ⟨k, 1, none⟩ = some y ∧ w1.cell? ⟨k, 2, none⟩ = some z ∧ w1.cell? ⟨k, 3, none⟩ = some u) ∧ Below k w w1 ∧ k < w1.heap.size) (hb : Below w1.heap.size w1 w2) :
    (w2.cell? ⟨k, 0, none⟩ = some x ∧ w2.cell? ⟨k, 1, none⟩ = some y ∧ w2.cell? ⟨k, 2, none⟩ = some z ∧ w2.cell? ⟨k, 3, none⟩ = some u) ∧ Below k w w2 ∧ k < w2.heap.size :=
  ⟨⟨(hb.cell (p := ⟨k, 0, none⟩) h.2.2).trans h.1.1, (hb.cell (p := ⟨k, 1, none⟩) h.2.2).trans h.1.2.1, (hb.cell (p := ⟨k, 2, none⟩) h.2.2).trans h.1.2.2.1, (hb.cell (p := ⟨k, 3, none⟩) h.2.2).trans h.1.2.2.2⟩, h.2.1.trans (hb.mono (Nat.le_of_lt h.2.2)), Nat.lt_of_lt_of_le h.2.2 hb.size⟩

/-- A conversion to a string, that a region's walk shall not try ahead of its block. -/
@[go_sem] def cvOp (x : Operand) : Op := .convert 122 9 x
theorem cvOp_back (x : Operand) : Op.convert 122 9 x = cvOp x := rfl
set_option maxHeartbeats 4000000 in
set_option maxRecDepth 100000 in
theorem rPut_c (m : PMeta) (hm : m.wf) (w : World) :
    Calls Tryz.prog 54 #[metaVal m] w (Ret w (.tuple #[.string m.text, .int .i64 m.err])) := by
  obtain ⟨k, s, mk, st⟩ := m
  obtain ⟨⟨k1, k2⟩, ⟨s1, s2⟩, ⟨m1, m2⟩, ⟨t1, t2⟩⟩ := hm
  simp only [metaVal] at k1 k2 s1 s2 m1 m2 t1 t2 ⊢
  have hM := heap_new w (.cells #[.int .u8 k, .int .u32 s, .int .u64 mk, .int .u64 st] 76)
  by_cases hy : (PMeta.mk k s mk st).may = true
  · have HE := Aside.mk (PMeta.err_yes hy)
    have HT := Aside.mk (PMeta.text_yes hy)
    have HM := Aside.mk hy
    clear hy
    go_enter Tryz.func54, Tryz.ntmps54
    go_wp2_with fail
    refine (rmay_c k s mk st s1 m1 m2 _).mono ?_
    rintro e w1 ⟨rfl, hb1⟩
    rw [HM.out]
    have hz1 := hb1.size
    simp at hz1
    obtain ⟨⟨d0, d1, d2, d3⟩, g0, g1, g2, g3⟩ := four (below_keep hb1 hM)
    have hw64 : IntKind.u64.wrap s = s := wrap_u64 _ s1 (by omega)
    have HB := Aside.mk (one_byte k k1 k2)
    obtain ⟨N, hN, hc⟩ : ∃ N : Int → Int → ByteArray, ((N s 4).data.toList = numBytes s.toNat 4 ∧ (N mk 8).data.toList = numBytes mk.toNat 8 ∧ (N st 8).data.toList = numBytes st.toNat 8) ∧ (∀ n wd w, 0 ≤ n → n < 18446744073709551616 → (wd = 4 ∨ wd = 8) → Calls Tryz.prog 95 #[.int .u64 n, .int .i64 wd] w (Ret w (.string (N n wd)))) :=
      ⟨fun n v => ⟨(numBytes n.toNat v.toNat).toArray⟩, ⟨by simp, by simp, by simp⟩, fun n wd w h0 h1 h2 => by
        rcases h2 with rfl | rfl
        · exact number4_c n h0 h1 w
        · exact number8_c n h0 h1 w⟩
    go_wp2_with fail
    have z4 : (N s 4).size = 4 := by have := congrArg List.length hN.1; simpa [numBytes_length] using this
    have z5 : (N mk 8).size = 8 := by have := congrArg List.length hN.2.1; simpa [numBytes_length] using this
    have z6 : (N st 8).size = 8 := by have := congrArg List.length hN.2.2; simpa [numBytes_length] using this
    obtain ⟨K1, hK1, z1⟩ : ∃ K1 : ByteArray, K1 = ⟨(numBytes k.toNat 1).toArray⟩ ∧ K1.size = 1 := ⟨_, rfl, by show (numBytes k.toNat 1).toArray.size = 1; simp [numBytes_length]⟩
    have HN := Aside.mk hN
    clear hN
    have hB := HB.out
    rw [← hK1] at hB
    have HB := Aside.mk hB
    have HK1 := Aside.mk hK1
    clear hK1
    have hB2 : ∀ W : World, (Go.convert 122 9 (.slice (some ⟨W.heap.size, 0, none⟩) 1 1)).run Tryz.prog (W.alloc (.cells #[.int .u8 k] 5)) = .ok (.string K1) (W.alloc (.cells #[.int .u8 k] 5)) := fun W => HB.out _ _ (heap_new W _)
    have hB3 : (Go.convert 122 9 (.slice (some ⟨w1.heap.size, 0, none⟩) 1 1)).run Tryz.prog ((w1.alloc (.cells #[.int .u8 k] 5)).drew) = .ok (.string K1) ((w1.alloc (.cells #[.int .u8 k] 5)).drew) := HB.out _ _ (heap_new w1 _)
    simp only [cvOp_back]
    go_region_held3 (fun w' => (w'.cell? ⟨w.heap.size, 0, none⟩ = some (.int .u8 k) ∧ w'.cell? ⟨w.heap.size, 1, none⟩ = some (.int .u32 s) ∧ w'.cell? ⟨w.heap.size, 2, none⟩ = some (.int .u64 mk) ∧ w'.cell? ⟨w.heap.size, 3, none⟩ = some (.int .u64 st)) ∧ Below w.heap.size w w' ∧ w.heap.size < w'.heap.size) (first | exact ⟨⟨d0, d1, d2, d3⟩, (by repeat (first | (with_reducible first | exact Below.refl _ _ | assumption | refine below_drewN ?_ _ | refine Below.drew ?_ | refine below_alloc ?_ _) | (with_reducible refine below_set ?_ ?side _; (case side => first | omega | (simp; omega) | (simp only [World.size_alloc]; omega))) | (with_reducible refine below_trans ?_ (by assumption)))), by show w.heap.size < w1.heap.size; omega⟩ | assumption | exact keep4 (by assumption) (below_alloc (Below.refl _ _) _)) (first | (go_at_call 95; refine (hc _ _ _ (by omega) (by omega) (by first | exact .inl rfl | exact .inr rfl)).mono ?_; rintro e w2 ⟨rfl, hb2⟩; have hh := keep4 (by assumption) hb2; (try have q9 := below_keep hb2 (show ((w1.alloc (.cells #[.int .u8 k] 5)).drew).heap[w1.heap.size]? = _ from heap_new w1 _)); (try have q9 := below_keep hb2 (heap_new _ _)); (try have q9 := below_keep hb2 (by assumption))))
    all_goals
      have hx := hh.2.1
      have HX := Aside.mk (show K1 ++ N s 4 ++ N mk 8 ++ N st 8 = (PMeta.mk k s mk st).text by
        apply ba_ext
        rw [HT.out, HK1.out]
        simp [ByteArray.data_append, HN.out.1, HN.out.2.1, HN.out.2.2, PMeta.bytes])
      clear hB hB2 hB3 hc
      go_wp2_with fail
      go_ret2
      refine ⟨by rw [HE.out, ← HX.out]; rfl, ?_⟩
      (repeat (first | (with_reducible first | exact Below.refl _ _ | assumption | refine below_drewN ?_ _ | refine Below.drew ?_ | refine below_alloc ?_ _) | (with_reducible refine below_set ?_ ?side _; (case side => first | omega | (simp; omega) | (simp only [World.size_alloc]; omega))) | (with_reducible refine below_trans ?_ (by assumption))))
  · have HE := Aside.mk (PMeta.err_no hy)
    have HT := Aside.mk (PMeta.text_no hy)
    have HM := Aside.mk (Bool.eq_false_iff.2 hy)
    clear hy
    go_enter Tryz.func54, Tryz.ntmps54
    go_wp2_with fail
    refine (rmay_c k s mk st s1 m1 m2 _).mono ?_
    rintro e w1 ⟨rfl, hb1⟩
    rw [HM.out]
    go_wp2_with fail
    go_ret2
    exact ⟨by rw [HE.out, HT.out]; rfl, (by repeat (first | (with_reducible first | exact Below.refl _ _ | assumption | refine below_drewN ?_ _ | refine Below.drew ?_ | refine below_alloc ?_ _) | (with_reducible refine below_set ?_ ?side _; (case side => first | omega | (simp; omega) | (simp only [World.size_alloc]; omega))) | (with_reducible refine below_trans ?_ (by assumption))))⟩
end Go.Proofs.YtmggpfngbkbkmaaGreatDoor
