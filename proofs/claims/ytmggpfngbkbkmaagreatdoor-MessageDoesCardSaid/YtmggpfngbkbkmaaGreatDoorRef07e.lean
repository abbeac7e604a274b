/- What rillbedref07 does (5): TakeChange. -/
import Derived.Test.YtmggpfngbkbkmaaGreatDoorRef07b
namespace Go.Proofs.YtmggpfngbkbkmaaGreatDoor
open Go.RowKit
set_option linter.unusedVariables false
set_option linter.unusedSimpArgs false

theorem what_first {s : ByteArray} (h0 : 0 < s.size) : rdWhat s = (s[0]).toNat := by
  have := numV_ext s 0 1 (by omega)
  rw [ext_self, be_one s 0 h0] at this
  exact this
theorem whole_more (s : ByteArray) (n : Nat) (h : n < s.size) : wholeE (some (s.extract n s.size)) = 4 := by
  have hz : (s.extract n s.size).size = s.size - n := by simp
  simp only [wholeE, hz]; rw [if_neg (by omega)]
theorem whole_all (s : ByteArray) (n : Nat) (h : n = s.size) : wholeE (some (s.extract n s.size)) = 0 := by
  have hz : (s.extract n s.size).size = s.size - n := by simp
  simp only [wholeE, hz]; rw [if_pos (by omega)]
theorem change_torn {s : ByteArray} (h0 : s.size ≠ 0) (hk : ¬ (rdWhat s = 0 ∨ 4 < rdWhat s)) (h : rdChangeR s = none) : changeE s = 10 := by
  unfold changeE; rw [if_neg h0, if_neg hk, h]; rfl
theorem change_more {s : ByteArray} {n : Nat} (h0 : s.size ≠ 0) (hk : ¬ (rdWhat s = 0 ∨ 4 < rdWhat s)) (h : rdChangeR s = some (s.extract n s.size)) (hn : n < s.size) : changeE s = 4 := by
  unfold changeE; rw [if_neg h0, if_neg hk, h, whole_more s n hn]; rfl
theorem change_all {s : ByteArray} {n : Nat} (h0 : s.size ≠ 0) (hk : ¬ (rdWhat s = 0 ∨ 4 < rdWhat s)) (h : rdChangeR s = some (s.extract n s.size)) (hn : n = s.size) : changeE s = if (rdChange s).may = true then 0 else 4 := by
  unfold changeE; rw [if_neg h0, if_neg hk, h, whole_all s n hn, if_pos rfl]
theorem ch1_short {s : ByteArray} (hk : rdWhat s = 1) (h : s.size < 5) : rdChangeR s = none := by
  have e : some s = some (s.extract 0 s.size) := by rw [ext_self]
  unfold rdChangeR
  simp only [hk]
  rw [if_neg (by decide)]
  first
    | rw [if_neg (by decide), e]
    | rw [if_pos trivial, e]
  by_cases h1 : s.size < 1
  · rw [fixR_short s 0 1 (by omega) (by omega)]; rfl
  · rw [fixR_ext s 0 1 (by omega), fixR_short s _ 4 (by omega) (by omega)]
theorem ch1_long {s : ByteArray} (hk : rdWhat s = 1) (h : 5 ≤ s.size) : rdChangeR s = some (s.extract 5 s.size) ∧ rdChange s = ⟨1, be (s.extract 1 5).data.toList, 0, 0⟩ := by
  have e : some s = some (s.extract 0 s.size) := by rw [ext_self]
  have hr : fixR (some s) 1 = some (s.extract 1 s.size) := by rw [e, fixR_ext s _ 1 (by omega)]
  constructor
  · unfold rdChangeR
    simp only [hk]
    rw [if_neg (by decide)]
    first
      | rw [if_neg (by decide), hr, fixR_ext s _ 4 (by omega)]
      | rw [if_pos trivial, hr, fixR_ext s _ 4 (by omega)]
  · unfold rdChange
    simp only [hk]
    rw [if_neg (by decide)]
    first
      | rw [if_neg (by decide), hr, numV_ext s _ 4 (by omega)]; rfl
      | rw [if_pos trivial, hr, numV_ext s _ 4 (by omega)]; rfl
theorem ch2_short {s : ByteArray} (hk : rdWhat s = 2) (h : s.size < 5) : rdChangeR s = none := by
  have e : some s = some (s.extract 0 s.size) := by rw [ext_self]
  unfold rdChangeR
  simp only [hk]
  rw [if_neg (by decide)]
  first
    | rw [if_neg (by decide), e]
    | rw [if_pos trivial, e]
  by_cases h1 : s.size < 1
  · rw [fixR_short s 0 1 (by omega) (by omega)]; rfl
  · rw [fixR_ext s 0 1 (by omega), fixR_short s _ 4 (by omega) (by omega)]
theorem ch2_long {s : ByteArray} (hk : rdWhat s = 2) (h : 5 ≤ s.size) : rdChangeR s = some (s.extract 5 s.size) ∧ rdChange s = ⟨2, be (s.extract 1 5).data.toList, 0, 0⟩ := by
  have e : some s = some (s.extract 0 s.size) := by rw [ext_self]
  have hr : fixR (some s) 1 = some (s.extract 1 s.size) := by rw [e, fixR_ext s _ 1 (by omega)]
  constructor
  · unfold rdChangeR
    simp only [hk]
    rw [if_neg (by decide)]
    first
      | rw [if_neg (by decide), hr, fixR_ext s _ 4 (by omega)]
      | rw [if_pos trivial, hr, fixR_ext s _ 4 (by omega)]
  · unfold rdChange
    simp only [hk]
    rw [if_neg (by decide)]
    first
      | rw [if_neg (by decide), hr, numV_ext s _ 4 (by omega)]; rfl
      | rw [if_pos trivial, hr, numV_ext s _ 4 (by omega)]; rfl
theorem ch4_short {s : ByteArray} (hk : rdWhat s = 4) (h : s.size < 9) : rdChangeR s = none := by
  have e : some s = some (s.extract 0 s.size) := by rw [ext_self]
  unfold rdChangeR
  simp only [hk]
  rw [if_neg (by decide)]
  first
    | rw [if_neg (by decide), e]
    | rw [if_pos trivial, e]
  by_cases h1 : s.size < 1
  · rw [fixR_short s 0 1 (by omega) (by omega)]; rfl
  · rw [fixR_ext s 0 1 (by omega), fixR_short s _ 8 (by omega) (by omega)]
theorem ch4_long {s : ByteArray} (hk : rdWhat s = 4) (h : 9 ≤ s.size) : rdChangeR s = some (s.extract 9 s.size) ∧ rdChange s = ⟨4, be (s.extract 1 9).data.toList, 0, 0⟩ := by
  have e : some s = some (s.extract 0 s.size) := by rw [ext_self]
  have hr : fixR (some s) 1 = some (s.extract 1 s.size) := by rw [e, fixR_ext s _ 1 (by omega)]
  constructor
  · unfold rdChangeR
    simp only [hk]
    rw [if_neg (by decide)]
    first
      | rw [if_neg (by decide), hr, fixR_ext s _ 8 (by omega)]
      | rw [if_pos trivial, hr, fixR_ext s _ 8 (by omega)]
  · unfold rdChange
    simp only [hk]
    rw [if_neg (by decide)]
    first
      | rw [if_neg (by decide), hr, numV_ext s _ 8 (by omega)]; rfl
      | rw [if_pos trivial, hr, numV_ext s _ 8 (by omega)]; rfl
theorem ch3_short {s : ByteArray} (hk : rdWhat s = 3) (h : s.size < 10) : rdChangeR s = none := by
  have e : some s = some (s.extract 0 s.size) := by rw [ext_self]
  unfold rdChangeR
  rw [if_pos hk, e]
  by_cases h1 : s.size < 1
  · rw [fixR_short s 0 1 (by omega) (by omega)]; rfl
  rw [fixR_ext s 0 1 (by omega)]
  by_cases h2 : s.size < 2
  · rw [fixR_short s _ 1 (by omega) (by omega)]; rfl
  rw [fixR_ext s _ 1 (by omega), fixR_short s _ 8 (by omega) (by omega)]
theorem ch3_long {s : ByteArray} (hk : rdWhat s = 3) (h : 10 ≤ s.size) : rdChangeR s = some (s.extract 10 s.size) ∧ rdChange s = ⟨3, 0, (s[1]).toNat, be (s.extract 2 10).data.toList⟩ := by
  have e : some s = some (s.extract 0 s.size) := by rw [ext_self]
  have hr : fixR (some s) 1 = some (s.extract 1 s.size) := by rw [e, fixR_ext s _ 1 (by omega)]
  have hr2 : fixR (fixR (some s) 1) 1 = some (s.extract 2 s.size) := by rw [hr, fixR_ext s _ 1 (by omega)]
  constructor
  · unfold rdChangeR
    rw [if_pos hk, hr2, fixR_ext s _ 8 (by omega)]
  · unfold rdChange
    rw [if_pos hk, hr2, numV_ext s _ 8 (by omega), hr, numV_ext s _ 1 (by omega), be_one s 1 (by omega), hk]
    rfl
def changeVal (c : PChange) : Value := .agg #[.int .u8 c.what, .int .u64 c.n, .int .u8 c.op, .int .u64 c.by_]

set_option maxHeartbeats 4000000 in
set_option maxRecDepth 100000 in
theorem rTakeChange1_c (s : ByteArray) (hs : s.size < 4611686018427387904) (h0 : 0 < s.size) (hK : (s[0]).toNat = 1) (w : World) :
    Calls Tryz.prog 53 #[.string s] w (Ret w (.tuple #[changeVal (changeV s), .int .i64 (changeE s)])) := by
  have hW := (what_first h0).trans hK
  have hbad : ¬ (rdWhat s = 0 ∨ 4 < rdWhat s) := by omega
  have HBAD := Aside.mk hbad
  have HNE := Aside.mk (show s.size ≠ 0 by omega)
  have hpi : (0 : Int) < (s.size : Int) := by omega
  have HO := Aside.mk (heap_new w (.cells #[.int .u8 0, .int .u64 0, .int .u8 0, .int .u64 0] 80))
  have HW := Aside.mk hW
  clear hbad hW
  have hte : (s.toList == ([] : List UInt8)) = false := by have := HNE.out; simpa [toList_nil] using this
  by_cases hsh : s.size < 5
  · have HE := Aside.mk (change_torn HNE.out HBAD.out (ch1_short HW.out hsh))
    have HV := Aside.mk (show changeV s = PChange.zero from if_neg (by rw [HE.out]; decide))
    obtain ⟨⟨o0, o1, o2, o3⟩, f0, f1, f2, f3⟩ := four (heap_alloc HO.out (.cells #[.int .i64 0, .int .i64 5, .int .i64 5, .int .i64 10, .int .i64 9] 3))
    go_enter Tryz.func53, Tryz.ntmps53
    go_wp2_with fail
    go_tidy
    refine bodyPost_ret (v := .tuple #[changeVal PChange.zero, .int .i64 10]) (by simp [results, Tryz.results53, go_sem, o0, o1, o2, o3]; rfl) rfl ⟨by rw [HE.out, HV.out], ?_⟩
    repeat (first | (with_reducible first | exact Below.refl _ _ | assumption | refine below_drewN ?_ _ | refine Below.drew ?_ | refine below_alloc ?_ _) | (with_reducible refine below_set ?_ ?side _; (case side => first | omega | (simp; omega) | (simp only [World.size_alloc]; omega))) | (with_reducible refine below_trans ?_ (by assumption)))
  have hL := ch1_long HW.out (by omega)
  have h1 : (1 : Int) < (s.size : Int) := by omega
  have hor : (Aside (5 = s.size) ∧ (s.size : Int) ≤ 5) ∨ (Aside (5 < s.size) ∧ (5 : Int) < (s.size : Int)) := by
    by_cases hx : 5 = s.size
    · exact .inl ⟨⟨hx⟩, by omega⟩
    · exact .inr ⟨⟨by omega⟩, by omega⟩
  have hge : (5 : Int) ≤ (s.size : Int) := by omega
  have HL1 := Aside.mk hL.1
  obtain ⟨N, hN, hc⟩ : ∃ N : Int → Int → Int, (∀ f t, N f t = be (s.extract f.toNat t.toNat).data.toList) ∧ ∀ (f t : Int), 0 ≤ f → f ≤ t → t ≤ s.size → t - f ≤ 8 → ∀ w, Calls Tryz.prog 92 #[.string s, .int .i64 f, .int .i64 t] w fun e w' => e = .returned (.int .u64 (N f t)) ∧ w = w' :=
    ⟨fun f t => be (s.extract f.toNat t.toNat).data.toList, fun _ _ => rfl, fun f t h0 h1 h2 h3 w => rnum_i s f t h0 h1 h2 h3 hs w⟩
  have hL2 : rdChange s = ⟨1, (N 1 5), 0, 0⟩ := by rw [hL.2, hN]; rfl
  have b1 : 0 ≤ N 1 5 := by rw [hN]; omega
  have hm0 : (0 : Int) ≤ (N 1 5) := by first | exact b1 | omega
  have hq0 : (0 : Int) ≤ 0 := by omega
  have HL2 := Aside.mk hL2
  clear hL hN hL2
  rcases hor with ⟨hmore, hle⟩ | ⟨hmore, hlt⟩
  · have hE := change_all HNE.out HBAD.out HL1.out hmore.out
    rw [HL2.out] at hE
    have hO1 := heap_alloc (heap_alloc HO.out (.cells #[.int .i64 0, .int .i64 5, .int .i64 5, .int .i64 10, .int .i64 9] 3)) (.cells #[.int .u8 1, .int .u64 (N 1 5), .int .u8 0, .int .u64 0] 80)
    have hC1 := heap_new' ((w.alloc (.cells #[.int .u8 0, .int .u64 0, .int .u8 0, .int .u64 0] 80)).alloc (.cells #[.int .i64 0, .int .i64 5, .int .i64 5, .int .i64 10, .int .i64 9] 3)) (.cells #[.int .u8 1, .int .u64 (N 1 5), .int .u8 0, .int .u64 0] 80) (g := w.heap.size + 2) (by simp)
    have HO1 := Aside.mk hO1
    have HC1 := Aside.mk hC1
    have HEE := Aside.mk hE
    clear hO1 hC1 hE
    go_enter Tryz.func53, Tryz.ntmps53
    go_wp2_with (go_at_call 92; refine (hc _ _ (by omega) (by omega) (by omega) (by omega) _).mono ?_; rintro e w1 ⟨rfl, rfl⟩)
    refine (rmayChange_c 1 (N 1 5) 0 0 hm0 hq0 _).mono ?_
    rintro e w2 ⟨rfl, hb2⟩
    obtain ⟨⟨o0, o1, o2, o3⟩, f0, f1, f2, f3⟩ := four (below_keep hb2 HO1.out)
    obtain ⟨⟨d0, d1, d2, d3⟩, g0, g1, g2, g3⟩ := four (below_keep hb2 HC1.out)
    by_cases hm : (PChange.mk 1 (N 1 5) 0 0).may = true
    · have HE := Aside.mk (HEE.out.trans (if_pos hm))
      have HV := Aside.mk ((show changeV s = rdChange s from if_pos HE.out).trans HL2.out)
      have HM := Aside.mk hm
      clear hm
      rw [HM.out]
      go_wp2_with fail
      go_tidy
      refine bodyPost_ret (v := .tuple #[changeVal ⟨1, (N 1 5), 0, 0⟩, .int .i64 0]) (by simp [results, Tryz.results53, go_sem, o0, o1, o2, o3]; rfl) rfl ⟨by rw [HE.out, HV.out], ?_⟩
      repeat (first | (with_reducible first | exact Below.refl _ _ | assumption | refine below_drewN ?_ _ | refine Below.drew ?_ | refine below_alloc ?_ _) | (with_reducible refine below_set ?_ ?side _; (case side => first | omega | (simp; omega) | (simp only [World.size_alloc]; omega))) | (with_reducible refine below_trans ?_ (by assumption)))
    · have HE := Aside.mk (HEE.out.trans (if_neg hm))
      have HV := Aside.mk (show changeV s = PChange.zero from if_neg (by rw [HE.out]; decide))
      have HM := Aside.mk (Bool.eq_false_iff.2 hm)
      clear hm
      rw [HM.out]
      go_wp2_with fail
      go_tidy
      refine bodyPost_ret (v := .tuple #[changeVal PChange.zero, .int .i64 4]) (by simp [results, Tryz.results53, go_sem, o0, o1, o2, o3]; rfl) rfl ⟨by rw [HE.out, HV.out], ?_⟩
      repeat (first | (with_reducible first | exact Below.refl _ _ | assumption | refine below_drewN ?_ _ | refine Below.drew ?_ | refine below_alloc ?_ _) | (with_reducible refine below_set ?_ ?side _; (case side => first | omega | (simp; omega) | (simp only [World.size_alloc]; omega))) | (with_reducible refine below_trans ?_ (by assumption)))
  · have HE := Aside.mk (change_more HNE.out HBAD.out HL1.out hmore.out)
    have HV := Aside.mk (show changeV s = PChange.zero from if_neg (by rw [HE.out]; decide))
    obtain ⟨⟨o0, o1, o2, o3⟩, f0, f1, f2, f3⟩ := four (heap_alloc HO.out (.cells #[.int .i64 0, .int .i64 5, .int .i64 5, .int .i64 10, .int .i64 9] 3))
    go_enter Tryz.func53, Tryz.ntmps53
    go_wp2_with fail
    go_tidy
    refine bodyPost_ret (v := .tuple #[changeVal PChange.zero, .int .i64 4]) (by simp [results, Tryz.results53, go_sem, o0, o1, o2, o3]; rfl) rfl ⟨by rw [HE.out, HV.out], ?_⟩
    repeat (first | (with_reducible first | exact Below.refl _ _ | assumption | refine below_drewN ?_ _ | refine Below.drew ?_ | refine below_alloc ?_ _) | (with_reducible refine below_set ?_ ?side _; (case side => first | omega | (simp; omega) | (simp only [World.size_alloc]; omega))) | (with_reducible refine below_trans ?_ (by assumption)))
set_option maxHeartbeats 4000000 in
set_option maxRecDepth 100000 in
theorem rTakeChange2_c (s : ByteArray) (hs : s.size < 4611686018427387904) (h0 : 0 < s.size) (hK : (s[0]).toNat = 2) (w : World) :
    Calls Tryz.prog 53 #[.string s] w (Ret w (.tuple #[changeVal (changeV s), .int .i64 (changeE s)])) := by
  have hW := (what_first h0).trans hK
  have hbad : ¬ (rdWhat s = 0 ∨ 4 < rdWhat s) := by omega
  have HBAD := Aside.mk hbad
  have HNE := Aside.mk (show s.size ≠ 0 by omega)
  have hpi : (0 : Int) < (s.size : Int) := by omega
  have HO := Aside.mk (heap_new w (.cells #[.int .u8 0, .int .u64 0, .int .u8 0, .int .u64 0] 80))
  have HW := Aside.mk hW
  clear hbad hW
  have hte : (s.toList == ([] : List UInt8)) = false := by have := HNE.out; simpa [toList_nil] using this
  by_cases hsh : s.size < 5
  · have HE := Aside.mk (change_torn HNE.out HBAD.out (ch2_short HW.out hsh))
    have HV := Aside.mk (show changeV s = PChange.zero from if_neg (by rw [HE.out]; decide))
    obtain ⟨⟨o0, o1, o2, o3⟩, f0, f1, f2, f3⟩ := four (heap_alloc HO.out (.cells #[.int .i64 0, .int .i64 5, .int .i64 5, .int .i64 10, .int .i64 9] 3))
    go_enter Tryz.func53, Tryz.ntmps53
    go_wp2_with fail
    go_tidy
    refine bodyPost_ret (v := .tuple #[changeVal PChange.zero, .int .i64 10]) (by simp [results, Tryz.results53, go_sem, o0, o1, o2, o3]; rfl) rfl ⟨by rw [HE.out, HV.out], ?_⟩
    repeat (first | (with_reducible first | exact Below.refl _ _ | assumption | refine below_drewN ?_ _ | refine Below.drew ?_ | refine below_alloc ?_ _) | (with_reducible refine below_set ?_ ?side _; (case side => first | omega | (simp; omega) | (simp only [World.size_alloc]; omega))) | (with_reducible refine below_trans ?_ (by assumption)))
  have hL := ch2_long HW.out (by omega)
  have h1 : (1 : Int) < (s.size : Int) := by omega
  have hor : (Aside (5 = s.size) ∧ (s.size : Int) ≤ 5) ∨ (Aside (5 < s.size) ∧ (5 : Int) < (s.size : Int)) := by
    by_cases hx : 5 = s.size
    · exact .inl ⟨⟨hx⟩, by omega⟩
    · exact .inr ⟨⟨by omega⟩, by omega⟩
  have hge : (5 : Int) ≤ (s.size : Int) := by omega
  have HL1 := Aside.mk hL.1
  obtain ⟨N, hN, hc⟩ : ∃ N : Int → Int → Int, (∀ f t, N f t = be (s.extract f.toNat t.toNat).data.toList) ∧ ∀ (f t : Int), 0 ≤ f → f ≤ t → t ≤ s.size → t - f ≤ 8 → ∀ w, Calls Tryz.prog 92 #[.string s, .int .i64 f, .int .i64 t] w fun e w' => e = .returned (.int .u64 (N f t)) ∧ w = w' :=
    ⟨fun f t => be (s.extract f.toNat t.toNat).data.toList, fun _ _ => rfl, fun f t h0 h1 h2 h3 w => rnum_i s f t h0 h1 h2 h3 hs w⟩
  have hL2 : rdChange s = ⟨2, (N 1 5), 0, 0⟩ := by rw [hL.2, hN]; rfl
  have b1 : 0 ≤ N 1 5 := by rw [hN]; omega
  have hm0 : (0 : Int) ≤ (N 1 5) := by first | exact b1 | omega
  have hq0 : (0 : Int) ≤ 0 := by omega
  have HL2 := Aside.mk hL2
  clear hL hN hL2
  rcases hor with ⟨hmore, hle⟩ | ⟨hmore, hlt⟩
  · have hE := change_all HNE.out HBAD.out HL1.out hmore.out
    rw [HL2.out] at hE
    have hO1 := heap_alloc (heap_alloc HO.out (.cells #[.int .i64 0, .int .i64 5, .int .i64 5, .int .i64 10, .int .i64 9] 3)) (.cells #[.int .u8 2, .int .u64 (N 1 5), .int .u8 0, .int .u64 0] 80)
    have hC1 := heap_new' ((w.alloc (.cells #[.int .u8 0, .int .u64 0, .int .u8 0, .int .u64 0] 80)).alloc (.cells #[.int .i64 0, .int .i64 5, .int .i64 5, .int .i64 10, .int .i64 9] 3)) (.cells #[.int .u8 2, .int .u64 (N 1 5), .int .u8 0, .int .u64 0] 80) (g := w.heap.size + 2) (by simp)
    have HO1 := Aside.mk hO1
    have HC1 := Aside.mk hC1
    have HEE := Aside.mk hE
    clear hO1 hC1 hE
    go_enter Tryz.func53, Tryz.ntmps53
    go_wp2_with (go_at_call 92; refine (hc _ _ (by omega) (by omega) (by omega) (by omega) _).mono ?_; rintro e w1 ⟨rfl, rfl⟩)
    refine (rmayChange_c 2 (N 1 5) 0 0 hm0 hq0 _).mono ?_
    rintro e w2 ⟨rfl, hb2⟩
    obtain ⟨⟨o0, o1, o2, o3⟩, f0, f1, f2, f3⟩ := four (below_keep hb2 HO1.out)
    obtain ⟨⟨d0, d1, d2, d3⟩, g0, g1, g2, g3⟩ := four (below_keep hb2 HC1.out)
    by_cases hm : (PChange.mk 2 (N 1 5) 0 0).may = true
    · have HE := Aside.mk (HEE.out.trans (if_pos hm))
      have HV := Aside.mk ((show changeV s = rdChange s from if_pos HE.out).trans HL2.out)
      have HM := Aside.mk hm
      clear hm
      rw [HM.out]
      go_wp2_with fail
      go_tidy
      refine bodyPost_ret (v := .tuple #[changeVal ⟨2, (N 1 5), 0, 0⟩, .int .i64 0]) (by simp [results, Tryz.results53, go_sem, o0, o1, o2, o3]; rfl) rfl ⟨by rw [HE.out, HV.out], ?_⟩
      repeat (first | (with_reducible first | exact Below.refl _ _ | assumption | refine below_drewN ?_ _ | refine Below.drew ?_ | refine below_alloc ?_ _) | (with_reducible refine below_set ?_ ?side _; (case side => first | omega | (simp; omega) | (simp only [World.size_alloc]; omega))) | (with_reducible refine below_trans ?_ (by assumption)))
    · have HE := Aside.mk (HEE.out.trans (if_neg hm))
      have HV := Aside.mk (show changeV s = PChange.zero from if_neg (by rw [HE.out]; decide))
      have HM := Aside.mk (Bool.eq_false_iff.2 hm)
      clear hm
      rw [HM.out]
      go_wp2_with fail
      go_tidy
      refine bodyPost_ret (v := .tuple #[changeVal PChange.zero, .int .i64 4]) (by simp [results, Tryz.results53, go_sem, o0, o1, o2, o3]; rfl) rfl ⟨by rw [HE.out, HV.out], ?_⟩
      repeat (first | (with_reducible first | exact Below.refl _ _ | assumption | refine below_drewN ?_ _ | refine Below.drew ?_ | refine below_alloc ?_ _) | (with_reducible refine below_set ?_ ?side _; (case side => first | omega | (simp; omega) | (simp only [World.size_alloc]; omega))) | (with_reducible refine below_trans ?_ (by assumption)))
  · have HE := Aside.mk (change_more HNE.out HBAD.out HL1.out hmore.out)
    have HV := Aside.mk (show changeV s = PChange.zero from if_neg (by rw [HE.out]; decide))
    obtain ⟨⟨o0, o1, o2, o3⟩, f0, f1, f2, f3⟩ := four (heap_alloc HO.out (.cells #[.int .i64 0, .int .i64 5, .int .i64 5, .int .i64 10, .int .i64 9] 3))
    go_enter Tryz.func53, Tryz.ntmps53
    go_wp2_with fail
    go_tidy
    refine bodyPost_ret (v := .tuple #[changeVal PChange.zero, .int .i64 4]) (by simp [results, Tryz.results53, go_sem, o0, o1, o2, o3]; rfl) rfl ⟨by rw [HE.out, HV.out], ?_⟩
    repeat (first | (with_reducible first | exact Below.refl _ _ | assumption | refine below_drewN ?_ _ | refine Below.drew ?_ | refine below_alloc ?_ _) | (with_reducible refine below_set ?_ ?side _; (case side => first | omega | (simp; omega) | (simp only [World.size_alloc]; omega))) | (with_reducible refine below_trans ?_ (by assumption)))
set_option maxHeartbeats 4000000 in
set_option maxRecDepth 100000 in
theorem rTakeChange4_c (s : ByteArray) (hs : s.size < 4611686018427387904) (h0 : 0 < s.size) (hK : (s[0]).toNat = 4) (w : World) :
    Calls Tryz.prog 53 #[.string s] w (Ret w (.tuple #[changeVal (changeV s), .int .i64 (changeE s)])) := by
  have hW := (what_first h0).trans hK
  have hbad : ¬ (rdWhat s = 0 ∨ 4 < rdWhat s) := by omega
  have HBAD := Aside.mk hbad
  have HNE := Aside.mk (show s.size ≠ 0 by omega)
  have hpi : (0 : Int) < (s.size : Int) := by omega
  have HO := Aside.mk (heap_new w (.cells #[.int .u8 0, .int .u64 0, .int .u8 0, .int .u64 0] 80))
  have HW := Aside.mk hW
  clear hbad hW
  have hte : (s.toList == ([] : List UInt8)) = false := by have := HNE.out; simpa [toList_nil] using this
  by_cases hsh : s.size < 9
  · have HE := Aside.mk (change_torn HNE.out HBAD.out (ch4_short HW.out hsh))
    have HV := Aside.mk (show changeV s = PChange.zero from if_neg (by rw [HE.out]; decide))
    obtain ⟨⟨o0, o1, o2, o3⟩, f0, f1, f2, f3⟩ := four (heap_alloc HO.out (.cells #[.int .i64 0, .int .i64 5, .int .i64 5, .int .i64 10, .int .i64 9] 3))
    go_enter Tryz.func53, Tryz.ntmps53
    go_wp2_with fail
    go_tidy
    refine bodyPost_ret (v := .tuple #[changeVal PChange.zero, .int .i64 10]) (by simp [results, Tryz.results53, go_sem, o0, o1, o2, o3]; rfl) rfl ⟨by rw [HE.out, HV.out], ?_⟩
    repeat (first | (with_reducible first | exact Below.refl _ _ | assumption | refine below_drewN ?_ _ | refine Below.drew ?_ | refine below_alloc ?_ _) | (with_reducible refine below_set ?_ ?side _; (case side => first | omega | (simp; omega) | (simp only [World.size_alloc]; omega))) | (with_reducible refine below_trans ?_ (by assumption)))
  have hL := ch4_long HW.out (by omega)
  have h1 : (1 : Int) < (s.size : Int) := by omega
  have hor : (Aside (9 = s.size) ∧ (s.size : Int) ≤ 9) ∨ (Aside (9 < s.size) ∧ (9 : Int) < (s.size : Int)) := by
    by_cases hx : 9 = s.size
    · exact .inl ⟨⟨hx⟩, by omega⟩
    · exact .inr ⟨⟨by omega⟩, by omega⟩
  have hge : (9 : Int) ≤ (s.size : Int) := by omega
  have HL1 := Aside.mk hL.1
  obtain ⟨N, hN, hc⟩ : ∃ N : Int → Int → Int, (∀ f t, N f t = be (s.extract f.toNat t.toNat).data.toList) ∧ ∀ (f t : Int), 0 ≤ f → f ≤ t → t ≤ s.size → t - f ≤ 8 → ∀ w, Calls Tryz.prog 92 #[.string s, .int .i64 f, .int .i64 t] w fun e w' => e = .returned (.int .u64 (N f t)) ∧ w = w' :=
    ⟨fun f t => be (s.extract f.toNat t.toNat).data.toList, fun _ _ => rfl, fun f t h0 h1 h2 h3 w => rnum_i s f t h0 h1 h2 h3 hs w⟩
  have hL2 : rdChange s = ⟨4, (N 1 9), 0, 0⟩ := by rw [hL.2, hN]; rfl
  have b1 : 0 ≤ N 1 9 := by rw [hN]; omega
  have hm0 : (0 : Int) ≤ (N 1 9) := by first | exact b1 | omega
  have hq0 : (0 : Int) ≤ 0 := by omega
  have HL2 := Aside.mk hL2
  clear hL hN hL2
  rcases hor with ⟨hmore, hle⟩ | ⟨hmore, hlt⟩
  · have hE := change_all HNE.out HBAD.out HL1.out hmore.out
    rw [HL2.out] at hE
    have hO1 := heap_alloc (heap_alloc HO.out (.cells #[.int .i64 0, .int .i64 5, .int .i64 5, .int .i64 10, .int .i64 9] 3)) (.cells #[.int .u8 4, .int .u64 (N 1 9), .int .u8 0, .int .u64 0] 80)
    have hC1 := heap_new' ((w.alloc (.cells #[.int .u8 0, .int .u64 0, .int .u8 0, .int .u64 0] 80)).alloc (.cells #[.int .i64 0, .int .i64 5, .int .i64 5, .int .i64 10, .int .i64 9] 3)) (.cells #[.int .u8 4, .int .u64 (N 1 9), .int .u8 0, .int .u64 0] 80) (g := w.heap.size + 2) (by simp)
    have HO1 := Aside.mk hO1
    have HC1 := Aside.mk hC1
    have HEE := Aside.mk hE
    clear hO1 hC1 hE
    go_enter Tryz.func53, Tryz.ntmps53
    go_wp2_with (go_at_call 92; refine (hc _ _ (by omega) (by omega) (by omega) (by omega) _).mono ?_; rintro e w1 ⟨rfl, rfl⟩)
    refine (rmayChange_c 4 (N 1 9) 0 0 hm0 hq0 _).mono ?_
    rintro e w2 ⟨rfl, hb2⟩
    obtain ⟨⟨o0, o1, o2, o3⟩, f0, f1, f2, f3⟩ := four (below_keep hb2 HO1.out)
    obtain ⟨⟨d0, d1, d2, d3⟩, g0, g1, g2, g3⟩ := four (below_keep hb2 HC1.out)
    by_cases hm : (PChange.mk 4 (N 1 9) 0 0).may = true
    · have HE := Aside.mk (HEE.out.trans (if_pos hm))
      have HV := Aside.mk ((show changeV s = rdChange s from if_pos HE.out).trans HL2.out)
      have HM := Aside.mk hm
      clear hm
      rw [HM.out]
      go_wp2_with fail
      go_tidy
      refine bodyPost_ret (v := .tuple #[changeVal ⟨4, (N 1 9), 0, 0⟩, .int .i64 0]) (by simp [results, Tryz.results53, go_sem, o0, o1, o2, o3]; rfl) rfl ⟨by rw [HE.out, HV.out], ?_⟩
      repeat (first | (with_reducible first | exact Below.refl _ _ | assumption | refine below_drewN ?_ _ | refine Below.drew ?_ | refine below_alloc ?_ _) | (with_reducible refine below_set ?_ ?side _; (case side => first | omega | (simp; omega) | (simp only [World.size_alloc]; omega))) | (with_reducible refine below_trans ?_ (by assumption)))
    · have HE := Aside.mk (HEE.out.trans (if_neg hm))
      have HV := Aside.mk (show changeV s = PChange.zero from if_neg (by rw [HE.out]; decide))
      have HM := Aside.mk (Bool.eq_false_iff.2 hm)
      clear hm
      rw [HM.out]
      go_wp2_with fail
      go_tidy
      refine bodyPost_ret (v := .tuple #[changeVal PChange.zero, .int .i64 4]) (by simp [results, Tryz.results53, go_sem, o0, o1, o2, o3]; rfl) rfl ⟨by rw [HE.out, HV.out], ?_⟩
      repeat (first | (with_reducible first | exact Below.refl _ _ | assumption | refine below_drewN ?_ _ | refine Below.drew ?_ | refine below_alloc ?_ _) | (with_reducible refine below_set ?_ ?side _; (case side => first | omega | (simp; omega) | (simp only [World.size_alloc]; omega))) | (with_reducible refine below_trans ?_ (by assumption)))
  · have HE := Aside.mk (change_more HNE.out HBAD.out HL1.out hmore.out)
    have HV := Aside.mk (show changeV s = PChange.zero from if_neg (by rw [HE.out]; decide))
    obtain ⟨⟨o0, o1, o2, o3⟩, f0, f1, f2, f3⟩ := four (heap_alloc HO.out (.cells #[.int .i64 0, .int .i64 5, .int .i64 5, .int .i64 10, .int .i64 9] 3))
    go_enter Tryz.func53, Tryz.ntmps53
    go_wp2_with fail
    go_tidy
    refine bodyPost_ret (v := .tuple #[changeVal PChange.zero, .int .i64 4]) (by simp [results, Tryz.results53, go_sem, o0, o1, o2, o3]; rfl) rfl ⟨by rw [HE.out, HV.out], ?_⟩
    repeat (first | (with_reducible first | exact Below.refl _ _ | assumption | refine below_drewN ?_ _ | refine Below.drew ?_ | refine below_alloc ?_ _) | (with_reducible refine below_set ?_ ?side _; (case side => first | omega | (simp; omega) | (simp only [World.size_alloc]; omega))) | (with_reducible refine below_trans ?_ (by assumption)))
set_option maxHeartbeats 4000000 in
set_option maxRecDepth 100000 in
theorem rTakeChange3_c (s : ByteArray) (hs : s.size < 4611686018427387904) (h0 : 0 < s.size) (hK : (s[0]).toNat = 3) (w : World) :
    Calls Tryz.prog 53 #[.string s] w (Ret w (.tuple #[changeVal (changeV s), .int .i64 (changeE s)])) := by
  have hW := (what_first h0).trans hK
  have hbad : ¬ (rdWhat s = 0 ∨ 4 < rdWhat s) := by omega
  have HBAD := Aside.mk hbad
  have HNE := Aside.mk (show s.size ≠ 0 by omega)
  have hpi : (0 : Int) < (s.size : Int) := by omega
  have HO := Aside.mk (heap_new w (.cells #[.int .u8 0, .int .u64 0, .int .u8 0, .int .u64 0] 80))
  have HW := Aside.mk hW
  clear hbad hW
  have hte : (s.toList == ([] : List UInt8)) = false := by have := HNE.out; simpa [toList_nil] using this
  by_cases hsh : s.size < 10
  · have HE := Aside.mk (change_torn HNE.out HBAD.out (ch3_short HW.out hsh))
    have HV := Aside.mk (show changeV s = PChange.zero from if_neg (by rw [HE.out]; decide))
    obtain ⟨⟨o0, o1, o2, o3⟩, f0, f1, f2, f3⟩ := four (heap_alloc HO.out (.cells #[.int .i64 0, .int .i64 5, .int .i64 5, .int .i64 10, .int .i64 9] 3))
    go_enter Tryz.func53, Tryz.ntmps53
    go_wp2_with fail
    go_tidy
    refine bodyPost_ret (v := .tuple #[changeVal PChange.zero, .int .i64 10]) (by simp [results, Tryz.results53, go_sem, o0, o1, o2, o3]; rfl) rfl ⟨by rw [HE.out, HV.out], ?_⟩
    repeat (first | (with_reducible first | exact Below.refl _ _ | assumption | refine below_drewN ?_ _ | refine Below.drew ?_ | refine below_alloc ?_ _) | (with_reducible refine below_set ?_ ?side _; (case side => first | omega | (simp; omega) | (simp only [World.size_alloc]; omega))) | (with_reducible refine below_trans ?_ (by assumption)))
  have hL := ch3_long HW.out (by omega)
  have h1 : (1 : Int) < (s.size : Int) := by omega
  have hor : (Aside (10 = s.size) ∧ (s.size : Int) ≤ 10) ∨ (Aside (10 < s.size) ∧ (10 : Int) < (s.size : Int)) := by
    by_cases hx : 10 = s.size
    · exact .inl ⟨⟨hx⟩, by omega⟩
    · exact .inr ⟨⟨by omega⟩, by omega⟩
  have hge : (10 : Int) ≤ (s.size : Int) := by omega
  have HL1 := Aside.mk hL.1
  obtain ⟨N, hN, hc⟩ : ∃ N : Int → Int → Int, (∀ f t, N f t = be (s.extract f.toNat t.toNat).data.toList) ∧ ∀ (f t : Int), 0 ≤ f → f ≤ t → t ≤ s.size → t - f ≤ 8 → ∀ w, Calls Tryz.prog 92 #[.string s, .int .i64 f, .int .i64 t] w fun e w' => e = .returned (.int .u64 (N f t)) ∧ w = w' :=
    ⟨fun f t => be (s.extract f.toNat t.toNat).data.toList, fun _ _ => rfl, fun f t h0 h1 h2 h3 w => rnum_i s f t h0 h1 h2 h3 hs w⟩
  have hL2 : rdChange s = ⟨3, 0, ((s[1]).toNat), (N 2 10)⟩ := by rw [hL.2, hN]; rfl
  have b1 : 0 ≤ N 2 10 := by rw [hN]; omega
  have hm0 : (0 : Int) ≤ 0 := by first | exact b1 | omega
  have hq0 : (0 : Int) ≤ ((s[1]).toNat) := by omega
  have HL2 := Aside.mk hL2
  clear hL hN hL2
  rcases hor with ⟨hmore, hle⟩ | ⟨hmore, hlt⟩
  · have hE := change_all HNE.out HBAD.out HL1.out hmore.out
    rw [HL2.out] at hE
    have hO1 := heap_alloc (heap_alloc HO.out (.cells #[.int .i64 0, .int .i64 5, .int .i64 5, .int .i64 10, .int .i64 9] 3)) (.cells #[.int .u8 3, .int .u64 0, .int .u8 ((s[1]).toNat), .int .u64 (N 2 10)] 80)
    have hC1 := heap_new' ((w.alloc (.cells #[.int .u8 0, .int .u64 0, .int .u8 0, .int .u64 0] 80)).alloc (.cells #[.int .i64 0, .int .i64 5, .int .i64 5, .int .i64 10, .int .i64 9] 3)) (.cells #[.int .u8 3, .int .u64 0, .int .u8 ((s[1]).toNat), .int .u64 (N 2 10)] 80) (g := w.heap.size + 2) (by simp)
    have HO1 := Aside.mk hO1
    have HC1 := Aside.mk hC1
    have HEE := Aside.mk hE
    clear hO1 hC1 hE
    go_enter Tryz.func53, Tryz.ntmps53
    go_wp2_with (go_at_call 92; refine (hc _ _ (by omega) (by omega) (by omega) (by omega) _).mono ?_; rintro e w1 ⟨rfl, rfl⟩)
    refine (rmayChange_c 3 0 ((s[1]).toNat) (N 2 10) hm0 hq0 _).mono ?_
    rintro e w2 ⟨rfl, hb2⟩
    obtain ⟨⟨o0, o1, o2, o3⟩, f0, f1, f2, f3⟩ := four (below_keep hb2 HO1.out)
    obtain ⟨⟨d0, d1, d2, d3⟩, g0, g1, g2, g3⟩ := four (below_keep hb2 HC1.out)
    by_cases hm : (PChange.mk 3 0 ((s[1]).toNat) (N 2 10)).may = true
    · have HE := Aside.mk (HEE.out.trans (if_pos hm))
      have HV := Aside.mk ((show changeV s = rdChange s from if_pos HE.out).trans HL2.out)
      have HM := Aside.mk hm
      clear hm
      rw [HM.out]
      go_wp2_with fail
      go_tidy
      refine bodyPost_ret (v := .tuple #[changeVal ⟨3, 0, ((s[1]).toNat), (N 2 10)⟩, .int .i64 0]) (by simp [results, Tryz.results53, go_sem, o0, o1, o2, o3]; rfl) rfl ⟨by rw [HE.out, HV.out], ?_⟩
      repeat (first | (with_reducible first | exact Below.refl _ _ | assumption | refine below_drewN ?_ _ | refine Below.drew ?_ | refine below_alloc ?_ _) | (with_reducible refine below_set ?_ ?side _; (case side => first | omega | (simp; omega) | (simp only [World.size_alloc]; omega))) | (with_reducible refine below_trans ?_ (by assumption)))
    · have HE := Aside.mk (HEE.out.trans (if_neg hm))
      have HV := Aside.mk (show changeV s = PChange.zero from if_neg (by rw [HE.out]; decide))
      have HM := Aside.mk (Bool.eq_false_iff.2 hm)
      clear hm
      rw [HM.out]
      go_wp2_with fail
      go_tidy
      refine bodyPost_ret (v := .tuple #[changeVal PChange.zero, .int .i64 4]) (by simp [results, Tryz.results53, go_sem, o0, o1, o2, o3]; rfl) rfl ⟨by rw [HE.out, HV.out], ?_⟩
      repeat (first | (with_reducible first | exact Below.refl _ _ | assumption | refine below_drewN ?_ _ | refine Below.drew ?_ | refine below_alloc ?_ _) | (with_reducible refine below_set ?_ ?side _; (case side => first | omega | (simp; omega) | (simp only [World.size_alloc]; omega))) | (with_reducible refine below_trans ?_ (by assumption)))
  · have HE := Aside.mk (change_more HNE.out HBAD.out HL1.out hmore.out)
    have HV := Aside.mk (show changeV s = PChange.zero from if_neg (by rw [HE.out]; decide))
    obtain ⟨⟨o0, o1, o2, o3⟩, f0, f1, f2, f3⟩ := four (heap_alloc HO.out (.cells #[.int .i64 0, .int .i64 5, .int .i64 5, .int .i64 10, .int .i64 9] 3))
    go_enter Tryz.func53, Tryz.ntmps53
    go_wp2_with fail
    go_tidy
    refine bodyPost_ret (v := .tuple #[changeVal PChange.zero, .int .i64 4]) (by simp [results, Tryz.results53, go_sem, o0, o1, o2, o3]; rfl) rfl ⟨by rw [HE.out, HV.out], ?_⟩
    repeat (first | (with_reducible first | exact Below.refl _ _ | assumption | refine below_drewN ?_ _ | refine Below.drew ?_ | refine below_alloc ?_ _) | (with_reducible refine below_set ?_ ?side _; (case side => first | omega | (simp; omega) | (simp only [World.size_alloc]; omega))) | (with_reducible refine below_trans ?_ (by assumption)))
set_option maxHeartbeats 4000000 in
set_option maxRecDepth 100000 in
theorem rTakeChange_c (s : ByteArray) (hs : s.size < 4611686018427387904) (w : World) :
    Calls Tryz.prog 53 #[.string s] w (Ret w (.tuple #[changeVal (changeV s), .int .i64 (changeE s)])) := by
  have hO := heap_new w (.cells #[.int .u8 0, .int .u64 0, .int .u8 0, .int .u64 0] 80)
  by_cases h0 : s.size = 0
  · have HE := Aside.mk (show changeE s = 10 from if_pos h0)
    have HV := Aside.mk (show changeV s = PChange.zero from if_neg (by rw [HE.out]; decide))
    have hte : (s.toList == ([] : List UInt8)) = true := by simpa [toList_nil] using h0
    obtain ⟨⟨o0, o1, o2, o3⟩, f0, f1, f2, f3⟩ := four hO
    clear h0
    go_enter Tryz.func53, Tryz.ntmps53
    go_wp2_with fail
    go_tidy
    refine bodyPost_ret (v := .tuple #[changeVal PChange.zero, .int .i64 10]) (by simp [results, Tryz.results53, go_sem, o0, o1, o2, o3]; rfl) rfl ⟨by rw [HE.out, HV.out], ?_⟩
    repeat (first | (with_reducible first | exact Below.refl _ _ | assumption | refine below_drewN ?_ _ | refine Below.drew ?_ | refine below_alloc ?_ _) | (with_reducible refine below_set ?_ ?side _; (case side => first | omega | (simp; omega) | (simp only [World.size_alloc]; omega))) | (with_reducible refine below_trans ?_ (by assumption)))
  have hp : 0 < s.size := by omega
  by_cases k1 : (s[0]).toNat = 1
  · exact rTakeChange1_c s hs hp k1 w
  by_cases k2 : (s[0]).toNat = 2
  · exact rTakeChange2_c s hs hp k2 w
  by_cases k3 : (s[0]).toNat = 3
  · exact rTakeChange3_c s hs hp k3 w
  by_cases k4 : (s[0]).toNat = 4
  · exact rTakeChange4_c s hs hp k4 w
  have hlt := (s[0]).toNat_lt
  have hbad : rdWhat s = 0 ∨ 4 < rdWhat s := by rw [what_first hp]; omega
  have HE := Aside.mk (show changeE s = 4 by unfold changeE; rw [if_neg h0, if_pos hbad])
  have HV := Aside.mk (show changeV s = PChange.zero from if_neg (by rw [HE.out]; decide))
  have hte : (s.toList == ([] : List UInt8)) = false := by simpa [toList_nil] using h0
  have hpi : (0 : Int) < (s.size : Int) := by omega
  obtain ⟨⟨o0, o1, o2, o3⟩, f0, f1, f2, f3⟩ := four hO
  have hor : ((s[0]).toNat : Int) < 1 ∨ (4 : Int) < ((s[0]).toNat : Int) := by omega
  clear h0 k1 k2 k3 k4 hbad
  rcases hor with hq | hq
  · go_enter Tryz.func53, Tryz.ntmps53
    go_wp2_with fail
    go_tidy
    refine bodyPost_ret (v := .tuple #[changeVal PChange.zero, .int .i64 4]) (by simp [results, Tryz.results53, go_sem, o0, o1, o2, o3]; rfl) rfl ⟨by rw [HE.out, HV.out], ?_⟩
    repeat (first | (with_reducible first | exact Below.refl _ _ | assumption | refine below_drewN ?_ _ | refine Below.drew ?_ | refine below_alloc ?_ _) | (with_reducible refine below_set ?_ ?side _; (case side => first | omega | (simp; omega) | (simp only [World.size_alloc]; omega))) | (with_reducible refine below_trans ?_ (by assumption)))
  · have hq2 : (1 : Int) ≤ ((s[0]).toNat : Int) := by omega
    go_enter Tryz.func53, Tryz.ntmps53
    go_wp2_with fail
    go_tidy
    refine bodyPost_ret (v := .tuple #[changeVal PChange.zero, .int .i64 4]) (by simp [results, Tryz.results53, go_sem, o0, o1, o2, o3]; rfl) rfl ⟨by rw [HE.out, HV.out], ?_⟩
    repeat (first | (with_reducible first | exact Below.refl _ _ | assumption | refine below_drewN ?_ _ | refine Below.drew ?_ | refine below_alloc ?_ _) | (with_reducible refine below_set ?_ ?side _; (case side => first | omega | (simp; omega) | (simp only [World.size_alloc]; omega))) | (with_reducible refine below_trans ?_ (by assumption)))
end Go.Proofs.YtmggpfngbkbkmaaGreatDoor
