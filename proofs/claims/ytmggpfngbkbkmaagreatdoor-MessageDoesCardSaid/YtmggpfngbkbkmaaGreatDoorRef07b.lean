/- What rillbedref07 does (2): Take. -/
import Derived.Test.YtmggpfngbkbkmaaGreatDoorRef07
import Derived.Deep.RegionHeld3
namespace Go.Proofs.YtmggpfngbkbkmaaGreatDoor
open Go.RowKit
set_option linter.unusedVariables false
set_option linter.unusedSimpArgs false

theorem ext_self (s : ByteArray) : s.extract 0 s.size = s := by apply ba_ext; simp
theorem ext_ext (s : ByteArray) (i a b : Nat) : (s.extract i s.size).extract a b = s.extract (i + a) (min (i + b) s.size) := by
  apply ba_ext
  simp only [ext_list, List.drop_take, List.drop_drop, List.take_take]
  congr 1
  omega
theorem fixR_ext (s : ByteArray) (i n : Nat) (h : i + n ≤ s.size) : fixR (some (s.extract i s.size)) n = some (s.extract (i + n) s.size) := by
  have hz : (s.extract i s.size).size = s.size - i := by simp
  simp only [fixR, hz]
  rw [if_pos (by omega), ext_ext, show min (i + (s.size - i)) s.size = s.size by omega]
theorem fixR_short (s : ByteArray) (i n : Nat) (h : s.size < i + n) (hn : 0 < n) : fixR (some (s.extract i s.size)) n = none := by
  have hz : (s.extract i s.size).size = s.size - i := by simp
  simp only [fixR, hz]
  rw [if_neg (by omega)]
theorem numV_ext (s : ByteArray) (i n : Nat) (h : i + n ≤ s.size) : numV (some (s.extract i s.size)) n = be (s.extract i (i + n)).data.toList := by
  have hz : (s.extract i s.size).size = s.size - i := by simp
  simp only [numV, fixV, hz]
  rw [if_pos (by omega), ext_ext, show min (i + n) s.size = i + n by omega, Nat.add_zero]
theorem be_one (s : ByteArray) (i : Nat) (h : i < s.size) : be (s.extract i (i + 1)).data.toList = (s[i]).toNat := by
  have := ext_snoc s i (i + 1) 0 (by omega) (by omega)
  rw [List.take_of_length_le (by simp; omega)] at this
  rw [this]
  simp [be]
theorem meta_short (s : ByteArray) (h : s.size < 21) : rdMetaR s = none := by
  unfold rdMetaR
  conv => lhs; arg 1; arg 1; arg 1; rw [← ext_self s]
  by_cases h1 : s.size < 1
  · rw [fixR_short s 0 1 (by omega) (by omega)]; rfl
  rw [fixR_ext s 0 1 (by omega)]
  by_cases h2 : s.size < 5
  · rw [fixR_short s _ 4 (by omega) (by omega)]; rfl
  rw [fixR_ext s _ 4 (by omega)]
  by_cases h3 : s.size < 13
  · rw [fixR_short s _ 8 (by omega) (by omega)]; rfl
  rw [fixR_ext s _ 8 (by omega), fixR_short s _ 8 (by omega) (by omega)]
theorem meta_long (s : ByteArray) (h : 21 ≤ s.size) : rdMetaR s = some (s.extract 21 s.size) ∧ rdMeta s = ⟨(s[0]).toNat, be (s.extract 1 5).data.toList, be (s.extract 5 13).data.toList, be (s.extract 13 21).data.toList⟩ := by
  have e : some s = some (s.extract 0 s.size) := by rw [ext_self]
  constructor
  · unfold rdMetaR; rw [e, fixR_ext s _ 1 (by omega), fixR_ext s _ 4 (by omega), fixR_ext s _ 8 (by omega), fixR_ext s _ 8 (by omega)]
  · unfold rdMeta
    rw [e, fixR_ext s _ 1 (by omega), fixR_ext s _ 4 (by omega), fixR_ext s _ 8 (by omega), numV_ext s _ 1 (by omega), numV_ext s _ 4 (by omega), numV_ext s _ 8 (by omega), numV_ext s _ 8 (by omega), be_one s 0 (by omega)]
theorem meta_over (s : ByteArray) (h : 21 < s.size) : metaE s = 4 := by
  unfold metaE
  rw [(meta_long s (by omega)).1]
  have hz : (s.extract 21 s.size).size = s.size - 21 := by simp
  have : wholeE (some (s.extract 21 s.size)) = 4 := by simp only [wholeE, hz]; rw [if_neg (by omega)]
  rw [this, if_neg (by decide)]
theorem meta_fits (s : ByteArray) (h : s.size = 21) : metaE s = (rdMeta s).err := by
  unfold metaE
  rw [(meta_long s (by omega)).1]
  have hz : (s.extract 21 s.size).size = s.size - 21 := by simp
  have : wholeE (some (s.extract 21 s.size)) = 0 := by simp only [wholeE, hz]; rw [if_pos (by omega)]
  rw [this, if_pos rfl]
def metaVal (m : PMeta) : Value := .agg #[.int .u8 m.kind, .int .u32 m.size, .int .u64 m.mark, .int .u64 m.stamp]

theorem rnum_i (s : ByteArray) (f t : Int) (h0 : 0 ≤ f) (hft : f ≤ t) (ht : t ≤ s.size) (h8 : t - f ≤ 8) (hs : s.size < 4611686018427387904) (w : World) :
    Calls Tryz.prog 92 #[.string s, .int .i64 f, .int .i64 t] w fun e w' => e = .returned (.int .u64 (be (s.extract f.toNat t.toNat).data.toList)) ∧ w = w' := by
  have h := rnum_c s f.toNat t.toNat (by omega) (by omega) (by omega) hs w
  rwa [Int.toNat_of_nonneg h0, Int.toNat_of_nonneg (by omega)] at h
set_option maxHeartbeats 2000000 in
set_option maxRecDepth 100000 in
theorem rTake_c (s : ByteArray) (hs : s.size < 4611686018427387904) (w : World) :
    Calls Tryz.prog 52 #[.string s] w (Ret w (.tuple #[metaVal (metaV s), .int .i64 (metaE s)])) := by
  have hO := heap_new w (.cells #[.int .u8 0, .int .u32 0, .int .u64 0, .int .u64 0] 76)
  by_cases h21 : s.size < 21
  · have HE := Aside.mk (show metaE s = 10 by unfold metaE; rw [meta_short s h21]; rfl)
    have HV := Aside.mk (show metaV s = PMeta.zero from if_neg (by rw [HE.out]; decide))
    obtain ⟨⟨o0, o1, o2, o3⟩, f0, f1, f2, f3⟩ := four hO
    go_enter Tryz.func52, Tryz.ntmps52
    go_wp2_with fail
    go_tidy
    refine bodyPost_ret (v := .tuple #[metaVal PMeta.zero, .int .i64 10]) (by simp [results, Tryz.results52, go_sem, o0, o1, o2, o3]; rfl) rfl ⟨by rw [HE.out, HV.out], ?_⟩
    repeat (first | (with_reducible first | exact Below.refl _ _ | assumption | refine below_drewN ?_ _ | refine Below.drew ?_ | refine below_alloc ?_ _) | (with_reducible refine below_set ?_ ?side _; (case side => first | omega | (simp; omega) | (simp only [World.size_alloc]; omega))) | (with_reducible refine below_trans ?_ (by assumption)))
  have HL := Aside.mk (meta_long s (by omega)).2
  have HC := Aside.mk (rdMeta_wf s)
  obtain ⟨N, hN, hc⟩ : ∃ N : Int → Int → Int, (∀ f t, N f t = be (s.extract f.toNat t.toNat).data.toList) ∧ ∀ (f t : Int), 0 ≤ f → f ≤ t → t ≤ s.size → t - f ≤ 8 → ∀ w, Calls Tryz.prog 92 #[.string s, .int .i64 f, .int .i64 t] w fun e w' => e = .returned (.int .u64 (N f t)) ∧ w = w' :=
    ⟨fun f t => be (s.extract f.toNat t.toNat).data.toList, fun _ _ => rfl, fun f t h0 h1 h2 h3 w => rnum_i s f t h0 h1 h2 h3 hs w⟩
  have b1 : 0 ≤ N 1 5 ∧ N 1 5 < 4294967296 := by rw [hN]; exact ⟨by omega, by have := be_small (s.extract 1 5).data.toList 4 (by simp; omega); exact Int.ofNat_lt.2 this⟩
  have b2 : 0 ≤ N 5 13 ∧ N 5 13 < 18446744073709551616 := by rw [hN]; exact ⟨by omega, by have := be_small (s.extract 5 13).data.toList 8 (by simp; omega); exact Int.ofNat_lt.2 this⟩
  have b3 : 0 ≤ N 13 21 ∧ N 13 21 < 18446744073709551616 := by rw [hN]; exact ⟨by omega, by have := be_small (s.extract 13 21).data.toList 8 (by simp; omega); exact Int.ofNat_lt.2 this⟩
  have hL : rdMeta s = ⟨(s[0]).toNat, N 1 5, N 5 13, N 13 21⟩ := by rw [HL.out, hN, hN, hN]; rfl
  rw [hL] at HC
  have HL := Aside.mk hL
  have HN := Aside.mk hN
  clear hL hN
  have hp : (0 : Int) < (s.size : Int) := by omega
  have hp' : 0 < s.size := by omega
  obtain ⟨b10, b11⟩ := b1
  obtain ⟨b20, b21⟩ := b2
  obtain ⟨b30, b31⟩ := b3
  have hw1 : IntKind.u32.wrap (N 1 5) = N 1 5 := wrap_u32 _ b10 b11
  go_enter Tryz.func52, Tryz.ntmps52
  go_wp2_with fail
  go_region_held3 (fun w' => True) (trivial) (first | (go_at_call 92; refine (hc _ _ (by omega) (by omega) (by omega) (by omega) _).mono ?_; rintro e w1 ⟨rfl, rfl⟩))
  all_goals
    have hO1 : (((w.alloc (.cells #[.int .u8 0, .int .u32 0, .int .u64 0, .int .u64 0] 76)).alloc (.cells #[.int .u8 (s[0]).toNat, .int .u32 (N 1 5), .int .u64 (N 5 13), .int .u64 (N 13 21)] 76)).drew).heap[w.heap.size]? = some (.cells #[.int .u8 0, .int .u32 0, .int .u64 0, .int .u64 0] 76 (0, 0)) := heap_alloc hO _
    have hM1 : (((w.alloc (.cells #[.int .u8 0, .int .u32 0, .int .u64 0, .int .u64 0] 76)).alloc (.cells #[.int .u8 (s[0]).toNat, .int .u32 (N 1 5), .int .u64 (N 5 13), .int .u64 (N 13 21)] 76)).drew).heap[w.heap.size + 1]? = some (.cells #[.int .u8 (s[0]).toNat, .int .u32 (N 1 5), .int .u64 (N 5 13), .int .u64 (N 13 21)] 76 (0, 0)) := heap_new' _ _ (by simp)
    by_cases hov : 21 < s.size
    · have HE := Aside.mk (meta_over s hov)
      have HV := Aside.mk (show metaV s = PMeta.zero from if_neg (by rw [HE.out]; decide))
      obtain ⟨⟨o0, o1, o2, o3⟩, f0, f1, f2, f3⟩ := four hO1
      clear hO hO1 hM1 hc
      go_wp2_with fail
      go_tidy
      refine bodyPost_ret (v := .tuple #[metaVal PMeta.zero, .int .i64 4]) (by simp [results, Tryz.results52, go_sem, o0, o1, o2, o3]; rfl) rfl ⟨by rw [HE.out, HV.out], ?_⟩
      repeat (first | (with_reducible first | exact Below.refl _ _ | assumption | refine below_drewN ?_ _ | refine Below.drew ?_ | refine below_alloc ?_ _) | (with_reducible refine below_set ?_ ?side _; (case side => first | omega | (simp; omega) | (simp only [World.size_alloc]; omega))) | (with_reducible refine below_trans ?_ (by assumption)))
    · have h22 : s.size = 21 := by omega
      have hE := meta_fits s h22
      rw [HL.out] at hE
      obtain ⟨⟨d0, d1, d2, d3⟩, g0, g1, g2, g3⟩ := four hM1
      by_cases hm : (PMeta.mk (s[0]).toNat (N 1 5) (N 5 13) (N 13 21)).may = true
      · have HE := Aside.mk (hE.trans (PMeta.err_yes hm))
        have HV := Aside.mk ((show metaV s = rdMeta s from if_pos HE.out).trans HL.out)
        have HM := Aside.mk hm
        clear hE hm hc
        go_wp2_with fail
        refine (rmay_c _ _ _ _ b10 b20 b21 _).mono ?_
        rintro e w2 ⟨rfl, hb2⟩
        rw [HM.out]
        clear d0 d1 d2 d3 g0 g1 g2 g3
        have hO2 := below_keep hb2 hO1
        have hM2 := below_keep hb2 hM1
        obtain ⟨⟨o0, o1, o2, o3⟩, f0, f1, f2, f3⟩ := four hO2
        obtain ⟨⟨d0, d1, d2, d3⟩, g0, g1, g2, g3⟩ := four hM2
        clear hO hO1 hM1 hO2 hM2
        go_wp2_with fail
        go_tidy
        refine bodyPost_ret (v := .tuple #[metaVal ⟨(s[0]).toNat, N 1 5, N 5 13, N 13 21⟩, .int .i64 0]) (by simp [results, Tryz.results52, go_sem, o0, o1, o2, o3]; rfl) rfl ⟨by rw [HE.out, HV.out], ?_⟩
        repeat (first | (with_reducible first | exact Below.refl _ _ | assumption | refine below_drewN ?_ _ | refine Below.drew ?_ | refine below_alloc ?_ _) | (with_reducible refine below_set ?_ ?side _; (case side => first | omega | (simp; omega) | (simp only [World.size_alloc]; omega))) | (with_reducible refine below_trans ?_ (by assumption)))
      · have HE := Aside.mk (hE.trans (PMeta.err_no hm))
        have HV := Aside.mk (show metaV s = PMeta.zero from if_neg (by rw [HE.out]; decide))
        have HM := Aside.mk (Bool.eq_false_iff.2 hm)
        clear hE hm hc
        go_wp2_with fail
        refine (rmay_c _ _ _ _ b10 b20 b21 _).mono ?_
        rintro e w2 ⟨rfl, hb2⟩
        rw [HM.out]
        clear d0 d1 d2 d3 g0 g1 g2 g3
        have hO2 := below_keep hb2 hO1
        obtain ⟨⟨o0, o1, o2, o3⟩, f0, f1, f2, f3⟩ := four hO2
        clear hO hO1 hM1 hO2
        go_wp2_with fail
        go_tidy
        refine bodyPost_ret (v := .tuple #[metaVal PMeta.zero, .int .i64 4]) (by simp [results, Tryz.results52, go_sem, o0, o1, o2, o3]; rfl) rfl ⟨by rw [HE.out, HV.out], ?_⟩
        repeat (first | (with_reducible first | exact Below.refl _ _ | assumption | refine below_drewN ?_ _ | refine Below.drew ?_ | refine below_alloc ?_ _) | (with_reducible refine below_set ?_ ?side _; (case side => first | omega | (simp; omega) | (simp only [World.size_alloc]; omega))) | (with_reducible refine below_trans ?_ (by assumption)))
end Go.Proofs.YtmggpfngbkbkmaaGreatDoor
