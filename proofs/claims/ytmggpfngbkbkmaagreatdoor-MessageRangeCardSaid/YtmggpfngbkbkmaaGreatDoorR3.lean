/- What package meta does (8): TakeChange whole; Apply. -/
import Derived.Test.YtmggpfngbkbkmaaGreatDoorR2
namespace Go.Proofs.YtmggpfngbkbkmaaGreatDoor
open Go.RowKit
set_option linter.unusedVariables false
set_option linter.unusedSimpArgs false

set_option maxHeartbeats 2000000 in
set_option maxRecDepth 100000 in
theorem takeChange_c (s : ByteArray) (w : World) :
    Calls Tryz.prog 86 #[.string s] w (Ret w (.tuple #[.agg #[.int .u8 (changeV s).what, .int .u64 (changeV s).n, .int .u8 (changeV s).op, .int .u64 (changeV s).by_], .int .i64 (changeE s)])) := by
  by_cases hs : s.size = 0
  · have HE := Aside.mk (show changeE s = 10 from if_pos hs)
    have HV := Aside.mk (show changeV s = PChange.zero from if_neg (by rw [HE.out]; decide))
    have hte : (s.toList == ([] : List UInt8)) = true := by simpa [toList_nil] using hs
    clear hs
    have hO := heap_new w (.cells #[.int .u8 0, .int .u64 0, .int .u8 0, .int .u64 0] 113)
    obtain ⟨⟨o0, o1, o2, o3⟩, f0, f1, f2, f3⟩ := four hO
    go_enter Tryz.func86, Tryz.ntmps86
    go_wp2_with fail
    go_tidy
    refine bodyPost_ret (v := .tuple #[.agg #[.int .u8 0, .int .u64 0, .int .u8 0, .int .u64 0], .int .i64 10]) (by simp [results, Tryz.results86, go_sem, o0, o1, o2, o3]) rfl ⟨by rw [HE.out, HV.out]; rfl, ?_⟩
    repeat (first | (with_reducible first | exact Below.refl _ _ | assumption | refine below_drewN ?_ _ | refine Below.drew ?_ | refine below_alloc ?_ _) | (with_reducible refine below_set ?_ ?side _; (case side => first | omega | (simp; omega) | (simp only [World.size_alloc]; omega))) | (with_reducible refine below_trans ?_ (by assumption)))
  by_cases k1 : rdWhat s = 1
  · exact takeChange1_c s hs k1 w
  by_cases k2 : rdWhat s = 2
  · exact takeChange2_c s hs k2 w
  by_cases k3 : rdWhat s = 3
  · exact takeChange3_c s hs k3 w
  by_cases k4 : rdWhat s = 4
  · exact takeChange4_c s hs k4 w
  have hk : rdWhat s = 0 ∨ 4 < rdWhat s := by omega
  have HE := Aside.mk (show changeE s = 4 by unfold changeE; rw [if_neg hs, if_pos hk])
  have HV := Aside.mk (show changeV s = PChange.zero from if_neg (by rw [HE.out]; decide))
  have HK := Aside.mk (show numV (some s) 1 = rdWhat s from rfl)
  have hte : (s.toList == ([] : List UInt8)) = false := by simpa [toList_nil] using hs
  have e1 : (((rdWhat s : Nat) : Int) == 1) = false := beq_eq_false_iff_ne.2 (by omega)
  have e2 : (((rdWhat s : Nat) : Int) == 2) = false := beq_eq_false_iff_ne.2 (by omega)
  have e3 : (((rdWhat s : Nat) : Int) == 3) = false := beq_eq_false_iff_ne.2 (by omega)
  have e4 : (((rdWhat s : Nat) : Int) == 4) = false := beq_eq_false_iff_ne.2 (by omega)
  clear k1 k2 k3 k4 hk hs
  go_enter Tryz.func86, Tryz.ntmps86
  go_wp2_with (go_at_call 108; refine (rdNew_c s _).mono ?_; rintro e w1 ⟨rfl, rfl⟩)
  have hR := rd_new (w.alloc (.cells #[.int .u8 0, .int .u64 0, .int .u8 0, .int .u64 0] 113)) s (g := w.heap.size + 1) (by simp)
  have hO := heap_alloc (heap_new w (.cells #[.int .u8 0, .int .u64 0, .int .u8 0, .int .u64 0] 113)) (.cells #[.string s, .int .i64 0] 172)
  refine (rdU8_c _ _ _ hR).mono ?_
  rintro e w1 ⟨rfl, hR1, ht1⟩
  rw [HK.out]
  generalize rdWhat s = q at e1 e2 e3 e4 ⊢
  have hz1 := ht1.size
  simp at hz1
  have hB1 : Below w.heap.size w w1 := below_touch (below_alloc (below_alloc (Below.refl _ _) _) _) ht1 (by intro i hi e; omega)
  obtain ⟨⟨o0, o1, o2, o3⟩, f0, f1, f2, f3⟩ := four (heap_alloc (ht1.keep hO (by omega)) (.cells #[.int .u8 q, .int .u64 0, .int .u8 0, .int .u64 0] 113))
  go_wp2_with fail
  go_tidy
  refine bodyPost_ret (v := .tuple #[.agg #[.int .u8 0, .int .u64 0, .int .u8 0, .int .u64 0], .int .i64 4]) (by simp [results, Tryz.results86, go_sem, o0, o1, o2, o3]) rfl ⟨by rw [HE.out, HV.out]; rfl, ?_⟩
  repeat (first | (with_reducible first | exact Below.refl _ _ | assumption | refine below_drewN ?_ _ | refine Below.drew ?_ | refine below_alloc ?_ _) | (with_reducible refine below_set ?_ ?side _; (case side => first | omega | (simp; omega) | (simp only [World.size_alloc]; omega))) | (with_reducible refine below_trans ?_ (by assumption)))

set_option maxHeartbeats 2000000 in
set_option maxRecDepth 100000 in
theorem metaApply_c (m : PMeta) (c : PChange) (hm : m.wf) (hc : c.wf) (w : World) :
    Calls Tryz.prog 88 #[.agg #[.int .u8 m.kind, .int .u32 m.size, .int .u64 m.mark, .int .u64 m.stamp], .agg #[.int .u8 c.what, .int .u64 c.n, .int .u8 c.op, .int .u64 c.by_]] w
      (Ret w (.agg #[.int .u8 (m.change c).kind, .int .u32 (m.change c).size, .int .u64 (m.change c).mark, .int .u64 (m.change c).stamp])) := by
  obtain ⟨k, s, mk, st⟩ := m
  obtain ⟨a, n, o, b⟩ := c
  obtain ⟨⟨k1, k2⟩, ⟨s1, s2⟩, ⟨m1, m2⟩, ⟨t1, t2⟩⟩ := hm
  obtain ⟨⟨a1, a2⟩, ⟨n1, n2⟩, ⟨o1, o2⟩, ⟨b1, b2⟩⟩ := hc
  simp only at k1 k2 s1 s2 m1 m2 t1 t2 a1 a2 n1 n2 o1 o2 b1 b2 ⊢
  by_cases hy : (PMeta.mk k s mk st).may = true
  · by_cases hz : (PChange.mk a n o b).may = true
    · have hch : (PMeta.mk k s mk st).change ⟨a, n, o, b⟩ = if a = 1 then (if k = 1 then ⟨k, max s n, mk, st⟩ else ⟨k, s, mk, st⟩) else if a = 2 then (if k = 1 then ⟨k, n, mk, st⟩ else ⟨k, s, mk, st⟩)
          else if a = 3 then ⟨k, s, (stepN mk.toNat o b.toNat : Nat), st⟩ else ⟨k, s, mk, n⟩ := by
        unfold PMeta.change; rw [if_neg (by simp [hy, hz])]
      have HE := Aside.mk (PMeta.err_yes hy)
      have HZ := Aside.mk hz
      have hmay : (a = 1 ∨ a = 2) ∧ n ≤ 2048 ∨ a = 4 ∨ a = 3 := by
        simp only [PChange.may] at hz
        split at hz
        · rename_i h; simp at hz; exact .inl ⟨h, by omega⟩
        · split at hz
          · rename_i h; exact .inr (.inl h)
          · split at hz
            · rename_i h; exact .inr (.inr h)
            · simp at hz
      have hkd : k = 1 ∨ k = 2 := by
        simp only [PMeta.may] at hy; simp at hy; exact hy.1.1.1
      have HH := Aside.mk hch
      have HM := Aside.mk hmay
      have HK := Aside.mk hkd
      clear hy hz hch hmay hkd
      go_enter Tryz.func88, Tryz.ntmps88
      go_wp2_with fail
      refine (metaCheck_c k s mk st s1 m1 _).mono ?_
      rintro e w1 ⟨rfl, hb1⟩
      rw [HE.out]
      have hM := heap_alloc (heap_alloc (heap_new w (.cells #[.int .u8 k, .int .u32 s, .int .u64 mk, .int .u64 st] 76)) (.cells #[.int .u8 a, .int .u64 n, .int .u8 o, .int .u64 b] 113)) (.cells #[.int .u8 0, .int .u32 0, .int .u64 0, .int .u64 0] 76)
      have hC := heap_alloc (heap_new' (w.alloc (.cells #[.int .u8 k, .int .u32 s, .int .u64 mk, .int .u64 st] 76)) (.cells #[.int .u8 a, .int .u64 n, .int .u8 o, .int .u64 b] 113) (g := w.heap.size + 1) (by simp)) (.cells #[.int .u8 0, .int .u32 0, .int .u64 0, .int .u64 0] 76)
      have hR := heap_new' ((w.alloc (.cells #[.int .u8 k, .int .u32 s, .int .u64 mk, .int .u64 st] 76)).alloc (.cells #[.int .u8 a, .int .u64 n, .int .u8 o, .int .u64 b] 113)) (.cells #[.int .u8 0, .int .u32 0, .int .u64 0, .int .u64 0] 76) (g := w.heap.size + 2) (by simp)
      have hM1 := below_keep hb1 hM
      have hC1 := below_keep hb1 hC
      have hR1 := below_keep hb1 hR
      obtain ⟨⟨c0, c1, c2, c3⟩, _⟩ := four hC1
      go_wp2_with fail
      refine (changeMay_c a n o b n1 o1 _).mono ?_
      rintro e w2 ⟨rfl, hb2⟩
      rw [HZ.out]
      clear c0 c1 c2 c3
      obtain ⟨⟨d0, d1, d2, d3⟩, g0, g1, g2, g3⟩ := four (below_keep hb2 hM1)
      obtain ⟨⟨c0, c1, c2, c3⟩, _⟩ := four (below_keep hb2 hC1)
      obtain ⟨⟨r0, r1, r2, r3⟩, h0, h1, h2, h3⟩ := four (below_keep hb2 hR1)
      have hmay := HM.out
      have hkd := HK.out
      rcases hmay with ⟨ha, hn⟩ | ha | ha
      · have hw : IntKind.u32.wrap n = n := wrap_u32 n n1 (by omega)
        rcases ha with rfl | rfl <;> rcases hkd with rfl | rfl
        · have HC := Aside.mk (show (PMeta.mk 1 s mk st).change ⟨1, n, o, b⟩ = ⟨1, max s n, mk, st⟩ by rw [HH.out]; rfl)
          go_wp2_with fail
          · have hmx : max s n = n := by omega
            go_tidy
            refine bodyPost_ret (v := .agg #[.int .u8 1, .int .u32 n, .int .u64 mk, .int .u64 st]) (by simp [results, Tryz.results88, go_sem, r0, r1, r2, r3]) rfl ⟨by rw [HC.out, hmx], ?_⟩
            repeat (first | (with_reducible first | exact Below.refl _ _ | assumption | refine below_drewN ?_ _ | refine Below.drew ?_ | refine below_alloc ?_ _) | (with_reducible refine below_set ?_ ?side _; (case side => first | omega | (simp; omega) | (simp only [World.size_alloc]; omega))) | (with_reducible refine below_trans ?_ (by assumption)))
          · have hmx : max s n = s := by omega
            go_tidy
            refine bodyPost_ret (v := .agg #[.int .u8 1, .int .u32 s, .int .u64 mk, .int .u64 st]) (by simp [results, Tryz.results88, go_sem, r0, r1, r2, r3]) rfl ⟨by rw [HC.out, hmx], ?_⟩
            repeat (first | (with_reducible first | exact Below.refl _ _ | assumption | refine below_drewN ?_ _ | refine Below.drew ?_ | refine below_alloc ?_ _) | (with_reducible refine below_set ?_ ?side _; (case side => first | omega | (simp; omega) | (simp only [World.size_alloc]; omega))) | (with_reducible refine below_trans ?_ (by assumption)))
        · have HC := Aside.mk (show (PMeta.mk 2 s mk st).change ⟨1, n, o, b⟩ = ⟨2, s, mk, st⟩ by rw [HH.out]; rfl)
          go_wp2_with fail
          go_tidy
          refine bodyPost_ret (v := .agg #[.int .u8 2, .int .u32 s, .int .u64 mk, .int .u64 st]) (by simp [results, Tryz.results88, go_sem, r0, r1, r2, r3]) rfl ⟨by rw [HC.out], ?_⟩
          repeat (first | (with_reducible first | exact Below.refl _ _ | assumption | refine below_drewN ?_ _ | refine Below.drew ?_ | refine below_alloc ?_ _) | (with_reducible refine below_set ?_ ?side _; (case side => first | omega | (simp; omega) | (simp only [World.size_alloc]; omega))) | (with_reducible refine below_trans ?_ (by assumption)))
        · have HC := Aside.mk (show (PMeta.mk 1 s mk st).change ⟨2, n, o, b⟩ = ⟨1, n, mk, st⟩ by rw [HH.out]; rfl)
          go_wp2_with fail
          go_tidy
          refine bodyPost_ret (v := .agg #[.int .u8 1, .int .u32 n, .int .u64 mk, .int .u64 st]) (by simp [results, Tryz.results88, go_sem, r0, r1, r2, r3]) rfl ⟨by rw [HC.out], ?_⟩
          repeat (first | (with_reducible first | exact Below.refl _ _ | assumption | refine below_drewN ?_ _ | refine Below.drew ?_ | refine below_alloc ?_ _) | (with_reducible refine below_set ?_ ?side _; (case side => first | omega | (simp; omega) | (simp only [World.size_alloc]; omega))) | (with_reducible refine below_trans ?_ (by assumption)))
        · have HC := Aside.mk (show (PMeta.mk 2 s mk st).change ⟨2, n, o, b⟩ = ⟨2, s, mk, st⟩ by rw [HH.out]; rfl)
          go_wp2_with fail
          go_tidy
          refine bodyPost_ret (v := .agg #[.int .u8 2, .int .u32 s, .int .u64 mk, .int .u64 st]) (by simp [results, Tryz.results88, go_sem, r0, r1, r2, r3]) rfl ⟨by rw [HC.out], ?_⟩
          repeat (first | (with_reducible first | exact Below.refl _ _ | assumption | refine below_drewN ?_ _ | refine Below.drew ?_ | refine below_alloc ?_ _) | (with_reducible refine below_set ?_ ?side _; (case side => first | omega | (simp; omega) | (simp only [World.size_alloc]; omega))) | (with_reducible refine below_trans ?_ (by assumption)))
      · subst ha
        have HC := Aside.mk (show (PMeta.mk k s mk st).change ⟨4, n, o, b⟩ = ⟨k, s, mk, n⟩ by rw [HH.out]; rfl)
        clear hkd
        go_wp2_with fail
        go_tidy
        refine bodyPost_ret (v := .agg #[.int .u8 k, .int .u32 s, .int .u64 mk, .int .u64 n]) (by simp [results, Tryz.results88, go_sem, r0, r1, r2, r3]) rfl ⟨by rw [HC.out], ?_⟩
        repeat (first | (with_reducible first | exact Below.refl _ _ | assumption | refine below_drewN ?_ _ | refine Below.drew ?_ | refine below_alloc ?_ _) | (with_reducible refine below_set ?_ ?side _; (case side => first | omega | (simp; omega) | (simp only [World.size_alloc]; omega))) | (with_reducible refine below_trans ?_ (by assumption)))
      · subst ha
        have HC := Aside.mk (show (PMeta.mk k s mk st).change ⟨3, n, o, b⟩ = ⟨k, s, (stepN mk.toNat o b.toNat : Nat), st⟩ by rw [HH.out]; rfl)
        have hM2 := below_keep hb2 hM1
        have hR2 := below_keep hb2 hR1
        clear hkd
        go_wp2_with fail
        refine (step_c mk o b m1 m2 b1 b2 _).mono ?_
        rintro e w3 ⟨rfl, hb3⟩
        clear d0 d1 d2 d3 g0 g1 g2 g3 c0 c1 c2 c3 r0 r1 r2 r3 h0 h1 h2 h3
        obtain ⟨⟨d0, d1, d2, d3⟩, g0, g1, g2, g3⟩ := four (below_keep hb3 hM2)
        obtain ⟨⟨r0, r1, r2, r3⟩, h0, h1, h2, h3⟩ := four (below_keep hb3 hR2)
        go_wp2_with fail
        go_tidy
        refine bodyPost_ret (v := .agg #[.int .u8 k, .int .u32 s, .int .u64 (stepN mk.toNat o b.toNat : Nat), .int .u64 st]) (by simp [results, Tryz.results88, go_sem, r0, r1, r2, r3]) rfl ⟨by rw [HC.out], ?_⟩
        repeat (first | (with_reducible first | exact Below.refl _ _ | assumption | refine below_drewN ?_ _ | refine Below.drew ?_ | refine below_alloc ?_ _) | (with_reducible refine below_set ?_ ?side _; (case side => first | omega | (simp; omega) | (simp only [World.size_alloc]; omega))) | (with_reducible refine below_trans ?_ (by assumption)))
    · have HC := Aside.mk (show (PMeta.mk k s mk st).change ⟨a, n, o, b⟩ = ⟨k, s, mk, st⟩ by unfold PMeta.change; rw [if_pos (.inr (Bool.eq_false_iff.2 hz))])
      have HE := Aside.mk (PMeta.err_yes hy)
      have HZ := Aside.mk (Bool.eq_false_iff.2 hz)
      clear hy hz
      go_enter Tryz.func88, Tryz.ntmps88
      go_wp2_with fail
      refine (metaCheck_c k s mk st s1 m1 _).mono ?_
      rintro e w1 ⟨rfl, hb1⟩
      rw [HE.out]
      have hM := heap_alloc (heap_alloc (heap_new w (.cells #[.int .u8 k, .int .u32 s, .int .u64 mk, .int .u64 st] 76)) (.cells #[.int .u8 a, .int .u64 n, .int .u8 o, .int .u64 b] 113)) (.cells #[.int .u8 0, .int .u32 0, .int .u64 0, .int .u64 0] 76)
      have hC := heap_alloc (heap_new' (w.alloc (.cells #[.int .u8 k, .int .u32 s, .int .u64 mk, .int .u64 st] 76)) (.cells #[.int .u8 a, .int .u64 n, .int .u8 o, .int .u64 b] 113) (g := w.heap.size + 1) (by simp)) (.cells #[.int .u8 0, .int .u32 0, .int .u64 0, .int .u64 0] 76)
      have hR := heap_new' ((w.alloc (.cells #[.int .u8 k, .int .u32 s, .int .u64 mk, .int .u64 st] 76)).alloc (.cells #[.int .u8 a, .int .u64 n, .int .u8 o, .int .u64 b] 113)) (.cells #[.int .u8 0, .int .u32 0, .int .u64 0, .int .u64 0] 76) (g := w.heap.size + 2) (by simp)
      have hM1 := below_keep hb1 hM
      have hC1 := below_keep hb1 hC
      have hR1 := below_keep hb1 hR
      obtain ⟨⟨c0, c1, c2, c3⟩, _⟩ := four hC1
      go_wp2_with fail
      refine (changeMay_c a n o b n1 o1 _).mono ?_
      rintro e w2 ⟨rfl, hb2⟩
      rw [HZ.out]
      clear c0 c1 c2 c3
      obtain ⟨⟨d0, d1, d2, d3⟩, g0, g1, g2, g3⟩ := four (below_keep hb2 hM1)
      obtain ⟨⟨c0, c1, c2, c3⟩, _⟩ := four (below_keep hb2 hC1)
      obtain ⟨⟨r0, r1, r2, r3⟩, h0, h1, h2, h3⟩ := four (below_keep hb2 hR1)
      go_wp2_with fail
      go_tidy
      refine bodyPost_ret (v := .agg #[.int .u8 k, .int .u32 s, .int .u64 mk, .int .u64 st]) (by simp [results, Tryz.results88, go_sem, r0, r1, r2, r3]) rfl ⟨by rw [HC.out], ?_⟩
      repeat (first | (with_reducible first | exact Below.refl _ _ | assumption | refine below_drewN ?_ _ | refine Below.drew ?_ | refine below_alloc ?_ _) | (with_reducible refine below_set ?_ ?side _; (case side => first | omega | (simp; omega) | (simp only [World.size_alloc]; omega))) | (with_reducible refine below_trans ?_ (by assumption)))
  · have HC := Aside.mk (show (PMeta.mk k s mk st).change ⟨a, n, o, b⟩ = ⟨k, s, mk, st⟩ by unfold PMeta.change; rw [if_pos (.inl (Bool.eq_false_iff.2 hy))])
    have HE := Aside.mk (PMeta.err_no hy)
    clear hy
    go_enter Tryz.func88, Tryz.ntmps88
    go_wp2_with fail
    refine (metaCheck_c k s mk st s1 m1 _).mono ?_
    rintro e w1 ⟨rfl, hb1⟩
    rw [HE.out]
    have hM := heap_alloc (heap_alloc (heap_new w (.cells #[.int .u8 k, .int .u32 s, .int .u64 mk, .int .u64 st] 76)) (.cells #[.int .u8 a, .int .u64 n, .int .u8 o, .int .u64 b] 113)) (.cells #[.int .u8 0, .int .u32 0, .int .u64 0, .int .u64 0] 76)
    obtain ⟨⟨d0, d1, d2, d3⟩, g0, g1, g2, g3⟩ := four (below_keep hb1 hM)
    have hR := below_keep hb1 (heap_new' ((w.alloc (.cells #[.int .u8 k, .int .u32 s, .int .u64 mk, .int .u64 st] 76)).alloc (.cells #[.int .u8 a, .int .u64 n, .int .u8 o, .int .u64 b] 113)) (.cells #[.int .u8 0, .int .u32 0, .int .u64 0, .int .u64 0] 76) (g := w.heap.size + 2) (by simp))
    obtain ⟨⟨r0, r1, r2, r3⟩, h0, h1, h2, h3⟩ := four hR
    go_wp2_with fail
    go_tidy
    refine bodyPost_ret (v := .agg #[.int .u8 k, .int .u32 s, .int .u64 mk, .int .u64 st]) (by simp [results, Tryz.results88, go_sem, r0, r1, r2, r3]) rfl ⟨by rw [HC.out], ?_⟩
    repeat (first | (with_reducible first | exact Below.refl _ _ | assumption | refine below_drewN ?_ _ | refine Below.drew ?_ | refine below_alloc ?_ _) | (with_reducible refine below_set ?_ ?side _; (case side => first | omega | (simp; omega) | (simp only [World.size_alloc]; omega))) | (with_reducible refine below_trans ?_ (by assumption)))
end Go.Proofs.YtmggpfngbkbkmaaGreatDoor
