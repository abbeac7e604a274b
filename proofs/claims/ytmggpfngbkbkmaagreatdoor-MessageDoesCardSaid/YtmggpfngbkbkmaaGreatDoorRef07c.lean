/- What rillbedref07 does (3): Put, Apply. -/
import Derived.Test.YtmggpfngbkbkmaaGreatDoorRef07b
namespace Go.Proofs.YtmggpfngbkbkmaaGreatDoor
open Go.RowKit
set_option linter.unusedVariables false
set_option linter.unusedSimpArgs false

set_option maxHeartbeats 2000000 in
set_option maxRecDepth 100000 in
theorem rApply_c (m : PMeta) (c : PChange) (hm : m.wf) (hc : c.wf) (w : World) :
    Calls Tryz.prog 55 #[metaVal m, .agg #[.int .u8 c.what, .int .u64 c.n, .int .u8 c.op, .int .u64 c.by_]] w (Ret w (metaVal (m.change c))) := by
  obtain ⟨k, s, mk, st⟩ := m
  obtain ⟨a, n, o, b⟩ := c
  obtain ⟨⟨k1, k2⟩, ⟨s1, s2⟩, ⟨m1, m2⟩, ⟨t1, t2⟩⟩ := hm
  obtain ⟨⟨a1, a2⟩, ⟨n1, n2⟩, ⟨o1, o2⟩, ⟨b1, b2⟩⟩ := hc
  simp only [metaVal] at k1 k2 s1 s2 m1 m2 t1 t2 a1 a2 n1 n2 o1 o2 b1 b2 ⊢
  have HM0 := Aside.mk (heap_alloc (heap_alloc (heap_new w (.cells #[.int .u8 k, .int .u32 s, .int .u64 mk, .int .u64 st] 76)) (.cells #[.int .u8 a, .int .u64 n, .int .u8 o, .int .u64 b] 80)) (.cells #[.int .u8 0, .int .u32 0, .int .u64 0, .int .u64 0] 76))
  have HC0 := Aside.mk (heap_alloc (heap_new' (w.alloc (.cells #[.int .u8 k, .int .u32 s, .int .u64 mk, .int .u64 st] 76)) (.cells #[.int .u8 a, .int .u64 n, .int .u8 o, .int .u64 b] 80) (g := w.heap.size + 1) (by simp)) (.cells #[.int .u8 0, .int .u32 0, .int .u64 0, .int .u64 0] 76))
  have HR0 := Aside.mk (heap_new' ((w.alloc (.cells #[.int .u8 k, .int .u32 s, .int .u64 mk, .int .u64 st] 76)).alloc (.cells #[.int .u8 a, .int .u64 n, .int .u8 o, .int .u64 b] 80)) (.cells #[.int .u8 0, .int .u32 0, .int .u64 0, .int .u64 0] 76) (g := w.heap.size + 2) (by simp))
  by_cases hy : (PMeta.mk k s mk st).may = true
  · by_cases hz : (PChange.mk a n o b).may = true
    · have hch : (PMeta.mk k s mk st).change ⟨a, n, o, b⟩ = if a = 1 then (if k = 1 then ⟨k, max s n, mk, st⟩ else ⟨k, s, mk, st⟩) else if a = 2 then (if k = 1 then ⟨k, n, mk, st⟩ else ⟨k, s, mk, st⟩)
          else if a = 3 then ⟨k, s, (stepN mk.toNat o b.toNat : Nat), st⟩ else ⟨k, s, mk, n⟩ := by
        unfold PMeta.change; rw [if_neg (by simp [hy, hz])]
      have HE := Aside.mk hy
      have HZ := Aside.mk hz
      have hmay : (a = 1 ∨ a = 2) ∧ n ≤ 2048 ∨ a = 4 ∨ a = 3 := by
        simp only [PChange.may] at hz
        split at hz
        · rename_i h; simp at hz; exact .inl ⟨h, by omega⟩
        · split at hz
          · rename_i h; exact .inr (.inl h)
          · split at hz
            · rename_i h; exact .inr (.inr h)
            · simp at hz
      have hkd : k = 1 ∨ k = 2 := by
        simp only [PMeta.may] at hy; simp at hy; exact hy.1.1.1
      have HH := Aside.mk hch
      have HMAY := Aside.mk hmay
      have HK := Aside.mk hkd
      clear hy hz hch hmay hkd
      go_enter Tryz.func55, Tryz.ntmps55
      go_wp2_with fail
      refine (rmay_c k s mk st s1 m1 m2 _).mono ?_
      rintro e w1 ⟨rfl, hb1⟩
      rw [HE.out]
      have hM1 := below_keep hb1 HM0.out
      have hC1 := below_keep hb1 HC0.out
      have hR1 := below_keep hb1 HR0.out
      obtain ⟨⟨c0, c1, c2, c3⟩, _⟩ := four hC1
      go_wp2_with fail
      refine (rmayChange_c a n o b n1 o1 _).mono ?_
      rintro e w2 ⟨rfl, hb2⟩
      rw [HZ.out]
      clear c0 c1 c2 c3
      have hM2 := below_keep hb2 hM1
      have hC2 := below_keep hb2 hC1
      have hR2 := below_keep hb2 hR1
      clear hM1 hC1 hR1
      obtain ⟨⟨d0, d1, d2, d3⟩, g0, g1, g2, g3⟩ := four hM2
      obtain ⟨⟨c0, c1, c2, c3⟩, _⟩ := four hC2
      obtain ⟨⟨r0, r1, r2, r3⟩, h0, h1, h2, h3⟩ := four hR2
      have hmay := HMAY.out
      have hkd := HK.out
      rcases hmay with ⟨ha, hn⟩ | ha | ha
      · have hw : IntKind.u32.wrap n = n := wrap_u32 n n1 (by omega)
        rcases ha with rfl | rfl <;> rcases hkd with rfl | rfl
        · have HC := Aside.mk (show (PMeta.mk 1 s mk st).change ⟨1, n, o, b⟩ = ⟨1, max s n, mk, st⟩ by rw [HH.out]; rfl)
          go_wp2_with fail
          · have hmx : max s n = n := by omega
            go_tidy
            refine bodyPost_ret (v := .agg #[.int .u8 1, .int .u32 n, .int .u64 mk, .int .u64 st]) (by simp [results, Tryz.results55, go_sem, r0, r1, r2, r3]) rfl ⟨by rw [HC.out, hmx], ?_⟩
            (repeat (first | (with_reducible first | exact Below.refl _ _ | assumption | refine below_drewN ?_ _ | refine Below.drew ?_ | refine below_alloc ?_ _) | (with_reducible refine below_set ?_ ?side _; (case side => first | omega | (simp; omega) | (simp only [World.size_alloc]; omega))) | (with_reducible refine below_trans ?_ (by assumption))))
          · have hmx : max s n = s := by omega
            go_tidy
            refine bodyPost_ret (v := .agg #[.int .u8 1, .int .u32 s, .int .u64 mk, .int .u64 st]) (by simp [results, Tryz.results55, go_sem, r0, r1, r2, r3]) rfl ⟨by rw [HC.out, hmx], ?_⟩
            (repeat (first | (with_reducible first | exact Below.refl _ _ | assumption | refine below_drewN ?_ _ | refine Below.drew ?_ | refine below_alloc ?_ _) | (with_reducible refine below_set ?_ ?side _; (case side => first | omega | (simp; omega) | (simp only [World.size_alloc]; omega))) | (with_reducible refine below_trans ?_ (by assumption))))
        · have HC := Aside.mk (show (PMeta.mk 2 s mk st).change ⟨1, n, o, b⟩ = ⟨2, s, mk, st⟩ by rw [HH.out]; rfl)
          go_wp2_with fail
          go_tidy
          refine bodyPost_ret (v := .agg #[.int .u8 2, .int .u32 s, .int .u64 mk, .int .u64 st]) (by simp [results, Tryz.results55, go_sem, r0, r1, r2, r3]) rfl ⟨by rw [HC.out], ?_⟩
          (repeat (first | (with_reducible first | exact Below.refl _ _ | assumption | refine below_drewN ?_ _ | refine Below.drew ?_ | refine below_alloc ?_ _) | (with_reducible refine below_set ?_ ?side _; (case side => first | omega | (simp; omega) | (simp only [World.size_alloc]; omega))) | (with_reducible refine below_trans ?_ (by assumption))))
        · have HC := Aside.mk (show (PMeta.mk 1 s mk st).change ⟨2, n, o, b⟩ = ⟨1, n, mk, st⟩ by rw [HH.out]; rfl)
          go_wp2_with fail
          go_tidy
          refine bodyPost_ret (v := .agg #[.int .u8 1, .int .u32 n, .int .u64 mk, .int .u64 st]) (by simp [results, Tryz.results55, go_sem, r0, r1, r2, r3]) rfl ⟨by rw [HC.out], ?_⟩
          (repeat (first | (with_reducible first | exact Below.refl _ _ | assumption | refine below_drewN ?_ _ | refine Below.drew ?_ | refine below_alloc ?_ _) | (with_reducible refine below_set ?_ ?side _; (case side => first | omega | (simp; omega) | (simp only [World.size_alloc]; omega))) | (with_reducible refine below_trans ?_ (by assumption))))
        · have HC := Aside.mk (show (PMeta.mk 2 s mk st).change ⟨2, n, o, b⟩ = ⟨2, s, mk, st⟩ by rw [HH.out]; rfl)
          go_wp2_with fail
          go_tidy
          refine bodyPost_ret (v := .agg #[.int .u8 2, .int .u32 s, .int .u64 mk, .int .u64 st]) (by simp [results, Tryz.results55, go_sem, r0, r1, r2, r3]) rfl ⟨by rw [HC.out], ?_⟩
          (repeat (first | (with_reducible first | exact Below.refl _ _ | assumption | refine below_drewN ?_ _ | refine Below.drew ?_ | refine below_alloc ?_ _) | (with_reducible refine below_set ?_ ?side _; (case side => first | omega | (simp; omega) | (simp only [World.size_alloc]; omega))) | (with_reducible refine below_trans ?_ (by assumption))))
      · subst ha
        have HC := Aside.mk (show (PMeta.mk k s mk st).change ⟨4, n, o, b⟩ = ⟨k, s, mk, n⟩ by rw [HH.out]; rfl)
        clear hkd
        go_wp2_with fail
        go_tidy
        refine bodyPost_ret (v := .agg #[.int .u8 k, .int .u32 s, .int .u64 mk, .int .u64 n]) (by simp [results, Tryz.results55, go_sem, r0, r1, r2, r3]) rfl ⟨by rw [HC.out], ?_⟩
        (repeat (first | (with_reducible first | exact Below.refl _ _ | assumption | refine below_drewN ?_ _ | refine Below.drew ?_ | refine below_alloc ?_ _) | (with_reducible refine below_set ?_ ?side _; (case side => first | omega | (simp; omega) | (simp only [World.size_alloc]; omega))) | (with_reducible refine below_trans ?_ (by assumption))))
      · subst ha
        have HC := Aside.mk (show (PMeta.mk k s mk st).change ⟨3, n, o, b⟩ = ⟨k, s, (stepN mk.toNat o b.toNat : Nat), st⟩ by rw [HH.out]; rfl)
        clear hkd
        go_wp2_with fail
        refine (rstep_c mk o b m1 m2 b1 b2 _).mono ?_
        rintro e w3 ⟨rfl, nd, rfl⟩
        clear d0 d1 d2 d3 g0 g1 g2 g3 c0 c1 c2 c3 r0 r1 r2 r3 h0 h1 h2 h3
        obtain ⟨⟨d0, d1, d2, d3⟩, g0, g1, g2, g3⟩ := four (show (w2.drewN nd).heap[w.heap.size]? = _ from hM2)
        obtain ⟨⟨r0, r1, r2, r3⟩, h0, h1, h2, h3⟩ := four (show (w2.drewN nd).heap[w.heap.size + 2]? = _ from hR2)
        go_wp2_with fail
        go_tidy
        refine bodyPost_ret (v := .agg #[.int .u8 k, .int .u32 s, .int .u64 (stepN mk.toNat o b.toNat : Nat), .int .u64 st]) (by simp [results, Tryz.results55, go_sem, r0, r1, r2, r3]) rfl ⟨by rw [HC.out], ?_⟩
        (repeat (first | (with_reducible first | exact Below.refl _ _ | assumption | refine below_drewN ?_ _ | refine Below.drew ?_ | refine below_alloc ?_ _) | (with_reducible refine below_set ?_ ?side _; (case side => first | omega | (simp; omega) | (simp only [World.size_alloc]; omega))) | (with_reducible refine below_trans ?_ (by assumption))))
    · have HC := Aside.mk (show (PMeta.mk k s mk st).change ⟨a, n, o, b⟩ = ⟨k, s, mk, st⟩ by unfold PMeta.change; rw [if_pos (.inr (Bool.eq_false_iff.2 hz))])
      have HE := Aside.mk hy
      have HZ := Aside.mk (Bool.eq_false_iff.2 hz)
      clear hy hz
      go_enter Tryz.func55, Tryz.ntmps55
      go_wp2_with fail
      refine (rmay_c k s mk st s1 m1 m2 _).mono ?_
      rintro e w1 ⟨rfl, hb1⟩
      rw [HE.out]
      have hM1 := below_keep hb1 HM0.out
      have hC1 := below_keep hb1 HC0.out
      have hR1 := below_keep hb1 HR0.out
      obtain ⟨⟨c0, c1, c2, c3⟩, _⟩ := four hC1
      go_wp2_with fail
      refine (rmayChange_c a n o b n1 o1 _).mono ?_
      rintro e w2 ⟨rfl, hb2⟩
      rw [HZ.out]
      clear c0 c1 c2 c3
      obtain ⟨⟨d0, d1, d2, d3⟩, g0, g1, g2, g3⟩ := four (below_keep hb2 hM1)
      obtain ⟨⟨r0, r1, r2, r3⟩, h0, h1, h2, h3⟩ := four (below_keep hb2 hR1)
      go_wp2_with fail
      go_tidy
      refine bodyPost_ret (v := .agg #[.int .u8 k, .int .u32 s, .int .u64 mk, .int .u64 st]) (by simp [results, Tryz.results55, go_sem, r0, r1, r2, r3]) rfl ⟨by rw [HC.out], ?_⟩
      (repeat (first | (with_reducible first | exact Below.refl _ _ | assumption | refine below_drewN ?_ _ | refine Below.drew ?_ | refine below_alloc ?_ _) | (with_reducible refine below_set ?_ ?side _; (case side => first | omega | (simp; omega) | (simp only [World.size_alloc]; omega))) | (with_reducible refine below_trans ?_ (by assumption))))
  · have HC := Aside.mk (show (PMeta.mk k s mk st).change ⟨a, n, o, b⟩ = ⟨k, s, mk, st⟩ by unfold PMeta.change; rw [if_pos (.inl (Bool.eq_false_iff.2 hy))])
    have HE := Aside.mk (Bool.eq_false_iff.2 hy)
    clear hy
    go_enter Tryz.func55, Tryz.ntmps55
    go_wp2_with fail
    refine (rmay_c k s mk st s1 m1 m2 _).mono ?_
    rintro e w1 ⟨rfl, hb1⟩
    rw [HE.out]
    obtain ⟨⟨d0, d1, d2, d3⟩, g0, g1, g2, g3⟩ := four (below_keep hb1 HM0.out)
    obtain ⟨⟨r0, r1, r2, r3⟩, h0, h1, h2, h3⟩ := four (below_keep hb1 HR0.out)
    go_wp2_with fail
    go_tidy
    refine bodyPost_ret (v := .agg #[.int .u8 k, .int .u32 s, .int .u64 mk, .int .u64 st]) (by simp [results, Tryz.results55, go_sem, r0, r1, r2, r3]) rfl ⟨by rw [HC.out], ?_⟩
    (repeat (first | (with_reducible first | exact Below.refl _ _ | assumption | refine below_drewN ?_ _ | refine Below.drew ?_ | refine below_alloc ?_ _) | (with_reducible refine below_set ?_ ?side _; (case side => first | omega | (simp; omega) | (simp only [World.size_alloc]; omega))) | (with_reducible refine below_trans ?_ (by assumption))))
end Go.Proofs.YtmggpfngbkbkmaaGreatDoor
