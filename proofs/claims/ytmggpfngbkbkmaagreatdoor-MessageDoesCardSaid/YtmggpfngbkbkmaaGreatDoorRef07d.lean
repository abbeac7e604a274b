/- What rillbedref07 does (4): Put. -/
import Derived.Test.YtmggpfngbkbkmaaGreatDoorRef07b
namespace Go.Proofs.YtmggpfngbkbkmaaGreatDoor
open Go.RowKit
set_option linter.unusedVariables false
set_option linter.unusedSimpArgs false

theorem one_byte (k : Int) (h0 : 0 ≤ k) (h : k < 256) (W : World) (g : Nat) (hg : W.heap[g]? = some (.cells #[.int .u8 k] 5 (0, 0))) :
    (Go.convert 122 9 (.slice (some ⟨g, 0, none⟩) 1 1)).run Tryz.prog W = .ok (.string ⟨(numBytes k.toNat 1).toArray⟩) W := by
  have e : byteVs (numBytes k.toNat 1) = [.int .u8 k] := by
    obtain ⟨n, rfl⟩ := Int.eq_ofNat_of_zero_le h0
    simp [byteVs, numBytes, List.range_succ]
    omega
  have := bytes_str (l := numBytes k.toNat 1) (v := .slice (some ⟨g, 0, none⟩) 1 1) (w := W) (by
    have h2 := own_of (l := numBytes k.toNat 1) (k := g) (w := W) (by rw [e]; exact hg) (by rw [numBytes_length]; decide)
    rw [numBytes_length] at h2 ⊢
    exact h2)
  exact this
/-- What a region keeps: two cells, and all that was there. -/
theorem keep4 {w w1 w2 : World} {k : Nat} {x y z u : Value} (h : (w1.cell? ⟨k, 0, none⟩ = some x ∧ w1.cell? ⟨k, 1, none⟩ = some y ∧ w1.cell? ⟨k, 2, none⟩ = some z ∧ w1.cell? ⟨k, 3, none⟩ = some u) ∧ Below k w w1 ∧ k < w1.heap.size) (hb : Below w1.heap.size w1 w2) :
    (w2.cell? ⟨k, 0, none⟩ = some x ∧ w2.cell? ⟨k, 1, none⟩ = some y ∧ w2.cell? ⟨k, 2, none⟩ = some z ∧ w2.cell? ⟨k, 3, none⟩ = some u) ∧ Below k w w2 ∧ k < w2.heap.size :=
  ⟨⟨(hb.cell (p := ⟨k, 0, none⟩) h.2.2).trans h.1.1, (hb.cell (p := ⟨k, 1, none⟩) h.2.2).trans h.1.2.1, (hb.cell (p := ⟨k, 2, none⟩) h.2.2).trans h.1.2.2.1, (hb.cell (p := ⟨k, 3, none⟩) h.2.2).trans h.1.2.2.2⟩, h.2.1.trans (hb.mono (Nat.le_of_lt h.2.2)), Nat.lt_of_lt_of_le h.2.2 hb.size⟩

/-- A conversion to a string, that a region's walk shall not try ahead of its block. -/
@[go_sem] def cvOp (x : Operand) : Op := .convert 122 9 x
theorem cvOp_back (x : Operand) : Op.convert 122 9 x = cvOp x := rfl
set_option maxHeartbeats 4000000 in
set_option maxRecDepth 100000 in
theorem rPut_c (m : PMeta) (hm : m.wf) (w : World) :
    Calls Tryz.prog 54 #[metaVal m] w (Ret w (.tuple #[.string m.text, .int .i64 m.err])) := by
  obtain ⟨k, s, mk, st⟩ := m
  obtain ⟨⟨k1, k2⟩, ⟨s1, s2⟩, ⟨m1, m2⟩, ⟨t1, t2⟩⟩ := hm
  simp only [metaVal] at k1 k2 s1 s2 m1 m2 t1 t2 ⊢
  have hM := heap_new w (.cells #[.int .u8 k, .int .u32 s, .int .u64 mk, .int .u64 st] 76)
  by_cases hy : (PMeta.mk k s mk st).may = true
  · have HE := Aside.mk (PMeta.err_yes hy)
    have HT := Aside.mk (PMeta.text_yes hy)
    have HM := Aside.mk hy
    clear hy
    go_enter Tryz.func54, Tryz.ntmps54
    go_wp2_with fail
    refine (rmay_c k s mk st s1 m1 m2 _).mono ?_
    rintro e w1 ⟨rfl, hb1⟩
    rw [HM.out]
    have hz1 := hb1.size
    simp at hz1
    obtain ⟨⟨d0, d1, d2, d3⟩, g0, g1, g2, g3⟩ := four (below_keep hb1 hM)
    have hw64 : IntKind.u64.wrap s = s := wrap_u64 _ s1 (by omega)
    have HB := Aside.mk (one_byte k k1 k2)
    obtain ⟨N, hN, hc⟩ : ∃ N : Int → Int → ByteArray, ((N s 4).data.toList = numBytes s.toNat 4 ∧ (N mk 8).data.toList = numBytes mk.toNat 8 ∧ (N st 8).data.toList = numBytes st.toNat 8) ∧ (∀ n wd w, 0 ≤ n → n < 18446744073709551616 → (wd = 4 ∨ wd = 8) → Calls Tryz.prog 95 #[.int .u64 n, .int .i64 wd] w (Ret w (.string (N n wd)))) :=
      ⟨fun n v => ⟨(numBytes n.toNat v.toNat).toArray⟩, ⟨by simp, by simp, by simp⟩, fun n wd w h0 h1 h2 => by
        rcases h2 with rfl | rfl
        · exact number4_c n h0 h1 w
        · exact number8_c n h0 h1 w⟩
    go_wp2_with fail
    have z4 : (N s 4).size = 4 := by have := congrArg List.length hN.1; simpa [numBytes_length] using this
    have z5 : (N mk 8).size = 8 := by have := congrArg List.length hN.2.1; simpa [numBytes_length] using this
    have z6 : (N st 8).size = 8 := by have := congrArg List.length hN.2.2; simpa [numBytes_length] using this
    obtain ⟨K1, hK1, z1⟩ : ∃ K1 : ByteArray, K1 = ⟨(numBytes k.toNat 1).toArray⟩ ∧ K1.size = 1 := ⟨_, rfl, by show (numBytes k.toNat 1).toArray.size = 1; simp [numBytes_length]⟩
    have HN := Aside.mk hN
    clear hN
    have hB := HB.out
    rw [← hK1] at hB
    have HB := Aside.mk hB
    have HK1 := Aside.mk hK1
    clear hK1
    have hB2 : ∀ W : World, (Go.convert 122 9 (.slice (some ⟨W.heap.size, 0, none⟩) 1 1)).run Tryz.prog (W.alloc (.cells #[.int .u8 k] 5)) = .ok (.string K1) (W.alloc (.cells #[.int .u8 k] 5)) := fun W => HB.out _ _ (heap_new W _)
    have hB3 : (Go.convert 122 9 (.slice (some ⟨w1.heap.size, 0, none⟩) 1 1)).run Tryz.prog ((w1.alloc (.cells #[.int .u8 k] 5)).drew) = .ok (.string K1) ((w1.alloc (.cells #[.int .u8 k] 5)).drew) := HB.out _ _ (heap_new w1 _)
    simp only [cvOp_back]
    go_region_held3 (fun w' => (w'.cell? ⟨w.heap.size, 0, none⟩ = some (.int .u8 k) ∧ w'.cell? ⟨w.heap.size, 1, none⟩ = some (.int .u32 s) ∧ w'.cell? ⟨w.heap.size, 2, none⟩ = some (.int .u64 mk) ∧ w'.cell? ⟨w.heap.size, 3, none⟩ = some (.int .u64 st)) ∧ Below w.heap.size w w' ∧ w.heap.size < w'.heap.size) (first | exact ⟨⟨d0, d1, d2, d3⟩, (by repeat (first | (with_reducible first | exact Below.refl _ _ | assumption | refine below_drewN ?_ _ | refine Below.drew ?_ | refine below_alloc ?_ _) | (with_reducible refine below_set ?_ ?side _; (case side => first | omega | (simp; omega) | (simp only [World.size_alloc]; omega))) | (with_reducible refine below_trans ?_ (by assumption)))), by show w.heap.size < w1.heap.size; omega⟩ | assumption | exact keep4 (by assumption) (below_alloc (Below.refl _ _) _)) (first | (go_at_call 95; refine (hc _ _ _ (by omega) (by omega) (by first | exact .inl rfl | exact .inr rfl)).mono ?_; rintro e w2 ⟨rfl, hb2⟩; have hh := keep4 (by assumption) hb2; (try have q9 := below_keep hb2 (show ((w1.alloc (.cells #[.int .u8 k] 5)).drew).heap[w1.heap.size]? = _ from heap_new w1 _)); (try have q9 := below_keep hb2 (heap_new _ _)); (try have q9 := below_keep hb2 (by assumption))))
    all_goals
      have hx := hh.2.1
      have HX := Aside.mk (show K1 ++ N s 4 ++ N mk 8 ++ N st 8 = (PMeta.mk k s mk st).text by
        apply ba_ext
        rw [HT.out, HK1.out]
        simp [ByteArray.data_append, HN.out.1, HN.out.2.1, HN.out.2.2, PMeta.bytes])
      clear hB hB2 hB3 hc
      go_wp2_with fail
      go_ret2
      refine ⟨by rw [HE.out, ← HX.out]; rfl, ?_⟩
      (repeat (first | (with_reducible first | exact Below.refl _ _ | assumption | refine below_drewN ?_ _ | refine Below.drew ?_ | refine below_alloc ?_ _) | (with_reducible refine below_set ?_ ?side _; (case side => first | omega | (simp; omega) | (simp only [World.size_alloc]; omega))) | (with_reducible refine below_trans ?_ (by assumption))))
  · have HE := Aside.mk (PMeta.err_no hy)
    have HT := Aside.mk (PMeta.text_no hy)
    have HM := Aside.mk (Bool.eq_false_iff.2 hy)
    clear hy
    go_enter Tryz.func54, Tryz.ntmps54
    go_wp2_with fail
    refine (rmay_c k s mk st s1 m1 m2 _).mono ?_
    rintro e w1 ⟨rfl, hb1⟩
    rw [HM.out]
    go_wp2_with fail
    go_ret2
    exact ⟨by rw [HE.out, HT.out]; rfl, (by repeat (first | (with_reducible first | exact Below.refl _ _ | assumption | refine below_drewN ?_ _ | refine Below.drew ?_ | refine below_alloc ?_ _) | (with_reducible refine below_set ?_ ?side _; (case side => first | omega | (simp; omega) | (simp only [World.size_alloc]; omega))) | (with_reducible refine below_trans ?_ (by assumption))))⟩
end Go.Proofs.YtmggpfngbkbkmaaGreatDoor
