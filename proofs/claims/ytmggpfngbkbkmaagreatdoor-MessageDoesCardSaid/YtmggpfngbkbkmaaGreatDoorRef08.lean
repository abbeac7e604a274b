/- What rillbedref08 does: Check, Trim, byteAt, May. -/
import Derived.Test.YtmggpfngbkbkmaaGreatDoorBlock4
namespace Go.Proofs.YtmggpfngbkbkmaaGreatDoor
open Go.RowKit
set_option linter.unusedVariables false
set_option linter.unusedSimpArgs false

set_option maxRecDepth 100000 in
theorem rCheck_c (s : ByteArray) (hs : s.size < 4611686018427387904) (w : World) :
    Calls Tryz.prog 137 #[.string s] w fun e w' => e = .returned (.int .i64 (blkCheck s)) ∧ w = w' := by
  by_cases h0 : s.size = 0
  · have HE := Aside.mk (show blkCheck s = 4 from if_pos (.inl h0))
    go_enter Tryz.func137, Tryz.ntmps137
    go_wp2
    go_ret
    exact ⟨by rw [HE.out]; rfl, rfl⟩
  · obtain ⟨n, hn⟩ : ∃ n, s.size = n + 1 := ⟨s.size - 1, by omega⟩
    have hlast := last_of hn
    have e1 : ((n : Int) + 1 == 0) = false := beq_eq_false_iff_ne.2 (by omega)
    by_cases hb : 64 < s.size
    · have HE := Aside.mk (show blkCheck s = 4 from if_pos (.inr (.inl hb)))
      clear hlast h0
      go_enter Tryz.func137, Tryz.ntmps137
      go_wp2
      go_ret
      exact ⟨by rw [HE.out]; rfl, rfl⟩
    · by_cases hz : s[n] = 0
      · have HE := Aside.mk (show blkCheck s = 4 from if_pos (.inr (.inr (by rw [hlast, hz]))))
        have e0 : (((s[n]).toNat : Int) == 0) = true := by rw [hz]; rfl
        clear hlast h0 hz
        go_enter Tryz.func137, Tryz.ntmps137
        go_wp2
        go_ret
        exact ⟨by rw [HE.out]; rfl, rfl⟩
      · have HE := Aside.mk (show blkCheck s = 0 from if_neg (fun h => h.elim h0 (fun h => h.elim hb (fun h => hz (by rw [hlast] at h; injection h)))))
        have e0 := byte_ne hz
        clear hlast h0 hz
        go_enter Tryz.func137, Tryz.ntmps137
        go_wp2
        go_ret
        exact ⟨by rw [HE.out]; rfl, rfl⟩
set_option maxHeartbeats 1000000 in
set_option maxRecDepth 100000 in
theorem rpatchMay_c (c : Bool) (a n : Int) (s : ByteArray) (hs : s.size < 4611686018427387904) (w : World) :
    Calls Tryz.prog 89 #[.agg #[.bool c, .int .i64 a, .int .i64 n, .string s]] w (Ret w (.bool (PPatch.mk c a n s).may)) := by
  by_cases h0 : s.size = 0
  · obtain rfl : s = ByteArray.empty := ba_ext (List.eq_nil_of_length_eq_zero (by simpa using h0))
    clear h0 hs
    cases c
    all_goals
      go_enter Tryz.func89, Tryz.ntmps89
      go_wp2_with fail
    all_goals (go_ret; go_tidy)
    all_goals (refine ⟨ret_bool ?_, (by repeat (first | (with_reducible first | exact Below.refl _ _ | assumption | refine below_drewN ?_ _ | refine Below.drew ?_ | refine below_alloc ?_ _) | (with_reducible refine below_set ?_ ?side _; (case side => first | omega | (simp; omega) | (simp only [World.size_alloc]; omega))) | (with_reducible refine below_trans ?_ (by assumption))))⟩)
    all_goals (simp_all [PPatch.may] <;> try (first | rfl | omega))
  · have hne : ¬ s = ByteArray.empty := fun h => h0 (by rw [h]; rfl)
    have h1 : (1 : Int) ≤ s.size := by omega
    cases c
    all_goals
      go_enter Tryz.func89, Tryz.ntmps89
      go_wp2_with fail
    all_goals (go_ret; go_tidy)
    all_goals (refine ⟨ret_bool ?_, (by repeat (first | (with_reducible first | exact Below.refl _ _ | assumption | refine below_drewN ?_ _ | refine Below.drew ?_ | refine below_alloc ?_ _) | (with_reducible refine below_set ?_ ?side _; (case side => first | omega | (simp; omega) | (simp only [World.size_alloc]; omega))) | (with_reducible refine below_trans ?_ (by assumption))))⟩)
    all_goals (simp_all [PPatch.may] <;> try (first | rfl | omega | (rw [decide_eq_true (by omega), Bool.true_and]; rfl)))
set_option maxRecDepth 100000 in
theorem byteAt_c (s : ByteArray) (hs : s.size < 4611686018427387904) (i : Nat) (w : World) :
    Calls Tryz.prog 90 #[.string s, .int .i64 i] w fun e w' => e = .returned (.int .u8 (s.data.toList.getD i 0).toNat) ∧ w = w' := by
  by_cases hin : i < s.size
  · have HC := Aside.mk (getD_in hin)
    go_enter Tryz.func90, Tryz.ntmps90
    go_wp2
    go_ret
    exact ⟨by rw [HC.out]; rfl, rfl⟩
  · have HC := Aside.mk (getD_out (l := s) (i := i) (by omega))
    go_enter Tryz.func90, Tryz.ntmps90
    go_wp2
    go_ret
    exact ⟨by rw [HC.out]; rfl, rfl⟩
theorem ext_self' (s : ByteArray) : s.extract 0 s.size = s := by apply ba_ext; simp
set_option maxRecDepth 100000 in
theorem rTrim_c (s : ByteArray) (hs : s.size < 4611686018427387904) (w : World) :
    Calls Tryz.prog 91 #[.string s] w fun e w' => e = .returned (.string (trimB s)) ∧ w = w' := by
  go_enter Tryz.func91, Tryz.ntmps91
  go_wp2
  go_loop [3] (fun i => ∃ k : Nat, k ≤ s.size ∧ i = .int .i64 k ∧ trimB (s.extract 0 k) = trimB s) (fun i => (intOf i).toNat)
  case atStart => exact ⟨s.size, Nat.le_refl _, rfl, by rw [ext_self']⟩
  case round =>
    obtain ⟨k, hk, rfl, hts⟩ := hrel
    have HT := Aside.mk hts
    clear hts
    cases k with
    | zero =>
      have HE := Aside.mk (trimB_empty (t := s.extract 0 0) (by simp))
      go_wp2
      go_ret
      exact ⟨by rw [← HT.out, HE.out, show s.extract 0 0 = ⟨#[]⟩ from ba_ext (by simp)]; rfl, rfl⟩
    | succ n =>
      have hsz : (s.extract 0 (n + 1)).size = n + 1 := by simp; omega
      have hget : (s.extract 0 (n + 1))[n] = s[n] := by simp [ByteArray.getElem_extract]
      have hn : n < s.size := by omega
      by_cases hz : s[n] = 0
      · have HZ := Aside.mk (trimB_zero hsz (hget.trans hz))
        have e0 : (((s[n]).toNat : Int) == 0) = true := by rw [hz]; rfl
        clear hz hget hsz
        go_wp2
        go_round
        case rel => exact ⟨n, by omega, by go_num, by rw [← HT.out, ← HZ.out]; congr 1; apply ba_ext; simp [List.take_take]⟩
        case measure => simp [intOf]
      · have HZ := Aside.mk (trimB_ne hsz (by rw [hget]; exact hz))
        have e0 := byte_ne hz
        clear hz hget hsz
        go_wp2
        go_ret
        exact ⟨by rw [← HT.out, HZ.out]; rfl, rfl⟩
end Go.Proofs.YtmggpfngbkbkmaaGreatDoor
