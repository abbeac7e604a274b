/- How the arguments of the laws read: messages, structs; an argument reads behind the call as it did. -/
import Derived.Test.YtmggpfngbkbkmaaGreatDoorR13
import Derived.Carry
import Derived.Lay
import Derived.LaidMore
import Derived.SevenTiedAt
import Derived.Stop.Joined
import Derived.OpenShut
import Derived.Lib.SmallJoins
import Derived.ProofKit
import Derived.ChangeSame
import Derived.JoinedOf
import Derived.SizedLaws
namespace Go.Proofs.YtmggpfngbkbkmaaGreatDoor
open Go.ChangeShapes Go.WideShapes Go.ChangeAt Go.RowKit
set_option linter.unusedVariables false
set_option linter.unusedSimpArgs false

theorem rowOwn : ownKnob Tryz.prog.godebug = none := by kernel_rfl
theorem rowLaidOut : laidOutB Tryz.prog = true := by kernel_rfl
/-- Arguments read behind a call as they did, if nothing old has turned. -/
theorem trodAll_below {H : Type} {enc : TypeId × Value → H} {P : Program} (hl : laidOutB P = true) {W W' : World} (hb : Below W.heap.size W W') : ∀ (ts : List TypeId) (vs : List Value) (ds : List (DataW H)) (ps : List MemPlace),
    (∀ t ∈ ts, P.readableRec t = true ∧ t < P.types.size) → (∀ x ∈ ps, x.block < W.heap.size) → DataW.TrodAll enc P W 0 (fun _ => true) true ts vs ds ps →
    DataW.TrodAll enc P W' 0 (fun b => decide (b < W.heap.size)) true ts vs ds ps
  | [], vs, ds, ps, _, _, h => by
    obtain ⟨rfl, rfl, rfl⟩ := trodAll_nil h
    exact trodAll_mk0
  | t :: ts, vs, ds, ps, hr, hlt, h => by
    obtain ⟨v, vs', d, ds', p, q, rfl, rfl, rfl, h1, h2⟩ := trodAll_cons h
    have ht := hr t (List.mem_cons_self ..)
    exact trodAll_cons_mk (Below.trod hl ht.1 ht.2 h1 hb fun x hx => hlt x (List.mem_append_left _ hx))
      (trodAll_below hl hb ts vs' ds' q (fun t ht => hr t (List.mem_cons_of_mem _ ht)) (fun x hx => hlt x (List.mem_append_right _ hx)) h2)
set_option maxRecDepth 100000 in
theorem open_msg {H : Type} {enc : TypeId × Value → H} {w : World} {base b0 : Nat} {r : Reach} {spare : Nat → Bool} {held : Bool} {v : Value} {d : DataW H} {p : List MemPlace}
    (hv : Value.okWide Tryz.prog w r b0 23 v) (h : DataW.Trod enc Tryz.prog w base spare held 23 v d p) : ∃ m : PMsg, v = msgVal m := by
  obtain ⟨v0, v1, v2, v3, y0, y1, y2, y3, n, rfl, -, -, h0, h1, h2, h3⟩ := Go.Joins.open_agg4 Tryz.underlying23 (by kernel_rfl) (by kernel_rfl) hv h
  obtain ⟨z0, e0, -⟩ := DataW.trod_int Tryz.underlying3 h0
  obtain ⟨z1, e1, -⟩ := DataW.trod_string Tryz.underlying9 h1
  obtain ⟨z2, e2, -⟩ := DataW.trod_string Tryz.underlying9 h2
  obtain ⟨z3, e3, -⟩ := DataW.trod_string Tryz.underlying9 h3
  simp only [List.cons.injEq, and_true] at e0 e1 e2 e3
  subst e0; subst e1; subst e2; subst e3
  exact ⟨⟨z0, z1, z2, z3⟩, rfl⟩
set_option maxRecDepth 100000 in
theorem open_key9 {H : Type} {enc : TypeId × Value → H} {w : World} {base b0 : Nat} {r : Reach} {spare : Nat → Bool} {held : Bool} {v : Value} {d : DataW H} {p : List MemPlace}
    (hv : Value.okWide Tryz.prog w r b0 25 v) (h : DataW.Trod enc Tryz.prog w base spare held 25 v d p) : ∃ (k s : ByteArray) (b : Bool), v = .agg #[.string k, .string s, .bool b] := by
  obtain ⟨v0, v1, v2, y0, y1, y2, n, rfl, -, -, h0, h1, h2⟩ := Go.Joins.open_agg3 Tryz.underlying25 (by kernel_rfl) (by kernel_rfl) hv h
  obtain ⟨z0, e0, -⟩ := DataW.trod_string Tryz.underlying9 h0
  obtain ⟨z1, e1, -⟩ := DataW.trod_string Tryz.underlying9 h1
  obtain ⟨z2, e2, -⟩ := DataW.trod_bool Tryz.underlying4 h2
  simp only [List.cons.injEq, and_true] at e0 e1 e2
  subst e0; subst e1; subst e2
  exact ⟨z0, z1, z2, rfl⟩
end Go.Proofs.YtmggpfngbkbkmaaGreatDoor
/- How an array of three texts reads. -/
namespace Go.Proofs.YtmggpfngbkbkmaaGreatDoor
open Go.ChangeShapes Go.WideShapes Go.ChangeAt Go.RowKit
set_option linter.unusedVariables false
set_option linter.unusedSimpArgs false

set_option maxRecDepth 100000 in
theorem open_str3 {H : Type} {enc : TypeId × Value → H} {w : World} {base b0 : Nat} {r : Reach} {spare : Nat → Bool} {held : Bool} {v : Value} {d : DataW H} {p : List MemPlace}
    (hv : Value.okWide Tryz.prog w r b0 31 v) (h : DataW.Trod enc Tryz.prog w base spare held 31 v d p) : ∃ (x y z : ByteArray), v = .agg #[.string x, .string y, .string z] := by
  obtain ⟨cs, rfl, hsz⟩ : ∃ cs, v = .agg cs ∧ cs.size = Tryz.prog.cellsOf 31 := by
    simp only [Value.okWide, Tryz.underlying31] at hv
    obtain ⟨cs, h1, h2, _⟩ := hv
    exact ⟨cs, h1, h2⟩
  have e3 : Tryz.prog.cellsOf 31 = 3 := by kernel_rfl
  have e1 : Tryz.prog.cellsOf 9 = 1 := by kernel_rfl
  rw [e3] at hsz
  obtain ⟨c0, c1, c2, rfl⟩ := Joins.array3 hsz
  obtain ⟨fuel, hf⟩ := h
  obtain ⟨xs, m, -, -, hl, hn, hi⟩ := DataW.trod_array Tryz.underlying31 hf
  have i0 := hi 0 (by omega)
  have i1 := hi 1 (by omega)
  have i2 := hi 2 (by omega)
  rw [e1, List.getElem?_eq_getElem (by omega)] at i0 i1 i2
  obtain ⟨z0, k0, -⟩ := DataW.trod_string Tryz.underlying9 i0
  obtain ⟨z1, k1, -⟩ := DataW.trod_string Tryz.underlying9 i1
  obtain ⟨z2, k2, -⟩ := DataW.trod_string Tryz.underlying9 i2
  simp [Value.cells] at k0 k1 k2
  exact ⟨z0, z1, z2, by rw [k0, k1, k2]⟩
end Go.Proofs.YtmggpfngbkbkmaaGreatDoor
