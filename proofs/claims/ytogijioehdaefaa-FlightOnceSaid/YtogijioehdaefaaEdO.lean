
/- An argument of type []api.Edit, opened. -/
import Derived.Test.YtogijioehdaefaaEdE
import Derived.Deep.Slices
import Derived.Deep.Strs
namespace Go.Proofs.Ytogijioehdaefaa.Ed
open Go.ChangeShapes Go.WideShapes Go.RowKit Go.Deep Go.Proofs.Ytogijioehdaefaa.Mem

/-- three cells that read as an edit, at every index -/
theorem edits_of_trod {H : Type} {enc : TypeId × Value → H} {P : Program} {W : World} {t e : TypeId} {f0 f1 f2 : Field} {fuel : Nat} {v : Value} {y : DataW H × List MemPlace}
    (ht : P.underlying t = some (.slice e)) (he : P.underlying e = some (.struct #[f0, f1, f2])) (ce : P.cellsOf e = 3) (o0 : f0.offset = 0) (o1 : f1.offset = 1) (o2 : f2.offset = 2)
    (c0 : P.cellsOf f0.type = 1) (c1 : P.cellsOf f1.type = 1) (c2 : P.cellsOf f2.type = 1)
    (u0 : P.underlying f0.type = some (.int .i64)) (u1 : P.underlying f1.type = some (.int .i64)) (u2 : P.underlying f2.type = some (.int .u8))
    (h : DataW.trod enc P W 0 (fun _ => true) true fuel t [v] = some y) :
    ∃ A cap es, v = .slice A es.length cap ∧ Eds W W.heap.size A es ∧ es.length ≤ cap ∧ cap ≤ maxLen ∧
      ((y.1 = .nil ∧ es = []) ∨ ∃ els sp, y.1 = .slice els sp ∧ els.length = es.length) := by
  rcases open_slice ht h with ⟨hcs, hx⟩ | ⟨x, len, cap, m, n, D, Pl, hcs, _, hl, hm, hmm, hx, hall⟩
  · simp at hcs
    subst hcs
    exact ⟨none, 0, [], rfl, fun h => absurd h (by simp), Nat.zero_le _, Nat.zero_le _, .inl ⟨by rw [hx], rfl⟩⟩
  · simp at hcs
    subst hcs
    simp only [if_true] at hmm
    obtain rfl : cap = m := hmm.symm
    obtain ⟨T, hT⟩ := choose_lt (α := Edt) (p := fun i y => W.cell? (x.add (i * 3)) = some (.int .i64 y.1) ∧ W.cell? (x.add (i * 3 + 1)) = some (.int .i64 y.2.1) ∧ W.cell? (x.add (i * 3 + 2)) = some (.int .u8 (y.2.2.toNat : Int))) (fun i (hi : i < len) => by
      obtain ⟨cs', h1, h2⟩ := hall i (by omega)
      rw [ce] at h1
      obtain ⟨_, hlen, hcell⟩ := World.cells?_some h1
      obtain ⟨xs, k, hk, hxy, _, hxl, hf⟩ := DataW.trod_struct he h2
      match cs', hlen with
      | [v0, v1, v2], _ =>
        match xs, hxl with
        | [z0, z1, z2], _ =>
          have g0 := hf 0 f0 rfl
          have g1 := hf 1 f1 rfl
          have g2 := hf 2 f2 rfl
          simp [o0, o1, o2, c0, c1, c2] at g0 g1 g2
          obtain ⟨n0, e0, _⟩ := DataW.trod_int u0 g0
          obtain ⟨n1, e1, _⟩ := DataW.trod_int u1 g1
          obtain ⟨n2, e2, _, w2⟩ := DataW.trod_int u2 g2
          simp at e0 e1 e2
          subst e0 e1 e2
          have q0 := hcell 0 (by omega)
          have q1 := hcell 1 (by omega)
          have q2 := hcell 2 (by omega)
          rw [add_add] at q0 q1 q2
          have hb := bounds_u8 w2
          refine ⟨(n0, n1, UInt8.ofNat n2.toNat), by simpa using q0, by simpa using q1, ?_⟩
          have : ((UInt8.ofNat n2.toNat).toNat : Int) = n2 := by simp; omega
          simp only [this]
          simpa using q2)
    refine ⟨some x, cap, (List.range len).map T, by simp, ?_, by simpa using hl, hm, .inr ⟨_, _, by rw [hx], by simp⟩⟩
    intro hp
    have hp' : 0 < len := by simpa using hp
    obtain ⟨b, off, spot⟩ := x
    have hc0 := (hT 0 hp').1
    have hspot : spot = none := by simpa [Addr.add] using World.cell?_spot hc0
    subst hspot
    have hblk : b < W.heap.size := World.block_lt_of_cell? W _ (by rw [Addr.add_lit] at hc0; exact hc0)
    refine ⟨b, off, rfl, hblk, fun i hi => ?_⟩
    have hi' : i < len := by simpa using hi
    have hn : nthE ((List.range len).map T) i = T i := by
      unfold nthE
      simp [List.getD, hi']
    rw [hn]
    obtain ⟨h1, h2, h3⟩ := hT i hi'
    rw [Addr.add_lit] at h1 h2 h3
    exact ⟨h1, by rw [Nat.add_assoc]; exact h2, by rw [Nat.add_assoc]; exact h3⟩

theorem open_edits {H : Type} {enc : TypeId × Value → H} {P : Program} {W : World} {base : Nat} {t e : TypeId} {f0 f1 f2 : Field} {v : Value} {d : DataW H} {p : List MemPlace}
    (ht : P.underlying t = some (.slice e)) (he : P.underlying e = some (.struct #[f0, f1, f2])) (ce : P.cellsOf e = 3) (o0 : f0.offset = 0) (o1 : f1.offset = 1) (o2 : f2.offset = 2)
    (c0 : P.cellsOf f0.type = 1) (c1 : P.cellsOf f1.type = 1) (c2 : P.cellsOf f2.type = 1)
    (u0 : P.underlying f0.type = some (.int .i64)) (u1 : P.underlying f1.type = some (.int .i64)) (u2 : P.underlying f2.type = some (.int .u8))
    (hv : Value.okWide P W .any base t v) (h : DataW.Trod enc P W 0 (fun _ => true) true t v d p) :
    ∃ A cap es, v = .slice A es.length cap ∧ Eds W W.heap.size A es ∧ es.length ≤ cap ∧ cap ≤ maxLen ∧
      ((d = .nil ∧ es = []) ∨ ∃ els sp, d = .slice els sp ∧ els.length = es.length) := by
  obtain ⟨a, len, cap, rfl⟩ := okWide_slice ht hv
  obtain ⟨fuel, hf⟩ := h
  exact edits_of_trod (y := (d, p)) ht he ce o0 o1 o2 c0 c1 c2 u0 u1 u2 hf
#print axioms open_edits
end Go.Proofs.Ytogijioehdaefaa.Ed
