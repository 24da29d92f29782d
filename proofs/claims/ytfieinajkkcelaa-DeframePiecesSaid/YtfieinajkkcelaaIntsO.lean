
/- An argument of type []int, opened. -/
import Derived.Test.YtfieinajkkcelaaDefU
namespace Go.Proofs.Ytfieinajkkcelaa.Def
open Go.ChangeShapes Go.WideShapes Go.RowKit Go.Proofs.Ytfieinajkkcelaa.Mem

theorem open_i64s {H : Type} {enc : TypeId × Value → H} {P : Program} {W : World} {base : Nat} {t e : TypeId} {v : Value} {d : DataW H} {p : List MemPlace}
    (ht : P.underlying t = some (.slice e)) (he : P.underlying e = some (.int .i64)) (hc : P.cellsOf e = 1)
    (hv : Value.okWide P W .any base t v) (h : DataW.Trod enc P W 0 (fun _ => true) true t v d p) :
    ∃ A cap zs, v = .slice A zs.length cap ∧ Ints W W.heap.size A zs ∧ zs.length ≤ cap ∧ cap ≤ maxLen := by
  obtain ⟨a, len, cap, rfl⟩ := okWide_slice ht hv
  obtain ⟨fuel, hf⟩ := h
  rcases open_ints ht he hc hf with ⟨hcs, _⟩ | ⟨x, l, c, zs, hcs, _, hl, hm, hz, hx, hcell, hwz⟩
  · simp [Value.cells] at hcs
    obtain ⟨rfl, rfl, rfl⟩ := hcs
    exact ⟨none, 0, [], rfl, fun h => absurd h (by simp), Nat.zero_le _, Nat.zero_le _⟩
  · simp [Value.cells] at hcs
    obtain ⟨rfl, rfl, rfl⟩ := hcs
    simp only [if_true] at hz
    have hlen : (zs.take len).length = len := by rw [List.length_take]; omega
    refine ⟨some x, cap, zs.take len, by rw [hlen], fun hp => ?_, by omega, hm⟩
    obtain ⟨b, off, rfl, hcell'⟩ := ints_at hcell (by omega)
    have hblk : b < W.heap.size := World.block_lt_of_cell? W ⟨b, off + 0, none⟩ (hcell' 0 (by omega))
    refine ⟨b, off, rfl, hblk, fun i hi => ?_⟩
    have hi' : i < len := by omega
    rw [hcell' i (by omega)]
    simp [List.getD, hi']
end Go.Proofs.Ytfieinajkkcelaa.Def
