
/- An argument of type [][]byte, opened; how long its texts are. -/
import Derived.Test.YtogijioehdaefaaMem
import Derived.Deep.Slices
namespace Go.Proofs.Ytogijioehdaefaa.Mem
open Go.ChangeShapes Go.WideShapes Go.RowKit Go.Deep

/-- a cell that reads as bytes -/
theorem bytes_of_trod {H : Type} {enc : TypeId × Value → H} {P : Program} {W : World} {t e : TypeId} {fuel : Nat} {v : Value} {y : DataW H × List MemPlace}
    (ht : P.underlying t = some (.slice e)) (he : P.underlying e = some (.int .u8)) (hc : P.cellsOf e = 1)
    (h : DataW.trod enc P W 0 (fun _ => true) true fuel t [v] = some y) :
    ∃ A cap l, v = .slice A l.length cap ∧ Bytes W W.heap.size A l ∧ l.length ≤ cap ∧ cap ≤ maxLen ∧
      ((A = none ∧ l = [] ∧ y.1 = .nil) ∨ ∃ els sp, y.1 = .slice els sp ∧ els.length = l.length) := by
  rcases open_ints ht he hc h with ⟨hcs, hx⟩ | ⟨x, len, cap, zs, hcs, _, hl, hm, hz, hx, hcell, hwz⟩
  · simp at hcs
    subst hcs
    exact ⟨none, 0, [], rfl, Bytes.nil _ _ _, Nat.zero_le _, Nat.zero_le _, .inl ⟨rfl, rfl, by rw [hx]⟩⟩
  · simp at hcs
    subst hcs
    simp only [if_true] at hz
    obtain ⟨ns, hns⟩ : ∃ ns : List UInt8, ns = (zs.take len).map (fun z => UInt8.ofNat z.toNat) := ⟨_, rfl⟩
    have hlen : ns.length = len := by rw [hns, List.length_map, List.length_take]; omega
    refine ⟨some x, cap, ns, by rw [hlen], ?_, by omega, hm, .inr ⟨_, _, by rw [hx], by simp [lits, hlen]; omega⟩⟩
    intro hp
    obtain ⟨b, off, rfl, hcell'⟩ := ints_at hcell (by omega)
    have hblk : b < W.heap.size := World.block_lt_of_cell? W ⟨b, off + 0, none⟩ (hcell' 0 (by omega))
    refine ⟨b, off, rfl, hblk, fun i hi => ?_⟩
    rw [hcell' i (by omega)]
    have hil : i < zs.length := by omega
    have hzi : zs.getD i 0 = zs[i] := by simp [List.getD, hil]
    have hw := bounds_u8 (hwz zs[i] (List.getElem_mem hil))
    have e1 : byteAt ns i = zs[i] := by
      unfold byteAt
      rw [hns]
      have : i < len := by omega
      simp [List.getD, hil, this]
      omega
    rw [hzi, e1]

theorem open_texts {H : Type} {enc : TypeId × Value → H} {P : Program} {W : World} {base : Nat} {t e q : TypeId} {v : Value} {d : DataW H} {p : List MemPlace}
    (ht : P.underlying t = some (.slice e)) (he : P.underlying e = some (.slice q)) (hq : P.underlying q = some (.int .u8)) (ce : P.cellsOf e = 1) (cq : P.cellsOf q = 1)
    (hv : Value.okWide P W .any base t v) (h : DataW.Trod enc P W 0 (fun _ => true) true t v d p) :
    ∃ A cap ls, v = .slice A ls.length cap ∧ Texts W W.heap.size A ls ∧ ls.length ≤ cap ∧ cap ≤ maxLen ∧
      ((d = .nil ∧ ls = []) ∨ ∃ els sp, d = .slice els sp ∧ els.length = ls.length ∧
        ∀ i, i < ls.length → nthT ls i = [] ∨ ∃ e2 s2, els[i]? = some (.slice e2 s2) ∧ e2.length = (nthT ls i).length) := by
  obtain ⟨a, len, cap, rfl⟩ := okWide_slice ht hv
  obtain ⟨fuel, hf⟩ := h
  rcases open_slice1 ht ce hf with ⟨hcs, hx⟩ | ⟨x, l, c, m, n, V, D, Pl, hcs, _, hl, hm, hmm, hx, hall⟩
  · simp [Value.cells] at hcs
    obtain ⟨rfl, rfl, rfl⟩ := hcs
    simp only [Prod.mk.injEq] at hx
    exact ⟨none, 0, [], rfl, Texts.nil _ _ _, Nat.zero_le _, Nat.zero_le _, .inl ⟨hx.1, rfl⟩⟩
  · simp [Value.cells] at hcs
    obtain ⟨rfl, rfl, rfl⟩ := hcs
    simp only [if_true] at hmm
    obtain rfl : cap = m := hmm.symm
    simp only [Prod.mk.injEq] at hx
    obtain ⟨T, hT⟩ := choose_lt (α := Option Addr × Nat × List UInt8) (p := fun i y => V i = .slice y.1 y.2.2.length y.2.1 ∧ Bytes W W.heap.size y.1 y.2.2 ∧ y.2.2.length ≤ y.2.1 ∧ y.2.1 ≤ maxLen ∧
        ((y.1 = none ∧ y.2.2 = [] ∧ D i = .nil) ∨ ∃ els sp, D i = .slice els sp ∧ els.length = y.2.2.length)) (fun i (hi : i < len) => by
      obtain ⟨A, c', l', h1, h2, h3, h4, h5⟩ := bytes_of_trod he hq cq (hall i (by omega)).2
      exact ⟨(A, c', l'), h1, h2, h3, h4, h5⟩)
    refine ⟨some x, cap, (List.range len).map fun i => (T i).2.2, by simp, ?_, by simpa using hl, hm, .inr ⟨_, _, hx.1, by simp, fun i hi => ?_⟩⟩
    · intro hp
      have hp' : 0 < len := by simpa using hp
      obtain ⟨b, off, spot⟩ := x
      have hc0 := (hall 0 (by omega)).1
      have hspot : spot = none := by simpa [Addr.add] using World.cell?_spot hc0
      subst hspot
      have hblk : b < W.heap.size := World.block_lt_of_cell? W _ (by rw [Addr.add_lit] at hc0; exact hc0)
      refine ⟨b, off, rfl, hblk, fun i hi => ?_⟩
      have hi' : i < len := by simpa using hi
      obtain ⟨h1, h2, h3, h4, _⟩ := hT i hi'
      have hn : nthT ((List.range len).map fun i => (T i).2.2) i = (T i).2.2 := by
        unfold nthT
        simp [List.getD, hi']
      rw [hn]
      have hci := (hall i (by omega)).1
      rw [Addr.add_lit, h1] at hci
      exact ⟨(T i).1, (T i).2.1, hci, h3, h4, h2⟩
    · have hi' : i < len := by simpa using hi
      obtain ⟨_, _, _, _, h5⟩ := hT i hi'
      have hn : nthT ((List.range len).map fun i => (T i).2.2) i = (T i).2.2 := by
        unfold nthT
        simp [List.getD, hi']
      rw [hn]
      rcases h5 with ⟨_, h0, _⟩ | ⟨els, sp, hd, hlen⟩
      · exact .inl h0
      · exact .inr ⟨els, sp, by simp [hi', hd], hlen⟩

/-- how much a slice in a slice takes -/
theorem sized_inner {H : Type} {P : Program} {ts : List TypeId} {ds : List (DataW H)} (h : (DataW.weightsEach P ts ds).all (· ≤ reachBytes) = true) {j : Nat} {t e q : TypeId} {els sp e2 s2 : List (DataW H)} {i : Nat}
    (ht : ts[j]? = some t) (hd : ds[j]? = some (.slice els sp)) (hu : P.underlying t = some (.slice e)) (hi : els[i]? = some (.slice e2 s2)) (he : P.underlying e = some (.slice q)) : (e2.length + s2.length) * P.bytesOf q ≤ reachBytes := by
  have hin : ∀ (l : List (DataW H)) (i : Nat), l[i]? = some (.slice e2 s2) → (e2.length + s2.length) * P.bytesOf q ∈ DataW.weightsAll P e l := by
    intro l
    induction l with
    | nil => intro i hi; simp at hi
    | cons d l ih =>
      intro i hi
      simp only [DataW.weightsAll, List.mem_append]
      cases i with
      | zero =>
        simp at hi
        subst hi
        left
        simp [DataW.weights, he]
      | succ i => exact .inr (ih i (by simpa using hi))
  have := List.all_eq_true.1 h _ (DataW.weights_mem_each ht hd ((e2.length + s2.length) * P.bytesOf q) (by simp [DataW.weights, hu]; exact .inr (.inl (hin els i hi))))
  simpa using this

#print axioms open_texts
end Go.Proofs.Ytogijioehdaefaa.Mem
