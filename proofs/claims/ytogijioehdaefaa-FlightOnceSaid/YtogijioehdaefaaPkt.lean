
/- Packets: what the walks of the packets' functions share. -/
import Derived.Test.YtogijioehdaefaaOctC
namespace Go.Proofs.Ytogijioehdaefaa.Pkt
open Go.RowKit Go.Proofs.Ytogijioehdaefaa.Mem Go.Proofs.Ytogijioehdaefaa.Oct

theorem own_lit_at (E : TypeId) (w : World) (g : Nat) (hg : g = w.heap.size) {base : Nat} (hb : base ≤ w.heap.size) (l : List UInt8) (cs : Array Value) (hcs : cs = (l.map bv).toArray) (hm : l.length ≤ maxLen) :
    Own E (w.alloc (.cells cs E)) base (.slice (some ⟨g, 0, none⟩) l.length l.length) l := by
  subst hg
  exact own_lit E w hb l cs hcs hm

/-- what stood reads as before -/
theorem bcell {B : Nat} {W w1 : World} (hb : Below B W w1) : (∀ b o, b < B → w1.cell? ⟨b, o, none⟩ = W.cell? ⟨b, o, none⟩) ∧ (∀ b o, b < B → w1.frozen? ⟨b, o, none⟩ = W.frozen? ⟨b, o, none⟩) :=
  ⟨fun b o h => hb.cell (p := ⟨b, o, none⟩) h, fun b o h => hb.frozen (p := ⟨b, o, none⟩) h⟩

/-- the blocks from base on are as they were -/
structure Mid (base : Nat) (w w' : World) : Prop where
  size : w.heap.size ≤ w'.heap.size
  block : ∀ k, base ≤ k → k < w.heap.size → w'.heap[k]? = w.heap[k]?
theorem Mid.refl (base : Nat) (w : World) : Mid base w w := ⟨Nat.le_refl _, fun _ _ _ => rfl⟩
theorem Mid.alloc {base : Nat} {a w : World} (h : Mid base a w) (o : Obj) : Mid base a (w.alloc o) :=
  ⟨by simp; have := h.size; omega, fun k h1 h2 => by rw [Below.heap_alloc _ _ _ (Nat.lt_of_lt_of_le h2 h.size)]; exact h.block k h1 h2⟩
theorem Mid.setCell {base : Nat} {a w : World} (h : Mid base a w) {p : Addr} (hp : p.block < base) (u : Value) : Mid base a (w.setCell p u) :=
  ⟨by simp [World.setCell]; exact h.size, fun k h1 h2 => by rw [Below.heap_setCell _ _ _ _ (by omega)]; exact h.block k h1 h2⟩
theorem own_mid {E : TypeId} {w w' : World} {base : Nat} {v : Value} {l : List UInt8} (h : Own E w base v l) (hk : Mid base w w') : Own E w' base v l := by
  refine ⟨h.1, ?_⟩
  rcases h.2 with h0 | ⟨g, cap, cur, rfl, hbg, hg, r⟩
  · exact .inl h0
  · refine .inr ⟨g, cap, cur, rfl, hbg, ?_, r⟩
    rw [hk.block g hbg (Array.getElem?_eq_some_iff.1 hg).1]
    exact hg

/-- bytes and an error's number -/
def GivesN (n : Int) (w : World) (l : List UInt8) (e : Ending) (w' : World) : Prop := ∃ v, e = .returned (.tuple #[v, .int .i64 n]) ∧ Own 5 w' w.heap.size v l ∧ Below w.heap.size w w'

/-- the document's copy -/
theorem Copy_any (A : Option Addr) (n cap : Nat) (l : List UInt8) (W : World) (hn : n = l.length) (hA : Bytes W W.heap.size A l) (hl : l.length ≤ 140737488355328) :
    Calls Try.prog 19 #[.slice A n cap] W (Gives W l) := by
  subst hn
  have hol := own_lit 5 W (base := W.heap.size) (Nat.le_refl _) [] #[] rfl (by simp [maxLen])
  go_enter Try.func19, Try.ntmps19
  go_wp2_with (at_builtin; refine wpList_app _ rfl _ _ 33 rfl 5 Try.underlying33 infoU8 W.heap.size _ [] rfl hol W.heap.size A _ cap l rfl rfl (hA.below (((Below.refl W.heap.size W).alloc (Nat.le_refl _) _)) (Nat.le_refl _)) (by simp) (by simp; omega) ?_)
  intro v' w' ho' hg
  have hb' := hol.grown ((Below.refl W.heap.size W).alloc (Nat.le_refl _) _) hg (Nat.le_refl _) (Nat.le_refl _)
  clear hol hg
  go_wp2
  go_ret
  exact ⟨_, rfl, by simpa using ho', hb'⟩

end Go.Proofs.Ytogijioehdaefaa.Pkt
