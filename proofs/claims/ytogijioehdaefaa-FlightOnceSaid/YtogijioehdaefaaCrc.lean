
/- Layer 2 (crc): the table, and what goes by it. -/
import Derived.Test.YtogijioehdaefaaOctC
import Derived.Test.YtogijioehdaefaaCrcM
import Derived.Laws.Tables
import Derived.Great.BuildSlice
namespace Go.Proofs.Ytogijioehdaefaa.Crc
open Go.RowKit Go.Proofs.Ytogijioehdaefaa.Mem Go.Proofs.Ytogijioehdaefaa.Oct Go.Proofs.Ytogijioehdaefaa.CrcM

theorem xor_u32 (a b : Nat) (ha : a < 4294967296) (hb : b < 4294967296) : bits .xor .u32 (a : Int) (b : Int) = ((a ^^^ b : Nat) : Int) := by
  have hx : a ^^^ b < 2 ^ 32 := Nat.xor_lt_two_pow (by omega) (by omega)
  have h1 : (BitVec.ofInt 32 (a : Int)).toNat = a := by
    rw [BitVec.ofInt_natCast, BitVec.toNat_ofNat]; exact Nat.mod_eq_of_lt (by omega)
  have h2 : (BitVec.ofInt 32 (b : Int)).toNat = b := by
    rw [BitVec.ofInt_natCast, BitVec.toNat_ofNat]; exact Nat.mod_eq_of_lt (by omega)
  show IntKind.u32.wrap ((BitVec.ofInt 32 (a : Int) ^^^ BitVec.ofInt 32 (b : Int)).toNat : Int) = _
  rw [BitVec.toNat_xor, h1, h2, IntKind.wrap_u32]
  omega
theorem xor_u8 (a b : Nat) (ha : a < 256) (hb : b < 256) : bits .xor .u8 (a : Int) (b : Int) = ((a ^^^ b : Nat) : Int) := by
  have hx : a ^^^ b < 2 ^ 8 := Nat.xor_lt_two_pow (by omega) (by omega)
  have h1 : (BitVec.ofInt 8 (a : Int)).toNat = a := by
    rw [BitVec.ofInt_natCast, BitVec.toNat_ofNat]; exact Nat.mod_eq_of_lt (by omega)
  have h2 : (BitVec.ofInt 8 (b : Int)).toNat = b := by
    rw [BitVec.ofInt_natCast, BitVec.toNat_ofNat]; exact Nat.mod_eq_of_lt (by omega)
  show IntKind.u8.wrap ((BitVec.ofInt 8 (a : Int) ^^^ BitVec.ofInt 8 (b : Int)).toNat : Int) = _
  rw [BitVec.toNat_xor, h1, h2, IntKind.wrap_u8]
  omega
theorem and1_u32 (a : Nat) (ha : a < 4294967296) : bits .and .u32 (a : Int) 1 = ((a % 2 : Nat) : Int) := by
  have := bits_mask .u32 32 (by decide) (fun n h0 h1 => by rw [IntKind.wrap_u32]; omega) 1 (by decide) (a : Int) (by omega) (by omega)
  simpa using this

/-- a table as it is made at first -/
def newCells : Array Value := #[.bool true] ++ Array.replicate 256 (.int .u32 0)
theorem newCells_0 : newCells[0]? = some (.bool true) := by
  unfold newCells
  rw [Array.getElem?_append_left (by simp)]
  rfl
theorem newCells_at (j : Nat) (h : j < 256) : newCells[1 + j]? = some (.int .u32 0) := by
  unfold newCells
  rw [Array.getElem?_append_right (by simp)]
  simp [h]
/-- block b holds a table of which the first k sums are laid -/
structure Made (w : World) (b k : Nat) : Prop where
  made : w.cell? ⟨b, 0, none⟩ = some (.bool true)
  have_ : ∀ j, j < k → w.cell? ⟨b, 1 + j, none⟩ = some (.int .u32 (steps 8 j : Nat))
  lack : ∀ j, k ≤ j → j < 256 → w.cell? ⟨b, 1 + j, none⟩ = some (.int .u32 0)
  free : ∀ j, w.frozen? ⟨b, j, none⟩ = false
/-- a table -/
structure Tab (w : World) (b : Nat) : Prop where
  made : w.cell? ⟨b, 0, none⟩ = some (.bool true)
  at_ : ∀ j, j < 256 → w.cell? ⟨b, 1 + j, none⟩ = some (.int .u32 (steps 8 j : Nat))
theorem Tab.below {w w' : World} {b C : Nat} (h : Tab w b) (hb : Below C w w') (hC : b < C) : Tab w' b :=
  ⟨(hb.cell (p := ⟨b, 0, none⟩) hC).trans h.made, fun j hj => (hb.cell (p := ⟨b, 1 + j, none⟩) hC).trans (h.at_ j hj)⟩
theorem Made.next {w : World} {b k : Nat} (h : Made w b k) (hk : k < 256) : Made (w.setCell ⟨b, 1 + k, none⟩ (.int .u32 (steps 8 k : Nat))) b (k + 1) := by
  have hc := h.lack k (Nat.le_refl _) hk
  refine ⟨?_, fun j hj => ?_, fun j h1 h2 => ?_, fun j => ?_⟩
  · rw [World.cell?_setCell_other (h := by intro e; simp at e <;> omega)]; exact h.made
  · by_cases e : j = k
    · subst e
      exact World.cell?_setCell_same w _ _ hc
    · rw [World.cell?_setCell_other (h := by intro e; simp at e <;> omega)]; exact h.have_ j (by omega)
  · rw [World.cell?_setCell_other (h := by intro e; simp at e <;> omega)]; exact h.lack j (by omega) h2
  · rw [World.frozen?_setCell]; exact h.free j

/-- New -/
def GivesT (w : World) (e : Ending) (w' : World) : Prop := ∃ b, e = .returned (.pointer (some ⟨b, 0, none⟩)) ∧ Tab w' b ∧ w.heap.size ≤ b ∧ b < w'.heap.size ∧ Below w.heap.size w w'

theorem byte_of (x : Nat) : IntKind.u8.wrap (x : Int) = ((x % 256 : Nat) : Int) := by rw [IntKind.wrap_u8]; omega

theorem feed_step (x : Nat) (l : List UInt8) (k : Nat) (h : k < l.length) : feed x (l.take (k + 1)) = steps 8 (feed x (l.take k) ^^^ (nth8 l k).toNat) := by rw [take_snoc l k h, feed_snoc]

end Go.Proofs.Ytogijioehdaefaa.Crc
