
/- Layer 2 (crc): the table, and what goes by it. -/
import Derived.Test.YtfieinajkkcelaaOctC
import Derived.Test.YtfieinajkkcelaaCrcM
import Derived.Laws.Tables
import Derived.Great.BuildSlice
namespace Go.Proofs.Ytfieinajkkcelaa.Crc
open Go.RowKit Go.Proofs.Ytfieinajkkcelaa.Mem Go.Proofs.Ytfieinajkkcelaa.Oct Go.Proofs.Ytfieinajkkcelaa.CrcM

theorem xor_u32 (a b : Nat) (ha : a < 4294967296) (hb : b < 4294967296) : bits .xor .u32 (a : Int) (b : Int) = ((a ^^^ b : Nat) : Int) := by
  have hx : a ^^^ b < 2 ^ 32 := Nat.xor_lt_two_pow (by omega) (by omega)
  have h1 : (BitVec.ofInt 32 (a : Int)).toNat = a := by
    rw [BitVec.ofInt_natCast, BitVec.toNat_ofNat]; exact Nat.mod_eq_of_lt (by omega)
  have h2 : (BitVec.ofInt 32 (b : Int)).toNat = b := by
    rw [BitVec.ofInt_natCast, BitVec.toNat_ofNat]; exact Nat.mod_eq_of_lt (by omega)
  show IntKind.u32.wrap ((BitVec.ofInt 32 (a : Int) ^^^ BitVec.ofInt 32 (b : Int)).toNat : Int) = _
  rw [BitVec.toNat_xor, h1, h2, IntKind.wrap_u32]
  omega
theorem xor_u8 (a b : Nat) (ha : a < 256) (hb : b < 256) : bits .xor .u8 (a : Int) (b : Int) = ((a ^^^ b : Nat) : Int) := by
  have hx : a ^^^ b < 2 ^ 8 := Nat.xor_lt_two_pow (by omega) (by omega)
  have h1 : (BitVec.ofInt 8 (a : Int)).toNat = a := by
    rw [BitVec.ofInt_natCast, BitVec.toNat_ofNat]; exact Nat.mod_eq_of_lt (by omega)
  have h2 : (BitVec.ofInt 8 (b : Int)).toNat = b := by
    rw [BitVec.ofInt_natCast, BitVec.toNat_ofNat]; exact Nat.mod_eq_of_lt (by omega)
  show IntKind.u8.wrap ((BitVec.ofInt 8 (a : Int) ^^^ BitVec.ofInt 8 (b : Int)).toNat : Int) = _
  rw [BitVec.toNat_xor, h1, h2, IntKind.wrap_u8]
  omega
theorem and1_u32 (a : Nat) (ha : a < 4294967296) : bits .and .u32 (a : Int) 1 = ((a % 2 : Nat) : Int) := by
  have := bits_mask .u32 32 (by decide) (fun n h0 h1 => by rw [IntKind.wrap_u32]; omega) 1 (by decide) (a : Int) (by omega) (by omega)
  simpa using this

theorem step_any (x : Nat) (h : x < 4294967296) (W : World) :
    Calls Try.prog 36 #[.int .u32 x] W fun e W' => e = .returned (.int .u32 (cstep x : Nat)) ∧ W = W' := by
  have h1 := and1_u32 x h
  have h2 : bits .xor .u32 ((x : Int) / 2) 3988292384 = ((x / 2 ^^^ 3988292384 : Nat) : Int) := by
    have := xor_u32 (x / 2) 3988292384 (by omega) (by omega)
    simpa using this
  have H2 := Lib.hid h2
  clear h2
  by_cases h0 : x % 2 = 1
  · have e : cstep x = (x / 2 ^^^ 3988292384 : Nat) := if_pos h0
    have E := Lib.hid e
    have hx : (bits .and .u32 (x : Int) 1 == 1) = true := by rw [h1, h0]; rfl
    clear h1 h0 e
    go_enter Try.func36, Try.ntmps36
    go_wp2
    go_ret
    exact ⟨ret_int (by rw [E.out]; exact H2.out), rfl⟩
  · have e : cstep x = x / 2 := if_neg h0
    have E := Lib.hid e
    have hx : (bits .and .u32 (x : Int) 1 == 1) = false := by rw [h1, show x % 2 = 0 by omega]; rfl
    clear h1 h0 e
    go_enter Try.func36, Try.ntmps36
    go_wp2
    go_ret
    exact ⟨ret_int (by rw [E.out]; simp), rfl⟩

/-- a table as it is made at first -/
def newCells : Array Value := #[.bool true] ++ Array.replicate 256 (.int .u32 0)
theorem newCells_0 : newCells[0]? = some (.bool true) := by
  unfold newCells
  rw [Array.getElem?_append_left (by simp)]
  rfl
theorem newCells_at (j : Nat) (h : j < 256) : newCells[1 + j]? = some (.int .u32 0) := by
  unfold newCells
  rw [Array.getElem?_append_right (by simp)]
  simp [h]
theorem built : Try.prog.built 61 [(0, .bool true)] = some newCells := by kernel_rfl

/-- block b holds a table of which the first k sums are laid -/
structure Made (w : World) (b k : Nat) : Prop where
  made : w.cell? ⟨b, 0, none⟩ = some (.bool true)
  have_ : ∀ j, j < k → w.cell? ⟨b, 1 + j, none⟩ = some (.int .u32 (steps 8 j : Nat))
  lack : ∀ j, k ≤ j → j < 256 → w.cell? ⟨b, 1 + j, none⟩ = some (.int .u32 0)
  free : ∀ j, w.frozen? ⟨b, j, none⟩ = false
/-- a table -/
structure Tab (w : World) (b : Nat) : Prop where
  made : w.cell? ⟨b, 0, none⟩ = some (.bool true)
  at_ : ∀ j, j < 256 → w.cell? ⟨b, 1 + j, none⟩ = some (.int .u32 (steps 8 j : Nat))
theorem Tab.below {w w' : World} {b C : Nat} (h : Tab w b) (hb : Below C w w') (hC : b < C) : Tab w' b :=
  ⟨(hb.cell (p := ⟨b, 0, none⟩) hC).trans h.made, fun j hj => (hb.cell (p := ⟨b, 1 + j, none⟩) hC).trans (h.at_ j hj)⟩
theorem Made.next {w : World} {b k : Nat} (h : Made w b k) (hk : k < 256) : Made (w.setCell ⟨b, 1 + k, none⟩ (.int .u32 (steps 8 k : Nat))) b (k + 1) := by
  have hc := h.lack k (Nat.le_refl _) hk
  refine ⟨?_, fun j hj => ?_, fun j h1 h2 => ?_, fun j => ?_⟩
  · rw [World.cell?_setCell_other (h := by intro e; simp at e <;> omega)]; exact h.made
  · by_cases e : j = k
    · subst e
      exact World.cell?_setCell_same w _ _ hc
    · rw [World.cell?_setCell_other (h := by intro e; simp at e <;> omega)]; exact h.have_ j (by omega)
  · rw [World.cell?_setCell_other (h := by intro e; simp at e <;> omega)]; exact h.lack j (by omega) h2
  · rw [World.frozen?_setCell]; exact h.free j

/-- New -/
def GivesT (w : World) (e : Ending) (w' : World) : Prop := ∃ b, e = .returned (.pointer (some ⟨b, 0, none⟩)) ∧ Tab w' b ∧ w.heap.size ≤ b ∧ b < w'.heap.size ∧ Below w.heap.size w w'

set_option maxHeartbeats 1000000 in
set_option maxRecDepth 100000 in
theorem New_any (W : World) : Calls Try.prog 15 #[] W (GivesT W) := by
  have hbt := built
  have h0 : Made (W.alloc (.cells newCells 61)) W.heap.size 0 := by
    refine ⟨?_, fun j h => by omega, fun j _ h => ?_, fun j => ?_⟩
    · rw [cell_of_row _ W.heap.size 0 newCells 61 (0, 0) (heap_alloc_new W _)]; exact newCells_0
    · rw [cell_of_row _ W.heap.size (1 + j) newCells 61 (0, 0) (heap_alloc_new W _)]; exact newCells_at j h
    · simp [go_sem]
  have H0 := Lib.hid h0
  clear h0
  go_enter Try.func15, Try.ntmps15
  go_wp2_with (refine wpList_buildTo rfl 61 _ rfl _ rfl newCells (by simp only [List.map_toArray, List.map_cons, List.map_nil]; exact hbt) ?_)
  go_loopw [6] (fun i wr => ∃ k : Nat, k ≤ 256 ∧ i = .int .i64 k ∧ Made wr W.heap.size k ∧ Below W.heap.size W wr ∧ W.heap.size < wr.heap.size) (fun i _ => 256 - (intOf i).toNat)
  case atStart => exact ⟨0, by omega, rfl, H0.out, below_alloc (Below.refl _ _) _, by simp⟩
  case round =>
    obtain ⟨k, hk, rfl, hm, hb, hz⟩ := hrel
    have HM := Lib.hid hm
    have HB := Lib.hid hb
    by_cases hlt : k < 256
    · have hc := hm.lack k (Nat.le_refl _) hlt
      have hf := hm.free (1 + k)
      have hd : decide ((k : Int) < 256) = true := by simp; omega
      clear hm hb
      go_wp2_with fail
      go_loop [3, 11] (fun x j => ∃ q : Nat, q ≤ 8 ∧ j = .int .i64 q ∧ x = .int .u32 (steps q k : Nat)) (fun _ j => 8 - (intOf j).toNat)
      case atStart => exact ⟨0, by omega, rfl, rfl⟩
      case round =>
        obtain ⟨q, hq, rfl, rfl⟩ := hrel
        have hs := steps_lt q (show k < 4294967296 by omega)
        by_cases hlq : q < 8
        · have HS := Lib.hid (steps_succ q k)
          go_wp2_with (go_at_call 36; refine (step_any _ hs _).mono ?_; rintro e w' ⟨rfl, rfl⟩)
          go_round
          case rel => exact ⟨q + 1, by omega, by go_num, by rw [HS.out]⟩
          case measure => simp [intOf]; omega
        · obtain rfl : q = 8 := by omega
          go_wp2_with fail
          go_roundw
          case rel => exact ⟨k + 1, by omega, by go_num, HM.out.next hlt, HB.out.setCell (Nat.le_refl _) _, by simp [World.setCell]; omega⟩
          case measure => simp [intOf]; omega
    · obtain rfl : k = 256 := by omega
      go_wp2
      go_ret
      exact ⟨_, rfl, ⟨hm.made, hm.have_⟩, Nat.le_refl _, hz, hb⟩

theorem byte_of (x : Nat) : IntKind.u8.wrap (x : Int) = ((x % 256 : Nat) : Int) := by rw [IntKind.wrap_u8]; omega

/-- is it a table that was made? -/
theorem is_yes (b : Nat) (W : World) (h : Tab W b) : Calls Try.prog 65 #[.pointer (some ⟨b, 0, none⟩)] W fun e W' => e = .returned (.bool true) ∧ W = W' := by
  have hm := h.made
  go_enter Try.func65, Try.ntmps65
  go_wp2
  go_ret
  exact ⟨rfl, rfl⟩
theorem is_no (b : Nat) (W : World) (h : W.cell? ⟨b, 0, none⟩ = some (.bool false)) : Calls Try.prog 65 #[.pointer (some ⟨b, 0, none⟩)] W fun e W' => e = .returned (.bool false) ∧ W = W' := by
  go_enter Try.func65, Try.ntmps65
  go_wp2
  go_ret
  exact ⟨rfl, rfl⟩
theorem is_nil (W : World) : Calls Try.prog 65 #[.pointer none] W fun e W' => e = .returned (.bool false) ∧ W = W' := by
  go_enter Try.func65, Try.ntmps65
  go_wp2
  go_ret
  exact ⟨rfl, rfl⟩

theorem feed_step (x : Nat) (l : List UInt8) (k : Nat) (h : k < l.length) : feed x (l.take (k + 1)) = steps 8 (feed x (l.take k) ^^^ (nth8 l k).toNat) := by rw [take_snoc l k h, feed_snoc]

set_option maxHeartbeats 1000000 in
theorem over_any (b x : Nat) (A : Option Addr) (n cap : Nat) (l : List UInt8) (W : World) (hn : n = l.length) (hx : x < 4294967296) (ht : Tab W b) (hA : Bytes W W.heap.size A l) (hl : l.length ≤ maxLen) :
    Calls Try.prog 74 #[.pointer (some ⟨b, 0, none⟩), .int .u32 x, .slice A n cap] W fun e W' => e = .returned (.int .u32 (feed x l : Nat)) ∧ W = W' := by
  subst hn
  unfold maxLen at hl
  go_enter Try.func74, Try.ntmps74
  go_wp2_with fail
  go_loop [1, 11] (fun v i => ∃ k : Nat, k ≤ l.length ∧ i = .int .i64 k ∧ v = .int .u32 (feed x (l.take k) : Nat)) (fun _ i => l.length - (intOf i).toNat)
  case atStart => exact ⟨0, Nat.zero_le _, rfl, rfl⟩
  case round =>
    obtain ⟨k, hk, rfl, rfl⟩ := hrel
    by_cases hlt : k < l.length
    · obtain ⟨bb, off, rfl, _, hc⟩ := hA.at_ hlt
      have hr := byteAt_range l k
      have hs := feed_step x l k hlt
      have hf := feed_lt (l.take k) hx
      generalize feed x (l.take k) = y at hs hf ⊢
      have hz := byte_lt (nth8 l k)
      have hv : byteAt l k = ((nth8 l k).toNat : Int) := rfl
      rw [hv] at hc hr
      generalize (nth8 l k).toNat = z at hc hr hs hz
      have hm : y % 256 < 256 := Nat.mod_lt _ (by decide)
      have hj := byte_xor_lt hm hz
      have hcell := ht.at_ _ hj
      have h1 := byte_of y
      have h2 := xor_u8 (y % 256) z hm hz
      have h3 := xor_u32 (steps 8 (y % 256 ^^^ z)) (y / 256) (steps_lt 8 (by omega)) (by omega)
      have h4 : ((y / 256 : Nat) : Int) = (y : Int) / 256 := by simp
      rw [h4] at h3
      have HB := Lib.hid (by_table y z)
      generalize hjj : y % 256 ^^^ z = j at hj hcell h2 h3 HB
      have HS := Lib.hid hs
      clear hs hv h4 hjj hm hz
      generalize y % 256 = m at h1 h2
      go_wp2_with fail
      go_round
      case rel => exact ⟨k + 1, by omega, by go_num, by rw [HS.out, ← HB.out]⟩
      case measure => simp [intOf]; omega
    · have HK := Lib.hid (show l.take k = l from List.take_of_length_le (by omega))
      go_wp2
      go_ret
      exact ⟨ret_int (by rw [HK.out]), rfl⟩
end Go.Proofs.Ytfieinajkkcelaa.Crc
