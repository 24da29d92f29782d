
/- Layer 1 (octet): what Same, Order, Cut and their references compute. -/
import Derived.Test.YtogijioehdaefaaOctA
namespace Go.Proofs.Ytogijioehdaefaa.Oct
open Go.RowKit Go.Proofs.Ytogijioehdaefaa.Mem

theorem byteAt_ne {l m : List UInt8} {k : Nat} (h : byteAt l k ≠ byteAt m k) : (l == m) = false := by
  rw [beq_eq_false_iff_ne]
  rintro rfl
  exact h rfl
theorem eq_of_bytes {l m : List UInt8} (hl : l.length = m.length) (h : ∀ j, j < l.length → byteAt l j = byteAt m j) : (l == m) = true := by
  rw [beq_iff_eq]
  apply List.ext_getElem hl
  intro i h1 h2
  have := h i h1
  unfold byteAt at this
  simp only [List.getD, h1, h2, List.getElem?_eq_getElem, Option.getD_some] at this
  exact UInt8.toNat_inj.1 (by omega)
/-- the first k bytes are the same -/
def Same (l m : List UInt8) (k : Nat) : Prop := ∀ j, j < k → byteAt l j = byteAt m j
theorem Same.step {l m : List UInt8} {k : Nat} (h : Same l m k) (he : byteAt l k = byteAt m k) : Same l m (k + 1) := by
  intro j hj
  by_cases e : j = k
  · subst e; exact he
  · exact h j (by omega)

/-- the world is as it was, but for draws -/
def Drawn (W W' : World) : Prop := ∃ n, W' = W.drewN n
theorem Drawn.refl (W : World) : Drawn W W := ⟨0, rfl⟩
theorem Drawn.step {W w : World} (h : Drawn W w) (n : Nat) : Drawn W (w.drewN n) := by
  obtain ⟨m, rfl⟩ := h
  exact ⟨m + n, by rw [World.drewN_drewN]⟩
theorem Drawn.below {W w : World} (h : Drawn W w) (B : Nat) : Below B W w := by
  obtain ⟨m, rfl⟩ := h
  exact below_drewN (Below.refl _ _) m

theorem refSame_any (A B : Option Addr) (ca cb : Nat) (l m : List UInt8) (b0 b1 : Nat) (W : World) (hA : Bytes W b0 A l) (hB : Bytes W b1 B m) (hl : l.length ≤ maxLen) (hm : m.length ≤ maxLen) :
    Calls Try.prog 20 #[.slice A l.length ca, .slice B m.length cb] W fun e W' => e = .returned (.bool (l == m)) ∧ Drawn W W' := by
  unfold maxLen at hl hm
  by_cases hlen : l.length = m.length
  · have HL := Lib.hid hlen
    have hb : ((l.length : Int) != (m.length : Int)) = false := by rw [hlen]; simp
    clear hlen
    go_enter Try.func20, Try.ntmps20
    go_wp2
    go_loopw [5] (fun i wr => ∃ k : Nat, k ≤ l.length ∧ i = .int .i64 k ∧ Same l m k ∧ Drawn W wr) (fun i _ => l.length - (intOf i).toNat)
    case atStart => exact ⟨0, Nat.zero_le _, rfl, fun j hj => by omega, Drawn.refl _⟩
    case round =>
      obtain ⟨k, hk, rfl, hs, hw⟩ := hrel
      by_cases hlt : k < l.length
      · have hlt2 : k < m.length := by have := HL.out; omega
        obtain ⟨b, off, rfl, _, hc⟩ := (hA.below (hw.below b0) (Nat.le_refl _)).at_ hlt
        obtain ⟨b', off', rfl, _, hc'⟩ := (hB.below (hw.below b1) (Nat.le_refl _)).at_ hlt2
        by_cases he : byteAt l k = byteAt m k
        · have HS := Lib.hid (hs.step he)
          have hne : (byteAt l k != byteAt m k) = false := by simp [he]
          have hlt' : (k : Int) < (l.length : Int) := by omega
          have hlt2' : (k : Int) < (m.length : Int) := by omega
          clear he
          go_wp2
          go_quiet (fail)
          go_wp2
          go_roundw
          case rel => exact ⟨k + 1, by omega, by go_num, HS.out, hw.step _⟩
          case measure => simp [intOf]; omega
        · have HN := Lib.hid (byteAt_ne he)
          have hne : (byteAt l k != byteAt m k) = true := by simpa using he
          have hlt' : (k : Int) < (l.length : Int) := by omega
          have hlt2' : (k : Int) < (m.length : Int) := by omega
          clear he
          go_wp2
          go_quiet (fail)
          go_wp2
          go_ret
          exact ⟨ret_bool HN.out.symm, hw.step _⟩
      · obtain rfl : k = l.length := by omega
        have HE := Lib.hid (eq_of_bytes HL.out hs)
        go_wp2
        go_ret
        exact ⟨ret_bool HE.out.symm, hw⟩
  · have hne : (l == m) = false := by rw [beq_eq_false_iff_ne]; rintro rfl; exact hlen rfl
    have HN := Lib.hid hne
    have hb : ((l.length : Int) != (m.length : Int)) = true := by rw [bne_iff_ne]; omega
    clear hlen hne
    go_enter Try.func20, Try.ntmps20
    go_wp2
    go_ret
    exact ⟨ret_bool HN.out.symm, Drawn.refl _⟩

/-- which of two texts stands ahead -/
def ord : List UInt8 → List UInt8 → Int
  | [], [] => 0
  | [], _ :: _ => -1
  | _ :: _, [] => 1
  | a :: l, b :: m => if a < b then -1 else if b < a then 1 else ord l m

theorem cmp_eq (l m : List UInt8) : Extern.BytealgCompare.cmp ⟨l.toArray⟩ ⟨m.toArray⟩ = ord l m := by
  have hg : ∀ (l : List UInt8) (i : Nat), (⟨l.toArray⟩ : ByteArray)[i]! = l.getD i 0 := by
    intro l i
    by_cases h : i < l.length
    · rw [getElem!_pos (c := (⟨l.toArray⟩ : ByteArray)) (i := i) (by exact h)]
      simp [List.getD, h]
      rfl
    · rw [getElem!_neg (c := (⟨l.toArray⟩ : ByteArray)) (i := i) (by exact h)]
      simp [List.getD, h]
      rfl
  have hsz : ∀ l : List UInt8, (⟨l.toArray⟩ : ByteArray).size = l.length := fun l => List.size_toArray
  induction l generalizing m with
  | nil =>
    unfold Extern.BytealgCompare.cmp
    cases m <;> simp [hsz, ord, -ByteArray.size_data]
  | cons a l ih =>
    cases m with
    | nil =>
      unfold Extern.BytealgCompare.cmp
      simp [hsz, ord, -ByteArray.size_data]
    | cons b m =>
      have ih := ih m
      unfold Extern.BytealgCompare.cmp at ih ⊢
      simp only [hsz, List.length_cons, hg] at ih ⊢
      rw [Nat.succ_min_succ, List.range_succ_eq_map, List.find?_cons]
      by_cases e : a = b
      · subst e
        simp only [ord, List.getD_cons_zero, bne_self_eq_false, List.find?_map]
        have h0 : ¬ a < a := by simp
        rw [if_neg h0, if_neg h0, ← ih]
        have hf : ((fun i => (a :: l).getD i 0 != (a :: m).getD i 0) ∘ Nat.succ) = fun i => l.getD i 0 != m.getD i 0 := by
          funext i; simp [List.getD]
        rw [hf]
        cases (List.range (min l.length m.length)).find? fun i => l.getD i 0 != m.getD i 0 with
        | none => simp
        | some i => simp [List.getD]; rfl
      · have : (a != b) = true := by simpa using e
        simp only [List.getD_cons_zero, this, ord]
        by_cases hlt : a < b
        · simp [hlt]
        · have : b < a := by
            rcases UInt8.lt_or_lt_of_ne e with h | h
            · exact absurd h hlt
            · exact h
          simp [hlt, this]
end Go.Proofs.Ytogijioehdaefaa.Oct
