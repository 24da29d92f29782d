/- Layer 1 (octet): what Order and its reference compute. -/
import Derived.Test.YtknpengboappiaaOctD
namespace Go.Proofs.Ytknpengboappiaa.Oct
open Go.RowKit Go.Proofs.Ytknpengboappiaa.Mem

theorem run_compare (A B : Option Addr) (ca cb : Nat) (l m : List UInt8) (b0 b1 : Nat) (W : World) (hA : Bytes W b0 A l) (hB : Bytes W b1 B m) :
    (callFunc 44 #[.slice A l.length ca, .slice B m.length cb]).run Try.prog W = .ok (.value (.int .i64 (ord l m))) W := by
  rw [run_callFunc_extern (e := Extern.BytealgCompare.compare) Try.func44 (by kernel_rfl) (by kernel_rfl) (by kernel_rfl) (by kernel_rfl)]
  have h : (Extern.BytealgCompare.compare #[.slice A l.length ca, .slice B m.length cb]).run Try.prog W = .ok (.int .i64 (ord l m)) W := by
    change Sem.run Try.prog (do
      let x ← Extern.Bytes.bytesOf (.slice A l.length ca)
      let y ← Extern.Bytes.bytesOf (.slice B m.length cb)
      pure (goInt (Extern.BytealgCompare.cmp x y))) W = _
    simp only [Sem.run_bind, Sem.run_pure, run_bytesOf W hA ca, run_bytesOf W hB cb, Result.andThen_ok, cmp_eq]
    rfl
  rw [h]
  rfl

theorem Compare_any (A B : Option Addr) (ca cb : Nat) (l m : List UInt8) (b0 b1 : Nat) (W : World) (hA : Bytes W b0 A l) (hB : Bytes W b1 B m) :
    Calls Try.prog 41 #[.slice A l.length ca, .slice B m.length cb] W fun e W' => e = .returned (.int .i64 (ord l m)) ∧ W = W' := by
  have hc := run_compare A B ca cb l m b0 b1 W hA hB
  go_enter Try.func41, Try.ntmps41
  go_wp2
  go_ret
  exact ⟨rfl, rfl⟩

theorem Order_any (A B : Option Addr) (ca cb : Nat) (l m : List UInt8) (b0 b1 : Nat) (W : World) (hA : Bytes W b0 A l) (hB : Bytes W b1 B m) :
    Calls Try.prog 32 #[.slice A l.length ca, .slice B m.length cb] W fun e W' => e = .returned (.int .i64 (ord l m)) ∧ W = W' := by
  go_enter Try.func32, Try.ntmps32
  go_wp2_with (go_at_call 41; refine (Compare_any A B ca cb l m b0 b1 _ hA hB).mono ?_; rintro e w' ⟨rfl, rfl⟩)
  go_ret
  exact ⟨rfl, rfl⟩

theorem drop_nth (l : List UInt8) (k : Nat) (h : k < l.length) : l.drop k = nth8 l k :: l.drop (k + 1) := by
  unfold nth8
  rw [List.drop_eq_getElem_cons h]
  simp [List.getD, h]
theorem nth_lt (l m : List UInt8) (k : Nat) : nth8 l k < nth8 m k ↔ byteAt l k < byteAt m k := by
  unfold nth8 byteAt
  rw [UInt8.lt_iff_toNat_lt]
  omega
theorem ord_step {l m : List UInt8} {k : Nat} (h1 : k < l.length) (h2 : k < m.length) (h : ord l m = ord (l.drop k) (m.drop k)) :
    (byteAt l k < byteAt m k → ord l m = -1) ∧ (byteAt m k < byteAt l k → ord l m = 1) ∧ (byteAt l k = byteAt m k → ord l m = ord (l.drop (k + 1)) (m.drop (k + 1))) := by
  rw [h, drop_nth l k h1, drop_nth m k h2]
  refine ⟨fun hc => ?_, fun hc => ?_, fun hc => ?_⟩
  · rw [ord, if_pos ((nth_lt l m k).2 hc)]
  · rw [ord, if_neg (fun e => by have := (nth_lt l m k).1 e; omega), if_pos ((nth_lt m l k).2 hc)]
  · rw [ord, if_neg (fun e => by have := (nth_lt l m k).1 e; omega), if_neg (fun e => by have := (nth_lt m l k).1 e; omega)]
theorem ord_left {l m : List UInt8} {k : Nat} (h1 : l.length ≤ k) (h2 : k < m.length) (h : ord l m = ord (l.drop k) (m.drop k)) : ord l m = -1 := by
  rw [h, List.drop_of_length_le h1, drop_nth m k h2]; rfl
theorem ord_right {l m : List UInt8} {k : Nat} (h1 : k < l.length) (h2 : m.length ≤ k) (h : ord l m = ord (l.drop k) (m.drop k)) : ord l m = 1 := by
  rw [h, List.drop_of_length_le h2, drop_nth l k h1]; rfl
theorem ord_end {l m : List UInt8} {k : Nat} (h1 : l.length ≤ k) (h2 : m.length ≤ k) (h : ord l m = ord (l.drop k) (m.drop k)) : ord l m = 0 := by
  rw [h, List.drop_of_length_le h1, List.drop_of_length_le h2]; rfl

set_option maxHeartbeats 1000000 in
theorem refOrder_any (A B : Option Addr) (ca cb : Nat) (l m : List UInt8) (b0 b1 : Nat) (W : World) (hA : Bytes W b0 A l) (hB : Bytes W b1 B m) (hl : l.length ≤ maxLen) (hm : m.length ≤ maxLen) :
    Calls Try.prog 33 #[.slice A l.length ca, .slice B m.length cb] W fun e W' => e = .returned (.int .i64 (ord l m)) ∧ Drawn W W' := by
  unfold maxLen at hl
  unfold maxLen at hm
  have _hm := hm
  go_enter Try.func33, Try.ntmps33
  go_wp2_with fail
  go_loopw [5] (fun i wr => ∃ k : Nat, k ≤ l.length ∧ k ≤ m.length ∧ i = .int .i64 k ∧ Hid (ord l m = ord (l.drop k) (m.drop k)) ∧ Drawn W wr) (fun i _ => l.length - (intOf i).toNat)
  case atStart => exact ⟨0, Nat.zero_le _, Nat.zero_le _, rfl, Lib.hid rfl, Drawn.refl _⟩
  case round =>
    obtain ⟨k, hk, hk2, rfl, HO, hw⟩ := hrel
    by_cases hlt : k < l.length
    · by_cases hlt2 : k < m.length
      · obtain ⟨b, off, rfl, _, hc⟩ := (hA.below (hw.below b0) (Nat.le_refl _)).at_ hlt
        obtain ⟨b', off', rfl, _, hc'⟩ := (hB.below (hw.below b1) (Nat.le_refl _)).at_ hlt2
        have hr := byteAt_range l k
        have hr2 := byteAt_range m k
        have hst := ord_step hlt hlt2 HO.out
        have i1 : (k : Int) < (l.length : Int) := by omega
        have i2 : (k : Int) < (m.length : Int) := by omega
        by_cases c1 : byteAt l k < byteAt m k
        · have H1 := Lib.hid (hst.1 c1)
          clear hst
          go_wp2_with fail
          go_quiet (fail)
          go_wp2_with fail
          go_ret
          exact ⟨ret_int H1.out.symm, hw.step _⟩
        · by_cases c2 : byteAt m k < byteAt l k
          · have H1 := Lib.hid (hst.2.1 c2)
            clear hst
            have c1' : decide (byteAt l k < byteAt m k) = false := by simpa using c1
            go_wp2_with fail
            go_quiet (fail)
            go_wp2_with fail
            go_quiet (fail)
            go_wp2_with fail
            go_ret
            exact ⟨ret_int H1.out.symm, (hw.step _).step _⟩
          · have H1 := Lib.hid (hst.2.2 (by omega))
            clear hst
            have c1' : decide (byteAt l k < byteAt m k) = false := by simpa using c1
            have c2' : decide (byteAt m k < byteAt l k) = false := by simpa using c2
            go_wp2_with fail
            go_quiet (fail)
            go_wp2_with fail
            go_quiet (fail)
            go_wp2_with fail
            go_roundw
            case rel => exact ⟨k + 1, by omega, by omega, by go_num, H1, hw.step _⟩
            case measure => simp [intOf]; omega
      · have H1 := Lib.hid (ord_right hlt (by omega) HO.out)
        go_wp2_with fail
        go_ret
        exact ⟨ret_int H1.out.symm, hw⟩
    · by_cases hlt2 : k < m.length
      · have H1 := Lib.hid (ord_left (by omega) hlt2 HO.out)
        go_wp2_with fail
        go_ret
        exact ⟨ret_int H1.out.symm, hw⟩
      · have H1 := Lib.hid (ord_end (by omega) (by omega) HO.out)
        go_wp2_with fail
        go_ret
        exact ⟨ret_int H1.out.symm, hw⟩

theorem ord_flip (l : List UInt8) : ∀ m, ord m l = - ord l m := by
  induction l with
  | nil => intro m; cases m <;> rfl
  | cons a l ih =>
    intro m
    cases m with
    | nil => rfl
    | cons b m =>
      simp only [ord]
      by_cases h1 : a < b
      · have h2 : ¬ b < a := fun h => by rw [UInt8.lt_iff_toNat_lt] at h h1; omega
        rw [if_neg h2, if_pos h1, if_pos h1]
        try rfl
      · by_cases h2 : b < a
        · rw [if_pos h2, if_neg h1, if_pos h2]
          try rfl
        · rw [if_neg h2, if_neg h1, if_neg h1, if_neg h2]; exact ih m
theorem ord_zero (l : List UInt8) : ∀ m, ord l m = 0 ↔ l = m := by
  induction l with
  | nil => intro m; cases m <;> simp [ord]
  | cons a l ih =>
    intro m
    cases m with
    | nil => simp [ord]
    | cons b m =>
      simp only [ord]
      by_cases h1 : a < b
      · rw [if_pos h1]
        constructor
        · intro h; omega
        · rintro h; injection h with h _; subst h; rw [UInt8.lt_iff_toNat_lt] at h1; omega
      · by_cases h2 : b < a
        · rw [if_neg h1, if_pos h2]
          constructor
          · intro h; omega
          · rintro h; injection h with h _; subst h; rw [UInt8.lt_iff_toNat_lt] at h2; omega
        · rw [if_neg h1, if_neg h2, ih m]
          have : a = b := by
            rw [UInt8.lt_iff_toNat_lt] at h1 h2
            exact UInt8.toNat_inj.1 (by omega)
          subst this
          simp
end Go.Proofs.Ytknpengboappiaa.Oct
