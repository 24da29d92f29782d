
/- Layer 4 (frame): what Body and Open answer. -/
import Derived.Test.YtoicmhaegpnniaaFrmA
namespace Go.Proofs.Ytoicmhaegpnniaa.Frm
open Go.RowKit Go.Proofs.Ytoicmhaegpnniaa.Mem Go.Proofs.Ytoicmhaegpnniaa.CrcM Go.Proofs.Ytoicmhaegpnniaa.StuffL Go.Proofs.Ytoicmhaegpnniaa.FrmM

theorem ge_none {w w' : World} {r : Option (List UInt8)} {no : Int} (h : r = none) (hb : Below w.heap.size w w') : Stuff.GivesE w r no (.returned (.tuple #[.slice none 0 0, .int .i64 no])) w' := by
  subst h
  exact ⟨_, rfl, Own.nil _ _ _, hb⟩
theorem ge_some {w w' : World} {r : Option (List UInt8)} {no : Int} {l : List UInt8} {v : Value} (h : r = some l) (ho : Own 5 w' w.heap.size v l) (hb : Below w.heap.size w w') : Stuff.GivesE w r no (.returned (.tuple #[v, .int .i64 0])) w' := by
  subst h
  exact ⟨_, rfl, ho, hb⟩

set_option maxHeartbeats 2000000 in
theorem Body_any (b : Nat) (A : Option Addr) (n cap : Nat) (l : List UInt8) (W : World) (hn : n = l.length) (hl : l.length ≤ 140737488355328) (ht : Crc.Tab W b) (hbs : b < W.heap.size) (hA : Bytes W W.heap.size A l) :
    Calls Try.prog 33 #[.pointer (some ⟨b, 0, none⟩), .slice A n cap] W (Stuff.GivesE W (bodyF l) 40) := by
  subst hn
  have hget := fun w h => Stuff.Get_any A cap l w h (by omega)
  cases hu : unput l with
  | none =>
    rw [hu] at hget
    have HN := Lib.hid (bodyF_none hu)
    have HG := Lib.hid hget
    clear hu hget
    go_enter Try.func33, Try.ntmps33
    go_wp2_with fail
    refine (usable_yes b _ ht hbs).mono ?_
    rintro e w1 ⟨rfl, hb1⟩
    go_wp2_with fail
    refine (HG.out _ (hA.later hb1)).mono ?_
    rintro e w2 ⟨v2, rfl, ho2, hb2⟩
    simp only [Stuff.eno]
    go_wp2
    go_ret2
    exact ge_none HN.out (below_next hb1 hb2)
  | some x =>
    rw [hu] at hget
    have hxl := get_length hu
    have HG := Lib.hid hget
    clear hget
    cases hg : good x with
    | true =>
      have HY := Lib.hid (bodyF_yes hu hg)
      have hg2 : cok x = true ∧ (cbody x).length ≤ 96 := by simpa [good] using hg
      obtain ⟨hok, h96⟩ := hg2
      have HOK := Lib.hid hok
      have h96' : ¬ ((96 : Int) < ((cbody x).length : Int)) := by omega
      clear hu hg hok
      go_enter Try.func33, Try.ntmps33
      go_wp2_with fail
      refine (usable_yes b _ ht hbs).mono ?_
      rintro e w1 ⟨rfl, hb1⟩
      go_wp2_with fail
      refine (HG.out _ (hA.later hb1)).mono ?_
      rintro e w2 ⟨v2, rfl, ho2, hb2⟩
      simp only [Stuff.eno, Option.getD_some] at ho2 ⊢
      obtain ⟨A2, c2, rfl, hc2, hm2, _⟩ := ho2.shape
      have hb02 := below_next hb1 hb2
      go_wp2_with fail
      refine (Crc.Check_any b A2 _ c2 x _ rfl hc2 hm2 (by omega) (ht.below hb02 hbs) (Nat.lt_of_lt_of_le hbs hb02.size) ho2.bytes).mono ?_
      unfold Crc.GivesC
      rw [HOK.out]
      rintro e w3 ⟨v3, rfl, ho3, hb3⟩
      obtain ⟨A3, c3, rfl, hc3, hm3, _⟩ := ho3.shape
      go_wp2
      go_ret2
      exact ge_some HY.out (ho3.mono (by have := hb02.size; omega)) (below_next hb02 hb3)
    | false =>
      have HY := Lib.hid (bodyF_no hu hg)
      cases hok : cok x with
      | true =>
        have h96 : 96 < (cbody x).length := by
          simp only [good, hok, Bool.true_and, decide_eq_false_iff_not] at hg
          omega
        have HOK := Lib.hid hok
        have h96' : (96 : Int) < ((cbody x).length : Int) := by omega
        clear hu hg hok
        go_enter Try.func33, Try.ntmps33
        go_wp2_with fail
        refine (usable_yes b _ ht hbs).mono ?_
        rintro e w1 ⟨rfl, hb1⟩
        go_wp2_with fail
        refine (HG.out _ (hA.later hb1)).mono ?_
        rintro e w2 ⟨v2, rfl, ho2, hb2⟩
        simp only [Stuff.eno, Option.getD_some] at ho2 ⊢
        obtain ⟨A2, c2, rfl, hc2, hm2, _⟩ := ho2.shape
        have hb02 := below_next hb1 hb2
        go_wp2_with fail
        refine (Crc.Check_any b A2 _ c2 x _ rfl hc2 hm2 (by omega) (ht.below hb02 hbs) (Nat.lt_of_lt_of_le hbs hb02.size) ho2.bytes).mono ?_
        unfold Crc.GivesC
        rw [HOK.out]
        rintro e w3 ⟨v3, rfl, ho3, hb3⟩
        obtain ⟨A3, c3, rfl, hc3, hm3, _⟩ := ho3.shape
        go_wp2
        go_ret2
        exact ge_none HY.out (below_next hb02 hb3)
      | false =>
        have HOK := Lib.hid hok
        clear hu hg hok
        go_enter Try.func33, Try.ntmps33
        go_wp2_with fail
        refine (usable_yes b _ ht hbs).mono ?_
        rintro e w1 ⟨rfl, hb1⟩
        go_wp2_with fail
        refine (HG.out _ (hA.later hb1)).mono ?_
        rintro e w2 ⟨v2, rfl, ho2, hb2⟩
        simp only [Stuff.eno, Option.getD_some] at ho2 ⊢
        obtain ⟨A2, c2, rfl, hc2, hm2, _⟩ := ho2.shape
        have hb02 := below_next hb1 hb2
        go_wp2_with fail
        refine (Crc.Check_any b A2 _ c2 x _ rfl hc2 hm2 (by omega) (ht.below hb02 hbs) (Nat.lt_of_lt_of_le hbs hb02.size) ho2.bytes).mono ?_
        unfold Crc.GivesC
        rw [HOK.out]
        rintro e w3 ⟨v3, rfl, ho3, hb3⟩
        obtain ⟨A3, c3, rfl, hc3, hm3, _⟩ := ho3.shape
        go_wp2
        go_ret2
        exact ge_none HY.out (below_next hb02 hb3)

set_option maxHeartbeats 2000000 in
theorem Open_any (b : Nat) (A : Option Addr) (n cap : Nat) (l : List UInt8) (W : World) (hn : n = l.length) (hc : l.length ≤ cap) (hm : cap ≤ maxLen) (hl : l.length ≤ 140737488355328) (ht : Crc.Tab W b) (hbs : b < W.heap.size) (hA : Bytes W W.heap.size A l) :
    Calls Try.prog 31 #[.pointer (some ⟨b, 0, none⟩), .slice A n cap] W (Stuff.GivesE W (openF l) 40) := by
  by_cases h2 : 2 ≤ l.length
  · obtain ⟨k, rfl⟩ : ∃ k, n = k + 2 := ⟨n - 2, by omega⟩
    obtain ⟨m, rfl⟩ : ∃ m, cap = m + 1 := ⟨cap - 1, by omega⟩
    obtain ⟨bb, off, rfl, hbb, hc0⟩ := hA.at_ (k := 0) (by omega)
    obtain ⟨b1, off1, hA1, _, hc1⟩ := hA.at_ (k := k + 1) (by omega)
    simp only [Option.some.injEq, Addr.mk.injEq] at hA1
    obtain ⟨rfl, rfl, _⟩ := hA1
    have hmid : Bytes W W.heap.size (some ⟨bb, off + 1, none⟩) ((l.take (k + 1)).drop 1) := (hA.take (k := k + 1) (by omega)).drop (k := 1) (by rw [List.length_take]; omega)
    have hml : ((l.take (k + 1)).drop 1).length = k := by rw [List.length_drop, List.length_take]; omega
    have hr0 := byteAt_range l 0
    have hr1 := byteAt_range l (k + 1)
    have hfl : flags l = ((byteAt l 0 == 126) && (byteAt l (k + 1) == 126)) := by
      unfold flags
      rw [show decide (2 ≤ l.length) = true by simpa using h2, show l.length - 1 = k + 1 by omega, Bool.true_and]
      congr 1 <;> (rw [Bool.eq_iff_iff, beq_iff_eq, beq_iff_eq]; exact Stuff.nth8_eq l _ 126)
    have hop := fun h => openF_yes (w := l) h
    rw [show l.length - 1 = k + 1 by omega] at hop
    have hno := fun h => openF_no (w := l) h
    have HFL := Lib.hid hfl
    have HOP := Lib.hid hop
    have HNO := Lib.hid hno
    have HN := Lib.hid hn
    have hkm : k + 2 ≤ m + 1 := by omega
    have hkl : k ≤ 140737488355328 := by omega
    unfold maxLen at hm
    rw [Nat.add_zero] at hc0
    clear hfl hop hno hn hc hl h2 hA
    generalize byteAt l 0 = x at hc0 hr0 HFL
    generalize byteAt l (k + 1) = y at hc1 hr1 HFL
    generalize (l.take (k + 1)).drop 1 = mid at hmid hml HOP
    cases hx : x == 126 with
    | false =>
      have hx' : (x != 126) = true := by rw [bne, hx]; rfl
      rw [hx, Bool.false_and] at HFL
      clear hx
      go_enter Try.func31, Try.ntmps31
      go_wp2_with fail
      refine (usable_yes b _ ht hbs).mono ?_
      rintro e w1 ⟨rfl, hb1⟩
      have hd0 : w1.cell? ⟨bb, off, none⟩ = some (.int .u8 x) := by rw [(Pkt.bcell hb1).1 _ _ hbb]; exact hc0
      have hd1 : w1.cell? ⟨bb, off + (k + 1), none⟩ = some (.int .u8 y) := by rw [(Pkt.bcell hb1).1 _ _ hbb]; exact hc1
      go_wp2
      go_ret2
      exact ge_none (HNO.out HFL.out) hb1
    | true =>
      have hx' : (x != 126) = false := by rw [bne, hx]; rfl
      rw [hx, Bool.true_and] at HFL
      clear hx
      cases hy : y == 126 with
      | false =>
        have hy' : (y != 126) = true := by rw [bne, hy]; rfl
        rw [hy] at HFL
        clear hy
        go_enter Try.func31, Try.ntmps31
        go_wp2_with fail
        refine (usable_yes b _ ht hbs).mono ?_
        rintro e w1 ⟨rfl, hb1⟩
        have hd0 : w1.cell? ⟨bb, off, none⟩ = some (.int .u8 x) := by rw [(Pkt.bcell hb1).1 _ _ hbb]; exact hc0
        have hd1 : w1.cell? ⟨bb, off + (k + 1), none⟩ = some (.int .u8 y) := by rw [(Pkt.bcell hb1).1 _ _ hbb]; exact hc1
        go_wp2
        go_ret2
        exact ge_none (HNO.out HFL.out) hb1
      | true =>
        have hy' : (y != 126) = false := by rw [bne, hy]; rfl
        rw [hy] at HFL
        clear hy
        go_enter Try.func31, Try.ntmps31
        go_wp2_with fail
        refine (usable_yes b _ ht hbs).mono ?_
        rintro e w1 ⟨rfl, hb1⟩
        have hd0 : w1.cell? ⟨bb, off, none⟩ = some (.int .u8 x) := by rw [(Pkt.bcell hb1).1 _ _ hbb]; exact hc0
        have hd1 : w1.cell? ⟨bb, off + (k + 1), none⟩ = some (.int .u8 y) := by rw [(Pkt.bcell hb1).1 _ _ hbb]; exact hc1
        go_wp2_with fail
        refine (Body_any b (some ⟨bb, off + 1, none⟩) k _ mid _ hml.symm (by omega) (ht.below hb1 hbs) (Nat.lt_of_lt_of_le hbs hb1.size) (hmid.later hb1)).mono ?_
        rintro e w2 ⟨v2, rfl, ho2, hb2⟩
        go_wp2
        go_ret2
        rw [HOP.out HFL.out]
        exact ⟨_, rfl, ho2.mono hb1.size, below_next hb1 hb2⟩
  · have hfl : flags l = false := by
      unfold flags
      rw [show decide (2 ≤ l.length) = false by simpa using h2]
      rfl
    have HNO := Lib.hid (openF_no hfl)
    subst hn
    have h1 : (l.length : Int) - 1 < 1 := by omega
    have h0 : (0 : Int) ≤ (l.length : Int) := by omega
    clear hfl
    go_enter Try.func31, Try.ntmps31
    go_wp2_with fail
    refine (usable_yes b _ ht hbs).mono ?_
    rintro e w1 ⟨rfl, hb1⟩
    go_wp2
    go_ret2
    exact ge_none HNO.out hb1
end Go.Proofs.Ytoicmhaegpnniaa.Frm
