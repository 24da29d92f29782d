
/- Layer 4 (frame): what Body and Open answer. -/
import Derived.Test.YtfieinajkkcelaaFrmA
namespace Go.Proofs.Ytfieinajkkcelaa.Frm
open Go.RowKit Go.Proofs.Ytfieinajkkcelaa.Mem Go.Proofs.Ytfieinajkkcelaa.CrcM Go.Proofs.Ytfieinajkkcelaa.StuffL Go.Proofs.Ytfieinajkkcelaa.FrmM

theorem ge_none {w w' : World} {r : Option (List UInt8)} {no : Int} (h : r = none) (hb : Below w.heap.size w w') : Stuff.GivesE w r no (.returned (.tuple #[.slice none 0 0, .int .i64 no])) w' := by
  subst h
  exact ⟨_, rfl, Own.nil _ _ _, hb⟩
theorem ge_some {w w' : World} {r : Option (List UInt8)} {no : Int} {l : List UInt8} {v : Value} (h : r = some l) (ho : Own 5 w' w.heap.size v l) (hb : Below w.heap.size w w') : Stuff.GivesE w r no (.returned (.tuple #[v, .int .i64 0])) w' := by
  subst h
  exact ⟨_, rfl, ho, hb⟩

set_option maxHeartbeats 2000000 in
theorem Body_any (b : Nat) (A : Option Addr) (n cap : Nat) (l : List UInt8) (W : World) (hn : n = l.length) (hl : l.length ≤ 140737488355328) (ht : Crc.Tab W b) (hbs : b < W.heap.size) (hA : Bytes W W.heap.size A l) :
    Calls Try.prog 55 #[.pointer (some ⟨b, 0, none⟩), .slice A n cap] W (Stuff.GivesE W (bodyF l) 40) := by
  subst hn
  have hget := fun w h => Stuff.Get_any A cap l w h (by omega)
  cases hu : unput l with
  | none =>
    rw [hu] at hget
    have HN := Lib.hid (bodyF_none hu)
    have HG := Lib.hid hget
    clear hu hget
    go_enter Try.func55, Try.ntmps55
    go_wp2_with fail
    refine (usable_yes b _ ht hbs).mono ?_
    rintro e w1 ⟨rfl, hb1⟩
    go_wp2_with fail
    refine (HG.out _ (hA.later hb1)).mono ?_
    rintro e w2 ⟨v2, rfl, ho2, hb2⟩
    simp only [Stuff.eno]
    go_wp2
    go_ret2
    exact ge_none HN.out (below_next hb1 hb2)
  | some x =>
    rw [hu] at hget
    have hxl := get_length hu
    have HG := Lib.hid hget
    clear hget
    cases hg : good x with
    | true =>
      have HY := Lib.hid (bodyF_yes hu hg)
      have hg2 : cok x = true ∧ (cbody x).length ≤ 96 := by simpa [good] using hg
      obtain ⟨hok, h96⟩ := hg2
      have HOK := Lib.hid hok
      have h96' : ¬ ((96 : Int) < ((cbody x).length : Int)) := by omega
      clear hu hg hok
      go_enter Try.func55, Try.ntmps55
      go_wp2_with fail
      refine (usable_yes b _ ht hbs).mono ?_
      rintro e w1 ⟨rfl, hb1⟩
      go_wp2_with fail
      refine (HG.out _ (hA.later hb1)).mono ?_
      rintro e w2 ⟨v2, rfl, ho2, hb2⟩
      simp only [Stuff.eno, Option.getD_some] at ho2 ⊢
      obtain ⟨A2, c2, rfl, hc2, hm2, _⟩ := ho2.shape
      have hb02 := below_next hb1 hb2
      go_wp2_with fail
      refine (Crc.Check_any b A2 _ c2 x _ rfl hc2 hm2 (by omega) (ht.below hb02 hbs) (Nat.lt_of_lt_of_le hbs hb02.size) ho2.bytes).mono ?_
      unfold Crc.GivesC
      rw [HOK.out]
      rintro e w3 ⟨v3, rfl, ho3, hb3⟩
      obtain ⟨A3, c3, rfl, hc3, hm3, _⟩ := ho3.shape
      go_wp2
      go_ret2
      exact ge_some HY.out (ho3.mono (by have := hb02.size; omega)) (below_next hb02 hb3)
    | false =>
      have HY := Lib.hid (bodyF_no hu hg)
      cases hok : cok x with
      | true =>
        have h96 : 96 < (cbody x).length := by
          simp only [good, hok, Bool.true_and, decide_eq_false_iff_not] at hg
          omega
        have HOK := Lib.hid hok
        have h96' : (96 : Int) < ((cbody x).length : Int) := by omega
        clear hu hg hok
        go_enter Try.func55, Try.ntmps55
        go_wp2_with fail
        refine (usable_yes b _ ht hbs).mono ?_
        rintro e w1 ⟨rfl, hb1⟩
        go_wp2_with fail
        refine (HG.out _ (hA.later hb1)).mono ?_
        rintro e w2 ⟨v2, rfl, ho2, hb2⟩
        simp only [Stuff.eno, Option.getD_some] at ho2 ⊢
        obtain ⟨A2, c2, rfl, hc2, hm2, _⟩ := ho2.shape
        have hb02 := below_next hb1 hb2
        go_wp2_with fail
        refine (Crc.Check_any b A2 _ c2 x _ rfl hc2 hm2 (by omega) (ht.below hb02 hbs) (Nat.lt_of_lt_of_le hbs hb02.size) ho2.bytes).mono ?_
        unfold Crc.GivesC
        rw [HOK.out]
        rintro e w3 ⟨v3, rfl, ho3, hb3⟩
        obtain ⟨A3, c3, rfl, hc3, hm3, _⟩ := ho3.shape
        go_wp2
        go_ret2
        exact ge_none HY.out (below_next hb02 hb3)
      | false =>
        have HOK := Lib.hid hok
        clear hu hg hok
        go_enter Try.func55, Try.ntmps55
        go_wp2_with fail
        refine (usable_yes b _ ht hbs).mono ?_
        rintro e w1 ⟨rfl, hb1⟩
        go_wp2_with fail
        refine (HG.out _ (hA.later hb1)).mono ?_
        rintro e w2 ⟨v2, rfl, ho2, hb2⟩
        simp only [Stuff.eno, Option.getD_some] at ho2 ⊢
        obtain ⟨A2, c2, rfl, hc2, hm2, _⟩ := ho2.shape
        have hb02 := below_next hb1 hb2
        go_wp2_with fail
        refine (Crc.Check_any b A2 _ c2 x _ rfl hc2 hm2 (by omega) (ht.below hb02 hbs) (Nat.lt_of_lt_of_le hbs hb02.size) ho2.bytes).mono ?_
        unfold Crc.GivesC
        rw [HOK.out]
        rintro e w3 ⟨v3, rfl, ho3, hb3⟩
        obtain ⟨A3, c3, rfl, hc3, hm3, _⟩ := ho3.shape
        go_wp2
        go_ret2
        exact ge_none HY.out (below_next hb02 hb3)

end Go.Proofs.Ytfieinajkkcelaa.Frm
