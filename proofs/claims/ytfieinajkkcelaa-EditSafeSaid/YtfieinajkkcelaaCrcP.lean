
/- Layer 2 (crc): bytes with their sum, and bytes checked. -/
import Derived.Test.YtfieinajkkcelaaCrcS
import Derived.Test.YtfieinajkkcelaaOctD
namespace Go.Proofs.Ytfieinajkkcelaa.Crc
open Go.RowKit Go.Proofs.Ytfieinajkkcelaa.Mem Go.Proofs.Ytfieinajkkcelaa.Oct Go.Proofs.Ytfieinajkkcelaa.CrcM

theorem flat1 (l : List UInt8) : [l].flatten = l := by simp

set_option maxHeartbeats 1000000 in
theorem Put_any (b : Nat) (A : Option Addr) (n cap : Nat) (l : List UInt8) (W : World) (hn : n = l.length) (hc : l.length ≤ cap) (hm : cap ≤ maxLen) (hl : l.length ≤ 70368744177664) (ht : Tab W b) (hbs : b < W.heap.size) (hA : Bytes W W.heap.size A l) :
    Calls Try.prog 54 #[.pointer (some ⟨b, 0, none⟩), .slice A n cap] W (Gives W (cput l)) := by
  subst hn
  have hb0 := below_alloc (Below.refl W.heap.size W) (.cells #[.slice A l.length cap] 22)
  have ht0 := ht.below hb0 hbs
  have hA0 : IsText W (.slice A l.length cap) l := ⟨A, cap, rfl, hc, hm, hA⟩
  have hT := texts1 22 W _ rfl hA0
  have HL := Lib.hid hl
  clear hl
  go_enter Try.func54, Try.ntmps54
  go_wp2_with fail
  refine (is_yes b _ ht).mono ?_
  rintro e w' ⟨rfl, rfl⟩
  go_wp2_with fail
  refine (Sum_any b (some ⟨W.heap.size, 0, none⟩) 1 1 [l] _ rfl ht0 hT (by simp [maxLen])).mono ?_
  rw [flat1]
  rintro e w' ⟨rfl, rfl⟩
  have hs := sum_lt l
  have HC := Lib.hid (show cput l = [l, le4 (sum l)].flatten by simp [cput])
  generalize sum l = s at hs HC ⊢
  go_wp2_with fail
  refine (lay_any s hs _).mono ?_
  rintro e w1 ⟨v1, rfl, ho1, hb1⟩
  have hb2 := below_next hb0 hb1
  have hT2 := texts2 22 w1 _ rfl (hA0.later hb2) ho1.text
  obtain ⟨A1, c1, rfl, _, _, _⟩ := ho1.shape
  clear hb0 ht0 hT hb1
  go_wp2_with fail
  refine (Join_any (some ⟨w1.heap.size, 0, none⟩) 2 [l, le4 s] _ hT2 (by simp) (by have := HL.out; simp [le4]; omega)).mono ?_
  rintro e w2 ⟨v2, rfl, ho2, hb3⟩
  go_wp2
  go_ret
  exact ⟨_, rfl, by rw [HC.out]; exact ho2.mono (by have := hb2.size; simp; omega), below_next hb2 (below_next (below_alloc (Below.refl _ _) _) hb3)⟩

/-- what Check answers -/
def GivesC (w : World) (l : List UInt8) (e : Ending) (w' : World) : Prop := ∃ v, e = .returned (.tuple #[v, .bool (cok l)]) ∧ Own 5 w' w.heap.size v (cbody l) ∧ Below w.heap.size w w'
theorem gives_no {w w' : World} {l : List UInt8} (h : cok l = false) (hb : Below w.heap.size w w') : GivesC w l (.returned (.tuple #[.slice none 0 0, .bool false])) w' := by
  refine ⟨_, by rw [h], ?_, hb⟩
  unfold cbody
  rw [h]
  exact Own.nil _ _ _

set_option maxHeartbeats 2000000 in
theorem Check_any (b : Nat) (A : Option Addr) (n cap : Nat) (l : List UInt8) (W : World) (hn : n = l.length) (hc : l.length ≤ cap) (hm : cap ≤ maxLen) (hl : l.length ≤ 140737488355328) (ht : Tab W b) (hbs : b < W.heap.size) (hA : Bytes W W.heap.size A l) :
    Calls Try.prog 63 #[.pointer (some ⟨b, 0, none⟩), .slice A n cap] W (GivesC W l) := by
  subst hn
  have hcut := Cut_any A cap l ((l.length : Int) - 4) W hA hc hm hl
  by_cases h4 : 4 ≤ l.length
  · have hk := cut_yes (l := l) (k := l.length - 4) (by omega)
    rw [show ((l.length - 4 : Nat) : Int) = (l.length : Int) - 4 by omega] at hk
    obtain ⟨k1, k2, k3⟩ := hk
    rw [k1, k2, k3] at hcut
    have HCUT := Lib.hid hcut
    clear hcut k1 k2 k3
    have hok : cok l = (l.drop (l.length - 4) == le4 (sum (l.take (l.length - 4)))) := by
      unfold cok
      rw [show decide (4 ≤ l.length) = true by simpa using h4]
      rfl
    have hbd : cbody l = if cok l = true then l.take (l.length - 4) else [] := rfl
    have hlt : (l.take (l.length - 4)).length ≤ l.length := by rw [List.length_take]; omega
    generalize l.take (l.length - 4) = p at HCUT hok hbd hlt
    generalize l.drop (l.length - 4) = q at HCUT hok
    have hs := sum_lt p
    have HBD := Lib.hid hbd
    have HOK := Lib.hid hok
    have HPL := Lib.hid hlt
    clear hbd hok hlt
    go_enter Try.func63, Try.ntmps63
    go_wp2_with fail
    refine (is_yes b _ ht).mono ?_
    rintro e w' ⟨rfl, rfl⟩
    go_wp2_with fail
    refine HCUT.out.mono ?_
    rintro e w1 ⟨u, v, rfl, ho1, ho2, hb1⟩
    have ht1 := ht.below hb1 hbs
    obtain ⟨A1, c1, rfl, hc1, hm1, _⟩ := ho1.shape
    obtain ⟨A2, c2, rfl, hc2, hm2, _⟩ := ho2.shape
    have hb2 := below_alloc (Below.refl w1.heap.size w1) (.cells #[.slice A1 p.length c1] 22)
    have ht2 := ht1.below hb2 (Nat.lt_of_lt_of_le hbs hb1.size)
    have hT := texts1 22 w1 _ rfl ho1.text
    go_wp2_with fail
    refine (Sum_any b (some ⟨w1.heap.size, 0, none⟩) 1 1 [p] _ rfl ht2 hT (by simp [maxLen])).mono ?_
    rw [flat1]
    rintro e w' ⟨rfl, rfl⟩
    generalize sum p = s at hs HOK ⊢
    go_wp2_with fail
    refine (lay_any s hs _).mono ?_
    rintro e w3 ⟨v3, rfl, ho3, hb3⟩
    obtain ⟨A3, c3, rfl, _, _, _⟩ := ho3.shape
    have hb4 := below_next hb2 hb3
    have hsame := fun w (h : w = w3) => Oct.Same_any A2 A3 c2 c3 q (le4 s) _ _ w (h ▸ ho2.later hb4) (h ▸ ho3.bytes)
    rw [← HOK.out] at hsame
    have HSAME := Lib.hid hsame
    clear hsame
    go_wp2_with fail
    refine (HSAME.out _ rfl).mono ?_
    rintro e w' ⟨rfl, rfl⟩
    have HO := Lib.hid (ho1.below hb4)
    clear ho1 ho2 ht2 hT hb2 hb3 ho3
    cases hck : cok l with
    | true =>
      go_wp2
      go_ret2
      exact ⟨_, by rw [hck]; rfl, by rw [HBD.out, if_pos hck]; exact HO.out, below_next hb1 hb4⟩
    | false =>
      go_wp2
      go_ret2
      exact gives_no hck (below_next hb1 hb4)
  · have hk := cut_no (l := l) (n := (l.length : Int) - 4) (by omega)
    obtain ⟨k1, k2, k3⟩ := hk
    rw [k1, k2, k3] at hcut
    have HCUT := Lib.hid hcut
    have hok : cok l = false := by
      unfold cok
      rw [show decide (4 ≤ l.length) = false by simpa using h4]
      rfl
    have HOK := Lib.hid hok
    clear hcut k1 k2 k3 hok
    go_enter Try.func63, Try.ntmps63
    go_wp2_with fail
    refine (is_yes b _ ht).mono ?_
    rintro e w' ⟨rfl, rfl⟩
    go_wp2_with fail
    refine HCUT.out.mono ?_
    rintro e w1 ⟨u, v, rfl, ho1, ho2, hb1⟩
    go_wp2
    go_ret2
    exact gives_no HOK.out hb1
end Go.Proofs.Ytfieinajkkcelaa.Crc
