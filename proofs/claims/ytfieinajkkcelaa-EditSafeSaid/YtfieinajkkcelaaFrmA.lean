
/- Layer 4 (frame): the functions' walks. -/
import Derived.Test.YtfieinajkkcelaaFrmM
import Derived.Test.YtfieinajkkcelaaCrcP
import Derived.Test.YtfieinajkkcelaaCrcN
import Derived.Test.YtfieinajkkcelaaStuffG
import Derived.Test.YtfieinajkkcelaaPktA
namespace Go.Proofs.Ytfieinajkkcelaa.Frm
open Go.RowKit Go.Proofs.Ytfieinajkkcelaa.Mem Go.Proofs.Ytfieinajkkcelaa.CrcM Go.Proofs.Ytfieinajkkcelaa.StuffL Go.Proofs.Ytfieinajkkcelaa.FrmM


theorem lit_text_at (E : TypeId) (w : World) (g : Nat) (hg : g = w.heap.size) (l : List UInt8) (cs : Array Value) (hcs : cs = (l.map bv).toArray) (hm : l.length ≤ maxLen) {n : Nat} (hn : n = l.length) : IsText (w.alloc (.cells cs E)) (.slice (some ⟨g, 0, none⟩) n n) l := by
  subst hg
  exact lit_text E w l cs hcs hm hn

theorem cput_nil : cput [] = [0, 0, 0, 0] := by decide +kernel
theorem cok_nil : cok [0, 0, 0, 0] = true := by decide +kernel

theorem usable_yes (b : Nat) (W : World) (ht : Crc.Tab W b) (hbs : b < W.heap.size) :
    Calls Try.prog 51 #[.pointer (some ⟨b, 0, none⟩)] W fun e W' => e = .returned (.bool true) ∧ Below W.heap.size W W' := by
  have HE := Lib.hid cput_nil
  have HK := Lib.hid cok_nil
  go_enter Try.func51, Try.ntmps51
  go_wp2_with fail
  refine (Crc.Put_any b none 0 0 [] _ rfl (Nat.le_refl _) (by simp [maxLen]) (by simp) ht hbs (Bytes.nil _ _ _)).mono ?_
  rw [HE.out]
  rintro e w1 ⟨v1, rfl, ho1, hb1⟩
  obtain ⟨A1, c1, rfl, hc1, hm1, _⟩ := ho1.shape
  go_wp2_with fail
  refine (Crc.Check_any b A1 4 c1 [0, 0, 0, 0] _ rfl hc1 hm1 (by simp) (ht.below hb1 hbs) (Nat.lt_of_lt_of_le hbs hb1.size) ho1.bytes).mono ?_
  unfold Crc.GivesC
  rw [HK.out]
  rintro e w2 ⟨v2, rfl, ho2, hb2⟩
  go_wp2
  go_ret
  exact ⟨rfl, below_next hb1 hb2⟩
theorem usable_nil (W : World) : Calls Try.prog 51 #[.pointer none] W fun e W' => e = .returned (.bool false) ∧ W = W' := by
  go_enter Try.func51, Try.ntmps51
  go_wp2_with fail
  refine (Crc.Put_nil _ _).mono ?_
  rintro e w' ⟨rfl, rfl⟩
  go_wp2_with fail
  refine (Crc.Check_nil _ _).mono ?_
  rintro e w' ⟨rfl, rfl⟩
  go_wp2
  go_ret
  exact ⟨rfl, rfl⟩

set_option maxHeartbeats 1000000 in
theorem Wrap_any (b : Nat) (A : Option Addr) (n cap : Nat) (l : List UInt8) (W : World) (hn : n = l.length) (hc : l.length ≤ cap) (hm : cap ≤ maxLen) (ht : Crc.Tab W b) (hbs : b < W.heap.size) (hA : Bytes W W.heap.size A l) :
    Calls Try.prog 35 #[.pointer (some ⟨b, 0, none⟩), .slice A n cap] W (Pkt.GivesN (we l) W (wv l)) := by
  subst hn
  by_cases h96 : l.length ≤ 96
  · have h1 : ¬ ((96 : Int) < (l.length : Int)) := by omega
    have e1 : we l = 0 := if_pos h96
    have e2 : wv l = wrapF l := if_pos h96
    rw [e1, e2]
    clear e1 e2
    have HP := Lib.hid (cput_length l)
    have HPL := Lib.hid (put_length (cput l))
    have HF := Lib.hid (show wrapF l = [[126], put (cput l), [126]].flatten by simp [wrapF])
    go_enter Try.func35, Try.ntmps35
    go_wp2_with fail
    refine (usable_yes b _ ht hbs).mono ?_
    rintro e w1 ⟨rfl, hb1⟩
    have hbx := below_alloc (Below.refl w1.heap.size w1) (.cells #[.int .u8 126] 5)
    have hfl := lit_text_at 5 w1 _ rfl [126] #[.int .u8 126] rfl (by simp [maxLen]) (n := 1) rfl
    have hbx1 := below_next hb1 hbx
    go_wp2_with fail
    refine (Crc.Put_any b A _ cap l _ rfl hc hm (by omega) (ht.below hbx1 hbs) (Nat.lt_of_lt_of_le hbs hbx1.size) (hA.later hbx1)).mono ?_
    rintro e w2 ⟨v2, rfl, ho2, hb2⟩
    have hfl2 := hfl.later hb2
    have hb02 := below_next hbx1 hb2
    obtain ⟨A2, c2, rfl, hc2, hm2, _⟩ := ho2.shape
    clear hfl hbx hbx1
    go_wp2_with fail
    refine (Stuff.Put_any A2 c2 (cput l) _ ho2.bytes (by rw [HP.out]; omega)).mono ?_
    rintro e w3 ⟨v3, rfl, ho3, hb3⟩
    have hfl3 := hfl2.later hb3
    have hb03 := below_next hb02 hb3
    have hT := texts3 22 w3 _ rfl hfl3 ho3.text hfl3
    obtain ⟨A3, c3, rfl, hc3, hm3, _⟩ := ho3.shape
    generalize put (cput l) = pl at ho3 HPL HF hT ⊢
    go_wp2_with fail
    refine (Oct.Join_any (some ⟨w3.heap.size, 0, none⟩) 3 [[126], pl, [126]] _ hT (by simp) (by have := HPL.out.2; have := HP.out; simp; omega)).mono ?_
    rintro e w4 ⟨v4, rfl, ho4, hb4⟩
    go_wp2
    go_ret2
    exact ⟨_, rfl, by rw [HF.out]; exact ho4.mono (by have := hb03.size; simp; omega), below_next hb03 (below_next (below_alloc (Below.refl _ _) _) hb4)⟩
  · have h1 : (96 : Int) < (l.length : Int) := by omega
    have e1 : we l = 2 := if_neg h96
    have e2 : wv l = [] := if_neg h96
    rw [e1, e2]
    clear e1 e2
    go_enter Try.func35, Try.ntmps35
    go_wp2_with fail
    refine (usable_yes b _ ht hbs).mono ?_
    rintro e w1 ⟨rfl, hb1⟩
    go_wp2
    go_ret2
    exact ⟨_, rfl, Own.nil _ _ _, hb1⟩
end Go.Proofs.Ytfieinajkkcelaa.Frm
