
/- Layer 4 (frame): the document's functions. -/
import Derived.Test.YtfieinajkkcelaaFrmB
import Derived.Test.YtfieinajkkcelaaCrcQ
import Derived.Test.YtfieinajkkcelaaStuffP
namespace Go.Proofs.Ytfieinajkkcelaa.Frm
open Go.RowKit Go.Proofs.Ytfieinajkkcelaa.Mem Go.Proofs.Ytfieinajkkcelaa.CrcM Go.Proofs.Ytfieinajkkcelaa.StuffL Go.Proofs.Ytfieinajkkcelaa.FrmM

set_option maxHeartbeats 1000000 in
theorem refWrap_any (A : Option Addr) (n cap : Nat) (l : List UInt8) (W : World) (hn : n = l.length) (hA : Bytes W W.heap.size A l) :
    Calls Try.prog 13 #[.slice A n cap] W (Pkt.GivesN (we l) W (wv l)) := by
  subst hn
  by_cases h96 : l.length ≤ 96
  · have h1 : ¬ ((96 : Int) < (l.length : Int)) := by omega
    have e1 : we l = 0 := if_pos h96
    have e2 : wv l = wrapF l := if_pos h96
    rw [e1, e2]
    clear e1 e2
    have HP := Lib.hid (cput_length l)
    have HPL := Lib.hid (put_length (cput l))
    have HF := Lib.hid (show wrapF l = [126] ++ put (cput l) ++ [126] by simp [wrapF])
    have hbx := below_alloc (Below.refl W.heap.size W) (.cells #[.int .u8 126] 5)
    have hol := own_lit 5 W (base := W.heap.size) (Nat.le_refl _) [126] #[.int .u8 126] rfl (by simp [maxLen])
    go_enter Try.func13, Try.ntmps13
    go_wp2_with fail
    refine (Crc.refCput_any A _ cap l _ rfl (hA.later hbx) (by omega)).mono ?_
    rintro e w2 ⟨v2, rfl, ho2, hb2⟩
    have hb02 := below_next hbx hb2
    have hol2 := hol.below hb2
    obtain ⟨A2, c2, rfl, hc2, hm2, _⟩ := ho2.shape
    go_wp2_with fail
    refine (Stuff.refPut_any A2 c2 (cput l) _ ho2.bytes (by rw [HP.out]; omega)).mono ?_
    rintro e w3 ⟨v3, rfl, ho3, hb3⟩
    have hb03 := below_next hb02 hb3
    have hol3 := hol2.below hb3
    obtain ⟨A3, c3, rfl, hc3, hm3, _⟩ := ho3.shape
    generalize put (cput l) = pl at ho3 HPL HF hc3 ⊢
    have hby3 := ho3.bytes
    clear hol hol2 ho2 ho3 hbx hb2 hb3 hb02
    go_wp2_with (at_builtin; refine wpList_app _ rfl _ _ 22 rfl 5 Try.underlying22 Oct.infoU8 W.heap.size _ [126] rfl hol3 w3.heap.size A3 _ c3 pl rfl rfl hby3 hb03.size (by have := HPL.out.2; have := HP.out; simp; omega) ?_)
    intro v4 w4 ho4 hg4
    have hb04 := hol3.grown hb03 hg4 (Nat.le_refl _) (Nat.le_refl _)
    clear hol3 hg4 hby3 hb03
    go_wp2_with (at_builtin; refine wpList_app_lit _ rfl _ _ 22 rfl 5 Try.underlying22 Oct.infoU8 W.heap.size _ _ rfl ho4 [126] 1 _ _ rfl rfl rfl hb04.size (by have := HPL.out.2; have := HP.out; simp; omega) ?_)
    intro v5 w5 ho5 hg5
    have hb05 := ho4.grown hb04 hg5 (Nat.le_refl _) (Nat.le_refl _)
    clear ho4 hg5 hb04
    go_wp2
    go_ret2
    exact ⟨_, rfl, by rw [HF.out]; exact ho5, hb05⟩
  · have h1 : (96 : Int) < (l.length : Int) := by omega
    have e1 : we l = 2 := if_neg h96
    have e2 : wv l = [] := if_neg h96
    rw [e1, e2]
    clear e1 e2
    go_enter Try.func13, Try.ntmps13
    go_wp2_with fail
    go_ret2
    exact ⟨_, rfl, Own.nil _ _ _, Below.refl _ _⟩
set_option maxHeartbeats 2000000 in
theorem refBody_any (A : Option Addr) (n cap : Nat) (l : List UInt8) (W : World) (hn : n = l.length) (hl : l.length ≤ 70368744177664) (hA : Bytes W W.heap.size A l) :
    Calls Try.prog 39 #[.slice A n cap] W (Stuff.GivesE W (bodyF l) 40) := by
  subst hn
  have hget := fun w h => Stuff.refGet_any A cap l w h (by omega)
  cases hu : unput l with
  | none =>
    rw [hu] at hget
    have HN := Lib.hid (bodyF_none hu)
    have HG := Lib.hid hget
    clear hu hget
    go_enter Try.func39, Try.ntmps39
    go_wp2_with fail
    refine (HG.out _ hA).mono ?_
    rintro e w2 ⟨v2, rfl, ho2, hb2⟩
    simp only [Stuff.eno]
    go_wp2
    go_ret2
    exact ge_none HN.out hb2
  | some x =>
    rw [hu] at hget
    have hxl := get_length hu
    have HG := Lib.hid hget
    clear hget
    cases hg : good x with
    | true =>
      have HY := Lib.hid (bodyF_yes hu hg)
      have hg2 : cok x = true ∧ (cbody x).length ≤ 96 := by simpa [good] using hg
      obtain ⟨hok, h96⟩ := hg2
      have HOK := Lib.hid hok
      have h96' : ¬ ((96 : Int) < ((cbody x).length : Int)) := by omega
      clear hu hg hok
      go_enter Try.func39, Try.ntmps39
      go_wp2_with fail
      refine (HG.out _ hA).mono ?_
      rintro e w2 ⟨v2, rfl, ho2, hb2⟩
      simp only [Stuff.eno, Option.getD_some] at ho2 ⊢
      obtain ⟨A2, c2, rfl, hc2, hm2, _⟩ := ho2.shape
      go_wp2_with fail
      refine (Crc.refCheck_any A2 _ c2 x _ rfl hc2 ho2.bytes (by omega)).mono ?_
      unfold Crc.GivesC
      rw [HOK.out]
      rintro e w3 ⟨v3, rfl, ho3, hb3⟩
      obtain ⟨A3, c3, rfl, hc3, hm3, _⟩ := ho3.shape
      go_wp2
      go_ret2
      exact ge_some HY.out (ho3.mono (by have := hb2.size; omega)) (below_next hb2 hb3)
    | false =>
      have HY := Lib.hid (bodyF_no hu hg)
      cases hok : cok x with
      | true =>
        have h96 : 96 < (cbody x).length := by
          simp only [good, hok, Bool.true_and, decide_eq_false_iff_not] at hg
          omega
        have HOK := Lib.hid hok
        have h96' : (96 : Int) < ((cbody x).length : Int) := by omega
        clear hu hg hok
        go_enter Try.func39, Try.ntmps39
        go_wp2_with fail
        refine (HG.out _ hA).mono ?_
        rintro e w2 ⟨v2, rfl, ho2, hb2⟩
        simp only [Stuff.eno, Option.getD_some] at ho2 ⊢
        obtain ⟨A2, c2, rfl, hc2, hm2, _⟩ := ho2.shape
        go_wp2_with fail
        refine (Crc.refCheck_any A2 _ c2 x _ rfl hc2 ho2.bytes (by omega)).mono ?_
        unfold Crc.GivesC
        rw [HOK.out]
        rintro e w3 ⟨v3, rfl, ho3, hb3⟩
        obtain ⟨A3, c3, rfl, hc3, hm3, _⟩ := ho3.shape
        go_wp2
        go_ret2
        exact ge_none HY.out (below_next hb2 hb3)
      | false =>
        have HOK := Lib.hid hok
        clear hu hg hok
        go_enter Try.func39, Try.ntmps39
        go_wp2_with fail
        refine (HG.out _ hA).mono ?_
        rintro e w2 ⟨v2, rfl, ho2, hb2⟩
        simp only [Stuff.eno, Option.getD_some] at ho2 ⊢
        obtain ⟨A2, c2, rfl, hc2, hm2, _⟩ := ho2.shape
        go_wp2_with fail
        refine (Crc.refCheck_any A2 _ c2 x _ rfl hc2 ho2.bytes (by omega)).mono ?_
        unfold Crc.GivesC
        rw [HOK.out]
        rintro e w3 ⟨v3, rfl, ho3, hb3⟩
        obtain ⟨A3, c3, rfl, hc3, hm3, _⟩ := ho3.shape
        go_wp2
        go_ret2
        exact ge_none HY.out (below_next hb2 hb3)

end Go.Proofs.Ytfieinajkkcelaa.Frm
