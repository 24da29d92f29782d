
/- Layer 5 (deframe): the laws on what is found, and that a frame comes. -/
import Derived.Test.YtfieinajkkcelaaDefS
import Derived.Test.YtfieinajkkcelaaDefP
import Derived.Test.YtfieinajkkcelaaSameAll
import Derived.Deep.RegionHeld3
import Derived.Deep.DrawnRows
attribute [local go_sem ↓] Go.wp_at_zero Go.wp_at_succ
namespace Go.Proofs.Ytfieinajkkcelaa.Def
open Go.RowKit Go.Proofs.Ytfieinajkkcelaa.Mem Go.Proofs.Ytfieinajkkcelaa.Oct Go.Proofs.Ytfieinajkkcelaa.Pkt Go.Proofs.Ytfieinajkkcelaa.DefM Go.Proofs.Ytfieinajkkcelaa.FrmM

set_option maxHeartbeats 8000000 in
/-- DeframeComes -/
theorem DeframeComes_any (A B : Option Addr) (ca cb : Nat) (l b : List UInt8) (W : World) (hA : Bytes W W.heap.size A l) (hca : l.length ≤ ca) (hma : ca ≤ maxLen) (hB : Bytes W W.heap.size B b) (hcb : b.length ≤ cb) (hmb : cb ≤ maxLen) :
    Calls Try.prog 5 #[.slice A l.length ca, .slice B b.length cb] W fun e W' => e = .returned (.bool true) ∧ Below W.heap.size W W' := by
  have hW := fun w h => Frm.refWrap_any B b.length cb b w rfl h
  have hvl := wv_le b
  have hll : l.length ≤ maxLen := Nat.le_trans hca hma
  have HBL := Lib.hid (Nat.le_trans hcb hmb)
  by_cases hgo : l.length ≤ 2000 ∧ b.length ≤ 96
  · obtain ⟨h2000, h96⟩ := hgo
    have e1 : we b = 0 := if_pos h96
    have e2 : wv b = wrapF b := if_pos h96
    obtain ⟨X, hX⟩ := comes l b h96
    rw [e2] at hvl
    rw [e1, e2] at hW
    generalize wrapF b = V at hW hvl hX
    have hxl : (run St0 (l ++ V)).2.length ≤ (l ++ V).length := run_len _ _
    rw [List.length_append] at hxl
    have HW := Lib.hid hW
    have HXL := Lib.hid hxl
    have HX := Lib.hid hX
    have HV := Lib.hid hvl
    have hlI : ¬ ((2000 : Int) < (l.length : Int)) := by omega
    have HL := Lib.hid h2000
    clear hW hxl hX hvl h2000 h96 e1 e2 hca hma hcb hmb hll
    go_enter Try.func5, Try.ntmps5
    go_wp2_with fail
    refine (HW.out _ hB).mono ?_
    rintro e w1 ⟨v1, rfl, ho1, hb1⟩
    obtain ⟨A1, c1, rfl, _, _, _⟩ := ho1.shape
    have HO1 := Lib.hid ho1
    have HB1 := Lib.hid hb1
    clear ho1 hb1
    go_wp2_with fail
    refine (Crc.New_any _).mono ?_
    rintro e w2 ⟨tb, rfl, htab, htb0, htb1, hb2⟩
    have HTAB := Lib.hid htab
    have HB2 := Lib.hid (below_next HB1.out hb2)
    have HO2 := Lib.hid (HO1.out.below hb2)
    clear htab hb2
    go_wp2_with fail
    refine (Pkt.Copy_any A l.length ca l _ rfl (hA.later HB2.out) (by have := HL.out; omega)).mono ?_
    rintro e w3 ⟨v3, rfl, ho3, hb3⟩
    have HB3 := Lib.hid (below_next HB2.out hb3)
    have HO3 := Lib.hid ho3
    have HV3 := Lib.hid (HO2.out.later hb3)
    have HT3 := Lib.hid (HTAB.out.below hb3 htb1)
    have htb3 : tb < w3.heap.size := Nat.lt_of_lt_of_le htb1 hb3.size
    have hs23 := hb3.size
    obtain ⟨A3, n3, c3, rfl, hn3⟩ := own_shape ho3
    clear ho3 hb3 htb0
    go_wp2_with (at_builtin; refine wpList_app _ rfl _ _ 22 rfl 5 Try.underlying22 infoU8 w2.heap.size _ l rfl HO3.out w3.heap.size A1 _ c1 V rfl rfl HV3.out hs23 (by have := HL.out; have := HV.out; omega) ?_)
    intro v4 w4 ho4 hg4
    have hb4 := HO3.out.grown (HB3.out) hg4 (by have := HB2.out.size; omega) (Nat.le_refl _)
    have hk4 := chg_grown hg4
    have ht4 := tab_chg HT3.out hk4 htb3 (fun h => by have := (HO3.out.lt tb h.symm).1; omega)
    have htb4 : tb < w4.heap.size := Nat.lt_of_lt_of_le htb3 hk4.size
    have HB4 := Lib.hid hb4
    have HALL := Lib.hid (fun n' c' A' (hn' : n' = (l ++ V).length) hA' => All_any tb A' n' c' (l ++ V) w4 hn' ht4 htb4 hA' (by simp; have := HL.out; have := HV.out; omega))
    obtain ⟨A4, n4, c4, rfl, hn4⟩ := own_shape ho4
    have HO4 := Lib.hid ho4
    clear hg4 hk4 ho4 hb4 ht4
    go_wp2_with fail
    refine (HALL.out n4 c4 A4 hn4.symm HO4.out.bytes).mono ?_
    rintro e w5 ⟨A5, c5, rfl, h1, h2, ht5, hb5⟩
    have hB5 := below_next HB4.out hb5
    have HB5 := Lib.hid hB5
    rw [HX.out] at ht5 h1
    have hXl : (X ++ [b]).length = X.length + 1 := by simp
    have hxm : (run St0 (l ++ V)).2.length = X.length + 1 := by rw [HX.out]; exact hXl
    obtain ⟨g, off, Ai, ci, rfl, _, hcell, hx1, hx2, hx3⟩ := ht5.at_ (k := X.length) (by omega)
    have hnt : nthT (X ++ [b]) X.length = b := by unfold nthT; simp [List.getD]
    rw [hnt] at hcell hx1 hx3
    have hXI : (X.length : Int) ≤ 3000 := by have := HXL.out; have := HL.out; have := HV.out; omega
    have HX3 := Lib.hid hx3
    rw [hxm]
    clear ht5 hb5 hB5 hXl hxm hnt h1 h2 hx1 hx2 hx3
    go_wp2_with fail
    refine (refSame_any Ai B ci cb b b _ _ _ HX3.out (hB.later HB5.out) HBL.out HBL.out).mono ?_
    rintro e w6 ⟨rfl, hd⟩
    have HB6 := Lib.hid (below_next HB5.out (hd.below _))
    have hbb : (b == b) = true := beq_self_eq_true b
    clear hd
    go_wp2_with fail
    refine (live_any _).mono ?_
    rintro e w7 ⟨rfl, hb7⟩
    go_wp2
    go_ret
    exact ⟨rfl, below_next HB6.out hb7⟩
  · have hx : 2000 < l.length ∨ (l.length ≤ 2000 ∧ 96 < b.length) := by omega
    have HW := Lib.hid hW
    clear hW hgo hvl hca hma hcb hmb
    unfold maxLen at hll
    rcases hx with hx | ⟨hx, hy⟩
    · have hlI : (2000 : Int) < (l.length : Int) := by omega
      generalize we b = we' at HW
      clear hx
      go_enter Try.func5, Try.ntmps5
      go_wp2_with fail
      refine (HW.out _ hB).mono ?_
      rintro e w1 ⟨v1, rfl, ho1, hb1⟩
      obtain ⟨A1, c1, rfl, _, _, _⟩ := ho1.shape
      have HB1 := Lib.hid hb1
      clear ho1 hb1
      go_wp2_with fail
      refine (live_any _).mono ?_
      rintro e w7 ⟨rfl, hb7⟩
      go_wp2
      go_ret
      exact ⟨rfl, below_next HB1.out hb7⟩
    · have hlI : ¬ (2000 : Int) < (l.length : Int) := by omega
      have e1 : we b = 2 := if_neg (by omega)
      rw [e1] at HW
      clear hx hy e1
      go_enter Try.func5, Try.ntmps5
      go_wp2_with fail
      refine (HW.out _ hB).mono ?_
      rintro e w1 ⟨v1, rfl, ho1, hb1⟩
      obtain ⟨A1, c1, rfl, _, _, _⟩ := ho1.shape
      have HB1 := Lib.hid hb1
      clear ho1 hb1
      go_wp2_with fail
      refine (live_any _).mono ?_
      rintro e w7 ⟨rfl, hb7⟩
      go_wp2
      go_ret
      exact ⟨rfl, below_next HB1.out hb7⟩
end Go.Proofs.Ytfieinajkkcelaa.Def
