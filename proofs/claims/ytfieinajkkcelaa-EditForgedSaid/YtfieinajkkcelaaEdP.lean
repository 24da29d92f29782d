
/- Layer 6 (edit): EditDoes. -/
import Derived.Test.YtfieinajkkcelaaEdL
import Derived.Test.YtfieinajkkcelaaEdO
namespace Go.Proofs.Ytfieinajkkcelaa.Ed
open Go.RowKit Go.Proofs.Ytfieinajkkcelaa.Mem Go.Proofs.Ytfieinajkkcelaa.Oct Go.Proofs.Ytfieinajkkcelaa.Pkt Go.Proofs.Ytfieinajkkcelaa.Def

theorem large_any (A E : Option Addr) (n cap m ce : Nat) (W : World) (b : Bool) (hb : b = (decide (600 < (n : Int)) || decide (100 < (m : Int)))) :
    Calls Try.prog 25 #[.slice A n cap, .slice E m ce] W fun e W' => e = .returned (.bool b) ∧ W = W' := by
  subst hb
  by_cases h1 : 600 < (n : Int)
  · rw [decide_eq_true h1, Bool.true_or]
    go_enter Try.func25, Try.ntmps25
    go_wp2
    go_ret
    exact ⟨rfl, rfl⟩
  · rw [decide_eq_false h1, Bool.false_or]
    go_enter Try.func25, Try.ntmps25
    go_wp2
    go_ret
    exact ⟨rfl, rfl⟩
theorem large_yes (A E : Option Addr) (n cap m ce : Nat) (W : World) (h : ¬ (n ≤ 600 ∧ m ≤ 100)) :
    Calls Try.prog 25 #[.slice A n cap, .slice E m ce] W fun e W' => e = .returned (.bool true) ∧ W = W' := by
  refine large_any A E n cap m ce W true ?_
  symm
  rw [Bool.or_eq_true, decide_eq_true_eq, decide_eq_true_eq]
  omega
theorem large_no (A E : Option Addr) (n cap m ce : Nat) (W : World) (h : n ≤ 600 ∧ m ≤ 100) :
    Calls Try.prog 25 #[.slice A n cap, .slice E m ce] W fun e W' => e = .returned (.bool false) ∧ W = W' := by
  refine large_any A E n cap m ce W false ?_
  symm
  rw [Bool.or_eq_false_iff, decide_eq_false_iff_not, decide_eq_false_iff_not]
  omega

set_option maxHeartbeats 4000000 in
theorem EditDoes_any (A E : Option Addr) (n cap ce : Nat) (l : List UInt8) (es : List Edt) (W : World) (hn : n = l.length) (hA : Bytes W W.heap.size A l) (hE : Eds W W.heap.size E es) :
    Calls Try.prog 8 #[.slice A n cap, .slice E es.length ce] W (IsB W true) := by
  by_cases hlg : l.length ≤ 600 ∧ es.length ≤ 100
  · have HL := Lib.hid (fun w => large_no A E n cap es.length ce w (by rw [hn]; exact hlg))
    have HC := Lib.hid (show Calls Try.prog 22 #[.slice A n cap] W (Gives W l) by subst hn; exact Pkt.Copy_any A _ cap l W rfl hA (by omega))
    have HR := Lib.hid (fun w (hb : Below W.heap.size W w) => refDo_any A E n cap ce l es w hn (hA.later hb) ((hE.below hb (Nat.le_refl _)).mono hb.size) (by omega) (by omega))
    have HD := Lib.hid (fun (n' : Nat) (hn' : n' = l.length) w B cb (hB : Bytes w w.heap.size B l) (hb : Below W.heap.size W w) => Do_any B E n' cb ce l es w hn' hB ((hE.below hb (Nat.le_refl _)).mono hb.size) (by omega) (by omega))
    have HA := Lib.hid hA
    have HN := Lib.hid hn
    have hx := do1_len es l
    have HX := Lib.hid (show (do1 l es).length ≤ maxLen by unfold maxLen; omega)
    have HXL := Lib.hid (show l.length ≤ maxLen by unfold maxLen; omega)
    clear hlg hA hE hn hx
    generalize hxd : do1 l es = x at *
    clear hxd
    go_enter Try.func8, Try.ntmps8
    go_wp2_with fail
    refine (HL.out _).mono ?_
    rintro e w1 ⟨rfl, rfl⟩
    go_wp2_with fail
    refine HC.out.mono ?_
    rintro e w2 ⟨v2, rfl, ho2, hb2⟩
    obtain ⟨A2, n2, c2, rfl, hn2⟩ := own_shape ho2
    have HO2 := Lib.hid ho2
    have HB2 := Lib.hid hb2
    have HN2 := Lib.hid hn2
    clear ho2 hb2 hn2
    go_wp2_with fail
    refine (HD.out n2 HN2.out.symm w2 A2 c2 (by have := HO2.out.bytes; exact this) HB2.out).mono ?_
    rintro e w3 ⟨v3, rfl, ho3, hb3⟩
    obtain ⟨A3, n3, c3, rfl, hn3⟩ := own_shape ho3
    have HO3 := Lib.hid ho3
    have HB3 := Lib.hid (below_next HB2.out hb3)
    have HO23 := Lib.hid (HO2.out.later hb3)
    have HN3 := Lib.hid hn3
    clear ho3 hb3 hn3
    go_wp2_with fail
    refine (HR.out w3 HB3.out).mono ?_
    rintro e w4 ⟨v4, rfl, ho4, hb4⟩
    obtain ⟨A4, n4, c4, rfl, hn4⟩ := own_shape ho4
    have HB4 := Lib.hid (below_next HB3.out hb4)
    have HS := Lib.hid (same_at A3 A4 n3 n4 c3 c4 x x w4 HN3.out.symm hn4.symm (HO3.out.later hb4) ho4.bytes HX.out HX.out)
    have HO24 := Lib.hid (HO23.out.later hb4)
    clear ho4 hb4 hn4
    rw [beq_self_eq_true] at HS
    go_wp2_with fail
    refine HS.out.mono ?_
    rintro e w5 ⟨rfl, hb5⟩
    have HB5 := Lib.hid (below_next HB4.out hb5)
    have hS2 := same_at A2 A n2 n c2 cap l l w5 HN2.out.symm HN.out (HO24.out.later hb5) (HA.out.later HB5.out) HXL.out HXL.out
    rw [beq_self_eq_true] at hS2
    have HS2 := Lib.hid hS2
    clear hb5 hS2
    go_wp2_with fail
    refine HS2.out.mono ?_
    rintro e w6 ⟨rfl, hb6⟩
    have HB6 := Lib.hid (below_next HB5.out hb6)
    clear hb6
    go_wp2_with fail
    refine (live_any _).mono ?_
    rintro e w7 ⟨rfl, hb7⟩
    go_wp2
    go_ret
    exact ⟨rfl, below_next HB6.out hb7⟩
  · have HL := Lib.hid (fun w => large_yes A E n cap es.length ce w (by rw [hn]; exact hlg))
    clear hlg hA hE hn
    go_enter Try.func8, Try.ntmps8
    go_wp2_with fail
    refine (HL.out _).mono ?_
    rintro e w1 ⟨rfl, rfl⟩
    go_wp2_with fail
    refine (live_any _).mono ?_
    rintro e w2 ⟨rfl, hb2⟩
    go_wp2
    go_ret
    exact ⟨rfl, hb2⟩
end Go.Proofs.Ytfieinajkkcelaa.Ed
