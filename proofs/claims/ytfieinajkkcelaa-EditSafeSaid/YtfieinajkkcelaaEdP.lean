
/- Layer 6 (edit): EditDoes. -/
import Derived.Test.YtfieinajkkcelaaEdL
import Derived.Test.YtfieinajkkcelaaEdE
import Derived.Deep.Slices
import Derived.Deep.Strs
namespace Go.Proofs.Ytfieinajkkcelaa.Ed
open Go.ChangeShapes Go.WideShapes Go.RowKit Go.Deep Go.Proofs.Ytfieinajkkcelaa.Mem

/-- three cells that read as an edit, at every index -/
theorem edits_of_trod {H : Type} {enc : TypeId × Value → H} {P : Program} {W : World} {t e : TypeId} {f0 f1 f2 : Field} {fuel : Nat} {v : Value} {y : DataW H × List MemPlace}
    (ht : P.underlying t = some (.slice e)) (he : P.underlying e = some (.struct #[f0, f1, f2])) (ce : P.cellsOf e = 3) (o0 : f0.offset = 0) (o1 : f1.offset = 1) (o2 : f2.offset = 2)
    (c0 : P.cellsOf f0.type = 1) (c1 : P.cellsOf f1.type = 1) (c2 : P.cellsOf f2.type = 1)
    (u0 : P.underlying f0.type = some (.int .i64)) (u1 : P.underlying f1.type = some (.int .i64)) (u2 : P.underlying f2.type = some (.int .u8))
    (h : DataW.trod enc P W 0 (fun _ => true) true fuel t [v] = some y) :
    ∃ A cap es, v = .slice A es.length cap ∧ Eds W W.heap.size A es ∧ es.length ≤ cap ∧ cap ≤ maxLen ∧
      ((y.1 = .nil ∧ es = []) ∨ ∃ els sp, y.1 = .slice els sp ∧ els.length = es.length) := by
  rcases open_slice ht h with ⟨hcs, hx⟩ | ⟨x, len, cap, m, n, D, Pl, hcs, _, hl, hm, hmm, hx, hall⟩
  · simp at hcs
    subst hcs
    exact ⟨none, 0, [], rfl, fun h => absurd h (by simp), Nat.zero_le _, Nat.zero_le _, .inl ⟨by rw [hx], rfl⟩⟩
  · simp at hcs
    subst hcs
    simp only [if_true] at hmm
    obtain rfl : cap = m := hmm.symm
    obtain ⟨T, hT⟩ := choose_lt (α := Edt) (p := fun i y => W.cell? (x.add (i * 3)) = some (.int .i64 y.1) ∧ W.cell? (x.add (i * 3 + 1)) = some (.int .i64 y.2.1) ∧ W.cell? (x.add (i * 3 + 2)) = some (.int .u8 (y.2.2.toNat : Int))) (fun i (hi : i < len) => by
      obtain ⟨cs', h1, h2⟩ := hall i (by omega)
      rw [ce] at h1
      obtain ⟨_, hlen, hcell⟩ := World.cells?_some h1
      obtain ⟨xs, k, hk, hxy, _, hxl, hf⟩ := DataW.trod_struct he h2
      match cs', hlen with
      | [v0, v1, v2], _ =>
        match xs, hxl with
        | [z0, z1, z2], _ =>
          have g0 := hf 0 f0 rfl
          have g1 := hf 1 f1 rfl
          have g2 := hf 2 f2 rfl
          simp [o0, o1, o2, c0, c1, c2] at g0 g1 g2
          obtain ⟨n0, e0, _⟩ := DataW.trod_int u0 g0
          obtain ⟨n1, e1, _⟩ := DataW.trod_int u1 g1
          obtain ⟨n2, e2, _, w2⟩ := DataW.trod_int u2 g2
          simp at e0 e1 e2
          subst e0 e1 e2
          have q0 := hcell 0 (by omega)
          have q1 := hcell 1 (by omega)
          have q2 := hcell 2 (by omega)
          rw [add_add] at q0 q1 q2
          have hb := bounds_u8 w2
          refine ⟨(n0, n1, UInt8.ofNat n2.toNat), by simpa using q0, by simpa using q1, ?_⟩
          have : ((UInt8.ofNat n2.toNat).toNat : Int) = n2 := by simp; omega
          simp only [this]
          simpa using q2)
    refine ⟨some x, cap, (List.range len).map T, by simp, ?_, by simpa using hl, hm, .inr ⟨_, _, by rw [hx], by simp⟩⟩
    intro hp
    have hp' : 0 < len := by simpa using hp
    obtain ⟨b, off, spot⟩ := x
    have hc0 := (hT 0 hp').1
    have hspot : spot = none := by simpa [Addr.add] using World.cell?_spot hc0
    subst hspot
    have hblk : b < W.heap.size := World.block_lt_of_cell? W _ (by rw [Addr.add_lit] at hc0; exact hc0)
    refine ⟨b, off, rfl, hblk, fun i hi => ?_⟩
    have hi' : i < len := by simpa using hi
    have hn : nthE ((List.range len).map T) i = T i := by
      unfold nthE
      simp [List.getD, hi']
    rw [hn]
    obtain ⟨h1, h2, h3⟩ := hT i hi'
    rw [Addr.add_lit] at h1 h2 h3
    exact ⟨h1, by rw [Nat.add_assoc]; exact h2, by rw [Nat.add_assoc]; exact h3⟩

theorem open_edits {H : Type} {enc : TypeId × Value → H} {P : Program} {W : World} {base : Nat} {t e : TypeId} {f0 f1 f2 : Field} {v : Value} {d : DataW H} {p : List MemPlace}
    (ht : P.underlying t = some (.slice e)) (he : P.underlying e = some (.struct #[f0, f1, f2])) (ce : P.cellsOf e = 3) (o0 : f0.offset = 0) (o1 : f1.offset = 1) (o2 : f2.offset = 2)
    (c0 : P.cellsOf f0.type = 1) (c1 : P.cellsOf f1.type = 1) (c2 : P.cellsOf f2.type = 1)
    (u0 : P.underlying f0.type = some (.int .i64)) (u1 : P.underlying f1.type = some (.int .i64)) (u2 : P.underlying f2.type = some (.int .u8))
    (hv : Value.okWide P W .any base t v) (h : DataW.Trod enc P W 0 (fun _ => true) true t v d p) :
    ∃ A cap es, v = .slice A es.length cap ∧ Eds W W.heap.size A es ∧ es.length ≤ cap ∧ cap ≤ maxLen ∧
      ((d = .nil ∧ es = []) ∨ ∃ els sp, d = .slice els sp ∧ els.length = es.length) := by
  obtain ⟨a, len, cap, rfl⟩ := okWide_slice ht hv
  obtain ⟨fuel, hf⟩ := h
  exact edits_of_trod (y := (d, p)) ht he ce o0 o1 o2 c0 c1 c2 u0 u1 u2 hf
#print axioms open_edits
end Go.Proofs.Ytfieinajkkcelaa.Ed

namespace Go.Proofs.Ytfieinajkkcelaa.Ed
open Go.RowKit Go.Proofs.Ytfieinajkkcelaa.Mem Go.Proofs.Ytfieinajkkcelaa.Oct Go.Proofs.Ytfieinajkkcelaa.Pkt Go.Proofs.Ytfieinajkkcelaa.Def

theorem large_any (A E : Option Addr) (n cap m ce : Nat) (W : World) (b : Bool) (hb : b = (decide (600 < (n : Int)) || decide (100 < (m : Int)))) :
    Calls Try.prog 25 #[.slice A n cap, .slice E m ce] W fun e W' => e = .returned (.bool b) ∧ W = W' := by
  subst hb
  by_cases h1 : 600 < (n : Int)
  · rw [decide_eq_true h1, Bool.true_or]
    go_enter Try.func25, Try.ntmps25
    go_wp2
    go_ret
    exact ⟨rfl, rfl⟩
  · rw [decide_eq_false h1, Bool.false_or]
    go_enter Try.func25, Try.ntmps25
    go_wp2
    go_ret
    exact ⟨rfl, rfl⟩
theorem large_yes (A E : Option Addr) (n cap m ce : Nat) (W : World) (h : ¬ (n ≤ 600 ∧ m ≤ 100)) :
    Calls Try.prog 25 #[.slice A n cap, .slice E m ce] W fun e W' => e = .returned (.bool true) ∧ W = W' := by
  refine large_any A E n cap m ce W true ?_
  symm
  rw [Bool.or_eq_true, decide_eq_true_eq, decide_eq_true_eq]
  omega
theorem large_no (A E : Option Addr) (n cap m ce : Nat) (W : World) (h : n ≤ 600 ∧ m ≤ 100) :
    Calls Try.prog 25 #[.slice A n cap, .slice E m ce] W fun e W' => e = .returned (.bool false) ∧ W = W' := by
  refine large_any A E n cap m ce W false ?_
  symm
  rw [Bool.or_eq_false_iff, decide_eq_false_iff_not, decide_eq_false_iff_not]
  omega

set_option maxHeartbeats 4000000 in
theorem EditDoes_any (A E : Option Addr) (n cap ce : Nat) (l : List UInt8) (es : List Edt) (W : World) (hn : n = l.length) (hA : Bytes W W.heap.size A l) (hE : Eds W W.heap.size E es) :
    Calls Try.prog 8 #[.slice A n cap, .slice E es.length ce] W (IsB W true) := by
  by_cases hlg : l.length ≤ 600 ∧ es.length ≤ 100
  · have HL := Lib.hid (fun w => large_no A E n cap es.length ce w (by rw [hn]; exact hlg))
    have HC := Lib.hid (show Calls Try.prog 22 #[.slice A n cap] W (Gives W l) by subst hn; exact Pkt.Copy_any A _ cap l W rfl hA (by omega))
    have HR := Lib.hid (fun w (hb : Below W.heap.size W w) => refDo_any A E n cap ce l es w hn (hA.later hb) ((hE.below hb (Nat.le_refl _)).mono hb.size) (by omega) (by omega))
    have HD := Lib.hid (fun (n' : Nat) (hn' : n' = l.length) w B cb (hB : Bytes w w.heap.size B l) (hb : Below W.heap.size W w) => Do_any B E n' cb ce l es w hn' hB ((hE.below hb (Nat.le_refl _)).mono hb.size) (by omega) (by omega))
    have HA := Lib.hid hA
    have HN := Lib.hid hn
    have hx := do1_len es l
    have HX := Lib.hid (show (do1 l es).length ≤ maxLen by unfold maxLen; omega)
    have HXL := Lib.hid (show l.length ≤ maxLen by unfold maxLen; omega)
    clear hlg hA hE hn hx
    generalize hxd : do1 l es = x at *
    clear hxd
    go_enter Try.func8, Try.ntmps8
    go_wp2_with fail
    refine (HL.out _).mono ?_
    rintro e w1 ⟨rfl, rfl⟩
    go_wp2_with fail
    refine HC.out.mono ?_
    rintro e w2 ⟨v2, rfl, ho2, hb2⟩
    obtain ⟨A2, n2, c2, rfl, hn2⟩ := own_shape ho2
    have HO2 := Lib.hid ho2
    have HB2 := Lib.hid hb2
    have HN2 := Lib.hid hn2
    clear ho2 hb2 hn2
    go_wp2_with fail
    refine (HD.out n2 HN2.out.symm w2 A2 c2 (by have := HO2.out.bytes; exact this) HB2.out).mono ?_
    rintro e w3 ⟨v3, rfl, ho3, hb3⟩
    obtain ⟨A3, n3, c3, rfl, hn3⟩ := own_shape ho3
    have HO3 := Lib.hid ho3
    have HB3 := Lib.hid (below_next HB2.out hb3)
    have HO23 := Lib.hid (HO2.out.later hb3)
    have HN3 := Lib.hid hn3
    clear ho3 hb3 hn3
    go_wp2_with fail
    refine (HR.out w3 HB3.out).mono ?_
    rintro e w4 ⟨v4, rfl, ho4, hb4⟩
    obtain ⟨A4, n4, c4, rfl, hn4⟩ := own_shape ho4
    have HB4 := Lib.hid (below_next HB3.out hb4)
    have HS := Lib.hid (same_at A3 A4 n3 n4 c3 c4 x x w4 HN3.out.symm hn4.symm (HO3.out.later hb4) ho4.bytes HX.out HX.out)
    have HO24 := Lib.hid (HO23.out.later hb4)
    clear ho4 hb4 hn4
    rw [beq_self_eq_true] at HS
    go_wp2_with fail
    refine HS.out.mono ?_
    rintro e w5 ⟨rfl, hb5⟩
    have HB5 := Lib.hid (below_next HB4.out hb5)
    have hS2 := same_at A2 A n2 n c2 cap l l w5 HN2.out.symm HN.out (HO24.out.later hb5) (HA.out.later HB5.out) HXL.out HXL.out
    rw [beq_self_eq_true] at hS2
    have HS2 := Lib.hid hS2
    clear hb5 hS2
    go_wp2_with fail
    refine HS2.out.mono ?_
    rintro e w6 ⟨rfl, hb6⟩
    have HB6 := Lib.hid (below_next HB5.out hb6)
    clear hb6
    go_wp2_with fail
    refine (live_any _).mono ?_
    rintro e w7 ⟨rfl, hb7⟩
    go_wp2
    go_ret
    exact ⟨rfl, below_next HB6.out hb7⟩
  · have HL := Lib.hid (fun w => large_yes A E n cap es.length ce w (by rw [hn]; exact hlg))
    clear hlg hA hE hn
    go_enter Try.func8, Try.ntmps8
    go_wp2_with fail
    refine (HL.out _).mono ?_
    rintro e w1 ⟨rfl, rfl⟩
    go_wp2_with fail
    refine (live_any _).mono ?_
    rintro e w2 ⟨rfl, hb2⟩
    go_wp2
    go_ret
    exact ⟨rfl, hb2⟩
end Go.Proofs.Ytfieinajkkcelaa.Ed
