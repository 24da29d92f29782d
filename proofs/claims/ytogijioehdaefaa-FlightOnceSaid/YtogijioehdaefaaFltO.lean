
/- An argument of type []kedgelaw16.Act, opened. -/
import Derived.Test.YtogijioehdaefaaEdO
import Derived.Test.YtogijioehdaefaaTexts
import Derived.Test.YtogijioehdaefaaEdE
namespace Go.Proofs.Ytogijioehdaefaa.Flt
open Go.RowKit Go.Proofs.Ytogijioehdaefaa.Mem Go.Proofs.Ytogijioehdaefaa.Oct Go.Proofs.Ytogijioehdaefaa.Pkt Go.Proofs.Ytogijioehdaefaa.Def Go.Proofs.Ytogijioehdaefaa.Ed

/-- what is done: its kind, the direction, the place, bytes, edits -/
structure Act1 where
  kind : Int
  dir : Int
  at_ : Int
  wire : List UInt8
  edits : List Edt
def Act0 : Act1 := ⟨0, 0, 0, [], []⟩
def nthA (l : List Act1) (i : Nat) : Act1 := l.getD i Act0
/-- one act's five cells -/
def ActAt (w : World) (lim b o : Nat) (x : Act1) : Prop :=
  ∃ Aw cw Ae ce, w.cell? ⟨b, o, none⟩ = some (.int .i64 x.kind) ∧ w.cell? ⟨b, o + 1, none⟩ = some (.int .i64 x.dir) ∧ w.cell? ⟨b, o + 2, none⟩ = some (.int .i64 x.at_) ∧
    w.cell? ⟨b, o + 3, none⟩ = some (.slice Aw x.wire.length cw) ∧ w.cell? ⟨b, o + 4, none⟩ = some (.slice Ae x.edits.length ce) ∧ Bytes w lim Aw x.wire ∧ Eds w lim Ae x.edits
def Acts (w : World) (lim : Nat) (A : Option Addr) (l : List Act1) : Prop :=
  0 < l.length → ∃ b off, A = some ⟨b, off, none⟩ ∧ b < lim ∧ ∀ i, i < l.length → ActAt w lim b (off + i * 5) (nthA l i)
theorem ActAt.below {w w' : World} {C lim b o : Nat} {x : Act1} (h : ActAt w lim b o x) (hb : Below C w w') (hC : lim ≤ C) (hl : b < lim) : ActAt w' lim b o x := by
  obtain ⟨Aw, cw, Ae, ce, h0, h1, h2, h3, h4, h5, h6⟩ := h
  have hlt : b < C := Nat.lt_of_lt_of_le hl hC
  exact ⟨Aw, cw, Ae, ce, ((bcell hb).1 _ _ hlt).trans h0, ((bcell hb).1 _ _ hlt).trans h1, ((bcell hb).1 _ _ hlt).trans h2, ((bcell hb).1 _ _ hlt).trans h3, ((bcell hb).1 _ _ hlt).trans h4, h5.below hb hC, h6.below hb hC⟩
theorem Acts.below {w w' : World} {C lim : Nat} {A : Option Addr} {l : List Act1} (h : Acts w lim A l) (hb : Below C w w') (hC : lim ≤ C) : Acts w' lim A l := fun hp => by
  obtain ⟨b, off, h1, h2, h3⟩ := h hp
  exact ⟨b, off, h1, h2, fun i hi => (h3 i hi).below hb hC h2⟩
def shortA (x : Act1) : Bool := decide (x.wire.length ≤ 600) && decide (x.edits.length ≤ 20)
/-- acts that are few, and short -/
def few (l : List Act1) : Bool := (l.take 100).all shortA && decide (l.length ≤ 60)
theorem few_yes {l : List Act1} (h : few l = true) : l.length ≤ 60 ∧ ∀ i, i < l.length → (nthA l i).wire.length ≤ 600 ∧ (nthA l i).edits.length ≤ 20 := by
  unfold few at h
  rw [Bool.and_eq_true, decide_eq_true_eq, List.all_eq_true] at h
  refine ⟨h.2, fun i hi => ?_⟩
  have := h.1 (nthA l i) (by
    rw [List.take_of_length_le (by omega)]
    unfold nthA
    rw [List.getD_eq_getElem?_getD, List.getElem?_eq_getElem hi]
    exact List.getElem_mem hi)
  unfold shortA at this
  rw [Bool.and_eq_true, decide_eq_true_eq, decide_eq_true_eq] at this
  exact this
theorem few_no {l : List Act1} {k : Nat} (hk : k < l.length) (h100 : k < 100) (h : shortA (nthA l k) = false) : few l = false := by
  unfold few
  rw [Bool.and_eq_false_iff]
  left
  rw [List.all_eq_false]
  refine ⟨nthA l k, ?_, by rw [h]; decide⟩
  unfold nthA
  rw [List.getD_eq_getElem?_getD, List.getElem?_eq_getElem hk]
  exact List.mem_take_iff_getElem.2 ⟨k, by omega, rfl⟩
theorem few_end {l : List Act1} {k : Nat} (hs : ∀ j, j < k → shortA (nthA l j) = true) (hk : k = min l.length 100) : few l = decide (l.length ≤ 60) := by
  unfold few
  have : (l.take 100).all shortA = true := by
    rw [List.all_eq_true]
    intro x hx
    obtain ⟨j, hj, rfl⟩ := List.mem_take_iff_getElem.1 hx
    have := hs j (by omega)
    unfold nthA at this
    rwa [List.getD_eq_getElem?_getD, List.getElem?_eq_getElem (by omega)] at this
  rw [this, Bool.true_and]

set_option maxHeartbeats 4000000 in
set_option maxRecDepth 100000 in
theorem Few_any (n ca : Nat) (A : Option Addr) (l : List Act1) (W : World) (hn : n = l.length) (hA : Acts W W.heap.size A l) (hmx : n ≤ 9223372036854775807) :
    Calls Try.prog 6 #[.slice A n ca] W fun e w' => e = .returned (.bool (few l)) ∧ W = w' := by
  have HN := Lib.hid hn
  have HA := Lib.hid hA
  clear hn hA
  go_enter Try.func6, Try.ntmps6
  go_wp2_with fail
  go_loopw [3] (fun i wr => ∃ k : Nat, k ≤ min n 100 ∧ i = .int .i64 k ∧ Hid (∀ j, j < k → shortA (nthA l j) = true) ∧ W = wr) (fun i _ => 100 - (intOf i).toNat)
  case atStart => exact ⟨0, Nat.zero_le _, rfl, Lib.hid (fun j hj => absurd hj (Nat.not_lt_zero _)), rfl⟩
  case round =>
    obtain ⟨k, hk, rfl, HS, rfl⟩ := hrel
    by_cases hlt : k < n ∧ k < 100
    · obtain ⟨h1, h2⟩ := hlt
      obtain ⟨b, off, rfl, _, hc⟩ := HA.out (by rw [← HN.out]; omega)
      obtain ⟨Aw, cw, Ae, ce, _, _, _, hc3, hc4, _, _⟩ := hc k (by rw [← HN.out]; exact h1)
      have h1I : (k : Int) < (n : Int) := by omega
      have h2I : (k : Int) < 100 := by omega
      have HNO := Lib.hid (show shortA (nthA l k) = false → few l = false from few_no (by rw [← HN.out]; exact h1) h2)
      have HYES := Lib.hid (show shortA (nthA l k) = true → ∀ j, j < k + 1 → shortA (nthA l j) = true from fun h j hj => by
        rcases Nat.lt_succ_iff_lt_or_eq.1 hj with h3 | h3
        · exact HS.out j h3
        · rw [h3]; exact h)
      clear hc
      generalize nthA l k = x at *
      by_cases hw : 600 < x.wire.length
      · have hwI : (600 : Int) < (x.wire.length : Int) := by omega
        have HF := Lib.hid (HNO.out (by unfold shortA; rw [decide_eq_false (by omega), Bool.false_and]))
        clear HNO HYES
        go_wp2_with fail
        go_ret
        exact ⟨ret_bool HF.out.symm, rfl⟩
      by_cases he : 20 < x.edits.length
      · have hwI : ¬ (600 : Int) < (x.wire.length : Int) := by omega
        have heI : (20 : Int) < (x.edits.length : Int) := by omega
        have HF := Lib.hid (HNO.out (by unfold shortA; rw [decide_eq_false (p := x.edits.length ≤ 20) (by omega), Bool.and_false]))
        clear HNO HYES
        go_wp2_with fail
        go_ret
        exact ⟨ret_bool HF.out.symm, rfl⟩
      · have hwI : ¬ (600 : Int) < (x.wire.length : Int) := by omega
        have heI : ¬ (20 : Int) < (x.edits.length : Int) := by omega
        have HY := Lib.hid (HYES.out (by unfold shortA; rw [decide_eq_true (by omega), decide_eq_true (by omega)]; rfl))
        clear HNO HYES
        go_wp2_with fail
        go_roundw
        case rel => exact ⟨k + 1, by omega, by go_num, HY, trivial⟩
        case measure => simp [intOf]; omega
    · have hk2 : k = min n 100 := by omega
      have HE := Lib.hid (show decide (n ≤ 60) = few l by rw [HN.out]; exact (few_end HS.out (by rw [← HN.out]; exact hk2)).symm)
      have hc : ¬ ((k : Int) < (n : Int)) ∨ ((k : Int) < (n : Int) ∧ ¬ ((k : Int) < 100)) := by omega
      by_cases h60 : n ≤ 60
      · have h60I : (n : Int) ≤ 60 := by omega
        rw [decide_eq_true h60] at HE
        have hc1 : ¬ ((k : Int) < (n : Int)) := by omega
        go_wp2_with fail
        go_ret
        exact ⟨ret_bool HE.out, rfl⟩
      · have h60I : ¬ (n : Int) ≤ 60 := by omega
        rw [decide_eq_false h60] at HE
        rcases hc with hc | ⟨hc, hc2⟩
        all_goals (
          go_wp2_with fail
          go_ret
          exact ⟨ret_bool HE.out, rfl⟩)
end Go.Proofs.Ytogijioehdaefaa.Flt

namespace Go.Proofs.Ytogijioehdaefaa.Flt
open Go.ChangeShapes Go.WideShapes Go.RowKit Go.Deep Go.Proofs.Ytogijioehdaefaa.Mem Go.Proofs.Ytogijioehdaefaa.Ed

instance : Inhabited Act1 := ⟨Act0⟩
theorem open_acts {H : Type} {enc : TypeId × Value → H} {P : Program} {W : World} {base : Nat} {t e eb ee : TypeId} {f0 f1 f2 f3 f4 g0 g1 g2 : Field} {v : Value} {d : DataW H} {p : List MemPlace}
    (ht : P.underlying t = some (.slice e)) (he : P.underlying e = some (.struct #[f0, f1, f2, f3, f4])) (ce : P.cellsOf e = 5)
    (o0 : f0.offset = 0) (o1 : f1.offset = 1) (o2 : f2.offset = 2) (o3 : f3.offset = 3) (o4 : f4.offset = 4)
    (c0 : P.cellsOf f0.type = 1) (c1 : P.cellsOf f1.type = 1) (c2 : P.cellsOf f2.type = 1) (c3 : P.cellsOf f3.type = 1) (c4 : P.cellsOf f4.type = 1)
    (u0 : P.underlying f0.type = some (.int .i64)) (u1 : P.underlying f1.type = some (.int .i64)) (u2 : P.underlying f2.type = some (.int .i64)) (u3 : P.underlying f3.type = some (.slice eb)) (u4 : P.underlying f4.type = some (.slice ee))
    (ub : P.underlying eb = some (.int .u8)) (cb : P.cellsOf eb = 1) (ue : P.underlying ee = some (.struct #[g0, g1, g2])) (cee : P.cellsOf ee = 3) (p0 : g0.offset = 0) (p1 : g1.offset = 1) (p2 : g2.offset = 2)
    (k0 : P.cellsOf g0.type = 1) (k1 : P.cellsOf g1.type = 1) (k2 : P.cellsOf g2.type = 1) (w0 : P.underlying g0.type = some (.int .i64)) (w1 : P.underlying g1.type = some (.int .i64)) (w2 : P.underlying g2.type = some (.int .u8))
    (hv : Value.okWide P W .any base t v) (h : DataW.Trod enc P W 0 (fun _ => true) true t v d p) :
    ∃ A cap l, v = .slice A l.length cap ∧ Acts W W.heap.size A l ∧ l.length ≤ cap ∧ cap ≤ maxLen := by
  obtain ⟨a, len, cap, rfl⟩ := okWide_slice ht hv
  obtain ⟨fuel, hf⟩ := h
  rcases open_slice ht hf with ⟨hcs, hx⟩ | ⟨x, l, c, m, n, D, Pl, hcs, _, hl, hm, hmm, hx, hall⟩
  · simp [Value.cells] at hcs
    obtain ⟨rfl, rfl, rfl⟩ := hcs
    exact ⟨none, 0, [], rfl, fun h => absurd h (by simp), Nat.zero_le _, Nat.zero_le _⟩
  · simp [Value.cells] at hcs
    obtain ⟨rfl, rfl, rfl⟩ := hcs
    simp only [if_true] at hmm
    obtain rfl : cap = m := hmm.symm
    obtain ⟨T, hT⟩ := choose_lt (α := Act1) (p := fun i y => ∃ Aw cw Ae cE, W.cell? (x.add (i * 5)) = some (.int .i64 y.kind) ∧ W.cell? (x.add (i * 5 + 1)) = some (.int .i64 y.dir) ∧ W.cell? (x.add (i * 5 + 2)) = some (.int .i64 y.at_) ∧
        W.cell? (x.add (i * 5 + 3)) = some (.slice Aw y.wire.length cw) ∧ W.cell? (x.add (i * 5 + 4)) = some (.slice Ae y.edits.length cE) ∧ Bytes W W.heap.size Aw y.wire ∧ Eds W W.heap.size Ae y.edits) (fun i (hi : i < len) => by
      obtain ⟨cs', h1, h2⟩ := hall i (by omega)
      rw [ce] at h1
      obtain ⟨_, hlen, hcell⟩ := World.cells?_some h1
      obtain ⟨xs, k, hk, hxy, _, hxl, hf⟩ := DataW.trod_struct he h2
      match cs', hlen with
      | [v0, v1, v2, v3, v4], _ =>
        match xs, hxl with
        | [z0, z1, z2, z3, z4], _ =>
          have g0 := hf 0 f0 rfl
          have g1 := hf 1 f1 rfl
          have g2 := hf 2 f2 rfl
          have g3 := hf 3 f3 rfl
          have g4 := hf 4 f4 rfl
          simp [o0, o1, o2, o3, o4, c0, c1, c2, c3, c4] at g0 g1 g2 g3 g4
          obtain ⟨n0, e0, _⟩ := DataW.trod_int u0 g0
          obtain ⟨n1, e1, _⟩ := DataW.trod_int u1 g1
          obtain ⟨n2, e2, _⟩ := DataW.trod_int u2 g2
          obtain ⟨Aw, cw, lw, e3, bw, _, _, _⟩ := Mem.bytes_of_trod u3 ub cb g3
          obtain ⟨Ae, cE, es, e4, be, _, _, _⟩ := Ed.edits_of_trod u4 ue cee p0 p1 p2 k0 k1 k2 w0 w1 w2 g4
          simp at e0 e1 e2
          subst e0 e1 e2 e3 e4
          have q0 := hcell 0 (by omega)
          have q1 := hcell 1 (by omega)
          have q2 := hcell 2 (by omega)
          have q3 := hcell 3 (by omega)
          have q4 := hcell 4 (by omega)
          rw [add_add] at q0 q1 q2 q3 q4
          exact ⟨⟨n0, n1, n2, lw, es⟩, Aw, cw, Ae, cE, by simpa using q0, by simpa using q1, by simpa using q2, by simpa using q3, by simpa using q4, bw, be⟩)
    refine ⟨some x, cap, (List.range len).map T, by simp, ?_, by simpa using hl, hm⟩
    intro hp
    have hp' : 0 < len := by simpa using hp
    obtain ⟨b, off, spot⟩ := x
    obtain ⟨_, _, _, _, hc0, _⟩ := hT 0 hp'
    have hspot : spot = none := by simpa [Addr.add] using World.cell?_spot hc0
    subst hspot
    have hblk : b < W.heap.size := World.block_lt_of_cell? W _ (by rw [Addr.add_lit] at hc0; exact hc0)
    refine ⟨b, off, rfl, hblk, fun i hi => ?_⟩
    have hi' : i < len := by simpa using hi
    have hn : nthA ((List.range len).map T) i = T i := by
      unfold nthA
      simp [List.getD, hi']
    rw [hn]
    obtain ⟨Aw, cw, Ae, cE, h0, h1, h2, h3, h4, h5, h6⟩ := hT i hi'
    rw [Addr.add_lit] at h0 h1 h2 h3 h4
    exact ⟨Aw, cw, Ae, cE, h0, by rw [Nat.add_assoc]; exact h1, by rw [Nat.add_assoc]; exact h2, by rw [Nat.add_assoc]; exact h3, by rw [Nat.add_assoc]; exact h4, h5, h6⟩
#print axioms open_acts
end Go.Proofs.Ytogijioehdaefaa.Flt
