
/- Layer 16 (flight): the code's Put where it refuses; told and At. -/
import Derived.Test.YtogijioehdaefaaFltB
import Derived.Deep.RegionHeld3
import Derived.Deep.DrawnRows
attribute [local go_sem ↓] Go.wp_at_zero Go.wp_at_succ
namespace Go.Proofs.Ytogijioehdaefaa.Flt
open Go.RowKit Go.Proofs.Ytogijioehdaefaa.Mem Go.Proofs.Ytogijioehdaefaa.Oct Go.Proofs.Ytogijioehdaefaa.Pkt Go.Proofs.Ytogijioehdaefaa.Def Go.Proofs.Ytogijioehdaefaa.Ed

section
variable {R : Nat → Prop} {W : World} {b : Nat} {F : Fl} {wv : Nat → Value}
theorem Put_no (d : Int) (v : Value) (h : FlAt 1 R W b F wv) (hd : d < 0 ∨ 2 ≤ d) :
    Calls Try.prog 11 #[.pointer (some ⟨b, 0, none⟩), .int .i64 d, v] W fun e w' => e = .returned (.int .i64 1) ∧ W = w' := by
  have HO := Lib.hid (of_no d h hd)
  clear h
  go_enter Try.func11, Try.ntmps11
  go_wp2_with fail
  refine HO.out.mono ?_
  rintro e w' ⟨rfl, rfl⟩
  go_wp2_with fail
  go_ret
  exact ⟨rfl, rfl⟩
theorem Put_long (d m ca : Nat) (A : Option Addr) (h : FlAt 1 R W b F wv) (hd : d < 2) (hm : 512 < m) :
    Calls Try.prog 11 #[.pointer (some ⟨b, 0, none⟩), .int .i64 d, .slice A m ca] W fun e w' => e = .returned (.int .i64 2) ∧ W = w' := by
  obtain ⟨o, ho⟩ : ∃ o, o = 3 + 2 * d := ⟨_, rfl⟩
  have HO := Lib.hid (of_yes d o h hd ho)
  have hmI : (512 : Int) < (m : Int) := by omega
  clear h ho
  go_enter Try.func11, Try.ntmps11
  go_wp2_with fail
  refine HO.out.mono ?_
  rintro e w' ⟨rfl, rfl⟩
  go_wp2_with fail
  go_ret
  exact ⟨rfl, rfl⟩

theorem own_shape' {E : TypeId} {w : World} {base : Nat} {v : Value} {l : List UInt8} (h : Own E w base v l) : ∃ A n c, v = .slice A n c ∧ l.length = n := by
  obtain ⟨A, c, rfl, _⟩ := h.shape
  exact ⟨A, _, c, rfl, rfl⟩
theorem textP_of' {w : World} {base : Nat} {v : Value} {l : List UInt8} (h : Own 5 w base v l) : TextP (fun g => base ≤ g) w v l := TextP.own h fun _ hb _ => hb
/-- a frame that is told: its number, its bytes in memory -/
def Told (w : World) (e : Ending) (c : Int) (x : Frm) (p : Nat → Prop) (w' : World) : Prop :=
  ∃ v1 v2, e = .returned (.tuple #[.agg #[.int .i64 x.num, v1, v2], .int .i64 c]) ∧ TextP p w' v1 x.wire ∧ TextP p w' v2 x.first ∧ Below w.heap.size w w'
set_option maxHeartbeats 8000000 in
set_option maxRecDepth 100000 in
theorem told_any (num n1 c1 n2 c2 : Nat) (A1 A2 : Option Addr) (l1 l2 : List UInt8) (W : World) (h1 : n1 = l1.length) (h2 : n2 = l2.length) (hA1 : Bytes W W.heap.size A1 l1) (hA2 : Bytes W W.heap.size A2 l2) (hl1 : l1.length ≤ 1000) (hl2 : l2.length ≤ 1000) :
    Calls Try.prog 34 #[.agg #[.int .i64 num, .slice A1 n1 c1, .slice A2 n2 c2]] W fun e w' =>
      ∃ v1 v2, e = .returned (.agg #[.int .i64 num, v1, v2]) ∧ TextP (fun g => W.heap.size ≤ g) w' v1 l1 ∧ TextP (fun g => W.heap.size ≤ g) w' v2 l2 ∧ Below W.heap.size W w' := by
  obtain ⟨w0, hw0⟩ : ∃ w0, w0 = (W.alloc (.cells #[.int .i64 num, .slice A1 n1 c1, .slice A2 n2 c2] 40)).alloc (.cells #[.int .i64 0, .slice none 0 0, .slice none 0 0] 40) := ⟨_, rfl⟩
  have hb0 : Below W.heap.size W w0 := by rw [hw0]; exact below_alloc (below_alloc (Below.refl _ _) _) _
  have hsz : W.heap.size + 2 = w0.heap.size := by rw [hw0]; simp
  have hx0 : W.heap.size < w0.heap.size := by omega
  have hx1 : W.heap.size + 1 < w0.heap.size := by omega
  have hk0 : w0.cell? ⟨W.heap.size, 0, none⟩ = some (.int .i64 num) := by rw [hw0]; simp [go_sem]
  have hk1 : w0.cell? ⟨W.heap.size, 1, none⟩ = some (.slice A1 n1 c1) := by rw [hw0]; simp [go_sem]
  have hk2 : w0.cell? ⟨W.heap.size, 2, none⟩ = some (.slice A2 n2 c2) := by rw [hw0]; simp [go_sem]
  have hy0 : ∀ i, i < 3 → ∃ v, w0.cell? ⟨W.heap.size + 1, i, none⟩ = some v := by
    intro i hi
    rw [hw0]
    match i, hi with
    | 0, _ => exact ⟨_, by simp [go_sem]; rfl⟩
    | 1, _ => exact ⟨_, by simp [go_sem]; rfl⟩
    | 2, _ => exact ⟨_, by simp [go_sem]; rfl⟩
  have hkz : ∀ i, w0.frozen? ⟨W.heap.size, i, none⟩ = false := by intro i; rw [hw0]; simp [go_sem]
  have hyz : ∀ i, w0.frozen? ⟨W.heap.size + 1, i, none⟩ = false := by intro i; rw [hw0]; simp [go_sem]
  have HK := Lib.hid (fun w (hb : Below w0.heap.size w0 w) => show (w.cell? ⟨W.heap.size, 0, none⟩ = some (.int .i64 num) ∧ w.cell? ⟨W.heap.size, 1, none⟩ = some (.slice A1 n1 c1) ∧ w.cell? ⟨W.heap.size, 2, none⟩ = some (.slice A2 n2 c2)) ∧ (∀ i, w.frozen? ⟨W.heap.size, i, none⟩ = false) from
    ⟨⟨((bcell hb).1 _ _ hx0).trans hk0, ((bcell hb).1 _ _ hx0).trans hk1, ((bcell hb).1 _ _ hx0).trans hk2⟩, fun i => ((chg_below hb).frozen (p := ⟨W.heap.size, i, none⟩) hx0 (fun h => h)).trans (hkz i)⟩)
  have HY := Lib.hid (fun w (hb : Below w0.heap.size w0 w) => show (∃ u0 u1 u2, w.cell? ⟨W.heap.size + 1, 0, none⟩ = some u0 ∧ w.cell? ⟨W.heap.size + 1, 1, none⟩ = some u1 ∧ w.cell? ⟨W.heap.size + 1, 2, none⟩ = some u2) ∧ (∀ i, w.frozen? ⟨W.heap.size + 1, i, none⟩ = false) from by
    obtain ⟨u0, e0⟩ := hy0 0 (by decide)
    obtain ⟨u1, e1⟩ := hy0 1 (by decide)
    obtain ⟨u2, e2⟩ := hy0 2 (by decide)
    exact ⟨⟨u0, u1, u2, ((bcell hb).1 _ _ hx1).trans e0, ((bcell hb).1 _ _ hx1).trans e1, ((bcell hb).1 _ _ hx1).trans e2⟩, fun i => ((chg_below hb).frozen (p := ⟨W.heap.size + 1, i, none⟩) hx1 (fun h => h)).trans (hyz i)⟩)
  have HC1 := Lib.hid (fun w (hb : Below W.heap.size W w) => show Calls Try.prog 26 #[.slice A1 n1 c1] w (Gives w l1) by
    subst h1
    exact Oct.Clone_any A1 c1 l1 w (hA1.later hb) (by omega))
  have HC2 := Lib.hid (fun w (hb : Below W.heap.size W w) => show Calls Try.prog 26 #[.slice A2 n2 c2] w (Gives w l2) by
    subst h2
    exact Oct.Clone_any A2 c2 l2 w (hA2.later hb) (by omega))
  have HB0 := Lib.hid hb0
  have HW0 := Lib.hid hw0
  have HSZ := Lib.hid hsz
  have hxy : ¬ W.heap.size = W.heap.size + 1 := by omega
  clear hb0 hw0 hsz hy0 hyz h1 h2 hA1 hA2 hkz
  go_enter Try.func34, Try.ntmps34
  go_wp2_with fail
  rw [← HW0.out]
  go_region_law (first
      | (go_simp; go_at_call_of 26 (Value.slice A1 n1 c1); refine (HC1.out _ (by exact Below.drew HB0.out)).mono ?_; rintro e w2 ⟨v2, rfl, ho2, hb2⟩; obtain ⟨B1, m1, k1, rfl, hn2⟩ := own_shape' ho2
         have hb12 := below_undrew hb2
         obtain ⟨⟨hS0, hS1, hS2⟩, hSz⟩ := HK.out _ hb12)
      | (go_simp; go_at_call 26; ((with_reducible refine (HC2.out _ ?_).mono ?_); (first | exact below_next HB0.out hb12)); rintro e w3 ⟨v3, rfl, ho3, hb3⟩; obtain ⟨B2, m2, k2, rfl, hn3⟩ := own_shape' ho3
         have hb13 := below_next hb12 hb3
         obtain ⟨⟨hT0, hT1, hT2⟩, hTz⟩ := HK.out _ hb13
         obtain ⟨⟨u0, u1, u2, hU0, hU1, hU2⟩, hUz⟩ := HY.out _ hb13))
  all_goals (
    obtain ⟨w4, hw4⟩ : ∃ w4, w4 = (w3.setCell ⟨W.heap.size, 1, none⟩ (.slice B1 m1 k1)).setCell ⟨W.heap.size, 2, none⟩ (.slice B2 m2 k2) := ⟨_, rfl⟩
    have ck : Chg (fun g => g = W.heap.size) w3 w4 := by rw [hw4]; exact (chg_set _ ⟨W.heap.size, 1, none⟩ _).trans (chg_set _ ⟨W.heap.size, 2, none⟩ _)
    have e0 : w4.cell? ⟨W.heap.size, 0, none⟩ = some (.int .i64 num) := by rw [hw4, set_other (by decide), set_other (by decide)]; exact hT0
    have e1 : w4.cell? ⟨W.heap.size, 1, none⟩ = some (.slice B1 m1 k1) := by rw [hw4, set_other (by decide)]; exact set_self hT1
    have e2 : w4.cell? ⟨W.heap.size, 2, none⟩ = some (.slice B2 m2 k2) := by rw [hw4]; exact set_self (x := .slice A2 n2 c2) (by rw [set_other (by decide)]; exact hT2)
    have hy3 : W.heap.size + 1 < w3.heap.size := Nat.lt_of_lt_of_le hx1 hb13.size
    have hyn : ¬ W.heap.size + 1 = W.heap.size := by omega
    have f0 : w4.cell? ⟨W.heap.size + 1, 0, none⟩ = some u0 := (ck.cell (p := ⟨W.heap.size + 1, 0, none⟩) hy3 hyn).trans hU0
    have f1 : w4.cell? ⟨W.heap.size + 1, 1, none⟩ = some u1 := (ck.cell (p := ⟨W.heap.size + 1, 1, none⟩) hy3 hyn).trans hU1
    have f2 : w4.cell? ⟨W.heap.size + 1, 2, none⟩ = some u2 := (ck.cell (p := ⟨W.heap.size + 1, 2, none⟩) hy3 hyn).trans hU2
    have fz : ∀ i, w4.frozen? ⟨W.heap.size + 1, i, none⟩ = false := fun i => (ck.frozen (p := ⟨W.heap.size + 1, i, none⟩) hy3 hyn).trans (hUz i)
    have hs0 := HSZ.out
    have t1 := ((textP_of' ho2).chg (chg_below hb3) (r := fun g => w0.heap.size ≤ g) (fun _ _ _ h => h) (fun _ _ h => h)).chg ck (r := fun g => w0.heap.size ≤ g) (fun g _ hp e => by omega) (fun _ _ h => h)
    have t2 := (textP_of' ho3).chg ck (r := fun g => w0.heap.size ≤ g) (fun g _ hp e => by have := hb12.size; omega) (fun g _ hp => Nat.le_trans hb12.size hp)
    have b4 : Below W.heap.size W w4 := Chg.below (below_next HB0.out hb13) ck (by have := hb13.size; omega) (fun g e => by omega)
    have HT := Lib.hid (And.intro t1 (And.intro t2 b4))
    have hsz4 : W.heap.size + 1 < w4.heap.size := Nat.lt_of_lt_of_le hy3 ck.size
    rw [← hw4]
    clear t1 t2 b4 ck hw4 hs0 hT0 hT1 hT2 hTz hU0 hU1 hU2 hUz hS0 hS1 hS2 hSz hb12 hb13 hb2 hb3 ho2 ho3 hn2 hn3 hy3
    go_wp2_with fail
    have hs0 := HSZ.out
    obtain ⟨t1, t2, b4⟩ := HT.out
    have c5 : Chg (fun g => g = W.heap.size + 1) w4 (((w4.setCell ⟨W.heap.size + 1, 0, none⟩ (.int .i64 num)).setCell ⟨W.heap.size + 1, 1, none⟩ (.slice B1 m1 k1)).setCell ⟨W.heap.size + 1, 2, none⟩ (.slice B2 m2 k2)) :=
      ((chg_set _ ⟨W.heap.size + 1, 0, none⟩ _).trans (chg_set _ ⟨W.heap.size + 1, 1, none⟩ _)).trans (chg_set _ ⟨W.heap.size + 1, 2, none⟩ _)
    exact bodyPost_ret (v := .agg #[.int .i64 num, .slice B1 m1 k1, .slice B2 m2 k2]) (by simp [results, Try.results34, go_sem, f0, f1, f2]) rfl
      ⟨_, _, rfl, t1.chg c5 (fun g _ hp e => by omega) (fun g _ hp => by omega), t2.chg c5 (fun g _ hp e => by omega) (fun g _ hp => by omega), Chg.below b4 c5 (by omega) (fun g e => by omega)⟩)

/-- what At tells -/
def Told2 (w : World) (c : Int) (x : Frm) (e : Ending) (w' : World) : Prop :=
  ∃ v1 v2, e = .returned (.tuple #[.agg #[.int .i64 x.num, v1, v2], .int .i64 c]) ∧ TextP (fun g => w.heap.size ≤ g) w' v1 x.wire ∧ TextP (fun g => w.heap.size ≤ g) w' v2 x.first ∧ Below w.heap.size w w'
theorem textP_nil (p : Nat → Prop) (w : World) : TextP p w (.slice none 0 0) [] := ⟨none, 0, rfl, Nat.le_refl _, Nat.zero_le _, fun h => absurd h (Nat.lt_irrefl _)⟩
set_option maxHeartbeats 8000000 in
set_option maxRecDepth 100000 in
theorem At_yes (d i : Nat) (h : FlAt 1 R W b F wv) (hd : d < 2) (hi : i < (F.fs d).length) :
    Calls Try.prog 22 #[.pointer (some ⟨b, 0, none⟩), .int .i64 d, .int .i64 i] W (Told2 W 0 (nthF (F.fs d) i)) := by
  obtain ⟨o, ho⟩ : ∃ o, o = 3 + 2 * d := ⟨_, rfl⟩
  obtain ⟨w1, hw1⟩ : ∃ w1, w1 = W.alloc (.cells #[.int .i64 0, .slice none 0 0, .slice none 0 0] 40) := ⟨_, rfl⟩
  have hb1 : Below W.heap.size W w1 := by rw [hw1]; exact below_alloc (Below.refl _ _) _
  have h1 := h.below hb1
  obtain ⟨A, cap, ys, _, hr, hf, hc1, _⟩ := h1.way d o hd (by omega)
  obtain ⟨g, off, rfl, hg, hy0, hy1, hy2, _⟩ := hr.at_ hi
  obtain ⟨v1, v2, q0, q1, q2, tx1, tx2, hx1, hx2⟩ := hf i hi
  rw [q0] at hy0
  rw [q1] at hy1
  rw [q2] at hy2
  obtain ⟨A1, c1, rfl, _, _, ra1⟩ := tx1
  obtain ⟨A2, c2, rfl, _, _, ra2⟩ := tx2
  have HA := Lib.hid (at_yes d o i h1 hd ho hi)
  obtain ⟨n1, e1⟩ : ∃ n, n = (nthF (F.fs d) i).wire.length := ⟨_, rfl⟩
  obtain ⟨n2, e2⟩ : ∃ n, n = (nthF (F.fs d) i).first.length := ⟨_, rfl⟩
  rw [← e1] at hy1
  rw [← e2] at hy2
  have HT := Lib.hid (told_any (nthF (F.fs d) i).num n1 c1 n2 c2 A1 A2 _ _ w1 e1 e2 ra1.bytes ra2.bytes hx1 hx2)
  have hsz1 : W.heap.size < w1.heap.size := by rw [hw1]; simp
  have hk0 : ∀ j, j < 3 → ∃ u, w1.cell? ⟨W.heap.size, j, none⟩ = some u := by
    intro j hj
    rw [hw1]
    match j, hj with
    | 0, _ => exact ⟨_, by simp [go_sem]; rfl⟩
    | 1, _ => exact ⟨_, by simp [go_sem]; rfl⟩
    | 2, _ => exact ⟨_, by simp [go_sem]; rfl⟩
  have hkz : ∀ j, w1.frozen? ⟨W.heap.size, j, none⟩ = false := by intro j; rw [hw1]; simp [go_sem]
  have HK := Lib.hid (And.intro hk0 hkz)
  have HB1 := Lib.hid hb1
  have HW1 := Lib.hid hw1
  have hin : (i : Int) < ((F.fs d).length : Int) := by omega
  clear h h1 hr hf q0 q1 q2 ra1 ra2 hk0 hkz hb1 hw1 e1 e2 hx1 hx2 ho hi
  generalize nthF (F.fs d) i = x at *
  generalize (F.fs d).length = n at *
  go_enter Try.func22, Try.ntmps22
  go_wp2_with fail
  rw [← HW1.out]
  refine HA.out.mono ?_
  rintro e w' ⟨rfl, rfl⟩
  go_wp2_with fail
  refine HT.out.mono ?_
  rintro e w2 ⟨u1, u2, rfl, s1, s2, b2⟩
  obtain ⟨k0, kz⟩ := HK.out
  obtain ⟨x0, k00⟩ := k0 0 (by decide)
  obtain ⟨x1, k01⟩ := k0 1 (by decide)
  obtain ⟨x2, k02⟩ := k0 2 (by decide)
  have g0 : w2.cell? ⟨W.heap.size, 0, none⟩ = some x0 := ((bcell b2).1 _ _ hsz1).trans k00
  have g1 : w2.cell? ⟨W.heap.size, 1, none⟩ = some x1 := ((bcell b2).1 _ _ hsz1).trans k01
  have g2 : w2.cell? ⟨W.heap.size, 2, none⟩ = some x2 := ((bcell b2).1 _ _ hsz1).trans k02
  have gz : ∀ j, w2.frozen? ⟨W.heap.size, j, none⟩ = false := fun j => ((chg_below b2).frozen (p := ⟨W.heap.size, j, none⟩) hsz1 (fun h => h)).trans (kz j)
  obtain ⟨B1, m1, rfl, _, _, rb1⟩ := s1
  obtain ⟨B2, m2, rfl, _, _, rb2⟩ := s2
  have HTX := Lib.hid (And.intro rb1 (And.intro rb2 b2))
  have hsz2 : W.heap.size < w2.heap.size := Nat.lt_of_lt_of_le hsz1 b2.size
  clear rb1 rb2 b2 k00 k01 k02 k0
  go_wp2_with fail
  obtain ⟨rb1, rb2, b2⟩ := HTX.out
  have c5 : Chg (fun g => g = W.heap.size) w2 (((w2.setCell ⟨W.heap.size, 0, none⟩ (.int .i64 x.num)).setCell ⟨W.heap.size, 1, none⟩ (.slice B1 x.wire.length m1)).setCell ⟨W.heap.size, 2, none⟩ (.slice B2 x.first.length m2)) :=
    ((chg_set _ ⟨W.heap.size, 0, none⟩ _).trans (chg_set _ ⟨W.heap.size, 1, none⟩ _)).trans (chg_set _ ⟨W.heap.size, 2, none⟩ _)
  exact bodyPost_ret (v := .tuple #[.agg #[.int .i64 x.num, .slice B1 x.wire.length m1, .slice B2 x.first.length m2], .int .i64 0]) (by simp [results, Try.results22, go_sem, g0, g1, g2]) rfl
    ⟨_, _, rfl, (show TextP _ _ _ _ from ⟨B1, m1, rfl, by assumption, by assumption, rb1⟩).chg c5 (fun g hg hp e => by omega) (fun g _ hp => by omega), (show TextP _ _ _ _ from ⟨B2, m2, rfl, by assumption, by assumption, rb2⟩).chg c5 (fun g hg hp e => by omega) (fun g _ hp => by omega), Chg.below (below_next HB1.out b2) c5 (by omega) (fun g e => by omega)⟩

/-- nothing is told: a frame of nothing, and why -/
def ToldNo (w : World) (c : Int) (e : Ending) (w' : World) : Prop := e = .returned (.tuple #[.agg #[.int .i64 0, .slice none 0 0, .slice none 0 0], .int .i64 c]) ∧ Below w.heap.size w w'
theorem At_none (d : Nat) (i : Int) (h : FlAt 1 R W b F wv) (hd : d < 2) (hi : i < 0 ∨ ((F.fs d).length : Int) ≤ i) :
    Calls Try.prog 22 #[.pointer (some ⟨b, 0, none⟩), .int .i64 d, .int .i64 i] W (ToldNo W 4) := by
  obtain ⟨w1, hw1⟩ : ∃ w1, w1 = W.alloc (.cells #[.int .i64 0, .slice none 0 0, .slice none 0 0] 40) := ⟨_, rfl⟩
  have hb1 : Below W.heap.size W w1 := by rw [hw1]; exact below_alloc (Below.refl _ _) _
  have HA := Lib.hid (at_none d i (h.below hb1) hd hi)
  have k0 : w1.cell? ⟨W.heap.size, 0, none⟩ = some (.int .i64 0) := by rw [hw1]; simp [go_sem]
  have k1 : w1.cell? ⟨W.heap.size, 1, none⟩ = some (.slice none 0 0) := by rw [hw1]; simp [go_sem]
  have k2 : w1.cell? ⟨W.heap.size, 2, none⟩ = some (.slice none 0 0) := by rw [hw1]; simp [go_sem]
  have kz : ∀ j, w1.frozen? ⟨W.heap.size, j, none⟩ = false := by intro j; rw [hw1]; simp [go_sem]
  have hsz1 : W.heap.size < w1.heap.size := by rw [hw1]; simp
  have HB1 := Lib.hid hb1
  have HW1 := Lib.hid hw1
  clear h hb1 hw1
  go_enter Try.func22, Try.ntmps22
  go_wp2_with fail
  rw [← HW1.out]
  refine HA.out.mono ?_
  rintro e w' ⟨v, rfl, rfl⟩
  go_wp2_with fail
  have c5 : Chg (fun g => g = W.heap.size) w1 (((w1.setCell ⟨W.heap.size, 0, none⟩ (.int .i64 0)).setCell ⟨W.heap.size, 1, none⟩ (.slice none 0 0)).setCell ⟨W.heap.size, 2, none⟩ (.slice none 0 0)) :=
    ((chg_set _ ⟨W.heap.size, 0, none⟩ _).trans (chg_set _ ⟨W.heap.size, 1, none⟩ _)).trans (chg_set _ ⟨W.heap.size, 2, none⟩ _)
  exact bodyPost_ret (v := .tuple #[.agg #[.int .i64 0, .slice none 0 0, .slice none 0 0], .int .i64 4]) (by simp [results, Try.results22, go_sem, k0, k1, k2]) rfl
    ⟨rfl, Chg.below HB1.out c5 (by omega) (fun g e => by omega)⟩

theorem At_no (d i : Int) (h : FlAt 1 R W b F wv) (hd : d < 0 ∨ 2 ≤ d) :
    Calls Try.prog 22 #[.pointer (some ⟨b, 0, none⟩), .int .i64 d, .int .i64 i] W (ToldNo W 1) := by
  obtain ⟨w1, hw1⟩ : ∃ w1, w1 = W.alloc (.cells #[.int .i64 0, .slice none 0 0, .slice none 0 0] 40) := ⟨_, rfl⟩
  have hb1 : Below W.heap.size W w1 := by rw [hw1]; exact below_alloc (Below.refl _ _) _
  have HA := Lib.hid (at_no d i (h.below hb1) hd)
  have k0 : w1.cell? ⟨W.heap.size, 0, none⟩ = some (.int .i64 0) := by rw [hw1]; simp [go_sem]
  have k1 : w1.cell? ⟨W.heap.size, 1, none⟩ = some (.slice none 0 0) := by rw [hw1]; simp [go_sem]
  have k2 : w1.cell? ⟨W.heap.size, 2, none⟩ = some (.slice none 0 0) := by rw [hw1]; simp [go_sem]
  have kz : ∀ j, w1.frozen? ⟨W.heap.size, j, none⟩ = false := by intro j; rw [hw1]; simp [go_sem]
  have hsz1 : W.heap.size < w1.heap.size := by rw [hw1]; simp
  have HB1 := Lib.hid hb1
  have HW1 := Lib.hid hw1
  clear h hb1 hw1
  go_enter Try.func22, Try.ntmps22
  go_wp2_with fail
  rw [← HW1.out]
  refine HA.out.mono ?_
  rintro e w' ⟨v, rfl, rfl⟩
  go_wp2_with fail
  have c5 : Chg (fun g => g = W.heap.size) w1 (((w1.setCell ⟨W.heap.size, 0, none⟩ (.int .i64 0)).setCell ⟨W.heap.size, 1, none⟩ (.slice none 0 0)).setCell ⟨W.heap.size, 2, none⟩ (.slice none 0 0)) :=
    ((chg_set _ ⟨W.heap.size, 0, none⟩ _).trans (chg_set _ ⟨W.heap.size, 1, none⟩ _)).trans (chg_set _ ⟨W.heap.size, 2, none⟩ _)
  exact bodyPost_ret (v := .tuple #[.agg #[.int .i64 0, .slice none 0 0, .slice none 0 0], .int .i64 1]) (by simp [results, Try.results22, go_sem, k0, k1, k2]) rfl
    ⟨rfl, Chg.below HB1.out c5 (by omega) (fun g e => by omega)⟩

theorem Take_none (d : Nat) (i : Int) (h : FlAt 1 R W b F wv) (hd : d < 2) (hi : i < 0 ∨ ((F.fs d).length : Int) ≤ i) :
    Calls Try.prog 13 #[.pointer (some ⟨b, 0, none⟩), .int .i64 d, .int .i64 i] W (ToldNo W 4) := by
  obtain ⟨w1, hw1⟩ : ∃ w1, w1 = W.alloc (.cells #[.int .i64 0, .slice none 0 0, .slice none 0 0] 40) := ⟨_, rfl⟩
  have hb1 : Below W.heap.size W w1 := by rw [hw1]; exact below_alloc (Below.refl _ _) _
  have HA := Lib.hid (at_none d i (h.below hb1) hd hi)
  have k0 : w1.cell? ⟨W.heap.size, 0, none⟩ = some (.int .i64 0) := by rw [hw1]; simp [go_sem]
  have k1 : w1.cell? ⟨W.heap.size, 1, none⟩ = some (.slice none 0 0) := by rw [hw1]; simp [go_sem]
  have k2 : w1.cell? ⟨W.heap.size, 2, none⟩ = some (.slice none 0 0) := by rw [hw1]; simp [go_sem]
  have kz : ∀ j, w1.frozen? ⟨W.heap.size, j, none⟩ = false := by intro j; rw [hw1]; simp [go_sem]
  have hsz1 : W.heap.size < w1.heap.size := by rw [hw1]; simp
  have HB1 := Lib.hid hb1
  have HW1 := Lib.hid hw1
  clear h hb1 hw1
  go_enter Try.func13, Try.ntmps13
  go_wp2_with fail
  rw [← HW1.out]
  refine HA.out.mono ?_
  rintro e w' ⟨v, rfl, rfl⟩
  go_wp2_with fail
  have c5 : Chg (fun g => g = W.heap.size) w1 (((w1.setCell ⟨W.heap.size, 0, none⟩ (.int .i64 0)).setCell ⟨W.heap.size, 1, none⟩ (.slice none 0 0)).setCell ⟨W.heap.size, 2, none⟩ (.slice none 0 0)) :=
    ((chg_set _ ⟨W.heap.size, 0, none⟩ _).trans (chg_set _ ⟨W.heap.size, 1, none⟩ _)).trans (chg_set _ ⟨W.heap.size, 2, none⟩ _)
  exact bodyPost_ret (v := .tuple #[.agg #[.int .i64 0, .slice none 0 0, .slice none 0 0], .int .i64 4]) (by simp [results, Try.results13, go_sem, k0, k1, k2]) rfl
    ⟨rfl, Chg.below HB1.out c5 (by omega) (fun g e => by omega)⟩

theorem Take_no (d i : Int) (h : FlAt 1 R W b F wv) (hd : d < 0 ∨ 2 ≤ d) :
    Calls Try.prog 13 #[.pointer (some ⟨b, 0, none⟩), .int .i64 d, .int .i64 i] W (ToldNo W 1) := by
  obtain ⟨w1, hw1⟩ : ∃ w1, w1 = W.alloc (.cells #[.int .i64 0, .slice none 0 0, .slice none 0 0] 40) := ⟨_, rfl⟩
  have hb1 : Below W.heap.size W w1 := by rw [hw1]; exact below_alloc (Below.refl _ _) _
  have HA := Lib.hid (at_no d i (h.below hb1) hd)
  have k0 : w1.cell? ⟨W.heap.size, 0, none⟩ = some (.int .i64 0) := by rw [hw1]; simp [go_sem]
  have k1 : w1.cell? ⟨W.heap.size, 1, none⟩ = some (.slice none 0 0) := by rw [hw1]; simp [go_sem]
  have k2 : w1.cell? ⟨W.heap.size, 2, none⟩ = some (.slice none 0 0) := by rw [hw1]; simp [go_sem]
  have kz : ∀ j, w1.frozen? ⟨W.heap.size, j, none⟩ = false := by intro j; rw [hw1]; simp [go_sem]
  have hsz1 : W.heap.size < w1.heap.size := by rw [hw1]; simp
  have HB1 := Lib.hid hb1
  have HW1 := Lib.hid hw1
  clear h hb1 hw1
  go_enter Try.func13, Try.ntmps13
  go_wp2_with fail
  rw [← HW1.out]
  refine HA.out.mono ?_
  rintro e w' ⟨v, rfl, rfl⟩
  go_wp2_with fail
  have c5 : Chg (fun g => g = W.heap.size) w1 (((w1.setCell ⟨W.heap.size, 0, none⟩ (.int .i64 0)).setCell ⟨W.heap.size, 1, none⟩ (.slice none 0 0)).setCell ⟨W.heap.size, 2, none⟩ (.slice none 0 0)) :=
    ((chg_set _ ⟨W.heap.size, 0, none⟩ _).trans (chg_set _ ⟨W.heap.size, 1, none⟩ _)).trans (chg_set _ ⟨W.heap.size, 2, none⟩ _)
  exact bodyPost_ret (v := .tuple #[.agg #[.int .i64 0, .slice none 0 0, .slice none 0 0], .int .i64 1]) (by simp [results, Try.results13, go_sem, k0, k1, k2]) rfl
    ⟨rfl, Chg.below HB1.out c5 (by omega) (fun g e => by omega)⟩
end
end Go.Proofs.Ytogijioehdaefaa.Flt
