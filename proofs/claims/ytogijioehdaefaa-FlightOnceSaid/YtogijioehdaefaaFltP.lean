
/- Layer 16 (flight): the document's New, Len, Sent, At; have two frames the same? -/
import Derived.Test.YtogijioehdaefaaFltE
attribute [local go_sem ↓] Go.wp_at_zero Go.wp_at_succ
namespace Go.Proofs.Ytogijioehdaefaa.Flt
open Go.RowKit Go.Proofs.Ytogijioehdaefaa.Mem Go.Proofs.Ytogijioehdaefaa.Oct Go.Proofs.Ytogijioehdaefaa.Pkt Go.Proofs.Ytogijioehdaefaa.Def Go.Proofs.Ytogijioehdaefaa.Ed

theorem refNew_yes (n : Nat) (R : Nat → Prop) (W : World) (h : n ≤ 4096) :
    Calls Try.prog 9 #[.int .i64 n] W fun e w' => e = .returned (.tuple #[.pointer (some ⟨W.heap.size, 0, none⟩), .int .i64 0]) ∧ FlAt 0 R w' W.heap.size (new n) nils ∧ Below W.heap.size W w' := by
  have h1 : ¬ (n : Int) < 0 := by omega
  have h2 : ¬ (4096 : Int) < n := by omega
  go_enter Try.func9, Try.ntmps9
  go_wp2_with fail
  go_ret2
  exact ⟨rfl, flAt_new 0 n R W _ 67 _ rfl (fun h => absurd h (by decide)) rfl rfl rfl rfl rfl rfl, below_alloc (Below.refl _ _) _⟩
theorem refNew_no (n : Int) (W : World) (h : n < 0 ∨ 4096 < n) :
    Calls Try.prog 9 #[.int .i64 n] W fun e w' => e = .returned (.tuple #[.pointer none, .int .i64 1]) ∧ W = w' := by
  by_cases h1 : n < 0
  · go_enter Try.func9, Try.ntmps9
    go_wp2_with fail
    go_ret2
    exact ⟨rfl, rfl⟩
  · have h2 : (4096 : Int) < n := by omega
    go_enter Try.func9, Try.ntmps9
    go_wp2_with fail
    go_ret2
    exact ⟨rfl, rfl⟩

/-- equal texts -/
theorem same_yes (A B : Option Addr) (n n' ca cb : Nat) (l : List UInt8) (W : World) (hn : n = l.length) (hn' : n' = l.length) (hA : Bytes W W.heap.size A l) (hB : Bytes W W.heap.size B l) (hl : l.length ≤ maxLen) :
    Calls Try.prog 20 #[.slice A n ca, .slice B n' cb] W fun e W' => e = .returned (.bool true) ∧ Below W.heap.size W W' := by
  subst hn hn'
  refine (Oct.refSame_any A B ca cb l l _ _ W hA hB hl hl).mono ?_
  rintro e w ⟨he, hd⟩
  rw [beq_self_eq_true] at he
  exact ⟨he, hd.below _⟩
set_option maxHeartbeats 8000000 in
set_option maxRecDepth 100000 in
theorem refFSame_yes (num n1 c1 n2 c2 m1 k1 m2 k2 : Nat) (A1 A2 B1 B2 : Option Addr) (l1 l2 : List UInt8) (W : World) (e1 : n1 = l1.length) (e2 : n2 = l2.length) (f1 : m1 = l1.length) (f2 : m2 = l2.length)
    (hA1 : Bytes W W.heap.size A1 l1) (hA2 : Bytes W W.heap.size A2 l2) (hB1 : Bytes W W.heap.size B1 l1) (hB2 : Bytes W W.heap.size B2 l2) (hl1 : l1.length ≤ 1000) (hl2 : l2.length ≤ 1000) :
    Calls Try.prog 15 #[.agg #[.int .i64 num, .slice A1 n1 c1, .slice A2 n2 c2], .agg #[.int .i64 num, .slice B1 m1 k1, .slice B2 m2 k2]] W fun e w' => e = .returned (.bool true) ∧ Below W.heap.size W w' := by
  obtain ⟨w1, hw1⟩ : ∃ w1, w1 = (W.alloc (.cells #[.int .i64 num, .slice A1 n1 c1, .slice A2 n2 c2] 40)).alloc (.cells #[.int .i64 num, .slice B1 m1 k1, .slice B2 m2 k2] 40) := ⟨_, rfl⟩
  have hb1 : Below W.heap.size W w1 := by rw [hw1]; exact below_alloc (below_alloc (Below.refl _ _) _) _
  have hsz : W.heap.size + 2 = w1.heap.size := by rw [hw1]; simp
  have x0 : w1.cell? ⟨W.heap.size, 0, none⟩ = some (.int .i64 num) := by rw [hw1]; simp [go_sem]
  have x1 : w1.cell? ⟨W.heap.size, 1, none⟩ = some (.slice A1 n1 c1) := by rw [hw1]; simp [go_sem]
  have x2 : w1.cell? ⟨W.heap.size, 2, none⟩ = some (.slice A2 n2 c2) := by rw [hw1]; simp [go_sem]
  have y0 : w1.cell? ⟨W.heap.size + 1, 0, none⟩ = some (.int .i64 num) := by rw [hw1, World.cell?_alloc_at _ _ _ _ (by simp)]; simp
  have y1 : w1.cell? ⟨W.heap.size + 1, 1, none⟩ = some (.slice B1 m1 k1) := by rw [hw1, World.cell?_alloc_at _ _ _ _ (by simp)]; simp
  have y2 : w1.cell? ⟨W.heap.size + 1, 2, none⟩ = some (.slice B2 m2 k2) := by rw [hw1, World.cell?_alloc_at _ _ _ _ (by simp)]; simp
  have HK := Lib.hid (fun w (hb : Below w1.heap.size w1 w) => show w.cell? ⟨W.heap.size, 2, none⟩ = some (.slice A2 n2 c2) ∧ w.cell? ⟨W.heap.size + 1, 2, none⟩ = some (.slice B2 m2 k2) from
    ⟨((bcell hb).1 _ _ (by omega)).trans x2, ((bcell hb).1 _ _ (by omega)).trans y2⟩)
  have HS1 := Lib.hid (fun w (hb : Below W.heap.size W w) => same_yes A1 B1 n1 m1 c1 k1 l1 w e1 f1 (hA1.later hb) (hB1.later hb) (Nat.le_trans hl1 (by decide)))
  have HS2 := Lib.hid (fun w (hb : Below W.heap.size W w) => same_yes A2 B2 n2 m2 c2 k2 l2 w e2 f2 (hA2.later hb) (hB2.later hb) (Nat.le_trans hl2 (by decide)))
  have HB1 := Lib.hid hb1
  have HW1 := Lib.hid hw1
  have hnn : (num == num) = true := beq_self_eq_true num
  clear hb1 hw1 e1 e2 f1 f2 hA1 hA2 hB1 hB2 hl1 hl2 hsz
  go_enter Try.func15, Try.ntmps15
  go_wp2_with fail
  rw [← HW1.out]
  refine (HS1.out _ HB1.out).mono ?_
  rintro e w2 ⟨rfl, hb2⟩
  obtain ⟨z1, z2⟩ := HK.out _ hb2
  have HB2 := Lib.hid (below_next HB1.out hb2)
  clear hb2
  go_wp2_with fail
  refine (HS2.out _ HB2.out).mono ?_
  rintro e w3 ⟨rfl, hb3⟩
  have HB3 := Lib.hid (below_next HB2.out hb3)
  clear hb3
  go_wp2_with fail
  go_ret
  exact ⟨rfl, HB3.out⟩

section
variable {R : Nat → Prop} {W : World} {b : Nat} {F : Fl} {wv : Nat → Value}

theorem refLen_yes (d : Nat) (h : FlAt 0 R W b F wv) (hd : d < 2) :
    Calls Try.prog 32 #[.pointer (some ⟨b, 0, none⟩), .int .i64 d] W fun e w' => e = .returned (.int .i64 ((F.fs d).length)) ∧ W = w' := by
  obtain ⟨o, ho⟩ : ∃ o, o = 2 + 2 * d := ⟨_, rfl⟩
  obtain ⟨A, cap, ys, _, _, _, hc, hs⟩ := h.way d o hd (by omega)
  clear h
  generalize (F.fs d).length = n at *
  generalize F.sent d = s at *
  obtain rfl | rfl : d = 0 ∨ d = 1 := by omega
  all_goals (
    subst ho
    go_enter Try.func32, Try.ntmps32
    go_wp2_with fail
    go_ret
    exact ⟨rfl, rfl⟩)
theorem refLen_no (d : Int) (hd : d < 0 ∨ 2 ≤ d) :
    Calls Try.prog 32 #[.pointer (some ⟨b, 0, none⟩), .int .i64 d] W fun e w' => e = .returned (.int .i64 0) ∧ W = w' := by
  by_cases h1 : d < 0
  · go_enter Try.func32, Try.ntmps32
    go_wp2_with fail
    go_ret
    exact ⟨rfl, rfl⟩
  · have h2 : 1 < d := by omega
    go_enter Try.func32, Try.ntmps32
    go_wp2_with fail
    go_ret
    exact ⟨rfl, rfl⟩
theorem refSent_yes (d : Nat) (h : FlAt 0 R W b F wv) (hd : d < 2) :
    Calls Try.prog 33 #[.pointer (some ⟨b, 0, none⟩), .int .i64 d] W fun e w' => e = .returned (.int .i64 (F.sent d)) ∧ W = w' := by
  obtain ⟨o, ho⟩ : ∃ o, o = 2 + 2 * d := ⟨_, rfl⟩
  obtain ⟨A, cap, ys, _, _, _, hc, hs⟩ := h.way d o hd (by omega)
  clear h
  generalize (F.fs d).length = n at *
  generalize F.sent d = s at *
  obtain rfl | rfl : d = 0 ∨ d = 1 := by omega
  all_goals (
    subst ho
    go_enter Try.func33, Try.ntmps33
    go_wp2_with fail
    go_ret
    exact ⟨rfl, rfl⟩)
theorem refSent_no (d : Int) (hd : d < 0 ∨ 2 ≤ d) :
    Calls Try.prog 33 #[.pointer (some ⟨b, 0, none⟩), .int .i64 d] W fun e w' => e = .returned (.int .i64 0) ∧ W = w' := by
  by_cases h1 : d < 0
  · go_enter Try.func33, Try.ntmps33
    go_wp2_with fail
    go_ret
    exact ⟨rfl, rfl⟩
  · have h2 : 1 < d := by omega
    go_enter Try.func33, Try.ntmps33
    go_wp2_with fail
    go_ret
    exact ⟨rfl, rfl⟩
/-- what the document's At tells: the flight's own bytes -/
def ToldR (R : Nat → Prop) (w : World) (b : Nat) (wv : Nat → Value) (x : Frm) (e : Ending) (w' : World) : Prop :=
  ∃ v1 v2, e = .returned (.tuple #[.agg #[.int .i64 x.num, v1, v2], .int .i64 0]) ∧ TextP (fun g => ¬ Mut b wv g ∧ R g ∧ g < w.heap.size) w' v1 x.wire ∧ TextP (fun g => ¬ Mut b wv g ∧ R g ∧ g < w.heap.size) w' v2 x.first ∧ Below w.heap.size w w' ∧ x.wire.length ≤ 1000 ∧ x.first.length ≤ 1000
set_option maxHeartbeats 8000000 in
set_option maxRecDepth 100000 in
theorem refAt_yes (d i : Nat) (h : FlAt 0 R W b F wv) (hd : d < 2) (hi : i < (F.fs d).length) :
    Calls Try.prog 29 #[.pointer (some ⟨b, 0, none⟩), .int .i64 d, .int .i64 i] W (ToldR R W b wv (nthF (F.fs d) i)) := by
  obtain ⟨o, ho⟩ : ∃ o, o = 2 + 2 * d := ⟨_, rfl⟩
  obtain ⟨w1, hw1⟩ : ∃ w1, w1 = W.alloc (.cells #[.int .i64 0, .slice none 0 0, .slice none 0 0] 40) := ⟨_, rfl⟩
  have hb1 : Below W.heap.size W w1 := by rw [hw1]; exact below_alloc (Below.refl _ _) _
  have h1 : FlAt 0 (fun k => R k ∧ k < W.heap.size) w1 b F wv := h.chg (chg_below hb1) (fun _ _ h => h) (fun k hk _ hR => ⟨fun h => h, hR, hk⟩)
  obtain ⟨A, cap, ys, hv, hr, hf, hc1, _⟩ := h1.way d o hd (by omega)
  obtain ⟨g, off, rfl, hg, hy0, hy1, hy2, _⟩ := hr.at_ hi
  obtain ⟨v1, v2, q0, q1, q2, tx1, tx2, hx1, hx2⟩ := hf i hi
  rw [q0] at hy0
  rw [q1] at hy1
  rw [q2] at hy2
  have hgW : ¬ g = W.heap.size := by have := (h.row d hd).lt g (by rw [hv]; rfl); omega
  have hgW2 : ¬ W.heap.size = g := fun e => hgW e.symm
  obtain ⟨A1, c1, rfl, l1, m1, ra1⟩ := tx1
  obtain ⟨A2, c2, rfl, l2, m2, ra2⟩ := tx2
  have k0 : w1.cell? ⟨W.heap.size, 0, none⟩ = some (.int .i64 0) := by rw [hw1]; simp [go_sem]
  have k1 : w1.cell? ⟨W.heap.size, 1, none⟩ = some (.slice none 0 0) := by rw [hw1]; simp [go_sem]
  have k2 : w1.cell? ⟨W.heap.size, 2, none⟩ = some (.slice none 0 0) := by rw [hw1]; simp [go_sem]
  have kz : ∀ j, w1.frozen? ⟨W.heap.size, j, none⟩ = false := by intro j; rw [hw1]; simp [go_sem]
  have HFIN := Lib.hid (fun w6 (hb6 : Below w1.heap.size w1 w6 ∨ Below W.heap.size W w6) => show ToldR R W b wv (nthF (F.fs d) i) (.returned (.tuple #[.agg #[.int .i64 (nthF (F.fs d) i).num, .slice A1 (nthF (F.fs d) i).wire.length c1, .slice A2 (nthF (F.fs d) i).first.length c2], .int .i64 0])) w6 by
    have hb : Below W.heap.size W w6 := by
      rcases hb6 with h | h
      · exact below_next hb1 h
      · exact h
    have key : ∀ {A : Option Addr} {l : List UInt8}, RestAt (fun k => ¬ Mut b wv k ∧ (R k ∧ k < W.heap.size)) w1 A l → RestAt (fun k => ¬ Mut b wv k ∧ R k ∧ k < W.heap.size) w6 A l := fun ha hl => by
      obtain ⟨b', off', q1, q2, q3, q4⟩ := ha hl
      exact ⟨b', off', q1, Nat.lt_of_lt_of_le q3.2.2 hb.size, q3, fun j hj => by
        rw [(bcell hb).1 _ _ q3.2.2, ← (bcell hb1).1 _ _ q3.2.2]
        exact q4 j hj⟩
    exact ⟨_, _, rfl, ⟨A1, c1, rfl, l1, m1, key ra1⟩, ⟨A2, c2, rfl, l2, m2, key ra2⟩, hb, hx1, hx2⟩)
  have hbW := h.hb
  have hgl : g < W.heap.size := (h.row d hd).lt g (by rw [hv]; rfl)
  have z0 := ((bcell hb1).1 _ _ hbW).symm.trans hc1
  have z1 := ((bcell hb1).1 _ _ hgl).symm.trans hy0
  have z2 := ((bcell hb1).1 _ _ hgl).symm.trans hy1
  have z3 := ((bcell hb1).1 _ _ hgl).symm.trans hy2
  have hbn : ¬ b = W.heap.size := by omega
  have hbn2 : ¬ W.heap.size = b := by omega
  subst hw1
  have hin : (i : Int) < ((F.fs d).length : Int) := by omega
  have hin2 : ¬ ((F.fs d).length : Int) ≤ (i : Int) := by omega
  clear h h1 hr hf hv q0 q1 q2 ra1 ra2 hb1 hi l1 m1 l2 m2 hx1 hx2 hc1 hy0 hy1 hy2 k0 k1 k2 kz
  generalize nthF (F.fs d) i = x at *
  generalize (F.fs d).length = n at *
  obtain rfl | rfl : d = 0 ∨ d = 1 := by omega
  all_goals (
    subst ho
    go_enter Try.func29, Try.ntmps29
    go_wp2_with fail
    exact bodyPost_ret (v := .tuple #[.agg #[.int .i64 x.num, .slice A1 x.wire.length c1, .slice A2 x.first.length c2], .int .i64 0]) (by simp [results, Try.results29, go_sem]) rfl (HFIN.out _ (.inr (below_alloc (Below.refl _ _) _))))
set_option maxRecDepth 100000 in
theorem refAt_no (d i : Int) (hd : d < 0 ∨ 2 ≤ d) :
    Calls Try.prog 29 #[.pointer (some ⟨b, 0, none⟩), .int .i64 d, .int .i64 i] W (ToldNo W 1) := by
  have hbx : Below W.heap.size W (W.alloc (.cells #[.int .i64 0, .slice none 0 0, .slice none 0 0] 40)) := below_alloc (Below.refl _ _) _

  rcases hd with hd | hd
  all_goals (first | (have h2 : 1 < d := by omega) | skip)
  all_goals (
    go_enter Try.func29, Try.ntmps29
    go_wp2_with fail
    exact bodyPost_ret (v := .tuple #[.agg #[.int .i64 0, .slice none 0 0, .slice none 0 0], .int .i64 1]) (by simp [results, Try.results29, go_sem]) rfl ⟨rfl, hbx⟩)
set_option maxRecDepth 100000 in
theorem refAt_none (d : Nat) (i : Int) (h : FlAt 0 R W b F wv) (hd : d < 2) (hi : i < 0 ∨ ((F.fs d).length : Int) ≤ i) :
    Calls Try.prog 29 #[.pointer (some ⟨b, 0, none⟩), .int .i64 d, .int .i64 i] W (ToldNo W 4) := by
  have hbx : Below W.heap.size W (W.alloc (.cells #[.int .i64 0, .slice none 0 0, .slice none 0 0] 40)) := below_alloc (Below.refl _ _) _
  obtain ⟨o, ho⟩ : ∃ o, o = 2 + 2 * d := ⟨_, rfl⟩
  obtain ⟨A, cap, ys, _, _, _, hc1, _⟩ := h.way d o hd (by omega)
  have hbW := h.hb
  have hbn : ¬ b = W.heap.size := by omega
  have hbn2 : ¬ W.heap.size = b := by omega
  clear h
  generalize (F.fs d).length = n at *
  obtain rfl | rfl : d = 0 ∨ d = 1 := by omega
  all_goals subst ho
  all_goals rcases hi with hi | hi
  all_goals (
    go_enter Try.func29, Try.ntmps29
    go_wp2_with fail
    exact bodyPost_ret (v := .tuple #[.agg #[.int .i64 0, .slice none 0 0, .slice none 0 0], .int .i64 4]) (by simp [results, Try.results29, go_sem]) rfl ⟨rfl, hbx⟩)
end
end Go.Proofs.Ytogijioehdaefaa.Flt
