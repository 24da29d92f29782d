
/- Layer 16 (flight): the document's Spoil. (printed by gen_fltv.py) -/
import Derived.Test.YtogijioehdaefaaFltT
import Derived.Test.YtogijioehdaefaaEdH
import Derived.Deep.DeepCutAuto
attribute [local go_sem ↓] Go.wp_at_zero Go.wp_at_succ
namespace Go.Proofs.Ytogijioehdaefaa.Flt
open Go.RowKit Go.Proofs.Ytogijioehdaefaa.Mem Go.Proofs.Ytogijioehdaefaa.Oct Go.Proofs.Ytogijioehdaefaa.Pkt Go.Proofs.Ytogijioehdaefaa.Def Go.Proofs.Ytogijioehdaefaa.Ed

theorem FrOk.set3 {p : Nat → Prop} {w : World} {ys : List Value} {l : List Frm} {k : Nat} (h : FrOk p w ys l) (hy : ys.length = l.length * 3) (hk : k < l.length) {v1 v2 : Value} {x : Frm} (h1 : TextP p w v1 x.wire) (h2 : TextP p w v2 x.first) (hx : x.wire.length ≤ 1000) (hz : x.first.length ≤ 1000) :
    FrOk p w (((ys.set (k * 3) (.int .i64 x.num)).set (k * 3 + 1) v1).set (k * 3 + 2) v2) (l.set k x) := fun i hi => by
  rw [List.length_set] at hi
  obtain ⟨u1, u2, e1, e2, e3, e4, e5, e6, e7⟩ := h i hi
  rw [nthF_set _ _ _ _ hi]
  by_cases e : k = i
  · subst e
    rw [if_pos rfl]
    refine ⟨v1, v2, ?_, ?_, ?_, h1, h2, hx, hz⟩
    · rw [List.getElem?_set_ne (by omega), List.getElem?_set_ne (by omega), List.getElem?_set_self (by omega)]
    · rw [List.getElem?_set_ne (by omega), List.getElem?_set_self (by rw [List.length_set]; omega)]
    · rw [List.getElem?_set_self (by rw [List.length_set, List.length_set]; omega)]
  · rw [if_neg e]
    refine ⟨u1, u2, ?_, ?_, ?_, e4, e5, e6, e7⟩
    · rw [List.getElem?_set_ne (by omega), List.getElem?_set_ne (by omega), List.getElem?_set_ne (by omega)]; exact e1
    · rw [List.getElem?_set_ne (by omega), List.getElem?_set_ne (by omega), List.getElem?_set_ne (by omega)]; exact e2
    · rw [List.getElem?_set_ne (by omega), List.getElem?_set_ne (by omega), List.getElem?_set_ne (by omega)]; exact e3
/-- a frame is another one now -/
theorem spoil3_step {k : Nat} {R : Nat → Prop} {W : World} {b d n i g off cap : Nat} {F : Fl} {wv : Nat → Value} {ys : List Value} {v1 v2 : Value} {x : Frm} (h : FlAt k R W b F wv) (hd : d < 2) (hn : n = (F.fs d).length) (hi : i < n)
    (hv : wv d = .slice (some ⟨g, off, none⟩) n cap) (hr : RowAt W (some ⟨g, off, none⟩) n cap ys) (hf : FrOk (fun g => ¬ Mut b wv g ∧ R g) W ys (F.fs d))
    (h1 : TextP (fun g => ¬ Mut b wv g ∧ R g) W v1 x.wire) (h2 : TextP (fun g => ¬ Mut b wv g ∧ R g) W v2 x.first) (hx : x.wire.length ≤ 1000) (hz : x.first.length ≤ 1000) :
    FlAt k R (((W.setCell ⟨g, off + i * 3, none⟩ (.int .i64 x.num)).setCell ⟨g, off + i * 3 + 1, none⟩ v1).setCell ⟨g, off + i * 3 + 2, none⟩ v2) b { F with fs := upd F.fs d ((F.fs d).set i x) } wv ∧
      Chg (Mut b wv) W (((W.setCell ⟨g, off + i * 3, none⟩ (.int .i64 x.num)).setCell ⟨g, off + i * 3 + 1, none⟩ v1).setCell ⟨g, off + i * 3 + 2, none⟩ v2) := by
  obtain ⟨w5, hw5⟩ : ∃ w5, w5 = ((W.setCell ⟨g, off + i * 3, none⟩ (.int .i64 x.num)).setCell ⟨g, off + i * 3 + 1, none⟩ v1).setCell ⟨g, off + i * 3 + 2, none⟩ v2 := ⟨_, rfl⟩
  have hob : (wv d).ownBlock = some g := by rw [hv]; rfl
  have hbW := h.hb
  have hgb : ¬ g = b := fun e => h.ap d hd (by rw [hob, e])
  have cW : Chg (fun k => k = g) W w5 := by rw [hw5]; exact ((chg_set W ⟨g, off + i * 3, none⟩ _).trans (chg_set _ ⟨g, off + i * 3 + 1, none⟩ _)).trans (chg_set _ ⟨g, off + i * 3 + 2, none⟩ _)
  have key : ∀ j, w5.cell? ⟨b, j, none⟩ = W.cell? ⟨b, j, none⟩ := fun j => cW.cell (p := ⟨b, j, none⟩) hbW (fun e => hgb e.symm)
  have hmg : Mut b wv g := Mut.d hd hob
  have hlen : ((F.fs d).set i x).length = n := by rw [List.length_set, hn]
  have r5 := ((hr.set (j := i * 3) (by omega) (.int .i64 x.num)).set (j := i * 3 + 1) (by omega) v1).set (j := i * 3 + 2) (by omega) v2
  rw [← Nat.add_assoc, ← Nat.add_assoc, ← hw5] at r5
  rw [← hw5]
  have tx : ∀ {v : Value} {l : List UInt8}, TextP (fun g => ¬ Mut b wv g ∧ R g) W v l → TextP (fun g => ¬ Mut b wv g ∧ R g) w5 v l := fun ht => ht.chg cW (fun k _ hp e => hp.1 (e ▸ hmg)) (fun _ _ hp => hp)
  have hrow : RowF (fun k => ¬ Mut b (upd wv d (wv d)) k ∧ R k) w5 (wv d) ((F.fs d).set i x) := by
    rw [upd_self]
    refine ⟨some ⟨g, off, none⟩, cap, _, by rw [hlen]; exact hv, by rw [hlen]; exact r5, FrOk.set3 (hf.chg cW (fun k _ hp e => hp.1 (e ▸ hmg)) (fun _ _ hp => hp)) (by rw [hr.len, hn]) (by rw [← hn]; exact hi) (tx h1) (tx h2) hx hz⟩
  obtain ⟨q1, q2⟩ := h.turn (w' := w5) (gone' := F.gone) (sent' := F.sent d) (v' := wv d) (l' := (F.fs d).set i x) hd (cW.mono fun k e => .inr (by rw [e]; exact hob))
    ((key _).trans h.gone) ((key _).trans (h.l d hd)) ((key _).trans (h.sent d hd)) (fun j _ _ _ => key j) (fun j => (cW.frozen (p := ⟨b, j, none⟩) hbW (fun e => hgb e.symm)).trans (h.fz j)) (fun k hk => .inl hk) hrow
  rw [upd_self, upd_self] at q1
  exact ⟨q1, cW.mono fun k e => e ▸ hmg⟩

section
variable {R : Nat → Prop} {W : World} {b : Nat} {F : Fl} {wv : Nat → Value}
theorem refSpoil_err (d i c : Int) (v : Value) (hc : ¬ c = 0) (HA : ∀ w, Below W.heap.size W w → Calls Try.prog 29 #[.pointer (some ⟨b, 0, none⟩), .int .i64 d, .int .i64 i] w (ToldNo w c)) :
    Calls Try.prog 17 #[.pointer (some ⟨b, 0, none⟩), .int .i64 d, .int .i64 i, v] W fun e w' => e = .returned (.int .i64 c) ∧ Below W.heap.size W w' := by
  have HAT := Lib.hid (HA W (Below.refl _ _))
  have hcB : (c == 0) = false := beq_eq_false_iff_ne.2 hc
  clear HA
  go_enter Try.func17, Try.ntmps17
  go_wp2_with fail
  refine HAT.out.mono ?_
  rintro e w2 ⟨rfl, hb2⟩
  have HB := Lib.hid (below_alloc hb2 (.cells #[.int .i64 0, .slice none 0 0, .slice none 0 0] 40))
  clear hb2
  go_wp2_with fail
  go_ret
  exact ⟨rfl, HB.out⟩
theorem refTake_err (d i c : Int) (hc : ¬ c = 0) (HA : ∀ w, Below W.heap.size W w → Calls Try.prog 29 #[.pointer (some ⟨b, 0, none⟩), .int .i64 d, .int .i64 i] w (ToldNo w c)) :
    Calls Try.prog 14 #[.pointer (some ⟨b, 0, none⟩), .int .i64 d, .int .i64 i] W (ToldNo W c) := by
  obtain ⟨w1, hw1⟩ : ∃ w1, w1 = W.alloc (.cells #[.int .i64 0, .slice none 0 0, .slice none 0 0] 40) := ⟨_, rfl⟩
  have hb1 : Below W.heap.size W w1 := by rw [hw1]; exact below_alloc (Below.refl _ _) _
  have hsz1 : W.heap.size < w1.heap.size := by rw [hw1]; simp
  have HAT := Lib.hid (HA w1 hb1)
  have k0 : w1.cell? ⟨W.heap.size, 0, none⟩ = some (.int .i64 0) := by rw [hw1]; simp [go_sem]
  have k1 : w1.cell? ⟨W.heap.size, 1, none⟩ = some (.slice none 0 0) := by rw [hw1]; simp [go_sem]
  have k2 : w1.cell? ⟨W.heap.size, 2, none⟩ = some (.slice none 0 0) := by rw [hw1]; simp [go_sem]
  have kz : ∀ j, w1.frozen? ⟨W.heap.size, j, none⟩ = false := by intro j; rw [hw1]; simp [go_sem]
  have hcB : (c == 0) = false := beq_eq_false_iff_ne.2 hc
  have HK := Lib.hid (And.intro k0 (And.intro k1 (And.intro k2 kz)))
  have HB1 := Lib.hid hb1
  have HW1 := Lib.hid hw1
  clear HA k0 k1 k2 kz hb1 hw1
  go_enter Try.func14, Try.ntmps14
  go_wp2_with fail
  rw [← HW1.out]
  refine HAT.out.mono ?_
  rintro e w2 ⟨rfl, hb2⟩
  obtain ⟨k0, k1, k2, kz⟩ := HK.out
  have g0 : w2.cell? ⟨W.heap.size, 0, none⟩ = some (.int .i64 0) := ((bcell hb2).1 _ _ hsz1).trans k0
  have g1 : w2.cell? ⟨W.heap.size, 1, none⟩ = some (.slice none 0 0) := ((bcell hb2).1 _ _ hsz1).trans k1
  have g2 : w2.cell? ⟨W.heap.size, 2, none⟩ = some (.slice none 0 0) := ((bcell hb2).1 _ _ hsz1).trans k2
  have gz : ∀ j, w2.frozen? ⟨W.heap.size, j, none⟩ = false := fun j => ((bcell hb2).2 _ _ hsz1).trans (kz j)
  have hne : ¬ w2.heap.size = W.heap.size := by have := hb2.size; omega
  have hne2 : ¬ W.heap.size = w2.heap.size := fun e => hne e.symm
  have hs3 : W.heap.size < w2.heap.size := Nat.lt_of_lt_of_le hsz1 hb2.size
  have c6 : Chg (fun k => k = W.heap.size) w2 (((w2.setCell ⟨W.heap.size, 0, none⟩ (.int .i64 0)).setCell ⟨W.heap.size, 1, none⟩ (.slice none 0 0)).setCell ⟨W.heap.size, 2, none⟩ (.slice none 0 0)) :=
    ((chg_set _ ⟨W.heap.size, 0, none⟩ _).trans (chg_set _ ⟨W.heap.size, 1, none⟩ _)).trans (chg_set _ ⟨W.heap.size, 2, none⟩ _)
  have hb6 := Chg.below (below_next HB1.out hb2) c6 (by omega) (fun g e => by omega)
  have n0 : (((w2.setCell ⟨W.heap.size, 0, none⟩ (.int .i64 0)).setCell ⟨W.heap.size, 1, none⟩ (.slice none 0 0)).setCell ⟨W.heap.size, 2, none⟩ (.slice none 0 0)).cell? ⟨W.heap.size, 0, none⟩ = some (.int .i64 0) := by
    rw [set_other (by decide), set_other (by decide)]; exact set_self g0
  have n1 : (((w2.setCell ⟨W.heap.size, 0, none⟩ (.int .i64 0)).setCell ⟨W.heap.size, 1, none⟩ (.slice none 0 0)).setCell ⟨W.heap.size, 2, none⟩ (.slice none 0 0)).cell? ⟨W.heap.size, 1, none⟩ = some (.slice none 0 0) := by
    rw [set_other (by decide)]; exact set_self (x := .slice none 0 0) (by rw [set_other (by decide)]; exact g1)
  have n2 : (((w2.setCell ⟨W.heap.size, 0, none⟩ (.int .i64 0)).setCell ⟨W.heap.size, 1, none⟩ (.slice none 0 0)).setCell ⟨W.heap.size, 2, none⟩ (.slice none 0 0)).cell? ⟨W.heap.size, 2, none⟩ = some (.slice none 0 0) := by
    exact set_self (x := .slice none 0 0) (by rw [set_other (by decide), set_other (by decide)]; exact g2)
  have hsn : W.heap.size < (((w2.setCell ⟨W.heap.size, 0, none⟩ (.int .i64 0)).setCell ⟨W.heap.size, 1, none⟩ (.slice none 0 0)).setCell ⟨W.heap.size, 2, none⟩ (.slice none 0 0)).heap.size := by simp [World.setCell]; omega
  have al := fun (w : World) (hw : W.heap.size < w.heap.size) j => (bcell (below_alloc (Below.refl w.heap.size w) (.cells #[.int .i64 0, .slice none 0 0, .slice none 0 0] 40))).1 W.heap.size j hw
  have HRD := Lib.hid (And.intro ((al _ hsn 0).trans n0) (And.intro ((al _ hsn 1).trans n1) ((al _ hsn 2).trans n2)))
  clear n0 n1 n2 al
  have HB6 := Lib.hid (hb6.alloc hb6.size (.cells #[.int .i64 0, .slice none 0 0, .slice none 0 0] 40))
  clear hb2 c6 hb6 k0 k1 k2 kz
  go_wp2_with fail
  obtain ⟨r0, r1, r2⟩ := HRD.out
  exact bodyPost_ret (v := .tuple #[.agg #[.int .i64 0, .slice none 0 0, .slice none 0 0], .int .i64 c]) (by simp [results, Try.results14, go_sem, r0, r1, r2]) rfl ⟨rfl, HB6.out⟩

set_option maxHeartbeats 16000000 in
set_option maxRecDepth 100000 in
theorem refSpoil_0 (i ce : Nat) (E : Option Addr) (es : List Edt) (h : FlAt 0 R W b F wv) (hi : i < (F.fs 0).length) (hR : ∀ g, W.heap.size ≤ g → R g) (hE : Eds W W.heap.size E es) (hes : es.length ≤ 1000000) :
    Calls Try.prog 17 #[.pointer (some ⟨b, 0, none⟩), .int .i64 0, .int .i64 i, .slice E es.length ce] W fun e w' => e = .returned (.int .i64 0) ∧ Acted 0 R W b wv (spoil F 0 i es) w' := by
  have HAT := Lib.hid (refAt_yes 0 i h (by decide) hi)
  have HH := Lib.hid h
  have HE := Lib.hid hE
  have HI := Lib.hid hi
  have hbW := h.hb
  clear h hE hi
  go_enter Try.func17, Try.ntmps17
  go_wp2_with fail
  refine HAT.out.mono ?_
  rintro e w2 ⟨u1, u2, rfl, t1, t2, hb2, hx1, hx2⟩
  obtain ⟨U1, j1, rfl, p1, p2, p3⟩ := t1
  obtain ⟨U2, j2, rfl, p4, p5, p6⟩ := t2
  obtain ⟨w3, hw3⟩ : ∃ w3, w3 = w2.alloc (.cells #[.int .i64 (nthF (F.fs 0) i).num, .slice U1 (nthF (F.fs 0) i).wire.length j1, .slice U2 (nthF (F.fs 0) i).first.length j2] 40) := ⟨_, rfl⟩
  have hb23 : Below w2.heap.size w2 w3 := by rw [hw3]; exact below_alloc (Below.refl _ _) _
  have hb03 := below_next hb2 hb23
  have hs23 : w2.heap.size < w3.heap.size := by rw [hw3]; simp
  have m0 : w3.cell? ⟨w2.heap.size, 0, none⟩ = some (.int .i64 (nthF (F.fs 0) i).num) := by rw [hw3]; simp [go_sem]
  have m1 : w3.cell? ⟨w2.heap.size, 1, none⟩ = some (.slice U1 (nthF (F.fs 0) i).wire.length j1) := by rw [hw3]; simp [go_sem]
  have m2 : w3.cell? ⟨w2.heap.size, 2, none⟩ = some (.slice U2 (nthF (F.fs 0) i).first.length j2) := by rw [hw3]; simp [go_sem]
  have mz : ∀ j, w3.frozen? ⟨w2.heap.size, j, none⟩ = false := by intro j; rw [hw3]; simp [go_sem]
  have hln := do1_len es (nthF (F.fs 0) i).wire
  have HDO := Lib.hid (show Calls Try.prog 31 #[.slice U1 (nthF (F.fs 0) i).wire.length j1, .slice E es.length ce] w3 (Gives w3 (do1 (nthF (F.fs 0) i).wire es)) from
    refDo_any U1 E _ j1 ce (nthF (F.fs 0) i).wire es w3 rfl (p3.bytes.later hb23) ((HE.out.below hb03 (Nat.le_refl _)).mono hb03.size) (by omega) hes)
  have HW3 := Lib.hid hw3
  have HMZ := Lib.hid (And.intro m0 (And.intro m2 mz))
  have HB := Lib.hid (And.intro hb2 (And.intro hb23 hb03))
  have HT := Lib.hid (And.intro (And.intro p4 (And.intro p5 p6)) (And.intro hx1 (And.intro hx2 hln)))
  clear p1 p2 p3 p4 p5 p6 hx1 hx2 hln hb2 hb23 hb03 hw3 m0 m2 mz
  go_wp2_with fail
  rw [← HW3.out]
  refine HDO.out.mono ?_
  rintro e w4 ⟨v4, rfl, ho4, hb4⟩
  obtain ⟨A4, n4, c4, rfl, hn4⟩ := own_shape' ho4
  obtain ⟨m0, m2, mz⟩ := HMZ.out
  obtain ⟨w5, hw5⟩ : ∃ w5, w5 = w4.setCell ⟨w2.heap.size, 1, none⟩ (.slice A4 n4 c4) := ⟨_, rfl⟩
  have c5 : Chg (fun k => k = w2.heap.size) w4 w5 := by rw [hw5]; exact chg_set w4 ⟨w2.heap.size, 1, none⟩ _
  have x1 : w4.cell? ⟨w2.heap.size, 1, none⟩ = some (.slice U1 (nthF (F.fs 0) i).wire.length j1) := ((bcell hb4).1 _ _ hs23).trans m1
  have xz : ∀ j, w4.frozen? ⟨w2.heap.size, j, none⟩ = false := fun j => ((bcell hb4).2 _ _ hs23).trans (mz j)
  have y0 : w5.cell? ⟨w2.heap.size, 0, none⟩ = some (.int .i64 (nthF (F.fs 0) i).num) := by rw [hw5, set_other (by decide)]; exact ((bcell hb4).1 _ _ hs23).trans m0
  have y1 : w5.cell? ⟨w2.heap.size, 1, none⟩ = some (.slice A4 n4 c4) := by rw [hw5]; exact set_self x1
  have y2 : w5.cell? ⟨w2.heap.size, 2, none⟩ = some (.slice U2 (nthF (F.fs 0) i).first.length j2) := by rw [hw5, set_other (by decide)]; exact ((bcell hb4).1 _ _ hs23).trans m2
  obtain ⟨hb2, hb23, hb03⟩ := HB.out
  have hs02 := hb2.size
  have hb05 : Below W.heap.size W w5 := Chg.below (below_next hb03 hb4) c5 (by have := hb03.size; have := hb4.size; omega) (fun g e => by omega)
  have h5 := HH.out.below hb05
  obtain ⟨A, cap, ys, hv, hr, hf, hc1, _⟩ := h5.way 0 2 (by decide) (by decide)
  obtain ⟨g, off, rfl, hg, hy0, hy1, hy2, hyz⟩ := hr.at_ HI.out
  obtain ⟨z1, z2, q0, q1, q2, _, _, _, _⟩ := hf i HI.out
  rw [q0] at hy0
  rw [q1] at hy1
  rw [q2] at hy2
  obtain ⟨n, hnn⟩ : ∃ n, n = (F.fs 0).length := ⟨_, rfl⟩
  rw [← hnn] at hv hr hc1
  have hi : i < n := by rw [hnn]; exact HI.out
  have hiI : (i : Int) < (n : Int) := by omega
  have hgW : g < W.heap.size := (HH.out.row 0 (by decide)).lt g (by rw [hv]; rfl)
  have gb1 : ¬ g = w2.heap.size := by omega
  have gb2 : ¬ w2.heap.size = g := by omega
  obtain ⟨⟨p4, p5, p6⟩, hx1, hx2, hln⟩ := HT.out
  have t1 : TextP (fun k => ¬ Mut b wv k ∧ R k) w5 (.slice A4 n4 c4) (do1 (nthF (F.fs 0) i).wire es) :=
    (textP_of' ho4).chg c5 (fun k _ hp e => by omega) (fun k _ hp => ⟨fun hm => by have := HH.out.lt k hm; have := hb03.size; omega, hR k (by have := hb03.size; omega)⟩)
  have t2 : TextP (fun k => ¬ Mut b wv k ∧ R k) w5 (.slice U2 (nthF (F.fs 0) i).first.length j2) (nthF (F.fs 0) i).first :=
    ((show TextP _ _ _ _ from ⟨U2, j2, rfl, p4, p5, p6⟩).chg (chg_below (below_next hb23 hb4)) (r := fun k => ¬ Mut b wv k ∧ R k ∧ k < W.heap.size) (fun _ _ _ h => h) (fun _ _ hp => hp)).chg c5 (fun k _ hp e => by have := hp.2.2; omega) (fun k _ hp => ⟨hp.1, hp.2.1⟩)
  have HFIN := Lib.hid (show ∀ q, Acted 0 R W b wv (spoil F 0 i es) ((((w5.drewN q).setCell ⟨g, off + i * 3, none⟩ (.int .i64 (nthF (F.fs 0) i).num)).setCell ⟨g, off + i * 3 + 1, none⟩ (.slice A4 n4 c4)).setCell ⟨g, off + i * 3 + 2, none⟩ (.slice U2 (nthF (F.fs 0) i).first.length j2)) from fun q => by
    have dq : Chg (fun _ => False) w5 (w5.drewN q) := drawn_chg ⟨q, rfl⟩
    obtain ⟨s1, s2⟩ := spoil3_step (x := { nthF (F.fs 0) i with wire := do1 (nthF (F.fs 0) i).wire es }) (h5.drawn (w' := w5.drewN q) ⟨q, rfl⟩) (by decide) hnn hi hv (hr.chg dq (fun _ _ h => h)) (hf.chg dq (fun _ _ _ h => h) (fun _ _ h => h)) (t1.chg dq (fun _ _ _ h => h) (fun _ _ h => h)) (t2.chg dq (fun _ _ _ h => h) (fun _ _ h => h)) (by simp only; omega) (by simp only; omega)
    exact ⟨wv, s1, (((chg_below hb05).mono fun _ e => e.elim).trans (dq.mono fun _ e => e.elim)).trans s2, fun _ h => .inl h⟩)
  have e0 := hyz 0 (by decide)
  have e1 := hyz 1 (by decide)
  have e2 := hyz 2 (by decide)
  rw [Nat.add_zero] at e0
  have HW5 := Lib.hid hw5
  clear t1 t2 hv hr hf h5 hb05 hb2 hb23 hb03 p4 p5 p6 hx1 hx2 hln hw5 ho4 hb4 c5 m0 m1 m2 mz hn4 hnn hi hs02 q0 q1 q2 hyz
  generalize nthF (F.fs 0) i = x at *
  go_upto_region 4 with fail
  rw [← HW5.out]
  go_region
  all_goals (
    go_wp2_with fail
    go_ret
    exact ⟨rfl, by first | exact HFIN.out _ | exact HFIN.out 1 | exact HFIN.out 0⟩)

set_option maxHeartbeats 16000000 in
set_option maxRecDepth 100000 in
theorem refSpoil_1 (i ce : Nat) (E : Option Addr) (es : List Edt) (h : FlAt 0 R W b F wv) (hi : i < (F.fs 1).length) (hR : ∀ g, W.heap.size ≤ g → R g) (hE : Eds W W.heap.size E es) (hes : es.length ≤ 1000000) :
    Calls Try.prog 17 #[.pointer (some ⟨b, 0, none⟩), .int .i64 1, .int .i64 i, .slice E es.length ce] W fun e w' => e = .returned (.int .i64 0) ∧ Acted 0 R W b wv (spoil F 1 i es) w' := by
  have HAT := Lib.hid (refAt_yes 1 i h (by decide) hi)
  have HH := Lib.hid h
  have HE := Lib.hid hE
  have HI := Lib.hid hi
  have hbW := h.hb
  clear h hE hi
  go_enter Try.func17, Try.ntmps17
  go_wp2_with fail
  refine HAT.out.mono ?_
  rintro e w2 ⟨u1, u2, rfl, t1, t2, hb2, hx1, hx2⟩
  obtain ⟨U1, j1, rfl, p1, p2, p3⟩ := t1
  obtain ⟨U2, j2, rfl, p4, p5, p6⟩ := t2
  obtain ⟨w3, hw3⟩ : ∃ w3, w3 = w2.alloc (.cells #[.int .i64 (nthF (F.fs 1) i).num, .slice U1 (nthF (F.fs 1) i).wire.length j1, .slice U2 (nthF (F.fs 1) i).first.length j2] 40) := ⟨_, rfl⟩
  have hb23 : Below w2.heap.size w2 w3 := by rw [hw3]; exact below_alloc (Below.refl _ _) _
  have hb03 := below_next hb2 hb23
  have hs23 : w2.heap.size < w3.heap.size := by rw [hw3]; simp
  have m0 : w3.cell? ⟨w2.heap.size, 0, none⟩ = some (.int .i64 (nthF (F.fs 1) i).num) := by rw [hw3]; simp [go_sem]
  have m1 : w3.cell? ⟨w2.heap.size, 1, none⟩ = some (.slice U1 (nthF (F.fs 1) i).wire.length j1) := by rw [hw3]; simp [go_sem]
  have m2 : w3.cell? ⟨w2.heap.size, 2, none⟩ = some (.slice U2 (nthF (F.fs 1) i).first.length j2) := by rw [hw3]; simp [go_sem]
  have mz : ∀ j, w3.frozen? ⟨w2.heap.size, j, none⟩ = false := by intro j; rw [hw3]; simp [go_sem]
  have hln := do1_len es (nthF (F.fs 1) i).wire
  have HDO := Lib.hid (show Calls Try.prog 31 #[.slice U1 (nthF (F.fs 1) i).wire.length j1, .slice E es.length ce] w3 (Gives w3 (do1 (nthF (F.fs 1) i).wire es)) from
    refDo_any U1 E _ j1 ce (nthF (F.fs 1) i).wire es w3 rfl (p3.bytes.later hb23) ((HE.out.below hb03 (Nat.le_refl _)).mono hb03.size) (by omega) hes)
  have HW3 := Lib.hid hw3
  have HMZ := Lib.hid (And.intro m0 (And.intro m2 mz))
  have HB := Lib.hid (And.intro hb2 (And.intro hb23 hb03))
  have HT := Lib.hid (And.intro (And.intro p4 (And.intro p5 p6)) (And.intro hx1 (And.intro hx2 hln)))
  clear p1 p2 p3 p4 p5 p6 hx1 hx2 hln hb2 hb23 hb03 hw3 m0 m2 mz
  go_wp2_with fail
  rw [← HW3.out]
  refine HDO.out.mono ?_
  rintro e w4 ⟨v4, rfl, ho4, hb4⟩
  obtain ⟨A4, n4, c4, rfl, hn4⟩ := own_shape' ho4
  obtain ⟨m0, m2, mz⟩ := HMZ.out
  obtain ⟨w5, hw5⟩ : ∃ w5, w5 = w4.setCell ⟨w2.heap.size, 1, none⟩ (.slice A4 n4 c4) := ⟨_, rfl⟩
  have c5 : Chg (fun k => k = w2.heap.size) w4 w5 := by rw [hw5]; exact chg_set w4 ⟨w2.heap.size, 1, none⟩ _
  have x1 : w4.cell? ⟨w2.heap.size, 1, none⟩ = some (.slice U1 (nthF (F.fs 1) i).wire.length j1) := ((bcell hb4).1 _ _ hs23).trans m1
  have xz : ∀ j, w4.frozen? ⟨w2.heap.size, j, none⟩ = false := fun j => ((bcell hb4).2 _ _ hs23).trans (mz j)
  have y0 : w5.cell? ⟨w2.heap.size, 0, none⟩ = some (.int .i64 (nthF (F.fs 1) i).num) := by rw [hw5, set_other (by decide)]; exact ((bcell hb4).1 _ _ hs23).trans m0
  have y1 : w5.cell? ⟨w2.heap.size, 1, none⟩ = some (.slice A4 n4 c4) := by rw [hw5]; exact set_self x1
  have y2 : w5.cell? ⟨w2.heap.size, 2, none⟩ = some (.slice U2 (nthF (F.fs 1) i).first.length j2) := by rw [hw5, set_other (by decide)]; exact ((bcell hb4).1 _ _ hs23).trans m2
  obtain ⟨hb2, hb23, hb03⟩ := HB.out
  have hs02 := hb2.size
  have hb05 : Below W.heap.size W w5 := Chg.below (below_next hb03 hb4) c5 (by have := hb03.size; have := hb4.size; omega) (fun g e => by omega)
  have h5 := HH.out.below hb05
  obtain ⟨A, cap, ys, hv, hr, hf, hc1, _⟩ := h5.way 1 4 (by decide) (by decide)
  obtain ⟨g, off, rfl, hg, hy0, hy1, hy2, hyz⟩ := hr.at_ HI.out
  obtain ⟨z1, z2, q0, q1, q2, _, _, _, _⟩ := hf i HI.out
  rw [q0] at hy0
  rw [q1] at hy1
  rw [q2] at hy2
  obtain ⟨n, hnn⟩ : ∃ n, n = (F.fs 1).length := ⟨_, rfl⟩
  rw [← hnn] at hv hr hc1
  have hi : i < n := by rw [hnn]; exact HI.out
  have hiI : (i : Int) < (n : Int) := by omega
  have hgW : g < W.heap.size := (HH.out.row 1 (by decide)).lt g (by rw [hv]; rfl)
  have gb1 : ¬ g = w2.heap.size := by omega
  have gb2 : ¬ w2.heap.size = g := by omega
  obtain ⟨⟨p4, p5, p6⟩, hx1, hx2, hln⟩ := HT.out
  have t1 : TextP (fun k => ¬ Mut b wv k ∧ R k) w5 (.slice A4 n4 c4) (do1 (nthF (F.fs 1) i).wire es) :=
    (textP_of' ho4).chg c5 (fun k _ hp e => by omega) (fun k _ hp => ⟨fun hm => by have := HH.out.lt k hm; have := hb03.size; omega, hR k (by have := hb03.size; omega)⟩)
  have t2 : TextP (fun k => ¬ Mut b wv k ∧ R k) w5 (.slice U2 (nthF (F.fs 1) i).first.length j2) (nthF (F.fs 1) i).first :=
    ((show TextP _ _ _ _ from ⟨U2, j2, rfl, p4, p5, p6⟩).chg (chg_below (below_next hb23 hb4)) (r := fun k => ¬ Mut b wv k ∧ R k ∧ k < W.heap.size) (fun _ _ _ h => h) (fun _ _ hp => hp)).chg c5 (fun k _ hp e => by have := hp.2.2; omega) (fun k _ hp => ⟨hp.1, hp.2.1⟩)
  have HFIN := Lib.hid (show ∀ q, Acted 0 R W b wv (spoil F 1 i es) ((((w5.drewN q).setCell ⟨g, off + i * 3, none⟩ (.int .i64 (nthF (F.fs 1) i).num)).setCell ⟨g, off + i * 3 + 1, none⟩ (.slice A4 n4 c4)).setCell ⟨g, off + i * 3 + 2, none⟩ (.slice U2 (nthF (F.fs 1) i).first.length j2)) from fun q => by
    have dq : Chg (fun _ => False) w5 (w5.drewN q) := drawn_chg ⟨q, rfl⟩
    obtain ⟨s1, s2⟩ := spoil3_step (x := { nthF (F.fs 1) i with wire := do1 (nthF (F.fs 1) i).wire es }) (h5.drawn (w' := w5.drewN q) ⟨q, rfl⟩) (by decide) hnn hi hv (hr.chg dq (fun _ _ h => h)) (hf.chg dq (fun _ _ _ h => h) (fun _ _ h => h)) (t1.chg dq (fun _ _ _ h => h) (fun _ _ h => h)) (t2.chg dq (fun _ _ _ h => h) (fun _ _ h => h)) (by simp only; omega) (by simp only; omega)
    exact ⟨wv, s1, (((chg_below hb05).mono fun _ e => e.elim).trans (dq.mono fun _ e => e.elim)).trans s2, fun _ h => .inl h⟩)
  have e0 := hyz 0 (by decide)
  have e1 := hyz 1 (by decide)
  have e2 := hyz 2 (by decide)
  rw [Nat.add_zero] at e0
  have HW5 := Lib.hid hw5
  clear t1 t2 hv hr hf h5 hb05 hb2 hb23 hb03 p4 p5 p6 hx1 hx2 hln hw5 ho4 hb4 c5 m0 m1 m2 mz hn4 hnn hi hs02 q0 q1 q2 hyz
  generalize nthF (F.fs 1) i = x at *
  go_upto_region 4 with fail
  rw [← HW5.out]
  go_region
  all_goals (
    go_wp2_with fail
    go_ret
    exact ⟨rfl, by first | exact HFIN.out _ | exact HFIN.out 1 | exact HFIN.out 0⟩)

theorem refSpoil_yes (d i ce : Nat) (E : Option Addr) (es : List Edt) (h : FlAt 0 R W b F wv) (hd : d < 2) (hi : i < (F.fs d).length) (hR : ∀ g, W.heap.size ≤ g → R g) (hE : Eds W W.heap.size E es) (hes : es.length ≤ 1000000) :
    Calls Try.prog 17 #[.pointer (some ⟨b, 0, none⟩), .int .i64 d, .int .i64 i, .slice E es.length ce] W fun e w' => e = .returned (.int .i64 0) ∧ Acted 0 R W b wv (spoil F d i es) w' := by
  obtain rfl | rfl : d = 0 ∨ d = 1 := by omega
  · exact refSpoil_0 i ce E es h hi hR hE hes
  · exact refSpoil_1 i ce E es h hi hR hE hes
end
end Go.Proofs.Ytogijioehdaefaa.Flt
