
/- Layer 16 (flight): the code's Take. -/
import Derived.Test.YtogijioehdaefaaFltE
attribute [local go_sem ↓] Go.wp_at_zero Go.wp_at_succ
namespace Go.Proofs.Ytogijioehdaefaa.Flt
open Go.RowKit Go.Proofs.Ytogijioehdaefaa.Mem Go.Proofs.Ytogijioehdaefaa.Oct Go.Proofs.Ytogijioehdaefaa.Pkt Go.Proofs.Ytogijioehdaefaa.Def Go.Proofs.Ytogijioehdaefaa.Ed

/-- one direction's slice is another one now -/
theorem way_step {k : Nat} {R : Nat → Prop} {W w4 : World} {b d o : Nat} {F : Fl} {wv : Nat → Value} {v' : Value} {l' : List Frm} (h : FlAt k R W b F wv) (hd : d < 2) (ho : o = k + 2 + 2 * d)
    (hc : Chg (fun g => (wv d).ownBlock = some g) W w4) (hlie : ∀ g, v'.ownBlock = some g → (wv d).ownBlock = some g ∨ W.heap.size ≤ g) (hrow : RowF (fun g => ¬ Mut b (upd wv d v') g ∧ R g) w4 v' l') :
    FlAt k R (w4.setCell ⟨b, o, none⟩ v') b { F with fs := upd F.fs d l' } (upd wv d v') ∧ Chg (Mut b wv) W (w4.setCell ⟨b, o, none⟩ v') ∧ (∀ g, Mut b (upd wv d v') g → Mut b wv g ∨ W.heap.size ≤ g) := by
  obtain ⟨w5, hw5⟩ : ∃ w5, w5 = w4.setCell ⟨b, o, none⟩ v' := ⟨_, rfl⟩
  rw [← hw5]
  have hb0 := h.hb
  have hbb := h.ap d hd
  have c4 : Chg (fun g => g = b) w4 w5 := by rw [hw5]; exact chg_set w4 ⟨b, o, none⟩ _
  have cW : Chg (fun g => g = b ∨ (wv d).ownBlock = some g) W w5 := (hc.mono fun _ e => .inr e).trans (c4.mono fun _ e => .inl e)
  have cell4 : ∀ i, w4.cell? ⟨b, i, none⟩ = W.cell? ⟨b, i, none⟩ := fun i => hc.cell (p := ⟨b, i, none⟩) hb0 hbb
  have cell5 : ∀ i, i ≠ o → w5.cell? ⟨b, i, none⟩ = W.cell? ⟨b, i, none⟩ := fun i e1 => by rw [hw5, set_other e1, cell4]
  have hslc : w5.cell? ⟨b, o, none⟩ = some v' := by
    rw [hw5]
    refine set_self (x := wv d) ?_
    rw [cell4]
    have := h.l d hd
    rwa [← ho] at this
  have hfz : ∀ i, w5.frozen? ⟨b, i, none⟩ = false := fun i => by
    rw [hw5, set_fz, hc.frozen (p := ⟨b, i, none⟩) hb0 hbb]
    exact h.fz i
  have hnb : v'.ownBlock ≠ some b := fun e => by
    rcases hlie b e with h1 | h1
    · exact hbb h1
    · omega
  have hrow5 : RowF (fun g => ¬ Mut b (upd wv d v') g ∧ R g) w5 v' l' := hrow.chg c4 (fun g hg e => hnb (e ▸ hg)) (fun g _ hp e => hp.1 (.inl e)) (fun _ _ hp => hp)
  obtain ⟨q1, q2⟩ := h.turn (w' := w5) (gone' := F.gone) (sent' := F.sent d) (v' := v') (l' := l') hd cW ((cell5 _ (by omega)).trans h.gone) (by rw [← ho]; exact hslc) ((cell5 _ (by omega)).trans (h.sent d hd))
    (fun i _ e2 _ => cell5 i (by omega)) hfz hlie hrow5
  rw [upd_self] at q1
  refine ⟨q1, cW.mono fun g e => ?_, q2⟩
  rcases e with rfl | e
  · exact .inl rfl
  · exact Mut.d hd e

/-- an element is cut out -/
theorem take_step {k : Nat} {R : Nat → Prop} {W W1 w4 : World} {b d o n i m cap cap' : Nat} {F : Fl} {wv : Nat → Value} {A A' : Option Addr} {ys : List Value} (h : FlAt k R W b F wv) (hd : d < 2) (ho : o = k + 2 + 2 * d) (hn : n = (F.fs d).length) (hi : i < n)
    (hv : wv d = .slice A n cap) (hf : FrOk (fun g => ¬ Mut b wv g ∧ R g) W ys (F.fs d)) (hys : ys.length = n * 3) (hb : Below W.heap.size W W1) (hm : m = n - (i + 1))
    (r1 : RowAt w4 A' (i + m) cap' (ys.take (i * 3) ++ ys.drop ((i + 1) * 3))) (r2 : W1.grownBy w4 (Value.ownBlock (.slice A i i))) (r3 : LiesA W1 A A') :
    FlAt k R (w4.setCell ⟨b, o, none⟩ (.slice A' (i + m) cap')) b (take F d i) (upd wv d (.slice A' (i + m) cap')) ∧ Chg (Mut b wv) W (w4.setCell ⟨b, o, none⟩ (.slice A' (i + m) cap')) ∧
      (∀ g, Mut b (upd wv d (.slice A' (i + m) cap')) g → Mut b wv g ∨ W.heap.size ≤ g) := by
  have own : ∀ g, (Value.slice A i i).ownBlock = some g ↔ (wv d).ownBlock = some g := fun g => by rw [hv]; cases A <;> exact Iff.rfl
  have hc : Chg (fun g => (wv d).ownBlock = some g) W w4 := ((chg_below hb).mono fun _ e => e.elim).trans ((chg_grown r2).mono fun g e => (own g).1 e.symm)
  have hlie : ∀ g, (Value.slice A' (i + m) cap').ownBlock = some g → (wv d).ownBlock = some g ∨ W.heap.size ≤ g := fun g hg => by
    rcases r3 with e | ⟨a, e, hge⟩
    · left
      subst e
      rw [hv]
      cases A' with
      | none => simp [Value.ownBlock] at hg
      | some a => exact hg
    · right
      subst e
      simp only [Value.ownBlock, Option.some.injEq] at hg
      have := hb.size
      omega
  refine way_step (l' := (F.fs d).take i ++ (F.fs d).drop (i + 1)) h hd ho hc hlie ⟨A', cap', ys.take (i * 3) ++ ys.drop ((i + 1) * 3), ?_, ?_, FrOk.append ?_ ?_ ?_⟩
  · congr 1
    rw [List.length_append, List.length_take, List.length_drop]
    omega
  · rw [show ((F.fs d).take i ++ (F.fs d).drop (i + 1)).length = i + m by rw [List.length_append, List.length_take, List.length_drop]; omega]
    exact r1
  · refine (hf.take i).chg hc (fun g _ hp e => hp.1 (Mut.d hd e)) (fun g hg hp => ⟨fun hm' => ?_, hp.2⟩)
    rcases hm'.cases with rfl | ⟨e, he, h1⟩
    · exact hp.1 (.inl rfl)
    · by_cases hed : e = d
      · subst hed
        rw [upd_same] at h1
        rcases hlie g h1 with h2 | h2
        · exact hp.1 (Mut.d hd h2)
        · omega
      · rw [upd_other _ _ hed] at h1
        exact hp.1 (Mut.d he h1)
  · rw [List.length_take, List.length_take, hys]
    omega
  · refine (hf.drop (i + 1)).chg hc (fun g _ hp e => hp.1 (Mut.d hd e)) (fun g hg hp => ⟨fun hm' => ?_, hp.2⟩)
    rcases hm'.cases with rfl | ⟨e, he, h1⟩
    · exact hp.1 (.inl rfl)
    · by_cases hed : e = d
      · subst hed
        rw [upd_same] at h1
        rcases hlie g h1 with h2 | h2
        · exact hp.1 (Mut.d hd h2)
        · omega
      · rw [upd_other _ _ hed] at h1
        exact hp.1 (Mut.d he h1)
theorem FrOk.cells1 {p : Nat → Prop} {w : World} {ys : List Value} {l : List Frm} (h : FrOk p w ys l) (hl : ys.length = l.length * 3) : ∀ u ∈ ys, u.oneCell' = true := by
  intro u hu
  obtain ⟨j, hj, rfl⟩ := List.getElem_of_mem hu
  obtain ⟨v1, v2, h1, h2, h3, ⟨_, _, t1, _⟩, ⟨_, _, t2, _⟩, _⟩ := h (j / 3) (by omega)
  have e := List.getElem?_eq_getElem hj
  have hc : j % 3 = 0 ∨ j % 3 = 1 ∨ j % 3 = 2 := by omega
  rcases hc with hc | hc | hc
  · rw [show j / 3 * 3 = j by omega, e] at h1
    injection h1 with h1
    rw [h1]
    rfl
  · rw [show j / 3 * 3 + 1 = j by omega, e] at h2
    injection h2 with h2
    rw [h2, t1]
    rfl
  · rw [show j / 3 * 3 + 2 = j by omega, e] at h3
    injection h3 with h3
    rw [h3, t2]
    rfl

section
variable {R : Nat → Prop} {W : World} {b : Nat} {F : Fl} {wv : Nat → Value}
/-- what Take hands back: the frame; what it leaves -/
def Took (k : Nat) (R : Nat → Prop) (W : World) (b : Nat) (wv : Nat → Value) (F' : Fl) (x : Frm) (e : Ending) (w' : World) : Prop :=
  ∃ v1 v2, e = .returned (.tuple #[.agg #[.int .i64 x.num, v1, v2], .int .i64 0]) ∧ TextP (fun g => ¬ Mut b wv g ∧ R g) w' v1 x.wire ∧ TextP (fun g => ¬ Mut b wv g ∧ R g) w' v2 x.first ∧ Acted k R W b wv F' w'
set_option maxHeartbeats 8000000 in
set_option maxRecDepth 100000 in
theorem Take_yes (d i : Nat) (h : FlAt 1 R W b F wv) (hd : d < 2) (hi : i < (F.fs d).length) (hn : (F.fs d).length ≤ 5000) :
    Calls Try.prog 13 #[.pointer (some ⟨b, 0, none⟩), .int .i64 d, .int .i64 i] W (Took 1 R W b wv (take F d i) (nthF (F.fs d) i)) := by
  obtain ⟨o, ho⟩ : ∃ o, o = 3 + 2 * d := ⟨_, rfl⟩
  obtain ⟨w1, hw1⟩ : ∃ w1, w1 = W.alloc (.cells #[.int .i64 0, .slice none 0 0, .slice none 0 0] 40) := ⟨_, rfl⟩
  have hb1 : Below W.heap.size W w1 := by rw [hw1]; exact below_alloc (Below.refl _ _) _
  have h1 : FlAt 1 (fun k => R k ∧ k ≠ W.heap.size) w1 b F wv := h.chg (chg_below hb1) (fun _ _ h => h) (fun k hk _ hR => ⟨fun h => h, hR, by omega⟩)
  obtain ⟨A, cap, ys, hv, hr, hf, hc1, _⟩ := h1.way d o hd (by omega)
  obtain ⟨g, off, rfl, hg, hy0, hy1, hy2, _⟩ := hr.at_ hi
  obtain ⟨v1, v2, q0, q1, q2, tx1, tx2, hx1, hx2⟩ := hf i hi
  rw [q0] at hy0
  rw [q1] at hy1
  rw [q2] at hy2
  have tt1 := tx1
  have tt2 := tx2
  obtain ⟨A1, c1, rfl, _, _, ra1⟩ := tx1
  obtain ⟨A2, c2, rfl, _, _, ra2⟩ := tx2
  have HA := Lib.hid (at_yes d o i h1 hd ho hi)
  obtain ⟨n, hnn⟩ : ∃ n, n = (F.fs d).length := ⟨_, rfl⟩
  rw [← hnn] at hv hr hc1 hi hn
  obtain ⟨w2, hw2⟩ : ∃ w2, w2 = w1.alloc (.cells #[.int .i64 (nthF (F.fs d) i).num, .slice A1 (nthF (F.fs d) i).wire.length c1, .slice A2 (nthF (F.fs d) i).first.length c2] 40) := ⟨_, rfl⟩
  have hb2 : Below w1.heap.size w1 w2 := by rw [hw2]; exact below_alloc (Below.refl _ _) _
  have hb02 := below_next hb1 hb2
  have hsz1 : W.heap.size < w1.heap.size := by rw [hw1]; simp
  have hb : b < w1.heap.size := h1.hb
  have k1 : w2.cell? ⟨b, o, none⟩ = some (.slice (some ⟨g, off, none⟩) n cap) := ((bcell hb2).1 _ _ hb).trans hc1
  have hle := hr.le
  have hcm : (cap : Int) ≤ 9223372036854775807 := by have := hr.max; unfold maxLen at this; omega
  have hn0 : i + 1 ≤ n := hi
  have r0 : RowAt w2 (some ⟨g, off, none⟩) n cap ys := hr.chg (chg_below hb2) (fun _ _ h => h)
  have rt := r0.take (k := i) (by omega)
  have e1 : (0 : Int) ≤ (i : Int) := by omega
  have e2 : (i : Int) ≤ (cap : Int) := by omega
  have e3 : (0 : Int) ≤ (i : Int) + 1 := by omega
  have e4 : (i : Int) + 1 ≤ (n : Int) := by omega
  have e5 : (n : Int) ≤ (cap : Int) := by omega
  have e6 : IntKind.i64.wrap ((i : Int) + 1) = (i : Int) + 1 := by rw [IntKind.wrap_i64]; omega
  have e7 : (i : Int) < (n : Int) := by omega
  have hob : 3 ≤ o := by omega
  have hgW : g < W.heap.size := (h.row d hd).lt g (by rw [hv]; rfl)
  have hbW : b < W.heap.size := h.hb
  have hx12 : w1.heap.size < w2.heap.size := by rw [hw2]; simp
  have HRT := Lib.hid (fun w (hw : Drawn w2 w) => rt.chg (drawn_chg hw) (fun _ _ h => h))
  have HNE := Lib.hid (fun w (hw : Drawn w2 w) j u (hu : (ys.drop ((i + 1) * 3))[j]? = some u) => show w.cell? ((⟨g, off + (i + 1) * 3, none⟩ : Addr).add j) = some u by
    obtain ⟨g', off', e, _, e2⟩ := r0.cells (by omega)
    simp only [Option.some.injEq, Addr.mk.injEq, and_true] at e
    obtain ⟨rfl, rfl⟩ := e
    rw [List.getElem?_drop] at hu
    rw [Addr.add_lit, drawn_cell hw, Nat.add_assoc]
    exact e2 _ u hu)
  have HLN := Lib.hid (show (ys.drop ((i + 1) * 3)).length = (n - (i + 1)) * 3 by rw [List.length_drop, hr.len, Nat.sub_mul])
  have HON := Lib.hid (show ∀ u ∈ ys.drop ((i + 1) * 3), u.oneCell' = true from fun u hu => hf.cells1 (by rw [hr.len, hnn]) u (List.mem_of_mem_drop hu))
  have HK := Lib.hid (fun w4 v (hg4 : w2.drew.grownBy w4 (some g)) => show
      (((w4.setCell ⟨b, o, none⟩ v).cell? ⟨w1.heap.size, 0, none⟩ = some (.int .i64 (nthF (F.fs d) i).num) ∧ (w4.setCell ⟨b, o, none⟩ v).cell? ⟨w1.heap.size, 1, none⟩ = some (.slice A1 (nthF (F.fs d) i).wire.length c1) ∧ (w4.setCell ⟨b, o, none⟩ v).cell? ⟨w1.heap.size, 2, none⟩ = some (.slice A2 (nthF (F.fs d) i).first.length c2)) ∧
      ((w4.setCell ⟨b, o, none⟩ v).cell? ⟨W.heap.size, 0, none⟩ = some (.int .i64 0) ∧ (w4.setCell ⟨b, o, none⟩ v).cell? ⟨W.heap.size, 1, none⟩ = some (.slice none 0 0) ∧ (w4.setCell ⟨b, o, none⟩ v).cell? ⟨W.heap.size, 2, none⟩ = some (.slice none 0 0)) ∧
      (∀ j, (w4.setCell ⟨b, o, none⟩ v).frozen? ⟨W.heap.size, j, none⟩ = false) ∧ w4.cell? ⟨b, o, none⟩ = some (.slice (some ⟨g, off, none⟩) n cap) ∧ (∀ j, w4.frozen? ⟨b, j, none⟩ = false) ∧ w2.heap.size ≤ w4.heap.size) by
    have c1 : Chg (fun k => k = g) w2 w4 := ((drawn_chg (w := w2) (w' := w2.drew) ⟨1, rfl⟩).mono fun _ e => e.elim).trans ((chg_grown hg4).mono fun k e => by injection e)
    have c2 : Chg (fun k => k = b ∨ k = g) w2 (w4.setCell ⟨b, o, none⟩ v) := (c1.mono fun _ e => .inr e).trans ((chg_set w4 ⟨b, o, none⟩ v).mono fun _ e => .inl e)
    have gb : ¬ b = g := fun e => h.ap d hd (by rw [hv, e]; rfl)
    have x1 : ¬ (w1.heap.size = b ∨ w1.heap.size = g) := by omega
    have x2 : ¬ (W.heap.size = b ∨ W.heap.size = g) := by omega
    have y2 : W.heap.size < w2.heap.size := by omega
    have hbw2 : b < w2.heap.size := by omega
    have hx : ∀ j, (w4.setCell ⟨b, o, none⟩ v).cell? ⟨w1.heap.size, j, none⟩ = w2.cell? ⟨w1.heap.size, j, none⟩ := fun j => c2.cell (p := ⟨w1.heap.size, j, none⟩) hx12 x1
    have hy : ∀ j, (w4.setCell ⟨b, o, none⟩ v).cell? ⟨W.heap.size, j, none⟩ = w1.cell? ⟨W.heap.size, j, none⟩ := fun j => (c2.cell (p := ⟨W.heap.size, j, none⟩) y2 x2).trans ((bcell hb2).1 _ _ hsz1)
    refine ⟨⟨?_, ?_, ?_⟩, ⟨?_, ?_, ?_⟩, fun j => ?_, ?_, fun j => ?_, c1.size⟩
    · rw [hx, hw2]; simp [go_sem]
    · rw [hx, hw2]; simp [go_sem]
    · rw [hx, hw2]; simp [go_sem]
    · rw [hy, hw1]; simp [go_sem]
    · rw [hy, hw1]; simp [go_sem]
    · rw [hy, hw1]; simp [go_sem]
    · rw [c2.frozen (p := ⟨W.heap.size, j, none⟩) y2 x2, (chg_below hb2).frozen (p := ⟨W.heap.size, j, none⟩) hsz1 (fun h => h), hw1]; simp [go_sem]
    · rw [c1.cell (p := ⟨b, o, none⟩) hbw2 gb]; exact k1
    · rw [c1.frozen (p := ⟨b, j, none⟩) hbw2 gb, (chg_below hb02).frozen (p := ⟨b, j, none⟩) hbW (fun h => h)]; exact h.fz j)
  have HFIN := Lib.hid (fun m A' cap' w4 (hm : m = n - (i + 1)) (r1 : RowAt w4 A' (i + m) cap' (ys.take (i * 3) ++ ys.drop ((i + 1) * 3))) (r2 : w2.drew.grownBy w4 (some g)) (r3 : LiesA w2.drew (some ⟨g, off, none⟩) A') =>
    show Took 1 R W b wv (take F d i) (nthF (F.fs d) i) (.returned (.tuple #[.agg #[.int .i64 (nthF (F.fs d) i).num, .slice A1 (nthF (F.fs d) i).wire.length c1, .slice A2 (nthF (F.fs d) i).first.length c2], .int .i64 0]))
      ((((w4.setCell ⟨b, o, none⟩ (.slice A' (i + m) cap')).setCell ⟨W.heap.size, 0, none⟩ (.int .i64 (nthF (F.fs d) i).num)).setCell ⟨W.heap.size, 1, none⟩ (.slice A1 (nthF (F.fs d) i).wire.length c1)).setCell ⟨W.heap.size, 2, none⟩ (.slice A2 (nthF (F.fs d) i).first.length c2)) by
    obtain ⟨s1, s2, s3⟩ := take_step h1 hd (by omega) hnn hi hv hf hr.len (Below.drew hb2) hm r1 r2 r3
    obtain ⟨w5, hw5⟩ : ∃ w5, w5 = w4.setCell ⟨b, o, none⟩ (.slice A' (i + m) cap') := ⟨_, rfl⟩
    rw [← hw5] at s1 s2 ⊢
    have c6 : Chg (fun k => k = W.heap.size) w5 (((w5.setCell ⟨W.heap.size, 0, none⟩ (.int .i64 (nthF (F.fs d) i).num)).setCell ⟨W.heap.size, 1, none⟩ (.slice A1 (nthF (F.fs d) i).wire.length c1)).setCell ⟨W.heap.size, 2, none⟩ (.slice A2 (nthF (F.fs d) i).first.length c2)) :=
      ((chg_set _ ⟨W.heap.size, 0, none⟩ _).trans (chg_set _ ⟨W.heap.size, 1, none⟩ _)).trans (chg_set _ ⟨W.heap.size, 2, none⟩ _)
    have hmW : ∀ k, Mut b wv k → k < W.heap.size := h.lt
    have tx : ∀ {v : Value} {l : List UInt8}, TextP (fun k => ¬ Mut b wv k ∧ (R k ∧ k ≠ W.heap.size)) w1 v l → TextP (fun k => ¬ Mut b wv k ∧ R k) (((w5.setCell ⟨W.heap.size, 0, none⟩ (.int .i64 (nthF (F.fs d) i).num)).setCell ⟨W.heap.size, 1, none⟩ (.slice A1 (nthF (F.fs d) i).wire.length c1)).setCell ⟨W.heap.size, 2, none⟩ (.slice A2 (nthF (F.fs d) i).first.length c2)) v l := fun ht =>
      (ht.chg s2 (r := fun k => ¬ Mut b wv k ∧ (R k ∧ k ≠ W.heap.size)) (fun k _ hp hm => hp.1 hm) (fun _ _ hp => hp)).chg c6 (fun k _ hp e => hp.2.2 e) (fun k _ hp => ⟨hp.1, hp.2.1⟩)
    refine ⟨_, _, rfl, tx tt1, tx tt2, _, s1.chg c6 (fun k hk e => ?_) (fun k _ _ hR => ⟨fun e => hR.2 e, hR.1⟩), ?_, fun k hk => ?_⟩
    · rcases s3 k hk with h2 | h2
      · have := hmW k h2
        omega
      · omega
    · exact (((chg_below hb1).mono fun _ e => e.elim).trans s2).more c6 (fun k hk e => by omega)
    · rcases s3 k hk with h2 | h2
      · exact .inl h2
      · exact .inr (by omega))
  have HLD := Lib.hid (show n - (i + 1) = 0 → ys.drop ((i + 1) * 3) = [] from fun hz => List.eq_nil_of_length_eq_zero (by rw [List.length_drop, hr.len, ← Nat.sub_mul, hz, Nat.zero_mul]))
  have HW1 := Lib.hid hw1
  have HW2 := Lib.hid hw2
  have hWw2 : W.heap.size < w2.heap.size := by omega
  clear h h1 hr hf q0 q1 q2 ra1 ra2 hb1 hw1 hw2 hx1 hx2 ho hi hnn hv r0 rt hb02 hb2 hn0 hd tt1 tt2
  go_enter Try.func13, Try.ntmps13
  go_wp2_with fail
  rw [← HW1.out]
  refine HA.out.mono ?_
  rintro e w' ⟨rfl, rfl⟩
  go_wp2_with fail
  rw [← HW2.out]
  by_cases hcp : cap = i + 1
  · have hm0 : n - (i + 1) = 0 := by omega
    subst hcp
    have e8 : (i : Int) ≤ (i : Int) + 1 := by omega
    go_region_law (refine step_app_row _ (by rfl) _ _ (by rfl) (by rfl) (HRT.out _ (by first | exact Drawn.refl _ | exact ⟨1, rfl⟩)) ⟨g, off, none⟩ 0 0 [] (by rfl) rfl (by intro j u hu; simp at hu) (by simp) (by omega) ?_
                   intro A' cap' w4 r1 r2 r3 r4
                   obtain ⟨_, _, _, hS1, hS2, hS3⟩ := HK.out w4 (.int .i64 0) r2)
    all_goals (
      have HX := Lib.hid (HFIN.out 0 A' cap' w4 hm0.symm (by rw [HLD.out hm0]; exact r1) r2 r3)
      obtain ⟨⟨x0, x1, x2⟩, ⟨y0, y1, y2⟩, yz, _⟩ := HK.out w4 (.slice A' i cap') r2
      have hs5 : W.heap.size < (w4.setCell ⟨b, o, none⟩ (.slice A' i cap')).heap.size := by simp [World.setCell]; omega
      clear r1 r2 r3 r4 hS1 hS2 hS3
      simp only [Nat.add_zero] at HX
      generalize w4.setCell ⟨b, o, none⟩ (.slice A' i cap') = w5 at *
      go_wp2_with fail
      exact bodyPost_ret (v := .tuple #[.agg #[.int .i64 (nthF (F.fs d) i).num, .slice A1 (nthF (F.fs d) i).wire.length c1, .slice A2 (nthF (F.fs d) i).first.length c2], .int .i64 0]) (by simp [results, Try.results13, go_sem, y0, y1, y2]) rfl HX.out)
  · go_region_law (refine step_app_row _ (by rfl) _ _ (by rfl) (by rfl) (HRT.out _ (by first | exact Drawn.refl _ | exact ⟨1, rfl⟩)) ⟨g, off + (i + 1) * 3, none⟩ (n - (i + 1)) (cap - (i + 1)) (ys.drop ((i + 1) * 3)) (by rfl) HLN.out (HNE.out _ (by first | exact Drawn.refl _ | exact ⟨1, rfl⟩)) HON.out (by omega) ?_
                   intro A' cap' w4 r1 r2 r3 r4
                   obtain ⟨_, _, _, hS1, hS2, hS3⟩ := HK.out w4 (.int .i64 0) r2)
    all_goals (
      have HX := Lib.hid (HFIN.out (n - (i + 1)) A' cap' w4 rfl r1 r2 r3)
      obtain ⟨⟨x0, x1, x2⟩, ⟨y0, y1, y2⟩, yz, _⟩ := HK.out w4 (.slice A' (i + (n - (i + 1))) cap') r2
      have hs5 : W.heap.size < (w4.setCell ⟨b, o, none⟩ (.slice A' (i + (n - (i + 1))) cap')).heap.size := by simp [World.setCell]; omega
      clear r1 r2 r3 r4 hS1 hS2 hS3
      generalize w4.setCell ⟨b, o, none⟩ (.slice A' (i + (n - (i + 1))) cap') = w5 at *
      go_wp2_with fail
      exact bodyPost_ret (v := .tuple #[.agg #[.int .i64 (nthF (F.fs d) i).num, .slice A1 (nthF (F.fs d) i).wire.length c1, .slice A2 (nthF (F.fs d) i).first.length c2], .int .i64 0]) (by simp [results, Try.results13, go_sem, y0, y1, y2]) rfl HX.out)
end
end Go.Proofs.Ytogijioehdaefaa.Flt
