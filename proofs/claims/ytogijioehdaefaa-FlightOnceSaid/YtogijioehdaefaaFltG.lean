
/- Layer 16 (flight): the code's Spoil. -/
import Derived.Test.YtogijioehdaefaaFltE
attribute [local go_sem ↓] Go.wp_at_zero Go.wp_at_succ
namespace Go.Proofs.Ytogijioehdaefaa.Flt
open Go.RowKit Go.Proofs.Ytogijioehdaefaa.Mem Go.Proofs.Ytogijioehdaefaa.Oct Go.Proofs.Ytogijioehdaefaa.Pkt Go.Proofs.Ytogijioehdaefaa.Def Go.Proofs.Ytogijioehdaefaa.Ed

/-- a frame's bytes are other ones now -/
theorem spoil_step {k : Nat} {R : Nat → Prop} {W w2 : World} {b d n i g off cap : Nat} {F : Fl} {wv : Nat → Value} {ys : List Value} {v2 : Value} {es : List Edt} (h : FlAt k R W b F wv) (hd : d < 2) (hn : n = (F.fs d).length) (hi : i < n)
    (hv : wv d = .slice (some ⟨g, off, none⟩) n cap) (hr : RowAt W (some ⟨g, off, none⟩) n cap ys) (hf : FrOk (fun g => ¬ Mut b wv g ∧ R g) W ys (F.fs d)) (hR : ∀ g, W.heap.size ≤ g → R g) (hb : Below W.heap.size W w2)
    (ho : TextP (fun g => W.heap.size ≤ g) w2 v2 (do1 (nthF (F.fs d) i).wire es)) (hl : (do1 (nthF (F.fs d) i).wire es).length ≤ 1000) :
    FlAt k R (w2.setCell ⟨g, off + (i * 3 + 1), none⟩ v2) b (spoil F d i es) wv ∧ Chg (Mut b wv) W (w2.setCell ⟨g, off + (i * 3 + 1), none⟩ v2) := by
  obtain ⟨w5, hw5⟩ : ∃ w5, w5 = w2.setCell ⟨g, off + (i * 3 + 1), none⟩ v2 := ⟨_, rfl⟩
  have hob : (wv d).ownBlock = some g := by rw [hv]; rfl
  have hgW := (h.row d hd).lt g hob
  have hbW := h.hb
  have hgb : ¬ g = b := fun e => h.ap d hd (by rw [hob, e])
  have c5 : Chg (fun k => k = g) w2 w5 := by rw [hw5]; exact chg_set w2 ⟨g, off + (i * 3 + 1), none⟩ _
  have cW : Chg (fun k => k = g) W w5 := ((chg_below hb).mono fun _ e => e.elim).trans c5
  have key : ∀ j, w5.cell? ⟨b, j, none⟩ = W.cell? ⟨b, j, none⟩ := fun j => cW.cell (p := ⟨b, j, none⟩) hbW (fun e => hgb e.symm)
  have hmg : Mut b wv g := Mut.d hd hob
  have hlen : ((F.fs d).set i { nthF (F.fs d) i with wire := do1 (nthF (F.fs d) i).wire es }).length = n := by rw [List.length_set, hn]
  have r2 : RowAt w2 (some ⟨g, off, none⟩) n cap ys := hr.chg (chg_below hb) (fun _ _ h => h)
  have r5 := r2.set (j := i * 3 + 1) (by omega) v2
  rw [← hw5] at r5 ⊢
  have hrow : RowF (fun k => ¬ Mut b (upd wv d (wv d)) k ∧ R k) w5 (wv d) ((F.fs d).set i { nthF (F.fs d) i with wire := do1 (nthF (F.fs d) i).wire es }) := by
    rw [upd_self]
    refine ⟨some ⟨g, off, none⟩, cap, ys.set (i * 3 + 1) v2, by rw [hlen]; exact hv, by rw [hlen]; exact r5, FrOk.set (hf.chg cW (fun k _ hp e => hp.1 (e ▸ hmg)) (fun _ _ hp => hp)) (by rw [hr.len, hn]) (by rw [← hn]; exact hi) ?_ hl⟩
    exact ho.chg c5 (fun k _ hp e => by omega) (fun k _ hp => ⟨fun hm => by have := h.lt k hm; omega, hR k hp⟩)
  obtain ⟨q1, q2⟩ := h.turn (w' := w5) (gone' := F.gone) (sent' := F.sent d) (v' := wv d) (l' := (F.fs d).set i { nthF (F.fs d) i with wire := do1 (nthF (F.fs d) i).wire es }) hd (cW.mono fun k e => .inr (by rw [e]; exact hob))
    ((key _).trans h.gone) ((key _).trans (h.l d hd)) ((key _).trans (h.sent d hd)) (fun j _ _ _ => key j) (fun j => (cW.frozen (p := ⟨b, j, none⟩) hbW (fun e => hgb e.symm)).trans (h.fz j)) (fun k hk => .inl hk) hrow
  rw [upd_self, upd_self] at q1
  exact ⟨q1, cW.mono fun k e => e ▸ hmg⟩

section
variable {R : Nat → Prop} {W : World} {b : Nat} {F : Fl} {wv : Nat → Value}
theorem Spoil_no (d i : Int) (v : Value) (h : FlAt 1 R W b F wv) (hd : d < 0 ∨ 2 ≤ d) :
    Calls Try.prog 16 #[.pointer (some ⟨b, 0, none⟩), .int .i64 d, .int .i64 i, v] W fun e w' => e = .returned (.int .i64 1) ∧ W = w' := by
  have HA := Lib.hid (at_no d i h hd)
  clear h
  go_enter Try.func16, Try.ntmps16
  go_wp2_with fail
  refine HA.out.mono ?_
  rintro e w' ⟨v, rfl, rfl⟩
  go_wp2_with fail
  go_ret
  exact ⟨rfl, rfl⟩
theorem Spoil_none (d : Nat) (i : Int) (v : Value) (h : FlAt 1 R W b F wv) (hd : d < 2) (hi : i < 0 ∨ ((F.fs d).length : Int) ≤ i) :
    Calls Try.prog 16 #[.pointer (some ⟨b, 0, none⟩), .int .i64 d, .int .i64 i, v] W fun e w' => e = .returned (.int .i64 4) ∧ W = w' := by
  have HA := Lib.hid (at_none d i h hd hi)
  clear h
  go_enter Try.func16, Try.ntmps16
  go_wp2_with fail
  refine HA.out.mono ?_
  rintro e w' ⟨v, rfl, rfl⟩
  go_wp2_with fail
  go_ret
  exact ⟨rfl, rfl⟩
set_option maxHeartbeats 8000000 in
set_option maxRecDepth 100000 in
theorem Spoil_yes (d i ce : Nat) (E : Option Addr) (es : List Edt) (h : FlAt 1 R W b F wv) (hd : d < 2) (hi : i < (F.fs d).length) (hR : ∀ g, W.heap.size ≤ g → R g) (hE : Eds W W.heap.size E es) (hes : es.length ≤ 1000000) :
    Calls Try.prog 16 #[.pointer (some ⟨b, 0, none⟩), .int .i64 d, .int .i64 i, .slice E es.length ce] W fun e w' => e = .returned (.int .i64 0) ∧ Acted 1 R W b wv (spoil F d i es) w' := by
  obtain ⟨o, ho⟩ : ∃ o, o = 3 + 2 * d := ⟨_, rfl⟩
  obtain ⟨A, cap, ys, hv, hr, hf, hc1, _⟩ := h.way d o hd (by omega)
  obtain ⟨g, off, rfl, hg, hy0, hy1, hy2, hyz⟩ := hr.at_ hi
  obtain ⟨v1, v2, q0, q1, q2, tx1, tx2, hx1, hx2⟩ := hf i hi
  rw [q1] at hy1
  obtain ⟨A1, c1, rfl, _, _, ra1⟩ := tx1
  have HA := Lib.hid (at_yes d o i h hd ho hi)
  obtain ⟨n, hnn⟩ : ∃ n, n = (F.fs d).length := ⟨_, rfl⟩
  rw [← hnn] at hv hr hc1 hi
  obtain ⟨n1, hn1⟩ : ∃ n1, n1 = (nthF (F.fs d) i).wire.length := ⟨_, rfl⟩
  rw [← hn1] at hy1 hx1
  have hln := do1_len es (nthF (F.fs d) i).wire
  have HDO := Lib.hid (fun w (hw : Drawn W w) => show Calls Try.prog 30 #[.slice A1 n1 c1, .slice E es.length ce] w (Gives w (do1 (nthF (F.fs d) i).wire es)) from
    Do_any A1 E n1 c1 ce (nthF (F.fs d) i).wire es w hn1 (ra1.bytes.later (hw.below _)) ((hE.below (hw.below _) (Nat.le_refl _)).mono (hw.below 0).size) (by omega) hes)
  have HFIN := Lib.hid (fun w2 v2 (hb : Below W.heap.size W w2) (ho : TextP (fun g => W.heap.size ≤ g) w2 v2 (do1 (nthF (F.fs d) i).wire es)) =>
    show Acted 1 R W b wv (spoil F d i es) (w2.setCell ⟨g, off + i * 3 + 1, none⟩ v2) by
      obtain ⟨s1, s2⟩ := spoil_step h hd hnn hi hv hr hf hR hb ho (by omega)
      rw [Nat.add_assoc]
      exact ⟨wv, s1, s2, fun _ h => .inl h⟩)
  have hz1 : W.frozen? ⟨g, off + i * 3 + 1, none⟩ = false := hyz 1 (by decide)
  have HK := Lib.hid (fun w2 (hb : Below W.heap.size W w2) => show w2.cell? ⟨b, o, none⟩ = some (.slice (some ⟨g, off, none⟩) n cap) ∧ w2.cell? ⟨g, off + i * 3 + 1, none⟩ = some (.slice A1 n1 c1) ∧ w2.frozen? ⟨g, off + i * 3 + 1, none⟩ = false from
    ⟨((bcell hb).1 _ _ h.hb).trans hc1, ((bcell hb).1 _ _ hg).trans hy1, ((chg_below hb).frozen (p := ⟨g, off + i * 3 + 1, none⟩) hg (fun h => h)).trans hz1⟩)
  have e1 : (i : Int) < (n : Int) := by omega
  have hob : 3 ≤ o := by omega
  clear h hr hf q0 q1 q2 ra1 hx1 hx2 ho hi hnn hv hy0 hy2 hyz hE hes hln hn1 hd hR tx2
  go_enter Try.func16, Try.ntmps16
  go_wp2_with fail
  refine HA.out.mono ?_
  rintro e w' ⟨rfl, rfl⟩
  go_wp2_with fail
  go_region_law (go_simp; go_at_call 30; refine (HDO.out _ (by first | exact Drawn.refl _ | exact ⟨1, rfl⟩)).mono ?_; rintro e w2 ⟨v2, rfl, ho2, hb2⟩; obtain ⟨A2, n2, c2, rfl, hn2⟩ := own_shape' ho2
                 have hb12 := below_undrew hb2
                 obtain ⟨hS1, hS2, hS3⟩ := HK.out _ hb12)
  all_goals (
    have HX := Lib.hid (HFIN.out w2 (.slice A2 n2 c2) hb12 (textP_of' ho2))
    clear hS1 hS2 hS3 hb12 hb2 ho2 hn2
    go_wp2_with fail
    go_ret
    exact ⟨rfl, HX.out⟩)
end
end Go.Proofs.Ytogijioehdaefaa.Flt
