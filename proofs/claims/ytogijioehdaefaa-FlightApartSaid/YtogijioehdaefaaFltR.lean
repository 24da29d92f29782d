
/- Layer 16 (flight): FlightApart: what was handed in, and what is told, is no memory of the flight. -/
import Derived.Test.YtogijioehdaefaaFltZ
import Derived.Test.YtogijioehdaefaaFltH
import Derived.Deep.DeepCutAuto
import Derived.BigRegion
attribute [local go_sem ↓] Go.wp_at_zero Go.wp_at_succ
namespace Go.Proofs.Ytogijioehdaefaa.Flt
open Go.RowKit Go.Proofs.Ytogijioehdaefaa.Mem Go.Proofs.Ytogijioehdaefaa.Oct Go.Proofs.Ytogijioehdaefaa.Pkt Go.Proofs.Ytogijioehdaefaa.Def Go.Proofs.Ytogijioehdaefaa.Ed

/-- where nothing is on its way any R will do -/
theorem FlAt.free {k : Nat} {R R' : Nat → Prop} {W : World} {b : Nat} {F : Fl} {wv : Nat → Value} (h : FlAt k R W b F wv) (h0 : ∀ d, d < 2 → F.fs d = []) : FlAt k R' W b F wv :=
  ⟨h.hb, h.made, h.life, h.gone, h.l, h.sent, h.fz, fun d hd => by
    obtain ⟨A, cap, ys, h1, h2, _⟩ := h.row d hd
    have h3 := h0 d hd
    rw [h3] at h1 h2 ⊢
    exact ⟨A, cap, ys, h1, h2, by
      have : ys = [] := List.eq_nil_of_length_eq_zero (by have := h2.len; simpa using this)
      rw [this]
      exact FrOk.nil _ _⟩, h.ap, h.ap2⟩
theorem own_some {E : TypeId} {w : World} {base n c : Nat} {A : Option Addr} {l : List UInt8} (h : Own E w base (.slice A n c) l) (h0 : 0 < l.length) : ∃ g, A = some ⟨g, 0, none⟩ ∧ base ≤ g ∧ g < w.heap.size := by
  rcases h.2 with ⟨_, h1⟩ | ⟨g, cap, cur, hv, hb, hg, _⟩
  · omega
  · simp only [Value.slice.injEq] at hv
    exact ⟨g, hv.1, hb, (Array.getElem?_eq_some_iff.1 hg).1⟩
theorem chg_dr {q : Nat → Prop} {a b : World} (h : Chg q a b) : Chg q a b.drew := ⟨h.os, h.tape, h.output, h.size, h.block⟩
theorem chg_two (w : World) (g5 g6 : Nat) (u v : Value) : Chg (fun g => g = g5 ∨ g = g6) w ((w.setCell ⟨g5, 0, none⟩ u).setCell ⟨g6, 0, none⟩ v) :=
  ((chg_set w ⟨g5, 0, none⟩ u).mono fun _ h => .inl h).trans ((chg_set _ ⟨g6, 0, none⟩ v).mono fun _ h => .inr h)
theorem chg_two' (w : World) (g5 g6 : Nat) (u v : Value) : Chg (fun g => g = g5 ∨ g = g6) w ((w.setCell ⟨g6, 0, none⟩ u).setCell ⟨g5, 0, none⟩ v) :=
  ((chg_set w ⟨g6, 0, none⟩ u).mono fun _ h => .inr h).trans ((chg_set _ ⟨g5, 0, none⟩ v).mono fun _ h => .inl h)
theorem put_new (l : List UInt8) : put (new 0) 1 l = { new 0 with fs := upd (new 0).fs 1 [⟨1, l, l⟩], sent := upd (new 0).sent 1 1 } := rfl
theorem apart_fs (l : List UInt8) : (put (new 0) 1 l).fs 1 = [⟨1, l, l⟩] := rfl
theorem apart_spoil (l : List UInt8) (es : List Edt) : (spoil (put (new 0) 1 l) 1 0 es).fs 1 = [⟨1, do1 l es, l⟩] := rfl

set_option maxHeartbeats 16000000 in
set_option maxRecDepth 100000 in
theorem FlightApart_any (n ca ce : Nat) (A E : Option Addr) (l : List UInt8) (es : List Edt) (W : World) (hn : n = l.length) (hA : Bytes W W.heap.size A l) (hE : Eds W W.heap.size E es) :
    Calls Try.prog 5 #[.slice A n ca, .slice E es.length ce] W fun e W' => e = .returned (.bool true) ∧ Below W.heap.size W W' := by
  by_cases hok : 0 < n ∧ n ≤ 500 ∧ es.length ≤ 20
  · obtain ⟨o1, o2, o3⟩ := hok
    have i1 : ¬ (500 : Int) < (n : Int) := by omega
    have i2 : ¬ (n : Int) = 0 := by omega
    have i2B : ((n : Int) == 0) = false := beq_eq_false_iff_ne.2 i2
    have i3 : ¬ (20 : Int) < (es.length : Int) := by omega
    have i4 : (0 : Int) < (n : Int) := by omega
    have HA := Lib.hid hA
    have HE := Lib.hid hE
    have HN := Lib.hid hn
    clear hA hE hn
    go_enter Try.func5, Try.ntmps5
    go_wp2_with fail
    refine (New_yes 0 (fun _ => True) W (by decide)).mono ?_
    rintro e w1 ⟨rfl, hf1, hb1⟩
    have HF1 := Lib.hid hf1
    have HB1 := Lib.hid hb1
    have HCP := Lib.hid (Pkt.Copy_any A n ca l w1 HN.out (HA.out.later hb1) (by have := HN.out; omega))
    clear hf1 hb1
    go_wp2_with fail
    refine HCP.out.mono ?_
    rintro e w2 ⟨v2, rfl, ho2, hb2⟩
    obtain ⟨A2, n2, c2, rfl, hn2⟩ := own_shape' ho2
    obtain ⟨bb, rfl, hbb1, hbb2⟩ := own_some ho2 (by have := HN.out; omega)
    have hfb : W.heap.size < w1.heap.size := HF1.out.hb
    have hmn : ∀ g, Mut W.heap.size nils g → g = W.heap.size := fun g hg => by rcases hg with h | h | h <;> first | exact h | (simp [nils, Value.ownBlock] at h)
    have hf2 : FlAt 1 (fun g => g ≠ bb) w2 W.heap.size (new 0) nils := (HF1.out.below hb2).free (fun _ _ => rfl)
    have hP := Put_yes 1 n2 c2 (some ⟨bb, 0, none⟩) l hf2 (by decide) (fun g hg e => by omega) (RestAt.own ho2 (fun g hg _ hm => by have := hmn g hm; omega)) hn2.symm (by have := HN.out; omega) (by decide) (by decide) (by decide) (fun i hi => by cases hi)
    have HP := Lib.hid (show Calls Try.prog 11 #[.pointer (some ⟨W.heap.size, 0, none⟩), .int .i64 1, .slice (some ⟨bb, 0, none⟩) n2 c2] w2 fun e w' => e = .returned (.int .i64 0) ∧ Acted 1 (fun g => g ≠ bb) w2 W.heap.size nils (put (new 0) 1 l) w' from hP)
    have HO2 := Lib.hid ho2
    have HB2 := Lib.hid (below_next HB1.out hb2)
    clear hP hf2 ho2 hb2
    go_wp2_with fail
    refine HP.out.mono ?_
    rintro e w3 ⟨rfl, wv3, hf3, hk3, hm3⟩
    have ho3 := Own.chg HO2.out hk3 (fun g hg hm => by have := hmn g hm; have := (HO2.out.lt g hg).1; omega)
    obtain ⟨q1, q2⟩ := Own.cellAt ho3 (j := 0) (by have := HN.out; omega)
    have hn2I : (0 : Int) < (n2 : Int) := by have := HN.out; omega
    have hbb3 : bb < w3.heap.size := Nat.lt_of_lt_of_le hbb2 hk3.size
    have HF3 := Lib.hid (And.intro hf3 (And.intro hk3 hm3))
    clear hf3 hk3 hm3 ho3
    go_wp2_with fail
    obtain ⟨w4, hw4⟩ : ∃ w4, w4 = w3.setCell ⟨bb, 0, none⟩ (.int .u8 (bits BinOp.xor IntKind.u8 (byteAt l 0) 1)) := ⟨_, rfl⟩
    rw [← hw4]
    obtain ⟨hf3, hk3, hm3⟩ := HF3.out
    have c4 : Chg (fun g => g = bb) w3 w4 := by rw [hw4]; exact chg_set w3 ⟨bb, 0, none⟩ _
    have hnb : ¬ Mut W.heap.size wv3 bb := fun hm => by
      rcases hm3 bb hm with h | h
      · have := hmn bb h
        omega
      · omega
    have hf4 : FlAt 1 (fun g => g ≠ bb) w4 W.heap.size (put (new 0) 1 l) wv3 := hf3.chg c4 (fun g hg e => hnb (e ▸ hg)) (fun g _ _ hR => ⟨hR, hR⟩)
    have HAT := Lib.hid (show Calls Try.prog 22 #[.pointer (some ⟨W.heap.size, 0, none⟩), .int .i64 1, .int .i64 0] w4 (ToldO w4 0 ⟨1, l, l⟩) from At_own 1 0 hf4 (by decide) (by rw [apart_fs]; exact Nat.zero_lt_one))
    have HF4 := Lib.hid hf4
    have HB4 := Lib.hid (Chg.below (Chg.below HB2.out hk3 HB2.out.size (fun g hg => by rw [hmn g hg]; exact Nat.le_refl _)) c4 (by have := HB2.out.size; have := hk3.size; omega) (fun g e => by omega))
    have HMG := Lib.hid (fun g (hg : Mut W.heap.size wv3 g) => show W.heap.size ≤ g by
      rcases hm3 g hg with h | h
      · rw [hmn g h]; exact Nat.le_refl _
      · have := HB2.out.size; omega)
    have hbb4 : bb < w4.heap.size := Nat.lt_of_lt_of_le hbb3 c4.size
    clear hf3 hk3 hm3 c4 hf4 hw4 q1 q2
    refine HAT.out.mono ?_
    rintro e w5 ⟨v1, v2, rfl, p1, p2, ap, hb5⟩
    obtain ⟨A5, n5, c5, rfl, hn5⟩ := own_shape' p1
    obtain ⟨A6, n6, c6, rfl, hn6⟩ := own_shape' p2
    obtain ⟨g5, rfl, hg5, hg5'⟩ := own_some p1 (by have := HN.out; simp only; omega)
    obtain ⟨g6, rfl, hg6, hg6'⟩ := own_some p2 (by have := HN.out; simp only; omega)
    simp only at hn5 hn6
    have hne : ¬ g5 = g6 := fun e => ap g5 rfl (by rw [e]; rfl)
    have hne' : ¬ g6 = g5 := fun e => hne e.symm
    have i5 : ((n5 : Int) == 0) = false := beq_eq_false_iff_ne.2 (by have := HN.out; omega)
    have i6 : ((n6 : Int) == 0) = false := beq_eq_false_iff_ne.2 (by have := HN.out; omega)
    have j5 : (0 : Int) < (n5 : Int) := by have := HN.out; omega
    have j6 : (0 : Int) < (n6 : Int) := by have := HN.out; omega
    obtain ⟨w6, hw6⟩ : ∃ w6, w6 = w5.alloc (.cells #[.int .i64 1, .slice (some ⟨g5, 0, none⟩) n5 c5, .slice (some ⟨g6, 0, none⟩) n6 c6] 40) := ⟨_, rfl⟩
    have hb6 : Below w5.heap.size w5 w6 := by rw [hw6]; exact below_alloc (Below.refl _ _) _
    have hs6 : w5.heap.size < w6.heap.size := by rw [hw6]; simp
    have x1 : w6.cell? ⟨w5.heap.size, 1, none⟩ = some (.slice (some ⟨g5, 0, none⟩) n5 c5) := by rw [hw6]; simp [go_sem]
    have x2 : w6.cell? ⟨w5.heap.size, 2, none⟩ = some (.slice (some ⟨g6, 0, none⟩) n6 c6) := by rw [hw6]; simp [go_sem]
    have hg56 : g5 < w6.heap.size := by omega
    have hg66 : g6 < w6.heap.size := by omega
    obtain ⟨r1, r2⟩ := Own.cellAt (Own.below p1 hb6) (j := 0) (by have := HN.out; simp only; omega)
    obtain ⟨r3, r4⟩ := Own.cellAt (Own.below p2 hb6) (j := 0) (by have := HN.out; simp only; omega)
    have hW6 : Below W.heap.size W w6 := below_next (below_next HB4.out hb5) hb6
    have SM1 := Lib.hid (same_yes (some ⟨g5, 0, none⟩) A n5 n c5 ca l w6 hn5.symm HN.out (Own.bytes (Own.below p1 hb6)) (HA.out.later hW6) (by have := HN.out; unfold maxLen; omega))
    have SM2 := Lib.hid (fun w (hb : Below w6.heap.size w6 w) => same_yes (some ⟨g6, 0, none⟩) A n6 n c6 ca l w hn6.symm HN.out (Own.bytes (Own.below (Own.below p2 hb6) hb)) (HA.out.later (below_next hW6 hb)) (by have := HN.out; unfold maxLen; omega))
    have HK := Lib.hid (fun w (hb : Below w6.heap.size w6 w) => show w.cell? ⟨w5.heap.size, 1, none⟩ = some (.slice (some ⟨g5, 0, none⟩) n5 c5) ∧ w.cell? ⟨w5.heap.size, 2, none⟩ = some (.slice (some ⟨g6, 0, none⟩) n6 c6) ∧ w.cell? ⟨g5, 0, none⟩ = some (.int .u8 (byteAt l 0)) ∧ w.cell? ⟨g6, 0, none⟩ = some (.int .u8 (byteAt l 0)) ∧ w.frozen? ⟨g5, 0, none⟩ = false ∧ w.frozen? ⟨g6, 0, none⟩ = false from
      ⟨((bcell hb).1 _ _ hs6).trans x1, ((bcell hb).1 _ _ hs6).trans x2, ((bcell hb).1 _ _ hg56).trans r1, ((bcell hb).1 _ _ hg66).trans r3, ((chg_below hb).frozen (p := ⟨g5, 0, none⟩) hg56 (fun h => h)).trans r2, ((chg_below hb).frozen (p := ⟨g6, 0, none⟩) hg66 (fun h => h)).trans r4⟩)
    have HW6 := Lib.hid hw6
    have HB6 := Lib.hid (And.intro hW6 (And.intro hb6 (And.intro hb5 (And.intro hg5 (And.intro hg5' (And.intro hg6 hg6'))))))
    clear p1 p2 ap hb5 hg5 hg5' hg6 hg6' hn5 hn6 hw6 hb6 r1 r2 r3 r4 hW6 hbb3
    go_upto_region 10 with (first
      | (go_at_call 10; rw [← HW6.out]; refine (num_any 0 w6).mono ?_; rintro e w' ⟨rfl, rfl⟩)
      | (go_at_call_of 20 (Value.slice (some ⟨g5, 0, none⟩) n5 c5); refine SM1.out.mono ?_; rintro e w7 ⟨rfl, hb7⟩
         obtain ⟨y1, y2, _⟩ := HK.out _ hb7)
      | (go_at_call_of 20 (Value.slice (some ⟨g6, 0, none⟩) n6 c6); refine (SM2.out w7 hb7).mono ?_; rintro e w8 ⟨rfl, hb8⟩
         have hb68 := below_next hb7 hb8
         obtain ⟨z1, z2, z3, z4, z5, z6⟩ := HK.out _ hb68)
      | fail)
    go_cut [] (fun wx => Hid (Chg (fun g => g = g5 ∨ g = g6) w8 wx))
    case first =>
      go_region
      all_goals (
        go_wp2_with fail
        go_meet
        exact Lib.hid (by first | exact chg_dr (chg_two _ _ _ _ _) | exact chg_dr (chg_two' _ _ _ _ _) | exact chg_two _ _ _ _ _ | exact chg_two' _ _ _ _ _))
    case rest =>
      obtain ⟨hW6, hb6, hb5, hg5, hg5', hg6, hg6'⟩ := HB6.out
      have h9 := hcut.out
      have hs4 := HB4.out.size
      have hs45 := hb5.size
      have hs68 := hb68.size
      have hs9 := h9.size
      have h8 : FlAt 1 (fun g => g ≠ bb ∧ g ≠ g5 ∧ g ≠ g6) w8 W.heap.size (put (new 0) 1 l) wv3 :=
        ((HF4.out.chg (R' := fun g => g ≠ bb ∧ g ≠ g5 ∧ g ≠ g6) (chg_below hb5) (fun _ _ h => h) (fun g hg _ hR => ⟨fun h => h, hR, by omega, by omega⟩)).below hb6).below hb68
      have hmut : ∀ g, Mut W.heap.size wv3 g → g < w4.heap.size := fun g hg => HF4.out.lt g hg
      have f9 : FlAt 1 (fun g => g ≠ bb ∧ g ≠ g5 ∧ g ≠ g6) wc W.heap.size (put (new 0) 1 l) wv3 :=
        h8.chg h9 (fun g hg e => by have := hmut g hg; omega) (fun g _ _ hR => ⟨fun e => by have := hR.2; omega, hR⟩)
      have hbW9 : Below W.heap.size W wc := Chg.below (below_next hW6 hb68) h9 (by omega) (fun g e => by omega)
      have AT2 := Lib.hid (show Calls Try.prog 22 #[.pointer (some ⟨W.heap.size, 0, none⟩), .int .i64 1, .int .i64 0] wc (ToldO wc 0 ⟨1, l, l⟩) from At_own 1 0 f9 (by decide) (by rw [apart_fs]; exact Nat.zero_lt_one))
      have HF9 := Lib.hid f9
      have HBW9 := Lib.hid hbW9
      have HMU := Lib.hid (And.intro hmut (And.intro (show w4.heap.size ≤ wc.heap.size by omega) (show bb < wc.heap.size ∧ g5 < wc.heap.size ∧ g6 < wc.heap.size by omega)))
      clear hW6 hb6 hb5 hg5 hg5' hg6 hg6' h9 hcut hs4 hs45 hs68 hs9 h8 hmut f9 hbW9 z1 z2 z3 z4 z5 z6 y1 y2 x1 x2 hb7 hb8 hb68 hs6 hbb1 hbb2 hnb hfb hmn hn2 hg56 hg66 hbb4
      go_wp2_with fail
      refine AT2.out.mono ?_
      rintro e w10 ⟨v3, v4, rfl, p3, p4, _, hb10⟩
      obtain ⟨A7, n7, c7, rfl, hn7⟩ := own_shape' p3
      obtain ⟨A8, n8, c8, rfl, hn8⟩ := own_shape' p4
      simp only at hn7 hn8
      obtain ⟨w11, hw11⟩ : ∃ w11, w11 = w10.alloc (.cells #[.int .i64 1, .slice A7 n7 c7, .slice A8 n8 c8] 40) := ⟨_, rfl⟩
      have hb11 : Below w10.heap.size w10 w11 := by rw [hw11]; exact below_alloc (Below.refl _ _) _
      have hs11 : w10.heap.size < w11.heap.size := by rw [hw11]; simp
      have b1 : w11.cell? ⟨w10.heap.size, 1, none⟩ = some (.slice A7 n7 c7) := by rw [hw11]; simp [go_sem]
      obtain ⟨hmut, hs4c, hs5, hs6, hs7⟩ := HMU.out
      have hs10 := hb10.size
      have hbW11 := below_next (below_next HBW9.out hb10) hb11
      have f11 := (HF9.out.below hb10).below hb11
      have o11 : Own 5 w11 wc.heap.size (.slice A7 n7 c7) l := Own.below p3 hb11
      have SP := Lib.hid (Spoil_yes 1 0 ce E es f11 (by decide) (by rw [apart_fs]; exact Nat.zero_lt_one) (fun g hg => ⟨by omega, by omega, by omega⟩) ((HE.out.below hbW11 (Nat.le_refl _)).mono hbW11.size) (by omega))
      have HO11 := Lib.hid o11
      have HW11 := Lib.hid hw11
      have HBW11 := Lib.hid hbW11
      clear hs4c hs5 hs6 hs7 hmut hbW11 f11 o11 hw11 hb11 p3 p4 hn8
      go_wp2_with fail
      rw [← HW11.out]
      refine SP.out.mono ?_
      rintro e w12 ⟨rfl, wv12, f12, k12, m12⟩
      obtain ⟨x, hx⟩ : ∃ x : Frm, x = ⟨1, do1 l es, l⟩ := ⟨_, rfl⟩
      have hxf : x.first = l := by rw [hx]
      have TK := Lib.hid (show Calls Try.prog 13 #[.pointer (some ⟨W.heap.size, 0, none⟩), .int .i64 1, .int .i64 0] w12 (Took 1 (fun g => g ≠ bb ∧ g ≠ g5 ∧ g ≠ g6) w12 W.heap.size wv12 (take (spoil (put (new 0) 1 l) 1 0 es) 1 0) x) from by
        rw [hx]
        exact Take_yes 1 0 f12 (by decide) (by rw [apart_spoil]; exact Nat.zero_lt_one) (by rw [apart_spoil]; exact (by decide : 1 ≤ 5000)))
      have hmw : ∀ g, wc.heap.size ≤ g → ¬ Mut W.heap.size wv3 g := fun g hg hm => by
        obtain ⟨hmut, h4c, _⟩ := HMU.out
        have := hmut g hm
        omega
      have o12 : Own 5 w12 wc.heap.size (.slice A7 n7 c7) l := Own.chg HO11.out k12 (fun g hg hm => hmw g (HO11.out.lt g hg).1 hm)
      have b12 : w12.cell? ⟨w10.heap.size, 1, none⟩ = some (.slice A7 n7 c7) := (k12.cell (p := ⟨w10.heap.size, 1, none⟩) hs11 (hmw _ hs10)).trans b1
      have hbW12 : Below W.heap.size W w12 := Chg.below HBW11.out k12 HBW11.out.size HMG.out
      have HK12 := Lib.hid (And.intro o12 (And.intro b12 (And.intro hbW12 (And.intro hmw (And.intro m12 (And.intro k12.size hxf))))))
      clear o12 b12 hbW12 hmw m12 k12 f12 hx hxf b1
      go_wp2_with fail
      refine TK.out.mono ?_
      rintro e w13 ⟨u1, u2, rfl, t1, t2, wv13, f13, k13, m13⟩
      obtain ⟨B1, d1, rfl, _, _, ra1⟩ := t1
      obtain ⟨B2, d2, rfl, _, _, ra2⟩ := t2
      obtain ⟨z1, hz1⟩ : ∃ z1, z1 = x.wire.length := ⟨_, rfl⟩
      obtain ⟨z2, hz2⟩ : ∃ z2, z2 = x.first.length := ⟨_, rfl⟩
      rw [← hz1, ← hz2]
      obtain ⟨o12, b12, hbW12, hmw, m12, hs12, hxf⟩ := HK12.out
      have hm12 : ∀ g, wc.heap.size ≤ g → g < w11.heap.size → ¬ Mut W.heap.size wv12 g := fun g h1 h2 hm => by
        rcases m12 g hm with h3 | h3
        · exact hmw g h1 h3
        · omega
      have o13 : Own 5 w13 wc.heap.size (.slice A7 n7 c7) l := Own.chg o12 k13 (fun g hg hm => hm12 g (HO11.out.lt g hg).1 (HO11.out.lt g hg).2 hm)
      have b13 : w13.cell? ⟨w10.heap.size, 1, none⟩ = some (.slice A7 n7 c7) := (k13.cell (p := ⟨w10.heap.size, 1, none⟩) (Nat.lt_of_lt_of_le hs11 hs12) (hm12 _ hs10 hs11)).trans b12
      have hbW13 : Below W.heap.size W w13 := Chg.below hbW12 k13 hbW12.size (fun g hg => by
        rcases m12 g hg with h3 | h3
        · exact HMG.out g h3
        · have := HBW11.out.size
          omega)
      obtain ⟨w14, hw14⟩ : ∃ w14, w14 = w13.alloc (.cells #[.int .i64 x.num, .slice B1 z1 d1, .slice B2 z2 d2] 40) := ⟨_, rfl⟩
      have hb14 : Below w13.heap.size w13 w14 := by rw [hw14]; exact below_alloc (Below.refl _ _) _
      have hs13 : w10.heap.size < w13.heap.size := Nat.lt_of_lt_of_le (Nat.lt_of_lt_of_le hs11 hs12) k13.size
      have hs14 : w13.heap.size < w14.heap.size := by rw [hw14]; simp
      have b14 : w14.cell? ⟨w10.heap.size, 1, none⟩ = some (.slice A7 n7 c7) := ((bcell hb14).1 _ _ hs13).trans b13
      have e14 : w14.cell? ⟨w13.heap.size, 2, none⟩ = some (.slice B2 z2 d2) := by rw [hw14]; simp [go_sem]
      have hW14 := below_next hbW13 hb14
      rw [hxf] at ra2 hz2
      have S1 := Lib.hid (same_yes A7 A n7 n c7 ca l w14 hn7.symm HN.out (Own.bytes (Own.below o13 hb14)) (HA.out.later hW14) (by have := HN.out; unfold maxLen; omega))
      have S2 := Lib.hid (fun w (hb : Below w14.heap.size w14 w) => And.intro (((bcell hb).1 _ _ hs14).trans e14) (same_yes B2 A z2 n d2 ca l w hz2 HN.out ((ra2.bytes.later hb14).later hb) (HA.out.later (below_next hW14 hb)) (by have := HN.out; unfold maxLen; omega)))
      have HW14 := Lib.hid hw14
      have HB14 := Lib.hid hW14
      clear hm12 o13 b13 hbW13 hw14 hb14 hs13 ra1 ra2 hz1 hz2 hW14 o12 b12 hbW12 hmw m12 hs12 hxf k13 m13 f13 hs10
      go_wp2_with fail
      rw [← HW14.out]
      refine (num_any 0 w14).mono ?_
      rintro e w' ⟨rfl, rfl⟩
      go_wp2_with (first
        | (go_at_call 10; refine (num_any 0 w14).mono ?_; rintro e w' ⟨rfl, rfl⟩)
        | (go_at_call_of 20 (Value.slice A7 n7 c7); refine S1.out.mono ?_; rintro e w15 ⟨rfl, hb15⟩
           have e15 := (S2.out _ hb15).1)
        | (go_at_call 20; refine (S2.out w15 hb15).2.mono ?_; rintro e w16 ⟨rfl, hb16⟩)
        | (go_at_call 7; refine (live_any _).mono ?_; rintro e w17 ⟨rfl, hb17⟩)
        | fail)
      go_ret
      exact ⟨rfl, below_next (below_next (below_next HB14.out hb15) hb16) hb17⟩
  · have hc : (500 : Int) < (n : Int) ∨ (¬ (500 : Int) < (n : Int) ∧ (n : Int) = 0) ∨ (¬ (500 : Int) < (n : Int) ∧ ¬ (n : Int) = 0 ∧ (20 : Int) < (es.length : Int)) := by omega
    clear hok hA hE hn
    rcases hc with h1 | ⟨h1, h2⟩ | ⟨h1, h2, h3⟩
    all_goals (
      go_enter Try.func5, Try.ntmps5
      go_wp2_with fail
      refine (live_any _).mono ?_
      rintro e w7 ⟨rfl, hb7⟩
      go_wp2
      go_ret
      exact ⟨rfl, hb7⟩)
end Go.Proofs.Ytogijioehdaefaa.Flt
