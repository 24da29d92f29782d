
/- Layer 16 (flight): the document's Put, one direction. (printed by gen_fltu.py) -/
import Derived.Test.YtogijioehdaefaaFltU
attribute [local go_sem ↓] Go.wp_at_zero Go.wp_at_succ
namespace Go.Proofs.Ytogijioehdaefaa.Flt
open Go.RowKit Go.Proofs.Ytogijioehdaefaa.Mem Go.Proofs.Ytogijioehdaefaa.Oct Go.Proofs.Ytogijioehdaefaa.Pkt Go.Proofs.Ytogijioehdaefaa.Def Go.Proofs.Ytogijioehdaefaa.Ed
section
variable {R : Nat → Prop} {W : World} {b : Nat} {F : Fl} {wv : Nat → Value}

set_option maxHeartbeats 16000000 in
set_option maxRecDepth 100000 in
theorem refPut_0 (m ca : Nat) (A1 : Option Addr) (l : List UInt8) (h : FlAt 0 R W b F wv) (hR : ∀ g, W.heap.size ≤ g → R g) (hA : RestAt (fun g => ¬ Mut b wv g) W A1 l) (hm : m = l.length) (hl : l.length ≤ 512)
    (hn : (F.fs 0).length ≤ 1000) (hs : F.sent 0 ≤ 100000) (hg : F.gone ≤ 1000000) (hnum : ∀ i, i < (F.fs 0).length → (nthF (F.fs 0) i).num ≤ 100000) (hrise : Rise (putL F 0 l)) :
    Calls Try.prog 12 #[.pointer (some ⟨b, 0, none⟩), .int .i64 0, .slice A1 m ca] W fun e w' => e = .returned (.int .i64 0) ∧ Acted 0 R W b wv (put F 0 l) w' := by
  have hd : 0 < 2 := by decide
  obtain ⟨A, cap, ys, hv, hr, hf, hc1, hc2⟩ := h.way 0 2 hd (by decide)
  obtain ⟨n, hnn⟩ : ∃ n, n = (F.fs 0).length := ⟨_, rfl⟩
  rw [← hnn] at hc1 hr hv hn hnum
  obtain ⟨W1, hW1⟩ : ∃ W1, W1 = W.setCell ⟨b, 2 + 1, none⟩ (.int .i64 ((F.sent 0 : Int) + 1)) := ⟨_, rfl⟩
  have hfz := h.fz
  have c1 : Chg (fun g => g = b) W W1 := by rw [hW1]; exact chg_set W ⟨b, 2 + 1, none⟩ _
  have hbb : ∀ a, A = some a → ¬ a.block = b := fun a ha e => h.ap 0 hd (by rw [hv, ha]; exact congrArg some e)
  have hA1 : Bytes W1 W1.heap.size A1 l := (hA.chg c1 (fun g _ hp e => hp (.inl e))).bytes
  have hr1 := hr.chg c1 hbb
  have hk1 : W1.cell? ⟨b, 2, none⟩ = some (.slice A n cap) := by rw [hW1, set_other (by omega)]; exact hc1
  have hk2 : W1.cell? ⟨b, 2 + 1, none⟩ = some (.int .i64 ((F.sent 0 : Int) + 1)) := by rw [hW1]; exact set_self hc2
  have hkz : ∀ i, W1.frozen? ⟨b, i, none⟩ = false := fun i => by rw [hW1, set_fz]; exact hfz i
  have hsz1 : W1.heap.size = W.heap.size := by rw [hW1]; simp [World.setCell]
  have hb1 : b < W1.heap.size := by rw [hsz1]; exact h.hb
  have HK := Lib.hid (fun w (hb : Below W1.heap.size W1 w) => show w.cell? ⟨b, 2, none⟩ = some (.slice A n cap) ∧ w.cell? ⟨b, 2 + 1, none⟩ = some (.int .i64 ((F.sent 0 : Int) + 1)) from ⟨((bcell hb).1 _ _ hb1).trans hk1, ((bcell hb).1 _ _ hb1).trans hk2⟩)
  have HC := Lib.hid (fun w (hb : Below W1.heap.size W1 w) => show Calls Try.prog 19 #[.slice A1 m ca] w (Gives w l) from Pkt.Copy_any A1 m ca l w hm (hA1.later hb) (by omega))
  have HRW := Lib.hid (fun w (hb : Below W1.heap.size W1 w) => hr1.chg (chg_below hb) (fun _ _ h => h))
  have hbo : ¬ some b = Value.ownBlock (.slice A n cap) := fun e => h.ap 0 hd (by rw [hv]; exact e.symm)
  have HK4 := Lib.hid (fun wa w4 (hb : Below W1.heap.size W1 wa) (hg : wa.grownBy w4 (Value.ownBlock (.slice A n cap))) =>
    show (w4.cell? ⟨b, 2, none⟩ = some (.slice A n cap) ∧ w4.cell? ⟨b, 2 + 1, none⟩ = some (.int .i64 ((F.sent 0 : Int) + 1))) ∧ ∀ i, w4.frozen? ⟨b, i, none⟩ = false from
      ⟨⟨by rw [(chg_grown hg).cell (p := ⟨b, 2, none⟩) (Nat.lt_of_lt_of_le hb1 hb.size) hbo]; exact ((bcell hb).1 _ _ hb1).trans hk1,
        by rw [(chg_grown hg).cell (p := ⟨b, 2 + 1, none⟩) (Nat.lt_of_lt_of_le hb1 hb.size) hbo]; exact ((bcell hb).1 _ _ hb1).trans hk2⟩,
        fun i => by rw [(chg_grown hg).frozen (p := ⟨b, i, none⟩) (Nat.lt_of_lt_of_le hb1 hb.size) hbo, (chg_below hb).frozen (p := ⟨b, i, none⟩) hb1 (fun h => h)]; exact hkz i⟩)
  have hwr : IntKind.i64.wrap ((F.sent 0 : Int) + 1) = (F.sent 0 : Int) + 1 := by rw [IntKind.wrap_i64]; omega
  have h512 : ¬ (512 : Int) < (m : Int) := by omega
  have h4096 : ¬ (4096 : Int) ≤ (n : Int) := by omega
  have HW1 := Lib.hid hW1
  have HH := Lib.hid h
  have hlen : (putL F 0 l).length = n + 1 := by unfold putL; rw [List.length_append, hnn]; rfl
  have HLEN := Lib.hid hlen
  have HNUM := Lib.hid (fun i (hi : i < n + 1) => show (nthF (putL F 0 l) i).num ≤ 100001 by
    unfold putL
    by_cases hin : i < n
    · rw [nthF_append_left _ _ (by rw [← hnn]; exact hin)]
      have := hnum i hin
      omega
    · have e : i = (F.fs 0).length := by omega
      rw [e]
      unfold nthF
      simp only [List.getD_eq_getElem?_getD, List.getElem?_append_right (Nat.le_refl _), Nat.sub_self, List.getElem?_cons_zero, Option.getD_some]
      omega)
  have HEQ := Lib.hid (And.intro hnn hv)
  have HF := Lib.hid hf
  have HLY := Lib.hid hr.len
  have HRS := Lib.hid hrise
  clear c1 hA1 hA hr1 hnn hsz1 hm hv hf hr hW1 hnum h hbb hbo hlen hrise hd
  go_enter Try.func12, Try.ntmps12
  go_upto_region 11 with fail
  go_cut [] (fun wx => ∃ wv1, FlAt 0 R wx b (put1 F 0 l) wv1 ∧ Chg (Mut b wv) W wx ∧ (∀ g, Mut b wv1 g → Mut b wv g ∨ W.heap.size ≤ g))
  case first =>
    rw [← HW1.out]
    go_region_law (first
      | (go_simp; go_at_call 19; refine (HC.out _ (by exact Below.drew (Below.refl W1.heap.size W1))).mono ?_; rintro e w2 ⟨v2, rfl, ho2, hb2⟩; obtain ⟨A2, n2, c2, rfl, hn2⟩ := own_shape' ho2
         have hb12 := below_undrew hb2
         obtain ⟨hS1, hS2⟩ := HK.out _ hb12)
      | (go_simp; go_at_call 19; ((with_reducible refine (HC.out _ ?_).mono ?_); exact hb12); rintro e w3 ⟨v3, rfl, ho3, hb3⟩; obtain ⟨A3, n3, c3, rfl, hn3⟩ := own_shape' ho3
         have hb13 := below_next hb12 hb3
         obtain ⟨hS3, hS4⟩ := HK.out _ hb13
         have hq1 : b < w3.heap.size := Nat.lt_of_lt_of_le hb1 hb13.size
         have hq2 : ¬ b = w3.heap.size := Nat.ne_of_lt hq1
         have hq3 : ¬ w3.heap.size = b := Ne.symm hq2)
      | (refine step_app_row _ (by rfl) _ _ (by rfl) (by rfl) (HRW.out _ (below_alloc hb13 _)) ⟨w3.heap.size, 0, none⟩ 1 1 [.int .i64 ((F.sent 0 : Int) + 1), .slice A2 n2 c2, .slice A3 n3 c3] (by rfl) rfl (news_of w3 40 _ _ _ _ rfl) (by intro u hu; simp only [List.mem_cons, List.not_mem_nil, or_false] at hu; rcases hu with rfl | rfl | rfl <;> rfl) (by omega) ?_
         intro A' cap' w4 r1 r2 r3 r4
         obtain ⟨⟨hS5, hS6⟩, hz4⟩ := HK4.out _ _ (below_alloc hb13 _) r2))
    all_goals (
      have q := put_step HH.out (d := 0) (by decide) (by decide) HEQ.out.1 HEQ.out.2 HF.out hR HLY.out HW1.out hb13
        ((textP_of' ho2).chg (chg_below hb3) (fun _ _ _ h => h) (fun _ _ h => h)) ((textP_of' ho3).chg (Chg.refl (fun _ => False) _) (fun _ _ _ h => h) (fun g _ hp => Nat.le_trans hb12.size hp)) (Nat.le_trans hl (by decide)) 40 r1 r2 r3
      go_wp2_with fail
      go_meet
      exact ⟨_, q⟩)
  case rest =>
    obtain ⟨wv1, h5, k5, m5⟩ := hcut
    obtain ⟨A5, cap5, ys5, hv5, hr5, hf5, hd1, hd2⟩ := h5.way 0 2 (by decide) (by decide)
    have hlife : wc.cell? ⟨b, 0, none⟩ = some (.int .i64 F.life) := h5.life
    have hgone : wc.cell? ⟨b, 1, none⟩ = some (.int .i64 F.gone) := h5.gone
    have hb5 : b < wc.heap.size := h5.hb
    have hz5 : ∀ i, wc.frozen? ⟨b, i, none⟩ = false := h5.fz
    have hfs : (put1 F 0 l).fs 0 = putL F 0 l := upd_same F.fs 0 (putL F 0 l)
    have hse : (put1 F 0 l).sent 0 = F.sent 0 + 1 := upd_same F.sent 0 (F.sent 0 + 1)
    have hn5 : ((put1 F 0 l).fs 0).length = n + 1 := by rw [hfs]; exact HLEN.out
    rw [hn5] at hv5 hr5 hd1
    rw [hse] at hd2
    rw [hfs] at hf5
    have hnb : ∀ a, A5 = some a → ¬ a.block = b := fun a ha e => h5.ap 0 (by decide) (by rw [hv5, ha]; exact congrArg some e)
    have H5 := Lib.hid h5
    have HCM := Lib.hid (And.intro k5 m5)
    clear h5 k5 m5 HK HC HRW HK4 HW1 HH hk1 hk2 hkz hb1 HEQ HF HLY hc1 hc2 hfz
    by_cases hl0 : F.life = 0
    · have hl0I : (F.life : Int) = 0 := by omega
      have HX := Lib.hid (show Acted 0 R W b wv (put F 0 l) wc by
        have e : put F 0 l = put1 F 0 l := by
          unfold put put1 cutN
          rw [if_pos hl0, Nat.add_zero, List.drop_zero]
        rw [e]
        exact ⟨wv1, H5.out, HCM.out.1, HCM.out.2⟩)
      clear hf5 hr5 hv5 hnb
      go_wp2_with fail
      go_ret
      exact ⟨rfl, HX.out⟩
    · have hl0I : ¬ (F.life : Int) = 0 := by omega
      have hl0B : ((F.life : Int) == 0) = false := beq_eq_false_iff_ne.2 hl0I
      have HR5 := Lib.hid hr5
      have HF5 := Lib.hid hf5
      have HNB := Lib.hid hnb
      have HYS := Lib.hid (show ys5.length = (putL F 0 l).length * 3 by rw [hr5.len, HLEN.out])
      have HAB := Lib.hid (fun a (ha : A5 = some a) => hr5.blk a ha)
      have HFIN := Lib.hid (fun wr B m c cnt zs (hw : GoneW wc wr b F.gone cnt) (hrw : RowAt wr B m c zs) (hB : ∀ a, B = some a → wc.heap.size ≤ a.block) (hm : m = (selL (fun k => !old F.life (F.sent 0 + 1) (nthF (putL F 0 l) k)) (putL F 0 l) (n + 1)).length) (hz : zs = selY (fun k => !old F.life (F.sent 0 + 1) (nthF (putL F 0 l) k)) ys5 (n + 1)) (hcm : cnt + m = n + 1) =>
        show Acted 0 R W b wv (put F 0 l) (wr.setCell ⟨b, 2, none⟩ (.slice B m c)) by
          obtain ⟨w6, hw6⟩ : ∃ w6, w6 = wr.setCell ⟨b, 2, none⟩ (.slice B m c) := ⟨_, rfl⟩
          rw [← hw6]
          have c6 : Chg (fun g => g = b) wc w6 := hw.chg.trans (by rw [hw6]; exact chg_set wr ⟨b, 2, none⟩ _)
          have hlie : ∀ k, (Value.slice B m c).ownBlock = some k → wc.heap.size ≤ k := fun k hk => by
            cases B with
            | none => simp [Value.ownBlock] at hk
            | some a =>
              simp only [Value.ownBlock, Option.some.injEq] at hk
              have := hB a rfl
              omega
          have hmt : ∀ k, Mut b (upd wv1 0 (.slice B m c)) k → Mut b wv1 k ∨ wc.heap.size ≤ k := fun k hk => by
            rcases hk.cases with rfl | ⟨e, he, h2⟩
            · exact .inl (.inl rfl)
            · by_cases hed : e = 0
              · subst hed
                rw [upd_same] at h2
                exact .inr (hlie k h2)
              · rw [upd_other _ _ hed] at h2
                exact .inl (Mut.d he h2)
          have hrow : RowF (fun k => ¬ Mut b (upd wv1 0 (.slice B m c)) k ∧ R k) w6 (.slice B m c) (selL (fun k => !old F.life (F.sent 0 + 1) (nthF (putL F 0 l) k)) (putL F 0 l) (n + 1)) := by
            refine ⟨B, c, zs, by rw [← hm], ?_, ?_⟩
            · rw [← hm, hw6]
              exact hrw.chg (chg_set wr ⟨b, 2, none⟩ _) (fun a ha e => by have := hB a ha; simp only at e; omega)
            · rw [hz]
              have := sel_ok (fun k => !old F.life (F.sent 0 + 1) (nthF (putL F 0 l) k)) HF5.out HYS.out (n + 1) (by rw [HLEN.out]; exact Nat.le_refl _)
              exact this.chg c6 (fun k _ hp e => hp.1 (.inl e)) (fun k hk hp => ⟨fun hm' => by rcases hmt k hm' with h2 | h2; exact hp.1 h2; omega, hp.2⟩)
          have cell6 : ∀ j, j ≠ 1 → j ≠ 2 → w6.cell? ⟨b, j, none⟩ = wc.cell? ⟨b, j, none⟩ := fun j h1 h2 => by rw [hw6, set_other h2]; exact hw.cell j h1
          obtain ⟨q1, q2⟩ := H5.out.turn (w' := w6) (gone' := F.gone + cnt) (sent' := F.sent 0 + 1) (v' := .slice B m c) (l' := selL (fun k => !old F.life (F.sent 0 + 1) (nthF (putL F 0 l) k)) (putL F 0 l) (n + 1)) (d := 0) (by decide) (c6.mono fun _ e => .inl e)
            (by rw [hw6, set_other (by decide), Int.natCast_add]; exact hw.gone) (by rw [hw6]; exact set_self (by rw [hw.cell _ (by decide)]; exact hd1)) (by rw [cell6 _ (by decide) (by decide)]; exact hd2)
            (fun j e1 e2 e3 => cell6 j (by omega) (by omega)) (fun j => by rw [hw6, set_fz]; exact hw.fz j) (fun k hk => .inr (hlie k hk)) hrow
          have e := put_fin F 0 m cnt l HRS.out hl0 (by rw [HLEN.out]; exact hm) (by rw [HLEN.out]; exact hcm)
          rw [HLEN.out] at e
          rw [e] at q1
          exact Acted.trans HCM.out.1 HCM.out.2 ⟨_, q1, c6.mono fun _ e => .inl e, q2⟩)
      have hcap5 := hr5.le
      clear hf5 hr5 hv5 hnb H5 HCM hfs hse hn5
      go_wp2_with fail
      go_loopw [8, 9] (fun v x wr => ∃ (k m c cnt : Nat) (B : Option Addr) (zs : List Value), k ≤ n + 1 ∧ x = .int .i64 k ∧ v = .slice B m c ∧ RowAt wr B m c zs ∧ Hid (∀ a, B = some a → wc.heap.size ≤ a.block) ∧ GoneW wc wr b F.gone cnt ∧
        Hid (m = (selL (fun k => !old F.life (F.sent 0 + 1) (nthF (putL F 0 l) k)) (putL F 0 l) k).length ∧ zs = selY (fun k => !old F.life (F.sent 0 + 1) (nthF (putL F 0 l) k)) ys5 k ∧ cnt + m = k)) (fun _ x _ => n + 1 - (intOf x).toNat)
      case atStart => exact ⟨0, 0, 0, 0, none, [], Nat.zero_le _, rfl, rfl, RowAt.nil _, Lib.hid (fun _ h => by cases h), ⟨Chg.refl _ _, by simpa using hgone, fun _ _ => rfl, hz5⟩, Lib.hid ⟨rfl, rfl, rfl⟩⟩
      case round =>
        obtain ⟨k, m, c, cnt, B, zs, hk, rfl, rfl, hrow, HBB, hw, HMZ⟩ := hrel
        have hx1 : wr.cell? ⟨b, 2, none⟩ = some (.slice A5 (n + 1) cap5) := (hw.cell _ (by decide)).trans hd1
        have hx2 : wr.cell? ⟨b, 2 + 1, none⟩ = some (.int .i64 ((F.sent 0 + 1 : Nat) : Int)) := (hw.cell _ (by decide)).trans hd2
        have hx3 : wr.cell? ⟨b, 0, none⟩ = some (.int .i64 F.life) := (hw.cell _ (by decide)).trans hlife
        have hx4 : wr.cell? ⟨b, 1, none⟩ = some (.int .i64 ((F.gone : Int) + (cnt : Int))) := hw.gone
        have hxz := hw.fz
        have hbr : b < wr.heap.size := Nat.lt_of_lt_of_le hb5 hw.chg.size
        have hcnt : cnt ≤ n + 1 := by have := HMZ.out.2.2; omega
        by_cases hlt : k < n + 1
        · obtain ⟨g, off, hA, hgb, hy0, hy1, hy2, _⟩ := HR5.out.at_ hlt
          have hgne : ¬ g = b := HNB.out _ hA
          subst hA
          obtain ⟨v1, v2, y0, y1, y2, ⟨V1, l1, hv1, _, _, _⟩, ⟨V2, l2, hv2, _, _, _⟩, _⟩ := HF5.out k (by rw [HLEN.out]; exact hlt)
          subst hv1 hv2
          have hc0 : wr.cell? ⟨g, off + k * 3, none⟩ = some (.int .i64 (nthF (putL F 0 l) k).num) := (hw.chg.cell (p := ⟨g, off + k * 3, none⟩) hgb hgne).trans (hy0.trans y0)
          have hc1 : wr.cell? ⟨g, off + k * 3 + 1, none⟩ = some (.slice V1 (nthF (putL F 0 l) k).wire.length l1) := (hw.chg.cell (p := ⟨g, off + k * 3 + 1, none⟩) hgb hgne).trans (hy1.trans y1)
          have hc2 : wr.cell? ⟨g, off + k * 3 + 2, none⟩ = some (.slice V2 (nthF (putL F 0 l) k).first.length l2) := (hw.chg.cell (p := ⟨g, off + k * 3 + 2, none⟩) hgb hgne).trans (hy2.trans y2)
          have hnm := HNUM.out k hlt
          have hltI : (k : Int) < ((n + 1 : Nat) : Int) := by omega
          have hltI2 : (k : Int) < (n : Int) + 1 := by omega
          have hcast : ((F.sent 0 + 1 : Nat) : Int) = (F.sent 0 : Int) + 1 := by omega
          rw [hcast] at hx2
          have hwr2 : IntKind.i64.wrap ((F.sent 0 : Int) + 1 - ((nthF (putL F 0 l) k).num : Int)) = (F.sent 0 : Int) + 1 - ((nthF (putL F 0 l) k).num : Int) := by rw [IntKind.wrap_i64]; omega
          have hml : m ≤ 5000 := by have := HMZ.out.2.2; omega
          have hWRG : IntKind.i64.wrap ((F.gone : Int) + (cnt : Int) + 1) = (F.gone : Int) + (cnt : Int) + 1 := by rw [IntKind.wrap_i64]; omega
          have HD1 := Lib.hid (And.intro hd1 (And.intro hd2 (And.intro hlife (And.intro hgone hz5))))
          by_cases hold : old F.life (F.sent 0 + 1) (nthF (putL F 0 l) k) = true
          · have hI : ¬ ((F.sent 0 : Int) + 1 - ((nthF (putL F 0 l) k).num : Int) < (F.life : Int)) := by
              have := of_decide_eq_true hold
              omega
            have HN := Lib.hid (show m = (selL (fun k => !old F.life (F.sent 0 + 1) (nthF (putL F 0 l) k)) (putL F 0 l) (k + 1)).length ∧ zs = selY (fun k => !old F.life (F.sent 0 + 1) (nthF (putL F 0 l) k)) ys5 (k + 1) ∧ cnt + 1 + m = k + 1 by
              rw [selL_no _ _ _ (by simp only [hold, Bool.not_true]), selY_no _ _ _ (by simp only [hold, Bool.not_true])]
              exact ⟨HMZ.out.1, HMZ.out.2.1, by have := HMZ.out.2.2; omega⟩)
            have HRO := Lib.hid (fun q : Nat => (hrow.chg (drawn_chg (w' := wr.drewN q) ⟨q, rfl⟩) (fun _ _ h => h)).chg (chg_set (wr.drewN q) ⟨b, 1, none⟩ (.int .i64 ((F.gone : Int) + (cnt : Int) + 1))) (fun a ha e => by have := HBB.out a ha; simp only at e; omega))
            have HGO := Lib.hid (fun q : Nat => (hw.chg2 (w' := wr.drewN q) hbr (drawn_chg ⟨q, rfl⟩) (fun h => h) (fun _ _ h => h)).inc)
            clear hold y0 y1 y2 hrow hw hy0 hy1 hy2 HMZ hd1 hd2 hlife hgone hz5
            generalize nthF (putL F 0 l) k = x at *
            go_wp2_with fail
            go_quiet (fail)
            go_wp2_with fail
            go_roundw
            case rel => exact ⟨k + 1, m, c, cnt + 1, B, zs, by omega, by go_num, rfl, HRO.out _, HBB, HGO.out _, HN⟩
            case measure => simp [intOf]; omega
          · have hI : ((F.sent 0 : Int) + 1 - ((nthF (putL F 0 l) k).num : Int) < (F.life : Int)) := by
              have : ¬ ((F.life : Int) ≤ ((F.sent 0 + 1 : Nat) : Int) - ((nthF (putL F 0 l) k).num : Int)) := fun h => hold (decide_eq_true h)
              omega
            have hof : old F.life (F.sent 0 + 1) (nthF (putL F 0 l) k) = false := by simpa using hold
            have HN := Lib.hid (show m + 1 = (selL (fun k => !old F.life (F.sent 0 + 1) (nthF (putL F 0 l) k)) (putL F 0 l) (k + 1)).length ∧ zs ++ [.int .i64 (nthF (putL F 0 l) k).num, .slice V1 (nthF (putL F 0 l) k).wire.length l1, .slice V2 (nthF (putL F 0 l) k).first.length l2] = selY (fun k => !old F.life (F.sent 0 + 1) (nthF (putL F 0 l) k)) ys5 (k + 1) ∧ cnt + (m + 1) = k + 1 by
              rw [selL_yes _ _ _ (by simp only [hof, Bool.not_false]), selY_yes _ _ _ (by simp only [hof, Bool.not_false]) y0 y1 y2]
              exact ⟨by rw [HMZ.out.1], by rw [HMZ.out.2.1], by have := HMZ.out.2.2; omega⟩)
            have HRO := Lib.hid (fun q : Nat => (hrow.chg (drawn_chg (w' := wr.drewN q) ⟨q, rfl⟩) (fun _ _ h => h)).chg (chg_alloc (wr.drewN q) (.cells #[.int .i64 (nthF (putL F 0 l) k).num, .slice V1 (nthF (putL F 0 l) k).wire.length l1, .slice V2 (nthF (putL F 0 l) k).first.length l2] 40)) (fun _ _ h => h))
            have HGO := Lib.hid (fun q : Nat => (hw.chg2 (w' := wr.drewN q) hbr (drawn_chg ⟨q, rfl⟩) (fun h => h) (fun _ _ h => h)).chg2 (w' := (wr.drewN q).alloc (.cells #[.int .i64 (nthF (putL F 0 l) k).num, .slice V1 (nthF (putL F 0 l) k).wire.length l1, .slice V2 (nthF (putL F 0 l) k).first.length l2] 40)) hbr (chg_alloc _ _) (fun h => h) (fun _ _ h => h))
            have hbn1 : ¬ b = wr.heap.size := by omega
            have hbn2 : ¬ wr.heap.size = b := by omega
            have HSZ := Lib.hid hw.chg.size
            clear hold hof y0 y1 y2 hrow hw hy0 hy1 hy2 HMZ hd1 hd2 hlife hgone hz5
            generalize nthF (putL F 0 l) k = x at *
            go_wp2_with fail
            go_quiet (fail)
            go_wp2_with (at_builtin; refine wpList_app_row _ rfl _ _ rfl rfl (HRO.out _) ⟨wr.heap.size, 0, none⟩ 1 1 [.int .i64 x.num, .slice V1 x.wire.length l1, .slice V2 x.first.length l2] rfl rfl (news_of_at _ 40 _ rfl _ _ _) (by intro u hu; simp only [List.mem_cons, List.not_mem_nil, or_false] at hu; rcases hu with rfl | rfl | rfl <;> rfl) (by omega) ?_)
            intro A' c' w' r1 r2 r3 r4
            have HG2 := Lib.hid ((HGO.out _).chg2 (by simp; omega) (chg_grown r2) (fun e => by
              cases hB : B with
              | none => rw [hB] at e; simp [Value.ownBlock] at e
              | some a => rw [hB] at e; simp only [Value.ownBlock, Option.some.injEq] at e; have := HBB.out a hB; omega) (fun q hq e => by
              cases hB : B with
              | none => rw [hB] at e; simp [Value.ownBlock] at e
              | some a => rw [hB] at e; simp only [Value.ownBlock, Option.some.injEq] at e; have := HBB.out a hB; omega))
            obtain ⟨A2, c2, hA2, r5, r6⟩ := RowNew.app (w0 := wc) HBB.out (by simp; exact Nat.le_trans HSZ.out (Nat.le_succ _)) r1 r3
            have HR6 := Lib.hid (And.intro r1 (show ∀ a, A' = some a → wc.heap.size ≤ a.block by injection hA2 with e1; rw [e1]; exact r6))
            clear r1 r2 r3 r4 r5 r6 hA2
            go_wp2_with fail
            go_roundw
            case rel => exact ⟨k + 1, m + 1, c', cnt, A', _, by omega, by go_num, rfl, HR6.out.1, Lib.hid HR6.out.2, HG2.out, HN⟩
            case measure => simp [intOf]; omega
        · obtain rfl : k = n + 1 := by omega
          have HX := Lib.hid (HFIN.out wr B m c cnt zs hw hrow HBB.out HMZ.out.1 HMZ.out.2.1 HMZ.out.2.2)
          clear hrow hw
          go_wp2_with fail
          go_ret
          exact ⟨rfl, HX.out⟩
end
end Go.Proofs.Ytogijioehdaefaa.Flt
