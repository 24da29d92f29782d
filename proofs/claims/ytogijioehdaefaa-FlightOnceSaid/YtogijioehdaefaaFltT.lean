
/- Layer 16 (flight): the document's Take. -/
import Derived.Test.YtogijioehdaefaaFltQ
import Derived.Test.YtogijioehdaefaaFltP
attribute [local go_sem ↓] Go.wp_at_zero Go.wp_at_succ
namespace Go.Proofs.Ytogijioehdaefaa.Flt
open Go.RowKit Go.Proofs.Ytogijioehdaefaa.Mem Go.Proofs.Ytogijioehdaefaa.Oct Go.Proofs.Ytogijioehdaefaa.Pkt Go.Proofs.Ytogijioehdaefaa.Def Go.Proofs.Ytogijioehdaefaa.Ed

section
variable {R : Nat → Prop} {W : World} {b : Nat} {F : Fl} {wv : Nat → Value}
/-- a row that grows in new memory -/
def RowNew (w0 w : World) (v : Value) (m : Nat) (zs : List Value) : Prop := ∃ A c, v = .slice A m c ∧ RowAt w A m c zs ∧ (∀ a, A = some a → w0.heap.size ≤ a.block)
theorem RowNew.nil (w0 w : World) : RowNew w0 w (.slice none 0 0) 0 [] := ⟨none, 0, rfl, RowAt.nil w, fun _ h => by cases h⟩
theorem RowNew.app {w0 wa w' : World} {A A' : Option Addr} {m c' : Nat} {zs' : List Value} (hA : ∀ a, A = some a → w0.heap.size ≤ a.block) (hb : w0.heap.size ≤ wa.heap.size) (r1 : RowAt w' A' m c' zs') (r3 : LiesA wa A A') : RowNew w0 w' (.slice A' m c') m zs' := by
  refine ⟨A', c', rfl, r1, fun a ha => ?_⟩
  rcases r3 with e | ⟨a', e, hge⟩
  · exact hA a (e ▸ ha)
  · rw [e] at ha
    injection ha with ha
    subst ha
    omega
theorem below_app {w0 wa w' : World} {A : Option Addr} {m c : Nat} (hA : ∀ a, A = some a → w0.heap.size ≤ a.block) (hb : Below w0.heap.size w0 wa) (r2 : wa.grownBy w' (Value.ownBlock (.slice A m c))) : Below w0.heap.size w0 w' :=
  Below.grown hb r2 hb.size (fun k hk => by
    cases A with
    | none => simp [Value.ownBlock] at hk
    | some a =>
      simp only [Value.ownBlock, Option.some.injEq] at hk
      rw [← hk]
      exact hA a rfl)
theorem news_of_at (w : World) (T : TypeId) (g : Nat) (hg : g = w.heap.size) (c0 c1 c2 : Value) : ∀ j u, [c0, c1, c2][j]? = some u → (w.alloc (.cells #[c0, c1, c2] T)).cell? ((⟨g, 0, none⟩ : Addr).add j) = some u := by
  subst hg
  intro j u hu
  rw [Addr.add_lit, Nat.zero_add, cell_of_row _ w.heap.size j #[c0, c1, c2] T (0, 0) (heap_alloc_new w _)]
  simpa using hu

set_option maxHeartbeats 16000000 in
set_option maxRecDepth 100000 in
theorem refTake_yes (d i : Nat) (h : FlAt 0 R W b F wv) (hd : d < 2) (hi : i < (F.fs d).length) (hn : (F.fs d).length ≤ 5000) :
    Calls Try.prog 14 #[.pointer (some ⟨b, 0, none⟩), .int .i64 d, .int .i64 i] W (Took 0 R W b wv (take F d i) (nthF (F.fs d) i)) := by
  obtain ⟨o, ho⟩ : ∃ o, o = 2 + 2 * d := ⟨_, rfl⟩
  obtain ⟨w1, hw1⟩ : ∃ w1, w1 = W.alloc (.cells #[.int .i64 0, .slice none 0 0, .slice none 0 0] 40) := ⟨_, rfl⟩
  have hb1 : Below W.heap.size W w1 := by rw [hw1]; exact below_alloc (Below.refl _ _) _
  have hsz1 : W.heap.size < w1.heap.size := by rw [hw1]; simp
  have h1 : FlAt 0 (fun k => R k ∧ k ≠ W.heap.size) w1 b F wv := h.chg (chg_below hb1) (fun _ _ h => h) (fun k hk _ hR => ⟨fun h => h, hR, by omega⟩)
  have HAT := Lib.hid (refAt_yes d i h1 hd hi)
  have k0 : w1.cell? ⟨W.heap.size, 0, none⟩ = some (.int .i64 0) := by rw [hw1]; simp [go_sem]
  have k1 : w1.cell? ⟨W.heap.size, 1, none⟩ = some (.slice none 0 0) := by rw [hw1]; simp [go_sem]
  have k2 : w1.cell? ⟨W.heap.size, 2, none⟩ = some (.slice none 0 0) := by rw [hw1]; simp [go_sem]
  have kz : ∀ j, w1.frozen? ⟨W.heap.size, j, none⟩ = false := by intro j; rw [hw1]; simp [go_sem]
  have HK := Lib.hid (And.intro k0 (And.intro k1 (And.intro k2 kz)))
  have HB1 := Lib.hid hb1
  have HW1 := Lib.hid hw1
  have HH := Lib.hid h
  have HH1 := Lib.hid h1
  have hmW : ∀ k, Mut b wv k → k < W.heap.size := h.lt
  have HM := Lib.hid hmW
  have hbW := h.hb
  clear hb1 hw1 k0 k1 k2 kz h h1 hmW
  obtain ⟨n, hnn⟩ : ∃ n, n = (F.fs d).length := ⟨_, rfl⟩
  obtain ⟨A, cap, ys, hv, hr, hf, hc1, _⟩ := HH1.out.way d o hd (by omega)
  rw [← hnn] at hv hr hc1 hi hn
  have HYS := Lib.hid (show ys.length = (F.fs d).length * 3 by rw [hr.len, hnn])
  have HR := Lib.hid hr
  have HF := Lib.hid hf
  have HV := Lib.hid hv
  have HNN := Lib.hid hnn
  have hle := hr.le
  have hin : (i : Int) < (n : Int) := by omega
  have hzi : (0 : Int) ≤ (i : Int) := by omega
  have hgW : ∀ a, A = some a → a.block < W.heap.size := fun a ha => (HH.out.row d hd).lt a.block (by rw [hv, ha]; rfl)
  have HGW := Lib.hid hgW
  have HHD := Lib.hid (And.intro hd ho)
  clear hr hf hv hnn hgW
  have hod : (d = 0 ∧ o = 2) ∨ (d = 1 ∧ o = 4) := by omega
  rcases hod with ⟨hd0, ho0⟩ | ⟨hd0, ho0⟩
  · subst hd0 ho0
    clear ho hd
    go_enter Try.func14, Try.ntmps14
    go_wp2_with fail
    rw [← HW1.out]
    refine HAT.out.mono ?_
    rintro e w2 ⟨u1, u2, rfl, t1, t2, hb2, hx1, hx2⟩
    obtain ⟨U1, j1, rfl, p1, p2, p3⟩ := t1
    obtain ⟨U2, j2, rfl, p4, p5, p6⟩ := t2
    have HT := Lib.hid (And.intro (And.intro p1 (And.intro p2 p3)) (And.intro p4 (And.intro p5 p6)))
    have HB2 := Lib.hid hb2
    obtain ⟨w3, hw3⟩ : ∃ w3, w3 = w2.alloc (.cells #[.int .i64 (nthF (F.fs 0) i).num, .slice U1 (nthF (F.fs 0) i).wire.length j1, .slice U2 (nthF (F.fs 0) i).first.length j2] 40) := ⟨_, rfl⟩
    have hb23 : Below w2.heap.size w2 w3 := by rw [hw3]; exact below_alloc (Below.refl _ _) _
    have hb13 := below_next hb2 hb23
    have hs23 : w2.heap.size < w3.heap.size := by rw [hw3]; simp
    have m0 : w3.cell? ⟨w2.heap.size, 0, none⟩ = some (.int .i64 (nthF (F.fs 0) i).num) := by rw [hw3]; simp [go_sem]
    have m1 : w3.cell? ⟨w2.heap.size, 1, none⟩ = some (.slice U1 (nthF (F.fs 0) i).wire.length j1) := by rw [hw3]; simp [go_sem]
    have m2 : w3.cell? ⟨w2.heap.size, 2, none⟩ = some (.slice U2 (nthF (F.fs 0) i).first.length j2) := by rw [hw3]; simp [go_sem]
    have hbw1 : b < w1.heap.size := HH1.out.hb
    have hs12 := hb2.size
    have HC3 := Lib.hid (fun wr (hb : Below w3.heap.size w3 wr) => show wr.cell? ⟨b, 2, none⟩ = some (.slice A n cap) from ((bcell (below_next hb13 hb)).1 _ _ hbw1).trans hc1)
    have HR3 := Lib.hid (fun wr (hb : Below w3.heap.size w3 wr) => show RowAt wr A n cap ys from HR.out.chg (chg_below (below_next hb13 hb)) (fun _ _ h => h))
    have HFIN := Lib.hid (fun wr B m c zs (hb : Below w3.heap.size w3 wr) (hr : RowAt wr B m c zs) (hB : ∀ a, B = some a → w3.heap.size ≤ a.block) (hm : m = (selL (fun k => decide (k ≠ i)) (F.fs 0) n).length) (hz : zs = selY (fun k => decide (k ≠ i)) ys n) =>
      show Took 0 R W b wv (take F 0 i) (nthF (F.fs 0) i) (.returned (.tuple #[.agg #[.int .i64 (nthF (F.fs 0) i).num, .slice U1 (nthF (F.fs 0) i).wire.length j1, .slice U2 (nthF (F.fs 0) i).first.length j2], .int .i64 0]))
        ((((wr.setCell ⟨b, 2, none⟩ (.slice B m c)).setCell ⟨W.heap.size, 0, none⟩ (.int .i64 (nthF (F.fs 0) i).num)).setCell ⟨W.heap.size, 1, none⟩ (.slice U1 (nthF (F.fs 0) i).wire.length j1)).setCell ⟨W.heap.size, 2, none⟩ (.slice U2 (nthF (F.fs 0) i).first.length j2)) by
      have hb1r := below_next hb13 hb
      have e0 := selL_but (F.fs 0) i (by rw [← HNN.out]; exact hi)
      rw [← HNN.out] at e0
      have hlie : ∀ k, (Value.slice B m c).ownBlock = some k → w1.heap.size ≤ k := fun k hk => by
        cases B with
        | none => simp [Value.ownBlock] at hk
        | some a =>
          simp only [Value.ownBlock, Option.some.injEq] at hk
          have := hB a rfl
          have := hb13.size
          omega
      have hmt : ∀ k, Mut b (upd wv 0 (.slice B m c)) k → Mut b wv k ∨ w1.heap.size ≤ k := fun k hk => by
        rcases hk.cases with rfl | ⟨e, he, h2⟩
        · exact .inl (.inl rfl)
        · by_cases hed : e = 0
          · subst hed
            rw [upd_same] at h2
            exact .inr (hlie k h2)
          · rw [upd_other _ _ hed] at h2
            exact .inl (Mut.d he h2)
      have hrow : RowF (fun k => ¬ Mut b (upd wv 0 (.slice B m c)) k ∧ (R k ∧ k ≠ W.heap.size)) wr (.slice B m c) ((F.fs 0).take i ++ (F.fs 0).drop (i + 1)) := by
        refine ⟨B, c, zs, by rw [← e0, ← hm], by rw [← e0, ← hm]; exact hr, ?_⟩
        rw [hz, ← e0]
        have := sel_ok (fun k => decide (k ≠ i)) HF.out HYS.out n (by rw [HNN.out]; exact Nat.le_refl _)
        exact this.chg (chg_below hb1r) (fun _ _ _ h => h) (fun k hk hp => ⟨fun hm' => by rcases hmt k hm' with h2 | h2; exact hp.1 h2; omega, hp.2⟩)
      obtain ⟨s1, s2, s3⟩ := way_step (o := 2) HH1.out HHD.out.1 (by have := HHD.out.2; omega) ((chg_below hb1r).mono fun _ e => e.elim) (fun k hk => .inr (hlie k hk)) hrow
      obtain ⟨w5, hw5⟩ : ∃ w5, w5 = wr.setCell ⟨b, 2, none⟩ (.slice B m c) := ⟨_, rfl⟩
      rw [← hw5] at s1 s2 ⊢
      have c5 : Chg (fun k => k = b) wr w5 := by rw [hw5]; exact chg_set wr ⟨b, 2, none⟩ _
      have c6 : Chg (fun k => k = W.heap.size) w5 (((w5.setCell ⟨W.heap.size, 0, none⟩ (.int .i64 (nthF (F.fs 0) i).num)).setCell ⟨W.heap.size, 1, none⟩ (.slice U1 (nthF (F.fs 0) i).wire.length j1)).setCell ⟨W.heap.size, 2, none⟩ (.slice U2 (nthF (F.fs 0) i).first.length j2)) :=
        ((chg_set _ ⟨W.heap.size, 0, none⟩ _).trans (chg_set _ ⟨W.heap.size, 1, none⟩ _)).trans (chg_set _ ⟨W.heap.size, 2, none⟩ _)
      have hmW := HM.out
      have tx : ∀ {v : Value} {l : List UInt8}, TextP (fun k => ¬ Mut b wv k ∧ (R k ∧ k ≠ W.heap.size) ∧ k < w1.heap.size) w2 v l → TextP (fun k => ¬ Mut b wv k ∧ R k) (((w5.setCell ⟨W.heap.size, 0, none⟩ (.int .i64 (nthF (F.fs 0) i).num)).setCell ⟨W.heap.size, 1, none⟩ (.slice U1 (nthF (F.fs 0) i).wire.length j1)).setCell ⟨W.heap.size, 2, none⟩ (.slice U2 (nthF (F.fs 0) i).first.length j2)) v l := fun ht =>
        ((ht.chg (chg_below (below_next hb23 hb)) (r := fun k => ¬ Mut b wv k ∧ (R k ∧ k ≠ W.heap.size)) (fun _ _ _ h => h) (fun _ _ hp => ⟨hp.1, hp.2.1⟩)).chg c5 (r := fun k => ¬ Mut b wv k ∧ (R k ∧ k ≠ W.heap.size)) (fun k _ hp e => hp.1 (.inl e)) (fun _ _ hp => hp)).chg c6 (fun k _ hp e => hp.2.2 e) (fun k _ hp => ⟨hp.1, hp.2.1⟩)
      refine ⟨_, _, rfl, tx ⟨U1, j1, rfl, p1, p2, p3⟩, tx ⟨U2, j2, rfl, p4, p5, p6⟩, _, s1.chg c6 (fun k hk e => ?_) (fun k _ _ hR => ⟨fun e => hR.2 e, hR.1⟩), ?_, fun k hk => ?_⟩
      · rcases s3 k hk with h2 | h2
        · have := hmW k h2
          omega
        · omega
      · exact (((chg_below HB1.out).mono fun _ e => e.elim).trans s2).more c6 (fun k hk e => by omega)
      · rcases s3 k hk with h2 | h2
        · exact .inl h2
        · exact .inr (by omega))
    obtain ⟨k0, k1, k2, kz⟩ := HK.out
    have HBX := Lib.hid (fun wr (hb : Below w3.heap.size w3 wr) => show (wr.cell? ⟨w2.heap.size, 0, none⟩ = some (.int .i64 (nthF (F.fs 0) i).num) ∧ wr.cell? ⟨w2.heap.size, 1, none⟩ = some (.slice U1 (nthF (F.fs 0) i).wire.length j1) ∧ wr.cell? ⟨w2.heap.size, 2, none⟩ = some (.slice U2 (nthF (F.fs 0) i).first.length j2)) ∧
      (wr.cell? ⟨W.heap.size, 0, none⟩ = some (.int .i64 0) ∧ wr.cell? ⟨W.heap.size, 1, none⟩ = some (.slice none 0 0) ∧ wr.cell? ⟨W.heap.size, 2, none⟩ = some (.slice none 0 0)) ∧ (∀ j, wr.frozen? ⟨W.heap.size, j, none⟩ = false) ∧ (∀ j, wr.frozen? ⟨b, j, none⟩ = false) from
      ⟨⟨((bcell hb).1 _ _ hs23).trans m0, ((bcell hb).1 _ _ hs23).trans m1, ((bcell hb).1 _ _ hs23).trans m2⟩, ⟨((bcell (below_next hb13 hb)).1 _ _ hsz1).trans k0, ((bcell (below_next hb13 hb)).1 _ _ hsz1).trans k1, ((bcell (below_next hb13 hb)).1 _ _ hsz1).trans k2⟩,
       fun j => ((bcell (below_next hb13 hb)).2 _ _ hsz1).trans (kz j), fun j => ((bcell (below_next hb13 hb)).2 _ _ hbw1).trans (HH1.out.fz j)⟩)
    have q1 : ¬ w2.heap.size = b := by omega
    have q2 : ¬ W.heap.size = b := by omega
    have q3 : ¬ w2.heap.size = W.heap.size := by omega
    have q4 : ¬ W.heap.size = w2.heap.size := by omega
    have q5 : ¬ b = W.heap.size := by omega
    have q6 : ¬ b = w2.heap.size := by omega
    have HS := Lib.hid (And.intro hs23 (And.intro hbw1 (And.intro hs12 hsz1)))
    have HW3 := Lib.hid hw3
    clear p1 p2 p3 p4 p5 p6 hb2 hb23 hb13 hw3 hc1 m0 m1 m2 k0 k1 k2 kz hs23 hbw1 hs12 hx1 hx2
    go_wp2_with fail
    rw [← HW3.out]
    go_loopw [10, 11] (fun v x wr => ∃ (k m c : Nat) (B : Option Addr) (zs : List Value), k ≤ n ∧ x = .int .i64 k ∧ v = .slice B m c ∧ RowAt wr B m c zs ∧ Hid (∀ a, B = some a → w3.heap.size ≤ a.block) ∧ Below w3.heap.size w3 wr ∧ Hid (m = (selL (fun k => decide (k ≠ i)) (F.fs 0) k).length ∧ zs = selY (fun k => decide (k ≠ i)) ys k)) (fun _ x _ => n - (intOf x).toNat)
    case atStart => exact ⟨0, 0, 0, none, [], Nat.zero_le _, rfl, rfl, RowAt.nil _, Lib.hid (fun _ h => by cases h), Below.refl _ _, Lib.hid ⟨rfl, rfl⟩⟩
    case round =>
      obtain ⟨k, m, c, B, zs, hk, rfl, rfl, hrow, HBB, hb, HMZ⟩ := hrel
      have hcb := HC3.out wr hb
      by_cases hlt : k < n
      · obtain ⟨g, off, hA, hg, hy0, hy1, hy2, _⟩ := (HR3.out wr hb).at_ hlt
        subst hA
        obtain ⟨v1, v2, y0, y1, y2, ⟨V1, l1, hv1, _, _, _⟩, ⟨V2, l2, hv2, _, _, _⟩, _⟩ := HF.out k (by rw [← HNN.out]; exact hlt)
        subst hv1 hv2
        rw [y0] at hy0
        rw [y1] at hy1
        rw [y2] at hy2
        have hltI : (k : Int) < (n : Int) := by omega
        have hml : m ≤ 5000 := by have := HMZ.out.1; have := selL_le (fun k => decide (k ≠ i)) (F.fs 0) k; omega
        by_cases hki : k = i
        · have hkB : ((k : Int) != (i : Int)) = false := by rw [hki]; simp
          have HN := Lib.hid (show m = (selL (fun k => decide (k ≠ i)) (F.fs 0) (k + 1)).length ∧ zs = selY (fun k => decide (k ≠ i)) ys (k + 1) by rw [selL_no _ _ _ (by simp [hki]), selY_no _ _ _ (by simp [hki])]; exact HMZ.out)
          have HRO := Lib.hid hrow
          have HB := Lib.hid hb
          clear hki y0 y1 y2 hrow hb
          go_wp2_with fail
          go_roundw
          case rel => exact ⟨k + 1, m, c, B, zs, by omega, by go_num, rfl, HRO.out, HBB, HB.out, HN⟩
          case measure => simp [intOf]; omega
        · have hkB : ((k : Int) != (i : Int)) = true := by rw [bne_iff_ne]; omega
          have HN := Lib.hid (show m + 1 = (selL (fun k => decide (k ≠ i)) (F.fs 0) (k + 1)).length ∧ zs ++ [.int .i64 (nthF (F.fs 0) k).num, .slice V1 (nthF (F.fs 0) k).wire.length l1, .slice V2 (nthF (F.fs 0) k).first.length l2] = selY (fun k => decide (k ≠ i)) ys (k + 1) by
            rw [selL_yes _ _ _ (by simpa using hki), selY_yes _ _ _ (by simpa using hki) y0 y1 y2, HMZ.out.1, HMZ.out.2]
            exact ⟨rfl, rfl⟩)
          have hrw := hrow.chg (chg_alloc wr (.cells #[.int .i64 (nthF (F.fs 0) k).num, .slice V1 (nthF (F.fs 0) k).wire.length l1, .slice V2 (nthF (F.fs 0) k).first.length l2] 40)) (fun _ _ h => h)
          have HRO := Lib.hid hrw
          have HB := Lib.hid (hb.alloc hb.size (.cells #[.int .i64 (nthF (F.fs 0) k).num, .slice V1 (nthF (F.fs 0) k).wire.length l1, .slice V2 (nthF (F.fs 0) k).first.length l2] 40))
          clear hki y0 y1 y2 hrow hb hrw
          generalize nthF (F.fs 0) k = x at *
          go_wp2_with (at_builtin; refine wpList_app_row _ rfl _ _ rfl rfl HRO.out ⟨wr.heap.size, 0, none⟩ 1 1 [.int .i64 x.num, .slice V1 x.wire.length l1, .slice V2 x.first.length l2] rfl rfl (news_of_at wr 40 _ rfl _ _ _) (by intro u hu; simp only [List.mem_cons, List.not_mem_nil, or_false] at hu; rcases hu with rfl | rfl | rfl <;> rfl) (by omega) ?_)
          intro A' c' w' r1 r2 r3 r4
          have HB' := Lib.hid (below_app HBB.out HB.out r2)
          obtain ⟨A2, c2, hA2, r5, r6⟩ := RowNew.app (w0 := w3) HBB.out HB.out.size r1 r3
          have HR5 := Lib.hid (And.intro r1 (show ∀ a, A' = some a → w3.heap.size ≤ a.block by injection hA2 with e1; rw [e1]; exact r6))
          clear r1 r2 r3 r4 r5 r6 hA2
          go_wp2_with fail
          go_roundw
          case rel => exact ⟨k + 1, m + 1, c', A', _, by omega, by go_num, rfl, HR5.out.1, Lib.hid HR5.out.2, HB'.out, HN⟩
          case measure => simp [intOf]; omega
      · obtain rfl : k = n := by omega
        have HX := Lib.hid (HFIN.out wr B m c zs hb hrow HBB.out HMZ.out.1 HMZ.out.2)
        obtain ⟨⟨x0, x1, x2⟩, ⟨y0, y1, y2⟩, yz, bz⟩ := HBX.out wr hb
        have hsr : W.heap.size < wr.heap.size := by have := hb.size; have := HS.out; omega
        have hsr2 : w2.heap.size < wr.heap.size := by have := hb.size; have := HS.out; omega
        have hsr3 : b < wr.heap.size := by have := hb.size; have := HS.out; omega
        clear hrow hb
        generalize nthF (F.fs 0) i = x at *
        go_wp2_with fail
        exact bodyPost_ret (v := .tuple #[.agg #[.int .i64 x.num, .slice U1 x.wire.length j1, .slice U2 x.first.length j2], .int .i64 0]) (by simp [results, Try.results14, go_sem, y0, y1, y2]) rfl HX.out
  · subst hd0 ho0
    clear ho hd
    go_enter Try.func14, Try.ntmps14
    go_wp2_with fail
    rw [← HW1.out]
    refine HAT.out.mono ?_
    rintro e w2 ⟨u1, u2, rfl, t1, t2, hb2, hx1, hx2⟩
    obtain ⟨U1, j1, rfl, p1, p2, p3⟩ := t1
    obtain ⟨U2, j2, rfl, p4, p5, p6⟩ := t2
    have HT := Lib.hid (And.intro (And.intro p1 (And.intro p2 p3)) (And.intro p4 (And.intro p5 p6)))
    have HB2 := Lib.hid hb2
    obtain ⟨w3, hw3⟩ : ∃ w3, w3 = w2.alloc (.cells #[.int .i64 (nthF (F.fs 1) i).num, .slice U1 (nthF (F.fs 1) i).wire.length j1, .slice U2 (nthF (F.fs 1) i).first.length j2] 40) := ⟨_, rfl⟩
    have hb23 : Below w2.heap.size w2 w3 := by rw [hw3]; exact below_alloc (Below.refl _ _) _
    have hb13 := below_next hb2 hb23
    have hs23 : w2.heap.size < w3.heap.size := by rw [hw3]; simp
    have m0 : w3.cell? ⟨w2.heap.size, 0, none⟩ = some (.int .i64 (nthF (F.fs 1) i).num) := by rw [hw3]; simp [go_sem]
    have m1 : w3.cell? ⟨w2.heap.size, 1, none⟩ = some (.slice U1 (nthF (F.fs 1) i).wire.length j1) := by rw [hw3]; simp [go_sem]
    have m2 : w3.cell? ⟨w2.heap.size, 2, none⟩ = some (.slice U2 (nthF (F.fs 1) i).first.length j2) := by rw [hw3]; simp [go_sem]
    have hbw1 : b < w1.heap.size := HH1.out.hb
    have hs12 := hb2.size
    have HC3 := Lib.hid (fun wr (hb : Below w3.heap.size w3 wr) => show wr.cell? ⟨b, 4, none⟩ = some (.slice A n cap) from ((bcell (below_next hb13 hb)).1 _ _ hbw1).trans hc1)
    have HR3 := Lib.hid (fun wr (hb : Below w3.heap.size w3 wr) => show RowAt wr A n cap ys from HR.out.chg (chg_below (below_next hb13 hb)) (fun _ _ h => h))
    have HFIN := Lib.hid (fun wr B m c zs (hb : Below w3.heap.size w3 wr) (hr : RowAt wr B m c zs) (hB : ∀ a, B = some a → w3.heap.size ≤ a.block) (hm : m = (selL (fun k => decide (k ≠ i)) (F.fs 1) n).length) (hz : zs = selY (fun k => decide (k ≠ i)) ys n) =>
      show Took 0 R W b wv (take F 1 i) (nthF (F.fs 1) i) (.returned (.tuple #[.agg #[.int .i64 (nthF (F.fs 1) i).num, .slice U1 (nthF (F.fs 1) i).wire.length j1, .slice U2 (nthF (F.fs 1) i).first.length j2], .int .i64 0]))
        ((((wr.setCell ⟨b, 4, none⟩ (.slice B m c)).setCell ⟨W.heap.size, 0, none⟩ (.int .i64 (nthF (F.fs 1) i).num)).setCell ⟨W.heap.size, 1, none⟩ (.slice U1 (nthF (F.fs 1) i).wire.length j1)).setCell ⟨W.heap.size, 2, none⟩ (.slice U2 (nthF (F.fs 1) i).first.length j2)) by
      have hb1r := below_next hb13 hb
      have e0 := selL_but (F.fs 1) i (by rw [← HNN.out]; exact hi)
      rw [← HNN.out] at e0
      have hlie : ∀ k, (Value.slice B m c).ownBlock = some k → w1.heap.size ≤ k := fun k hk => by
        cases B with
        | none => simp [Value.ownBlock] at hk
        | some a =>
          simp only [Value.ownBlock, Option.some.injEq] at hk
          have := hB a rfl
          have := hb13.size
          omega
      have hmt : ∀ k, Mut b (upd wv 1 (.slice B m c)) k → Mut b wv k ∨ w1.heap.size ≤ k := fun k hk => by
        rcases hk.cases with rfl | ⟨e, he, h2⟩
        · exact .inl (.inl rfl)
        · by_cases hed : e = 1
          · subst hed
            rw [upd_same] at h2
            exact .inr (hlie k h2)
          · rw [upd_other _ _ hed] at h2
            exact .inl (Mut.d he h2)
      have hrow : RowF (fun k => ¬ Mut b (upd wv 1 (.slice B m c)) k ∧ (R k ∧ k ≠ W.heap.size)) wr (.slice B m c) ((F.fs 1).take i ++ (F.fs 1).drop (i + 1)) := by
        refine ⟨B, c, zs, by rw [← e0, ← hm], by rw [← e0, ← hm]; exact hr, ?_⟩
        rw [hz, ← e0]
        have := sel_ok (fun k => decide (k ≠ i)) HF.out HYS.out n (by rw [HNN.out]; exact Nat.le_refl _)
        exact this.chg (chg_below hb1r) (fun _ _ _ h => h) (fun k hk hp => ⟨fun hm' => by rcases hmt k hm' with h2 | h2; exact hp.1 h2; omega, hp.2⟩)
      obtain ⟨s1, s2, s3⟩ := way_step (o := 4) HH1.out HHD.out.1 (by have := HHD.out.2; omega) ((chg_below hb1r).mono fun _ e => e.elim) (fun k hk => .inr (hlie k hk)) hrow
      obtain ⟨w5, hw5⟩ : ∃ w5, w5 = wr.setCell ⟨b, 4, none⟩ (.slice B m c) := ⟨_, rfl⟩
      rw [← hw5] at s1 s2 ⊢
      have c5 : Chg (fun k => k = b) wr w5 := by rw [hw5]; exact chg_set wr ⟨b, 4, none⟩ _
      have c6 : Chg (fun k => k = W.heap.size) w5 (((w5.setCell ⟨W.heap.size, 0, none⟩ (.int .i64 (nthF (F.fs 1) i).num)).setCell ⟨W.heap.size, 1, none⟩ (.slice U1 (nthF (F.fs 1) i).wire.length j1)).setCell ⟨W.heap.size, 2, none⟩ (.slice U2 (nthF (F.fs 1) i).first.length j2)) :=
        ((chg_set _ ⟨W.heap.size, 0, none⟩ _).trans (chg_set _ ⟨W.heap.size, 1, none⟩ _)).trans (chg_set _ ⟨W.heap.size, 2, none⟩ _)
      have hmW := HM.out
      have tx : ∀ {v : Value} {l : List UInt8}, TextP (fun k => ¬ Mut b wv k ∧ (R k ∧ k ≠ W.heap.size) ∧ k < w1.heap.size) w2 v l → TextP (fun k => ¬ Mut b wv k ∧ R k) (((w5.setCell ⟨W.heap.size, 0, none⟩ (.int .i64 (nthF (F.fs 1) i).num)).setCell ⟨W.heap.size, 1, none⟩ (.slice U1 (nthF (F.fs 1) i).wire.length j1)).setCell ⟨W.heap.size, 2, none⟩ (.slice U2 (nthF (F.fs 1) i).first.length j2)) v l := fun ht =>
        ((ht.chg (chg_below (below_next hb23 hb)) (r := fun k => ¬ Mut b wv k ∧ (R k ∧ k ≠ W.heap.size)) (fun _ _ _ h => h) (fun _ _ hp => ⟨hp.1, hp.2.1⟩)).chg c5 (r := fun k => ¬ Mut b wv k ∧ (R k ∧ k ≠ W.heap.size)) (fun k _ hp e => hp.1 (.inl e)) (fun _ _ hp => hp)).chg c6 (fun k _ hp e => hp.2.2 e) (fun k _ hp => ⟨hp.1, hp.2.1⟩)
      refine ⟨_, _, rfl, tx ⟨U1, j1, rfl, p1, p2, p3⟩, tx ⟨U2, j2, rfl, p4, p5, p6⟩, _, s1.chg c6 (fun k hk e => ?_) (fun k _ _ hR => ⟨fun e => hR.2 e, hR.1⟩), ?_, fun k hk => ?_⟩
      · rcases s3 k hk with h2 | h2
        · have := hmW k h2
          omega
        · omega
      · exact (((chg_below HB1.out).mono fun _ e => e.elim).trans s2).more c6 (fun k hk e => by omega)
      · rcases s3 k hk with h2 | h2
        · exact .inl h2
        · exact .inr (by omega))
    obtain ⟨k0, k1, k2, kz⟩ := HK.out
    have HBX := Lib.hid (fun wr (hb : Below w3.heap.size w3 wr) => show (wr.cell? ⟨w2.heap.size, 0, none⟩ = some (.int .i64 (nthF (F.fs 1) i).num) ∧ wr.cell? ⟨w2.heap.size, 1, none⟩ = some (.slice U1 (nthF (F.fs 1) i).wire.length j1) ∧ wr.cell? ⟨w2.heap.size, 2, none⟩ = some (.slice U2 (nthF (F.fs 1) i).first.length j2)) ∧
      (wr.cell? ⟨W.heap.size, 0, none⟩ = some (.int .i64 0) ∧ wr.cell? ⟨W.heap.size, 1, none⟩ = some (.slice none 0 0) ∧ wr.cell? ⟨W.heap.size, 2, none⟩ = some (.slice none 0 0)) ∧ (∀ j, wr.frozen? ⟨W.heap.size, j, none⟩ = false) ∧ (∀ j, wr.frozen? ⟨b, j, none⟩ = false) from
      ⟨⟨((bcell hb).1 _ _ hs23).trans m0, ((bcell hb).1 _ _ hs23).trans m1, ((bcell hb).1 _ _ hs23).trans m2⟩, ⟨((bcell (below_next hb13 hb)).1 _ _ hsz1).trans k0, ((bcell (below_next hb13 hb)).1 _ _ hsz1).trans k1, ((bcell (below_next hb13 hb)).1 _ _ hsz1).trans k2⟩,
       fun j => ((bcell (below_next hb13 hb)).2 _ _ hsz1).trans (kz j), fun j => ((bcell (below_next hb13 hb)).2 _ _ hbw1).trans (HH1.out.fz j)⟩)
    have q1 : ¬ w2.heap.size = b := by omega
    have q2 : ¬ W.heap.size = b := by omega
    have q3 : ¬ w2.heap.size = W.heap.size := by omega
    have q4 : ¬ W.heap.size = w2.heap.size := by omega
    have q5 : ¬ b = W.heap.size := by omega
    have q6 : ¬ b = w2.heap.size := by omega
    have HS := Lib.hid (And.intro hs23 (And.intro hbw1 (And.intro hs12 hsz1)))
    have HW3 := Lib.hid hw3
    clear p1 p2 p3 p4 p5 p6 hb2 hb23 hb13 hw3 hc1 m0 m1 m2 k0 k1 k2 kz hs23 hbw1 hs12 hx1 hx2
    go_wp2_with fail
    rw [← HW3.out]
    go_loopw [10, 11] (fun v x wr => ∃ (k m c : Nat) (B : Option Addr) (zs : List Value), k ≤ n ∧ x = .int .i64 k ∧ v = .slice B m c ∧ RowAt wr B m c zs ∧ Hid (∀ a, B = some a → w3.heap.size ≤ a.block) ∧ Below w3.heap.size w3 wr ∧ Hid (m = (selL (fun k => decide (k ≠ i)) (F.fs 1) k).length ∧ zs = selY (fun k => decide (k ≠ i)) ys k)) (fun _ x _ => n - (intOf x).toNat)
    case atStart => exact ⟨0, 0, 0, none, [], Nat.zero_le _, rfl, rfl, RowAt.nil _, Lib.hid (fun _ h => by cases h), Below.refl _ _, Lib.hid ⟨rfl, rfl⟩⟩
    case round =>
      obtain ⟨k, m, c, B, zs, hk, rfl, rfl, hrow, HBB, hb, HMZ⟩ := hrel
      have hcb := HC3.out wr hb
      by_cases hlt : k < n
      · obtain ⟨g, off, hA, hg, hy0, hy1, hy2, _⟩ := (HR3.out wr hb).at_ hlt
        subst hA
        obtain ⟨v1, v2, y0, y1, y2, ⟨V1, l1, hv1, _, _, _⟩, ⟨V2, l2, hv2, _, _, _⟩, _⟩ := HF.out k (by rw [← HNN.out]; exact hlt)
        subst hv1 hv2
        rw [y0] at hy0
        rw [y1] at hy1
        rw [y2] at hy2
        have hltI : (k : Int) < (n : Int) := by omega
        have hml : m ≤ 5000 := by have := HMZ.out.1; have := selL_le (fun k => decide (k ≠ i)) (F.fs 1) k; omega
        by_cases hki : k = i
        · have hkB : ((k : Int) != (i : Int)) = false := by rw [hki]; simp
          have HN := Lib.hid (show m = (selL (fun k => decide (k ≠ i)) (F.fs 1) (k + 1)).length ∧ zs = selY (fun k => decide (k ≠ i)) ys (k + 1) by rw [selL_no _ _ _ (by simp [hki]), selY_no _ _ _ (by simp [hki])]; exact HMZ.out)
          have HRO := Lib.hid hrow
          have HB := Lib.hid hb
          clear hki y0 y1 y2 hrow hb
          go_wp2_with fail
          go_roundw
          case rel => exact ⟨k + 1, m, c, B, zs, by omega, by go_num, rfl, HRO.out, HBB, HB.out, HN⟩
          case measure => simp [intOf]; omega
        · have hkB : ((k : Int) != (i : Int)) = true := by rw [bne_iff_ne]; omega
          have HN := Lib.hid (show m + 1 = (selL (fun k => decide (k ≠ i)) (F.fs 1) (k + 1)).length ∧ zs ++ [.int .i64 (nthF (F.fs 1) k).num, .slice V1 (nthF (F.fs 1) k).wire.length l1, .slice V2 (nthF (F.fs 1) k).first.length l2] = selY (fun k => decide (k ≠ i)) ys (k + 1) by
            rw [selL_yes _ _ _ (by simpa using hki), selY_yes _ _ _ (by simpa using hki) y0 y1 y2, HMZ.out.1, HMZ.out.2]
            exact ⟨rfl, rfl⟩)
          have hrw := hrow.chg (chg_alloc wr (.cells #[.int .i64 (nthF (F.fs 1) k).num, .slice V1 (nthF (F.fs 1) k).wire.length l1, .slice V2 (nthF (F.fs 1) k).first.length l2] 40)) (fun _ _ h => h)
          have HRO := Lib.hid hrw
          have HB := Lib.hid (hb.alloc hb.size (.cells #[.int .i64 (nthF (F.fs 1) k).num, .slice V1 (nthF (F.fs 1) k).wire.length l1, .slice V2 (nthF (F.fs 1) k).first.length l2] 40))
          clear hki y0 y1 y2 hrow hb hrw
          generalize nthF (F.fs 1) k = x at *
          go_wp2_with (at_builtin; refine wpList_app_row _ rfl _ _ rfl rfl HRO.out ⟨wr.heap.size, 0, none⟩ 1 1 [.int .i64 x.num, .slice V1 x.wire.length l1, .slice V2 x.first.length l2] rfl rfl (news_of_at wr 40 _ rfl _ _ _) (by intro u hu; simp only [List.mem_cons, List.not_mem_nil, or_false] at hu; rcases hu with rfl | rfl | rfl <;> rfl) (by omega) ?_)
          intro A' c' w' r1 r2 r3 r4
          have HB' := Lib.hid (below_app HBB.out HB.out r2)
          obtain ⟨A2, c2, hA2, r5, r6⟩ := RowNew.app (w0 := w3) HBB.out HB.out.size r1 r3
          have HR5 := Lib.hid (And.intro r1 (show ∀ a, A' = some a → w3.heap.size ≤ a.block by injection hA2 with e1; rw [e1]; exact r6))
          clear r1 r2 r3 r4 r5 r6 hA2
          go_wp2_with fail
          go_roundw
          case rel => exact ⟨k + 1, m + 1, c', A', _, by omega, by go_num, rfl, HR5.out.1, Lib.hid HR5.out.2, HB'.out, HN⟩
          case measure => simp [intOf]; omega
      · obtain rfl : k = n := by omega
        have HX := Lib.hid (HFIN.out wr B m c zs hb hrow HBB.out HMZ.out.1 HMZ.out.2)
        obtain ⟨⟨x0, x1, x2⟩, ⟨y0, y1, y2⟩, yz, bz⟩ := HBX.out wr hb
        have hsr : W.heap.size < wr.heap.size := by have := hb.size; have := HS.out; omega
        have hsr2 : w2.heap.size < wr.heap.size := by have := hb.size; have := HS.out; omega
        have hsr3 : b < wr.heap.size := by have := hb.size; have := HS.out; omega
        clear hrow hb
        generalize nthF (F.fs 1) i = x at *
        go_wp2_with fail
        exact bodyPost_ret (v := .tuple #[.agg #[.int .i64 x.num, .slice U1 x.wire.length j1, .slice U2 x.first.length j2], .int .i64 0]) (by simp [results, Try.results14, go_sem, y0, y1, y2]) rfl HX.out
end
end Go.Proofs.Ytogijioehdaefaa.Flt
