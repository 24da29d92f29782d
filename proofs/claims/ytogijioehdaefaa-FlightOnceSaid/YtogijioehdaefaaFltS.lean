
/- Layer 16 (flight): FlightOnce: each frame is taken once at most, as it was put; none outlives its life. Then the walk. -/
import Derived.Test.YtogijioehdaefaaFltZ
import Derived.Test.YtogijioehdaefaaFltK
import Derived.Deep.DeepCutAuto
import Derived.Deep.LoopGhost
attribute [local go_sem ↓] Go.wp_at_zero Go.wp_at_succ
namespace Go.Proofs.Ytogijioehdaefaa.Flt
open Go.RowKit Go.Proofs.Ytogijioehdaefaa.Mem Go.Proofs.Ytogijioehdaefaa.Oct Go.Proofs.Ytogijioehdaefaa.Pkt Go.Proofs.Ytogijioehdaefaa.Def Go.Proofs.Ytogijioehdaefaa.Ed

theorem Acts.more {w : World} {lim lim' : Nat} {A : Option Addr} {l : List Act1} (h : Acts w lim A l) (hl : lim ≤ lim') : Acts w lim' A l := fun hp => by
  obtain ⟨b, off, h1, h2, h3⟩ := h hp
  refine ⟨b, off, h1, Nat.lt_of_lt_of_le h2 hl, fun i hi => ?_⟩
  obtain ⟨Aw, cw, Ae, ce, k0, k1, k2, k3, k4, k5, k6⟩ := h3 i hi
  exact ⟨Aw, cw, Ae, ce, k0, k1, k2, k3, k4, k5.more hl, k6.mono hl⟩
theorem putO_ok (F : Fl) {l : List UInt8} (h : l.length ≤ 512) : putO F 0 l = (0, put F 0 l) := by
  unfold putO
  rw [if_neg (by unfold okD; omega), if_neg (by omega)]
  rfl
theorem putO_long (F : Fl) {l : List UInt8} (h : 512 < l.length) : putO F 0 l = (2, F) := by
  unfold putO
  rw [if_neg (by unfold okD; omega), if_pos h]
theorem atO_ok (F : Fl) {j : Nat} (h : j < (F.fs 0).length) : atO F 0 j = (0, nthF (F.fs 0) j) := by
  unfold atO
  have hi : okI F 0 j := ⟨by omega, by show (j : Int) < ((F.fs 0).length : Int); omega⟩
  rw [if_neg (by unfold okD; omega), if_neg (fun h => h hi)]
  rfl
theorem takeO_ok (F : Fl) {j : Nat} (h : j < (F.fs 0).length) : takeO F 0 j = take F 0 j := by
  unfold takeO
  have hi : okI F 0 j := ⟨by omega, by show (j : Int) < ((F.fs 0).length : Int); omega⟩
  rw [if_pos ⟨by unfold okD; omega, hi⟩]
  rfl
theorem spoilO_ok (F : Fl) {j : Nat} (h : j < (F.fs 0).length) (es : List Edt) : spoilO F 0 j es = spoil F 0 j es := by
  unfold spoilO
  have hi : okI F 0 j := ⟨by omega, by show (j : Int) < ((F.fs 0).length : Int); omega⟩
  rw [if_pos ⟨by unfold okD; omega, hi⟩]
  rfl
theorem no_okI {F : Fl} {i : Int} (h : ¬ (0 ≤ i ∧ i < ((F.fs 0).length : Int))) : ¬ okI F 0 i := h
theorem atO_none {F : Fl} {i : Int} (h : ¬ (0 ≤ i ∧ i < ((F.fs 0).length : Int))) : atO F 0 i = (4, Frm0) := by
  unfold atO
  rw [if_neg (by unfold okD; omega), if_pos (no_okI h)]
theorem takeO_none {F : Fl} {i : Int} (h : ¬ (0 ≤ i ∧ i < ((F.fs 0).length : Int))) : takeO F 0 i = F := by
  unfold takeO
  rw [if_neg (fun k => no_okI h k.2)]
theorem spoilO_none {F : Fl} {i : Int} (h : ¬ (0 ≤ i ∧ i < ((F.fs 0).length : Int))) (es : List Edt) : spoilO F 0 i es = F := by
  unfold spoilO
  rw [if_neg (fun k => no_okI h k.2)]
section
variable {S : Nat → Prop} {w0 W w w' : World} {fb mb : Nat} {pv : Value} {ps : List (List UInt8)} {T : List Nat} {F : Fl} {wv : Nat → Value} {L : Nat}
theorem once_spoilO (h : Once L ps T F) (i : Int) (es : List Edt) : Once L ps T (spoilO F 0 i es) := by
  by_cases hi : 0 ≤ i ∧ i < ((F.fs 0).length : Int)
  · obtain ⟨j, rfl⟩ : ∃ j : Nat, i = j := ⟨i.toNat, by omega⟩
    rw [spoilO_ok F (by omega) es]
    exact once_spoil h (by omega) es
  · rw [spoilO_none hi]
    exact h
theorem On.rest (h : On S w0 W w fb mb pv ps T F wv) {A : Option Addr} {l : List UInt8} (hA : Bytes W W.heap.size A l) : RestAt (fun g => ¬ Mut fb wv g) w A l :=
  RestAt.of_bytes (hA.below h.below (Nat.le_refl _)) h.below.size (fun g hg hm => by have := h.newf g hm; omega)
theorem On.shp (h : On S w0 W w fb mb pv ps T F wv) : ∃ A n cap, pv = .slice A n cap ∧ n = ps.length := by
  obtain ⟨A, cap, e⟩ := h.put.shape
  exact ⟨A, _, cap, e, rfl⟩
theorem On.Put {k m ca : Nat} {A : Option Addr} {l : List UInt8} (h : On S w0 W w fb mb pv ps T F wv) (hG : Good k F) (hk : k ≤ 1000) (hA : Bytes W W.heap.size A l) (hm : m = l.length) :
    Calls Try.prog 11 #[.pointer (some ⟨fb, 0, none⟩), .int .i64 0, .slice A m ca] w fun e w' => e = .returned (.int .i64 (putO F 0 l).1) ∧ ∃ wv', On S w0 W w' fb mb pv ps T (putO F 0 l).2 wv' :=
  (Put_any k m ca 0 A l h.f hG hk h.hR (h.rest hA) hm).mono fun _ _ ⟨h1, h2⟩ => ⟨h1, h.act h2⟩
theorem On.Spoil {ce : Nat} {i : Int} {E : Option Addr} {es : List Edt} (h : On S w0 W w fb mb pv ps T F wv) (hE : Eds W W.heap.size E es) (hes : es.length ≤ 1000000) :
    Calls Try.prog 16 #[.pointer (some ⟨fb, 0, none⟩), .int .i64 0, .int .i64 i, .slice E es.length ce] w fun e w' => (∃ c, e = .returned (.int .i64 c)) ∧ ∃ wv', On S w0 W w' fb mb pv ps T (spoilO F 0 i es) wv' :=
  (Spoil_any ce 0 i E es h.f h.hR ((hE.below h.below (Nat.le_refl _)).mono h.below.size) hes).mono fun _ _ ⟨h1, h2⟩ => ⟨⟨_, h1⟩, h.act h2⟩
theorem On.Take {k : Nat} (i : Int) (h : On S w0 W w fb mb pv ps T F wv) (hG : Good k F) (hk : k ≤ 1000) :
    Calls Try.prog 13 #[.pointer (some ⟨fb, 0, none⟩), .int .i64 0, .int .i64 i] w fun e w' => ∃ A1 n1 c1 A2 n2 c2, e = .returned (.tuple #[.agg #[.int .i64 (atO F 0 i).2.num, .slice A1 n1 c1, .slice A2 n2 c2], .int .i64 (atO F 0 i).1]) ∧
      n2 = (atO F 0 i).2.first.length ∧ n2 ≤ 1000 ∧ Bytes w' w'.heap.size A2 (atO F 0 i).2.first ∧ ∃ wv', On S w0 W w' fb mb pv ps T (takeO F 0 i) wv' := by
  refine (Take_any k 0 i h.f hG hk).mono ?_
  rintro e w' ⟨v1, v2, rfl, t1, t2, _, l2, ha⟩
  obtain ⟨A1, c1, rfl, _, _, _⟩ := t1
  obtain ⟨A2, c2, rfl, _, _, r2⟩ := t2
  exact ⟨A1, _, c1, A2, _, c2, rfl, rfl, l2, r2.bytes, h.act ha⟩
theorem On.At {j : Nat} (h : On S w0 W w fb mb pv ps T F wv) (hj : j < (F.fs 0).length) :
    Calls Try.prog 22 #[.pointer (some ⟨fb, 0, none⟩), .int .i64 0, .int .i64 j] w fun e w' => ∃ A1 n1 c1 A2 n2 c2, e = .returned (.tuple #[.agg #[.int .i64 (nthF (F.fs 0) j).num, .slice A1 n1 c1, .slice A2 n2 c2], .int .i64 0]) ∧ Below w.heap.size w w' := by
  refine (At_yes 0 j h.f (by decide) hj).mono ?_
  rintro e w' ⟨v1, v2, rfl, ⟨A1, c1, rfl, _⟩, ⟨A2, c2, rfl, _⟩, hb⟩
  exact ⟨A1, _, c1, A2, _, c2, rfl, hb⟩
theorem on_start (W w1 : World) (li : Nat) (hf : FlAt 1 (fun _ => True) w1 W.heap.size (new li) nils) (hb : Below W.heap.size W w1) :
    On (fun _ => False) W W (w1.alloc (.map #[] 0)) W.heap.size w1.heap.size (.slice none 0 0) [] [] (new li) nils := by
  have hm : ∀ g, Mut W.heap.size nils g → g = W.heap.size := fun g hg => by rcases hg with h | h | h <;> first | exact h | (simp [nils, Value.ownBlock] at h)
  have hlt : W.heap.size < w1.heap.size := hf.hb
  have hb2 : Below w1.heap.size w1 (w1.alloc (.map #[] 0)) := below_alloc (Below.refl _ _) _
  refine ⟨hf.chg (chg_below hb2) (fun _ _ h => h) (fun g hg _ _ => ⟨fun h => h, by omega, by simp [Value.ownBlock]⟩), PutAt.nil _ _ _, Taken.made w1, fun h => by have := hm _ h; omega, fun g h => by simp [Value.ownBlock] at h, fun g h => by rw [hm g h]; exact Nat.le_refl _, by omega, fun _ h => h.elim, below_next hb hb2⟩
end
end Go.Proofs.Ytogijioehdaefaa.Flt
namespace Go.Proofs.Ytogijioehdaefaa.Flt
open Go.RowKit Go.Proofs.Ytogijioehdaefaa.Mem Go.Proofs.Ytogijioehdaefaa.Oct Go.Proofs.Ytogijioehdaefaa.Pkt Go.Proofs.Ytogijioehdaefaa.Def Go.Proofs.Ytogijioehdaefaa.Ed

/-- what holds between two acts of a round: the box xb is as it was in wa -/
def RoundAt (W wa : World) (fb mb xb li k : Nat) (pv : Value) (ps : List (List UInt8)) (T : List Nat) (F : Fl) (wv : Nat → Value) (w : World) : Prop :=
  On (fun g => g = xb) wa W w fb mb pv ps T F wv ∧ Once li ps T F ∧ Good k F ∧ ps.length ≤ k ∧ T.length ≤ k
set_option maxHeartbeats 16000000 in
set_option maxRecDepth 100000 in
theorem FlightOnce_any (life : Int) (n ca : Nat) (A : Option Addr) (l : List Act1) (W : World) (hn : n = l.length) (hA : Acts W W.heap.size A l) (hmx : n ≤ 9223372036854775807) :
    Calls Try.prog 4 #[.int .i64 life, .slice A n ca] W fun e W' => e = .returned (.bool true) ∧ Below W.heap.size W W' := by
  have HFW := Lib.hid (fun w (hb : Below W.heap.size W w) => Few_any n ca A l w hn ((hA.below hb (Nat.le_refl _)).more hb.size) hmx)
  have hmm := @run_makeMap Try.prog
  cases hfew : few l with
  | false =>
    rw [hfew] at HFW
    clear hn hA hmx hfew
    by_cases hli : life < 0 ∨ 4096 < life
    · have N1 := Lib.hid (New_no life W hli)
      clear hli
      go_enter Try.func4, Try.ntmps4
      go_wp2_with fail
      refine N1.out.mono ?_
      rintro e w' ⟨rfl, rfl⟩
      have HF1 := Lib.hid (HFW.out W (Below.refl _ _))
      go_wp2_with (first
        | (go_at_call 6; refine HF1.out.mono ?_; rintro e w' ⟨rfl, rfl⟩)
        | (go_at_call 7; refine (live_any _).mono ?_; rintro e w7 ⟨rfl, hb7⟩)
        | fail)
      go_ret
      exact ⟨rfl, hb7⟩
    · obtain ⟨li, rfl⟩ : ∃ li : Nat, life = li := ⟨life.toNat, by omega⟩
      have hli2 : li ≤ 4096 := by omega
      go_enter Try.func4, Try.ntmps4
      go_wp2_with fail
      refine (New_yes li (fun _ => True) W hli2).mono ?_
      rintro e w1 ⟨rfl, hf1, hb1⟩
      have HF1 := Lib.hid (HFW.out w1 hb1)
      have HB1 := Lib.hid hb1
      clear hf1 hb1 hli2 hli
      go_wp2_with (first
        | (go_at_call 6; refine HF1.out.mono ?_; rintro e w' ⟨rfl, rfl⟩)
        | (go_at_call 7; refine (live_any _).mono ?_; rintro e w7 ⟨rfl, hb7⟩)
        | fail)
      go_ret
      exact ⟨rfl, below_next HB1.out hb7⟩
  | true =>
    rw [hfew] at HFW
    obtain ⟨h60, hsh⟩ := few_yes hfew
    have HN := Lib.hid hn
    have HA := Lib.hid hA
    have HSH := Lib.hid hsh
    have hn60 : n ≤ 60 := by omega
    clear hn hA hmx hfew h60 hsh
    by_cases hli : life < 0 ∨ 4096 < life
    · have N1 := Lib.hid (New_no life W hli)
      clear hli
      go_enter Try.func4, Try.ntmps4
      go_wp2_with fail
      refine N1.out.mono ?_
      rintro e w' ⟨rfl, rfl⟩
      have HF1 := Lib.hid (HFW.out W (Below.refl _ _))
      go_wp2_with (first
        | (go_at_call 6; refine HF1.out.mono ?_; rintro e w' ⟨rfl, rfl⟩)
        | (go_at_call 10; refine (num_any _ _).mono ?_; rintro e w' ⟨rfl, rfl⟩)
        | (go_at_call 7; refine (live_any _).mono ?_; rintro e w7 ⟨rfl, hb7⟩)
        | fail)
      go_ret
      exact ⟨rfl, hb7⟩
    · obtain ⟨li, rfl⟩ : ∃ li : Nat, life = li := ⟨life.toNat, by omega⟩
      have hli2 : li ≤ 4096 := by omega
      go_enter Try.func4, Try.ntmps4
      go_wp2_with fail
      refine (New_yes li (fun _ => True) W hli2).mono ?_
      rintro e w1 ⟨rfl, hf1, hb1⟩
      have HF1 := Lib.hid (HFW.out w1 hb1)
      have HST := Lib.hid (And.intro (on_start W w1 li hf1 hb1) (good_new li hli2))
      clear hf1 hb1 hli2 hli
      go_wp2_with (first
        | (go_at_call 6; refine HF1.out.mono ?_; rintro e w' ⟨rfl, rfl⟩)
        | (go_at_call 10; refine (num_any _ _).mono ?_; rintro e w' ⟨rfl, rfl⟩)
        | fail)
      obtain ⟨w2, hw2⟩ : ∃ w2, w2 = w1.alloc (.map #[] 0) := ⟨_, rfl⟩
      obtain ⟨mb, hmb⟩ : ∃ mb, mb = w1.heap.size := ⟨_, rfl⟩
      obtain ⟨fb, hfb⟩ : ∃ fb, fb = W.heap.size := ⟨_, rfl⟩
      have HST2 := Lib.hid (show On (fun _ => False) W W w2 fb mb (.slice none 0 0) [] [] (new li) nils ∧ Good 0 (new li) by rw [hw2, hmb, hfb]; exact HST.out)
      rw [← hw2, ← hmb, ← hfb]
      clear HST hw2 hmb hfb HF1 HFW
      go_loopg [7, 9, 10, 11, 12, 13, 14, 15] n (fun g pv iv _ _ _ _ _ _ wr => ∃ (k np cp : Nat) (Ap : Option Addr) (ps : List (List UInt8)) (T : List Nat) (F : Fl) (wv : Nat → Value), k + g = n ∧ iv = .int .i64 k ∧ pv = .slice Ap np cp ∧
        Hid (np = ps.length ∧ On (fun _ => False) W W wr fb mb (.slice Ap np cp) ps T F wv ∧ Once li ps T F ∧ Good k F ∧ ps.length ≤ k ∧ T.length ≤ k))
      case atStart => exact ⟨0, 0, 0, none, [], [], new li, nils, Nat.zero_add _, rfl, rfl, Lib.hid ⟨rfl, HST2.out.1, once_new li, HST2.out.2, Nat.le_refl _, Nat.le_refl _⟩⟩
      case round =>
        obtain ⟨k, np, cp, Ap, ps, T, F, wv, hk, rfl, rfl, HS⟩ := hrel
        clear HST2
        by_cases hlt : k < n
        · obtain ⟨g, rfl⟩ : ∃ g, gk = g + 1 := ⟨gk - 1, by omega⟩
          have hltI : (k : Int) < (n : Int) := by omega
          obtain ⟨b, off, rfl, hbW, hact⟩ := HA.out (by rw [← HN.out]; omega)
          obtain ⟨Aw, cw, Ae, cE, y0, y1, y2, y3, y4, hBw, hEe⟩ := hact k (by rw [← HN.out]; exact hlt)
          have hbl := HS.out.2.1.below
          have x0 := ((bcell hbl).1 _ _ hbW).trans y0
          have x1 := ((bcell hbl).1 _ _ hbW).trans y1
          have x2 := ((bcell hbl).1 _ _ hbW).trans y2
          have x3 := ((bcell hbl).1 _ _ hbW).trans y3
          have x4 := ((bcell hbl).1 _ _ hbW).trans y4
          obtain ⟨sw, se⟩ := HSH.out k (by rw [← HN.out]; exact hlt)
          clear hact y0 y1 y2 y3 y4
          generalize nthA l k = x at *
          obtain ⟨kd, dir, at_, wire, edits⟩ := x
          simp only at x0 x1 x2 x3 x4 hBw hEe sw se
          obtain ⟨nw, hnw⟩ : ∃ nw, nw = wire.length := ⟨_, rfl⟩
          obtain ⟨ne, hne⟩ : ∃ ne, ne = edits.length := ⟨_, rfl⟩
          rw [← hnw] at x3
          rw [← hne] at x4
          obtain ⟨wa, hwa⟩ : ∃ wa, wa = wr.alloc (.cells #[.int .i64 kd, .int .i64 dir, .int .i64 at_, .slice Aw nw cw, .slice Ae ne cE] 36) := ⟨_, rfl⟩
          have hba : Below wr.heap.size wr wa := by rw [hwa]; exact below_alloc (Below.refl _ _) _
          have a0 : wa.cell? ⟨wr.heap.size, 0, none⟩ = some (.int .i64 kd) := by rw [hwa]; simp [go_sem]
          have a2 : wa.cell? ⟨wr.heap.size, 2, none⟩ = some (.int .i64 at_) := by rw [hwa]; simp [go_sem]
          have a3 : wa.cell? ⟨wr.heap.size, 3, none⟩ = some (.slice Aw nw cw) := by rw [hwa]; simp [go_sem]
          have a4 : wa.cell? ⟨wr.heap.size, 4, none⟩ = some (.slice Ae ne cE) := by rw [hwa]; simp [go_sem]
          have hsa : wr.heap.size < wa.heap.size := by rw [hwa]; simp
          have HR := Lib.hid (show RoundAt W wa fb mb wr.heap.size li (k + 1) (.slice Ap np cp) ps T F wv wa from ⟨HS.out.2.1.seal hba hsa, HS.out.2.2.1, HS.out.2.2.2.1.mono (Nat.le_succ k), Nat.le_succ_of_le HS.out.2.2.2.2.1, Nat.le_succ_of_le HS.out.2.2.2.2.2⟩)
          have HSK := Lib.hid (And.intro HS.out.1 (And.intro HS.out.2.2.2.1 (And.intro HS.out.2.2.2.2.1 HS.out.2.2.2.2.2)))
          have HK := Lib.hid (fun (pv' : Value) (ps' : List (List UInt8)) (T' : List Nat) (F' : Fl) (wv' : Nat → Value) (w' : World) (hm : On (fun g => g = wr.heap.size) wa W w' fb mb pv' ps' T' F' wv') =>
            show w'.cell? ⟨wr.heap.size, 0, none⟩ = some (.int .i64 kd) ∧ w'.cell? ⟨wr.heap.size, 2, none⟩ = some (.int .i64 at_) ∧ w'.cell? ⟨wr.heap.size, 3, none⟩ = some (.slice Aw nw cw) ∧ w'.cell? ⟨wr.heap.size, 4, none⟩ = some (.slice Ae ne cE) from
              ⟨(hm.cell rfl).trans a0, (hm.cell rfl).trans a2, (hm.cell rfl).trans a3, (hm.cell rfl).trans a4⟩)
          have HWA := Lib.hid hwa
          have hE20 : edits.length ≤ 1000000 := by omega
          have HE := Lib.hid (And.intro hBw (And.intro hEe (And.intro hnw (And.intro hne (And.intro sw hE20)))))
          have hk60 : k < 60 := by omega
          clear hBw hEe hnw hne sw se hwa hba hE20 hbl HS
          go_upto_region 10 with fail
          rw [← HWA.out]
          go_cut [51] (fun c wx => ∃ (cb : Bool) (F' : Fl) (wv' : Nat → Value), c = .bool cb ∧ Hid (On (fun g => g = wr.heap.size) wa W wx fb mb (.slice Ap np cp) ps T F' wv' ∧ Good (k + 1) F' ∧ (cb = false → Once li ps T F') ∧ (cb = true → Once li (ps ++ [wire]) T F')))
          case first =>
            by_cases hk0 : kd = 0
            · have hk0B : (kd == 0) = true := by rw [hk0]; rfl
              have HP := Lib.hid (On.Put (m := nw) (ca := cw) HR.out.1 HSK.out.2.1 (by omega) HE.out.1 HE.out.2.2.1)
              by_cases hl : wire.length ≤ 512
              · rw [putO_ok F hl] at HP
                have HX := Lib.hid (And.intro (good_put HSK.out.2.1 (by omega) (d := 0) (by decide) wire) (once_put HR.out.2.1 wire))
                clear hl
                go_wp2_with (first
                  | (go_at_call 11; refine HP.out.mono ?_; rintro e w2 ⟨rfl, wv2, h2⟩; have HO2 := Lib.hid h2; clear h2)
                  | (go_at_call 10; refine (num_any _ _).mono ?_; rintro e w' ⟨rfl, rfl⟩)
                  | fail)
                go_meet
                exact ⟨true, _, _, rfl, Lib.hid ⟨HO2.out, HX.out.1, fun h => Bool.noConfusion h, fun _ => HX.out.2⟩⟩
              · rw [putO_long F (by omega)] at HP
                clear hl
                go_wp2_with (first
                  | (go_at_call 11; refine HP.out.mono ?_; rintro e w2 ⟨rfl, wv2, h2⟩; have HO2 := Lib.hid h2; clear h2)
                  | (go_at_call 10; refine (num_any _ _).mono ?_; rintro e w' ⟨rfl, rfl⟩)
                  | fail)
                go_meet
                exact ⟨false, _, _, rfl, Lib.hid ⟨HO2.out, HR.out.2.2.1, fun _ => HR.out.2.1, fun h => Bool.noConfusion h⟩⟩
            · have hk0B : (kd == 0) = false := beq_eq_false_iff_ne.2 hk0
              go_wp2_with fail
              go_meet
              exact ⟨false, _, _, rfl, Lib.hid ⟨HR.out.1, HR.out.2.2.1, fun _ => HR.out.2.1, fun h => Bool.noConfusion h⟩⟩
          case rest =>
          obtain ⟨cb, F1, wv1, rfl, H1⟩ := hcut
          clear a0 a2 a3 a4
          go_upto_if 51 with fail
          go_cut [7] (fun pv wx => ∃ (np' cp' : Nat) (Ap' : Option Addr) (ps' : List (List UInt8)) (F' : Fl) (wv' : Nat → Value), pv = .slice Ap' np' cp' ∧ Hid (np' = ps'.length ∧ RoundAt W wa fb mb wr.heap.size li (k + 1) (.slice Ap' np' cp') ps' T F' wv' wx))
          case first =>
            cases cb with
            | false =>
              go_wp2_with fail
              go_meet
              exact ⟨np, cp, Ap, ps, F1, wv1, rfl, Lib.hid ⟨HSK.out.1, H1.out.1, H1.out.2.2.1 (by first | rfl | trivial), H1.out.2.1, Nat.le_succ_of_le HSK.out.2.2.1, Nat.le_succ_of_le HSK.out.2.2.2⟩⟩
            | true =>
              obtain ⟨_, _, hx3, _⟩ := HK.out _ _ _ _ _ _ H1.out.1
              have HC := Lib.hid (Pkt.Copy_any Aw nw cw wire wc HE.out.2.2.1 (HE.out.1.later H1.out.1.below) (by have := HE.out.2.2.2.2.1; omega))
              go_wp2_with (first
                | (go_at_call 19; refine HC.out.mono ?_; rintro e w3 ⟨v3, rfl, ho3, hb3⟩; obtain ⟨Ax, nx, cx, rfl, hnx⟩ := own_shape' ho3
                   obtain ⟨xs, p1, p2, p3⟩ := (H1.out.1.below' hb3).put
                   have HX := Lib.hid (And.intro p1 (And.intro p2 (And.intro p3 (And.intro (H1.out.1.below' hb3) (TextP.own ho3 (fun g hg _ => H1.out.1.new g hg))))))
                   have HX2 := Lib.hid (show W.heap.size ≤ w3.heap.size ∧ xs.length ≤ 1000000 from ⟨(H1.out.1.below' hb3).below.size, by have := HSK.out.2.2.1; omega⟩)
                   clear ho3 hb3 p1 p2 p3 hnx)
                | (at_builtin; refine wpList_app_txt _ rfl _ _ rfl W.heap.size _ xs rfl HX.out.1 Ax nx cx _ _ (by rfl) rfl HX2.out.1 HX2.out.2 ?_
                   intro v4 w4 ho4 hg4 hl4
                   have H4 := Lib.hid (And.intro (On.push HX.out.2.2.2.1 HX.out.2.1 HX.out.2.2.1 HX.out.2.2.2.2 ho4 hg4 hl4) ho4)
                   clear ho4 hg4 hl4)
                | fail)
              go_meet
              obtain ⟨A4, n4, c4, rfl, hn4⟩ := H4.out.1.shp
              exact ⟨n4, c4, A4, _, F1, wv1, rfl, Lib.hid ⟨hn4, H4.out.1, H1.out.2.2.2 (by first | rfl | trivial), H1.out.2.1, by rw [List.length_append]; exact Nat.succ_le_succ HSK.out.2.2.1, Nat.le_succ_of_le HSK.out.2.2.2⟩⟩
          case rest =>
          obtain ⟨np1, cp1, Ap1, ps1, F2, wv2, rfl, H2⟩ := hcut
          clear H1 HR
          obtain ⟨c0, c2, _, c4⟩ := HK.out _ _ _ _ _ _ H2.out.2.1
          go_upto_if 60 with fail
          go_cut [] (fun wx => ∃ (F' : Fl) (wv' : Nat → Value), Hid (RoundAt W wa fb mb wr.heap.size li (k + 1) (.slice Ap1 np1 cp1) ps1 T F' wv' wx))
          case first =>
            by_cases hk2 : kd = 2
            · have hk2B : (kd == 2) = true := by rw [hk2]; rfl
              have HP := Lib.hid (show Calls Try.prog 16 #[.pointer (some ⟨fb, 0, none⟩), .int .i64 0, .int .i64 at_, .slice Ae ne cE] wc fun e w' => (∃ c, e = .returned (.int .i64 c)) ∧ ∃ wv', On (fun g => g = wr.heap.size) wa W w' fb mb (.slice Ap1 np1 cp1) ps1 T (spoilO F2 0 at_ edits) wv' by
                rw [HE.out.2.2.2.1]
                exact On.Spoil H2.out.2.1 HE.out.2.1 HE.out.2.2.2.2.2)
              go_wp2_with (first
                | (go_at_call 16; refine HP.out.mono ?_; rintro e w2 ⟨⟨c, rfl⟩, wv2, h2⟩; have HO2 := Lib.hid h2; clear h2)
                | fail)
              go_meet
              exact ⟨_, _, Lib.hid ⟨HO2.out, once_spoilO H2.out.2.2.1 _ _, good_spoilO H2.out.2.2.2.1 _ _ _, H2.out.2.2.2.2⟩⟩
            · have hk2B : (kd == 2) = false := beq_eq_false_iff_ne.2 hk2
              go_wp2_with fail
              go_meet
              exact ⟨F2, wv2, Lib.hid H2.out.2⟩
          case rest =>
          obtain ⟨F3, wv3, H3⟩ := hcut
          have HNP := Lib.hid H2.out.1
          clear H2 c0 c2 c4
          obtain ⟨c0, c2, _, _⟩ := HK.out _ _ _ _ _ _ H3.out.1
          go_upto_if 69 with fail
          go_cut [11, 12] (fun _ _ wx => ∃ (T' : List Nat) (F' : Fl) (wv' : Nat → Value), Hid (RoundAt W wa fb mb wr.heap.size li (k + 1) (.slice Ap1 np1 cp1) ps1 T' F' wv' wx))
          case first =>
            by_cases hk1 : kd = 1
            · have hk1B : (kd == 1) = true := by rw [hk1]; rfl
              have HP := Lib.hid (On.Take at_ H3.out.1 H3.out.2.2.1 (by omega))
              by_cases hi : 0 ≤ at_ ∧ at_ < ((F3.fs 0).length : Int)
              · obtain ⟨j, rfl⟩ : ∃ j : Nat, at_ = j := ⟨at_.toNat, by omega⟩
                have hj : j < (F3.fs 0).length := by omega
                rw [atO_ok F3 hj, takeO_ok F3 hj] at HP
                have hmem := nthF_mem hj
                have hlast := H3.out.2.1.has _ hmem
                have HF := Lib.hid (And.intro (once_take H3.out.2.1 hj) (good_take H3.out.2.2.1 (d := 0) (by decide) j))
                clear hi hmem
                generalize nthF (F3.fs 0) j = x at *
                obtain ⟨q, xw, xf⟩ := x
                simp only at HP HF hlast
                obtain ⟨q1, q2, q3, q4⟩ := hlast
                have HQ := Lib.hid (And.intro q3 q4)
                have hnp := HNP.out
                have hq1I : ¬ (q : Int) < 1 := by omega
                have hq2I : ¬ (np1 : Int) < (q : Int) := by omega
                have hq1B : decide ((q : Int) < 1) = false := decide_eq_false (by omega)
                have hq2B : decide (np1 < q) = false := decide_eq_false (by omega)
                have hq2C : decide ((np1 : Int) < (q : Int)) = false := decide_eq_false (by omega)
                have hq100 : q ≤ 1000000 := by have := H3.out.2.2.2.1; omega
                obtain ⟨r, hr⟩ : ∃ r : Nat, q = r + 1 := ⟨q - 1, by omega⟩
                have hrw : IntKind.i64.wrap ((q : Int) - 1) = (r : Int) := by rw [IntKind.wrap_i64]; omega
                have hrI : (r : Int) < (np1 : Int) := by omega
                have HR2 := Lib.hid (show q - 1 = r ∧ r < ps1.length from ⟨by omega, by omega⟩)
                clear q1 q2 q3 q4 hr hnp hj
                go_wp2_with (first
                  | (go_at_call 13; refine HP.out.mono ?_; rintro e w2 ⟨A1, n1, c1, A2, n2, c2, rfl, hn2, hl2, hb2, wv4, h2⟩; have HO2 := Lib.hid (And.intro hn2 (And.intro hl2 (And.intro hb2 h2))); clear hn2 hl2 hb2 h2)
                  | fail)
                obtain ⟨wz, hwz⟩ : ∃ wz, wz = w2.alloc (.cells #[.int .i64 q, .slice A1 n1 c1, .slice A2 n2 c2] 40) := ⟨_, rfl⟩
                have hbz : Below w2.heap.size w2 wz := by rw [hwz]; exact below_alloc (Below.refl _ _) _
                have b0 : wz.cell? ⟨w2.heap.size, 0, none⟩ = some (.int .i64 q) := by rw [hwz]; simp [go_sem]
                have b2 : wz.cell? ⟨w2.heap.size, 2, none⟩ = some (.slice A2 n2 c2) := by rw [hwz]; simp [go_sem]
                have hsz : w2.heap.size < wz.heap.size := by rw [hwz]; simp
                have hz := HO2.out.2.2.2.below' hbz
                have HLK := Lib.hid (fun w (hb : Below wz.heap.size wz w) => show (Instr.lookup 51 (.map (some mb)) (.int .i64 (q : Int)) false).run Try.prog w = .ok (.bool false) w from (hz.below' hb).tak.look HQ.out.2 hq100)
                obtain ⟨gp, capp, Ap2, npp, cpp, hpv, hcell, hgp, _, hnpp, hrest, hle⟩ := hz.put.at_ HR2.out.2
                simp only [Value.slice.injEq] at hpv
                obtain ⟨rfl, hpn, rfl⟩ := hpv
                clear hpn
                have HSM := Lib.hid (fun w (hb : Below wz.heap.size wz w) => same_yes A2 Ap2 n2 npp c2 cpp xf w HO2.out.1 (by rw [HQ.out.1, HR2.out.1]; exact hnpp) ((HO2.out.2.2.1.later hbz).later hb) (by rw [HQ.out.1, HR2.out.1]; exact hrest.bytes.later hb) (by have := HO2.out.1; have := HO2.out.2.1; unfold maxLen; omega))
                have HKB := Lib.hid (fun w (hb : Below wz.heap.size wz w) => show w.cell? ⟨w2.heap.size, 0, none⟩ = some (.int .i64 q) ∧ w.cell? ⟨w2.heap.size, 2, none⟩ = some (.slice A2 n2 c2) ∧ w.cell? ⟨gp, r, none⟩ = some (.slice Ap2 npp cpp) from ⟨((bcell hb).1 _ _ hsz).trans b0, ((bcell hb).1 _ _ hsz).trans b2, ((bcell hb).1 _ _ hgp).trans hcell⟩)
                have HWZ := Lib.hid hwz
                have HOZ := Lib.hid hz
                clear hbz hwz hz hrest hle hnpp
                rw [← HWZ.out]
                refine (num_any 0 wz).mono ?_
                rintro e w' ⟨rfl, rfl⟩
                go_upto_region 17 with fail
                obtain ⟨k0, k2, kc⟩ := HKB.out wz.drew (Below.drew (Below.refl wz.heap.size wz))
                have kl := HLK.out wz.drew (Below.drew (Below.refl wz.heap.size wz))
                have HBD := Lib.hid (Below.drew (Below.refl wz.heap.size wz))
                go_region_held3 (fun w' => w'.cell? ⟨w2.heap.size, 0, none⟩ = some (.int .i64 q) ∧ w'.cell? ⟨w2.heap.size, 2, none⟩ = some (.slice A2 n2 c2) ∧ w'.cell? ⟨gp, r, none⟩ = some (.slice Ap2 npp cpp) ∧ (Instr.lookup 51 (.map (some mb)) (.int .i64 (q : Int)) false).run Try.prog w' = .ok (.bool false) w') (first | exact hS5 | exact ⟨k0, k2, kc, kl⟩ | go_keep)
                  ((first
                    | (go_at_call 20; refine (HSM.out _ HBD.out).mono ?_; rintro e w5 ⟨rfl, hb5⟩
                       have hS5 := And.intro (HKB.out _ (below_undrew hb5)).1 (And.intro (HKB.out _ (below_undrew hb5)).2.1 (And.intro (HKB.out _ (below_undrew hb5)).2.2 (HLK.out _ (below_undrew hb5)))))
                    | fail))
                have HON5 := Lib.hid (HOZ.out.below' (below_undrew hb5))
                obtain ⟨z0, _, _⟩ := HKB.out _ (below_undrew hb5)
                have HTL := Lib.hid (show T.length ≤ 1000000 by have := HSK.out.2.2.2; omega)
                clear k0 k2 kc kl hb5 hq1B hq2B hq2C hq1I hq2I
                go_wp2_with (first
                  | (at_mapUpdate; refine wpList_taken _ rfl _ _ _ rfl mb q T (by rfl) HON5.out.tak HTL.out (by rfl) hq100 (by rfl) ?_
                     intro w6 ht6 hk6
                     have H6 := Lib.hid (HON5.out.store ht6 hk6)
                     clear ht6 hk6)
                  | fail)
                go_meet
                exact ⟨T ++ [q], _, _, Lib.hid ⟨H6.out, HF.out.1, HF.out.2, H3.out.2.2.2.1, by rw [List.length_append]; exact Nat.succ_le_succ HSK.out.2.2.2⟩⟩
              · rw [atO_none hi, takeO_none hi] at HP
                have HP2 := Lib.hid (show Calls Try.prog 13 #[.pointer (some ⟨fb, 0, none⟩), .int .i64 0, .int .i64 at_] wc fun e w' => ∃ A1 n1 c1 A2 n2 c2 wv', e = .returned (.tuple #[.agg #[.int .i64 0, .slice A1 n1 c1, .slice A2 n2 c2], .int .i64 4]) ∧ On (fun g => g = wr.heap.size) wa W w' fb mb (.slice Ap1 np1 cp1) ps1 T F3 wv' from
                  HP.out.mono fun e w' ⟨A1, n1, c1, A2, n2, c2, he, _, _, _, wv', h⟩ => ⟨A1, n1, c1, A2, n2, c2, wv', he, h⟩)
                clear hi HP
                go_wp2_with (first
                  | (go_at_call 13; refine HP2.out.mono ?_; rintro e w2 ⟨A1, n1, d1, A2, n2, d2, wv4, rfl, h2⟩; have HO2 := Lib.hid h2; clear h2)
                  | fail)
                obtain ⟨wz, hwz⟩ : ∃ wz, wz = w2.alloc (.cells #[.int .i64 0, .slice A1 n1 d1, .slice A2 n2 d2] 40) := ⟨_, rfl⟩
                have HZ := Lib.hid (HO2.out.below' (show Below w2.heap.size w2 wz by rw [hwz]; exact below_alloc (Below.refl _ _) _))
                rw [← hwz]
                clear hwz
                refine (num_any 4 wz).mono ?_
                rintro e w' ⟨rfl, rfl⟩
                go_wp2_with fail
                go_meet
                exact ⟨T, F3, _, Lib.hid ⟨HZ.out, H3.out.2⟩⟩
            · have hk1B : (kd == 1) = false := beq_eq_false_iff_ne.2 hk1
              go_wp2_with fail
              go_meet
              exact ⟨T, F3, wv3, H3⟩
          case rest =>
          obtain ⟨T4, F4, wv4, H4⟩ := hcut
          clear H3 c0 c2
          obtain ⟨m, hm⟩ : ∃ m, m = (F4.fs 0).length := ⟨_, rfl⟩
          have HLN := Lib.hid (fun w (hb : Below wc.heap.size wc w) => show Calls Try.prog 21 #[.pointer (some ⟨fb, 0, none⟩), .int .i64 0] w fun e w' => e = .returned (.int .i64 m) ∧ w = w' by
            rw [hm]
            exact Len_yes 0 (H4.out.1.below' hb).f (by decide))
          have HLN0 := Lib.hid (HLN.out wc (Below.refl _ _))
          have hmb : m ≤ 100 := by rw [hm]; exact Nat.le_trans (H4.out.2.2.1.len 0 (by decide)) (by omega)
          have hml : 0 < li → m ≤ li := fun h => by rw [hm]; exact once_len H4.out.2.1 h
          have HM := Lib.hid hm
          clear hm
          by_cases hl0 : (0 : Int) < (li : Int)
          · have hmlI : ¬ li < m := by have := hml (by omega); omega
            have HL0 := Lib.hid hl0
            clear hml
            go_wp2_with (first
              | (go_at_call 21; refine HLN0.out.mono ?_; rintro e w' ⟨rfl, rfl⟩)
              | fail)
            go_loopg [13, 14, 15] m (fun g' jv _ _ wr => ∃ j : Nat, j + g' = m ∧ jv = .int .i64 j ∧ Below wc.heap.size wc wr)
            case atStart => exact ⟨0, Nat.zero_add _, rfl, Below.refl _ _⟩
            case round =>
              rename World => wi
              obtain ⟨j, hj, rfl, hbi⟩ := hrel
              have HLN2 := Lib.hid (HLN.out wi hbi)
              have HON := Lib.hid (H4.out.1.below' hbi)
              have HBI := Lib.hid hbi
              clear hbi
              by_cases hjm : j < m
              · obtain ⟨g2, rfl⟩ : ∃ g2, gk = g2 + 1 := ⟨gk - 1, by omega⟩
                have hjI : (j : Int) < (m : Int) := by omega
                have hjl : j < (F4.fs 0).length := by rw [← HM.out]; exact hjm
                have HAT := Lib.hid (On.At HON.out hjl)
                have hlast := H4.out.2.1.has _ (nthF_mem hjl)
                have hyoung := fun h => H4.out.2.1.young h _ (nthF_mem hjl)
                clear hjl
                generalize nthF (F4.fs 0) j = x at *
                obtain ⟨q, xw, xf⟩ := x
                simp only at HAT hlast hyoung
                obtain ⟨_, q2, _, q4⟩ := hlast
                have hnp := HNP.out
                have hpl := H4.out.2.2.2.1
                have hq100 : q ≤ 1000000 := by omega
                have hq2I : ¬ (np1 : Int) < (q : Int) := by omega
                have hqw : IntKind.i64.wrap ((np1 : Int) - (q : Int)) = (np1 : Int) - (q : Int) := by rw [IntKind.wrap_i64]; omega
                try have hge : ¬ (li : Int) ≤ (np1 : Int) - (q : Int) := by have h0 := HL0.out; have := hyoung (by omega); omega
                clear hnp hpl q2 hyoung
                go_wp2_with (first
                  | (go_at_call 21; refine HLN2.out.mono ?_; rintro e w' ⟨rfl, rfl⟩)
                  | (go_at_call 22; refine HAT.out.mono ?_; rintro e w2 ⟨A1, n1, c1, A2, n2, c2, rfl, hb2⟩; have HB2 := Lib.hid hb2; clear hb2)
                  | fail)
                obtain ⟨wz, hwz⟩ : ∃ wz, wz = w2.alloc (.cells #[.int .i64 q, .slice A1 n1 c1, .slice A2 n2 c2] 40) := ⟨_, rfl⟩
                have hbz : Below w2.heap.size w2 wz := by rw [hwz]; exact below_alloc (Below.refl _ _) _
                have b0 : wz.cell? ⟨w2.heap.size, 0, none⟩ = some (.int .i64 q) := by rw [hwz]; simp [go_sem]
                have hlook := ((HON.out.below' HB2.out).below' hbz).tak.look q4 hq100
                have HBZ := Lib.hid (below_next (below_next HBI.out HB2.out) hbz)
                have HWZ := Lib.hid hwz
                clear hbz hwz q4
                rw [← HWZ.out]
                refine (num_any 0 wz).mono ?_
                rintro e w' ⟨rfl, rfl⟩
                go_wp2_with fail
                go_roundg g2
                case measure => omega
                case rel => exact ⟨j + 1, by omega, by go_num, HBZ.out⟩
              · have hjI : ¬ (j : Int) < (m : Int) := by omega
                go_wp2_with (first
                  | (go_at_call 21; refine HLN2.out.mono ?_; rintro e w' ⟨rfl, rfl⟩)
                  | fail)
                go_roundg g
                case measure => omega
                case rel => exact ⟨k + 1, np1, cp1, Ap1, ps1, T4, F4, wv4, by omega, by go_num, rfl, Lib.hid ⟨HNP.out, HON.out.free, H4.out.2⟩⟩
          · have HL0 := Lib.hid (True.intro)
            clear hml
            go_wp2_with fail
            go_loopg [13, 14, 15] m (fun g' jv _ _ wr => ∃ j : Nat, j + g' = m ∧ jv = .int .i64 j ∧ Below wc.heap.size wc wr)
            case atStart => exact ⟨0, Nat.zero_add _, rfl, Below.refl _ _⟩
            case round =>
              rename World => wi
              obtain ⟨j, hj, rfl, hbi⟩ := hrel
              have HLN2 := Lib.hid (HLN.out wi hbi)
              have HON := Lib.hid (H4.out.1.below' hbi)
              have HBI := Lib.hid hbi
              clear hbi
              by_cases hjm : j < m
              · obtain ⟨g2, rfl⟩ : ∃ g2, gk = g2 + 1 := ⟨gk - 1, by omega⟩
                have hjI : (j : Int) < (m : Int) := by omega
                have hjl : j < (F4.fs 0).length := by rw [← HM.out]; exact hjm
                have HAT := Lib.hid (On.At HON.out hjl)
                have hlast := H4.out.2.1.has _ (nthF_mem hjl)
                have hyoung := fun h => H4.out.2.1.young h _ (nthF_mem hjl)
                clear hjl
                generalize nthF (F4.fs 0) j = x at *
                obtain ⟨q, xw, xf⟩ := x
                simp only at HAT hlast hyoung
                obtain ⟨_, q2, _, q4⟩ := hlast
                have hnp := HNP.out
                have hpl := H4.out.2.2.2.1
                have hq100 : q ≤ 1000000 := by omega
                have hq2I : ¬ (np1 : Int) < (q : Int) := by omega
                have hqw : IntKind.i64.wrap ((np1 : Int) - (q : Int)) = (np1 : Int) - (q : Int) := by rw [IntKind.wrap_i64]; omega
                try have hge : ¬ (li : Int) ≤ (np1 : Int) - (q : Int) := by have h0 := HL0.out; have := hyoung (by omega); omega
                clear hnp hpl q2 hyoung
                go_wp2_with (first
                  | (go_at_call 21; refine HLN2.out.mono ?_; rintro e w' ⟨rfl, rfl⟩)
                  | (go_at_call 22; refine HAT.out.mono ?_; rintro e w2 ⟨A1, n1, c1, A2, n2, c2, rfl, hb2⟩; have HB2 := Lib.hid hb2; clear hb2)
                  | fail)
                obtain ⟨wz, hwz⟩ : ∃ wz, wz = w2.alloc (.cells #[.int .i64 q, .slice A1 n1 c1, .slice A2 n2 c2] 40) := ⟨_, rfl⟩
                have hbz : Below w2.heap.size w2 wz := by rw [hwz]; exact below_alloc (Below.refl _ _) _
                have b0 : wz.cell? ⟨w2.heap.size, 0, none⟩ = some (.int .i64 q) := by rw [hwz]; simp [go_sem]
                have hlook := ((HON.out.below' HB2.out).below' hbz).tak.look q4 hq100
                have HBZ := Lib.hid (below_next (below_next HBI.out HB2.out) hbz)
                have HWZ := Lib.hid hwz
                clear hbz hwz q4
                rw [← HWZ.out]
                refine (num_any 0 wz).mono ?_
                rintro e w' ⟨rfl, rfl⟩
                go_wp2_with fail
                go_roundg g2
                case measure => omega
                case rel => exact ⟨j + 1, by omega, by go_num, HBZ.out⟩
              · have hjI : ¬ (j : Int) < (m : Int) := by omega
                go_wp2_with (first
                  | (go_at_call 21; refine HLN2.out.mono ?_; rintro e w' ⟨rfl, rfl⟩)
                  | fail)
                go_roundg g
                case measure => omega
                case rel => exact ⟨k + 1, np1, cp1, Ap1, ps1, T4, F4, wv4, by omega, by go_num, rfl, Lib.hid ⟨HNP.out, HON.out.free, H4.out.2⟩⟩
        · have hltI : ¬ (k : Int) < (n : Int) := by omega
          go_wp2_with (first
            | (go_at_call 7; refine (live_any _).mono ?_; rintro e w7 ⟨rfl, hb7⟩)
            | fail)
          go_ret
          exact ⟨rfl, below_next HS.out.2.1.below hb7⟩
end Go.Proofs.Ytogijioehdaefaa.Flt
