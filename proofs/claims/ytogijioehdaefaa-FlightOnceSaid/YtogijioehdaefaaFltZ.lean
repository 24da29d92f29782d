
/- Layer 16 (flight): FlightDoes. -/
import Derived.Test.YtogijioehdaefaaFltO
import Derived.Test.YtogijioehdaefaaFltX
attribute [local go_sem ↓] Go.wp_at_zero Go.wp_at_succ
namespace Go.Proofs.Ytogijioehdaefaa.Flt
open Go.RowKit Go.Proofs.Ytogijioehdaefaa.Mem Go.Proofs.Ytogijioehdaefaa.Oct Go.Proofs.Ytogijioehdaefaa.Pkt Go.Proofs.Ytogijioehdaefaa.Def Go.Proofs.Ytogijioehdaefaa.Ed

/-- two flights, neither in the other's memory, both in memory from base on -/
structure Pair (base : Nat) (w : World) (fb rb : Nat) (F G : Fl) (wv uv : Nat → Value) : Prop where
  f : FlAt 1 (fun g => ¬ Mut rb uv g) w fb F wv
  r : FlAt 0 (fun g => ¬ Mut fb wv g) w rb G uv
  dis : ∀ g, Mut fb wv g → ¬ Mut rb uv g
  newf : ∀ g, Mut fb wv g → base ≤ g
  newr : ∀ g, Mut rb uv g → base ≤ g
section
variable {base : Nat} {w w' : World} {fb rb : Nat} {F G F' G' : Fl} {wv uv : Nat → Value}
theorem Pair.hRf (h : Pair base w fb rb F G wv uv) : ∀ g, w.heap.size ≤ g → ¬ Mut rb uv g := fun g hg hm => by have := h.r.lt g hm; omega
theorem Pair.hRr (h : Pair base w fb rb F G wv uv) : ∀ g, w.heap.size ≤ g → ¬ Mut fb wv g := fun g hg hm => by have := h.f.lt g hm; omega
theorem Pair.below (h : Pair base w fb rb F G wv uv) (hb : Below w.heap.size w w') : Pair base w' fb rb F G wv uv := ⟨h.f.below hb, h.r.below hb, h.dis, h.newf, h.newr⟩
theorem Pair.drawn (h : Pair base w fb rb F G wv uv) (hd : Drawn w w') : Pair base w' fb rb F G wv uv := ⟨h.f.drawn hd, h.r.drawn hd, h.dis, h.newf, h.newr⟩
theorem Pair.actF (h : Pair base w fb rb F G wv uv) (hb : base ≤ w.heap.size) (ha : Acted 1 (fun g => ¬ Mut rb uv g) w fb wv F' w') : (∃ wv', Pair base w' fb rb F' G wv' uv) ∧ Chg (fun g => base ≤ g) w w' ∧ Chg (Mut fb wv) w w' := by
  obtain ⟨wv', h1, h2, h3⟩ := ha
  refine ⟨⟨wv', h1, h.r.chg h2 (fun g hg hm => h.dis g hm hg) (fun g hlt hg hR => ⟨hR, fun hm => ?_⟩), fun g hg hm => ?_, fun g hg => ?_, h.newr⟩, h2.mono (fun g hg => h.newf g hg), h2⟩
  · rcases h3 g hm with h4 | h4
    · exact hR h4
    · omega
  · rcases h3 g hg with h4 | h4
    · exact h.dis g h4 hm
    · have := h.r.lt g hm
      omega
  · rcases h3 g hg with h4 | h4
    · exact h.newf g h4
    · omega
theorem Pair.actR (h : Pair base w fb rb F G wv uv) (hb : base ≤ w.heap.size) (ha : Acted 0 (fun g => ¬ Mut fb wv g) w rb uv G' w') : (∃ uv', Pair base w' fb rb F G' wv uv') ∧ Chg (fun g => base ≤ g) w w' ∧ Chg (Mut rb uv) w w' := by
  obtain ⟨uv', h1, h2, h3⟩ := ha
  refine ⟨⟨uv', h.f.chg h2 (fun g hg hm => h.dis g hg hm) (fun g hlt hg hR => ⟨hR, fun hm => ?_⟩), h1, fun g hg hm => ?_, h.newf, fun g hg => ?_⟩, h2.mono (fun g hg => h.newr g hg), h2⟩
  · rcases h3 g hm with h4 | h4
    · exact hR h4
    · omega
  · rcases h3 g hm with h4 | h4
    · exact h.dis g hg h4
    · have := h.f.lt g hg
      omega
  · rcases h3 g hg with h4 | h4
    · exact h.newr g h4
    · omega
end
/-- how many are on their way, in whatever direction -/
def lenO (F : Fl) (d : Int) : Nat := if okD d then (F.fs d.toNat).length else 0
def sentO (F : Fl) (d : Int) : Nat := if okD d then F.sent d.toNat else 0
section
variable {R : Nat → Prop} {W : World} {b : Nat} {F : Fl} {wv : Nat → Value}
theorem Len_any (d : Int) (h : FlAt 1 R W b F wv) : Calls Try.prog 21 #[.pointer (some ⟨b, 0, none⟩), .int .i64 d] W fun e w' => e = .returned (.int .i64 (lenO F d)) ∧ W = w' := by
  unfold lenO
  by_cases hd : okD d
  · obtain ⟨k, hk, rfl, e⟩ := okD_nat hd
    rw [if_pos hd, e]
    exact Len_yes k h hk
  · rw [if_neg hd]
    exact Len_no d h (not_okD hd)
theorem Sent_any (d : Int) (h : FlAt 1 R W b F wv) : Calls Try.prog 24 #[.pointer (some ⟨b, 0, none⟩), .int .i64 d] W fun e w' => e = .returned (.int .i64 (sentO F d)) ∧ W = w' := by
  unfold sentO
  by_cases hd : okD d
  · obtain ⟨k, hk, rfl, e⟩ := okD_nat hd
    rw [if_pos hd, e]
    exact Sent_yes k h hk
  · rw [if_neg hd]
    exact Sent_no d h (not_okD hd)
theorem refLen_any (d : Int) (h : FlAt 0 R W b F wv) : Calls Try.prog 32 #[.pointer (some ⟨b, 0, none⟩), .int .i64 d] W fun e w' => e = .returned (.int .i64 (lenO F d)) ∧ W = w' := by
  unfold lenO
  by_cases hd : okD d
  · obtain ⟨k, hk, rfl, e⟩ := okD_nat hd
    rw [if_pos hd, e]
    exact refLen_yes k h hk
  · rw [if_neg hd]
    exact refLen_no d (not_okD hd)
theorem refSent_any (d : Int) (h : FlAt 0 R W b F wv) : Calls Try.prog 33 #[.pointer (some ⟨b, 0, none⟩), .int .i64 d] W fun e w' => e = .returned (.int .i64 (sentO F d)) ∧ W = w' := by
  unfold sentO
  by_cases hd : okD d
  · obtain ⟨k, hk, rfl, e⟩ := okD_nat hd
    rw [if_pos hd, e]
    exact refSent_yes k h hk
  · rw [if_neg hd]
    exact refSent_no d (not_okD hd)
end

theorem atO_err (F : Fl) (d i : Int) : (atO F d i).1 = 0 ∨ (atO F d i).1 = 1 ∨ (atO F d i).1 = 4 := by
  unfold atO
  split
  · exact .inr (.inl rfl)
  · split
    · exact .inr (.inr rfl)
    · exact .inl rfl
set_option maxHeartbeats 16000000 in
set_option maxRecDepth 100000 in
theorem alike_any (base N : Nat) (w : World) (fb rb : Nat) (F : Fl) (wv uv : Nat → Value) (h : Pair base w fb rb F F wv uv) (hG : Good N F) (hN : N ≤ 1000) :
    Calls Try.prog 18 #[.pointer (some ⟨fb, 0, none⟩), .pointer (some ⟨rb, 0, none⟩)] w fun e w' => e = .returned (.bool true) ∧ Below w.heap.size w w' := by
  have HP := Lib.hid (fun w' (hb : Below w.heap.size w w') => h.below hb)
  have HLO := Lib.hid (fun d => show lenO F d ≤ 1000 by
    unfold lenO
    split
    · rename_i hd
      obtain ⟨k, hk, _, e⟩ := okD_nat hd
      rw [e]
      have := hG.len k hk
      omega
    · exact Nat.zero_le _)
  clear h hG hN
  go_enter Try.func18, Try.ntmps18
  go_wp2_with fail
  go_loopw [5, 6, 7, 8, 9, 10] (fun dv _ _ _ _ _ wr => ∃ d : Int, -1 ≤ d ∧ d ≤ 3 ∧ dv = .int .i64 d ∧ Below w.heap.size w wr) (fun dv _ _ _ _ _ _ => (3 - intOf dv).toNat)
  case atStart => exact ⟨-1, by omega, by omega, rfl, Below.refl _ _⟩
  case round =>
    rename World => wo
    obtain ⟨d, hd1, hd2, rfl, hb⟩ := hrel
    have HB := Lib.hid hb
    clear hb
    by_cases hlt : d < 3
    · have hlo := HLO.out d
      generalize hln : lenO F d = n at hlo
      have HN := Lib.hid hln
      clear hln
      have hnn : ((n : Int) != (n : Int)) = false := by simp
      generalize hsn : sentO F d = s
      have HS := Lib.hid hsn
      have hss : ((s : Int) != (s : Int)) = false := by simp
      clear hsn
      have L1 := Lib.hid (Len_any d (HP.out wo HB.out).f)
      have L2 := Lib.hid (refLen_any d (HP.out wo HB.out).r)
      have S1 := Lib.hid (Sent_any d (HP.out wo HB.out).f)
      have S2 := Lib.hid (refSent_any d (HP.out wo HB.out).r)
      rw [HN.out] at L1 L2
      rw [HS.out] at S1 S2
      go_wp2_with (first
        | (go_at_call 21; refine L1.out.mono ?_; rintro e w' ⟨rfl, rfl⟩)
        | (go_at_call 32; refine L2.out.mono ?_; rintro e w' ⟨rfl, rfl⟩)
        | (go_at_call 24; refine S1.out.mono ?_; rintro e w' ⟨rfl, rfl⟩)
        | (go_at_call 33; refine S2.out.mono ?_; rintro e w' ⟨rfl, rfl⟩))
      go_loopw [6, 7, 8, 9, 10] (fun iv _ _ _ _ wi => ∃ i : Nat, i ≤ n + 1 ∧ iv = .int .i64 i ∧ Below wo.heap.size wo wi) (fun iv _ _ _ _ _ => n + 1 - (intOf iv).toNat)
      case atStart => exact ⟨0, Nat.zero_le _, rfl, Below.refl _ _⟩
      case round =>
        rename World => wi
        obtain ⟨i, hi, rfl, hbi⟩ := hrel
        have HBI := Lib.hid (below_next HB.out hbi)
        have HBW := Lib.hid hbi
        clear hbi
        have L3 := Lib.hid (refLen_any d (HP.out wi HBI.out).r)
        rw [HN.out] at L3
        by_cases hin : i ≤ n
        · have hinI : (i : Int) ≤ (n : Int) := by omega
          have T1 := Lib.hid (At_any d i (HP.out wi HBI.out).f)
          have T2 := Lib.hid (fun w' (hb : Below w.heap.size w w') => refAt_any d i (HP.out w' hb).r)
          have hce := atO_err F d i
          generalize hax : atO F d i = ax at T1 T2 hce
          clear hax
          obtain ⟨c, x⟩ := ax
          simp only at T1 T2 hce
          have hcc : (c != c) = false := by simp
          clear hce
          go_wp2_with (go_at_call 32; refine L3.out.mono ?_; rintro e w' ⟨rfl, rfl⟩)
          refine T1.out.mono ?_
          rintro e w1 ⟨v1, v2, rfl, ⟨A1, c1, rfl, _, _, ra1⟩, ⟨A2, c2, rfl, _, _, ra2⟩, hx1, hx2, hb1⟩
          obtain ⟨n1, hn1⟩ : ∃ n1, n1 = x.wire.length := ⟨_, rfl⟩
          obtain ⟨n2, hn2⟩ : ∃ n2, n2 = x.first.length := ⟨_, rfl⟩
          rw [← hn1, ← hn2]
          obtain ⟨wa, hwa⟩ : ∃ wa, wa = w1.alloc (.cells #[.int .i64 x.num, .slice A1 n1 c1, .slice A2 n2 c2] 40) := ⟨_, rfl⟩
          have hb1a : Below w1.heap.size w1 wa := by rw [hwa]; exact below_alloc (Below.refl _ _) _
          have hbia := below_next hb1 hb1a
          have hsa : w1.heap.size < wa.heap.size := by rw [hwa]; simp
          have a0 : wa.cell? ⟨w1.heap.size, 0, none⟩ = some (.int .i64 x.num) := by rw [hwa]; simp [go_sem]
          have a1 : wa.cell? ⟨w1.heap.size, 1, none⟩ = some (.slice A1 n1 c1) := by rw [hwa]; simp [go_sem]
          have a2 : wa.cell? ⟨w1.heap.size, 2, none⟩ = some (.slice A2 n2 c2) := by rw [hwa]; simp [go_sem]
          have HBA := Lib.hid (below_next HBI.out hbia)
          have HWA := Lib.hid hwa
          have HX := Lib.hid (And.intro (ra1.bytes.later hb1a) (And.intro (ra2.bytes.later hb1a) (And.intro hx1 (And.intro hx2 (And.intro hn1 hn2)))))
          have HBWA := Lib.hid (below_next HBW.out hbia)
          clear hwa hb1 hb1a hbia ra1 ra2 hx1 hx2 hn1 hn2
          go_wp2_with fail
          rw [← HWA.out]
          refine (T2.out wa HBA.out).mono ?_
          rintro e w2 ⟨u1, u2, rfl, ⟨B1, k1, rfl, _, _, rb1⟩, ⟨B2, k2, rfl, _, _, rb2⟩, _, _, hb2⟩
          obtain ⟨x1, x2, hx1, hx2, hn1, hn2⟩ := HX.out
          rw [← hn1, ← hn2]
          obtain ⟨wb, hwb⟩ : ∃ wb, wb = w2.alloc (.cells #[.int .i64 x.num, .slice B1 n1 k1, .slice B2 n2 k2] 40) := ⟨_, rfl⟩
          have hb2b : Below w2.heap.size w2 wb := by rw [hwb]; exact below_alloc (Below.refl _ _) _
          have hbab := below_next hb2 hb2b
          have d0 : wb.cell? ⟨w1.heap.size, 0, none⟩ = some (.int .i64 x.num) := ((bcell hbab).1 _ _ hsa).trans a0
          have d1 : wb.cell? ⟨w1.heap.size, 1, none⟩ = some (.slice A1 n1 c1) := ((bcell hbab).1 _ _ hsa).trans a1
          have d2 : wb.cell? ⟨w1.heap.size, 2, none⟩ = some (.slice A2 n2 c2) := ((bcell hbab).1 _ _ hsa).trans a2
          have e0 : wb.cell? ⟨w2.heap.size, 0, none⟩ = some (.int .i64 x.num) := by rw [hwb]; simp [go_sem]
          have e1 : wb.cell? ⟨w2.heap.size, 1, none⟩ = some (.slice B1 n1 k1) := by rw [hwb]; simp [go_sem]
          have e2 : wb.cell? ⟨w2.heap.size, 2, none⟩ = some (.slice B2 n2 k2) := by rw [hwb]; simp [go_sem]
          have HSM := Lib.hid (refFSame_yes x.num n1 c1 n2 c2 n1 k1 n2 k2 A1 A2 B1 B2 x.wire x.first wb hn1 hn2 hn1 hn2 (x1.later hbab) (x2.later hbab) (rb1.bytes.later hb2b) (rb2.bytes.later hb2b) hx1 hx2)
          have HBB := Lib.hid (below_next HBWA.out hbab)
          have HWB := Lib.hid hwb
          clear hwb hb2 hb2b hbab rb1 rb2 x1 x2 hx1 hx2 hn1 hn2 a0 a1 a2 hsa
          go_wp2_with (first
            | (go_at_call 10; rw [← HWB.out]; refine (num_any c wb).mono ?_; rintro e w' ⟨rfl, rfl⟩)
            | (go_at_call 15; refine HSM.out.mono ?_; rintro e w3 ⟨rfl, hb3⟩))
          have HB3 := Lib.hid (below_next HBB.out hb3)
          go_roundw
          case rel => exact ⟨i + 1, by omega, by go_num, HB3.out⟩
          case measure => simp [intOf]; omega
        · have hinI : ¬ (i : Int) ≤ (n : Int) := by omega
          have hwd : IntKind.i64.wrap (d + 1) = d + 1 := by rw [IntKind.wrap_i64]; omega
          go_wp2_with (go_at_call 32; refine L3.out.mono ?_; rintro e w' ⟨rfl, rfl⟩)
          go_roundw
          case rel => exact ⟨d + 1, by omega, by omega, by go_num, HBI.out⟩
          case measure => simp [intOf]; omega
    · have G1 := Lib.hid (Gone_any (HP.out wo HB.out).f)
      have hgc : wo.cell? ⟨rb, 1, none⟩ = some (.int .i64 F.gone) := (HP.out wo HB.out).r.gone
      have hgg : ((F.gone : Int) == (F.gone : Int)) = true := by simp
      go_wp2_with fail
      go_region_held3 (fun w' => w'.cell? ⟨rb, 1, none⟩ = some (.int .i64 F.gone)) (first | exact hgc | go_keep)
        ((first
          | (go_at_call 23; refine (Gone_any ((HP.out wo HB.out).drawn (w' := wo.drew) ⟨1, rfl⟩).f).mono ?_; rintro e w' ⟨rfl, rfl⟩)
          | fail))
      all_goals (
        go_wp2_with fail
        go_ret
        exact ⟨rfl, Below.drew HB.out⟩)
end Go.Proofs.Ytogijioehdaefaa.Flt

namespace Go.Proofs.Ytogijioehdaefaa.Flt
open Go.RowKit Go.Proofs.Ytogijioehdaefaa.Mem Go.Proofs.Ytogijioehdaefaa.Oct Go.Proofs.Ytogijioehdaefaa.Pkt Go.Proofs.Ytogijioehdaefaa.Def Go.Proofs.Ytogijioehdaefaa.Ed

/-- the page's flight behind k frames -/
def pageF : Nat → Fl
  | 0 => new 2
  | k + 1 => put (pageF k) 0 [UInt8.ofNat k]
theorem good_page : ∀ k, k ≤ 3 → Good k (pageF k)
  | 0, _ => good_new 2 (by decide)
  | k + 1, h => good_put (good_page k (by omega)) (by omega) (by decide) _
theorem page_at : (nthF ((pageF 3).fs 0) 0).num = 2 := by decide +kernel
theorem page_len : ((pageF 3).fs 0).length = 2 := by decide +kernel
theorem page_gone : (pageF 3).gone = 1 := by decide +kernel
theorem page_sent : (pageF 3).sent 0 = 3 := by decide +kernel
theorem lit_rest (p : Nat → Prop) (w : World) (T : TypeId) (l : List UInt8) (cs : Array Value) (hcs : cs = (l.map bv).toArray) (hm : l.length ≤ maxLen) (hp : p w.heap.size) : RestAt p (w.alloc (.cells cs T)) (some ⟨w.heap.size, 0, none⟩) l := by
  intro hl
  obtain ⟨b', off', e, _, h⟩ := lit_bytes T w l cs hcs hm hl
  simp only [Option.some.injEq, Addr.mk.injEq, and_true] at e
  obtain ⟨rfl, rfl⟩ := e
  exact ⟨_, 0, rfl, by simp, hp, h⟩
theorem page_put (k fb : Nat) (c : UInt8) (v : Int) (wr : World) (wv : Nat → Value) (hk : k < 3) (hv : v = (c.toNat : Int)) (hc : c = UInt8.ofNat k) (hf : FlAt 1 (fun _ => True) wr fb (pageF k) wv) :
    Calls Try.prog 11 #[.pointer (some ⟨fb, 0, none⟩), .int .i64 0, .slice (some ⟨wr.heap.size, 0, none⟩) 1 1] (wr.alloc (.cells #[.int .u8 v] 5)) fun e w' => e = .returned (.int .i64 0) ∧ Acted 1 (fun _ => True) (wr.alloc (.cells #[.int .u8 v] 5)) fb wv (pageF (k + 1)) w' := by
  subst hv hc
  have hG := good_page k (by omega)
  have hba : Below wr.heap.size wr (wr.alloc (.cells #[.int .u8 ((UInt8.ofNat k).toNat : Int)] 5)) := below_alloc (Below.refl _ _) _
  have hl := hG.len 0 (by decide)
  have hs := hG.sent 0 (by decide)
  have hg := hG.gone
  exact Put_yes 0 1 1 (some ⟨wr.heap.size, 0, none⟩) [UInt8.ofNat k] (hf.below hba) (by decide) (fun _ _ => trivial) (lit_rest (fun g => ¬ Mut fb wv g) wr 5 [UInt8.ofNat k] _ rfl (by simp [maxLen]) (fun hm => by have := hf.lt _ hm; omega)) rfl (by simp) (by omega) (by omega) (by omega) (fun i hi => by have := hG.num 0 (by decide) _ (nthF_mem hi); omega)
set_option maxHeartbeats 8000000 in
set_option maxRecDepth 100000 in
theorem live_any (W : World) : Calls Try.prog 7 #[] W fun e W' => e = .returned (.bool true) ∧ Below W.heap.size W W' := by
  go_enter Try.func7, Try.ntmps7
  go_wp2_with fail
  refine (New_yes 2 (fun _ => True) W (by decide)).mono ?_
  rintro e w1 ⟨rfl, hf1, hb1⟩
  have HF1 := Lib.hid hf1
  have HB1 := Lib.hid hb1
  clear hf1 hb1
  go_wp2_with fail
  go_loopw [3] (fun i wr => ∃ (k : Nat) (wv : Nat → Value), k ≤ 3 ∧ i = .int .i64 k ∧ Hid (FlAt 1 (fun _ => True) wr W.heap.size (pageF k) wv ∧ (∀ g, Mut W.heap.size wv g → W.heap.size ≤ g) ∧ Below W.heap.size W wr)) (fun i _ => 3 - (intOf i).toNat)
  case atStart => exact ⟨0, nils, by decide, rfl, Lib.hid ⟨HF1.out, fun g hg => by rcases hg with rfl | hg | hg <;> first | exact Nat.le_refl _ | (simp [nils, Value.ownBlock] at hg), HB1.out⟩⟩
  case round =>
    obtain ⟨k, wv, hk, rfl, HR⟩ := hrel
    by_cases hlt : k < 3
    · have hk3 : k = 0 ∨ k = 1 ∨ k = 2 := by omega
      have HB := Lib.hid (fun (v : Int) => below_alloc (Below.refl wr.heap.size wr) (.cells #[.int .u8 v] 5))
      have HG := Lib.hid (fun (v : Int) w' (ha : Acted 1 (fun _ => True) (wr.alloc (.cells #[.int .u8 v] 5)) W.heap.size wv (pageF (k + 1)) w') =>
        show ∃ wv', FlAt 1 (fun _ => True) w' W.heap.size (pageF (k + 1)) wv' ∧ (∀ g, Mut W.heap.size wv' g → W.heap.size ≤ g) ∧ Below W.heap.size W w' by
          obtain ⟨wv', h1, h2, h3⟩ := ha
          obtain ⟨_, hm, hb⟩ := HR.out
          have hsz := hb.size
          refine ⟨wv', h1, fun g hg => ?_, Chg.below (below_next hb (HB.out v)) h2 (by simp; omega) hm⟩
          rcases h3 g hg with h4 | h4
          · exact hm g h4
          · simp at h4; omega)
      rcases hk3 with rfl | rfl | rfl
      · go_wp2_with (go_at_call 11; refine (page_put 0 W.heap.size 0 0 wr wv (by decide) rfl rfl HR.out.1).mono ?_; rintro e w2 ⟨rfl, ha⟩)
        obtain ⟨wv', h1, h2, h3⟩ := HG.out 0 _ ha
        have HX := Lib.hid (And.intro h1 (And.intro h2 h3))
        clear h1 h2 h3 ha
        go_roundw
        case rel => exact ⟨1, wv', by decide, by go_num, HX⟩
        case measure => simp [intOf]
      · go_wp2_with (go_at_call 11; refine (page_put 1 W.heap.size 1 1 wr wv (by decide) rfl rfl HR.out.1).mono ?_; rintro e w2 ⟨rfl, ha⟩)
        obtain ⟨wv', h1, h2, h3⟩ := HG.out 1 _ ha
        have HX := Lib.hid (And.intro h1 (And.intro h2 h3))
        clear h1 h2 h3 ha
        go_roundw
        case rel => exact ⟨2, wv', by decide, by go_num, HX⟩
        case measure => simp [intOf]
      · go_wp2_with (go_at_call 11; refine (page_put 2 W.heap.size 2 2 wr wv (by decide) rfl rfl HR.out.1).mono ?_; rintro e w2 ⟨rfl, ha⟩)
        obtain ⟨wv', h1, h2, h3⟩ := HG.out 2 _ ha
        have HX := Lib.hid (And.intro h1 (And.intro h2 h3))
        clear h1 h2 h3 ha
        go_roundw
        case rel => exact ⟨3, wv', by decide, by go_num, HX⟩
        case measure => simp [intOf]
    · obtain rfl : k = 3 := by omega
      have hAT := At_yes 0 0 HR.out.1 (by decide) (by rw [page_len]; decide)
      have HAT := Lib.hid hAT
      clear hAT
      go_wp2_with fail
      refine HAT.out.mono ?_
      rintro e w2 ⟨v1, v2, rfl, ⟨A1, c1, rfl, _, _, _⟩, ⟨A2, c2, rfl, _, _, _⟩, hb2⟩
      rw [page_at]
      obtain ⟨hf, hm, hb⟩ := HR.out
      have hb3 := below_alloc hb2 (.cells #[.int .i64 ((2 : Nat) : Int), .slice A1 (nthF ((pageF 3).fs 0) 0).wire.length c1, .slice A2 (nthF ((pageF 3).fs 0) 0).first.length c2] 40)
      have hf3 := hf.below hb3
      have l1 := Len_yes 0 hf3 (by decide)
      have s1 := Sent_yes 0 hf3 (by decide)
      have g1 := Gone_any hf3
      rw [page_len] at l1
      rw [page_sent] at s1
      rw [page_gone] at g1
      have HL := Lib.hid l1
      have HS := Lib.hid s1
      have HGN := Lib.hid g1
      have HB3 := Lib.hid (below_next hb hb3)
      clear l1 s1 g1 hf3 hb3 hb2 hf hm hb
      generalize (nthF ((pageF 3).fs 0) 0).wire.length = n1 at *
      generalize (nthF ((pageF 3).fs 0) 0).first.length = n2 at *
      go_wp2_with (first
        | (go_at_call 10; refine (num_any _ _).mono ?_; rintro e w' ⟨rfl, rfl⟩)
        | (go_at_call 21; refine HL.out.mono ?_; rintro e w' ⟨rfl, rfl⟩)
        | (go_at_call 23; refine HGN.out.mono ?_; rintro e w' ⟨rfl, rfl⟩)
        | (go_at_call 24; refine HS.out.mono ?_; rintro e w' ⟨rfl, rfl⟩))
      go_ret
      exact ⟨rfl, HB3.out⟩
end Go.Proofs.Ytogijioehdaefaa.Flt

namespace Go.Proofs.Ytogijioehdaefaa.Flt
open Go.RowKit Go.Proofs.Ytogijioehdaefaa.Mem Go.Proofs.Ytogijioehdaefaa.Oct Go.Proofs.Ytogijioehdaefaa.Pkt Go.Proofs.Ytogijioehdaefaa.Def Go.Proofs.Ytogijioehdaefaa.Ed

/-- between two acts: the box xb is as it was in wa -/
def MidA (W wa : World) (fb rb xb : Nat) (F G : Fl) (w : World) : Prop :=
  ∃ wv uv, Pair W.heap.size w fb rb F G wv uv ∧ Below W.heap.size W w ∧ xb < w.heap.size ∧ ¬ Mut fb wv xb ∧ ¬ Mut rb uv xb ∧ ∀ j, w.cell? ⟨xb, j, none⟩ = wa.cell? ⟨xb, j, none⟩
section
variable {W wa w : World} {fb rb xb : Nat} {F G F' : Fl} {f : FuncId} {args : Array Value} {c : Int}
theorem midF (h : MidA W wa fb rb xb F G w) (hc : ∀ wv uv, Pair W.heap.size w fb rb F G wv uv → Calls Try.prog f args w (DoneA 1 (fun g => ¬ Mut rb uv g) w fb wv c F')) :
    Calls Try.prog f args w fun e w' => e = .returned (.int .i64 c) ∧ MidA W wa fb rb xb F' G w' := by
  obtain ⟨wv, uv, hp, hb, hx, hf, hr, hcell⟩ := h
  refine (hc wv uv hp).mono ?_
  rintro e w' ⟨rfl, ha⟩
  have ha0 := ha
  obtain ⟨wv', a1, a2, a3⟩ := ha
  obtain ⟨⟨wv2, p2⟩, _, _⟩ := hp.actF hb.size ha0
  have p3 : Pair W.heap.size w' fb rb F' G wv' uv := by
    refine ⟨a1, hp.r.chg a2 (fun g hg hm => hp.dis g hm hg) (fun g hlt hg hR => ⟨hR, fun hm => ?_⟩), fun g hg hm => ?_, fun g hg => ?_, hp.newr⟩
    · rcases a3 g hm with h4 | h4
      · exact hR h4
      · omega
    · rcases a3 g hg with h4 | h4
      · exact hp.dis g h4 hm
      · have := hp.r.lt g hm
        omega
    · have := hb.size
      rcases a3 g hg with h4 | h4
      · exact hp.newf g h4
      · omega
  refine ⟨rfl, wv', uv, p3, Chg.below hb a2 hb.size hp.newf, Nat.lt_of_lt_of_le hx a2.size, fun hm => ?_, hr, fun j => (a2.cell (p := ⟨xb, j, none⟩) hx hf).trans (hcell j)⟩
  rcases a3 xb hm with h4 | h4
  · exact hf h4
  · omega
theorem midR (h : MidA W wa fb rb xb F G w) (hc : ∀ wv uv, Pair W.heap.size w fb rb F G wv uv → Calls Try.prog f args w (DoneA 0 (fun g => ¬ Mut fb wv g) w rb uv c F')) :
    Calls Try.prog f args w fun e w' => e = .returned (.int .i64 c) ∧ MidA W wa fb rb xb F F' w' := by
  obtain ⟨wv, uv, hp, hb, hx, hf, hr, hcell⟩ := h
  refine (hc wv uv hp).mono ?_
  rintro e w' ⟨rfl, ha⟩
  obtain ⟨uv', a1, a2, a3⟩ := ha
  have p3 : Pair W.heap.size w' fb rb F F' wv uv' := by
    refine ⟨hp.f.chg a2 (fun g hg hm => hp.dis g hg hm) (fun g hlt hg hR => ⟨hR, fun hm => ?_⟩), a1, fun g hg hm => ?_, hp.newf, fun g hg => ?_⟩
    · rcases a3 g hm with h4 | h4
      · exact hR h4
      · omega
    · rcases a3 g hm with h4 | h4
      · exact hp.dis g hg h4
      · have := hp.f.lt g hg
        omega
    · have := hb.size
      rcases a3 g hg with h4 | h4
      · exact hp.newr g h4
      · omega
  refine ⟨rfl, wv, uv', p3, Chg.below hb a2 hb.size hp.newr, Nat.lt_of_lt_of_le hx a2.size, hf, fun hm => ?_, fun j => (a2.cell (p := ⟨xb, j, none⟩) hx hr).trans (hcell j)⟩
  rcases a3 xb hm with h4 | h4
  · exact hr h4
  · omega
end
theorem rest_old {W w : World} {fb rb : Nat} {F G : Fl} {wv uv : Nat → Value} {A : Option Addr} {l : List UInt8} (hp : Pair W.heap.size w fb rb F G wv uv) (hA : Bytes W W.heap.size A l) (hb : Below W.heap.size W w) :
    RestAt (fun g => ¬ Mut fb wv g) w A l ∧ RestAt (fun g => ¬ Mut rb uv g) w A l := by
  have h1 := hA.below hb (Nat.le_refl _)
  exact ⟨RestAt.of_bytes h1 hb.size (fun g hg hm => by have := hp.newf g hm; omega), RestAt.of_bytes h1 hb.size (fun g hg hm => by have := hp.newr g hm; omega)⟩

set_option maxHeartbeats 16000000 in
set_option maxRecDepth 100000 in
theorem FlightDoes_any (life : Int) (n ca : Nat) (A : Option Addr) (l : List Act1) (W : World) (hn : n = l.length) (hA : Acts W W.heap.size A l) (hmx : n ≤ 9223372036854775807) :
    Calls Try.prog 3 #[.int .i64 life, .slice A n ca] W fun e W' => e = .returned (.bool true) ∧ Below W.heap.size W W' := by
  have HFW := Lib.hid (Few_any n ca A l W hn hA hmx)
  cases hfew : few l with
  | false =>
    rw [hfew] at HFW
    clear hn hA hmx hfew
    go_enter Try.func3, Try.ntmps3
    go_wp2_with fail
    refine HFW.out.mono ?_
    rintro e w' ⟨rfl, rfl⟩
    go_wp2_with fail
    refine (live_any _).mono ?_
    rintro e w7 ⟨rfl, hb7⟩
    go_wp2
    go_ret
    exact ⟨rfl, hb7⟩
  | true =>
    rw [hfew] at HFW
    obtain ⟨h60, hsh⟩ := few_yes hfew
    have HN := Lib.hid hn
    have HA := Lib.hid hA
    have HSH := Lib.hid hsh
    have hn60 : n ≤ 60 := by omega
    clear hn hA hmx hfew h60 hsh
    by_cases hli : life < 0 ∨ 4096 < life
    · have N1 := Lib.hid (fun w => New_no life w hli)
      have N2 := Lib.hid (fun w => refNew_no life w hli)
      go_enter Try.func3, Try.ntmps3
      go_wp2_with fail
      refine HFW.out.mono ?_
      rintro e w' ⟨rfl, rfl⟩
      go_wp2_with (first
        | (go_at_call 8; refine (N1.out _).mono ?_; rintro e w' ⟨rfl, rfl⟩)
        | (go_at_call 9; refine (N2.out _).mono ?_; rintro e w' ⟨rfl, rfl⟩)
        | (go_at_call 10; refine (num_any _ _).mono ?_; rintro e w' ⟨rfl, rfl⟩))
      go_loopw [9] (fun i wr => i = .int .i64 0 ∧ W = wr) (fun i _ => 1)
      case atStart => exact ⟨rfl, rfl⟩
      case round =>
        obtain ⟨rfl, rfl⟩ := hrel
        by_cases h0 : (0 : Int) < (n : Int)
        all_goals (
          go_wp2_with fail
          refine (live_any _).mono ?_
          rintro e w7 ⟨rfl, hb7⟩
          go_wp2
          go_ret
          exact ⟨rfl, hb7⟩)
    · obtain ⟨li, rfl⟩ : ∃ li : Nat, life = li := ⟨life.toNat, by omega⟩
      have hli2 : li ≤ 4096 := by omega
      go_enter Try.func3, Try.ntmps3
      go_wp2_with fail
      refine HFW.out.mono ?_
      rintro e w' ⟨rfl, rfl⟩
      go_wp2_with fail
      refine (New_yes li (fun _ => True) W hli2).mono ?_
      rintro e w1 ⟨rfl, hf1, hb1⟩
      have HF1 := Lib.hid hf1
      have HB1 := Lib.hid hb1
      clear hf1 hb1
      go_wp2_with fail
      refine (refNew_yes li (fun g => ¬ Mut W.heap.size nils g) w1 hli2).mono ?_
      rintro e w2 ⟨rfl, hr2, hb2⟩
      have hst : Pair W.heap.size w2 W.heap.size w1.heap.size (new li) (new li) nils nils ∧ Good 0 (new li) ∧ Below W.heap.size W w2 := by
        have hm : ∀ b g, Mut b nils g → g = b := fun b g hg => by rcases hg with h | h | h <;> first | exact h | (simp [nils, Value.ownBlock] at h)
        have hs := HB1.out.size
        have hlt : W.heap.size < w1.heap.size := HF1.out.hb
        refine ⟨⟨HF1.out.chg (chg_below hb2) (fun _ _ h => h) (fun g hg hn _ => ⟨fun h => h, fun hm' => by have := hm _ _ hm'; omega⟩), hr2, fun g h1 h2 => ?_, fun g h1 => ?_, fun g h1 => ?_⟩, good_new li hli2, below_next HB1.out hb2⟩
        · have := hm _ _ h1
          have := hm _ _ h2
          omega
        · have := hm _ _ h1
          omega
        · have := hm _ _ h1
          omega
      have HST := Lib.hid hst
      clear hr2 hb2 hst
      go_wp2_with (go_at_call 10; refine (num_any _ _).mono ?_; rintro e w' ⟨rfl, rfl⟩)
      obtain ⟨rb, hrb⟩ : ∃ rb, rb = w1.heap.size := ⟨_, rfl⟩
      obtain ⟨fb, hfb⟩ : ∃ fb, fb = W.heap.size := ⟨_, rfl⟩
      have HST2 := Lib.hid (show Pair W.heap.size w2 fb rb (new li) (new li) nils nils ∧ Good 0 (new li) ∧ Below W.heap.size W w2 by rw [hrb, hfb]; exact HST.out)
      rw [← hrb, ← hfb]
      clear HST hrb hfb HF1 HB1
      go_loopw [9] (fun i wr => ∃ (k : Nat) (F : Fl) (wv uv : Nat → Value), k ≤ n ∧ i = .int .i64 k ∧ Hid (Pair W.heap.size wr fb rb F F wv uv ∧ Good k F ∧ Below W.heap.size W wr)) (fun i _ => n - (intOf i).toNat)
      case atStart => exact ⟨0, new li, nils, nils, Nat.zero_le _, rfl, Lib.hid HST2.out⟩
      case round =>
        obtain ⟨k, F, wv, uv, hk, rfl, HS⟩ := hrel
        clear HST2
        by_cases hlt : k < n
        · have hltI : (k : Int) < (n : Int) := by omega
          obtain ⟨b, off, rfl, hbW, hact⟩ := HA.out (by rw [← HN.out]; omega)
          obtain ⟨Aw, cw, Ae, cE, y0, y1, y2, y3, y4, hBw, hEe⟩ := hact k (by rw [← HN.out]; exact hlt)
          have x0 := ((bcell HS.out.2.2).1 _ _ hbW).trans y0
          have x1 := ((bcell HS.out.2.2).1 _ _ hbW).trans y1
          have x2 := ((bcell HS.out.2.2).1 _ _ hbW).trans y2
          have x3 := ((bcell HS.out.2.2).1 _ _ hbW).trans y3
          have x4 := ((bcell HS.out.2.2).1 _ _ hbW).trans y4
          obtain ⟨sw, se⟩ := HSH.out k (by rw [← HN.out]; exact hlt)
          clear hact y0 y1 y2 y3 y4
          generalize nthA l k = x at *
          obtain ⟨kd, dir, at_, wire, edits⟩ := x
          simp only at x0 x1 x2 x3 x4 hBw hEe sw se
          obtain ⟨nw, hnw⟩ : ∃ nw, nw = wire.length := ⟨_, rfl⟩
          obtain ⟨ne, hne⟩ : ∃ ne, ne = edits.length := ⟨_, rfl⟩
          rw [← hnw] at x3
          rw [← hne] at x4
          obtain ⟨wa, hwa⟩ : ∃ wa, wa = wr.alloc (.cells #[.int .i64 kd, .int .i64 dir, .int .i64 at_, .slice Aw nw cw, .slice Ae ne cE] 36) := ⟨_, rfl⟩
          have hba : Below wr.heap.size wr wa := by rw [hwa]; exact below_alloc (Below.refl _ _) _
          have a0 : wa.cell? ⟨wr.heap.size, 0, none⟩ = some (.int .i64 kd) := by rw [hwa]; simp [go_sem]
          have a1 : wa.cell? ⟨wr.heap.size, 1, none⟩ = some (.int .i64 dir) := by rw [hwa]; simp [go_sem]
          have a2 : wa.cell? ⟨wr.heap.size, 2, none⟩ = some (.int .i64 at_) := by rw [hwa]; simp [go_sem]
          have a3 : wa.cell? ⟨wr.heap.size, 3, none⟩ = some (.slice Aw nw cw) := by rw [hwa]; simp [go_sem]
          have a4 : wa.cell? ⟨wr.heap.size, 4, none⟩ = some (.slice Ae ne cE) := by rw [hwa]; simp [go_sem]
          have hsa : wr.heap.size < wa.heap.size := by rw [hwa]; simp
          have HMID := Lib.hid (fun w' (hd : Drawn wa w') => show MidA W wa fb rb wr.heap.size F F w' from
            ⟨wv, uv, (HS.out.1.below hba).drawn hd, below_next (below_next HS.out.2.2 hba) (hd.below _), by have := (hd.below 0).size; omega, fun hm => by have := HS.out.1.f.lt _ hm; omega, fun hm => by have := HS.out.1.r.lt _ hm; omega, fun j => drawn_cell hd _⟩)
          have HK := Lib.hid (fun (G1 G2 : Fl) (w' : World) (hm : MidA W wa fb rb wr.heap.size G1 G2 w') => show w'.cell? ⟨wr.heap.size, 1, none⟩ = some (.int .i64 dir) ∧ w'.cell? ⟨wr.heap.size, 2, none⟩ = some (.int .i64 at_) ∧ w'.cell? ⟨wr.heap.size, 3, none⟩ = some (.slice Aw nw cw) ∧ w'.cell? ⟨wr.heap.size, 4, none⟩ = some (.slice Ae ne cE) by
            obtain ⟨_, _, _, _, _, _, _, hcell⟩ := hm
            exact ⟨(hcell 1).trans a1, (hcell 2).trans a2, (hcell 3).trans a3, (hcell 4).trans a4⟩)
          have HAP := Lib.hid (fun (G : Fl) (w' : World) wv' uv' (hp : Pair W.heap.size w' fb rb G G wv' uv') (hb : Below W.heap.size W w') (hG : Good (k + 1) G) => show Calls Try.prog 18 #[.pointer (some ⟨fb, 0, none⟩), .pointer (some ⟨rb, 0, none⟩)] w' fun e w'' => e = .returned (.bool true) ∧ ∃ wv uv, Hid (Pair W.heap.size w'' fb rb G G wv uv ∧ Good (k + 1) G ∧ Below W.heap.size W w'') by
            refine (alike_any W.heap.size (k + 1) w' fb rb G wv' uv' hp hG (by omega)).mono ?_
            rintro e w'' ⟨rfl, hb2⟩
            exact ⟨rfl, wv', uv', Lib.hid ⟨hp.below hb2, hG, below_next hb hb2⟩⟩)
          have HAL := Lib.hid (fun (G : Fl) (w' : World) (hm : MidA W wa fb rb wr.heap.size G G w') (hG : Good (k + 1) G) => show Calls Try.prog 18 #[.pointer (some ⟨fb, 0, none⟩), .pointer (some ⟨rb, 0, none⟩)] w' fun e w'' => e = .returned (.bool true) ∧ ∃ wv uv, Hid (Pair W.heap.size w'' fb rb G G wv uv ∧ Good (k + 1) G ∧ Below W.heap.size W w'') by
            obtain ⟨wv', uv', hp, hb, _⟩ := hm
            exact HAP.out G w' wv' uv' hp hb hG)
          have HG := Lib.hid HS.out.2.1
          have HWA := Lib.hid hwa
          have HBA := Lib.hid hba
          have hk100 : k < 100 := by omega
          have hEl : edits.length ≤ 1000000 := by omega
          have HE := Lib.hid (And.intro hBw (And.intro hEe (And.intro hnw hne)))
          clear hBw hEe hnw hne sw se hwa hba
          by_cases hk0 : kd = 0
          · subst hk0
            have hgp := good_putO HG.out hk100 dir wire
            have HP1 := Lib.hid (midF (c := (putO F dir wire).1) (F' := (putO F dir wire).2) (HMID.out wa.drew ⟨1, rfl⟩) (fun wv' uv' hp => Put_any k nw cw dir Aw wire hp.f HG.out (by omega) hp.hRf (rest_old hp HE.out.1 (by
              obtain ⟨_, _, _, hb, _⟩ := HMID.out wa.drew ⟨1, rfl⟩
              exact hb)).1 HE.out.2.2.1))
            have HP2 := Lib.hid (fun w2 (hm : MidA W wa fb rb wr.heap.size (putO F dir wire).2 F w2) => midR (c := (putO F dir wire).1) (F' := (putO F dir wire).2) hm (fun wv' uv' hp => refPut_any k nw cw dir Aw wire hp.r HG.out (by omega) hp.hRr (rest_old hp HE.out.1 (by
              obtain ⟨_, _, _, hb, _⟩ := hm
              exact hb)).2 HE.out.2.2.1))
            generalize putO F dir wire = y at HP1 HP2 hgp
            obtain ⟨c, G⟩ := y
            simp only at HP1 HP2 hgp
            have HGP := Lib.hid hgp
            have hcc : (c != c) = false := by simp
            clear hgp
            go_wp2_with fail
            rw [← HWA.out]
            go_region_held3 (fun w' => w'.cell? ⟨wr.heap.size, 1, none⟩ = some (.int .i64 dir) ∧ w'.cell? ⟨wr.heap.size, 3, none⟩ = some (.slice Aw nw cw)) (first | exact hS3 | exact hS2 | exact ⟨a1, a3⟩ | go_keep)
              ((first
                | (go_at_call 11; refine HP1.out.mono ?_; rintro e w2 ⟨rfl, hm2⟩
                   have hk2 := HK.out _ _ _ hm2
                   have hS2 := And.intro hk2.1 hk2.2.2.1)
                | (go_at_call 10; refine (num_any _ _).mono ?_; rintro e w' ⟨rfl, rfl⟩)
                | (go_at_call 12; refine (HP2.out _ hm2).mono ?_; rintro e w3 ⟨rfl, hm3⟩
                   have hk3 := HK.out _ _ _ hm3
                   have hS3 := And.intro hk3.1 hk3.2.2.1)
                | fail))
            all_goals (
              have HAL2 := Lib.hid (HAL.out _ _ hm3 HGP.out)
              clear hm2 hm3 hk2 hk3 hS2 hS3
              go_wp2_with fail
              refine HAL2.out.mono ?_
              rintro e w4 ⟨rfl, wv4, uv4, HS4⟩
              go_wp2_with fail
              go_roundw
              case rel => exact ⟨k + 1, G, wv4, uv4, by omega, by go_num, HS4⟩
              case measure => simp [intOf]; omega)
          have hk0B : (kd == 0) = false := beq_eq_false_iff_ne.2 hk0
          by_cases hk1 : kd = 1
          · subst hk1
            have hp := HS.out.1.below HBA.out
            have hbw := below_next HS.out.2.2 HBA.out
            have hgp := (good_takeO HG.out dir at_).mono (Nat.le_succ k)
            have HT1 := Lib.hid (Take_any k dir at_ hp.f HG.out (by omega))
            have HT2 := Lib.hid (fun w2 wv2 uv2 (hp2 : Pair W.heap.size w2 fb rb (takeO F dir at_) F wv2 uv2) => refTake_any k dir at_ hp2.r HG.out (by omega))
            have HPR := Lib.hid (And.intro hp hbw)
            clear hp hbw
            generalize takeO F dir at_ = G at HT1 HT2 hgp
            generalize atO F dir at_ = ax at HT1 HT2
            obtain ⟨c, x⟩ := ax
            simp only at HT1 HT2
            have HGP := Lib.hid hgp
            have hcc : (c != c) = false := by simp
            clear hgp
            go_wp2_with fail
            rw [← HWA.out]
            refine HT1.out.mono ?_
            rintro e w2 ⟨v1, v2, rfl, t1, t2, hx1, hx2, ha2⟩
            obtain ⟨hp, hbw⟩ := HPR.out
            have hmf : ¬ Mut fb wv wr.heap.size := fun hm => by have := HS.out.1.f.lt _ hm; omega
            obtain ⟨⟨wv2, hp2⟩, hc2, hm2⟩ := hp.actF hbw.size ha2
            obtain ⟨A1, c1, rfl, l1, m1, ra1⟩ := t1
            obtain ⟨A2, c2, rfl, l2, m2, ra2⟩ := t2
            obtain ⟨n1, hn1⟩ : ∃ n1, n1 = x.wire.length := ⟨_, rfl⟩
            obtain ⟨n2, hn2⟩ : ∃ n2, n2 = x.first.length := ⟨_, rfl⟩
            rw [← hn1, ← hn2]
            obtain ⟨wb, hwb⟩ : ∃ wb, wb = w2.alloc (.cells #[.int .i64 x.num, .slice A1 n1 c1, .slice A2 n2 c2] 40) := ⟨_, rfl⟩
            have hbb : Below w2.heap.size w2 wb := by rw [hwb]; exact below_alloc (Below.refl _ _) _
            have hsb : w2.heap.size < wb.heap.size := by rw [hwb]; simp
            have g1 : w2.cell? ⟨wr.heap.size, 1, none⟩ = some (.int .i64 dir) := (hm2.cell (p := ⟨wr.heap.size, 1, none⟩) hsa hmf).trans a1
            have g2 : w2.cell? ⟨wr.heap.size, 2, none⟩ = some (.int .i64 at_) := (hm2.cell (p := ⟨wr.heap.size, 2, none⟩) hsa hmf).trans a2
            have g3 : wr.heap.size < w2.heap.size := Nat.lt_of_lt_of_le hsa hm2.size
            have g4 : ¬ wr.heap.size = w2.heap.size := Nat.ne_of_lt g3
            have g5 : ¬ w2.heap.size = wr.heap.size := Ne.symm g4
            have b0 : wb.cell? ⟨w2.heap.size, 0, none⟩ = some (.int .i64 x.num) := by rw [hwb]; simp [go_sem]
            have b1 : wb.cell? ⟨w2.heap.size, 1, none⟩ = some (.slice A1 n1 c1) := by rw [hwb]; simp [go_sem]
            have b2 : wb.cell? ⟨w2.heap.size, 2, none⟩ = some (.slice A2 n2 c2) := by rw [hwb]; simp [go_sem]
            have hnr : ¬ Mut rb uv w2.heap.size := fun hm => by have := hp2.r.lt _ hm; omega
            have hbW2 : Below W.heap.size W w2 := Chg.below hbw hm2 hbw.size hp.newf
            have HP2 := Lib.hid (hp2.below hbb)
            have HBW := Lib.hid (below_next hbW2 hbb)
            have HWB := Lib.hid hwb
            have HX := Lib.hid (And.intro ra1 (And.intro ra2 (And.intro hx1 (And.intro hx2 (And.intro hn1 hn2)))))
            have HBB := Lib.hid hbb
            have HR2 := Lib.hid (HT2.out wb wv2 uv (hp2.below hbb))
            clear ra1 ra2 hx1 hx2 hn1 hn2 hbb hwb hbW2 hp2 hc2 hm2 hp hbw ha2 l1 m1 l2 m2
            go_wp2_with fail
            rw [← HWB.out]
            refine HR2.out.mono ?_
            rintro e w3 ⟨u1, u2, rfl, s1, s2, _, _, ha3⟩
            obtain ⟨⟨uv3, hp3⟩, hc3, hm3⟩ := HP2.out.actR HBW.out.size ha3
            obtain ⟨B1, k1, rfl, _, _, rb1⟩ := s1
            obtain ⟨B2, k2, rfl, _, _, rb2⟩ := s2
            obtain ⟨ra1, ra2, hx1, hx2, hn1, hn2⟩ := HX.out
            rw [← hn1, ← hn2]
            obtain ⟨wc, hwc⟩ : ∃ wc, wc = w3.alloc (.cells #[.int .i64 x.num, .slice B1 n1 k1, .slice B2 n2 k2] 40) := ⟨_, rfl⟩
            have hbc : Below w3.heap.size w3 wc := by rw [hwc]; exact below_alloc (Below.refl _ _) _
            have hs3 : w2.heap.size < w3.heap.size := Nat.lt_of_lt_of_le hsb hm3.size
            have d0 : wc.cell? ⟨w2.heap.size, 0, none⟩ = some (.int .i64 x.num) := ((bcell hbc).1 _ _ hs3).trans ((hm3.cell (p := ⟨w2.heap.size, 0, none⟩) hsb hnr).trans b0)
            have d1 : wc.cell? ⟨w2.heap.size, 1, none⟩ = some (.slice A1 n1 c1) := ((bcell hbc).1 _ _ hs3).trans ((hm3.cell (p := ⟨w2.heap.size, 1, none⟩) hsb hnr).trans b1)
            have d2 : wc.cell? ⟨w2.heap.size, 2, none⟩ = some (.slice A2 n2 c2) := ((bcell hbc).1 _ _ hs3).trans ((hm3.cell (p := ⟨w2.heap.size, 2, none⟩) hsb hnr).trans b2)
            have e0 : wc.cell? ⟨w3.heap.size, 0, none⟩ = some (.int .i64 x.num) := by rw [hwc]; simp [go_sem]
            have e1 : wc.cell? ⟨w3.heap.size, 1, none⟩ = some (.slice B1 n1 k1) := by rw [hwc]; simp [go_sem]
            have e2 : wc.cell? ⟨w3.heap.size, 2, none⟩ = some (.slice B2 n2 k2) := by rw [hwc]; simp [go_sem]
            have text : ∀ {A : Option Addr} {l : List UInt8}, RestAt (fun g => ¬ Mut fb wv g ∧ ¬ Mut rb uv g) w2 A l → Bytes wc wc.heap.size A l := fun ha =>
              (((ha.chg (chg_below HBB.out) (fun _ _ _ h => h)).chg hm3 (fun g _ hp hm => hp.2 hm)).chg (chg_below hbc) (fun _ _ _ h => h)).bytes
            have HSM := Lib.hid (refFSame_yes x.num n1 c1 n2 c2 n1 k1 n2 k2 A1 A2 B1 B2 x.wire x.first wc hn1 hn2 hn1 hn2 (text ra1) (text ra2) (rb1.bytes.later hbc) (rb2.bytes.later hbc) hx1 hx2)
            have hbW3 : Below W.heap.size W w3 := Chg.below HBW.out hm3 HBW.out.size HP2.out.newr
            have HP3 := Lib.hid (And.intro (hp3.below hbc) (below_next hbW3 hbc))
            have HWC := Lib.hid hwc
            clear ra1 ra2 rb1 rb2 hx1 hx2 hn1 hn2 hbc hwc hbW3 hp3 hc3 hm3 ha3 text hs3 b0 b1 b2 g1 g2 g3 g4 g5 hsb
            go_wp2_with (first
              | (go_at_call 10; rw [← HWC.out]; refine (num_any c wc).mono ?_; rintro e w' ⟨rfl, rfl⟩)
              | (go_at_call 15; refine HSM.out.mono ?_; rintro e w5 ⟨rfl, hb5⟩)
              | fail)
            have HAL2 := Lib.hid (HAP.out G w5 wv2 uv3 (HP3.out.1.below hb5) (below_next HP3.out.2 hb5) HGP.out)
            clear hb5
            refine HAL2.out.mono ?_
            rintro e w4 ⟨rfl, wv4, uv4, HS4⟩
            go_wp2_with fail
            go_roundw
            case rel => exact ⟨k + 1, G, wv4, uv4, by omega, by go_num, HS4⟩
            case measure => simp [intOf]; omega
          have hk1B : (kd == 1) = false := beq_eq_false_iff_ne.2 hk1
          by_cases hk2 : kd = 2
          · subst hk2
            have hgp := (good_spoilO HG.out dir at_ edits).mono (Nat.le_succ k)
            have HP1 := Lib.hid (show Calls Try.prog 16 #[.pointer (some ⟨fb, 0, none⟩), .int .i64 dir, .int .i64 at_, .slice Ae ne cE] wa.drew fun e w' => e = .returned (.int .i64 (atO F dir at_).1) ∧ MidA W wa fb rb wr.heap.size (spoilO F dir at_ edits) F w' from
              midF (HMID.out wa.drew ⟨1, rfl⟩) (fun wv' uv' hp => by
                obtain ⟨_, _, _, hb, _⟩ := HMID.out wa.drew ⟨1, rfl⟩
                rw [HE.out.2.2.2]
                exact Spoil_any cE dir at_ Ae edits hp.f hp.hRf ((HE.out.2.1.below hb (Nat.le_refl _)).mono hb.size) hEl))
            have HP2 := Lib.hid (fun w2 (hm : MidA W wa fb rb wr.heap.size (spoilO F dir at_ edits) F w2) => show Calls Try.prog 17 #[.pointer (some ⟨rb, 0, none⟩), .int .i64 dir, .int .i64 at_, .slice Ae ne cE] w2 fun e w' => e = .returned (.int .i64 (atO F dir at_).1) ∧ MidA W wa fb rb wr.heap.size (spoilO F dir at_ edits) (spoilO F dir at_ edits) w' from
              midR hm (fun wv' uv' hp => by
                obtain ⟨_, _, _, hb, _⟩ := hm
                rw [HE.out.2.2.2]
                exact refSpoil_any cE dir at_ Ae edits hp.r hp.hRr ((HE.out.2.1.below hb (Nat.le_refl _)).mono hb.size) hEl))
            generalize spoilO F dir at_ edits = G at HP1 HP2 hgp
            generalize (atO F dir at_).1 = c at HP1 HP2
            have HGP := Lib.hid hgp
            have hcc : (c != c) = false := by simp
            clear hgp
            go_wp2_with fail
            rw [← HWA.out]
            go_region_held3 (fun w' => w'.cell? ⟨wr.heap.size, 1, none⟩ = some (.int .i64 dir) ∧ w'.cell? ⟨wr.heap.size, 2, none⟩ = some (.int .i64 at_) ∧ w'.cell? ⟨wr.heap.size, 4, none⟩ = some (.slice Ae ne cE)) (first | exact hS3 | exact hS2 | exact ⟨a1, a2, a4⟩ | go_keep)
              ((first
                | (go_at_call 16; refine HP1.out.mono ?_; rintro e w2 ⟨rfl, hm2⟩
                   have hk2 := HK.out _ _ _ hm2
                   have hS2 := And.intro hk2.1 (And.intro hk2.2.1 hk2.2.2.2))
                | (go_at_call 10; refine (num_any _ _).mono ?_; rintro e w' ⟨rfl, rfl⟩)
                | (go_at_call 17; refine (HP2.out _ hm2).mono ?_; rintro e w3 ⟨rfl, hm3⟩
                   have hk3 := HK.out _ _ _ hm3
                   have hS3 := And.intro hk3.1 (And.intro hk3.2.1 hk3.2.2.2))
                | fail))
            all_goals (
              have HAL2 := Lib.hid (HAL.out _ _ hm3 HGP.out)
              clear hm2 hm3 hk2 hk3 hS2 hS3
              go_wp2_with fail
              refine HAL2.out.mono ?_
              rintro e w4 ⟨rfl, wv4, uv4, HS4⟩
              go_wp2_with fail
              go_roundw
              case rel => exact ⟨k + 1, G, wv4, uv4, by omega, by go_num, HS4⟩
              case measure => simp [intOf]; omega)
          · have hk2B : (kd == 2) = false := beq_eq_false_iff_ne.2 hk2
            have HAL2 := Lib.hid (HAL.out F wa (HMID.out wa (Drawn.refl _)) (HG.out.mono (Nat.le_succ k)))
            go_wp2_with fail
            rw [← HWA.out]
            refine HAL2.out.mono ?_
            rintro e w4 ⟨rfl, wv4, uv4, HS4⟩
            go_wp2_with fail
            go_roundw
            case rel => exact ⟨k + 1, F, wv4, uv4, by omega, by go_num, HS4⟩
            case measure => simp [intOf]; omega
        · obtain rfl : k = n := by omega
          go_wp2_with fail
          refine (live_any _).mono ?_
          rintro e w7 ⟨rfl, hb7⟩
          go_wp2
          go_ret
          exact ⟨rfl, below_next HS.out.2.2 hb7⟩
end Go.Proofs.Ytogijioehdaefaa.Flt
