
/- Layer 6 (edit): the document's One and Do. -/
import Derived.Test.YtogijioehdaefaaEdG
namespace Go.Proofs.Ytogijioehdaefaa.Ed
open Go.RowKit Go.Proofs.Ytogijioehdaefaa.Mem Go.Proofs.Ytogijioehdaefaa.Oct Go.Proofs.Ytogijioehdaefaa.Pkt Go.Proofs.Ytogijioehdaefaa.Def

theorem one_gives {W w' : World} {base : Nat} {l' : List UInt8} {e : Ending} (hB : base ≤ W.heap.size) (h : Gives W l' e w') : OneAt W base l' e w' := by
  obtain ⟨v, h1, h2, h3⟩ := h
  exact ⟨v, h1, h2.mono hB, (chg_below h3).mono fun _ h => h.elim⟩

set_option maxHeartbeats 4000000 in
set_option maxRecDepth 100000 in
theorem refOne_any (v0 : Value) (k a : Int) (c : UInt8) (base : Nat) (l : List UInt8) (W : World) (ho : Own 5 W base v0 l) (hB : base ≤ W.heap.size) (hl : l.length ≤ 1000000) :
    Calls Try.prog 36 #[v0, .agg #[.int .i64 k, .int .i64 a, .int .u8 (c.toNat : Int)]] W (OneAt W base (one1 l k a c)) := by
  have hoa := ho.alloc (.cells #[.int .i64 k, .int .i64 a, .int .u8 (c.toNat : Int)] 78)
  have hca := chg_new base W (.cells #[.int .i64 k, .int .i64 a, .int .u8 (c.toNat : Int)] 78)
  obtain ⟨A, cap, rfl, hc, hm, hnl⟩ := ho.shape
  have HO := Lib.hid hoa
  have HC := Lib.hid hca
  by_cases h1 : a < 0
  · have he : one1 l k a c = l := by unfold one1; rw [if_pos (.inl h1)]
    rw [he]
    clear ho hoa hca hnl
    go_enter Try.func36, Try.ntmps36
    go_wp2_with fail
    go_ret
    exact oneAt_mk HO.out HC.out
  by_cases h2 : (l.length : Int) < a
  · have he : one1 l k a c = l := by unfold one1; rw [if_pos (.inr h2)]
    rw [he]
    clear ho hoa hca hnl
    go_enter Try.func36, Try.ntmps36
    go_wp2_with fail
    go_ret
    exact oneAt_mk HO.out HC.out
  obtain ⟨i, rfl⟩ : ∃ i : Nat, a = i := ⟨a.toNat, by omega⟩
  have hi : i ≤ l.length := by omega
  have hn1 : ¬ ((i : Int) < 0 ∨ (l.length : Int) < (i : Int)) := by omega
  by_cases hk1 : k = 1
  · subst hk1
    by_cases h5 : l.length < 512
    · have he : one1 l 1 i c = l.take i ++ c :: l.drop i := by unfold one1; rw [if_neg hn1, if_pos rfl, if_pos h5, Int.toNat_natCast]
      rw [he]
      refine (refOne_ins A l.length cap i c l W rfl ho.bytes hi hc h5 ?_).mono fun e w' h => one_gives hB h
      rcases ho.2 with ⟨hv, _⟩ | ⟨g, cap', cur, hv, _⟩
      · simp only [Value.slice.injEq] at hv
        exact .inl hv
      · simp only [Value.slice.injEq, true_and] at hv
        exact .inr ⟨g, hv.1⟩
    · have he : one1 l 1 i c = l := by unfold one1; rw [if_neg hn1, if_pos rfl, if_neg h5]
      rw [he]
      have h5I : ¬ (l.length : Int) < 512 := by omega
      clear ho hoa hca hnl
      go_enter Try.func36, Try.ntmps36
      go_wp2_with fail
      go_ret
      exact oneAt_mk HO.out HC.out
  obtain ⟨w1, hw1⟩ : ∃ w1, w1 = W.alloc (.cells #[.int .i64 k, .int .i64 i, .int .u8 (c.toNat : Int)] 78) := ⟨_, rfl⟩
  have hb1 : Below W.heap.size W w1 := by rw [hw1]; exact below_alloc (Below.refl _ _) _
  have hsz1 : W.heap.size < w1.heap.size := by rw [hw1]; simp
  by_cases hk3 : k = 3
  · subst hk3
    have he : one1 l 3 i c = l.take i := by unfold one1; rw [if_neg hn1, if_neg hk1, if_pos rfl, Int.toNat_natCast]
    rw [he]
    have hcI : (i : Int) ≤ (cap : Int) := by omega
    have HBy := Lib.hid (ho.bytes.later hb1)
    have HP := Lib.hid (show ∀ e w', Gives w1 (l.take i) e w' → OneAt W base (l.take i) e w' from fun e w' ⟨v, q1, q2, q3⟩ => ⟨v, q1, q2.mono (Nat.le_trans hB hb1.size), (by have := HC.out; rw [← hw1] at this; exact this.trans ((chg_below q3).mono fun _ h => h.elim))⟩)
    rcases ho.2 with ⟨hv, _⟩ | ⟨g, cap', cur, hv, _⟩
    · simp only [Value.slice.injEq] at hv
      obtain ⟨rfl, hl0, rfl⟩ := hv
      obtain rfl := List.eq_nil_of_length_eq_zero hl0
      obtain rfl : i = 0 := by simpa using hi
      have HCP := Lib.hid (Pkt.Copy_any none 0 0 [] w1 rfl (Bytes.nil _ _ _) (by simp))
      clear ho hoa hca hnl HO HC hb1
      go_enter Try.func36, Try.ntmps36
      go_wp2_with fail
      rw [show (0 : Int) = ((0 : Nat) : Int) from rfl, ← hw1]
      refine HCP.out.mono ?_
      rintro e w2 ⟨v2, rfl, hq⟩
      have HQ := Lib.hid (HP.out _ w2 ⟨v2, rfl, hq⟩)
      clear hq
      go_wp2_with fail
      go_ret
      exact HQ.out
    · simp only [Value.slice.injEq, true_and] at hv
      obtain ⟨rfl, rfl⟩ := hv
      have HCP := Lib.hid (Pkt.Copy_any (some ⟨g, 0, none⟩) i cap (l.take i) w1 (by simp; omega) (HBy.out.take hi) (by simp; omega))
      clear ho hoa hca hnl HO HC hb1
      go_enter Try.func36, Try.ntmps36
      go_wp2_with fail
      rw [← hw1]
      refine HCP.out.mono ?_
      rintro e w2 ⟨v2, rfl, hq⟩
      have HQ := Lib.hid (HP.out _ w2 ⟨v2, rfl, hq⟩)
      clear hq
      go_wp2_with fail
      go_ret
      exact HQ.out
  by_cases hil : i < l.length
  · have hiI : (i : Int) < (l.length : Int) := by omega
    rcases ho.2 with ⟨hv, _⟩ | ⟨g, cap', cur, hv, _⟩
    · simp only [Value.slice.injEq] at hv
      omega
    simp only [Value.slice.injEq, true_and] at hv
    obtain ⟨rfl, rfl⟩ := hv
    by_cases hk2 : k = 2
    · subst hk2
      have he : one1 l 2 i c = l.take i ++ l.drop (i + 1) := by unfold one1; rw [if_neg hn1, if_neg hk1, if_neg hk3, if_pos rfl, if_pos hiI, Int.toNat_natCast]
      rw [he]
      exact (refOne_del g l.length cap i c l W rfl ho.bytes hil hc hl).mono fun e w' h => one_gives hB h
    · by_cases hk0 : k = 0
      · subst hk0
        have he : one1 l 0 i c = l.set i c := by unfold one1; rw [if_neg hn1, if_neg hk1, if_neg hk3, if_neg hk2, if_pos rfl, if_pos hiI, Int.toNat_natCast]
        rw [he]
        have HCP := Lib.hid (Pkt.Copy_any (some ⟨g, 0, none⟩) l.length cap l w1 rfl (ho.bytes.later hb1) (by omega))
        have hd1 : w1.cell? ⟨W.heap.size, 1, none⟩ = some (.int .i64 i) := by rw [hw1]; simp [go_sem]
        have hd2 : w1.cell? ⟨W.heap.size, 2, none⟩ = some (.int .u8 (c.toNat : Int)) := by rw [hw1]; simp [go_sem]
        have HB1 := Lib.hid hb1
        clear ho hoa hca hnl HO HC hb1
        go_enter Try.func36, Try.ntmps36
        go_wp2_with fail
        rw [← hw1]
        refine HCP.out.mono ?_
        rintro e w2 ⟨v2, rfl, ho2, hb2⟩
        have hx1 : w2.cell? ⟨W.heap.size, 1, none⟩ = some (.int .i64 i) := by rw [(bcell hb2).1 _ _ hsz1]; exact hd1
        have hx2 : w2.cell? ⟨W.heap.size, 2, none⟩ = some (.int .u8 (c.toNat : Int)) := by rw [(bcell hb2).1 _ _ hsz1]; exact hd2
        rcases ho2.2 with ⟨hv, hl0⟩ | ⟨g2, cap2, cur2, rfl, hb2g, _⟩
        · omega
        have hcell := Own.cellAt ho2 hil
        have hfz : w2.frozen? ⟨g2, i, none⟩ = false := by
          obtain ⟨cur, hg, _⟩ := own_row ho2
          simp [World.frozen?, hg]
        have HS := Lib.hid (show Gives W (l.set i c) (.returned (.slice (some ⟨g2, 0, none⟩) l.length cap2)) (w2.setCell ⟨g2, i, none⟩ (.int .u8 (c.toNat : Int))) from
          ⟨_, rfl, (ho2.set i c).mono HB1.out.size, (below_next HB1.out hb2).setCell (p := ⟨g2, i, none⟩) (Nat.le_trans HB1.out.size hb2g) _⟩)
        clear ho2 hb2 hb2g hd1 hd2 hw1
        go_wp2_with fail
        go_ret
        exact one_gives hB HS.out
      · have he : one1 l k i c = l := by unfold one1; rw [if_neg hn1, if_neg hk1, if_neg hk3, if_neg hk2, if_neg hk0]
        rw [he]
        clear ho hoa hca hnl hw1 hb1 hsz1
        go_enter Try.func36, Try.ntmps36
        go_wp2_with fail
        go_ret
        exact oneAt_mk HO.out HC.out
  · have hiI : ¬ (i : Int) < (l.length : Int) := by omega
    have he : one1 l k i c = l := by
      unfold one1
      rw [if_neg hn1, if_neg hk1, if_neg hk3]
      (repeat' split) <;> first | rfl | omega
    rw [he]
    clear ho hoa hca hnl hw1 hb1 hsz1
    by_cases hk2 : k = 2
    · subst hk2
      go_enter Try.func36, Try.ntmps36
      go_wp2_with fail
      go_ret
      exact oneAt_mk HO.out HC.out
    · by_cases hk0 : k = 0
      · subst hk0
        go_enter Try.func36, Try.ntmps36
        go_wp2_with fail
        go_ret
        exact oneAt_mk HO.out HC.out
      · go_enter Try.func36, Try.ntmps36
        go_wp2_with fail
        go_ret
        exact oneAt_mk HO.out HC.out

set_option maxHeartbeats 4000000 in
theorem refDo_any (A E : Option Addr) (n cap ce : Nat) (l : List UInt8) (es : List Edt) (W : World) (hn : n = l.length) (hA : Bytes W W.heap.size A l) (hE : Eds W W.heap.size E es) (hl : l.length ≤ 1000000) (hes : es.length ≤ 1000000) :
    Calls Try.prog 31 #[.slice A n cap, .slice E es.length ce] W (Gives W (do1 l es)) := by
  subst hn
  go_enter Try.func31, Try.ntmps31
  go_wp2_with fail
  refine (Pkt.Copy_any A _ cap l W rfl hA (by omega)).mono ?_
  rintro e w1 ⟨v1, rfl, ho1, hb1⟩
  have HO1 := Lib.hid ho1
  have HB1 := Lib.hid hb1
  clear ho1 hb1
  go_wp2_with fail
  go_loopw [5, 6] (fun v i wr => ∃ k : Nat, k ≤ es.length ∧ i = .int .i64 k ∧ Own 5 wr W.heap.size v (do1 l (es.take k)) ∧ Below W.heap.size W wr) (fun _ i _ => es.length - (intOf i).toNat)
  case atStart => exact ⟨0, Nat.zero_le _, rfl, HO1.out, HB1.out⟩
  case round =>
    obtain ⟨k, hk, rfl, ho, hb⟩ := hrel
    have hlen := do1_len (es.take k) l
    by_cases hlt : k < es.length
    · obtain ⟨b, off, rfl, hbl, hcell⟩ := (hE.below hb (Nat.le_refl _)) (by omega)
      obtain ⟨hc0, hc1, hc2⟩ := hcell k hlt
      have HS := Lib.hid (do1_next l es k hlt)
      generalize nthE es k = x at hc0 hc1 hc2 HS
      obtain ⟨xk, xa, xc⟩ := x
      have hltI : (k : Int) < (es.length : Int) := by omega
      have hsz := hb.size
      have HO := Lib.hid ho
      have HB := Lib.hid hb
      clear hcell ho hb hE hA
      go_wp2_with fail
      refine (refOne_any _ xk xa xc W.heap.size _ _ HO.out hsz (by omega)).mono ?_
      rintro e w2 ⟨v2, rfl, ho2, hc2'⟩
      have HO2 := Lib.hid ho2
      have HB2 := Lib.hid (Chg.below HB.out hc2' hsz (fun g hg => hg))
      clear ho2 hc2'
      go_wp2_with fail
      go_roundw
      case rel => exact ⟨k + 1, hlt, by go_num, by rw [HS.out]; exact HO2.out, HB2.out⟩
      case measure => simp [intOf]; omega
    · obtain rfl : k = es.length := by omega
      have HK := Lib.hid (show do1 l (es.take es.length) = do1 l es by rw [List.take_length])
      go_wp2_with fail
      go_ret
      exact ⟨_, rfl, (congrArg (Own _ wr W.heap.size _) HK.out).mp ho, hb⟩
end Go.Proofs.Ytogijioehdaefaa.Ed
