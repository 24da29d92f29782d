
/- Layer 6 (edit): the document's Mild; EditMilds. -/
import Derived.Test.YtfieinajkkcelaaEdP
namespace Go.Proofs.Ytfieinajkkcelaa.Ed
open Go.RowKit Go.Proofs.Ytfieinajkkcelaa.Mem Go.Proofs.Ytfieinajkkcelaa.Oct Go.Proofs.Ytfieinajkkcelaa.Pkt Go.Proofs.Ytfieinajkkcelaa.Def

theorem ats_take (es : List Edt) (k : Nat) : ats (es.take k) = (ats es).take k := by unfold ats; rw [List.map_take]
theorem ats_getD (es : List Edt) (k : Nat) (h : k < es.length) : (ats es).getD k 0 = (nthE es k).2.1 := by
  unfold ats nthE
  rw [List.getD_eq_getElem?_getD, List.getD_eq_getElem?_getD, List.getElem?_map, List.getElem?_eq_getElem h]
  rfl
theorem ats_length (es : List Edt) : (ats es).length = es.length := by simp [ats]
def lo (es : List Edt) (k : Nat) : Int := Lib.minOf (ats (es.take k))
def hi (es : List Edt) (k : Nat) : Int := Lib.maxOf (ats (es.take k))
theorem lo_first (es : List Edt) (h : 0 < es.length) : lo es 1 = (nthE es 0).2.1 := by
  unfold lo; rw [ats_take, Lib.minOf_one, ats_getD es 0 h]
theorem hi_first (es : List Edt) (h : 0 < es.length) : hi es 1 = (nthE es 0).2.1 := by
  unfold hi; rw [ats_take, Lib.maxOf_one, ats_getD es 0 h]
theorem lo_next (es : List Edt) (k : Nat) (h0 : 0 < k) (h : k < es.length) : lo es (k + 1) = min (lo es k) (nthE es k).2.1 := by
  unfold lo; rw [ats_take, ats_take, Lib.minOf_step _ k h0 (by rw [ats_length]; exact h), ats_getD es k h]
theorem hi_next (es : List Edt) (k : Nat) (h0 : 0 < k) (h : k < es.length) : hi es (k + 1) = max (hi es k) (nthE es k).2.1 := by
  unfold hi; rw [ats_take, ats_take, Lib.maxOf_step _ k h0 (by rw [ats_length]; exact h), ats_getD es k h]

set_option maxHeartbeats 4000000 in
theorem refMild_any (A E : Option Addr) (n cap ce : Nat) (l : List UInt8) (es : List Edt) (W : World) (hn : n = l.length) (hA : Bytes W W.heap.size A l) (hE : Eds W W.heap.size E es) (hl : l.length ≤ 1000000) (hes : es.length ≤ 1000000) :
    Calls Try.prog 30 #[.slice A n cap, .slice E es.length ce] W (IsB W (mild1 l es)) := by
  have HPL := Lib.hid (show Calls Try.prog 47 #[.slice A n cap] W (Stuff.GivesB W (StuffL.plain l)) by subst hn; exact Stuff.refPlain_any A cap l W hA (by omega))
  have HN := Lib.hid hn
  have hpl : (StuffL.plain l).length = n := by rw [hn]; exact StuffL.pgo_length l
  have HPN := Lib.hid hpl
  have hnB : n ≤ 1000000 := by omega
  clear hn hpl
  go_enter Try.func30, Try.ntmps30
  go_wp2_with fail
  refine HPL.out.mono ?_
  rintro e w1 ⟨v1, rfl, ho1, hb1⟩
  obtain ⟨A1, n1, c1, rfl, hn1⟩ := ownV_shape ho1
  have hN1 : n1 = n := by rw [← hn1, List.length_map, HPN.out]
  subst hN1
  have HO1 := Lib.hid ho1
  have HB1 := Lib.hid hb1
  clear ho1 hb1 hn1
  go_wp2_with fail
  go_loopw [6, 7, 8, 9] (fun a z i _ wr => ∃ k : Nat, k ≤ es.length ∧ i = .int .i64 k ∧ a = .int .i64 (lo es k) ∧ z = .int .i64 (hi es k) ∧ Below w1.heap.size w1 wr ∧ Hid (∀ j, j < k → okE l (nthE es j) = true)) (fun _ _ i _ _ => es.length - (intOf i).toNat)
  case atStart => exact ⟨0, Nat.zero_le _, rfl, rfl, rfl, Below.refl _ _, Lib.hid (fun j hj => absurd hj (Nat.not_lt_zero _))⟩
  case round =>
    obtain ⟨k, hk, rfl, rfl, rfl, hb, HOK⟩ := hrel
    have hbW := below_next HB1.out hb
    have hsz := hb.size
    have hszW := hbW.size
    by_cases hlt : k < es.length
    · obtain ⟨b, off, rfl, hbl, hcell⟩ := (hE.below hbW (Nat.le_refl _)) (by omega)
      obtain ⟨hc0, hc1, hc2⟩ := hcell k hlt
      have HL1 := Lib.hid (lo_first es (by omega))
      have HH1 := Lib.hid (hi_first es (by omega))
      have HLN := Lib.hid (fun h0 => lo_next es k h0 hlt)
      have HHN := Lib.hid (fun h0 => hi_next es k h0 hlt)
      have HNO := Lib.hid (show okE l (nthE es k) = false → ∀ w', Below W.heap.size W w' → IsB W (mild1 l es) (.returned (.bool false)) w' from fun h w' hw => ⟨by rw [mild_no l es k hlt h], hw⟩)
      have HYES := Lib.hid (show okE l (nthE es k) = true → ∀ j, j < k + 1 → okE l (nthE es j) = true from fun h j hj => by
        rcases Nat.lt_succ_iff_lt_or_eq.1 hj with h1 | h1
        · exact HOK.out j h1
        · rw [h1]; exact h)
      have HK0 := Lib.hid (show k = 0 → nthE es 0 = nthE es k from fun h => by rw [h])
      generalize nthE es k = x at hc0 hc1 hc2 HNO HYES HK0 HLN HHN
      obtain ⟨xk, xa, xc⟩ := x
      have hltI : (k : Int) < (es.length : Int) := by omega
      have HB := Lib.hid hb
      have HBW := Lib.hid (fun o => hbW.alloc hszW o)
      have HBC := Lib.hid (fun o => hb.alloc hsz o)
      simp only at hc0 hc1 hc2
      clear hcell hb hE hA hbW HOK
      by_cases h0 : xk = 0
      · subst h0
        by_cases h1 : xa < 0
        · have HF := Lib.hid (HNO.out (by unfold okE; simp; omega))
          clear HNO HYES HLN HHN
          go_wp2_with fail
          go_ret
          exact HF.out _ (HBW.out _)
        by_cases h2 : (n1 : Int) ≤ xa
        · have HF := Lib.hid (HNO.out (by have := HN.out; unfold okE; simp; omega))
          clear HNO HYES HLN HHN
          go_wp2_with fail
          go_ret
          exact HF.out _ (HBW.out _)
        obtain ⟨i, rfl⟩ : ∃ i : Nat, xa = i := ⟨xa.toNat, by omega⟩
        have hin : i < n1 := by omega
        have hinI : (i : Int) < (n1 : Int) := by omega
        obtain ⟨g1, rfl, _, hg1, hcp, _⟩ := HO1.out.at_ (k := i) (by rw [List.length_map, HPN.out]; exact hin)
        have hcp2 : wr.cell? ⟨g1, i, none⟩ = some (.bool ((StuffL.plain l).getD i false)) := by
          have hip : i < (StuffL.plain l).length := by rw [HPN.out]; exact hin
          rw [(bcell HB.out).1 _ _ hg1, hcp, List.getD_eq_getElem?_getD, List.getElem?_map, List.getElem?_eq_getElem hip]
          rfl
        have hgr : g1 < wr.heap.size := by omega
        have hok : okE l (0, (i : Int), xc) = ((StuffL.plain l).getD i false && decide (¬ xc.toNat = 126 ∧ ¬ xc.toNat = 125)) := by
          have := HN.out
          unfold okE
          rw [decide_eq_true (by refine ⟨rfl, ?_, ?_⟩ <;> simp only <;> omega), Bool.true_and]
          rfl
        rw [hok] at HNO HYES
        generalize (StuffL.plain l).getD i false = pb at hcp2 HNO HYES
        clear hok hcp
        cases pb with
        | false =>
          have HF := Lib.hid (HNO.out rfl)
          clear HNO HYES HLN HHN
          go_wp2_with fail
          go_ret
          exact HF.out _ (HBW.out _)
        | true =>
          by_cases h126 : xc.toNat = 126
          · have HF := Lib.hid (HNO.out (by simp [h126]))
            have h126I : (xc.toNat : Int) = 126 := by omega
            clear HNO HYES HLN HHN
            go_wp2_with fail
            go_ret
            exact HF.out _ (HBW.out _)
          by_cases h125 : xc.toNat = 125
          · have HF := Lib.hid (HNO.out (by simp [h125]))
            have h125I : (xc.toNat : Int) = 125 := by omega
            have h126I : ¬ (xc.toNat : Int) = 126 := by omega
            clear HNO HYES HLN HHN
            go_wp2_with fail
            go_ret
            exact HF.out _ (HBW.out _)
          have h125I : ¬ (xc.toNat : Int) = 125 := by omega
          have h126I : ¬ (xc.toNat : Int) = 126 := by omega
          have h125B : ((xc.toNat : Int) == 125) = false := beq_eq_false_iff_ne.2 h125I
          have h126B : ((xc.toNat : Int) == 126) = false := beq_eq_false_iff_ne.2 h126I
          have HY := Lib.hid (HYES.out (by simp [h125, h126]))
          clear HNO HYES
          by_cases hk0 : k = 0
          · have e0 := HK0.out hk0
            subst hk0
            simp only [Nat.zero_mul, Nat.add_zero] at hc0 hc1 hc2
            have HLZ := Lib.hid (HL1.out.trans (by rw [e0]))
            have HHZ := Lib.hid (HH1.out.trans (by rw [e0]))
            simp only at HLZ HHZ
            clear e0 HLN HHN HL1 HH1 HK0
            generalize lo es 0 = a at *
            generalize hi es 0 = z at *
            go_wp2_with fail
            go_roundw
            case rel => exact ⟨1, hlt, by go_num, by rw [HLZ.out], by rw [HHZ.out], HBC.out _, HY⟩
            case measure => simp [intOf]; omega
          · have hLZ := HLN.out (by omega)
            have hHZ := HHN.out (by omega)
            have hk0I : ¬ (k : Int) = 0 := by omega
            have hk0B : ((k : Int) == 0) = false := beq_eq_false_iff_ne.2 hk0I
            simp only at hLZ hHZ
            clear HLN HHN HL1 HH1 HK0
            generalize lo es k = a at *
            generalize hi es k = z at *
            by_cases ha : (i : Int) < a
            · rw [show min a (i : Int) = i by omega] at hLZ
              have HLZ := Lib.hid hLZ
              clear hLZ
              by_cases hz : z < (i : Int)
              · rw [show max z (i : Int) = i by omega] at hHZ
                have HHZ := Lib.hid hHZ
                clear hHZ
                go_wp2_with fail
                go_roundw
                case rel => exact ⟨k + 1, hlt, by go_num, by rw [HLZ.out], by rw [HHZ.out], HBC.out _, HY⟩
                case measure => simp [intOf]; omega
              · rw [show max z (i : Int) = z by omega] at hHZ
                have HHZ := Lib.hid hHZ
                clear hHZ
                go_wp2_with fail
                go_roundw
                case rel => exact ⟨k + 1, hlt, by go_num, by rw [HLZ.out], by rw [HHZ.out], HBC.out _, HY⟩
                case measure => simp [intOf]; omega
            · rw [show min a (i : Int) = a by omega] at hLZ
              have HLZ := Lib.hid hLZ
              clear hLZ
              by_cases hz : z < (i : Int)
              · rw [show max z (i : Int) = i by omega] at hHZ
                have HHZ := Lib.hid hHZ
                clear hHZ
                go_wp2_with fail
                go_roundw
                case rel => exact ⟨k + 1, hlt, by go_num, by rw [HLZ.out], by rw [HHZ.out], HBC.out _, HY⟩
                case measure => simp [intOf]; omega
              · rw [show max z (i : Int) = z by omega] at hHZ
                have HHZ := Lib.hid hHZ
                clear hHZ
                go_wp2_with fail
                go_roundw
                case rel => exact ⟨k + 1, hlt, by go_num, by rw [HLZ.out], by rw [HHZ.out], HBC.out _, HY⟩
                case measure => simp [intOf]; omega
      · have HF := Lib.hid (HNO.out (by unfold okE; simp [h0]))
        clear HNO HYES HLN HHN
        go_wp2_with fail
        go_ret
        exact HF.out _ (HBW.out _)
    · obtain rfl : k = es.length := by omega
      have hall := all_ok l es HOK.out
      have hbn := ats_bnd l es hall
      have hbM : 0 ≤ hi es es.length ∧ hi es es.length ≤ l.length := by unfold hi; rw [List.take_length]; exact max_bnd (ats es) l.length (by omega) hbn
      have hbm : 0 ≤ lo es es.length ∧ lo es es.length ≤ l.length := by unfold lo; rw [List.take_length]; exact min_bnd (ats es) l.length (by omega) hbn
      have hml : mild1 l es = decide (hi es es.length - lo es es.length ≤ 3) := by
        have e1 : mild1 l es = (decide (es.length = 0) || decide (Lib.maxOf (ats es) - Lib.minOf (ats es) < 4)) := by unfold mild1; rw [hall, Bool.true_and]
        rw [e1]
        unfold hi lo
        rw [List.take_length]
        by_cases h0 : es.length = 0
        · obtain rfl := List.eq_nil_of_length_eq_zero h0
          decide
        · rw [decide_eq_false h0, Bool.false_or, decide_eq_decide]
          omega
      have HBW := Lib.hid hbW
      rw [← HN.out] at hbM hbm
      have HT := Lib.hid hml
      clear hall hbn HOK hE hA hb hbW hml
      generalize lo es es.length = a at *
      generalize hi es es.length = z at *
      have hwr : IntKind.i64.wrap (z - a) = z - a := by rw [IntKind.wrap_i64]; omega
      go_wp2_with fail
      go_ret
      exact ⟨ret_bool HT.out.symm, HBW.out⟩

set_option maxHeartbeats 4000000 in
theorem EditMilds_any (A E : Option Addr) (n cap ce : Nat) (l : List UInt8) (es : List Edt) (W : World) (hn : n = l.length) (hA : Bytes W W.heap.size A l) (hE : Eds W W.heap.size E es) :
    Calls Try.prog 9 #[.slice A n cap, .slice E es.length ce] W (IsB W true) := by
  by_cases hlg : l.length ≤ 600 ∧ es.length ≤ 100
  · have HL := Lib.hid (fun w => large_no A E n cap es.length ce w (by rw [hn]; exact hlg))
    have HM := Lib.hid (fun w (hb : Below W.heap.size W w) => Mild_any A E n cap ce l es w hn (hA.later hb) ((hE.below hb (Nat.le_refl _)).mono hb.size) (by omega) (by omega))
    have HR := Lib.hid (fun w (hb : Below W.heap.size W w) => refMild_any A E n cap ce l es w hn (hA.later hb) ((hE.below hb (Nat.le_refl _)).mono hb.size) (by omega) (by omega))
    have h0 := fun w (hb : Below W.heap.size W w) => Mild_any A none n cap 0 l [] w hn (hA.later hb) (fun h => absurd h (by simp)) (by omega) (by simp)
    rw [show mild1 l [] = true from rfl] at h0
    have H0 := Lib.hid h0
    clear hlg hA hE hn h0
    generalize mild1 l es = x at *
    go_enter Try.func9, Try.ntmps9
    go_wp2_with fail
    refine (HL.out _).mono ?_
    rintro e w1 ⟨rfl, rfl⟩
    go_wp2_with fail
    refine (HM.out _ (Below.refl _ _)).mono ?_
    rintro e w2 ⟨rfl, hb2⟩
    have HB2 := Lib.hid hb2
    clear hb2
    go_wp2_with fail
    refine (HR.out w2 HB2.out).mono ?_
    rintro e w3 ⟨rfl, hb3⟩
    have HB3 := Lib.hid (below_next HB2.out hb3)
    clear hb3
    have hxx : (x == x) = true := beq_self_eq_true x
    go_wp2_with fail
    refine (H0.out w3 HB3.out).mono ?_
    rintro e w4 ⟨rfl, hb4⟩
    have HB4 := Lib.hid (below_next HB3.out hb4)
    clear hb4
    go_wp2_with fail
    refine (live_any _).mono ?_
    rintro e w7 ⟨rfl, hb7⟩
    go_wp2
    go_ret
    exact ⟨rfl, below_next HB4.out hb7⟩
  · have HL := Lib.hid (fun w => large_yes A E n cap es.length ce w (by rw [hn]; exact hlg))
    clear hlg hA hE hn
    go_enter Try.func9, Try.ntmps9
    go_wp2_with fail
    refine (HL.out _).mono ?_
    rintro e w1 ⟨rfl, rfl⟩
    go_wp2_with fail
    refine (live_any _).mono ?_
    rintro e w2 ⟨rfl, hb2⟩
    go_wp2
    go_ret
    exact ⟨rfl, hb2⟩
end Go.Proofs.Ytfieinajkkcelaa.Ed
