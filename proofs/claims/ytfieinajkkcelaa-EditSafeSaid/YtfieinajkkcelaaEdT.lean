
/- Layer 6 (edit): EditSafe. -/
import Derived.Test.YtfieinajkkcelaaEdQ
import Derived.Test.YtfieinajkkcelaaFrmR
import Derived.Test.YtfieinajkkcelaaEdK
import Derived.Test.YtfieinajkkcelaaFrmP
import Derived.Test.YtfieinajkkcelaaDefP
namespace Go.Proofs.Ytfieinajkkcelaa.Ed
open Go.RowKit Go.Proofs.Ytfieinajkkcelaa.Mem Go.Proofs.Ytfieinajkkcelaa.CrcM Go.Proofs.Ytfieinajkkcelaa.FrmM Go.Proofs.Ytfieinajkkcelaa.DefM

theorem pfold_prefix : ∀ (l : List UInt8) (s : List Bool × Bool), ∃ t, (l.foldl StuffL.pstep s).1 = s.1 ++ t
  | [], s => ⟨[], by simp⟩
  | c :: l, s => by
    obtain ⟨t, ht⟩ := pfold_prefix l (StuffL.pstep s c)
    rw [List.foldl_cons, ht]
    unfold StuffL.pstep
    split <;> exact ⟨_, by rw [List.append_assoc]⟩
theorem pfold_at : ∀ (l : List UInt8) (s : List Bool × Bool) (i : Nat), s.1.length ≤ i → (l.foldl StuffL.pstep s).1.getD i false = true →
    nth8 l (i - s.1.length) ≠ 126 ∧ nth8 l (i - s.1.length) ≠ 125
  | [], s, i, h, hp => by
    simp only [List.foldl_nil, List.getD_eq_getElem?_getD, List.getElem?_eq_none h] at hp
    cases hp
  | c :: l, s, i, h, hp => by
    rw [List.foldl_cons] at hp
    obtain ⟨x, e, hx⟩ : ∃ x e, StuffL.pstep s c = (s.1 ++ [x], e) ∧ (x = true → StuffL.esc c = false) := by
      unfold StuffL.pstep
      split
      · exact ⟨false, _, rfl, by simp⟩
      · exact ⟨_, _, rfl, by simp⟩
    rw [hx.1] at hp
    by_cases hi : i = s.1.length
    · subst hi
      obtain ⟨t, ht⟩ := pfold_prefix l (s.1 ++ [x], e)
      rw [ht] at hp
      have h1 : x = true := by simpa [List.getD_eq_getElem?_getD] using hp
      have h2 := hx.2 h1
      unfold StuffL.esc at h2
      simp only [Bool.or_eq_false_iff, beq_eq_false_iff_ne] at h2
      simpa [nth8] using h2
    · have := pfold_at l (s.1 ++ [x], e) i (by simp; omega) hp
      have hk : i - s.1.length = (i - (s.1 ++ [x]).length) + 1 := by simp; omega
      rw [hk]
      exact this
theorem plain_at {l : List UInt8} {i : Nat} (h : (StuffL.plain l).getD i false = true) : nth8 l i ≠ 126 ∧ nth8 l i ≠ 125 := pfold_at l ([], false) i (Nat.zero_le _) h

theorem nth8_set (l : List UInt8) (i j : Nat) (c : UInt8) : nth8 (l.set i c) j = if i = j ∧ j < l.length then c else nth8 l j := by
  unfold nth8
  rw [List.getD_eq_getElem?_getD, List.getD_eq_getElem?_getD, List.getElem?_set]
  by_cases h : i = j
  · subst h
    by_cases h2 : i < l.length
    · simp [h2]
    · simp [h2]
  · simp [h]

/-- what mild edits leave: the flags, the escapes, and what stands outside of four places -/
def Like (w x : List UInt8) (lo : Nat) : Prop := x.length = w.length ∧ ∀ i, (nth8 x i = 126 ↔ nth8 w i = 126) ∧ (nth8 x i = 125 ↔ nth8 w i = 125) ∧ (¬ (lo ≤ i ∧ i < lo + 4) → nth8 x i = nth8 w i)
theorem like_refl (w : List UInt8) (lo : Nat) : Like w w lo := ⟨rfl, fun _ => ⟨Iff.rfl, Iff.rfl, fun _ => rfl⟩⟩
theorem like_do (w : List UInt8) (lo : Nat) : ∀ (es : List Edt) (x : List UInt8), Like w x lo → es.all (okE w) = true → (∀ z ∈ ats es, (lo : Int) ≤ z ∧ z < (lo : Int) + 4) → Like w (do1 x es) lo
  | [], x, h, _, _ => h
  | e :: es, x, h, hok, hr => by
    obtain ⟨ek, ea, ec⟩ := e
    rw [List.all_cons, Bool.and_eq_true] at hok
    have hz := hr ea (by simp [ats])
    refine like_do w lo es (one1 x ek ea ec) ?_ hok.2 (fun z hz => hr z (by simp only [ats, List.map_cons, List.mem_cons]; exact .inr hz))
    have h1 := hok.1
    unfold okE at h1
    simp only [Bool.and_eq_true, decide_eq_true_eq] at h1
    obtain ⟨⟨rfl, h0, hl⟩, hp, h126, h125⟩ := h1
    obtain ⟨hw1, hw2⟩ := plain_at hp
    have hlen := h.1
    have e1 : one1 x 0 ea ec = x.set ea.toNat ec := by
      unfold one1
      rw [if_neg (by omega), if_neg (by decide), if_neg (by decide), if_neg (by decide), if_pos rfl, if_pos (by omega)]
    rw [e1]
    have c126 : ec ≠ 126 := by rintro rfl; exact h126 rfl
    have c125 : ec ≠ 125 := by rintro rfl; exact h125 rfl
    refine ⟨by rw [List.length_set]; exact hlen, fun i => ?_⟩
    obtain ⟨a1, a2, a3⟩ := h.2 i
    rw [nth8_set]
    by_cases hi : ea.toNat = i ∧ i < x.length
    · rw [if_pos hi]
      obtain ⟨rfl, _⟩ := hi
      refine ⟨⟨fun h => absurd h c126, fun h => absurd h hw1⟩, ⟨fun h => absurd h c125, fun h => absurd h hw2⟩, fun h => absurd (by omega) h⟩
    · rw [if_neg hi]
      exact ⟨a1, a2, a3⟩

theorem min_le (zs : List Int) : ∀ z ∈ zs, Lib.minOf zs ≤ z := by
  have key : ∀ (zs : List Int) (a : Int), zs.foldl min a ≤ a ∧ ∀ z ∈ zs, zs.foldl min a ≤ z := by
    intro zs
    induction zs with
    | nil => intro a; exact ⟨Int.le_refl _, fun z hz => by cases hz⟩
    | cons y zs ih =>
      intro a
      obtain ⟨h1, h2⟩ := ih (min a y)
      rw [List.foldl_cons]
      refine ⟨by omega, fun z hz => ?_⟩
      rcases List.mem_cons.1 hz with rfl | hz
      · omega
      · exact h2 z hz
  exact fun z hz => (key zs _).2 z hz
theorem le_max (zs : List Int) : ∀ z ∈ zs, z ≤ Lib.maxOf zs := by
  have key : ∀ (zs : List Int) (a : Int), a ≤ zs.foldl max a ∧ ∀ z ∈ zs, z ≤ zs.foldl max a := by
    intro zs
    induction zs with
    | nil => intro a; exact ⟨Int.le_refl _, fun z hz => by cases hz⟩
    | cons y zs ih =>
      intro a
      obtain ⟨h1, h2⟩ := ih (max a y)
      rw [List.foldl_cons]
      refine ⟨by omega, fun z hz => ?_⟩
      rcases List.mem_cons.1 hz with rfl | hz
      · omega
      · exact h2 z hz
  exact fun z hz => (key zs _).2 z hz
theorem mild_like {w : List UInt8} {es : List Edt} (h : mild1 w es = true) : ∃ lo, Like w (do1 w es) lo := by
  unfold mild1 at h
  rw [Bool.and_eq_true] at h
  obtain ⟨hok, h2⟩ := h
  by_cases h0 : es.length = 0
  · obtain rfl := List.eq_nil_of_length_eq_zero h0
    exact ⟨0, like_refl w 0⟩
  · rw [decide_eq_false h0, Bool.false_or, decide_eq_true_eq] at h2
    have hbn := ats_bnd w es hok
    have hm := min_bnd (ats es) w.length (by omega) hbn
    refine ⟨(Lib.minOf (ats es)).toNat, like_do w _ es w (like_refl w _) hok fun z hz => ?_⟩
    have := min_le _ z hz
    have := le_max _ z hz
    omega

theorem ext8 {x y : List UInt8} (hl : x.length = y.length) (h : ∀ i, nth8 x i = nth8 y i) : x = y := by
  refine List.ext_getElem hl fun i h1 h2 => ?_
  have := h i
  unfold nth8 at this
  simpa [List.getD_eq_getElem?_getD, h1, h2] using this
theorem nth8_take (l : List UInt8) (k i : Nat) : nth8 (l.take k) i = if i < k then nth8 l i else 0 := by
  unfold nth8
  rw [List.getD_eq_getElem?_getD, List.getD_eq_getElem?_getD, List.getElem?_take]
  split <;> simp
theorem nth8_drop (l : List UInt8) (k i : Nat) : nth8 (l.drop k) i = nth8 l (k + i) := by
  unfold nth8
  rw [List.getD_eq_getElem?_getD, List.getD_eq_getElem?_getD, List.getElem?_drop]
theorem nth8_out {l : List UInt8} {i : Nat} (h : l.length ≤ i) : nth8 l i = 0 := by
  unfold nth8
  rw [List.getD_eq_getElem?_getD, List.getElem?_eq_none h]
  rfl
theorem mem_nth {l : List UInt8} {c : UInt8} (h : c ∈ l) : ∃ i, i < l.length ∧ nth8 l i = c := by
  obtain ⟨i, hi, rfl⟩ := List.getElem_of_mem h
  refine ⟨i, hi, ?_⟩
  unfold nth8
  simp [List.getD_eq_getElem?_getD, hi]
theorem nth_mem {l : List UInt8} {i : Nat} (h : i < l.length) : nth8 l i ∈ l := by
  unfold nth8
  rw [List.getD_eq_getElem?_getD, List.getElem?_eq_getElem h]
  exact List.getElem_mem h
theorem nth8_in (s : List UInt8) (i : Nat) (h : i < s.length) : nth8 (126 :: (s ++ [126])) (i + 1) = nth8 s i := by
  unfold nth8
  simp [List.getD_eq_getElem?_getD, List.getElem?_append, h]

/-- what is like a frame is a frame's shape, with an inside like its inside -/
theorem like_shape {s x : List UInt8} {lo : Nat} (h : Like (126 :: (s ++ [126])) x lo) : ∃ s', x = 126 :: (s' ++ [126]) ∧ Like s s' (lo - 1) := by
  obtain ⟨hl, hi⟩ := h
  have hl' : x.length = s.length + 2 := by rw [hl]; simp
  refine ⟨(x.drop 1).take s.length, ?_, by simp; omega, fun i => ?_⟩
  · refine ext8 (by simp; omega) fun i => ?_
    by_cases h0 : i = 0
    · subst h0
      exact ((hi 0).1).2 rfl
    obtain ⟨j, rfl⟩ : ∃ j, i = j + 1 := ⟨i - 1, by omega⟩
    by_cases hj : j < s.length
    · rw [nth8_in _ _ (by simp; omega), nth8_take, if_pos hj, nth8_drop, Nat.add_comm]
    · by_cases hj2 : j = s.length
      · subst hj2
        have h1 : nth8 (126 :: (s ++ [126])) (s.length + 1) = 126 := by simp [nth8]
        rw [((hi (s.length + 1)).1).2 h1]
        have h2 : ((x.drop 1).take s.length).length = s.length := by simp; omega
        generalize (x.drop 1).take s.length = y at h2
        rw [← h2]
        simp [nth8]
      · rw [nth8_out (by omega), nth8_out (by simp; omega)]
  · rw [nth8_take]
    by_cases hj : i < s.length
    · rw [if_pos hj, nth8_drop, Nat.add_comm, ← nth8_in s i hj]
      obtain ⟨a1, a2, a3⟩ := hi (i + 1)
      exact ⟨a1, a2, fun h => a3 (by omega)⟩
    · rw [if_neg hj, nth8_out (l := s) (by omega)]
      exact ⟨Iff.rfl, Iff.rfl, fun _ => rfl⟩
theorem like_cut {s x : List UInt8} {lo : Nat} (h : Like s x lo) : ∃ a c c' t, s = a ++ c ++ t ∧ x = a ++ c' ++ t ∧ pat c = pat c' ∧ c.length ≤ 4 := by
  obtain ⟨hl, hi⟩ := h
  refine ⟨s.take lo, (s.drop lo).take 4, (x.drop lo).take 4, s.drop (lo + 4), ?_, ?_, ?_, by simp; omega⟩
  · rw [List.append_assoc, ← List.drop_drop, List.take_append_drop, List.take_append_drop]
  · have e1 : s.take lo = x.take lo := ext8 (by simp [hl]) fun i => by
      rw [nth8_take, nth8_take]
      split
      · exact ((hi i).2.2 (by omega)).symm
      · rfl
    have e2 : s.drop (lo + 4) = x.drop (lo + 4) := ext8 (by simp [hl]) fun i => by
      rw [nth8_drop, nth8_drop]
      exact ((hi _).2.2 (by omega)).symm
    rw [e1, e2, List.append_assoc, ← List.drop_drop, List.take_append_drop, List.take_append_drop]
  · unfold pat
    refine List.ext_getElem (by simp [hl]) fun i h1 h2 => ?_
    simp only [List.getElem_map]
    have hi2 : i < ((s.drop lo).take 4).length := by simpa using h1
    have hi3 : i < ((x.drop lo).take 4).length := by simpa using h2
    have k1 : ((s.drop lo).take 4)[i] = nth8 s (lo + i) := by
      rw [← nth8_drop]
      have : nth8 ((s.drop lo).take 4) i = ((s.drop lo).take 4)[i] := by unfold nth8; simp only [List.getD_eq_getElem?_getD, List.getElem?_eq_getElem hi2, Option.getD_some]
      rw [← this, nth8_take, if_pos (by simp at hi2; omega)]
    have k2 : ((x.drop lo).take 4)[i] = nth8 x (lo + i) := by
      rw [← nth8_drop]
      have : nth8 ((x.drop lo).take 4) i = ((x.drop lo).take 4)[i] := by unfold nth8; simp only [List.getD_eq_getElem?_getD, List.getElem?_eq_getElem hi3, Option.getD_some]
      rw [← this, nth8_take, if_pos (by simp at hi3; omega)]
    rw [k1, k2]
    have := (hi (lo + i)).2.1
    by_cases hx : nth8 s (lo + i) = 125
    · rw [hx, this.2 hx]
    · rw [beq_eq_false_iff_ne.2 hx, beq_eq_false_iff_ne.2 (fun h => hx (this.1 h))]

theorem run_inside (s : List UInt8) (hs : noFlag s) (hn : s ≠ []) (hl : s.length ≤ 200) : (DefM.run St0 (126 :: (s ++ [126]))).2 = (bodyF s).toList := by
  have h1 : DefM.step St0 126 = ((⟨1, [], 0, 0, 0, 0⟩ : St), []) := step_in St0 rfl
  have hc : DefM.Clean (⟨1, [], 0, 0, 0, 0⟩ : St) := ⟨rfl, rfl⟩
  obtain ⟨_, _, r3, r4⟩ := run_part hc hs
  have h2 : (DefM.run St0 (126 :: (s ++ [126]))).2 = (DefM.step St0 126).2 ++ (DefM.run (DefM.step St0 126).1 (s ++ [126])).2 := rfl
  rw [h2, h1]
  cases hb : bodyF s with
  | none => simp only; rw [r3 hn hl hb]; rfl
  | some x => simp only; rw [r4 x hn hl hb]; rfl
/-- EditSafe's law -/
theorem safe (b : List UInt8) (hb : b.length ≤ 96) (es : List Edt) (h : mild1 (wrapF b) es = true) : (run St0 (do1 (wrapF b) es)).2 = [] ∨ (run St0 (do1 (wrapF b) es)).2 = (run St0 (wrapF b)).2 := by
  obtain ⟨lo, hk⟩ := mild_like h
  generalize do1 (wrapF b) es = x at hk ⊢
  obtain ⟨s, hs⟩ : ∃ s, s = StuffL.put (cput b) := ⟨_, rfl⟩
  have hw : wrapF b = 126 :: (s ++ [126]) := by rw [hs]; rfl
  rw [hw] at hk
  obtain ⟨s', rfl, hk'⟩ := like_shape hk
  have hp := StuffL.put_length (cput b)
  have hcl := cput_length b
  rw [← hs] at hp
  have hlen := hk'.1
  have hnf : noFlag s := fun c hc e => StuffL.put_flag (cput b) (by rw [← hs, ← e]; exact hc)
  have hnf' : noFlag s' := fun c hc e => by
    obtain ⟨i, hi, rfl⟩ := mem_nth hc
    have := ((hk'.2 i).1).1 e
    exact hnf _ (nth_mem (by omega)) this
  have h4 : 4 ≤ s.length := by omega
  have hn : s ≠ [] := by intro e; rw [e] at h4; simp at h4
  have hn' : s' ≠ [] := by intro e; rw [← hlen, e] at h4; simp at h4
  rw [hw, run_inside s hnf hn (by omega), run_inside s' hnf' hn' (by omega)]
  obtain ⟨a, c, c', t, e1, e2, hpat, h4⟩ := like_cut hk'
  by_cases hc : c = c'
  · right
    rw [e1, e2, hc]
  · left
    rw [e2, body_turned (b := b) (hs.symm.trans e1) hpat h4 hc]
    rfl
#print axioms safe
end Go.Proofs.Ytfieinajkkcelaa.Ed

namespace Go.Proofs.Ytfieinajkkcelaa.Ed
open Go.RowKit Go.Proofs.Ytfieinajkkcelaa.Mem Go.Proofs.Ytfieinajkkcelaa.Oct Go.Proofs.Ytfieinajkkcelaa.Pkt Go.Proofs.Ytfieinajkkcelaa.Def Go.Proofs.Ytfieinajkkcelaa.DefM Go.Proofs.Ytfieinajkkcelaa.FrmM

theorem not_forged (b : List UInt8) (hb : b.length ≤ 96) (es : List Edt) (h : mild1 (wv b) es = true) : forged (wv b) (do1 (wv b) es) = false := by
  have e : wv b = wrapF b := if_pos hb
  rw [e] at h ⊢
  unfold forged
  rcases safe b hb es h with h1 | h1
  · rw [h1]; rfl
  · rw [h1, beq_self_eq_true, Bool.not_true, Bool.and_false]

set_option maxHeartbeats 4000000 in
theorem EditSafe_any (A E : Option Addr) (n cap ce : Nat) (l : List UInt8) (es : List Edt) (W : World) (hn : n = l.length) (hA : Bytes W W.heap.size A l) (hE : Eds W W.heap.size E es) :
    Calls Try.prog 11 #[.slice A n cap, .slice E es.length ce] W (IsB W true) := by
  have HW := Lib.hid (Frm.refWrap_any A n cap l W hn hA)
  have HE := Lib.hid hE
  have hlive : ∀ (w2 : World), Below W.heap.size W w2 → ∀ e w7, (e = Ending.returned (.bool true) ∧ Below w2.heap.size w2 w7) → IsB W true e w7 := fun w2 hb e w7 h => ⟨h.1, below_next hb h.2⟩
  have HLV := Lib.hid hlive
  have HWL := Lib.hid (wv_le l)
  clear hlive hA hE hn
  by_cases hl : l.length ≤ 96
  · rw [show we l = 0 from if_pos hl] at HW
    by_cases hes : es.length ≤ 20
    · have hesI : ¬ (20 : Int) < (es.length : Int) := by omega
      have HM := Lib.hid (fun (B : Option Addr) (cb n2 : Nat) w (h2 : n2 = (wv l).length) hb (hB : Bytes w w.heap.size B (wv l)) => Mild_any B E n2 cb ce (wv l) es w h2 hB ((HE.out.below hb (Nat.le_refl _)).mono hb.size) (by have := HWL.out; omega) (by omega))
      have HD := Lib.hid (fun (B : Option Addr) (cb n2 : Nat) w (h2 : n2 = (wv l).length) hb (hB : Bytes w w.heap.size B (wv l)) => Do_any B E n2 cb ce (wv l) es w h2 hB ((HE.out.below hb (Nat.le_refl _)).mono hb.size) (by have := HWL.out; omega) (by omega))
      have HNF := Lib.hid (not_forged l hl es)
      have hdl := do1_len es (wv l)
      have HDL := Lib.hid (show (do1 (wv l) es).length ≤ 900000 by have := HWL.out; omega)
      clear hdl hl hes
      generalize do1 (wv l) es = y at *
      generalize wv l = x at *
      cases hm : mild1 x es with
      | true =>
        rw [hm] at HM HNF
        have HNF2 := Lib.hid (HNF.out rfl)
        clear HNF hm
        go_enter Try.func11, Try.ntmps11
        go_wp2_with fail
        refine HW.out.mono ?_
        rintro e w1 ⟨v1, rfl, ho1, hb1⟩
        obtain ⟨A1, n1, c1, rfl, hn1⟩ := own_shape ho1
        have HO1 := Lib.hid ho1.bytes
        have HB1 := Lib.hid hb1
        have HN1 := Lib.hid hn1.symm
        clear ho1 hb1 hn1
        go_wp2_with fail
        refine (HM.out A1 c1 n1 w1 HN1.out HB1.out HO1.out).mono ?_
        rintro e w2 ⟨rfl, hb2⟩
        have HB2 := Lib.hid (below_next HB1.out hb2)
        have HO2 := Lib.hid (HO1.out.later hb2)
        clear hb2
        go_wp2_with fail
        refine (Crc.New_any _).mono ?_
        rintro e w3 ⟨tb, rfl, ht3, htb0, htb, hb3⟩
        have HB3 := Lib.hid (below_next HB2.out hb3)
        have HO3 := Lib.hid (HO2.out.later hb3)
        have HT3 := Lib.hid ht3
        clear hb3 ht3
        go_wp2_with fail
        refine (HD.out A1 c1 n1 w3 HN1.out HB3.out HO3.out).mono ?_
        rintro e w4 ⟨v4, rfl, ho4, hb4⟩
        obtain ⟨A4, n4, c4, rfl, hn4⟩ := own_shape ho4
        have HB4 := Lib.hid (below_next HB3.out hb4)
        have hfg := Forged_any tb A1 A4 n1 n4 c1 c4 x y w4 HN1.out hn4.symm (HT3.out.below hb4 htb) (Nat.lt_of_lt_of_le htb hb4.size) (HO3.out.later hb4) ho4.bytes (by have := HWL.out; omega) HDL.out
        rw [HNF2.out] at hfg
        have HFG := Lib.hid hfg
        clear hfg hb4 ho4 hn4
        go_wp2_with fail
        refine HFG.out.mono ?_
        rintro e w5 ⟨rfl, hb5⟩
        have HB5 := Lib.hid (below_next HB4.out hb5)
        clear hb5
        go_wp2_with fail
        refine (live_any _).mono ?_
        rintro e w7 ⟨rfl, hb7⟩
        go_wp2
        go_ret
        exact ⟨rfl, below_next HB5.out hb7⟩
      | false =>
        rw [hm] at HM
        clear HNF hm
        go_enter Try.func11, Try.ntmps11
        go_wp2_with fail
        refine HW.out.mono ?_
        rintro e w1 ⟨v1, rfl, ho1, hb1⟩
        obtain ⟨A1, n1, c1, rfl, hn1⟩ := own_shape ho1
        have HO1 := Lib.hid ho1.bytes
        have HB1 := Lib.hid hb1
        have HN1 := Lib.hid hn1.symm
        clear ho1 hb1 hn1
        go_wp2_with fail
        refine (HM.out A1 c1 n1 w1 HN1.out HB1.out HO1.out).mono ?_
        rintro e w2 ⟨rfl, hb2⟩
        have HB2 := Lib.hid (below_next HB1.out hb2)
        clear hb2
        go_wp2_with fail
        refine (live_any _).mono ?_
        rintro e w7 ⟨rfl, hb7⟩
        go_wp2
        go_ret
        exact ⟨rfl, below_next HB2.out hb7⟩
    · have hesI : (20 : Int) < (es.length : Int) := by omega
      generalize wv l = x at *
      clear hl hes
      go_enter Try.func11, Try.ntmps11
      go_wp2_with fail
      refine HW.out.mono ?_
      rintro e w1 ⟨v1, rfl, ho1, hb1⟩
      obtain ⟨A1, n1, c1, rfl, hn1⟩ := own_shape ho1
      have HB1 := Lib.hid hb1
      clear ho1 hb1 hn1
      go_wp2_with fail
      refine (live_any _).mono ?_
      rintro e w7 ⟨rfl, hb7⟩
      go_wp2
      go_ret
      exact ⟨rfl, below_next HB1.out hb7⟩
  · rw [show we l = 2 from if_neg hl] at HW
    generalize wv l = x at *
    clear hl
    go_enter Try.func11, Try.ntmps11
    go_wp2_with fail
    refine HW.out.mono ?_
    rintro e w1 ⟨v1, rfl, ho1, hb1⟩
    obtain ⟨A1, n1, c1, rfl, hn1⟩ := own_shape ho1
    have HB1 := Lib.hid hb1
    clear ho1 hb1 hn1
    go_wp2_with fail
    refine (live_any _).mono ?_
    rintro e w7 ⟨rfl, hb7⟩
    go_wp2
    go_ret
    exact ⟨rfl, below_next HB1.out hb7⟩
end Go.Proofs.Ytfieinajkkcelaa.Ed
