
/- Layer 13 (probe): what was put is got, and back. -/
import Derived.Test.YtonjdkankegdaaaProbeJ
import Derived.Test.YtonjdkankegdaaaFrmA
namespace Go.Proofs.Ytonjdkankegdaaa.Probe
open Go.RowKit Go.Proofs.Ytonjdkankegdaaa.Mem Go.Proofs.Ytonjdkankegdaaa.Oct Go.Proofs.Ytonjdkankegdaaa.Pkt

theorem prErr_zero {k lb : Int} {n : Nat} (h : prErr k lb n = 0) : prOk k lb n = true := by
  unfold prErr at h
  cases hh : prOk k lb n
  · rw [hh] at h; simp at h
  · rfl
theorem head_of {k lb : Int} {n : Nat} (h : prOk k lb n = true) : ofB (prHead k lb).toNat = true ∧ ofK (prHead k lb).toNat = k ∧ ofL (prHead k lb).toNat = lb ∧ ((prHead k lb).toNat : Int) < 8 ∧ ((prHead k lb).toNat : Int) ≠ 3 := by
  rcases prOk_cases h with ⟨rfl, rfl, -⟩ | ⟨rfl, rfl, -⟩ | ⟨rfl, rfl, -⟩ | ⟨rfl, rfl, -⟩ | ⟨rfl, rfl, -⟩ | ⟨rfl, rfl, -⟩ | ⟨rfl, rfl, -⟩ <;> decide
theorem put_got (k lb : Int) (l : List UInt8) (h : prErr k lb l.length = 0) :
    (gE (prPut k lb l) = 0 ∧ gK (prPut k lb l) = k ∧ gL (prPut k lb l) = lb ∧ gD (prPut k lb l) = l) ∧
    (prPut k lb l).length = l.length + 1 ∧ byteAt (prPut k lb l) 0 < 8 ∧ byteAt (prPut k lb l) 0 ≠ 3 ∧ FrmM.we (prPut k lb l) = 0 ∧ (FrmM.wv (prPut k lb l)).length ≤ 2 * (l.length + 5) + 2 ∧ (prPut k lb l).length ≤ 65 := by
  have hok := prErr_zero h
  obtain ⟨h1, h2, h3, h4, h5⟩ := head_of hok
  have hs := prOk_small hok
  have e : prPut k lb l = prHead k lb :: l := if_pos hok
  rw [e]
  have hg : gOk (prHead k lb :: l) = true := by
    show (ofB _ && prOk (ofK _) (ofL _) l.length) = true
    rw [h1, h2, h3, hok]
    rfl
  have h96 : (prHead k lb :: l).length ≤ 96 := by simp; omega
  refine ⟨⟨?_, ?_, ?_, ?_⟩, rfl, h4, h5, if_pos h96, ?_, by simp; omega⟩
  · unfold gE; rw [hg]; rfl
  · unfold gK; rw [hg]; exact h2
  · unfold gL; rw [hg]; exact h3
  · unfold gD; rw [hg]; rfl
  · have : FrmM.wv (prHead k lb :: l) = FrmM.wrapF (prHead k lb :: l) := if_pos h96
    rw [this]
    have := FrmM.wrapF_length (prHead k lb :: l)
    simp only [List.length_cons] at this
    omega
theorem got_put (b : List UInt8) (h : gE b = 0) : prErr (gK b) (gL b) (gD b).length = 0 ∧ prPut (gK b) (gL b) (gD b) = b := by
  have hg : gOk b = true := by
    unfold gE at h
    cases hh : gOk b
    · rw [hh] at h; simp at h
    · rfl
  unfold gK gL gD
  rw [hg]
  simp only [if_true]
  match b, hg with
  | c :: r, hg =>
    have hg' := hg
    unfold gOk at hg'
    simp only [Bool.and_eq_true] at hg'
    obtain ⟨h1, h2⟩ := hg'
    have hb : byteAt (c :: r) 0 = (c.toNat : Int) := by simp [byteAt, List.getD]
    rw [hb]
    refine ⟨if_pos h2, ?_⟩
    have e : prPut (ofK c.toNat) (ofL c.toNat) r = prHead (ofK c.toNat) (ofL c.toNat) :: r := if_pos h2
    show prPut (ofK c.toNat) (ofL c.toNat) r = c :: r
    rw [e]
    congr 1
    have hlt := c.toNat_lt
    have h1 := of_decide_eq_true (show decide ((c.toNat : Int) ≤ 2 ∨ 4 ≤ (c.toNat : Int) ∧ (c.toNat : Int) ≤ 7) = true from h1)
    have hc : c = 0 ∨ c = 1 ∨ c = 2 ∨ c = 4 ∨ c = 5 ∨ c = 6 ∨ c = 7 := by
      have : c.toNat = 0 ∨ c.toNat = 1 ∨ c.toNat = 2 ∨ c.toNat = 4 ∨ c.toNat = 5 ∨ c.toNat = 6 ∨ c.toNat = 7 := by omega
      rcases this with e | e | e | e | e | e | e
      · exact .inl (UInt8.toNat_inj.1 e)
      · exact .inr (.inl (UInt8.toNat_inj.1 e))
      · exact .inr (.inr (.inl (UInt8.toNat_inj.1 e)))
      · exact .inr (.inr (.inr (.inl (UInt8.toNat_inj.1 e))))
      · exact .inr (.inr (.inr (.inr (.inl (UInt8.toNat_inj.1 e)))))
      · exact .inr (.inr (.inr (.inr (.inr (.inl (UInt8.toNat_inj.1 e))))))
      · exact .inr (.inr (.inr (.inr (.inr (.inr (UInt8.toNat_inj.1 e))))))
    rcases hc with rfl | rfl | rfl | rfl | rfl | rfl | rfl <;> decide

set_option maxHeartbeats 8000000 in
/-- ProbeBack -/
theorem ProbeBack_any (k lb : Int) (A B : Option Addr) (cap cb : Nat) (l b : List UInt8) (W : World) (hA : Bytes W W.heap.size A l) (hl : l.length ≤ maxLen) 
    (hB : Bytes W W.heap.size B b) (hcb : b.length ≤ cb) (hmb : cb ≤ maxLen) (hlb : b.length ≤ 140737488355328) :
    Calls Try.prog 11 #[.agg #[.int .i64 k, .int .i64 lb, .slice A l.length cap], .slice B b.length cb] W fun e W' => e = .returned (.bool true) ∧ Below W.heap.size W W' := by
  have c1 := fun w h => Put_any k lb A cap l w h hl
  have hG := put_got k lb l
  have hs1 := fun (A1 : Option Addr) (k1 : Nat) w x1 x2 => Same_any k lb k lb A A1 cap k1 l l w x1 x2
  rw [prSame_self] at hs1
  have c2 := fun w h => Get_any B cb b w hcb hmb hlb h
  have hbk := got_put b
  have hdl := gD_le b
  have c3 := fun (A1 : Option Addr) (k1 : Nat) w h e1 => Put_any (gK b) (gL b) A1 k1 (gD b) w h e1
  unfold GivesP at c2
  generalize gK b = zk at c2 c3 hbk
  generalize gL b = zl at c2 c3 hbk
  generalize gD b = zd at c2 c3 hbk hdl
  generalize gE b = ze at c2 hbk
  have HDL := Lib.hid (show zd.length ≤ maxLen by unfold maxLen; omega)
  have HBL := Lib.hid (show b.length ≤ maxLen by unfold maxLen; omega)
  have HBK := Lib.hid hbk
  generalize prPut k lb l = P at c1 hG
  generalize prErr k lb l.length = E at c1 hG
  have C1 := Lib.hid c1
  have C2 := Lib.hid c2
  have C3 := Lib.hid c3
  have HS1 := Lib.hid hs1
  clear c1 c2 c3 hs1 hcb hmb hlb hdl hbk
  unfold maxLen at hl
  have hbx := below_alloc (Below.refl W.heap.size W) (.cells #[.int .i64 k, .int .i64 lb, .slice A l.length cap] 41)
  by_cases hE : E = 0
  case' pos =>
    obtain ⟨⟨g1, g2, g3, g4⟩, p1, p2, p3, p4, p5, p6⟩ := hG hE
    clear hG
    subst hE
    have p0 := (byteAt_range P 0).1
    generalize hxx : byteAt P 0 = x0 at p0 p2 p3
    have HXX := Lib.hid hxx
    have P5 := Lib.hid p5
    have P6 := Lib.hid p6
    have hWR := Lib.hid (fun (bt : Nat) (A1 : Option Addr) (k1 : Nat) w h1 h2 ht hbs h => Frm.Wrap_any bt A1 P.length k1 P w rfl h1 h2 ht hbs h)
    rw [p4] at hWR
    generalize FrmM.wv P = V at P5 hWR
    have P1 := Lib.hid p1
    have hx8 : ¬ (8 ≤ x0) := by omega
    have hx3 : (x0 == 3) = false := by rw [beq_eq_false_iff_ne]; exact p3
    clear p1 p2 p3 p4 p5 p6 hxx
    go_enter Try.func11, Try.ntmps11
    go_wp2_with (go_at_call 23; refine (num_any _ _).mono ?_; rintro e w' ⟨rfl, rfl⟩)
    refine (C1.out _ (hA.later hbx)).mono ?_
    rintro e w1 ⟨v1, rfl, ho1, hb⟩
    obtain ⟨A1, k1, rfl, hk1, hk2, _⟩ := ho1.shape
    have hb1 := below_next hbx hb
    have hp0 : w1.cell? ⟨W.heap.size, 0, none⟩ = some (.int .i64 k) := by rw [(bcell hb).1 _ _ (by simp)]; simp [go_sem]
    have hp1 : w1.cell? ⟨W.heap.size, 1, none⟩ = some (.int .i64 lb) := by rw [(bcell hb).1 _ _ (by simp)]; simp [go_sem]
    have hp2 : w1.cell? ⟨W.heap.size, 2, none⟩ = some (.slice A l.length cap) := by rw [(bcell hb).1 _ _ (by simp)]; simp [go_sem]
    have hq0 : W.heap.size < w1.heap.size := by have := hb.size; simp at this; omega
    have hg := fun w h => Get_any A1 k1 P w hk1 hk2 (by have := P6.out; omega) h
    unfold GivesP at hg
    rw [g1, g2, g3, g4] at hg
    have HG := Lib.hid hg
    have hO1 := Lib.hid ho1
    have HB1 := Lib.hid hb1
    clear hg hb hb1 ho1 hbx
    go_wp2_with (go_at_call 23; refine (num_any _ _).mono ?_; rintro e w' ⟨rfl, rfl⟩)
    refine (HG.out _ hO1.out.bytes).mono ?_
    rintro e w2 ⟨v2, rfl, ht2, hb2⟩
    obtain ⟨A2, k2, rfl, _, _, hx2⟩ := ht2
    obtain ⟨w3, hw3⟩ : ∃ w3, w3 = w2.alloc (.cells #[.int .i64 k, .int .i64 lb, .slice A2 l.length k2] 41) := ⟨_, rfl⟩
    have hb23 : Below w2.heap.size w2 w3 := by rw [hw3]; exact below_alloc (Below.refl _ _) _
    have hz3 : w3.heap.size = w2.heap.size + 1 := by rw [hw3]; simp
    have hq2 := hb2.size
    have hkeep : ∀ w', Below w3.heap.size w3 w' → (w'.cell? ⟨W.heap.size, 0, none⟩ = some (.int .i64 k) ∧ w'.cell? ⟨W.heap.size, 1, none⟩ = some (.int .i64 lb) ∧ w'.cell? ⟨W.heap.size, 2, none⟩ = some (.slice A l.length cap)) ∧
       (w'.cell? ⟨w2.heap.size, 0, none⟩ = some (.int .i64 k) ∧ w'.cell? ⟨w2.heap.size, 1, none⟩ = some (.int .i64 lb) ∧ w'.cell? ⟨w2.heap.size, 2, none⟩ = some (.slice A2 l.length k2)) := by
      intro w' hb'
      have key : ∀ o, w'.cell? ⟨W.heap.size, o, none⟩ = w1.cell? ⟨W.heap.size, o, none⟩ := fun o => by
        rw [(bcell hb').1 _ _ (by omega), (bcell hb23).1 _ _ (by omega), (bcell hb2).1 _ _ hq0]
      have key3 : ∀ o, w'.cell? ⟨w2.heap.size, o, none⟩ = w3.cell? ⟨w2.heap.size, o, none⟩ := fun o => (bcell hb').1 _ _ (by omega)
      rw [hw3] at key3
      refine ⟨⟨(key _).trans hp0, (key _).trans hp1, (key _).trans hp2⟩, (key3 _).trans ?_, (key3 _).trans ?_, (key3 _).trans ?_⟩ <;> simp [go_sem]
    have HK := Lib.hid hkeep
    have hq3 : W.heap.size < w3.heap.size := by omega
    have HB03 := Lib.hid (below_next (below_next HB1.out hb2) hb23)
    have HO3 := Lib.hid ((hO1.out.below hb2).keep (C := w2.heap.size) hb23 (fun g hg => (Own.lt (hO1.out.below hb2) g hg).2))
    have HX3 := Lib.hid (hx2.later hb23)
    clear hkeep hp0 hp1 hp2 hq0 hb2 hb23 hx2 hz3
    go_wp2_with fail
    rw [← hw3]
    clear hw3
    refine (Crc.New_any _).mono ?_
    rintro e w4 ⟨bt, rfl, htab, hbt0, hbt1, hb4⟩
    have HO4 := Lib.hid (HO3.out.below hb4)
    have HTB := Lib.hid htab
    have HBT := Lib.hid hbt1
    have HB4 := Lib.hid hb4
    have hb04 := below_next HB03.out hb4
    have HB04 := Lib.hid hb04
    clear htab hbt0 hbt1 hb4 hb04
    go_wp2_with fail
    refine (hWR.out bt A1 k1 _ hk1 hk2 HTB.out HBT.out HO4.out.bytes).mono ?_
    rintro e w5 ⟨v5, rfl, ho5, hb5⟩
    obtain ⟨A5, k5, rfl, _, _, _⟩ := ho5.shape
    have hb35 := below_next HB4.out hb5
    obtain ⟨⟨hs0, hs1, hs2⟩, ht0, ht1, ht2⟩ := HK.out _ hb35
    have HB05 := Lib.hid (below_next HB04.out hb5)
    have HO5 := Lib.hid (HO4.out.below hb5)
    have HX5 := Lib.hid (HX3.out.later hb35)
    clear ho5
    go_wp2_with (first
      | (go_at_call 23; refine (num_any _ _).mono ?_; rintro e w' ⟨rfl, rfl⟩)
      | fail)
    refine (HS1.out A2 k2 _ (hA.later HB05.out) HX5.out).mono ?_
    rintro e w6 ⟨rfl, hb6⟩
    obtain ⟨⟨hs0', hs1', hs2'⟩, _, _, _⟩ := HK.out _ (below_next hb35 hb6)
    have HO6 := Lib.hid (HO5.out.below hb6)
    obtain ⟨gx, ox, rfl, hgx, hcx⟩ := HO6.out.bytes.at_ (k := 0) (by rw [P1.out]; omega)
    rw [HXX.out] at hcx
    have hcx' : w6.cell? ⟨gx, ox, none⟩ = some (.int .u8 x0) := hcx
    have hpl : (P.length : Int) = (l.length : Int) + 1 := by have := P1.out; omega
    have hvl : ¬ (2 * ((l.length : Int) + 5) + 2 < (V.length : Int)) := by have := P5.out; omega
    have hpl0 : ((P.length : Int) == 0) = false := by rw [beq_eq_false_iff_ne]; omega
    have hpl1 : (0 : Int) < (P.length : Int) := by omega
    have hl0 : (0 : Int) ≤ (l.length : Int) := by omega
    have hl1 : (l.length : Int) ≤ 65 := by have := P6.out; omega
    have HB06 := Lib.hid (below_next HB05.out hb6)
    clear hs0 hs1 hs2 ht0 ht1 ht2 hcx hgx hb35 hb5 hb6 hpl
    go_wp2_with (first
      | (go_at_call 23; refine (num_any _ _).mono ?_; rintro e w' ⟨rfl, rfl⟩)
      | fail)
    refine (C2.out _ (hB.later HB06.out)).mono ?_
    rintro e w7 ⟨v7, rfl, ht7, hb7⟩
    have HB07 := Lib.hid (below_next HB06.out hb7)
  case' neg =>
    go_enter Try.func11, Try.ntmps11
    have hE0 : (E == 0) = false := by simp [hE]
    clear hG
    go_wp2_with (go_at_call 23; refine (num_any _ _).mono ?_; rintro e w' ⟨rfl, rfl⟩)
    refine (C1.out _ (hA.later hbx)).mono ?_
    rintro e w6 ⟨v1, rfl, ho1, hb⟩
    obtain ⟨A1, k1, rfl, _, _, _⟩ := ho1.shape
    have HB06 := Lib.hid (below_next hbx hb)
    clear hb ho1 hbx
    go_wp2_with (go_at_call 23; refine (num_any _ _).mono ?_; rintro e w' ⟨rfl, rfl⟩)
    refine (C2.out _ (hB.later HB06.out)).mono ?_
    rintro e w7 ⟨v7, rfl, ht7, hb7⟩
    have HB07 := Lib.hid (below_next HB06.out hb7)
  all_goals (
    obtain ⟨A7, k7, rfl, _, _, hx7⟩ := ht7
    have hb78 := below_alloc (Below.refl w7.heap.size w7) (.cells #[.int .i64 zk, .int .i64 zl, .slice A7 zd.length k7] 41)
    have HX8 := Lib.hid (hx7.later hb78)
    have HB08 := Lib.hid (below_next HB07.out hb78)
    clear hb7 hx7 hb78
    by_cases hz : ze = 0
    all_goals (
      try (obtain ⟨z1, z2⟩ := HBK.out hz; subst hz)
      try (have hz1 : (ze != 0) = true := by simp [hz])
      go_wp2_with (first
          | (go_at_call 23; refine (num_any _ _).mono ?_; rintro e w' ⟨rfl, rfl⟩)
          | (go_at_call 21; refine (C3.out A7 k7 _ HX8.out HDL.out).mono ?_; rw [z1, z2]; rintro e w9 ⟨v9, rfl, ho9, hb9⟩
             have HB09 := Lib.hid (below_next HB08.out hb9)
             obtain ⟨A9, k9, rfl, _, _, _⟩ := ho9.shape)
          | (go_at_call 15; refine (refSame_any A9 B k9 cb b b _ _ _ ho9.bytes (hB.later HB09.out) HBL.out HBL.out).mono ?_; rintro e w10 ⟨rfl, hd10⟩
             have HB10 := Lib.hid (below_next HB09.out (hd10.below _)))
          | (go_at_call 24; refine (live_any _).mono ?_; rintro e w11 ⟨rfl, hb11⟩)
          | fail)
      go_ret
      first | exact ⟨rfl, below_next HB10.out hb11⟩ | exact ⟨rfl, below_next HB08.out hb11⟩))
end Go.Proofs.Ytonjdkankegdaaa.Probe
