
/- Layer 14 (slide): the law on what was put and got, and back. -/
import Derived.Test.YtonjdkankegdaaaSlideJ
import Derived.Test.YtonjdkankegdaaaSlideB
import Derived.Deep.RegionHeld3
import Derived.Deep.DrawnRows
attribute [local go_sem ↓] Go.wp_at_zero Go.wp_at_succ
namespace Go.Proofs.Ytonjdkankegdaaa.Slide
open Go.RowKit Go.Proofs.Ytonjdkankegdaaa.Mem Go.Proofs.Ytonjdkankegdaaa.Oct Go.Proofs.Ytonjdkankegdaaa.Pkt

theorem gvB_bd (b : List UInt8) (m : Int) : 0 ≤ gvB b m ∧ gvB b m ≤ 18446744073709551615 := by
  unfold gvB
  split
  · unfold rB
    split
    · split
      · exact numW_bd _
      · exact ⟨by decide, by decide⟩
    · exact ⟨by decide, by decide⟩
  · exact ⟨by decide, by decide⟩

set_option maxHeartbeats 8000000 in
/-- SlideBack -/
theorem SlideBack_any (ack : Bool) (seq bits : Int) (A B : Option Addr) (cap cb : Nat) (l b : List UInt8) (m : Int) (h0 : 0 ≤ bits) (h1 : bits ≤ 18446744073709551615) (W : World) (hA : Bytes W W.heap.size A l) (hc : l.length ≤ cap) (hm : cap ≤ maxLen)
    (hB : Bytes W W.heap.size B b) (hcb : b.length ≤ cb) (hmb : cb ≤ maxLen) (hlb : b.length ≤ 140737488355000) :
    Calls Try.prog 9 #[.agg #[.bool ack, .int .i64 seq, .int .u64 bits, .slice A l.length cap], .slice B b.length cb, .int .i64 m] W fun e W' => e = .returned (.bool true) ∧ Below W.heap.size W W' := by
  have hl := Nat.le_trans hc hm
  have c1 := fun w h => Put_any ack seq bits A cap l m h0 w h hc hm
  have hP := slPut_le ack seq bits l m
  have hG := put_got ack seq bits l m h0 h1
  have hs1 := fun (A1 : Option Addr) (k1 : Nat) w x1 x2 => Same_any ack ack seq bits seq bits A A1 cap k1 l l w x1 x2
  have hs2 := fun (A1 : Option Addr) (k1 : Nat) w x1 x2 => refSameS_any ack ack seq bits seq bits A A1 cap k1 l l w x1 x2 hl hl
  rw [slSame_self] at hs1 hs2
  have c2 := fun w h => Get_any B cb b m w h hcb hmb (by omega)
  have hbk := got_put b m
  have hbd := gvB_bd b m
  have hdl := gvD_le b m
  have c3 := fun (A1 : Option Addr) (k1 : Nat) w h e1 e2 => Put_any (gvA b m) (gvS b m) (gvB b m) A1 k1 (gvD b m) m hbd.1 w h e1 e2
  unfold GivesS at c2
  generalize gvA b m = za at c2 c3 hbk
  generalize gvS b m = zs at c2 c3 hbk
  generalize gvB b m = zb at c2 c3 hbk hbd
  generalize gvD b m = zd at c2 c3 hbk hdl
  generalize gvE b m = ze at c2 hbk
  generalize slPut ack seq bits l m = P at c1 hP hG
  generalize slErr ack seq bits l.length m = E at c1 hG
  have C1 := Lib.hid c1
  have C2 := Lib.hid c2
  have C3 := Lib.hid c3
  have HS1 := Lib.hid hs1
  have HS2 := Lib.hid hs2
  obtain ⟨sm, hsm⟩ : ∃ x, x = slSame ack seq bits l za zs zb zd := ⟨_, rfl⟩
  have hs3 := fun (A1 : Option Addr) (k1 : Nat) w x1 x2 => Same_any ack za seq bits zs zb A A1 cap k1 l zd w x1 x2
  have hs4 := fun (A1 : Option Addr) (k1 : Nat) w x1 x2 => refSameS_any ack za seq bits zs zb A A1 cap k1 l zd w x1 x2 hl (by unfold maxLen; omega)
  rw [← hsm] at hs3 hs4
  have HS3 := Lib.hid hs3
  have HS4 := Lib.hid hs4
  have HDL := Lib.hid (show zd.length ≤ maxLen by unfold maxLen; omega)
  have HBL := Lib.hid (show b.length ≤ maxLen by unfold maxLen; omega)
  have HBK := Lib.hid hbk
  have HPL := Lib.hid hP
  have hsmm : (sm != sm) = false := by simp
  clear c1 c2 c3 hs1 hs2 hs3 hs4 hsm hc hm hl hcb hmb hlb h0 h1 hdl hbk hbd hP
  have hbx := below_alloc (Below.refl W.heap.size W) (.cells #[.bool ack, .int .i64 seq, .int .u64 bits, .slice A l.length cap] 25)
  by_cases hE : E = 0
  case' pos =>
    obtain ⟨g1, g2, g3, g4, g5⟩ := hG hE
    subst hE
    go_enter Try.func9, Try.ntmps9
    go_wp2_with (go_at_call 14; refine (num_any _ _).mono ?_; rintro e w' ⟨rfl, rfl⟩)
    refine (C1.out _ (hA.later hbx)).mono ?_
    rintro e w1 ⟨v1, rfl, ho1, hb⟩
    obtain ⟨A1, k1, rfl, hk1, hk2, _⟩ := ho1.shape
    have hb1 := below_next hbx hb
    have hp0 : w1.cell? ⟨W.heap.size, 0, none⟩ = some (.bool ack) := by rw [(bcell hb).1 _ _ (by simp)]; simp [go_sem]
    have hp1 : w1.cell? ⟨W.heap.size, 1, none⟩ = some (.int .i64 seq) := by rw [(bcell hb).1 _ _ (by simp)]; simp [go_sem]
    have hp2 : w1.cell? ⟨W.heap.size, 2, none⟩ = some (.int .u64 bits) := by rw [(bcell hb).1 _ _ (by simp)]; simp [go_sem]
    have hp3 : w1.cell? ⟨W.heap.size, 3, none⟩ = some (.slice A l.length cap) := by rw [(bcell hb).1 _ _ (by simp)]; simp [go_sem]
    have hq0 : W.heap.size < w1.heap.size := by have := hb.size; simp at this; omega
    have hg := fun w h => Get_any A1 k1 P m w h hk1 hk2 (by have := HPL.out; omega)
    unfold GivesS at hg
    rw [g1, g2, g3, g4, g5] at hg
    have HG := Lib.hid hg
    clear hg
    go_wp2_with (go_at_call 14; refine (num_any _ _).mono ?_; rintro e w' ⟨rfl, rfl⟩)
    refine (HG.out _ ho1.bytes).mono ?_
    rintro e w2 ⟨v2, rfl, ht2, hb2⟩
    obtain ⟨A2, k2, rfl, _, _, hx2⟩ := ht2
    have hby := below_alloc (Below.refl w2.heap.size w2) (.cells #[.bool ack, .int .i64 seq, .int .u64 bits, .slice A2 l.length k2] 25)
    have hb02 := below_next hb1 hb2
    have hr0 : w2.cell? ⟨W.heap.size, 0, none⟩ = some (.bool ack) := by rw [(bcell hb2).1 _ _ hq0]; exact hp0
    have hr1 : w2.cell? ⟨W.heap.size, 1, none⟩ = some (.int .i64 seq) := by rw [(bcell hb2).1 _ _ hq0]; exact hp1
    have hr2 : w2.cell? ⟨W.heap.size, 2, none⟩ = some (.int .u64 bits) := by rw [(bcell hb2).1 _ _ hq0]; exact hp2
    have hr3 : w2.cell? ⟨W.heap.size, 3, none⟩ = some (.slice A l.length cap) := by rw [(bcell hb2).1 _ _ hq0]; exact hp3
    have hq1 : W.heap.size < w2.heap.size := Nat.lt_of_lt_of_le hq0 hb2.size
    have hq2 : ¬ W.heap.size = w2.heap.size := by omega
    have hq3 : ¬ w2.heap.size = W.heap.size := by omega
    clear hp0 hp1 hp2 hp3 hq0 hb hb1 hb2 ho1
    have HX2 := Lib.hid (hx2.later hby)
    have HB02 := Lib.hid (below_next hb02 hby)
    clear hx2 hb02
    go_wp2_with (go_at_call 14; refine (num_any _ _).mono ?_; rintro e w' ⟨rfl, rfl⟩)
    refine (HS1.out A2 k2 _ (hA.later HB02.out) HX2.out).mono ?_
    rintro e w3 ⟨rfl, hb3⟩
    have hkk : ∀ i, w3.cell? ⟨W.heap.size, i, none⟩ = w2.cell? ⟨W.heap.size, i, none⟩ := fun i => by rw [(bcell hb3).1 _ _ (by simp; omega)]; simp [go_sem, hq1]
    have hs0 := (hkk 0).trans hr0
    have hs1 := (hkk 1).trans hr1
    have hs2 := (hkk 2).trans hr2
    have hs3 := (hkk 3).trans hr3
    have ht0 : w3.cell? ⟨w2.heap.size, 0, none⟩ = some (.bool ack) := by rw [(bcell hb3).1 _ _ (by simp)]; simp [go_sem]
    have ht1 : w3.cell? ⟨w2.heap.size, 1, none⟩ = some (.int .i64 seq) := by rw [(bcell hb3).1 _ _ (by simp)]; simp [go_sem]
    have ht2 : w3.cell? ⟨w2.heap.size, 2, none⟩ = some (.int .u64 bits) := by rw [(bcell hb3).1 _ _ (by simp)]; simp [go_sem]
    have ht3 : w3.cell? ⟨w2.heap.size, 3, none⟩ = some (.slice A2 l.length k2) := by rw [(bcell hb3).1 _ _ (by simp)]; simp [go_sem]
    have HB03 := Lib.hid (below_next HB02.out hb3)
    have HX3 := Lib.hid (HX2.out.later hb3)
    have hq4 : W.heap.size < w3.heap.size := by have := hb3.size; simp at this; omega
    clear hr0 hr1 hr2 hr3 hkk hb3
    go_wp2_with fail
    refine (HS2.out A2 k2 _ (hA.later HB03.out) HX3.out).mono ?_
    rintro e w4 ⟨rfl, hb4⟩
    have hp0 := ((bcell hb4).1 _ 0 hq4).trans hs0
    have hp1 := ((bcell hb4).1 _ 1 hq4).trans hs1
    have hp2 := ((bcell hb4).1 _ 2 hq4).trans hs2
    have hp3 := ((bcell hb4).1 _ 3 hq4).trans hs3
    have HB04 := Lib.hid (below_next HB03.out hb4)
    have hqz : W.heap.size < w4.heap.size := Nat.lt_of_lt_of_le hq4 hb4.size
    clear hs0 hs1 hs2 hs3 ht0 ht1 ht2 ht3 hq1 hq2 hq3 hq4 hb4 HX2 HX3 HB02 HB03 hbx
    go_wp2_with fail
    refine (C2.out _ (hB.later HB04.out)).mono ?_
    rintro e w5 ⟨v5, rfl, ht5, hb5⟩
  case' neg =>
    go_enter Try.func9, Try.ntmps9
    have hE0 : (E == 0) = false := by simp [hE]
    go_wp2_with (go_at_call 14; refine (num_any _ _).mono ?_; rintro e w' ⟨rfl, rfl⟩)
    refine (C1.out _ (hA.later hbx)).mono ?_
    rintro e w4 ⟨v1, rfl, ho1, hb⟩
    obtain ⟨A1, k1, rfl, _, _, _⟩ := ho1.shape
    have HB04 := Lib.hid (below_next hbx hb)
    have hp0 : w4.cell? ⟨W.heap.size, 0, none⟩ = some (.bool ack) := by rw [(bcell hb).1 _ _ (by simp)]; simp [go_sem]
    have hp1 : w4.cell? ⟨W.heap.size, 1, none⟩ = some (.int .i64 seq) := by rw [(bcell hb).1 _ _ (by simp)]; simp [go_sem]
    have hp2 : w4.cell? ⟨W.heap.size, 2, none⟩ = some (.int .u64 bits) := by rw [(bcell hb).1 _ _ (by simp)]; simp [go_sem]
    have hp3 : w4.cell? ⟨W.heap.size, 3, none⟩ = some (.slice A l.length cap) := by rw [(bcell hb).1 _ _ (by simp)]; simp [go_sem]
    have hqz : W.heap.size < w4.heap.size := by have := hb.size; simp at this; omega
    clear hb ho1 hbx hG
    go_wp2_with (go_at_call 14; refine (num_any _ _).mono ?_; rintro e w' ⟨rfl, rfl⟩)
    refine (C2.out _ (hB.later HB04.out)).mono ?_
    rintro e w5 ⟨v5, rfl, ht5, hb5⟩
  all_goals (
    obtain ⟨A5, k5, rfl, hk5, hm5, hx5⟩ := ht5
    have HM5 := Lib.hid hm5
    have HK5 := Lib.hid hk5
    have hqy : W.heap.size < w5.heap.size := Nat.lt_of_lt_of_le hqz hb5.size
    obtain ⟨w6, hw6⟩ : ∃ w6, w6 = w5.alloc (.cells #[.bool za, .int .i64 zs, .int .u64 zb, .slice A5 zd.length k5] 25) := ⟨_, rfl⟩
    have hb56 : Below w5.heap.size w5 w6 := by rw [hw6]; exact below_alloc (Below.refl _ _) _
    have hz6 : w6.heap.size = w5.heap.size + 1 := by rw [hw6]; simp
    have hkeep : ∀ w', Below w6.heap.size w6 w' → (w'.cell? ⟨W.heap.size, 0, none⟩ = some (.bool ack) ∧ w'.cell? ⟨W.heap.size, 1, none⟩ = some (.int .i64 seq) ∧ w'.cell? ⟨W.heap.size, 2, none⟩ = some (.int .u64 bits) ∧ w'.cell? ⟨W.heap.size, 3, none⟩ = some (.slice A l.length cap) ∧
       w'.cell? ⟨w5.heap.size, 0, none⟩ = some (.bool za) ∧ w'.cell? ⟨w5.heap.size, 1, none⟩ = some (.int .i64 zs) ∧ w'.cell? ⟨w5.heap.size, 2, none⟩ = some (.int .u64 zb) ∧ w'.cell? ⟨w5.heap.size, 3, none⟩ = some (.slice A5 zd.length k5)) := by
      intro w' hb'
      have key : ∀ o, w'.cell? ⟨W.heap.size, o, none⟩ = w4.cell? ⟨W.heap.size, o, none⟩ := fun o => by
        rw [(bcell hb').1 _ _ (by omega), (bcell hb56).1 _ _ (by omega), (bcell hb5).1 _ _ hqz]
      have key3 : ∀ o, w'.cell? ⟨w5.heap.size, o, none⟩ = w6.cell? ⟨w5.heap.size, o, none⟩ := fun o => (bcell hb').1 _ _ (by omega)
      rw [hw6] at key3
      refine ⟨(key _).trans hp0, (key _).trans hp1, (key _).trans hp2, (key _).trans hp3, (key3 _).trans ?_, (key3 _).trans ?_, (key3 _).trans ?_, (key3 _).trans ?_⟩ <;> simp [go_sem]
    have HK := Lib.hid hkeep
    have hS := hkeep w6 (Below.refl _ _)
    have HB06 := Lib.hid (below_next (below_next HB04.out hb5) hb56)
    have HX6 := Lib.hid (hx5.later hb56)
    have HZ6 := Lib.hid hz6
    have HQY := Lib.hid hqy
    clear hkeep hp0 hp1 hp2 hp3 hqz hqy hb5 hb56 hx5 hz6 HB04 hk5 hm5
    by_cases hz : ze = 0
    all_goals (
      try (obtain ⟨z1, z2⟩ := HBK.out hz; subst hz)
      try (have hz0 : (ze == 0) = false := by simp [hz])
      try (have hz1 : (ze != 0) = true := by simp [hz])
      go_wp2_with fail
      rw [← hw6]
      clear hw6
      go_region_held3 (fun w' => w'.cell? ⟨W.heap.size, 0, none⟩ = some (.bool ack) ∧ w'.cell? ⟨W.heap.size, 1, none⟩ = some (.int .i64 seq) ∧ w'.cell? ⟨W.heap.size, 2, none⟩ = some (.int .u64 bits) ∧ w'.cell? ⟨W.heap.size, 3, none⟩ = some (.slice A l.length cap) ∧
       w'.cell? ⟨w5.heap.size, 0, none⟩ = some (.bool za) ∧ w'.cell? ⟨w5.heap.size, 1, none⟩ = some (.int .i64 zs) ∧ w'.cell? ⟨w5.heap.size, 2, none⟩ = some (.int .u64 zb) ∧ w'.cell? ⟨w5.heap.size, 3, none⟩ = some (.slice A5 zd.length k5))
        (first | exact hS8 | exact hS7 | exact hS | go_keep)
        ((first
          | (go_at_call 35; refine (HS3.out A5 k5 _ (hA.later (below_next HB06.out (by exact Below.drew (Below.refl w6.heap.size w6)))) (HX6.out.later (by exact Below.drew (Below.refl w6.heap.size w6)))).mono ?_; rintro e w7 ⟨rfl, hb7⟩
             have hb67 := below_undrew hb7
             have hS7 := HK.out _ hb67)
          | (go_at_call 31; ((with_reducible refine (HS4.out A5 k5 _ (hA.later (below_next HB06.out ?_)) (HX6.out.later ?_)).mono ?_) <;> try exact hb67); rintro e w8 ⟨rfl, hb8⟩
             have hb68 := below_next hb67 hb8
             have hS8 := HK.out _ hb68)
          | fail))
      all_goals (
        have HB08 := Lib.hid (below_next HB06.out hb68)
        have HX8 := Lib.hid (HX6.out.later hb68)
        clear hS7 hS8 hb67 hb7 hb8 hb68 hS
        go_wp2_with (first
          | (go_at_call 14; refine (num_any _ _).mono ?_; rintro e w' ⟨rfl, rfl⟩)
          | (go_at_call 12; refine (C3.out A5 k5 _ HX8.out HK5.out HM5.out).mono ?_; rw [z1, z2]; rintro e w9 ⟨v9, rfl, ho9, hb9⟩
             have HB09 := Lib.hid (below_next HB08.out hb9)
             obtain ⟨A9, k9, rfl, _, _, _⟩ := ho9.shape)
          | (go_at_call 15; refine (refSame_any A9 B k9 cb b b _ _ _ ho9.bytes (hB.later HB09.out) HBL.out HBL.out).mono ?_; rintro e w10 ⟨rfl, hd10⟩
             have HB10 := Lib.hid (below_next HB09.out (hd10.below _)))
          | (go_at_call 16; refine (live_any _).mono ?_; rintro e w11 ⟨rfl, hb11⟩)
          | fail)
        go_ret
        first | exact ⟨rfl, below_next HB10.out hb11⟩ | exact ⟨rfl, below_next HB08.out hb11⟩)))
end Go.Proofs.Ytonjdkankegdaaa.Slide
