
/- Layer 15 (token): the law on what was put and got, and back. -/
import Derived.Test.YtonjdkankegdaaaTokenI
import Derived.Test.YtonjdkankegdaaaTokenL
import Derived.Test.YtonjdkankegdaaaTokenB
import Derived.Deep.RegionHeld3
import Derived.Deep.DrawnRows
attribute [local go_sem ↓] Go.wp_at_zero Go.wp_at_succ
namespace Go.Proofs.Ytonjdkankegdaaa.Token
open Go.RowKit Go.Proofs.Ytonjdkankegdaaa.Mem Go.Proofs.Ytonjdkankegdaaa.Oct Go.Proofs.Ytonjdkankegdaaa.Pkt


theorem gtD_bd (l : List UInt8) : (gtD l).length ≤ l.length := by
  unfold gtD
  split
  · unfold rR rC rT
    have h1 := nr_le (hR (hd l)) (oC (hd l) l.tail) (nr (hC (hd l)) (oT (hd l) l.tail) (nr true (hB (hd l)) l.tail))
    have h2 := nr_le (hC (hd l)) (oT (hd l) l.tail) (nr true (hB (hd l)) l.tail)
    have h3 := nr_le true (hB (hd l)) l.tail
    have h4 : l.tail.length ≤ l.length := by simp
    omega
  · simp
theorem nx_bd (th o : Bool) (l : List UInt8) : 0 ≤ nx th o l := by
  unfold nx
  split
  · unfold numW
    split <;> omega
  · omega
theorem gt_bd (b : List UInt8) : 0 ≤ gtT b ∧ 0 ≤ gtC b ∧ 0 ≤ gtR b := by
  unfold gtT gtC gtR wT wC wR
  refine ⟨?_, ?_, ?_⟩ <;> split <;> first | exact nx_bd _ _ _ | omega

set_option maxHeartbeats 8000000 in
/-- TokenBack -/
theorem TokenBack_any (k t c r : Int) (A B : Option Addr) (cap cb : Nat) (l b : List UInt8) (h1 : 0 ≤ t ∧ t ≤ 18446744073709551615) (h2 : 0 ≤ c ∧ c ≤ 18446744073709551615) (h3 : 0 ≤ r ∧ r ≤ 18446744073709551615) (W : World) (hA : Bytes W W.heap.size A l) (hc : l.length ≤ cap) (hm : cap ≤ maxLen)
    (hB : Bytes W W.heap.size B b) (hcb : b.length ≤ cb) (hmb : cb ≤ maxLen) (hlb : b.length ≤ 140737488355000) :
    Calls Try.prog 10 #[.agg #[.int .i64 k, .int .u64 t, .int .u64 c, .int .u64 r, .slice A l.length cap], .slice B b.length cb] W fun e W' => e = .returned (.bool true) ∧ Below W.heap.size W W' := by
  have hl := Nat.le_trans hc hm
  have c1 := fun w h => Put_any k t c r A cap l h1.1 h2.1 h3.1 w h hc hm
  have hP := tkPut_le k t c r l
  have hG := put_got k t c r l h1 h2 h3
  have hs1 := fun (A1 : Option Addr) (k1 : Nat) w x1 x2 => Same_any k t c r k t c r A A1 cap k1 l l w x1 x2
  rw [tkSame_self] at hs1
  have c2 := fun w h => Get_any B cb b w h hcb hmb (by omega)
  have hbk := got_put b
  have hdl := gtD_bd b
  have c3 := fun (A1 : Option Addr) (k1 : Nat) w h e1 e2 => Put_any (gtK b) (gtT b) (gtC b) (gtR b) A1 k1 (gtD b) (gt_bd b).1 (gt_bd b).2.1 (gt_bd b).2.2 w h e1 e2
  unfold GivesTk at c2
  generalize gtK b = zk at c2 c3 hbk
  generalize gtT b = zt at c2 c3 hbk
  generalize gtC b = zc at c2 c3 hbk
  generalize gtR b = zr at c2 c3 hbk
  generalize gtD b = zd at c2 c3 hbk hdl
  generalize gtE b = ze at c2 hbk
  generalize tkPut k t c r l = P at c1 hP hG
  generalize tkErr k c r l.length = E at c1 hG
  have C1 := Lib.hid c1
  have C2 := Lib.hid c2
  have C3 := Lib.hid c3
  have HS1 := Lib.hid hs1
  obtain ⟨sm, hsm⟩ : ∃ x, x = tkSame k t c r l zk zt zc zr zd := ⟨_, rfl⟩
  have hs3 := fun (A1 : Option Addr) (k1 : Nat) w x1 x2 => Same_any k t c r zk zt zc zr A A1 cap k1 l zd w x1 x2
  have hs4 := fun (A1 : Option Addr) (k1 : Nat) w x1 x2 => refSameT_any k t c r zk zt zc zr A A1 cap k1 l zd w x1 x2 hl (by unfold maxLen; omega)
  rw [← hsm] at hs3 hs4
  have HS3 := Lib.hid hs3
  have HS4 := Lib.hid hs4
  have HDL := Lib.hid (show zd.length ≤ maxLen by unfold maxLen; omega)
  have HBL := Lib.hid (show b.length ≤ maxLen by unfold maxLen; omega)
  have HBK := Lib.hid hbk
  have HPL := Lib.hid hP
  have hsmm : (sm != sm) = false := by simp
  clear c1 c2 c3 hs1 hs3 hs4 hsm hc hm hl hcb hmb hlb h1 h2 h3 hdl hbk hP
  have hbx := below_alloc (Below.refl W.heap.size W) (.cells #[.int .i64 k, .int .u64 t, .int .u64 c, .int .u64 r, .slice A l.length cap] 36)
  by_cases hE : E = 0
  case' pos =>
    obtain ⟨g1, g2, g3, g4, g5, g6⟩ := hG hE
    subst hE
    go_enter Try.func10, Try.ntmps10
    go_wp2_with (go_at_call 19; refine (num_any _ _).mono ?_; rintro e w' ⟨rfl, rfl⟩)
    refine (C1.out _ (hA.later hbx)).mono ?_
    rintro e w1 ⟨v1, rfl, ho1, hb⟩
    obtain ⟨A1, k1, rfl, hk1, hk2, _⟩ := ho1.shape
    have hb1 := below_next hbx hb
    have hp0 : w1.cell? ⟨W.heap.size, 0, none⟩ = some (.int .i64 k) := by rw [(bcell hb).1 _ _ (by simp)]; simp [go_sem]
    have hp1 : w1.cell? ⟨W.heap.size, 1, none⟩ = some (.int .u64 t) := by rw [(bcell hb).1 _ _ (by simp)]; simp [go_sem]
    have hp2 : w1.cell? ⟨W.heap.size, 2, none⟩ = some (.int .u64 c) := by rw [(bcell hb).1 _ _ (by simp)]; simp [go_sem]
    have hp3 : w1.cell? ⟨W.heap.size, 3, none⟩ = some (.int .u64 r) := by rw [(bcell hb).1 _ _ (by simp)]; simp [go_sem]
    have hp4 : w1.cell? ⟨W.heap.size, 4, none⟩ = some (.slice A l.length cap) := by rw [(bcell hb).1 _ _ (by simp)]; simp [go_sem]
    have hq0 : W.heap.size < w1.heap.size := by have := hb.size; simp at this; omega
    have hg := fun w h => Get_any A1 k1 P w h hk1 hk2 (by have := HPL.out; omega)
    unfold GivesTk at hg
    rw [g1, g2, g3, g4, g5, g6] at hg
    have HG := Lib.hid hg
    clear hg
    go_wp2_with (go_at_call 19; refine (num_any _ _).mono ?_; rintro e w' ⟨rfl, rfl⟩)
    refine (HG.out _ ho1.bytes).mono ?_
    rintro e w2 ⟨v2, rfl, ht2, hb2⟩
    obtain ⟨A2, k2, rfl, _, _, hx2⟩ := ht2
    have hby := below_alloc (Below.refl w2.heap.size w2) (.cells #[.int .i64 k, .int .u64 t, .int .u64 c, .int .u64 r, .slice A2 l.length k2] 36)
    have hb02 := below_next hb1 hb2
    have hr0 : w2.cell? ⟨W.heap.size, 0, none⟩ = some (.int .i64 k) := by rw [(bcell hb2).1 _ _ hq0]; exact hp0
    have hr1 : w2.cell? ⟨W.heap.size, 1, none⟩ = some (.int .u64 t) := by rw [(bcell hb2).1 _ _ hq0]; exact hp1
    have hr2 : w2.cell? ⟨W.heap.size, 2, none⟩ = some (.int .u64 c) := by rw [(bcell hb2).1 _ _ hq0]; exact hp2
    have hr3 : w2.cell? ⟨W.heap.size, 3, none⟩ = some (.int .u64 r) := by rw [(bcell hb2).1 _ _ hq0]; exact hp3
    have hr4 : w2.cell? ⟨W.heap.size, 4, none⟩ = some (.slice A l.length cap) := by rw [(bcell hb2).1 _ _ hq0]; exact hp4
    have hq1 : W.heap.size < w2.heap.size := Nat.lt_of_lt_of_le hq0 hb2.size
    have hq2 : ¬ W.heap.size = w2.heap.size := by omega
    have hq3 : ¬ w2.heap.size = W.heap.size := by omega
    clear hp0 hp1 hp2 hp3 hp4 hq0 hb hb1 hb2 ho1
    have HX2 := Lib.hid (hx2.later hby)
    have HB02 := Lib.hid (below_next hb02 hby)
    clear hx2 hb02
    go_wp2_with (go_at_call 19; refine (num_any _ _).mono ?_; rintro e w' ⟨rfl, rfl⟩)
    refine (HS1.out A2 k2 _ (hA.later HB02.out) HX2.out).mono ?_
    rintro e w4 ⟨rfl, hb3⟩
    have hkk : ∀ i, w4.cell? ⟨W.heap.size, i, none⟩ = w2.cell? ⟨W.heap.size, i, none⟩ := fun i => by rw [(bcell hb3).1 _ _ (by simp; omega)]; simp [go_sem, hq1]
    have hp0 := (hkk 0).trans hr0
    have hp1 := (hkk 1).trans hr1
    have hp2 := (hkk 2).trans hr2
    have hp3 := (hkk 3).trans hr3
    have hp4 := (hkk 4).trans hr4
    have HB04 := Lib.hid (below_next HB02.out hb3)
    have hqz : W.heap.size < w4.heap.size := by have := hb3.size; simp at this; omega
    clear hr0 hr1 hr2 hr3 hr4 hkk hb3 hq1 hq2 hq3 HX2 HB02 hbx
    go_wp2_with fail
    refine (C2.out _ (hB.later HB04.out)).mono ?_
    rintro e w5 ⟨v5, rfl, ht5, hb5⟩
  case' neg =>
    go_enter Try.func10, Try.ntmps10
    have hE0 : (E == 0) = false := by simp [hE]
    go_wp2_with (go_at_call 19; refine (num_any _ _).mono ?_; rintro e w' ⟨rfl, rfl⟩)
    refine (C1.out _ (hA.later hbx)).mono ?_
    rintro e w4 ⟨v1, rfl, ho1, hb⟩
    obtain ⟨A1, k1, rfl, _, _, _⟩ := ho1.shape
    have HB04 := Lib.hid (below_next hbx hb)
    have hp0 : w4.cell? ⟨W.heap.size, 0, none⟩ = some (.int .i64 k) := by rw [(bcell hb).1 _ _ (by simp)]; simp [go_sem]
    have hp1 : w4.cell? ⟨W.heap.size, 1, none⟩ = some (.int .u64 t) := by rw [(bcell hb).1 _ _ (by simp)]; simp [go_sem]
    have hp2 : w4.cell? ⟨W.heap.size, 2, none⟩ = some (.int .u64 c) := by rw [(bcell hb).1 _ _ (by simp)]; simp [go_sem]
    have hp3 : w4.cell? ⟨W.heap.size, 3, none⟩ = some (.int .u64 r) := by rw [(bcell hb).1 _ _ (by simp)]; simp [go_sem]
    have hp4 : w4.cell? ⟨W.heap.size, 4, none⟩ = some (.slice A l.length cap) := by rw [(bcell hb).1 _ _ (by simp)]; simp [go_sem]
    have hqz : W.heap.size < w4.heap.size := by have := hb.size; simp at this; omega
    clear hb ho1 hbx hG
    go_wp2_with (go_at_call 19; refine (num_any _ _).mono ?_; rintro e w' ⟨rfl, rfl⟩)
    refine (C2.out _ (hB.later HB04.out)).mono ?_
    rintro e w5 ⟨v5, rfl, ht5, hb5⟩
  all_goals (
    obtain ⟨A5, k5, rfl, hk5, hm5, hx5⟩ := ht5
    have HM5 := Lib.hid hm5
    have HK5 := Lib.hid hk5
    have hqy : W.heap.size < w5.heap.size := Nat.lt_of_lt_of_le hqz hb5.size
    obtain ⟨w6, hw6⟩ : ∃ w6, w6 = w5.alloc (.cells #[.int .i64 zk, .int .u64 zt, .int .u64 zc, .int .u64 zr, .slice A5 zd.length k5] 36) := ⟨_, rfl⟩
    have hb56 : Below w5.heap.size w5 w6 := by rw [hw6]; exact below_alloc (Below.refl _ _) _
    have hz6 : w6.heap.size = w5.heap.size + 1 := by rw [hw6]; simp
    have hkeep : ∀ w', Below w6.heap.size w6 w' → (w'.cell? ⟨W.heap.size, 0, none⟩ = some (.int .i64 k) ∧ w'.cell? ⟨W.heap.size, 1, none⟩ = some (.int .u64 t) ∧ w'.cell? ⟨W.heap.size, 2, none⟩ = some (.int .u64 c) ∧ w'.cell? ⟨W.heap.size, 3, none⟩ = some (.int .u64 r) ∧ w'.cell? ⟨W.heap.size, 4, none⟩ = some (.slice A l.length cap) ∧ w'.cell? ⟨w5.heap.size, 0, none⟩ = some (.int .i64 zk) ∧ w'.cell? ⟨w5.heap.size, 1, none⟩ = some (.int .u64 zt) ∧ w'.cell? ⟨w5.heap.size, 2, none⟩ = some (.int .u64 zc) ∧ w'.cell? ⟨w5.heap.size, 3, none⟩ = some (.int .u64 zr) ∧ w'.cell? ⟨w5.heap.size, 4, none⟩ = some (.slice A5 zd.length k5)) := by
      intro w' hb'
      have key : ∀ o, w'.cell? ⟨W.heap.size, o, none⟩ = w4.cell? ⟨W.heap.size, o, none⟩ := fun o => by
        rw [(bcell hb').1 _ _ (by omega), (bcell hb56).1 _ _ (by omega), (bcell hb5).1 _ _ hqz]
      have key3 : ∀ o, w'.cell? ⟨w5.heap.size, o, none⟩ = w6.cell? ⟨w5.heap.size, o, none⟩ := fun o => (bcell hb').1 _ _ (by omega)
      rw [hw6] at key3
      refine ⟨(key _).trans hp0, (key _).trans hp1, (key _).trans hp2, (key _).trans hp3, (key _).trans hp4, (key3 _).trans ?_, (key3 _).trans ?_, (key3 _).trans ?_, (key3 _).trans ?_, (key3 _).trans ?_⟩ <;> simp [go_sem]
    have HK := Lib.hid hkeep
    have hS := hkeep w6 (Below.refl _ _)
    have HB06 := Lib.hid (below_next (below_next HB04.out hb5) hb56)
    have HX6 := Lib.hid (hx5.later hb56)
    have HZ6 := Lib.hid hz6
    have HQY := Lib.hid hqy
    clear hkeep hp0 hp1 hp2 hp3 hp4 hqz hqy hb5 hb56 hx5 hz6 HB04 hk5 hm5
    by_cases hz : ze = 0
    all_goals (
      try (obtain ⟨z1, z2⟩ := HBK.out hz; subst hz)
      try (have hz0 : (ze == 0) = false := by simp [hz])
      try (have hz1 : (ze != 0) = true := by simp [hz])
      go_wp2_with fail
      rw [← hw6]
      clear hw6
      go_region_held3 (fun w' => w'.cell? ⟨W.heap.size, 0, none⟩ = some (.int .i64 k) ∧ w'.cell? ⟨W.heap.size, 1, none⟩ = some (.int .u64 t) ∧ w'.cell? ⟨W.heap.size, 2, none⟩ = some (.int .u64 c) ∧ w'.cell? ⟨W.heap.size, 3, none⟩ = some (.int .u64 r) ∧ w'.cell? ⟨W.heap.size, 4, none⟩ = some (.slice A l.length cap) ∧ w'.cell? ⟨w5.heap.size, 0, none⟩ = some (.int .i64 zk) ∧ w'.cell? ⟨w5.heap.size, 1, none⟩ = some (.int .u64 zt) ∧ w'.cell? ⟨w5.heap.size, 2, none⟩ = some (.int .u64 zc) ∧ w'.cell? ⟨w5.heap.size, 3, none⟩ = some (.int .u64 zr) ∧ w'.cell? ⟨w5.heap.size, 4, none⟩ = some (.slice A5 zd.length k5))
        (first | exact hS8 | exact hS7 | exact hS | go_keep)
        ((first
          | (go_at_call 36; refine (HS3.out A5 k5 _ (hA.later (below_next HB06.out (by exact Below.drew (Below.refl w6.heap.size w6)))) (HX6.out.later (by exact Below.drew (Below.refl w6.heap.size w6)))).mono ?_; rintro e w7 ⟨rfl, hb7⟩
             have hb67 := below_undrew hb7
             have hS7 := HK.out _ hb67)
          | (go_at_call 34; ((with_reducible refine (HS4.out A5 k5 _ (hA.later (below_next HB06.out ?_)) (HX6.out.later ?_)).mono ?_) <;> try exact hb67); rintro e w8 ⟨rfl, hb8⟩
             have hb68 := below_next hb67 hb8
             have hS8 := HK.out _ hb68)
          | fail))
      all_goals (
        have HB08 := Lib.hid (below_next HB06.out hb68)
        have HX8 := Lib.hid (HX6.out.later hb68)
        clear hS7 hS8 hb67 hb7 hb8 hb68 hS
        go_wp2_with (first
          | (go_at_call 19; refine (num_any _ _).mono ?_; rintro e w' ⟨rfl, rfl⟩)
          | (go_at_call 17; refine (C3.out A5 k5 _ HX8.out HK5.out HM5.out).mono ?_; rw [z1, z2]; rintro e w9 ⟨v9, rfl, ho9, hb9⟩
             have HB09 := Lib.hid (below_next HB08.out hb9)
             obtain ⟨A9, k9, rfl, _, _, _⟩ := ho9.shape)
          | (go_at_call 15; refine (refSame_any A9 B k9 cb b b _ _ _ ho9.bytes (hB.later HB09.out) HBL.out HBL.out).mono ?_; rintro e w10 ⟨rfl, hd10⟩
             have HB10 := Lib.hid (below_next HB09.out (hd10.below _)))
          | (go_at_call 20; refine (live_any _).mono ?_; rintro e w11 ⟨rfl, hb11⟩)
          | fail)
        go_ret
        first | exact ⟨rfl, below_next HB10.out hb11⟩ | exact ⟨rfl, below_next HB08.out hb11⟩)))
end Go.Proofs.Ytonjdkankegdaaa.Token
