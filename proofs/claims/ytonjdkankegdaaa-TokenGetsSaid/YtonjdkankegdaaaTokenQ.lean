
/- Layer 15 (token): the document's Put. -/
import Derived.Test.YtonjdkankegdaaaTokenP
import Derived.Test.YtonjdkankegdaaaPktB
import Derived.Deep.RegionHeld3
import Derived.Deep.DrawnRows
attribute [local go_sem ↓] Go.wp_at_zero Go.wp_at_succ
namespace Go.Proofs.Ytonjdkankegdaaa.Token
open Go.RowKit Go.Proofs.Ytonjdkankegdaaa.Mem Go.Proofs.Ytonjdkankegdaaa.Oct Go.Proofs.Ytonjdkankegdaaa.Pkt

set_option maxHeartbeats 8000000 in
theorem refPut_0 (t c r : Int) (A : Option Addr) (cap : Nat) (l : List UInt8) (ht : 0 ≤ t ∧ t ≤ 18446744073709551615) (hc : 0 ≤ c ∧ c ≤ 18446744073709551615) (hr : 0 ≤ r ∧ r ≤ 18446744073709551615) (W : World) (hA : Bytes W W.heap.size A l) (hok : tkOk 0 c r l.length = true) :
    Calls Try.prog 18 #[.agg #[.int .i64 0, .int .u64 t, .int .u64 c, .int .u64 r, .slice A l.length cap]] W (GivesN 0 W (tkHead 0 t c r ++ l)) := by
  have HR := Lib.hid (fun w => refRight_any 0 t c r A l.length cap w)
  have HOK := Lib.hid hok
  have hl := tkOk_len hok
  have HT := Lib.hid (put8_length t)
  have HC := Lib.hid (put8_length c)
  have HRL := Lib.hid (put8_length r)
  obtain ⟨L1, hL1⟩ : ∃ L, L = [0] ++ putW t 8 := ⟨_, rfl⟩
  have HN1 := Lib.hid (show L1.length = 9 by rw [hL1]; simp [put8_length])
  have HL1 := Lib.hid hL1
  clear hok hL1
  have HC8 := Lib.hid (fun w => Oct.refPut_any t 8 ht.1 ht.2 w)
  have HD8 := Lib.hid (fun w => Oct.refPut_any c 8 hc.1 hc.2 w)
  have HE8 := Lib.hid (fun w => Oct.refPut_any r 8 hr.1 hr.2 w)
  clear ht hc hr
  go_enter Try.func18, Try.ntmps18
  go_wp2_with fail
  refine (HR.out _).mono ?_
  rw [HOK.out]
  rintro e w1 ⟨rfl, hb⟩
  have hb1 := below_next (below_alloc (Below.refl W.heap.size W) _) hb
  obtain ⟨hcl1, hf1⟩ := bcell hb
  have hz1 : W.heap.size + 1 ≤ w1.heap.size := by have := hb.size; simp at this; omega
  have hp0 : w1.cell? ⟨W.heap.size, 0, none⟩ = some (.int .i64 0) := by rw [hcl1 _ _ (by simp)]; simp [go_sem]
  have hp1 : w1.cell? ⟨W.heap.size, 1, none⟩ = some (.int .u64 t) := by rw [hcl1 _ _ (by simp)]; simp [go_sem]
  have hp2 : w1.cell? ⟨W.heap.size, 2, none⟩ = some (.int .u64 c) := by rw [hcl1 _ _ (by simp)]; simp [go_sem]
  have hp3 : w1.cell? ⟨W.heap.size, 3, none⟩ = some (.int .u64 r) := by rw [hcl1 _ _ (by simp)]; simp [go_sem]
  have hp4 : w1.cell? ⟨W.heap.size, 4, none⟩ = some (.slice A l.length cap) := by rw [hcl1 _ _ (by simp)]; simp [go_sem]
  have hq0 : W.heap.size < w1.heap.size := by omega
  have hkeep : ∀ w', Below w1.heap.size w1 w' →
      (w'.cell? ⟨W.heap.size, 0, none⟩ = some (.int .i64 0) ∧ w'.cell? ⟨W.heap.size, 1, none⟩ = some (.int .u64 t) ∧ w'.cell? ⟨W.heap.size, 2, none⟩ = some (.int .u64 c) ∧ w'.cell? ⟨W.heap.size, 3, none⟩ = some (.int .u64 r) ∧ w'.cell? ⟨W.heap.size, 4, none⟩ = some (.slice A l.length cap)) := by
    intro w' hb'
    have key : ∀ o, w'.cell? ⟨W.heap.size, o, none⟩ = w1.cell? ⟨W.heap.size, o, none⟩ := fun o => (bcell hb').1 _ _ hq0
    exact ⟨(key _).trans hp0, (key _).trans hp1, (key _).trans hp2, (key _).trans hp3, (key _).trans hp4⟩
  have HK := Lib.hid hkeep
  have hS := hkeep w1 (Below.refl _ _)
  have HB01 := Lib.hid hb1
  have hq1 : ¬ W.heap.size = w1.heap.size := by omega
  have hq2 : ¬ w1.heap.size = W.heap.size := by omega
  clear hkeep hcl1 hf1 hb hb1 hp0 hp1 hp2 hp3 hp4
  go_wp2_with fail
  go_region_held3 (fun w' => w'.cell? ⟨W.heap.size, 0, none⟩ = some (.int .i64 0) ∧ w'.cell? ⟨W.heap.size, 1, none⟩ = some (.int .u64 t))
    (first | exact ⟨hS5.1, hS5.2.1⟩ | exact ⟨hS4.1, hS4.2.1⟩ | go_keep)
    ((first
      | (go_at_call 44; refine (HC8.out _).mono ?_; rintro e w4 ⟨v4, rfl, ho4, hb4⟩; obtain ⟨A4, c4, rfl, _, _, _⟩ := ho4.shape
         have hb14 : Below w1.heap.size w1 w4 := by first | exact below_next (Below.drew (below_alloc (Below.refl w1.heap.size w1) _)) hb4 | exact below_next (Below.drew (Below.refl w1.heap.size w1)) hb4
         have hS4 := HK.out _ hb14
         have hq3 : W.heap.size < w4.heap.size := Nat.lt_of_lt_of_le hq0 hb14.size)
      | (refine step_appB _ (by rfl) _ _ 23 (by rfl) 5 Try.underlying23 infoU8 w1 _ [0] (by rfl)
           (by first | exact (Own.drew (own_lit_at 5 w1 _ rfl (Nat.le_refl _) [0] #[.int .u8 0] rfl (by simp [maxLen]))).below hb4 | exact own_lit_at 5 w4 _ rfl hb14.size [0] #[.int .u8 0] rfl (by simp [maxLen]))
           (by first | exact hb14 | exact below_alloc hb14 _) A4 _ c4 (putW t 8) (by rfl) rfl (by first | exact ho4.bytes | exact ho4.later (below_alloc (Below.refl _ _) _)) (by rw [HT.out]; decide) ?_
         intro v5 w5 ho5 hb15
         have hS5 := HK.out _ hb15)
      | fail))
  all_goals (
    rw [← HL1.out] at ho5
    have hq4 : W.heap.size < w5.heap.size := Nat.lt_of_lt_of_le hq0 hb15.size
    obtain ⟨A5, c5, rfl, _, _, _⟩ := ho5.shape
    clear hb14 hb4 ho4 hq3 hS4
    go_wp2_with (at_builtin; refine wpList_appB _ rfl _ _ 23 rfl 5 Try.underlying23 infoU8 w1 _ L1 rfl ho5 hb15 A _ cap l rfl rfl (hA.later (below_next HB01.out hb15)) (by rw [HN1.out]; omega) ?_)
    intro v6 w6 ho6 hb16
    go_wp2
    go_ret2
    have hfin : tkHead 0 t c r ++ l = L1 ++ l := by
      have e1 := HL1.out
      unfold tkHead
      rw [show hC 0 = false from rfl, show hR 0 = false from rfl]
      subst_vars
      simp
    exact ⟨_, rfl, by rw [hfin]; exact ho6.mono HB01.out.size, below_next HB01.out hb16⟩)

set_option maxHeartbeats 8000000 in
theorem refPut_1 (t c r : Int) (A : Option Addr) (cap : Nat) (l : List UInt8) (ht : 0 ≤ t ∧ t ≤ 18446744073709551615) (hc : 0 ≤ c ∧ c ≤ 18446744073709551615) (hr : 0 ≤ r ∧ r ≤ 18446744073709551615) (W : World) (hA : Bytes W W.heap.size A l) (hok : tkOk 1 c r l.length = true) :
    Calls Try.prog 18 #[.agg #[.int .i64 1, .int .u64 t, .int .u64 c, .int .u64 r, .slice A l.length cap]] W (GivesN 0 W (tkHead 1 t c r ++ l)) := by
  have HR := Lib.hid (fun w => refRight_any 1 t c r A l.length cap w)
  have HOK := Lib.hid hok
  have hl := tkOk_len hok
  have HT := Lib.hid (put8_length t)
  have HC := Lib.hid (put8_length c)
  have HRL := Lib.hid (put8_length r)
  obtain ⟨L1, hL1⟩ : ∃ L, L = [1] ++ putW t 8 := ⟨_, rfl⟩
  have HN1 := Lib.hid (show L1.length = 9 by rw [hL1]; simp [put8_length])
  have HL1 := Lib.hid hL1
  clear hok hL1
  have HC8 := Lib.hid (fun w => Oct.refPut_any t 8 ht.1 ht.2 w)
  have HD8 := Lib.hid (fun w => Oct.refPut_any c 8 hc.1 hc.2 w)
  have HE8 := Lib.hid (fun w => Oct.refPut_any r 8 hr.1 hr.2 w)
  clear ht hc hr
  go_enter Try.func18, Try.ntmps18
  go_wp2_with fail
  refine (HR.out _).mono ?_
  rw [HOK.out]
  rintro e w1 ⟨rfl, hb⟩
  have hb1 := below_next (below_alloc (Below.refl W.heap.size W) _) hb
  obtain ⟨hcl1, hf1⟩ := bcell hb
  have hz1 : W.heap.size + 1 ≤ w1.heap.size := by have := hb.size; simp at this; omega
  have hp0 : w1.cell? ⟨W.heap.size, 0, none⟩ = some (.int .i64 1) := by rw [hcl1 _ _ (by simp)]; simp [go_sem]
  have hp1 : w1.cell? ⟨W.heap.size, 1, none⟩ = some (.int .u64 t) := by rw [hcl1 _ _ (by simp)]; simp [go_sem]
  have hp2 : w1.cell? ⟨W.heap.size, 2, none⟩ = some (.int .u64 c) := by rw [hcl1 _ _ (by simp)]; simp [go_sem]
  have hp3 : w1.cell? ⟨W.heap.size, 3, none⟩ = some (.int .u64 r) := by rw [hcl1 _ _ (by simp)]; simp [go_sem]
  have hp4 : w1.cell? ⟨W.heap.size, 4, none⟩ = some (.slice A l.length cap) := by rw [hcl1 _ _ (by simp)]; simp [go_sem]
  have hq0 : W.heap.size < w1.heap.size := by omega
  have hkeep : ∀ w', Below w1.heap.size w1 w' →
      (w'.cell? ⟨W.heap.size, 0, none⟩ = some (.int .i64 1) ∧ w'.cell? ⟨W.heap.size, 1, none⟩ = some (.int .u64 t) ∧ w'.cell? ⟨W.heap.size, 2, none⟩ = some (.int .u64 c) ∧ w'.cell? ⟨W.heap.size, 3, none⟩ = some (.int .u64 r) ∧ w'.cell? ⟨W.heap.size, 4, none⟩ = some (.slice A l.length cap)) := by
    intro w' hb'
    have key : ∀ o, w'.cell? ⟨W.heap.size, o, none⟩ = w1.cell? ⟨W.heap.size, o, none⟩ := fun o => (bcell hb').1 _ _ hq0
    exact ⟨(key _).trans hp0, (key _).trans hp1, (key _).trans hp2, (key _).trans hp3, (key _).trans hp4⟩
  have HK := Lib.hid hkeep
  have hS := hkeep w1 (Below.refl _ _)
  have HB01 := Lib.hid hb1
  have hq1 : ¬ W.heap.size = w1.heap.size := by omega
  have hq2 : ¬ w1.heap.size = W.heap.size := by omega
  clear hkeep hcl1 hf1 hb hb1 hp0 hp1 hp2 hp3 hp4
  go_wp2_with fail
  go_region_held3 (fun w' => w'.cell? ⟨W.heap.size, 0, none⟩ = some (.int .i64 1) ∧ w'.cell? ⟨W.heap.size, 1, none⟩ = some (.int .u64 t))
    (first | exact ⟨hS5.1, hS5.2.1⟩ | exact ⟨hS4.1, hS4.2.1⟩ | go_keep)
    ((first
      | (go_at_call 44; refine (HC8.out _).mono ?_; rintro e w4 ⟨v4, rfl, ho4, hb4⟩; obtain ⟨A4, c4, rfl, _, _, _⟩ := ho4.shape
         have hb14 : Below w1.heap.size w1 w4 := by first | exact below_next (Below.drew (below_alloc (Below.refl w1.heap.size w1) _)) hb4 | exact below_next (Below.drew (Below.refl w1.heap.size w1)) hb4
         have hS4 := HK.out _ hb14
         have hq3 : W.heap.size < w4.heap.size := Nat.lt_of_lt_of_le hq0 hb14.size)
      | (refine step_appB _ (by rfl) _ _ 23 (by rfl) 5 Try.underlying23 infoU8 w1 _ [1] (by rfl)
           (by first | exact (Own.drew (own_lit_at 5 w1 _ rfl (Nat.le_refl _) [1] #[.int .u8 1] rfl (by simp [maxLen]))).below hb4 | exact own_lit_at 5 w4 _ rfl hb14.size [1] #[.int .u8 1] rfl (by simp [maxLen]))
           (by first | exact hb14 | exact below_alloc hb14 _) A4 _ c4 (putW t 8) (by rfl) rfl (by first | exact ho4.bytes | exact ho4.later (below_alloc (Below.refl _ _) _)) (by rw [HT.out]; decide) ?_
         intro v5 w5 ho5 hb15
         have hS5 := HK.out _ hb15)
      | fail))
  all_goals (
    rw [← HL1.out] at ho5
    have hq4 : W.heap.size < w5.heap.size := Nat.lt_of_lt_of_le hq0 hb15.size
    obtain ⟨A5, c5, rfl, _, _, _⟩ := ho5.shape
    clear hb14 hb4 ho4 hq3 hS4
    obtain ⟨L2, hL2⟩ : ∃ L, L = L1 ++ putW c 8 := ⟨_, rfl⟩
    have HN2 := Lib.hid (show L2.length = 17 by rw [hL2, List.length_append, HN1.out, HC.out])
    have HL2 := Lib.hid hL2
    clear hL2
    go_wp2_with fail
    refine (HD8.out _).mono ?_
    rintro e w6 ⟨v6, rfl, ho6, hb6⟩
    obtain ⟨A6, c6, rfl, _, _, _⟩ := ho6.shape
    have hb16 := below_next hb15 hb6
    have hS6 := HK.out _ hb16
    have hX6 := ho5.below hb6
    have hY6 := ho6.bytes
    have hqa6 : W.heap.size < w6.heap.size := Nat.lt_of_lt_of_le hq0 hb16.size
    clear ho5 ho6 hb6
    go_wp2_with (at_builtin; refine wpList_appB _ rfl _ _ 23 rfl 5 Try.underlying23 infoU8 w1 _ L1 rfl hX6 hb16 A6 _ c6 (putW c 8) rfl rfl hY6 (by rw [HN1.out, HC.out]; decide) ?_)
    intro v7 w7 ho7 hb17
    rw [← HL2.out] at ho7
    obtain ⟨A7, c7, rfl, _, _, _⟩ := ho7.shape
    have hS7 := HK.out _ hb17
    have hqa7 : W.heap.size < w7.heap.size := Nat.lt_of_lt_of_le hq0 hb17.size
    clear hX6 hY6
    obtain ⟨L3, hL3⟩ : ∃ L, L = L2 ++ putW r 8 := ⟨_, rfl⟩
    have HN3 := Lib.hid (show L3.length = 25 by rw [hL3, List.length_append, HN2.out, HRL.out])
    have HL3 := Lib.hid hL3
    clear hL3
    go_wp2_with fail
    refine (HE8.out _).mono ?_
    rintro e w8 ⟨v8, rfl, ho8, hb8⟩
    obtain ⟨A8, c8, rfl, _, _, _⟩ := ho8.shape
    have hb18 := below_next hb17 hb8
    have hS8 := HK.out _ hb18
    have hX8 := ho7.below hb8
    have hY8 := ho8.bytes
    have hqa8 : W.heap.size < w8.heap.size := Nat.lt_of_lt_of_le hq0 hb18.size
    clear ho7 ho8 hb8
    go_wp2_with (at_builtin; refine wpList_appB _ rfl _ _ 23 rfl 5 Try.underlying23 infoU8 w1 _ L2 rfl hX8 hb18 A8 _ c8 (putW r 8) rfl rfl hY8 (by rw [HN2.out, HRL.out]; decide) ?_)
    intro v9 w9 ho9 hb19
    rw [← HL3.out] at ho9
    obtain ⟨A9, c9, rfl, _, _, _⟩ := ho9.shape
    have hS9 := HK.out _ hb19
    have hqa9 : W.heap.size < w9.heap.size := Nat.lt_of_lt_of_le hq0 hb19.size
    clear hX8 hY8
    go_wp2_with (at_builtin; refine wpList_appB _ rfl _ _ 23 rfl 5 Try.underlying23 infoU8 w1 _ L3 rfl ho9 hb19 A _ cap l rfl rfl (hA.later (below_next HB01.out hb19)) (by rw [HN3.out]; omega) ?_)
    intro v10 w10 ho10 hb110
    go_wp2
    go_ret2
    have hfin : tkHead 1 t c r ++ l = L3 ++ l := by
      have e1 := HL1.out
      have e2 := HL2.out
      have e3 := HL3.out
      unfold tkHead
      rw [show hC 1 = true from rfl, show hR 1 = true from rfl]
      subst_vars
      simp
    exact ⟨_, rfl, by rw [hfin]; exact ho10.mono HB01.out.size, below_next HB01.out hb110⟩)

set_option maxHeartbeats 8000000 in
theorem refPut_2 (t c r : Int) (A : Option Addr) (cap : Nat) (l : List UInt8) (ht : 0 ≤ t ∧ t ≤ 18446744073709551615) (hc : 0 ≤ c ∧ c ≤ 18446744073709551615) (hr : 0 ≤ r ∧ r ≤ 18446744073709551615) (W : World) (hA : Bytes W W.heap.size A l) (hok : tkOk 2 c r l.length = true) :
    Calls Try.prog 18 #[.agg #[.int .i64 2, .int .u64 t, .int .u64 c, .int .u64 r, .slice A l.length cap]] W (GivesN 0 W (tkHead 2 t c r ++ l)) := by
  have HR := Lib.hid (fun w => refRight_any 2 t c r A l.length cap w)
  have HOK := Lib.hid hok
  have hl := tkOk_len hok
  have HT := Lib.hid (put8_length t)
  have HC := Lib.hid (put8_length c)
  have HRL := Lib.hid (put8_length r)
  obtain ⟨L1, hL1⟩ : ∃ L, L = [2] ++ putW t 8 := ⟨_, rfl⟩
  have HN1 := Lib.hid (show L1.length = 9 by rw [hL1]; simp [put8_length])
  have HL1 := Lib.hid hL1
  clear hok hL1
  have HC8 := Lib.hid (fun w => Oct.refPut_any t 8 ht.1 ht.2 w)
  have HD8 := Lib.hid (fun w => Oct.refPut_any c 8 hc.1 hc.2 w)
  have HE8 := Lib.hid (fun w => Oct.refPut_any r 8 hr.1 hr.2 w)
  clear ht hc hr
  go_enter Try.func18, Try.ntmps18
  go_wp2_with fail
  refine (HR.out _).mono ?_
  rw [HOK.out]
  rintro e w1 ⟨rfl, hb⟩
  have hb1 := below_next (below_alloc (Below.refl W.heap.size W) _) hb
  obtain ⟨hcl1, hf1⟩ := bcell hb
  have hz1 : W.heap.size + 1 ≤ w1.heap.size := by have := hb.size; simp at this; omega
  have hp0 : w1.cell? ⟨W.heap.size, 0, none⟩ = some (.int .i64 2) := by rw [hcl1 _ _ (by simp)]; simp [go_sem]
  have hp1 : w1.cell? ⟨W.heap.size, 1, none⟩ = some (.int .u64 t) := by rw [hcl1 _ _ (by simp)]; simp [go_sem]
  have hp2 : w1.cell? ⟨W.heap.size, 2, none⟩ = some (.int .u64 c) := by rw [hcl1 _ _ (by simp)]; simp [go_sem]
  have hp3 : w1.cell? ⟨W.heap.size, 3, none⟩ = some (.int .u64 r) := by rw [hcl1 _ _ (by simp)]; simp [go_sem]
  have hp4 : w1.cell? ⟨W.heap.size, 4, none⟩ = some (.slice A l.length cap) := by rw [hcl1 _ _ (by simp)]; simp [go_sem]
  have hq0 : W.heap.size < w1.heap.size := by omega
  have hkeep : ∀ w', Below w1.heap.size w1 w' →
      (w'.cell? ⟨W.heap.size, 0, none⟩ = some (.int .i64 2) ∧ w'.cell? ⟨W.heap.size, 1, none⟩ = some (.int .u64 t) ∧ w'.cell? ⟨W.heap.size, 2, none⟩ = some (.int .u64 c) ∧ w'.cell? ⟨W.heap.size, 3, none⟩ = some (.int .u64 r) ∧ w'.cell? ⟨W.heap.size, 4, none⟩ = some (.slice A l.length cap)) := by
    intro w' hb'
    have key : ∀ o, w'.cell? ⟨W.heap.size, o, none⟩ = w1.cell? ⟨W.heap.size, o, none⟩ := fun o => (bcell hb').1 _ _ hq0
    exact ⟨(key _).trans hp0, (key _).trans hp1, (key _).trans hp2, (key _).trans hp3, (key _).trans hp4⟩
  have HK := Lib.hid hkeep
  have hS := hkeep w1 (Below.refl _ _)
  have HB01 := Lib.hid hb1
  have hq1 : ¬ W.heap.size = w1.heap.size := by omega
  have hq2 : ¬ w1.heap.size = W.heap.size := by omega
  clear hkeep hcl1 hf1 hb hb1 hp0 hp1 hp2 hp3 hp4
  go_wp2_with fail
  go_region_held3 (fun w' => w'.cell? ⟨W.heap.size, 0, none⟩ = some (.int .i64 2) ∧ w'.cell? ⟨W.heap.size, 1, none⟩ = some (.int .u64 t))
    (first | exact ⟨hS5.1, hS5.2.1⟩ | exact ⟨hS4.1, hS4.2.1⟩ | go_keep)
    ((first
      | (go_at_call 44; refine (HC8.out _).mono ?_; rintro e w4 ⟨v4, rfl, ho4, hb4⟩; obtain ⟨A4, c4, rfl, _, _, _⟩ := ho4.shape
         have hb14 : Below w1.heap.size w1 w4 := by first | exact below_next (Below.drew (below_alloc (Below.refl w1.heap.size w1) _)) hb4 | exact below_next (Below.drew (Below.refl w1.heap.size w1)) hb4
         have hS4 := HK.out _ hb14
         have hq3 : W.heap.size < w4.heap.size := Nat.lt_of_lt_of_le hq0 hb14.size)
      | (refine step_appB _ (by rfl) _ _ 23 (by rfl) 5 Try.underlying23 infoU8 w1 _ [2] (by rfl)
           (by first | exact (Own.drew (own_lit_at 5 w1 _ rfl (Nat.le_refl _) [2] #[.int .u8 2] rfl (by simp [maxLen]))).below hb4 | exact own_lit_at 5 w4 _ rfl hb14.size [2] #[.int .u8 2] rfl (by simp [maxLen]))
           (by first | exact hb14 | exact below_alloc hb14 _) A4 _ c4 (putW t 8) (by rfl) rfl (by first | exact ho4.bytes | exact ho4.later (below_alloc (Below.refl _ _) _)) (by rw [HT.out]; decide) ?_
         intro v5 w5 ho5 hb15
         have hS5 := HK.out _ hb15)
      | fail))
  all_goals (
    rw [← HL1.out] at ho5
    have hq4 : W.heap.size < w5.heap.size := Nat.lt_of_lt_of_le hq0 hb15.size
    obtain ⟨A5, c5, rfl, _, _, _⟩ := ho5.shape
    clear hb14 hb4 ho4 hq3 hS4
    obtain ⟨L2, hL2⟩ : ∃ L, L = L1 ++ putW c 8 := ⟨_, rfl⟩
    have HN2 := Lib.hid (show L2.length = 17 by rw [hL2, List.length_append, HN1.out, HC.out])
    have HL2 := Lib.hid hL2
    clear hL2
    go_wp2_with fail
    refine (HD8.out _).mono ?_
    rintro e w6 ⟨v6, rfl, ho6, hb6⟩
    obtain ⟨A6, c6, rfl, _, _, _⟩ := ho6.shape
    have hb16 := below_next hb15 hb6
    have hS6 := HK.out _ hb16
    have hX6 := ho5.below hb6
    have hY6 := ho6.bytes
    have hqa6 : W.heap.size < w6.heap.size := Nat.lt_of_lt_of_le hq0 hb16.size
    clear ho5 ho6 hb6
    go_wp2_with (at_builtin; refine wpList_appB _ rfl _ _ 23 rfl 5 Try.underlying23 infoU8 w1 _ L1 rfl hX6 hb16 A6 _ c6 (putW c 8) rfl rfl hY6 (by rw [HN1.out, HC.out]; decide) ?_)
    intro v7 w7 ho7 hb17
    rw [← HL2.out] at ho7
    obtain ⟨A7, c7, rfl, _, _, _⟩ := ho7.shape
    have hS7 := HK.out _ hb17
    have hqa7 : W.heap.size < w7.heap.size := Nat.lt_of_lt_of_le hq0 hb17.size
    clear hX6 hY6
    go_wp2_with (at_builtin; refine wpList_appB _ rfl _ _ 23 rfl 5 Try.underlying23 infoU8 w1 _ L2 rfl ho7 hb17 A _ cap l rfl rfl (hA.later (below_next HB01.out hb17)) (by rw [HN2.out]; omega) ?_)
    intro v8 w8 ho8 hb18
    go_wp2
    go_ret2
    have hfin : tkHead 2 t c r ++ l = L2 ++ l := by
      have e1 := HL1.out
      have e2 := HL2.out
      unfold tkHead
      rw [show hC 2 = true from rfl, show hR 2 = false from rfl]
      subst_vars
      simp
    exact ⟨_, rfl, by rw [hfin]; exact ho8.mono HB01.out.size, below_next HB01.out hb18⟩)

set_option maxHeartbeats 8000000 in
theorem refPut_3 (t c r : Int) (A : Option Addr) (cap : Nat) (l : List UInt8) (ht : 0 ≤ t ∧ t ≤ 18446744073709551615) (hc : 0 ≤ c ∧ c ≤ 18446744073709551615) (hr : 0 ≤ r ∧ r ≤ 18446744073709551615) (W : World) (hA : Bytes W W.heap.size A l) (hok : tkOk 3 c r l.length = true) :
    Calls Try.prog 18 #[.agg #[.int .i64 3, .int .u64 t, .int .u64 c, .int .u64 r, .slice A l.length cap]] W (GivesN 0 W (tkHead 3 t c r ++ l)) := by
  have HR := Lib.hid (fun w => refRight_any 3 t c r A l.length cap w)
  have HOK := Lib.hid hok
  have hl := tkOk_len hok
  have HT := Lib.hid (put8_length t)
  have HC := Lib.hid (put8_length c)
  have HRL := Lib.hid (put8_length r)
  obtain ⟨L1, hL1⟩ : ∃ L, L = [3] ++ putW t 8 := ⟨_, rfl⟩
  have HN1 := Lib.hid (show L1.length = 9 by rw [hL1]; simp [put8_length])
  have HL1 := Lib.hid hL1
  clear hok hL1
  have HC8 := Lib.hid (fun w => Oct.refPut_any t 8 ht.1 ht.2 w)
  have HD8 := Lib.hid (fun w => Oct.refPut_any c 8 hc.1 hc.2 w)
  have HE8 := Lib.hid (fun w => Oct.refPut_any r 8 hr.1 hr.2 w)
  clear ht hc hr
  go_enter Try.func18, Try.ntmps18
  go_wp2_with fail
  refine (HR.out _).mono ?_
  rw [HOK.out]
  rintro e w1 ⟨rfl, hb⟩
  have hb1 := below_next (below_alloc (Below.refl W.heap.size W) _) hb
  obtain ⟨hcl1, hf1⟩ := bcell hb
  have hz1 : W.heap.size + 1 ≤ w1.heap.size := by have := hb.size; simp at this; omega
  have hp0 : w1.cell? ⟨W.heap.size, 0, none⟩ = some (.int .i64 3) := by rw [hcl1 _ _ (by simp)]; simp [go_sem]
  have hp1 : w1.cell? ⟨W.heap.size, 1, none⟩ = some (.int .u64 t) := by rw [hcl1 _ _ (by simp)]; simp [go_sem]
  have hp2 : w1.cell? ⟨W.heap.size, 2, none⟩ = some (.int .u64 c) := by rw [hcl1 _ _ (by simp)]; simp [go_sem]
  have hp3 : w1.cell? ⟨W.heap.size, 3, none⟩ = some (.int .u64 r) := by rw [hcl1 _ _ (by simp)]; simp [go_sem]
  have hp4 : w1.cell? ⟨W.heap.size, 4, none⟩ = some (.slice A l.length cap) := by rw [hcl1 _ _ (by simp)]; simp [go_sem]
  have hq0 : W.heap.size < w1.heap.size := by omega
  have hkeep : ∀ w', Below w1.heap.size w1 w' →
      (w'.cell? ⟨W.heap.size, 0, none⟩ = some (.int .i64 3) ∧ w'.cell? ⟨W.heap.size, 1, none⟩ = some (.int .u64 t) ∧ w'.cell? ⟨W.heap.size, 2, none⟩ = some (.int .u64 c) ∧ w'.cell? ⟨W.heap.size, 3, none⟩ = some (.int .u64 r) ∧ w'.cell? ⟨W.heap.size, 4, none⟩ = some (.slice A l.length cap)) := by
    intro w' hb'
    have key : ∀ o, w'.cell? ⟨W.heap.size, o, none⟩ = w1.cell? ⟨W.heap.size, o, none⟩ := fun o => (bcell hb').1 _ _ hq0
    exact ⟨(key _).trans hp0, (key _).trans hp1, (key _).trans hp2, (key _).trans hp3, (key _).trans hp4⟩
  have HK := Lib.hid hkeep
  have hS := hkeep w1 (Below.refl _ _)
  have HB01 := Lib.hid hb1
  have hq1 : ¬ W.heap.size = w1.heap.size := by omega
  have hq2 : ¬ w1.heap.size = W.heap.size := by omega
  clear hkeep hcl1 hf1 hb hb1 hp0 hp1 hp2 hp3 hp4
  go_wp2_with fail
  go_region_held3 (fun w' => w'.cell? ⟨W.heap.size, 0, none⟩ = some (.int .i64 3) ∧ w'.cell? ⟨W.heap.size, 1, none⟩ = some (.int .u64 t))
    (first | exact ⟨hS5.1, hS5.2.1⟩ | exact ⟨hS4.1, hS4.2.1⟩ | go_keep)
    ((first
      | (go_at_call 44; refine (HC8.out _).mono ?_; rintro e w4 ⟨v4, rfl, ho4, hb4⟩; obtain ⟨A4, c4, rfl, _, _, _⟩ := ho4.shape
         have hb14 : Below w1.heap.size w1 w4 := by first | exact below_next (Below.drew (below_alloc (Below.refl w1.heap.size w1) _)) hb4 | exact below_next (Below.drew (Below.refl w1.heap.size w1)) hb4
         have hS4 := HK.out _ hb14
         have hq3 : W.heap.size < w4.heap.size := Nat.lt_of_lt_of_le hq0 hb14.size)
      | (refine step_appB _ (by rfl) _ _ 23 (by rfl) 5 Try.underlying23 infoU8 w1 _ [3] (by rfl)
           (by first | exact (Own.drew (own_lit_at 5 w1 _ rfl (Nat.le_refl _) [3] #[.int .u8 3] rfl (by simp [maxLen]))).below hb4 | exact own_lit_at 5 w4 _ rfl hb14.size [3] #[.int .u8 3] rfl (by simp [maxLen]))
           (by first | exact hb14 | exact below_alloc hb14 _) A4 _ c4 (putW t 8) (by rfl) rfl (by first | exact ho4.bytes | exact ho4.later (below_alloc (Below.refl _ _) _)) (by rw [HT.out]; decide) ?_
         intro v5 w5 ho5 hb15
         have hS5 := HK.out _ hb15)
      | fail))
  all_goals (
    rw [← HL1.out] at ho5
    have hq4 : W.heap.size < w5.heap.size := Nat.lt_of_lt_of_le hq0 hb15.size
    obtain ⟨A5, c5, rfl, _, _, _⟩ := ho5.shape
    clear hb14 hb4 ho4 hq3 hS4
    obtain ⟨L2, hL2⟩ : ∃ L, L = L1 ++ putW r 8 := ⟨_, rfl⟩
    have HN2 := Lib.hid (show L2.length = 17 by rw [hL2, List.length_append, HN1.out, HRL.out])
    have HL2 := Lib.hid hL2
    clear hL2
    go_wp2_with fail
    refine (HE8.out _).mono ?_
    rintro e w6 ⟨v6, rfl, ho6, hb6⟩
    obtain ⟨A6, c6, rfl, _, _, _⟩ := ho6.shape
    have hb16 := below_next hb15 hb6
    have hS6 := HK.out _ hb16
    have hX6 := ho5.below hb6
    have hY6 := ho6.bytes
    have hqa6 : W.heap.size < w6.heap.size := Nat.lt_of_lt_of_le hq0 hb16.size
    clear ho5 ho6 hb6
    go_wp2_with (at_builtin; refine wpList_appB _ rfl _ _ 23 rfl 5 Try.underlying23 infoU8 w1 _ L1 rfl hX6 hb16 A6 _ c6 (putW r 8) rfl rfl hY6 (by rw [HN1.out, HRL.out]; decide) ?_)
    intro v7 w7 ho7 hb17
    rw [← HL2.out] at ho7
    obtain ⟨A7, c7, rfl, _, _, _⟩ := ho7.shape
    have hS7 := HK.out _ hb17
    have hqa7 : W.heap.size < w7.heap.size := Nat.lt_of_lt_of_le hq0 hb17.size
    clear hX6 hY6
    go_wp2_with (at_builtin; refine wpList_appB _ rfl _ _ 23 rfl 5 Try.underlying23 infoU8 w1 _ L2 rfl ho7 hb17 A _ cap l rfl rfl (hA.later (below_next HB01.out hb17)) (by rw [HN2.out]; omega) ?_)
    intro v8 w8 ho8 hb18
    go_wp2
    go_ret2
    have hfin : tkHead 3 t c r ++ l = L2 ++ l := by
      have e1 := HL1.out
      have e2 := HL2.out
      unfold tkHead
      rw [show hC 3 = false from rfl, show hR 3 = true from rfl]
      subst_vars
      simp
    exact ⟨_, rfl, by rw [hfin]; exact ho8.mono HB01.out.size, below_next HB01.out hb18⟩)

set_option maxHeartbeats 1000000 in
theorem refPut_no (k t c r : Int) (A : Option Addr) (cap : Nat) (l : List UInt8) (W : World) (hok : tkOk k c r l.length = false) :
    Calls Try.prog 18 #[.agg #[.int .i64 k, .int .u64 t, .int .u64 c, .int .u64 r, .slice A l.length cap]] W (GivesN 130 W []) := by
  have HR := Lib.hid (fun w => refRight_any k t c r A l.length cap w)
  have HOK := Lib.hid hok
  clear hok
  go_enter Try.func18, Try.ntmps18
  go_wp2_with fail
  refine (HR.out _).mono ?_
  rw [HOK.out]
  rintro e w1 ⟨rfl, hb⟩
  go_wp2
  go_ret2
  exact ⟨_, rfl, Own.nil _ _ _, below_next (below_alloc (Below.refl _ _) _) hb⟩

theorem refPutT_any (k t c r : Int) (A : Option Addr) (cap : Nat) (l : List UInt8) (ht : 0 ≤ t ∧ t ≤ 18446744073709551615) (hc : 0 ≤ c ∧ c ≤ 18446744073709551615) (hr : 0 ≤ r ∧ r ≤ 18446744073709551615) (W : World) (hA : Bytes W W.heap.size A l) :
    Calls Try.prog 18 #[.agg #[.int .i64 k, .int .u64 t, .int .u64 c, .int .u64 r, .slice A l.length cap]] W (GivesN (tkErr k c r l.length) W (tkPut k t c r l)) := by
  unfold tkErr tkPut
  cases h : tkOk k c r l.length with
  | false => exact refPut_no k t c r A cap l W h
  | true =>
    have hk : k = 0 ∨ k = 1 ∨ k = 2 ∨ k = 3 := by
      unfold tkOk at h
      simp only [Bool.and_eq_true, hB] at h
      have := of_decide_eq_true h.1
      omega
    rcases hk with rfl | rfl | rfl | rfl
    · exact refPut_0 t c r A cap l ht hc hr W hA h
    · exact refPut_1 t c r A cap l ht hc hr W hA h
    · exact refPut_2 t c r A cap l ht hc hr W hA h
    · exact refPut_3 t c r A cap l ht hc hr W hA h
end Go.Proofs.Ytonjdkankegdaaa.Token
