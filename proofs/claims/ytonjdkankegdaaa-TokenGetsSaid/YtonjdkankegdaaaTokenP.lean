
/- Layer 15 (token): Put. -/
import Derived.Test.YtonjdkankegdaaaTokenR
import Derived.Deep.RegionHeld3
import Derived.Deep.DrawnRows
attribute [local go_sem ↓] Go.wp_at_zero Go.wp_at_succ
namespace Go.Proofs.Ytonjdkankegdaaa.Token
open Go.RowKit Go.Proofs.Ytonjdkankegdaaa.Mem Go.Proofs.Ytonjdkankegdaaa.Oct Go.Proofs.Ytonjdkankegdaaa.Pkt

/-- a packet's bytes -/
def tkHead (k t c r : Int) : List UInt8 := UInt8.ofNat k.toNat :: (putW t 8 ++ ((if hC k = true then putW c 8 else []) ++ (if hR k = true then putW r 8 else [])))
def tkPut (k t c r : Int) (l : List UInt8) : List UInt8 := if tkOk k c r l.length = true then tkHead k t c r ++ l else []
def tkErr (k c r : Int) (n : Nat) : Int := if tkOk k c r n = true then 0 else 130
theorem put8_length (n : Int) : (putW n 8).length = 8 := by
  have e := putW_eq n 8 (by omega) (by omega)
  simp at e
  rw [e, put_length]
theorem tkOk_len {k c r : Int} {n : Nat} (h : tkOk k c r n = true) : n ≤ 64 := by
  unfold tkOk at h
  simp only [Bool.and_eq_true] at h
  have := of_decide_eq_true h.2.2.2
  have := hD_bd k
  omega
theorem lit_text_at (E : TypeId) (w : World) (g : Nat) (hg : g = w.heap.size) (l : List UInt8) (cs : Array Value) (hcs : cs = (l.map bv).toArray) (hm : l.length ≤ maxLen) {n : Nat} (hn : n = l.length) : IsText (w.alloc (.cells cs E)) (.slice (some ⟨g, 0, none⟩) n n) l := by
  subst hg
  exact lit_text E w l cs hcs hm hn

/-- two texts joined: the list that holds them is laid for the call -/
theorem Join2_any (w : World) (g : Nat) (hg : g = w.heap.size) {v1 v2 : Value} {l1 l2 : List UInt8} (h1 : IsText w v1 l1) (h2 : IsText w v2 l2) (L : List UInt8) (hL : L = l1 ++ l2) (hlen : L.length ≤ 140737488355328) :
    Calls Try.prog 42 #[.slice (some ⟨g, 0, none⟩) 2 2] (w.alloc (.cells #[v1, v2] 23)) fun e w' => ∃ v, e = .returned v ∧ Own 5 w' w.heap.size v L ∧ Below w.heap.size w w' := by
  have e : [l1, l2].flatten = L := by rw [hL]; simp
  refine (Join_any (some ⟨g, 0, none⟩) 2 [l1, l2] _ (texts2 23 w g hg h1 h2) (by simp) (by rw [e]; exact hlen)).mono ?_
  rintro e' w' ⟨v, rfl, ho, hb⟩
  rw [e] at ho
  exact ⟨v, rfl, ho.mono (by simp), below_next (below_alloc (Below.refl _ _) _) hb⟩


set_option maxHeartbeats 8000000 in
theorem Put_0 (t c r : Int) (A : Option Addr) (cap : Nat) (l : List UInt8) (ht : 0 ≤ t) (hc : 0 ≤ c) (hr : 0 ≤ r) (W : World) (hA : Bytes W W.heap.size A l) (hcl : l.length ≤ cap) (hm : cap ≤ maxLen) (hok : tkOk 0 c r l.length = true) :
    Calls Try.prog 17 #[.agg #[.int .i64 0, .int .u64 t, .int .u64 c, .int .u64 r, .slice A l.length cap]] W (GivesN 0 W (tkHead 0 t c r ++ l)) := by
  have HH := Lib.hid (fun w => has_any 0 w)
  have HR := Lib.hid (fun w => right_any 0 t c r A l.length cap w)
  have HOK := Lib.hid hok
  have hl := tkOk_len hok
  have HT := Lib.hid (put8_length t)
  have HC := Lib.hid (put8_length c)
  have HRL := Lib.hid (put8_length r)
  obtain ⟨L1, hL1⟩ : ∃ L, L = [0] ++ putW t 8 := ⟨_, rfl⟩
  have HN1 := Lib.hid (show L1.length = 9 by rw [hL1]; simp [put8_length])
  have HL1 := Lib.hid hL1
  clear hok hL1
  have HC8 := Lib.hid (fun w => Oct.Put_any t 8 ht w)
  have HD8 := Lib.hid (fun w => Oct.Put_any c 8 hc w)
  have HE8 := Lib.hid (fun w => Oct.Put_any r 8 hr w)
  clear ht hc hr
  go_enter Try.func17, Try.ntmps17
  go_wp2_with fail
  refine (HR.out _).mono ?_
  rw [HOK.out]
  rintro e w1 ⟨rfl, hb⟩
  have hb1 := below_next (below_alloc (Below.refl W.heap.size W) _) hb
  obtain ⟨hcl1, hf1⟩ := bcell hb
  have hz1 : W.heap.size + 1 ≤ w1.heap.size := by have := hb.size; simp at this; omega
  have hp0 : w1.cell? ⟨W.heap.size, 0, none⟩ = some (.int .i64 0) := by rw [hcl1 _ _ (by simp)]; simp [go_sem]
  have hp1 : w1.cell? ⟨W.heap.size, 1, none⟩ = some (.int .u64 t) := by rw [hcl1 _ _ (by simp)]; simp [go_sem]
  have hp2 : w1.cell? ⟨W.heap.size, 2, none⟩ = some (.int .u64 c) := by rw [hcl1 _ _ (by simp)]; simp [go_sem]
  have hp3 : w1.cell? ⟨W.heap.size, 3, none⟩ = some (.int .u64 r) := by rw [hcl1 _ _ (by simp)]; simp [go_sem]
  have hp4 : w1.cell? ⟨W.heap.size, 4, none⟩ = some (.slice A l.length cap) := by rw [hcl1 _ _ (by simp)]; simp [go_sem]
  clear hcl1 hf1 hb
  go_wp2_with fail
  refine (HH.out _).mono ?_
  rintro e w2 ⟨rfl, hb⟩
  have hb2 := below_next hb1 hb
  rw [show hC 0 = false from rfl, show hR 0 = false from rfl, show hD 0 = 0 from rfl, show hB 0 = true from rfl]
  obtain ⟨w3, hw3⟩ : ∃ w3, w3 = w2.alloc (.cells #[.bool false, .bool false, .int .i64 0] 73) := ⟨_, rfl⟩
  have hb23 : Below w2.heap.size w2 w3 := by rw [hw3]; exact below_alloc (Below.refl _ _) _
  have hz3 : w3.heap.size = w2.heap.size + 1 := by rw [hw3]; simp
  have hz2 := hb.size
  have hkeep : ∀ w', Below w3.heap.size w3 w' →
      (w'.cell? ⟨W.heap.size, 0, none⟩ = some (.int .i64 0) ∧ w'.cell? ⟨W.heap.size, 1, none⟩ = some (.int .u64 t) ∧ w'.cell? ⟨W.heap.size, 2, none⟩ = some (.int .u64 c) ∧ w'.cell? ⟨W.heap.size, 3, none⟩ = some (.int .u64 r) ∧ w'.cell? ⟨W.heap.size, 4, none⟩ = some (.slice A l.length cap) ∧
       w'.cell? ⟨w2.heap.size, 0, none⟩ = some (.bool false) ∧ w'.cell? ⟨w2.heap.size, 1, none⟩ = some (.bool false)) := by
    intro w' hb'
    have key : ∀ o, w'.cell? ⟨W.heap.size, o, none⟩ = w1.cell? ⟨W.heap.size, o, none⟩ := fun o => by
      rw [(bcell hb').1 _ _ (by omega), (bcell hb23).1 _ _ (by omega), (bcell hb).1 _ _ (by omega)]
    have key3 : ∀ o, w'.cell? ⟨w2.heap.size, o, none⟩ = w3.cell? ⟨w2.heap.size, o, none⟩ := fun o => (bcell hb').1 _ _ (by omega)
    rw [hw3] at key3
    refine ⟨(key _).trans hp0, (key _).trans hp1, (key _).trans hp2, (key _).trans hp3, (key _).trans hp4, (key3 _).trans ?_, (key3 _).trans ?_⟩ <;> simp [go_sem]
  have HK := Lib.hid hkeep
  have hb03 := below_next hb2 hb23
  have hS := hkeep w3 (Below.refl _ _)
  have HB03 := Lib.hid hb03
  have hq0 : W.heap.size < w3.heap.size := by omega
  have hq1 : w2.heap.size < w3.heap.size := by omega
  clear hkeep hb03 hb23 hb2 hb hz3 hz2 hp0 hp1 hp2 hp3 hp4 hb1
  go_wp2_with fail
  rw [← hw3]
  clear hw3
  go_region_held3 (fun w' => w'.cell? ⟨W.heap.size, 0, none⟩ = some (.int .i64 0) ∧ w'.cell? ⟨W.heap.size, 1, none⟩ = some (.int .u64 t))
    (first | exact ⟨hS5.1, hS5.2.1⟩ | exact ⟨hS4.1, hS4.2.1⟩ | go_keep)
    ((first
      | (go_at_call 41; refine (HC8.out _).mono ?_; rintro e w4 ⟨v4, rfl, ho4, hb4⟩; obtain ⟨A4, c4, rfl, _, _, _⟩ := ho4.shape
         have hb34 : Below w3.heap.size w3 w4 := by first | exact below_next (Below.drew (below_alloc (Below.refl w3.heap.size w3) _)) hb4 | exact below_next (Below.drew (Below.refl w3.heap.size w3)) hb4
         have hS4 := HK.out _ hb34
         have hq2 : W.heap.size < w4.heap.size := Nat.lt_of_lt_of_le hq0 hb34.size
         have hq3 : w2.heap.size < w4.heap.size := Nat.lt_of_lt_of_le hq1 hb34.size)
      | (go_at_call 42; refine (Join2_any _ _ (by first | rfl | simp) (by first | exact (lit_text_at 5 w3 _ rfl [0] #[.int .u8 0] rfl (by simp [maxLen]) (n := 1) rfl).later (below_undrew hb4) | exact lit_text_at 5 w4 _ rfl [0] #[.int .u8 0] rfl (by simp [maxLen]) (n := 1) rfl)
            (by first | exact ho4.text | exact ho4.text.later (below_alloc (Below.refl w4.heap.size w4) _)) L1 HL1.out (by rw [HN1.out]; simp)).mono ?_; rintro e w5 ⟨v5, rfl, ho5, hb5⟩
         have hb35 : Below w3.heap.size w3 w5 := by first | exact below_next hb34 hb5 | exact below_next (below_alloc hb34 _) hb5
         have hS5 := HK.out _ hb35)
      | fail))
  all_goals (
    have hX5 := ho5.text
    obtain ⟨A5, c5, rfl, _, _, _⟩ := ho5.shape
    replace ho5 := ho5.mono (base' := W.heap.size) (by first | exact Nat.le_trans (Nat.le_of_lt hq0) hb34.size | (simp; have := hb34.size; omega))
    have hq4 : W.heap.size < w5.heap.size := Nat.lt_of_lt_of_le hq0 hb35.size
    have hq5 : w2.heap.size < w5.heap.size := Nat.lt_of_lt_of_le hq1 hb35.size
    clear hb34 hb4 ho4 hb5 hq2 hq3 hS4
    go_wp2_with fail
    refine (Join2_any _ _ (by first | rfl | simp) hX5 (show IsText w5 (.slice A l.length cap) l from ⟨A, cap, rfl, hcl, hm, hA.later (below_next HB03.out hb35)⟩) (L1 ++ l) rfl (by rw [List.length_append, HN1.out]; omega)).mono ?_
    rintro e w6 ⟨v6, rfl, ho6, hb6⟩
    go_wp2
    go_ret2
    have hfin : tkHead 0 t c r ++ l = L1 ++ l := by
      have e1 := HL1.out
      unfold tkHead
      rw [show hC 0 = false from rfl, show hR 0 = false from rfl]
      subst_vars
      simp
    exact ⟨_, rfl, by rw [hfin]; exact ho6.mono (by have := (below_next HB03.out hb35).size; omega), below_next (below_next HB03.out hb35) hb6⟩)

set_option maxHeartbeats 8000000 in
theorem Put_1 (t c r : Int) (A : Option Addr) (cap : Nat) (l : List UInt8) (ht : 0 ≤ t) (hc : 0 ≤ c) (hr : 0 ≤ r) (W : World) (hA : Bytes W W.heap.size A l) (hcl : l.length ≤ cap) (hm : cap ≤ maxLen) (hok : tkOk 1 c r l.length = true) :
    Calls Try.prog 17 #[.agg #[.int .i64 1, .int .u64 t, .int .u64 c, .int .u64 r, .slice A l.length cap]] W (GivesN 0 W (tkHead 1 t c r ++ l)) := by
  have HH := Lib.hid (fun w => has_any 1 w)
  have HR := Lib.hid (fun w => right_any 1 t c r A l.length cap w)
  have HOK := Lib.hid hok
  have hl := tkOk_len hok
  have HT := Lib.hid (put8_length t)
  have HC := Lib.hid (put8_length c)
  have HRL := Lib.hid (put8_length r)
  obtain ⟨L1, hL1⟩ : ∃ L, L = [1] ++ putW t 8 := ⟨_, rfl⟩
  have HN1 := Lib.hid (show L1.length = 9 by rw [hL1]; simp [put8_length])
  have HL1 := Lib.hid hL1
  clear hok hL1
  have HC8 := Lib.hid (fun w => Oct.Put_any t 8 ht w)
  have HD8 := Lib.hid (fun w => Oct.Put_any c 8 hc w)
  have HE8 := Lib.hid (fun w => Oct.Put_any r 8 hr w)
  clear ht hc hr
  go_enter Try.func17, Try.ntmps17
  go_wp2_with fail
  refine (HR.out _).mono ?_
  rw [HOK.out]
  rintro e w1 ⟨rfl, hb⟩
  have hb1 := below_next (below_alloc (Below.refl W.heap.size W) _) hb
  obtain ⟨hcl1, hf1⟩ := bcell hb
  have hz1 : W.heap.size + 1 ≤ w1.heap.size := by have := hb.size; simp at this; omega
  have hp0 : w1.cell? ⟨W.heap.size, 0, none⟩ = some (.int .i64 1) := by rw [hcl1 _ _ (by simp)]; simp [go_sem]
  have hp1 : w1.cell? ⟨W.heap.size, 1, none⟩ = some (.int .u64 t) := by rw [hcl1 _ _ (by simp)]; simp [go_sem]
  have hp2 : w1.cell? ⟨W.heap.size, 2, none⟩ = some (.int .u64 c) := by rw [hcl1 _ _ (by simp)]; simp [go_sem]
  have hp3 : w1.cell? ⟨W.heap.size, 3, none⟩ = some (.int .u64 r) := by rw [hcl1 _ _ (by simp)]; simp [go_sem]
  have hp4 : w1.cell? ⟨W.heap.size, 4, none⟩ = some (.slice A l.length cap) := by rw [hcl1 _ _ (by simp)]; simp [go_sem]
  clear hcl1 hf1 hb
  go_wp2_with fail
  refine (HH.out _).mono ?_
  rintro e w2 ⟨rfl, hb⟩
  have hb2 := below_next hb1 hb
  rw [show hC 1 = true from rfl, show hR 1 = true from rfl, show hD 1 = 0 from rfl, show hB 1 = true from rfl]
  obtain ⟨w3, hw3⟩ : ∃ w3, w3 = w2.alloc (.cells #[.bool true, .bool true, .int .i64 0] 73) := ⟨_, rfl⟩
  have hb23 : Below w2.heap.size w2 w3 := by rw [hw3]; exact below_alloc (Below.refl _ _) _
  have hz3 : w3.heap.size = w2.heap.size + 1 := by rw [hw3]; simp
  have hz2 := hb.size
  have hkeep : ∀ w', Below w3.heap.size w3 w' →
      (w'.cell? ⟨W.heap.size, 0, none⟩ = some (.int .i64 1) ∧ w'.cell? ⟨W.heap.size, 1, none⟩ = some (.int .u64 t) ∧ w'.cell? ⟨W.heap.size, 2, none⟩ = some (.int .u64 c) ∧ w'.cell? ⟨W.heap.size, 3, none⟩ = some (.int .u64 r) ∧ w'.cell? ⟨W.heap.size, 4, none⟩ = some (.slice A l.length cap) ∧
       w'.cell? ⟨w2.heap.size, 0, none⟩ = some (.bool true) ∧ w'.cell? ⟨w2.heap.size, 1, none⟩ = some (.bool true)) := by
    intro w' hb'
    have key : ∀ o, w'.cell? ⟨W.heap.size, o, none⟩ = w1.cell? ⟨W.heap.size, o, none⟩ := fun o => by
      rw [(bcell hb').1 _ _ (by omega), (bcell hb23).1 _ _ (by omega), (bcell hb).1 _ _ (by omega)]
    have key3 : ∀ o, w'.cell? ⟨w2.heap.size, o, none⟩ = w3.cell? ⟨w2.heap.size, o, none⟩ := fun o => (bcell hb').1 _ _ (by omega)
    rw [hw3] at key3
    refine ⟨(key _).trans hp0, (key _).trans hp1, (key _).trans hp2, (key _).trans hp3, (key _).trans hp4, (key3 _).trans ?_, (key3 _).trans ?_⟩ <;> simp [go_sem]
  have HK := Lib.hid hkeep
  have hb03 := below_next hb2 hb23
  have hS := hkeep w3 (Below.refl _ _)
  have HB03 := Lib.hid hb03
  have hq0 : W.heap.size < w3.heap.size := by omega
  have hq1 : w2.heap.size < w3.heap.size := by omega
  clear hkeep hb03 hb23 hb2 hb hz3 hz2 hp0 hp1 hp2 hp3 hp4 hb1
  go_wp2_with fail
  rw [← hw3]
  clear hw3
  go_region_held3 (fun w' => w'.cell? ⟨W.heap.size, 0, none⟩ = some (.int .i64 1) ∧ w'.cell? ⟨W.heap.size, 1, none⟩ = some (.int .u64 t))
    (first | exact ⟨hS5.1, hS5.2.1⟩ | exact ⟨hS4.1, hS4.2.1⟩ | go_keep)
    ((first
      | (go_at_call 41; refine (HC8.out _).mono ?_; rintro e w4 ⟨v4, rfl, ho4, hb4⟩; obtain ⟨A4, c4, rfl, _, _, _⟩ := ho4.shape
         have hb34 : Below w3.heap.size w3 w4 := by first | exact below_next (Below.drew (below_alloc (Below.refl w3.heap.size w3) _)) hb4 | exact below_next (Below.drew (Below.refl w3.heap.size w3)) hb4
         have hS4 := HK.out _ hb34
         have hq2 : W.heap.size < w4.heap.size := Nat.lt_of_lt_of_le hq0 hb34.size
         have hq3 : w2.heap.size < w4.heap.size := Nat.lt_of_lt_of_le hq1 hb34.size)
      | (go_at_call 42; refine (Join2_any _ _ (by first | rfl | simp) (by first | exact (lit_text_at 5 w3 _ rfl [1] #[.int .u8 1] rfl (by simp [maxLen]) (n := 1) rfl).later (below_undrew hb4) | exact lit_text_at 5 w4 _ rfl [1] #[.int .u8 1] rfl (by simp [maxLen]) (n := 1) rfl)
            (by first | exact ho4.text | exact ho4.text.later (below_alloc (Below.refl w4.heap.size w4) _)) L1 HL1.out (by rw [HN1.out]; simp)).mono ?_; rintro e w5 ⟨v5, rfl, ho5, hb5⟩
         have hb35 : Below w3.heap.size w3 w5 := by first | exact below_next hb34 hb5 | exact below_next (below_alloc hb34 _) hb5
         have hS5 := HK.out _ hb35)
      | fail))
  all_goals (
    have hX5 := ho5.text
    obtain ⟨A5, c5, rfl, _, _, _⟩ := ho5.shape
    replace ho5 := ho5.mono (base' := W.heap.size) (by first | exact Nat.le_trans (Nat.le_of_lt hq0) hb34.size | (simp; have := hb34.size; omega))
    have hq4 : W.heap.size < w5.heap.size := Nat.lt_of_lt_of_le hq0 hb35.size
    have hq5 : w2.heap.size < w5.heap.size := Nat.lt_of_lt_of_le hq1 hb35.size
    clear hb34 hb4 ho4 hb5 hq2 hq3 hS4
    obtain ⟨L2, hL2⟩ : ∃ L, L = L1 ++ putW c 8 := ⟨_, rfl⟩
    have HN2 := Lib.hid (show L2.length = 17 by rw [hL2, List.length_append, HN1.out, HC.out])
    have HL2 := Lib.hid hL2
    clear hL2
    go_wp2_with fail
    refine (HD8.out _).mono ?_
    rintro e w6 ⟨v6, rfl, ho6, hb6⟩
    have hY6 := ho6.text
    obtain ⟨A6, c6, rfl, _, _, _⟩ := ho6.shape
    have hb36 := below_next hb35 hb6
    have hS6 := HK.out _ hb36
    have hX6 := hX5.later hb6
    have hqa6 : W.heap.size < w6.heap.size := Nat.lt_of_lt_of_le hq0 hb36.size
    have hqb6 : w2.heap.size < w6.heap.size := Nat.lt_of_lt_of_le hq1 hb36.size
    clear ho6 hb6
    go_wp2_with fail
    refine (Join2_any _ _ (by first | rfl | simp) hX6 hY6 L2 HL2.out (by rw [HN2.out]; simp)).mono ?_
    rintro e w7 ⟨v7, rfl, ho7, hb7⟩
    have hX7 := ho7.text
    obtain ⟨A7, c7, rfl, _, _, _⟩ := ho7.shape
    have hb37 := below_next hb36 hb7
    have hS7 := HK.out _ hb37
    have hqa7 : W.heap.size < w7.heap.size := Nat.lt_of_lt_of_le hq0 hb37.size
    have hqb7 : w2.heap.size < w7.heap.size := Nat.lt_of_lt_of_le hq1 hb37.size
    clear hb7 hY6 hX6
    obtain ⟨L3, hL3⟩ : ∃ L, L = L2 ++ putW r 8 := ⟨_, rfl⟩
    have HN3 := Lib.hid (show L3.length = 25 by rw [hL3, List.length_append, HN2.out, HRL.out])
    have HL3 := Lib.hid hL3
    clear hL3
    go_wp2_with fail
    refine (HE8.out _).mono ?_
    rintro e w8 ⟨v8, rfl, ho8, hb8⟩
    have hY8 := ho8.text
    obtain ⟨A8, c8, rfl, _, _, _⟩ := ho8.shape
    have hb38 := below_next hb37 hb8
    have hS8 := HK.out _ hb38
    have hX8 := hX7.later hb8
    have hqa8 : W.heap.size < w8.heap.size := Nat.lt_of_lt_of_le hq0 hb38.size
    have hqb8 : w2.heap.size < w8.heap.size := Nat.lt_of_lt_of_le hq1 hb38.size
    clear ho8 hb8
    go_wp2_with fail
    refine (Join2_any _ _ (by first | rfl | simp) hX8 hY8 L3 HL3.out (by rw [HN3.out]; simp)).mono ?_
    rintro e w9 ⟨v9, rfl, ho9, hb9⟩
    have hX9 := ho9.text
    obtain ⟨A9, c9, rfl, _, _, _⟩ := ho9.shape
    have hb39 := below_next hb38 hb9
    have hS9 := HK.out _ hb39
    have hqa9 : W.heap.size < w9.heap.size := Nat.lt_of_lt_of_le hq0 hb39.size
    have hqb9 : w2.heap.size < w9.heap.size := Nat.lt_of_lt_of_le hq1 hb39.size
    clear hb9 hY8 hX8
    go_wp2_with fail
    refine (Join2_any _ _ (by first | rfl | simp) hX9 (show IsText w9 (.slice A l.length cap) l from ⟨A, cap, rfl, hcl, hm, hA.later (below_next HB03.out hb39)⟩) (L3 ++ l) rfl (by rw [List.length_append, HN3.out]; omega)).mono ?_
    rintro e w10 ⟨v10, rfl, ho10, hb10⟩
    go_wp2
    go_ret2
    have hfin : tkHead 1 t c r ++ l = L3 ++ l := by
      have e1 := HL1.out
      have e2 := HL2.out
      have e3 := HL3.out
      unfold tkHead
      rw [show hC 1 = true from rfl, show hR 1 = true from rfl]
      subst_vars
      simp
    exact ⟨_, rfl, by rw [hfin]; exact ho10.mono (by have := (below_next HB03.out hb39).size; omega), below_next (below_next HB03.out hb39) hb10⟩)

set_option maxHeartbeats 8000000 in
theorem Put_2 (t c r : Int) (A : Option Addr) (cap : Nat) (l : List UInt8) (ht : 0 ≤ t) (hc : 0 ≤ c) (hr : 0 ≤ r) (W : World) (hA : Bytes W W.heap.size A l) (hcl : l.length ≤ cap) (hm : cap ≤ maxLen) (hok : tkOk 2 c r l.length = true) :
    Calls Try.prog 17 #[.agg #[.int .i64 2, .int .u64 t, .int .u64 c, .int .u64 r, .slice A l.length cap]] W (GivesN 0 W (tkHead 2 t c r ++ l)) := by
  have HH := Lib.hid (fun w => has_any 2 w)
  have HR := Lib.hid (fun w => right_any 2 t c r A l.length cap w)
  have HOK := Lib.hid hok
  have hl := tkOk_len hok
  have HT := Lib.hid (put8_length t)
  have HC := Lib.hid (put8_length c)
  have HRL := Lib.hid (put8_length r)
  obtain ⟨L1, hL1⟩ : ∃ L, L = [2] ++ putW t 8 := ⟨_, rfl⟩
  have HN1 := Lib.hid (show L1.length = 9 by rw [hL1]; simp [put8_length])
  have HL1 := Lib.hid hL1
  clear hok hL1
  have HC8 := Lib.hid (fun w => Oct.Put_any t 8 ht w)
  have HD8 := Lib.hid (fun w => Oct.Put_any c 8 hc w)
  have HE8 := Lib.hid (fun w => Oct.Put_any r 8 hr w)
  clear ht hc hr
  go_enter Try.func17, Try.ntmps17
  go_wp2_with fail
  refine (HR.out _).mono ?_
  rw [HOK.out]
  rintro e w1 ⟨rfl, hb⟩
  have hb1 := below_next (below_alloc (Below.refl W.heap.size W) _) hb
  obtain ⟨hcl1, hf1⟩ := bcell hb
  have hz1 : W.heap.size + 1 ≤ w1.heap.size := by have := hb.size; simp at this; omega
  have hp0 : w1.cell? ⟨W.heap.size, 0, none⟩ = some (.int .i64 2) := by rw [hcl1 _ _ (by simp)]; simp [go_sem]
  have hp1 : w1.cell? ⟨W.heap.size, 1, none⟩ = some (.int .u64 t) := by rw [hcl1 _ _ (by simp)]; simp [go_sem]
  have hp2 : w1.cell? ⟨W.heap.size, 2, none⟩ = some (.int .u64 c) := by rw [hcl1 _ _ (by simp)]; simp [go_sem]
  have hp3 : w1.cell? ⟨W.heap.size, 3, none⟩ = some (.int .u64 r) := by rw [hcl1 _ _ (by simp)]; simp [go_sem]
  have hp4 : w1.cell? ⟨W.heap.size, 4, none⟩ = some (.slice A l.length cap) := by rw [hcl1 _ _ (by simp)]; simp [go_sem]
  clear hcl1 hf1 hb
  go_wp2_with fail
  refine (HH.out _).mono ?_
  rintro e w2 ⟨rfl, hb⟩
  have hb2 := below_next hb1 hb
  rw [show hC 2 = true from rfl, show hR 2 = false from rfl, show hD 2 = 64 from rfl, show hB 2 = true from rfl]
  obtain ⟨w3, hw3⟩ : ∃ w3, w3 = w2.alloc (.cells #[.bool true, .bool false, .int .i64 64] 73) := ⟨_, rfl⟩
  have hb23 : Below w2.heap.size w2 w3 := by rw [hw3]; exact below_alloc (Below.refl _ _) _
  have hz3 : w3.heap.size = w2.heap.size + 1 := by rw [hw3]; simp
  have hz2 := hb.size
  have hkeep : ∀ w', Below w3.heap.size w3 w' →
      (w'.cell? ⟨W.heap.size, 0, none⟩ = some (.int .i64 2) ∧ w'.cell? ⟨W.heap.size, 1, none⟩ = some (.int .u64 t) ∧ w'.cell? ⟨W.heap.size, 2, none⟩ = some (.int .u64 c) ∧ w'.cell? ⟨W.heap.size, 3, none⟩ = some (.int .u64 r) ∧ w'.cell? ⟨W.heap.size, 4, none⟩ = some (.slice A l.length cap) ∧
       w'.cell? ⟨w2.heap.size, 0, none⟩ = some (.bool true) ∧ w'.cell? ⟨w2.heap.size, 1, none⟩ = some (.bool false)) := by
    intro w' hb'
    have key : ∀ o, w'.cell? ⟨W.heap.size, o, none⟩ = w1.cell? ⟨W.heap.size, o, none⟩ := fun o => by
      rw [(bcell hb').1 _ _ (by omega), (bcell hb23).1 _ _ (by omega), (bcell hb).1 _ _ (by omega)]
    have key3 : ∀ o, w'.cell? ⟨w2.heap.size, o, none⟩ = w3.cell? ⟨w2.heap.size, o, none⟩ := fun o => (bcell hb').1 _ _ (by omega)
    rw [hw3] at key3
    refine ⟨(key _).trans hp0, (key _).trans hp1, (key _).trans hp2, (key _).trans hp3, (key _).trans hp4, (key3 _).trans ?_, (key3 _).trans ?_⟩ <;> simp [go_sem]
  have HK := Lib.hid hkeep
  have hb03 := below_next hb2 hb23
  have hS := hkeep w3 (Below.refl _ _)
  have HB03 := Lib.hid hb03
  have hq0 : W.heap.size < w3.heap.size := by omega
  have hq1 : w2.heap.size < w3.heap.size := by omega
  clear hkeep hb03 hb23 hb2 hb hz3 hz2 hp0 hp1 hp2 hp3 hp4 hb1
  go_wp2_with fail
  rw [← hw3]
  clear hw3
  go_region_held3 (fun w' => w'.cell? ⟨W.heap.size, 0, none⟩ = some (.int .i64 2) ∧ w'.cell? ⟨W.heap.size, 1, none⟩ = some (.int .u64 t))
    (first | exact ⟨hS5.1, hS5.2.1⟩ | exact ⟨hS4.1, hS4.2.1⟩ | go_keep)
    ((first
      | (go_at_call 41; refine (HC8.out _).mono ?_; rintro e w4 ⟨v4, rfl, ho4, hb4⟩; obtain ⟨A4, c4, rfl, _, _, _⟩ := ho4.shape
         have hb34 : Below w3.heap.size w3 w4 := by first | exact below_next (Below.drew (below_alloc (Below.refl w3.heap.size w3) _)) hb4 | exact below_next (Below.drew (Below.refl w3.heap.size w3)) hb4
         have hS4 := HK.out _ hb34
         have hq2 : W.heap.size < w4.heap.size := Nat.lt_of_lt_of_le hq0 hb34.size
         have hq3 : w2.heap.size < w4.heap.size := Nat.lt_of_lt_of_le hq1 hb34.size)
      | (go_at_call 42; refine (Join2_any _ _ (by first | rfl | simp) (by first | exact (lit_text_at 5 w3 _ rfl [2] #[.int .u8 2] rfl (by simp [maxLen]) (n := 1) rfl).later (below_undrew hb4) | exact lit_text_at 5 w4 _ rfl [2] #[.int .u8 2] rfl (by simp [maxLen]) (n := 1) rfl)
            (by first | exact ho4.text | exact ho4.text.later (below_alloc (Below.refl w4.heap.size w4) _)) L1 HL1.out (by rw [HN1.out]; simp)).mono ?_; rintro e w5 ⟨v5, rfl, ho5, hb5⟩
         have hb35 : Below w3.heap.size w3 w5 := by first | exact below_next hb34 hb5 | exact below_next (below_alloc hb34 _) hb5
         have hS5 := HK.out _ hb35)
      | fail))
  all_goals (
    have hX5 := ho5.text
    obtain ⟨A5, c5, rfl, _, _, _⟩ := ho5.shape
    replace ho5 := ho5.mono (base' := W.heap.size) (by first | exact Nat.le_trans (Nat.le_of_lt hq0) hb34.size | (simp; have := hb34.size; omega))
    have hq4 : W.heap.size < w5.heap.size := Nat.lt_of_lt_of_le hq0 hb35.size
    have hq5 : w2.heap.size < w5.heap.size := Nat.lt_of_lt_of_le hq1 hb35.size
    clear hb34 hb4 ho4 hb5 hq2 hq3 hS4
    obtain ⟨L2, hL2⟩ : ∃ L, L = L1 ++ putW c 8 := ⟨_, rfl⟩
    have HN2 := Lib.hid (show L2.length = 17 by rw [hL2, List.length_append, HN1.out, HC.out])
    have HL2 := Lib.hid hL2
    clear hL2
    go_wp2_with fail
    refine (HD8.out _).mono ?_
    rintro e w6 ⟨v6, rfl, ho6, hb6⟩
    have hY6 := ho6.text
    obtain ⟨A6, c6, rfl, _, _, _⟩ := ho6.shape
    have hb36 := below_next hb35 hb6
    have hS6 := HK.out _ hb36
    have hX6 := hX5.later hb6
    have hqa6 : W.heap.size < w6.heap.size := Nat.lt_of_lt_of_le hq0 hb36.size
    have hqb6 : w2.heap.size < w6.heap.size := Nat.lt_of_lt_of_le hq1 hb36.size
    clear ho6 hb6
    go_wp2_with fail
    refine (Join2_any _ _ (by first | rfl | simp) hX6 hY6 L2 HL2.out (by rw [HN2.out]; simp)).mono ?_
    rintro e w7 ⟨v7, rfl, ho7, hb7⟩
    have hX7 := ho7.text
    obtain ⟨A7, c7, rfl, _, _, _⟩ := ho7.shape
    have hb37 := below_next hb36 hb7
    have hS7 := HK.out _ hb37
    have hqa7 : W.heap.size < w7.heap.size := Nat.lt_of_lt_of_le hq0 hb37.size
    have hqb7 : w2.heap.size < w7.heap.size := Nat.lt_of_lt_of_le hq1 hb37.size
    clear hb7 hY6 hX6
    go_wp2_with fail
    refine (Join2_any _ _ (by first | rfl | simp) hX7 (show IsText w7 (.slice A l.length cap) l from ⟨A, cap, rfl, hcl, hm, hA.later (below_next HB03.out hb37)⟩) (L2 ++ l) rfl (by rw [List.length_append, HN2.out]; omega)).mono ?_
    rintro e w8 ⟨v8, rfl, ho8, hb8⟩
    go_wp2
    go_ret2
    have hfin : tkHead 2 t c r ++ l = L2 ++ l := by
      have e1 := HL1.out
      have e2 := HL2.out
      unfold tkHead
      rw [show hC 2 = true from rfl, show hR 2 = false from rfl]
      subst_vars
      simp
    exact ⟨_, rfl, by rw [hfin]; exact ho8.mono (by have := (below_next HB03.out hb37).size; omega), below_next (below_next HB03.out hb37) hb8⟩)

set_option maxHeartbeats 8000000 in
theorem Put_3 (t c r : Int) (A : Option Addr) (cap : Nat) (l : List UInt8) (ht : 0 ≤ t) (hc : 0 ≤ c) (hr : 0 ≤ r) (W : World) (hA : Bytes W W.heap.size A l) (hcl : l.length ≤ cap) (hm : cap ≤ maxLen) (hok : tkOk 3 c r l.length = true) :
    Calls Try.prog 17 #[.agg #[.int .i64 3, .int .u64 t, .int .u64 c, .int .u64 r, .slice A l.length cap]] W (GivesN 0 W (tkHead 3 t c r ++ l)) := by
  have HH := Lib.hid (fun w => has_any 3 w)
  have HR := Lib.hid (fun w => right_any 3 t c r A l.length cap w)
  have HOK := Lib.hid hok
  have hl := tkOk_len hok
  have HT := Lib.hid (put8_length t)
  have HC := Lib.hid (put8_length c)
  have HRL := Lib.hid (put8_length r)
  obtain ⟨L1, hL1⟩ : ∃ L, L = [3] ++ putW t 8 := ⟨_, rfl⟩
  have HN1 := Lib.hid (show L1.length = 9 by rw [hL1]; simp [put8_length])
  have HL1 := Lib.hid hL1
  clear hok hL1
  have HC8 := Lib.hid (fun w => Oct.Put_any t 8 ht w)
  have HD8 := Lib.hid (fun w => Oct.Put_any c 8 hc w)
  have HE8 := Lib.hid (fun w => Oct.Put_any r 8 hr w)
  clear ht hc hr
  go_enter Try.func17, Try.ntmps17
  go_wp2_with fail
  refine (HR.out _).mono ?_
  rw [HOK.out]
  rintro e w1 ⟨rfl, hb⟩
  have hb1 := below_next (below_alloc (Below.refl W.heap.size W) _) hb
  obtain ⟨hcl1, hf1⟩ := bcell hb
  have hz1 : W.heap.size + 1 ≤ w1.heap.size := by have := hb.size; simp at this; omega
  have hp0 : w1.cell? ⟨W.heap.size, 0, none⟩ = some (.int .i64 3) := by rw [hcl1 _ _ (by simp)]; simp [go_sem]
  have hp1 : w1.cell? ⟨W.heap.size, 1, none⟩ = some (.int .u64 t) := by rw [hcl1 _ _ (by simp)]; simp [go_sem]
  have hp2 : w1.cell? ⟨W.heap.size, 2, none⟩ = some (.int .u64 c) := by rw [hcl1 _ _ (by simp)]; simp [go_sem]
  have hp3 : w1.cell? ⟨W.heap.size, 3, none⟩ = some (.int .u64 r) := by rw [hcl1 _ _ (by simp)]; simp [go_sem]
  have hp4 : w1.cell? ⟨W.heap.size, 4, none⟩ = some (.slice A l.length cap) := by rw [hcl1 _ _ (by simp)]; simp [go_sem]
  clear hcl1 hf1 hb
  go_wp2_with fail
  refine (HH.out _).mono ?_
  rintro e w2 ⟨rfl, hb⟩
  have hb2 := below_next hb1 hb
  rw [show hC 3 = false from rfl, show hR 3 = true from rfl, show hD 3 = 0 from rfl, show hB 3 = true from rfl]
  obtain ⟨w3, hw3⟩ : ∃ w3, w3 = w2.alloc (.cells #[.bool false, .bool true, .int .i64 0] 73) := ⟨_, rfl⟩
  have hb23 : Below w2.heap.size w2 w3 := by rw [hw3]; exact below_alloc (Below.refl _ _) _
  have hz3 : w3.heap.size = w2.heap.size + 1 := by rw [hw3]; simp
  have hz2 := hb.size
  have hkeep : ∀ w', Below w3.heap.size w3 w' →
      (w'.cell? ⟨W.heap.size, 0, none⟩ = some (.int .i64 3) ∧ w'.cell? ⟨W.heap.size, 1, none⟩ = some (.int .u64 t) ∧ w'.cell? ⟨W.heap.size, 2, none⟩ = some (.int .u64 c) ∧ w'.cell? ⟨W.heap.size, 3, none⟩ = some (.int .u64 r) ∧ w'.cell? ⟨W.heap.size, 4, none⟩ = some (.slice A l.length cap) ∧
       w'.cell? ⟨w2.heap.size, 0, none⟩ = some (.bool false) ∧ w'.cell? ⟨w2.heap.size, 1, none⟩ = some (.bool true)) := by
    intro w' hb'
    have key : ∀ o, w'.cell? ⟨W.heap.size, o, none⟩ = w1.cell? ⟨W.heap.size, o, none⟩ := fun o => by
      rw [(bcell hb').1 _ _ (by omega), (bcell hb23).1 _ _ (by omega), (bcell hb).1 _ _ (by omega)]
    have key3 : ∀ o, w'.cell? ⟨w2.heap.size, o, none⟩ = w3.cell? ⟨w2.heap.size, o, none⟩ := fun o => (bcell hb').1 _ _ (by omega)
    rw [hw3] at key3
    refine ⟨(key _).trans hp0, (key _).trans hp1, (key _).trans hp2, (key _).trans hp3, (key _).trans hp4, (key3 _).trans ?_, (key3 _).trans ?_⟩ <;> simp [go_sem]
  have HK := Lib.hid hkeep
  have hb03 := below_next hb2 hb23
  have hS := hkeep w3 (Below.refl _ _)
  have HB03 := Lib.hid hb03
  have hq0 : W.heap.size < w3.heap.size := by omega
  have hq1 : w2.heap.size < w3.heap.size := by omega
  clear hkeep hb03 hb23 hb2 hb hz3 hz2 hp0 hp1 hp2 hp3 hp4 hb1
  go_wp2_with fail
  rw [← hw3]
  clear hw3
  go_region_held3 (fun w' => w'.cell? ⟨W.heap.size, 0, none⟩ = some (.int .i64 3) ∧ w'.cell? ⟨W.heap.size, 1, none⟩ = some (.int .u64 t))
    (first | exact ⟨hS5.1, hS5.2.1⟩ | exact ⟨hS4.1, hS4.2.1⟩ | go_keep)
    ((first
      | (go_at_call 41; refine (HC8.out _).mono ?_; rintro e w4 ⟨v4, rfl, ho4, hb4⟩; obtain ⟨A4, c4, rfl, _, _, _⟩ := ho4.shape
         have hb34 : Below w3.heap.size w3 w4 := by first | exact below_next (Below.drew (below_alloc (Below.refl w3.heap.size w3) _)) hb4 | exact below_next (Below.drew (Below.refl w3.heap.size w3)) hb4
         have hS4 := HK.out _ hb34
         have hq2 : W.heap.size < w4.heap.size := Nat.lt_of_lt_of_le hq0 hb34.size
         have hq3 : w2.heap.size < w4.heap.size := Nat.lt_of_lt_of_le hq1 hb34.size)
      | (go_at_call 42; refine (Join2_any _ _ (by first | rfl | simp) (by first | exact (lit_text_at 5 w3 _ rfl [3] #[.int .u8 3] rfl (by simp [maxLen]) (n := 1) rfl).later (below_undrew hb4) | exact lit_text_at 5 w4 _ rfl [3] #[.int .u8 3] rfl (by simp [maxLen]) (n := 1) rfl)
            (by first | exact ho4.text | exact ho4.text.later (below_alloc (Below.refl w4.heap.size w4) _)) L1 HL1.out (by rw [HN1.out]; simp)).mono ?_; rintro e w5 ⟨v5, rfl, ho5, hb5⟩
         have hb35 : Below w3.heap.size w3 w5 := by first | exact below_next hb34 hb5 | exact below_next (below_alloc hb34 _) hb5
         have hS5 := HK.out _ hb35)
      | fail))
  all_goals (
    have hX5 := ho5.text
    obtain ⟨A5, c5, rfl, _, _, _⟩ := ho5.shape
    replace ho5 := ho5.mono (base' := W.heap.size) (by first | exact Nat.le_trans (Nat.le_of_lt hq0) hb34.size | (simp; have := hb34.size; omega))
    have hq4 : W.heap.size < w5.heap.size := Nat.lt_of_lt_of_le hq0 hb35.size
    have hq5 : w2.heap.size < w5.heap.size := Nat.lt_of_lt_of_le hq1 hb35.size
    clear hb34 hb4 ho4 hb5 hq2 hq3 hS4
    obtain ⟨L2, hL2⟩ : ∃ L, L = L1 ++ putW r 8 := ⟨_, rfl⟩
    have HN2 := Lib.hid (show L2.length = 17 by rw [hL2, List.length_append, HN1.out, HRL.out])
    have HL2 := Lib.hid hL2
    clear hL2
    go_wp2_with fail
    refine (HE8.out _).mono ?_
    rintro e w6 ⟨v6, rfl, ho6, hb6⟩
    have hY6 := ho6.text
    obtain ⟨A6, c6, rfl, _, _, _⟩ := ho6.shape
    have hb36 := below_next hb35 hb6
    have hS6 := HK.out _ hb36
    have hX6 := hX5.later hb6
    have hqa6 : W.heap.size < w6.heap.size := Nat.lt_of_lt_of_le hq0 hb36.size
    have hqb6 : w2.heap.size < w6.heap.size := Nat.lt_of_lt_of_le hq1 hb36.size
    clear ho6 hb6
    go_wp2_with fail
    refine (Join2_any _ _ (by first | rfl | simp) hX6 hY6 L2 HL2.out (by rw [HN2.out]; simp)).mono ?_
    rintro e w7 ⟨v7, rfl, ho7, hb7⟩
    have hX7 := ho7.text
    obtain ⟨A7, c7, rfl, _, _, _⟩ := ho7.shape
    have hb37 := below_next hb36 hb7
    have hS7 := HK.out _ hb37
    have hqa7 : W.heap.size < w7.heap.size := Nat.lt_of_lt_of_le hq0 hb37.size
    have hqb7 : w2.heap.size < w7.heap.size := Nat.lt_of_lt_of_le hq1 hb37.size
    clear hb7 hY6 hX6
    go_wp2_with fail
    refine (Join2_any _ _ (by first | rfl | simp) hX7 (show IsText w7 (.slice A l.length cap) l from ⟨A, cap, rfl, hcl, hm, hA.later (below_next HB03.out hb37)⟩) (L2 ++ l) rfl (by rw [List.length_append, HN2.out]; omega)).mono ?_
    rintro e w8 ⟨v8, rfl, ho8, hb8⟩
    go_wp2
    go_ret2
    have hfin : tkHead 3 t c r ++ l = L2 ++ l := by
      have e1 := HL1.out
      have e2 := HL2.out
      unfold tkHead
      rw [show hC 3 = false from rfl, show hR 3 = true from rfl]
      subst_vars
      simp
    exact ⟨_, rfl, by rw [hfin]; exact ho8.mono (by have := (below_next HB03.out hb37).size; omega), below_next (below_next HB03.out hb37) hb8⟩)

set_option maxHeartbeats 1000000 in
theorem Put_no (k t c r : Int) (A : Option Addr) (cap : Nat) (l : List UInt8) (W : World) (hok : tkOk k c r l.length = false) :
    Calls Try.prog 17 #[.agg #[.int .i64 k, .int .u64 t, .int .u64 c, .int .u64 r, .slice A l.length cap]] W (GivesN 130 W []) := by
  have HR := Lib.hid (fun w => right_any k t c r A l.length cap w)
  have HOK := Lib.hid hok
  clear hok
  go_enter Try.func17, Try.ntmps17
  go_wp2_with fail
  refine (HR.out _).mono ?_
  rw [HOK.out]
  rintro e w1 ⟨rfl, hb⟩
  go_wp2
  go_ret2
  exact ⟨_, rfl, Own.nil _ _ _, below_next (below_alloc (Below.refl _ _) _) hb⟩

theorem Put_any (k t c r : Int) (A : Option Addr) (cap : Nat) (l : List UInt8) (ht : 0 ≤ t) (hc : 0 ≤ c) (hr : 0 ≤ r) (W : World) (hA : Bytes W W.heap.size A l) (hcl : l.length ≤ cap) (hm : cap ≤ maxLen) :
    Calls Try.prog 17 #[.agg #[.int .i64 k, .int .u64 t, .int .u64 c, .int .u64 r, .slice A l.length cap]] W (GivesN (tkErr k c r l.length) W (tkPut k t c r l)) := by
  unfold tkErr tkPut
  cases h : tkOk k c r l.length with
  | false => exact Put_no k t c r A cap l W h
  | true =>
    have hk : k = 0 ∨ k = 1 ∨ k = 2 ∨ k = 3 := by
      unfold tkOk at h
      simp only [Bool.and_eq_true, hB] at h
      have := of_decide_eq_true h.1
      omega
    rcases hk with rfl | rfl | rfl | rfl
    · exact Put_0 t c r A cap l ht hc hr W hA hcl hm h
    · exact Put_1 t c r A cap l ht hc hr W hA hcl hm h
    · exact Put_2 t c r A cap l ht hc hr W hA hcl hm h
    · exact Put_3 t c r A cap l ht hc hr W hA hcl hm h
end Go.Proofs.Ytonjdkankegdaaa.Token
