
/- Layer 13 (probe): the law on Get. -/
import Derived.Test.YtonjdkankegdaaaProbeI
import Derived.Test.YtonjdkankegdaaaProbeL
import Derived.Deep.RegionHeld3
import Derived.Deep.DrawnRows
attribute [local go_sem ↓] Go.wp_at_zero Go.wp_at_succ
namespace Go.Proofs.Ytonjdkankegdaaa.Probe
open Go.RowKit Go.Proofs.Ytonjdkankegdaaa.Mem Go.Proofs.Ytonjdkankegdaaa.Oct Go.Proofs.Ytonjdkankegdaaa.Pkt

theorem prSame_self (k lb : Int) (l : List UInt8) : prSame k lb l k lb l = true := by simp [prSame]
theorem gD_le (l : List UInt8) : (gD l).length ≤ l.length := by
  unfold gD
  split
  · simp
  · simp

set_option maxHeartbeats 8000000 in
/-- ProbeGets -/
theorem ProbeGets_any (D : Option Addr) (cd : Nat) (d : List UInt8) (k lb k' lb' : Int) (A B : Option Addr) (ca cb : Nat) (l m : List UInt8) (W : World) (hD : Bytes W W.heap.size D d) (hA : Bytes W W.heap.size A l) (hB : Bytes W W.heap.size B m)
    (hcd : d.length ≤ cd) (hmd : cd ≤ maxLen) (hdl : d.length ≤ 140737488355328) (hl : l.length ≤ maxLen) (hm : m.length ≤ maxLen) :
    Calls Try.prog 6 #[.slice D d.length cd, .agg #[.int .i64 k, .int .i64 lb, .slice A l.length ca], .agg #[.int .i64 k', .int .i64 lb', .slice B m.length cb]] W fun e W' => e = .returned (.bool true) ∧ Below W.heap.size W W' := by
  have hb0 : Below W.heap.size W ((W.alloc (.cells #[.int .i64 k, .int .i64 lb, .slice A l.length ca] 41)).alloc (.cells #[.int .i64 k', .int .i64 lb', .slice B m.length cb] 41)) := below_alloc (below_alloc (Below.refl _ _) _) _
  have HCD := Lib.hid hcd
  have HMD := Lib.hid hmd
  have HDL := Lib.hid hdl
  have HL := Lib.hid hl
  have HM := Lib.hid hm
  have HGD := Lib.hid (gD_le d)
  clear hcd hmd hdl hl hm
  have hc1 := fun w h => Get_any D cd d w HCD.out HMD.out HDL.out h
  have hc2 := fun w h => refGet_any D cd d w HCD.out HMD.out HDL.out h
  unfold GivesP at hc1 hc2
  generalize gK d = gk at hc1 hc2
  generalize gL d = gl at hc1 hc2
  generalize gD d = gd at hc1 hc2 HGD
  generalize gE d = ge at hc1 hc2
  have HC1 := Lib.hid hc1
  have HC2 := Lib.hid hc2
  clear hc1 hc2
  have hgl : gd.length ≤ maxLen := by have := HGD.out; have := HDL.out; unfold maxLen; omega
  have HGL := Lib.hid hgl
  clear hgl
  go_enter Try.func6, Try.ntmps6
  go_wp2_with fail
  refine (HC1.out _ (hD.later hb0)).mono ?_
  rintro e w1 ⟨v1, rfl, ht1, hb⟩
  obtain ⟨A1, c1, rfl, _, _, hx1⟩ := ht1
  have hb01 := below_next hb0 hb
  obtain ⟨hcl, hf⟩ := bcell hb
  have hp0 : w1.cell? ⟨W.heap.size, 0, none⟩ = some (.int .i64 k) := by rw [hcl _ _ (by simp; omega)]; simp [go_sem, World.cell?_alloc_past, World.cell?_alloc_at]
  have hp1 : w1.cell? ⟨W.heap.size, 1, none⟩ = some (.int .i64 lb) := by rw [hcl _ _ (by simp; omega)]; simp [go_sem, World.cell?_alloc_past, World.cell?_alloc_at]
  have hp2 : w1.cell? ⟨W.heap.size, 2, none⟩ = some (.slice A l.length ca) := by rw [hcl _ _ (by simp; omega)]; simp [go_sem, World.cell?_alloc_past, World.cell?_alloc_at]
  have hq0 : w1.cell? ⟨W.heap.size + 1, 0, none⟩ = some (.int .i64 k') := by rw [hcl _ _ (by simp)]; simp [go_sem]
  have hq1 : w1.cell? ⟨W.heap.size + 1, 1, none⟩ = some (.int .i64 lb') := by rw [hcl _ _ (by simp)]; simp [go_sem]
  have hq2 : w1.cell? ⟨W.heap.size + 1, 2, none⟩ = some (.slice B m.length cb) := by rw [hcl _ _ (by simp)]; simp [go_sem]
  have hz1 : W.heap.size + 2 ≤ w1.heap.size := by have := hb.size; simp at this; omega
  have hbx := below_alloc (Below.refl w1.heap.size w1) (.cells #[.int .i64 gk, .int .i64 gl, .slice A1 gd.length c1] 41)
  clear hcl hf hb
  go_wp2_with fail
  refine (HC2.out _ (hD.later (below_next hb01 hbx))).mono ?_
  rintro e w2 ⟨v2, rfl, ht2, hb⟩
  obtain ⟨A2, c2, rfl, _, _, hx2⟩ := ht2
  have hb12 := below_next hbx hb
  obtain ⟨hcl, hf⟩ := bcell hb
  have hz2 : w1.heap.size + 1 ≤ w2.heap.size := by have := hb.size; simp at this; omega
  obtain ⟨w3, hw3⟩ : ∃ w3, w3 = w2.alloc (.cells #[.int .i64 gk, .int .i64 gl, .slice A2 gd.length c2] 41) := ⟨_, rfl⟩
  have hb23 : Below w2.heap.size w2 w3 := by rw [hw3]; exact below_alloc (Below.refl _ _) _
  have hz3 : w3.heap.size = w2.heap.size + 1 := by rw [hw3]; simp
  have hkeep : ∀ w', Below w3.heap.size w3 w' →
      (w'.cell? ⟨W.heap.size, 0, none⟩ = some (.int .i64 k) ∧ w'.cell? ⟨W.heap.size, 1, none⟩ = some (.int .i64 lb) ∧ w'.cell? ⟨W.heap.size, 2, none⟩ = some (.slice A l.length ca) ∧
       w'.cell? ⟨W.heap.size + 1, 0, none⟩ = some (.int .i64 k') ∧ w'.cell? ⟨W.heap.size + 1, 1, none⟩ = some (.int .i64 lb') ∧ w'.cell? ⟨W.heap.size + 1, 2, none⟩ = some (.slice B m.length cb) ∧
       w'.cell? ⟨w1.heap.size, 0, none⟩ = some (.int .i64 gk) ∧ w'.cell? ⟨w1.heap.size, 1, none⟩ = some (.int .i64 gl) ∧ w'.cell? ⟨w1.heap.size, 2, none⟩ = some (.slice A1 gd.length c1) ∧
       w'.cell? ⟨w2.heap.size, 0, none⟩ = some (.int .i64 gk) ∧ w'.cell? ⟨w2.heap.size, 1, none⟩ = some (.int .i64 gl) ∧ w'.cell? ⟨w2.heap.size, 2, none⟩ = some (.slice A2 gd.length c2)) := by
    intro w' hb'
    have key : ∀ bb o, bb < w1.heap.size → w'.cell? ⟨bb, o, none⟩ = w1.cell? ⟨bb, o, none⟩ := fun bb o h => by
      rw [(bcell hb').1 _ _ (by omega), (bcell hb23).1 _ _ (by omega), (bcell hb12).1 _ _ h]
    have key2 : ∀ o, w'.cell? ⟨w1.heap.size, o, none⟩ = (w1.alloc (.cells #[.int .i64 gk, .int .i64 gl, .slice A1 gd.length c1] 41)).cell? ⟨w1.heap.size, o, none⟩ := fun o => by
      rw [(bcell hb').1 _ _ (by omega), (bcell hb23).1 _ _ (by omega), hcl _ _ (by simp)]
    have key3 : ∀ o, w'.cell? ⟨w2.heap.size, o, none⟩ = w3.cell? ⟨w2.heap.size, o, none⟩ := fun o => (bcell hb').1 _ _ (by omega)
    rw [hw3] at key3
    refine ⟨(key _ _ (by omega)).trans hp0, (key _ _ (by omega)).trans hp1, (key _ _ (by omega)).trans hp2, (key _ _ (by omega)).trans hq0, (key _ _ (by omega)).trans hq1, (key _ _ (by omega)).trans hq2,
      (key2 _).trans ?_, (key2 _).trans ?_, (key2 _).trans ?_, (key3 _).trans ?_, (key3 _).trans ?_, (key3 _).trans ?_⟩ <;> simp [go_sem]
  have HK := Lib.hid hkeep
  have hS := hkeep w3 (Below.refl _ _)
  have hb03 := below_next (below_next hb01 hb12) hb23
  have hX1 := (hx1.later hb12).later hb23
  have hX2 := hx2.later hb23
  have HB03 := Lib.hid hb03
  clear hkeep hcl hf hb hb12 hbx hp0 hp1 hp2 hq0 hq1 hq2 hb01 hb23 hb03 hx1 hx2 hb0
  have HX1 := Lib.hid hX1
  have HX2 := Lib.hid hX2
  clear hX1 hX2
  have HZ3 := Lib.hid hz3
  clear hz3
  go_wp2_with fail
  rw [← hw3]
  clear hw3
  obtain ⟨pq, hpq⟩ : ∃ pq, pq = prSame k lb l k' lb' m := ⟨_, rfl⟩
  have hc3 : ∀ w, Below w3.heap.size w3 w → Calls Try.prog 27 #[.agg #[.int .i64 gk, .int .i64 gl, .slice A1 gd.length c1], .agg #[.int .i64 gk, .int .i64 gl, .slice A2 gd.length c2]] w fun e W' => e = .returned (.bool true) ∧ Below w.heap.size w W' := by
    intro w h
    have := refPrSame_any gk gl gk gl A1 A2 c1 c2 gd gd w (HX1.out.later h) (HX2.out.later h) HGL.out HGL.out
    rw [prSame_self] at this
    exact this
  have hc4 : ∀ w, Below w3.heap.size w3 w → Calls Try.prog 28 #[.agg #[.int .i64 k, .int .i64 lb, .slice A l.length ca], .agg #[.int .i64 k', .int .i64 lb', .slice B m.length cb]] w fun e W' => e = .returned (.bool pq) ∧ Below w.heap.size w W' := by
    intro w h
    have := Same_any k lb k' lb' A B ca cb l m w (hA.later (below_next HB03.out h)) (hB.later (below_next HB03.out h))
    rw [← hpq] at this
    exact this
  have hc5 : ∀ w, Below w3.heap.size w3 w → Calls Try.prog 27 #[.agg #[.int .i64 k, .int .i64 lb, .slice A l.length ca], .agg #[.int .i64 k', .int .i64 lb', .slice B m.length cb]] w fun e W' => e = .returned (.bool pq) ∧ Below w.heap.size w W' := by
    intro w h
    have := refPrSame_any k lb k' lb' A B ca cb l m w (hA.later (below_next HB03.out h)) (hB.later (below_next HB03.out h)) HL.out HM.out
    rw [← hpq] at this
    exact this
  have hc6 : ∀ w, Below w3.heap.size w3 w → Calls Try.prog 28 #[.agg #[.int .i64 k, .int .i64 lb, .slice A l.length ca], .agg #[.int .i64 k, .int .i64 lb, .slice A l.length ca]] w fun e W' => e = .returned (.bool true) ∧ Below w.heap.size w W' := by
    intro w h
    have := Same_any k lb k lb A A ca ca l l w (hA.later (below_next HB03.out h)) (hA.later (below_next HB03.out h))
    rw [prSame_self] at this
    exact this
  have HC3 := Lib.hid hc3
  have HC4 := Lib.hid hc4
  have HC5 := Lib.hid hc5
  have HC6 := Lib.hid hc6
  have hpp : (pq == pq) = true := beq_self_eq_true pq
  clear hc3 hc4 hc5 hc6 hpq
  go_region_held3 (fun w' => w'.cell? ⟨W.heap.size, 0, none⟩ = some (.int .i64 k) ∧ w'.cell? ⟨W.heap.size, 1, none⟩ = some (.int .i64 lb) ∧ w'.cell? ⟨W.heap.size, 2, none⟩ = some (.slice A l.length ca) ∧
       w'.cell? ⟨W.heap.size + 1, 0, none⟩ = some (.int .i64 k') ∧ w'.cell? ⟨W.heap.size + 1, 1, none⟩ = some (.int .i64 lb') ∧ w'.cell? ⟨W.heap.size + 1, 2, none⟩ = some (.slice B m.length cb) ∧
       w'.cell? ⟨w1.heap.size, 0, none⟩ = some (.int .i64 gk) ∧ w'.cell? ⟨w1.heap.size, 1, none⟩ = some (.int .i64 gl) ∧ w'.cell? ⟨w1.heap.size, 2, none⟩ = some (.slice A1 gd.length c1) ∧
       w'.cell? ⟨w2.heap.size, 0, none⟩ = some (.int .i64 gk) ∧ w'.cell? ⟨w2.heap.size, 1, none⟩ = some (.int .i64 gl) ∧ w'.cell? ⟨w2.heap.size, 2, none⟩ = some (.slice A2 gd.length c2))
    (first | exact hS8 | exact hS7 | exact hS6 | exact hS5 | exact hS4 | exact hS | go_keep)
    ((first
      | (go_at_call 23; refine (num_any _ _).mono ?_; rintro e w' ⟨rfl, rfl⟩)
      | (go_at_call_of 27 (Value.agg #[.int .i64 gk, .int .i64 gl, .slice A1 gd.length c1]); refine (HC3.out _ (by exact Below.drew (Below.refl w3.heap.size w3))).mono ?_; rintro e w4 ⟨rfl, hb4⟩
         have hb34 := below_undrew hb4
         have hS4 := HK.out _ hb34)
      | (go_at_call 28; ((with_reducible refine (HC4.out _ ?_).mono ?_); exact hb34); rintro e w5 ⟨rfl, hb5⟩
         have hb35 := below_next hb34 hb5
         have hS5 := HK.out _ hb35)
      | (go_at_call 27; ((with_reducible refine (HC5.out _ ?_).mono ?_); exact hb35); rintro e w6 ⟨rfl, hb6⟩
         have hb36 := below_next hb35 hb6
         have hS6 := HK.out _ hb36)
      | (go_at_call 28; ((with_reducible refine (HC6.out _ ?_).mono ?_); exact hb36); rintro e w7 ⟨rfl, hb7⟩
         have hb37 := below_next hb36 hb7
         have hS7 := HK.out _ hb37)
      | (go_at_call 24; refine (live_any _).mono ?_; rintro e w8 ⟨rfl, hb8⟩
         have hb38 := below_next hb37 hb8
         have hS8 := HK.out _ hb38)
      | fail))
  all_goals go_wp2_with fail
  all_goals go_ret
  all_goals exact ⟨rfl, below_next HB03.out hb38⟩
end Go.Proofs.Ytonjdkankegdaaa.Probe
