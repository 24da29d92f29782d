
/- Layer 5 (deframe): the scanner's small functions. -/
import Derived.Test.YtfieinajkkcelaaDefW
import Derived.Test.YtfieinajkkcelaaFrmN
import Derived.WalkMore
namespace Go.Proofs.Ytfieinajkkcelaa.Def
open Go.RowKit Go.Proofs.Ytfieinajkkcelaa.Mem Go.Proofs.Ytfieinajkkcelaa.Oct Go.Proofs.Ytfieinajkkcelaa.Pkt Go.Proofs.Ytfieinajkkcelaa.DefM Go.Proofs.Ytfieinajkkcelaa.FrmM

theorem is_yes (b tb : Nat) (W : World) (h : W.cell? ⟨b, 0, none⟩ = some (.pointer (some ⟨tb, 0, none⟩))) :
    Calls Try.prog 37 #[.pointer (some ⟨b, 0, none⟩)] W fun e W' => e = .returned (.bool true) ∧ W = W' := by
  go_enter Try.func37, Try.ntmps37
  go_wp2
  go_ret
  exact ⟨rfl, rfl⟩
theorem is_nil (W : World) : Calls Try.prog 37 #[.pointer none] W fun e W' => e = .returned (.bool false) ∧ W = W' := by
  go_enter Try.func37, Try.ntmps37
  go_wp2
  go_ret
  exact ⟨rfl, rfl⟩
theorem is_zero (b : Nat) (W : World) (h : W.cell? ⟨b, 0, none⟩ = some (.pointer none)) :
    Calls Try.prog 37 #[.pointer (some ⟨b, 0, none⟩)] W fun e W' => e = .returned (.bool false) ∧ W = W' := by
  go_enter Try.func37, Try.ntmps37
  go_wp2
  go_ret
  exact ⟨rfl, rfl⟩

/-- a new scanner: where it lies -/
def GivesNew (w : World) (tb : Nat) (e : Ending) (w' : World) : Prop := ∃ b, e = .returned (.pointer (some ⟨b, 0, none⟩)) ∧ w.heap.size ≤ b ∧ b < w'.heap.size ∧ ScanAt w' b tb (.slice none 0 0) St0 ∧ Below w.heap.size w w'
theorem New_any (tb : Nat) (W : World) (ht : Crc.Tab W tb) (hb : tb < W.heap.size) : Calls Try.prog 14 #[.pointer (some ⟨tb, 0, none⟩)] W (GivesNew W tb) := by
  have HW := Lib.hid (fun w ht hbs h => Frm.Wrap_any tb none 0 0 [] w rfl (Nat.le_refl _) (Nat.zero_le _) ht hbs h)
  have E0 := Lib.hid (show we [] = 0 from rfl)
  go_enter Try.func14, Try.ntmps14
  go_wp2_with fail
  refine (HW.out _ ht hb (Bytes.nil _ _ _)).mono ?_
  rw [E0.out]
  rintro e w1 ⟨v1, rfl, ho1, hb1⟩
  obtain ⟨A1, k1, rfl, _, _, _⟩ := ho1.shape
  clear ho1
  go_wp2_with fail
  go_ret
  refine ⟨w1.heap.size, rfl, hb1.size, by simp, ⟨?_, ?_, ?_, ?_, ?_, ?_, ?_, fun i => ?_⟩, below_alloc hb1 _⟩ <;> simp [go_sem, St0]
theorem Seen_any (b tb : Nat) (v : Value) (S : St) (W : World) (h : ScanAt W b tb v S) (hb : b < W.heap.size) :
    Calls Try.prog 17 #[.pointer (some ⟨b, 0, none⟩)] W fun e W' => e = .returned (.agg #[.int .i64 S.good, .int .i64 S.bad, .int .i64 S.long, .int .i64 S.noise]) ∧ Below W.heap.size W W' := by
  obtain ⟨c0, c1, c2, c3, c4, c5, c6, fz⟩ := h
  have HI := Lib.hid (fun w h => is_yes b tb w h)
  have C0 := Lib.hid (((chg_alloc W (.cells #[.int .i64 0, .int .i64 0, .int .i64 0, .int .i64 0] 33)).cell (p := ⟨b, 0, none⟩) hb (by simp)).trans c0)
  have hne : ¬ b = W.heap.size := by omega
  have hne2 : ¬ W.heap.size = b := by omega
  clear c1 c2 fz
  go_enter Try.func17, Try.ntmps17
  go_wp2_with (go_at_call 37; refine (HI.out _ C0.out).mono ?_; rintro e w' ⟨rfl, rfl⟩)
  exact bodyPost_ret (v := .agg #[.int .i64 S.good, .int .i64 S.bad, .int .i64 S.long, .int .i64 S.noise]) (by simp [results, Try.results17, go_sem]) rfl ⟨rfl, below_alloc (Below.refl _ _) _⟩

theorem Reset_any (b tb : Nat) (v : Value) (S : St) (W : World) (h : ScanAt W b tb v S) :
    Calls Try.prog 24 #[.pointer (some ⟨b, 0, none⟩)] W fun e W' => e = .returned (.tuple #[]) ∧ ScanAt W' b tb (.slice none 0 0) St0 ∧ Chg (fun g => g = b) W W' := by
  obtain ⟨c0, c1, c2, c3, c4, c5, c6, fz⟩ := h
  have HI := Lib.hid (fun w h => is_yes b tb w h)
  have HS := Lib.hid (((((((ScanAt.set0 ⟨c0, c1, c2, c3, c4, c5, c6, fz⟩).set1 0).set2 (.slice none 0 0) []).set3 0).set4 0).set5 0).set6 0)
  have f0 := fz 0
  have f1 := fz 1
  have f2 := fz 2
  have f3 := fz 3
  have f4 := fz 4
  have f5 := fz 5
  have f6 := fz 6
  have FZ := Lib.hid fz
  clear fz
  go_enter Try.func24, Try.ntmps24
  go_wp2_with (go_at_call 37; refine (HI.out _ c0).mono ?_; rintro e w' ⟨rfl, rfl⟩)
  exact bodyPost_end (v := .tuple #[]) (by simp [results, Try.results24, go_sem]) rfl ⟨rfl, HS.out, ((((((((Chg.refl _ _).trans (chg_set _ ⟨b, 0, none⟩ _)).trans (chg_set _ ⟨b, 1, none⟩ _)).trans (chg_set _ ⟨b, 2, none⟩ _)).trans (chg_set _ ⟨b, 3, none⟩ _)).trans (chg_set _ ⟨b, 4, none⟩ _)).trans (chg_set _ ⟨b, 5, none⟩ _)).trans (chg_set _ ⟨b, 6, none⟩ _))⟩

theorem New_nil (W : World) : Calls Try.prog 14 #[.pointer none] W fun e W' => e = .returned (.pointer none) ∧ W = W' := by
  go_enter Try.func14, Try.ntmps14
  go_wp2_with (go_at_call 35; refine (Frm.Wrap_nil _ _).mono ?_; rintro e w' ⟨rfl, rfl⟩)
  go_ret
  exact ⟨rfl, rfl⟩
theorem Reset_nil (W : World) : Calls Try.prog 24 #[.pointer none] W fun e W' => e = .returned (.tuple #[]) ∧ W = W' := by
  go_enter Try.func24, Try.ntmps24
  go_wp2_with (go_at_call 37; refine (is_nil _).mono ?_; rintro e w' ⟨rfl, rfl⟩)
  exact bodyPost_end (v := .tuple #[]) (by simp [results, Try.results24, go_sem]) rfl ⟨rfl, rfl⟩
theorem Seen_nil (W : World) : Calls Try.prog 17 #[.pointer none] W fun e W' => e = .returned (.agg #[.int .i64 0, .int .i64 0, .int .i64 0, .int .i64 0]) ∧ Below W.heap.size W W' := by
  have hb0 := below_alloc (Below.refl W.heap.size W) (.cells #[.int .i64 0, .int .i64 0, .int .i64 0, .int .i64 0] 33)
  go_enter Try.func17, Try.ntmps17
  go_wp2_with (go_at_call 37; refine (is_nil _).mono ?_; rintro e w' ⟨rfl, rfl⟩)
  exact bodyPost_ret (v := .agg #[.int .i64 0, .int .i64 0, .int .i64 0, .int .i64 0]) (by simp [results, Try.results17, go_sem]) rfl ⟨rfl, hb0⟩
theorem Feed_nil (v : Value) (W : World) : Calls Try.prog 16 #[.pointer none, v] W fun e W' => e = .returned (.slice none 0 0) ∧ W = W' := by
  go_enter Try.func16, Try.ntmps16
  go_wp2
  go_step3
  go_wp2_with (go_at_call 37; refine (is_nil _).mono ?_; rintro e w' ⟨rfl, rfl⟩)
  rw [Exit.noGoto_ret]
  go_ret
  exact ⟨rfl, rfl⟩
theorem Feed_zero (b : Nat) (v : Value) (W : World) (h : W.cell? ⟨b, 0, none⟩ = some (.pointer none)) : Calls Try.prog 16 #[.pointer (some ⟨b, 0, none⟩), v] W fun e W' => e = .returned (.slice none 0 0) ∧ W = W' := by
  go_enter Try.func16, Try.ntmps16
  go_wp2
  go_step3
  go_wp2_with (go_at_call 37; refine (is_zero b _ h).mono ?_; rintro e w' ⟨rfl, rfl⟩)
  rw [Exit.noGoto_ret]
  go_ret
  exact ⟨rfl, rfl⟩

/-- what a stretch's end answers -/
def GivesEnd (w : World) (b tb : Nat) (S : St) (e : Ending) (w' : World) : Prop :=
  ∃ v, e = .returned (.tuple #[v, .bool (!(ends S).2.isEmpty)]) ∧ ScanAt w' b tb (.slice none 0 0) (ends S).1 ∧ Chg (fun g => g = b) w w' ∧ Own 5 w' w.heap.size v ((ends S).2.headD [])

set_option maxHeartbeats 2000000 in
theorem ends_any (b tb : Nat) (v : Value) (S : St) (W : World) (h : ScanAt W b tb v S) (hb : b < W.heap.size) (ht : Crc.Tab W tb) (htb : tb < W.heap.size) (hne : tb ≠ b)
    (hv : TextP (fun g => g ≠ b) W v S.stretch) (hs : S.stretch.length ≤ 201) (htot : total S ≤ 1000000000) :
    Calls Try.prog 38 #[.pointer (some ⟨b, 0, none⟩)] W (GivesEnd W b tb S) := by
  obtain ⟨A, c, rfl, hcl, hcm, hr⟩ := hv
  have hS := h.set2 (.slice none 0 0) []
  have hk2 := chg_set W ⟨b, 2, none⟩ (.slice none 0 0)
  have hr2 := hr.chg hk2 (fun g _ hg => hg)
  have ht2 := tab_chg ht hk2 htb hne
  obtain ⟨c0, c1, c2, c3, c4, c5, c6, fz⟩ := h
  have f2 := fz 2
  unfold total at htot
  unfold GivesEnd
  by_cases he : S.stretch = []
  · have e1 := ends_nil he
    rw [e1]
    have hsz : S = { S with stretch := [] } := by cases S; simp only at he; subst he; rfl
    rw [← hsz] at hS
    have HS := Lib.hid hS
    have HK := Lib.hid hk2
    rw [he] at c2
    clear hr hr2 ht2 ht hS hk2 c0 c1 c3 c4 c5 c6 fz e1 hsz
    go_enter Try.func38, Try.ntmps38
    go_wp2_with fail
    go_ret2
    exact ⟨_, rfl, HS.out, HK.out, Own.nil _ _ _⟩
  · have hln : ((S.stretch.length : Int) == 0) = false := by
      rw [beq_eq_false_iff_ne]
      intro h0
      exact he (List.eq_nil_of_length_eq_zero (by omega))
    have hbody := fun w ht hbs hA => Frm.Body_any tb A S.stretch.length c S.stretch w rfl (by omega) ht hbs hA
    have hd2 : (W.setCell ⟨b, 2, none⟩ (.slice none 0 0)).cell? ⟨b, 0, none⟩ = some (.pointer (some ⟨tb, 0, none⟩)) := hS.c0
    cases hF : bodyF S.stretch with
    | none =>
      rw [hF] at hbody
      rw [ends_bad he hF]
      have HB := Lib.hid hbody
      have HS := Lib.hid hS
      have HK := Lib.hid hk2
      have HT := Lib.hid ht2
      have HR := Lib.hid hr2.bytes
      have hsb : (S.bad : Int) ≤ 1000000000 := by omega
      have hsb0 : (0 : Int) ≤ (S.bad : Int) := by omega
      clear hbody hr hr2 ht2 ht hS hk2 c1 c3 c5 c6 hF he
      go_enter Try.func38, Try.ntmps38
      go_wp2_with fail
      refine (HB.out _ HT.out (by simp [World.setCell]; omega) HR.out).mono ?_
      rintro e w2 ⟨v2, rfl, ho2, hb2⟩
      have hk := chg_below hb2
      have hS2 := HS.out.chg (by simp [World.setCell]; omega) hk (by simp)
      have d4 : w2.cell? ⟨b, 4, none⟩ = some (.int .i64 S.bad) := hS2.c4
      have g4 := hS2.fz 4
      have HS4 := Lib.hid (hS2.set4 (S.bad + 1))
      have HK4 := Lib.hid ((HK.out.more hk (fun _ _ h => h.elim)).trans (chg_set w2 ⟨b, 4, none⟩ (.int .i64 ((S.bad + 1 : Nat) : Int))))
      clear hk hS2 hb2 ho2
      go_wp2_with fail
      go_ret2
      exact ⟨_, rfl, HS4.out, HK4.out, Own.nil _ _ _⟩
    | some x =>
      rw [hF] at hbody
      rw [ends_good he hF]
      have HB := Lib.hid hbody
      have HS := Lib.hid hS
      have HK := Lib.hid hk2
      have HT := Lib.hid ht2
      have HR := Lib.hid hr2.bytes
      have hsb : (S.good : Int) ≤ 1000000000 := by omega
      have hsb0 : (0 : Int) ≤ (S.good : Int) := by omega
      clear hbody hr hr2 ht2 ht hS hk2 c1 c4 c5 c6 hF he
      go_enter Try.func38, Try.ntmps38
      go_wp2_with fail
      refine (HB.out _ HT.out (by simp [World.setCell]; omega) HR.out).mono ?_
      rintro e w2 ⟨v2, rfl, ho2, hb2⟩
      have hk := chg_below hb2
      have hS2 := HS.out.chg (by simp [World.setCell]; omega) hk (by simp)
      have d3 : w2.cell? ⟨b, 3, none⟩ = some (.int .i64 S.good) := hS2.c3
      have g3 := hS2.fz 3
      have HS3 := Lib.hid (hS2.set3 (S.good + 1))
      have HK3 := Lib.hid ((HK.out.more hk (fun _ _ h => h.elim)).trans (chg_set w2 ⟨b, 3, none⟩ (.int .i64 ((S.good + 1 : Nat) : Int))))
      have hw : (W.setCell ⟨b, 2, none⟩ (.slice none 0 0)).heap.size = W.heap.size := by simp [World.setCell]
      rw [hw] at ho2
      have HO := Lib.hid (Own.chg ho2 (chg_set w2 ⟨b, 3, none⟩ (.int .i64 ((S.good + 1 : Nat) : Int))) (fun g hg h => by have := (ho2.lt g hg).1; simp only at h; omega))
      obtain ⟨A2, k2, rfl, _, _, _⟩ := ho2.shape
      clear hk hS2 hb2 ho2 hw
      go_wp2_with fail
      go_ret2
      exact ⟨_, rfl, HS3.out, HK3.out, HO.out⟩
end Go.Proofs.Ytfieinajkkcelaa.Def
