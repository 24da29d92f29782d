
/- Layer 48 (tune): the law on all settings. -/
import Derived.Test.YtcbjimcnbdkaoaaTuneD
namespace Go.Proofs.Ytcbjimcnbdkaoaa.Tune
open Go.RowKit Go.Proofs.Ytcbjimcnbdkaoaa.Ring Go.ChangeShapes Go.WideShapes

def nthP (ls : List Pr) (k : Nat) : Pr := ls.getD k (0, 0)
theorem cfgs_at (m : Int) : ∀ (ls : List Pr) (k j : Nat), k < ls.length → j < 7 → (cfgs m ls)[k * 7 + j]? = (cfg m (nthP ls k))[j]?
  | p :: ls, 0, j, _, hj => by
    unfold cfgs
    rw [List.flatMap_cons, List.getElem?_append_left (by simp [cfg]; omega), Nat.zero_mul, Nat.zero_add]
    rfl
  | p :: ls, k + 1, j, hk, hj => by
    have ih := cfgs_at m ls k j (by simpa using hk) hj
    unfold cfgs at ih ⊢
    rw [List.flatMap_cons, List.getElem?_append_right (by simp [cfg]; omega)]
    have e : (k + 1) * 7 + j - (cfg m p).length = k * 7 + j := by simp [cfg]; omega
    rw [e, ih]
    rfl
/-- what stands in a row's k'th place -/
theorem OwnC.at_ {w : World} {base : Nat} {A : Option Addr} {n cap : Nat} {m : Int} {ls : List Pr} (h : OwnC w base (.slice A n cap) m ls) {k : Nat} (hk : k < ls.length) :
    ∃ g, A = some ⟨g, 0, none⟩ ∧ w.cell? ⟨g, k * 7, none⟩ = some (.int .i64 2) ∧ w.cell? ⟨g, k * 7 + 1, none⟩ = some (.int .i64 (nthP ls k).1) ∧ w.cell? ⟨g, k * 7 + 2, none⟩ = some (.int .i64 m) ∧ w.cell? ⟨g, k * 7 + 3, none⟩ = some (.int .i64 (nthP ls k).2) ∧
      w.cell? ⟨g, k * 7 + 4, none⟩ = some (.int .i64 0) ∧ w.cell? ⟨g, k * 7 + 5, none⟩ = some (.int .i64 0) ∧ w.cell? ⟨g, k * 7 + 6, none⟩ = some (.int .u64 0) := by
  have h' := h
  rcases h.2 with ⟨_, h0⟩ | ⟨g, cap', cur, hv, _, hg, _, _, _, htake⟩
  · omega
  · injection hv with hA hn _
    subst hA
    have key : ∀ j, j < 7 → w.cell? ⟨g, k * 7 + j, none⟩ = (cfg m (nthP ls k))[j]? := fun j hj => by
      rw [cell_of_row w g _ cur _ (0, 0) hg, ← cfgs_at m ls k j hk hj, ← htake]
      rw [List.getElem?_take, if_pos (by omega)]
      simp
    exact ⟨g, rfl, key 0 (by decide), key 1 (by decide), key 2 (by decide), key 3 (by decide), key 4 (by decide), key 5 (by decide), key 6 (by decide)⟩

def Drawn (W W' : World) : Prop := ∃ n, W' = W.drewN n
theorem Drawn.refl (W : World) : Drawn W W := ⟨0, rfl⟩
theorem Drawn.step {W w : World} (h : Drawn W w) (n : Nat) : Drawn W (w.drewN n) := by
  obtain ⟨k, rfl⟩ := h
  exact ⟨k + n, by simp [World.drewN, Nat.add_assoc]⟩
theorem Drawn.own {W w : World} (h : Drawn W w) {base : Nat} {v : Value} {m : Int} {ls : List Pr} (ho : OwnC W base v m ls) : OwnC w base v m ls := by
  obtain ⟨k, rfl⟩ := h
  exact ho
theorem Drawn.below {W w : World} (h : Drawn W w) (B : Nat) : Below B W w := by
  obtain ⟨k, rfl⟩ := h
  have := Below.refl B W
  exact ⟨this.os, this.tape, this.output, this.size, this.block⟩

theorem allK_le (m n : Int) : (allK m n).length ≤ 1000 := by
  unfold allK
  split
  · rw [List.length_take]; omega
  · simp

set_option maxHeartbeats 4000000 in
/-- TuneAll -/
theorem TuneAll_any (m n : Int) (W : World) :
    Calls Try.prog 9 #[.int .i64 m, .int .i64 n] W fun e W' => e = .returned (.bool true) ∧ Below W.heap.size W W' := by
  have c1 := fun w => All_any m n w
  have c2 := fun w => refAll_any m n w
  have hle := allK_le m n
  unfold GivesC at c1 c2
  generalize allK m n = ls at c1 c2 hle
  have C1 := Lib.hid c1
  have C2 := Lib.hid c2
  have HLE := Lib.hid hle
  clear c1 c2 hle
  go_enter Try.func9, Try.ntmps9
  go_wp2_with fail
  refine (C1.out _).mono ?_
  rintro e w1 ⟨v1, rfl, ho1, hb1⟩
  obtain ⟨A1, n1, k1, rfl, hn1⟩ := ho1.shape
  go_wp2_with fail
  refine (C2.out _).mono ?_
  rintro e w2 ⟨v2, rfl, ho2, hb2⟩
  obtain ⟨A2, n2, k2, rfl, hn2⟩ := ho2.shape
  subst hn1
  subst hn2
  have ho1' : OwnC w2 W.heap.size (.slice A1 ls.length k1) m ls := by
    rcases ho1.2 with h0 | ⟨g, cap, cur, hv, hbg, hg, r⟩
    · exact ⟨ho1.1, .inl h0⟩
    · exact ⟨ho1.1, .inr ⟨g, cap, cur, hv, hbg, (hb2.block g (Array.getElem?_eq_some_iff.1 hg).1).trans hg, r⟩⟩
  have hb := hb1.trans (hb2.mono hb1.size)
  have HO1 := Lib.hid ho1'
  have HO2 := Lib.hid ho2
  have HB := Lib.hid hb
  clear ho1 ho1' ho2 hb1 hb2 hb
  go_wp2_with (first
    | (go_at_call 30; refine (Bits_any _ _).mono ?_; rintro e w' ⟨rfl, rfl⟩)
    | (go_at_call 31; refine (refBits_any _ _).mono ?_; rintro e w' ⟨rfl, rfl⟩))
  go_loopw [7] (fun i wr => ∃ k : Nat, k ≤ ls.length ∧ i = .int .i64 k ∧ Drawn w2 wr) (fun i _ => ls.length - (intOf i).toNat)
  case atStart => exact ⟨0, by omega, rfl, Drawn.refl _⟩
  case round =>
    obtain ⟨k, hk, rfl, hw⟩ := hrel
    by_cases hlt : k < ls.length
    · obtain ⟨g1, rfl, a0, a1, a2, a3, a4, a5, a6⟩ := (hw.own HO1.out).at_ hlt
      obtain ⟨g2, rfl, b0, b1, b2, b3, b4, b5, b6⟩ := (hw.own HO2.out).at_ hlt
      have hlt' : (k : Int) < (ls.length : Int) := by omega
      have hk9 : (k : Int) ≤ 1000 := by have := HLE.out; omega
      go_wp2
      go_quiet (fail)
      go_wp2
      go_roundw
      case rel => exact ⟨k + 1, by omega, by go_num, hw.step _⟩
      case measure => simp [intOf]; omega
    · obtain rfl : k = ls.length := by omega
      go_wp2_with (go_at_call 27; refine (live_any _).mono ?_; rintro e w' ⟨rfl, rfl⟩)
      go_ret
      exact ⟨rfl, HB.out.trans (hw.below _)⟩
end Go.Proofs.Ytcbjimcnbdkaoaa.Tune
