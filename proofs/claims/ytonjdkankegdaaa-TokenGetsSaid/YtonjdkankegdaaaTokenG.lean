
/- Layer 15 (token): Get's closure, which cuts the next number. -/
import Derived.Test.YtonjdkankegdaaaTokenQ
import Derived.Test.YtonjdkankegdaaaPktB
namespace Go.Proofs.Ytonjdkankegdaaa.Token
open Go.RowKit Go.Proofs.Ytonjdkankegdaaa.Mem Go.Proofs.Ytonjdkankegdaaa.Oct Go.Proofs.Ytonjdkankegdaaa.Pkt

set_option maxHeartbeats 2000000 in
theorem get1_no (th o : Bool) (bk br : Nat) (h : (th && o) = false) (W : World) (ho : W.cell? ⟨bk, 0, none⟩ = some (.bool o)) :
    Calls Try.prog 58 #[.bool th, .pointer (some ⟨bk, 0, none⟩), .pointer (some ⟨br, 0, none⟩)] W fun e w' => e = .returned (.int .u64 0) ∧ w' = W := by
  cases th
  · go_enter Try.func58, Try.ntmps58
    go_wp2_with fail
    go_ret
    exact ⟨rfl, rfl⟩
  · rw [Bool.true_and] at h
    subst h
    go_enter Try.func58, Try.ntmps58
    go_wp2_with fail
    go_ret
    exact ⟨rfl, rfl⟩

def GivesCut (w : World) (bk br : Nat) (l : List UInt8) (e : Ending) (w' : World) : Prop :=
  e = .returned (.int .u64 (numW (cutA l 8))) ∧ ∃ w1 A1 k1, (cutB l 8).length ≤ k1 ∧ k1 ≤ maxLen ∧ Own 5 w1 w.heap.size (.slice A1 (cutB l 8).length k1) (cutB l 8) ∧ Below w.heap.size w w1 ∧ w' = (w1.setCell ⟨br, 0, none⟩ (.slice A1 (cutB l 8).length k1)).setCell ⟨bk, 0, none⟩ (.bool (cutOk l 8))

theorem cutA_le (l : List UInt8) : (cutA l 8).length ≤ 8 := by
  unfold cutA
  split
  · simp; omega
  · simp

set_option maxHeartbeats 4000000 in
theorem get1_yes (bk br : Nat) (A : Option Addr) (cap : Nat) (l : List UInt8) (W : World) (hb : bk < W.heap.size) (hr : br < W.heap.size) (hbr : bk ≠ br)
    (ho : W.cell? ⟨bk, 0, none⟩ = some (.bool true)) (hs : W.cell? ⟨br, 0, none⟩ = some (.slice A l.length cap)) (hfo : W.frozen? ⟨bk, 0, none⟩ = false) (hfr : W.frozen? ⟨br, 0, none⟩ = false)
    (hA : Bytes W W.heap.size A l) (hc : l.length ≤ cap) (hm : cap ≤ maxLen) (hl : l.length ≤ 140737488355328) :
    Calls Try.prog 58 #[.bool true, .pointer (some ⟨bk, 0, none⟩), .pointer (some ⟨br, 0, none⟩)] W (GivesCut W bk br l) := by
  have C1 := Lib.hid (fun w h => Cut_any A cap l 8 w h hc hm hl)
  have HL := Lib.hid (cutA_le l)
  clear hc hm hl
  unfold GivesCut
  go_enter Try.func58, Try.ntmps58
  go_wp2_with fail
  refine (C1.out _ hA).mono ?_
  rintro e w1 ⟨u, v, rfl, hu, hv, hb1⟩
  obtain ⟨A1, k1, rfl, _, _, _⟩ := hu.shape
  obtain ⟨A2, k2, rfl, _, _, _⟩ := hv.shape
  obtain ⟨hcl, hf⟩ := bcell hb1
  have hrb : ¬ br = bk := fun h => hbr h.symm
  have d0 := (hcl _ 0 hb).trans ho
  have d1 := (hcl _ 0 hr).trans hs
  have f0 := (hf _ 0 hb).trans hfo
  have f1 := (hf _ 0 hr).trans hfr
  have hmid : Mid W.heap.size w1 ((w1.setCell ⟨br, 0, none⟩ (.slice A2 (cutB l 8).length k2)).setCell ⟨bk, 0, none⟩ (.bool (cutOk l 8))) := ((Mid.refl _ _).setCell hr _).setCell hb _
  clear hcl hf
  go_wp2_with fail
  refine (Number_any A1 k1 _ _ (own_mid hu hmid).bytes (by have := HL.out; unfold maxLen; omega)).mono ?_
  rintro e w' ⟨rfl, rfl⟩
  go_wp2
  go_ret
  exact ⟨rfl, w1, A2, k2, by assumption, by assumption, hv, hb1, rfl⟩

/-- bytes that stand in blocks that p allows -/
def RestAt (p : Nat → Prop) (w : World) (A : Option Addr) (l : List UInt8) : Prop :=
  0 < l.length → ∃ b off, A = some ⟨b, off, none⟩ ∧ b < w.heap.size ∧ p b ∧ ∀ i, i < l.length → w.cell? ⟨b, off + i, none⟩ = some (.int .u8 (byteAt l i))
theorem RestAt.bytes {p : Nat → Prop} {w : World} {A : Option Addr} {l : List UInt8} (h : RestAt p w A l) : Bytes w w.heap.size A l := by
  intro hl
  obtain ⟨b, off, h1, h2, _, h3⟩ := h hl
  exact ⟨b, off, h1, h2, h3⟩
theorem RestAt.keep {p : Nat → Prop} {w w' : World} {A : Option Addr} {l : List UInt8} (h : RestAt p w A l) (hs : w.heap.size ≤ w'.heap.size) (hk : ∀ b o, b < w.heap.size → p b → w'.cell? ⟨b, o, none⟩ = w.cell? ⟨b, o, none⟩) : RestAt p w' A l := by
  intro hl
  obtain ⟨b, off, h1, h2, hp, h3⟩ := h hl
  exact ⟨b, off, h1, by omega, hp, fun i hi => (hk b _ h2 hp).trans (h3 i hi)⟩
theorem RestAt.own {p : Nat → Prop} {w : World} {base : Nat} {A : Option Addr} {n k : Nat} {l : List UInt8} (h : Own 5 w base (.slice A n k) l) (hp : ∀ b, base ≤ b → p b) : RestAt p w A l := by
  intro hl
  obtain ⟨b, off, h1, h2, h3⟩ := h.bytes hl
  refine ⟨b, off, h1, h2, ?_, h3⟩
  rcases h.2 with h0 | ⟨g, cap, cur, h0, hbg, hg, r⟩
  · rw [h1] at h0
    exact absurd h0.1 (by simp)
  · rw [h1] at h0
    cases h0
    exact hp _ hbg

def nx (th o : Bool) (l : List UInt8) : Int := if (th && o) = true then numW (cutA l 8) else 0
def no (th o : Bool) (l : List UInt8) : Bool := if (th && o) = true then cutOk l 8 else o
def nr (th o : Bool) (l : List UInt8) : List UInt8 := if (th && o) = true then cutB l 8 else l
/-- all but the two boxes is as it was -/
structure Kp (bk br : Nat) (w w' : World) : Prop where
  size : w.heap.size ≤ w'.heap.size
  cell : ∀ b o, b < w.heap.size → b ≠ bk → b ≠ br → w'.cell? ⟨b, o, none⟩ = w.cell? ⟨b, o, none⟩
  froz : ∀ b o, b < w.heap.size → w'.frozen? ⟨b, o, none⟩ = w.frozen? ⟨b, o, none⟩
  below : ∀ B a, Below B a w → B ≤ bk → B ≤ br → Below B a w'

def GivesNx (p : Nat → Prop) (w : World) (bk br : Nat) (th o : Bool) (l : List UInt8) (e : Ending) (w' : World) : Prop :=
  e = .returned (.int .u64 (nx th o l)) ∧ Kp bk br w w' ∧ w'.cell? ⟨bk, 0, none⟩ = some (.bool (no th o l)) ∧
  ∃ A k, w'.cell? ⟨br, 0, none⟩ = some (.slice A (nr th o l).length k) ∧ (nr th o l).length ≤ k ∧ k ≤ maxLen ∧ RestAt p w' A (nr th o l)

theorem get1_any (p : Nat → Prop) (th o : Bool) (bk br : Nat) (A : Option Addr) (cap : Nat) (l : List UInt8) (W : World) (hb : bk < W.heap.size) (hr : br < W.heap.size) (hbr : bk ≠ br)
    (ho : W.cell? ⟨bk, 0, none⟩ = some (.bool o)) (hs : W.cell? ⟨br, 0, none⟩ = some (.slice A l.length cap)) (hfo : W.frozen? ⟨bk, 0, none⟩ = false) (hfr : W.frozen? ⟨br, 0, none⟩ = false)
    (hA : RestAt p W A l) (hc : l.length ≤ cap) (hm : cap ≤ maxLen) (hl : l.length ≤ 140737488355328) (hpk : ¬ p bk) (hpr : ¬ p br) (hpn : ∀ b, W.heap.size ≤ b → p b) :
    Calls Try.prog 58 #[.bool th, .pointer (some ⟨bk, 0, none⟩), .pointer (some ⟨br, 0, none⟩)] W (GivesNx p W bk br th o l) := by
  cases h : th && o
  · refine (get1_no th o bk br h W ho).mono ?_
    rintro e w' ⟨rfl, rfl⟩
    unfold GivesNx nx no nr
    rw [h]
    exact ⟨rfl, ⟨Nat.le_refl _, fun _ _ _ _ _ => rfl, fun _ _ _ => rfl, fun _ _ h _ _ => h⟩, ho, A, cap, hs, hc, hm, hA⟩
  · have h' := h
    rw [Bool.and_eq_true] at h'
    obtain ⟨rfl, rfl⟩ := h'
    refine (get1_yes bk br A cap l W hb hr hbr ho hs hfo hfr hA.bytes hc hm hl).mono ?_
    rintro e w' ⟨rfl, w1, A1, k1, hk1, hk2, hown, hb1, rfl⟩
    obtain ⟨hcl, hf⟩ := bcell hb1
    have hrb : ¬ br = bk := fun h => hbr h.symm
    have e1 : nx true true l = numW (cutA l 8) := rfl
    have e2 : no true true l = cutOk l 8 := rfl
    have e3 : nr true true l = cutB l 8 := rfl
    unfold GivesNx
    rw [e1, e2, e3]
    have d0 := (hcl _ 0 hb).trans ho
    have d1 := (hcl _ 0 hr).trans hs
    have hcell : ∀ b o, b ≠ bk → b ≠ br → ((w1.setCell ⟨br, 0, none⟩ (.slice A1 (cutB l 8).length k1)).setCell ⟨bk, 0, none⟩ (.bool (cutOk l 8))).cell? ⟨b, o, none⟩ = w1.cell? ⟨b, o, none⟩ := by
      intro b o h1 h2
      simp [go_sem]
    refine ⟨rfl, ⟨?_, ?_, ?_, ?_⟩, ?_, A1, k1, ?_, hk1, hk2, ?_⟩
    · have := hb1.size
      simpa [World.setCell] using this
    · intro b o h0 h1 h2
      rw [hcell b o h1 h2]
      exact hcl b o h0
    · intro b o h0
      have := hf b o h0
      simpa [go_sem] using this
    · intro B a h h1 h2
      exact ((below_trans2 h hb1 (by omega)).setCell (p := ⟨br, 0, none⟩) h2 _).setCell (p := ⟨bk, 0, none⟩) h1 _
    · simp [go_sem, d0]
    · simp [go_sem, d1]
    · exact (RestAt.own hown hpn).keep (by simp [World.setCell]) (fun b o h0 hp => hcell b o (fun h => hpk (h ▸ hp)) (fun h => hpr (h ▸ hp)))
end Go.Proofs.Ytonjdkankegdaaa.Token
