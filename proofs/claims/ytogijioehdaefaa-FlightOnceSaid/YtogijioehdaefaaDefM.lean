
/- Layer 5 (deframe): frames found in any bytes: the plain words. -/
import Derived.Test.YtogijioehdaefaaFrmP
namespace Go.Proofs.Ytogijioehdaefaa.DefM
open Go.Proofs.Ytogijioehdaefaa.FrmM

/-- what a scanner holds: where it is, the stretch, what came by -/
structure St where
  at_ : Nat
  stretch : List UInt8
  good : Nat
  bad : Nat
  long : Nat
  noise : Nat
def St0 : St := ⟨0, [], 0, 0, 0, 0⟩
/-- a stretch ends -/
def ends (s : St) : St × List (List UInt8) :=
  match s.stretch with
  | [] => (s, [])
  | c :: l => match bodyF (c :: l) with
    | none => ({ s with stretch := [], bad := s.bad + 1 }, [])
    | some x => ({ s with stretch := [], good := s.good + 1 }, [x])
def step (s : St) (c : UInt8) : St × List (List UInt8) :=
  if s.at_ = 0 then (if c = 126 then ({ s with at_ := 1 }, []) else ({ s with noise := s.noise + 1 }, []))
  else if s.at_ = 2 then (if c = 126 then ({ s with at_ := 1, stretch := [], long := s.long + 1 }, []) else (s, []))
  else if c = 126 then ({ (ends s).1 with at_ := 1 }, (ends s).2)
  else ({ s with stretch := s.stretch ++ [c], at_ := if 200 < (s.stretch ++ [c]).length then 2 else s.at_ }, [])
def run : St → List UInt8 → St × List (List UInt8)
  | s, [] => (s, [])
  | s, c :: l => ((run (step s c).1 l).1, (step s c).2 ++ (run (step s c).1 l).2)
theorem run_append : ∀ (l m : List UInt8) (s : St), run s (l ++ m) = ((run (run s l).1 m).1, (run s l).2 ++ (run (run s l).1 m).2)
  | [], m, s => by simp [run]
  | c :: l, m, s => by simp [run, run_append l m, List.append_assoc]
theorem run_snoc (s : St) (l : List UInt8) (c : UInt8) : run s (l ++ [c]) = ((step (run s l).1 c).1, (run s l).2 ++ (step (run s l).1 c).2) := by
  rw [run_append]
  simp [run]
/-- how far a scanner can be -/
structure Ok (s : St) : Prop where
  at2 : s.at_ ≤ 2
  len : s.stretch.length ≤ 201
  short : s.at_ = 1 → s.stretch.length ≤ 200
  none : s.at_ = 0 → s.stretch = []
theorem ok0 : Ok St0 := ⟨by decide, by decide, by decide, fun _ => rfl⟩
theorem ends_nil {s : St} (h : s.stretch = []) : ends s = (s, []) := by unfold ends; rw [h]
theorem ends_bad {s : St} (h : s.stretch ≠ []) (hb : bodyF s.stretch = none) : ends s = ({ s with stretch := [], bad := s.bad + 1 }, []) := by
  unfold ends
  cases hs : s.stretch with
  | nil => exact absurd hs h
  | cons c l => simp only; rw [← hs, hb]
theorem ends_good {s : St} (h : s.stretch ≠ []) {x : List UInt8} (hb : bodyF s.stretch = some x) : ends s = ({ s with stretch := [], good := s.good + 1 }, [x]) := by
  unfold ends
  cases hs : s.stretch with
  | nil => exact absurd hs h
  | cons c l => simp only; rw [← hs, hb]
theorem ends_stretch (s : St) : (ends s).1.stretch = [] ∧ (ends s).2.length ≤ 1 ∧ (ends s).1.at_ = s.at_ := by
  by_cases h : s.stretch = []
  · rw [ends_nil h]; exact ⟨h, by simp, rfl⟩
  · cases hb : bodyF s.stretch with
    | none => rw [ends_bad h hb]; exact ⟨rfl, by simp, rfl⟩
    | some x => rw [ends_good h hb]; exact ⟨rfl, by simp, rfl⟩
theorem step_out (s : St) (h : s.at_ = 0) {c : UInt8} (hc : c ≠ 126) : step s c = ({ s with noise := s.noise + 1 }, []) := by unfold step; rw [if_pos h, if_neg hc]
theorem step_in (s : St) (h : s.at_ = 0) : step s 126 = ({ s with at_ := 1 }, []) := by unfold step; rw [if_pos h, if_pos rfl]
theorem step_over (s : St) (h : s.at_ = 2) {c : UInt8} (hc : c ≠ 126) : step s c = (s, []) := by unfold step; rw [if_neg (by omega), if_pos h, if_neg hc]
theorem step_long (s : St) (h : s.at_ = 2) : step s 126 = ({ s with at_ := 1, stretch := [], long := s.long + 1 }, []) := by unfold step; rw [if_neg (by omega), if_pos h, if_pos rfl]
theorem step_end (s : St) (h : s.at_ = 1) : step s 126 = ({ (ends s).1 with at_ := 1 }, (ends s).2) := by unfold step; rw [if_neg (by omega), if_neg (by omega), if_pos rfl]
theorem step_more (s : St) (h : s.at_ = 1) {c : UInt8} (hc : c ≠ 126) (hl : s.stretch.length + 1 ≤ 200) : step s c = ({ s with stretch := s.stretch ++ [c] }, []) := by
  unfold step; rw [if_neg (by omega), if_neg (by omega), if_neg hc, if_neg (by simp; omega)]
theorem step_full (s : St) (h : s.at_ = 1) {c : UInt8} (hc : c ≠ 126) (hl : s.stretch.length = 200) : step s c = ({ s with stretch := s.stretch ++ [c], at_ := 2 }, []) := by
  unfold step; rw [if_neg (by omega), if_neg (by omega), if_neg hc, if_pos (by simp; omega)]
theorem ok_step {s : St} (h : Ok s) (c : UInt8) : Ok (step s c).1 := by
  obtain ⟨h1, h2, h3, h4⟩ := h
  have hx : s.at_ = 0 ∨ s.at_ = 1 ∨ s.at_ = 2 := by omega
  rcases hx with hx | hx | hx
  · by_cases hc : c = 126
    · subst hc
      rw [step_in s hx]
      exact ⟨by simp, h2, fun _ => by simp [h4 hx], fun h => absurd h (by simp)⟩
    · rw [step_out s hx hc]
      exact ⟨h1, h2, h3, h4⟩
  · by_cases hc : c = 126
    · subst hc
      rw [step_end s hx]
      obtain ⟨e1, _, _⟩ := ends_stretch s
      refine ⟨by simp, ?_, fun _ => ?_, fun h => absurd h (by simp)⟩
      · simp only; rw [e1]; simp
      · simp only; rw [e1]; simp
    · have h5 := h3 hx
      by_cases hl : s.stretch.length + 1 ≤ 200
      · rw [step_more s hx hc hl]
        exact ⟨h1, by simp; omega, fun _ => by simp; omega, fun h => absurd (show s.at_ = 0 from h) (by omega)⟩
      · rw [step_full s hx hc (by omega)]
        exact ⟨by simp, by simp; omega, fun h => absurd h (by simp), fun h => absurd h (by simp)⟩
  · by_cases hc : c = 126
    · subst hc
      rw [step_long s hx]
      exact ⟨by simp, by simp, fun _ => by simp, fun h => absurd h (by simp)⟩
    · rw [step_over s hx hc]
      exact ⟨h1, h2, h3, h4⟩
theorem ok_run : ∀ (l : List UInt8) {s : St}, Ok s → Ok (run s l).1
  | [], _, h => h
  | c :: l, _, h => ok_run l (ok_step h c)
theorem step_len (s : St) (c : UInt8) : (step s c).2.length ≤ 1 := by
  unfold step
  split
  · split <;> simp
  · split
    · split <;> simp
    · split
      · exact (ends_stretch s).2.1
      · simp
theorem run_len : ∀ (l : List UInt8) (s : St), (run s l).2.length ≤ l.length
  | [], _ => by simp [run]
  | c :: l, s => by
    have h1 := step_len s c
    have h2 := run_len l (step s c).1
    simp only [run, List.length_append, List.length_cons]
    omega
/-- the counts of what came by are no more than the bytes -/
def total (s : St) : Nat := s.good + s.bad + s.long + s.noise
theorem ends_total (s : St) : total (ends s).1 ≤ total s + 1 := by
  by_cases h : s.stretch = []
  · rw [ends_nil h]; exact Nat.le_succ _
  · cases hb : bodyF s.stretch with
    | none => rw [ends_bad h hb]; simp only [total]; omega
    | some x => rw [ends_good h hb]; simp only [total]; omega
theorem step_total (s : St) (c : UInt8) : total (step s c).1 ≤ total s + 1 := by
  unfold step
  split
  · split <;> simp only [total] <;> omega
  · split
    · split <;> simp only [total] <;> omega
    · split
      · have := ends_total s
        simp only [total] at this ⊢
        omega
      · simp only [total]; omega
theorem run_total : ∀ (l : List UInt8) (s : St), total (run s l).1 ≤ total s + l.length
  | [], _ => by simp [run]
  | c :: l, s => by
    have h1 := step_total s c
    have h2 := run_total l (step s c).1
    simp only [run, List.length_cons]
    omega
end Go.Proofs.Ytogijioehdaefaa.DefM
