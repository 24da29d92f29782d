
/- Layer 5 (deframe): frames one behind the other: the plain law. -/
import Derived.Test.YtfieinajkkcelaaDefP
namespace Go.Proofs.Ytfieinajkkcelaa.DefM
open Go.Proofs.Ytfieinajkkcelaa.FrmM Go.Proofs.Ytfieinajkkcelaa.Mem Go.Proofs.Ytfieinajkkcelaa.CrcM Go.Proofs.Ytfieinajkkcelaa.StuffL

def filt (l : List UInt8) : List UInt8 := l.filter (fun c => c != 126)
theorem filt_snoc (l : List UInt8) (k : Nat) (h : k < l.length) : filt (l.take (k + 1)) = if nth8 l k = 126 then filt (l.take k) else filt (l.take k) ++ [nth8 l k] := by
  rw [take_snoc l k h]
  unfold filt
  rw [List.filter_append]
  by_cases h6 : nth8 l k = 126
  · rw [if_pos h6, h6]; simp
  · rw [if_neg h6]; simp [h6]
theorem filt_len (l : List UInt8) : (filt l).length ≤ l.length := List.length_filter_le _ _
theorem filt_noFlag (l : List UInt8) : noFlag (filt l) := by
  intro c hc
  have := (List.mem_filter.1 hc).2
  simpa using this
/-- behind i frames -/
structure OnAt (T : St) (n i : Nat) : Prop where
  first : i = 0 → T = ⟨0, [], 0, 0, 0, n⟩
  later : 0 < i → T = ⟨1, [], i, 0, 0, n⟩
theorem on_start (l : List UInt8) : ∃ T, run St0 (filt l) = (T, []) ∧ OnAt T (filt l).length 0 :=
  ⟨⟨0, [], 0, 0, 0, (filt l).length⟩, by rw [run_noise _ St0 rfl (filt_noFlag l)]; simp [St0], fun _ => rfl, fun h => by omega⟩
theorem on_next {T : St} {n i : Nat} (h : OnAt T n i) {b : List UInt8} (hb : b.length ≤ 96) :
    (∃ T', run T (wrapF b) = (T', [b]) ∧ OnAt T' n (i + 1)) ∧ (0 < i → ∃ T', run T ((wrapF b).drop 1) = (T', [b]) ∧ OnAt T' n (i + 1)) := by
  have hd : (wrapF b).drop 1 = StuffL.put (cput b) ++ [126] := rfl
  rcases Nat.eq_zero_or_pos i with h0 | h0
  · subst h0
    have hT := h.first rfl
    subst hT
    refine ⟨⟨⟨1, [], 1, 0, 0, n⟩, ?_, fun h => by omega, fun _ => rfl⟩, fun h => by omega⟩
    have hok : Ok (⟨0, [], 0, 0, 0, n⟩ : St) := ⟨by simp, by simp, by simp, by simp⟩
    rw [run_wrap hok hb, step_in _ rfl]
    rfl
  · have hT := h.later h0
    subst hT
    have hc : Clean (⟨1, [], i, 0, 0, n⟩ : St) := ⟨rfl, rfl⟩
    have hok : Ok (⟨1, [], i, 0, 0, n⟩ : St) := ⟨by simp, by simp, by simp, by simp⟩
    have e1 : DefM.step (⟨1, [], i, 0, 0, n⟩ : St) 126 = (⟨1, [], i, 0, 0, n⟩, []) := by rw [DefM.step_end _ rfl, ends_nil rfl]
    refine ⟨⟨⟨1, [], i + 1, 0, 0, n⟩, ?_, fun h => by omega, fun _ => rfl⟩, fun _ => ⟨⟨1, [], i + 1, 0, 0, n⟩, ?_, fun h => by omega, fun _ => rfl⟩⟩
    · rw [run_wrap hok hb, e1]
      rfl
    · rw [hd, run_frame hc hb]
theorem on_end {T : St} {n i : Nat} (h : OnAt T n i) : T.good = i ∧ T.bad = 0 ∧ T.long = 0 ∧ T.noise = n := by
  rcases Nat.eq_zero_or_pos i with h0 | h0
  · have := h.first h0
    subst this
    exact ⟨h0.symm, rfl, rfl, rfl⟩
  · have := h.later h0
    subst this
    exact ⟨rfl, rfl, rfl, rfl⟩
theorem on_run {B x : List UInt8} {T T' : St} {O : List (List UInt8)} {b : List UInt8} (h : run St0 B = (T, O)) (h2 : run T x = (T', [b])) : run St0 (B ++ x) = (T', O ++ [b]) := by
  rw [run_append, h, h2]
end Go.Proofs.Ytfieinajkkcelaa.DefM
