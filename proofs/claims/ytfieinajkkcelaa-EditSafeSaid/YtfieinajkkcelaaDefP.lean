
/- Layer 5 (deframe): frames behind anything are found: the plain laws. -/
import Derived.Test.YtfieinajkkcelaaDefN
namespace Go.Proofs.Ytfieinajkkcelaa.DefM
open Go.Proofs.Ytfieinajkkcelaa.FrmM Go.Proofs.Ytfieinajkkcelaa.Mem Go.Proofs.Ytfieinajkkcelaa.CrcM Go.Proofs.Ytfieinajkkcelaa.StuffL

theorem clean_flag {S : St} (h : Ok S) : Clean (DefM.step S 126).1 := by
  have hx : S.at_ = 0 ∨ S.at_ = 1 ∨ S.at_ = 2 := by have := h.at2; omega
  rcases hx with hx | hx | hx
  · rw [step_in S hx]
    exact ⟨rfl, h.none hx⟩
  · rw [DefM.step_end S hx]
    exact ⟨rfl, (ends_stretch S).1⟩
  · rw [step_long S hx]
    exact ⟨rfl, rfl⟩
/-- a stretch that a frame's bytes make, behind a flag -/
theorem run_frame {T : St} (h : Clean T) {b : List UInt8} (hb : b.length ≤ 96) : run T (StuffL.put (cput b) ++ [126]) = ({ T with good := T.good + 1 }, [b]) := by
  have hf : noFlag (StuffL.put (cput b)) := by
    intro c hc h126
    subst h126
    exact put_flag _ hc
  have h4 := cput_length b
  have hl := put_length (cput b)
  obtain ⟨_, _, _, p4⟩ := run_part h hf
  exact p4 b (by intro h0; have := congrArg List.length h0; simp only [List.length_nil] at this; omega) (by omega) (bodyF_put b hb)
theorem run_wrap {S : St} (h : Ok S) {b : List UInt8} (hb : b.length ≤ 96) : run S (wrapF b) = ({ (DefM.step S 126).1 with good := (DefM.step S 126).1.good + 1 }, (DefM.step S 126).2 ++ [b]) := by
  have hr := run_frame (clean_flag h) hb
  show run S (126 :: (StuffL.put (cput b) ++ [126])) = _
  simp only [run, hr]
/-- whatever stood ahead, a frame is found, as the last one -/
theorem comes (noise b : List UInt8) (hb : b.length ≤ 96) : ∃ X, (run St0 (noise ++ wrapF b)).2 = X ++ [b] := by
  have hr := run_wrap (ok_run noise ok0) hb
  exact ⟨(run St0 noise).2 ++ (DefM.step (run St0 noise).1 126).2, by rw [run_append, hr, List.append_assoc]⟩
end Go.Proofs.Ytfieinajkkcelaa.DefM
