
/- Layer 5 (deframe): stretches between flags: the plain laws. -/
import Derived.Test.YtfieinajkkcelaaDefM
namespace Go.Proofs.Ytfieinajkkcelaa.DefM
open Go.Proofs.Ytfieinajkkcelaa.FrmM Go.Proofs.Ytfieinajkkcelaa.Mem

def noFlag (s : List UInt8) : Prop := ∀ c ∈ s, c ≠ 126
/-- no flag came yet -/
theorem run_noise : ∀ (s : List UInt8) (S : St), S.at_ = 0 → noFlag s → run S s = ({ S with noise := S.noise + s.length }, [])
  | [], _, _, _ => rfl
  | c :: s, S, h, hs => by
    have h1 := step_out S h (hs c (by simp))
    have ih := run_noise s { S with noise := S.noise + 1 } h (fun d hd => hs d (by simp [hd]))
    simp only [run, h1, ih, List.nil_append, List.length_cons]
    congr 1
    congr 1
    omega
theorem run_over : ∀ (s : List UInt8) (S : St), S.at_ = 2 → noFlag s → run S s = (S, [])
  | [], _, _, _ => rfl
  | c :: s, S, h, hs => by
    have h1 := step_over S h (hs c (by simp))
    have ih := run_over s S h (fun d hd => hs d (by simp [hd]))
    simp only [run, h1, ih, List.nil_append]
/-- a stretch is gathered: short, or too long -/
theorem run_stretch : ∀ (s : List UInt8) (S : St), S.at_ = 1 → noFlag s → S.stretch.length ≤ 200 →
    (S.stretch.length + s.length ≤ 200 → run S s = ({ S with stretch := S.stretch ++ s }, [])) ∧
    (200 < S.stretch.length + s.length → ∃ x, run S s = ({ S with stretch := x, at_ := 2 }, []))
  | [], S, _, _, h200 => by
    refine ⟨fun _ => by simp [run], fun h => by simp at h; omega⟩
  | c :: s, S, h, hs, h200 => by
    have hc := hs c (by simp)
    have hs' : noFlag s := fun d hd => hs d (by simp [hd])
    by_cases hl : S.stretch.length + 1 ≤ 200
    · have h1 := step_more S h hc hl
      obtain ⟨i1, i2⟩ := run_stretch s { S with stretch := S.stretch ++ [c] } h hs' (by simp; omega)
      simp only [List.length_append, List.length_cons, List.length_nil] at i1 i2
      refine ⟨fun hle => ?_, fun hgt => ?_⟩
      · have := i1 (by simp at hle; omega)
        simp only [run, h1, this, List.nil_append]
        simp
      · obtain ⟨x, hx⟩ := i2 (by simp at hgt; omega)
        exact ⟨x, by simp only [run, h1, hx, List.nil_append]⟩
    · have h1 := step_full S h hc (by omega)
      have := run_over s { S with stretch := S.stretch ++ [c], at_ := 2 } rfl hs'
      refine ⟨fun hle => by simp at hle; omega, fun _ => ⟨S.stretch ++ [c], ?_⟩⟩
      simp only [run, h1, this, List.nil_append]
/-- what a stretch and the flag behind it make -/
def Clean (S : St) : Prop := S.at_ = 1 ∧ S.stretch = []
theorem run_part {S : St} (h : Clean S) {s : List UInt8} (hs : noFlag s) :
    (200 < s.length → run S (s ++ [126]) = ({ S with long := S.long + 1 }, [])) ∧
    (s = [] → run S (s ++ [126]) = (S, [])) ∧
    (s ≠ [] → s.length ≤ 200 → bodyF s = none → run S (s ++ [126]) = ({ S with bad := S.bad + 1 }, [])) ∧
    (∀ x, s ≠ [] → s.length ≤ 200 → bodyF s = some x → run S (s ++ [126]) = ({ S with good := S.good + 1 }, [x])) := by
  obtain ⟨a, st, g, b, l, n⟩ := S
  obtain ⟨h1, h2⟩ := h
  simp only at h1 h2
  subst h1 h2
  obtain ⟨r1, r2⟩ := run_stretch s ⟨1, [], g, b, l, n⟩ rfl hs (by simp)
  simp only [List.length_nil, Nat.zero_add, List.nil_append] at r1 r2
  have hst : ∀ T : St, T.at_ = 1 → step T 126 = ({ (ends T).1 with at_ := 1 }, (ends T).2) := fun T hT => DefM.step_end T hT
  refine ⟨fun h => ?_, fun h => ?_, fun hne h hb => ?_, fun x hne h hb => ?_⟩
  · obtain ⟨x, hx⟩ := r2 h
    rw [run_snoc, hx, step_long _ rfl]
    rfl
  · subst h
    rw [List.nil_append]
    have := hst ⟨1, [], g, b, l, n⟩ rfl
    rw [ends_nil (s := ⟨1, [], g, b, l, n⟩) rfl] at this
    show run _ [126] = _
    simp only [run, this, List.append_nil]
  · rw [run_snoc, r1 h, hst _ rfl, ends_bad (s := ⟨1, s, g, b, l, n⟩) hne hb]
    rfl
  · rw [run_snoc, r1 h, hst _ rfl, ends_good (s := ⟨1, s, g, b, l, n⟩) hne hb]
    rfl
/-- a stretch that no flag ends tells nothing -/
theorem run_rest {S : St} (h : Clean S) {s : List UInt8} (hs : noFlag s) : (run S s).2 = [] ∧ (run S s).1.good = S.good ∧ (run S s).1.bad = S.bad ∧ (run S s).1.long = S.long ∧ (run S s).1.noise = S.noise := by
  obtain ⟨h1, h2⟩ := h
  obtain ⟨r1, r2⟩ := run_stretch s S h1 hs (by rw [h2]; simp)
  rcases Nat.lt_or_ge 200 (S.stretch.length + s.length) with h | h
  · obtain ⟨x, hx⟩ := r2 h
    rw [hx]
    exact ⟨rfl, rfl, rfl, rfl, rfl⟩
  · rw [r1 h]
    exact ⟨rfl, rfl, rfl, rfl, rfl⟩
/-- the bytes from i on, below k, have no flag -/
theorem noFlag_cut {l : List UInt8} {i k : Nat} (hk : k ≤ l.length) (h : ∀ j, i ≤ j → j < k → nth8 l j ≠ 126) : noFlag ((l.take k).drop i) := by
  intro c hc
  obtain ⟨j, hj, rfl⟩ := List.mem_iff_getElem.1 hc
  simp only [List.length_drop, List.length_take] at hj
  have e : ((l.take k).drop i)[j] = nth8 l (i + j) := by
    unfold nth8
    rw [List.getElem_drop, List.getElem_take]
    simp [List.getD, show i + j < l.length by omega]
  rw [e]
  exact h (i + j) (by omega) (by omega)
/-- from behind one flag to behind the next -/
theorem run_to {S0 T : St} {O : List (List UInt8)} {l : List UInt8} {i k : Nat} (hik : i < k) (hk : k < l.length) (h : run S0 (l.take (i + 1)) = (T, O)) (hf : nth8 l k = 126) :
    run S0 (l.take (k + 1)) = ((run T (((l.take k).drop (i + 1)) ++ [126])).1, O ++ (run T (((l.take k).drop (i + 1)) ++ [126])).2) := by
  have e : l.take (k + 1) = l.take (i + 1) ++ (((l.take k).drop (i + 1)) ++ [126]) := by
    rw [take_snoc l k hk, hf, ← List.append_assoc]
    congr 1
    have : l.take (i + 1) = (l.take k).take (i + 1) := by rw [List.take_take]; congr 1; omega
    rw [this, List.take_append_drop]
  rw [e, run_append, h]
theorem run_end {S0 T : St} {O : List (List UInt8)} {l : List UInt8} {i : Nat} (h : run S0 (l.take (i + 1)) = (T, O)) (hc : Clean T) (hn : ∀ j, i + 1 ≤ j → j < l.length → nth8 l j ≠ 126) :
    (run S0 l).2 = O ∧ (run S0 l).1.good = T.good ∧ (run S0 l).1.bad = T.bad ∧ (run S0 l).1.long = T.long ∧ (run S0 l).1.noise = T.noise := by
  have e : l = l.take (i + 1) ++ l.drop (i + 1) := (List.take_append_drop _ _).symm
  have hs : noFlag (l.drop (i + 1)) := by
    have := noFlag_cut (Nat.le_refl l.length) hn
    rwa [List.take_length] at this
  obtain ⟨r1, r2, r3, r4, r5⟩ := run_rest hc hs
  rw [e, run_append, h]
  simp only [r1, List.append_nil]
  exact ⟨trivial, r2, r3, r4, r5⟩
end Go.Proofs.Ytfieinajkkcelaa.DefM
