
/- Layer 3 (stuff), the plain law: bytes without flags. No program in sight. -/
import Derived.WalkKit
namespace Go.Proofs.Ytogijioehdaefaa.StuffL

def esc (c : UInt8) : Bool := c == 126 || c == 125
def one (c : UInt8) : List UInt8 := if esc c then [125, c ^^^ 32] else [c]
/-- what is made of bytes -/
def put (l : List UInt8) : List UInt8 := l.flatMap one
theorem put_snoc (l : List UInt8) (c : UInt8) : put (l ++ [c]) = put l ++ one c := by simp [put]
theorem put_nil : put [] = [] := rfl

/-- one ustep of getting back -/
def ustep : Option (List UInt8 × Bool) → UInt8 → Option (List UInt8 × Bool)
  | none, _ => none
  | some (o, true), c => if c = 126 then none else if esc (c ^^^ 32) then some (o ++ [c ^^^ 32], false) else none
  | some (o, false), c => if c = 126 then none else if c = 125 then some (o, true) else some (o ++ [c], false)
def go (s : Option (List UInt8 × Bool)) (l : List UInt8) : Option (List UInt8 × Bool) := l.foldl ustep s
def fin : Option (List UInt8 × Bool) → Option (List UInt8)
  | some (o, false) => some o
  | _ => none
/-- bytes, got back -/
def unput (l : List UInt8) : Option (List UInt8) := fin (go (some ([], false)) l)

theorem go_none (l : List UInt8) : go none l = none := by
  induction l with
  | nil => rfl
  | cons c l ih => exact ih
theorem go_snoc (s : Option (List UInt8 × Bool)) (l : List UInt8) (c : UInt8) : go s (l ++ [c]) = ustep (go s l) c := by simp [go]
theorem go_append (s : Option (List UInt8 × Bool)) (l m : List UInt8) : go s (l ++ m) = go (go s l) m := by simp [go]

theorem esc_xor (c : UInt8) (h : esc c = true) : esc (c ^^^ 32 ^^^ 32) = true ∧ c ^^^ 32 ≠ 126 ∧ (c ^^^ 32 ^^^ 32) = c := by
  unfold esc at h
  simp only [Bool.or_eq_true, beq_iff_eq] at h
  rcases h with rfl | rfl <;> decide

theorem go_one (o : List UInt8) (c : UInt8) : go (some (o, false)) (one c) = some (o ++ [c], false) := by
  unfold one
  by_cases h : esc c = true
  · obtain ⟨_, h2, h3⟩ := esc_xor c h
    rw [if_pos h]
    simp [go, ustep, h, h2, h3]
  · rw [if_neg h]
    have h1 : c ≠ 126 := by rintro rfl; exact h rfl
    have h2 : c ≠ 125 := by rintro rfl; exact h rfl
    simp only [go, List.foldl_cons, List.foldl_nil, ustep]
    rw [if_neg h1, if_neg h2]

theorem go_put (l : List UInt8) : ∀ o, go (some (o, false)) (put l) = some (o ++ l, false) := by
  induction l with
  | nil => intro o; simp [put, go]
  | cons c l ih =>
    intro o
    have : put (c :: l) = one c ++ put l := by simp [put]
    rw [this, go_append, go_one, ih]
    simp
/-- what was put is got -/
theorem get_put (l : List UInt8) : unput (put l) = some l := by
  unfold unput
  rw [go_put]
  simp [fin]

/-- what is got, put again, is what it was -/
theorem put_go : ∀ (l : List UInt8) (o r : List UInt8) (t b : Bool), go (some (o, t)) l = some (r, b) →
    put o ++ (if t then [125] else []) ++ l = put r ++ (if b then [125] else []) := by
  intro l
  induction l with
  | nil =>
    intro o r t b h
    simp only [go, List.foldl_nil, Option.some.injEq, Prod.mk.injEq] at h
    obtain ⟨rfl, rfl⟩ := h
    simp
  | cons c l ih =>
    intro o r t b h
    have hc : go (some (o, t)) (c :: l) = go (ustep (some (o, t)) c) l := rfl
    rw [hc] at h
    cases t with
    | false =>
      simp only [ustep] at h
      by_cases h1 : c = 126
      · rw [if_pos h1, go_none] at h; cases h
      · rw [if_neg h1] at h
        by_cases h2 : c = 125
        · rw [if_pos h2] at h
          subst h2
          have := ih _ _ _ _ h
          simpa using this
        · rw [if_neg h2] at h
          have := ih _ _ _ _ h
          rw [put_snoc] at this
          have he : one c = [c] := by
            unfold one esc
            simp [h1, h2]
          rw [he] at this
          simpa using this
    | true =>
      simp only [ustep] at h
      by_cases h1 : c = 126
      · rw [if_pos h1, go_none] at h; cases h
      · rw [if_neg h1] at h
        by_cases h2 : esc (c ^^^ 32) = true
        · rw [if_pos h2] at h
          have := ih _ _ _ _ h
          rw [put_snoc] at this
          have he : one (c ^^^ 32) = [125, c] := by
            unfold one
            rw [if_pos h2]
            have := (esc_xor _ h2).2.2
            rw [UInt8.xor_assoc]
            simp
          rw [he] at this
          simpa using this
        · rw [if_neg h2, go_none] at h; cases h

theorem put_get (s l : List UInt8) (h : unput s = some l) : put l = s := by
  unfold unput fin at h
  split at h
  · rename_i o heq
    injection h with h
    subst h
    have := put_go s [] o false false heq
    simpa [put_nil] using this.symm
  · cases h

theorem one_length (c : UInt8) : 1 ≤ (one c).length ∧ (one c).length ≤ 2 := by
  unfold one
  split <;> simp
theorem put_length (l : List UInt8) : l.length ≤ (put l).length ∧ (put l).length ≤ 2 * l.length := by
  induction l with
  | nil => simp [put]
  | cons c l ih =>
    have : put (c :: l) = one c ++ put l := by simp [put]
    have h := one_length c
    rw [this, List.length_append, List.length_cons]
    omega
theorem one_flag (c : UInt8) : (126 : UInt8) ∉ one c := by
  unfold one
  by_cases h : esc c = true
  · rw [if_pos h]
    have := (esc_xor c h).2.1
    simp [Ne.symm this]
  · rw [if_neg h]
    intro hm
    simp at hm
    subst hm
    exact h rfl
theorem put_flag (l : List UInt8) : (126 : UInt8) ∉ put l := by
  intro h
  obtain ⟨c, _, hc⟩ := List.mem_flatMap.1 h
  exact one_flag c hc

theorem go_length : ∀ (l : List UInt8) (o r : List UInt8) (t b : Bool), go (some (o, t)) l = some (r, b) → r.length ≤ o.length + l.length := by
  intro l
  induction l with
  | nil =>
    intro o r t b h
    simp only [go, List.foldl_nil, Option.some.injEq, Prod.mk.injEq] at h
    obtain ⟨rfl, rfl⟩ := h
    simp
  | cons c l ih =>
    intro o r t b h
    have hc : go (some (o, t)) (c :: l) = go (ustep (some (o, t)) c) l := rfl
    rw [hc] at h
    cases t with
    | false =>
      simp only [ustep] at h
      split at h
      · rw [go_none] at h; cases h
      · split at h
        · have := ih _ _ _ _ h; simp; omega
        · have := ih _ _ _ _ h; simp at this ⊢; omega
    | true =>
      simp only [ustep] at h
      split at h
      · rw [go_none] at h; cases h
      · split at h
        · have := ih _ _ _ _ h; simp at this ⊢; omega
        · rw [go_none] at h; cases h
theorem get_length {s l : List UInt8} (h : unput s = some l) : l.length ≤ s.length := by
  unfold unput fin at h
  split at h
  · rename_i o heq
    injection h with h
    subst h
    have := go_length s [] o false false heq
    simpa using this
  · cases h

/-- which bytes stand for themselves -/
def pstep (s : List Bool × Bool) (c : UInt8) : List Bool × Bool := if s.2 then (s.1 ++ [false], false) else (s.1 ++ [!esc c], c == 125)
def pgo (l : List UInt8) : List Bool × Bool := l.foldl pstep ([], false)
def plain (l : List UInt8) : List Bool := (pgo l).1
theorem pgo_snoc (l : List UInt8) (c : UInt8) : pgo (l ++ [c]) = pstep (pgo l) c := by simp [pgo]
theorem pgo_length (l : List UInt8) : (pgo l).1.length = l.length := by
  have key : ∀ (l : List UInt8) (s : List Bool × Bool), (l.foldl pstep s).1.length = s.1.length + l.length := by
    intro l
    induction l with
    | nil => intro s; simp
    | cons c l ih =>
      intro s
      rw [List.foldl_cons, ih]
      unfold pstep
      split <;> simp <;> omega
  simpa [pgo] using key l ([], false)
end Go.Proofs.Ytogijioehdaefaa.StuffL
