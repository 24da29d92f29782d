
/- Layer 16 (flight): frames on their way: the plain words and laws. No program in sight. -/
import Derived.Test.YtogijioehdaefaaEdE
namespace Go.Proofs.Ytogijioehdaefaa.Flt
open Go.Proofs.Ytogijioehdaefaa.Ed

/-- a frame: its number, its bytes, and these as they were sent -/
structure Frm where
  num : Nat
  wire : List UInt8
  first : List UInt8
def Frm0 : Frm := ⟨0, [], []⟩
def nthF (l : List Frm) (i : Nat) : Frm := l.getD i Frm0
/-- a flight: two directions -/
structure Fl where
  life : Nat
  gone : Nat
  fs : Nat → List Frm
  sent : Nat → Nat
def upd {α : Type} (f : Nat → α) (d : Nat) (x : α) : Nat → α := fun k => if k = d then x else f k
theorem upd_same {α : Type} (f : Nat → α) (d : Nat) (x : α) : upd f d x d = x := if_pos rfl
theorem upd_other {α : Type} (f : Nat → α) {d k : Nat} (x : α) (h : k ≠ d) : upd f d x k = f k := if_neg h
def new (life : Nat) : Fl := ⟨life, 0, fun _ => [], fun _ => 0⟩
/-- its life is over -/
def old (life s : Nat) (x : Frm) : Bool := decide ((life : Int) ≤ (s : Int) - (x.num : Int))
/-- how many at the head are -/
def lead (life s : Nat) : List Frm → Nat
  | [] => 0
  | x :: l => if old life s x then lead life s l + 1 else 0
theorem lead_le (life s : Nat) : ∀ l : List Frm, lead life s l ≤ l.length
  | [] => Nat.le_refl _
  | x :: l => by
    have := lead_le life s l
    unfold lead
    split <;> simp only [List.length_cons] <;> omega
theorem lead_lt (life s : Nat) : ∀ (l : List Frm) (j : Nat), j < lead life s l → old life s (nthF l j) = true
  | [], j, h => absurd h (Nat.not_lt_zero _)
  | x :: l, j, h => by
    unfold lead at h
    split at h
    · rename_i hx
      cases j with
      | zero => exact hx
      | succ j => exact lead_lt life s l j (by omega)
    · omega
theorem lead_at (life s : Nat) : ∀ (l : List Frm), lead life s l < l.length → old life s (nthF l (lead life s l)) = false
  | [], h => absurd h (Nat.not_lt_zero _)
  | x :: l, h => by
    by_cases hx : old life s x = true
    · have e : lead life s (x :: l) = lead life s l + 1 := by show (if old life s x then _ else _) = _; rw [if_pos hx]
      rw [e] at h ⊢
      exact lead_at life s l (by simp only [List.length_cons] at h; omega)
    · have e : lead life s (x :: l) = 0 := by show (if old life s x then _ else _) = _; rw [if_neg hx]
      rw [e]
      show old life s x = false
      simpa using hx
/-- counted from the head as far as it goes -/
theorem lead_eq (life s : Nat) (l : List Frm) (k : Nat) (hk : k ≤ l.length) (h1 : ∀ j, j < k → old life s (nthF l j) = true) (h2 : k < l.length → old life s (nthF l k) = false) : lead life s l = k := by
  have h3 := lead_le life s l
  rcases Nat.lt_trichotomy (lead life s l) k with h | h | h
  · have := lead_at life s l (by omega)
    rw [h1 _ h] at this
    cases this
  · exact h
  · have := lead_lt life s l k h
    rw [h2 (by omega)] at this
    cases this
/-- numbers rise -/
def Rise (l : List Frm) : Prop := l.Pairwise (fun x y => x.num < y.num)
theorem filter_old (life s : Nat) : ∀ l : List Frm, Rise l → l.filter (fun x => !old life s x) = l.drop (lead life s l) ∧ (l.filter (fun x => old life s x)).length = lead life s l
  | [], _ => ⟨rfl, rfl⟩
  | x :: l, h => by
    have h0 : Rise l := (List.pairwise_cons.1 h).2
    have h1 := (List.pairwise_cons.1 h).1
    obtain ⟨i1, i2⟩ := filter_old life s l h0
    by_cases hx : old life s x = true
    · have e : lead life s (x :: l) = lead life s l + 1 := by show (if old life s x then _ else _) = _; rw [if_pos hx]
      rw [e, List.filter_cons_of_neg (by simpa using hx), List.filter_cons_of_pos (by simpa using hx)]
      exact ⟨i1, by rw [List.length_cons, i2]⟩
    · have e : lead life s (x :: l) = 0 := by show (if old life s x then _ else _) = _; rw [if_neg hx]
      have hall : ∀ y ∈ l, old life s y = false := fun y hy => by
        have := h1 y hy
        unfold old at hx ⊢
        simp only [decide_eq_true_eq, decide_eq_false_iff_not] at hx ⊢
        omega
      rw [e]
      constructor
      · rw [List.filter_cons_of_pos (by simpa using hx), List.drop_zero]
        congr 1
        exact List.filter_eq_self.2 fun y hy => by rw [hall y hy]; rfl
      · rw [List.filter_cons_of_neg (by simpa using hx)]
        have : l.filter (fun x => old life s x) = [] := List.filter_eq_nil_iff.2 fun y hy => by rw [hall y hy]; decide
        rw [this]
        rfl
/-- what a Put leaves on its way -/
def putL (F : Fl) (d : Nat) (w : List UInt8) : List Frm := F.fs d ++ [⟨F.sent d + 1, w, w⟩]
def cutN (F : Fl) (s : Nat) (l : List Frm) : Nat := if F.life = 0 then 0 else lead F.life s l
def put (F : Fl) (d : Nat) (w : List UInt8) : Fl :=
  { F with gone := F.gone + cutN F (F.sent d + 1) (putL F d w), fs := upd F.fs d ((putL F d w).drop (cutN F (F.sent d + 1) (putL F d w))), sent := upd F.sent d (F.sent d + 1) }
def take (F : Fl) (d i : Nat) : Fl := { F with fs := upd F.fs d ((F.fs d).take i ++ (F.fs d).drop (i + 1)) }
def spoil (F : Fl) (d i : Nat) (es : List Edt) : Fl := { F with fs := upd F.fs d ((F.fs d).set i { nthF (F.fs d) i with wire := do1 (nthF (F.fs d) i).wire es }) }
theorem nthF_append_left (l m : List Frm) {i : Nat} (h : i < l.length) : nthF (l ++ m) i = nthF l i := by
  unfold nthF
  rw [List.getD_eq_getElem?_getD, List.getD_eq_getElem?_getD, List.getElem?_append_left h]
theorem nthF_drop (l : List Frm) (k i : Nat) : nthF (l.drop k) i = nthF l (k + i) := by
  unfold nthF
  rw [List.getD_eq_getElem?_getD, List.getD_eq_getElem?_getD, List.getElem?_drop]
theorem nthF_take (l : List Frm) {k i : Nat} (h : i < k) : nthF (l.take k) i = nthF l i := by
  unfold nthF
  rw [List.getD_eq_getElem?_getD, List.getD_eq_getElem?_getD, List.getElem?_take, if_pos h]
theorem nthF_set (l : List Frm) (k i : Nat) (x : Frm) (h : i < l.length) : nthF (l.set k x) i = if k = i then x else nthF l i := by
  unfold nthF
  rw [List.getD_eq_getElem?_getD, List.getD_eq_getElem?_getD, List.getElem?_set]
  by_cases e : k = i
  · subst e
    simp [h]
  · simp [e]
theorem nthF_mem {l : List Frm} {i : Nat} (h : i < l.length) : nthF l i ∈ l := by
  unfold nthF
  rw [List.getD_eq_getElem?_getD, List.getElem?_eq_getElem h]
  exact List.getElem_mem h
end Go.Proofs.Ytogijioehdaefaa.Flt
