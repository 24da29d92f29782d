
/- Layer 16 (flight): frames that are picked out of a row, one by one. -/
import Derived.Test.YtogijioehdaefaaFltF
namespace Go.Proofs.Ytogijioehdaefaa.Flt
open Go.RowKit Go.Proofs.Ytogijioehdaefaa.Mem Go.Proofs.Ytogijioehdaefaa.Oct Go.Proofs.Ytogijioehdaefaa.Pkt Go.Proofs.Ytogijioehdaefaa.Def Go.Proofs.Ytogijioehdaefaa.Ed

def selY (p : Nat → Bool) (ys : List Value) : Nat → List Value
  | 0 => []
  | k + 1 => selY p ys k ++ (if p k then (ys.drop (k * 3)).take 3 else [])
def selL (p : Nat → Bool) (l : List Frm) : Nat → List Frm
  | 0 => []
  | k + 1 => selL p l k ++ (if p k then [nthF l k] else [])
theorem take_drop_one (l : List Frm) (k : Nat) (h : k < l.length) : (l.drop k).take 1 = [nthF l k] := by
  unfold nthF
  rw [List.getD_eq_getElem?_getD, List.getElem?_eq_getElem h, List.drop_eq_getElem_cons h]
  rfl
theorem sel_len (p : Nat → Bool) (ys : List Value) (l : List Frm) (hl : ys.length = l.length * 3) : ∀ k, k ≤ l.length → (selY p ys k).length = (selL p l k).length * 3
  | 0, _ => rfl
  | k + 1, h => by
    unfold selY selL
    rw [List.length_append, List.length_append, sel_len p ys l hl k (by omega)]
    split
    · rw [List.length_take, List.length_drop]
      simp
      omega
    · simp
theorem sel_ok {q : Nat → Prop} {w : World} (p : Nat → Bool) {ys : List Value} {l : List Frm} (hf : FrOk q w ys l) (hl : ys.length = l.length * 3) : ∀ k, k ≤ l.length → FrOk q w (selY p ys k) (selL p l k)
  | 0, _ => FrOk.nil _ _
  | k + 1, h => by
    refine (sel_ok p hf hl k (by omega)).append (sel_len p ys l hl k (by omega)) ?_
    split
    · have := (hf.drop k).take 1
      rw [take_drop_one l k (by omega)] at this
      exact this
    · exact FrOk.nil _ _
theorem selL_le (p : Nat → Bool) (l : List Frm) : ∀ k, (selL p l k).length ≤ k
  | 0 => Nat.le_refl _
  | k + 1 => by
    have := selL_le p l k
    unfold selL
    rw [List.length_append]
    split <;> simp <;> omega
theorem selY_yes (p : Nat → Bool) (ys : List Value) (k : Nat) (h : p k = true) {c0 c1 c2 : Value} (h0 : ys[k * 3]? = some c0) (h1 : ys[k * 3 + 1]? = some c1) (h2 : ys[k * 3 + 2]? = some c2) : selY p ys (k + 1) = selY p ys k ++ [c0, c1, c2] := by
  show selY p ys k ++ _ = _
  rw [if_pos h]
  congr 1
  refine List.ext_getElem? fun j => ?_
  rw [List.getElem?_take, List.getElem?_drop]
  match j with
  | 0 => simpa using h0
  | 1 => simpa using h1
  | 2 => simpa using h2
  | j + 3 => simp; omega
theorem selY_no (p : Nat → Bool) (ys : List Value) (k : Nat) (h : p k = false) : selY p ys (k + 1) = selY p ys k := by
  show selY p ys k ++ _ = _
  rw [h]
  simp
theorem selL_yes (p : Nat → Bool) (l : List Frm) (k : Nat) (h : p k = true) : (selL p l (k + 1)).length = (selL p l k).length + 1 := by
  show (selL p l k ++ _).length = _
  rw [if_pos h]
  simp
theorem selL_no (p : Nat → Bool) (l : List Frm) (k : Nat) (h : p k = false) : selL p l (k + 1) = selL p l k := by
  show selL p l k ++ _ = _
  rw [h]
  simp
theorem take_next (l : List Frm) (k : Nat) (h : k < l.length) : l.take (k + 1) = l.take k ++ [nthF l k] := by
  unfold nthF
  rw [List.take_succ_eq_append_getElem h, List.getD_eq_getElem?_getD, List.getElem?_eq_getElem h]
  rfl
/-- all but the i'th -/
theorem selL_but (l : List Frm) (i : Nat) (hi : i < l.length) : selL (fun k => decide (k ≠ i)) l l.length = l.take i ++ l.drop (i + 1) := by
  have key : ∀ k, k ≤ l.length → selL (fun k => decide (k ≠ i)) l k = l.take (min k i) ++ (l.take k).drop (i + 1) := by
    intro k
    induction k with
    | zero => intro _; simp [selL]
    | succ k ih =>
      intro h
      have := ih (by omega)
      by_cases hk : k = i
      · subst hk
        rw [selL_no _ _ _ (by simp), this, show min k k = k by omega, show min (k + 1) k = k by omega]
        rw [List.drop_of_length_le (l := l.take k) (by simp; omega), List.drop_of_length_le (l := l.take (k + 1)) (by simp; omega)]
      · show selL _ l k ++ _ = _
        rw [if_pos (by simpa using hk), this, take_next l k (by omega)]
        by_cases hlt : k < i
        · rw [show min k i = k by omega, show min (k + 1) i = k + 1 by omega, take_next l k (by omega)]
          rw [List.drop_of_length_le (l := l.take k) (by simp; omega), List.drop_of_length_le (l := l.take k ++ [nthF l k]) (by simp; omega)]
          simp
        · rw [show min k i = i by omega, show min (k + 1) i = i by omega, List.append_assoc, List.drop_append_of_le_length (by simp; omega)]
  have := key l.length (Nat.le_refl _)
  rw [this, List.take_length, show min l.length i = i by omega]
theorem selL_filter (l : List Frm) (q : Frm → Bool) : selL (fun k => q (nthF l k)) l l.length = l.filter q := by
  have key : ∀ k, k ≤ l.length → selL (fun k => q (nthF l k)) l k = (l.take k).filter q := by
    intro k
    induction k with
    | zero => intro _; simp [selL]
    | succ k ih =>
      intro h
      show selL _ l k ++ _ = _
      rw [ih (by omega), take_next l k (by omega), List.filter_append]
      congr 1
      by_cases hq : q (nthF l k) = true
      · rw [if_pos hq, List.filter_cons_of_pos hq]; rfl
      · rw [if_neg hq, List.filter_cons_of_neg hq]; rfl
  rw [key _ (Nat.le_refl _), List.take_length]
end Go.Proofs.Ytogijioehdaefaa.Flt
