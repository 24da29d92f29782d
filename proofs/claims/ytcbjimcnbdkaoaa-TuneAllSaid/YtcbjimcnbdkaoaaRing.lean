
/- What the functions of layer 22 (ring), and of its reference, compute: one contract a function. -/
import Derived.Test.YtcbjimcnbdkaoaaChecked
import Derived.WalkKit
import Derived.WalkLawsBesides
import Derived.WalkSpells
import Derived.Lib.Hide
import Derived.Outline
import Derived.Deep.QuietTactic
import Derived.BigQuiet
namespace Go.Proofs.Ytcbjimcnbdkaoaa.Ring
open Go.RowKit

theorem ret_int {k : IntKind} {a b : Int} (h : a = b) : Ending.returned (.int k a) = .returned (.int k b) := by rw [h]
theorem ret_bool {a b : Bool} (h : a = b) : Ending.returned (.bool a) = .returned (.bool b) := by rw [h]

/-- a contract that leaves the world alone, inside a region whose order is drawn -/
theorem quiet_same {P : Program} {f : FuncId} {args : Array Value} {w : World} {n : Nat} {v : Value}
    (h : Calls P f args (w.drewN n) fun e w' => e = .returned v ∧ w.drewN n = w') : Calls P f args (w.drewN n) fun e w'' => e = .returned v ∧ ∃ m, w'' = w.drewN m :=
  h.mono fun _ _ ⟨he, hm⟩ => ⟨he, n, hm.symm⟩

def check (w m l : Int) : Int :=
  if l < 1 ∨ 4096 < l then 222
  else if w < 1 ∨ l < w ∨ 64 < w then 220
  else if 65536 < m ∨ m ≤ 2 * (w + l) then 221
  else 0

theorem Check_any (w m l : Int) (W : World) :
    Calls Try.prog 11 #[.int .i64 w, .int .i64 m, .int .i64 l] W fun e W' => e = .returned (.int .i64 (check w m l)) ∧ W = W' := by
  go_enter Try.func11, Try.ntmps11
  go_wp2
  all_goals go_ret
  all_goals exact ⟨ret_int (by unfold check; repeat' split
                               all_goals (first | rfl | omega | (exfalso; split at * <;> omega))), rfl⟩

theorem refCheck_any (w m l : Int) (W : World) :
    Calls Try.prog 12 #[.int .i64 w, .int .i64 m, .int .i64 l] W fun e W' => e = .returned (.int .i64 (check w m l)) ∧ W = W' := by
  go_enter Try.func12, Try.ntmps12
  go_wp2
  all_goals go_ret
  all_goals exact ⟨ret_int (by unfold check; repeat' split
                               all_goals (first | rfl | omega | (exfalso; split at * <;> omega))), rfl⟩

def mod (p m : Int) : Int := if m < 1 then 0 else p % m

theorem tmod_cases (p m : Int) (h : 1 ≤ m) : -m < p.tmod m ∧ p.tmod m < m ∧ (p.tmod m < 0 → p % m = p.tmod m + m) ∧ (0 ≤ p.tmod m → p % m = p.tmod m) := by
  have h1 := Int.emod_nonneg p (show m ≠ 0 by omega)
  have h2 := Int.emod_lt_of_pos p (show 0 < m by omega)
  rw [Int.tmod_eq_emod]
  by_cases hc : 0 ≤ p ∨ m ∣ p
  · rw [if_pos hc]; omega
  · rw [if_neg hc]
    have : p % m ≠ 0 := fun h0 => hc (.inr (Int.dvd_of_emod_eq_zero h0))
    have : (m.natAbs : Int) = m := by omega
    omega

theorem Mod_any (p m : Int) (hm : m ≤ 9223372036854775807) (W : World) :
    Calls Try.prog 17 #[.int .i64 p, .int .i64 m] W fun e W' => e = .returned (.int .i64 (mod p m)) ∧ W = W' := by
  by_cases h1 : m < 1
  · go_enter Try.func17, Try.ntmps17
    go_wp2
    go_ret
    exact ⟨ret_int (by unfold mod; rw [if_pos h1]), rfl⟩
  · obtain ⟨a, b, c, d⟩ := tmod_cases p m (by omega)
    have C := Lib.hid c; have D := Lib.hid d
    clear c d
    have h2 : 1 ≤ m := by omega
    clear h1
    go_enter Try.func17, Try.ntmps17
    go_wp2
    all_goals go_ret
    · have hc : p.tmod m < 0 := by assumption
      exact ⟨ret_int (by unfold mod; rw [if_neg (by omega), C.out hc]), rfl⟩
    · have hc : 0 ≤ p.tmod m := by assumption
      exact ⟨ret_int (by unfold mod; rw [if_neg (by omega), D.out hc]), rfl⟩

theorem refMod_any (p m : Int) (hm : m ≤ 9223372036854775807) (W : World) :
    Calls Try.prog 18 #[.int .i64 p, .int .i64 m] W fun e W' => e = .returned (.int .i64 (mod p m)) ∧ W = W' := by
  by_cases h1 : m < 1
  · go_enter Try.func18, Try.ntmps18
    go_wp2
    go_ret
    exact ⟨ret_int (by unfold mod; rw [if_pos h1]), rfl⟩
  · obtain ⟨a, b, c, d⟩ := tmod_cases p m (by omega)
    have C := Lib.hid c; have D := Lib.hid d
    clear c d
    have h2 : 1 ≤ m := by omega
    clear h1
    go_enter Try.func18, Try.ntmps18
    go_wp2
    all_goals go_ret
    · have hc : p.tmod m < 0 := by assumption
      exact ⟨ret_int (by unfold mod; rw [if_neg (by omega), C.out hc]), rfl⟩
    · have hc : 0 ≤ p.tmod m := by assumption
      exact ⟨ret_int (by unfold mod; rw [if_neg (by omega), D.out hc]), rfl⟩

theorem mod_bd (p m : Int) : 0 ≤ mod p m ∧ (1 ≤ m → mod p m < m) := by
  unfold mod
  by_cases h : m < 1
  · rw [if_pos h]; omega
  · rw [if_neg h]; exact ⟨Int.emod_nonneg p (by omega), fun _ => Int.emod_lt_of_pos p (by omega)⟩

def ahead (a b m : Int) : Int := mod (mod b m - mod a m) m

theorem mod_le (p m : Int) : 0 ≤ mod p m ∧ (m ≤ 9223372036854775807 → mod p m ≤ 9223372036854775807) := by
  have := mod_bd p m
  by_cases h : m < 1
  · unfold mod; rw [if_pos h]; omega
  · omega

theorem Ahead_any (a b m : Int) (hm : m ≤ 9223372036854775807) (W : World) :
    Calls Try.prog 16 #[.int .i64 a, .int .i64 b, .int .i64 m] W fun e W' => e = .returned (.int .i64 (ahead a b m)) ∧ W = W' := by
  have h1 := mod_le a m
  have h2 := mod_le b m
  have h3 := h1.2 hm
  have h4 := h2.2 hm
  have h5 := h1.1
  have h6 := h2.1
  clear h1 h2
  go_enter Try.func16, Try.ntmps16
  go_wp2_with (go_at_call 17; refine (Mod_any _ _ hm _).mono ?_; rintro e w' ⟨rfl, rfl⟩)
  go_ret
  exact ⟨rfl, rfl⟩

theorem refAhead_any (a b m : Int) (hm : m ≤ 9223372036854775807) (W : World) :
    Calls Try.prog 19 #[.int .i64 a, .int .i64 b, .int .i64 m] W fun e W' => e = .returned (.int .i64 (ahead a b m)) ∧ W = W' := by
  have h1 := mod_le a m
  have h2 := mod_le b m
  have h3 := h1.2 hm
  have h4 := h2.2 hm
  have h5 := h1.1
  have h6 := h2.1
  clear h1 h2
  by_cases hh : m < 1
  · go_enter Try.func19, Try.ntmps19
    go_wp2
    go_ret
    exact ⟨ret_int (by unfold ahead mod; simp [hh]), rfl⟩
  · have h7 : 1 ≤ m := by omega
    clear hh
    go_enter Try.func19, Try.ntmps19
    go_wp2_with (go_at_call 18; refine (refMod_any _ _ hm _).mono ?_; rintro e w' ⟨rfl, rfl⟩)
    go_ret
    exact ⟨rfl, rfl⟩

/-- What Near answers: the place, and whether there is one. -/
def nearOk (base span seq m : Int) : Bool :=
  decide (0 ≤ base ∧ base ≤ 1152921504606846976 ∧ 0 ≤ span ∧ span ≤ 65536 ∧ 1 ≤ m ∧ m ≤ 65536 ∧ 0 ≤ seq ∧ seq < m ∧ ahead base seq m < span)
def near (base span seq m : Int) : Int := if nearOk base span seq m = true then base + ahead base seq m else 0

theorem nearOk_false {base span seq m : Int} (h : ¬ (0 ≤ base ∧ base ≤ 1152921504606846976 ∧ 0 ≤ span ∧ span ≤ 65536 ∧ 1 ≤ m ∧ m ≤ 65536 ∧ 0 ≤ seq ∧ seq < m ∧ ahead base seq m < span)) : nearOk base span seq m = false ∧ near base span seq m = 0 := by
  have : nearOk base span seq m = false := by unfold nearOk; simp only [decide_eq_false_iff_not]; exact h
  exact ⟨this, by unfold near; rw [this]; simp⟩

theorem ret_near {x : Int} {b : Bool} {base span seq m : Int} (h1 : x = near base span seq m) (h2 : b = nearOk base span seq m) :
    Ending.returned (.tuple #[.int .i64 x, .bool b]) = .returned (.tuple #[.int .i64 (near base span seq m), .bool (nearOk base span seq m)]) := by rw [h1, h2]

theorem Near_any (base span seq m : Int) (W : World) :
    Calls Try.prog 14 #[.int .i64 base, .int .i64 span, .int .i64 seq, .int .i64 m] W
      fun e W' => e = .returned (.tuple #[.int .i64 (near base span seq m), .bool (nearOk base span seq m)]) ∧ W = W' := by
  by_cases hb : base < 0 ∨ 1152921504606846976 < base
  · have f := nearOk_false (base := base) (span := span) (seq := seq) (m := m) (by omega)
    have F := Lib.hid f; clear f
    go_enter Try.func14, Try.ntmps14
    go_wp2
    all_goals go_ret2
    all_goals exact ⟨ret_near F.out.2.symm F.out.1.symm, rfl⟩
  by_cases hs : span < 0 ∨ 65536 < span
  · have f := nearOk_false (base := base) (span := span) (seq := seq) (m := m) (by omega)
    have F := Lib.hid f; clear f
    go_enter Try.func14, Try.ntmps14
    go_wp2
    all_goals go_ret2
    all_goals exact ⟨ret_near F.out.2.symm F.out.1.symm, rfl⟩
  by_cases hm : m < 1 ∨ 65536 < m ∨ seq < 0 ∨ m ≤ seq
  · have f := nearOk_false (base := base) (span := span) (seq := seq) (m := m) (by omega)
    have F := Lib.hid f; clear f
    go_enter Try.func14, Try.ntmps14
    go_wp2
    all_goals go_ret2
    all_goals exact ⟨ret_near F.out.2.symm F.out.1.symm, rfl⟩
  have h0 : 0 ≤ base := by omega
  have h1 : base ≤ 1152921504606846976 := by omega
  have h2 : 0 ≤ span := by omega
  have h3 : span ≤ 65536 := by omega
  have h4 : 1 ≤ m := by omega
  have h5 : m ≤ 65536 := by omega
  have h6 : 0 ≤ seq := by omega
  have h7 : seq < m := by omega
  clear hb hs hm
  have hn := mod_bd (mod seq m - mod base m) m
  obtain ⟨n, hnn⟩ : ∃ n, n = ahead base seq m := ⟨_, rfl⟩
  have h8 : 0 ≤ n := by rw [hnn]; exact hn.1
  have h9 : n < m := by rw [hnn]; exact hn.2 h4
  clear hn
  have HN := Lib.hid hnn; clear hnn
  go_enter Try.func14, Try.ntmps14
  go_wp2_with (go_at_call 16; refine (Ahead_any _ _ _ (by omega) _).mono ?_; (rw [← HN.out]); rintro e w' ⟨rfl, rfl⟩)
  all_goals go_ret2
  · have hc : span ≤ n := by assumption
    have f := nearOk_false (base := base) (span := span) (seq := seq) (m := m) (by rw [← HN.out]; omega)
    exact ⟨ret_near f.2.symm f.1.symm, rfl⟩
  · have hc : n < span := by assumption
    have f : nearOk base span seq m = true := by unfold nearOk; rw [← HN.out]; simp only [decide_eq_true_eq]; omega
    exact ⟨ret_near (by unfold near; rw [if_pos f, ← HN.out]) f.symm, rfl⟩

theorem num_any (n : Int) (W : World) :
    Calls Try.prog 10 #[.int .i64 n] W fun e W' => e = .returned (.int .i64 n) ∧ W = W' := by
  go_enter Try.func10, Try.ntmps10
  go_wp2
  go_ret
  exact ⟨rfl, rfl⟩

theorem live_any (W : World) :
    Calls Try.prog 13 #[] W fun e W' => e = .returned (.bool true) ∧ W = W' := by
  have e1 : near 7 3 0 8 = 8 := by decide
  have e2 : nearOk 7 3 0 8 = true := by decide
  have e3 : check 1 5 1 = 0 := by decide
  have e4 : check 1 4 1 = 221 := by decide
  have e5 : ahead 7 1 8 = 2 := by decide
  go_enter Try.func13, Try.ntmps13
  go_wp2_with (first
    | (go_at_call 14; refine (Near_any _ _ _ _ _).mono ?_; rintro e w' ⟨rfl, rfl⟩)
    | (go_at_call 11; refine (Check_any _ _ _ _).mono ?_; rintro e w' ⟨rfl, rfl⟩)
    | (go_at_call 16; refine (Ahead_any _ _ _ (by omega) _).mono ?_; rintro e w' ⟨rfl, rfl⟩)
    | (go_at_call 10; refine (num_any _ _).mono ?_; rintro e w' ⟨rfl, rfl⟩))
  go_ret
  exact ⟨rfl, rfl⟩

theorem RingChecks_any (w m l : Int) (W : World) :
    Calls Try.prog 3 #[.int .i64 w, .int .i64 m, .int .i64 l] W fun e W' => e = .returned (.bool true) ∧ W = W' := by
  go_enter Try.func3, Try.ntmps3
  go_wp2_with (first
    | (go_at_call 11; refine (Check_any _ _ _ _).mono ?_; rintro e w' ⟨rfl, rfl⟩)
    | (go_at_call 12; refine (refCheck_any _ _ _ _).mono ?_; rintro e w' ⟨rfl, rfl⟩)
    | (go_at_call 13; refine (live_any _).mono ?_; rintro e w' ⟨rfl, rfl⟩)
    | (go_at_call 10; refine (num_any _ _).mono ?_; rintro e w' ⟨rfl, rfl⟩))
  go_ret
  exact ⟨rfl, rfl⟩

theorem RingMods_any (p q m : Int) (hm : m ≤ 9223372036854775807) (W : World) :
    Calls Try.prog 5 #[.int .i64 p, .int .i64 q, .int .i64 m] W fun e W' => e = .returned (.bool true) ∧ W = W' := by
  have hb := mod_bd (mod q m - mod p m) m
  obtain ⟨n, hnn⟩ : ∃ n, n = ahead p q m := ⟨_, rfl⟩
  have h8 : 0 ≤ n := by rw [hnn]; exact hb.1
  have h9 : 1 ≤ m → n < m := by rw [hnn]; exact hb.2
  clear hb
  have HN := Lib.hid hnn; clear hnn
  by_cases h : m < 1
  all_goals
    first | (have h10 : n < m := h9 (by omega)) | skip
    clear h9
    go_enter Try.func5, Try.ntmps5
    go_wp2_with (first
      | (go_at_call 16; refine (Ahead_any _ _ _ hm _).mono ?_; (rw [← HN.out]); rintro e w' ⟨rfl, rfl⟩)
      | (go_at_call 19; refine (refAhead_any _ _ _ hm _).mono ?_; (rw [← HN.out]); rintro e w' ⟨rfl, rfl⟩)
      | (go_at_call 17; refine (Mod_any _ _ hm _).mono ?_; rintro e w' ⟨rfl, rfl⟩)
      | (go_at_call 18; refine (refMod_any _ _ hm _).mono ?_; rintro e w' ⟨rfl, rfl⟩)
      | (go_at_call 13; refine (live_any _).mono ?_; rintro e w' ⟨rfl, rfl⟩))
    go_ret
    exact ⟨rfl, rfl⟩
end Go.Proofs.Ytcbjimcnbdkaoaa.Ring
