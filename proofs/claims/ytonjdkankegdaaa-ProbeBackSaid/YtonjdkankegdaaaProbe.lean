
/- Layer 13 (probe): the functions' walks. -/
import Derived.Test.YtonjdkankegdaaaPkt
namespace Go.Proofs.Ytonjdkankegdaaa.Probe
open Go.RowKit Go.Proofs.Ytonjdkankegdaaa.Mem Go.Proofs.Ytonjdkankegdaaa.Oct Go.Proofs.Ytonjdkankegdaaa.Pkt

/-- which packets may be -/
def prOk (k lb : Int) (n : Nat) : Bool :=
  if k = 3 then decide (0 ≤ lb ∧ lb < 2 ∧ n ≤ 64) else if k = 4 then decide (0 ≤ lb ∧ lb < 2 ∧ n = 0) else decide (0 ≤ k ∧ k ≤ 2 ∧ lb = 0 ∧ n = 0)
theorem prOk_cases {k lb : Int} {n : Nat} (h : prOk k lb n = true) : (k = 0 ∧ lb = 0 ∧ n = 0) ∨ (k = 1 ∧ lb = 0 ∧ n = 0) ∨ (k = 2 ∧ lb = 0 ∧ n = 0) ∨ (k = 3 ∧ lb = 0 ∧ n ≤ 64) ∨ (k = 3 ∧ lb = 1 ∧ n ≤ 64) ∨ (k = 4 ∧ lb = 0 ∧ n = 0) ∨ (k = 4 ∧ lb = 1 ∧ n = 0) := by
  unfold prOk at h
  split at h
  · simp only [decide_eq_true_eq] at h; omega
  · split at h
    · simp only [decide_eq_true_eq] at h; omega
    · simp only [decide_eq_true_eq] at h; omega
theorem prOk_small {k lb : Int} {n : Nat} (h : prOk k lb n = true) : n ≤ 64 := by have := prOk_cases h; omega

/-- a packet's header -/
def prHead (k lb : Int) : UInt8 := if k = 3 then UInt8.ofNat (4 + lb).toNat else if k = 4 then UInt8.ofNat (6 + lb).toNat else UInt8.ofNat k.toNat
def prPut (k lb : Int) (l : List UInt8) : List UInt8 := if prOk k lb l.length = true then prHead k lb :: l else []
def prErr (k lb : Int) (n : Nat) : Int := if prOk k lb n = true then 0 else 130

set_option maxHeartbeats 2000000 in
theorem right_any (k lb : Int) (A : Option Addr) (n cap : Nat) (hn : n ≤ maxLen) (W : World) :
    Calls Try.prog 48 #[.agg #[.int .i64 k, .int .i64 lb, .slice A n cap]] W fun e W' => e = .returned (.bool (prOk k lb n)) ∧ W' = W.alloc (.cells #[.int .i64 k, .int .i64 lb, .slice A n cap] 41) := by
  unfold maxLen at hn
  go_enter Try.func48, Try.ntmps48
  go_wp2
  all_goals (first | (go_ret; refine ⟨ret_bool ?_, rfl⟩; simp_all [prOk]; done) | (go_ret; refine ⟨ret_bool ?_, rfl⟩; simp_all [prOk]; omega))

set_option maxHeartbeats 2000000 in
theorem refRight_any (k lb : Int) (A : Option Addr) (n cap : Nat) (hn : n ≤ maxLen) (W : World) :
    Calls Try.prog 49 #[.agg #[.int .i64 k, .int .i64 lb, .slice A n cap]] W fun e W' => e = .returned (.bool (prOk k lb n)) ∧ W' = W.alloc (.cells #[.int .i64 k, .int .i64 lb, .slice A n cap] 41) := by
  unfold maxLen at hn
  go_enter Try.func49, Try.ntmps49
  go_wp2
  all_goals (go_ret; refine ⟨ret_bool ?_, by first | rfl | simp_all⟩; simp_all [prOk] <;> first | omega | (rw [Bool.eq_iff_iff]; simp; omega) | (split <;> first | omega | (split <;> omega)))

theorem refHead_any (k lb : Int) (A : Option Addr) (n cap : Nat) (h : prOk k lb n = true) (W : World) :
    Calls Try.prog 50 #[.agg #[.int .i64 k, .int .i64 lb, .slice A n cap]] W fun e W' => e = .returned (.int .u8 ((prHead k lb).toNat : Int)) ∧ W' = W.alloc (.cells #[.int .i64 k, .int .i64 lb, .slice A n cap] 41) := by
  rcases prOk_cases h with ⟨rfl, rfl, -⟩ | ⟨rfl, rfl, -⟩ | ⟨rfl, rfl, -⟩ | ⟨rfl, rfl, -⟩ | ⟨rfl, rfl, -⟩ | ⟨rfl, rfl, -⟩ | ⟨rfl, rfl, -⟩
  all_goals (go_enter Try.func50, Try.ntmps50; go_wp2; go_ret; exact ⟨rfl, rfl⟩)

set_option maxHeartbeats 4000000 in
theorem Put_any (k lb : Int) (A : Option Addr) (cap : Nat) (l : List UInt8) (W : World) (hA : Bytes W W.heap.size A l) (hl : l.length ≤ maxLen) :
    Calls Try.prog 21 #[.agg #[.int .i64 k, .int .i64 lb, .slice A l.length cap]] W (GivesN (prErr k lb l.length) W (prPut k lb l)) := by
  by_cases h : prOk k lb l.length = true
  · have hx := prOk_cases h
    have hsm := prOk_small h
    have e1 : prErr k lb l.length = 0 := if_pos h
    have e2 : prPut k lb l = prHead k lb :: l := if_pos h
    rw [e1, e2]
    have H := Lib.hid h
    clear e1 e2 h hl
    rcases hx with ⟨rfl, rfl, -⟩ | ⟨rfl, rfl, -⟩ | ⟨rfl, rfl, -⟩ | ⟨rfl, rfl, -⟩ | ⟨rfl, rfl, -⟩ | ⟨rfl, rfl, -⟩ | ⟨rfl, rfl, -⟩
    · obtain ⟨w2, hw2⟩ : ∃ w2, w2 = ((W.alloc (.cells #[.int .i64 0, .int .i64 0, .slice A l.length cap] 41)).alloc (.cells #[.int .i64 0, .int .i64 0, .slice A l.length cap] 41)) := ⟨_, rfl⟩
      have hb2 : Below W.heap.size W w2 := by rw [hw2]; exact below_alloc (below_alloc (Below.refl W.heap.size W) _) _
      have hol := own_lit 5 w2 (base := W.heap.size) hb2.size [0] #[.int .u8 0] rfl (by simp [maxLen])
      have hA2 := hA.below (below_alloc hb2 (.cells #[.int .u8 0] 5)) (Nat.le_refl _)
      have hs2 := Lib.hid (show W.heap.size + 2 = w2.heap.size by rw [hw2]; simp)
      have HW2 := Lib.hid hw2
      clear hw2
      go_enter Try.func21, Try.ntmps21
      go_wp2_with fail
      refine (right_any 0 0 A l.length cap (by unfold maxLen; omega) _).mono ?_
      rw [H.out]
      rintro e w1 ⟨rfl, rfl⟩
      rw [← hs2.out] at hol
      obtain rfl := HW2.out
      have HO := Lib.hid hol
      clear hs2 hol HW2
      go_wp2_with (at_builtin; refine wpList_app _ rfl _ _ 23 rfl 5 Try.underlying23 infoU8 W.heap.size _ [0] rfl HO.out _ A _ cap l rfl rfl hA2 (by simp; omega) (by simp; omega) ?_)
      intro v' w' ho' hg
      have hb' := HO.out.grown (below_alloc hb2 _) hg (Nat.le_refl _) (Nat.le_refl _)
      clear HO hg hA2
      go_wp2
      go_ret2
      exact ⟨_, rfl, ho', hb'⟩
    · obtain ⟨w2, hw2⟩ : ∃ w2, w2 = ((W.alloc (.cells #[.int .i64 1, .int .i64 0, .slice A l.length cap] 41)).alloc (.cells #[.int .i64 1, .int .i64 0, .slice A l.length cap] 41)) := ⟨_, rfl⟩
      have hb2 : Below W.heap.size W w2 := by rw [hw2]; exact below_alloc (below_alloc (Below.refl W.heap.size W) _) _
      have hol := own_lit 5 w2 (base := W.heap.size) hb2.size [1] #[.int .u8 1] rfl (by simp [maxLen])
      have hA2 := hA.below (below_alloc hb2 (.cells #[.int .u8 1] 5)) (Nat.le_refl _)
      have hs2 := Lib.hid (show W.heap.size + 2 = w2.heap.size by rw [hw2]; simp)
      have HW2 := Lib.hid hw2
      clear hw2
      go_enter Try.func21, Try.ntmps21
      go_wp2_with fail
      refine (right_any 1 0 A l.length cap (by unfold maxLen; omega) _).mono ?_
      rw [H.out]
      rintro e w1 ⟨rfl, rfl⟩
      rw [← hs2.out] at hol
      obtain rfl := HW2.out
      have HO := Lib.hid hol
      clear hs2 hol HW2
      go_wp2_with (at_builtin; refine wpList_app _ rfl _ _ 23 rfl 5 Try.underlying23 infoU8 W.heap.size _ [1] rfl HO.out _ A _ cap l rfl rfl hA2 (by simp; omega) (by simp; omega) ?_)
      intro v' w' ho' hg
      have hb' := HO.out.grown (below_alloc hb2 _) hg (Nat.le_refl _) (Nat.le_refl _)
      clear HO hg hA2
      go_wp2
      go_ret2
      exact ⟨_, rfl, ho', hb'⟩
    · obtain ⟨w2, hw2⟩ : ∃ w2, w2 = ((W.alloc (.cells #[.int .i64 2, .int .i64 0, .slice A l.length cap] 41)).alloc (.cells #[.int .i64 2, .int .i64 0, .slice A l.length cap] 41)) := ⟨_, rfl⟩
      have hb2 : Below W.heap.size W w2 := by rw [hw2]; exact below_alloc (below_alloc (Below.refl W.heap.size W) _) _
      have hol := own_lit 5 w2 (base := W.heap.size) hb2.size [2] #[.int .u8 2] rfl (by simp [maxLen])
      have hA2 := hA.below (below_alloc hb2 (.cells #[.int .u8 2] 5)) (Nat.le_refl _)
      have hs2 := Lib.hid (show W.heap.size + 2 = w2.heap.size by rw [hw2]; simp)
      have HW2 := Lib.hid hw2
      clear hw2
      go_enter Try.func21, Try.ntmps21
      go_wp2_with fail
      refine (right_any 2 0 A l.length cap (by unfold maxLen; omega) _).mono ?_
      rw [H.out]
      rintro e w1 ⟨rfl, rfl⟩
      rw [← hs2.out] at hol
      obtain rfl := HW2.out
      have HO := Lib.hid hol
      clear hs2 hol HW2
      go_wp2_with (at_builtin; refine wpList_app _ rfl _ _ 23 rfl 5 Try.underlying23 infoU8 W.heap.size _ [2] rfl HO.out _ A _ cap l rfl rfl hA2 (by simp; omega) (by simp; omega) ?_)
      intro v' w' ho' hg
      have hb' := HO.out.grown (below_alloc hb2 _) hg (Nat.le_refl _) (Nat.le_refl _)
      clear HO hg hA2
      go_wp2
      go_ret2
      exact ⟨_, rfl, ho', hb'⟩
    · obtain ⟨w2, hw2⟩ : ∃ w2, w2 = ((W.alloc (.cells #[.int .i64 3, .int .i64 0, .slice A l.length cap] 41)).alloc (.cells #[.int .i64 3, .int .i64 0, .slice A l.length cap] 41)) := ⟨_, rfl⟩
      have hb2 : Below W.heap.size W w2 := by rw [hw2]; exact below_alloc (below_alloc (Below.refl W.heap.size W) _) _
      have hol := own_lit 5 w2 (base := W.heap.size) hb2.size [4] #[.int .u8 4] rfl (by simp [maxLen])
      have hA2 := hA.below (below_alloc hb2 (.cells #[.int .u8 4] 5)) (Nat.le_refl _)
      have hs2 := Lib.hid (show W.heap.size + 2 = w2.heap.size by rw [hw2]; simp)
      have HW2 := Lib.hid hw2
      clear hw2
      go_enter Try.func21, Try.ntmps21
      go_wp2_with fail
      refine (right_any 3 0 A l.length cap (by unfold maxLen; omega) _).mono ?_
      rw [H.out]
      rintro e w1 ⟨rfl, rfl⟩
      rw [← hs2.out] at hol
      obtain rfl := HW2.out
      have HO := Lib.hid hol
      clear hs2 hol HW2
      go_wp2_with (at_builtin; refine wpList_app _ rfl _ _ 23 rfl 5 Try.underlying23 infoU8 W.heap.size _ [4] rfl HO.out _ A _ cap l rfl rfl hA2 (by simp; omega) (by simp; omega) ?_)
      intro v' w' ho' hg
      have hb' := HO.out.grown (below_alloc hb2 _) hg (Nat.le_refl _) (Nat.le_refl _)
      clear HO hg hA2
      go_wp2
      go_ret2
      exact ⟨_, rfl, ho', hb'⟩
    · obtain ⟨w2, hw2⟩ : ∃ w2, w2 = ((W.alloc (.cells #[.int .i64 3, .int .i64 1, .slice A l.length cap] 41)).alloc (.cells #[.int .i64 3, .int .i64 1, .slice A l.length cap] 41)) := ⟨_, rfl⟩
      have hb2 : Below W.heap.size W w2 := by rw [hw2]; exact below_alloc (below_alloc (Below.refl W.heap.size W) _) _
      have hol := own_lit 5 w2 (base := W.heap.size) hb2.size [5] #[.int .u8 5] rfl (by simp [maxLen])
      have hA2 := hA.below (below_alloc hb2 (.cells #[.int .u8 5] 5)) (Nat.le_refl _)
      have hs2 := Lib.hid (show W.heap.size + 2 = w2.heap.size by rw [hw2]; simp)
      have HW2 := Lib.hid hw2
      clear hw2
      go_enter Try.func21, Try.ntmps21
      go_wp2_with fail
      refine (right_any 3 1 A l.length cap (by unfold maxLen; omega) _).mono ?_
      rw [H.out]
      rintro e w1 ⟨rfl, rfl⟩
      rw [← hs2.out] at hol
      obtain rfl := HW2.out
      have HO := Lib.hid hol
      clear hs2 hol HW2
      go_wp2_with (at_builtin; refine wpList_app _ rfl _ _ 23 rfl 5 Try.underlying23 infoU8 W.heap.size _ [5] rfl HO.out _ A _ cap l rfl rfl hA2 (by simp; omega) (by simp; omega) ?_)
      intro v' w' ho' hg
      have hb' := HO.out.grown (below_alloc hb2 _) hg (Nat.le_refl _) (Nat.le_refl _)
      clear HO hg hA2
      go_wp2
      go_ret2
      exact ⟨_, rfl, ho', hb'⟩
    · obtain ⟨w2, hw2⟩ : ∃ w2, w2 = ((W.alloc (.cells #[.int .i64 4, .int .i64 0, .slice A l.length cap] 41)).alloc (.cells #[.int .i64 4, .int .i64 0, .slice A l.length cap] 41)) := ⟨_, rfl⟩
      have hb2 : Below W.heap.size W w2 := by rw [hw2]; exact below_alloc (below_alloc (Below.refl W.heap.size W) _) _
      have hol := own_lit 5 w2 (base := W.heap.size) hb2.size [6] #[.int .u8 6] rfl (by simp [maxLen])
      have hA2 := hA.below (below_alloc hb2 (.cells #[.int .u8 6] 5)) (Nat.le_refl _)
      have hs2 := Lib.hid (show W.heap.size + 2 = w2.heap.size by rw [hw2]; simp)
      have HW2 := Lib.hid hw2
      clear hw2
      go_enter Try.func21, Try.ntmps21
      go_wp2_with fail
      refine (right_any 4 0 A l.length cap (by unfold maxLen; omega) _).mono ?_
      rw [H.out]
      rintro e w1 ⟨rfl, rfl⟩
      rw [← hs2.out] at hol
      obtain rfl := HW2.out
      have HO := Lib.hid hol
      clear hs2 hol HW2
      go_wp2_with (at_builtin; refine wpList_app _ rfl _ _ 23 rfl 5 Try.underlying23 infoU8 W.heap.size _ [6] rfl HO.out _ A _ cap l rfl rfl hA2 (by simp; omega) (by simp; omega) ?_)
      intro v' w' ho' hg
      have hb' := HO.out.grown (below_alloc hb2 _) hg (Nat.le_refl _) (Nat.le_refl _)
      clear HO hg hA2
      go_wp2
      go_ret2
      exact ⟨_, rfl, ho', hb'⟩
    · obtain ⟨w2, hw2⟩ : ∃ w2, w2 = ((W.alloc (.cells #[.int .i64 4, .int .i64 1, .slice A l.length cap] 41)).alloc (.cells #[.int .i64 4, .int .i64 1, .slice A l.length cap] 41)) := ⟨_, rfl⟩
      have hb2 : Below W.heap.size W w2 := by rw [hw2]; exact below_alloc (below_alloc (Below.refl W.heap.size W) _) _
      have hol := own_lit 5 w2 (base := W.heap.size) hb2.size [7] #[.int .u8 7] rfl (by simp [maxLen])
      have hA2 := hA.below (below_alloc hb2 (.cells #[.int .u8 7] 5)) (Nat.le_refl _)
      have hs2 := Lib.hid (show W.heap.size + 2 = w2.heap.size by rw [hw2]; simp)
      have HW2 := Lib.hid hw2
      clear hw2
      go_enter Try.func21, Try.ntmps21
      go_wp2_with fail
      refine (right_any 4 1 A l.length cap (by unfold maxLen; omega) _).mono ?_
      rw [H.out]
      rintro e w1 ⟨rfl, rfl⟩
      rw [← hs2.out] at hol
      obtain rfl := HW2.out
      have HO := Lib.hid hol
      clear hs2 hol HW2
      go_wp2_with (at_builtin; refine wpList_app _ rfl _ _ 23 rfl 5 Try.underlying23 infoU8 W.heap.size _ [7] rfl HO.out _ A _ cap l rfl rfl hA2 (by simp; omega) (by simp; omega) ?_)
      intro v' w' ho' hg
      have hb' := HO.out.grown (below_alloc hb2 _) hg (Nat.le_refl _) (Nat.le_refl _)
      clear HO hg hA2
      go_wp2
      go_ret2
      exact ⟨_, rfl, ho', hb'⟩
  · have h := Bool.eq_false_iff.2 h
    have e1 : prErr k lb l.length = 130 := by unfold prErr; rw [h]; rfl
    have e2 : prPut k lb l = [] := by unfold prPut; rw [h]; rfl
    rw [e1, e2]
    have H := Lib.hid h
    clear e1 e2 h
    go_enter Try.func21, Try.ntmps21
    go_wp2_with fail
    refine (right_any k lb A l.length cap hl _).mono ?_
    rw [H.out]
    rintro e w1 ⟨rfl, rfl⟩
    go_wp2
    go_ret2
    exact ⟨_, rfl, Own.nil _ _ _, below_alloc (below_alloc (Below.refl _ _) _) _⟩

def ofK (n : Int) : Int := if n ≤ 2 then n else if n ≤ 3 then 0 else if n ≤ 5 then 3 else if n ≤ 7 then 4 else 0
def ofL (n : Int) : Int := if n ≤ 3 then 0 else if n ≤ 5 then n - 4 else if n ≤ 7 then n - 6 else 0
def ofB (n : Int) : Bool := decide (n ≤ 2 ∨ 4 ≤ n ∧ n ≤ 7)

set_option maxHeartbeats 2000000 in
theorem of_any (n : Int) (h0 : 0 ≤ n) (h1 : n ≤ 255) (W : World) :
    Calls Try.prog 51 #[.int .u8 n] W fun e W' => e = .returned (.tuple #[.agg #[.int .i64 (ofK n), .int .i64 (ofL n), .slice none 0 0], .bool (ofB n)]) ∧ W' = W.alloc (.cells #[.int .i64 (ofK n), .int .i64 (ofL n), .slice none 0 0] 41) := by
  by_cases h2 : n ≤ 2
  · rw [show ofK n = n from if_pos h2, show ofL n = 0 from if_pos (by omega), show ofB n = true from decide_eq_true (by omega)]
    go_enter Try.func51, Try.ntmps51
    go_wp2
    exact bodyPost_ret (v := .tuple #[.agg #[.int .i64 n, .int .i64 0, .slice none 0 0], .bool true]) (by simp [results, Try.results51, go_sem]) rfl ⟨rfl, rfl⟩
  · by_cases h4 : n = 4
    · subst h4
      go_enter Try.func51, Try.ntmps51
      go_wp2
      exact bodyPost_ret (v := .tuple #[.agg #[.int .i64 3, .int .i64 0, .slice none 0 0], .bool true]) (by simp [results, Try.results51, go_sem]) rfl ⟨rfl, rfl⟩
    · by_cases h5 : n = 5
      · subst h5
        go_enter Try.func51, Try.ntmps51
        go_wp2
        exact bodyPost_ret (v := .tuple #[.agg #[.int .i64 3, .int .i64 1, .slice none 0 0], .bool true]) (by simp [results, Try.results51, go_sem]) rfl ⟨rfl, rfl⟩
      · by_cases h6 : n = 6
        · subst h6
          go_enter Try.func51, Try.ntmps51
          go_wp2
          exact bodyPost_ret (v := .tuple #[.agg #[.int .i64 4, .int .i64 0, .slice none 0 0], .bool true]) (by simp [results, Try.results51, go_sem]) rfl ⟨rfl, rfl⟩
        · by_cases h7 : n = 7
          · subst h7
            go_enter Try.func51, Try.ntmps51
            go_wp2
            exact bodyPost_ret (v := .tuple #[.agg #[.int .i64 4, .int .i64 1, .slice none 0 0], .bool true]) (by simp [results, Try.results51, go_sem]) rfl ⟨rfl, rfl⟩
          · have ek : ofK n = 0 := by unfold ofK; split; omega; split; rfl; split; omega; split; omega; rfl
            have el : ofL n = 0 := by unfold ofL; split; rfl; split; omega; split; omega; rfl
            have eb : ofB n = false := decide_eq_false (by omega)
            rw [ek, el, eb]
            clear ek el eb
            go_enter Try.func51, Try.ntmps51
            go_wp2
            all_goals (first | (exfalso; simp_all; done) | exact bodyPost_ret (v := .tuple #[.agg #[.int .i64 0, .int .i64 0, .slice none 0 0], .bool false]) (by simp [results, Try.results51, go_sem]) rfl ⟨rfl, rfl⟩)

end Go.Proofs.Ytonjdkankegdaaa.Probe
