
/- What the functions of layer 48 (tune), and of its reference, compute: one contract a function; the walks of TuneTells and TuneBest. -/
import Derived.Test.YtcbjimcnbdkaoaaRing
import Derived.Handy
namespace Go.Proofs.Ytcbjimcnbdkaoaa.Tune
open Go.RowKit Go.Proofs.Ytcbjimcnbdkaoaa.Ring

/-- which windows and lives have a number -/
def okL (w l : Int) : Bool := decide (1 ≤ w ∧ w ≤ 64 ∧ w ≤ l ∧ l ≤ 4096)
def lv (w l : Int) : Int := if okL w l = true then 2 * (w + l) + 1 else 0
def le (w l : Int) : Int := if okL w l = true then 0 else 4
/-- the widest window that may be -/
def top (m l : Int) : Int := if (m - 1) / 2 - l ≤ l ∧ (m - 1) / 2 - l ≤ 64 then (m - 1) / 2 - l else if l ≤ 64 then l else 64
def okW (m l : Int) : Bool := decide (1 ≤ l ∧ l ≤ 4096 ∧ 1 ≤ m ∧ m ≤ 65536 ∧ 1 ≤ top m l)
def wv (m l : Int) : Int := if okW m l = true then top m l else 0
def we (m l : Int) : Int := if okW m l = true then 0 else 4
def lng (w m : Int) : Int := if (m - 1) / 2 - w ≤ 4096 then (m - 1) / 2 - w else 4096
def okG (w m : Int) : Bool := decide (1 ≤ w ∧ w ≤ 64 ∧ 1 ≤ m ∧ m ≤ 65536 ∧ w ≤ lng w m)
def gv (w m : Int) : Int := if okG w m = true then lng w m else 0
def ge (w m : Int) : Int := if okG w m = true then 0 else 4

theorem check_iff (w m l : Int) : check w m l = 0 ↔ (1 ≤ w ∧ w ≤ l ∧ l ≤ 4096 ∧ w ≤ 64 ∧ m ≤ 65536 ∧ 2 * (w + l) < m) := by
  unfold check
  repeat' split
  all_goals constructor
  all_goals first | (intro h; exfalso; omega) | (intro h; omega) | (intro _; omega)

theorem ret2 {x y : Int} {a b : Int} (h1 : x = a) (h2 : y = b) : Ending.returned (.tuple #[.int .i64 x, .int .i64 y]) = .returned (.tuple #[.int .i64 a, .int .i64 b]) := by rw [h1, h2]

theorem num_any (n : Int) (W : World) :
    Calls Try.prog 26 #[.int .i64 n] W fun e W' => e = .returned (.int .i64 n) ∧ W = W' := by
  go_enter Try.func26, Try.ntmps26
  go_wp2
  go_ret
  exact ⟨rfl, rfl⟩

theorem life_any (l : Int) (W : World) :
    Calls Try.prog 32 #[.int .i64 l] W fun e W' => e = .returned (.bool (decide (1 ≤ l) && decide (l ≤ 4096))) ∧ W = W' := by
  go_enter Try.func32, Try.ntmps32
  go_wp2
  all_goals go_ret
  all_goals exact ⟨ret_bool (by simp; try omega), rfl⟩

theorem half_any (m : Int) (h0 : 1 ≤ m) (h1 : m ≤ 65536) (W : World) :
    Calls Try.prog 34 #[.int .i64 m] W fun e W' => e = .returned (.int .i64 ((m - 1) / 2)) ∧ W = W' := by
  go_enter Try.func34, Try.ntmps34
  go_wp2
  go_ret
  exact ⟨rfl, rfl⟩

theorem told_yes (n : Int) (W : World) :
    Calls Try.prog 33 #[.int .i64 n, .int .i64 0] W fun e W' => e = .returned (.tuple #[.int .i64 n, .int .i64 0]) ∧ W = W' := by
  go_enter Try.func33, Try.ntmps33
  go_wp2
  go_ret2
  exact ⟨rfl, rfl⟩
theorem told_no (n e0 : Int) (h : (e0 != 0) = true) (W : World) :
    Calls Try.prog 33 #[.int .i64 n, .int .i64 e0] W fun e W' => e = .returned (.tuple #[.int .i64 0, .int .i64 4]) ∧ W = W' := by
  go_enter Try.func33, Try.ntmps33
  go_wp2
  go_ret2
  exact ⟨rfl, rfl⟩

theorem ne_zero {x : Int} (h : ¬ x = 0) : (x != 0) = true := by rw [bne_iff_ne]; exact h
theorem okL_yes {w l : Int} (h : okL w l = true) : lv w l = 2 * (w + l) + 1 ∧ le w l = 0 := by unfold lv le; rw [if_pos h, if_pos h]; exact ⟨rfl, rfl⟩
theorem okL_no {w l : Int} (h : okL w l = false) : lv w l = 0 ∧ le w l = 4 := by unfold lv le; rw [if_neg (by rw [h]; decide), if_neg (by rw [h]; decide)]; exact ⟨rfl, rfl⟩
theorem okW_yes {w l : Int} (h : okW w l = true) : wv w l = top w l ∧ we w l = 0 := by unfold wv we; rw [if_pos h, if_pos h]; exact ⟨rfl, rfl⟩
theorem okW_no {w l : Int} (h : okW w l = false) : wv w l = 0 ∧ we w l = 4 := by unfold wv we; rw [if_neg (by rw [h]; decide), if_neg (by rw [h]; decide)]; exact ⟨rfl, rfl⟩
theorem okG_yes {w l : Int} (h : okG w l = true) : gv w l = lng w l ∧ ge w l = 0 := by unfold gv ge; rw [if_pos h, if_pos h]; exact ⟨rfl, rfl⟩
theorem okG_no {w l : Int} (h : okG w l = false) : gv w l = 0 ∧ ge w l = 4 := by unfold gv ge; rw [if_neg (by rw [h]; decide), if_neg (by rw [h]; decide)]; exact ⟨rfl, rfl⟩

theorem Least_any (w l : Int) (W : World) :
    Calls Try.prog 20 #[.int .i64 w, .int .i64 l] W fun e W' => e = .returned (.tuple #[.int .i64 (lv w l), .int .i64 (le w l)]) ∧ W = W' := by
  by_cases hin : 1 ≤ w ∧ w ≤ 64 ∧ 1 ≤ l ∧ l ≤ 4096
  · obtain ⟨h1, h2, h3, h4⟩ := hin
    obtain ⟨c, hc⟩ : ∃ c, c = check w (2 * (w + l) + 1) l := ⟨_, rfl⟩
    by_cases hwl : w ≤ l
    · have hz : c = 0 := by rw [hc, check_iff]; omega
      subst hz
      have hy := okL_yes (w := w) (l := l) (by unfold okL; simp only [decide_eq_true_eq]; omega)
      have HC := Lib.hid hc; have HY := Lib.hid hy; clear hc hy
      go_enter Try.func20, Try.ntmps20
      go_wp2_with (first
        | (go_at_call 32; refine (life_any _ _).mono ?_; rintro e w' ⟨rfl, rfl⟩)
        | (go_at_call 11; refine (Check_any _ _ _ _).mono ?_; rw [← HC.out]; rintro e w' ⟨rfl, rfl⟩)
        | (go_at_call 33; refine (told_yes _ _).mono ?_; rintro e w' ⟨rfl, rfl⟩))
      go_ret2
      exact ⟨ret2 HY.out.1.symm HY.out.2.symm, rfl⟩
    · have hz : ¬ c = 0 := by rw [hc, check_iff]; omega
      have hz' := ne_zero hz
      have hy := okL_no (w := w) (l := l) (by unfold okL; simp only [decide_eq_false_iff_not]; omega)
      have HC := Lib.hid hc; have HY := Lib.hid hy; clear hc hy hz
      go_enter Try.func20, Try.ntmps20
      go_wp2_with (first
        | (go_at_call 32; refine (life_any _ _).mono ?_; rintro e w' ⟨rfl, rfl⟩)
        | (go_at_call 11; refine (Check_any _ _ _ _).mono ?_; rw [← HC.out]; rintro e w' ⟨rfl, rfl⟩)
        | (go_at_call 33; refine (told_no _ _ hz' _).mono ?_; rintro e w' ⟨rfl, rfl⟩))
      go_ret2
      exact ⟨ret2 HY.out.1.symm HY.out.2.symm, rfl⟩
  · have hy := okL_no (w := w) (l := l) (by unfold okL; simp only [decide_eq_false_iff_not]; omega)
    have HY := Lib.hid hy; clear hy
    go_enter Try.func20, Try.ntmps20
    go_wp2_with (go_at_call 32; refine (life_any _ _).mono ?_; rintro e w' ⟨rfl, rfl⟩)
    all_goals first | (go_ret2; exact ⟨ret2 HY.out.1.symm HY.out.2.symm, rfl⟩) | (exfalso; simp at *; omega)

theorem okL_check {w l : Int} (h : okL w l = true) : check w (2 * (w + l) + 1) l = 0 := by
  unfold okL at h; simp only [decide_eq_true_eq] at h; rw [check_iff]; omega
theorem check_okL {w m l : Int} (h : check w m l = 0) : okL w l = true ∧ 2 * (w + l) + 1 ≤ m := by
  rw [check_iff] at h; unfold okL; simp only [decide_eq_true_eq]; omega
theorem okW_check {m l : Int} (h : okW m l = true) : check (top m l) m l = 0 := by
  unfold okW at h; simp only [decide_eq_true_eq] at h; rw [check_iff]
  unfold top at h ⊢
  split at h
  · rename_i h2; rw [if_pos h2]; omega
  · rename_i h2; rw [if_neg h2]
    split at h
    · rename_i h3; rw [if_pos h3]; omega
    · rename_i h3; rw [if_neg h3]; omega
theorem check_okW {w m l : Int} (h : check w m l = 0) : okW m l = true ∧ w ≤ top m l := by
  rw [check_iff] at h; unfold okW; simp only [decide_eq_true_eq]
  unfold top
  split
  · omega
  · split <;> omega
theorem okG_check {w m : Int} (h : okG w m = true) : check w m (lng w m) = 0 := by
  unfold okG at h; simp only [decide_eq_true_eq] at h; rw [check_iff]
  unfold lng at h ⊢
  split at h
  · rename_i h2; rw [if_pos h2]; omega
  · rename_i h2; rw [if_neg h2]; omega
theorem check_okG {w m l : Int} (h : check w m l = 0) : okG w m = true ∧ l ≤ lng w m := by
  rw [check_iff] at h; unfold okG; simp only [decide_eq_true_eq]
  unfold lng
  split <;> omega
theorem top_le (m l : Int) : top m l ≤ 64 := by
  unfold top; split
  · omega
  · split <;> omega
theorem lng_le (w m : Int) : lng w m ≤ 4096 := by
  unfold lng; split <;> omega
theorem ret_int2 {a b c d : Int} (h1 : a = b) (h2 : c = d) : Ending.returned (.tuple #[.int .i64 a, .int .i64 c]) = .returned (.tuple #[.int .i64 b, .int .i64 d]) := by rw [h1, h2]

theorem refLeast_any (w l : Int) (W : World) :
    Calls Try.prog 21 #[.int .i64 w, .int .i64 l] W fun e W' => e = .returned (.tuple #[.int .i64 (lv w l), .int .i64 (le w l)]) ∧ W = W' := by
  by_cases hin : 1 ≤ w ∧ w ≤ 64 ∧ 1 ≤ l ∧ l ≤ 4096
  · obtain ⟨h1, h2, h3, h4⟩ := hin
    go_enter Try.func21, Try.ntmps21
    go_wp2
    go_loop [6] (fun i => ∃ k : Int, 1 ≤ k ∧ k ≤ 65537 ∧ i = .int .i64 k ∧ Hid (okL w l = true → k ≤ 2 * (w + l) + 1)) (fun i => (65537 - intOf i).toNat)
    case atStart => exact ⟨1, by omega, by omega, rfl, Lib.hid (fun _ => by omega)⟩
    case round =>
      obtain ⟨k, hk1, hk2, rfl, HK⟩ := hrel
      by_cases hlt : k ≤ 65536
      · obtain ⟨c, hc⟩ : ∃ c, c = check w k l := ⟨_, rfl⟩
        by_cases hz : c = 0
        · obtain ⟨ho, hle⟩ := check_okL (hc.symm.trans hz)
          have hke := HK.out ho
          obtain ⟨y1, y2⟩ := okL_yes ho
          have Y1 := Lib.hid (show k = lv w l by omega); have Y2 := Lib.hid y2
          subst hz
          have HC := Lib.hid hc; clear hc ho y1 y2
          go_wp2_with (go_at_call 12; refine (refCheck_any _ _ _ _).mono ?_; rw [← HC.out]; rintro e w' ⟨rfl, rfl⟩)
          go_ret2
          exact ⟨ret2 Y1.out Y2.out.symm, rfl⟩
        · have hz' : (c == 0) = false := beq_eq_false_iff_ne.2 hz
          have HN := Lib.hid (show okL w l = true → k + 1 ≤ 2 * (w + l) + 1 by
            intro ho
            have h5 := HK.out ho
            have h6 := okL_check ho
            by_cases e : k = 2 * (w + l) + 1
            · rw [← e] at h6; exact absurd (hc.trans h6) hz
            · omega)
          have HC := Lib.hid hc; clear hc hz
          go_wp2_with (go_at_call 12; refine (refCheck_any _ _ _ _).mono ?_; rw [← HC.out]; rintro e w' ⟨rfl, rfl⟩)
          go_round
          case rel => exact ⟨k + 1, by omega, by omega, rfl, HN⟩
          case measure => simp [intOf]; omega
      · have hn : okL w l = false := by
          rw [Bool.eq_false_iff]
          intro ho
          have := HK.out ho
          omega
        obtain ⟨y1, y2⟩ := okL_no hn
        have Y1 := Lib.hid y1; have Y2 := Lib.hid y2; clear y1 y2 hn
        go_wp2
        go_ret2
        exact ⟨ret2 Y1.out.symm Y2.out.symm, rfl⟩
  · have hy := okL_no (w := w) (l := l) (by unfold okL; simp only [decide_eq_false_iff_not]; omega)
    have HY := Lib.hid hy; clear hy
    go_enter Try.func21, Try.ntmps21
    go_wp2_with fail
    all_goals first | (go_ret2; exact ⟨ret2 HY.out.1.symm HY.out.2.symm, rfl⟩) | (exfalso; omega)

/-- what told answers -/
def toldV (n e : Int) : Int := if e = 0 then n else 0
def toldE (e : Int) : Int := if e = 0 then 0 else 4
theorem told_any (n e0 : Int) (W : World) :
    Calls Try.prog 33 #[.int .i64 n, .int .i64 e0] W fun e W' => e = .returned (.tuple #[.int .i64 (toldV n e0), .int .i64 (toldE e0)]) ∧ W = W' := by
  by_cases h : e0 = 0
  · subst h
    exact told_yes n W
  · have hv : toldV n e0 = 0 := by unfold toldV; rw [if_neg h]
    have he : toldE e0 = 4 := by unfold toldE; rw [if_neg h]
    rw [hv, he]
    exact told_no n e0 (ne_zero h) W

theorem wv_of {m l t : Int} (ht : top m l = t) : toldV t (check t m l) = wv m l ∧ toldE (check t m l) = we m l := by
  subst ht
  unfold toldV toldE
  by_cases h : check (top m l) m l = 0
  · obtain ⟨y1, y2⟩ := okW_yes (check_okW h).1
    rw [if_pos h, if_pos h, y1, y2]; exact ⟨rfl, rfl⟩
  · have hn : okW m l = false := by rw [Bool.eq_false_iff]; intro ho; exact h (okW_check ho)
    obtain ⟨y1, y2⟩ := okW_no hn
    rw [if_neg h, if_neg h, y1, y2]; exact ⟨rfl, rfl⟩
theorem gv_of {w m t : Int} (ht : lng w m = t) : toldV t (check w m t) = gv w m ∧ toldE (check w m t) = ge w m := by
  subst ht
  unfold toldV toldE
  by_cases h : check w m (lng w m) = 0
  · obtain ⟨y1, y2⟩ := okG_yes (check_okG h).1
    rw [if_pos h, if_pos h, y1, y2]; exact ⟨rfl, rfl⟩
  · have hn : okG w m = false := by rw [Bool.eq_false_iff]; intro ho; exact h (okG_check ho)
    obtain ⟨y1, y2⟩ := okG_no hn
    rw [if_neg h, if_neg h, y1, y2]; exact ⟨rfl, rfl⟩

theorem Widest_any (m l : Int) (W : World) :
    Calls Try.prog 22 #[.int .i64 m, .int .i64 l] W fun e W' => e = .returned (.tuple #[.int .i64 (wv m l), .int .i64 (we m l)]) ∧ W = W' := by
  by_cases hin : 1 ≤ m ∧ m ≤ 65536 ∧ 1 ≤ l ∧ l ≤ 4096
  · obtain ⟨h1, h2, h3, h4⟩ := hin
    go_enter Try.func22, Try.ntmps22
    go_wp2_with (first
      | (go_at_call 32; refine (life_any _ _).mono ?_; rintro e w' ⟨rfl, rfl⟩)
      | (go_at_call 34; refine (half_any _ h1 h2 _).mono ?_; rintro e w' ⟨rfl, rfl⟩)
      | (go_at_call 11; refine (Check_any _ _ _ _).mono ?_; rintro e w' ⟨rfl, rfl⟩)
      | (go_at_call 33; refine (told_any _ _ _).mono ?_; rintro e w' ⟨rfl, rfl⟩))
    all_goals go_ret2
    all_goals
      refine ⟨ret2 (wv_of ?_).1 (wv_of ?_).2, rfl⟩
      all_goals
        unfold top
        repeat' split
        all_goals omega
  · have hy := okW_no (w := m) (l := l) (by unfold okW; simp only [decide_eq_false_iff_not]; omega)
    have HY := Lib.hid hy; clear hy
    go_enter Try.func22, Try.ntmps22
    go_wp2_with (go_at_call 32; refine (life_any _ _).mono ?_; rintro e w' ⟨rfl, rfl⟩)
    all_goals first | (go_ret2; exact ⟨ret2 HY.out.1.symm HY.out.2.symm, rfl⟩) | (exfalso; simp at *; omega)

theorem Longest_any (w m : Int) (W : World) :
    Calls Try.prog 24 #[.int .i64 w, .int .i64 m] W fun e W' => e = .returned (.tuple #[.int .i64 (gv w m), .int .i64 (ge w m)]) ∧ W = W' := by
  by_cases hin : 1 ≤ m ∧ m ≤ 65536 ∧ 1 ≤ w ∧ w ≤ 64
  · obtain ⟨h1, h2, h3, h4⟩ := hin
    go_enter Try.func24, Try.ntmps24
    go_wp2_with (first
      | (go_at_call 34; refine (half_any _ h1 h2 _).mono ?_; rintro e w' ⟨rfl, rfl⟩)
      | (go_at_call 11; refine (Check_any _ _ _ _).mono ?_; rintro e w' ⟨rfl, rfl⟩)
      | (go_at_call 33; refine (told_any _ _ _).mono ?_; rintro e w' ⟨rfl, rfl⟩))
    all_goals go_ret2
    all_goals
      refine ⟨ret2 (gv_of ?_).1 (gv_of ?_).2, rfl⟩
      all_goals
        unfold lng
        split
        all_goals omega
  · have hy := okG_no (w := w) (l := m) (by unfold okG; simp only [decide_eq_false_iff_not]; omega)
    have HY := Lib.hid hy; clear hy
    go_enter Try.func24, Try.ntmps24
    go_wp2_with fail
    all_goals first | (go_ret2; exact ⟨ret2 HY.out.1.symm HY.out.2.symm, rfl⟩) | (exfalso; omega)

theorem refWidest_any (m l : Int) (W : World) :
    Calls Try.prog 23 #[.int .i64 m, .int .i64 l] W fun e W' => e = .returned (.tuple #[.int .i64 (wv m l), .int .i64 (we m l)]) ∧ W = W' := by
  go_enter Try.func23, Try.ntmps23
  go_wp2
  go_loop [6] (fun i => ∃ k : Int, 0 ≤ k ∧ k ≤ 64 ∧ i = .int .i64 k ∧ Hid (okW m l = true → top m l ≤ k)) (fun i => (intOf i).toNat)
  case atStart => exact ⟨64, by omega, by omega, rfl, Lib.hid (fun _ => top_le m l)⟩
  case round =>
    obtain ⟨k, hk1, hk2, rfl, HK⟩ := hrel
    by_cases hlt : 1 ≤ k
    · obtain ⟨c, hc⟩ : ∃ c, c = check k m l := ⟨_, rfl⟩
      by_cases hz : c = 0
      · obtain ⟨ho, hle⟩ := check_okW (hc.symm.trans hz)
        have hke := HK.out ho
        obtain ⟨y1, y2⟩ := okW_yes ho
        have Y1 := Lib.hid (show k = wv m l by omega); have Y2 := Lib.hid y2
        subst hz
        have HC := Lib.hid hc; clear hc ho y1 y2 hke hle
        go_wp2_with (go_at_call 12; refine (refCheck_any _ _ _ _).mono ?_; rw [← HC.out]; rintro e w' ⟨rfl, rfl⟩)
        go_ret2
        exact ⟨ret2 Y1.out Y2.out.symm, rfl⟩
      · have hz' : (c == 0) = false := beq_eq_false_iff_ne.2 hz
        have HN := Lib.hid (show okW m l = true → top m l ≤ k - 1 by
          intro ho
          have h5 := HK.out ho
          have h6 := okW_check ho
          by_cases e : top m l = k
          · rw [e] at h6; exact absurd (hc.trans h6) hz
          · omega)
        have HC := Lib.hid hc; clear hc hz
        go_wp2_with (go_at_call 12; refine (refCheck_any _ _ _ _).mono ?_; rw [← HC.out]; rintro e w' ⟨rfl, rfl⟩)
        go_round
        case rel => exact ⟨k - 1, by omega, by omega, rfl, HN⟩
        case measure => simp [intOf]; omega
    · have hn : okW m l = false := by
        rw [Bool.eq_false_iff]
        intro ho
        have h5 := HK.out ho
        unfold okW at ho
        simp only [decide_eq_true_eq] at ho
        omega
      obtain ⟨y1, y2⟩ := okW_no hn
      have Y1 := Lib.hid y1; have Y2 := Lib.hid y2; clear y1 y2 hn
      go_wp2
      go_ret2
      exact ⟨ret2 Y1.out.symm Y2.out.symm, rfl⟩

theorem refLongest_any (w m : Int) (W : World) :
    Calls Try.prog 25 #[.int .i64 w, .int .i64 m] W fun e W' => e = .returned (.tuple #[.int .i64 (gv w m), .int .i64 (ge w m)]) ∧ W = W' := by
  go_enter Try.func25, Try.ntmps25
  go_wp2
  go_loop [6] (fun i => ∃ k : Int, 0 ≤ k ∧ k ≤ 4096 ∧ i = .int .i64 k ∧ Hid (okG w m = true → lng w m ≤ k)) (fun i => (intOf i).toNat)
  case atStart => exact ⟨4096, by omega, by omega, rfl, Lib.hid (fun _ => lng_le w m)⟩
  case round =>
    obtain ⟨k, hk1, hk2, rfl, HK⟩ := hrel
    by_cases hlt : 1 ≤ k
    · obtain ⟨c, hc⟩ : ∃ c, c = check w m k := ⟨_, rfl⟩
      by_cases hz : c = 0
      · obtain ⟨ho, hle⟩ := check_okG (hc.symm.trans hz)
        have hke := HK.out ho
        obtain ⟨y1, y2⟩ := okG_yes ho
        have Y1 := Lib.hid (show k = gv w m by omega); have Y2 := Lib.hid y2
        subst hz
        have HC := Lib.hid hc; clear hc ho y1 y2 hke hle
        go_wp2_with (go_at_call 12; refine (refCheck_any _ _ _ _).mono ?_; rw [← HC.out]; rintro e w' ⟨rfl, rfl⟩)
        go_ret2
        exact ⟨ret2 Y1.out Y2.out.symm, rfl⟩
      · have hz' : (c == 0) = false := beq_eq_false_iff_ne.2 hz
        have HN := Lib.hid (show okG w m = true → lng w m ≤ k - 1 by
          intro ho
          have h5 := HK.out ho
          have h6 := okG_check ho
          by_cases e : lng w m = k
          · rw [e] at h6; exact absurd (hc.trans h6) hz
          · omega)
        have HC := Lib.hid hc; clear hc hz
        go_wp2_with (go_at_call 12; refine (refCheck_any _ _ _ _).mono ?_; rw [← HC.out]; rintro e w' ⟨rfl, rfl⟩)
        go_round
        case rel => exact ⟨k - 1, by omega, by omega, rfl, HN⟩
        case measure => simp [intOf]; omega
    · have hn : okG w m = false := by
        rw [Bool.eq_false_iff]
        intro ho
        have h5 := HK.out ho
        unfold okG at ho
        simp only [decide_eq_true_eq] at ho
        omega
      obtain ⟨y1, y2⟩ := okG_no hn
      have Y1 := Lib.hid y1; have Y2 := Lib.hid y2; clear y1 y2 hn
      go_wp2
      go_ret2
      exact ⟨ret2 Y1.out.symm Y2.out.symm, rfl⟩

theorem live_any (W : World) :
    Calls Try.prog 27 #[] W fun e W' => e = .returned (.bool true) ∧ W = W' := by
  have e1 : lv 1 1 = 5 := by decide
  have e2 : le 1 1 = 0 := by decide
  have e3 : wv 9 2 = 2 := by decide
  have e4 : we 9 2 = 0 := by decide
  have e5 : gv 1 9 = 3 := by decide
  have e6 : ge 1 9 = 0 := by decide
  go_enter Try.func27, Try.ntmps27
  go_wp2_with (first
    | (go_at_call 20; refine (Least_any _ _ _).mono ?_; rintro e w' ⟨rfl, rfl⟩)
    | (go_at_call 22; refine (Widest_any _ _ _).mono ?_; rintro e w' ⟨rfl, rfl⟩)
    | (go_at_call 24; refine (Longest_any _ _ _).mono ?_; rintro e w' ⟨rfl, rfl⟩)
    | (go_at_call 26; refine (num_any _ _).mono ?_; rintro e w' ⟨rfl, rfl⟩))
  go_ret
  exact ⟨rfl, rfl⟩

theorem TuneTells_any (a b : Int) (W : World) :
    Calls Try.prog 7 #[.int .i64 a, .int .i64 b] W fun e W' => e = .returned (.bool true) ∧ W = W' := by
  go_enter Try.func7, Try.ntmps7
  go_wp2_with (first
    | (go_at_call 20; refine (Least_any _ _ _).mono ?_; rintro e w' ⟨rfl, rfl⟩)
    | (go_at_call 22; refine (Widest_any _ _ _).mono ?_; rintro e w' ⟨rfl, rfl⟩)
    | (go_at_call 24; refine (Longest_any _ _ _).mono ?_; rintro e w' ⟨rfl, rfl⟩)
    | (go_at_call 21; refine (refLeast_any _ _ _).mono ?_; rintro e w' ⟨rfl, rfl⟩)
    | (go_at_call 23; refine (refWidest_any _ _ _).mono ?_; rintro e w' ⟨rfl, rfl⟩)
    | (go_at_call 25; refine (refLongest_any _ _ _).mono ?_; rintro e w' ⟨rfl, rfl⟩)
    | (go_at_call 27; refine (live_any _).mono ?_; rintro e w' ⟨rfl, rfl⟩)
    | (go_at_call 26; refine (num_any _ _).mono ?_; rintro e w' ⟨rfl, rfl⟩))
  go_ret
  exact ⟨rfl, rfl⟩

theorem best_L (a b d : Int) (hd : 1 ≤ d) : (0 ≤ lv a b ∧ lv a b ≤ 8321) ∧ ((le a b == 0) = false ∨ ((le a b == 0) = true ∧ (check a (lv a b) b != 0) = false ∧ (check a (lv a b - d) b == 0) = false)) := by
  cases h : okL a b with
  | false =>
    obtain ⟨y1, y2⟩ := okL_no h
    rw [y1, y2]
    exact ⟨by omega, .inl rfl⟩
  | true =>
    obtain ⟨y1, y2⟩ := okL_yes h
    have h0 := okL_check h
    have h1 := h0
    rw [check_iff] at h1
    rw [y1, y2]
    refine ⟨by omega, .inr ⟨rfl, by rw [h0]; rfl, ?_⟩⟩
    rw [beq_eq_false_iff_ne, Ne, check_iff]
    omega
theorem best_W (a b d : Int) (hd : 1 ≤ d) : (0 ≤ wv a b ∧ wv a b ≤ 64) ∧ ((we a b == 0) = false ∨ ((we a b == 0) = true ∧ (check (wv a b) a b != 0) = false ∧ (check (wv a b + d) a b == 0) = false)) := by
  cases h : okW a b with
  | false =>
    obtain ⟨y1, y2⟩ := okW_no h
    rw [y1, y2]
    exact ⟨by omega, .inl rfl⟩
  | true =>
    obtain ⟨y1, y2⟩ := okW_yes h
    have h0 := okW_check h
    have h1 := h0
    rw [check_iff] at h1
    rw [y1, y2]
    refine ⟨by omega, .inr ⟨rfl, by rw [h0]; rfl, ?_⟩⟩
    rw [beq_eq_false_iff_ne]
    intro hc
    have := (check_okW hc).2
    omega
theorem best_G (a b d : Int) (hd : 1 ≤ d) : (0 ≤ gv a b ∧ gv a b ≤ 4096) ∧ ((ge a b == 0) = false ∨ ((ge a b == 0) = true ∧ (check a b (gv a b) != 0) = false ∧ (check a b (gv a b + d) == 0) = false)) := by
  cases h : okG a b with
  | false =>
    obtain ⟨y1, y2⟩ := okG_no h
    rw [y1, y2]
    exact ⟨by omega, .inl rfl⟩
  | true =>
    obtain ⟨y1, y2⟩ := okG_yes h
    have h0 := okG_check h
    have h1 := h0
    rw [check_iff] at h1
    rw [y1, y2]
    refine ⟨by omega, .inr ⟨rfl, by rw [h0]; rfl, ?_⟩⟩
    rw [beq_eq_false_iff_ne]
    intro hc
    have := (check_okG hc).2
    omega

set_option maxHeartbeats 2000000 in
theorem TuneBest_any (a b d : Int) (W : World) :
    Calls Try.prog 8 #[.int .i64 a, .int .i64 b, .int .i64 d] W fun e W' => e = .returned (.bool true) ∧ W = W' := by
  by_cases hd : d < 1 ∨ 100000 < d
  · go_enter Try.func8, Try.ntmps8
    go_wp2_with (go_at_call 27; refine (live_any _).mono ?_; rintro e w' ⟨rfl, rfl⟩)
    all_goals first | (go_ret; exact ⟨rfl, rfl⟩) | (exfalso; omega)
  · have h1 : 1 ≤ d := by omega
    have h2 : d ≤ 100000 := by omega
    clear hd
    obtain ⟨⟨a1, a2⟩, hL⟩ := best_L a b d h1
    obtain ⟨⟨b1, b2⟩, hW⟩ := best_W a b d h1
    obtain ⟨⟨c1, c2⟩, hG⟩ := best_G a b d h1
    rcases hL with l1 | ⟨l1, l2, l3⟩ <;> rcases hW with w1 | ⟨w1, w2, w3⟩ <;> rcases hG with g1 | ⟨g1, g2, g3⟩
    all_goals
      go_enter Try.func8, Try.ntmps8
      go_wp2_with (first
        | (go_at_call 20; refine (Least_any _ _ _).mono ?_; rintro e w' ⟨rfl, rfl⟩)
        | (go_at_call 22; refine (Widest_any _ _ _).mono ?_; rintro e w' ⟨rfl, rfl⟩)
        | (go_at_call 24; refine (Longest_any _ _ _).mono ?_; rintro e w' ⟨rfl, rfl⟩)
        | (go_at_call 12; refine (refCheck_any _ _ _ _).mono ?_; rintro e w' ⟨rfl, rfl⟩)
        | (go_at_call 27; refine (live_any _).mono ?_; rintro e w' ⟨rfl, rfl⟩)
        | (go_at_call 26; refine (num_any _ _).mono ?_; rintro e w' ⟨rfl, rfl⟩))
      go_ret
      exact ⟨rfl, rfl⟩
end Go.Proofs.Ytcbjimcnbdkaoaa.Tune
