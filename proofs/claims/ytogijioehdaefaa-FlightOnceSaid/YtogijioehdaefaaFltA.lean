
/- Layer 16 (flight): the code's New, of, Len, Sent, Gone, at. -/
import Derived.Test.YtogijioehdaefaaFltI
namespace Go.Proofs.Ytogijioehdaefaa.Flt
open Go.RowKit Go.Proofs.Ytogijioehdaefaa.Mem Go.Proofs.Ytogijioehdaefaa.Oct Go.Proofs.Ytogijioehdaefaa.Pkt Go.Proofs.Ytogijioehdaefaa.Def Go.Proofs.Ytogijioehdaefaa.Ed

def nils : Nat → Value := fun _ => .slice none 0 0
/-- what a literal of a flight lays -/
theorem flAt_new (k n : Nat) (R : Nat → Prop) (W w : World) (T : TypeId) (cs : Array Value) (hw : w = W.alloc (.cells cs T))
    (h0 : k = 1 → cs[0]? = some (.bool true)) (h1 : cs[k]? = some (.int .i64 n)) (h2 : cs[k + 1]? = some (.int .i64 0)) (h3 : cs[k + 2]? = some (.slice none 0 0)) (h4 : cs[k + 3]? = some (.int .i64 0)) (h5 : cs[k + 4]? = some (.slice none 0 0)) (h6 : cs[k + 5]? = some (.int .i64 0)) :
    FlAt k R w W.heap.size (new n) nils := by
  subst hw
  have key : ∀ i, (W.alloc (.cells cs T)).cell? ⟨W.heap.size, i, none⟩ = cs[i]? := fun i => cell_of_row _ W.heap.size i cs T (0, 0) (heap_alloc_new W _)
  refine ⟨by simp, fun hk1 => (key _).trans (h0 hk1), (key _).trans h1, (key _).trans h2, fun d hd => (key _).trans ?_, fun d hd => (key _).trans ?_, fun i => by unfold World.frozen?; rw [show (W.alloc (.cells cs T)).heap[(⟨W.heap.size, i, none⟩ : Addr).block]? = some (.cells cs T) from heap_alloc_new W _]; simp, fun d _ => RowF.nil _ _, fun d _ => by simp [nils, Value.ownBlock], fun g hg => by simp [nils, Value.ownBlock] at hg⟩
  · obtain rfl | rfl : d = 0 ∨ d = 1 := by omega
    · exact h3
    · exact h5
  · obtain rfl | rfl : d = 0 ∨ d = 1 := by omega
    · exact h4
    · exact h6

theorem New_yes (n : Nat) (R : Nat → Prop) (W : World) (h : n ≤ 4096) :
    Calls Try.prog 8 #[.int .i64 n] W fun e w' => e = .returned (.tuple #[.pointer (some ⟨W.heap.size, 0, none⟩), .int .i64 0]) ∧ FlAt 1 R w' W.heap.size (new n) nils ∧ Below W.heap.size W w' := by
  have h1 : ¬ (n : Int) < 0 := by omega
  have h2 : ¬ (4096 : Int) < n := by omega
  go_enter Try.func8, Try.ntmps8
  go_wp2_with fail
  go_ret2
  exact ⟨rfl, flAt_new 1 n R W _ 62 _ rfl (fun _ => rfl) rfl rfl rfl rfl rfl rfl, below_alloc (Below.refl _ _) _⟩
theorem New_no (n : Int) (W : World) (h : n < 0 ∨ 4096 < n) :
    Calls Try.prog 8 #[.int .i64 n] W fun e w' => e = .returned (.tuple #[.pointer none, .int .i64 1]) ∧ W = w' := by
  by_cases h1 : n < 0
  · go_enter Try.func8, Try.ntmps8
    go_wp2_with fail
    go_ret2
    exact ⟨rfl, rfl⟩
  · have h2 : (4096 : Int) < n := by omega
    go_enter Try.func8, Try.ntmps8
    go_wp2_with fail
    go_ret2
    exact ⟨rfl, rfl⟩

section
variable {R : Nat → Prop} {W : World} {b : Nat} {F : Fl} {wv : Nat → Value}
theorem of_yes (d o : Nat) (h : FlAt 1 R W b F wv) (hd : d < 2) (ho : o = 3 + 2 * d) :
    Calls Try.prog 25 #[.pointer (some ⟨b, 0, none⟩), .int .i64 d] W fun e w' => e = .returned (.tuple #[.pointer (some ⟨b, o, none⟩), .int .i64 0]) ∧ W = w' := by
  have h0 := h.made rfl
  clear h
  obtain rfl | rfl : d = 0 ∨ d = 1 := by omega
  all_goals (
    subst ho
    go_enter Try.func25, Try.ntmps25
    go_wp2_with fail
    go_ret2
    exact ⟨rfl, rfl⟩)
theorem of_no (d : Int) (h : FlAt 1 R W b F wv) (hd : d < 0 ∨ 2 ≤ d) :
    Calls Try.prog 25 #[.pointer (some ⟨b, 0, none⟩), .int .i64 d] W fun e w' => e = .returned (.tuple #[.pointer none, .int .i64 1]) ∧ W = w' := by
  have h0 := h.made rfl
  clear h
  by_cases h1 : d < 0
  · go_enter Try.func25, Try.ntmps25
    go_wp2_with fail
    go_ret2
    exact ⟨rfl, rfl⟩
  · have h2 : 2 ≤ d := by omega
    go_enter Try.func25, Try.ntmps25
    go_wp2_with fail
    go_ret2
    exact ⟨rfl, rfl⟩

/-- a direction's cells -/
theorem FlAt.way {k : Nat} (h : FlAt k R W b F wv) (d o : Nat) (hd : d < 2) (ho : o = k + 2 + 2 * d) : ∃ A cap ys, wv d = .slice A (F.fs d).length cap ∧ RowAt W A (F.fs d).length cap ys ∧ FrOk (fun g => ¬ Mut b wv g ∧ R g) W ys (F.fs d) ∧
    W.cell? ⟨b, o, none⟩ = some (.slice A (F.fs d).length cap) ∧ W.cell? ⟨b, o + 1, none⟩ = some (.int .i64 (F.sent d)) := by
  obtain ⟨A, cap, ys, h1, h2, h3⟩ := h.row d hd
  refine ⟨A, cap, ys, h1, h2, h3, ?_, ?_⟩
  · rw [ho, h.l d hd, h1]
  · rw [ho, ← h.sent d hd]
    congr 2
    omega

theorem Len_yes (d : Nat) (h : FlAt 1 R W b F wv) (hd : d < 2) :
    Calls Try.prog 21 #[.pointer (some ⟨b, 0, none⟩), .int .i64 d] W fun e w' => e = .returned (.int .i64 (F.fs d).length) ∧ W = w' := by
  obtain ⟨o, ho⟩ : ∃ o, o = 3 + 2 * d := ⟨_, rfl⟩
  obtain ⟨A, cap, ys, _, _, _, hc, _⟩ := h.way d o hd (by omega)
  have HO := Lib.hid (of_yes d o h hd ho)
  clear h ho
  go_enter Try.func21, Try.ntmps21
  go_wp2_with fail
  refine HO.out.mono ?_
  rintro e w' ⟨rfl, rfl⟩
  go_wp2_with fail
  go_ret
  exact ⟨rfl, rfl⟩
theorem Len_no (d : Int) (h : FlAt 1 R W b F wv) (hd : d < 0 ∨ 2 ≤ d) :
    Calls Try.prog 21 #[.pointer (some ⟨b, 0, none⟩), .int .i64 d] W fun e w' => e = .returned (.int .i64 0) ∧ W = w' := by
  have HO := Lib.hid (of_no d h hd)
  clear h
  go_enter Try.func21, Try.ntmps21
  go_wp2_with fail
  refine HO.out.mono ?_
  rintro e w' ⟨rfl, rfl⟩
  go_wp2_with fail
  go_ret
  exact ⟨rfl, rfl⟩
theorem Sent_yes (d : Nat) (h : FlAt 1 R W b F wv) (hd : d < 2) :
    Calls Try.prog 24 #[.pointer (some ⟨b, 0, none⟩), .int .i64 d] W fun e w' => e = .returned (.int .i64 (F.sent d)) ∧ W = w' := by
  obtain ⟨o, ho⟩ : ∃ o, o = 3 + 2 * d := ⟨_, rfl⟩
  obtain ⟨A, cap, ys, _, _, _, _, hc⟩ := h.way d o hd (by omega)
  have HO := Lib.hid (of_yes d o h hd ho)
  clear h ho
  go_enter Try.func24, Try.ntmps24
  go_wp2_with fail
  refine HO.out.mono ?_
  rintro e w' ⟨rfl, rfl⟩
  go_wp2_with fail
  go_ret
  exact ⟨rfl, rfl⟩
theorem Sent_no (d : Int) (h : FlAt 1 R W b F wv) (hd : d < 0 ∨ 2 ≤ d) :
    Calls Try.prog 24 #[.pointer (some ⟨b, 0, none⟩), .int .i64 d] W fun e w' => e = .returned (.int .i64 0) ∧ W = w' := by
  have HO := Lib.hid (of_no d h hd)
  clear h
  go_enter Try.func24, Try.ntmps24
  go_wp2_with fail
  refine HO.out.mono ?_
  rintro e w' ⟨rfl, rfl⟩
  go_wp2_with fail
  go_ret
  exact ⟨rfl, rfl⟩
theorem Gone_any (h : FlAt 1 R W b F wv) :
    Calls Try.prog 23 #[.pointer (some ⟨b, 0, none⟩)] W fun e w' => e = .returned (.int .i64 F.gone) ∧ W = w' := by
  have h0 : W.cell? ⟨b, 2, none⟩ = some (.int .i64 F.gone) := h.gone
  clear h
  go_enter Try.func23, Try.ntmps23
  go_wp2_with fail
  go_ret
  exact ⟨rfl, rfl⟩

/-- the direction, and whether the place is one -/
theorem at_yes (d o i : Nat) (h : FlAt 1 R W b F wv) (hd : d < 2) (ho : o = 3 + 2 * d) (hi : i < (F.fs d).length) :
    Calls Try.prog 28 #[.pointer (some ⟨b, 0, none⟩), .int .i64 d, .int .i64 i] W fun e w' => e = .returned (.tuple #[.pointer (some ⟨b, o, none⟩), .int .i64 0]) ∧ W = w' := by
  obtain ⟨A, cap, ys, _, _, _, hc, _⟩ := h.way d o hd (by omega)
  have HO := Lib.hid (of_yes d o h hd ho)
  have hiI : (i : Int) < ((F.fs d).length : Int) := by omega
  clear h ho
  generalize (F.fs d).length = n at *
  go_enter Try.func28, Try.ntmps28
  go_wp2_with fail
  refine HO.out.mono ?_
  rintro e w' ⟨rfl, rfl⟩
  go_wp2_with fail
  go_ret2
  exact ⟨rfl, rfl⟩
theorem at_none (d : Nat) (i : Int) (h : FlAt 1 R W b F wv) (hd : d < 2) (hi : i < 0 ∨ ((F.fs d).length : Int) ≤ i) :
    Calls Try.prog 28 #[.pointer (some ⟨b, 0, none⟩), .int .i64 d, .int .i64 i] W fun e w' => ∃ v, e = .returned (.tuple #[v, .int .i64 4]) ∧ W = w' := by
  obtain ⟨o, ho⟩ : ∃ o, o = 3 + 2 * d := ⟨_, rfl⟩
  obtain ⟨A, cap, ys, _, _, _, hc, _⟩ := h.way d o hd (by omega)
  have HO := Lib.hid (of_yes d o h hd ho)
  clear h ho
  generalize (F.fs d).length = n at *
  by_cases h1 : i < 0
  · go_enter Try.func28, Try.ntmps28
    go_wp2_with fail
    refine HO.out.mono ?_
    rintro e w' ⟨rfl, rfl⟩
    go_wp2_with fail
    go_ret2
    exact ⟨_, rfl, rfl⟩
  · have h2 : (n : Int) ≤ i := by omega
    go_enter Try.func28, Try.ntmps28
    go_wp2_with fail
    refine HO.out.mono ?_
    rintro e w' ⟨rfl, rfl⟩
    go_wp2_with fail
    go_ret2
    exact ⟨_, rfl, rfl⟩
theorem at_no (d i : Int) (h : FlAt 1 R W b F wv) (hd : d < 0 ∨ 2 ≤ d) :
    Calls Try.prog 28 #[.pointer (some ⟨b, 0, none⟩), .int .i64 d, .int .i64 i] W fun e w' => ∃ v, e = .returned (.tuple #[v, .int .i64 1]) ∧ W = w' := by
  have HO := Lib.hid (of_no d h hd)
  clear h
  go_enter Try.func28, Try.ntmps28
  go_wp2_with fail
  refine HO.out.mono ?_
  rintro e w' ⟨rfl, rfl⟩
  go_wp2_with fail
  go_ret2
  exact ⟨_, rfl, rfl⟩
end
end Go.Proofs.Ytogijioehdaefaa.Flt
