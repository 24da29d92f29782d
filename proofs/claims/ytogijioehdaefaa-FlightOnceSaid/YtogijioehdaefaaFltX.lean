
/- Layer 16 (flight): each act's answer, whatever direction and place: the code's and the document's alike. -/
import Derived.Test.YtogijioehdaefaaFltD
import Derived.Test.YtogijioehdaefaaFltG
import Derived.Test.YtogijioehdaefaaFltUA
import Derived.Test.YtogijioehdaefaaFltUB
import Derived.Test.YtogijioehdaefaaFltV
import Derived.Test.YtogijioehdaefaaFltM
namespace Go.Proofs.Ytogijioehdaefaa.Flt
open Go.Proofs.Ytogijioehdaefaa.Ed

/-- a direction that is one -/
def okD (d : Int) : Prop := 0 ≤ d ∧ d < 2
instance (d : Int) : Decidable (okD d) := inferInstanceAs (Decidable (_ ∧ _))
def okI (F : Fl) (d i : Int) : Prop := 0 ≤ i ∧ i < ((F.fs d.toNat).length : Int)
instance (F : Fl) (d i : Int) : Decidable (okI F d i) := inferInstanceAs (Decidable (_ ∧ _))
def putO (F : Fl) (d : Int) (w : List UInt8) : Int × Fl := if ¬ okD d then (1, F) else if 512 < w.length then (2, F) else (0, put F d.toNat w)
def atO (F : Fl) (d i : Int) : Int × Frm := if ¬ okD d then (1, Frm0) else if ¬ okI F d i then (4, Frm0) else (0, nthF (F.fs d.toNat) i.toNat)
def takeO (F : Fl) (d i : Int) : Fl := if okD d ∧ okI F d i then take F d.toNat i.toNat else F
def spoilO (F : Fl) (d i : Int) (es : List Edt) : Fl := if okD d ∧ okI F d i then spoil F d.toNat i.toNat es else F

/-- what holds of every flight that acts have made: at most N of them -/
structure Good (N : Nat) (F : Fl) : Prop where
  life : F.life ≤ 4096
  gone : F.gone ≤ N * 100
  len : ∀ d, d < 2 → (F.fs d).length ≤ N
  sent : ∀ d, d < 2 → F.sent d ≤ N
  num : ∀ d, d < 2 → ∀ x ∈ F.fs d, x.num ≤ F.sent d
  rise : ∀ d, d < 2 → Rise (F.fs d)
theorem okD_nat {d : Int} (h : okD d) : ∃ k : Nat, k < 2 ∧ d = k ∧ d.toNat = k := ⟨d.toNat, by have := h.2; omega, by have := h.1; omega, rfl⟩
theorem not_okD {d : Int} (h : ¬ okD d) : d < 0 ∨ 2 ≤ d := by unfold okD at h; omega
theorem not_okI {F : Fl} {d i : Int} (h : ¬ okI F d i) : i < 0 ∨ ((F.fs d.toNat).length : Int) ≤ i := by unfold okI at h; omega

theorem rise_put {N : Nat} {F : Fl} (h : Good N F) {d : Nat} (hd : d < 2) (w : List UInt8) : Rise (putL F d w) := by
  unfold putL Rise
  rw [List.pairwise_append]
  refine ⟨h.rise d hd, by simp, fun x hx y hy => ?_⟩
  simp only [List.mem_singleton] at hy
  subst hy
  have := h.num d hd x hx
  show _ < F.sent d + 1
  omega
theorem good_new (n : Nat) (h : n ≤ 4096) : Good 0 (new n) := ⟨h, Nat.zero_le _, fun _ _ => Nat.le_refl _, fun _ _ => Nat.le_refl _, fun _ _ _ h => (by cases h), fun _ _ => List.Pairwise.nil⟩
theorem Good.mono {N M : Nat} {F : Fl} (h : Good N F) (hm : N ≤ M) : Good M F :=
  ⟨h.life, Nat.le_trans h.gone (Nat.mul_le_mul_right _ hm), fun d hd => Nat.le_trans (h.len d hd) hm, fun d hd => Nat.le_trans (h.sent d hd) hm, h.num, h.rise⟩
theorem cutN_le (F : Fl) (s : Nat) (l : List Frm) : cutN F s l ≤ l.length := by
  unfold cutN
  split
  · exact Nat.zero_le _
  · exact lead_le _ _ _
theorem good_put {N : Nat} {F : Fl} (h : Good N F) (hN : N < 100) {d : Nat} (hd : d < 2) (w : List UInt8) : Good (N + 1) (put F d w) := by
  have hlen : (putL F d w).length = (F.fs d).length + 1 := by unfold putL; simp
  have hl := h.len d hd
  have hc := cutN_le F (F.sent d + 1) (putL F d w)
  have hg := h.gone
  refine ⟨h.life, show F.gone + _ ≤ _ by omega, fun e he => ?_, fun e he => ?_, fun e he x hx => ?_, fun e he => ?_⟩
  · show (upd F.fs d _ e).length ≤ _
    by_cases hed : e = d
    · subst hed; rw [upd_same, List.length_drop]; omega
    · rw [upd_other _ _ hed]; have := h.len e he; omega
  · show upd F.sent d _ e ≤ _
    by_cases hed : e = d
    · subst hed; rw [upd_same]; have := h.sent e he; omega
    · rw [upd_other _ _ hed]; have := h.sent e he; omega
  · change x ∈ upd F.fs d _ e at hx
    show x.num ≤ upd F.sent d _ e
    by_cases hed : e = d
    · subst hed
      rw [upd_same] at hx ⊢
      have := List.mem_of_mem_drop hx
      unfold putL at this
      rw [List.mem_append] at this
      rcases this with h1 | h1
      · have := h.num e he x h1
        omega
      · simp only [List.mem_singleton] at h1
        subst h1
        exact Nat.le_refl _
    · rw [upd_other _ _ hed] at hx ⊢
      exact h.num e he x hx
  · show Rise (upd F.fs d _ e)
    by_cases hed : e = d
    · subst hed
      rw [upd_same]
      exact List.Pairwise.sublist (List.drop_sublist _ _) (rise_put h he w)
    · rw [upd_other _ _ hed]; exact h.rise e he
/-- what leaves the numbers as they are, or takes some away -/
theorem good_fs {N : Nat} {F : Fl} (h : Good N F) {d : Nat} (hd : d < 2) (l : List Frm) (hs : List.Sublist (l.map (·.num)) ((F.fs d).map (·.num))) : Good N { F with fs := upd F.fs d l } := by
  have hsl := hs.length_le
  rw [List.length_map, List.length_map] at hsl
  have hr : ∀ l : List Frm, Rise l ↔ (l.map (·.num)).Pairwise (· < ·) := fun l => by unfold Rise; rw [List.pairwise_map]
  refine ⟨h.life, h.gone, fun e he => ?_, h.sent, fun e he x hx => ?_, fun e he => ?_⟩
  · show (upd F.fs d l e).length ≤ _
    by_cases hed : e = d
    · subst hed; rw [upd_same]; have := h.len e he; omega
    · rw [upd_other _ _ hed]; exact h.len e he
  · change x ∈ upd F.fs d l e at hx
    show x.num ≤ F.sent e
    by_cases hed : e = d
    · subst hed
      rw [upd_same] at hx
      have h1 : x.num ∈ (F.fs e).map (·.num) := hs.subset (List.mem_map_of_mem hx)
      obtain ⟨y, hy, e2⟩ := List.mem_map.1 h1
      have := h.num e he y hy
      omega
    · rw [upd_other _ _ hed] at hx
      exact h.num e he x hx
  · show Rise (upd F.fs d l e)
    by_cases hed : e = d
    · subst hed
      rw [upd_same, hr]
      exact List.Pairwise.sublist hs ((hr _).1 (h.rise e he))
    · rw [upd_other _ _ hed]; exact h.rise e he
theorem good_take {N : Nat} {F : Fl} (h : Good N F) {d : Nat} (hd : d < 2) (i : Nat) : Good N (take F d i) := by
  refine good_fs h hd _ (List.Sublist.map _ ?_)
  rw [← List.eraseIdx_eq_take_drop_succ]
  exact List.eraseIdx_sublist _ _
theorem good_spoil {N : Nat} {F : Fl} (h : Good N F) {d : Nat} (hd : d < 2) (i : Nat) (es : List Edt) : Good N (spoil F d i es) := by
  refine good_fs h hd _ ?_
  have : ((F.fs d).set i { nthF (F.fs d) i with wire := do1 (nthF (F.fs d) i).wire es }).map (·.num) = (F.fs d).map (·.num) := by
    refine List.ext_getElem? fun j => ?_
    rw [List.getElem?_map, List.getElem?_map, List.getElem?_set]
    split
    · rename_i e
      subst e
      by_cases hj : i < (F.fs d).length
      · rw [if_pos hj, List.getElem?_eq_getElem hj]
        unfold nthF
        rw [List.getD_eq_getElem?_getD, List.getElem?_eq_getElem hj]
        rfl
      · rw [if_neg hj, List.getElem?_eq_none (by omega)]
    · rfl
  rw [this]
  exact List.Sublist.refl _
theorem good_putO {N : Nat} {F : Fl} (h : Good N F) (hN : N < 100) (d : Int) (w : List UInt8) : Good (N + 1) (putO F d w).2 := by
  unfold putO
  by_cases hd : okD d
  · rw [if_neg (by simpa using hd)]
    by_cases hl : 512 < w.length
    · rw [if_pos hl]; exact h.mono (Nat.le_succ _)
    · rw [if_neg hl]
      obtain ⟨k, hk, _, e⟩ := okD_nat hd
      rw [e]
      exact good_put h hN hk w
  · rw [if_pos hd]; exact h.mono (Nat.le_succ _)
theorem good_takeO {N : Nat} {F : Fl} (h : Good N F) (d i : Int) : Good N (takeO F d i) := by
  unfold takeO
  split
  · rename_i hc
    obtain ⟨k, hk, _, e⟩ := okD_nat hc.1
    rw [e]
    exact good_take h hk _
  · exact h
theorem good_spoilO {N : Nat} {F : Fl} (h : Good N F) (d i : Int) (es : List Edt) : Good N (spoilO F d i es) := by
  unfold spoilO
  split
  · rename_i hc
    obtain ⟨k, hk, _, e⟩ := okD_nat hc.1
    rw [e]
    exact good_spoil h hk _ _
  · exact h
end Go.Proofs.Ytogijioehdaefaa.Flt

namespace Go.Proofs.Ytogijioehdaefaa.Flt
open Go.RowKit Go.Proofs.Ytogijioehdaefaa.Mem Go.Proofs.Ytogijioehdaefaa.Oct Go.Proofs.Ytogijioehdaefaa.Pkt Go.Proofs.Ytogijioehdaefaa.Def Go.Proofs.Ytogijioehdaefaa.Ed

theorem num_any (n : Int) (W : World) : Calls Try.prog 10 #[.int .i64 n] W fun e W' => e = .returned (.int .i64 n) ∧ W = W' := by
  go_enter Try.func10, Try.ntmps10
  go_wp2
  go_ret
  exact ⟨rfl, rfl⟩

section
variable {R : Nat → Prop} {W : World} {b : Nat} {F : Fl} {wv : Nat → Value}
theorem refPut_yes (d m ca : Nat) (A1 : Option Addr) (l : List UInt8) (h : FlAt 0 R W b F wv) (hd : d < 2) (hR : ∀ g, W.heap.size ≤ g → R g) (hA : RestAt (fun g => ¬ Mut b wv g) W A1 l) (hm : m = l.length) (hl : l.length ≤ 512)
    (hn : (F.fs d).length ≤ 1000) (hs : F.sent d ≤ 100000) (hg : F.gone ≤ 1000000) (hnum : ∀ i, i < (F.fs d).length → (nthF (F.fs d) i).num ≤ 100000) (hrise : Rise (putL F d l)) :
    Calls Try.prog 12 #[.pointer (some ⟨b, 0, none⟩), .int .i64 d, .slice A1 m ca] W fun e w' => e = .returned (.int .i64 0) ∧ Acted 0 R W b wv (put F d l) w' := by
  obtain rfl | rfl : d = 0 ∨ d = 1 := by omega
  · exact refPut_0 m ca A1 l h hR hA hm hl hn hs hg hnum hrise
  · exact refPut_1 m ca A1 l h hR hA hm hl hn hs hg hnum hrise
theorem acted_same {k : Nat} (h : FlAt k R W b F wv) : Acted k R W b wv F W := ⟨wv, h, Chg.refl _ _, fun _ h => .inl h⟩
theorem acted_below {k : Nat} {w : World} (h : FlAt k R W b F wv) (hb : Below W.heap.size W w) : Acted k R W b wv F w := ⟨wv, h.below hb, (chg_below hb).mono fun _ e => e.elim, fun _ h => .inl h⟩
def DoneA (k : Nat) (R : Nat → Prop) (W : World) (b : Nat) (wv : Nat → Value) (c : Int) (F' : Fl) (e : Ending) (w' : World) : Prop := e = .returned (.int .i64 c) ∧ Acted k R W b wv F' w'
theorem Put_any (N m ca : Nat) (d : Int) (A1 : Option Addr) (l : List UInt8) (h : FlAt 1 R W b F wv) (hG : Good N F) (hN : N ≤ 1000) (hR : ∀ g, W.heap.size ≤ g → R g) (hA : RestAt (fun g => ¬ Mut b wv g) W A1 l) (hm : m = l.length) :
    Calls Try.prog 11 #[.pointer (some ⟨b, 0, none⟩), .int .i64 d, .slice A1 m ca] W (DoneA 1 R W b wv (putO F d l).1 (putO F d l).2) := by
  unfold putO
  by_cases hd : okD d
  · rw [if_neg (by simpa using hd)]
    obtain ⟨k, hk, rfl, e⟩ := okD_nat hd
    by_cases hl : 512 < l.length
    · rw [if_pos hl]
      refine (Put_long k m ca A1 h hk (by omega)).mono ?_
      rintro e w ⟨rfl, rfl⟩
      exact ⟨rfl, acted_same h⟩
    · rw [if_neg hl, e]
      have := hG.len k hk
      have := hG.sent k hk
      have := hG.gone
      exact Put_yes k m ca A1 l h hk hR hA hm (by omega) (by omega) (by omega) (by omega) (fun i hi => by have := hG.num k hk _ (nthF_mem hi); omega)
  · rw [if_pos hd]
    refine (Put_no d _ h (not_okD hd)).mono ?_
    rintro e w ⟨rfl, rfl⟩
    exact ⟨rfl, acted_same h⟩
theorem refPut_any (N m ca : Nat) (d : Int) (A1 : Option Addr) (l : List UInt8) (h : FlAt 0 R W b F wv) (hG : Good N F) (hN : N ≤ 1000) (hR : ∀ g, W.heap.size ≤ g → R g) (hA : RestAt (fun g => ¬ Mut b wv g) W A1 l) (hm : m = l.length) :
    Calls Try.prog 12 #[.pointer (some ⟨b, 0, none⟩), .int .i64 d, .slice A1 m ca] W (DoneA 0 R W b wv (putO F d l).1 (putO F d l).2) := by
  unfold putO
  by_cases hd : okD d
  · rw [if_neg (by simpa using hd)]
    obtain ⟨k, hk, rfl, e⟩ := okD_nat hd
    by_cases hl : 512 < l.length
    · rw [if_pos hl]
      refine (refPut_long k m ca A1 hk (by omega)).mono ?_
      rintro e w ⟨rfl, rfl⟩
      exact ⟨rfl, acted_same h⟩
    · rw [if_neg hl, e]
      have := hG.len k hk
      have := hG.sent k hk
      have := hG.gone
      exact refPut_yes k m ca A1 l h hk hR hA hm (by omega) (by omega) (by omega) (by omega) (fun i hi => by have := hG.num k hk _ (nthF_mem hi); omega) (rise_put hG hk l)
  · rw [if_pos hd]
    refine (refPut_no d _ (not_okD hd)).mono ?_
    rintro e w ⟨rfl, rfl⟩
    exact ⟨rfl, acted_same h⟩
/-- a frame is handed back, and why -/
def DoneF (k : Nat) (R : Nat → Prop) (W : World) (b : Nat) (wv : Nat → Value) (c : Int) (x : Frm) (F' : Fl) (e : Ending) (w' : World) : Prop :=
  ∃ v1 v2, e = .returned (.tuple #[.agg #[.int .i64 x.num, v1, v2], .int .i64 c]) ∧ TextP (fun g => ¬ Mut b wv g ∧ R g) w' v1 x.wire ∧ TextP (fun g => ¬ Mut b wv g ∧ R g) w' v2 x.first ∧ x.wire.length ≤ 1000 ∧ x.first.length ≤ 1000 ∧ Acted k R W b wv F' w'
theorem doneF_none {k : Nat} {c : Int} {e : Ending} {w' : World} (h : FlAt k R W b F wv) (ht : ToldNo W c e w') : DoneF k R W b wv c Frm0 F e w' :=
  ⟨_, _, ht.1, textP_nil _ _, textP_nil _ _, Nat.zero_le _, Nat.zero_le _, acted_below h ht.2⟩
theorem frm_len {k : Nat} (h : FlAt k R W b F wv) {d i : Nat} (hd : d < 2) (hi : i < (F.fs d).length) : (nthF (F.fs d) i).wire.length ≤ 1000 ∧ (nthF (F.fs d) i).first.length ≤ 1000 := by
  obtain ⟨A, cap, ys, _, _, hf⟩ := h.row d hd
  obtain ⟨_, _, _, _, _, _, _, h1, h2⟩ := hf i hi
  exact ⟨h1, h2⟩
/-- a frame is told, and why not -/
def DoneT (W : World) (c : Int) (x : Frm) (e : Ending) (w' : World) : Prop :=
  ∃ v1 v2, e = .returned (.tuple #[.agg #[.int .i64 x.num, v1, v2], .int .i64 c]) ∧ TextP (fun _ => True) w' v1 x.wire ∧ TextP (fun _ => True) w' v2 x.first ∧ x.wire.length ≤ 1000 ∧ x.first.length ≤ 1000 ∧ Below W.heap.size W w'
theorem doneT_none {c : Int} {e : Ending} {w' : World} (ht : ToldNo W c e w') : DoneT W c Frm0 e w' := ⟨_, _, ht.1, textP_nil _ _, textP_nil _ _, Nat.zero_le _, Nat.zero_le _, ht.2⟩
theorem At_any (d i : Int) (h : FlAt 1 R W b F wv) :
    Calls Try.prog 22 #[.pointer (some ⟨b, 0, none⟩), .int .i64 d, .int .i64 i] W (DoneT W (atO F d i).1 (atO F d i).2) := by
  unfold atO
  by_cases hd : okD d
  · rw [if_neg (by simpa using hd)]
    obtain ⟨k, hk, rfl, e⟩ := okD_nat hd
    by_cases hi : okI F k i
    · rw [if_neg (by simpa using hi)]
      obtain ⟨j, rfl⟩ : ∃ j : Nat, i = j := ⟨i.toNat, by have := hi.1; omega⟩
      have hj : j < (F.fs k).length := by have := hi.2; rw [e] at this; omega
      refine (At_yes k j h hk hj).mono ?_
      rintro e' w ⟨v1, v2, rfl, t1, t2, hb⟩
      obtain ⟨l1, l2⟩ := frm_len h hk hj
      exact ⟨v1, v2, rfl, t1.chg (Chg.refl (fun _ => False) _) (fun _ _ _ h => h) (fun _ _ _ => trivial), t2.chg (Chg.refl (fun _ => False) _) (fun _ _ _ h => h) (fun _ _ _ => trivial), l1, l2, hb⟩
    · rw [if_pos hi]
      have h2 := not_okI hi
      rw [e] at h2
      exact (At_none k i h hk h2).mono fun e' w ht => doneT_none ht
  · rw [if_pos hd]
    exact (At_no d i h (not_okD hd)).mono fun e w ht => doneT_none ht
theorem refAt_any (d i : Int) (h : FlAt 0 R W b F wv) :
    Calls Try.prog 29 #[.pointer (some ⟨b, 0, none⟩), .int .i64 d, .int .i64 i] W (DoneT W (atO F d i).1 (atO F d i).2) := by
  unfold atO
  by_cases hd : okD d
  · rw [if_neg (by simpa using hd)]
    obtain ⟨k, hk, rfl, e⟩ := okD_nat hd
    by_cases hi : okI F k i
    · rw [if_neg (by simpa using hi)]
      obtain ⟨j, rfl⟩ : ∃ j : Nat, i = j := ⟨i.toNat, by have := hi.1; omega⟩
      have hj : j < (F.fs k).length := by have := hi.2; rw [e] at this; omega
      refine (refAt_yes k j h hk hj).mono ?_
      rintro e' w ⟨v1, v2, rfl, t1, t2, hb, l1, l2⟩
      exact ⟨v1, v2, rfl, t1.chg (Chg.refl (fun _ => False) _) (fun _ _ _ h => h) (fun _ _ _ => trivial), t2.chg (Chg.refl (fun _ => False) _) (fun _ _ _ h => h) (fun _ _ _ => trivial), l1, l2, hb⟩
    · rw [if_pos hi]
      have h2 := not_okI hi
      rw [e] at h2
      exact (refAt_none k i h hk h2).mono fun e' w ht => doneT_none ht
  · rw [if_pos hd]
    exact (refAt_no d i (not_okD hd)).mono fun e w ht => doneT_none ht
theorem Take_any (N : Nat) (d i : Int) (h : FlAt 1 R W b F wv) (hG : Good N F) (hN : N ≤ 1000) :
    Calls Try.prog 13 #[.pointer (some ⟨b, 0, none⟩), .int .i64 d, .int .i64 i] W (DoneF 1 R W b wv (atO F d i).1 (atO F d i).2 (takeO F d i)) := by
  unfold atO takeO
  by_cases hd : okD d
  · rw [if_neg (by simpa using hd)]
    by_cases hi : okI F d i
    · rw [if_neg (by simpa using hi), if_pos ⟨hd, hi⟩]
      obtain ⟨k, hk, rfl, e⟩ := okD_nat hd
      obtain ⟨j, rfl⟩ : ∃ j : Nat, i = j := ⟨i.toNat, by have := hi.1; omega⟩
      have hj : j < (F.fs k).length := by have := hi.2; rw [e] at this; omega
      refine (Take_yes k j h hk hj (by have := hG.len k hk; omega)).mono ?_
      rintro e' w ⟨v1, v2, rfl, t1, t2, ha⟩
      obtain ⟨l1, l2⟩ := frm_len h hk hj
      exact ⟨v1, v2, rfl, t1, t2, l1, l2, ha⟩
    · rw [if_pos hi, if_neg (fun h => hi h.2)]
      obtain ⟨k, hk, rfl, e⟩ := okD_nat hd
      have h2 := not_okI hi
      rw [e] at h2
      exact (Take_none k i h hk h2).mono fun e' w ht => doneF_none h ht
  · rw [if_pos hd, if_neg (fun h => hd h.1)]
    exact (Take_no d i h (not_okD hd)).mono fun e w ht => doneF_none h ht
theorem refTake_any (N : Nat) (d i : Int) (h : FlAt 0 R W b F wv) (hG : Good N F) (hN : N ≤ 1000) :
    Calls Try.prog 14 #[.pointer (some ⟨b, 0, none⟩), .int .i64 d, .int .i64 i] W (DoneF 0 R W b wv (atO F d i).1 (atO F d i).2 (takeO F d i)) := by
  unfold atO takeO
  by_cases hd : okD d
  · rw [if_neg (by simpa using hd)]
    by_cases hi : okI F d i
    · rw [if_neg (by simpa using hi), if_pos ⟨hd, hi⟩]
      obtain ⟨k, hk, rfl, e⟩ := okD_nat hd
      obtain ⟨j, rfl⟩ : ∃ j : Nat, i = j := ⟨i.toNat, by have := hi.1; omega⟩
      have hj : j < (F.fs k).length := by have := hi.2; rw [e] at this; omega
      refine (refTake_yes k j h hk hj (by have := hG.len k hk; omega)).mono ?_
      rintro e' w ⟨v1, v2, rfl, t1, t2, ha⟩
      obtain ⟨l1, l2⟩ := frm_len h hk hj
      exact ⟨v1, v2, rfl, t1, t2, l1, l2, ha⟩
    · rw [if_pos hi, if_neg (fun h => hi h.2)]
      obtain ⟨k, hk, rfl, e⟩ := okD_nat hd
      have h2 := not_okI hi
      rw [e] at h2
      exact (refTake_err k i 4 (by decide) (fun w hb => refAt_none k i (h.below hb) hk h2)).mono fun e' w ht => doneF_none h ht
  · rw [if_pos hd, if_neg (fun h => hd h.1)]
    exact (refTake_err d i 1 (by decide) (fun w _ => refAt_no d i (not_okD hd))).mono fun e w ht => doneF_none h ht
theorem Spoil_any (ce : Nat) (d i : Int) (E : Option Addr) (es : List Edt) (h : FlAt 1 R W b F wv) (hR : ∀ g, W.heap.size ≤ g → R g) (hE : Eds W W.heap.size E es) (hes : es.length ≤ 1000000) :
    Calls Try.prog 16 #[.pointer (some ⟨b, 0, none⟩), .int .i64 d, .int .i64 i, .slice E es.length ce] W (DoneA 1 R W b wv (atO F d i).1 (spoilO F d i es)) := by
  unfold atO spoilO
  by_cases hd : okD d
  · rw [if_neg (by simpa using hd)]
    by_cases hi : okI F d i
    · rw [if_neg (by simpa using hi), if_pos ⟨hd, hi⟩]
      obtain ⟨k, hk, rfl, e⟩ := okD_nat hd
      obtain ⟨j, rfl⟩ : ∃ j : Nat, i = j := ⟨i.toNat, by have := hi.1; omega⟩
      have hj : j < (F.fs k).length := by have := hi.2; rw [e] at this; omega
      exact Spoil_yes k j ce E es h hk hj hR hE hes
    · rw [if_pos hi, if_neg (fun h => hi h.2)]
      obtain ⟨k, hk, rfl, e⟩ := okD_nat hd
      have h2 := not_okI hi
      rw [e] at h2
      refine (Spoil_none k i _ h hk h2).mono ?_
      rintro e' w ⟨rfl, rfl⟩
      exact ⟨rfl, acted_same h⟩
  · rw [if_pos hd, if_neg (fun h => hd h.1)]
    refine (Spoil_no d i _ h (not_okD hd)).mono ?_
    rintro e' w ⟨rfl, rfl⟩
    exact ⟨rfl, acted_same h⟩
theorem refSpoil_any (ce : Nat) (d i : Int) (E : Option Addr) (es : List Edt) (h : FlAt 0 R W b F wv) (hR : ∀ g, W.heap.size ≤ g → R g) (hE : Eds W W.heap.size E es) (hes : es.length ≤ 1000000) :
    Calls Try.prog 17 #[.pointer (some ⟨b, 0, none⟩), .int .i64 d, .int .i64 i, .slice E es.length ce] W (DoneA 0 R W b wv (atO F d i).1 (spoilO F d i es)) := by
  unfold atO spoilO
  by_cases hd : okD d
  · rw [if_neg (by simpa using hd)]
    by_cases hi : okI F d i
    · rw [if_neg (by simpa using hi), if_pos ⟨hd, hi⟩]
      obtain ⟨k, hk, rfl, e⟩ := okD_nat hd
      obtain ⟨j, rfl⟩ : ∃ j : Nat, i = j := ⟨i.toNat, by have := hi.1; omega⟩
      have hj : j < (F.fs k).length := by have := hi.2; rw [e] at this; omega
      exact refSpoil_yes k j ce E es h hk hj hR hE hes
    · rw [if_pos hi, if_neg (fun h => hi h.2)]
      obtain ⟨k, hk, rfl, e⟩ := okD_nat hd
      have h2 := not_okI hi
      rw [e] at h2
      refine (refSpoil_err k i 4 _ (by decide) (fun w hb => refAt_none k i (h.below hb) hk h2)).mono ?_
      rintro e' w ⟨rfl, hb⟩
      exact ⟨rfl, acted_below h hb⟩
  · rw [if_pos hd, if_neg (fun h => hd h.1)]
    refine (refSpoil_err d i 1 _ (by decide) (fun w _ => refAt_no d i (not_okD hd))).mono ?_
    rintro e' w ⟨rfl, hb⟩
    exact ⟨rfl, acted_below h hb⟩
end
end Go.Proofs.Ytogijioehdaefaa.Flt
