
/- Layer 5 (deframe): a new scanner's finds; the page's example; what a nil scanner finds. -/
import Derived.Test.YtfieinajkkcelaaDefF
import Derived.Test.YtfieinajkkcelaaOctB
namespace Go.Proofs.Ytfieinajkkcelaa.Def
open Go.RowKit Go.Proofs.Ytfieinajkkcelaa.Mem Go.Proofs.Ytfieinajkkcelaa.Oct Go.Proofs.Ytfieinajkkcelaa.Pkt Go.Proofs.Ytfieinajkkcelaa.DefM Go.Proofs.Ytfieinajkkcelaa.FrmM

/-- what was found, as texts -/
theorem Inv.texts {b tb : Nat} {W : World} {v0 : Value} {S : St} {O : List (List UInt8)} {v o : Value} {vs : List Value} {w : World} (h : Inv b tb W v0 S O v o vs w) :
    ∃ A c, o = .slice A O.length c ∧ O.length ≤ c ∧ c ≤ maxLen ∧ Texts w w.heap.size A O ∧ (∀ g, A = some g → W.heap.size ≤ g.block) := by
  have hl := h.len
  rcases h.out.2 with ⟨rfl, h0⟩ | ⟨g, cap, cur, rfl, hbg, hg, hn, hm, hcs, htk⟩
  · rw [hl] at h0
    exact ⟨none, 0, by rw [h0], by omega, Nat.zero_le _, fun hp => by omega, fun g hg => by cases hg⟩
  · refine ⟨some ⟨g, 0, none⟩, cap, by rw [hl], by omega, hm, fun _ => ⟨g, 0, rfl, (Array.getElem?_eq_some_iff.1 hg).1, fun i hi => ?_⟩, fun g' hg' => by cases hg'; exact hbg⟩
    obtain ⟨u, h1, A, c, rfl, h2, h3, h4⟩ := h.txt i (by omega)
    refine ⟨A, c, ?_, h2, h3, h4.bytes⟩
    rw [cell_of_row w g _ cur _ (0, 0) hg, ← h1, ← htk, List.getElem?_take, if_pos (by omega)]
    simp
theorem env_new {b tb : Nat} {W w1 : World} (ht : Crc.Tab W tb) (hb : tb < W.heap.size) (hk : Below W.heap.size W w1) (h1 : W.heap.size ≤ b) (h2 : b < w1.heap.size) : Env b tb w1 (.slice none 0 0) :=
  ⟨h2, Nat.lt_of_lt_of_le hb hk.size, by omega, by simp [Value.ownBlock], by simp [Value.ownBlock], ht.below hk hb⟩
theorem below_feed {b tb : Nat} {W w1 w2 : World} {S : St} {O : List (List UInt8)} {v o : Value} {vs : List Value} (h : Inv b tb w1 (.slice none 0 0) S O v o vs w2) {B : Nat} (hk : Below B W w1) (hB : B ≤ w1.heap.size) (hb : B ≤ b) : Below B W w2 :=
  Chg.below hk h.chg hB (fun g hg => by rcases hg with h1 | h1; omega; simp [Value.ownBlock] at h1)

theorem RestAt.of_at {p : Nat → Prop} {w : World} {B g o : Nat} {l : List UInt8} (h : Bytes w B (some ⟨g, o, none⟩) l) (hB : B ≤ w.heap.size) (hp : p g) : RestAt p w (some ⟨g, o, none⟩) l := by
  intro hl
  obtain ⟨b, off, h1, h2, h3⟩ := h hl
  have h1' := h1
  injection h1 with h1
  injection h1 with h1 _
  subst h1
  exact ⟨_, off, h1', by omega, hp, h3⟩
/-- what a new scanner finds -/
def GivesAll (w : World) (R : List (List UInt8)) (e : Ending) (w' : World) : Prop := ∃ A c, e = .returned (.slice A R.length c) ∧ R.length ≤ c ∧ c ≤ maxLen ∧ Texts w' w'.heap.size A R ∧ Below w.heap.size w w'
theorem All_any (tb : Nat) (A : Option Addr) (n cap : Nat) (l : List UInt8) (W : World) (hn : n = l.length) (ht : Crc.Tab W tb) (htb : tb < W.heap.size) (hA : Bytes W W.heap.size A l) (hl : l.length ≤ 900000) :
    Calls Try.prog 21 #[.pointer (some ⟨tb, 0, none⟩), .slice A n cap] W (GivesAll W (run St0 l).2) := by
  subst hn
  go_enter Try.func21, Try.ntmps21
  go_wp2_with fail
  refine (New_any tb W ht htb).mono ?_
  rintro e w1 ⟨b, rfl, h1, h2, hS, hb1⟩
  have hE := env_new ht htb hb1 h1 h2
  have hF := Feed_any b tb A cap l (.slice none 0 0) St0 w1 hE hS (Own.nil _ _ _) ok0 (by unfold total St0; simp only; omega)
    (RestAt.of_bytes (hA.below hb1 (Nat.le_refl _)) hb1.size (fun g hg => ⟨by omega, by simp [Value.ownBlock]⟩))
  have HF := Lib.hid hF
  have HB := Lib.hid hb1
  clear hF hE hS hb1
  go_wp2_with fail
  refine HF.out.mono ?_
  rintro e w2 ⟨v, o, vs, rfl, hI⟩
  have hb2 := below_feed hI HB.out HB.out.size h1
  obtain ⟨A2, c2, rfl, h3, h4, h5, _⟩ := hI.texts
  go_wp2_with fail
  go_ret
  exact ⟨A2, c2, rfl, h3, h4, h5, hb2⟩

theorem same_any (a b c d a' b' c' d' : Int) (W : World) :
    Calls Try.prog 20 #[.agg #[.int .i64 a, .int .i64 b, .int .i64 c, .int .i64 d], .agg #[.int .i64 a', .int .i64 b', .int .i64 c', .int .i64 d']] W fun e W' => e = .returned (.bool ((a == a') && ((b == b') && ((c == c') && (d == d'))))) ∧ Below W.heap.size W W' := by
  have hb := below_alloc (below_alloc (Below.refl W.heap.size W) (.cells #[.int .i64 a, .int .i64 b, .int .i64 c, .int .i64 d] 33)) (.cells #[.int .i64 a', .int .i64 b', .int .i64 c', .int .i64 d'] 37)
  have HB := Lib.hid hb
  clear hb
  cases h1 : a == a' <;> cases h2 : b == b' <;> cases h3 : c == c' <;> cases h4 : d == d'
  all_goals (
    go_enter Try.func20, Try.ntmps20
    go_wp2
    go_ret
    exact ⟨rfl, HB.out⟩)
theorem same_self (a b c d : Int) (W : World) :
    Calls Try.prog 20 #[.agg #[.int .i64 a, .int .i64 b, .int .i64 c, .int .i64 d], .agg #[.int .i64 a, .int .i64 b, .int .i64 c, .int .i64 d]] W fun e W' => e = .returned (.bool true) ∧ Below W.heap.size W W' := by
  refine (same_any a b c d a b c d W).mono ?_
  rintro e w ⟨rfl, h⟩
  exact ⟨by simp, h⟩

def page : List UInt8 := [9, 126, 0, 0, 0, 0, 126, 126, 5, 126]
theorem page_run : (run St0 page).2 = [[]] ∧ (run St0 page).1.good = 1 ∧ (run St0 page).1.bad = 1 ∧ (run St0 page).1.long = 0 ∧ (run St0 page).1.noise = 1 := by decide +kernel

set_option maxHeartbeats 4000000 in
theorem live_any (W : World) : Calls Try.prog 12 #[] W fun e W' => e = .returned (.bool true) ∧ Below W.heap.size W W' := by
  obtain ⟨p1, p2, p3, p4, p5⟩ := page_run
  go_enter Try.func12, Try.ntmps12
  go_wp2_with fail
  refine (Crc.New_any _).mono ?_
  rintro e w1 ⟨tb, rfl, htab, htb0, htb1, hb1⟩
  go_wp2_with fail
  refine (New_any tb w1 htab htb1).mono ?_
  rintro e w2 ⟨b, rfl, h1, h2, hS, hb2⟩
  have hE := env_new htab htb1 hb2 h1 h2
  have hba := below_alloc (Below.refl w2.heap.size w2) (.cells #[.int .u8 9, .int .u8 126, .int .u8 0, .int .u8 0, .int .u8 0, .int .u8 0, .int .u8 126, .int .u8 126, .int .u8 5, .int .u8 126] 5)
  have hE3 : Env b tb (w2.alloc (.cells #[.int .u8 9, .int .u8 126, .int .u8 0, .int .u8 0, .int .u8 0, .int .u8 0, .int .u8 126, .int .u8 126, .int .u8 5, .int .u8 126] 5)) (.slice none 0 0) :=
    ⟨by simp; omega, by simp; have := hE.htb; omega, hE.hne, hE.hvb, hE.hvt, hE.tab.below hba hE.htb⟩
  have hS3 := hS.chg h2 (chg_below hba) (by simp)
  have hF := Feed_any b tb (some ⟨w2.heap.size, 0, none⟩) 10 page (.slice none 0 0) St0 _ hE3 hS3 (Own.nil _ _ _) ok0 (by decide)
    (RestAt.of_at (lit_bytes 5 w2 page _ rfl (by simp [page, maxLen])) (Nat.le_refl _) ⟨by omega, by simp [Value.ownBlock]⟩)
  have hb03 := below_next (below_next hb1 hb2) hba
  have HF := Lib.hid hF
  have HB := Lib.hid hb03
  have hbW : W.heap.size ≤ b := Nat.le_trans hb1.size h1
  clear hF hE hE3 hS hS3 hba hb1 hb2 hb03 htab htb0 htb1
  go_wp2_with fail
  refine HF.out.mono ?_
  rintro e w3 ⟨v, o, vs, rfl, hI⟩
  have hb3 := below_feed hI HB.out HB.out.size hbW
  obtain ⟨A2, c2, rfl, h3, h4, h5, _⟩ := hI.texts
  rw [p1] at h5
  obtain ⟨g, off, Ai, ci, rfl, _, hcell, _, _, _⟩ := h5.at_ (k := 0) (by simp)
  have hcell : w3.cell? ⟨g, off, none⟩ = some (.slice Ai 0 ci) := hcell
  have hlen : (run St0 page).2.length = 1 := by rw [p1]; rfl
  have hsn := fun w h => Seen_any b tb v (run St0 page).1 w h
  rw [p2, p3, p4, p5] at hsn
  have hscan := hI.scan
  have hbl : b < w3.heap.size := Nat.lt_of_lt_of_le (by simp; omega) hI.chg.size
  have HS := Lib.hid (hsn w3 hscan hbl)
  have HB3 := Lib.hid hb3
  rw [hlen]
  clear hI h5 hsn hscan hb3 hlen p1 p2 p3 p4 p5
  go_wp2_with fail
  refine HS.out.mono ?_
  rintro e w4 ⟨rfl, hb4⟩
  go_wp2_with fail
  refine (same_self 1 1 0 1 _).mono ?_
  rintro e w5 ⟨rfl, hb5⟩
  go_wp2
  go_ret
  exact ⟨rfl, below_next (below_next HB3.out hb4) hb5⟩

theorem All_nil (v : Value) (W : World) : Calls Try.prog 21 #[.pointer none, v] W fun e W' => e = .returned (.slice none 0 0) ∧ W = W' := by
  go_enter Try.func21, Try.ntmps21
  go_wp2_with (first
    | (go_at_call 14; refine (New_nil _).mono ?_; rintro e w' ⟨rfl, rfl⟩)
    | (go_at_call 16; refine (Feed_nil _ _).mono ?_; rintro e w' ⟨rfl, rfl⟩))
  go_ret
  exact ⟨rfl, rfl⟩
set_option maxHeartbeats 4000000 in
/-- DeframeNil -/
theorem DeframeNil_any (A : Option Addr) (n cap : Nat) (W : World) :
    Calls Try.prog 7 #[.slice A n cap] W fun e W' => e = .returned (.bool true) ∧ Below W.heap.size W W' := by
  have hb0 := below_alloc (Below.refl W.heap.size W) (.cells #[.pointer none, .int .i64 0, .slice none 0 0, .int .i64 0, .int .i64 0, .int .i64 0, .int .i64 0] 48)
  go_enter Try.func7, Try.ntmps7
  go_wp2_with (first
    | (go_at_call 24; refine (Reset_nil _).mono ?_; rintro e w' ⟨rfl, rfl⟩)
    | (go_at_call 16; refine (Feed_nil _ _).mono ?_; rintro e w' ⟨rfl, rfl⟩)
    | fail)
  refine (Seen_nil _).mono ?_
  rintro e w1 ⟨rfl, hb1⟩
  go_wp2_with fail
  refine (same_self 0 0 0 0 _).mono ?_
  rintro e w2 ⟨rfl, hb2⟩
  have hb12 := below_next hb1 hb2
  have hz : w2.cell? ⟨W.heap.size, 0, none⟩ = some (.pointer none) := by rw [(bcell hb12).1 _ _ (by simp)]; simp [go_sem]
  have HB := Lib.hid (below_next hb0 hb12)
  clear hb0 hb1 hb2 hb12
  go_wp2_with (first
    | (go_at_call 16; refine (Feed_zero _ _ _ hz).mono ?_; rintro e w' ⟨rfl, rfl⟩)
    | (go_at_call 14; refine (New_nil _).mono ?_; rintro e w' ⟨rfl, rfl⟩)
    | (go_at_call 21; refine (All_nil _ _).mono ?_; rintro e w' ⟨rfl, rfl⟩)
    | fail)
  refine (live_any _).mono ?_
  rintro e w3 ⟨rfl, hb3⟩
  go_wp2
  go_ret
  exact ⟨rfl, below_next HB.out hb3⟩
end Go.Proofs.Ytfieinajkkcelaa.Def
