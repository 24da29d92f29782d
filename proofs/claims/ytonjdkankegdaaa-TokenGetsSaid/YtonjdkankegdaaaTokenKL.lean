
/- Layer 15 (token): the document's Get, whole. -/
import Derived.Test.YtonjdkankegdaaaTokenK1
import Derived.Test.YtonjdkankegdaaaTokenK1s
import Derived.Test.YtonjdkankegdaaaTokenK2
import Derived.Test.YtonjdkankegdaaaTokenK2f
import Derived.Test.YtonjdkankegdaaaTokenK3
import Derived.Test.YtonjdkankegdaaaTokenB
namespace Go.Proofs.Ytonjdkankegdaaa.Token
open Go.RowKit Go.Proofs.Ytonjdkankegdaaa.Mem Go.Proofs.Ytonjdkankegdaaa.Oct Go.Proofs.Ytonjdkankegdaaa.Pkt

set_option maxHeartbeats 2000000 in
theorem refGetT_len (A : Option Addr) (n cap : Nat) (W : World) (Q : Ending → World → Prop) (h : n < 9)
    (HN : ∀ W', Below W.heap.size W W' → Q (.returned (.tuple #[.agg #[.int .i64 0, .int .u64 0, .int .u64 0, .int .u64 0, .slice none 0 0], .int .i64 130])) W') :
    Calls Try.prog 33 #[.slice A n cap] W Q := by
  have HN := Lib.hid HN
  have h9 : (n : Int) < 9 := by omega
  have hb0 := below_alloc (Below.refl W.heap.size W) (.cells #[.int .i64 0, .int .u64 0, .int .u64 0, .int .u64 0, .slice none 0 0] 36)
  clear h
  go_enter Try.func33, Try.ntmps33
  go_wp2_with fail
  exact bodyPost_ret (v := .tuple #[.agg #[.int .i64 0, .int .u64 0, .int .u64 0, .int .u64 0, .slice none 0 0], .int .i64 130]) (by simp [results, Try.results33, go_sem]) rfl (HN.out _ hb0)

set_option maxHeartbeats 2000000 in
theorem refGetT_head (b off n cap : Nat) (x : Int) (W : World) (Q : Ending → World → Prop) (h : 9 ≤ n) (hx : W.cell? ⟨b, off, none⟩ = some (.int .u8 x)) (hb : b < W.heap.size) (h3 : 3 < x)
    (HN : ∀ W', Below W.heap.size W W' → Q (.returned (.tuple #[.agg #[.int .i64 0, .int .u64 0, .int .u64 0, .int .u64 0, .slice none 0 0], .int .i64 130])) W') :
    Calls Try.prog 33 #[.slice (some ⟨b, off, none⟩) n cap] W Q := by
  have HN := Lib.hid HN
  have h9 : ¬ (n : Int) < 9 := by omega
  have hpos : (0 : Int) < (n : Int) := by omega
  have hb0 := below_alloc (Below.refl W.heap.size W) (.cells #[.int .i64 0, .int .u64 0, .int .u64 0, .int .u64 0, .slice none 0 0] 36)
  have hbne : ¬ b = W.heap.size := by omega
  have hbne2 : ¬ W.heap.size = b := by omega
  have hblt : b < W.heap.size + 1 := by omega
  clear h
  go_enter Try.func33, Try.ntmps33
  go_wp2_with fail
  exact bodyPost_ret (v := .tuple #[.agg #[.int .i64 0, .int .u64 0, .int .u64 0, .int .u64 0, .slice none 0 0], .int .i64 130]) (by simp [results, Try.results33, go_sem]) rfl (HN.out _ hb0)

/-- an answer out of what was got -/
theorem got_yes {W : World} {x : UInt8} {l : List UInt8} {k t c r : Int} {d : List UInt8} (hk : (x.toNat : Int) = k) (h : oR k l = true ∧ wT k l = t ∧ wC k l = c ∧ wR k l = r ∧ rR k l = d) (hok : tkOk k c r d.length = true) :
    ∀ W' s, IsText W' s d → Below W.heap.size W W' → GivesTk W (x :: l) (.returned (.tuple #[.agg #[.int .i64 k, .int .u64 t, .int .u64 c, .int .u64 r, s], .int .i64 0])) W' := by
  intro W' s ht hb
  obtain ⟨g0, g1, g2, g3, g4, g5⟩ := got_of hk h hok
  unfold GivesTk
  rw [g0, g1, g2, g3, g4, g5]
  exact ⟨s, rfl, ht, hb⟩
theorem got_no {W : World} {b : List UInt8} (h : gtOk b = false) : ∀ W', Below W.heap.size W W' → GivesTk W b (.returned (.tuple #[.agg #[.int .i64 0, .int .u64 0, .int .u64 0, .int .u64 0, .slice none 0 0], .int .i64 130])) W' :=
  fun _ hb => gt_no h hb
theorem ok_n (k c r : Int) {n : Nat} (hD0 : hD k = 0) (h : 0 < n) : tkOk k c r n = false := by
  unfold tkOk
  rw [hD0, decide_eq_false (show ¬ (n : Int) ≤ 0 by omega)]
  simp

/-- the parts of what came in -/
theorem part {W : World} {b off : Nat} {u s : List UInt8} (h : Bytes W W.heap.size (some ⟨b, off, none⟩) (u ++ s)) (hu : u.length = 8) :
    Bytes W W.heap.size (some ⟨b, off, none⟩) u ∧ Bytes W W.heap.size (some ⟨b, off + 8, none⟩) s := by
  refine ⟨?_, ?_⟩
  · have := h.take (k := 8) (by simp; omega)
    rwa [List.take_append_of_le_length (by omega), List.take_of_length_le (by omega)] at this
  · have := h.drop (k := 8) (by simp; omega)
    rw [List.drop_append_of_le_length (by omega), List.drop_of_length_le (by omega), List.nil_append] at this
    exact this

theorem refGetT_any (A : Option Addr) (cap : Nat) (l : List UInt8) (W : World) (hA : Bytes W W.heap.size A l) (hc : l.length ≤ cap) (hl : l.length ≤ 140737488355000) :
    Calls Try.prog 33 #[.slice A l.length cap] W (GivesTk W l) := by
  match l, hA, hc, hl with
  | [], hA, hc, hl => exact refGetT_len A _ cap W _ (by simp) (got_no rfl)
  | x :: l, hA, hc, hl =>
    rcases Nat.lt_or_ge l.length 8 with h8 | h8
    · exact refGetT_len A _ cap W _ (by simp; omega) (got_no (gtOk_bad (bad_len h8)))
    obtain ⟨b, off, rfl, hb, hx⟩ := hA.at_ (k := 0) (by simp)
    have hx : W.cell? ⟨b, off, none⟩ = some (.int .u8 (x.toNat : Int)) := hx
    have hr : Bytes W W.heap.size (some ⟨b, off + 1, none⟩) l := hA.drop (k := 1) (by simp)
    by_cases h3 : 3 < x.toNat
    · exact refGetT_head b off _ cap _ W _ (by simp; omega) hx hb (by omega) (got_no (gtOk_bad (bad_kind (decide_eq_false (by omega)))))
    have hx4 : x = 0 ∨ x = 1 ∨ x = 2 ∨ x = 3 := by
      have : x.toNat = 0 ∨ x.toNat = 1 ∨ x.toNat = 2 ∨ x.toNat = 3 := by omega
      rcases this with e | e | e | e
      · exact .inl (UInt8.toNat_inj.1 e)
      · exact .inr (.inl (UInt8.toNat_inj.1 e))
      · exact .inr (.inr (.inl (UInt8.toNat_inj.1 e)))
      · exact .inr (.inr (.inr (UInt8.toNat_inj.1 e)))
    obtain ⟨u, s, rfl, hu, hsl⟩ := split8 h8
    obtain ⟨pu, ps⟩ := part hr hu
    simp only [List.length_cons, List.length_append, hu] at hc hl
    clear h8 h3 hsl hA hr
    rcases hx4 with rfl | rfl | rfl | rfl
    · obtain ⟨c, rfl⟩ : ∃ c, cap = c + 9 := ⟨cap - 9, by omega⟩
      have G := got0 (r := s) hu
      rcases Nat.eq_zero_or_pos s.length with hz | hz
      · obtain rfl : s = [] := List.eq_nil_of_length_eq_zero hz
        have e : (0 :: (u ++ ([] : List UInt8))).length = 9 := by simp [hu]
        rw [e]
        exact refGetT_0ey b off c u W _ hb hx pu hu rfl (got_yes (x := 0) rfl G rfl)
      · have e : (0 :: (u ++ s)).length = s.length + 9 := by simp [hu]; omega
        rw [e]
        have hok : tkOk 0 0 0 s.length = false := ok_n 0 0 0 rfl hz
        exact refGetT_0nf b off c u s W _ hb hx pu hu ps hz (by omega) (by omega) hok (got_no ((gtOk_of (x := 0) rfl G).trans hok))
    · rcases Nat.lt_or_ge s.length 8 with h8 | h8
      · obtain ⟨c, rfl⟩ : ∃ c, cap = c + 9 := ⟨cap - 9, by omega⟩
        have e : (1 :: (u ++ s)).length = s.length + 9 := by simp [hu]; omega
        rw [e]
        exact refGetT_1s1 b off _ c u W _ hb hx h8 (by omega) pu hu (got_no (gtOk_bad (x := 1) (bad1a hu h8)))
      obtain ⟨v, s, rfl, hv, hsl⟩ := split8 h8
      obtain ⟨pv, ps⟩ := part ps hv
      simp only [List.length_append, hv] at hc hl
      rcases Nat.lt_or_ge s.length 8 with h8 | h8
      · obtain ⟨c, rfl⟩ : ∃ c, cap = c + 17 := ⟨cap - 17, by omega⟩
        have e : (1 :: (u ++ (v ++ s))).length = s.length + 17 := by simp [hu, hv]; omega
        rw [e]
        exact refGetT_1s2 b off _ c u v W _ hb hx h8 (by omega) pu hu pv hv (got_no (gtOk_bad (x := 1) (bad1b hu hv h8)))
      obtain ⟨z, s, rfl, hz, hsl⟩ := split8 h8
      obtain ⟨pz, ps⟩ := part ps hz
      simp only [List.length_append, hz] at hc hl
      obtain ⟨c, rfl⟩ : ∃ c, cap = c + 25 := ⟨cap - 25, by omega⟩
      have G := got1 (r := s) hu hv hz
      rcases Nat.eq_zero_or_pos s.length with h0 | h0
      · obtain rfl : s = [] := List.eq_nil_of_length_eq_zero h0
        have e : (1 :: (u ++ (v ++ (z ++ ([] : List UInt8))))).length = 25 := by simp [hu, hv, hz]
        rw [e]
        exact refGetT_1ey b off c u v z W _ hb hx pu hu pv hv pz hz rfl (got_yes (x := 1) rfl G rfl)
      · have e : (1 :: (u ++ (v ++ (z ++ s)))).length = s.length + 25 := by simp [hu, hv, hz]; omega
        rw [e]
        have hok : tkOk 1 (numW v) (numW z) s.length = false := ok_n _ _ _ rfl h0
        exact refGetT_1nf b off c u v z s W _ hb hx pu hu pv hv pz hz ps h0 (by omega) (by omega) hok (got_no ((gtOk_of (x := 1) rfl G).trans hok))
    · rcases Nat.lt_or_ge s.length 8 with h8 | h8
      · obtain ⟨c, rfl⟩ : ∃ c, cap = c + 9 := ⟨cap - 9, by omega⟩
        have e : (2 :: (u ++ s)).length = s.length + 9 := by simp [hu]; omega
        rw [e]
        exact refGetT_2s1 b off _ c u W _ hb hx h8 (by omega) pu hu (got_no (gtOk_bad (x := 2) (bad2 hu h8)))
      obtain ⟨v, s, rfl, hv, hsl⟩ := split8 h8
      obtain ⟨pv, ps⟩ := part ps hv
      simp only [List.length_append, hv] at hc hl
      obtain ⟨c, rfl⟩ : ∃ c, cap = c + 17 := ⟨cap - 17, by omega⟩
      have G := got2 (r := s) hu hv
      rcases Nat.eq_zero_or_pos s.length with h0 | h0
      · obtain rfl : s = [] := List.eq_nil_of_length_eq_zero h0
        have e : (2 :: (u ++ (v ++ ([] : List UInt8)))).length = 17 := by simp [hu, hv]
        rw [e]
        exact refGetT_2ey b off c u v W _ hb hx pu hu pv hv rfl (got_yes (x := 2) rfl G rfl)
      · have e : (2 :: (u ++ (v ++ s))).length = s.length + 17 := by simp [hu, hv]; omega
        rw [e]
        cases hok : tkOk 2 (numW v) 0 s.length with
        | true => exact refGetT_2ny b off c u v s W _ hb hx pu hu pv hv ps h0 (by omega) (by omega) hok (got_yes (x := 2) rfl G hok)
        | false => exact refGetT_2nf b off c u v s W _ hb hx pu hu pv hv ps h0 (by omega) (by omega) hok (got_no ((gtOk_of (x := 2) rfl G).trans hok))
    · rcases Nat.lt_or_ge s.length 8 with h8 | h8
      · obtain ⟨c, rfl⟩ : ∃ c, cap = c + 9 := ⟨cap - 9, by omega⟩
        have e : (3 :: (u ++ s)).length = s.length + 9 := by simp [hu]; omega
        rw [e]
        exact refGetT_3s1 b off _ c u W _ hb hx h8 (by omega) pu hu (got_no (gtOk_bad (x := 3) (bad3 hu h8)))
      obtain ⟨z, s, rfl, hz, hsl⟩ := split8 h8
      obtain ⟨pz, ps⟩ := part ps hz
      simp only [List.length_append, hz] at hc hl
      obtain ⟨c, rfl⟩ : ∃ c, cap = c + 17 := ⟨cap - 17, by omega⟩
      have G := got3 (r := s) hu hz
      rcases Nat.eq_zero_or_pos s.length with h0 | h0
      · obtain rfl : s = [] := List.eq_nil_of_length_eq_zero h0
        have e : (3 :: (u ++ (z ++ ([] : List UInt8)))).length = 17 := by simp [hu, hz]
        rw [e]
        exact refGetT_3ey b off c u z W _ hb hx pu hu pz hz rfl (got_yes (x := 3) rfl G rfl)
      · have e : (3 :: (u ++ (z ++ s))).length = s.length + 17 := by simp [hu, hz]; omega
        rw [e]
        have hok : tkOk 3 0 (numW z) s.length = false := ok_n _ _ _ rfl h0
        exact refGetT_3nf b off c u z s W _ hb hx pu hu pz hz ps h0 (by omega) (by omega) hok (got_no ((gtOk_of (x := 3) rfl G).trans hok))
end Go.Proofs.Ytonjdkankegdaaa.Token
