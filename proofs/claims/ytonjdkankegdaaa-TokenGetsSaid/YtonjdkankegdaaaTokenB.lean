
/- Layer 15 (token): what was put is got, and back: the plain law. -/
import Derived.Test.YtonjdkankegdaaaTokenH
import Derived.Test.YtonjdkankegdaaaPktC
namespace Go.Proofs.Ytonjdkankegdaaa.Token
open Go.Proofs.Ytonjdkankegdaaa.Oct Go.Proofs.Ytonjdkankegdaaa.Pkt

theorem cut8 {u s : List UInt8} (h : u.length = 8) : cutOk (u ++ s) 8 = true ∧ cutA (u ++ s) 8 = u ∧ cutB (u ++ s) 8 = s := by
  obtain ⟨h1, h2, h3⟩ := cut_yes (l := u ++ s) (k := 8) (by simp; omega)
  refine ⟨h1, h2.trans ?_, h3.trans ?_⟩
  · rw [← h]; simp
  · rw [← h]; simp
theorem cut8_no {r : List UInt8} (h : r.length < 8) : cutOk r 8 = false := (cut_no (by omega)).1
theorem n_yes {u s : List UInt8} (h : u.length = 8) : nx true true (u ++ s) = numW u ∧ no true true (u ++ s) = true ∧ nr true true (u ++ s) = s := by
  obtain ⟨h1, h2, h3⟩ := cut8 (s := s) h
  unfold nx no nr
  rw [h1, h2, h3]
  exact ⟨rfl, rfl, rfl⟩
theorem n_off (o : Bool) (l : List UInt8) : nx false o l = 0 ∧ no false o l = o ∧ nr false o l = l := ⟨rfl, rfl, rfl⟩
theorem no_false (th : Bool) (l : List UInt8) : no th false l = false := by cases th <;> rfl
theorem no_short {l : List UInt8} (h : l.length < 8) : no true true l = false := cut8_no h

/-- what is got of a head of kind k and of its numbers, one behind the other -/
theorem got0 {u r : List UInt8} (hu : u.length = 8) : oR 0 (u ++ r) = true ∧ wT 0 (u ++ r) = numW u ∧ wC 0 (u ++ r) = 0 ∧ wR 0 (u ++ r) = 0 ∧ rR 0 (u ++ r) = r := by
  obtain ⟨h1, h2, h3⟩ := n_yes (s := r) hu
  have a1 : oT 0 (u ++ r) = true := h2
  have a2 : rT 0 (u ++ r) = r := h3
  have b1 : oC 0 (u ++ r) = true := a1
  have b2 : rC 0 (u ++ r) = r := a2
  exact ⟨b1, h1, rfl, rfl, b2⟩
theorem got1 {u v z r : List UInt8} (hu : u.length = 8) (hv : v.length = 8) (hz : z.length = 8) :
    oR 1 (u ++ (v ++ (z ++ r))) = true ∧ wT 1 (u ++ (v ++ (z ++ r))) = numW u ∧ wC 1 (u ++ (v ++ (z ++ r))) = numW v ∧ wR 1 (u ++ (v ++ (z ++ r))) = numW z ∧ rR 1 (u ++ (v ++ (z ++ r))) = r := by
  obtain ⟨h1, h2, h3⟩ := n_yes (s := v ++ (z ++ r)) hu
  obtain ⟨i1, i2, i3⟩ := n_yes (s := z ++ r) hv
  obtain ⟨j1, j2, j3⟩ := n_yes (s := r) hz
  have a1 : oT 1 (u ++ (v ++ (z ++ r))) = true := h2
  have a2 : rT 1 (u ++ (v ++ (z ++ r))) = v ++ (z ++ r) := h3
  have e1 : hC 1 = true := rfl
  have e2 : hR 1 = true := rfl
  have b1 : oC 1 (u ++ (v ++ (z ++ r))) = true := by unfold oC; rw [a1, a2, e1]; exact i2
  have b2 : rC 1 (u ++ (v ++ (z ++ r))) = z ++ r := by unfold rC; rw [a1, a2, e1]; exact i3
  exact ⟨by unfold oR; rw [b1, b2, e2]; exact j2, h1, by unfold wC; rw [a1, a2, e1]; exact i1, by unfold wR; rw [b1, b2, e2]; exact j1, by unfold rR; rw [b1, b2, e2]; exact j3⟩
theorem got2 {u v r : List UInt8} (hu : u.length = 8) (hv : v.length = 8) :
    oR 2 (u ++ (v ++ r)) = true ∧ wT 2 (u ++ (v ++ r)) = numW u ∧ wC 2 (u ++ (v ++ r)) = numW v ∧ wR 2 (u ++ (v ++ r)) = 0 ∧ rR 2 (u ++ (v ++ r)) = r := by
  obtain ⟨h1, h2, h3⟩ := n_yes (s := v ++ r) hu
  obtain ⟨i1, i2, i3⟩ := n_yes (s := r) hv
  have a1 : oT 2 (u ++ (v ++ r)) = true := h2
  have a2 : rT 2 (u ++ (v ++ r)) = v ++ r := h3
  have e1 : hC 2 = true := rfl
  have b1 : oC 2 (u ++ (v ++ r)) = true := by unfold oC; rw [a1, a2, e1]; exact i2
  have b2 : rC 2 (u ++ (v ++ r)) = r := by unfold rC; rw [a1, a2, e1]; exact i3
  exact ⟨b1, h1, by unfold wC; rw [a1, a2, e1]; exact i1, rfl, b2⟩
theorem got3 {u z r : List UInt8} (hu : u.length = 8) (hz : z.length = 8) :
    oR 3 (u ++ (z ++ r)) = true ∧ wT 3 (u ++ (z ++ r)) = numW u ∧ wC 3 (u ++ (z ++ r)) = 0 ∧ wR 3 (u ++ (z ++ r)) = numW z ∧ rR 3 (u ++ (z ++ r)) = r := by
  obtain ⟨h1, h2, h3⟩ := n_yes (s := z ++ r) hu
  obtain ⟨j1, j2, j3⟩ := n_yes (s := r) hz
  have b1 : oC 3 (u ++ (z ++ r)) = true := h2
  have b2 : rC 3 (u ++ (z ++ r)) = z ++ r := h3
  have e2 : hR 3 = true := rfl
  exact ⟨by unfold oR; rw [b1, b2, e2]; exact j2, h1, rfl, by unfold wR; rw [b1, b2, e2]; exact j1, by unfold rR; rw [b1, b2, e2]; exact j3⟩

theorem oR_of_oT {k : Int} {r : List UInt8} (h : oT k r = false) : oR k r = false := by
  have h1 : oC k r = false := by unfold oC; rw [h]; exact no_false _ _
  unfold oR
  rw [h1]
  exact no_false _ _
theorem oR_of_oC {k : Int} {r : List UInt8} (h : oC k r = false) : oR k r = false := by
  unfold oR
  rw [h]
  exact no_false _ _
/-- too few bytes, or no kind -/
theorem bad_len {k : Int} {r : List UInt8} (h : r.length < 8) : oR k r = false := by
  apply oR_of_oT
  unfold oT
  cases hB k
  · rfl
  · exact no_short h
theorem bad_kind {k : Int} {r : List UInt8} (h : hB k = false) : oR k r = false := by
  apply oR_of_oT
  unfold oT
  rw [h]
  rfl
theorem bad1a {u m : List UInt8} (hu : u.length = 8) (hm : m.length < 8) : oR 1 (u ++ m) = false := by
  obtain ⟨h1, h2, h3⟩ := n_yes (s := m) hu
  have a1 : oT 1 (u ++ m) = true := h2
  have a2 : rT 1 (u ++ m) = m := h3
  apply oR_of_oC
  unfold oC
  rw [a1, a2]
  exact no_short hm
theorem bad1b {u v m : List UInt8} (hu : u.length = 8) (hv : v.length = 8) (hm : m.length < 8) : oR 1 (u ++ (v ++ m)) = false := by
  obtain ⟨h1, h2, h3⟩ := n_yes (s := v ++ m) hu
  obtain ⟨i1, i2, i3⟩ := n_yes (s := m) hv
  have a1 : oT 1 (u ++ (v ++ m)) = true := h2
  have a2 : rT 1 (u ++ (v ++ m)) = v ++ m := h3
  have e1 : hC 1 = true := rfl
  have b1 : oC 1 (u ++ (v ++ m)) = true := by unfold oC; rw [a1, a2, e1]; exact i2
  have b2 : rC 1 (u ++ (v ++ m)) = m := by unfold rC; rw [a1, a2, e1]; exact i3
  unfold oR
  rw [b1, b2]
  exact no_short hm
theorem bad2 {u m : List UInt8} (hu : u.length = 8) (hm : m.length < 8) : oR 2 (u ++ m) = false := by
  obtain ⟨h1, h2, h3⟩ := n_yes (s := m) hu
  have a1 : oT 2 (u ++ m) = true := h2
  have a2 : rT 2 (u ++ m) = m := h3
  apply oR_of_oC
  unfold oC
  rw [a1, a2]
  exact no_short hm
theorem bad3 {u m : List UInt8} (hu : u.length = 8) (hm : m.length < 8) : oR 3 (u ++ m) = false := by
  obtain ⟨h1, h2, h3⟩ := n_yes (s := m) hu
  have b1 : oC 3 (u ++ m) = true := h2
  have b2 : rC 3 (u ++ m) = m := h3
  unfold oR
  rw [b1, b2]
  exact no_short hm

theorem gtOk_of {x : UInt8} {l : List UInt8} {k t c r : Int} {d : List UInt8} (hk : (x.toNat : Int) = k) (h : oR k l = true ∧ wT k l = t ∧ wC k l = c ∧ wR k l = r ∧ rR k l = d) : gtOk (x :: l) = tkOk k c r d.length := by
  obtain ⟨h1, h2, h3, h4, h5⟩ := h
  have e : gtOk (x :: l) = (oR (x.toNat : Int) l && tkOk (x.toNat : Int) (wC (x.toNat : Int) l) (wR (x.toNat : Int) l) (rR (x.toNat : Int) l).length) := rfl
  rw [e, hk, h1, h3, h4, h5]
  rfl
theorem gtOk_bad {x : UInt8} {l : List UInt8} (h : oR (x.toNat : Int) l = false) : gtOk (x :: l) = false := by
  have e : gtOk (x :: l) = (oR (x.toNat : Int) l && tkOk (x.toNat : Int) (wC (x.toNat : Int) l) (wR (x.toNat : Int) l) (rR (x.toNat : Int) l).length) := rfl
  rw [e, h]
  rfl
theorem got_of {x : UInt8} {l : List UInt8} {k t c r : Int} {d : List UInt8} (hk : (x.toNat : Int) = k) (h : oR k l = true ∧ wT k l = t ∧ wC k l = c ∧ wR k l = r ∧ rR k l = d) (hok : tkOk k c r d.length = true) :
    gtE (x :: l) = 0 ∧ gtK (x :: l) = k ∧ gtT (x :: l) = t ∧ gtC (x :: l) = c ∧ gtR (x :: l) = r ∧ gtD (x :: l) = d := by
  have e := (gtOk_of hk h).trans hok
  obtain ⟨h1, h2, h3, h4, h5⟩ := h
  unfold gtE gtK gtT gtC gtR gtD
  rw [e]
  simp only [if_true]
  refine ⟨trivial, hk, ?_, ?_, ?_, ?_⟩
  · show wT (x.toNat : Int) l = t; rw [hk]; exact h2
  · show wC (x.toNat : Int) l = c; rw [hk]; exact h3
  · show wR (x.toNat : Int) l = r; rw [hk]; exact h4
  · show rR (x.toNat : Int) l = d; rw [hk]; exact h5

theorem put8_bk (n : Int) (h0 : 0 ≤ n) (h1 : n ≤ 18446744073709551615) : numW (putW n 8) = n :=
  (numW_of_put n h0 8 (by omega) (by omega)).1.trans (Int.emod_eq_of_lt h0 (by simp; omega))

theorem tk_kind {k c r : Int} {n : Nat} (h : tkOk k c r n = true) : k = 0 ∨ k = 1 ∨ k = 2 ∨ k = 3 := by
  unfold tkOk at h
  simp only [Bool.and_eq_true] at h
  have := of_decide_eq_true h.1
  omega
theorem tk_c {k c r : Int} {n : Nat} (h : tkOk k c r n = true) (hk : hC k = false) : c = 0 := by
  unfold tkOk at h
  rw [hk] at h
  simp only [Bool.and_eq_true, Bool.false_or, beq_iff_eq] at h
  exact h.2.1
theorem tk_r {k c r : Int} {n : Nat} (h : tkOk k c r n = true) (hk : hR k = false) : r = 0 := by
  unfold tkOk at h
  rw [hk] at h
  simp only [Bool.and_eq_true, Bool.false_or, beq_iff_eq] at h
  exact h.2.2.1

theorem put_got (k t c r : Int) (l : List UInt8) (ht : 0 ≤ t ∧ t ≤ 18446744073709551615) (hc : 0 ≤ c ∧ c ≤ 18446744073709551615) (hr : 0 ≤ r ∧ r ≤ 18446744073709551615) (h : tkErr k c r l.length = 0) :
    gtE (tkPut k t c r l) = 0 ∧ gtK (tkPut k t c r l) = k ∧ gtT (tkPut k t c r l) = t ∧ gtC (tkPut k t c r l) = c ∧ gtR (tkPut k t c r l) = r ∧ gtD (tkPut k t c r l) = l := by
  have hok : tkOk k c r l.length = true := by
    unfold tkErr at h
    cases hh : tkOk k c r l.length
    · rw [hh] at h; simp at h
    · rfl
  unfold tkPut
  rw [if_pos hok]
  have T := put8_bk t ht.1 ht.2
  have C := put8_bk c hc.1 hc.2
  have R := put8_bk r hr.1 hr.2
  have lt := put8_length t
  have lc := put8_length c
  have lr := put8_length r
  rcases tk_kind hok with rfl | rfl | rfl | rfl
  · have e1 := tk_c hok rfl
    have e2 := tk_r hok rfl
    subst e1 e2
    have e : tkHead 0 t 0 0 ++ l = 0 :: (putW t 8 ++ l) := by show 0 :: (putW t 8 ++ ([] ++ [])) ++ l = _; simp
    rw [e]
    refine got_of rfl ?_ hok
    have := got0 (r := l) lt
    rw [T] at this
    exact this
  · have e : tkHead 1 t c r ++ l = 1 :: (putW t 8 ++ (putW c 8 ++ (putW r 8 ++ l))) := by show 1 :: (putW t 8 ++ (putW c 8 ++ putW r 8)) ++ l = _; simp
    rw [e]
    refine got_of rfl ?_ hok
    have := got1 (r := l) lt lc lr
    rw [T, C, R] at this
    exact this
  · have e2 := tk_r hok rfl
    subst e2
    have e : tkHead 2 t c 0 ++ l = 2 :: (putW t 8 ++ (putW c 8 ++ l)) := by show 2 :: (putW t 8 ++ (putW c 8 ++ [])) ++ l = _; simp
    rw [e]
    refine got_of rfl ?_ hok
    have := got2 (r := l) lt lc
    rw [T, C] at this
    exact this
  · have e1 := tk_c hok rfl
    subst e1
    have e : tkHead 3 t 0 r ++ l = 3 :: (putW t 8 ++ (putW r 8 ++ l)) := by show 3 :: (putW t 8 ++ ([] ++ putW r 8)) ++ l = _; simp
    rw [e]
    refine got_of rfl ?_ hok
    have := got3 (r := l) lt lr
    rw [T, R] at this
    exact this

/-- bytes of a head and 8 more: the 8, and the rest -/
theorem split8 {r : List UInt8} (h : 8 ≤ r.length) : ∃ u s, r = u ++ s ∧ u.length = 8 ∧ s.length = r.length - 8 :=
  ⟨r.take 8, r.drop 8, (List.take_append_drop 8 r).symm, by simp; omega, by simp⟩

theorem back8 {u : List UInt8} (h : u.length = 8) : putW (numW u) 8 = u := putW_of_num u 8 h (by omega) (by omega)

theorem got_put (b : List UInt8) (h : gtE b = 0) :
    tkErr (gtK b) (gtC b) (gtR b) (gtD b).length = 0 ∧ tkPut (gtK b) (gtT b) (gtC b) (gtR b) (gtD b) = b := by
  have hg : gtOk b = true := by
    unfold gtE at h
    cases hh : gtOk b
    · rw [hh] at h; simp at h
    · rfl
  match b, hg with
  | x :: l, hg =>
    have hb4 : hB (x.toNat : Int) = true := by
      cases hb : hB (x.toNat : Int)
      · rw [gtOk_bad (bad_kind hb)] at hg; cases hg
      · rfl
    have hx : x.toNat < 4 := by have := of_decide_eq_true (show decide (0 ≤ (x.toNat : Int) ∧ (x.toNat : Int) < 4) = true from hb4); omega
    have h8 : 8 ≤ l.length := by
      rcases Nat.lt_or_ge l.length 8 with hl | hl
      · rw [gtOk_bad (bad_len hl)] at hg; cases hg
      · exact hl
    obtain ⟨u, s, rfl, hu, _⟩ := split8 h8
    have hx4 : x = 0 ∨ x = 1 ∨ x = 2 ∨ x = 3 := by
      have : x.toNat = 0 ∨ x.toNat = 1 ∨ x.toNat = 2 ∨ x.toNat = 3 := by omega
      rcases this with e | e | e | e
      · exact .inl (UInt8.toNat_inj.1 e)
      · exact .inr (.inl (UInt8.toNat_inj.1 e))
      · exact .inr (.inr (.inl (UInt8.toNat_inj.1 e)))
      · exact .inr (.inr (.inr (UInt8.toNat_inj.1 e)))
    clear hb4 hx h8
    rcases hx4 with rfl | rfl | rfl | rfl
    · have G := got0 (r := s) hu
      have hok := (gtOk_of (x := 0) (k := 0) rfl G).symm.trans hg
      obtain ⟨_, g1, g2, g3, g4, g5⟩ := got_of (x := 0) (k := 0) rfl G hok
      rw [g1, g2, g3, g4, g5]
      refine ⟨by unfold tkErr; rw [if_pos hok], ?_⟩
      unfold tkPut
      rw [if_pos hok]
      show 0 :: (putW (numW u) 8 ++ ([] ++ [])) ++ s = _
      rw [back8 hu]
      simp
    · have h16 : 8 ≤ s.length := by
        rcases Nat.lt_or_ge s.length 8 with hl | hl
        · rw [gtOk_bad (x := 1) (bad1a hu hl)] at hg; cases hg
        · exact hl
      obtain ⟨v, s, rfl, hv, _⟩ := split8 h16
      have h24 : 8 ≤ s.length := by
        rcases Nat.lt_or_ge s.length 8 with hl | hl
        · rw [gtOk_bad (x := 1) (bad1b hu hv hl)] at hg; cases hg
        · exact hl
      obtain ⟨z, s, rfl, hz, _⟩ := split8 h24
      have G := got1 (r := s) hu hv hz
      have hok := (gtOk_of (x := 1) (k := 1) rfl G).symm.trans hg
      obtain ⟨_, g1, g2, g3, g4, g5⟩ := got_of (x := 1) (k := 1) rfl G hok
      rw [g1, g2, g3, g4, g5]
      refine ⟨by unfold tkErr; rw [if_pos hok], ?_⟩
      unfold tkPut
      rw [if_pos hok]
      show 1 :: (putW (numW u) 8 ++ (putW (numW v) 8 ++ putW (numW z) 8)) ++ s = _
      rw [back8 hu, back8 hv, back8 hz]
      simp
    · have h16 : 8 ≤ s.length := by
        rcases Nat.lt_or_ge s.length 8 with hl | hl
        · rw [gtOk_bad (x := 2) (bad2 hu hl)] at hg; cases hg
        · exact hl
      obtain ⟨v, s, rfl, hv, _⟩ := split8 h16
      have G := got2 (r := s) hu hv
      have hok := (gtOk_of (x := 2) (k := 2) rfl G).symm.trans hg
      obtain ⟨_, g1, g2, g3, g4, g5⟩ := got_of (x := 2) (k := 2) rfl G hok
      rw [g1, g2, g3, g4, g5]
      refine ⟨by unfold tkErr; rw [if_pos hok], ?_⟩
      unfold tkPut
      rw [if_pos hok]
      show 2 :: (putW (numW u) 8 ++ (putW (numW v) 8 ++ [])) ++ s = _
      rw [back8 hu, back8 hv]
      simp
    · have h16 : 8 ≤ s.length := by
        rcases Nat.lt_or_ge s.length 8 with hl | hl
        · rw [gtOk_bad (x := 3) (bad3 hu hl)] at hg; cases hg
        · exact hl
      obtain ⟨z, s, rfl, hz, _⟩ := split8 h16
      have G := got3 (r := s) hu hz
      have hok := (gtOk_of (x := 3) (k := 3) rfl G).symm.trans hg
      obtain ⟨_, g1, g2, g3, g4, g5⟩ := got_of (x := 3) (k := 3) rfl G hok
      rw [g1, g2, g3, g4, g5]
      refine ⟨by unfold tkErr; rw [if_pos hok], ?_⟩
      unfold tkPut
      rw [if_pos hok]
      show 3 :: (putW (numW u) 8 ++ ([] ++ putW (numW z) 8)) ++ s = _
      rw [back8 hu, back8 hz]
      simp
end Go.Proofs.Ytonjdkankegdaaa.Token
