
/- Frames as lists of bytes: what was wrapped is opened, and back; what is spoilt within four bytes is no frame. No program in sight. -/
import Derived.Test.YtogijioehdaefaaFrmM
namespace Go.Proofs.Ytogijioehdaefaa.FrmM
open Go.Proofs.Ytogijioehdaefaa.Mem Go.Proofs.Ytogijioehdaefaa.CrcM Go.Proofs.Ytogijioehdaefaa.StuffL

theorem good_put (b : List UInt8) (h : b.length ≤ 96) : good (cput b) = true := by
  unfold good
  obtain ⟨h1, h2⟩ := cok_put b
  rw [h1, h2]
  simpa using h
theorem bodyF_put (b : List UInt8) (h : b.length ≤ 96) : bodyF (put (cput b)) = some b := by
  rw [bodyF_yes (get_put _) (good_put b h), (cok_put b).2]
theorem nth8_last (c : UInt8) (l : List UInt8) (d : UInt8) : nth8 (c :: (l ++ [d])) ((c :: (l ++ [d])).length - 1) = d := by
  unfold nth8
  simp
theorem flags_wrap (c d : UInt8) (l : List UInt8) : flags (c :: (l ++ [d])) = (c == 126 && d == 126) := by
  unfold flags
  rw [nth8_last]
  simp [nth8]
theorem mid_wrap (c d : UInt8) (l : List UInt8) : ((c :: (l ++ [d])).take ((c :: (l ++ [d])).length - 1)).drop 1 = l := by
  simp
theorem openF_shape (c d : UInt8) (l : List UInt8) : openF (c :: (l ++ [d])) = if (c == 126 && d == 126) = true then bodyF l else none := by
  unfold openF
  rw [flags_wrap, mid_wrap]
theorem open_wrap (b : List UInt8) (h : b.length ≤ 96) : openF (wrapF b) = some b := by
  unfold wrapF
  rw [openF_shape]
  exact bodyF_put b h
/-- a frame's shape, taken apart -/
theorem flags_split {w : List UInt8} (h : flags w = true) : ∃ s, w = 126 :: (s ++ [126]) := by
  unfold flags at h
  simp only [Bool.and_eq_true, decide_eq_true_eq, beq_iff_eq] at h
  obtain ⟨h2, h0, h1⟩ := h
  match w, h2 with
  | c :: r, h2 =>
    have hr : r ≠ [] := by rintro rfl; simp at h2
    refine ⟨r.dropLast, ?_⟩
    have hc : c = 126 := by simpa [nth8] using h0
    have hl := List.dropLast_concat_getLast hr
    have hd : r.getLast hr = 126 := by
      rw [← h1]
      unfold nth8
      rw [List.getLast_eq_getElem]
      have : r.length ≠ 0 := by intro e; exact hr (List.eq_nil_of_length_eq_zero e)
      simp only [List.length_cons, Nat.add_sub_cancel]
      obtain ⟨k, hk⟩ : ∃ k, r.length = k + 1 := ⟨r.length - 1, by omega⟩
      simp [List.getD, hk]
    rw [hd] at hl
    rw [hl, hc]
theorem cok_body {x : List UInt8} (h : cok x = true) : cput (cbody x) = x := by
  have h0 := h
  unfold cok at h
  simp only [Bool.and_eq_true, decide_eq_true_eq, beq_iff_eq] at h
  unfold cbody
  rw [if_pos h0]
  unfold cput
  rw [← h.2, List.take_append_drop]
theorem body_wrap {s b : List UInt8} (h : bodyF s = some b) : put (cput b) = s ∧ b.length ≤ 96 := by
  unfold bodyF at h
  split at h
  · cases h
  · rename_i x hx
    split at h
    · rename_i hg
      injection h with h
      subst h
      simp only [good, Bool.and_eq_true, decide_eq_true_eq] at hg
      rw [cok_body hg.1]
      exact ⟨put_get s x hx, hg.2⟩
    · cases h
theorem wrap_open {w b : List UInt8} (h : openF w = some b) : wrapF b = w ∧ b.length ≤ 96 := by
  unfold openF at h
  split at h
  · rename_i hf
    obtain ⟨s, rfl⟩ := flags_split hf
    rw [mid_wrap] at h
    obtain ⟨h1, h2⟩ := body_wrap h
    refine ⟨?_, h2⟩
    unfold wrapF
    rw [h1]
  · cases h

/-- one byte's part in getting back -/
def uout (b : Bool) (c : UInt8) : Option (List UInt8 × Bool) := ustep (some ([], b)) c
theorem ustep_acc (o : List UInt8) (b : Bool) (c : UInt8) : ustep (some (o, b)) c = (uout b c).map fun r => (o ++ r.1, r.2) := by
  unfold uout
  cases b <;> simp only [ustep] <;> (split <;> try rfl) <;> (split <;> simp)
theorem go_acc : ∀ (l o : List UInt8) (b : Bool), go (some (o, b)) l = (go (some ([], b)) l).map fun r => (o ++ r.1, r.2) := by
  intro l
  induction l with
  | nil => intro o b; simp [go]
  | cons c l ih =>
    intro o b
    show go (ustep (some (o, b)) c) l = (go (ustep (some ([], b)) c) l).map _
    rw [ustep_acc o b c, ustep_acc [] b c]
    cases h : uout b c with
    | none => simp [go_none]
    | some r =>
      simp only [Option.map_some, List.nil_append]
      rw [ih (o ++ r.1) r.2, ih r.1 r.2, Option.map_map]
      congr 1
      funext x
      simp
/-- where the escapes stand -/
def pat (l : List UInt8) : List Bool := l.map (· == 125)
theorem uout_lock {b e e' : Bool} {c c' : UInt8} {r r' : List UInt8} (hp : (c == 125) = (c' == 125)) (h : uout b c = some (r, e)) (h' : uout b c' = some (r', e')) : r.length = r'.length ∧ e = e' := by
  unfold uout at h h'
  cases b
  · simp only [ustep] at h h'
    by_cases h1 : c = 126
    · rw [if_pos h1] at h; cases h
    by_cases h2 : c' = 126
    · rw [if_pos h2] at h'; cases h'
    rw [if_neg h1] at h
    rw [if_neg h2] at h'
    by_cases h3 : c = 125
    · have h4 : c' = 125 := by simpa [h3] using hp.symm
      rw [if_pos h3] at h
      rw [if_pos h4] at h'
      simp at h h'
      obtain ⟨rfl, rfl⟩ := h
      obtain ⟨rfl, rfl⟩ := h'
      exact ⟨rfl, rfl⟩
    · have h4 : c' ≠ 125 := by intro e; rw [e] at hp; simp at hp; exact h3 hp
      rw [if_neg h3] at h
      rw [if_neg h4] at h'
      simp at h h'
      obtain ⟨rfl, rfl⟩ := h
      obtain ⟨rfl, rfl⟩ := h'
      exact ⟨rfl, rfl⟩
  · simp only [ustep] at h h'
    by_cases h1 : c = 126
    · rw [if_pos h1] at h; cases h
    by_cases h2 : c' = 126
    · rw [if_pos h2] at h'; cases h'
    rw [if_neg h1] at h
    rw [if_neg h2] at h'
    split at h
    · split at h'
      · simp at h h'
        obtain ⟨rfl, rfl⟩ := h
        obtain ⟨rfl, rfl⟩ := h'
        exact ⟨rfl, rfl⟩
      · cases h'
    · cases h
theorem go_lock : ∀ (c c' : List UInt8) (b e e' : Bool) (r r' : List UInt8), pat c = pat c' → go (some ([], b)) c = some (r, e) → go (some ([], b)) c' = some (r', e') → r.length = r'.length ∧ e = e' := by
  intro c
  induction c with
  | nil =>
    intro c' b e e' r r' hp h h'
    cases c' with
    | nil =>
      simp only [go, List.foldl_nil, Option.some.injEq, Prod.mk.injEq] at h h'
      rw [← h.1, ← h'.1, ← h.2, ← h'.2]
      exact ⟨rfl, rfl⟩
    | cons a c' => simp [pat] at hp
  | cons a c ih =>
    intro c' b e e' r r' hp h h'
    cases c' with
    | nil => simp [pat] at hp
    | cons a' c' =>
      simp only [pat, List.map_cons, List.cons.injEq] at hp
      change go (uout b a) c = _ at h
      change go (uout b a') c' = _ at h'
      cases hu : uout b a with
      | none => rw [hu, go_none] at h; cases h
      | some z =>
        cases hu' : uout b a' with
        | none => rw [hu', go_none] at h'; cases h'
        | some z' =>
          obtain ⟨z, b1⟩ := z
          obtain ⟨z', b1'⟩ := z'
          obtain ⟨hz, rfl⟩ := uout_lock hp.1 hu hu'
          rw [hu, go_acc] at h
          rw [hu', go_acc] at h'
          cases hg : go (some ([], b1)) c with
          | none => rw [hg] at h; cases h
          | some x =>
            cases hg' : go (some ([], b1)) c' with
            | none => rw [hg'] at h'; cases h'
            | some x' =>
              obtain ⟨x, f⟩ := x
              obtain ⟨x', f'⟩ := x'
              obtain ⟨h1, rfl⟩ := ih c' b1 f f' x x' hp.2 hg hg'
              rw [hg] at h
              rw [hg'] at h'
              simp only [Option.map_some, Option.some.injEq, Prod.mk.injEq] at h h'
              rw [← h.1, ← h'.1, ← h.2, ← h'.2]
              exact ⟨by simp [hz, h1], rfl⟩
theorem unput_some {l y : List UInt8} : unput l = some y ↔ go (some ([], false)) l = some (y, false) := by
  unfold unput fin
  constructor
  · intro h
    split at h
    · rename_i o heq
      injection h with h
      subst h
      exact heq
    · cases h
  · intro h
    rw [h]
/-- what is turned within some bytes of the wire, where the escapes stay, is turned within as few bytes -/
theorem turned_unput {a c c' t y x : List UInt8} (hp : pat c = pat c') (h : unput (a ++ c ++ t) = some y) (h' : unput (a ++ c' ++ t) = some x) :
    ∃ o yc xc u, y = o ++ yc ++ u ∧ x = o ++ xc ++ u ∧ yc.length = xc.length ∧ yc.length ≤ c.length := by
  rw [unput_some, go_append, go_append] at h h'
  cases ha : go (some ([], false)) a with
  | none => rw [ha, go_none, go_none] at h; cases h
  | some z =>
    obtain ⟨o, b⟩ := z
    rw [ha, go_acc] at h h'
    cases hc : go (some ([], b)) c with
    | none => rw [hc] at h; simp only [Option.map_none, go_none] at h; cases h
    | some z =>
      obtain ⟨yc, e⟩ := z
      cases hc' : go (some ([], b)) c' with
      | none => rw [hc'] at h'; simp only [Option.map_none, go_none] at h'; cases h'
      | some z' =>
        obtain ⟨xc, e'⟩ := z'
        obtain ⟨hl, rfl⟩ := go_lock c c' b e e' yc xc hp hc hc'
        rw [hc] at h
        rw [hc'] at h'
        simp only [Option.map_some] at h h'
        rw [go_acc] at h h'
        cases ht : go (some ([], e)) t with
        | none => rw [ht] at h; cases h
        | some z =>
          obtain ⟨u, f⟩ := z
          rw [ht] at h h'
          simp only [Option.map_some, Option.some.injEq, Prod.mk.injEq] at h h'
          refine ⟨o, yc, xc, u, h.1.symm, h'.1.symm, hl, ?_⟩
          have := go_length c [] yc b e hc
          simpa using this

theorem feed_zeros : ∀ n, feed 0 (List.replicate n 0) = 0 := by
  intro n
  induction n with
  | zero => rfl
  | succ n ih =>
    rw [List.replicate_succ]
    exact (show feed (feed1 0 0) (List.replicate n 0) = 0 by rw [show feed1 0 0 = 0 from steps_zero 8, ih])
/-- up to four bytes that come to nothing are nothing -/
theorem feed_zero (m : List UInt8) (hm : m.length ≤ 4) (h : feed 0 m = 0) : m = List.replicate m.length 0 := by
  have h4 : feed 0 (m ++ List.replicate (4 - m.length) 0) = 0 := by rw [feed_append, h, feed_zeros]
  have hl : (m ++ List.replicate (4 - m.length) (0 : UInt8)).length = 4 := by simp; omega
  have hr : m = (m ++ List.replicate (4 - m.length) (0 : UInt8)).take m.length := by simp
  generalize m ++ List.replicate (4 - m.length) (0 : UInt8) = q at h4 hl hr
  match q, hl with
  | [a, b, c, d], _ =>
    have ha := a.toNat_lt; have hb := b.toNat_lt; have hc := c.toNat_lt; have hd := d.toNat_lt
    have e : le4 (a.toNat + 256 * b.toNat + 65536 * c.toNat + 16777216 * d.toNat) = [a, b, c, d] := by
      unfold le4
      have k0 : (a.toNat + 256 * b.toNat + 65536 * c.toNat + 16777216 * d.toNat) % 256 = a.toNat := by omega
      have k1 : (a.toNat + 256 * b.toNat + 65536 * c.toNat + 16777216 * d.toNat) / 256 % 256 = b.toNat := by omega
      have k2 : (a.toNat + 256 * b.toNat + 65536 * c.toNat + 16777216 * d.toNat) / 65536 % 256 = c.toNat := by omega
      have k3 : (a.toNat + 256 * b.toNat + 65536 * c.toNat + 16777216 * d.toNat) / 16777216 % 256 = d.toNat := by omega
      have u : ∀ (n : Nat) (z : UInt8), n % 256 = z.toNat → UInt8.ofNat n = z := fun n z h => by
        rw [← UInt8.toNat_inj]
        simpa using h
      rw [u _ a k0, u _ b k1, u _ c k2, u _ d k3]
    have hs : a.toNat + 256 * b.toNat + 65536 * c.toNat + 16777216 * d.toNat < 4294967296 := by omega
    rw [← e, feed_le4 _ _ hs, Nat.zero_xor] at h4
    have hz := steps_eq_zero 32 hs h4
    have z : ∀ z : UInt8, z.toNat = 0 → z = 0 := fun z h => by rw [← UInt8.toNat_inj]; simpa using h
    rw [z a (by omega), z b (by omega), z c (by omega), z d (by omega)] at hr
    have hr2 : m = (List.replicate 4 (0 : UInt8)).take m.length := hr
    rw [List.take_replicate, show min m.length 4 = m.length by omega] at hr2
    exact hr2
/-- bytes that are other ones within four are told -/
theorem told {o yc xc u : List UInt8} (hl : yc.length = xc.length) (h4 : yc.length ≤ 4) (hne : o ++ yc ++ u ≠ o ++ xc ++ u) (hok : cok (o ++ yc ++ u) = true) : cok (o ++ xc ++ u) = false := by
  rw [← Bool.not_eq_true]
  intro hok'
  have e1 := feed_ok hok
  have e2 := feed_ok hok'
  rw [feed_append, feed_append] at e1 e2
  have hz : xc = List.zipWith (· ^^^ ·) yc (List.zipWith (· ^^^ ·) yc xc) := by
    clear hne hok hok' e1 e2 h4
    induction yc generalizing xc with
    | nil => cases xc with | nil => rfl | cons => simp at hl
    | cons a yc ih =>
      cases xc with
      | nil => simp at hl
      | cons b xc =>
        simp only [List.zipWith_cons_cons]
        rw [← ih (by simpa using hl), ← UInt8.xor_assoc, UInt8.xor_self, UInt8.zero_xor]
  have hml : (List.zipWith (· ^^^ ·) yc xc).length = yc.length := by rw [List.length_zipWith]; omega
  have e3 := feed_zip yc (List.zipWith (· ^^^ ·) yc xc) (feed ones o) 0 hml.symm
  rw [Nat.xor_zero, ← hz] at e3
  rw [e3, feed_diff, e1] at e2
  have e4 : steps (8 * u.length) (feed 0 (List.zipWith (· ^^^ ·) yc xc)) = 0 := by
    have := congrArg (steps 32 ones ^^^ ·) e2
    simp only [← Nat.xor_assoc, Nat.xor_self, Nat.zero_xor] at this
    exact this
  have e5 := steps_eq_zero _ (feed_lt _ (by decide)) e4
  have e6 := feed_zero _ (by omega) e5
  apply hne
  rw [e6, hml] at hz
  have : List.zipWith (· ^^^ ·) yc (List.replicate yc.length (0 : UInt8)) = yc := by
    clear hz e6 e5 e4 e3 hml e2 e1 hok' hok hne h4 hl
    induction yc with
    | nil => rfl
    | cons a yc ih => rw [List.length_cons, List.replicate_succ, List.zipWith_cons_cons, ih, UInt8.xor_zero]
  rw [this] at hz
  rw [hz]

/-- a frame's inside, turned within four bytes, where the escapes stay, is none -/
theorem body_turned {b a c c' t : List UInt8} (hs : put (cput b) = a ++ c ++ t) (hp : pat c = pat c') (h4 : c.length ≤ 4) (hne : c ≠ c') : bodyF (a ++ c' ++ t) = none := by
  cases hu : unput (a ++ c' ++ t) with
  | none => exact bodyF_none hu
  | some x =>
    have hy : unput (a ++ c ++ t) = some (cput b) := by rw [← hs]; exact get_put _
    obtain ⟨o, yc, xc, u, h1, h2, hl, hle⟩ := turned_unput hp hy hu
    apply bodyF_no hu
    have hx : o ++ yc ++ u ≠ o ++ xc ++ u := by
      rw [← h1, ← h2]
      intro e
      have := put_get _ _ hu
      rw [← e, hs] at this
      apply hne
      have := List.append_cancel_left (List.append_cancel_right this)
      exact this
    have := told hl (Nat.le_trans hle h4) hx (by rw [← h1]; exact (cok_put b).1)
    unfold good
    rw [h2, this]
    rfl

/-- FrameTurned's law -/
theorem turned (b : List UInt8) (i : Nat) (d : UInt8) (hi : i < (wrapF b).length) (hne : d ≠ nth8 (wrapF b) i) (he : nth8 (wrapF b) i ≠ 125) (hd : d ≠ 125) : openF ((wrapF b).set i d) = none := by
  unfold wrapF at hi hne he ⊢
  generalize hs : put (cput b) = s at hi hne he ⊢
  cases i with
  | zero =>
    rw [List.set_cons_zero, openF_shape]
    have : (d == 126) = false := by
      rw [beq_eq_false_iff_ne]
      simpa [nth8] using hne
    rw [this]
    rfl
  | succ i =>
    rw [List.set_cons_succ]
    by_cases hil : i < s.length
    · rw [List.set_append_left _ _ hil, openF_shape]
      have hn : nth8 (126 :: (s ++ [126])) (i + 1) = nth8 s i := by
        unfold nth8
        simp [List.getD, List.getElem?_append, hil]
      rw [hn] at hne he
      have h1 : s = s.take i ++ [nth8 s i] ++ s.drop (i + 1) := by
        rw [← take_snoc s i hil, List.take_append_drop]
      have h2 : s.set i d = s.take i ++ [d] ++ s.drop (i + 1) := by
        rw [List.set_eq_take_append_cons_drop, if_pos hil]
        simp
      rw [h2]
      have h3 := body_turned (b := b) (c' := [d]) (hs.trans h1) (by simp only [pat, List.map_cons, List.map_nil]; rw [beq_eq_false_iff_ne.2 he, beq_eq_false_iff_ne.2 hd]) (by simp) (by simpa using hne.symm)
      rw [h3]
      rfl
    · have hi2 : i = s.length := by simp at hi; omega
      subst hi2
      rw [List.set_append_right _ _ (Nat.le_refl _), Nat.sub_self]
      simp only [List.set_cons_zero]
      rw [openF_shape]
      have : (d == 126) = false := by
        rw [beq_eq_false_iff_ne]
        intro e
        apply hne
        unfold nth8
        simp [e]
      rw [this]
      rfl
end Go.Proofs.Ytogijioehdaefaa.FrmM
