/- Layer 1 (octet): what Unhex and its reference compute. -/
import Derived.Test.YtknpengboappiaaOctF
namespace Go.Proofs.Ytknpengboappiaa.Oct
open Go.RowKit Go.Proofs.Ytknpengboappiaa.Mem

/-- a byte of two digits -/
def two (a b : UInt8) : UInt8 := UInt8.ofNat (16 * hval a.toNat + hval b.toNat).toNat
def good (a : UInt8) : Bool := hvB a.toNat
/-- digits as bytes -/
def unh : List UInt8 → Option (List UInt8)
  | [] => some []
  | [_] => none
  | a :: b :: r => if good a && good b then (unh r).map (two a b :: ·) else none

theorem unh_odd (t : List UInt8) : t.length % 2 = 1 → unh t = none := by
  have key : ∀ n, ∀ t : List UInt8, t.length = n → n % 2 = 1 → unh t = none := by
    intro n
    induction n using Nat.strongRecOn with
    | ind n ih =>
      intro t ht hn
      match t, ht with
      | [], ht => simp at ht; omega
      | [_], _ => rfl
      | a :: b :: r, ht =>
        simp only [List.length_cons] at ht
        have := ih (n - 2) (by omega) r (by omega) (by omega)
        simp only [unh]
        rw [this]
        split <;> rfl
  exact key _ t rfl

/-- acc has been told, of t what lies behind k is left -/
def Left (t acc : List UInt8) (k : Nat) : Prop := unh t = (unh (t.drop k)).map (acc ++ ·)
theorem Left.start (t : List UInt8) : Left t [] 0 := by unfold Left; simp
theorem Left.ends {t acc : List UInt8} (h : Left t acc t.length) : unh t = some acc := by
  unfold Left at h
  rw [List.drop_length] at h
  rw [h]
  simp [unh]
theorem drop_two (t : List UInt8) (k : Nat) (h : k + 1 < t.length) : t.drop k = nth8 t k :: nth8 t (k + 1) :: t.drop (k + 2) := by
  rw [drop_nth t k (by omega), drop_nth t (k + 1) h]
theorem Left.bad {t acc : List UInt8} {k : Nat} (h : Left t acc k) (hk : k + 1 < t.length) (hb : (good (nth8 t k) && good (nth8 t (k + 1))) = false) : unh t = none := by
  unfold Left at h
  rw [h, drop_two t k hk, unh, hb]
  rfl
theorem Left.step {t acc : List UInt8} {k : Nat} (h : Left t acc k) (hk : k + 1 < t.length) (hb : (good (nth8 t k) && good (nth8 t (k + 1))) = true) : Left t (acc ++ [two (nth8 t k) (nth8 t (k + 1))]) (k + 2) := by
  unfold Left at h ⊢
  rw [h, drop_two t k hk, unh, hb, if_pos rfl, Option.map_map]
  congr 1
  funext x
  simp

theorem hv_range (n : Int) : 0 ≤ hvV n ∧ hvV n ≤ 15 := by
  unfold hvV hval
  repeat' split
  all_goals omega
theorem hv_good {n : Int} (h : hvB n = true) : hvV n = hval n := by
  unfold hvB at h
  simp only [decide_eq_true_eq] at h
  unfold hvV
  rw [if_neg (by omega)]
theorem two_val {a b : UInt8} (ha : good a = true) (hb : good b = true) : ((two a b).toNat : Int) = 16 * hvV a.toNat + hvV b.toNat := by
  have r1 := hv_range a.toNat
  have r2 := hv_range b.toNat
  unfold two
  rw [← hv_good ha, ← hv_good hb]
  generalize hvV a.toNat = x at *
  generalize hvV b.toNat = y at *
  simp
  omega
theorem or_nib (p q : Int) (h0 : 0 ≤ p) (h1 : p ≤ 15) (h2 : 0 ≤ q) (h3 : q ≤ 15) : bits .or .u8 (p * 16) q = p * 16 + q :=
  bits_join .u8 8 (by decide) (fun n a b => by rw [IntKind.wrap_u8]; exact Int.emod_eq_of_lt a b) 4 (p * 16) q (by omega) (by omega) (by omega) h2 (by omega) (by omega)

/-- bytes of the call's own and true, or nil and false -/
def GivesO (w : World) (r : Option (List UInt8)) (e : Ending) (w' : World) : Prop :=
  ∃ v, e = .returned (.tuple #[v, .bool r.isSome]) ∧ Own 5 w' w.heap.size v (r.getD []) ∧ Below w.heap.size w w'
theorem gives_none {w w' : World} {r : Option (List UInt8)} (h : r = none) (hb : Below w.heap.size w w') : GivesO w r (.returned (.tuple #[.slice none 0 0, .bool false])) w' := by
  subst h
  exact ⟨_, rfl, Own.nil _ _ _, hb⟩
theorem gives_some {w w' : World} {r : Option (List UInt8)} {o : List UInt8} {v : Value} (h : r = some o) (ho : Own 5 w' w.heap.size v o) (hb : Below w.heap.size w w') : GivesO w r (.returned (.tuple #[v, .bool true])) w' := by
  subst h
  exact ⟨_, rfl, ho, hb⟩

theorem str_at {s : ByteArray} {t : List UInt8} (hs : s = ⟨t.toArray⟩) (k : Nat) (h : k < s.size) : ((s[k]'h).toNat : Int) = byteAt t k := by
  subst hs
  have h' : k < t.length := by simpa [ByteArray.size] using h
  unfold byteAt
  simp [List.getD, h']
  rfl
theorem str_size {s : ByteArray} {t : List UInt8} (hs : s = ⟨t.toArray⟩) : s.size = t.length := by subst hs; exact List.size_toArray

set_option maxHeartbeats 1000000 in
theorem Unhex_any (t : List UInt8) (W : World) (hl : t.length ≤ 281474976710656) :
    Calls Try.prog 35 #[.string ⟨t.toArray⟩] W (GivesO W (unh t)) := by
  obtain ⟨s, hs⟩ : ∃ s : ByteArray, s = ⟨t.toArray⟩ := ⟨_, rfl⟩
  rw [← hs]
  have hsz := str_size hs
  have HS := Lib.hid hs
  clear hs
  by_cases hodd : t.length % 2 = 1
  · have HN := Lib.hid (unh_odd t hodd)
    have h1 : ((s.size : Int) % 2 != 0) = true := by rw [bne_iff_ne]; omega
    clear hsz
    go_enter Try.func35, Try.ntmps35
    go_wp2_with fail
    go_ret2
    exact gives_none HN.out (Below.refl _ _)
  · have h1 : ((s.size : Int) % 2 != 0) = false := by
      rw [bne_eq_false_iff_eq]; omega
    obtain ⟨i0, hi, hz0, hz1, hz2⟩ := info_parts infoU8
    have hsl : s.size ≤ 281474976710656 := by omega
    have HZ := Lib.hid hsz
    clear hsz hl
    go_enter Try.func35, Try.ntmps35
    go_wp2_with (at_make; refine wpList_make_own _ rfl _ _ 22 rfl W.heap.size 5 i0 (.int .u8 0) 1 Try.underlying22 hi hz0 hz1 _ _ _ (s.size / 2) rfl rfl (by omega) (by rw [hz2]; omega) (by unfold maxLen; omega) (Nat.le_refl _) ?_)
    intro w1 hown hgrow
    have hO := own_made0 hown
    have hB := (Below.refl W.heap.size W).grown hgrow (Nat.le_refl _) (fun k hk => by cases hk)
    clear hown hgrow hi hz0 hz1 hz2
    go_wp2_with fail
    go_loopw [4, 5] (fun v i wr => ∃ (k : Nat) (acc : List UInt8), k ≤ s.size ∧ k = 2 * acc.length ∧ i = .int .i64 k ∧ v = .slice (some ⟨W.heap.size, 0, none⟩) acc.length (s.size / 2) ∧ Own 5 wr W.heap.size v acc ∧ Hid (Left t acc k) ∧ Below W.heap.size W wr) (fun _ i _ => s.size - (intOf i).toNat)
    case atStart => exact ⟨0, [], Nat.zero_le _, rfl, rfl, rfl, hO, Lib.hid (Left.start t), hB⟩
    case round =>
      obtain ⟨k, acc, hk, hka, rfl, rfl, ho, HG, hb⟩ := hrel
      have HKA := Lib.hid hka
      by_cases hlt : k < s.size
      · have hz := HZ.out
        have hlt2 : k + 1 < s.size := by omega
        have hroom : acc.length + 1 ≤ s.size / 2 := by omega
        clear hka hz
        have c1 := str_at HS.out k hlt
        have c2 := str_at HS.out (k + 1) hlt2
        have hk1 : k + 1 < t.length := by have := HZ.out; omega
        have r1 := byteAt_range t k
        have r2 := byteAt_range t (k + 1)
        obtain ⟨p, hp⟩ : ∃ p, p = hvV (byteAt t k) := ⟨_, rfl⟩
        obtain ⟨q, hq⟩ : ∃ q, q = hvV (byteAt t (k + 1)) := ⟨_, rfl⟩
        have p1 := hv_range (byteAt t k)
        have q1 := hv_range (byteAt t (k + 1))
        rw [← hp] at p1
        rw [← hq] at q1
        have HP := Lib.hid hp
        have HQ := Lib.hid hq
        clear hp hq
        cases b1 : (hvB (byteAt t k) && hvB (byteAt t (k + 1))) with
        | false =>
          have HN := Lib.hid (HG.out.bad hk1 b1)
          by_cases g1 : hvB (byteAt t k) = true
          · have g2 : hvB (byteAt t (k + 1)) = false := by rw [g1] at b1; simpa using b1
            have G1 := Lib.hid g1; have G2 := Lib.hid g2
            clear b1 g1 g2
            go_wp2_with (first
              | (go_at_call_of 42 (byteAt t k); refine (half_any _ r1.1 r1.2 _).mono ?_; rw [← HP.out, G1.out]; rintro e w' ⟨rfl, rfl⟩)
              | (go_at_call 42; refine (half_any (byteAt t (k + 1)) r2.1 r2.2 _).mono ?_; rw [← HQ.out, G2.out]; rintro e w' ⟨rfl, rfl⟩))
            go_ret2
            exact gives_none HN.out hb
          · have g1 : hvB (byteAt t k) = false := by simpa using g1
            have G1 := Lib.hid g1
            clear b1 g1
            go_wp2_with (first
              | (go_at_call_of 42 (byteAt t k); refine (half_any _ r1.1 r1.2 _).mono ?_; rw [← HP.out, G1.out]; rintro e w' ⟨rfl, rfl⟩)
              | (go_at_call 42; refine (half_any (byteAt t (k + 1)) r2.1 r2.2 _).mono ?_; rw [← HQ.out]; rintro e w' ⟨rfl, rfl⟩))
            go_ret2
            exact gives_none HN.out hb
        | true =>
          have HN := Lib.hid (HG.out.step hk1 b1)
          obtain ⟨g1, g2⟩ := Bool.and_eq_true_iff.1 b1
          have htv := two_val (a := nth8 t k) (b := nth8 t (k + 1)) g1 g2
          have G1 := Lib.hid g1; have G2 := Lib.hid g2
          have htv2 : ((two (nth8 t k) (nth8 t (k + 1))).toNat : Int) = 16 * p + q := by rw [HP.out, HQ.out]; exact htv
          have hor : bits .or .u8 (p * 16) q = ((two (nth8 t k) (nth8 t (k + 1))).toNat : Int) := by rw [htv2, or_nib p q p1.1 p1.2 q1.1 q1.2]; omega
          clear b1 g1 g2 htv htv2
          go_wp2_with (first
            | (go_at_call_of 42 (byteAt t k); refine (half_any _ r1.1 r1.2 _).mono ?_; rw [← HP.out, G1.out]; rintro e w' ⟨rfl, rfl⟩)
            | (go_at_call 42; refine (half_any (byteAt t (k + 1)) r2.1 r2.2 _).mono ?_; rw [← HQ.out, G2.out]; rintro e w' ⟨rfl, rfl⟩)
            | (at_builtin; refine wpList_app_fits _ rfl _ _ 22 rfl 5 Try.underlying22 infoU8 W.heap.size W.heap.size _ (s.size / 2) acc rfl ho rfl [two (nth8 t k) (nth8 t (k + 1))] 1 1 _ rfl rfl rfl hroom ?_))
          intro w3 ho3 hg3
          have hb3 := ho.grown hb hg3 (Nat.le_refl _) (Nat.le_refl _)
          clear hg3 ho hb hor
          go_wp2_with fail
          go_roundw
          case rel => exact ⟨k + 2, _, by omega, by have := HKA.out; simp; omega, by go_num, by simp, ho3, HN, hb3⟩
          case measure => simp [intOf]; omega
      · have hke : k = t.length := by have := HZ.out; omega
        have hL := HG.out
        rw [hke] at hL
        have HE := Lib.hid hL.ends
        clear hL hke hka
        go_wp2_with fail
        go_ret2
        exact gives_some HE.out ho hb
end Go.Proofs.Ytknpengboappiaa.Oct
