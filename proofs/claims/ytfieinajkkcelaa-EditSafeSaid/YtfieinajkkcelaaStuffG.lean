
/- Layer 3 (stuff): what Get and its reference compute. -/
import Derived.Test.YtfieinajkkcelaaStuff
namespace Go.Proofs.Ytfieinajkkcelaa.Stuff
open Go.RowKit Go.Proofs.Ytfieinajkkcelaa.Mem Go.Proofs.Ytfieinajkkcelaa.StuffL

/-- the error's number: 0 where there is an answer -/
def eno (r : Option (List UInt8)) (no : Int) : Int := match r with | some _ => 0 | none => no
/-- bytes of the call's own, or nil and the error -/
def GivesE (w : World) (r : Option (List UInt8)) (no : Int) (e : Ending) (w' : World) : Prop :=
  ∃ v, e = .returned (.tuple #[v, .int .i64 (eno r no)]) ∧ Own 5 w' w.heap.size v (r.getD []) ∧ Below w.heap.size w w'

theorem esc_toNat (c : UInt8) : esc c = ((c.toNat : Int) == 126 || (c.toNat : Int) == 125) := by
  have h : ∀ (d : UInt8), (c == d) = ((c.toNat : Int) == (d.toNat : Int)) := by
    intro d
    rw [Bool.eq_iff_iff]
    simp [← UInt8.toNat_inj]
    omega
  unfold esc
  rw [h, h]
  rfl
theorem nth8_eq (l : List UInt8) (k : Nat) (d : UInt8) : nth8 l k = d ↔ byteAt l k = (d.toNat : Int) := by
  unfold byteAt nth8
  rw [← UInt8.toNat_inj]
  omega

theorem go_step (l : List UInt8) (k : Nat) (h : k < l.length) {s : Option (List UInt8 × Bool)} (hs : go (some ([], false)) (l.take k) = s) : go (some ([], false)) (l.take (k + 1)) = ustep s (nth8 l k) := by
  rw [take_snoc l k h, go_snoc, hs]
theorem get_none {l : List UInt8} {k : Nat} (h : go (some ([], false)) (l.take k) = none) : unput l = none := by
  have : go (some ([], false)) l = none := by
    have e : l = l.take k ++ l.drop k := (List.take_append_drop k l).symm
    rw [e, go_append, h, go_none]
  unfold unput
  rw [this]
  rfl
theorem get_end {l : List UInt8} {o : List UInt8} {b : Bool} (h : go (some ([], false)) (l.take l.length) = some (o, b)) : unput l = if b then none else some o := by
  rw [List.take_of_length_le (Nat.le_refl _)] at h
  unfold unput
  rw [h]
  cases b <;> rfl

theorem ret_err {l : List UInt8} {no : Int} (h : unput l = none) : Ending.returned (.tuple #[.slice none 0 0, .int .i64 no]) = .returned (.tuple #[.slice none 0 0, .int .i64 (eno (unput l) no)]) := by
  rw [h]; rfl
theorem ret_ok {l o : List UInt8} {v : Value} {no : Int} (h : unput l = some o) : Ending.returned (.tuple #[v, .int .i64 0]) = .returned (.tuple #[v, .int .i64 (eno (unput l) no)]) := by
  rw [h]; rfl
theorem own_err {l : List UInt8} {w : World} {base : Nat} (h : unput l = none) : Own 5 w base (.slice none 0 0) ((unput l).getD []) := by
  rw [h]; exact Own.nil _ _ _
theorem own_ok {l o : List UInt8} {v : Value} {w : World} {base : Nat} (h : unput l = some o) (ho : Own 5 w base v o) : Own 5 w base v ((unput l).getD []) := by
  rw [h]; exact ho

set_option maxHeartbeats 1000000 in
theorem Get_any (A : Option Addr) (cap : Nat) (l : List UInt8) (W : World) (hA : Bytes W W.heap.size A l) (hl : l.length ≤ 281474976710656) :
    Calls Try.prog 68 #[.slice A l.length cap] W (GivesE W (unput l) 30) := by
  obtain ⟨i0, hi, hz0, hz1, hz2⟩ := info_parts infoU8
  go_enter Try.func68, Try.ntmps68
  go_wp2_with (at_make; refine wpList_make_own _ rfl _ _ 22 rfl W.heap.size 5 i0 (.int .u8 0) 1 Try.underlying22 hi hz0 hz1 _ _ _ l.length rfl rfl rfl (by rw [hz2]; omega) (by unfold maxLen; omega) (Nat.le_refl _) ?_)
  intro w1 hown hgrow
  have hO := own_made0 hown
  have hB := (Below.refl W.heap.size W).grown hgrow (Nat.le_refl _) (fun k hk => by cases hk)
  clear hown hgrow hi hz0 hz1 hz2
  go_wp2
  go_loopw [4, 5, 13] (fun v t i wr => ∃ (k : Nat) (o : List UInt8) (b : Bool), k ≤ l.length ∧ i = .int .i64 k ∧ t = .bool b ∧ Row wr W.heap.size W.heap.size l.length v o ∧ o.length ≤ k ∧ Hid (go (some ([], false)) (l.take k) = some (o, b)) ∧ Below W.heap.size W wr) (fun _ _ i _ => l.length - (intOf i).toNat)
  case atStart => exact ⟨0, [], false, Nat.zero_le _, rfl, rfl, ⟨rfl, hO⟩, by simp, Lib.hid rfl, hB⟩
  case round =>
    obtain ⟨k, o, b, hk, rfl, rfl, ⟨rfl, ho⟩, hok, HG, hb⟩ := hrel
    by_cases hlt : k < l.length
    · obtain ⟨bl, off, rfl, _, hcell⟩ := (hA.below hb (Nat.le_refl _)).at_ hlt
      have hr := byteAt_range l k
      have HS := Lib.hid (go_step l k hlt HG.out)
      by_cases h1 : byteAt l k = 126
      · have hn : unput l = none := get_none (k := k + 1) (by
          rw [HS.out, (nth8_eq l k 126).2 h1]
          cases b <;> rfl)
        have HN := Lib.hid hn; clear hn
        go_wp2
        all_goals go_ret2
        all_goals exact ⟨_, ret_err HN.out, own_err HN.out, hb⟩
      · have h1' : (byteAt l k == 126) = false := by simpa using h1
        have h1'' : nth8 l k ≠ 126 := fun e => h1 ((nth8_eq l k 126).1 e)
        have H1 := Lib.hid h1''
        clear h1 h1''
        cases b with
        | true =>
          have hx := xor32 l k
          by_cases he : esc (fl (nth8 l k)) = true
          · have hst : ustep (some (o, true)) (nth8 l k) = some (o ++ [fl (nth8 l k)], false) := by
              simp only [ustep]; rw [if_neg H1.out]; exact if_pos he
            have HT := Lib.hid (HS.out.trans hst)
            rw [esc_toNat] at he
            have HE := Lib.hid he
            clear he hst
            go_wp2_with (first
              | (go_at_call 60; refine (special_any _ _).mono ?_; rw [HE.out]; rintro e w' ⟨rfl, rfl⟩)
              | (at_builtin; refine wpList_app_fits _ rfl _ _ 22 rfl 5 Try.underlying22 infoU8 W.heap.size W.heap.size _ l.length o rfl ho rfl [fl (nth8 l k)] 1 1 _ rfl rfl rfl (by simp; omega) ?_))
            intro w3 ho3 hg3
            have hb3 := ho.grown hb hg3 (Nat.le_refl _) (Nat.le_refl _)
            clear hg3 ho hb hx
            go_wp2
            go_roundw
            case rel => exact ⟨k + 1, _, false, hlt, by go_num, rfl, ⟨by simp, ho3⟩, by simp; omega, HT, hb3⟩
            case measure => simp [intOf]; omega
          · have hst : ustep (some (o, true)) (nth8 l k) = none := by
              simp only [ustep]; rw [if_neg H1.out]; exact if_neg he
            have hn : unput l = none := get_none (k := k + 1) (HS.out.trans hst)
            have he' : esc (fl (nth8 l k)) = false := by simpa using he
            rw [esc_toNat] at he'
            have HE := Lib.hid he'
            have HN := Lib.hid hn
            clear he he' hst hn
            go_wp2_with (go_at_call 60; refine (special_any _ _).mono ?_; rw [HE.out]; rintro e w' ⟨rfl, rfl⟩)
            all_goals go_ret2
            all_goals exact ⟨_, ret_err HN.out, own_err HN.out, hb⟩
        | false =>
          by_cases h2 : byteAt l k = 125
          · have hst : ustep (some (o, false)) (nth8 l k) = some (o, true) := by
              simp only [ustep]; rw [if_neg H1.out, if_pos ((nth8_eq l k 125).2 h2)]
            have HT := Lib.hid (HS.out.trans hst)
            have h2' : (byteAt l k == 125) = true := by simpa using h2
            clear h2 hst
            go_wp2
            go_roundw
            case rel => exact ⟨k + 1, _, true, hlt, by go_num, rfl, ⟨rfl, ho⟩, by omega, HT, hb⟩
            case measure => simp [intOf]; omega
          · have hst : ustep (some (o, false)) (nth8 l k) = some (o ++ [nth8 l k], false) := by
              simp only [ustep]; rw [if_neg H1.out, if_neg (fun e => h2 ((nth8_eq l k 125).1 e))]
            have HT := Lib.hid (HS.out.trans hst)
            have h2' : (byteAt l k == 125) = false := by simpa using h2
            clear h2 hst
            go_wp2_with (at_builtin; refine wpList_app_fits _ rfl _ _ 22 rfl 5 Try.underlying22 infoU8 W.heap.size W.heap.size _ l.length o rfl ho rfl [nth8 l k] 1 1 _ rfl rfl rfl (by simp; omega) ?_)
            intro w3 ho3 hg3
            have hb3 := ho.grown hb hg3 (Nat.le_refl _) (Nat.le_refl _)
            clear hg3 ho hb
            go_wp2
            go_roundw
            case rel => exact ⟨k + 1, _, false, hlt, by go_num, rfl, ⟨by simp, ho3⟩, by simp; omega, HT, hb3⟩
            case measure => simp [intOf]; omega
    · obtain rfl : k = l.length := by omega
      have HE := Lib.hid (get_end HG.out)
      cases b with
      | true =>
        go_wp2
        go_ret2
        exact ⟨_, ret_err HE.out, own_err HE.out, hb⟩
      | false =>
        go_wp2
        go_ret2
        exact ⟨_, ret_ok HE.out, own_ok HE.out ho, hb⟩
end Go.Proofs.Ytfieinajkkcelaa.Stuff
