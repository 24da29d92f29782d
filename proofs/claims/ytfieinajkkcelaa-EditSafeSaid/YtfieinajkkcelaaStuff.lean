
/- Layer 3 (stuff): what Put, Get, Plain, Size and their references compute. -/
import Derived.Test.YtfieinajkkcelaaChecked
import Derived.Test.YtfieinajkkcelaaMem
import Derived.Test.YtfieinajkkcelaaStuffL
import Derived.WalkKit
import Derived.WalkLawsBesides
import Derived.WalkSpells
import Derived.Lib.Hide
import Derived.Outline
import Derived.Handy
import Derived.Deep.QuietTactic
import Derived.BigQuiet
import Derived.Laws.BitsAllLaws
namespace Go.Proofs.Ytfieinajkkcelaa.Stuff
open Go.RowKit Go.Proofs.Ytfieinajkkcelaa.Mem Go.Proofs.Ytfieinajkkcelaa.StuffL

theorem infoU8 : (Try.prog.info? 5).map (fun i => (i.zero, i.size, i.bytes)) = some (some (.int .u8 0), 1, 1) := by kernel_rfl
theorem ret_int {k : IntKind} {a b : Int} (h : a = b) : Ending.returned (.int k a) = .returned (.int k b) := by rw [h]
theorem ret_bool {a b : Bool} (h : a = b) : Ending.returned (.bool a) = .returned (.bool b) := by rw [h]

/-- a call hands back bytes of its own, and leaves what was there -/
def Gives (w : World) (l : List UInt8) (e : Ending) (w' : World) : Prop := ∃ v, e = .returned v ∧ Own 5 w' w.heap.size v l ∧ Below w.heap.size w w'

theorem esc_iff (l : List UInt8) (k : Nat) : esc (nth8 l k) = (byteAt l k == 126 || byteAt l k == 125) := by
  unfold esc byteAt nth8
  have h : ∀ (c d : UInt8), (c == d) = ((c.toNat : Int) == (d.toNat : Int)) := by
    intro c d
    rw [Bool.eq_iff_iff]
    simp [← UInt8.toNat_inj]
    omega
  rw [h, h]
  rfl

theorem special_any (n : Int) (W : World) : Calls Try.prog 60 #[.int .u8 n] W fun e W' => e = .returned (.bool (n == 126 || n == 125)) ∧ W = W' := by
  by_cases h1 : n = 126
  · subst h1
    go_enter Try.func60, Try.ntmps60
    go_wp2
    go_ret
    exact ⟨rfl, rfl⟩
  · have h1' : (n == 126) = false := by simpa using h1
    clear h1
    go_enter Try.func60, Try.ntmps60
    go_wp2
    go_ret
    exact ⟨ret_bool (a := n == 125) (by rw [h1', Bool.false_or]), rfl⟩

theorem put_step (l : List UInt8) (k : Nat) (h : k < l.length) : put (l.take (k + 1)) = put (l.take k) ++ one (nth8 l k) := by rw [take_snoc l k h, put_snoc]
theorem put_step_len (l : List UInt8) (k : Nat) (h : k < l.length) : (put (l.take (k + 1))).length = (put (l.take k)).length + (if (byteAt l k == 126 || byteAt l k == 125) = true then 2 else 1) := by
  rw [put_step l k h, List.length_append]
  unfold one
  rw [esc_iff]
  split <;> rfl
theorem put_take_length (l : List UInt8) (k : Nat) (hk : k ≤ l.length) : k ≤ (put (l.take k)).length ∧ (put (l.take k)).length ≤ 2 * k := by
  have h := put_length (l.take k)
  rw [List.length_take] at h
  omega

theorem Size_any (A : Option Addr) (cap : Nat) (l : List UInt8) (b0 : Nat) (W : World) (hA : Bytes W b0 A l) (hl : l.length ≤ 281474976710656) :
    Calls Try.prog 64 #[.slice A l.length cap] W fun e W' => e = .returned (.int .i64 ((put l).length : Nat)) ∧ W = W' := by
  go_enter Try.func64, Try.ntmps64
  go_wp2
  go_loop [3, 10] (fun n i => ∃ k c : Nat, k ≤ l.length ∧ i = .int .i64 k ∧ n = .int .i64 ((l.length : Int) + (c : Int)) ∧ c ≤ k ∧ Hid ((put (l.take k)).length = k + c)) (fun _ i => l.length - (intOf i).toNat)
  case atStart => exact ⟨0, 0, Nat.zero_le _, rfl, by simp, by omega, Lib.hid (by simp [put])⟩
  case round =>
    obtain ⟨k, c, hk, rfl, rfl, hc, HC⟩ := hrel
    by_cases hlt : k < l.length
    · obtain ⟨b, off, rfl, _, hcell⟩ := hA.at_ hlt
      have hr := byteAt_range l k
      have HS := Lib.hid (put_step_len l k hlt)
      by_cases he : (byteAt l k == 126 || byteAt l k == 125) = true
      · go_wp2_with (go_at_call 60; refine (special_any _ _).mono ?_; rintro e w' ⟨rfl, rfl⟩)
        go_round
        case rel => exact ⟨k + 1, c + 1, by omega, by go_num, by go_num, by omega, Lib.hid (by rw [HS.out, if_pos he, HC.out]; omega)⟩
        case measure => simp [intOf]; omega
      · have he' : (byteAt l k == 126 || byteAt l k == 125) = false := by simpa using he
        have HE := Lib.hid he
        clear he
        go_wp2_with (go_at_call 60; refine (special_any _ _).mono ?_; rintro e w' ⟨rfl, rfl⟩)
        go_round
        case rel => exact ⟨k + 1, c, by omega, by go_num, rfl, by omega, Lib.hid (by rw [HS.out, if_neg HE.out, HC.out]; omega)⟩
        case measure => simp [intOf]; omega
    · obtain rfl : k = l.length := by omega
      have hkl : l.take l.length = l := List.take_of_length_le (Nat.le_refl _)
      have HK := Lib.hid hkl; clear hkl
      go_wp2
      go_ret
      exact ⟨ret_int (by have := HC.out; rw [HK.out] at this; omega), rfl⟩

/-- a byte turned -/
def fl (c : UInt8) : UInt8 := c ^^^ 32
theorem xor32 (l : List UInt8) (k : Nat) : bits .xor .u8 (byteAt l k) 32 = ((fl (nth8 l k)).toNat : Int) := by
  have h := byteAt_range l k
  rw [u8_xor _ _ (by omega) (by omega) (by omega) (by omega)]
  unfold byteAt fl nth8
  simp

theorem one_esc {l : List UInt8} {k : Nat} (h : (byteAt l k == 126 || byteAt l k == 125) = true) : one (nth8 l k) = [125, fl (nth8 l k)] := by
  unfold one fl
  rw [esc_iff, if_pos h]
theorem one_plain {l : List UInt8} {k : Nat} (h : (byteAt l k == 126 || byteAt l k == 125) = false) : one (nth8 l k) = [nth8 l k] := by
  unfold one
  rw [esc_iff, if_neg (by rw [h]; decide)]

/-- in the fresh row 'g' of capacity 'c' lies l -/
def Row (w : World) (base g c : Nat) (v : Value) (l : List UInt8) : Prop := v = .slice (some ⟨g, 0, none⟩) l.length c ∧ Own 5 w base v l

set_option maxHeartbeats 400000 in
theorem Put_any (A : Option Addr) (cap : Nat) (l : List UInt8) (W : World) (hA : Bytes W W.heap.size A l) (hl : l.length ≤ 140737488355328) :
    Calls Try.prog 53 #[.slice A l.length cap] W (Gives W (put l)) := by
  obtain ⟨i0, hi, hz0, hz1, hz2⟩ := info_parts infoU8
  obtain ⟨hp1, hp2⟩ := put_length l
  go_enter Try.func53, Try.ntmps53
  go_wp2_with (first
    | (go_at_call 64; refine (Size_any A cap l _ _ hA (by omega)).mono ?_; rintro e w' ⟨rfl, rfl⟩)
    | (at_make; refine wpList_make_own _ rfl _ _ 22 rfl W.heap.size 5 i0 (.int .u8 0) 1 Try.underlying22 hi hz0 hz1 _ _ _ (put l).length rfl rfl rfl (by rw [hz2]; omega) (by unfold maxLen; omega) (Nat.le_refl _) ?_))
  intro w1 hown hgrow
  have hO := own_made0 hown
  have hB := (Below.refl W.heap.size W).grown hgrow (Nat.le_refl _) (fun k hk => by cases hk)
  clear hown hgrow hi hz0 hz1 hz2
  go_wp2
  go_loopw [3, 11] (fun v i wr => ∃ k : Nat, k ≤ l.length ∧ i = .int .i64 k ∧ Row wr W.heap.size W.heap.size (put l).length v (put (l.take k)) ∧ Below W.heap.size W wr) (fun _ i _ => l.length - (intOf i).toNat)
  case atStart => exact ⟨0, Nat.zero_le _, rfl, ⟨rfl, hO⟩, hB⟩
  case round =>
    obtain ⟨k, hk, rfl, ⟨rfl, ho⟩, hb⟩ := hrel
    by_cases hlt : k < l.length
    · obtain ⟨b, off, rfl, hbk, hcell⟩ := (hA.below hb (Nat.le_refl _)).at_ hlt
      have hr := byteAt_range l k
      have hle : (put (l.take (k + 1))).length ≤ (put l).length := by
        have : put l = put (l.take (k + 1)) ++ put (l.drop (k + 1)) := by rw [put, put, put, ← List.flatMap_append, List.take_append_drop]
        rw [this, List.length_append]; omega
      have HS := Lib.hid (put_step l k hlt)
      have HX := Lib.hid (xor32 l k)
      by_cases he : (byteAt l k == 126 || byteAt l k == 125) = true
      · have HO := Lib.hid (one_esc he)
        rw [HS.out, HO.out] at hle
        simp only [List.length_append, List.length_cons, List.length_nil] at hle
        go_wp2_with (first
          | (go_at_call 60; refine (special_any _ _).mono ?_; rintro e w' ⟨rfl, rfl⟩)
          | (at_builtin; refine wpList_app_fits _ rfl (.tmp 18) (.tmp 19) 22 rfl 5 Try.underlying22 infoU8 W.heap.size W.heap.size _ (put l).length (put (l.take k)) rfl ho rfl [125] 1 1 _ rfl rfl rfl (by simp; omega) ?_))
        intro w2 ho2 hg2
        have hb2 := ho.grown hb hg2 (Nat.le_refl _) (Nat.le_refl _)
        clear hg2 ho hb
        have hx := xor32 l k
        go_wp2_with (at_builtin; refine wpList_app_fits _ rfl (.tmp 23) (.tmp 25) 22 rfl 5 Try.underlying22 infoU8 W.heap.size W.heap.size _ (put l).length (put (l.take k) ++ [125]) rfl ho2 (by simp) [fl (nth8 l k)] 1 1 _ rfl rfl rfl (by simp; omega) ?_)
        intro w3 ho3 hg3
        have hb3 := ho2.grown hb2 hg3 (Nat.le_refl _) (Nat.le_refl _)
        clear hg3 ho2 hb2 hx
        go_wp2
        go_roundw
        case rel =>
          refine ⟨k + 1, hlt, by go_num, ?_, hb3⟩
          rw [HS.out, HO.out]
          exact ⟨by simp, by simpa using ho3⟩
        case measure => simp [intOf]; omega
      · have he' : (byteAt l k == 126 || byteAt l k == 125) = false := by simpa using he
        have HE := Lib.hid he'
        have HO := Lib.hid (one_plain he')
        clear he'
        rw [HS.out, HO.out] at hle
        simp only [List.length_append, List.length_cons, List.length_nil] at hle
        go_wp2_with (first
          | (go_at_call 60; refine (special_any _ _).mono ?_; rw [HE.out]; rintro e w' ⟨rfl, rfl⟩)
          | (at_builtin; refine wpList_app_fits _ rfl (.tmp 23) (.tmp 25) 22 rfl 5 Try.underlying22 infoU8 W.heap.size W.heap.size _ (put l).length (put (l.take k)) rfl ho rfl [nth8 l k] 1 1 _ rfl rfl rfl (by simp; omega) ?_))
        intro w3 ho3 hg3
        have hb3 := ho.grown hb hg3 (Nat.le_refl _) (Nat.le_refl _)
        clear hg3 ho hb
        go_wp2
        go_roundw
        case rel =>
          refine ⟨k + 1, hlt, by go_num, ?_, hb3⟩
          rw [HS.out, HO.out]
          exact ⟨by simp, by simpa using ho3⟩
        case measure => simp [intOf]; omega
    · have hkl : l.take k = l := List.take_of_length_le (by omega)
      have HK := Lib.hid (congrArg put hkl); clear hkl
      go_wp2
      go_ret
      exact ⟨_, rfl, (congrArg (Own _ wr W.heap.size _) HK.out).mp ho, hb⟩
end Go.Proofs.Ytfieinajkkcelaa.Stuff
