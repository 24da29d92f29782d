
/- Layer 2 (crc): the document's Put and Check. -/
import Derived.Test.YtfieinajkkcelaaCrcR
namespace Go.Proofs.Ytfieinajkkcelaa.Crc
open Go.RowKit Go.Proofs.Ytfieinajkkcelaa.Mem Go.Proofs.Ytfieinajkkcelaa.Oct Go.Proofs.Ytfieinajkkcelaa.CrcM

/-- a sum behind k bytes -/
def shr (s k : Nat) : Nat := s / 256 ^ k
theorem shr_succ (s k : Nat) : shr s (k + 1) = shr s k / 256 := by
  unfold shr
  rw [Nat.pow_succ, Nat.div_div_eq_div_mul]
theorem shr_lt (s k : Nat) (h : s < 4294967296) : shr s k < 4294967296 := Nat.lt_of_le_of_lt (Nat.div_le_self _ _) h
theorem le4_step (s k : Nat) (h : k < 4) : (le4 s).take (k + 1) = (le4 s).take k ++ [UInt8.ofNat (shr s k)] := by
  have h4 : k = 0 ∨ k = 1 ∨ k = 2 ∨ k = 3 := by omega
  rcases h4 with rfl | rfl | rfl | rfl
  · simp [le4, shr]
  · simp [le4, shr]
  · simp [le4, shr]
  · simp [le4, shr]

set_option maxHeartbeats 1000000 in
theorem refCput_any (A : Option Addr) (n cap : Nat) (l : List UInt8) (W : World) (hn : n = l.length) (hA : Bytes W W.heap.size A l) (hl : l.length ≤ 70368744177664) :
    Calls Try.prog 34 #[.slice A n cap] W (Gives W (cput l)) := by
  subst hn
  have hm : l.length ≤ maxLen := by unfold maxLen; omega
  have hs := sum_lt l
  have hsum := fun w (h : Bytes w w.heap.size A l) => refSum_any A l.length cap l w rfl h hm
  have HSUM := Lib.hid hsum
  clear hsum
  have HC := Lib.hid (show cput l = l ++ le4 (sum l) from rfl)
  generalize sum l = s at hs HSUM HC
  have hol := own_lit 5 W (base := W.heap.size) (Nat.le_refl _) [] #[] rfl (by simp [maxLen])
  have HL := Lib.hid hl
  clear hl hm
  go_enter Try.func34, Try.ntmps34
  go_wp2_with fail
  refine (HSUM.out _ hA).mono ?_
  rintro e w' ⟨rfl, rfl⟩
  go_wp2_with (at_builtin; refine wpList_app _ rfl _ _ 22 rfl 5 Try.underlying22 infoU8 W.heap.size _ [] rfl hol W.heap.size A _ cap l rfl rfl (hA.below (((Below.refl W.heap.size W).alloc (Nat.le_refl _) _)) (Nat.le_refl _)) (by simp) (by have := HL.out; simp; omega) ?_)
  intro v1 w1 ho1 hg
  have hb1 := hol.grown ((Below.refl W.heap.size W).alloc (Nat.le_refl _) _) hg (Nat.le_refl _) (Nat.le_refl _)
  clear hol hg
  go_wp2_with fail
  go_loopw [3, 4, 5] (fun s3 v i wr => ∃ k : Nat, k ≤ 4 ∧ i = .int .i64 k ∧ s3 = .int .u32 (shr s k : Nat) ∧ Own 5 wr W.heap.size v (l ++ (le4 s).take k) ∧ Below W.heap.size W wr) (fun _ _ i _ => 4 - (intOf i).toNat)
  case atStart => exact ⟨0, by omega, rfl, by simp [shr], by simpa using ho1, hb1⟩
  case round =>
    obtain ⟨k, hk, rfl, rfl, ho, hb⟩ := hrel
    by_cases hlt : k < 4
    · have HS := Lib.hid (shr_succ s k)
      have HT := Lib.hid (le4_step s k hlt)
      have HLEN := Lib.hid (show (l ++ (le4 s).take k).length ≤ 70368744177668 by have := HL.out; rw [List.length_append, List.length_take, le4_length]; omega)
      have hlt2 := shr_lt s k hs
      generalize shr s k = t at HS HT hlt2 ⊢
      have hw : IntKind.u8.wrap ((t : Int) % 256) = ((UInt8.ofNat t).toNat : Int) := by rw [IntKind.wrap_u8]; simp
      generalize UInt8.ofNat t = c at HT hw
      go_wp2_with (at_builtin; refine wpList_app_lit _ rfl _ _ 22 rfl 5 Try.underlying22 infoU8 W.heap.size _ _ rfl ho [c] 1 _ _ rfl rfl rfl hb.size (by have := HLEN.out; simp at this ⊢; omega) ?_)
      intro v2 w2 ho2 hg
      have hb2 := ho.grown hb hg (Nat.le_refl _) (Nat.le_refl _)
      clear ho hg hb
      go_wp2_with fail
      go_roundw
      case rel => exact ⟨k + 1, hlt, by go_num, by rw [HS.out]; simp, by rw [HT.out]; simpa using ho2, hb2⟩
      case measure => simp [intOf]; omega
    · obtain rfl : k = 4 := by omega
      go_wp2
      go_ret
      exact ⟨_, rfl, by rw [HC.out]; exact ho, hb⟩

theorem cok_eq (l : List UInt8) (h : 4 ≤ l.length) : cok l = (cput (l.take (l.length - 4)) == l) := by
  unfold cok
  rw [show decide (4 ≤ l.length) = true by simpa using h, Bool.true_and]
  have hl : l = l.take (l.length - 4) ++ l.drop (l.length - 4) := (List.take_append_drop _ _).symm
  generalize hp : l.take (l.length - 4) = p at hl ⊢
  generalize hq : l.drop (l.length - 4) = q at hl ⊢
  unfold cput
  rw [Bool.eq_iff_iff, beq_iff_eq, beq_iff_eq]
  constructor
  · intro e; rw [← e]; exact hl.symm
  · intro e
    rw [hl] at e
    exact (List.append_cancel_left e).symm

set_option maxHeartbeats 2000000 in
theorem refCheck_any (A : Option Addr) (n cap : Nat) (l : List UInt8) (W : World) (hn : n = l.length) (hc : l.length ≤ cap) (hA : Bytes W W.heap.size A l) (hl : l.length ≤ 70368744177664) :
    Calls Try.prog 57 #[.slice A n cap] W (GivesC W l) := by
  subst hn
  by_cases h4 : 4 ≤ l.length
  · obtain ⟨p, hp⟩ : ∃ p, p = l.take (l.length - 4) := ⟨_, rfl⟩
    have hk : ((l.length : Int) - 4) = ((l.length - 4 : Nat) : Int) := by omega
    have hpl : p.length = l.length - 4 := by rw [hp, List.length_take]; omega
    have hx : (cput p).length = l.length := by rw [cput_length, hpl]; omega
    have hB := hA.take (k := l.length - 4) (by omega)
    rw [← hp] at hB
    have hok := cok_eq l h4
    rw [← hp] at hok
    have hbd : cbody l = if cok l = true then p else [] := by rw [hp]; rfl
    have hput := fun w (h : Bytes w w.heap.size A p) => refCput_any A (l.length - 4) cap p w hpl.symm h (by omega)
    have hkk : l.length - 4 ≤ cap := by omega
    have HX := Lib.hid hx
    have HOK := Lib.hid hok
    have HBD := Lib.hid hbd
    have HPUT := Lib.hid hput
    have HPL := Lib.hid hpl
    clear hp hx hok hbd hput hpl
    generalize cput p = x at HX HOK HPUT
    have hlm : l.length ≤ 9223372036854775807 := by omega
    obtain ⟨m, hmm⟩ : ∃ m : Nat, m = l.length - 4 := ⟨_, rfl⟩
    rw [← hmm] at hk hkk HPUT HPL
    have hml : (m : Int) ≤ (l.length : Int) := by omega
    clear hmm
    go_enter Try.func57, Try.ntmps57
    go_wp2_with fail
    refine (HPUT.out _ hB).mono ?_
    rintro e w1 ⟨v1, rfl, ho1, hb1⟩
    obtain ⟨A1, c1, rfl, hc1, hm1, _⟩ := ho1.shape
    have hX := ho1.bytes
    have hL := hA.later hb1
    have hP := hB.later hb1
    have HB1 := Lib.hid hb1
    clear ho1 hb1 HPUT
    go_wp2_with fail
    go_loopw [6] (fun i wr => ∃ k : Nat, k ≤ l.length ∧ i = .int .i64 k ∧ Oct.Same x l k ∧ Drawn w1 wr) (fun i _ => l.length - (intOf i).toNat)
    case atStart => exact ⟨0, Nat.zero_le _, rfl, fun j hj => by omega, Drawn.refl _⟩
    case round =>
      obtain ⟨k, hk', rfl, hs, hw⟩ := hrel
      by_cases hlt : k < l.length
      · have hlt2 : k < x.length := by have := HX.out; omega
        obtain ⟨b, off, rfl, _, hcx⟩ := (hX.below (hw.below w1.heap.size) (Nat.le_refl _)).at_ hlt2
        obtain ⟨b', off', rfl, _, hcl⟩ := (hL.below (hw.below w1.heap.size) (Nat.le_refl _)).at_ hlt
        have hlt' : (k : Int) < (l.length : Int) := by omega
        have hlt2' : (k : Int) < (x.length : Int) := by omega
        have hk0 : (0 : Int) ≤ (k : Int) := by omega
        by_cases he : byteAt x k = byteAt l k
        · have HS := Lib.hid (hs.step he)
          have hne : (byteAt x k != byteAt l k) = false := by simp [he]
          clear he
          go_wp2
          go_quiet (fail)
          go_wp2
          go_roundw
          case rel => exact ⟨k + 1, by omega, by go_num, HS.out, hw.step _⟩
          case measure => simp [intOf]; omega
        · have HN := Lib.hid (byteAt_ne he)
          have hne : (byteAt x k != byteAt l k) = true := by simpa using he
          clear he
          go_wp2
          go_quiet (fail)
          go_wp2
          go_ret2
          exact gives_no (by rw [HOK.out]; exact HN.out) (HB1.out.trans ((hw.step _).below _))
      · obtain rfl : k = l.length := by omega
        have HE := Lib.hid (eq_of_bytes HX.out (fun j hj => hs j (by have := HX.out; omega)))
        have hP2 := hP.below (hw.below w1.heap.size) (Nat.le_refl _)
        have hwb := HB1.out.trans (hw.below W.heap.size)
        have hol := own_lit 5 wr (base := W.heap.size) hwb.size [] #[] rfl (by simp [maxLen])
        have hbx := below_alloc hwb (.cells #[] 5)
        clear hs
        go_wp2_with (at_builtin; refine wpList_app _ rfl _ _ 22 rfl 5 Try.underlying22 infoU8 W.heap.size _ [] rfl hol w1.heap.size A _ cap p (by rfl) HPL.out.symm (hP2.below (below_alloc (Below.refl wr.heap.size wr) _) (by have := (hw.below w1.heap.size).size; omega)) hbx.size (by have := HPL.out; simp; omega) ?_)
        intro v2 w2 ho2 hg
        have hb2 := hol.grown hbx hg (Nat.le_refl _) (Nat.le_refl _)
        clear hol hg
        go_wp2
        go_ret2
        have e : cok l = true := by rw [HOK.out]; exact HE.out
        exact ⟨_, by rw [e]; rfl, by rw [HBD.out, if_pos e]; simpa using ho2, hb2⟩
  · have hok : cok l = false := by
      unfold cok
      rw [show decide (4 ≤ l.length) = false by simpa using h4]
      rfl
    have HOK := Lib.hid hok
    clear hok
    have h4' : (l.length : Int) < 4 := by omega
    go_enter Try.func57, Try.ntmps57
    go_wp2_with fail
    go_ret2
    exact gives_no HOK.out (Below.refl _ _)
end Go.Proofs.Ytfieinajkkcelaa.Crc
