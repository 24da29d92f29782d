/- Layer 1 (octet): the walks of OctetTells and OctetJoins. -/
import Derived.Test.YtknpengboappiaaOctL
namespace Go.Proofs.Ytknpengboappiaa.Oct
open Go.RowKit Go.Proofs.Ytknpengboappiaa.Mem

theorem two_hx8 (c : UInt8) : (good (dg (c.toNat / 16)) && good (dg (c.toNat % 16))) = true ∧ two (dg (c.toNat / 16)) (dg (c.toNat % 16)) = c := by
  have key : ∀ i : Fin 256, (good (dg (i.val / 16)) && good (dg (i.val % 16))) = true ∧ (two (dg (i.val / 16)) (dg (i.val % 16))).toNat = i.val := by decide +kernel
  obtain ⟨h1, h2⟩ := key ⟨c.toNat, c.toNat_lt⟩
  exact ⟨h1, UInt8.toNat_inj.1 h2⟩
theorem unh_hex (l : List UInt8) : unh (hex l) = some l := by
  induction l with
  | nil => rfl
  | cons c l ih =>
    have : hex (c :: l) = dg (c.toNat / 16) :: dg (c.toNat % 16) :: hex l := by
      show List.flatMap hx8 (c :: l) = _
      rw [List.flatMap_cons]
      rfl
    obtain ⟨h1, h2⟩ := two_hx8 c
    rw [this, unh, if_pos h1, ih, h2]
    rfl
theorem unh_length (t : List UInt8) : ((unh t).getD []).length ≤ t.length := by
  have key : ∀ n, ∀ t : List UInt8, t.length = n → ((unh t).getD []).length ≤ n := by
    intro n
    induction n using Nat.strongRecOn with
    | ind n ih =>
      intro t ht
      match t, ht with
      | [], _ => simp [unh]
      | [_], _ => simp [unh]
      | a :: b :: r, ht =>
        simp only [List.length_cons] at ht
        have := ih (n - 2) (by omega) r (by omega)
        simp only [unh]
        split
        · cases h : unh r with
          | none => simp
          | some o => rw [h] at this; simp at this ⊢; omega
        · simp
  exact key _ t rfl

set_option maxHeartbeats 1000000 in
/-- OctetTells -/
theorem OctetTells_any (A : Option Addr) (ca : Nat) (l : List UInt8) (t : List UInt8) (W : World) (hA : Bytes W W.heap.size A l) (hl : l.length ≤ 140737488355328) (ht : t.length ≤ 140737488355328) :
    Calls Try.prog 12 #[.slice A l.length ca, .string ⟨t.toArray⟩] W fun e W' => e = .returned (.bool true) ∧ Below W.heap.size W W' := by
  have HX := Lib.hid (unh_hex l)
  have hul := unh_length t
  have hxl : (hex l).length ≤ 281474976710656 := by rw [hex_length]; omega
  go_enter Try.func12, Try.ntmps12
  go_wp2_with fail
  refine (Hex_any A ca l _ hA hl).mono ?_
  rintro e w1 ⟨rfl, hb1⟩
  go_wp2_with fail
  refine (Unhex_any (hex l) _ hxl).mono ?_
  rw [HX.out]
  rintro e w2 ⟨v2, rfl, ho2, hb2⟩
  simp only [Option.getD_some] at ho2
  obtain ⟨A2, c2, rfl, _, _, _⟩ := ho2.shape
  have hb12 := below_next hb1 hb2
  go_wp2_with fail
  refine (Unhex_any t _ (by omega)).mono ?_
  rintro e w3 ⟨v3, rfl, ho3, hb3⟩
  obtain ⟨A3, c3, rfl, _, _, _⟩ := ho3.shape
  have hb13 := below_next hb12 hb3
  go_wp2_with fail
  refine (refUnhex_any t _ ht).mono ?_
  rintro e w4 ⟨v4, rfl, ho4, hb4⟩
  obtain ⟨A4, c4, rfl, _, _, _⟩ := ho4.shape
  have hb14 := below_next hb13 hb4
  go_wp2_with fail
  refine (refHex_any A ca l _ (hA.later hb14) hl).mono ?_
  rintro e w5 ⟨rfl, hd5⟩
  have hb45 := hd5.below w4.heap.size
  have hb15 := below_next hb14 hb45
  clear hd5
  go_wp2_with fail
  refine (refSame_any A2 A c2 ca l l _ _ _ (ho2.later (below_next (below_next hb3 hb4) hb45)) (hA.later hb15) (by unfold maxLen; omega) (by unfold maxLen; omega)).mono ?_
  rintro e w6 ⟨rfl, hd6⟩
  have hb56 := hd6.below w5.heap.size
  have hb16 := below_next hb15 hb56
  clear hd6
  go_wp2_with fail
  refine (refSame_any A3 A4 c3 c4 _ _ _ _ _ (ho3.later (below_next (below_next hb4 hb45) hb56)) (ho4.later (below_next hb45 hb56)) (by unfold maxLen; omega) (by unfold maxLen; omega)).mono ?_
  rintro e w7 ⟨rfl, hd7⟩
  have hb17 := below_next hb16 (hd7.below w6.heap.size)
  clear hd7
  go_wp2_with fail
  refine (live_any _).mono ?_
  rintro e w8 ⟨rfl, hb8⟩
  go_wp2_with fail
  go_ret
  exact ⟨rfl, below_next hb17 hb8⟩

theorem OctetTells_str (A : Option Addr) (ca : Nat) (l : List UInt8) (s : ByteArray) (W : World) (hA : Bytes W W.heap.size A l) (hl : l.length ≤ 140737488355328) (ht : s.data.toList.length ≤ 140737488355328) :
    Calls Try.prog 12 #[.slice A l.length ca, .string s] W fun e W' => e = .returned (.bool true) ∧ Below W.heap.size W W' := by
  have h := OctetTells_any A ca l s.data.toList W hA hl ht
  have e : (⟨s.data.toList.toArray⟩ : ByteArray) = s := by simp
  rw [e] at h
  exact h

theorem refSame_n (A B : Option Addr) (n m' ca cb : Nat) (l m : List UInt8) (b0 b1 : Nat) (W : World) (hn : n = l.length) (hm' : m' = m.length) (hA : Bytes W b0 A l) (hB : Bytes W b1 B m) (hl : l.length ≤ maxLen) (hm : m.length ≤ maxLen) :
    Calls Try.prog 14 #[.slice A n ca, .slice B m' cb] W fun e W' => e = .returned (.bool (l == m)) ∧ Drawn W W' := by
  subst hn hm'
  exact refSame_any A B ca cb l m b0 b1 W hA hB hl hm

set_option maxHeartbeats 1500000 in
/-- OctetJoins -/
theorem OctetJoins_any (P B : Option Addr) (cp cb : Nat) (ls : List (List UInt8)) (l : List UInt8) (n : Int) (W : World) (hP : Texts W W.heap.size P ls) (hB : Bytes W W.heap.size B l) (hn : ls.length ≤ 140737488355328) (hc : l.length ≤ cb) (hcm : cb ≤ maxLen) (hl : l.length ≤ 140737488355328)
    (ht : ∀ i, i < ls.length → (nthT ls i).length ≤ 140737488355328) :
    Calls Try.prog 10 #[.slice P ls.length cp, .slice B l.length cb, .int .i64 n] W fun e W' => e = .returned (.bool true) ∧ Below W.heap.size W W' := by
  by_cases h50 : 50 < ls.length
  · go_enter Try.func10, Try.ntmps10
    go_wp2_with fail
    refine (live_any _).mono ?_
    rintro e w8 ⟨rfl, hb8⟩
    go_wp2_with fail
    go_ret
    exact ⟨rfl, hb8⟩
  · go_enter Try.func10, Try.ntmps10
    go_wp2_with fail
    go_loop [7, 8] (fun s i => ∃ k : Nat, k ≤ ls.length ∧ i = .int .i64 k ∧ s = .int .i64 (tot ls k) ∧ tot ls k ≤ 4000) (fun _ i => ls.length - (intOf i).toNat)
    case atStart => exact ⟨0, Nat.zero_le _, rfl, rfl, by simp [tot, flat]⟩
    case round =>
      obtain ⟨k, hk, rfl, rfl, h4⟩ := hrel
      by_cases hlt : k < ls.length
      · obtain ⟨b, off, Ai, ci, rfl, _, hcell, _, _, _⟩ := hP.at_ hlt
        have hs := tot_next ls k hlt
        have hti := ht k hlt
        have HS := Lib.hid hs
        clear hs
        by_cases hbig : 4000 < tot ls k + (nthT ls k).length
        · go_wp2_with fail
          refine (live_any _).mono ?_
          rintro e w8 ⟨rfl, hb8⟩
          go_wp2_with fail
          go_ret
          exact ⟨rfl, hb8⟩
        · go_wp2_with fail
          go_round
          case rel => exact ⟨k + 1, by omega, by go_num, by rw [HS.out]; go_num, by rw [HS.out]; omega⟩
          case measure => simp [intOf]; omega
      · obtain rfl : k = ls.length := by omega
        have htot : ls.flatten.length ≤ 4000 := by unfold tot at h4; rw [flat_all] at h4; exact h4
        clear hlt hk h4
        obtain ⟨fl, hfl⟩ : ∃ fl, fl = ls.flatten := ⟨_, rfl⟩
        have HT := Lib.hid htot
        rw [← hfl] at htot
        have HF := Lib.hid hfl
        clear hfl
        by_cases hin : 0 ≤ n ∧ n ≤ l.length
        · obtain ⟨k, rfl⟩ : ∃ k : Nat, (k : Int) = n := ⟨n.toNat, by omega⟩
          have hk : k ≤ l.length := by omega
          clear hin
          have HY := Lib.hid (cut_yes hk)
          have hta : (l.take k).length = k := by rw [List.length_take]; omega
          have htb : (l.drop k).length = l.length - k := List.length_drop
          have HTA := Lib.hid hta; have HTB := Lib.hid htb
          have HAB := Lib.hid (show [l.take k, l.drop k].flatten = l by simp)
          clear hta htb
          by_cases hck : cb = k
          · have hk2 : k = l.length := by omega
            subst hk2
            subst hck
            go_wp2_with fail
            refine (Cut_any B _ l _ _ hB hc hcm hl).mono ?_
            rw [HY.out.1, HY.out.2.1, HY.out.2.2]
            rintro e w1 ⟨vx, vy, rfl, hox, hoy, hb1⟩
            obtain ⟨Ax, cx, rfl, hx1, hx2, _⟩ := hox.shape
            obtain ⟨Ay, cy, rfl, hy1, hy2, _⟩ := hoy.shape
            rw [HTA.out, HTB.out]
            go_wp2_with fail
            refine (Join_any P cp ls _ (hP.later hb1) hn (by have := HT.out; omega)).mono ?_
            rw [← HF.out]
            rintro e w2 ⟨vj, rfl, hoj, hb2⟩
            obtain ⟨Aj, cj, rfl, _, _, _⟩ := hoj.shape
            have hb12 := below_next hb1 hb2
            go_wp2_with fail
            refine (refSame_n Ax B _ _ cx _ (l.take l.length) (l.take l.length) _ _ _ HTA.out.symm HTA.out.symm (hox.later hb2) ((hB.later hb12).take hk) (by have := HTA.out; unfold maxLen; omega) (by have := HTA.out; unfold maxLen; omega)).mono ?_
            rintro e w3 ⟨rfl, hd3⟩
            have hb23 := hd3.below w2.heap.size
            have hb13 := below_next hb12 hb23
            clear hd3
            go_wp2_with fail
            refine (refSame_n Ay _ _ _ cy _ (l.drop l.length) (l.drop l.length) _ _ _ (show 0 = (l.drop l.length).length by simp) (show 0 = (l.drop l.length).length by simp) (hoy.later (below_next hb2 hb23)) (by rw [List.drop_length]; exact Bytes.nil _ 0 _) (by rw [List.drop_length]; exact Nat.zero_le _) (by rw [List.drop_length]; exact Nat.zero_le _)).mono ?_
            rintro e w4 ⟨rfl, hd4⟩
            have hb34 := hd4.below w3.heap.size
            have hb14 := below_next hb13 hb34
            clear hd4
            have hb24 := below_next hb23 hb34
            go_wp2_with fail
            have hxt := hox.text
            rw [HTA.out] at hxt
            have hyt := hoy.text
            rw [show (l.drop l.length).length = 0 by simp] at hyt
            refine (Join_any (some ⟨w4.heap.size, 0, none⟩) 2 [l.take l.length, l.drop l.length] _ (texts2 22 _ _ rfl (hxt.later (below_next hb2 hb24)) (hyt.later (below_next hb2 hb24))) (by simp) (by rw [HAB.out]; exact hl)).mono ?_
            rw [HAB.out]
            rintro e w5 ⟨vz, rfl, hoz, hbz⟩
            have hb45 := below_next (below_alloc (Below.refl w4.heap.size w4) _) hbz
            clear hbz
            have hb15 := below_next hb14 hb45
            have hb25 := below_next hb24 hb45
            obtain ⟨Az, cz, rfl, _, _, _⟩ := hoz.shape
            go_wp2_with fail
            refine (refSame_any Az B cz _ l l _ _ _ hoz.bytes (hB.later hb15) (by unfold maxLen; omega) (by unfold maxLen; omega)).mono ?_
            rintro e w6 ⟨rfl, hd6⟩
            have hb56 := hd6.below w5.heap.size
            have hb16 := below_next hb15 hb56
            have hb26 := below_next hb25 hb56
            clear hd6
            go_wp2_with fail
            refine (refJoin_any P cp ls _ (hP.later hb16) hn (by have := HT.out; omega)).mono ?_
            rw [← HF.out]
            rintro e w7 ⟨vr, rfl, hor, hb67⟩
            have hb17 := below_next hb16 hb67
            have hb27 := below_next hb26 hb67
            obtain ⟨Ar, cr, rfl, _, _, _⟩ := hor.shape
            go_wp2_with fail
            refine (refSame_any Aj Ar cj cr _ _ _ _ _ (hoj.later hb27) hor.bytes (by unfold maxLen; omega) (by unfold maxLen; omega)).mono ?_
            rintro e w8 ⟨rfl, hd8⟩
            have hb78 := hd8.below w7.heap.size
            have hb18 := below_next hb17 hb78
            have hb28 := below_next hb27 hb78
            clear hd8
            go_wp2_with fail
            refine (Same_any Aj B cj _ fl l _ _ _ (hoj.later hb28) (hB.later hb18)).mono ?_
            rintro e w9 ⟨rfl, rfl⟩
            go_wp2_with fail
            refine (refSame_any Aj B cj _ fl l _ _ _ (hoj.later hb28) (hB.later hb18) (by unfold maxLen; omega) (by unfold maxLen; omega)).mono ?_
            rintro e w10 ⟨rfl, hd10⟩
            have hb110 := below_next hb18 (hd10.below w8.heap.size)
            clear hd10
            go_wp2_with fail
            refine (live_any _).mono ?_
            rintro e w11 ⟨rfl, hb11⟩
            go_wp2_with fail
            go_ret
            exact ⟨rfl, below_next hb110 hb11⟩
          · go_wp2_with fail
            refine (Cut_any B cb l k _ hB hc hcm hl).mono ?_
            rw [HY.out.1, HY.out.2.1, HY.out.2.2]
            rintro e w1 ⟨vx, vy, rfl, hox, hoy, hb1⟩
            obtain ⟨Ax, cx, rfl, hx1, hx2, _⟩ := hox.shape
            obtain ⟨Ay, cy, rfl, hy1, hy2, _⟩ := hoy.shape
            rw [HTA.out, HTB.out]
            go_wp2_with fail
            refine (Join_any P cp ls _ (hP.later hb1) hn (by have := HT.out; omega)).mono ?_
            rw [← HF.out]
            rintro e w2 ⟨vj, rfl, hoj, hb2⟩
            obtain ⟨Aj, cj, rfl, _, _, _⟩ := hoj.shape
            have hb12 := below_next hb1 hb2
            go_wp2_with fail
            refine (refSame_n Ax B k k cx cb (l.take k) (l.take k) _ _ _ HTA.out.symm HTA.out.symm (hox.later hb2) ((hB.later hb12).take hk) (by have := HTA.out; unfold maxLen; omega) (by have := HTA.out; unfold maxLen; omega)).mono ?_
            rintro e w3 ⟨rfl, hd3⟩
            have hb23 := hd3.below w2.heap.size
            have hb13 := below_next hb12 hb23
            clear hd3
            go_wp2_with fail
            refine (refSame_n Ay _ _ _ cy _ (l.drop k) (l.drop k) _ _ _ HTB.out.symm HTB.out.symm (hoy.later (below_next hb2 hb23)) ((hB.later hb13).drop hk) (by have := HTB.out; unfold maxLen; omega) (by have := HTB.out; unfold maxLen; omega)).mono ?_
            rintro e w4 ⟨rfl, hd4⟩
            have hb34 := hd4.below w3.heap.size
            have hb14 := below_next hb13 hb34
            clear hd4
            have hb24 := below_next hb23 hb34
            go_wp2_with fail
            have hxt := hox.text
            rw [HTA.out] at hxt
            have hyt := hoy.text
            rw [HTB.out] at hyt
            refine (Join_any (some ⟨w4.heap.size, 0, none⟩) 2 [l.take k, l.drop k] _ (texts2 22 _ _ rfl (hxt.later (below_next hb2 hb24)) (hyt.later (below_next hb2 hb24))) (by simp) (by rw [HAB.out]; exact hl)).mono ?_
            rw [HAB.out]
            rintro e w5 ⟨vz, rfl, hoz, hbz⟩
            have hb45 := below_next (below_alloc (Below.refl w4.heap.size w4) _) hbz
            clear hbz
            have hb15 := below_next hb14 hb45
            have hb25 := below_next hb24 hb45
            obtain ⟨Az, cz, rfl, _, _, _⟩ := hoz.shape
            go_wp2_with fail
            refine (refSame_any Az B cz cb l l _ _ _ hoz.bytes (hB.later hb15) (by unfold maxLen; omega) (by unfold maxLen; omega)).mono ?_
            rintro e w6 ⟨rfl, hd6⟩
            have hb56 := hd6.below w5.heap.size
            have hb16 := below_next hb15 hb56
            have hb26 := below_next hb25 hb56
            clear hd6
            go_wp2_with fail
            refine (refJoin_any P cp ls _ (hP.later hb16) hn (by have := HT.out; omega)).mono ?_
            rw [← HF.out]
            rintro e w7 ⟨vr, rfl, hor, hb67⟩
            have hb17 := below_next hb16 hb67
            have hb27 := below_next hb26 hb67
            obtain ⟨Ar, cr, rfl, _, _, _⟩ := hor.shape
            go_wp2_with fail
            refine (refSame_any Aj Ar cj cr _ _ _ _ _ (hoj.later hb27) hor.bytes (by unfold maxLen; omega) (by unfold maxLen; omega)).mono ?_
            rintro e w8 ⟨rfl, hd8⟩
            have hb78 := hd8.below w7.heap.size
            have hb18 := below_next hb17 hb78
            have hb28 := below_next hb27 hb78
            clear hd8
            go_wp2_with fail
            refine (Same_any Aj B cj cb fl l _ _ _ (hoj.later hb28) (hB.later hb18)).mono ?_
            rintro e w9 ⟨rfl, rfl⟩
            go_wp2_with fail
            refine (refSame_any Aj B cj cb fl l _ _ _ (hoj.later hb28) (hB.later hb18) (by unfold maxLen; omega) (by unfold maxLen; omega)).mono ?_
            rintro e w10 ⟨rfl, hd10⟩
            have hb110 := below_next hb18 (hd10.below w8.heap.size)
            clear hd10
            go_wp2_with fail
            refine (live_any _).mono ?_
            rintro e w11 ⟨rfl, hb11⟩
            go_wp2_with fail
            go_ret
            exact ⟨rfl, below_next hb110 hb11⟩
        · have HY := Lib.hid (cut_no hin)
          by_cases h0 : n < 0
          all_goals
            first | (have h1 : (l.length : Int) < n := by omega) | skip
            clear hin
            go_wp2_with fail
            refine (Cut_any B cb l n _ hB hc hcm hl).mono ?_
            rw [HY.out.1, HY.out.2.1, HY.out.2.2]
            rintro e w1 ⟨vx, vy, rfl, hox, hoy, hb1⟩
            obtain ⟨Ax, cx, rfl, hx1, hx2, _⟩ := hox.shape
            obtain ⟨Ay, cy, rfl, hy1, hy2, _⟩ := hoy.shape
            go_wp2_with fail
            refine (Join_any P cp ls _ (hP.later hb1) hn (by have := HT.out; omega)).mono ?_
            rw [← HF.out]
            rintro e w2 ⟨vj, rfl, hoj, hb2⟩
            obtain ⟨Aj, cj, rfl, _, _, _⟩ := hoj.shape
            have hb12 := below_next hb1 hb2
            go_wp2_with fail
            refine (refJoin_any P cp ls _ (hP.later hb12) hn (by have := HT.out; omega)).mono ?_
            rw [← HF.out]
            rintro e w7 ⟨vr, rfl, hor, hb67⟩
            have hb17 := below_next hb12 hb67
            obtain ⟨Ar, cr, rfl, _, _, _⟩ := hor.shape
            go_wp2_with fail
            refine (refSame_any Aj Ar cj cr _ _ _ _ _ (hoj.later hb67) hor.bytes (by unfold maxLen; omega) (by unfold maxLen; omega)).mono ?_
            rintro e w8 ⟨rfl, hd8⟩
            have hb18 := below_next hb17 (hd8.below w7.heap.size)
            go_wp2_with fail
            refine (live_any _).mono ?_
            rintro e w11 ⟨rfl, hb11⟩
            go_wp2_with fail
            go_ret
            exact ⟨rfl, below_next hb18 hb11⟩
end Go.Proofs.Ytknpengboappiaa.Oct
