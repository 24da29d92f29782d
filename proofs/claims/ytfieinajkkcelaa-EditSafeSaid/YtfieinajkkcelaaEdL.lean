
/- Layer 6 (edit): the page's examples, and the statements. (live: UNDER WAY) -/
import Derived.Test.YtfieinajkkcelaaEdK
import Derived.Test.YtfieinajkkcelaaOctB
namespace Go.Proofs.Ytfieinajkkcelaa.Ed
open Go.RowKit Go.Proofs.Ytfieinajkkcelaa.Mem Go.Proofs.Ytfieinajkkcelaa.Oct Go.Proofs.Ytfieinajkkcelaa.Pkt Go.Proofs.Ytfieinajkkcelaa.Def

theorem page_do : do1 [1, 2, 3] [(1, 1, 9), (2, 3, 0)] = [1, 9, 2] := by decide
theorem page_mild : mild1 [126, 1, 2, 126] [(0, 1, 5)] = true := by decide
theorem page_not : mild1 [126, 1, 2, 126] [(0, 0, 5)] = false := by decide
/-- edits that a literal laid -/
theorem eds_lit (w : World) (T : TypeId) (es : List Edt) (cs : Array Value) (hcs : cs = (es.flatMap fun x => [Value.int .i64 x.1, .int .i64 x.2.1, .int .u8 (x.2.2.toNat : Int)]).toArray) (w' : World) (hw : w' = w.alloc (.cells cs T)) :
    Eds w' w'.heap.size (some ⟨w.heap.size, 0, none⟩) es := by
  subst hcs hw
  intro _
  refine ⟨w.heap.size, 0, rfl, by simp, fun i hi => ?_⟩
  have key : ∀ (es : List Edt) (i : Nat), i < es.length → let F := es.flatMap fun x => [Value.int .i64 x.1, .int .i64 x.2.1, .int .u8 (x.2.2.toNat : Int)]
      F[i * 3]? = some (.int .i64 (nthE es i).1) ∧ F[i * 3 + 1]? = some (.int .i64 (nthE es i).2.1) ∧ F[i * 3 + 2]? = some (.int .u8 ((nthE es i).2.2.toNat : Int)) := by
    intro es
    induction es with
    | nil => intro i hi; simp at hi
    | cons x es ih =>
      intro i hi
      cases i with
      | zero => simp [nthE]
      | succ i =>
        have := ih i (by simpa using hi)
        simp only [List.flatMap_cons, Nat.succ_mul]
        rw [List.getElem?_append_right (by simp), List.getElem?_append_right (by simp), List.getElem?_append_right (by simp)]
        simpa [nthE, Nat.add_sub_cancel, show i * 3 + 3 + 1 - 3 = i * 3 + 1 by omega, show i * 3 + 3 + 2 - 3 = i * 3 + 2 by omega] using this
  have hk := key es i hi
  rw [World.cell?_alloc_at _ _ w.heap.size _ rfl, World.cell?_alloc_at _ _ w.heap.size _ rfl, World.cell?_alloc_at _ _ w.heap.size _ rfl]
  simpa using hk

/-- equal texts, of lengths that are told -/
theorem same_at (A B : Option Addr) (n n' ca cb : Nat) (l m : List UInt8) (W : World) (hn : n = l.length) (hn' : n' = m.length) (hA : Bytes W W.heap.size A l) (hB : Bytes W W.heap.size B m) (hl : l.length ≤ maxLen) (hm : m.length ≤ maxLen) :
    Calls Try.prog 23 #[.slice A n ca, .slice B n' cb] W (IsB W (l == m)) := by
  subst hn hn'
  refine (Oct.refSame_any A B ca cb l m _ _ W hA hB hl hm).mono ?_
  rintro e w ⟨he, hd⟩
  exact ⟨he, hd.below _⟩

set_option maxHeartbeats 4000000 in
theorem live_any (W : World) : Calls Try.prog 26 #[] W fun e W' => e = .returned (.bool true) ∧ Below W.heap.size W W' := by
  obtain ⟨w2, hw2⟩ : ∃ w2, w2 = (W.alloc (.cells #[.int .u8 1, .int .u8 2, .int .u8 3] 5)).alloc (.cells #[.int .i64 1, .int .i64 1, .int .u8 9, .int .i64 2, .int .i64 3, .int .u8 0] 66) := ⟨_, rfl⟩
  have hb2 : Below W.heap.size W w2 := by rw [hw2]; exact below_alloc (below_alloc (Below.refl _ _) _) _
  have hby := (lit_bytes 5 W [1, 2, 3] #[.int .u8 1, .int .u8 2, .int .u8 3] rfl (by simp [maxLen]))
  have hD := Do_any (some ⟨W.heap.size, 0, none⟩) (some ⟨W.heap.size + 1, 0, none⟩) 3 3 2 [1, 2, 3] [(1, 1, 9), (2, 3, 0)] w2 rfl (by rw [hw2]; exact hby.later (below_alloc (Below.refl _ _) _)) (by
    have := eds_lit (W.alloc (.cells #[.int .u8 1, .int .u8 2, .int .u8 3] 5)) 66 [(1, 1, 9), (2, 3, 0)] _ rfl w2 hw2
    simpa using this) (by simp) (by simp)
  rw [page_do] at hD
  have HD := Lib.hid hD
  have HB2 := Lib.hid hb2
  clear hD hb2 hby
  go_enter Try.func26, Try.ntmps26
  go_wp2_with fail
  rw [← hw2]
  refine HD.out.mono ?_
  rintro e w3 ⟨v3, rfl, ho3, hb3⟩
  obtain ⟨A3, c3, hv3, _, _, _⟩ := ho3.shape
  replace hv3 : v3 = .slice A3 3 c3 := hv3
  subst hv3
  obtain ⟨w4, hw4⟩ : ∃ w4, w4 = w3.alloc (.cells #[.int .u8 126, .int .u8 1, .int .u8 2, .int .u8 126] 5) := ⟨_, rfl⟩
  have hb4 : Below w3.heap.size w3 w4 := by rw [hw4]; exact below_alloc (Below.refl _ _) _
  have hpg : Bytes w4 w4.heap.size (some ⟨w3.heap.size, 0, none⟩) [126, 1, 2, 126] := by rw [hw4]; exact lit_bytes 5 w3 [126, 1, 2, 126] _ rfl (by simp [maxLen])
  have hl4 := lit_bytes 5 w4 [1, 9, 2] #[.int .u8 1, .int .u8 9, .int .u8 2] rfl (by simp [maxLen])
  have hb5 := below_alloc (Below.refl w4.heap.size w4) (.cells #[.int .u8 1, .int .u8 9, .int .u8 2] 5)
  have e4 : w4.heap.size = w3.heap.size + 1 := by rw [hw4]; simp
  rw [e4] at hl4
  have HSM := Lib.hid (same_at A3 (some ⟨w3.heap.size + 1, 0, none⟩) 3 3 c3 3 [1, 9, 2] [1, 9, 2] _ rfl rfl (ho3.later (below_next hb4 hb5)) hl4 (by simp [maxLen]) (by simp [maxLen]))
  have HPG := Lib.hid (hpg.later hb5)
  have HB5 := Lib.hid (below_next (below_next (below_next HB2.out hb3) hb4) hb5)
  have hq3 : w3.heap.size < w4.heap.size := by rw [hw4]; simp
  have HW4 := Lib.hid hw4
  clear ho3 hb3 hb4 hpg hl4 hb5 hw2 hw4 e4
  go_wp2_with fail
  rw [← HW4.out]
  refine HSM.out.mono ?_
  rintro e w5 ⟨rfl, hb5⟩
  have hb05 := below_next HB5.out hb5
  have hp5 := HPG.out.later hb5
  obtain ⟨w6, hw6⟩ : ∃ w6, w6 = w5.alloc (.cells #[.int .i64 0, .int .i64 1, .int .u8 5] 66) := ⟨_, rfl⟩
  have hb6 : Below w5.heap.size w5 w6 := by rw [hw6]; exact below_alloc (Below.refl _ _) _
  have hE6 : Eds w6 w6.heap.size (some ⟨w5.heap.size, 0, none⟩) [(0, 1, 5)] := eds_lit w5 66 [(0, 1, 5)] _ rfl w6 hw6
  have hM6 := Mild_any (some ⟨w3.heap.size, 0, none⟩) (some ⟨w5.heap.size, 0, none⟩) 4 4 1 [126, 1, 2, 126] [(0, 1, 5)] w6 rfl (hp5.later hb6) hE6 (by simp) (by simp)
  rw [page_mild] at hM6
  have HM6 := Lib.hid hM6
  have HP6 := Lib.hid (hp5.later hb6)
  have HB06 := Lib.hid (below_next hb05 hb6)
  have HQ5 := Lib.hid (show w4.heap.size < w5.heap.size from Nat.lt_of_lt_of_le (by simp) hb5.size)
  have HW6 := Lib.hid hw6
  clear hb5 hb05 hp5 hb6 hE6 hM6 hw6
  go_wp2_with fail
  rw [← HW6.out]
  refine HM6.out.mono ?_
  rintro e w7 ⟨rfl, hb7⟩
  obtain ⟨w8, hw8⟩ : ∃ w8, w8 = w7.alloc (.cells #[.int .i64 0, .int .i64 0, .int .u8 5] 66) := ⟨_, rfl⟩
  have hb8 : Below w7.heap.size w7 w8 := by rw [hw8]; exact below_alloc (Below.refl _ _) _
  have hp8 := (HP6.out.later hb7).later hb8
  have hE8 : Eds w8 w8.heap.size (some ⟨w7.heap.size, 0, none⟩) [(0, 0, 5)] := eds_lit w7 66 [(0, 0, 5)] _ rfl w8 hw8
  have hM8 := Mild_any (some ⟨w3.heap.size, 0, none⟩) (some ⟨w7.heap.size, 0, none⟩) 4 4 1 [126, 1, 2, 126] [(0, 0, 5)] w8 rfl hp8 hE8 (by simp) (by simp)
  rw [page_not] at hM8
  have HM8 := Lib.hid hM8
  have HB08 := Lib.hid (below_next (below_next HB06.out hb7) hb8)
  have HW8 := Lib.hid hw8
  clear hb7 hb8 hp8 hE8 hM8 hw8
  go_wp2_with fail
  rw [← HW8.out]
  refine HM8.out.mono ?_
  rintro e w9 ⟨rfl, hb9⟩
  have hb09 := below_next HB08.out hb9
  have hba := below_alloc (below_alloc (Below.refl w9.heap.size w9) (.cells #[.int .u8 1] 5)) (.cells #[.int .u8 2] 5)
  have HBT := Lib.hid (Between_one w9.heap.size (w9.heap.size + 1) ((w9.alloc (.cells #[.int .u8 1] 5)).alloc (.cells #[.int .u8 2] 5)) (by rw [(below_alloc (Below.refl _ _) _).cell (p := ⟨w9.heap.size, 0, none⟩) (by simp)]; simp [go_sem]) (by rw [World.cell?_alloc_at _ _ _ _ (by simp)]; simp) (by simp; omega) (by simp))
  have HB := Lib.hid (below_next hb09 hba)
  clear hb9 hb09 hba
  go_wp2_with fail
  refine HBT.out.mono ?_
  rintro e w10 ⟨A10, c10, rfl, hb10⟩
  have HB10 := Lib.hid (below_next HB.out hb10)
  clear hb10
  go_wp2_with fail
  refine (Forged_nil _ _ _).mono ?_
  rintro e w11 ⟨rfl, rfl⟩
  go_wp2
  go_ret
  exact ⟨rfl, HB10.out⟩
end Go.Proofs.Ytfieinajkkcelaa.Ed
