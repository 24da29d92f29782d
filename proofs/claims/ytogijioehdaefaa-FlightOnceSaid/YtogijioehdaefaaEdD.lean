
/- Layer 6 (edit): one edit of bytes that are the call's own. -/
import Derived.Test.YtogijioehdaefaaEdC
namespace Go.Proofs.Ytogijioehdaefaa.Ed
open Go.RowKit Go.Lib Go.Proofs.Ytogijioehdaefaa.Mem Go.Proofs.Ytogijioehdaefaa.Oct Go.Proofs.Ytogijioehdaefaa.Pkt Go.Proofs.Ytogijioehdaefaa.Def

/-- an edit of bytes -/
def one1 (l : List UInt8) (k a : Int) (c : UInt8) : List UInt8 :=
  if a < 0 ∨ (l.length : Int) < a then l
  else if k = 1 then (if l.length < 512 then l.take a.toNat ++ c :: l.drop a.toNat else l)
  else if k = 3 then l.take a.toNat
  else if k = 2 then (if a < (l.length : Int) then l.take a.toNat ++ l.drop (a.toNat + 1) else l)
  else if k = 0 then (if a < (l.length : Int) then l.set a.toNat c else l)
  else l
theorem one1_len (l : List UInt8) (k a : Int) (c : UInt8) : (one1 l k a c).length ≤ max l.length 512 := by
  unfold one1
  (repeat' split) <;> first | omega | (simp only [List.length_append, List.length_take, List.length_cons, List.length_drop, List.length_set]; omega)

/-- the answer: bytes of the call's own, what is older than these stands -/
def OneAt (W : World) (base : Nat) (l' : List UInt8) (e : Ending) (w' : World) : Prop :=
  ∃ v', e = .returned v' ∧ Own 5 w' base v' l' ∧ Chg (fun k => base ≤ k) W w'
theorem oneAt_mk {W w' : World} {base : Nat} {l' : List UInt8} {v' : Value} (h : Own 5 w' base v' l') (hc : Chg (fun k => base ≤ k) W w') : OneAt W base l' (.returned v') w' := ⟨v', rfl, h, hc⟩
theorem own_take {E : TypeId} {w : World} {base g n cap : Nat} {l : List UInt8} (h : Own E w base (.slice (some ⟨g, 0, none⟩) n cap) l) (i : Nat) (hi : i ≤ l.length) : Own E w base (.slice (some ⟨g, 0, none⟩) i cap) (l.take i) := by
  obtain ⟨cur, hg, hb, hn, hc, hm, hcs, htk⟩ := own_row h
  refine own_of_row hg hb (by simp; omega) (by omega) hm hcs ?_
  have : cur.toList.take i = (cur.toList.take n).take i := by rw [List.take_take]; congr 1; omega
  rw [this, htk, ← List.map_take]
theorem chg_new (base : Nat) (W : World) (o : Obj) : Chg (fun k => base ≤ k) W (W.alloc o) := (chg_alloc W o).mono fun _ h => h.elim

set_option maxHeartbeats 4000000 in
theorem one_any (v0 : Value) (k a : Int) (c : UInt8) (base : Nat) (l : List UInt8) (W : World) (ho : Own 5 W base v0 l) (hB : base ≤ W.heap.size) (hl : l.length ≤ 1000000) :
    Calls Try.prog 35 #[v0, .agg #[.int .i64 k, .int .i64 a, .int .u8 (c.toNat : Int)]] W (OneAt W base (one1 l k a c)) := by
  have hoa := ho.alloc (.cells #[.int .i64 k, .int .i64 a, .int .u8 (c.toNat : Int)] 78)
  have hca := chg_new base W (.cells #[.int .i64 k, .int .i64 a, .int .u8 (c.toNat : Int)] 78)
  obtain ⟨A, cap, rfl, hc, hm, hnl⟩ := ho.shape
  have HO := Lib.hid hoa
  have HC := Lib.hid hca
  by_cases h1 : a < 0
  · have he : one1 l k a c = l := by unfold one1; rw [if_pos (.inl h1)]
    rw [he]
    clear ho hoa hca hnl
    go_enter Try.func35, Try.ntmps35
    go_wp2_with fail
    go_ret
    exact oneAt_mk HO.out HC.out
  by_cases h2 : (l.length : Int) < a
  · have he : one1 l k a c = l := by unfold one1; rw [if_pos (.inr h2)]
    rw [he]
    clear ho hoa hca hnl
    go_enter Try.func35, Try.ntmps35
    go_wp2_with fail
    go_ret
    exact oneAt_mk HO.out HC.out
  obtain ⟨i, rfl⟩ : ∃ i : Nat, a = i := ⟨a.toNat, by omega⟩
  have hi : i ≤ l.length := by omega
  have hn1 : ¬ ((i : Int) < 0 ∨ (l.length : Int) < (i : Int)) := by omega
  by_cases hk1 : k = 1
  · subst hk1
    by_cases h5 : l.length < 512
    · have he : one1 l 1 i c = l.take i ++ c :: l.drop i := by unfold one1; rw [if_neg hn1, if_pos rfl, if_pos h5, Int.toNat_natCast]
      rw [he]
      have h5I : (l.length : Int) < 512 := by omega
      obtain ⟨w1, hw1⟩ : ∃ w1, w1 = (W.alloc (.cells #[.int .i64 1, .int .i64 i, .int .u8 (c.toNat : Int)] 78)).alloc (.cells #[.int .u8 (c.toNat : Int)] 5) := ⟨_, rfl⟩
      have HI := Lib.hid (Insert_any (.slice A l.length cap) c i (W.heap.size + 1) 1 base l w1 (by rw [hw1]; exact hoa.alloc _) (by rw [hw1]; simp; omega) (by rw [hw1]; show ((W.heap.push _).push _)[W.heap.size + 1]? = _; rw [Array.getElem?_push, if_pos (by simp)]; rfl) (fun hq => by have := (ho.lt _ hq).2; omega) hi hl)
      have HC1 := Lib.hid (show Chg (fun k => base ≤ k) W w1 by rw [hw1]; exact hca.trans (chg_new _ _ _))
      have hpost : ∀ e w', (∃ v', e = .returned v' ∧ Own 5 w' base v' (l.take i ++ c :: l.drop i) ∧ Chg (fun k => base ≤ k) w1 w') → OneAt W base (l.take i ++ c :: l.drop i) e w' := fun e w' ⟨v', h1, h2, h3⟩ => ⟨v', h1, h2, HC1.out.trans h3⟩
      have HP := Lib.hid hpost
      clear ho hoa hca hnl HO HC hpost
      go_enter Try.func35, Try.ntmps35
      go_wp2_with fail
      rw [← hw1]
      refine HI.out.mono ?_
      rintro e w2 ⟨v', rfl, hq⟩
      have HQ := Lib.hid (HP.out _ w2 ⟨v', rfl, hq⟩)
      clear hq
      go_wp2_with fail
      go_ret
      exact HQ.out
    · have he : one1 l 1 i c = l := by unfold one1; rw [if_neg hn1, if_pos rfl, if_neg h5]
      rw [he]
      have h5I : ¬ (l.length : Int) < 512 := by omega
      clear ho hoa hca hnl
      go_enter Try.func35, Try.ntmps35
      go_wp2_with fail
      go_ret
      exact oneAt_mk HO.out HC.out
  by_cases hk3 : k = 3
  · subst hk3
    have he : one1 l 3 i c = l.take i := by unfold one1; rw [if_neg hn1, if_neg hk1, if_pos rfl, Int.toNat_natCast]
    rw [he]
    have hcI : (i : Int) ≤ (cap : Int) := by omega
    rcases ho.2 with ⟨hv, _⟩ | ⟨g, cap', cur, hv, _⟩
    · simp only [Value.slice.injEq] at hv
      obtain ⟨rfl, hl0, rfl⟩ := hv
      obtain rfl := List.eq_nil_of_length_eq_zero hl0
      obtain rfl : i = 0 := by simpa using hi
      clear ho hoa hca hnl
      go_enter Try.func35, Try.ntmps35
      go_wp2_with fail
      go_ret
      exact oneAt_mk HO.out HC.out
    · simp only [Value.slice.injEq, true_and] at hv
      obtain ⟨rfl, rfl⟩ := hv
      have HO2 := Lib.hid (own_take hoa i hi)
      clear ho hoa hca hnl
      go_enter Try.func35, Try.ntmps35
      go_wp2_with fail
      go_ret
      exact oneAt_mk HO2.out HC.out
  by_cases hil : i < l.length
  · have hiI : (i : Int) < (l.length : Int) := by omega
    rcases ho.2 with ⟨hv, _⟩ | ⟨g, cap', cur, hv, _⟩
    · simp only [Value.slice.injEq] at hv
      omega
    simp only [Value.slice.injEq, true_and] at hv
    obtain ⟨rfl, rfl⟩ := hv
    by_cases hk2 : k = 2
    · subst hk2
      have he : one1 l 2 i c = l.take i ++ l.drop (i + 1) := by unfold one1; rw [if_neg hn1, if_neg hk1, if_neg hk3, if_pos rfl, if_pos hiI, Int.toNat_natCast]
      rw [he]
      have HI := Lib.hid (Delete_any g l.length cap i base l _ hoa hil hl)
      have hbg := (ho.lt g rfl).1
      have hpost : ∀ e w', (e = .returned (.slice (some ⟨g, 0, none⟩) (l.length - 1) cap) ∧ Own 5 w' base (.slice (some ⟨g, 0, none⟩) (l.length - 1) cap) (l.take i ++ l.drop (i + 1)) ∧ Chg (fun k => k = g) (W.alloc (.cells #[.int .i64 2, .int .i64 i, .int .u8 (c.toNat : Int)] 78)) w') → OneAt W base (l.take i ++ l.drop (i + 1)) e w' :=
        fun e w' ⟨h1, h2, h3⟩ => ⟨_, h1, h2, HC.out.trans (h3.mono fun k hk => by subst hk; exact hbg)⟩
      have HP := Lib.hid hpost
      have hw : IntKind.i64.wrap ((i : Int) + 1) = (i : Int) + 1 := by rw [IntKind.wrap_i64]; omega
      clear ho hoa hca hnl HO HC hpost
      go_enter Try.func35, Try.ntmps35
      go_wp2_with fail
      refine HI.out.mono ?_
      rintro e w2 ⟨rfl, hq⟩
      have HQ := Lib.hid (HP.out _ w2 ⟨rfl, hq⟩)
      clear hq
      go_wp2_with fail
      go_ret
      exact HQ.out
    · by_cases hk0 : k = 0
      · subst hk0
        have he : one1 l 0 i c = l.set i c := by unfold one1; rw [if_neg hn1, if_neg hk1, if_neg hk3, if_neg hk2, if_pos rfl, if_pos hiI, Int.toNat_natCast]
        rw [he]
        have hgW := (ho.lt g rfl).2
        have hcell := Own.cellAt ho hil
        have hset := (ho.set i c).alloc (.cells #[.int .i64 0, .int .i64 i, .int .u8 (c.toNat : Int)] 78)
        have hfz : W.frozen? ⟨g, i, none⟩ = false := by
          obtain ⟨cur, hg, _⟩ := own_row ho
          simp [World.frozen?, hg]
        have HS := Lib.hid hset
        have hbg := (ho.lt g rfl).1
        have HC2 := Lib.hid (((chg_set W ⟨g, i, none⟩ (.int .u8 (c.toNat : Int))).mono (r := fun k => base ≤ k) fun k hk => by subst hk; exact hbg).trans (chg_new base _ (.cells #[.int .i64 0, .int .i64 i, .int .u8 (c.toNat : Int)] 78)))
        have hne : ¬ (g = W.heap.size) := by omega
        have hne2 : ¬ (W.heap.size = g) := by omega
        clear ho hoa hca hnl HO HC hset hbg
        go_enter Try.func35, Try.ntmps35
        go_wp2_with fail
        go_ret
        exact oneAt_mk HS.out HC2.out
      · have he : one1 l k i c = l := by unfold one1; rw [if_neg hn1, if_neg hk1, if_neg hk3, if_neg hk2, if_neg hk0]
        rw [he]
        clear ho hoa hca hnl
        go_enter Try.func35, Try.ntmps35
        go_wp2_with fail
        go_ret
        exact oneAt_mk HO.out HC.out
  · have hiI : ¬ (i : Int) < (l.length : Int) := by omega
    have he : one1 l k i c = l := by
      unfold one1
      rw [if_neg hn1, if_neg hk1, if_neg hk3]
      (repeat' split) <;> first | rfl | omega
    rw [he]
    clear ho hoa hca hnl
    by_cases hk2 : k = 2
    · subst hk2
      go_enter Try.func35, Try.ntmps35
      go_wp2_with fail
      go_ret
      exact oneAt_mk HO.out HC.out
    · by_cases hk0 : k = 0
      · subst hk0
        go_enter Try.func35, Try.ntmps35
        go_wp2_with fail
        go_ret
        exact oneAt_mk HO.out HC.out
      · go_enter Try.func35, Try.ntmps35
        go_wp2_with fail
        go_ret
        exact oneAt_mk HO.out HC.out
end Go.Proofs.Ytogijioehdaefaa.Ed
