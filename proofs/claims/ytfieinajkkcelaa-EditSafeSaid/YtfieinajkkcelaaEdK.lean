
/- Layer 6 (edit): which edits are mild. -/
import Derived.Test.YtfieinajkkcelaaEdJ
import Derived.Test.YtfieinajkkcelaaStuffP
namespace Go.Proofs.Ytfieinajkkcelaa.Ed
open Go.RowKit Go.Proofs.Ytfieinajkkcelaa.Mem Go.Proofs.Ytfieinajkkcelaa.Oct Go.Proofs.Ytfieinajkkcelaa.Pkt Go.Proofs.Ytfieinajkkcelaa.Def

def okE (l : List UInt8) (x : Edt) : Bool := decide (x.1 = 0 ∧ 0 ≤ x.2.1 ∧ x.2.1 < (l.length : Int)) && ((StuffL.plain l).getD x.2.1.toNat false && decide (¬ x.2.2.toNat = 126 ∧ ¬ x.2.2.toNat = 125))
def ats (es : List Edt) : List Int := es.map (fun x => x.2.1)
def mild1 (l : List UInt8) (es : List Edt) : Bool := es.all (okE l) && (decide (es.length = 0) || decide (Lib.maxOf (ats es) - Lib.minOf (ats es) < 4))

theorem infoInt : (Try.prog.info? 3).map (fun i => (i.zero, i.size, i.bytes)) = some (some (.int .i64 0), 1, 8) := by kernel_rfl
theorem int_parts : ∃ i, Try.prog.info? 3 = some i ∧ i.zero = some (.int .i64 0) ∧ i.size = 1 ∧ i.bytes = 8 := by
  have h := infoInt
  cases hi : Try.prog.info? 3 with
  | none => rw [hi] at h; simp at h
  | some i =>
    rw [hi] at h
    simp only [Option.map_some, Option.some.injEq, Prod.mk.injEq] at h
    exact ⟨i, rfl, h.1, h.2.1, h.2.2⟩
theorem ats_next (es : List Edt) (k : Nat) (h : k < es.length) : ats (es.take (k + 1)) = ats (es.take k) ++ [(nthE es k).2.1] := by
  unfold ats nthE
  rw [List.take_succ_eq_append_getElem h, List.map_append, List.getD_eq_getElem?_getD, List.getElem?_eq_getElem h]
  rfl
theorem mild_no (l : List UInt8) (es : List Edt) (k : Nat) (h : k < es.length) (hk : okE l (nthE es k) = false) : mild1 l es = false := by
  unfold mild1
  have : es.all (okE l) = false := by
    rw [List.all_eq_false]
    refine ⟨es[k], List.getElem_mem h, ?_⟩
    unfold nthE at hk
    rw [List.getD_eq_getElem?_getD, List.getElem?_eq_getElem h] at hk
    simpa using hk
  rw [this, Bool.false_and]
theorem all_ok (l : List UInt8) (es : List Edt) (h : ∀ j, j < es.length → okE l (nthE es j) = true) : es.all (okE l) = true := by
  rw [List.all_eq_true]
  intro x hx
  obtain ⟨j, hj, rfl⟩ := List.getElem_of_mem hx
  have := h j hj
  unfold nthE at this
  rwa [List.getD_eq_getElem?_getD, List.getElem?_eq_getElem hj] at this

theorem fold_bnd (f : Int → Int → Int) (N : Int) (hf : ∀ a b, (0 ≤ a ∧ a ≤ N) → (0 ≤ b ∧ b ≤ N) → 0 ≤ f a b ∧ f a b ≤ N) : ∀ (zs : List Int) (a : Int), (0 ≤ a ∧ a ≤ N) → (∀ z ∈ zs, 0 ≤ z ∧ z ≤ N) → 0 ≤ zs.foldl f a ∧ zs.foldl f a ≤ N
  | [], _, h, _ => h
  | z :: zs, a, h, hz => fold_bnd f N hf zs (f a z) (hf a z h (hz z (by simp))) fun y hy => hz y (by simp [hy])
theorem max_bnd (zs : List Int) (N : Int) (h0 : 0 ≤ N) (h : ∀ z ∈ zs, 0 ≤ z ∧ z ≤ N) : 0 ≤ Lib.maxOf zs ∧ Lib.maxOf zs ≤ N := by
  refine fold_bnd max N (fun a b h1 h2 => by omega) zs _ ?_ h
  cases zs with
  | nil => exact ⟨by simp, by simpa using h0⟩
  | cons z zs => exact h z (by simp)
theorem min_bnd (zs : List Int) (N : Int) (h0 : 0 ≤ N) (h : ∀ z ∈ zs, 0 ≤ z ∧ z ≤ N) : 0 ≤ Lib.minOf zs ∧ Lib.minOf zs ≤ N := by
  refine fold_bnd min N (fun a b h1 h2 => by omega) zs _ ?_ h
  cases zs with
  | nil => exact ⟨by simp, by simpa using h0⟩
  | cons z zs => exact h z (by simp)
theorem ats_bnd (l : List UInt8) (es : List Edt) (h : es.all (okE l) = true) : ∀ z ∈ ats es, 0 ≤ z ∧ z ≤ (l.length : Int) := by
  intro z hz
  unfold ats at hz
  obtain ⟨x, hx, rfl⟩ := List.mem_map.1 hz
  have := List.all_eq_true.1 h x hx
  unfold okE at this
  rw [Bool.and_eq_true] at this
  have h1 := of_decide_eq_true this.1
  omega

def IsB (W : World) (b : Bool) (e : Ending) (w' : World) : Prop := e = .returned (.bool b) ∧ Below W.heap.size W w'

set_option maxHeartbeats 4000000 in
theorem Mild_any (A E : Option Addr) (n cap ce : Nat) (l : List UInt8) (es : List Edt) (W : World) (hn : n = l.length) (hA : Bytes W W.heap.size A l) (hE : Eds W W.heap.size E es) (hl : l.length ≤ 1000000) (hes : es.length ≤ 1000000) :
    Calls Try.prog 29 #[.slice A n cap, .slice E es.length ce] W (IsB W (mild1 l es)) := by
  have HPL := Lib.hid (show Calls Try.prog 44 #[.slice A n cap] W (Stuff.GivesB W (StuffL.plain l)) by subst hn; exact Stuff.Plain_any A cap l W hA (by omega))
  have HN := Lib.hid hn
  have hpl : (StuffL.plain l).length = n := by rw [hn]; exact StuffL.pgo_length l
  have HPN := Lib.hid hpl
  have hnB : n ≤ 1000000 := by omega
  clear hn hpl
  go_enter Try.func29, Try.ntmps29
  go_wp2_with fail
  refine HPL.out.mono ?_
  rintro e w1 ⟨v1, rfl, ho1, hb1⟩
  obtain ⟨A1, n1, c1, rfl, hn1⟩ := ownV_shape ho1
  have hN1 : n1 = n := by rw [← hn1, List.length_map, HPN.out]
  subst hN1
  have HO1 := Lib.hid ho1
  have HB1 := Lib.hid hb1
  clear ho1 hb1 hn1
  go_wp2_with fail
  go_loopw [6, 8, 13, 17, 29] (fun v _ i _ _ wr => ∃ (k c : Nat) (B : Option Addr), k ≤ es.length ∧ i = .int .i64 k ∧ v = .slice B k c ∧ wr.ownsRow w1.heap.size 3 1 v k ((ats (es.take k)).map (Value.int .i64)) ∧ Below w1.heap.size w1 wr ∧ Hid (∀ j, j < k → okE l (nthE es j) = true)) (fun _ _ i _ _ _ => es.length - (intOf i).toNat)
  case atStart => exact ⟨0, 0, none, Nat.zero_le _, rfl, rfl, World.ownsRow_nil _ _ _ _, Below.refl _ _, Lib.hid (fun j hj => absurd hj (Nat.not_lt_zero _))⟩
  case round =>
    obtain ⟨k, c, B, hk, rfl, rfl, ho, hb, HOK⟩ := hrel
    have hbW := below_next HB1.out hb
    have hsz := hb.size
    have hszW := hbW.size
    by_cases hlt : k < es.length
    · obtain ⟨b, off, rfl, hbl, hcell⟩ := (hE.below hbW (Nat.le_refl _)) (by omega)
      obtain ⟨hc0, hc1, hc2⟩ := hcell k hlt
      have HS := Lib.hid (ats_next es k hlt)
      have HNO := Lib.hid (show okE l (nthE es k) = false → ∀ w', Below W.heap.size W w' → IsB W (mild1 l es) (.returned (.bool false)) w' from fun h w' hw => ⟨by rw [mild_no l es k hlt h], hw⟩)
      have HYES := Lib.hid (show okE l (nthE es k) = true → ∀ j, j < k + 1 → okE l (nthE es j) = true from fun h j hj => by
        rcases Nat.lt_succ_iff_lt_or_eq.1 hj with h1 | h1
        · exact HOK.out j h1
        · rw [h1]; exact h)
      generalize nthE es k = x at hc0 hc1 hc2 HS HNO HYES
      obtain ⟨xk, xa, xc⟩ := x
      have hltI : (k : Int) < (es.length : Int) := by omega
      have HO := Lib.hid ho
      have HB := Lib.hid hb
      have HBW := Lib.hid (fun o => hbW.alloc hszW o)
      simp only at hc0 hc1 hc2
      clear hcell ho hb hE hA hbW HOK
      by_cases h0 : xk = 0
      · subst h0
        by_cases h1 : xa < 0
        · have HF := Lib.hid (HNO.out (by unfold okE; simp; omega))
          clear HNO HYES HS
          go_wp2_with fail
          go_ret
          exact HF.out _ (HBW.out _)
        by_cases h2 : (n1 : Int) ≤ xa
        · have HF := Lib.hid (HNO.out (by have := HN.out; unfold okE; simp; omega))
          clear HNO HYES HS
          go_wp2_with fail
          go_ret
          exact HF.out _ (HBW.out _)
        obtain ⟨i, rfl⟩ : ∃ i : Nat, xa = i := ⟨xa.toNat, by omega⟩
        have hin : i < n1 := by omega
        have hinI : (i : Int) < (n1 : Int) := by omega
        obtain ⟨g1, rfl, _, hg1, hcp, _⟩ := HO1.out.at_ (k := i) (by rw [List.length_map, HPN.out]; exact hin)
        have hcp2 : wr.cell? ⟨g1, i, none⟩ = some (.bool ((StuffL.plain l).getD i false)) := by
          have hip : i < (StuffL.plain l).length := by rw [HPN.out]; exact hin
          rw [(bcell HB.out).1 _ _ hg1, hcp, List.getD_eq_getElem?_getD, List.getElem?_map, List.getElem?_eq_getElem hip]
          rfl
        have hgr : g1 < wr.heap.size := by omega
        have hok : okE l (0, (i : Int), xc) = ((StuffL.plain l).getD i false && decide (¬ xc.toNat = 126 ∧ ¬ xc.toNat = 125)) := by
          have := HN.out
          unfold okE
          rw [decide_eq_true (by refine ⟨rfl, ?_, ?_⟩ <;> simp only <;> omega), Bool.true_and]
          rfl
        rw [hok] at HNO HYES
        generalize (StuffL.plain l).getD i false = pb at hcp2 HNO HYES
        clear hok hcp
        cases pb with
        | false =>
          have HF := Lib.hid (HNO.out rfl)
          clear HNO HYES HS
          go_wp2_with fail
          go_ret
          exact HF.out _ (HBW.out _)
        | true =>
          by_cases h126 : xc.toNat = 126
          · have HF := Lib.hid (HNO.out (by simp [h126]))
            have h126I : (xc.toNat : Int) = 126 := by omega
            clear HNO HYES HS
            go_wp2_with fail
            go_ret
            exact HF.out _ (HBW.out _)
          by_cases h125 : xc.toNat = 125
          · have HF := Lib.hid (HNO.out (by simp [h125]))
            have h125I : (xc.toNat : Int) = 125 := by omega
            have h126I : ¬ (xc.toNat : Int) = 126 := by omega
            clear HNO HYES HS
            go_wp2_with fail
            go_ret
            exact HF.out _ (HBW.out _)
          have h125I : ¬ (xc.toNat : Int) = 125 := by omega
          have h126I : ¬ (xc.toNat : Int) = 126 := by omega
          have HY := Lib.hid (HYES.out (by simp [h125, h126]))
          obtain ⟨i0, e1, e2, e3, e4⟩ := int_parts
          clear HNO HYES
          go_wp2_with (at_builtin; refine wpList_append_own_at _ rfl _ _ 45 rfl w1.heap.size 3 i0 _ 1 8 Try.underlying45 e1 e2 e3 e4 rfl (by omega) _ k _ rfl (World.ownsRow.alloc (World.ownsRow.alloc HO.out _) _) ⟨wr.heap.size + 1, 0, none⟩ 1 1 [.int .i64 i] rfl rfl (fun j u hj => by
              rw [Addr.add_lit]
              match j, hj with
              | 0, hj => simp at hj; subst hj; simp [go_sem]
              | (j + 1), hj => simp at hj) (by simp [Value.oneCell']) (by unfold maxLen; omega) (by omega) (by simp; omega) ?_)
          intro v' w' ho' hg' _ _
          have hb' : Below w1.heap.size w1 w' := ((HB.out.alloc hsz _).alloc (by simp; omega) _).grown hg' (by simp; omega) (fun g hg => (World.ownsRow.lt HO.out g hg).1)
          obtain ⟨A', c', hv'⟩ : ∃ A' c', v' = .slice A' (k + 1) c' := by
            rcases ho'.2 with ⟨_, h⟩ | ⟨g, cap, cur, h, _⟩
            · omega
            · exact ⟨_, _, h⟩
          subst hv'
          have HO' := Lib.hid ho'
          have HB' := Lib.hid hb'
          clear ho' hb' hg'
          go_wp2_with fail
          go_roundw
          case rel => exact ⟨k + 1, c', A', hlt, by go_num, rfl, by rw [HS.out, List.map_append]; exact HO'.out, HB'.out, Lib.hid HY.out⟩
          case measure => simp [intOf]; omega
      · have HF := Lib.hid (HNO.out (by unfold okE; simp [h0]))
        clear HNO HYES HS
        go_wp2_with fail
        go_ret
        exact HF.out _ (HBW.out _)
    · obtain rfl : k = es.length := by omega
      have hall := all_ok l es HOK.out
      have hbn := ats_bnd l es hall
      have hbM := max_bnd (ats es) l.length (by omega) hbn
      have hbm := min_bnd (ats es) l.length (by omega) hbn
      have hml : mild1 l es = (decide (es.length = 0) || decide (Lib.maxOf (ats es) - Lib.minOf (ats es) < 4)) := by unfold mild1; rw [hall, Bool.true_and]
      rw [List.take_length] at ho
      have hlz : (ats es).length = es.length := by simp [ats]
      have HBW := Lib.hid hbW
      rw [← HN.out] at hbM hbm
      clear hall hbn HOK hE hA hb hbW
      by_cases h0 : es.length = 0
      · rw [decide_eq_true h0, Bool.true_or] at hml
        have HT := Lib.hid hml
        clear hbM hbm hlz ho hml
        have h0I : (es.length : Int) = 0 := by omega
        go_wp2_with fail
        go_ret
        exact ⟨ret_bool HT.out.symm, HBW.out⟩
      · rw [decide_eq_false h0, Bool.false_or] at hml
        have h0I : ¬ (es.length : Int) = 0 := by omega
        have ho2 : OwnV 3 wr w1.heap.size (.slice B es.length c) ((ats es).map (Value.int .i64)) := by unfold OwnV; rw [List.length_map, hlz]; exact ho
        obtain ⟨g, rfl, _⟩ := ho2.at_ (k := 0) (by rw [List.length_map, hlz]; omega)
        have hcs : ∀ j, j < (ats es).length → wr.cell? ⟨g, 0 + j, none⟩ = some (.int .i64 ((ats es).getD j 0)) := fun j hj => by
          obtain ⟨g', e, _, _, q, _⟩ := ho2.at_ (k := j) (by rw [List.length_map]; exact hj)
          simp only [Option.some.injEq, Addr.mk.injEq, and_true] at e
          subst e
          rw [Nat.zero_add, q, List.getElem?_map, List.getD_eq_getElem?_getD, List.getElem?_eq_getElem hj]
          rfl
        have hM := Max_any g 0 es.length c (ats es) wr (by omega) (by omega) (by omega) hcs
        have hm := Min_any g 0 es.length c (ats es) wr (by omega) (by omega) (by omega) hcs
        rw [show (ats es).take es.length = ats es by rw [← hlz, List.take_length]] at hM hm
        generalize Lib.maxOf (ats es) = y at hM hbM hml
        generalize Lib.minOf (ats es) = z at hm hbm hml
        have HM := Lib.hid hM
        have Hm := Lib.hid hm
        have hwr : IntKind.i64.wrap (y - z) = y - z := by rw [IntKind.wrap_i64]; omega
        have HT := Lib.hid (show ((es.length : Int) == 0 || decide (y - z < 4)) = mild1 l es by rw [hml, beq_eq_false_iff_ne.2 h0I, Bool.false_or])
        clear hM hm hcs ho ho2 hlz hbM hbm hml
        go_wp2_with (first
          | (go_at_call 45; refine HM.out.mono ?_; rintro e w' ⟨rfl, rfl⟩)
          | (go_at_call 46; refine Hm.out.mono ?_; rintro e w' ⟨rfl, rfl⟩))
        go_ret
        exact ⟨ret_bool HT.out, HBW.out⟩
end Go.Proofs.Ytfieinajkkcelaa.Ed
