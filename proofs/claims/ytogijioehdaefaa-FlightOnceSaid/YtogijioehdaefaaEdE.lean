
/- Layer 6 (edit): edits, one behind the other: the code's and the document's. -/
import Derived.Test.YtogijioehdaefaaEdD
namespace Go.Proofs.Ytogijioehdaefaa.Ed
open Go.RowKit Go.Proofs.Ytogijioehdaefaa.Mem Go.Proofs.Ytogijioehdaefaa.Oct Go.Proofs.Ytogijioehdaefaa.Pkt Go.Proofs.Ytogijioehdaefaa.Def

/-- edits that stand in memory: what kind, where, which byte -/
abbrev Edt := Int × Int × UInt8
def nthE (es : List Edt) (i : Nat) : Edt := es.getD i (0, 0, 0)
def edV (x : Edt) : Value := .agg #[.int .i64 x.1, .int .i64 x.2.1, .int .u8 (x.2.2.toNat : Int)]
def Eds (w : World) (lim : Nat) (A : Option Addr) (es : List Edt) : Prop :=
  0 < es.length → ∃ b off, A = some ⟨b, off, none⟩ ∧ b < lim ∧ ∀ i, i < es.length →
    w.cell? ⟨b, off + i * 3, none⟩ = some (.int .i64 (nthE es i).1) ∧ w.cell? ⟨b, off + i * 3 + 1, none⟩ = some (.int .i64 (nthE es i).2.1) ∧ w.cell? ⟨b, off + i * 3 + 2, none⟩ = some (.int .u8 ((nthE es i).2.2.toNat : Int))
theorem Eds.below {w w' : World} {C lim : Nat} {A : Option Addr} {es : List Edt} (h : Eds w lim A es) (hb : Below C w w') (hC : lim ≤ C) : Eds w' lim A es := fun hp => by
  obtain ⟨b, off, h1, h2, h3⟩ := h hp
  refine ⟨b, off, h1, h2, fun i hi => ?_⟩
  have hlt : b < C := Nat.lt_of_lt_of_le h2 hC
  rw [hb.cell (p := ⟨b, off + i * 3, none⟩) hlt, hb.cell (p := ⟨b, off + i * 3 + 1, none⟩) hlt, hb.cell (p := ⟨b, off + i * 3 + 2, none⟩) hlt]
  exact h3 i hi
theorem Eds.mono {w : World} {lim lim' : Nat} {A : Option Addr} {es : List Edt} (h : Eds w lim A es) (hl : lim ≤ lim') : Eds w lim' A es := fun hp => by
  obtain ⟨b, off, h1, h2, h3⟩ := h hp
  exact ⟨b, off, h1, Nat.lt_of_lt_of_le h2 hl, h3⟩

/-- edits, one behind the other -/
def do1 (l : List UInt8) (es : List Edt) : List UInt8 := es.foldl (fun l x => one1 l x.1 x.2.1 x.2.2) l
theorem do1_next (l : List UInt8) (es : List Edt) (k : Nat) (h : k < es.length) : do1 l (es.take (k + 1)) = one1 (do1 l (es.take k)) (nthE es k).1 (nthE es k).2.1 (nthE es k).2.2 := by
  unfold do1 nthE
  rw [List.take_succ_eq_append_getElem h, List.foldl_append, List.getD_eq_getElem?_getD, List.getElem?_eq_getElem h]
  rfl
theorem do1_len (es : List Edt) : ∀ (l : List UInt8), (do1 l es).length ≤ max l.length 512 := by
  induction es with
  | nil => intro l; show l.length ≤ _; omega
  | cons x es ih =>
    intro l
    have h1 := ih (one1 l x.1 x.2.1 x.2.2)
    have h2 := one1_len l x.1 x.2.1 x.2.2
    show (do1 (one1 l x.1 x.2.1 x.2.2) es).length ≤ _
    omega

set_option maxHeartbeats 4000000 in
theorem Do_any (A E : Option Addr) (n cap ce : Nat) (l : List UInt8) (es : List Edt) (W : World) (hn : n = l.length) (hA : Bytes W W.heap.size A l) (hE : Eds W W.heap.size E es) (hl : l.length ≤ 1000000) (hes : es.length ≤ 1000000) :
    Calls Try.prog 30 #[.slice A n cap, .slice E es.length ce] W (Gives W (do1 l es)) := by
  subst hn
  go_enter Try.func30, Try.ntmps30
  go_wp2_with fail
  refine (Oct.Clone_any A cap l W hA (by omega)).mono ?_
  rintro e w1 ⟨v1, rfl, ho1, hb1⟩
  have HO1 := Lib.hid ho1
  have HB1 := Lib.hid hb1
  clear ho1 hb1
  go_wp2_with fail
  go_loopw [5, 7, 12] (fun v _ i wr => ∃ k : Nat, k ≤ es.length ∧ i = .int .i64 k ∧ Own 5 wr W.heap.size v (do1 l (es.take k)) ∧ Below W.heap.size W wr) (fun _ _ i _ => es.length - (intOf i).toNat)
  case atStart => exact ⟨0, Nat.zero_le _, rfl, HO1.out, HB1.out⟩
  case round =>
    obtain ⟨k, hk, rfl, ho, hb⟩ := hrel
    have hlen := do1_len (es.take k) l
    by_cases hlt : k < es.length
    · obtain ⟨b, off, rfl, hbl, hcell⟩ := (hE.below hb (Nat.le_refl _)) (by omega)
      obtain ⟨hc0, hc1, hc2⟩ := hcell k hlt
      have HS := Lib.hid (do1_next l es k hlt)
      generalize nthE es k = x at hc0 hc1 hc2 HS
      obtain ⟨xk, xa, xc⟩ := x
      have hltI : (k : Int) < (es.length : Int) := by omega
      have hsz := hb.size
      have HO := Lib.hid ho
      have HB := Lib.hid hb
      clear hcell ho hb hE hA
      go_wp2_with fail
      refine (one_any _ xk xa xc W.heap.size _ _ (HO.out.alloc _) (by simp; omega) (by omega)).mono ?_
      rintro e w2 ⟨v2, rfl, ho2, hc2'⟩
      have HO2 := Lib.hid ho2
      have HB2 := Lib.hid (Chg.below (HB.out.alloc hsz _) hc2' (by simp; omega) (fun g hg => hg))
      clear ho2 hc2'
      go_wp2_with fail
      go_roundw
      case rel => exact ⟨k + 1, hlt, by go_num, by rw [HS.out]; exact HO2.out, HB2.out⟩
      case measure => simp [intOf]; omega
    · obtain rfl : k = es.length := by omega
      have HK := Lib.hid (show do1 l (es.take es.length) = do1 l es by rw [List.take_length])
      go_wp2_with fail
      go_ret
      exact ⟨_, rfl, (congrArg (Own _ wr W.heap.size _) HK.out).mp ho, hb⟩
end Go.Proofs.Ytogijioehdaefaa.Ed
