
/- Layer 14 (slide): Get. -/
import Derived.Test.YtonjdkankegdaaaSlideR
import Derived.Test.YtonjdkankegdaaaPktB
namespace Go.Proofs.Ytonjdkankegdaaa.Slide
open Go.RowKit Go.Proofs.Ytonjdkankegdaaa.Mem Go.Proofs.Ytonjdkankegdaaa.Oct Go.Proofs.Ytonjdkankegdaaa.Pkt

/-- what bytes say -/
def rA : List UInt8 → Bool
  | c :: _ :: _ :: _ => c == 1
  | _ => false
def rS : List UInt8 → Int
  | _ :: a :: b :: _ => (num [a, b] : Int)
  | _ => 0
def rB : List UInt8 → Int
  | c :: _ :: _ :: r => if c = 1 then numW r else 0
  | _ => 0
def rD : List UInt8 → List UInt8
  | c :: _ :: _ :: r => if c = 0 then r else []
  | _ => []
def rO : List UInt8 → Bool
  | c :: _ :: _ :: r => c == 0 || (c == 1 && r.length == 8)
  | _ => false
theorem rD_le (l : List UInt8) : (rD l).length ≤ l.length := by
  unfold rD
  split
  · split
    · simp; omega
    · simp
  · simp
theorem numW_bd (l : List UInt8) : 0 ≤ numW l ∧ numW l ≤ 18446744073709551615 := by
  unfold numW
  split
  · rename_i h
    have h1 := num_lt l
    have h2 : 256 ^ l.length ≤ 256 ^ 8 := Nat.pow_le_pow_right (by decide) h
    omega
  · omega
theorem num2_bd (a b : UInt8) : (num [a, b] : Int) ≤ 65535 := by
  have h1 := num_lt [a, b]
  simp only [List.length_cons, List.length_nil] at h1
  omega

/-- what read answers -/
def GivesRd (w : World) (l : List UInt8) (e : Ending) (w' : World) : Prop :=
  ∃ v, e = .returned (.tuple #[.agg #[.bool (rA l), .int .i64 (rS l), .int .u64 (rB l), v], .bool (rO l)]) ∧ Own 5 w' w.heap.size v (rD l) ∧ Below w.heap.size w w'

theorem rd_mk {w w' : World} {l : List UInt8} {a o : Bool} {x y : Int} {d : List UInt8} {v : Value} (h1 : rA l = a) (h2 : rS l = x) (h3 : rB l = y) (h4 : rD l = d) (h5 : rO l = o) (ht : Own 5 w' w.heap.size v d) (hb : Below w.heap.size w w') :
    GivesRd w l (.returned (.tuple #[.agg #[.bool a, .int .i64 x, .int .u64 y, v], .bool o])) w' := by
  subst h1 h2 h3 h4 h5
  exact ⟨v, rfl, ht, hb⟩

theorem Number_n (A : Option Addr) (n cap : Nat) (l : List UInt8) (W : World) (hn : n = l.length) (hA : Bytes W W.heap.size A l) (hl : l.length ≤ maxLen) :
    Calls Try.prog 59 #[.slice A n cap] W fun e W' => e = .returned (.int .u64 (numW l)) ∧ W = W' := by
  subst hn
  exact Number_any A cap l W hA hl

theorem toNat_eq (c d : UInt8) : (((c.toNat : Int)) == (d.toNat : Int)) = (c == d) := by
  rw [Bool.eq_iff_iff, beq_iff_eq, beq_iff_eq, ← UInt8.toNat_inj]
  omega

set_option maxHeartbeats 8000000 in
theorem read_any (A : Option Addr) (cap : Nat) (l : List UInt8) (W : World) (hA : Bytes W W.heap.size A l) (hc : l.length ≤ cap) (hm : cap ≤ maxLen) (hl : l.length ≤ 140737488355328) :
    Calls Try.prog 55 #[.slice A l.length cap] W (GivesRd W l) := by
  have hcut := Lib.hid (fun w h => Cut_any A cap l 3 w h hc hm hl)
  have hb0 := below_alloc (Below.refl W.heap.size W) (.cells #[.bool false, .int .i64 0, .int .u64 0, .slice none 0 0] 25)
  match l, hA, hl, hcut with
  | c0 :: c1 :: c2 :: r, hA, hl, hcut =>
    have hk := cut_yes (l := c0 :: c1 :: c2 :: r) (k := 3) (by simp)
    obtain ⟨k1, k2, k3⟩ := hk
    have hcut := hcut.out
    rw [show ((3 : Nat) : Int) = 3 from rfl] at k1 k2 k3
    rw [k1, k2, k3] at hcut
    rw [show (c0 :: c1 :: c2 :: r).take 3 = [c0, c1, c2] from rfl, show (c0 :: c1 :: c2 :: r).drop 3 = r from rfl] at hcut
    have HC := Lib.hid hcut
    clear hcut k1 k2 k3
    have hnb := numW_bd r
    have hn2 := num2_bd c1 c2
    have hn2' : (0 : Int) ≤ (num [c1, c2] : Int) := by omega
    have hnw : numW [c1, c2] = (num [c1, c2] : Int) := numW_le _ (by simp)
    have HRL := Lib.hid (show r.length ≤ maxLen by simp only [List.length_cons] at hl; unfold maxLen; omega)
    have HSQ := Lib.hid (show rS (c0 :: c1 :: c2 :: r) = (num [c1, c2] : Int) from rfl)
    generalize (num [c1, c2] : Int) = sq at hn2 hn2' hnw HSQ
    have hl8 : ((r.length : Int) == 8) = (r.length == 8) := by rw [Bool.eq_iff_iff, beq_iff_eq, beq_iff_eq]; omega
    go_enter Try.func55, Try.ntmps55
    go_wp2_with fail
    refine (HC.out _ (hA.later hb0)).mono ?_
    rintro e w1 ⟨u, v, rfl, ho1, ho2, hb⟩
    have hd0 : w1.cell? ⟨W.heap.size, 0, none⟩ = some (.bool false) := (box_cell hb (by simp) 0).1
    have hd1 : w1.cell? ⟨W.heap.size, 1, none⟩ = some (.int .i64 0) := (box_cell hb (by simp) 1).1
    have hd2 : w1.cell? ⟨W.heap.size, 2, none⟩ = some (.int .u64 0) := (box_cell hb (by simp) 2).1
    have hd3 : w1.cell? ⟨W.heap.size, 3, none⟩ = some (.slice none 0 0) := (box_cell hb (by simp) 3).1
    have hk0 : w1.frozen? ⟨W.heap.size, 0, none⟩ = false := (box_cell hb (by simp) 0).2
    have hk1 : w1.frozen? ⟨W.heap.size, 1, none⟩ = false := (box_cell hb (by simp) 1).2
    have hk2 : w1.frozen? ⟨W.heap.size, 2, none⟩ = false := (box_cell hb (by simp) 2).2
    have hk3 : w1.frozen? ⟨W.heap.size, 3, none⟩ = false := (box_cell hb (by simp) 3).2
    have hq0 : W.heap.size < w1.heap.size := by have := hb.size; simp at this; omega
    have hq1 : ¬ W.heap.size = w1.heap.size := by omega
    have hq2 : ¬ w1.heap.size = W.heap.size := by omega
    have hb1 := below_next hb0 hb
    obtain ⟨A1, cp1, rfl, hcp1, hmp1, _⟩ := ho1.shape
    obtain ⟨A2, cp2, rfl, hcp2, hmp2, _⟩ := ho2.shape
    obtain ⟨g, off, rfl, hg, hx0⟩ := ho1.bytes.at_ (k := 0) (by simp)
    have htl : Bytes w1 w1.heap.size (some ⟨g, off + 1, none⟩) [c1, c2] := ho1.bytes.drop (k := 1) (by simp)
    obtain ⟨m1, rfl⟩ : ∃ m1, cp1 = m1 + 1 := ⟨cp1 - 1, by simp at hcp1; omega⟩
    have hm2 : 2 ≤ m1 := by simp at hcp1; omega
    have hx0 : w1.cell? ⟨g, off, none⟩ = some (.int .u8 (c0.toNat : Int)) := hx0
    have hcr : (0 : Int) ≤ (c0.toNat : Int) ∧ (c0.toNat : Int) ≤ 255 := by have := c0.toNat_lt; omega
    have hng : (c0 == 0) = ((c0.toNat : Int) == 0) := (toNat_eq c0 0).symm
    have hng1 : (c0 == 1) = ((c0.toNat : Int) == 1) := (toNat_eq c0 1).symm
    have HT := Lib.hid ho2
    have HB := Lib.hid hb1
    have N1 := Lib.hid (fun w h => Number_n (some ⟨g, off + 1, none⟩) 2 m1 [c1, c2] w rfl h (by simp [maxLen]))
    have N2 := Lib.hid (fun w h => Number_n A2 r.length cp2 r w rfl h HRL.out)
    clear hb ho1 hb1 hl hA hc hm
    have HR2 := Lib.hid (ho2.bytes)
    have hg1 : ¬ g = w1.heap.size := by omega
    have hg2 : ¬ w1.heap.size = g := by omega
    clear ho2 hcp2 hmp2 hmp1
    by_cases hz : c0 = 0
    · subst hz
      have hx0 : w1.cell? ⟨g, off, none⟩ = some (.int .u8 0) := hx0
      clear hng hng1 hcr
      go_wp2_with fail
      refine (N1.out _ htl).mono ?_
      rw [hnw]
      clear hnw
      rintro e w' ⟨rfl, rfl⟩
      go_wp2_with fail
      exact bodyPost_ret (v := .tuple #[.agg #[.bool false, .int .i64 sq, .int .u64 0, .slice A2 r.length cp2], .bool true]) (by simp [results, Try.results55, go_sem, hd0, hd1, hd2, hd3, hq0]) rfl (rd_mk rfl HSQ.out rfl rfl rfl ((own_mid (HT.out.mono (base' := W.heap.size + 1) (by simp)) (Mid.alloc (((((Mid.refl _ _).setCell (p := ⟨W.heap.size, 0, none⟩) (by simp) _).setCell (p := ⟨W.heap.size, 1, none⟩) (by simp) _).setCell (p := ⟨W.heap.size, 2, none⟩) (by simp) _).setCell (p := ⟨W.heap.size, 3, none⟩) (by simp) _) _)).mono (base' := W.heap.size) (by omega)) (below_alloc ((((HB.out.setCell (p := ⟨W.heap.size, 0, none⟩) (Nat.le_refl _) _).setCell (p := ⟨W.heap.size, 1, none⟩) (Nat.le_refl _) _).setCell (p := ⟨W.heap.size, 2, none⟩) (Nat.le_refl _) _).setCell (p := ⟨W.heap.size, 3, none⟩) (Nat.le_refl _) _) _))
    · have hz0 : ((c0.toNat : Int) == 0) = false := by rw [← hng, beq_eq_false_iff_ne]; exact hz
      have hz1 : (c0 == 0) = false := by rw [beq_eq_false_iff_ne]; exact hz
      have HD := Lib.hid (show rD (c0 :: c1 :: c2 :: r) = [] from if_neg hz)
      by_cases ho : c0 = 1
      · subst ho
        have hx0 : w1.cell? ⟨g, off, none⟩ = some (.int .u8 1) := hx0
        clear hng hng1 hcr hz hz0 hz1
        have hnb0 := hnb.1
        have hnb1 := hnb.2
        clear hnb
        have HNR := Lib.hid (show rB (1 :: c1 :: c2 :: r) = numW r from rfl)
        generalize numW r = nr at hnb0 hnb1 N2 HNR
        cases h8 : r.length == 8 with
        | true =>
          rw [h8] at hl8
          have HO := Lib.hid (show rO (1 :: c1 :: c2 :: r) = true by rw [← h8]; rfl)
          clear h8
          go_wp2_with fail
          refine (N1.out _ htl).mono ?_
          rw [hnw]
          clear hnw
          rintro e w' ⟨rfl, rfl⟩
          go_wp2_with fail
          refine (N2.out _ (by first | exact HR2.out.later (below_alloc (Below.refl _ _) _) | exact HR2.out)).mono ?_
          rintro e w' ⟨rfl, rfl⟩
          go_wp2_with fail
          exact bodyPost_ret (v := .tuple #[.agg #[.bool true, .int .i64 sq, .int .u64 nr, .slice none 0 0], .bool true]) (by simp [results, Try.results55, go_sem, hd0, hd1, hd2, hd3, hq0]) rfl (rd_mk rfl HSQ.out HNR.out HD.out HO.out (Own.nil _ _ _) (below_alloc ((((HB.out.setCell (p := ⟨W.heap.size, 0, none⟩) (Nat.le_refl _) _).setCell (p := ⟨W.heap.size, 1, none⟩) (Nat.le_refl _) _).setCell (p := ⟨W.heap.size, 2, none⟩) (Nat.le_refl _) _).setCell (p := ⟨W.heap.size, 3, none⟩) (Nat.le_refl _) _) _))
        | false =>
          rw [h8] at hl8
          have HO := Lib.hid (show rO (1 :: c1 :: c2 :: r) = false by rw [← h8]; rfl)
          clear h8
          go_wp2_with fail
          refine (N1.out _ htl).mono ?_
          rw [hnw]
          clear hnw
          rintro e w' ⟨rfl, rfl⟩
          go_wp2_with fail
          refine (N2.out _ (by first | exact HR2.out.later (below_alloc (Below.refl _ _) _) | exact HR2.out)).mono ?_
          rintro e w' ⟨rfl, rfl⟩
          go_wp2_with fail
          exact bodyPost_ret (v := .tuple #[.agg #[.bool true, .int .i64 sq, .int .u64 nr, .slice none 0 0], .bool false]) (by simp [results, Try.results55, go_sem, hd0, hd1, hd2, hd3, hq0]) rfl (rd_mk rfl HSQ.out HNR.out HD.out HO.out (Own.nil _ _ _) (below_alloc ((((HB.out.setCell (p := ⟨W.heap.size, 0, none⟩) (Nat.le_refl _) _).setCell (p := ⟨W.heap.size, 1, none⟩) (Nat.le_refl _) _).setCell (p := ⟨W.heap.size, 2, none⟩) (Nat.le_refl _) _).setCell (p := ⟨W.heap.size, 3, none⟩) (Nat.le_refl _) _) _))
      · have ho1 : ((c0.toNat : Int) == 1) = false := by rw [← hng1, beq_eq_false_iff_ne]; exact ho
        have ho2 : (c0 == 1) = false := by rw [beq_eq_false_iff_ne]; exact ho
        have HA := Lib.hid (show rA (c0 :: c1 :: c2 :: r) = false from ho2)
        have HB2 := Lib.hid (show rB (c0 :: c1 :: c2 :: r) = 0 from if_neg ho)
        have HO := Lib.hid (show rO (c0 :: c1 :: c2 :: r) = false by show (c0 == 0 || (c0 == 1 && r.length == 8)) = false; rw [hz1, ho2]; rfl)
        clear ho2 hng hng1 hz ho hz1
        obtain ⟨hcr0, hcr1⟩ := hcr
        generalize (c0.toNat : Int) = x at hx0 hz0 ho1 hcr0 hcr1
        go_wp2_with fail
        refine (N1.out _ htl).mono ?_
        rw [hnw]
        clear hnw
        rintro e w' ⟨rfl, rfl⟩
        go_wp2_with fail
        exact bodyPost_ret (v := .tuple #[.agg #[.bool false, .int .i64 sq, .int .u64 0, .slice none 0 0], .bool false]) (by simp [results, Try.results55, go_sem, hd0, hd1, hd2, hd3, hq0]) rfl (rd_mk HA.out HSQ.out HB2.out HD.out HO.out (Own.nil _ _ _) (below_alloc ((((HB.out.setCell (p := ⟨W.heap.size, 0, none⟩) (Nat.le_refl _) _).setCell (p := ⟨W.heap.size, 1, none⟩) (Nat.le_refl _) _).setCell (p := ⟨W.heap.size, 2, none⟩) (Nat.le_refl _) _).setCell (p := ⟨W.heap.size, 3, none⟩) (Nat.le_refl _) _) _))
  | [], hA, hl, hcut =>
    obtain ⟨k1, k2, k3⟩ := cut_no (l := []) (n := 3) (by simp)
    have hcut := hcut.out
    rw [k1, k2, k3] at hcut
    have HC := Lib.hid hcut
    clear hcut k1 k2 k3
    go_enter Try.func55, Try.ntmps55
    go_wp2_with fail
    refine (HC.out _ (hA.later hb0)).mono ?_
    rintro e w1 ⟨u, v, rfl, ho1, ho2, hb⟩
    have hd0 : w1.cell? ⟨W.heap.size, 0, none⟩ = some (.bool false) := (box_cell hb (by simp) 0).1
    have hd1 : w1.cell? ⟨W.heap.size, 1, none⟩ = some (.int .i64 0) := (box_cell hb (by simp) 1).1
    have hd2 : w1.cell? ⟨W.heap.size, 2, none⟩ = some (.int .u64 0) := (box_cell hb (by simp) 2).1
    have hd3 : w1.cell? ⟨W.heap.size, 3, none⟩ = some (.slice none 0 0) := (box_cell hb (by simp) 3).1
    have hk0 : w1.frozen? ⟨W.heap.size, 0, none⟩ = false := (box_cell hb (by simp) 0).2
    have hk1 : w1.frozen? ⟨W.heap.size, 1, none⟩ = false := (box_cell hb (by simp) 1).2
    have hk2 : w1.frozen? ⟨W.heap.size, 2, none⟩ = false := (box_cell hb (by simp) 2).2
    have hk3 : w1.frozen? ⟨W.heap.size, 3, none⟩ = false := (box_cell hb (by simp) 3).2
    have HB := Lib.hid (below_next hb0 hb)
    clear hb ho1 ho2
    go_wp2_with fail
    exact bodyPost_ret (v := .tuple #[.agg #[.bool false, .int .i64 0, .int .u64 0, .slice none 0 0], .bool false]) (by simp [results, Try.results55, go_sem, hd0, hd1, hd2, hd3]) rfl (rd_mk rfl rfl rfl rfl rfl (Own.nil _ _ _) ((((HB.out.setCell (p := ⟨W.heap.size, 0, none⟩) (Nat.le_refl _) _).setCell (p := ⟨W.heap.size, 1, none⟩) (Nat.le_refl _) _).setCell (p := ⟨W.heap.size, 2, none⟩) (Nat.le_refl _) _).setCell (p := ⟨W.heap.size, 3, none⟩) (Nat.le_refl _) _))
  | [x0], hA, hl, hcut =>
    obtain ⟨k1, k2, k3⟩ := cut_no (l := [x0]) (n := 3) (by simp)
    have hcut := hcut.out
    rw [k1, k2, k3] at hcut
    have HC := Lib.hid hcut
    clear hcut k1 k2 k3
    go_enter Try.func55, Try.ntmps55
    go_wp2_with fail
    refine (HC.out _ (hA.later hb0)).mono ?_
    rintro e w1 ⟨u, v, rfl, ho1, ho2, hb⟩
    have hd0 : w1.cell? ⟨W.heap.size, 0, none⟩ = some (.bool false) := (box_cell hb (by simp) 0).1
    have hd1 : w1.cell? ⟨W.heap.size, 1, none⟩ = some (.int .i64 0) := (box_cell hb (by simp) 1).1
    have hd2 : w1.cell? ⟨W.heap.size, 2, none⟩ = some (.int .u64 0) := (box_cell hb (by simp) 2).1
    have hd3 : w1.cell? ⟨W.heap.size, 3, none⟩ = some (.slice none 0 0) := (box_cell hb (by simp) 3).1
    have hk0 : w1.frozen? ⟨W.heap.size, 0, none⟩ = false := (box_cell hb (by simp) 0).2
    have hk1 : w1.frozen? ⟨W.heap.size, 1, none⟩ = false := (box_cell hb (by simp) 1).2
    have hk2 : w1.frozen? ⟨W.heap.size, 2, none⟩ = false := (box_cell hb (by simp) 2).2
    have hk3 : w1.frozen? ⟨W.heap.size, 3, none⟩ = false := (box_cell hb (by simp) 3).2
    have HB := Lib.hid (below_next hb0 hb)
    clear hb ho1 ho2
    go_wp2_with fail
    exact bodyPost_ret (v := .tuple #[.agg #[.bool false, .int .i64 0, .int .u64 0, .slice none 0 0], .bool false]) (by simp [results, Try.results55, go_sem, hd0, hd1, hd2, hd3]) rfl (rd_mk rfl rfl rfl rfl rfl (Own.nil _ _ _) ((((HB.out.setCell (p := ⟨W.heap.size, 0, none⟩) (Nat.le_refl _) _).setCell (p := ⟨W.heap.size, 1, none⟩) (Nat.le_refl _) _).setCell (p := ⟨W.heap.size, 2, none⟩) (Nat.le_refl _) _).setCell (p := ⟨W.heap.size, 3, none⟩) (Nat.le_refl _) _))
  | [x0, x1], hA, hl, hcut =>
    obtain ⟨k1, k2, k3⟩ := cut_no (l := [x0, x1]) (n := 3) (by simp)
    have hcut := hcut.out
    rw [k1, k2, k3] at hcut
    have HC := Lib.hid hcut
    clear hcut k1 k2 k3
    go_enter Try.func55, Try.ntmps55
    go_wp2_with fail
    refine (HC.out _ (hA.later hb0)).mono ?_
    rintro e w1 ⟨u, v, rfl, ho1, ho2, hb⟩
    have hd0 : w1.cell? ⟨W.heap.size, 0, none⟩ = some (.bool false) := (box_cell hb (by simp) 0).1
    have hd1 : w1.cell? ⟨W.heap.size, 1, none⟩ = some (.int .i64 0) := (box_cell hb (by simp) 1).1
    have hd2 : w1.cell? ⟨W.heap.size, 2, none⟩ = some (.int .u64 0) := (box_cell hb (by simp) 2).1
    have hd3 : w1.cell? ⟨W.heap.size, 3, none⟩ = some (.slice none 0 0) := (box_cell hb (by simp) 3).1
    have hk0 : w1.frozen? ⟨W.heap.size, 0, none⟩ = false := (box_cell hb (by simp) 0).2
    have hk1 : w1.frozen? ⟨W.heap.size, 1, none⟩ = false := (box_cell hb (by simp) 1).2
    have hk2 : w1.frozen? ⟨W.heap.size, 2, none⟩ = false := (box_cell hb (by simp) 2).2
    have hk3 : w1.frozen? ⟨W.heap.size, 3, none⟩ = false := (box_cell hb (by simp) 3).2
    have HB := Lib.hid (below_next hb0 hb)
    clear hb ho1 ho2
    go_wp2_with fail
    exact bodyPost_ret (v := .tuple #[.agg #[.bool false, .int .i64 0, .int .u64 0, .slice none 0 0], .bool false]) (by simp [results, Try.results55, go_sem, hd0, hd1, hd2, hd3]) rfl (rd_mk rfl rfl rfl rfl rfl (Own.nil _ _ _) ((((HB.out.setCell (p := ⟨W.heap.size, 0, none⟩) (Nat.le_refl _) _).setCell (p := ⟨W.heap.size, 1, none⟩) (Nat.le_refl _) _).setCell (p := ⟨W.heap.size, 2, none⟩) (Nat.le_refl _) _).setCell (p := ⟨W.heap.size, 3, none⟩) (Nat.le_refl _) _))
end Go.Proofs.Ytonjdkankegdaaa.Slide
