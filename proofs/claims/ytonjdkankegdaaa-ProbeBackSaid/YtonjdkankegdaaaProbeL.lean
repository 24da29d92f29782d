
/- Layer 13 (probe): the page's examples, and the laws' walks. -/
import Derived.Test.YtonjdkankegdaaaProbeR
import Derived.Test.YtonjdkankegdaaaProbeG
import Derived.Lib.SlBytesConst
namespace Go.Proofs.Ytonjdkankegdaaa.Probe
open Go.RowKit Go.Proofs.Ytonjdkankegdaaa.Mem Go.Proofs.Ytonjdkankegdaaa.Oct Go.Proofs.Ytonjdkankegdaaa.Pkt

theorem num_any (n : Int) (W : World) :
    Calls Try.prog 23 #[.int .i64 n] W fun e W' => e = .returned (.int .i64 n) ∧ W = W' := by
  go_enter Try.func23, Try.ntmps23
  go_wp2
  go_ret
  exact ⟨rfl, rfl⟩

theorem lit_bytes_m (E : TypeId) (w : World) (l : List UInt8) (cs : Array Value) (hcs : cs = (l.map bv).toArray) (m : Nat × Nat) : Bytes (w.alloc (.cells cs E m)) (w.alloc (.cells cs E m)).heap.size (some ⟨w.heap.size, 0, none⟩) l := by
  subst hcs
  intro hp
  refine ⟨w.heap.size, 0, rfl, by simp, fun i hi => ?_⟩
  rw [Nat.zero_add, cell_of_row _ w.heap.size i _ E m (heap_alloc_new w _)]
  simp [bv, byteAt, List.getD, hi]

set_option maxHeartbeats 2000000 in
set_option maxRecDepth 20000 in
theorem live_any (W : World) :
    Calls Try.prog 24 #[] W fun e W' => e = .returned (.bool true) ∧ Below W.heap.size W W' := by
  have p1 : prPut 3 1 [97] = [5, 97] := by decide
  have p2 : prErr 3 1 1 = 0 := by decide
  have g1 : gE [3] = 130 := by decide
  have P1 := Lib.hid p1; have P2 := Lib.hid p2; have G1 := Lib.hid g1
  clear p1 p2 g1
  have kc := fun (w : World) (C : Array Value) (n c : Nat) => Lib.run_convert_bytes_const (P := Try.prog) w 23 5 C n c Try.underlying23 Try.underlying5
  go_enter Try.func24, Try.ntmps24
  go_wp2_with fail
  refine (Put_any 3 1 (some ⟨W.heap.size, 0, none⟩) 1 [97] _ (lit_bytes_m 5 W [97] #[.int .u8 97] rfl (1, 2)) (by simp [maxLen])).mono ?_
  rw [P1.out]
  rintro e w1 ⟨v1, rfl, ho1, hb⟩
  have hb1 := below_next (below_alloc (Below.refl W.heap.size W) _) hb
  have O1 := Lib.hid ho1
  have E1 := Lib.hid (show prErr 3 1 ([97] : List UInt8).length = 0 from P2.out)
  rw [E1.out]
  obtain ⟨A1, c1, rfl, _, _, _⟩ := ho1.shape
  clear ho1 hb
  go_wp2_with fail
  refine (Get_any (some ⟨w1.heap.size, 0, none⟩) 1 [3] _ (by simp) (by simp [maxLen]) (by simp) (lit_bytes 5 w1 [3] _ rfl (by simp [maxLen]))).mono ?_
  unfold GivesP
  rw [G1.out]
  rintro e w2 ⟨v2, rfl, ht2, hb⟩
  have hb12 := below_next (below_alloc (Below.refl w1.heap.size w1) _) hb
  obtain ⟨A2, c2, rfl, _, _, _⟩ := ht2
  clear hb
  have hb13 := below_alloc hb12 (.cells #[.int .i64 (gK [3]), .int .i64 (gL [3]), .slice A2 (gD [3]).length c2] 41)
  generalize gK [3] = gk at hb13 ⊢
  generalize gL [3] = gl at hb13 ⊢
  generalize (gD [3]).length = gd at hb13 ⊢
  go_wp2_with (go_at_call 23; refine (num_any _ _).mono ?_; rintro e w' ⟨rfl, rfl⟩)
  have hb14 := below_alloc hb13 (.cells #[.int .u8 5, .int .u8 97] 5)
  refine (refSame_any A1 (some ⟨w2.heap.size + 1, 0, none⟩) c1 2 [5, 97] [5, 97] _ _ _ (O1.out.later hb14) (lit_bytes_at 5 _ _ (by simp) [5, 97] _ rfl (by simp [maxLen])) (by simp [maxLen]) (by simp [maxLen])).mono ?_
  rintro e w3 ⟨rfl, hd⟩
  have hb15 := hb14.trans (hd.below w1.heap.size)
  clear hd
  go_wp2_with (go_at_call 23; refine (num_any _ _).mono ?_; rintro e w' ⟨rfl, rfl⟩)
  go_ret
  exact ⟨rfl, below_next hb1 hb15⟩

/-- ProbePuts -/
theorem ProbePuts_any (k lb : Int) (A : Option Addr) (cap : Nat) (l : List UInt8) (W : World) (hA : Bytes W W.heap.size A l) (hl : l.length ≤ maxLen) :
    Calls Try.prog 5 #[.agg #[.int .i64 k, .int .i64 lb, .slice A l.length cap]] W fun e W' => e = .returned (.bool true) ∧ Below W.heap.size W W' := by
  have hlp : (prPut k lb l).length ≤ 65 := by
    unfold prPut
    split
    · rename_i h; have := prOk_small h; simp; omega
    · simp
  have HLP := Lib.hid hlp
  have HL := Lib.hid hl
  clear hlp hl
  go_enter Try.func5, Try.ntmps5
  go_wp2_with fail
  refine (Put_any k lb A cap l _ (hA.later (below_alloc (Below.refl _ _) _)) HL.out).mono ?_
  rintro e w1 ⟨v1, rfl, ho1, hb⟩
  obtain ⟨hcl, hf⟩ := bcell hb
  have hd0 : w1.cell? ⟨W.heap.size, 0, none⟩ = some (.int .i64 k) := by rw [hcl _ _ (by simp)]; simp [go_sem]
  have hd1 : w1.cell? ⟨W.heap.size, 1, none⟩ = some (.int .i64 lb) := by rw [hcl _ _ (by simp)]; simp [go_sem]
  have hd2 : w1.cell? ⟨W.heap.size, 2, none⟩ = some (.slice A l.length cap) := by rw [hcl _ _ (by simp)]; simp [go_sem]
  have hb1 := below_next (below_alloc (Below.refl W.heap.size W) _) hb
  obtain ⟨A1, c1, rfl, _, _, _⟩ := ho1.shape
  clear hcl hf hb
  go_wp2_with fail
  refine (refPut_any k lb A cap l _ (hA.later hb1) HL.out).mono ?_
  rintro e w2 ⟨v2, rfl, ho2, hb2⟩
  obtain ⟨A2, c2, rfl, _, _, _⟩ := ho2.shape
  go_wp2_with (go_at_call 23; refine (num_any _ _).mono ?_; rintro e w' ⟨rfl, rfl⟩)
  refine (refSame_any A1 A2 c1 c2 _ _ _ _ _ (ho1.later hb2) ho2.bytes (by have := HLP.out; unfold maxLen; omega) (by have := HLP.out; unfold maxLen; omega)).mono ?_
  rintro e w3 ⟨rfl, hd3⟩
  have hb3 := hd3.below w2.heap.size
  have hb := below_next (below_next hb1 hb2) hb3
  go_wp2_with fail
  refine (live_any _).mono ?_
  rintro e w4 ⟨rfl, hb4⟩
  go_wp2
  go_ret
  exact ⟨rfl, below_next hb hb4⟩
end Go.Proofs.Ytonjdkankegdaaa.Probe
