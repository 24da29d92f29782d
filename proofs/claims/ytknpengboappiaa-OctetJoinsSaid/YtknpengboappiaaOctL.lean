/- Layer 1 (octet): the page's examples, and the laws' walks. -/
import Derived.Test.YtknpengboappiaaOctH
namespace Go.Proofs.Ytknpengboappiaa.Oct
open Go.RowKit Go.Proofs.Ytknpengboappiaa.Mem

theorem lit_text_at (E : TypeId) (w : World) (g : Nat) (hg : g = w.heap.size) (l : List UInt8) (cs : Array Value) (hcs : cs = (l.map bv).toArray) (hm : l.length ≤ maxLen) {n : Nat} (hn : n = l.length) : IsText (w.alloc (.cells cs E)) (.slice (some ⟨g, 0, none⟩) n n) l := by
  subst hg
  exact lit_text E w l cs hcs hm hn

set_option maxHeartbeats 4000000 in
theorem live_any (W : World) :
    Calls Try.prog 25 #[] W fun e W' => e = .returned (.bool true) ∧ Below W.heap.size W W' := by
  have u1 : unh [48, 97, 102, 102] = some [10, 255] := by decide
  have x1 : hex [10, 255] = [48, 97, 102, 102] := by decide
  have p1 : putW 258 2 = [1, 2] := by decide
  have n1 : numW [1, 2] = 258 := by decide
  have o1 : ord [1] [1, 0] = -1 := by decide
  have U1 := Lib.hid u1; have X1 := Lib.hid x1; have P1 := Lib.hid p1; have N1 := Lib.hid n1; have O1 := Lib.hid o1
  clear u1 x1 p1 n1 o1
  go_enter Try.func25, Try.ntmps25
  go_wp2_with fail
  refine (Cut_any (some ⟨W.heap.size, 0, none⟩) 3 [1, 2, 3] 1 _ (lit_bytes 5 W [1, 2, 3] _ rfl (by simp [maxLen])) (by simp) (by simp [maxLen]) (by simp)).mono ?_
  rintro e w1 ⟨va, vb, rfl, hoa, hob, hb⟩
  have hb1 := below_next (below_alloc (Below.refl W.heap.size W) _) hb
  have c1 : cutA [1, 2, 3] 1 = [1] := rfl
  have c2 : cutB [1, 2, 3] 1 = [2, 3] := rfl
  have c3 : cutOk [1, 2, 3] 1 = true := rfl
  rw [c1] at hoa
  rw [c2] at hob
  rw [c3]
  have OA := Lib.hid hoa; have OB := Lib.hid hob
  obtain ⟨Aa, ca, rfl, _, _, _⟩ := hoa.shape
  obtain ⟨Ab, cb, rfl, _, _, _⟩ := hob.shape
  clear c1 c2 c3 hoa hob hb
  go_wp2_with fail
  refine (Unhex_any [48, 97, 102, 102] _ (by simp)).mono ?_
  rw [U1.out]
  rintro e w2 ⟨vh, rfl, hoh, hb2⟩
  simp only [Option.getD_some] at hoh
  have OH := Lib.hid hoh
  obtain ⟨Ah, ch, rfl, _, _, _⟩ := hoh.shape
  clear hoh
  go_wp2_with fail
  refine (Put_any 258 2 (by omega) _).mono ?_
  rw [P1.out]
  rintro e w3 ⟨vp, rfl, hop, hb3⟩
  have OP := Lib.hid hop
  obtain ⟨Ap, cp, rfl, _, _, _⟩ := hop.shape
  clear hop
  go_wp2_with fail
  refine (refSame_any Ap (some ⟨w3.heap.size, 0, none⟩) cp 2 [1, 2] [1, 2] _ _ _ (OP.out.later (below_alloc (Below.refl _ _) _)) (lit_bytes 5 w3 [1, 2] _ rfl (by simp [maxLen])) (by simp [maxLen]) (by simp [maxLen])).mono ?_
  rintro e w4 ⟨rfl, hd4⟩
  have hb4 := (below_alloc (Below.refl w3.heap.size w3) _).trans (hd4.below w3.heap.size)
  have hb14 := below_next (below_next hb2 hb3) hb4
  have hb24 := below_next hb3 hb4
  clear hd4
  go_wp2_with fail
  refine (Number_any (some ⟨w4.heap.size, 0, none⟩) 2 [1, 2] _ (lit_bytes 5 w4 [1, 2] _ rfl (by simp [maxLen])) (by simp [maxLen])).mono ?_
  rw [N1.out]
  rintro e w5 ⟨rfl, hw⟩
  have hb45 := (below_alloc (Below.refl w4.heap.size w4) _).trans ((below_of_eq hw).mono (below_alloc (Below.refl w4.heap.size w4) _).size)
  have hb15 := below_next hb14 hb45
  have hb25 := below_next hb24 hb45
  clear hw
  go_wp2_with fail
  refine (refSame_any Aa (some ⟨w5.heap.size, 0, none⟩) ca 1 [1] [1] _ _ _ (OA.out.later (below_next hb15 (below_alloc (Below.refl _ _) _))) (lit_bytes 5 w5 [1] _ rfl (by simp [maxLen])) (by simp [maxLen]) (by simp [maxLen])).mono ?_
  rintro e w6 ⟨rfl, hd⟩
  have hb56 := (below_alloc (Below.refl w5.heap.size w5) _).trans (hd.below w5.heap.size)
  have hb16 := below_next hb15 hb56
  have hb26 := below_next hb25 hb56
  clear hd
  go_wp2_with fail
  refine (refSame_any Ab (some ⟨w6.heap.size, 0, none⟩) cb 2 [2, 3] [2, 3] _ _ _ (OB.out.later (below_next hb16 (below_alloc (Below.refl _ _) _))) (lit_bytes 5 w6 [2, 3] _ rfl (by simp [maxLen])) (by simp [maxLen]) (by simp [maxLen])).mono ?_
  rintro e w7 ⟨rfl, hd⟩
  have hb67 := (below_alloc (Below.refl w6.heap.size w6) _).trans (hd.below w6.heap.size)
  have hb27 := below_next hb26 hb67
  have hb17 := below_next hb16 hb67
  clear hd
  go_wp2_with fail
  refine (Hex_any (some ⟨w7.heap.size, 0, none⟩) 2 [10, 255] _ (lit_bytes 5 w7 [10, 255] _ rfl (by simp [maxLen])) (by simp)).mono ?_
  rw [X1.out]
  rintro e w8 ⟨rfl, hb⟩
  have hb78 := below_next (below_alloc (Below.refl w7.heap.size w7) _) hb
  have hb28 := below_next hb27 hb78
  have hb18 := below_next hb17 hb78
  clear hb
  go_wp2_with fail
  refine (refSame_any Ah (some ⟨w8.heap.size, 0, none⟩) ch 2 [10, 255] [10, 255] _ _ _ (OH.out.later (below_next hb28 (below_alloc (Below.refl _ _) _))) (lit_bytes 5 w8 [10, 255] _ rfl (by simp [maxLen])) (by simp [maxLen]) (by simp [maxLen])).mono ?_
  rintro e w9 ⟨rfl, hd⟩
  have hb89 := (below_alloc (Below.refl w8.heap.size w8) _).trans (hd.below w8.heap.size)
  have hb19 := below_next hb18 hb89
  clear hd
  go_wp2_with fail
  refine (Order_any (some ⟨w9.heap.size, 0, none⟩) (some ⟨w9.heap.size + 1, 0, none⟩) 1 2 [1] [1, 0] _ _ _ ((lit_bytes 5 w9 [1] _ rfl (by simp [maxLen])).later (below_alloc (Below.refl _ _) _)) (lit_bytes_at 5 _ _ (by simp) [1, 0] _ rfl (by simp [maxLen]))).mono ?_
  rw [O1.out]
  rintro e w10 ⟨rfl, hw⟩
  have hb910 := below_next (below_alloc (below_alloc (Below.refl w9.heap.size w9) _) _) (below_of_eq hw)
  have hb110 := below_next hb19 hb910
  clear hw
  go_wp2_with fail
  refine (Same_any none (some ⟨w10.heap.size, 0, none⟩) 0 0 [] [] _ _ _ (Bytes.nil _ 0 _) (Bytes.nil _ 0 _)).mono ?_
  rintro e w11 ⟨rfl, hw⟩
  have hb1011 := below_next (below_alloc (Below.refl w10.heap.size w10) _) (below_of_eq hw)
  have hb111 := below_next hb110 hb1011
  clear hw
  go_wp2_with fail
  refine (Join_any (some ⟨w11.heap.size + 1 + 1, 0, none⟩) 3 [[1], [], [2]] _ (texts3 22 _ _ (by simp) ((lit_text 5 w11 [1] _ rfl (by simp [maxLen]) (n := 1) rfl).later (below_alloc (Below.refl _ _) _)) (IsText.nil _) (lit_text_at 5 _ _ (by simp) [2] _ rfl (by simp [maxLen]) (n := 1) rfl)) (by simp) (by simp)).mono ?_
  rintro e w12 ⟨vj, rfl, hoj, hb⟩
  have hb1112 := below_next (below_alloc (below_alloc (below_alloc (Below.refl w11.heap.size w11) _) _) _) hb
  have hb112 := below_next hb111 hb1112
  simp only [List.flatten_cons, List.flatten_nil, List.append_nil, List.nil_append, List.singleton_append] at hoj
  have OJ := Lib.hid hoj
  obtain ⟨Aj, cj, rfl, _, _, _⟩ := hoj.shape
  clear hb hoj
  go_wp2_with fail
  refine (refSame_any Aj (some ⟨w12.heap.size, 0, none⟩) cj 2 [1, 2] [1, 2] _ _ _ (OJ.out.later (below_alloc (Below.refl _ _) _)) (lit_bytes 5 w12 [1, 2] _ rfl (by simp [maxLen])) (by simp [maxLen]) (by simp [maxLen])).mono ?_
  rintro e w13 ⟨rfl, hd⟩
  have hb1213 := (below_alloc (Below.refl w12.heap.size w12) _).trans (hd.below w12.heap.size)
  have hb113 := below_next hb1 (below_next hb112 hb1213)
  clear hd
  go_wp2_with fail
  go_ret
  exact ⟨rfl, hb113⟩

/-- OctetPuts -/
theorem OctetPuts_any (n wide : Int) (h0 : 0 ≤ n) (h1 : n ≤ 18446744073709551615) (W : World) :
    Calls Try.prog 7 #[.int .u64 n, .int .i64 wide] W fun e W' => e = .returned (.bool true) ∧ Below W.heap.size W W' := by
  have hlen : (putW n wide).length ≤ 8 := by
    unfold putW
    split
    · rw [put_length]; omega
    · simp
  have HL := Lib.hid hlen
  clear hlen
  go_enter Try.func7, Try.ntmps7
  go_wp2_with fail
  refine (Put_any n wide h0 _).mono ?_
  rintro e w1 ⟨v1, rfl, ho1, hb1⟩
  obtain ⟨A1, c1, rfl, _, _, _⟩ := ho1.shape
  go_wp2_with fail
  refine (refPut_any n wide h0 h1 _).mono ?_
  rintro e w2 ⟨v2, rfl, ho2, hb2⟩
  obtain ⟨A2, c2, rfl, _, _, _⟩ := ho2.shape
  have hb := below_next hb1 hb2
  go_wp2_with fail
  refine (refSame_any A1 A2 c1 c2 _ _ _ _ _ (ho1.later hb2) ho2.bytes (by have := HL.out; unfold maxLen; omega) (by have := HL.out; unfold maxLen; omega)).mono ?_
  rintro e w3 ⟨rfl, hd⟩
  have hb3 := below_next hb (hd.below w2.heap.size)
  go_wp2_with fail
  refine (live_any _).mono ?_
  rintro e w4 ⟨rfl, hb4⟩
  go_wp2_with fail
  go_ret
  exact ⟨rfl, below_next hb3 hb4⟩

/-- OctetNumber -/
theorem OctetNumber_any (A : Option Addr) (cap : Nat) (l : List UInt8) (W : World) (hA : Bytes W W.heap.size A l) (hl : l.length ≤ maxLen) :
    Calls Try.prog 8 #[.slice A l.length cap] W fun e W' => e = .returned (.bool true) ∧ Below W.heap.size W W' := by
  go_enter Try.func8, Try.ntmps8
  go_wp2_with (first
    | (go_at_call 26; refine (Number_any A cap l _ hA hl).mono ?_; rintro e w' ⟨rfl, rfl⟩)
    | (go_at_call 27; refine (refNumber_any A cap l _ hA hl).mono ?_; rintro e w' ⟨rfl, rfl⟩))
  refine (live_any _).mono ?_
  rintro e w4 ⟨rfl, hb4⟩
  go_wp2_with fail
  go_ret
  exact ⟨rfl, hb4⟩

theorem num_put (n k : Nat) : num (put n k) = n % 256 ^ k := by
  have key : ∀ (l : List UInt8) (a : Nat), l.foldl (fun a c => a * 256 + c.toNat) a = a * 256 ^ l.length + num l := by
    intro l
    induction l with
    | nil => intro a; simp [num]
    | cons c l ih =>
      intro a
      rw [List.foldl_cons, ih]
      unfold num
      rw [List.foldl_cons, ih 0 |> fun _ => ih (0 * 256 + c.toNat), List.length_cons, Nat.pow_succ]
      simp only [Nat.zero_mul, Nat.zero_add, Nat.add_mul, Nat.add_assoc, num]
      rw [Nat.mul_assoc, Nat.mul_comm 256]
  induction k with
  | zero => simp [put, num, Nat.mod_one]
  | succ k ih =>
    have : num (put n (k + 1)) = (UInt8.ofNat (n / 256 ^ k)).toNat * 256 ^ k + num (put n k) := by
      show List.foldl _ 0 (UInt8.ofNat (n / 256 ^ k) :: put n k) = _
      rw [List.foldl_cons, key, put_length]
      simp
    rw [this, ih, Nat.pow_succ, Nat.mod_mul]
    simp
    rw [Nat.mul_comm, Nat.add_comm]

theorem wrap_pow (k : Nat) (h : k < 8) : IntKind.u64.wrap (2 ^ (8 * k)) = ((256 ^ k : Nat) : Int) := by
  have key : ∀ i : Fin 8, IntKind.u64.wrap (2 ^ (8 * i.val)) = ((256 ^ i.val : Nat) : Int) := by decide
  exact key ⟨k, h⟩
theorem back (n : Int) (h0 : 0 ≤ n) (k : Nat) (h1 : 1 ≤ k) (h8 : k ≤ 8) : numW (putW n k) = n % ((256 ^ k : Nat) : Int) ∧ (putW n k).length = k := by
  have hp := putW_eq n k (by omega) (by omega)
  rw [hp]
  have hl := put_length n.toNat k
  refine ⟨?_, hl⟩
  rw [numW_le _ (by omega), num_put]
  obtain ⟨m, rfl⟩ := Int.eq_ofNat_of_zero_le h0
  simp

set_option maxHeartbeats 1000000 in
/-- OctetBack -/
theorem OctetBack_any (n wide : Int) (h0 : 0 ≤ n) (h1 : n ≤ 18446744073709551615) (W : World) :
    Calls Try.prog 9 #[.int .u64 n, .int .i64 wide] W fun e W' => e = .returned (.bool true) ∧ Below W.heap.size W W' := by
  by_cases hw : 1 ≤ wide ∧ wide ≤ 8
  · obtain ⟨k, rfl⟩ : ∃ k : Nat, (k : Int) = wide := ⟨wide.toNat, by omega⟩
    obtain ⟨hk1, hk8⟩ := hw
    obtain ⟨hn, hlen⟩ := back n h0 k (by omega) (by omega)
    have HN := Lib.hid hn; have HL := Lib.hid hlen
    clear hn hlen
    by_cases h8 : k < 8
    · obtain ⟨z, hz⟩ : ∃ z : Int, z = ((256 ^ k : Nat) : Int) := ⟨_, rfl⟩
      have e1 : IntKind.u64.wrap (2 ^ (8 * k)) = z := by rw [wrap_pow k h8, hz]
      have z1 : 1 ≤ z := by have := Nat.pow_pos (n := k) (show 0 < 256 by decide); omega
      have HM := Lib.hid hz
      clear hz
      go_enter Try.func9, Try.ntmps9
      go_wp2_with fail
      refine (Put_any n k h0 _).mono ?_
      rintro e w1 ⟨v1, rfl, ho1, hb1⟩
      obtain ⟨A1, c1, rfl, _, _, _⟩ := ho1.shape
      have hN := Number_any A1 c1 (putW n k) w1 ho1.bytes (by have := HL.out; unfold maxLen; omega)
      rw [HL.out] at hN ⊢
      rw [HN.out, ← HM.out] at hN
      have H2 := Lib.hid hN
      clear hN
      go_wp2_with fail
      refine H2.out.mono ?_
      rintro e w2 ⟨rfl, rfl⟩
      go_wp2_with fail
      refine (live_any _).mono ?_
      rintro e w4 ⟨rfl, hb4⟩
      go_wp2_with fail
      go_ret
      exact ⟨rfl, below_next hb1 hb4⟩
    · obtain rfl : k = 8 := by omega
      have hm : n % ((256 ^ 8 : Nat) : Int) = n := by
        rw [show ((256 ^ 8 : Nat) : Int) = 18446744073709551616 from rfl]
        exact Int.emod_eq_of_lt h0 (by omega)
      have HM := Lib.hid hm
      clear hm
      go_enter Try.func9, Try.ntmps9
      go_wp2_with fail
      refine (Put_any n ((8 : Nat) : Int) h0 _).mono ?_
      rintro e w1 ⟨v1, rfl, ho1, hb1⟩
      obtain ⟨A1, c1, rfl, _, _, _⟩ := ho1.shape
      have hN := Number_any A1 c1 (putW n (8 : Nat)) w1 ho1.bytes (by have := HL.out; unfold maxLen; omega)
      rw [HL.out] at hN ⊢
      rw [HN.out, HM.out] at hN
      have H2 := Lib.hid hN
      clear hN
      go_wp2_with fail
      refine H2.out.mono ?_
      rintro e w2 ⟨rfl, rfl⟩
      go_wp2_with fail
      refine (live_any _).mono ?_
      rintro e w4 ⟨rfl, hb4⟩
      go_wp2_with fail
      go_ret
      exact ⟨rfl, below_next hb1 hb4⟩
  · have HP := Lib.hid (putW_no n wide hw)
    by_cases hw1 : wide < 1
    all_goals
      first | (have hw2 : 8 < wide := by omega) | skip
      clear hw
      go_enter Try.func9, Try.ntmps9
      go_wp2_with fail
      refine (Put_any n wide h0 _).mono ?_
      rw [HP.out]
      rintro e w1 ⟨v1, rfl, ho1, hb1⟩
      obtain ⟨A1, c1, rfl, _, _, _⟩ := ho1.shape
      go_wp2_with fail
      refine (live_any _).mono ?_
      rintro e w4 ⟨rfl, hb4⟩
      go_wp2_with fail
      go_ret
      exact ⟨rfl, below_next hb1 hb4⟩

theorem ord_bd (l : List UInt8) : ∀ m, -1 ≤ ord l m ∧ ord l m ≤ 1 := by
  induction l with
  | nil => intro m; cases m <;> simp [ord]
  | cons a l ih =>
    intro m
    cases m with
    | nil => simp [ord]
    | cons b m =>
      simp only [ord]
      split
      · omega
      · split
        · omega
        · exact ih m

set_option maxHeartbeats 1000000 in
/-- OctetOrders -/
theorem OctetOrders_any (A B : Option Addr) (ca cb : Nat) (l m : List UInt8) (W : World) (hA : Bytes W W.heap.size A l) (hB : Bytes W W.heap.size B m) (hl : l.length ≤ maxLen) (hm : m.length ≤ maxLen) :
    Calls Try.prog 11 #[.slice A l.length ca, .slice B m.length cb] W fun e W' => e = .returned (.bool true) ∧ Below W.heap.size W W' := by
  obtain ⟨x, hx⟩ : ∃ x, x = ord l m := ⟨_, rfl⟩
  have hb := ord_bd l m
  rw [← hx] at hb
  obtain ⟨x1, x2⟩ := hb
  have hf : ord m l = -x := by rw [hx]; exact ord_flip l m
  have hz : (x == 0) = (l == m) := by
    rw [hx, Bool.eq_iff_iff, beq_iff_eq, beq_iff_eq]
    exact ord_zero l m
  have HX := Lib.hid hx; have HF := Lib.hid hf
  clear hx hf
  go_enter Try.func11, Try.ntmps11
  go_wp2_with fail
  refine (Order_any A B ca cb l m _ _ _ hA hB).mono ?_
  rw [← HX.out]
  rintro e w1 ⟨rfl, rfl⟩
  go_wp2_with fail
  refine (refOrder_any A B ca cb l m _ _ _ hA hB hl hm).mono ?_
  rw [← HX.out]
  rintro e w2 ⟨rfl, hd2⟩
  have hb2 := hd2.below W.heap.size
  clear hd2
  go_wp2_with fail
  refine (Order_any B A cb ca m l _ _ _ (hB.later hb2) (hA.later hb2)).mono ?_
  rw [HF.out]
  rintro e w1 ⟨rfl, rfl⟩
  go_wp2_with fail
  refine (Same_any A B ca cb l m _ _ _ (hA.later hb2) (hB.later hb2)).mono ?_
  rintro e w1 ⟨rfl, rfl⟩
  go_wp2_with fail
  refine (Same_any A B ca cb l m _ _ _ (hA.later hb2) (hB.later hb2)).mono ?_
  rintro e w1 ⟨rfl, rfl⟩
  go_wp2_with fail
  refine (refSame_any A B ca cb l m _ _ _ (hA.later hb2) (hB.later hb2) hl hm).mono ?_
  rintro e w3 ⟨rfl, hd3⟩
  have hb3 := below_next hb2 (hd3.below w2.heap.size)
  go_wp2_with fail
  refine (live_any _).mono ?_
  rintro e w4 ⟨rfl, hb4⟩
  go_wp2_with fail
  go_ret
  exact ⟨rfl, below_next hb3 hb4⟩
end Go.Proofs.Ytknpengboappiaa.Oct
