
/- Layer 15 (token): Get. -/
import Derived.Test.YtonjdkankegdaaaTokenG
namespace Go.Proofs.Ytonjdkankegdaaa.Token
open Go.RowKit Go.Proofs.Ytonjdkankegdaaa.Mem Go.Proofs.Ytonjdkankegdaaa.Oct Go.Proofs.Ytonjdkankegdaaa.Pkt

def wT (k : Int) (r : List UInt8) : Int := nx true (hB k) r
def oT (k : Int) (r : List UInt8) : Bool := no true (hB k) r
def rT (k : Int) (r : List UInt8) : List UInt8 := nr true (hB k) r
def wC (k : Int) (r : List UInt8) : Int := nx (hC k) (oT k r) (rT k r)
def oC (k : Int) (r : List UInt8) : Bool := no (hC k) (oT k r) (rT k r)
def rC (k : Int) (r : List UInt8) : List UInt8 := nr (hC k) (oT k r) (rT k r)
def wR (k : Int) (r : List UInt8) : Int := nx (hR k) (oC k r) (rC k r)
def oR (k : Int) (r : List UInt8) : Bool := no (hR k) (oC k r) (rC k r)
def rR (k : Int) (r : List UInt8) : List UInt8 := nr (hR k) (oC k r) (rC k r)
def hd (b : List UInt8) : Int := match b with | c :: _ => (c.toNat : Int) | [] => 0
def gtOk (b : List UInt8) : Bool := !b.isEmpty && (oR (hd b) b.tail && tkOk (hd b) (wC (hd b) b.tail) (wR (hd b) b.tail) (rR (hd b) b.tail).length)
def gtK (b : List UInt8) : Int := if gtOk b = true then hd b else 0
def gtT (b : List UInt8) : Int := if gtOk b = true then wT (hd b) b.tail else 0
def gtC (b : List UInt8) : Int := if gtOk b = true then wC (hd b) b.tail else 0
def gtR (b : List UInt8) : Int := if gtOk b = true then wR (hd b) b.tail else 0
def gtD (b : List UInt8) : List UInt8 := if gtOk b = true then rR (hd b) b.tail else []
def gtE (b : List UInt8) : Int := if gtOk b = true then 0 else 130
/-- what Get answers -/
def GivesTk (w : World) (b : List UInt8) (e : Ending) (w' : World) : Prop :=
  ∃ v, e = .returned (.tuple #[.agg #[.int .i64 (gtK b), .int .u64 (gtT b), .int .u64 (gtC b), .int .u64 (gtR b), v], .int .i64 (gtE b)]) ∧ IsText w' v (gtD b) ∧ Below w.heap.size w w'
theorem gt_no {w w' : World} {b : List UInt8} (h : gtOk b = false) (hb : Below w.heap.size w w') : GivesTk w b (.returned (.tuple #[.agg #[.int .i64 0, .int .u64 0, .int .u64 0, .int .u64 0, .slice none 0 0], .int .i64 130])) w' := by
  unfold GivesTk gtK gtT gtC gtR gtD gtE
  rw [h]
  exact ⟨_, rfl, IsText.nil _, hb⟩
theorem gt_yes {w w' : World} {b : List UInt8} (h : gtOk b = true) {k t c r : Int} {d : List UInt8} {v : Value} (h1 : hd b = k) (h2 : wT (hd b) b.tail = t) (h3 : wC (hd b) b.tail = c) (h4 : wR (hd b) b.tail = r) (h5 : rR (hd b) b.tail = d)
    (ht : IsText w' v d) (hb : Below w.heap.size w w') : GivesTk w b (.returned (.tuple #[.agg #[.int .i64 k, .int .u64 t, .int .u64 c, .int .u64 r, v], .int .i64 0])) w' := by
  unfold GivesTk gtK gtT gtC gtR gtD gtE
  rw [h]
  simp only [if_true]
  rw [h1] at h2 h3 h4 h5 ⊢
  rw [h2, h3, h4, h5]
  exact ⟨_, rfl, ht, hb⟩
theorem nr_le (th o : Bool) (l : List UInt8) : (nr th o l).length ≤ l.length := by
  unfold nr
  split
  · unfold cutB
    split
    · simp
    · simp
  · exact Nat.le_refl _

/-- the boxes of Get: its result's at b, the rest's at n, ok's at n + 1, the packet's at n + 2, the parts' at q -/
structure TF (b n q : Nat) (pc pr : Bool) (k t c r : Int) (w : World) : Prop where
  hq : q < w.heap.size
  hbn : b < n
  hnq : n + 2 < q
  b0 : w.cell? ⟨b, 0, none⟩ = some (.int .i64 0)
  b1 : w.cell? ⟨b, 1, none⟩ = some (.int .u64 0)
  b2 : w.cell? ⟨b, 2, none⟩ = some (.int .u64 0)
  b3 : w.cell? ⟨b, 3, none⟩ = some (.int .u64 0)
  b4 : w.cell? ⟨b, 4, none⟩ = some (.slice none 0 0)
  t0 : w.cell? ⟨n + 1 + 1, 0, none⟩ = some (.int .i64 k)
  t1 : w.cell? ⟨n + 1 + 1, 1, none⟩ = some (.int .u64 t)
  t2 : w.cell? ⟨n + 1 + 1, 2, none⟩ = some (.int .u64 c)
  t3 : w.cell? ⟨n + 1 + 1, 3, none⟩ = some (.int .u64 r)
  t4 : w.cell? ⟨n + 1 + 1, 4, none⟩ = some (.slice none 0 0)
  p0 : w.cell? ⟨q, 0, none⟩ = some (.bool pc)
  p1 : w.cell? ⟨q, 1, none⟩ = some (.bool pr)
  fb : ∀ i, i < 5 → w.frozen? ⟨b, i, none⟩ = false
  ft : ∀ i, i < 5 → w.frozen? ⟨n + 1 + 1, i, none⟩ = false
  fk : w.frozen? ⟨n + 1, 0, none⟩ = false
  fr : w.frozen? ⟨n, 0, none⟩ = false
theorem TF.kp {b n q : Nat} {pc pr : Bool} {k t c r : Int} {w w' : World} (h : TF b n q pc pr k t c r w) (hk : Kp (n + 1) n w w') : TF b n q pc pr k t c r w' := by
  have h1 := h.hq
  have h2 := h.hbn
  have h3 := h.hnq
  have kb : ∀ i, w'.cell? ⟨b, i, none⟩ = w.cell? ⟨b, i, none⟩ := fun i => hk.cell b i (by omega) (by omega) (by omega)
  have kt : ∀ i, w'.cell? ⟨n + 1 + 1, i, none⟩ = w.cell? ⟨n + 1 + 1, i, none⟩ := fun i => hk.cell _ i (by omega) (by omega) (by omega)
  have kq : ∀ i, w'.cell? ⟨q, i, none⟩ = w.cell? ⟨q, i, none⟩ := fun i => hk.cell _ i (by omega) (by omega) (by omega)
  exact ⟨Nat.lt_of_lt_of_le h1 hk.size, h2, h3, (kb _).trans h.b0, (kb _).trans h.b1, (kb _).trans h.b2, (kb _).trans h.b3, (kb _).trans h.b4,
    (kt _).trans h.t0, (kt _).trans h.t1, (kt _).trans h.t2, (kt _).trans h.t3, (kt _).trans h.t4, (kq _).trans h.p0, (kq _).trans h.p1,
    fun i hi => (hk.froz _ _ (by omega)).trans (h.fb i hi), fun i hi => (hk.froz _ _ (by omega)).trans (h.ft i hi), (hk.froz _ _ (by omega)).trans h.fk, (hk.froz _ _ (by omega)).trans h.fr⟩
theorem TF.cells {b n q : Nat} {pc pr : Bool} {k t c r : Int} {w : World} (h : TF b n q pc pr k t c r w) (i : Nat) (x : Value) (hi : i < 5) :
    (∀ j, (w.setCell ⟨n + 1 + 1, i, none⟩ x).cell? ⟨b, j, none⟩ = w.cell? ⟨b, j, none⟩) ∧ (∀ j, j ≠ i → (w.setCell ⟨n + 1 + 1, i, none⟩ x).cell? ⟨n + 1 + 1, j, none⟩ = w.cell? ⟨n + 1 + 1, j, none⟩) ∧
    (∀ j, (w.setCell ⟨n + 1 + 1, i, none⟩ x).cell? ⟨q, j, none⟩ = w.cell? ⟨q, j, none⟩) ∧ (∀ a, (w.setCell ⟨n + 1 + 1, i, none⟩ x).frozen? a = w.frozen? a) ∧ (w.setCell ⟨n + 1 + 1, i, none⟩ x).cell? ⟨n + 1 + 1, i, none⟩ = some x ∧ (w.setCell ⟨n + 1 + 1, i, none⟩ x).heap.size = w.heap.size := by
  have h2 := h.hbn
  have h3 := h.hnq
  have hb1 : ¬ b = n + 1 + 1 := by omega
  have hb2 : ¬ q = n + 1 + 1 := by omega
  have hs : ∃ y, w.cell? ⟨n + 1 + 1, i, none⟩ = some y := by
    have : i = 0 ∨ i = 1 ∨ i = 2 ∨ i = 3 ∨ i = 4 := by omega
    rcases this with rfl | rfl | rfl | rfl | rfl
    · exact ⟨_, h.t0⟩
    · exact ⟨_, h.t1⟩
    · exact ⟨_, h.t2⟩
    · exact ⟨_, h.t3⟩
    · exact ⟨_, h.t4⟩
  obtain ⟨y, hy⟩ := hs
  refine ⟨fun j => ?_, fun j hj => ?_, fun j => ?_, fun a => ?_, ?_, ?_⟩
  · simp [go_sem]
  · simp [go_sem]
  · simp [go_sem]
  · simp [go_sem]
  · simp [go_sem, hy]
  · simp [World.setCell]

theorem TF.set1 {b n q : Nat} {pc pr : Bool} {k t c r : Int} {w : World} (h : TF b n q pc pr k t c r w) (y : Int) : TF b n q pc pr k y c r (w.setCell ⟨n + 1 + 1, 1, none⟩ (.int .u64 y)) := by
  obtain ⟨b1, b2, b3, b4, e, b5⟩ := h.cells 1 (.int .u64 y) (by decide)
  exact ⟨by rw [b5]; exact h.hq, h.hbn, h.hnq, (b1 _).trans h.b0, (b1 _).trans h.b1, (b1 _).trans h.b2, (b1 _).trans h.b3, (b1 _).trans h.b4, (b2 _ (by decide)).trans h.t0, e, (b2 _ (by decide)).trans h.t2, (b2 _ (by decide)).trans h.t3, (b2 _ (by decide)).trans h.t4, (b3 _).trans h.p0, (b3 _).trans h.p1,
    fun i hi => (b4 _).trans (h.fb i hi), fun i hi => (b4 _).trans (h.ft i hi), (b4 _).trans h.fk, (b4 _).trans h.fr⟩
theorem TF.set2 {b n q : Nat} {pc pr : Bool} {k t c r : Int} {w : World} (h : TF b n q pc pr k t c r w) (y : Int) : TF b n q pc pr k t y r (w.setCell ⟨n + 1 + 1, 2, none⟩ (.int .u64 y)) := by
  obtain ⟨b1, b2, b3, b4, e, b5⟩ := h.cells 2 (.int .u64 y) (by decide)
  exact ⟨by rw [b5]; exact h.hq, h.hbn, h.hnq, (b1 _).trans h.b0, (b1 _).trans h.b1, (b1 _).trans h.b2, (b1 _).trans h.b3, (b1 _).trans h.b4, (b2 _ (by decide)).trans h.t0, (b2 _ (by decide)).trans h.t1, e, (b2 _ (by decide)).trans h.t3, (b2 _ (by decide)).trans h.t4, (b3 _).trans h.p0, (b3 _).trans h.p1,
    fun i hi => (b4 _).trans (h.fb i hi), fun i hi => (b4 _).trans (h.ft i hi), (b4 _).trans h.fk, (b4 _).trans h.fr⟩
theorem TF.set3 {b n q : Nat} {pc pr : Bool} {k t c r : Int} {w : World} (h : TF b n q pc pr k t c r w) (y : Int) : TF b n q pc pr k t c y (w.setCell ⟨n + 1 + 1, 3, none⟩ (.int .u64 y)) := by
  obtain ⟨b1, b2, b3, b4, e, b5⟩ := h.cells 3 (.int .u64 y) (by decide)
  exact ⟨by rw [b5]; exact h.hq, h.hbn, h.hnq, (b1 _).trans h.b0, (b1 _).trans h.b1, (b1 _).trans h.b2, (b1 _).trans h.b3, (b1 _).trans h.b4, (b2 _ (by decide)).trans h.t0, (b2 _ (by decide)).trans h.t1, (b2 _ (by decide)).trans h.t2, e, (b2 _ (by decide)).trans h.t4, (b3 _).trans h.p0, (b3 _).trans h.p1,
    fun i hi => (b4 _).trans (h.fb i hi), fun i hi => (b4 _).trans (h.ft i hi), (b4 _).trans h.fk, (b4 _).trans h.fr⟩

set_option maxHeartbeats 8000000 in
theorem Get_cons (A : Option Addr) (cap : Nat) (x : UInt8) (l : List UInt8) (W : World) (hA : Bytes W W.heap.size A (x :: l)) (hc : (x :: l).length ≤ cap) (hm : cap ≤ maxLen) (hl : (x :: l).length ≤ 140737488355328) :
    Calls Try.prog 32 #[.slice A (x :: l).length cap] W (GivesTk W (x :: l)) := by
  have e3 : cutOk (x :: l) 1 = true := by unfold cutOk; simp; omega
  have e1 : cutA (x :: l) 1 = [x] := by unfold cutA; rw [if_pos e3]; rfl
  have e2 : cutB (x :: l) 1 = l := by unfold cutB; rw [if_pos e3]; rfl
  have c1 := fun w h => Cut_any A cap (x :: l) 1 w h hc hm hl
  rw [e1, e2, e3] at c1
  have C1 := Lib.hid c1
  have hL : l.length ≤ 140737488355328 := by simp at hl; omega
  have hrd := Lib.hid (fun k t c r A n cap W => right_any k t c r A n cap W)
  have hhs := fun w => has_any (x.toNat : Int) w
  have hy : ∀ W' v, gtOk (x :: l) = true → IsText W' v (rR (x.toNat : Int) l) → Below W.heap.size W W' → GivesTk W (x :: l) (.returned (.tuple #[.agg #[.int .i64 (x.toNat : Int), .int .u64 (wT (x.toNat : Int) l), .int .u64 (wC (x.toNat : Int) l), .int .u64 (wR (x.toNat : Int) l), v], .int .i64 0])) W' :=
    fun W' v hh ht hb => gt_yes hh rfl rfl rfl rfl rfl ht hb
  have HN := Lib.hid (fun W' : World => @gt_no W W' (x :: l))
  have hgk : gtOk (x :: l) = (oR (x.toNat : Int) l && tkOk (x.toNat : Int) (wC (x.toNat : Int) l) (wR (x.toNat : Int) l) (rR (x.toNat : Int) l).length) := rfl
  have G1 : nx true (hB (x.toNat : Int)) l = wT (x.toNat : Int) l ∧ no true (hB (x.toNat : Int)) l = oT (x.toNat : Int) l ∧ nr true (hB (x.toNat : Int)) l = rT (x.toNat : Int) l := ⟨rfl, rfl, rfl⟩
  have G2 : nx (hC (x.toNat : Int)) (oT (x.toNat : Int) l) (rT (x.toNat : Int) l) = wC (x.toNat : Int) l ∧ no (hC (x.toNat : Int)) (oT (x.toNat : Int) l) (rT (x.toNat : Int) l) = oC (x.toNat : Int) l ∧ nr (hC (x.toNat : Int)) (oT (x.toNat : Int) l) (rT (x.toNat : Int) l) = rC (x.toNat : Int) l := ⟨rfl, rfl, rfl⟩
  have G3 : nx (hR (x.toNat : Int)) (oC (x.toNat : Int) l) (rC (x.toNat : Int) l) = wR (x.toNat : Int) l ∧ no (hR (x.toNat : Int)) (oC (x.toNat : Int) l) (rC (x.toNat : Int) l) = oR (x.toNat : Int) l ∧ nr (hR (x.toNat : Int)) (oC (x.toNat : Int) l) (rC (x.toNat : Int) l) = rR (x.toNat : Int) l := ⟨rfl, rfl, rfl⟩
  have L1 : (rT (x.toNat : Int) l).length ≤ 140737488355328 := Nat.le_trans (nr_le _ _ _) hL
  have L2 : (rC (x.toNat : Int) l).length ≤ 140737488355328 := Nat.le_trans (nr_le _ _ _) L1
  have L3 : (rR (x.toNat : Int) l).length ≤ 140737488355328 := Nat.le_trans (nr_le _ _ _) L2
  have hcr : (0 : Int) ≤ (x.toNat : Int) ∧ (x.toNat : Int) ≤ 255 := by have := x.toNat_lt; omega
  unfold GivesHas at hhs
  have HX := Lib.hid (rfl : (x.toNat : Int) = (x.toNat : Int))
  generalize hkk : (x.toNat : Int) = k at hy hgk G1 G2 G3 L1 L2 L3 hcr hhs
  clear HX
  generalize wT k l = t at *
  generalize oT k l = o1 at *
  generalize rT k l = r1 at *
  generalize wC k l = c at *
  generalize oC k l = o2 at *
  generalize rC k l = r2 at *
  generalize wR k l = r at *
  generalize oR k l = o3 at *
  generalize rR k l = r3 at *
  generalize hC k = pc at *
  generalize hR k = pr at *
  generalize hB k = o0 at *
  generalize hD k = pd at *
  have G1 := Lib.hid G1
  have G2 := Lib.hid G2
  have G3 := Lib.hid G3
  have L1 := Lib.hid L1
  have L2 := Lib.hid L2
  have L3 := Lib.hid L3
  have HL := Lib.hid hL
  have HG := Lib.hid hgk
  have HY := Lib.hid hy
  have HK := Lib.hid hkk
  clear hy hgk hkk hL
  generalize hgl : (x :: l).length = nl at *
  clear e1 e2 e3 c1 hc hm hl
  have HA := Lib.hid hA
  clear hA
  have hb0 : Below W.heap.size W (W.alloc (.cells #[.int .i64 0, .int .u64 0, .int .u64 0, .int .u64 0, .slice none 0 0] 36)) := below_alloc (Below.refl _ _) _
  go_enter Try.func32, Try.ntmps32
  go_wp2_with fail
  refine (C1.out _ (HA.out.later hb0)).mono ?_
  rintro e w1 ⟨u, v, rfl, hu, hv, hb1⟩
  obtain ⟨A1, k1, rfl, hk1, hm1, _⟩ := hu.shape
  obtain ⟨A2, k2, rfl, hk2, hm2, _⟩ := hv.shape
  obtain ⟨g, off, rfl, hg, hgx⟩ := hu.bytes.at_ (k := 0) (by simp)
  obtain ⟨m1, rfl⟩ : ∃ m1, k1 = m1 + 1 := ⟨k1 - 1, by simp at hk1; omega⟩
  have hgx : w1.cell? ⟨g, off, none⟩ = some (.int .u8 k) := by rw [← HK.out]; exact hgx
  have hx0 : w1.cell? ⟨W.heap.size, 0, none⟩ = some (.int .i64 0) := (box_cell hb1 (by simp) 0).1
  have hx1 : w1.cell? ⟨W.heap.size, 1, none⟩ = some (.int .u64 0) := (box_cell hb1 (by simp) 1).1
  have hx2 : w1.cell? ⟨W.heap.size, 2, none⟩ = some (.int .u64 0) := (box_cell hb1 (by simp) 2).1
  have hx3 : w1.cell? ⟨W.heap.size, 3, none⟩ = some (.int .u64 0) := (box_cell hb1 (by simp) 3).1
  have hx4 : w1.cell? ⟨W.heap.size, 4, none⟩ = some (.slice none 0 0) := (box_cell hb1 (by simp) 4).1
  have hxf : ∀ i, w1.frozen? ⟨W.heap.size, i, none⟩ = false := fun i => (box_cell hb1 (by simp) i).2
  have hs1 : W.heap.size + 1 ≤ w1.heap.size := by have := hb1.size; simpa using this
  have hq0 : W.heap.size < w1.heap.size := by omega
  have hq1 : ¬ W.heap.size = w1.heap.size := by omega
  have hq2 : ¬ w1.heap.size = W.heap.size := by omega
  have hg2 : ¬ g = w1.heap.size := by omega
  have hr0 : RestAt (fun b => W.heap.size < b ∧ (b < w1.heap.size ∨ w1.heap.size + 3 ≤ b)) w1 A2 l := by
    intro hl0
    obtain ⟨b, off, h1, h2, h3, h4⟩ := (RestAt.own (p := fun b => W.heap.size < b) hv (by intro b hb; simp at hb; omega)) hl0
    exact ⟨b, off, h1, h2, ⟨h3, .inl h2⟩, h4⟩
  have HR0 := Lib.hid hr0
  have HB1 := Lib.hid (below_next hb0 hb1)
  clear hu hv hb1 hr0 hb0 hs1
  go_wp2_with fail
  refine (hhs _).mono ?_
  rintro e w2 ⟨rfl, hb2⟩
  obtain ⟨hcl, hf⟩ := bcell hb2
  have hz2 : w1.heap.size + 3 ≤ w2.heap.size := by have := hb2.size; simpa using this
  have hn3 : ¬ w1.heap.size + 1 = w1.heap.size + 2 := by omega
  have a0 : w2.cell? ⟨w1.heap.size, 0, none⟩ = some (.slice A2 l.length k2) := by rw [hcl _ _ (by simp; omega)]; simp [go_sem]
  have a1 : w2.cell? ⟨w1.heap.size + 1, 0, none⟩ = some (.bool true) := by rw [hcl _ _ (by simp)]; simp [go_sem]
  have a2 : w2.frozen? ⟨w1.heap.size + 1, 0, none⟩ = false := by rw [hf _ _ (by simp)]; simp [go_sem]
  have hq3 : ¬ w1.heap.size + 1 = w2.heap.size := by omega
  have hq4 : ¬ w2.heap.size = w1.heap.size + 1 := by omega
  have hq5 : w1.heap.size + 1 < w2.heap.size := by omega
  go_wp2_with fail
  obtain ⟨Y, hY⟩ : ∃ Y, Y = (w2.setCell ⟨w1.heap.size + 1, 0, none⟩ (.bool o0)).alloc (.cells #[.bool pc, .bool pr, .int .i64 pd] 73) := ⟨_, rfl⟩
  rw [← hY]
  have hc12 : ∀ i, w2.cell? ⟨W.heap.size, i, none⟩ = w1.cell? ⟨W.heap.size, i, none⟩ := fun i => by rw [hcl _ _ (by simp; omega)]; exact (bcell (below_alloc (below_alloc (below_alloc (Below.refl w1.heap.size w1) _) _) _)).1 _ _ hq0
  have hqz : ¬ W.heap.size = w2.heap.size := by omega
  have hqy : ¬ w1.heap.size + 1 + 1 = w2.heap.size := by omega
  have hqx : ¬ w1.heap.size + 1 + 1 = w1.heap.size + 1 := by omega
  have hqv : ¬ w1.heap.size = w2.heap.size := by omega
  have hYc : ∀ b i, b < w2.heap.size → Y.cell? ⟨b, i, none⟩ = (w2.setCell ⟨w1.heap.size + 1, 0, none⟩ (.bool o0)).cell? ⟨b, i, none⟩ := fun b i hb => by rw [hY]; exact (bcell (below_alloc (Below.refl (w2.setCell ⟨w1.heap.size + 1, 0, none⟩ (.bool o0)).heap.size _) _)).1 _ _ (by simp [World.setCell]; exact hb)
  have hok : Y.cell? ⟨w1.heap.size + 1, 0, none⟩ = some (.bool o0) := by rw [hYc _ _ hq5]; simp [go_sem, a1]
  have hrs : Y.cell? ⟨w1.heap.size, 0, none⟩ = some (.slice A2 l.length k2) := by rw [hYc _ _ (by omega)]; simp [go_sem, a0]
  have hYb : ∀ b i, b < w1.heap.size → Y.cell? ⟨b, i, none⟩ = w1.cell? ⟨b, i, none⟩ := fun b i hb => by
    rw [hYc _ _ (by omega)]
    have : ¬ b = w1.heap.size + 1 := by omega
    have h2 : (w2.setCell ⟨w1.heap.size + 1, 0, none⟩ (.bool o0)).cell? ⟨b, i, none⟩ = w2.cell? ⟨b, i, none⟩ := by simp [go_sem]
    rw [h2, hcl _ _ (by simp; omega)]
    exact (bcell (below_alloc (below_alloc (below_alloc (Below.refl w1.heap.size w1) _) _) _)).1 _ _ hb
  have hYf : ∀ b i, b < w2.heap.size → Y.frozen? ⟨b, i, none⟩ = w2.frozen? ⟨b, i, none⟩ := fun b i hb => by
    rw [hY, (bcell (below_alloc (Below.refl (w2.setCell ⟨w1.heap.size + 1, 0, none⟩ (.bool o0)).heap.size _) _)).2 _ _ (by simp [World.setCell]; exact hb)]
    simp [go_sem]
  have hYt : ∀ i, Y.cell? ⟨w1.heap.size + 1 + 1, i, none⟩ = #[Value.int .i64 k, .int .u64 0, .int .u64 0, .int .u64 0, .slice none 0 0][i]? := fun i => by
    rw [hYc _ _ (by omega)]
    have h2 : (w2.setCell ⟨w1.heap.size + 1, 0, none⟩ (.bool o0)).cell? ⟨w1.heap.size + 1 + 1, i, none⟩ = w2.cell? ⟨w1.heap.size + 1 + 1, i, none⟩ := by simp [go_sem]
    rw [h2, hcl _ _ (by simp)]
    simp [go_sem]
  have hYg : ∀ i, Y.frozen? ⟨w1.heap.size + 1 + 1, i, none⟩ = false := fun i => by
    rw [hYf _ _ (by omega), hf _ _ (by simp)]
    simp [go_sem]
  have FY : TF W.heap.size w1.heap.size w2.heap.size pc pr k 0 0 0 Y := by
    refine ⟨by rw [hY]; simp [World.setCell], hq0, by omega, (hYb _ _ hq0).trans hx0, (hYb _ _ hq0).trans hx1, (hYb _ _ hq0).trans hx2, (hYb _ _ hq0).trans hx3, (hYb _ _ hq0).trans hx4,
      hYt 0, hYt 1, hYt 2, hYt 3, hYt 4, by rw [hY]; simp [go_sem], by rw [hY]; simp [go_sem], fun i _ => ?_, fun i _ => hYg i, ?_, ?_⟩
    · rw [hYf _ _ (by omega), hf _ _ (by simp; omega), (bcell (below_alloc (below_alloc (below_alloc (Below.refl w1.heap.size w1) _) _) _)).2 _ _ hq0]
      exact hxf i
    · rw [hYf _ _ hq5]; exact a2
    · rw [hYf _ _ (by omega), hf _ _ (by simp; omega)]; simp [go_sem]
  have hRY : RestAt (fun b => W.heap.size < b ∧ (b < w1.heap.size ∨ w1.heap.size + 3 ≤ b)) Y A2 l := by
    intro hl0
    obtain ⟨b, off, h1, h2, h3, h4⟩ := HR0.out hl0
    exact ⟨b, off, h1, by rw [hY]; simp [World.setCell]; omega, h3, fun i hi => (hYb _ _ h2).trans (h4 i hi)⟩
  have hBY : Below W.heap.size W Y := by
    rw [hY]
    have h1 := below_next (below_alloc (below_alloc (below_alloc HB1.out _) _) _) hb2
    exact below_alloc (h1.setCell (p := ⟨w1.heap.size + 1, 0, none⟩) (by simp; omega) _) _
  have hnY : ∀ b, Y.heap.size ≤ b → W.heap.size < b ∧ (b < w1.heap.size ∨ w1.heap.size + 3 ≤ b) := by
    intro b hb
    have := FY.hq
    omega
  generalize hn : w1.heap.size = n at *
  clear hY hcl hf hb2 hgx hg
  refine (get1_any (fun b => W.heap.size < b ∧ (b < n ∨ n + 3 ≤ b)) true o0 (n + 1) n A2 k2 l Y (by have := FY.hq; have := FY.hnq; omega) (by have := FY.hq; have := FY.hnq; omega) (by omega) hok hrs FY.fk FY.fr hRY hk2 hm2 HL.out (by omega) (by omega) hnY).mono ?_
  unfold GivesNx
  rw [G1.out.1, G1.out.2.1, G1.out.2.2]
  rintro e w3 ⟨rfl, hk3, ho3, A3, k3, hs3, hl3, hm3, hr3⟩
  have F3 := FY.kp hk3
  have c3 := F3.t1
  have f3 := F3.ft 1 (by decide)
  have p3 := F3.p0
  have n3 : ¬ w2.heap.size = n + 1 + 1 := by have := F3.hnq; omega
  have m3 : ¬ n + 1 + 1 = w2.heap.size := by omega
  go_wp2_with fail
  have Z3 := F3.set1 t
  have hb3 : Below W.heap.size W (w3.setCell ⟨n + 1 + 1, 1, none⟩ (.int .u64 t)) := (hk3.below _ _ hBY (by omega) (by omega)).setCell (p := ⟨n + 1 + 1, 1, none⟩) (by simp; omega) _
  have hr3' : RestAt (fun b => W.heap.size < b ∧ (b < n ∨ n + 3 ≤ b)) (w3.setCell ⟨n + 1 + 1, 1, none⟩ (.int .u64 t)) A3 r1 := hr3.keep (by simp [World.setCell]) (fun b o _ hp => by
    have : ¬ b = n + 1 + 1 := by omega
    simp [go_sem])
  refine (get1_any (fun b => W.heap.size < b ∧ (b < n ∨ n + 3 ≤ b)) pc o1 (n + 1) n A3 k3 r1 _ (by have := Z3.hq; have := Z3.hnq; omega) (by have := Z3.hq; have := Z3.hnq; omega) (by omega) (by simp [go_sem, ho3]) (by simp [go_sem, hs3]) Z3.fk Z3.fr hr3' hl3 hm3 L1.out (by omega) (by omega) (by intro b hb; have := Z3.hq; have := Z3.hnq; omega)).mono ?_
  unfold GivesNx
  rw [G2.out.1, G2.out.2.1, G2.out.2.2]
  rintro e w4 ⟨rfl, hk4, ho4, A4, k4, hs4, hl4, hm4, hr4⟩
  clear ho3 hs3 hr3 hr3' c3 f3 p3 n3 m3 hl3 hm3
  have F4 := Z3.kp hk4
  have c4 := F4.t2
  have f4 := F4.ft 2 (by decide)
  have p4 := F4.p1
  have n4 : ¬ w2.heap.size = n + 1 + 1 := by have := F4.hnq; omega
  have m4 : ¬ n + 1 + 1 = w2.heap.size := by omega
  go_wp2_with fail
  have Z4 := F4.set2 c
  have hb4 : Below W.heap.size W (w4.setCell ⟨n + 1 + 1, 2, none⟩ (.int .u64 c)) := (hk4.below _ _ hb3 (by omega) (by omega)).setCell (p := ⟨n + 1 + 1, 2, none⟩) (by simp; omega) _
  have hr4' : RestAt (fun b => W.heap.size < b ∧ (b < n ∨ n + 3 ≤ b)) (w4.setCell ⟨n + 1 + 1, 2, none⟩ (.int .u64 c)) A4 r2 := hr4.keep (by simp [World.setCell]) (fun b o _ hp => by
    have : ¬ b = n + 1 + 1 := by omega
    simp [go_sem])
  refine (get1_any (fun b => W.heap.size < b ∧ (b < n ∨ n + 3 ≤ b)) pr o2 (n + 1) n A4 k4 r2 _ (by have := Z4.hq; have := Z4.hnq; omega) (by have := Z4.hq; have := Z4.hnq; omega) (by omega) (by simp [go_sem, ho4]) (by simp [go_sem, hs4]) Z4.fk Z4.fr hr4' hl4 hm4 L2.out (by omega) (by omega) (by intro b hb; have := Z4.hq; have := Z4.hnq; omega)).mono ?_
  unfold GivesNx
  rw [G3.out.1, G3.out.2.1, G3.out.2.2]
  rintro e w5 ⟨rfl, hk5, ho5, A5, k5, hs5, hl5, hm5, hr5⟩
  clear ho4 hs4 hr4 hr4' c4 f4 p4 n4 m4 hl4 hm4
  have F5 := Z4.kp hk5
  have hb5 := Lib.hid (hk5.below _ _ hb4 (by omega) (by omega))
  have b0 := F5.b0
  have b1 := F5.b1
  have b2 := F5.b2
  have b3 := F5.b3
  have b4 := F5.b4
  have c0 := F5.t0
  have c1 := F5.t1
  have c2 := F5.t2
  have c3 := F5.t3
  have c4 := F5.t4
  have f3 := F5.ft 3 (by decide)
  have f4 := F5.ft 4 (by decide)
  have g0 := F5.fb 0 (by decide)
  have g1 := F5.fb 1 (by decide)
  have g2 := F5.fb 2 (by decide)
  have g3 := F5.fb 3 (by decide)
  have g4 := F5.fb 4 (by decide)
  have q1 : ¬ W.heap.size = n + 1 + 1 := by omega
  have q2 : ¬ n + 1 + 1 = W.heap.size := by omega
  have q3 : ¬ W.heap.size = n := by omega
  have q4 : ¬ n = n + 1 + 1 := by omega
  have q5 : ¬ n + 1 = n + 1 + 1 := by omega
  have F5' := Lib.hid F5
  clear hk5 hb4 hb3 hBY hk3 hk4 F3 F4 Z3 Z4 FY F5 hx0 hx1 hx2 hx3 hx4 hxf
  cases ho : o3 with
  | false =>
    have HG' := Lib.hid (show gtOk (x :: l) = false by rw [HG.out, ho]; rfl)
    subst ho
    clear HY hcr hrd HR0 HB1
    go_wp2_with fail
    exact bodyPost_ret (v := .tuple #[.agg #[.int .i64 0, .int .u64 0, .int .u64 0, .int .u64 0, .slice none 0 0], .int .i64 130]) (by simp [results, Try.results32, go_sem, b0, b1, b2, b3, b4]) rfl (HN.out _ HG'.out (((((((((((hb5.out.setCell (p := ⟨n + 1 + 1, 3, none⟩) (by simp; omega) _).setCell (p := ⟨n + 1 + 1, 4, none⟩) (by simp; omega) _).setCell (p := ⟨W.heap.size, 0, none⟩) (Nat.le_refl _) _)).setCell (p := ⟨W.heap.size, 1, none⟩) (Nat.le_refl _) _)).setCell (p := ⟨W.heap.size, 2, none⟩) (Nat.le_refl _) _)).setCell (p := ⟨W.heap.size, 3, none⟩) (Nat.le_refl _) _)).setCell (p := ⟨W.heap.size, 4, none⟩) (Nat.le_refl _) _))
  | true =>
    subst ho
    obtain ⟨v, hv⟩ : ∃ v, v = tkOk k c r r3.length := ⟨_, rfl⟩
    have hg := HG.out
    rw [← hv, Bool.true_and] at hg
    have hrr := fun A cap W => hrd.out k t c r A r3.length cap W
    rw [← hv] at hrr
    have HRR := Lib.hid hrr
    clear hrr hrd hv HR0 HB1 hcr
    cases v with
    | false =>
      go_wp2_with fail
      refine (HRR.out _ _ _).mono ?_
      rintro e w6 ⟨rfl, hb6⟩
      have hz6 : w5.heap.size ≤ w6.heap.size := by have := hb6.size; simpa [World.setCell] using this
      have hn5 : n + 1 + 1 < w5.heap.size := by have := F5'.out.hq; have := F5'.out.hnq; omega
      have hcl6 := (bcell hb6).1
      have hf6 := (bcell hb6).2
      have e0 : w6.cell? ⟨W.heap.size, 0, none⟩ = some (.int .i64 0) := by rw [hcl6 _ _ (by simp [World.setCell]; omega)]; simp [go_sem, b0]
      have e1 : w6.cell? ⟨W.heap.size, 1, none⟩ = some (.int .u64 0) := by rw [hcl6 _ _ (by simp [World.setCell]; omega)]; simp [go_sem, b1]
      have e2 : w6.cell? ⟨W.heap.size, 2, none⟩ = some (.int .u64 0) := by rw [hcl6 _ _ (by simp [World.setCell]; omega)]; simp [go_sem, b2]
      have e3 : w6.cell? ⟨W.heap.size, 3, none⟩ = some (.int .u64 0) := by rw [hcl6 _ _ (by simp [World.setCell]; omega)]; simp [go_sem, b3]
      have e4 : w6.cell? ⟨W.heap.size, 4, none⟩ = some (.slice none 0 0) := by rw [hcl6 _ _ (by simp [World.setCell]; omega)]; simp [go_sem, b4]
      have h0 : w6.frozen? ⟨W.heap.size, 0, none⟩ = false := by rw [hf6 _ _ (by simp [World.setCell]; omega)]; simp [go_sem, g0]
      have h1 : w6.frozen? ⟨W.heap.size, 1, none⟩ = false := by rw [hf6 _ _ (by simp [World.setCell]; omega)]; simp [go_sem, g1]
      have h2 : w6.frozen? ⟨W.heap.size, 2, none⟩ = false := by rw [hf6 _ _ (by simp [World.setCell]; omega)]; simp [go_sem, g2]
      have h3 : w6.frozen? ⟨W.heap.size, 3, none⟩ = false := by rw [hf6 _ _ (by simp [World.setCell]; omega)]; simp [go_sem, g3]
      have h4 : w6.frozen? ⟨W.heap.size, 4, none⟩ = false := by rw [hf6 _ _ (by simp [World.setCell]; omega)]; simp [go_sem, g4]
      have HB6 := Lib.hid (below_trans2 ((hb5.out.setCell (p := ⟨n + 1 + 1, 3, none⟩) (by simp; omega) (.int .u64 r)).setCell (p := ⟨n + 1 + 1, 4, none⟩) (by simp; omega) (.slice A5 r3.length k5)) hb6 (by simp [World.setCell]; omega))
      clear hcl6 hf6 hb6 b0 b1 b2 b3 b4 c0 c1 c2 c3 c4 f3 f4 g0 g1 g2 g3 g4 hs5 ho5 hr5
      go_wp2_with fail
      exact bodyPost_ret (v := .tuple #[.agg #[.int .i64 0, .int .u64 0, .int .u64 0, .int .u64 0, .slice none 0 0], .int .i64 130]) (by simp [results, Try.results32, go_sem, e0, e1, e2, e3, e4]) rfl (HN.out _ hg ((((((((((HB6.out).setCell (p := ⟨W.heap.size, 0, none⟩) (Nat.le_refl _) _)).setCell (p := ⟨W.heap.size, 1, none⟩) (Nat.le_refl _) _)).setCell (p := ⟨W.heap.size, 2, none⟩) (Nat.le_refl _) _)).setCell (p := ⟨W.heap.size, 3, none⟩) (Nat.le_refl _) _)).setCell (p := ⟨W.heap.size, 4, none⟩) (Nat.le_refl _) _))
    | true =>
      go_wp2_with fail
      refine (HRR.out _ _ _).mono ?_
      rintro e w6 ⟨rfl, hb6⟩
      have hz6 : w5.heap.size ≤ w6.heap.size := by have := hb6.size; simpa [World.setCell] using this
      have hn5 : n + 1 + 1 < w5.heap.size := by have := F5'.out.hq; have := F5'.out.hnq; omega
      have hcl6 := (bcell hb6).1
      have hf6 := (bcell hb6).2
      have e0 : w6.cell? ⟨W.heap.size, 0, none⟩ = some (.int .i64 0) := by rw [hcl6 _ _ (by simp [World.setCell]; omega)]; simp [go_sem, b0]
      have e1 : w6.cell? ⟨W.heap.size, 1, none⟩ = some (.int .u64 0) := by rw [hcl6 _ _ (by simp [World.setCell]; omega)]; simp [go_sem, b1]
      have e2 : w6.cell? ⟨W.heap.size, 2, none⟩ = some (.int .u64 0) := by rw [hcl6 _ _ (by simp [World.setCell]; omega)]; simp [go_sem, b2]
      have e3 : w6.cell? ⟨W.heap.size, 3, none⟩ = some (.int .u64 0) := by rw [hcl6 _ _ (by simp [World.setCell]; omega)]; simp [go_sem, b3]
      have e4 : w6.cell? ⟨W.heap.size, 4, none⟩ = some (.slice none 0 0) := by rw [hcl6 _ _ (by simp [World.setCell]; omega)]; simp [go_sem, b4]
      have h0 : w6.frozen? ⟨W.heap.size, 0, none⟩ = false := by rw [hf6 _ _ (by simp [World.setCell]; omega)]; simp [go_sem, g0]
      have h1 : w6.frozen? ⟨W.heap.size, 1, none⟩ = false := by rw [hf6 _ _ (by simp [World.setCell]; omega)]; simp [go_sem, g1]
      have h2 : w6.frozen? ⟨W.heap.size, 2, none⟩ = false := by rw [hf6 _ _ (by simp [World.setCell]; omega)]; simp [go_sem, g2]
      have h3 : w6.frozen? ⟨W.heap.size, 3, none⟩ = false := by rw [hf6 _ _ (by simp [World.setCell]; omega)]; simp [go_sem, g3]
      have h4 : w6.frozen? ⟨W.heap.size, 4, none⟩ = false := by rw [hf6 _ _ (by simp [World.setCell]; omega)]; simp [go_sem, g4]
      have d0 : w6.cell? ⟨n + 1 + 1, 0, none⟩ = some (.int .i64 k) := by rw [hcl6 _ _ (by simp [World.setCell]; omega)]; simp [go_sem, c0]
      have d1 : w6.cell? ⟨n + 1 + 1, 1, none⟩ = some (.int .u64 t) := by rw [hcl6 _ _ (by simp [World.setCell]; omega)]; simp [go_sem, c1]
      have d2 : w6.cell? ⟨n + 1 + 1, 2, none⟩ = some (.int .u64 c) := by rw [hcl6 _ _ (by simp [World.setCell]; omega)]; simp [go_sem, c2]
      have d3 : w6.cell? ⟨n + 1 + 1, 3, none⟩ = some (.int .u64 r) := by rw [hcl6 _ _ (by simp [World.setCell]; omega)]; simp [go_sem, c3]
      have d4 : w6.cell? ⟨n + 1 + 1, 4, none⟩ = some (.slice A5 r3.length k5) := by rw [hcl6 _ _ (by simp [World.setCell]; omega)]; simp [go_sem, c4]
      have HB6 := Lib.hid (below_trans2 ((hb5.out.setCell (p := ⟨n + 1 + 1, 3, none⟩) (by simp; omega) (.int .u64 r)).setCell (p := ⟨n + 1 + 1, 4, none⟩) (by simp; omega) (.slice A5 r3.length k5)) hb6 (by simp [World.setCell]; omega))
      have hr6 := Lib.hid ((hr5.keep (w' := (w5.setCell ⟨n + 1 + 1, 3, none⟩ (.int .u64 r)).setCell ⟨n + 1 + 1, 4, none⟩ (.slice A5 r3.length k5)) (by simp [World.setCell]) (fun b o _ hp => by
        have : ¬ b = n + 1 + 1 := by omega
        simp [go_sem])).keep hb6.size (fun b o h _ => hcl6 b o h))
      clear hcl6 hf6 hb6 b0 b1 b2 b3 b4 c0 c1 c2 c3 c4 f3 f4 g0 g1 g2 g3 g4 hs5 ho5 hr5
      go_wp2_with fail
      refine bodyPost_ret (v := .tuple #[.agg #[.int .i64 k, .int .u64 t, .int .u64 c, .int .u64 r, .slice A5 r3.length k5], .int .i64 0]) (by simp [results, Try.results32, go_sem, e0, e1, e2, e3, e4]) rfl (HY.out _ _ hg ⟨A5, k5, rfl, hl5, hm5, (hr6.out.keep (by simp [World.setCell]) (fun b o _ hp => ?_)).bytes⟩ ((((((((((HB6.out).setCell (p := ⟨W.heap.size, 0, none⟩) (Nat.le_refl _) _)).setCell (p := ⟨W.heap.size, 1, none⟩) (Nat.le_refl _) _)).setCell (p := ⟨W.heap.size, 2, none⟩) (Nat.le_refl _) _)).setCell (p := ⟨W.heap.size, 3, none⟩) (Nat.le_refl _) _)).setCell (p := ⟨W.heap.size, 4, none⟩) (Nat.le_refl _) _))
      have : ¬ b = W.heap.size := by omega
      simp [go_sem]
end Go.Proofs.Ytonjdkankegdaaa.Token
