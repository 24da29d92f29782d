
/- Layer 5 (deframe): bytes fed to a scanner. -/
import Derived.Test.YtfieinajkkcelaaDefI
import Derived.ScopeJumps
namespace Go.Proofs.Ytfieinajkkcelaa.Def
open Go.RowKit Go.Proofs.Ytfieinajkkcelaa.Mem Go.Proofs.Ytfieinajkkcelaa.Oct Go.Proofs.Ytfieinajkkcelaa.Pkt Go.Proofs.Ytfieinajkkcelaa.DefM Go.Proofs.Ytfieinajkkcelaa.FrmM

theorem wp_scope_first {P : Program} {a : Act} {w : World} {Q : Exit → Act → World → Prop} {c rest : Code} (l : Nat) (J : Act → World → Prop) (μ : Act → World → Nat) (hf : findLabel c l = some (Code.skip.seq rest))
    (pass : ∀ a w, J a w → rest.wp P (Exit.jump l (fun a' w' => J a' w' ∧ μ a' w' < μ a w) Q) a w)
    (first : (∀ a w, J a w → rest.wp P (Exit.jump l J Q) a w) → c.wp P (Exit.jump l J Q) a w) : (Code.scope c).wp P Q a w :=
  wp_scope_jumps l J μ hf (first fun a w h => Code.wp_mono (fun e a' w' h' => by
    cases e <;> first | exact h' | exact ⟨h'.1, h'.2.1⟩) (pass a w h)) fun a w h => wp_seq (wp_skip (pass a w h))

theorem TextP.own' {p : Nat → Prop} {w : World} {base : Nat} {v : Value} {l : List UInt8} (h : Own 5 w base v l) (hp : ∀ g, v.ownBlock = some g → p g) : TextP p w v l := by
  obtain ⟨A, c, rfl, h1, h2, _⟩ := h.shape
  refine ⟨A, c, rfl, h1, h2, fun hl => ?_⟩
  obtain ⟨b, off, e1, e2, e3⟩ := h.bytes hl
  exact ⟨b, off, e1, e2, hp b (by rw [e1]; rfl), e3⟩

theorem own_shape {E : TypeId} {w : World} {base : Nat} {v : Value} {l : List UInt8} (h : Own E w base v l) : ∃ A n c, v = .slice A n c ∧ l.length = n := by
  obtain ⟨A, c, rfl, _⟩ := h.shape
  exact ⟨A, _, c, rfl, rfl⟩
theorem ownV_shape {E : TypeId} {w : World} {base : Nat} {v : Value} {l : List Value} (h : OwnV E w base v l) : ∃ A n c, v = .slice A n c ∧ l.length = n := by
  obtain ⟨A, c, rfl, _⟩ := h.shape
  exact ⟨A, _, c, rfl, rfl⟩
/-- what holds at the label -/
def FeedAt (b tb : Nat) (A : Option Addr) (cap : Nat) (l : List UInt8) (W : World) (v0 : Value) (S0 : St) (a : Act) (w : World) : Prop :=
  ∃ (k : Nat) (v o : Value) (vs : List Value) (us : Nat → Value), a = { tmps := #[.pointer (some ⟨b, 0, none⟩), .slice A l.length cap, undef, undef, .slice none 0 0, o, .int .i64 k, us 7, us 8, us 9, us 10, us 11, us 12, us 13, us 14, us 15, us 16, us 17, us 18, us 19, us 20, us 21, us 22, us 23, us 24, us 25, us 26, us 27, us 28, us 29, us 30, us 31, us 32, us 33, us 34, us 35, us 36, us 37, us 38, us 39, us 40, us 41, us 42, us 43, us 44, us 45, us 46, us 47, us 48, us 49, us 50, us 51, us 52, us 53, us 54, us 55, us 56, us 57, us 58, us 59, us 60, us 61, us 62, us 63, us 64, us 65, us 66, us 67, us 68, us 69, us 70, us 71, us 72, us 73, us 74, us 75, us 76, us 77, us 78, us 79, us 80, us 81, us 82, us 83, us 84, us 85, us 86, us 87, us 88, us 89, us 90, us 91, us 92, us 93, us 94, us 95, us 96, us 97, us 98, us 99, us 100, us 101, us 102, us 103, us 104, us 105, us 106, us 107, us 108, us 109, us 110, us 111, us 112, us 113, us 114, us 115, us 116, us 117, us 118], defers := [] } ∧ k ≤ l.length ∧ Inv b tb W v0 (run S0 (l.take k)).1 (run S0 (l.take k)).2 v o vs w
def feedMu (n : Nat) (a : Act) (_ : World) : Nat := n - (intOf (a.tmps.getD 6 undef)).toNat
theorem feed_mk {b tb : Nat} {A : Option Addr} {cap : Nat} {l : List UInt8} {W : World} {v0 : Value} {S0 : St} {w : World} {k : Nat} {v o : Value} {vs : List Value} {i : Value} {u7 u8 u9 u10 u11 u12 u13 u14 u15 u16 u17 u18 u19 u20 u21 u22 u23 u24 u25 u26 u27 u28 u29 u30 u31 u32 u33 u34 u35 u36 u37 u38 u39 u40 u41 u42 u43 u44 u45 u46 u47 u48 u49 u50 u51 u52 u53 u54 u55 u56 u57 u58 u59 u60 u61 u62 u63 u64 u65 u66 u67 u68 u69 u70 u71 u72 u73 u74 u75 u76 u77 u78 u79 u80 u81 u82 u83 u84 u85 u86 u87 u88 u89 u90 u91 u92 u93 u94 u95 u96 u97 u98 u99 u100 u101 u102 u103 u104 u105 u106 u107 u108 u109 u110 u111 u112 u113 u114 u115 u116 u117 u118 : Value} {S : St} {O : List (List UInt8)} (hi : i = .int .i64 k) (hk : k ≤ l.length) (hr : run S0 (l.take k) = (S, O))
    (h : Inv b tb W v0 S O v o vs w) : FeedAt b tb A cap l W v0 S0 { tmps := #[.pointer (some ⟨b, 0, none⟩), .slice A l.length cap, undef, undef, .slice none 0 0, o, i, u7, u8, u9, u10, u11, u12, u13, u14, u15, u16, u17, u18, u19, u20, u21, u22, u23, u24, u25, u26, u27, u28, u29, u30, u31, u32, u33, u34, u35, u36, u37, u38, u39, u40, u41, u42, u43, u44, u45, u46, u47, u48, u49, u50, u51, u52, u53, u54, u55, u56, u57, u58, u59, u60, u61, u62, u63, u64, u65, u66, u67, u68, u69, u70, u71, u72, u73, u74, u75, u76, u77, u78, u79, u80, u81, u82, u83, u84, u85, u86, u87, u88, u89, u90, u91, u92, u93, u94, u95, u96, u97, u98, u99, u100, u101, u102, u103, u104, u105, u106, u107, u108, u109, u110, u111, u112, u113, u114, u115, u116, u117, u118], defers := [] } w := by
  subst hi
  refine ⟨k, v, o, vs, fun n => List.getD [u7, u8, u9, u10, u11, u12, u13, u14, u15, u16, u17, u18, u19, u20, u21, u22, u23, u24, u25, u26, u27, u28, u29, u30, u31, u32, u33, u34, u35, u36, u37, u38, u39, u40, u41, u42, u43, u44, u45, u46, u47, u48, u49, u50, u51, u52, u53, u54, u55, u56, u57, u58, u59, u60, u61, u62, u63, u64, u65, u66, u67, u68, u69, u70, u71, u72, u73, u74, u75, u76, u77, u78, u79, u80, u81, u82, u83, u84, u85, u86, u87, u88, u89, u90, u91, u92, u93, u94, u95, u96, u97, u98, u99, u100, u101, u102, u103, u104, u105, u106, u107, u108, u109, u110, u111, u112, u113, u114, u115, u116, u117, u118] (n - 7) undef, rfl, hk, ?_⟩
  rw [hr]
  exact h
/-- what Feed answers -/
def GivesFeed (b tb : Nat) (W : World) (v0 : Value) (R : St × List (List UInt8)) (e : Ending) (w' : World) : Prop := ∃ v o vs, e = .returned o ∧ Inv b tb W v0 R.1 R.2 v o vs w'
theorem nth8_eq {l : List UInt8} {k : Nat} {x : UInt8} (h : byteAt l k = (x.toNat : Int)) : nth8 l k = x := by
  unfold byteAt at h
  unfold nth8
  exact UInt8.toNat_inj.1 (by omega)
theorem run_next {S0 : St} {l : List UInt8} {k : Nat} {S : St} {O : List (List UInt8)} (hk : k < l.length) (h : run S0 (l.take k) = (S, O)) : run S0 (l.take (k + 1)) = ((DefM.step S (nth8 l k)).1, O ++ (DefM.step S (nth8 l k)).2) := by
  rw [take_snoc l k hk, run_snoc, h]

set_option maxHeartbeats 16000000 in
theorem Feed_any (b tb : Nat) (A : Option Addr) (cap : Nat) (l : List UInt8) (v0 : Value) (S0 : St) (W : World) (e : Env b tb W v0) (hS : ScanAt W b tb v0 S0) (ho : Own 5 W 0 v0 S0.stretch) (hok : Ok S0) (htot : total S0 + l.length ≤ 1000000)
    (hA : RestAt (fun g => g ≠ b ∧ v0.ownBlock ≠ some g) W A l) :
    Calls Try.prog 16 #[.pointer (some ⟨b, 0, none⟩), .slice A l.length cap] W (GivesFeed b tb W v0 (run S0 l)) := by
  have E := Lib.hid e
  have HA := Lib.hid hA
  have hst := Inv.start hS ho
  have HST := Lib.hid hst
  have HOK := Lib.hid hok
  have HTOT := Lib.hid htot
  have c00 := hS.c0
  have hll : l.length ≤ 1000000 := by omega
  clear e hS ho hok htot hA hst
  go_enter Try.func16, Try.ntmps16
  go_wp2
  refine wp_scope_first 0 (FeedAt b tb A cap l W v0 S0) (feedMu l.length) rfl ?_ ?_
  · rintro a w ⟨k, v, o, vs, us, rfl, hk, hI⟩
    obtain ⟨⟨S, O⟩, hR⟩ : ∃ R, run S0 (l.take k) = R := ⟨_, rfl⟩
    rw [hR] at hI
    have hokS : Ok S := by have := ok_run (l.take k) HOK.out; rw [hR] at this; exact this
    have htS : total S ≤ 1000000 := by have := run_total (l.take k) S0; rw [hR] at this; simp only [List.length_take] at this; have := HTOT.out; omega
    have hOl : O.length ≤ 1000000 := by have := run_len (l.take k) S0; rw [hR] at this; simp only [List.length_take] at this; omega
    rcases Nat.lt_or_ge k l.length with hlt | hge
    · have hN := run_next hlt hR
      obtain ⟨bi, off, rfl, hbi, hpi, hci⟩ := (hI.input HA.out) (by omega)
      replace hci := hci k hlt
      have hltI : ¬ ((l.length : Int) ≤ (k : Int)) := by omega
      have hltJ : (k : Int) < (l.length : Int) := by omega
      have hkI : (k : Int) ≤ 1000000 := by omega
      have hmu : l.length - (k + 1) < l.length - k := by omega
      have HI := Lib.hid hI
      have HN := Lib.hid hN
      have hx : S.at_ = 0 ∨ S.at_ = 1 ∨ S.at_ = 2 := by have := hokS.at2; omega
      have d1 := hI.scan.c1
      have HTS := Lib.hid htS
      have HOL := Lib.hid hOl
      have HOKS := Lib.hid hokS
      clear hI hN htS hOl hokS HST HTOT
      by_cases hc : nth8 l k = 126
      · have hb126 : byteAt l k = 126 := by unfold byteAt; unfold nth8 at hc; rw [hc]; rfl
        rw [hb126] at hci
        have HC := Lib.hid hc
        clear hc hb126
        rcases hx with hx | hx | hx
        · rw [hx] at d1
          have f1 := HI.out.scan.fz 1
          have HF := Lib.hid (HI.out.set E.out (HI.out.scan.set1 1) rfl (chg_set _ ⟨b, 1, none⟩ _))
          have HE := Lib.hid (HN.out.trans (by rw [HC.out, step_in S hx, List.append_nil] : _ = ({ S with at_ := 1 }, O)))
          go_wp2_with fail
          go_step3
          exact ⟨rfl, feed_mk (k := k + 1) (by go_num) (by omega) HE.out HF.out, by show l.length - _ < l.length - _; exact hmu⟩
        · rw [hx] at d1
          have HE := Lib.hid (HN.out.trans (by rw [HC.out, DefM.step_end S hx] : _ = ({ (ends S).1 with at_ := 1 }, O ++ (ends S).2)))
          have hbw := HI.out.hb E.out
          have hen := ends_any b tb v S w HI.out.scan hbw (HI.out.tab E.out) (HI.out.htb E.out) E.out.hne (TextP.own' HI.out.own (fun g hg hgb => (HI.out.vne E.out).1 (hgb ▸ hg))) HOKS.out.len (by have := HTS.out; omega)
          obtain ⟨ee, eel, _⟩ := ends_stretch S
          have hcase : (ends S).2 = [] ∨ ∃ X, (ends S).2 = [X] := by
            match h : (ends S).2, eel with
            | [], _ => exact .inl rfl
            | [X], _ => exact .inr ⟨X, rfl⟩
          unfold GivesEnd at hen
          have HEE := Lib.hid ee
          clear ee eel
          rcases hcase with hcase | ⟨X, hcase⟩
          · rw [hcase] at hen
            rw [hcase, List.append_nil] at HE
            generalize (ends S).1 = S1 at hen HE HEE
            have HEN := Lib.hid hen
            clear hen hcase
            go_wp2_with fail
            refine HEN.out.mono ?_
            rintro e w1 ⟨x, rfl, hs1, hk1, hx1⟩
            obtain ⟨Ax, nx, cx, rfl, _⟩ := own_shape hx1
            have hd := HI.out.drop E.out hs1 HEE.out hk1
            have d1' := hs1.c1
            have f1' := hs1.fz 1
            have HF := Lib.hid (hd.set E.out (hs1.set1 1) rfl (chg_set _ ⟨b, 1, none⟩ _))
            clear hd hs1 hk1 hx1
            go_wp2_with fail
            go_step3
            exact ⟨rfl, feed_mk (k := k + 1) (by go_num) (by omega) HE.out HF.out, by show l.length - _ < l.length - _; exact hmu⟩
          · rw [hcase] at hen
            rw [hcase] at HE
            generalize (ends S).1 = S1 at hen HE HEE
            have HEN := Lib.hid hen
            clear hen hcase
            have hos : ∀ g, o.ownBlock = some g → g < w.heap.size := fun g hg => (HI.out.out.lt g hg).2
            have HOS := Lib.hid hos
            have hWw := HI.out.chg.size
            obtain ⟨Ao, no, co, rfl, _⟩ := ownV_shape HI.out.out
            clear hos
            go_wp2_with fail
            refine HEN.out.mono ?_
            rintro e w1 ⟨x, rfl, hs1, hk1, hx1⟩
            obtain ⟨Ax, nx, cx, rfl, _⟩ := own_shape hx1
            have hd := HI.out.drop E.out hs1 HEE.out hk1
            have HD := Lib.hid hd
            have HX1 := Lib.hid hx1
            have hW1 : W.heap.size ≤ w1.heap.size := hd.chg.size
            have hvl : vs.length ≤ 1000000 := by rw [hd.len]; exact HOL.out
            clear hd hs1 hk1 hx1
            go_wp2_with (at_builtin; refine wpList_app_txt _ rfl _ _ rfl W.heap.size _ vs rfl HD.out.out Ax nx cx _ _ (by rfl) rfl hW1 hvl ?_)
            intro o' w2 ho2 hg2 hl2
            have hf := HD.out.found (w0 := w) hWw HOS.out HX1.out ho2 hg2 hl2 E.out
            have d1' := hf.scan.c1
            have f1' := hf.scan.fz 1
            have HF := Lib.hid (hf.set E.out (hf.scan.set1 1) rfl (chg_set _ ⟨b, 1, none⟩ _))
            clear hf ho2 hg2 hl2
            go_wp2_with fail
            go_step3
            exact ⟨rfl, feed_mk (k := k + 1) (by go_num) (by omega) HE.out HF.out, by show l.length - _ < l.length - _; exact hmu⟩
        · rw [hx] at d1
          have d5 := HI.out.scan.c5
          have d2 := HI.out.scan.c2
          have f1 := HI.out.scan.fz 1
          have f2 := HI.out.scan.fz 2
          have f5 := HI.out.scan.fz 5
          have hs5 : (S.long : Int) ≤ 1000000 := by have := HTS.out; unfold total at this; omega
          have hs50 : (0 : Int) ≤ (S.long : Int) := by omega
          have HF := Lib.hid (HI.out.drop E.out (((HI.out.scan.set5 (S.long + 1)).set2 (.slice none 0 0) []).set1 1) rfl (((chg_set _ ⟨b, 5, none⟩ _).trans (chg_set _ ⟨b, 2, none⟩ _)).trans (chg_set _ ⟨b, 1, none⟩ _)))
          have HE := Lib.hid (HN.out.trans (by rw [HC.out, step_long S hx, List.append_nil] : _ = ({ S with at_ := 1, stretch := [], long := S.long + 1 }, O)))
          go_wp2_with fail
          go_step3
          exact ⟨rfl, feed_mk (k := k + 1) (by go_num) (by omega) HE.out HF.out, by show l.length - _ < l.length - _; exact hmu⟩
      · have hnb : (byteAt l k != 126) = true := by
          rw [bne_iff_ne]
          intro h
          exact hc (nth8_eq (x := 126) h)
        have HC := Lib.hid hc
        clear hc
        rcases hx with hx | hx | hx
        · rw [hx] at d1
          have d6 := HI.out.scan.c6
          have f6 := HI.out.scan.fz 6
          have hs6 : (S.noise : Int) ≤ 1000000 := by have := HTS.out; unfold total at this; omega
          have hs60 : (0 : Int) ≤ (S.noise : Int) := by omega
          have HF := Lib.hid (HI.out.set E.out (HI.out.scan.set6 (S.noise + 1)) rfl (chg_set _ ⟨b, 6, none⟩ _))
          have HE := Lib.hid (HN.out.trans (by rw [step_out S hx HC.out, List.append_nil] : _ = ({ S with noise := S.noise + 1 }, O)))
          go_wp2_with fail
          go_step3
          exact ⟨rfl, feed_mk (k := k + 1) (by go_num) (by omega) HE.out HF.out, by show l.length - _ < l.length - _; exact hmu⟩
        · rw [hx] at d1
          by_cases hlx : S.stretch.length + 1 ≤ 200
          · have HE := Lib.hid (HN.out.trans (by rw [step_more S hx HC.out hlx, List.append_nil] : _ = ({ S with stretch := S.stretch ++ [nth8 l k] }, O)))
            have hsl : S.stretch.length ≤ 1000000 := by omega
            obtain ⟨A2, n2, c2, rfl, hn2⟩ := own_shape HI.out.own
            have HN2 := Lib.hid hn2
            have HLX := Lib.hid hlx
            have d2 := HI.out.scan.c2
            clear hlx hn2
            go_wp2_with (at_builtin; refine wpList_app_byte _ rfl _ _ rfl 0 _ S.stretch rfl HI.out.own (nth8 l k) _ _ (by rfl) rfl (Nat.zero_le _) hsl ?_)
            intro v' w1 ho' hg' hl'
            have HF0 := Lib.hid (HI.out.app E.out ho' hg' hl')
            have hsw := HI.out.scan.chg (HI.out.hb E.out) (chg_grown hg') (fun h => (HI.out.vne E.out).1 h.symm)
            obtain ⟨A3, n3, c3, rfl, hn3⟩ := own_shape ho'
            have hcmp : ¬ (200 < (n3 : Int)) := by have := HLX.out; rw [← hn3]; simp; omega
            have d1' := hsw.c1
            rw [hx] at d1'
            have d2' := hsw.c2
            have f2' := hsw.fz 2
            have f1' := hsw.fz 1
            have HF := Lib.hid (HF0.out)
            clear hsw ho' hg' hl' hn3 d1 d2
            go_wp2_with fail
            go_step3
            exact ⟨rfl, feed_mk (k := k + 1) (by go_num) (by omega) HE.out HF.out, by show l.length - _ < l.length - _; exact hmu⟩
          · replace hlx : S.stretch.length = 200 := by have := HOKS.out.short hx; omega
            have HE := Lib.hid (HN.out.trans (by rw [step_full S hx HC.out hlx, List.append_nil] : _ = ({ S with stretch := S.stretch ++ [nth8 l k], at_ := 2 }, O)))
            have hsl : S.stretch.length ≤ 1000000 := by omega
            obtain ⟨A2, n2, c2, rfl, hn2⟩ := own_shape HI.out.own
            have HN2 := Lib.hid hn2
            have HLX := Lib.hid hlx
            have d2 := HI.out.scan.c2
            clear hlx hn2
            go_wp2_with (at_builtin; refine wpList_app_byte _ rfl _ _ rfl 0 _ S.stretch rfl HI.out.own (nth8 l k) _ _ (by rfl) rfl (Nat.zero_le _) hsl ?_)
            intro v' w1 ho' hg' hl'
            have HF0 := Lib.hid (HI.out.app E.out ho' hg' hl')
            have hsw := HI.out.scan.chg (HI.out.hb E.out) (chg_grown hg') (fun h => (HI.out.vne E.out).1 h.symm)
            obtain ⟨A3, n3, c3, rfl, hn3⟩ := own_shape ho'
            have hcmp : (200 < (n3 : Int)) := by have := HLX.out; rw [← hn3]; simp; omega
            have d1' := hsw.c1
            rw [hx] at d1'
            have d2' := hsw.c2
            have f2' := hsw.fz 2
            have f1' := hsw.fz 1
            have HF := Lib.hid (HF0.out.set E.out (HF0.out.scan.set1 2) rfl (chg_set _ ⟨b, 1, none⟩ _))
            clear hsw ho' hg' hl' hn3 d1 d2
            go_wp2_with fail
            go_step3
            exact ⟨rfl, feed_mk (k := k + 1) (by go_num) (by omega) HE.out HF.out, by show l.length - _ < l.length - _; exact hmu⟩
        · rw [hx] at d1
          have HF := Lib.hid HI.out
          have HE := Lib.hid (HN.out.trans (by rw [step_over S hx HC.out, List.append_nil] : _ = (S, O)))
          go_wp2_with fail
          go_step3
          exact ⟨rfl, feed_mk (k := k + 1) (by go_num) (by omega) HE.out HF.out, by show l.length - _ < l.length - _; exact hmu⟩
    · obtain rfl : k = l.length := by omega
      rw [List.take_length] at hR
      have HR := Lib.hid hR
      have HI := Lib.hid hI
      clear hI hR
      go_wp2_with fail
      simp only [Exit.jump]
      go_ret
      exact ⟨v, o, vs, rfl, by rw [HR.out]; exact HI.out⟩
  · intro R
    go_wp2_with (go_at_call 37; refine (is_yes b tb _ c00).mono ?_; rintro e w' ⟨rfl, rfl⟩)
    go_step3
    rename_i hK
    refine hK _ _ (R _ _ ?_)
    exact feed_mk (k := 0) (S := S0) (O := []) rfl (Nat.zero_le _) rfl HST.out
end Go.Proofs.Ytfieinajkkcelaa.Def
