/- The law ProbeGets is proved: for every input the call returns true, and each argument reads behind the call as before. No condition. -/
import Derived.Test.YtonjdkankegdaaaRows
import Derived.Test.YtonjdkankegdaaaFrame
import Derived.Test.YtonjdkankegdaaaProbeJ
import Derived.Test.YtonjdkankegdaaaTexts
namespace Go.Proofs.Ytonjdkankegdaaa.probeGets
open Go.ChangeShapes Go.WideShapes Go.ChangeAt Go.RowKit Go.Joins
open Go.ChangeMaps (open_string shut_string)
set_option linter.unusedVariables false

theorem contract (H : Type) (enc : TypeId × Value → H) (W : World) (base : Nat) (args : Array Value) (ds gs : List (DataW H)) (before : List MemPlace)
    (hval : ∀ (j : Nat) t v, Try.f6.params[j]? = some t → args[j]? = some v → Value.okWide Try.prog W .any base t v)
    (hW : DataW.Whole enc Try.prog Try.f6.params.toList Rows.probeGetsSpec.vars false W args.toList ds gs before)
    (hsz : (DataW.weightsEach Try.prog (Try.f6.params.toList ++ Rows.probeGetsSpec.plain.varTypes Try.prog) (ds ++ gs)).all (· ≤ reachBytes) = true) :
    Calls Try.prog 6 args W fun e W' => ∃ v, e = .returned v ∧ Rows.probeGetsSpec.post enc Try.prog Try.f6 false true false false W args v W' := by
  have hW' := hW
  obtain ⟨p, q, hA0, hV, hpq, hfz, hnd⟩ := hW
  have hA : DataW.TrodAll enc Try.prog W 0 (fun _ => true) true Try.f6.params.toList args.toList ds p := hA0
  rw [Try.params6] at hA hval
  obtain ⟨v0, vs0, d0, ds0, p0, q0, hargs, rfl, rfl, h0, r0⟩ := trodAll_cons hA
  obtain ⟨v1, vs1, d1, ds1, p1, q1, rfl, rfl, rfl, h1, r1⟩ := trodAll_cons r0
  obtain ⟨v2, vs2, d2, ds2, p2, q2, rfl, rfl, rfl, h2, r2⟩ := trodAll_cons r1
  obtain ⟨rfl, rfl, rfl⟩ := trodAll_nil r2
  obtain rfl : args = #[v0, v1, v2] := by cases args; simp_all
  obtain ⟨rfl, rfl⟩ := trodVars_none hV
  obtain ⟨A0, cap0, l0, rfl, b0, c0, m0, e0⟩ := Mem.open_bytes Try.underlying23 Try.underlying5 (by kernel_rfl) (hval 0 23 v0 rfl rfl) h0
  have rb0 : l0.length ≤ reachBytes := by
    rcases e0 with ⟨_, e⟩ | ⟨els, sp, e, hl, _⟩
    · rw [e]; exact Nat.zero_le _
    · have h := sized_slice hsz (j := 0) (t := 23) (e := 5) (elems := els) (spare := sp) rfl (by rw [e]; rfl) Try.underlying23
      have hb : Try.prog.bytesOf 5 = 1 := by kernel_rfl
      rw [hb] at h
      omega
  obtain ⟨c1_0, c1_1, c1_2, y1_0, y1_1, y1_2, m1, rfl, _, _, hy1_0, hy1_1, hy1_2⟩ := open_agg3 Try.underlying41 (by kernel_rfl) (by kernel_rfl) (hval 1 41 v1 rfl rfl) h1
  obtain ⟨a1_0, e1_0, _, w1_0⟩ := DataW.trod_int Try.underlying3 hy1_0
  simp at e1_0; subst e1_0
  obtain ⟨a1_1, e1_1, _, w1_1⟩ := DataW.trod_int Try.underlying3 hy1_1
  simp at e1_1; subst e1_1
  obtain ⟨A1, cap1, l1, rfl, b1, c1, m1, e1⟩ := Mem.bytes_of_trod Try.underlying23 Try.underlying5 (by kernel_rfl) hy1_2
  obtain ⟨c2_0, c2_1, c2_2, y2_0, y2_1, y2_2, m2, rfl, _, _, hy2_0, hy2_1, hy2_2⟩ := open_agg3 Try.underlying41 (by kernel_rfl) (by kernel_rfl) (hval 2 41 v2 rfl rfl) h2
  obtain ⟨a2_0, e2_0, _, w2_0⟩ := DataW.trod_int Try.underlying3 hy2_0
  simp at e2_0; subst e2_0
  obtain ⟨a2_1, e2_1, _, w2_1⟩ := DataW.trod_int Try.underlying3 hy2_1
  simp at e2_1; subst e2_1
  obtain ⟨A2, cap2, l2, rfl, b2, c2, m2, e2⟩ := Mem.bytes_of_trod Try.underlying23 Try.underlying5 (by kernel_rfl) hy2_2
  refine (Probe.ProbeGets_any A0 cap0 l0 a1_0 a1_1 a2_0 a2_1 A1 A2 cap1 cap2 l1 l2 W b0 b1 b2 c0 m0 (Nat.le_trans rb0 (by decide)) (Nat.le_trans c1 m1) (Nat.le_trans c2 m2)).mono fun e W' ⟨he, hb⟩ => ⟨_, he, ?_⟩
  exact Frame.law_post Frame.laidOut (by kernel_rfl) rfl Try.underlying4 rfl rfl hW' hb

set_option maxRecDepth 100000 in
theorem lifted (os : Os) (started : os.Started) (H : Type) (enc : TypeId × Value → H) :
    ReturnsInHanded {} Try.checked os 6 .any (Rows.probeGetsSpec.pre6 enc Try.prog Try.f6 Rows.probeGetsRow.domain false) (Rows.probeGetsSpec.post enc Try.prog Try.f6 false true false false) := by
  refine returnsInHanded_of_change_sized (C := Try.checked) Frame.own started (by kernel_rfl) Try.func6
    (ChangeSpec.witness6 (enc := enc) (C := Try.checked) false ⟨#[], #[.slice none 0 0, .agg #[.int .i64 0, .int .i64 0, .slice none 0 0], .agg #[.int .i64 0, .int .i64 0, .slice none 0 0]], []⟩ 8 (by kernel_rfl) (by kernel_rfl) (by kernel_rfl) (by kernel_rfl)) ?_
  intro W base args ds gs before hval hW _ hsz _
  exact contract H enc W base args ds gs before hval hW hsz

theorem proved : Rows.ProbeGetsSaid :=
  OpenClaim.holds_of_wide 6 Try.f6 rfl rfl rfl rfl rfl rfl rfl ⟨rfl, rfl, rfl, rfl, rfl⟩ rfl rfl rfl rfl rfl (by kernel_rfl) Try.func6 (by kernel_rfl)
    (of_decide_eq_true (by kernel_rfl)) (by unfold Func.isWrapper; first | (rw [if_pos (by decide +kernel)]; kernel_rfl) | (rw [if_neg (by decide +kernel)]; exact ⟨rfl, rfl⟩))
    (fun os started H enc _ => lifted os started H enc)
#print axioms proved
end Go.Proofs.Ytonjdkankegdaaa.probeGets
