/- The law DeframeOnly is proved: for every input the call returns true, and each argument reads behind the call as before. No condition. -/
import Derived.Test.YtfieinajkkcelaaRows
import Derived.Test.YtfieinajkkcelaaFrame
import Derived.Test.YtfieinajkkcelaaDefQ
import Derived.Test.YtfieinajkkcelaaTexts
namespace Go.Proofs.Ytfieinajkkcelaa.deframeOnly
open Go.ChangeShapes Go.WideShapes Go.ChangeAt Go.RowKit Go.Joins
open Go.ChangeMaps (open_string shut_string)
set_option linter.unusedVariables false

theorem contract (H : Type) (enc : TypeId × Value → H) (W : World) (base : Nat) (args : Array Value) (ds gs : List (DataW H)) (before : List MemPlace)
    (hval : ∀ (j : Nat) t v, Try.f3.params[j]? = some t → args[j]? = some v → Value.okWide Try.prog W .any base t v)
    (hW : DataW.Whole enc Try.prog Try.f3.params.toList Rows.deframeOnlySpec.vars false W args.toList ds gs before)
    (hsz : (DataW.weightsEach Try.prog (Try.f3.params.toList ++ Rows.deframeOnlySpec.plain.varTypes Try.prog) (ds ++ gs)).all (· ≤ reachBytes) = true) :
    Calls Try.prog 3 args W fun e W' => ∃ v, e = .returned v ∧ Rows.deframeOnlySpec.post enc Try.prog Try.f3 false true false false W args v W' := by
  have hW' := hW
  obtain ⟨p, q, hA0, hV, hpq, hfz, hnd⟩ := hW
  have hA : DataW.TrodAll enc Try.prog W 0 (fun _ => true) true Try.f3.params.toList args.toList ds p := hA0
  rw [Try.params3] at hA hval
  obtain ⟨v0, vs0, d0, ds0, p0, q0, hargs, rfl, rfl, h0, r0⟩ := trodAll_cons hA
  obtain ⟨v1, vs1, d1, ds1, p1, q1, rfl, rfl, rfl, h1, r1⟩ := trodAll_cons r0
  obtain ⟨v2, vs2, d2, ds2, p2, q2, rfl, rfl, rfl, h2, r2⟩ := trodAll_cons r1
  obtain ⟨rfl, rfl, rfl⟩ := trodAll_nil r2
  obtain rfl : args = #[v0, v1, v2] := by cases args; simp_all
  obtain ⟨rfl, rfl⟩ := trodVars_none hV
  obtain ⟨A0, cap0, l0, rfl, b0, c0, m0, e0⟩ := Mem.open_bytes Try.underlying22 Try.underlying5 (by kernel_rfl) (hval 0 22 v0 rfl rfl) h0
  have rb0 : l0.length ≤ reachBytes := by
    rcases e0 with ⟨_, e⟩ | ⟨els, sp, e, hl, _⟩
    · rw [e]; exact Nat.zero_le _
    · have h := sized_slice hsz (j := 0) (t := 22) (e := 5) (elems := els) (spare := sp) rfl (by rw [e]; rfl) Try.underlying22
      have hb : Try.prog.bytesOf 5 = 1 := by kernel_rfl
      rw [hb] at h
      omega
  obtain ⟨A1, cap1, l1, rfl, b1, c1, m1, e1⟩ := Mem.open_texts Try.underlying23 Try.underlying22 Try.underlying5 (by kernel_rfl) (by kernel_rfl) (hval 1 23 v1 rfl rfl) h1
  have rb1 : l1.length ≤ reachBytes := by
    rcases e1 with ⟨_, e⟩ | ⟨els, sp, e, hl, _⟩
    · rw [e]; exact Nat.zero_le _
    · have h := sized_slice hsz (j := 1) (t := 23) (e := 22) (elems := els) (spare := sp) rfl (by rw [e]; rfl) Try.underlying23
      have hb : Try.prog.bytesOf 22 = 24 := by kernel_rfl
      rw [hb] at h
      omega
  have rt1 : ∀ i, i < l1.length → (Mem.nthT l1 i).length ≤ reachBytes := by
    intro i hi
    rcases e1 with ⟨_, e⟩ | ⟨els, sp, e, hl, ht⟩
    · rw [e] at hi; simp at hi
    · rcases ht i hi with h | ⟨e2, s2, hg, h2⟩
      · rw [h]; exact Nat.zero_le _
      · have h := Mem.sized_inner hsz (j := 1) (t := 23) (e := 22) (q := 5) (els := els) (sp := sp) (i := i) (e2 := e2) (s2 := s2) rfl (by rw [e]; rfl) Try.underlying23 hg Try.underlying22
        have hb : Try.prog.bytesOf 5 = 1 := by kernel_rfl
        rw [hb] at h
        omega
  obtain ⟨a2, rfl, _, _⟩ := open_bool Try.underlying4 (hval 2 4 v2 rfl rfl) h2
  refine (Def.DeframeOnly_any A0 A1 cap0 cap1 l0 l1 a2 W b0 c0 m0 b1 c1 m1).mono fun e W' ⟨he, hb⟩ => ⟨_, he, ?_⟩
  exact Frame.law_post Frame.laidOut (by kernel_rfl) rfl Try.underlying4 rfl rfl hW' hb

set_option maxRecDepth 100000 in
theorem lifted (os : Os) (started : os.Started) (H : Type) (enc : TypeId × Value → H) :
    ReturnsInHanded {} Try.checked os 3 .any (Rows.deframeOnlySpec.pre6 enc Try.prog Try.f3 Rows.deframeOnlyRow.domain false) (Rows.deframeOnlySpec.post enc Try.prog Try.f3 false true false false) := by
  refine returnsInHanded_of_change_sized (C := Try.checked) Frame.own started (by kernel_rfl) Try.func3
    (ChangeSpec.witness6 (enc := enc) (C := Try.checked) false ⟨#[], #[.slice none 0 0, .slice none 0 0, .bool false], []⟩ 8 (by kernel_rfl) (by kernel_rfl) (by kernel_rfl) (by kernel_rfl)) ?_
  intro W base args ds gs before hval hW _ hsz _
  exact contract H enc W base args ds gs before hval hW hsz

theorem proved : Rows.DeframeOnlySaid :=
  OpenClaim.holds_of_wide 3 Try.f3 rfl rfl rfl rfl rfl rfl rfl ⟨rfl, rfl, rfl, rfl, rfl⟩ rfl rfl rfl rfl rfl (by kernel_rfl) Try.func3 (by kernel_rfl)
    (of_decide_eq_true (by kernel_rfl)) (by unfold Func.isWrapper; first | (rw [if_pos (by decide +kernel)]; kernel_rfl) | (rw [if_neg (by decide +kernel)]; exact ⟨rfl, rfl⟩))
    (fun os started H enc _ => lifted os started H enc)
#print axioms proved
end Go.Proofs.Ytfieinajkkcelaa.deframeOnly
