/-
  tallagelaw04.OctetGets: WHATEVER THE BYTES AND WHATEVER IS ASKED: it returns true, and the arguments stay as they were. The walk is in the text OctGetsW; here is the step of the row.
-/
import Derived.Test.YtpdenhmkpiafiaaRows
import Derived.WalkKit
import Derived.ProofKit
import Derived.OpenShut
import Derived.Test.YtpdenhmkpiafiaaHead
import Derived.Test.YtpdenhmkpiafiaaFrameR
import Derived.Test.YtpdenhmkpiafiaaOctGetsW
namespace Go.Proofs.Ytpdenhmkpiafiaa.octetGets
open Go Go.ChangeShapes Go.WideShapes Go.ChangeAt Go.RowKit
set_option linter.unusedVariables false

set_option maxRecDepth 100000 in
theorem lifted (os : Os) (started : os.Started) (H : Type) (enc : TypeId × Value → H) :
    ReturnsInHanded {} Try.checked os 9 .any (Rows.octetGetsSpec.pre6 enc Try.prog Try.f9 Rows.octetGetsRow.domain false) (Rows.octetGetsSpec.post enc Try.prog Try.f9 false true false false) := by
  refine returnsInHanded_of_change (C := Try.checked) own started (by kernel_rfl) Try.func9
    (ChangeSpec.witness6 (enc := enc) (C := Try.checked) false ⟨#[], #[.slice none 0 0, .slice none 0 0], []⟩ 8 (by kernel_rfl) (by kernel_rfl) (by kernel_rfl) (by kernel_rfl)) ?_
  intro W base args ds gs before hval0 hW hcnd _
  have hval : ∀ (j : Nat) t v, Try.f9.params[j]? = some t → args[j]? = some v → Value.okWide Try.prog W .any base t v := hval0
  have hW' := hW
  obtain ⟨p, q, hA0, hV, rfl, hfz, hnd⟩ := hW
  have hA : DataW.TrodAll enc Try.prog W 0 (fun _ => true) true Try.f9.params.toList args.toList ds p := hA0
  rw [Try.params9] at hA hval
  obtain ⟨v0, vs0, d0, ds0, p0, q0, hargs, rfl, rfl, h0, r0⟩ := trodAll_cons hA
  obtain ⟨v1, vs1, d1, ds1, p1, q1, rfl, rfl, rfl, h1, r1⟩ := trodAll_cons r0
  obtain ⟨rfl, rfl, rfl⟩ := trodAll_nil r1
  obtain rfl : args = #[v0, v1] := by cases args; simp_all
  obtain ⟨rfl, rfl⟩ := trodVars_none hV
  obtain ⟨qa, ca, xs, qb, rfl, hba, hya, hsa, hqa⟩ := open_R (hval 0 33 v0 rfl rfl) h0
  obtain ⟨qn, nn, cn, fn, rfl, han⟩ := open_As (hval 1 63 v1 rfl rfl) h1
  clear hA0 hval0
  refine (gets_walk qa ca xs hya qn nn cn fn qb W hba hsa hqa han).mono fun e W' ⟨he, hg⟩ => ?_
  subst he
  exact ⟨_, rfl, law_post laidOut Try.underlying4 hW' rfl rfl rfl (by rw [Try.params9]; intro t ht; simp at ht; rcases ht with rfl | rfl <;> exact ⟨by kernel_rfl, of_decide_eq_true (by kernel_rfl)⟩) hg⟩

theorem closed : joinedFacts Try.prog 9 Try.f9 Rows.octetGetsSpec Rows.octetGetsRow = true := by
  unfold joinedFacts
  rw [head_enter, head_final, head_make]
  kernel_rfl

theorem over : Rows.octetGetsRow.holds Try.pinned (OpenSpec.ofChange Rows.octetGetsSpec) :=
  OpenClaim.holds_of_wide 9 Try.f9 rfl rfl rfl rfl rfl rfl rfl ⟨rfl, rfl, rfl, rfl, rfl⟩ rfl rfl rfl rfl rfl (by kernel_rfl) Try.func9 closed
    (of_decide_eq_true (by kernel_rfl)) (by unfold Func.isWrapper; first | (rw [if_pos (by decide +kernel)]; kernel_rfl) | (rw [if_neg (by decide +kernel)]; exact ⟨rfl, rfl⟩))
    (fun os started H enc _ => lifted os started H enc)

theorem octetGets : Rows.OctetGetsSaid :=
  over
#print axioms octetGets
end Go.Proofs.Ytpdenhmkpiafiaa.octetGets
