/-
  tallagelaw14.EventBack: WHATEVER THE EVENTS, THE CODE AND THE NUMBER: it returns true, and the arguments stay as they were. The walk is in the text EvBackW; here is the step of the row.
-/
import Derived.Test.YtpdenhmkpiafiaaRows
import Derived.WalkKit
import Derived.ProofKit
import Derived.OpenShut
import Derived.SizedLaws
import Derived.Test.YtpdenhmkpiafiaaHead
import Derived.Test.YtpdenhmkpiafiaaGE
import Derived.Test.YtpdenhmkpiafiaaFrameE
import Derived.Test.YtpdenhmkpiafiaaEvBackW
namespace Go.Proofs.Ytpdenhmkpiafiaa.eventBack
open Go Go.ChangeShapes Go.WideShapes Go.ChangeAt Go.RowKit
set_option linter.unusedVariables false

set_option maxRecDepth 100000 in
theorem lifted (os : Os) (started : os.Started) (H : Type) (enc : TypeId × Value → H) :
    ReturnsInHanded {} Try.checked os 31 .any (Rows.eventBackSpec.pre6 enc Try.prog Try.f31 Rows.eventBackRow.domain false) (Rows.eventBackSpec.post enc Try.prog Try.f31 false true false false) := by
  refine returnsInHanded_of_change_sized (C := Try.checked) own started (by kernel_rfl) Try.func31
    (ChangeSpec.witness6 (enc := enc) (C := Try.checked) false ⟨#[], #[.slice none 0 0, .int .u8 0, .int .u64 0], []⟩ 8 (by kernel_rfl) (by kernel_rfl) (by kernel_rfl) (by kernel_rfl)) ?_
  intro W base args ds gs before hval0 hW hcnd hsz _
  have hval : ∀ (j : Nat) t v, Try.f31.params[j]? = some t → args[j]? = some v → Value.okWide Try.prog W .any base t v := hval0
  have hsz0 := fun x hx => of_decide_eq_true (List.all_eq_true.1 hsz x hx)
  have hW' := hW
  obtain ⟨p, q, hA0, hV, rfl, hfz, hnd⟩ := hW
  have hA : DataW.TrodAll enc Try.prog W 0 (fun _ => true) true Try.f31.params.toList args.toList ds p := hA0
  rw [Try.params31] at hA hval
  obtain ⟨v0, vs0, d0, ds0, p0, q0, hargs, rfl, rfl, h0, r0⟩ := trodAll_cons hA
  obtain ⟨v1, vs1, d1, ds1, p1, q1, rfl, rfl, rfl, h1, r1⟩ := trodAll_cons r0
  obtain ⟨v2, vs2, d2, ds2, p2, q2, rfl, rfl, rfl, h2, r2⟩ := trodAll_cons r1
  obtain ⟨rfl, rfl, rfl⟩ := trodAll_nil r2
  obtain rfl : args = #[v0, v1, v2] := by cases args; simp_all
  obtain ⟨rfl, rfl⟩ := trodVars_none hV
  obtain ⟨E, hE, hwE⟩ := open_E (hval 0 77 v0 rfl rfl) h0
  obtain ⟨code, rfl, -, -, hwk⟩ := Go.ChangeShapes.open_int Try.underlying5 (hval 1 5 v1 rfl rfl) h1
  have hcb := bounds8' hwk
  obtain ⟨cd, rfl⟩ : ∃ cd : Nat, code = (cd : Int) := ⟨code.toNat, by omega⟩
  obtain ⟨num, rfl, -, -, hwn⟩ := Go.ChangeShapes.open_int Try.underlying136 (hval 2 136 v2 rfl rfl) h2
  have hnb := bounds64 hwn
  obtain ⟨n, rfl⟩ : ∃ n : Nat, num = (n : Int) := ⟨num.toNat, by omega⟩
  clear hA0 hval0
  refine (back14_walk v0 E cd n W hE (ev_sized hwE fun x hx => hsz0 x (DataW.weights_mem_each (j := 0) rfl rfl x hx)) (by omega) (by omega)).mono fun e W' ⟨he, hg⟩ => ?_
  subst he
  exact ⟨_, rfl, law_post laidOut Try.underlying4 hW' rfl rfl rfl (by rw [Try.params31]; intro t ht; simp at ht; rcases ht with rfl | rfl | rfl <;> exact ⟨by kernel_rfl, of_decide_eq_true (by kernel_rfl)⟩) hg⟩

theorem closed : joinedFacts Try.prog 31 Try.f31 Rows.eventBackSpec Rows.eventBackRow = true := by
  unfold joinedFacts
  rw [head_enter, head_final, head_make]
  kernel_rfl

theorem over : Rows.eventBackRow.holds Try.pinned (OpenSpec.ofChange Rows.eventBackSpec) :=
  OpenClaim.holds_of_wide 31 Try.f31 rfl rfl rfl rfl rfl rfl rfl ⟨rfl, rfl, rfl, rfl, rfl⟩ rfl rfl rfl rfl rfl (by kernel_rfl) Try.func31 closed
    (of_decide_eq_true (by kernel_rfl)) (by unfold Func.isWrapper; first | (rw [if_pos (by decide +kernel)]; kernel_rfl) | (rw [if_neg (by decide +kernel)]; exact ⟨rfl, rfl⟩))
    (fun os started H enc _ => lifted os started H enc)

theorem eventBack : Rows.EventBackSaid :=
  over
#print axioms eventBack
end Go.Proofs.Ytpdenhmkpiafiaa.eventBack
