/-
  An argument that is a struct of two ints.
-/
import Derived.Test.YtpdenhmkpiafiaaFrame
import Derived.ChangeSame
namespace Go.Proofs.Ytpdenhmkpiafiaa
open Go.ChangeShapes Go.WideShapes Go.ChangeAt Go.RowKit

theorem cells3 : Try.prog.cellsOf 3 = 1 := by kernel_rfl
theorem cells68 : Try.prog.cellsOf 68 = 2 := by kernel_rfl
set_option maxRecDepth 100000 in
theorem open_A {H : Type} {enc : TypeId × Value → H} {W : World} {base b0 : Nat} {r : Reach} {spare : Nat → Bool} {held : Bool} {v : Value} {d : DataW H} {p : List MemPlace}
    (hval : Value.okWide Try.prog W r b0 68 v) (h : DataW.Trod enc Try.prog W base spare held 68 v d p) : ∃ k m : Int, v = .agg #[.int .i64 k, .int .i64 m] := by
  unfold Value.okWide at hval
  rw [Try.underlying68] at hval
  obtain ⟨cs, rfl, hsz, _⟩ := hval
  obtain ⟨c0, c1, rfl⟩ : ∃ c0 c1, cs = #[c0, c1] := by
    have h2 := hsz.trans cells68
    obtain ⟨l⟩ := cs
    match l, h2 with
    | [c0, c1], _ => exact ⟨c0, c1, rfl⟩
  obtain ⟨fuel, hf⟩ := h
  obtain ⟨y0, y1, n, _, _, h0, h1⟩ := trod_struct2 Try.underlying68 hf
  have h0' : DataW.trod enc Try.prog W base spare held n 3 [c0] = some y0 := by rw [← h0]; congr 1
  have h1' : DataW.trod enc Try.prog W base spare held n 3 [c1] = some y1 := by rw [← h1]; congr 1
  obtain ⟨x0, e0, _, _⟩ := DataW.trod_int Try.underlying3 h0'
  obtain ⟨x1, e1, _, _⟩ := DataW.trod_int Try.underlying3 h1'
  simp only [List.cons.injEq, and_true] at e0 e1
  subst e0; subst e1
  exact ⟨x0, x1, rfl⟩
end Go.Proofs.Ytpdenhmkpiafiaa
