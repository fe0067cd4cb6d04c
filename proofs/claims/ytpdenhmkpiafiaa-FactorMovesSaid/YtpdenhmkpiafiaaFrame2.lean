/-
  An argument that is two numbers of four words.
-/
import Derived.Test.YtpdenhmkpiafiaaFrame
import Derived.Test.YtpdenhmkpiafiaaMMul
namespace Go.Proofs.Ytpdenhmkpiafiaa
open Go.ChangeShapes Go.WideShapes Go.ChangeAt Go.RowKit

theorem array8 {α : Type} {cs : Array α} (h : cs.size = 8) : ∃ c0 c1 c2 c3 c4 c5 c6 c7, cs = #[c0, c1, c2, c3, c4, c5, c6, c7] := by
  obtain ⟨l⟩ := cs
  match l, h with
  | [c0, c1, c2, c3, c4, c5, c6, c7], _ => exact ⟨c0, c1, c2, c3, c4, c5, c6, c7, rfl⟩
theorem cells132 : Try.prog.cellsOf 132 = 8 := by kernel_rfl
set_option maxRecDepth 100000 in
theorem trod_two {H : Type} {enc : TypeId × Value → H} {w : World} {base : Nat} {spare : Nat → Bool} {held : Bool} {fuel : Nat} {c0 c1 c2 c3 c4 c5 c6 c7 : Value} {x : DataW H × List MemPlace}
    (h : DataW.trod enc Try.prog w base spare held fuel 132 [c0, c1, c2, c3, c4, c5, c6, c7] = some x) :
    ∃ y0 y1 n, DataW.trod enc Try.prog w base spare held n 31 [c0, c1, c2, c3] = some y0 ∧ DataW.trod enc Try.prog w base spare held n 31 [c4, c5, c6, c7] = some y1 := by
  cases fuel with
  | zero => simp [DataW.trod] at h
  | succ n =>
    unfold DataW.trod at h
    rw [Try.underlying132] at h
    have r2 : List.range 2 = [0, 1] := rfl
    simp [r2, cells31] at h
    obtain ⟨_, h⟩ := h
    cases h0 : DataW.trod enc Try.prog w base spare held n 31 [c0, c1, c2, c3] with
    | none => simp [h0] at h
    | some y0 =>
      cases h1 : DataW.trod enc Try.prog w base spare held n 31 [c4, c5, c6, c7] with
      | none => simp [h0, h1] at h
      | some y1 => exact ⟨y0, y1, n, h0, h1⟩
theorem words_of {H : Type} {enc : TypeId × Value → H} {w : World} {base : Nat} {spare : Nat → Bool} {held : Bool} {n : Nat} {c0 c1 c2 c3 : Value} {y : DataW H × List MemPlace}
    (h : DataW.trod enc Try.prog w base spare held n 31 [c0, c1, c2, c3] = some y) : ∃ (x0 x1 x2 x3 : Int) (k : Nat), c0 = .int .u64 x0 ∧ c1 = .int .u64 x1 ∧ c2 = .int .u64 x2 ∧ c3 = .int .u64 x3 ∧ IsW x0 x1 x2 x3 k := by
  obtain ⟨y0, y1, y2, y3, m, _, h0, h1, h2, h3⟩ := trod_array4 Try.underlying31 cells29 h
  obtain ⟨x0, e0, _, w0⟩ := DataW.trod_int Try.underlying29 h0
  obtain ⟨x1, e1, _, w1⟩ := DataW.trod_int Try.underlying29 h1
  obtain ⟨x2, e2, _, w2⟩ := DataW.trod_int Try.underlying29 h2
  obtain ⟨x3, e3, _, w3⟩ := DataW.trod_int Try.underlying29 h3
  simp only [List.cons.injEq, and_true] at e0 e1 e2 e3
  have b0 := bounds64 w0
  have b1 := bounds64 w1
  have b2 := bounds64 w2
  have b3 := bounds64 w3
  exact ⟨x0, x1, x2, x3, _, e0, e1, e2, e3, IsW.mk' (Int.toNat_of_nonneg (by omega)) b0 b1 b2 b3⟩
set_option maxRecDepth 100000 in
theorem open_UU {H : Type} {enc : TypeId × Value → H} {W : World} {base b0 : Nat} {r : Reach} {spare : Nat → Bool} {held : Bool} {v : Value} {d : DataW H} {p : List MemPlace}
    (hval : Value.okWide Try.prog W r b0 132 v) (h : DataW.Trod enc Try.prog W base spare held 132 v d p) : ∃ a b : Nat, v = .agg (W8 a b) ∧ a < M ∧ b < M := by
  unfold Value.okWide at hval
  rw [Try.underlying132] at hval
  obtain ⟨cs, rfl, hsz, _⟩ := hval
  obtain ⟨c0, c1, c2, c3, c4, c5, c6, c7, rfl⟩ := array8 (hsz.trans cells132)
  obtain ⟨fuel, hf⟩ := h
  obtain ⟨y0, y1, n, h0, h1⟩ := trod_two hf
  obtain ⟨x0, x1, x2, x3, k, rfl, rfl, rfl, rfl, w0⟩ := words_of h0
  obtain ⟨z0, z1, z2, z3, l, rfl, rfl, rfl, rfl, w1⟩ := words_of h1
  exact ⟨k, l, by rw [W8_eq w0 w1], w0.ltM, w1.ltM⟩
end Go.Proofs.Ytpdenhmkpiafiaa
