/-
  An argument of bytes, as 'Bs'.
-/
import Derived.Test.YtpdenhmkpiafiaaGE
import Derived.Test.YtpdenhmkpiafiaaGD
import Derived.ChangeSlices
namespace Go.Proofs.Ytpdenhmkpiafiaa
open Go.ChangeShapes Go.WideShapes Go.ChangeAt Go.RowKit

theorem int_hi {m : Int} (h : (Lit.int .i64 m).wf = true) : m < 9223372036854775808 := by
  have h1 : IntKind.i64.min = -9223372036854775808 := by decide
  have h2 : IntKind.i64.max = 9223372036854775807 := by decide
  simp [Lit.wf, h1, h2] at h
  omega
theorem int_lo {m : Int} (h : (Lit.int .i64 m).wf = true) : -9223372036854775808 ≤ m := by
  have h1 : IntKind.i64.min = -9223372036854775808 := by decide
  have h2 : IntKind.i64.max = 9223372036854775807 := by decide
  simp [Lit.wf, h1, h2] at h
  omega
theorem cells5' : Try.prog.cellsOf 5 = 1 := by kernel_rfl
theorem bounds8' {x : Int} (h : (Lit.int .u8 x).wf = true) : 0 ≤ x ∧ x < 256 := by
  have h1 : IntKind.u8.min = 0 := by decide
  have h2 : IntKind.u8.max = 255 := by decide
  simp [Lit.wf, h1, h2] at h
  omega
set_option maxRecDepth 100000 in
theorem open_S {H : Type} {enc : TypeId × Value → H} {W : World} {base b0 : Nat} {r : Reach} {held : Bool} {v : Value} {d : DataW H} {p : List MemPlace}
    (hval : Value.okWide Try.prog W r b0 33 v) (h : DataW.Trod enc Try.prog W base (fun _ => true) held 33 v d p) :
    ∃ (q : Option Addr) (c : Nat) (xs : List Int), v = .slice q xs.length c ∧ Bs W v xs ∧ (∀ x ∈ xs, 0 ≤ x ∧ x < 256) := by
  obtain ⟨q, n, c, rfl⟩ := okWide_slice Try.underlying33 hval
  obtain ⟨fuel, hf⟩ := h
  rcases open_ints Try.underlying33 Try.underlying5 cells5' hf with ⟨hc, hx⟩ | ⟨a, len, cap, zs, hc, _, hle, hmax, hlen, hx, hcell, hwf⟩
  · simp [Value.cells] at hc
    obtain ⟨rfl, rfl, rfl⟩ := hc
    exact ⟨none, 0, [], rfl, Bs.nil W, fun x hx => (by cases hx)⟩
  · simp [Value.cells] at hc
    obtain ⟨rfl, rfl, rfl⟩ := hc
    have hl2 : zs.length = c := by simpa using hlen
    have e : (zs.take n).length = n := by rw [List.length_take]; omega
    refine ⟨some a, c, zs.take n, by rw [e], ⟨some a, c, by rw [e], (fun h => (by cases h)), fun p hp j u hj => ?_⟩, fun x hx => bounds8' (hwf x (List.mem_of_mem_take hx))⟩
    cases hp
    unfold bv at hj
    rw [List.getElem?_map, List.getElem?_take] at hj
    split at hj
    · rename_i hjn
      have hjl : j < zs.length := by omega
      rw [List.getElem?_eq_getElem hjl] at hj
      cases hj
      rw [hcell j hjl, List.getD_eq_getElem?_getD, List.getElem?_eq_getElem hjl]
      rfl
    · cases hj
end Go.Proofs.Ytpdenhmkpiafiaa
