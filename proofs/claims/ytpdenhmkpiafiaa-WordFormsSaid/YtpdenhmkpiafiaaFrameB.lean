/-
  An argument of bytes.
-/
import Derived.Test.YtpdenhmkpiafiaaFrame
import Derived.ChangeSlices
namespace Go.Proofs.Ytpdenhmkpiafiaa
open Go.ChangeShapes Go.WideShapes Go.ChangeAt Go.RowKit

theorem bounds8 {x : Int} (h : (Lit.int .u8 x).wf = true) : 0 ≤ x ∧ x < 256 := by
  have h1 : IntKind.u8.min = 0 := by decide
  have h2 : IntKind.u8.max = 255 := by decide
  simp [Lit.wf, h1, h2] at h
  omega
theorem cells5 : Try.prog.cellsOf 5 = 1 := by kernel_rfl
theorem spot_none {w : World} {a : Addr} {v : Value} (h : w.cell? a = some v) : a.spot = none ∧ a.block < w.heap.size := by
  unfold World.cell? at h
  split at h
  · rename_i c e f hc
    refine ⟨?_, (Array.getElem?_eq_some_iff.1 hc).1⟩
    cases hs : a.spot with
    | none => rfl
    | some k => rw [hs] at h; simp at h
  · cases h
theorem add_plain {a : Addr} (h : a.spot = none) (i : Nat) : a.add i = ⟨a.block, a.off + i, none⟩ := by
  obtain ⟨b, o, s⟩ := a
  simp only at h
  subst h
  unfold Addr.add
  split <;> simp_all
set_option maxRecDepth 100000 in
theorem open_B {H : Type} {enc : TypeId × Value → H} {W : World} {base b0 : Nat} {r : Reach} {held : Bool} {v : Value} {d : DataW H} {p : List MemPlace}
    (hval : Value.okWide Try.prog W r b0 33 v) (h : DataW.Trod enc Try.prog W base (fun _ => true) held 33 v d p) :
    ∃ (q : Option Addr) (n c : Nat) (f : Nat → Nat), v = .slice q n c ∧ n ≤ c ∧ c ≤ maxLen ∧ (∀ i, f i < 256) ∧ (q = none → n = 0) ∧ (0 < n → ∃ g o, q = some ⟨g, o, none⟩ ∧ g < W.heap.size ∧ ∀ i, i < n → W.cell? ⟨g, o + i, none⟩ = some (.int .u8 ((f i : Nat) : Int))) := by
  obtain ⟨q, n, c, rfl⟩ := okWide_slice Try.underlying33 hval
  obtain ⟨fuel, hf⟩ := h
  rcases open_ints Try.underlying33 Try.underlying5 cells5 hf with ⟨hc, hx⟩ | ⟨a, len, cap, zs, hc, _, hle, hmax, hlen, hx, hcell, hwf⟩
  · simp [Value.cells] at hc
    obtain ⟨rfl, rfl, rfl⟩ := hc
    exact ⟨none, 0, 0, fun _ => 0, rfl, Nat.le_refl _, Nat.zero_le _, fun _ => by simp, fun _ => rfl, fun h => absurd h (by decide)⟩
  · simp [Value.cells] at hc
    obtain ⟨rfl, rfl, rfl⟩ := hc
    have hl2 : zs.length = c := by simpa using hlen
    have hb : ∀ i, 0 ≤ zs.getD i 0 ∧ zs.getD i 0 < 256 := fun i => by
      rcases Nat.lt_or_ge i zs.length with h | h
      · rw [List.getD_eq_getElem?_getD, List.getElem?_eq_getElem h]
        exact bounds8 (hwf _ (List.getElem_mem h))
      · rw [List.getD_eq_getElem?_getD, List.getElem?_eq_none h]
        exact ⟨Int.le_refl _, by decide⟩
    refine ⟨some a, n, c, fun i => (zs.getD i 0).toNat, rfl, hle, hmax, fun i => by have := hb i; show (zs.getD i 0).toNat < 256; omega, (fun h => (by cases h)), fun h0 => ?_⟩
    have h1 := hcell 0 (by omega)
    have h2 := spot_none h1
    have hs : a.spot = none := by
      have := h2.1
      unfold Addr.add at this
      simpa using this
    refine ⟨a.block, a.off, ?_, ?_, fun i hi => ?_⟩
    · obtain ⟨b, o, s⟩ := a
      simp only at hs
      subst hs
      rfl
    · have := h2.2
      rw [add_plain hs 0] at this
      exact this
    · rw [← add_plain hs i, hcell i (by omega)]
      have := hb i
      rw [Int.toNat_of_nonneg this.1]
end Go.Proofs.Ytpdenhmkpiafiaa
