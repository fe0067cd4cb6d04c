/-
  An argument of bytes, as the document's source reads it; an argument of asks.
-/
import Derived.Test.YtpdenhmkpiafiaaFrameS
import Derived.Test.YtpdenhmkpiafiaaRefSrc
import Derived.Deep.SlicePairs
namespace Go.Proofs.Ytpdenhmkpiafiaa
open Go.ChangeShapes Go.WideShapes Go.ChangeAt Go.RowKit K6

theorem spot_noneR {w : World} {a : Addr} {v : Value} (h : w.cell? a = some v) : a.spot = none ∧ a.block < w.heap.size := by
  unfold World.cell? at h
  split at h
  · rename_i c e f hc
    refine ⟨?_, (Array.getElem?_eq_some_iff.1 hc).1⟩
    cases hs : a.spot with
    | none => rfl
    | some k => rw [hs] at h; simp at h
  · cases h
theorem add_plainR {a : Addr} (h : a.spot = none) (i : Nat) : a.add i = ⟨a.block, a.off + i, none⟩ := by
  obtain ⟨b, o, s⟩ := a
  simp only at h
  subst h
  unfold Addr.add
  split <;> simp_all
theorem spot_of_add {a : Addr} (h : (a.add 0).spot = none) : a.spot = none := by
  unfold Addr.add at h
  simpa using h
set_option maxRecDepth 100000 in
theorem open_R {H : Type} {enc : TypeId × Value → H} {W : World} {base b0 : Nat} {r : Reach} {held : Bool} {v : Value} {d : DataW H} {p : List MemPlace}
    (hval : Value.okWide Try.prog W r b0 33 v) (h : DataW.Trod enc Try.prog W base (fun _ => true) held 33 v d p) :
    ∃ (q : Option Addr) (c : Nat) (xs : List Int) (qb : Option Nat), v = .slice q xs.length c ∧ Bs W v xs ∧ (∀ x ∈ xs, 0 ≤ x ∧ x < 256) ∧ SRv W qb v xs ∧ (∀ b, qb = some b → b < W.heap.size) := by
  obtain ⟨q, n, c, rfl⟩ := okWide_slice Try.underlying33 hval
  obtain ⟨fuel, hf⟩ := h
  rcases open_ints Try.underlying33 Try.underlying5 cells5' hf with ⟨hc, hx⟩ | ⟨a, len, cap, zs, hc, _, hle, hmax, hlen, hx, hcell, hwf⟩
  · simp [Value.cells] at hc
    obtain ⟨rfl, rfl, rfl⟩ := hc
    exact ⟨none, 0, [], none, rfl, Bs.nil W, (fun x hx => (by cases hx)), .inl ⟨rfl, _, rfl⟩, fun _ h => (by cases h)⟩
  · simp [Value.cells] at hc
    obtain ⟨rfl, rfl, rfl⟩ := hc
    have hl2 : zs.length = c := by simpa using hlen
    have e : (zs.take n).length = n := by rw [List.length_take]; omega
    have hB : Bs W (.slice (some a) (zs.take n).length c) (zs.take n) := ⟨some a, c, rfl, (fun h => (by cases h)), fun p hp j u hj => by
      cases hp
      unfold bv at hj
      rw [List.getElem?_map, List.getElem?_take] at hj
      split at hj
      · rename_i hjn
        have hjl : j < zs.length := by omega
        rw [List.getElem?_eq_getElem hjl] at hj
        cases hj
        rw [hcell j hjl, List.getD_eq_getElem?_getD, List.getElem?_eq_getElem hjl]
        rfl
      · cases hj⟩
    have hby : ∀ x ∈ zs.take n, 0 ≤ x ∧ x < 256 := fun x hx => bounds8' (hwf x (List.mem_of_mem_take hx))
    rcases Nat.eq_zero_or_pos c with h0 | h0
    · have hn0 : n = 0 := by omega
      have hz : zs.take n = [] := by rw [hn0, List.take_zero]
      refine ⟨some a, c, zs.take n, none, by rw [e], by rw [e] at hB; exact hB, hby, .inl ⟨hz, some a, by rw [hn0, h0]⟩, fun _ h => (by cases h)⟩
    · have h1 := hcell 0 (by omega)
      have h2 := spot_noneR h1
      have hs : a.spot = none := spot_of_add h2.1
      rw [add_plainR hs 0] at h2
      refine ⟨some a, c, zs.take n, some a.block, by rw [e], by rw [e] at hB; exact hB, hby, .inr ⟨a.block, a.off, c, rfl, ?_, by omega, h0, fun j x hj => ?_⟩, fun b hb => by injection hb with hb; subst hb; exact h2.2⟩
      · rw [e]
        congr 2
        obtain ⟨b, o, s⟩ := a
        simp only at hs
        subst hs
        rfl
      · rw [List.getElem?_take] at hj
        split at hj
        · rename_i hjn
          have hjl : j < zs.length := by omega
          rw [← add_plainR hs, hcell j hjl, List.getD_eq_getElem?_getD, hj]
          rfl
        · cases hj
/-- a slice value reads as these asks -/
def AsV (w : World) (q : Option Addr) (n : Nat) (f : Nat → Int × Int) : Prop := 0 < n → ∃ g o, q = some ⟨g, o, none⟩ ∧ g < w.heap.size ∧ ∀ i, i < n → w.cell? ⟨g, o + i * 2, none⟩ = some (.int .i64 (f i).1) ∧ w.cell? ⟨g, o + i * 2 + 1, none⟩ = some (.int .i64 (f i).2)
theorem cells3R : Try.prog.cellsOf 3 = 1 := by kernel_rfl
theorem cells68R : Try.prog.cellsOf 68 = 2 := by kernel_rfl
set_option maxRecDepth 100000 in
theorem open_As {H : Type} {enc : TypeId × Value → H} {W : World} {base b0 : Nat} {r : Reach} {spare : Nat → Bool} {held : Bool} {v : Value} {d : DataW H} {p : List MemPlace}
    (hval : Value.okWide Try.prog W r b0 63 v) (h : DataW.Trod enc Try.prog W base spare held 63 v d p) :
    ∃ (q : Option Addr) (n c : Nat) (f : Nat → Int × Int), v = .slice q n c ∧ AsV W q n f := by
  obtain ⟨q, n, c, rfl⟩ := okWide_slice Try.underlying63 hval
  obtain ⟨fuel, hf⟩ := h
  rcases Go.Deep.open_slice_pairs Try.underlying63 Try.underlying68 cells68R rfl rfl cells3R cells3R hf with ⟨hc, hx⟩ | ⟨a, len, cap, m, k, V0, V1, D0, D1, P0, P1, hc, _, hle, hmax, hm, hx, hcell⟩
  · simp [Value.cells] at hc
    obtain ⟨rfl, rfl, rfl⟩ := hc
    exact ⟨none, 0, 0, fun _ => (0, 0), rfl, fun h => absurd h (by decide)⟩
  · simp [Value.cells] at hc
    obtain ⟨rfl, rfl, rfl⟩ := hc
    have hnm : n ≤ m := by rw [hm]; split <;> omega
    obtain ⟨f, hf2⟩ := Go.Deep.choose_lt (α := Int × Int) (n := m) (p := fun i x => V0 i = .int .i64 x.1 ∧ V1 i = .int .i64 x.2) (fun i hi => by
      obtain ⟨-, -, h3, h4⟩ := hcell i hi
      obtain ⟨x0, e0, -⟩ := DataW.trod_int Try.underlying3 h3
      obtain ⟨x1, e1, -⟩ := DataW.trod_int Try.underlying3 h4
      simp only [List.cons.injEq, and_true] at e0 e1
      exact ⟨(x0, x1), e0, e1⟩)
    refine ⟨some a, n, c, f, rfl, fun h0 => ?_⟩
    obtain ⟨h1, -⟩ := hcell 0 (by omega)
    have h2 := spot_noneR h1
    have hs : a.spot = none := spot_of_add (show (a.add 0).spot = none from h2.1)
    rw [add_plainR hs] at h2
    refine ⟨a.block, a.off, ?_, h2.2, fun i hi => ?_⟩
    · congr 1
      obtain ⟨b, o, s⟩ := a
      simp only at hs
      subst hs
      rfl
    · obtain ⟨h3, h4, -⟩ := hcell i (by omega)
      rw [add_plainR hs, (hf2 i (by omega)).1] at h3
      rw [add_plainR hs, (hf2 i (by omega)).2] at h4
      exact ⟨h3, h4⟩
end Go.Proofs.Ytpdenhmkpiafiaa
