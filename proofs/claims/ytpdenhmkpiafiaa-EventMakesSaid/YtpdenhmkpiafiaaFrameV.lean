/-
  An argument that is a row of values to be put.
-/
import Derived.Test.YtpdenhmkpiafiaaFrameS
import Derived.Test.YtpdenhmkpiafiaaGE
import Derived.Deep.Strs
namespace Go.Proofs.Ytpdenhmkpiafiaa
open Go.ChangeShapes Go.WideShapes Go.ChangeAt Go.RowKit K6

theorem spot_noneV {w : World} {a : Addr} {v : Value} (h : w.cell? a = some v) : a.spot = none ∧ a.block < w.heap.size := by
  unfold World.cell? at h
  split at h
  · rename_i c e f hc
    refine ⟨?_, (Array.getElem?_eq_some_iff.1 hc).1⟩
    cases hs : a.spot with
    | none => rfl
    | some k => rw [hs] at h; simp at h
  · cases h
theorem add_plainV {a : Addr} (h : a.spot = none) (i : Nat) : a.add i = ⟨a.block, a.off + i, none⟩ := by
  obtain ⟨b, o, s⟩ := a
  simp only at h
  subst h
  unfold Addr.add
  split <;> simp_all
theorem spot_of_addV {a : Addr} (h : (a.add 0).spot = none) : a.spot = none := by
  unfold Addr.add at h
  simpa using h
/-- a value that is put: its kind, number, amount, and bytes (v: the slice) -/
structure Vl where
  k : Int
  n : Int
  a : Nat
  v : Value
  b : List Int
instance : Inhabited Vl := ⟨⟨0, 0, 0, .slice none 0 0, []⟩⟩
def vcells (x : Vl) : List Value := [.int .i64 x.k, .int .i64 x.n] ++ ((W4 x.a).toList ++ [x.v])
structure VlOk (w : World) (x : Vl) : Prop where
  n63 : x.n < 9223372036854775808
  aM : x.a < M
  bs : Bs w x.v x.b
  by_ : ∀ y ∈ x.b, 0 ≤ y ∧ y < 256
def VsV (w : World) (q : Option Addr) (n : Nat) (F : Nat → Vl) : Prop := 0 < n → ∃ g o, q = some ⟨g, o, none⟩ ∧ g < w.heap.size ∧ ∀ i, i < n → VlOk w (F i) ∧ ∀ j u, (vcells (F i))[j]? = some u → w.cell? ⟨g, o + i * 7 + j, none⟩ = some u
theorem trod_struct4 {H : Type} {enc : TypeId × Value → H} {P : Program} {w : World} {base : Nat} {spare : Nat → Bool} {held : Bool} {t : TypeId} {f0 f1 f2 f3 : Field} {fuel : Nat} {cs : List Value} {x : DataW H × List MemPlace} (ht : P.underlying t = some (.struct #[f0, f1, f2, f3])) (h : DataW.trod enc P w base spare held fuel t cs = some x) :
    ∃ y0 y1 y2 y3 n, DataW.trod enc P w base spare held n f0.type ((cs.drop f0.offset).take (P.cellsOf f0.type)) = some y0 ∧ DataW.trod enc P w base spare held n f1.type ((cs.drop f1.offset).take (P.cellsOf f1.type)) = some y1 ∧
      DataW.trod enc P w base spare held n f2.type ((cs.drop f2.offset).take (P.cellsOf f2.type)) = some y2 ∧ DataW.trod enc P w base spare held n f3.type ((cs.drop f3.offset).take (P.cellsOf f3.type)) = some y3 := by
  obtain ⟨xs, n, _, rfl, hl, hlen, hf⟩ := DataW.trod_struct ht h
  match xs, hlen with
  | [y0, y1, y2, y3], _ => exact ⟨y0, y1, y2, y3, n, by simpa using hf 0 f0 rfl, by simpa using hf 1 f1 rfl, by simpa using hf 2 f2 rfl, by simpa using hf 3 f3 rfl⟩
theorem cells3V : Try.prog.cellsOf 3 = 1 := by kernel_rfl
theorem cells31V : Try.prog.cellsOf 31 = 4 := by kernel_rfl
theorem cells33V : Try.prog.cellsOf 33 = 1 := by kernel_rfl
theorem cells59V : Try.prog.cellsOf 59 = 7 := by kernel_rfl
set_option maxRecDepth 100000 in
/-- a slice of bytes by its cell -/
theorem cell_S {H : Type} {enc : TypeId × Value → H} {W : World} {base : Nat} {held : Bool} {fuel : Nat} {cs : List Value} {y : DataW H × List MemPlace}
    (hf : DataW.trod enc Try.prog W base (fun _ => true) held fuel 33 cs = some y) :
    ∃ (v : Value) (xs : List Int), cs = [v] ∧ Bs W v xs ∧ (∀ x ∈ xs, 0 ≤ x ∧ x < 256) := by
  rcases open_ints Try.underlying33 Try.underlying5 cells5' hf with ⟨hc, hx⟩ | ⟨a, n, c, zs, hc, _, hle, hmax, hlen, hx, hcell, hwf⟩
  · exact ⟨_, [], hc, Bs.nil W, fun x hx => (by cases hx)⟩
  · have hl2 : zs.length = c := by simpa using hlen
    have e : (zs.take n).length = n := by rw [List.length_take]; omega
    refine ⟨_, zs.take n, hc, ⟨some a, c, by rw [e], (fun h => (by cases h)), fun p hp j u hj => ?_⟩, fun x hx => bounds8' (hwf x (List.mem_of_mem_take hx))⟩
    cases hp
    unfold bv at hj
    rw [List.getElem?_map, List.getElem?_take] at hj
    split at hj
    · rename_i hjn
      have hjl : j < zs.length := by omega
      rw [List.getElem?_eq_getElem hjl] at hj
      cases hj
      rw [hcell j hjl, List.getD_eq_getElem?_getD, List.getElem?_eq_getElem hjl]
      rfl
    · cases hj
set_option maxRecDepth 100000 in
theorem words_V {H : Type} {enc : TypeId × Value → H} {w : World} {base : Nat} {spare : Nat → Bool} {held : Bool} {n : Nat} {cs : List Value} {y : DataW H × List MemPlace} (hl : cs.length = 4)
    (h : DataW.trod enc Try.prog w base spare held n 31 cs = some y) : ∃ a, cs = (W4 a).toList ∧ a < M := by
  match cs, hl with
  | [c0, c1, c2, c3], _ =>
    obtain ⟨y0, y1, y2, y3, m, _, h0, h1, h2, h3⟩ := trod_array4 Try.underlying31 cells29 h
    obtain ⟨x0, e0, _, w0⟩ := DataW.trod_int Try.underlying29 h0
    obtain ⟨x1, e1, _, w1⟩ := DataW.trod_int Try.underlying29 h1
    obtain ⟨x2, e2, _, w2⟩ := DataW.trod_int Try.underlying29 h2
    obtain ⟨x3, e3, _, w3⟩ := DataW.trod_int Try.underlying29 h3
    simp only [List.cons.injEq, and_true] at e0 e1 e2 e3
    subst e0 e1 e2 e3
    have b0 := bounds64 w0
    have b1 := bounds64 w1
    have b2 := bounds64 w2
    have b3 := bounds64 w3
    obtain ⟨k, hk⟩ : ∃ k, IsW x0 x1 x2 x3 k := ⟨_, IsW.mk' (Int.toNat_of_nonneg (by omega)) b0 b1 b2 b3⟩
    exact ⟨k, by rw [← W4_eq hk], hk.ltM⟩
set_option maxRecDepth 100000 in
theorem open_Vs {H : Type} {enc : TypeId × Value → H} {W : World} {base b0 : Nat} {r : Reach} {held : Bool} {v : Value} {d : DataW H} {p : List MemPlace}
    (hval : Value.okWide Try.prog W r b0 57 v) (h : DataW.Trod enc Try.prog W base (fun _ => true) held 57 v d p) :
    ∃ (q : Option Addr) (n c : Nat) (F : Nat → Vl), v = .slice q n c ∧ VsV W q n F := by
  obtain ⟨q, n, c, rfl⟩ := okWide_slice Try.underlying57 hval
  obtain ⟨fuel, hf⟩ := h
  rcases Go.Deep.open_slice Try.underlying57 hf with ⟨hc, hx⟩ | ⟨a, len, cap, m, k, D, Pl, hc, _, hle, hmax, hm, hx, hcell⟩
  · simp [Value.cells] at hc
    obtain ⟨rfl, rfl, rfl⟩ := hc
    exact ⟨none, 0, 0, fun _ => default, rfl, fun h => absurd h (by decide)⟩
  · simp [Value.cells] at hc
    obtain ⟨rfl, rfl, rfl⟩ := hc
    have hnm : n ≤ m := by rw [hm]; split <;> omega
    rw [cells59V] at hcell
    obtain ⟨F, hF⟩ := Go.Deep.choose_lt (α := Vl) (n := m) (p := fun i x => VlOk W x ∧ W.cells? base (a.add (i * 7)) 7 = some (vcells x)) (fun i hi => by
      obtain ⟨cs, h1, h2⟩ := hcell i hi
      obtain ⟨_, hlen, _⟩ := World.cells?_some h1
      obtain ⟨y0, y1, y2, y3, n', t0, t1, t2, t3⟩ := trod_struct4 Try.underlying59 h2
      match cs, hlen with
      | [c0, c1, c2, c3, c4, c5, c6], _ =>
        have t0' : DataW.trod enc Try.prog W base (fun _ => true) held n' 3 [c0] = some y0 := by rw [← t0]; congr 1
        have t1' : DataW.trod enc Try.prog W base (fun _ => true) held n' 3 [c1] = some y1 := by rw [← t1]; congr 1
        have t2' : DataW.trod enc Try.prog W base (fun _ => true) held n' 31 [c2, c3, c4, c5] = some y2 := by rw [← t2]; congr 1
        have t3' : DataW.trod enc Try.prog W base (fun _ => true) held n' 33 [c6] = some y3 := by rw [← t3]; congr 1
        obtain ⟨x0, e0, -, -⟩ := DataW.trod_int Try.underlying3 t0'
        obtain ⟨x1, e1, -, w1⟩ := DataW.trod_int Try.underlying3 t1'
        obtain ⟨k2, e2, hk2⟩ := words_V rfl t2'
        obtain ⟨v3, b3, e3, hb3, hy3⟩ := cell_S t3'
        simp only [List.cons.injEq, and_true] at e0 e1 e3
        refine ⟨⟨x0, x1, k2, v3, b3⟩, ⟨int_hi w1, hk2, hb3, hy3⟩, ?_⟩
        rw [h1]
        unfold vcells
        simp only
        rw [← e2, e0, e1, e3]
        rfl)
    refine ⟨some a, n, c, F, rfl, fun h0 => ?_⟩
    obtain ⟨-, h1⟩ := hF 0 (by omega)
    obtain ⟨_, hl1, h1c⟩ := World.cells?_some h1
    have h2 := h1c 0 (by decide)
    have h3 : W.cell? ((a.add (0 * 7)).add 0) = some (.int .i64 (F 0).k) := by first | exact h2 | (rw [h2]; rfl)
    have h4 := spot_noneV h3
    have hs : a.spot = none := spot_of_addV (show (a.add 0).spot = none from spot_of_addV h4.1)
    rw [add_plainV hs, add_plainV (a := ⟨a.block, a.off + 0 * 7, none⟩) rfl] at h4
    refine ⟨a.block, a.off, ?_, h4.2, fun i hi => ?_⟩
    · congr 1
      obtain ⟨b, o, s⟩ := a
      simp only at hs
      subst hs
      rfl
    · obtain ⟨ho, h5⟩ := hF i (by omega)
      obtain ⟨_, hl5, h5c⟩ := World.cells?_some h5
      refine ⟨ho, fun j u hj => ?_⟩
      have hj7 : j < 7 := by have := (List.getElem?_eq_some_iff.1 hj).1; rw [hl5] at this; exact this
      have h6 := h5c j hj7
      rw [add_plainV hs, add_plainV (a := ⟨a.block, a.off + i * 7, none⟩) rfl] at h6
      rw [← hj]
      exact h6
end Go.Proofs.Ytpdenhmkpiafiaa
