/-
  Arguments that are rows of ints, of numbers, of events.
-/
import Derived.Test.YtpdenhmkpiafiaaFrameV
import Derived.Test.YtpdenhmkpiafiaaEvSl
import Derived.Deep.SlicePairs
import Derived.SizedLaws
namespace Go.Proofs.Ytpdenhmkpiafiaa
open Go.ChangeShapes Go.WideShapes Go.ChangeAt Go.RowKit K6

set_option maxRecDepth 100000 in
theorem open_N {H : Type} {enc : TypeId × Value → H} {W : World} {base b0 : Nat} {r : Reach} {held : Bool} {v : Value} {d : DataW H} {p : List MemPlace}
    (hval : Value.okWide Try.prog W r b0 22 v) (h : DataW.Trod enc Try.prog W base (fun _ => true) held 22 v d p) :
    ∃ xs : List Int, Ns W v xs ∧ ∀ x ∈ xs, x < 9223372036854775808 := by
  obtain ⟨q, n, c, rfl⟩ := okWide_slice Try.underlying22 hval
  obtain ⟨fuel, hf⟩ := h
  rcases open_ints Try.underlying22 Try.underlying3 cells3V hf with ⟨hc, hx⟩ | ⟨a, len, cap, zs, hc, _, hle, hmax, hlen, hx, hcell, hwf⟩
  · simp [Value.cells] at hc
    obtain ⟨rfl, rfl, rfl⟩ := hc
    exact ⟨[], ⟨none, 0, rfl, fun h => absurd h (by decide)⟩, fun x hx => (by cases hx)⟩
  · simp [Value.cells] at hc
    obtain ⟨rfl, rfl, rfl⟩ := hc
    have hl2 : zs.length = c := by simpa using hlen
    have e : (zs.take n).length = n := by rw [List.length_take]; omega
    refine ⟨zs.take n, ⟨some a, c, by rw [e], fun h0 => ?_⟩, fun x hx => int_hi (hwf x (List.mem_of_mem_take hx))⟩
    rw [e] at h0
    have h1 := hcell 0 (by omega)
    have h2 := spot_noneV h1
    have hs : a.spot = none := spot_of_addV h2.1
    rw [add_plainV hs 0] at h2
    refine ⟨a.block, a.off, ?_, h2.2, fun i hi => ?_⟩
    · congr 1
      obtain ⟨b, o, s⟩ := a
      simp only at hs
      subst hs
      rfl
    · have hil : i < zs.length := by rw [e] at hi; omega
      rw [← add_plainV hs, hcell i hil, List.getD_eq_getElem?_getD, List.getElem?_eq_getElem hil, List.getElem_take]
      rfl
theorem bytes31V : Try.prog.bytesOf 31 = 32 := by kernel_rfl
theorem weights_head {H : Type} {P : Program} {t e : TypeId} {es sp : List (DataW H)} (h : P.underlying t = some (.slice e)) : (es.length + sp.length) * P.bytesOf e ∈ (DataW.slice es sp).weights P t := by
  simp [DataW.weights, h]
theorem weights_all {H : Type} {P : Program} {e : TypeId} {d : DataW H} {x : Nat} : ∀ {l : List (DataW H)}, d ∈ l → x ∈ d.weights P e → x ∈ DataW.weightsAll P e l
  | a :: l, hd, hx => by
    simp only [DataW.weightsAll, List.mem_append]
    rcases List.mem_cons.1 hd with rfl | h
    · exact .inl hx
    · exact .inr (weights_all h hx)
theorem weights_elem {H : Type} {P : Program} {t e : TypeId} {es sp : List (DataW H)} {d : DataW H} {x : Nat} (h : P.underlying t = some (.slice e)) (hd : d ∈ es) (hx : x ∈ d.weights P e) : x ∈ (DataW.slice es sp).weights P t := by
  simp only [DataW.weights, h, List.mem_cons, List.mem_append]
  exact .inr (.inl (weights_all hd hx))
set_option maxRecDepth 100000 in
/-- a slice of numbers by its cell -/
theorem cell_U {H : Type} {enc : TypeId × Value → H} {W : World} {base : Nat} {spare : Nat → Bool} {held : Bool} {fuel : Nat} {cs : List Value} {y : DataW H × List MemPlace}
    (hf : DataW.trod enc Try.prog W base spare held fuel 23 cs = some y) :
    ∃ (q : Option Addr) (c : Nat) (l : List Nat), cs = [.slice q l.length c] ∧ Us W (.slice q l.length c) l ∧ (∀ a ∈ l, a < M) ∧ (l = [] ∨ ∃ x ∈ y.1.weights Try.prog 23, l.length * 32 ≤ x) := by
  rcases Go.Deep.open_slice Try.underlying23 hf with ⟨hc, hx⟩ | ⟨a, n, c, m, k, D, Pl, hc, _, hle, hmax, hm, hy, hcell⟩
  · exact ⟨none, 0, [], hc, Us.nil W, (fun _ h => (by cases h)), .inl rfl⟩
  · have hnm : n ≤ m := by rw [hm]; split <;> omega
    rw [cells31V] at hcell
    obtain ⟨F, hF⟩ := Go.Deep.choose_lt (α := Nat) (n := m) (p := fun i x => x < M ∧ W.cells? base (a.add (i * 4)) 4 = some (W4 x).toList) (fun i hi => by
      obtain ⟨cs, h1, h2⟩ := hcell i hi
      obtain ⟨_, hlen, _⟩ := World.cells?_some h1
      obtain ⟨x, e, hx⟩ := words_V hlen h2
      exact ⟨x, hx, by rw [h1, e]⟩)
    have e : ((List.range n).map F).length = n := by simp
    refine ⟨some a, c, (List.range n).map F, by rw [e]; exact hc, ⟨some a, c, rfl, (fun h => (by cases h)), fun p hp j v hj => ?_⟩, fun x hx => ?_, .inr ?_⟩
    · cases hp
      have hj4 : j < n * 4 := by have h9 := (List.getElem?_eq_some_iff.1 hj).1; rw [uw_len, e] at h9; exact h9
      have hi : j / 4 < n := by omega
      obtain ⟨-, h1⟩ := hF (j / 4) (by omega)
      obtain ⟨_, hl1, h1c⟩ := World.cells?_some h1
      obtain ⟨-, h10⟩ := hF 0 (by omega)
      obtain ⟨_, hl0, h0c⟩ := World.cells?_some h10
      have h2 := h0c 0 (by decide)
      have h3 : W.cell? ((a.add (0 * 4)).add 0) = some (.int .u64 (wordsOf (F 0) 0)) := by first | exact h2 | (rw [h2]; rfl)
      have h4 := spot_noneV h3
      have hs : a.spot = none := spot_of_addV (show (a.add 0).spot = none from spot_of_addV h4.1)
      have h6 := h1c (j % 4) (by omega)
      rw [add_plainV hs, add_plainV (a := ⟨a.block, a.off + j / 4 * 4, none⟩) rfl] at h6
      rw [add_plainV hs, ← hj]
      have hu := uw_get ((List.range n).map F) (j / 4) (j % 4) (by rw [e]; exact hi) (by omega)
      rw [show j / 4 * 4 + j % 4 = j by omega] at hu
      rw [hu]
      rw [show a.off + j / 4 * 4 + j % 4 = a.off + j by omega] at h6
      rw [h6]
      simp
    · obtain ⟨i, hi, rfl⟩ := List.mem_map.1 hx
      exact (hF i (by have := List.mem_range.1 hi; omega)).1
    · rw [hy]
      refine ⟨_, weights_head Try.underlying23, ?_⟩
      rw [e, bytes31V]
      simp only [List.length_map, List.length_range]
      omega
set_option maxRecDepth 100000 in
theorem open_Us {H : Type} {enc : TypeId × Value → H} {W : World} {base b0 : Nat} {r : Reach} {spare : Nat → Bool} {held : Bool} {v : Value} {d : DataW H} {p : List MemPlace}
    (hval : Value.okWide Try.prog W r b0 23 v) (h : DataW.Trod enc Try.prog W base spare held 23 v d p) :
    ∃ l : List Nat, Us W v l ∧ ∀ a ∈ l, a < M := by
  obtain ⟨q, n, c, rfl⟩ := okWide_slice Try.underlying23 hval
  obtain ⟨fuel, hf⟩ := h
  obtain ⟨q', c', l, hc, hu, hM, -⟩ := cell_U hf
  simp [Value.cells] at hc
  obtain ⟨rfl, rfl, rfl⟩ := hc
  exact ⟨l, hu, hM⟩
theorem cells26V : Try.prog.cellsOf 26 = 2 := by kernel_rfl
theorem cells23V : Try.prog.cellsOf 23 = 1 := by kernel_rfl
set_option maxRecDepth 100000 in
theorem open_E {H : Type} {enc : TypeId × Value → H} {W : World} {base b0 : Nat} {r : Reach} {spare : Nat → Bool} {held : Bool} {v : Value} {d : DataW H} {p : List MemPlace}
    (hval : Value.okWide Try.prog W r b0 77 v) (h : DataW.Trod enc Try.prog W base spare held 77 v d p) :
    ∃ E : List Ev, Es W v E ∧ ∀ e ∈ E, e.l = [] ∨ ∃ x ∈ d.weights Try.prog 77, e.l.length * 32 ≤ x := by
  obtain ⟨q, n, c, rfl⟩ := okWide_slice Try.underlying77 hval
  obtain ⟨fuel, hf⟩ := h
  rcases Go.Deep.open_slice_pairs Try.underlying77 Try.underlying26 cells26V rfl rfl cells3V cells23V hf with ⟨hc, hx⟩ | ⟨a, len, cap, m, k, V0, V1, D0, D1, P0, P1, hc, _, hle, hmax, hm, hxd, hcell⟩
  · simp [Value.cells] at hc
    obtain ⟨rfl, rfl, rfl⟩ := hc
    exact ⟨[], ⟨none, 0, rfl, (fun h => absurd h (by decide)), fun _ h => (by cases h)⟩, fun _ h => (by cases h)⟩
  · simp [Value.cells] at hc
    obtain ⟨rfl, rfl, rfl⟩ := hc
    have hnm : n ≤ m := by rw [hm]; split <;> omega
    obtain ⟨F, hF⟩ := Go.Deep.choose_lt (α := Ev) (n := m) (p := fun i x => V0 i = .int .i64 x.k ∧ V1 i = x.v ∧ EvOk W x ∧ (x.l = [] ∨ ∃ y ∈ (D1 i).weights Try.prog 23, x.l.length * 32 ≤ y)) (fun i hi => by
      obtain ⟨-, -, h3, h4⟩ := hcell i hi
      obtain ⟨x0, e0, -, w0⟩ := DataW.trod_int Try.underlying3 h3
      obtain ⟨q1, c1, l1, e1, hu, hM, hwt⟩ := cell_U h4
      simp only [List.cons.injEq, and_true] at e0 e1
      exact ⟨⟨x0, q1, c1, l1⟩, e0, e1, ⟨hu, hM, int_lo w0, int_hi w0⟩, hwt⟩)
    have e : ((List.range n).map F).length = n := by simp
    refine ⟨(List.range n).map F, ⟨some a, c, by rw [e], fun h0 => ?_, fun x hx => ?_⟩, fun x hx => ?_⟩
    · rw [e] at h0
      obtain ⟨h1, -⟩ := hcell 0 (by omega)
      have h2 := spot_noneV h1
      have hs : a.spot = none := spot_of_addV (show (a.add 0).spot = none from h2.1)
      rw [add_plainV hs] at h2
      refine ⟨a.block, a.off, ?_, h2.2, fun i x hi => ?_⟩
      · congr 1
        obtain ⟨b, o, s⟩ := a
        simp only at hs
        subst hs
        rfl
      · have hi9 := (List.getElem?_eq_some_iff.1 hi).1
        rw [e] at hi9
        rw [List.getElem?_map, List.getElem?_range hi9] at hi
        simp only [Option.map_some, Option.some.injEq] at hi
        obtain ⟨h3, h4, -⟩ := hcell i (by omega)
        rw [add_plainV hs, (hF i (by omega)).1, hi] at h3
        rw [add_plainV hs, (hF i (by omega)).2.1, hi] at h4
        exact ⟨h3, by rw [Nat.add_assoc]; exact h4⟩
    · obtain ⟨i, hi, rfl⟩ := List.mem_map.1 hx
      exact (hF i (by have := List.mem_range.1 hi; omega)).2.2.1
    · obtain ⟨i, hi, rfl⟩ := List.mem_map.1 hx
      have hin := List.mem_range.1 hi
      rcases (hF i (by omega)).2.2.2 with h | ⟨y, hy, hle⟩
      · exact .inl h
      · right
        refine ⟨y, ?_, hle⟩
        injection hxd with hxd1 hxd2
        rw [hxd1]
        refine weights_elem Try.underlying77 (d := .agg [D0 i, D1 i]) (List.mem_map.2 ⟨i, hi, rfl⟩) ?_
        simp only [DataW.weights, Try.underlying26]
        simp only [List.map_cons, List.map_nil, DataW.weightsEach, List.mem_append]
        exact .inr (.inl hy)
theorem ev_sized {H : Type} {d : DataW H} {E : List Ev} (h : ∀ e ∈ E, e.l = [] ∨ ∃ x ∈ d.weights Try.prog 77, e.l.length * 32 ≤ x) (hs : ∀ x ∈ d.weights Try.prog 77, x ≤ reachBytes) : ∀ e ∈ E, e.l.length ≤ 140737488355328 := fun e he => by
  rcases h e he with h | ⟨x, hx, hle⟩
  · rw [h]; exact Nat.zero_le _
  · have h1 := hs x hx
    have h2 := reachBytes_lt
    omega
end Go.Proofs.Ytpdenhmkpiafiaa
