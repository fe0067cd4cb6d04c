/-
  What the statement rests on, part 3: FrameE FrameT TxSame4 TxLight.
-/
import Derived.Deep.SlicePairs
import Derived.SizedLaws
import Derived.OpenShut
import Derived.Test.YtpdenhmkpiafiaaQTC1
import Derived.Test.YtpdenhmkpiafiaaQTC4
import Derived.Test.YtpdenhmkpiafiaaQTC10
import Derived.Test.YtpdenhmkpiafiaaQTC12
namespace Go.Proofs.Ytpdenhmkpiafiaa
open Go.ChangeShapes Go.WideShapes Go.ChangeAt Go.RowKit K6
theorem bytes31V : Try.prog.bytesOf 31 = 32 := by kernel_rfl
theorem weights_head {H : Type} {P : Program} {t e : TypeId} {es sp : List (DataW H)} (h : P.underlying t = some (.slice e)) : (es.length + sp.length) * P.bytesOf e ∈ (DataW.slice es sp).weights P t := by
  simp [DataW.weights, h]
set_option maxRecDepth 100000 in
theorem cell_U {H : Type} {enc : TypeId × Value → H} {W : World} {base : Nat} {spare : Nat → Bool} {held : Bool} {fuel : Nat} {cs : List Value} {y : DataW H × List MemPlace}
    (hf : DataW.trod enc Try.prog W base spare held fuel 23 cs = some y) :
    ∃ (q : Option Addr) (c : Nat) (l : List Nat), cs = [.slice q l.length c] ∧ Us W (.slice q l.length c) l ∧ (∀ a ∈ l, a < M) ∧ (l = [] ∨ ∃ x ∈ y.1.weights Try.prog 23, l.length * 32 ≤ x) := by
  rcases Go.Deep.open_slice Try.underlying23 hf with ⟨hc, hx⟩ | ⟨a, n, c, m, k, D, Pl, hc, _, hle, hmax, hm, hy, hcell⟩
  · exact ⟨none, 0, [], hc, Us.nil W, (fun _ h => (by cases h)), .inl rfl⟩
  · have hnm : n ≤ m := by rw [hm]; split <;> omega
    rw [cells31V] at hcell
    obtain ⟨F, hF⟩ := Go.Deep.choose_lt (α := Nat) (n := m) (p := fun i x => x < M ∧ W.cells? base (a.add (i * 4)) 4 = some (W4 x).toList) (fun i hi => by
      obtain ⟨cs, h1, h2⟩ := hcell i hi
      obtain ⟨_, hlen, _⟩ := World.cells?_some h1
      obtain ⟨x, e, hx⟩ := words_V hlen h2
      exact ⟨x, hx, by rw [h1, e]⟩)
    have e : ((List.range n).map F).length = n := by simp
    refine ⟨some a, c, (List.range n).map F, by rw [e]; exact hc, ⟨some a, c, rfl, (fun h => (by cases h)), fun p hp j v hj => ?_⟩, fun x hx => ?_, .inr ?_⟩
    · cases hp
      have hj4 : j < n * 4 := by have h9 := (List.getElem?_eq_some_iff.1 hj).1; rw [uw_len, e] at h9; exact h9
      have hi : j / 4 < n := by omega
      obtain ⟨-, h1⟩ := hF (j / 4) (by omega)
      obtain ⟨_, hl1, h1c⟩ := World.cells?_some h1
      obtain ⟨-, h10⟩ := hF 0 (by omega)
      obtain ⟨_, hl0, h0c⟩ := World.cells?_some h10
      have h2 := h0c 0 (by decide)
      have h3 : W.cell? ((a.add (0 * 4)).add 0) = some (.int .u64 (wordsOf (F 0) 0)) := by first | exact h2 | (rw [h2]; rfl)
      have h4 := spot_noneV h3
      have hs : a.spot = none := spot_of_addV (show (a.add 0).spot = none from spot_of_addV h4.1)
      have h6 := h1c (j % 4) (by omega)
      rw [add_plainV hs, add_plainV (a := ⟨a.block, a.off + j / 4 * 4, none⟩) rfl] at h6
      rw [add_plainV hs, ← hj]
      have hu := uw_get ((List.range n).map F) (j / 4) (j % 4) (by rw [e]; exact hi) (by omega)
      rw [show j / 4 * 4 + j % 4 = j by omega] at hu
      rw [hu]
      rw [show a.off + j / 4 * 4 + j % 4 = a.off + j by omega] at h6
      rw [h6]
      simp
    · obtain ⟨i, hi, rfl⟩ := List.mem_map.1 hx
      exact (hF i (by have := List.mem_range.1 hi; omega)).1
    · rw [hy]
      refine ⟨_, weights_head Try.underlying23, ?_⟩
      rw [e, bytes31V]
      simp only [List.length_map, List.length_range]
      omega
end Go.Proofs.Ytpdenhmkpiafiaa
namespace Go.Proofs.Ytpdenhmkpiafiaa
open Go Go.ChangeShapes Go.WideShapes Go.ChangeAt Go.RowKit K6
set_option maxRecDepth 100000 in
theorem cell_hash {H : Type} {enc : TypeId × Value → H} {W : World} {base : Nat} {spare : Nat → Bool} {held : Bool} {fuel : Nat} {cs : List Value} {y : DataW H × List MemPlace}
    (h : DataW.trod enc Try.prog W base spare held fuel 35 cs = some y) : ∃ X : List Int, cs = bv X ∧ X.length = 32 ∧ By X := by
  obtain ⟨xs, m, -, -, hl, hxl, hf⟩ := Go.DataW.trod_array Try.underlying35 h
  have hl32 : cs.length = 32 := hl.trans (by kernel_rfl)
  have key : ∀ i, i < 32 → ∃ x : Int, cs[i]? = some (.int .u8 x) ∧ 0 ≤ x ∧ x < 256 := fun i hi => by
    have h1 := hf i hi
    rw [cells5', Nat.mul_one, List.getElem?_eq_getElem (by rw [hxl]; exact hi)] at h1
    obtain ⟨x0, e0, -, w0⟩ := DataW.trod_int Try.underlying5 h1
    have hb := bounds8' w0
    refine ⟨x0, ?_, hb⟩
    have h2 := congrArg (·[0]?) e0
    simpa using h2
  obtain ⟨F, hF⟩ := Go.Deep.choose_lt (α := Int) (n := 32) (p := fun i x => cs[i]? = some (.int .u8 x) ∧ 0 ≤ x ∧ x < 256) key
  refine ⟨(List.range 32).map F, ?_, by simp, fun x hx => ?_⟩
  · refine List.ext_getElem? fun i => ?_
    rcases Nat.lt_or_ge i 32 with hi | hi
    · rw [(hF i hi).1]
      unfold bv
      rw [List.getElem?_map, List.getElem?_map, List.getElem?_range hi]
      rfl
    · rw [List.getElem?_eq_none (by omega), List.getElem?_eq_none (by rw [bv_len]; simp; exact hi)]
  · obtain ⟨i, hi, rfl⟩ := List.mem_map.1 hx
    exact (hF i (List.mem_range.1 hi)).2
set_option maxRecDepth 100000 in
theorem cell_Rs {α : Type} [Inhabited α] {H : Type} {enc : TypeId × Value → H} {W : World} {base : Nat} {spare : Nat → Bool} {held : Bool} {fuel : Nat} {cs : List Value} {y : DataW H × List MemPlace} {t e : TypeId} {z : Nat}
    (ht : Try.prog.underlying t = some (.slice e)) (hz : Try.prog.cellsOf e = z) (hz0 : 0 < z) (f : α → List Value) (p : α → Prop)
    (hel : ∀ (n : Nat) (cs : List Value) (y : DataW H × List MemPlace), cs.length = z → DataW.trod enc Try.prog W base spare held n e cs = some y → ∃ x, cs = f x ∧ p x)
    (hf : DataW.trod enc Try.prog W base spare held fuel t cs = some y) :
    ∃ (q : Option Addr) (c : Nat) (l : List α), cs = [.slice q l.length c] ∧ Rs f z W (.slice q l.length c) l ∧ (∀ x ∈ l, p x) ∧ l.length ≤ maxLen := by
  rcases Go.Deep.open_slice ht hf with ⟨hc, hx⟩ | ⟨a, n, c, m, k, D, Pl, hc, _, hle, hmax, hm, hy, hcell⟩
  · exact ⟨none, 0, [], hc, Rs.nil f z W, (fun _ h => (by cases h)), Nat.zero_le _⟩
  · have hnm : n ≤ m := by rw [hm]; split <;> omega
    rw [hz] at hcell
    obtain ⟨F, hF⟩ := Go.Deep.choose_lt (α := α) (n := m) (p := fun i x => p x ∧ (f x).length = z ∧ W.cells? base (a.add (i * z)) z = some (f x)) (fun i hi => by
      obtain ⟨cs, h1, h2⟩ := hcell i hi
      obtain ⟨_, hlen, _⟩ := World.cells?_some h1
      obtain ⟨x, e, hx⟩ := hel _ cs _ hlen h2
      exact ⟨x, hx, by rw [← e]; exact hlen, by rw [h1, e]⟩)
    have e : ((List.range n).map F).length = n := by simp
    refine ⟨some a, c, (List.range n).map F, by rw [e]; exact hc, ⟨some a, c, rfl, fun h0 => ?_⟩, fun x hx => ?_, by rw [e]; omega⟩
    · rw [e] at h0
      obtain ⟨-, hl0, h10⟩ := hF 0 (by omega)
      obtain ⟨_, -, h0c⟩ := World.cells?_some h10
      have h2 := h0c 0 hz0
      have h3 : ∃ v, W.cell? ((a.add (0 * z)).add 0) = some v := by
        rw [h2]
        exact ⟨_, List.getElem?_eq_getElem (by omega)⟩
      obtain ⟨v0, h3⟩ := h3
      have h4 := spot_noneV h3
      have hs : a.spot = none := spot_of_addV (show (a.add 0).spot = none from spot_of_addV (by simpa using h4.1))
      rw [add_plainV hs, add_plainV (a := ⟨a.block, a.off + 0 * z, none⟩) rfl] at h4
      refine ⟨a.block, a.off, ?_, h4.2, fun i x hi j v hj => ?_⟩
      · congr 1
        obtain ⟨b, o, s⟩ := a
        simp only at hs
        subst hs
        rfl
      · have hi9 := (List.getElem?_eq_some_iff.1 hi).1
        rw [e] at hi9
        rw [List.getElem?_map, List.getElem?_range hi9] at hi
        simp only [Option.map_some, Option.some.injEq] at hi
        obtain ⟨-, hl1, h1⟩ := hF i (by omega)
        rw [hi] at hl1 h1
        obtain ⟨_, -, h1c⟩ := World.cells?_some h1
        have hjz : j < z := by have := (List.getElem?_eq_some_iff.1 hj).1; omega
        have h6 := h1c j hjz
        rw [add_plainV hs, add_plainV (a := ⟨a.block, a.off + i * z, none⟩) rfl] at h6
        rw [h6, ← hj]
    · obtain ⟨i, hi, rfl⟩ := List.mem_map.1 hx
      exact (hF i (by have := List.mem_range.1 hi; omega)).1
theorem cells35V : Try.prog.cellsOf 35 = 32 := by kernel_rfl
theorem cells198V : Try.prog.cellsOf 198 = 7 := by kernel_rfl
theorem cells114V : Try.prog.cellsOf 114 = 38 := by kernel_rfl
theorem cells116V : Try.prog.cellsOf 116 = 43 := by kernel_rfl
instance : Inhabited (List Int) := ⟨[]⟩
set_option maxRecDepth 100000 in
theorem cell_H {H : Type} {enc : TypeId × Value → H} {W : World} {base : Nat} {spare : Nat → Bool} {held : Bool} {fuel : Nat} {cs : List Value} {y : DataW H × List MemPlace}
    (hf : DataW.trod enc Try.prog W base spare held fuel 111 cs = some y) :
    ∃ (q : Option Addr) (c : Nat) (l : List (List Int)), cs = [.slice q l.length c] ∧ Hs W (.slice q l.length c) l ∧ HsOk l ∧ l.length ≤ maxLen :=
  cell_Rs Try.underlying111 cells35V (by decide) bv (fun X => X.length = 32 ∧ By X) (fun _ _ _ _ h => cell_hash h) hf
set_option maxRecDepth 100000 in
theorem cell_N {H : Type} {enc : TypeId × Value → H} {W : World} {base : Nat} {spare : Nat → Bool} {held : Bool} {fuel : Nat} {cs : List Value} {y : DataW H × List MemPlace}
    (hf : DataW.trod enc Try.prog W base spare held fuel 22 cs = some y) :
    ∃ (q : Option Addr) (c : Nat) (l : List Int), cs = [.slice q l.length c] ∧ Is W (.slice q l.length c) l ∧ (∀ x ∈ l, I64 x) ∧ l.length ≤ maxLen :=
  cell_Rs Try.underlying22 cells3V (by decide) icl I64 (fun _ _ _ _ h => by
    obtain ⟨x, e, -, w⟩ := DataW.trod_int Try.underlying3 h
    exact ⟨x, e, int_lo w, int_hi w⟩) hf
theorem cut_at {α : Type} (l : List α) (a n : Nat) : l.drop a = (l.drop a).take n ++ l.drop (a + n) := by
  rw [← List.drop_drop, List.take_append_drop]
theorem cut_end {α : Type} {l : List α} {a : Nat} (h : l.length = a) : l.drop a = [] := List.drop_eq_nil_of_le (by omega)
set_option maxRecDepth 100000 in
theorem cell_leaf {H : Type} {enc : TypeId × Value → H} {W : World} {base : Nat} {spare : Nat → Bool} {held : Bool} {fuel : Nat} {cs : List Value} {y : DataW H × List MemPlace}
    (hl : cs.length = 7) (h : DataW.trod enc Try.prog W base spare held fuel 198 cs = some y) : ∃ x : Lf, cs = lfc x ∧ LfOk W x ∧ x.p.length ≤ maxLen := by
  obtain ⟨y0, y1, y2, y3, n', t0, t1, t2, t3⟩ := Go.Proofs.Ytpdenhmkpiafiaa.trod_struct4 Try.underlying198 h
  match cs, hl with
  | [c0, c1, c2, c3, c4, c5, c6], _ =>
    have t0' : DataW.trod enc Try.prog W base spare held n' 3 [c0] = some y0 := by rw [← t0]; congr 1
    have t1' : DataW.trod enc Try.prog W base spare held n' 3 [c1] = some y1 := by rw [← t1]; congr 1
    have t2' : DataW.trod enc Try.prog W base spare held n' 31 [c2, c3, c4, c5] = some y2 := by rw [← t2]; congr 1
    have t3' : DataW.trod enc Try.prog W base spare held n' 111 [c6] = some y3 := by rw [← t3]; congr 1
    obtain ⟨x0, e0, -, w0⟩ := DataW.trod_int Try.underlying3 t0'
    obtain ⟨x1, e1, -, w1⟩ := DataW.trod_int Try.underlying3 t1'
    obtain ⟨k2, e2, hk2⟩ := words_V rfl t2'
    obtain ⟨q, c, l, e3, hp, hh, hm⟩ := cell_H t3'
    simp only [List.cons.injEq, and_true] at e0 e1 e3
    refine ⟨⟨x0, x1, k2, q, c, l⟩, ?_, ⟨hp, hh, hk2, ⟨int_lo w0, int_hi w0⟩, ⟨int_lo w1, int_hi w1⟩⟩, hm⟩
    unfold lfc Lf.pv
    simp only
    rw [← e2, e0, e1, e3]
    rfl
set_option maxRecDepth 100000 in
theorem cell_Ls {H : Type} {enc : TypeId × Value → H} {W : World} {base : Nat} {spare : Nat → Bool} {held : Bool} {fuel : Nat} {cs : List Value} {y : DataW H × List MemPlace}
    (hf : DataW.trod enc Try.prog W base spare held fuel 112 cs = some y) :
    ∃ (q : Option Addr) (c : Nat) (l : List Lf), cs = [.slice q l.length c] ∧ Ls W (.slice q l.length c) l ∧ (∀ x ∈ l, x.p.length ≤ maxLen) ∧ l.length ≤ maxLen := by
  obtain ⟨q, c, l, h1, h2, h3, h4⟩ := cell_Rs Try.underlying112 cells198V (by decide) lfc (fun x => LfOk W x ∧ x.p.length ≤ maxLen) (fun _ _ _ hl h => cell_leaf hl h) hf
  exact ⟨q, c, l, h1, ⟨h2, fun x hx => (h3 x hx).1⟩, fun x hx => (h3 x hx).2, h4⟩
structure CmLen (c : Cm) : Prop where
  p : c.p.length ≤ maxLen
  l : c.l.length ≤ maxLen
  q : ∀ x ∈ c.l, x.p.length ≤ maxLen
set_option maxRecDepth 100000 in
theorem cell_claim {H : Type} {enc : TypeId × Value → H} {W : World} {base : Nat} {spare : Nat → Bool} {held : Bool} {fuel : Nat} {cs : List Value} {y : DataW H × List MemPlace}
    (h : DataW.trod enc Try.prog W base spare held fuel 114 cs = some y) : ∃ c : Cm, cs = c.cs ∧ CmOk W c ∧ CmLen c := by
  obtain ⟨xs, n, -, -, hl, hxl, hf⟩ := DataW.trod_struct Try.underlying114 h
  rw [cells114V] at hl
  have hx7 : xs.length = 7 := hxl
  have g : ∀ i, i < 7 → ∃ y, xs[i]? = some y := fun i hi => ⟨_, List.getElem?_eq_getElem (by omega)⟩
  obtain ⟨y0, g0⟩ := g 0 (by decide)
  obtain ⟨y1, g1⟩ := g 1 (by decide)
  obtain ⟨y2, g2⟩ := g 2 (by decide)
  obtain ⟨y3, g3⟩ := g 3 (by decide)
  obtain ⟨y4, g4⟩ := g 4 (by decide)
  obtain ⟨y5, g5⟩ := g 5 (by decide)
  obtain ⟨y6, g6⟩ := g 6 (by decide)
  have t0 : DataW.trod enc Try.prog W base spare held n 3 ((cs.drop 0).take 1) = some y0 := (hf 0 _ rfl).trans g0
  have t1 : DataW.trod enc Try.prog W base spare held n 3 ((cs.drop 1).take 1) = some y1 := (hf 1 _ rfl).trans g1
  have t2 : DataW.trod enc Try.prog W base spare held n 3 ((cs.drop 2).take 1) = some y2 := (hf 2 _ rfl).trans g2
  have t3 : DataW.trod enc Try.prog W base spare held n 35 ((cs.drop 3).take 32) = some y3 := (hf 3 _ rfl).trans g3
  have t4 : DataW.trod enc Try.prog W base spare held n 111 ((cs.drop 35).take 1) = some y4 := (hf 4 _ rfl).trans g4
  have t5 : DataW.trod enc Try.prog W base spare held n 112 ((cs.drop 36).take 1) = some y5 := (hf 5 _ rfl).trans g5
  have t6 : DataW.trod enc Try.prog W base spare held n 3 ((cs.drop 37).take 1) = some y6 := (hf 6 _ rfl).trans g6
  obtain ⟨x0, e0, -, w0⟩ := DataW.trod_int Try.underlying3 t0
  obtain ⟨x1, e1, -, w1⟩ := DataW.trod_int Try.underlying3 t1
  obtain ⟨x2, e2, -, w2⟩ := DataW.trod_int Try.underlying3 t2
  obtain ⟨X, e3, hX, hby⟩ := cell_hash t3
  obtain ⟨pq, pc, p, e4, hp, hh, hpm⟩ := cell_H t4
  obtain ⟨lq, lc, l, e5, hls, hlq, hlm⟩ := cell_Ls t5
  obtain ⟨x6, e6, -, w6⟩ := DataW.trod_int Try.underlying3 t6
  refine ⟨⟨x0, x1, x2, X, pq, pc, p, lq, lc, l, x6⟩, ?_, ⟨hX, hby, hp, hh, hls, ⟨int_lo w0, int_hi w0⟩, ⟨int_lo w1, int_hi w1⟩, ⟨int_lo w2, int_hi w2⟩, ⟨int_lo w6, int_hi w6⟩⟩, ⟨hpm, hlm, hlq⟩⟩
  have e : cs = cs.drop 0 := rfl
  rw [e, cut_at cs 0 1, cut_at cs 1 1, cut_at cs 2 1, cut_at cs 3 32, cut_at cs 35 1, cut_at cs 36 1, cut_at cs 37 1, cut_end hl, e0, e1, e2, e3, e4, e5, e6]
  rfl
structure TxLen (t : Txv) : Prop where
  n : t.n.length ≤ maxLen
  a : t.a.length ≤ maxLen
  h : t.h.length ≤ maxLen
  c : CmLen t.c
set_option maxRecDepth 100000 in
theorem open_Tx {H : Type} {enc : TypeId × Value → H} {W : World} {base b0 : Nat} {r : Reach} {spare : Nat → Bool} {held : Bool} {v : Value} {d : DataW H} {p : List MemPlace}
    (hval : Value.okWide Try.prog W r b0 116 v) (h : DataW.Trod enc Try.prog W base spare held 116 v d p) : ∃ t : Txv, v = .agg t.cs.toArray ∧ TxOk W t ∧ TxLen t := by
  obtain ⟨ca, rfl, hsz⟩ := okWide_struct Try.underlying116 hval
  obtain ⟨fuel, hf0⟩ := h
  obtain ⟨cs, hcs⟩ : ∃ cs, ca.toList = cs := ⟨_, rfl⟩
  have hf1 : DataW.trod enc Try.prog W base spare held fuel 116 cs = some (d, p) := by rw [← hcs]; exact hf0
  obtain ⟨xs, n, -, -, hl, hxl, hf⟩ := DataW.trod_struct Try.underlying116 hf1
  rw [cells116V] at hl
  have hx6 : xs.length = 6 := hxl
  have g : ∀ i, i < 6 → ∃ y, xs[i]? = some y := fun i hi => ⟨_, List.getElem?_eq_getElem (by omega)⟩
  obtain ⟨y0, g0⟩ := g 0 (by decide)
  obtain ⟨y1, g1⟩ := g 1 (by decide)
  obtain ⟨y2, g2⟩ := g 2 (by decide)
  obtain ⟨y3, g3⟩ := g 3 (by decide)
  obtain ⟨y4, g4⟩ := g 4 (by decide)
  obtain ⟨y5, g5⟩ := g 5 (by decide)
  have t0 : DataW.trod enc Try.prog W base spare held n 3 ((cs.drop 0).take 1) = some y0 := (hf 0 _ rfl).trans g0
  have t1 : DataW.trod enc Try.prog W base spare held n 3 ((cs.drop 1).take 1) = some y1 := (hf 1 _ rfl).trans g1
  have t2 : DataW.trod enc Try.prog W base spare held n 22 ((cs.drop 2).take 1) = some y2 := (hf 2 _ rfl).trans g2
  have t3 : DataW.trod enc Try.prog W base spare held n 23 ((cs.drop 3).take 1) = some y3 := (hf 3 _ rfl).trans g3
  have t4 : DataW.trod enc Try.prog W base spare held n 111 ((cs.drop 4).take 1) = some y4 := (hf 4 _ rfl).trans g4
  have t5 : DataW.trod enc Try.prog W base spare held n 114 ((cs.drop 5).take 38) = some y5 := (hf 5 _ rfl).trans g5
  obtain ⟨x0, e0, -, w0⟩ := DataW.trod_int Try.underlying3 t0
  obtain ⟨x1, e1, -, w1⟩ := DataW.trod_int Try.underlying3 t1
  obtain ⟨nq, nc, nl, e2, hn, hnb, hnm⟩ := cell_N t2
  obtain ⟨aq, ac, al, e3, ha, hab, -⟩ := cell_U t3
  have ham : al.length ≤ maxLen := by
    rcases Go.Deep.open_slice Try.underlying23 t3 with ⟨hc, -⟩ | ⟨a, m, c, -, -, -, -, hc, -, hle, hmax, -⟩
    · rw [e3] at hc; simp only [List.cons.injEq, Value.slice.injEq, and_true] at hc; rw [hc.2.1]; exact Nat.zero_le _
    · rw [e3] at hc; simp only [List.cons.injEq, Value.slice.injEq, and_true] at hc; rw [hc.2.1]; omega
  obtain ⟨hq, hc', hl', e4, hh, hhb, hhm⟩ := cell_H t4
  obtain ⟨c, e5, hc, hcl⟩ := cell_claim t5
  refine ⟨⟨x0, x1, nq, nc, nl, aq, ac, al, hq, hc', hl', c⟩, ?_, ⟨⟨int_lo w0, int_hi w0⟩, ⟨int_lo w1, int_hi w1⟩, hn, hnb, ha, hab, hh, hhb, hc⟩, ⟨hnm, ham, hhm, hcl⟩⟩
  have e : cs = cs.drop 0 := rfl
  have e9 : cs = (⟨x0, x1, nq, nc, nl, aq, ac, al, hq, hc', hl', c⟩ : Txv).cs := by
    rw [e, cut_at cs 0 1, cut_at cs 1 1, cut_at cs 2 1, cut_at cs 3 1, cut_at cs 4 1, cut_at cs 5 38, cut_end hl, e0, e1, e2, e3, e4, e5, List.append_nil]
    rfl
  rw [← e9, ← hcs]
end Go.Proofs.Ytpdenhmkpiafiaa
namespace Go.Proofs.Ytpdenhmkpiafiaa
open Go Go.RowKit K6
set_option maxRecDepth 100000 in
set_option maxHeartbeats 64000000 in
theorem txsame_at (t u : Txv) (w : World) (ht : TxOk w t) (hu : TxOk w u) (hl : LightT t) :
    Calls Try.prog 140 #[.agg t.cs.toArray, .agg u.cs.toArray] w fun r w' => r = .returned (.bool (decide (t.key = u.key))) ∧ Below w.heap.size w w' := by
  have kI := fun wx (hb : Below w.heap.size w wx) => isEq_at t.nv u.nv t.n u.n wx (ht.n.below hb) (hu.n.below hb) (by have := hl.n; omega)
  have kU := fun wx (hb : Below w.heap.size w wx) => usEq_at t.av u.av t.a u.a wx (ht.a.below hb) (hu.a.below hb) ht.ab hu.ab (by have := hl.a; omega)
  have kH := fun wx (hb : Below w.heap.size w wx) => hsEq_at t.hv u.hv t.h u.h wx (ht.h.below hb) (hu.h.below hb) (fun y hy => (ht.hb y hy).1) (fun y hy => (hu.hb y hy).1) (by have := hl.h; omega)
  have kC := fun wx (hb : Below w.heap.size w wx) => sameClaim_at t.c u.c wx (ht.c.below hb) (hu.c.below hb) (by have := hl.p; omega) (by have := hl.l; omega) (fun e he => by have := hl.q e he; omega)
  unfold Txv.nv at kI
  unfold Txv.av at kU
  unfold Txv.hv at kH
  obtain ⟨bI, hI⟩ : ∃ b, decide (t.n = u.n) = b := ⟨_, rfl⟩
  obtain ⟨bU, hU⟩ : ∃ b, decide (t.a = u.a) = b := ⟨_, rfl⟩
  obtain ⟨bH, hH⟩ : ∃ b, decide (t.h = u.h) = b := ⟨_, rfl⟩
  obtain ⟨bC, hC⟩ : ∃ b, decide (t.c.key = u.c.key) = b := ⟨_, rfl⟩
  rw [hI] at kI
  rw [hU] at kU
  rw [hH] at kH
  rw [hC] at kC
  obtain ⟨b, hb⟩ : ∃ b, decide (t.key = u.key) = b := ⟨_, rfl⟩
  rw [hb]
  have HB := Lib.hid (show ((t.k ≠ u.k ∨ t.f ≠ u.f ∨ bI = false ∨ bU = false ∨ bH = false) → b = false) ∧ (t.k = u.k → t.f = u.f → bI = true → bU = true → bH = true → bC = b) from by
    subst hb hI hU hH hC
    constructor
    · intro h
      refine decide_eq_false fun he => ?_
      unfold Txv.key at he
      simp only [Prod.mk.injEq] at he
      obtain ⟨e1, e2, e3, e4, e5, -⟩ := he
      rcases h with h | h | h | h | h
      · exact h e1
      · exact h e2
      · rw [decide_eq_true e3] at h; cases h
      · rw [decide_eq_true e4] at h; cases h
      · rw [decide_eq_true e5] at h; cases h
    · intro e1 e2 e3 e4 e5
      rw [Bool.eq_iff_iff, decide_eq_true_eq, decide_eq_true_eq]
      unfold Txv.key
      simp only [Prod.mk.injEq]
      exact ⟨fun h => ⟨e1, e2, of_decide_eq_true e3, of_decide_eq_true e4, of_decide_eq_true e5, h⟩, fun h => h.2.2.2.2.2⟩)
  clear hb hI hU hH hC
  have x0 := tA0 t
  have x1 := tA1 t
  have x2 := tA2 t
  have x3 := tA3 t
  have x4 := tA4 t
  have xm := Txv.c_ t
  have xs : t.c.cs.toArray.size = 38 := by rw [List.size_toArray]; exact Cm.len ht.c.tok
  have y0 := tA0 u
  have y1 := tA1 u
  have y2 := tA2 u
  have y3 := tA3 u
  have y4 := tA4 u
  have ym := Txv.c_ u
  have ys : u.c.cs.toArray.size = 38 := by rw [List.size_toArray]; exact Cm.len hu.c.tok
  obtain ⟨nq1, hnq1⟩ : ∃ q, t.nq = q := ⟨_, rfl⟩
  obtain ⟨nc1, hnc1⟩ : ∃ q, t.nc = q := ⟨_, rfl⟩
  obtain ⟨aq1, haq1⟩ : ∃ q, t.aq = q := ⟨_, rfl⟩
  obtain ⟨ac1, hac1⟩ : ∃ q, t.ac = q := ⟨_, rfl⟩
  obtain ⟨hq1, hhq1⟩ : ∃ q, t.hq = q := ⟨_, rfl⟩
  obtain ⟨hc1, hhc1⟩ : ∃ q, t.hc = q := ⟨_, rfl⟩
  obtain ⟨ln1, hln1⟩ : ∃ q, t.n.length = q := ⟨_, rfl⟩
  obtain ⟨la1, hla1⟩ : ∃ q, t.a.length = q := ⟨_, rfl⟩
  obtain ⟨lh1, hlh1⟩ : ∃ q, t.h.length = q := ⟨_, rfl⟩
  obtain ⟨nq2, hnq2⟩ : ∃ q, u.nq = q := ⟨_, rfl⟩
  obtain ⟨nc2, hnc2⟩ : ∃ q, u.nc = q := ⟨_, rfl⟩
  obtain ⟨aq2, haq2⟩ : ∃ q, u.aq = q := ⟨_, rfl⟩
  obtain ⟨ac2, hac2⟩ : ∃ q, u.ac = q := ⟨_, rfl⟩
  obtain ⟨hq2, hhq2⟩ : ∃ q, u.hq = q := ⟨_, rfl⟩
  obtain ⟨hc2, hhc2⟩ : ∃ q, u.hc = q := ⟨_, rfl⟩
  obtain ⟨ln2, hln2⟩ : ∃ q, u.n.length = q := ⟨_, rfl⟩
  obtain ⟨la2, hla2⟩ : ∃ q, u.a.length = q := ⟨_, rfl⟩
  obtain ⟨lh2, hlh2⟩ : ∃ q, u.h.length = q := ⟨_, rfl⟩
  rw [hln1, hnq1, hnc1] at x2
  rw [hla1, haq1, hac1] at x3
  rw [hlh1, hhq1, hhc1] at x4
  rw [hln2, hnq2, hnc2] at y2
  rw [hla2, haq2, hac2] at y3
  rw [hlh2, hhq2, hhc2] at y4
  rw [hln1, hnq1, hnc1, hln2, hnq2, hnc2] at kI
  rw [hla1, haq1, hac1, hla2, haq2, hac2] at kU
  rw [hlh1, hhq1, hhc1, hlh2, hhq2, hhc2] at kH
  obtain ⟨ct, hct⟩ : ∃ c, t.cs.toArray = c := ⟨_, rfl⟩
  obtain ⟨cu, hcu⟩ : ∃ c, u.cs.toArray = c := ⟨_, rfl⟩
  obtain ⟨dt, hdt⟩ : ∃ c, t.c.cs.toArray = c := ⟨_, rfl⟩
  obtain ⟨du, hdu⟩ : ∃ c, u.c.cs.toArray = c := ⟨_, rfl⟩
  rw [hct] at x0 x1 x2 x3 x4 xm ⊢
  rw [hcu] at y0 y1 y2 y3 y4 ym ⊢
  rw [hdt] at xm xs kC
  rw [hdu] at ym ys kC
  obtain ⟨tk, htk⟩ : ∃ c, t.k = c := ⟨_, rfl⟩
  obtain ⟨uk, huk⟩ : ∃ c, u.k = c := ⟨_, rfl⟩
  obtain ⟨tf, htf⟩ : ∃ c, t.f = c := ⟨_, rfl⟩
  obtain ⟨uf, huf⟩ : ∃ c, u.f = c := ⟨_, rfl⟩
  rw [htk] at x0 HB
  rw [huk] at y0 HB
  rw [htf] at x1 HB
  rw [huf] at y1 HB
  replace kI := Lib.hid kI
  replace kU := Lib.hid kU
  replace kH := Lib.hid kH
  replace kC := Lib.hid kC
  clear hnq1 hnc1 haq1 hac1 hhq1 hhc1 hln1 hla1 hlh1 hnq2 hnc2 haq2 hac2 hhq2 hhc2 hln2 hla2 hlh2 hct hcu hdt hdu htk huk htf huf ht hu hl
  go_enter Try.func140, Try.ntmps140
  go_upto_region 1 with (fail)
  refine wp_abs (Mem w [(w.heap.size, 116, ct), (w.heap.size + 1, 116, cu)]) ⟨by go_grown, by (repeat (first | (refine Row.new_at ?_; simp; done) | refine Row.alloc ?_ _)), by (repeat (first | (refine Row.new_at ?_; simp; done) | refine Row.alloc ?_ _)), trivial⟩ ?_
  intro w0 hM
  obtain ⟨hl, r2, r3, -⟩ := hM
  by_cases e0 : tk = uk
  case neg =>
    have h0 : (tk == uk) = false := by rw [beq_eq_false_iff_ne]; exact e0
    have hbb := HB.out.1 (.inl e0)
    subst hbb
    clear e0 HB kI kU kH kC
    let L : List Sp := []
    refine wp_region_six0 (shs L) (look6 L) (None_) (by kernel_rfl) (by kernel_rfl) (mk_St L [] [] (by kernel_rfl) (by kernel_rfl) trivial (by simp)) ?_
    intro QQ hQ
    refine stepK rfl (by kernel_rfl) (fun K hK => ?_); go_simp
    apply Exists.intro; apply And.intro; (focus (intro wk hk; go_simp; exact ⟨rfl, rfl⟩)); refine hK _ _ ?_; clear hK K
    refine stepK rfl (by kernel_rfl) (fun K hK => ?_); go_simp
    apply Exists.intro; apply And.intro; (focus (intro wk hk; have cc : wk.cell? ⟨w.heap.size, 0, none⟩ = some (.int .i64 tk) := ((K6.Row.tr r2 hk id).cell 0).trans x0; go_simp; exact ⟨rfl, rfl⟩)); refine hK _ _ ?_; clear hK K
    refine stepK rfl (by kernel_rfl) (fun K hK => ?_); go_simp
    apply Exists.intro; apply And.intro; (focus (intro wk hk; go_simp; exact ⟨rfl, rfl⟩)); refine hK _ _ ?_; clear hK K
    refine stepK rfl (by kernel_rfl) (fun K hK => ?_); go_simp
    apply Exists.intro; apply And.intro; (focus (intro wk hk; have cc : wk.cell? ⟨w.heap.size + 1, 0, none⟩ = some (.int .i64 uk) := ((K6.Row.tr r3 hk id).cell 0).trans y0; go_simp; exact ⟨rfl, rfl⟩)); refine hK _ _ ?_; clear hK K
    refine stepK rfl (by kernel_rfl) (fun K hK => ?_); go_simp
    apply Exists.intro; apply And.intro; (focus (intro wk hk; go_simp; exact ⟨rfl, rfl⟩)); refine hK _ _ ?_; clear hK K
    refine stepK rfl (by kernel_rfl) (fun K hK => ?_); go_simp
    apply Exists.intro; apply And.intro; (focus (intro wk hk; go_simp; exact ⟨rfl, rfl⟩)); refine hK _ _ ?_; clear hK K
    refine stepK rfl (by kernel_rfl) (fun K hK => ?_); go_simp
    first | (refine hK _ _ ?_; clear hK K) | (apply Exists.intro; apply And.intro; (focus (intro wk hk; go_simp; exact ⟨rfl, rfl⟩)); refine hK _ _ ?_; clear hK K)
    refine stepK rfl (by kernel_rfl) (fun K hK => ?_); go_simp
    first | (refine hK _ _ ?_; clear hK K) | (apply Exists.intro; apply And.intro; (focus (intro wk hk; go_simp; exact ⟨rfl, rfl⟩)); refine hK _ _ ?_; clear hK K)
    refine stepK rfl (by kernel_rfl) (fun K hK => ?_); go_simp
    first | (refine hK _ _ ?_; clear hK K) | (apply Exists.intro; apply And.intro; (focus (intro wk hk; go_simp; exact ⟨rfl, rfl⟩)); refine hK _ _ ?_; clear hK K)
    refine stepK rfl (by kernel_rfl) (fun K hK => ?_); go_simp
    first | (refine hK _ _ ?_; clear hK K) | (apply Exists.intro; apply And.intro; (focus (intro wk hk; go_simp; exact ⟨rfl, rfl⟩)); refine hK _ _ ?_; clear hK K)
    refine stepK rfl (by kernel_rfl) (fun K hK => ?_); go_simp
    first | (refine hK _ _ ?_; clear hK K) | (apply Exists.intro; apply And.intro; (focus (intro wk hk; go_simp; exact ⟨rfl, rfl⟩)); refine hK _ _ ?_; clear hK K)
    refine stepK rfl (by kernel_rfl) (fun K hK => ?_); go_simp
    apply Exists.intro; apply And.intro; (focus (intro wk hk; go_simp; exact ⟨rfl, rfl⟩)); refine hK _ _ ?_; clear hK K
    refine stepK rfl (by kernel_rfl) (fun K hK => ?_); go_simp
    apply Exists.intro; apply And.intro; (focus (intro wk hk; go_simp; exact ⟨rfl, rfl⟩)); refine hK _ _ ?_; clear hK K
    refine stepK rfl (by kernel_rfl) (fun K hK => ?_); go_simp
    first | (refine hK _ _ ?_; clear hK K) | (apply Exists.intro; apply And.intro; (focus (intro wk hk; go_simp; exact ⟨rfl, rfl⟩)); refine hK _ _ ?_; clear hK K)
    refine stepK rfl (by kernel_rfl) (fun K hK => ?_); go_simp
    first | (refine hK _ _ ?_; clear hK K) | (apply Exists.intro; apply And.intro; (focus (intro wk hk; go_simp; exact ⟨rfl, rfl⟩)); refine hK _ _ ?_; clear hK K)
    refine stepK rfl (by kernel_rfl) (fun K hK => ?_); go_simp
    first | (refine hK _ _ ?_; clear hK K) | (apply Exists.intro; apply And.intro; (focus (intro wk hk; go_simp; exact ⟨rfl, rfl⟩)); refine hK _ _ ?_; clear hK K)
    refine stepK rfl (by kernel_rfl) (fun K hK => ?_); go_simp
    first | (refine hK _ _ ?_; clear hK K) | (apply Exists.intro; apply And.intro; (focus (intro wk hk; go_simp; exact ⟨rfl, rfl⟩)); refine hK _ _ ?_; clear hK K)
    refine stepK rfl (by kernel_rfl) (fun K hK => ?_); go_simp
    first | (refine hK _ _ ?_; clear hK K) | (apply Exists.intro; apply And.intro; (focus (intro wk hk; go_simp; exact ⟨rfl, rfl⟩)); refine hK _ _ ?_; clear hK K)
    refine stepK rfl (by kernel_rfl) (fun K hK => ?_); go_simp
    apply Exists.intro; apply And.intro; (focus (intro wk hk; go_simp; exact ⟨rfl, rfl⟩)); refine hK _ _ ?_; clear hK K
    refine stepK rfl (by kernel_rfl) (fun K hK => ?_); go_simp
    apply Exists.intro; apply And.intro; (focus (intro wk hk; go_simp; exact ⟨rfl, rfl⟩)); refine hK _ _ ?_; clear hK K
    refine stepK rfl (by kernel_rfl) (fun K hK => ?_); go_simp
    first | (refine hK _ _ ?_; clear hK K) | (apply Exists.intro; apply And.intro; (focus (intro wk hk; go_simp; exact ⟨rfl, rfl⟩)); refine hK _ _ ?_; clear hK K)
    refine stepK rfl (by kernel_rfl) (fun K hK => ?_); go_simp
    first | (refine hK _ _ ?_; clear hK K) | (apply Exists.intro; apply And.intro; (focus (intro wk hk; go_simp; exact ⟨rfl, rfl⟩)); refine hK _ _ ?_; clear hK K)
    refine stepK rfl (by kernel_rfl) (fun K hK => ?_); go_simp
    first | (refine hK _ _ ?_; clear hK K) | (apply Exists.intro; apply And.intro; (focus (intro wk hk; go_simp; exact ⟨rfl, rfl⟩)); refine hK _ _ ?_; clear hK K)
    refine stepK rfl (by kernel_rfl) (fun K hK => ?_); go_simp
    first | (refine hK _ _ ?_; clear hK K) | (apply Exists.intro; apply And.intro; (focus (intro wk hk; go_simp; exact ⟨rfl, rfl⟩)); refine hK _ _ ?_; clear hK K)
    refine stepK rfl (by kernel_rfl) (fun K hK => ?_); go_simp
    first | (refine hK _ _ ?_; clear hK K) | (apply Exists.intro; apply And.intro; (focus (intro wk hk; go_simp; exact ⟨rfl, rfl⟩)); refine hK _ _ ?_; clear hK K)
    refine stepK rfl (by kernel_rfl) (fun K hK => ?_); go_simp
    apply Exists.intro; apply And.intro; (focus (intro wk hk; go_simp; exact ⟨rfl, rfl⟩)); refine hK _ _ ?_; clear hK K
    refine stepK rfl (by kernel_rfl) (fun K hK => ?_); go_simp
    apply Exists.intro; apply And.intro; (focus (intro wk hk; go_simp; exact ⟨rfl, rfl⟩)); refine hK _ _ ?_; clear hK K
    refine stepK rfl (by kernel_rfl) (fun K hK => ?_); go_simp
    first | (refine hK _ _ ?_; clear hK K) | (apply Exists.intro; apply And.intro; (focus (intro wk hk; go_simp; exact ⟨rfl, rfl⟩)); refine hK _ _ ?_; clear hK K)
    refine stepK rfl (by kernel_rfl) (fun K hK => ?_); go_simp
    first | (refine hK _ _ ?_; clear hK K) | (apply Exists.intro; apply And.intro; (focus (intro wk hk; go_simp; exact ⟨rfl, rfl⟩)); refine hK _ _ ?_; clear hK K)
    refine stepK rfl (by kernel_rfl) (fun K hK => ?_); go_simp
    first | (refine hK _ _ ?_; clear hK K) | (apply Exists.intro; apply And.intro; (focus (intro wk hk; go_simp; exact ⟨rfl, rfl⟩)); refine hK _ _ ?_; clear hK K)
    refine stepK rfl (by kernel_rfl) (fun K hK => ?_); go_simp
    first | (refine hK _ _ ?_; clear hK K) | (apply Exists.intro; apply And.intro; (focus (intro wk hk; go_simp; exact ⟨rfl, rfl⟩)); refine hK _ _ ?_; clear hK K)
    refine stepK rfl (by kernel_rfl) (fun K hK => ?_); go_simp
    first | (refine hK _ _ ?_; clear hK K) | (apply Exists.intro; apply And.intro; (focus (intro wk hk; go_simp; exact ⟨rfl, rfl⟩)); refine hK _ _ ?_; clear hK K)
    refine stepK rfl (by kernel_rfl) (fun K hK => ?_); go_simp
    apply Exists.intro; apply And.intro; (focus (intro wk hk; go_simp; exact ⟨rfl, rfl⟩)); refine hK _ _ ?_; clear hK K
    refine stepK rfl (by kernel_rfl) (fun K hK => ?_); go_simp
    apply Exists.intro; apply And.intro; (focus (intro wk hk; go_simp; exact ⟨rfl, rfl⟩)); refine hK _ _ ?_; clear hK K
    refine stepK rfl (by kernel_rfl) (fun K hK => ?_); go_simp
    first | (refine hK _ _ ?_; clear hK K) | (apply Exists.intro; apply And.intro; (focus (intro wk hk; go_simp; exact ⟨rfl, rfl⟩)); refine hK _ _ ?_; clear hK K)
    refine stepK rfl (by kernel_rfl) (fun K hK => ?_); go_simp
    first | (refine hK _ _ ?_; clear hK K) | (apply Exists.intro; apply And.intro; (focus (intro wk hk; go_simp; exact ⟨rfl, rfl⟩)); refine hK _ _ ?_; clear hK K)
    refine stepK rfl (by kernel_rfl) (fun K hK => ?_); go_simp
    first | (refine hK _ _ ?_; clear hK K) | (apply Exists.intro; apply And.intro; (focus (intro wk hk; go_simp; exact ⟨rfl, rfl⟩)); refine hK _ _ ?_; clear hK K)
    refine stepK rfl (by kernel_rfl) (fun K hK => ?_); go_simp
    first | (refine hK _ _ ?_; clear hK K) | (apply Exists.intro; apply And.intro; (focus (intro wk hk; go_simp; exact ⟨rfl, rfl⟩)); refine hK _ _ ?_; clear hK K)
    refine stepK rfl (by kernel_rfl) (fun K hK => ?_); go_simp
    first | (refine hK _ _ ?_; clear hK K) | (apply Exists.intro; apply And.intro; (focus (intro wk hk; go_simp; exact ⟨rfl, rfl⟩)); refine hK _ _ ?_; clear hK K)
    refine stepK rfl (by kernel_rfl) (fun K hK => ?_); go_simp
    apply Exists.intro; apply And.intro; (focus (intro wk hk; go_simp; exact ⟨rfl, rfl⟩)); refine hK _ _ ?_; clear hK K
    refine stepK rfl (by kernel_rfl) (fun K hK => ?_); go_simp
    apply Exists.intro; apply And.intro; (focus (intro wk hk; go_simp; exact ⟨rfl, rfl⟩)); refine hK _ _ ?_; clear hK K
    refine stepN ?_
    refine hQ _ _ ?_
    intro w9 hT hG hF
    have H9 := Lib.hid (hl.trans (hT.below.mono hl.size))
    clear hT hG hF hQ QQ L hl r2 r3
    go_wp2_with fail
    go_ret
    exact ⟨rfl, H9.out⟩
  have h0 : (tk == uk) = true := by rw [beq_iff_eq]; exact e0
  by_cases e1 : tf = uf
  case neg =>
    have h1 : (tf == uf) = false := by rw [beq_eq_false_iff_ne]; exact e1
    have hbb := HB.out.1 (.inr (.inl e1))
    subst hbb
    clear e0 e1 HB kI kU kH kC
    let L : List Sp := []
    refine wp_region_six0 (shs L) (look6 L) (None_) (by kernel_rfl) (by kernel_rfl) (mk_St L [] [] (by kernel_rfl) (by kernel_rfl) trivial (by simp)) ?_
    intro QQ hQ
    refine stepK rfl (by kernel_rfl) (fun K hK => ?_); go_simp
    apply Exists.intro; apply And.intro; (focus (intro wk hk; go_simp; exact ⟨rfl, rfl⟩)); refine hK _ _ ?_; clear hK K
    refine stepK rfl (by kernel_rfl) (fun K hK => ?_); go_simp
    apply Exists.intro; apply And.intro; (focus (intro wk hk; have cc : wk.cell? ⟨w.heap.size, 0, none⟩ = some (.int .i64 tk) := ((K6.Row.tr r2 hk id).cell 0).trans x0; go_simp; exact ⟨rfl, rfl⟩)); refine hK _ _ ?_; clear hK K
    refine stepK rfl (by kernel_rfl) (fun K hK => ?_); go_simp
    apply Exists.intro; apply And.intro; (focus (intro wk hk; go_simp; exact ⟨rfl, rfl⟩)); refine hK _ _ ?_; clear hK K
    refine stepK rfl (by kernel_rfl) (fun K hK => ?_); go_simp
    apply Exists.intro; apply And.intro; (focus (intro wk hk; have cc : wk.cell? ⟨w.heap.size + 1, 0, none⟩ = some (.int .i64 uk) := ((K6.Row.tr r3 hk id).cell 0).trans y0; go_simp; exact ⟨rfl, rfl⟩)); refine hK _ _ ?_; clear hK K
    refine stepK rfl (by kernel_rfl) (fun K hK => ?_); go_simp
    apply Exists.intro; apply And.intro; (focus (intro wk hk; go_simp; exact ⟨rfl, rfl⟩)); refine hK _ _ ?_; clear hK K
    refine stepK rfl (by kernel_rfl) (fun K hK => ?_); go_simp
    apply Exists.intro; apply And.intro; (focus (intro wk hk; go_simp; exact ⟨rfl, rfl⟩)); refine hK _ _ ?_; clear hK K
    refine stepK rfl (by kernel_rfl) (fun K hK => ?_); go_simp
    first | (refine hK _ _ ?_; clear hK K) | (apply Exists.intro; apply And.intro; (focus (intro wk hk; go_simp; exact ⟨rfl, rfl⟩)); refine hK _ _ ?_; clear hK K)
    refine stepK rfl (by kernel_rfl) (fun K hK => ?_); go_simp
    first | (refine hK _ _ ?_; clear hK K) | (apply Exists.intro; apply And.intro; (focus (intro wk hk; have cc : wk.cell? ⟨w.heap.size, 1, none⟩ = some (.int .i64 tf) := ((K6.Row.tr r2 hk id).cell 1).trans x1; go_simp; exact ⟨rfl, rfl⟩)); refine hK _ _ ?_; clear hK K)
    refine stepK rfl (by kernel_rfl) (fun K hK => ?_); go_simp
    first | (refine hK _ _ ?_; clear hK K) | (apply Exists.intro; apply And.intro; (focus (intro wk hk; go_simp; exact ⟨rfl, rfl⟩)); refine hK _ _ ?_; clear hK K)
    refine stepK rfl (by kernel_rfl) (fun K hK => ?_); go_simp
    first | (refine hK _ _ ?_; clear hK K) | (apply Exists.intro; apply And.intro; (focus (intro wk hk; have cc : wk.cell? ⟨w.heap.size + 1, 1, none⟩ = some (.int .i64 uf) := ((K6.Row.tr r3 hk id).cell 1).trans y1; go_simp; exact ⟨rfl, rfl⟩)); refine hK _ _ ?_; clear hK K)
    refine stepK rfl (by kernel_rfl) (fun K hK => ?_); go_simp
    first | (refine hK _ _ ?_; clear hK K) | (apply Exists.intro; apply And.intro; (focus (intro wk hk; go_simp; exact ⟨rfl, rfl⟩)); refine hK _ _ ?_; clear hK K)
    refine stepK rfl (by kernel_rfl) (fun K hK => ?_); go_simp
    apply Exists.intro; apply And.intro; (focus (intro wk hk; go_simp; exact ⟨rfl, rfl⟩)); refine hK _ _ ?_; clear hK K
    refine stepK rfl (by kernel_rfl) (fun K hK => ?_); go_simp
    apply Exists.intro; apply And.intro; (focus (intro wk hk; go_simp; exact ⟨rfl, rfl⟩)); refine hK _ _ ?_; clear hK K
    refine stepK rfl (by kernel_rfl) (fun K hK => ?_); go_simp
    first | (refine hK _ _ ?_; clear hK K) | (apply Exists.intro; apply And.intro; (focus (intro wk hk; go_simp; exact ⟨rfl, rfl⟩)); refine hK _ _ ?_; clear hK K)
    refine stepK rfl (by kernel_rfl) (fun K hK => ?_); go_simp
    first | (refine hK _ _ ?_; clear hK K) | (apply Exists.intro; apply And.intro; (focus (intro wk hk; go_simp; exact ⟨rfl, rfl⟩)); refine hK _ _ ?_; clear hK K)
    refine stepK rfl (by kernel_rfl) (fun K hK => ?_); go_simp
    first | (refine hK _ _ ?_; clear hK K) | (apply Exists.intro; apply And.intro; (focus (intro wk hk; go_simp; exact ⟨rfl, rfl⟩)); refine hK _ _ ?_; clear hK K)
    refine stepK rfl (by kernel_rfl) (fun K hK => ?_); go_simp
    first | (refine hK _ _ ?_; clear hK K) | (apply Exists.intro; apply And.intro; (focus (intro wk hk; go_simp; exact ⟨rfl, rfl⟩)); refine hK _ _ ?_; clear hK K)
    refine stepK rfl (by kernel_rfl) (fun K hK => ?_); go_simp
    first | (refine hK _ _ ?_; clear hK K) | (apply Exists.intro; apply And.intro; (focus (intro wk hk; go_simp; exact ⟨rfl, rfl⟩)); refine hK _ _ ?_; clear hK K)
    refine stepK rfl (by kernel_rfl) (fun K hK => ?_); go_simp
    apply Exists.intro; apply And.intro; (focus (intro wk hk; go_simp; exact ⟨rfl, rfl⟩)); refine hK _ _ ?_; clear hK K
    refine stepK rfl (by kernel_rfl) (fun K hK => ?_); go_simp
    apply Exists.intro; apply And.intro; (focus (intro wk hk; go_simp; exact ⟨rfl, rfl⟩)); refine hK _ _ ?_; clear hK K
    refine stepK rfl (by kernel_rfl) (fun K hK => ?_); go_simp
    first | (refine hK _ _ ?_; clear hK K) | (apply Exists.intro; apply And.intro; (focus (intro wk hk; go_simp; exact ⟨rfl, rfl⟩)); refine hK _ _ ?_; clear hK K)
    refine stepK rfl (by kernel_rfl) (fun K hK => ?_); go_simp
    first | (refine hK _ _ ?_; clear hK K) | (apply Exists.intro; apply And.intro; (focus (intro wk hk; go_simp; exact ⟨rfl, rfl⟩)); refine hK _ _ ?_; clear hK K)
    refine stepK rfl (by kernel_rfl) (fun K hK => ?_); go_simp
    first | (refine hK _ _ ?_; clear hK K) | (apply Exists.intro; apply And.intro; (focus (intro wk hk; go_simp; exact ⟨rfl, rfl⟩)); refine hK _ _ ?_; clear hK K)
    refine stepK rfl (by kernel_rfl) (fun K hK => ?_); go_simp
    first | (refine hK _ _ ?_; clear hK K) | (apply Exists.intro; apply And.intro; (focus (intro wk hk; go_simp; exact ⟨rfl, rfl⟩)); refine hK _ _ ?_; clear hK K)
    refine stepK rfl (by kernel_rfl) (fun K hK => ?_); go_simp
    first | (refine hK _ _ ?_; clear hK K) | (apply Exists.intro; apply And.intro; (focus (intro wk hk; go_simp; exact ⟨rfl, rfl⟩)); refine hK _ _ ?_; clear hK K)
    refine stepK rfl (by kernel_rfl) (fun K hK => ?_); go_simp
    apply Exists.intro; apply And.intro; (focus (intro wk hk; go_simp; exact ⟨rfl, rfl⟩)); refine hK _ _ ?_; clear hK K
    refine stepK rfl (by kernel_rfl) (fun K hK => ?_); go_simp
    apply Exists.intro; apply And.intro; (focus (intro wk hk; go_simp; exact ⟨rfl, rfl⟩)); refine hK _ _ ?_; clear hK K
    refine stepK rfl (by kernel_rfl) (fun K hK => ?_); go_simp
    first | (refine hK _ _ ?_; clear hK K) | (apply Exists.intro; apply And.intro; (focus (intro wk hk; go_simp; exact ⟨rfl, rfl⟩)); refine hK _ _ ?_; clear hK K)
    refine stepK rfl (by kernel_rfl) (fun K hK => ?_); go_simp
    first | (refine hK _ _ ?_; clear hK K) | (apply Exists.intro; apply And.intro; (focus (intro wk hk; go_simp; exact ⟨rfl, rfl⟩)); refine hK _ _ ?_; clear hK K)
    refine stepK rfl (by kernel_rfl) (fun K hK => ?_); go_simp
    first | (refine hK _ _ ?_; clear hK K) | (apply Exists.intro; apply And.intro; (focus (intro wk hk; go_simp; exact ⟨rfl, rfl⟩)); refine hK _ _ ?_; clear hK K)
    refine stepK rfl (by kernel_rfl) (fun K hK => ?_); go_simp
    first | (refine hK _ _ ?_; clear hK K) | (apply Exists.intro; apply And.intro; (focus (intro wk hk; go_simp; exact ⟨rfl, rfl⟩)); refine hK _ _ ?_; clear hK K)
    refine stepK rfl (by kernel_rfl) (fun K hK => ?_); go_simp
    first | (refine hK _ _ ?_; clear hK K) | (apply Exists.intro; apply And.intro; (focus (intro wk hk; go_simp; exact ⟨rfl, rfl⟩)); refine hK _ _ ?_; clear hK K)
    refine stepK rfl (by kernel_rfl) (fun K hK => ?_); go_simp
    apply Exists.intro; apply And.intro; (focus (intro wk hk; go_simp; exact ⟨rfl, rfl⟩)); refine hK _ _ ?_; clear hK K
    refine stepK rfl (by kernel_rfl) (fun K hK => ?_); go_simp
    apply Exists.intro; apply And.intro; (focus (intro wk hk; go_simp; exact ⟨rfl, rfl⟩)); refine hK _ _ ?_; clear hK K
    refine stepK rfl (by kernel_rfl) (fun K hK => ?_); go_simp
    first | (refine hK _ _ ?_; clear hK K) | (apply Exists.intro; apply And.intro; (focus (intro wk hk; go_simp; exact ⟨rfl, rfl⟩)); refine hK _ _ ?_; clear hK K)
    refine stepK rfl (by kernel_rfl) (fun K hK => ?_); go_simp
    first | (refine hK _ _ ?_; clear hK K) | (apply Exists.intro; apply And.intro; (focus (intro wk hk; go_simp; exact ⟨rfl, rfl⟩)); refine hK _ _ ?_; clear hK K)
    refine stepK rfl (by kernel_rfl) (fun K hK => ?_); go_simp
    first | (refine hK _ _ ?_; clear hK K) | (apply Exists.intro; apply And.intro; (focus (intro wk hk; go_simp; exact ⟨rfl, rfl⟩)); refine hK _ _ ?_; clear hK K)
    refine stepK rfl (by kernel_rfl) (fun K hK => ?_); go_simp
    first | (refine hK _ _ ?_; clear hK K) | (apply Exists.intro; apply And.intro; (focus (intro wk hk; go_simp; exact ⟨rfl, rfl⟩)); refine hK _ _ ?_; clear hK K)
    refine stepK rfl (by kernel_rfl) (fun K hK => ?_); go_simp
    first | (refine hK _ _ ?_; clear hK K) | (apply Exists.intro; apply And.intro; (focus (intro wk hk; go_simp; exact ⟨rfl, rfl⟩)); refine hK _ _ ?_; clear hK K)
    refine stepK rfl (by kernel_rfl) (fun K hK => ?_); go_simp
    apply Exists.intro; apply And.intro; (focus (intro wk hk; go_simp; exact ⟨rfl, rfl⟩)); refine hK _ _ ?_; clear hK K
    refine stepK rfl (by kernel_rfl) (fun K hK => ?_); go_simp
    apply Exists.intro; apply And.intro; (focus (intro wk hk; go_simp; exact ⟨rfl, rfl⟩)); refine hK _ _ ?_; clear hK K
    refine stepN ?_
    refine hQ _ _ ?_
    intro w9 hT hG hF
    have H9 := Lib.hid (hl.trans (hT.below.mono hl.size))
    clear hT hG hF hQ QQ L hl r2 r3
    go_wp2_with fail
    go_ret
    exact ⟨rfl, H9.out⟩
  have h1 : (tf == uf) = true := by rw [beq_iff_eq]; exact e1
  cases bI
  · have hbb := HB.out.1 (.inr (.inr (.inl rfl)))
    subst hbb
    clear e0 e1 HB kU kH kC
    let L : List Sp := [sV 17 [] [] (fun u => u = .bool false)]
    refine wp_region_six0 (shs L) (look6 L) (None_) (by kernel_rfl) (by kernel_rfl) (mk_St L [] [] (by kernel_rfl) (by kernel_rfl) ⟨ok_V ⟨_, rfl⟩, trivial⟩ (by simp)) ?_
    intro QQ hQ
    refine stepK rfl (by kernel_rfl) (fun K hK => ?_); go_simp
    apply Exists.intro; apply And.intro; (focus (intro wk hk; go_simp; exact ⟨rfl, rfl⟩)); refine hK _ _ ?_; clear hK K
    refine stepK rfl (by kernel_rfl) (fun K hK => ?_); go_simp
    apply Exists.intro; apply And.intro; (focus (intro wk hk; have cc : wk.cell? ⟨w.heap.size, 0, none⟩ = some (.int .i64 tk) := ((K6.Row.tr r2 hk id).cell 0).trans x0; go_simp; exact ⟨rfl, rfl⟩)); refine hK _ _ ?_; clear hK K
    refine stepK rfl (by kernel_rfl) (fun K hK => ?_); go_simp
    apply Exists.intro; apply And.intro; (focus (intro wk hk; go_simp; exact ⟨rfl, rfl⟩)); refine hK _ _ ?_; clear hK K
    refine stepK rfl (by kernel_rfl) (fun K hK => ?_); go_simp
    apply Exists.intro; apply And.intro; (focus (intro wk hk; have cc : wk.cell? ⟨w.heap.size + 1, 0, none⟩ = some (.int .i64 uk) := ((K6.Row.tr r3 hk id).cell 0).trans y0; go_simp; exact ⟨rfl, rfl⟩)); refine hK _ _ ?_; clear hK K
    refine stepK rfl (by kernel_rfl) (fun K hK => ?_); go_simp
    apply Exists.intro; apply And.intro; (focus (intro wk hk; go_simp; exact ⟨rfl, rfl⟩)); refine hK _ _ ?_; clear hK K
    refine stepK rfl (by kernel_rfl) (fun K hK => ?_); go_simp
    apply Exists.intro; apply And.intro; (focus (intro wk hk; go_simp; exact ⟨rfl, rfl⟩)); refine hK _ _ ?_; clear hK K
    refine stepK rfl (by kernel_rfl) (fun K hK => ?_); go_simp
    first | (refine hK _ _ ?_; clear hK K) | (apply Exists.intro; apply And.intro; (focus (intro wk hk; go_simp; exact ⟨rfl, rfl⟩)); refine hK _ _ ?_; clear hK K)
    refine stepK rfl (by kernel_rfl) (fun K hK => ?_); go_simp
    first | (refine hK _ _ ?_; clear hK K) | (apply Exists.intro; apply And.intro; (focus (intro wk hk; have cc : wk.cell? ⟨w.heap.size, 1, none⟩ = some (.int .i64 tf) := ((K6.Row.tr r2 hk id).cell 1).trans x1; go_simp; exact ⟨rfl, rfl⟩)); refine hK _ _ ?_; clear hK K)
    refine stepK rfl (by kernel_rfl) (fun K hK => ?_); go_simp
    first | (refine hK _ _ ?_; clear hK K) | (apply Exists.intro; apply And.intro; (focus (intro wk hk; go_simp; exact ⟨rfl, rfl⟩)); refine hK _ _ ?_; clear hK K)
    refine stepK rfl (by kernel_rfl) (fun K hK => ?_); go_simp
    first | (refine hK _ _ ?_; clear hK K) | (apply Exists.intro; apply And.intro; (focus (intro wk hk; have cc : wk.cell? ⟨w.heap.size + 1, 1, none⟩ = some (.int .i64 uf) := ((K6.Row.tr r3 hk id).cell 1).trans y1; go_simp; exact ⟨rfl, rfl⟩)); refine hK _ _ ?_; clear hK K)
    refine stepK rfl (by kernel_rfl) (fun K hK => ?_); go_simp
    first | (refine hK _ _ ?_; clear hK K) | (apply Exists.intro; apply And.intro; (focus (intro wk hk; go_simp; exact ⟨rfl, rfl⟩)); refine hK _ _ ?_; clear hK K)
    refine stepK rfl (by kernel_rfl) (fun K hK => ?_); go_simp
    apply Exists.intro; apply And.intro; (focus (intro wk hk; go_simp; exact ⟨rfl, rfl⟩)); refine hK _ _ ?_; clear hK K
    refine stepK rfl (by kernel_rfl) (fun K hK => ?_); go_simp
    apply Exists.intro; apply And.intro; (focus (intro wk hk; go_simp; exact ⟨rfl, rfl⟩)); refine hK _ _ ?_; clear hK K
    refine stepK rfl (by kernel_rfl) (fun K hK => ?_); go_simp
    first | (refine hK _ _ ?_; clear hK K) | (apply Exists.intro; apply And.intro; (focus (intro wk hk; go_simp; exact ⟨rfl, rfl⟩)); refine hK _ _ ?_; clear hK K)
    refine stepK rfl (by kernel_rfl) (fun K hK => ?_); go_simp
    first | (refine hK _ _ ?_; clear hK K) | (apply Exists.intro; apply And.intro; (focus (intro wk hk; have cc : wk.cell? ⟨w.heap.size, 2, none⟩ = some (.slice nq1 ln1 nc1) := ((K6.Row.tr r2 hk id).cell 2).trans x2; go_simp; exact ⟨rfl, rfl⟩)); refine hK _ _ ?_; clear hK K)
    refine stepK rfl (by kernel_rfl) (fun K hK => ?_); go_simp
    first | (refine hK _ _ ?_; clear hK K) | (apply Exists.intro; apply And.intro; (focus (intro wk hk; go_simp; exact ⟨rfl, rfl⟩)); refine hK _ _ ?_; clear hK K)
    refine stepK rfl (by kernel_rfl) (fun K hK => ?_); go_simp
    first | (refine hK _ _ ?_; clear hK K) | (apply Exists.intro; apply And.intro; (focus (intro wk hk; have cc : wk.cell? ⟨w.heap.size + 1, 2, none⟩ = some (.slice nq2 ln2 nc2) := ((K6.Row.tr r3 hk id).cell 2).trans y2; go_simp; exact ⟨rfl, rfl⟩)); refine hK _ _ ?_; clear hK K)
    refine stepS _ rfl (by kernel_rfl) (fun K hK => ?_); go_simp
    refine ⟨?_, ?_⟩
    · intro wk hk hg hu; go_simp; refine upon_enter ((kI.out _ (hl.trans (hk.below.mono hl.size))).mono ?_); rintro e w' ⟨rfl, hb⟩; exact ⟨_, rfl, left_V (p := fun u => u = .bool false) rfl (hb) rfl⟩
    rintro ⟨v17, lo17, hi17⟩ - - (rfl : v17 = _)
    refine hK _ _ ?_; clear hK K
    refine stepK rfl (by kernel_rfl) (fun K hK => ?_); go_simp
    apply Exists.intro; apply And.intro; (focus (intro wk hk; go_simp; exact ⟨rfl, rfl⟩)); refine hK _ _ ?_; clear hK K
    refine stepK rfl (by kernel_rfl) (fun K hK => ?_); go_simp
    apply Exists.intro; apply And.intro; (focus (intro wk hk; go_simp; exact ⟨rfl, rfl⟩)); refine hK _ _ ?_; clear hK K
    refine stepK rfl (by kernel_rfl) (fun K hK => ?_); go_simp
    first | (refine hK _ _ ?_; clear hK K) | (apply Exists.intro; apply And.intro; (focus (intro wk hk; go_simp; exact ⟨rfl, rfl⟩)); refine hK _ _ ?_; clear hK K)
    refine stepK rfl (by kernel_rfl) (fun K hK => ?_); go_simp
    first | (refine hK _ _ ?_; clear hK K) | (apply Exists.intro; apply And.intro; (focus (intro wk hk; go_simp; exact ⟨rfl, rfl⟩)); refine hK _ _ ?_; clear hK K)
    refine stepK rfl (by kernel_rfl) (fun K hK => ?_); go_simp
    first | (refine hK _ _ ?_; clear hK K) | (apply Exists.intro; apply And.intro; (focus (intro wk hk; go_simp; exact ⟨rfl, rfl⟩)); refine hK _ _ ?_; clear hK K)
    refine stepK rfl (by kernel_rfl) (fun K hK => ?_); go_simp
    first | (refine hK _ _ ?_; clear hK K) | (apply Exists.intro; apply And.intro; (focus (intro wk hk; go_simp; exact ⟨rfl, rfl⟩)); refine hK _ _ ?_; clear hK K)
    refine stepK rfl (by kernel_rfl) (fun K hK => ?_); go_simp
    first | (refine hK _ _ ?_; clear hK K) | (apply Exists.intro; apply And.intro; (focus (intro wk hk; go_simp; exact ⟨rfl, rfl⟩)); refine hK _ _ ?_; clear hK K)
    refine stepK rfl (by kernel_rfl) (fun K hK => ?_); go_simp
    apply Exists.intro; apply And.intro; (focus (intro wk hk; go_simp; exact ⟨rfl, rfl⟩)); refine hK _ _ ?_; clear hK K
    refine stepK rfl (by kernel_rfl) (fun K hK => ?_); go_simp
    apply Exists.intro; apply And.intro; (focus (intro wk hk; go_simp; exact ⟨rfl, rfl⟩)); refine hK _ _ ?_; clear hK K
    refine stepK rfl (by kernel_rfl) (fun K hK => ?_); go_simp
    first | (refine hK _ _ ?_; clear hK K) | (apply Exists.intro; apply And.intro; (focus (intro wk hk; go_simp; exact ⟨rfl, rfl⟩)); refine hK _ _ ?_; clear hK K)
    refine stepK rfl (by kernel_rfl) (fun K hK => ?_); go_simp
    first | (refine hK _ _ ?_; clear hK K) | (apply Exists.intro; apply And.intro; (focus (intro wk hk; go_simp; exact ⟨rfl, rfl⟩)); refine hK _ _ ?_; clear hK K)
    refine stepK rfl (by kernel_rfl) (fun K hK => ?_); go_simp
    first | (refine hK _ _ ?_; clear hK K) | (apply Exists.intro; apply And.intro; (focus (intro wk hk; go_simp; exact ⟨rfl, rfl⟩)); refine hK _ _ ?_; clear hK K)
    refine stepK rfl (by kernel_rfl) (fun K hK => ?_); go_simp
    first | (refine hK _ _ ?_; clear hK K) | (apply Exists.intro; apply And.intro; (focus (intro wk hk; go_simp; exact ⟨rfl, rfl⟩)); refine hK _ _ ?_; clear hK K)
    refine stepK rfl (by kernel_rfl) (fun K hK => ?_); go_simp
    first | (refine hK _ _ ?_; clear hK K) | (apply Exists.intro; apply And.intro; (focus (intro wk hk; go_simp; exact ⟨rfl, rfl⟩)); refine hK _ _ ?_; clear hK K)
    refine stepK rfl (by kernel_rfl) (fun K hK => ?_); go_simp
    apply Exists.intro; apply And.intro; (focus (intro wk hk; go_simp; exact ⟨rfl, rfl⟩)); refine hK _ _ ?_; clear hK K
    refine stepK rfl (by kernel_rfl) (fun K hK => ?_); go_simp
    apply Exists.intro; apply And.intro; (focus (intro wk hk; go_simp; exact ⟨rfl, rfl⟩)); refine hK _ _ ?_; clear hK K
    refine stepK rfl (by kernel_rfl) (fun K hK => ?_); go_simp
    first | (refine hK _ _ ?_; clear hK K) | (apply Exists.intro; apply And.intro; (focus (intro wk hk; go_simp; exact ⟨rfl, rfl⟩)); refine hK _ _ ?_; clear hK K)
    refine stepK rfl (by kernel_rfl) (fun K hK => ?_); go_simp
    first | (refine hK _ _ ?_; clear hK K) | (apply Exists.intro; apply And.intro; (focus (intro wk hk; go_simp; exact ⟨rfl, rfl⟩)); refine hK _ _ ?_; clear hK K)
    refine stepK rfl (by kernel_rfl) (fun K hK => ?_); go_simp
    first | (refine hK _ _ ?_; clear hK K) | (apply Exists.intro; apply And.intro; (focus (intro wk hk; go_simp; exact ⟨rfl, rfl⟩)); refine hK _ _ ?_; clear hK K)
    refine stepK rfl (by kernel_rfl) (fun K hK => ?_); go_simp
    first | (refine hK _ _ ?_; clear hK K) | (apply Exists.intro; apply And.intro; (focus (intro wk hk; go_simp; exact ⟨rfl, rfl⟩)); refine hK _ _ ?_; clear hK K)
    refine stepK rfl (by kernel_rfl) (fun K hK => ?_); go_simp
    first | (refine hK _ _ ?_; clear hK K) | (apply Exists.intro; apply And.intro; (focus (intro wk hk; go_simp; exact ⟨rfl, rfl⟩)); refine hK _ _ ?_; clear hK K)
    refine stepK rfl (by kernel_rfl) (fun K hK => ?_); go_simp
    apply Exists.intro; apply And.intro; (focus (intro wk hk; go_simp; exact ⟨rfl, rfl⟩)); refine hK _ _ ?_; clear hK K
    refine stepK rfl (by kernel_rfl) (fun K hK => ?_); go_simp
    apply Exists.intro; apply And.intro; (focus (intro wk hk; go_simp; exact ⟨rfl, rfl⟩)); refine hK _ _ ?_; clear hK K
    refine stepN ?_
    refine hQ _ _ ?_
    intro w9 hT hG hF
    have H9 := Lib.hid (hl.trans (hT.below.mono hl.size))
    clear hT hG hF hQ QQ L hl r2 r3
    go_wp2_with fail
    go_ret
    exact ⟨rfl, H9.out⟩
  cases bU
  · have hbb := HB.out.1 (.inr (.inr (.inr (.inl rfl))))
    subst hbb
    clear e0 e1 HB kH kC
    let L : List Sp := [sV 17 [] [] (fun u => u = .bool true), sV 24 [] [] (fun u => u = .bool false)]
    refine wp_region_six0 (shs L) (look6 L) (None_) (by kernel_rfl) (by kernel_rfl) (mk_St L [] [] (by kernel_rfl) (by kernel_rfl) ⟨ok_V ⟨_, rfl⟩, ok_V ⟨_, rfl⟩, trivial⟩ (by simp)) ?_
    intro QQ hQ
    refine stepK rfl (by kernel_rfl) (fun K hK => ?_); go_simp
    apply Exists.intro; apply And.intro; (focus (intro wk hk; go_simp; exact ⟨rfl, rfl⟩)); refine hK _ _ ?_; clear hK K
    refine stepK rfl (by kernel_rfl) (fun K hK => ?_); go_simp
    apply Exists.intro; apply And.intro; (focus (intro wk hk; have cc : wk.cell? ⟨w.heap.size, 0, none⟩ = some (.int .i64 tk) := ((K6.Row.tr r2 hk id).cell 0).trans x0; go_simp; exact ⟨rfl, rfl⟩)); refine hK _ _ ?_; clear hK K
    refine stepK rfl (by kernel_rfl) (fun K hK => ?_); go_simp
    apply Exists.intro; apply And.intro; (focus (intro wk hk; go_simp; exact ⟨rfl, rfl⟩)); refine hK _ _ ?_; clear hK K
    refine stepK rfl (by kernel_rfl) (fun K hK => ?_); go_simp
    apply Exists.intro; apply And.intro; (focus (intro wk hk; have cc : wk.cell? ⟨w.heap.size + 1, 0, none⟩ = some (.int .i64 uk) := ((K6.Row.tr r3 hk id).cell 0).trans y0; go_simp; exact ⟨rfl, rfl⟩)); refine hK _ _ ?_; clear hK K
    refine stepK rfl (by kernel_rfl) (fun K hK => ?_); go_simp
    apply Exists.intro; apply And.intro; (focus (intro wk hk; go_simp; exact ⟨rfl, rfl⟩)); refine hK _ _ ?_; clear hK K
    refine stepK rfl (by kernel_rfl) (fun K hK => ?_); go_simp
    apply Exists.intro; apply And.intro; (focus (intro wk hk; go_simp; exact ⟨rfl, rfl⟩)); refine hK _ _ ?_; clear hK K
    refine stepK rfl (by kernel_rfl) (fun K hK => ?_); go_simp
    first | (refine hK _ _ ?_; clear hK K) | (apply Exists.intro; apply And.intro; (focus (intro wk hk; go_simp; exact ⟨rfl, rfl⟩)); refine hK _ _ ?_; clear hK K)
    refine stepK rfl (by kernel_rfl) (fun K hK => ?_); go_simp
    first | (refine hK _ _ ?_; clear hK K) | (apply Exists.intro; apply And.intro; (focus (intro wk hk; have cc : wk.cell? ⟨w.heap.size, 1, none⟩ = some (.int .i64 tf) := ((K6.Row.tr r2 hk id).cell 1).trans x1; go_simp; exact ⟨rfl, rfl⟩)); refine hK _ _ ?_; clear hK K)
    refine stepK rfl (by kernel_rfl) (fun K hK => ?_); go_simp
    first | (refine hK _ _ ?_; clear hK K) | (apply Exists.intro; apply And.intro; (focus (intro wk hk; go_simp; exact ⟨rfl, rfl⟩)); refine hK _ _ ?_; clear hK K)
    refine stepK rfl (by kernel_rfl) (fun K hK => ?_); go_simp
    first | (refine hK _ _ ?_; clear hK K) | (apply Exists.intro; apply And.intro; (focus (intro wk hk; have cc : wk.cell? ⟨w.heap.size + 1, 1, none⟩ = some (.int .i64 uf) := ((K6.Row.tr r3 hk id).cell 1).trans y1; go_simp; exact ⟨rfl, rfl⟩)); refine hK _ _ ?_; clear hK K)
    refine stepK rfl (by kernel_rfl) (fun K hK => ?_); go_simp
    first | (refine hK _ _ ?_; clear hK K) | (apply Exists.intro; apply And.intro; (focus (intro wk hk; go_simp; exact ⟨rfl, rfl⟩)); refine hK _ _ ?_; clear hK K)
    refine stepK rfl (by kernel_rfl) (fun K hK => ?_); go_simp
    apply Exists.intro; apply And.intro; (focus (intro wk hk; go_simp; exact ⟨rfl, rfl⟩)); refine hK _ _ ?_; clear hK K
    refine stepK rfl (by kernel_rfl) (fun K hK => ?_); go_simp
    apply Exists.intro; apply And.intro; (focus (intro wk hk; go_simp; exact ⟨rfl, rfl⟩)); refine hK _ _ ?_; clear hK K
    refine stepK rfl (by kernel_rfl) (fun K hK => ?_); go_simp
    first | (refine hK _ _ ?_; clear hK K) | (apply Exists.intro; apply And.intro; (focus (intro wk hk; go_simp; exact ⟨rfl, rfl⟩)); refine hK _ _ ?_; clear hK K)
    refine stepK rfl (by kernel_rfl) (fun K hK => ?_); go_simp
    first | (refine hK _ _ ?_; clear hK K) | (apply Exists.intro; apply And.intro; (focus (intro wk hk; have cc : wk.cell? ⟨w.heap.size, 2, none⟩ = some (.slice nq1 ln1 nc1) := ((K6.Row.tr r2 hk id).cell 2).trans x2; go_simp; exact ⟨rfl, rfl⟩)); refine hK _ _ ?_; clear hK K)
    refine stepK rfl (by kernel_rfl) (fun K hK => ?_); go_simp
    first | (refine hK _ _ ?_; clear hK K) | (apply Exists.intro; apply And.intro; (focus (intro wk hk; go_simp; exact ⟨rfl, rfl⟩)); refine hK _ _ ?_; clear hK K)
    refine stepK rfl (by kernel_rfl) (fun K hK => ?_); go_simp
    first | (refine hK _ _ ?_; clear hK K) | (apply Exists.intro; apply And.intro; (focus (intro wk hk; have cc : wk.cell? ⟨w.heap.size + 1, 2, none⟩ = some (.slice nq2 ln2 nc2) := ((K6.Row.tr r3 hk id).cell 2).trans y2; go_simp; exact ⟨rfl, rfl⟩)); refine hK _ _ ?_; clear hK K)
    refine stepS _ rfl (by kernel_rfl) (fun K hK => ?_); go_simp
    refine ⟨?_, ?_⟩
    · intro wk hk hg hu; go_simp; refine upon_enter ((kI.out _ (hl.trans (hk.below.mono hl.size))).mono ?_); rintro e w' ⟨rfl, hb⟩; exact ⟨_, rfl, left_V (p := fun u => u = .bool true) rfl (hb) rfl⟩
    rintro ⟨v17, lo17, hi17⟩ - - (rfl : v17 = _)
    refine hK _ _ ?_; clear hK K
    refine stepK rfl (by kernel_rfl) (fun K hK => ?_); go_simp
    apply Exists.intro; apply And.intro; (focus (intro wk hk; go_simp; exact ⟨rfl, rfl⟩)); refine hK _ _ ?_; clear hK K
    refine stepK rfl (by kernel_rfl) (fun K hK => ?_); go_simp
    apply Exists.intro; apply And.intro; (focus (intro wk hk; go_simp; exact ⟨rfl, rfl⟩)); refine hK _ _ ?_; clear hK K
    refine stepK rfl (by kernel_rfl) (fun K hK => ?_); go_simp
    first | (refine hK _ _ ?_; clear hK K) | (apply Exists.intro; apply And.intro; (focus (intro wk hk; go_simp; exact ⟨rfl, rfl⟩)); refine hK _ _ ?_; clear hK K)
    refine stepK rfl (by kernel_rfl) (fun K hK => ?_); go_simp
    first | (refine hK _ _ ?_; clear hK K) | (apply Exists.intro; apply And.intro; (focus (intro wk hk; have cc : wk.cell? ⟨w.heap.size, 3, none⟩ = some (.slice aq1 la1 ac1) := ((K6.Row.tr r2 hk id).cell 3).trans x3; go_simp; exact ⟨rfl, rfl⟩)); refine hK _ _ ?_; clear hK K)
    refine stepK rfl (by kernel_rfl) (fun K hK => ?_); go_simp
    first | (refine hK _ _ ?_; clear hK K) | (apply Exists.intro; apply And.intro; (focus (intro wk hk; go_simp; exact ⟨rfl, rfl⟩)); refine hK _ _ ?_; clear hK K)
    refine stepK rfl (by kernel_rfl) (fun K hK => ?_); go_simp
    first | (refine hK _ _ ?_; clear hK K) | (apply Exists.intro; apply And.intro; (focus (intro wk hk; have cc : wk.cell? ⟨w.heap.size + 1, 3, none⟩ = some (.slice aq2 la2 ac2) := ((K6.Row.tr r3 hk id).cell 3).trans y3; go_simp; exact ⟨rfl, rfl⟩)); refine hK _ _ ?_; clear hK K)
    refine stepS _ rfl (by kernel_rfl) (fun K hK => ?_); go_simp
    refine ⟨?_, ?_⟩
    · intro wk hk hg hu; go_simp; refine upon_enter ((kU.out _ (hl.trans (hk.below.mono hl.size))).mono ?_); rintro e w' ⟨rfl, hb⟩; exact ⟨_, rfl, left_V (p := fun u => u = .bool false) rfl (hb) rfl⟩
    rintro ⟨v24, lo24, hi24⟩ - - (rfl : v24 = _)
    refine hK _ _ ?_; clear hK K
    refine stepK rfl (by kernel_rfl) (fun K hK => ?_); go_simp
    apply Exists.intro; apply And.intro; (focus (intro wk hk; go_simp; exact ⟨rfl, rfl⟩)); refine hK _ _ ?_; clear hK K
    refine stepK rfl (by kernel_rfl) (fun K hK => ?_); go_simp
    apply Exists.intro; apply And.intro; (focus (intro wk hk; go_simp; exact ⟨rfl, rfl⟩)); refine hK _ _ ?_; clear hK K
    refine stepK rfl (by kernel_rfl) (fun K hK => ?_); go_simp
    first | (refine hK _ _ ?_; clear hK K) | (apply Exists.intro; apply And.intro; (focus (intro wk hk; go_simp; exact ⟨rfl, rfl⟩)); refine hK _ _ ?_; clear hK K)
    refine stepK rfl (by kernel_rfl) (fun K hK => ?_); go_simp
    first | (refine hK _ _ ?_; clear hK K) | (apply Exists.intro; apply And.intro; (focus (intro wk hk; go_simp; exact ⟨rfl, rfl⟩)); refine hK _ _ ?_; clear hK K)
    refine stepK rfl (by kernel_rfl) (fun K hK => ?_); go_simp
    first | (refine hK _ _ ?_; clear hK K) | (apply Exists.intro; apply And.intro; (focus (intro wk hk; go_simp; exact ⟨rfl, rfl⟩)); refine hK _ _ ?_; clear hK K)
    refine stepK rfl (by kernel_rfl) (fun K hK => ?_); go_simp
    first | (refine hK _ _ ?_; clear hK K) | (apply Exists.intro; apply And.intro; (focus (intro wk hk; go_simp; exact ⟨rfl, rfl⟩)); refine hK _ _ ?_; clear hK K)
    refine stepK rfl (by kernel_rfl) (fun K hK => ?_); go_simp
    first | (refine hK _ _ ?_; clear hK K) | (apply Exists.intro; apply And.intro; (focus (intro wk hk; go_simp; exact ⟨rfl, rfl⟩)); refine hK _ _ ?_; clear hK K)
    refine stepK rfl (by kernel_rfl) (fun K hK => ?_); go_simp
    apply Exists.intro; apply And.intro; (focus (intro wk hk; go_simp; exact ⟨rfl, rfl⟩)); refine hK _ _ ?_; clear hK K
    refine stepK rfl (by kernel_rfl) (fun K hK => ?_); go_simp
    apply Exists.intro; apply And.intro; (focus (intro wk hk; go_simp; exact ⟨rfl, rfl⟩)); refine hK _ _ ?_; clear hK K
    refine stepK rfl (by kernel_rfl) (fun K hK => ?_); go_simp
    first | (refine hK _ _ ?_; clear hK K) | (apply Exists.intro; apply And.intro; (focus (intro wk hk; go_simp; exact ⟨rfl, rfl⟩)); refine hK _ _ ?_; clear hK K)
    refine stepK rfl (by kernel_rfl) (fun K hK => ?_); go_simp
    first | (refine hK _ _ ?_; clear hK K) | (apply Exists.intro; apply And.intro; (focus (intro wk hk; go_simp; exact ⟨rfl, rfl⟩)); refine hK _ _ ?_; clear hK K)
    refine stepK rfl (by kernel_rfl) (fun K hK => ?_); go_simp
    first | (refine hK _ _ ?_; clear hK K) | (apply Exists.intro; apply And.intro; (focus (intro wk hk; go_simp; exact ⟨rfl, rfl⟩)); refine hK _ _ ?_; clear hK K)
    refine stepK rfl (by kernel_rfl) (fun K hK => ?_); go_simp
    first | (refine hK _ _ ?_; clear hK K) | (apply Exists.intro; apply And.intro; (focus (intro wk hk; go_simp; exact ⟨rfl, rfl⟩)); refine hK _ _ ?_; clear hK K)
    refine stepK rfl (by kernel_rfl) (fun K hK => ?_); go_simp
    first | (refine hK _ _ ?_; clear hK K) | (apply Exists.intro; apply And.intro; (focus (intro wk hk; go_simp; exact ⟨rfl, rfl⟩)); refine hK _ _ ?_; clear hK K)
    refine stepK rfl (by kernel_rfl) (fun K hK => ?_); go_simp
    apply Exists.intro; apply And.intro; (focus (intro wk hk; go_simp; exact ⟨rfl, rfl⟩)); refine hK _ _ ?_; clear hK K
    refine stepK rfl (by kernel_rfl) (fun K hK => ?_); go_simp
    apply Exists.intro; apply And.intro; (focus (intro wk hk; go_simp; exact ⟨rfl, rfl⟩)); refine hK _ _ ?_; clear hK K
    refine stepN ?_
    refine hQ _ _ ?_
    intro w9 hT hG hF
    have H9 := Lib.hid (hl.trans (hT.below.mono hl.size))
    clear hT hG hF hQ QQ L hl r2 r3
    go_wp2_with fail
    go_ret
    exact ⟨rfl, H9.out⟩
  cases bH
  · have hbb := HB.out.1 (.inr (.inr (.inr (.inr rfl))))
    subst hbb
    clear e0 e1 HB kC
    let L : List Sp := [sV 17 [] [] (fun u => u = .bool true), sV 24 [] [] (fun u => u = .bool true), sV 31 [] [] (fun u => u = .bool false)]
    refine wp_region_six0 (shs L) (look6 L) (None_) (by kernel_rfl) (by kernel_rfl) (mk_St L [] [] (by kernel_rfl) (by kernel_rfl) ⟨ok_V ⟨_, rfl⟩, ok_V ⟨_, rfl⟩, ok_V ⟨_, rfl⟩, trivial⟩ (by simp)) ?_
    intro QQ hQ
    refine stepK rfl (by kernel_rfl) (fun K hK => ?_); go_simp
    apply Exists.intro; apply And.intro; (focus (intro wk hk; go_simp; exact ⟨rfl, rfl⟩)); refine hK _ _ ?_; clear hK K
    refine stepK rfl (by kernel_rfl) (fun K hK => ?_); go_simp
    apply Exists.intro; apply And.intro; (focus (intro wk hk; have cc : wk.cell? ⟨w.heap.size, 0, none⟩ = some (.int .i64 tk) := ((K6.Row.tr r2 hk id).cell 0).trans x0; go_simp; exact ⟨rfl, rfl⟩)); refine hK _ _ ?_; clear hK K
    refine stepK rfl (by kernel_rfl) (fun K hK => ?_); go_simp
    apply Exists.intro; apply And.intro; (focus (intro wk hk; go_simp; exact ⟨rfl, rfl⟩)); refine hK _ _ ?_; clear hK K
    refine stepK rfl (by kernel_rfl) (fun K hK => ?_); go_simp
    apply Exists.intro; apply And.intro; (focus (intro wk hk; have cc : wk.cell? ⟨w.heap.size + 1, 0, none⟩ = some (.int .i64 uk) := ((K6.Row.tr r3 hk id).cell 0).trans y0; go_simp; exact ⟨rfl, rfl⟩)); refine hK _ _ ?_; clear hK K
    refine stepK rfl (by kernel_rfl) (fun K hK => ?_); go_simp
    apply Exists.intro; apply And.intro; (focus (intro wk hk; go_simp; exact ⟨rfl, rfl⟩)); refine hK _ _ ?_; clear hK K
    refine stepK rfl (by kernel_rfl) (fun K hK => ?_); go_simp
    apply Exists.intro; apply And.intro; (focus (intro wk hk; go_simp; exact ⟨rfl, rfl⟩)); refine hK _ _ ?_; clear hK K
    refine stepK rfl (by kernel_rfl) (fun K hK => ?_); go_simp
    first | (refine hK _ _ ?_; clear hK K) | (apply Exists.intro; apply And.intro; (focus (intro wk hk; go_simp; exact ⟨rfl, rfl⟩)); refine hK _ _ ?_; clear hK K)
    refine stepK rfl (by kernel_rfl) (fun K hK => ?_); go_simp
    first | (refine hK _ _ ?_; clear hK K) | (apply Exists.intro; apply And.intro; (focus (intro wk hk; have cc : wk.cell? ⟨w.heap.size, 1, none⟩ = some (.int .i64 tf) := ((K6.Row.tr r2 hk id).cell 1).trans x1; go_simp; exact ⟨rfl, rfl⟩)); refine hK _ _ ?_; clear hK K)
    refine stepK rfl (by kernel_rfl) (fun K hK => ?_); go_simp
    first | (refine hK _ _ ?_; clear hK K) | (apply Exists.intro; apply And.intro; (focus (intro wk hk; go_simp; exact ⟨rfl, rfl⟩)); refine hK _ _ ?_; clear hK K)
    refine stepK rfl (by kernel_rfl) (fun K hK => ?_); go_simp
    first | (refine hK _ _ ?_; clear hK K) | (apply Exists.intro; apply And.intro; (focus (intro wk hk; have cc : wk.cell? ⟨w.heap.size + 1, 1, none⟩ = some (.int .i64 uf) := ((K6.Row.tr r3 hk id).cell 1).trans y1; go_simp; exact ⟨rfl, rfl⟩)); refine hK _ _ ?_; clear hK K)
    refine stepK rfl (by kernel_rfl) (fun K hK => ?_); go_simp
    first | (refine hK _ _ ?_; clear hK K) | (apply Exists.intro; apply And.intro; (focus (intro wk hk; go_simp; exact ⟨rfl, rfl⟩)); refine hK _ _ ?_; clear hK K)
    refine stepK rfl (by kernel_rfl) (fun K hK => ?_); go_simp
    apply Exists.intro; apply And.intro; (focus (intro wk hk; go_simp; exact ⟨rfl, rfl⟩)); refine hK _ _ ?_; clear hK K
    refine stepK rfl (by kernel_rfl) (fun K hK => ?_); go_simp
    apply Exists.intro; apply And.intro; (focus (intro wk hk; go_simp; exact ⟨rfl, rfl⟩)); refine hK _ _ ?_; clear hK K
    refine stepK rfl (by kernel_rfl) (fun K hK => ?_); go_simp
    first | (refine hK _ _ ?_; clear hK K) | (apply Exists.intro; apply And.intro; (focus (intro wk hk; go_simp; exact ⟨rfl, rfl⟩)); refine hK _ _ ?_; clear hK K)
    refine stepK rfl (by kernel_rfl) (fun K hK => ?_); go_simp
    first | (refine hK _ _ ?_; clear hK K) | (apply Exists.intro; apply And.intro; (focus (intro wk hk; have cc : wk.cell? ⟨w.heap.size, 2, none⟩ = some (.slice nq1 ln1 nc1) := ((K6.Row.tr r2 hk id).cell 2).trans x2; go_simp; exact ⟨rfl, rfl⟩)); refine hK _ _ ?_; clear hK K)
    refine stepK rfl (by kernel_rfl) (fun K hK => ?_); go_simp
    first | (refine hK _ _ ?_; clear hK K) | (apply Exists.intro; apply And.intro; (focus (intro wk hk; go_simp; exact ⟨rfl, rfl⟩)); refine hK _ _ ?_; clear hK K)
    refine stepK rfl (by kernel_rfl) (fun K hK => ?_); go_simp
    first | (refine hK _ _ ?_; clear hK K) | (apply Exists.intro; apply And.intro; (focus (intro wk hk; have cc : wk.cell? ⟨w.heap.size + 1, 2, none⟩ = some (.slice nq2 ln2 nc2) := ((K6.Row.tr r3 hk id).cell 2).trans y2; go_simp; exact ⟨rfl, rfl⟩)); refine hK _ _ ?_; clear hK K)
    refine stepS _ rfl (by kernel_rfl) (fun K hK => ?_); go_simp
    refine ⟨?_, ?_⟩
    · intro wk hk hg hu; go_simp; refine upon_enter ((kI.out _ (hl.trans (hk.below.mono hl.size))).mono ?_); rintro e w' ⟨rfl, hb⟩; exact ⟨_, rfl, left_V (p := fun u => u = .bool true) rfl (hb) rfl⟩
    rintro ⟨v17, lo17, hi17⟩ - - (rfl : v17 = _)
    refine hK _ _ ?_; clear hK K
    refine stepK rfl (by kernel_rfl) (fun K hK => ?_); go_simp
    apply Exists.intro; apply And.intro; (focus (intro wk hk; go_simp; exact ⟨rfl, rfl⟩)); refine hK _ _ ?_; clear hK K
    refine stepK rfl (by kernel_rfl) (fun K hK => ?_); go_simp
    apply Exists.intro; apply And.intro; (focus (intro wk hk; go_simp; exact ⟨rfl, rfl⟩)); refine hK _ _ ?_; clear hK K
    refine stepK rfl (by kernel_rfl) (fun K hK => ?_); go_simp
    first | (refine hK _ _ ?_; clear hK K) | (apply Exists.intro; apply And.intro; (focus (intro wk hk; go_simp; exact ⟨rfl, rfl⟩)); refine hK _ _ ?_; clear hK K)
    refine stepK rfl (by kernel_rfl) (fun K hK => ?_); go_simp
    first | (refine hK _ _ ?_; clear hK K) | (apply Exists.intro; apply And.intro; (focus (intro wk hk; have cc : wk.cell? ⟨w.heap.size, 3, none⟩ = some (.slice aq1 la1 ac1) := ((K6.Row.tr r2 hk id).cell 3).trans x3; go_simp; exact ⟨rfl, rfl⟩)); refine hK _ _ ?_; clear hK K)
    refine stepK rfl (by kernel_rfl) (fun K hK => ?_); go_simp
    first | (refine hK _ _ ?_; clear hK K) | (apply Exists.intro; apply And.intro; (focus (intro wk hk; go_simp; exact ⟨rfl, rfl⟩)); refine hK _ _ ?_; clear hK K)
    refine stepK rfl (by kernel_rfl) (fun K hK => ?_); go_simp
    first | (refine hK _ _ ?_; clear hK K) | (apply Exists.intro; apply And.intro; (focus (intro wk hk; have cc : wk.cell? ⟨w.heap.size + 1, 3, none⟩ = some (.slice aq2 la2 ac2) := ((K6.Row.tr r3 hk id).cell 3).trans y3; go_simp; exact ⟨rfl, rfl⟩)); refine hK _ _ ?_; clear hK K)
    refine stepS _ rfl (by kernel_rfl) (fun K hK => ?_); go_simp
    refine ⟨?_, ?_⟩
    · intro wk hk hg hu; go_simp; refine upon_enter ((kU.out _ (hl.trans (hk.below.mono hl.size))).mono ?_); rintro e w' ⟨rfl, hb⟩; exact ⟨_, rfl, left_V (p := fun u => u = .bool true) rfl (hb) rfl⟩
    rintro ⟨v24, lo24, hi24⟩ - - (rfl : v24 = _)
    refine hK _ _ ?_; clear hK K
    refine stepK rfl (by kernel_rfl) (fun K hK => ?_); go_simp
    apply Exists.intro; apply And.intro; (focus (intro wk hk; go_simp; exact ⟨rfl, rfl⟩)); refine hK _ _ ?_; clear hK K
    refine stepK rfl (by kernel_rfl) (fun K hK => ?_); go_simp
    apply Exists.intro; apply And.intro; (focus (intro wk hk; go_simp; exact ⟨rfl, rfl⟩)); refine hK _ _ ?_; clear hK K
    refine stepK rfl (by kernel_rfl) (fun K hK => ?_); go_simp
    first | (refine hK _ _ ?_; clear hK K) | (apply Exists.intro; apply And.intro; (focus (intro wk hk; go_simp; exact ⟨rfl, rfl⟩)); refine hK _ _ ?_; clear hK K)
    refine stepK rfl (by kernel_rfl) (fun K hK => ?_); go_simp
    first | (refine hK _ _ ?_; clear hK K) | (apply Exists.intro; apply And.intro; (focus (intro wk hk; have cc : wk.cell? ⟨w.heap.size, 4, none⟩ = some (.slice hq1 lh1 hc1) := ((K6.Row.tr r2 hk id).cell 4).trans x4; go_simp; exact ⟨rfl, rfl⟩)); refine hK _ _ ?_; clear hK K)
    refine stepK rfl (by kernel_rfl) (fun K hK => ?_); go_simp
    first | (refine hK _ _ ?_; clear hK K) | (apply Exists.intro; apply And.intro; (focus (intro wk hk; go_simp; exact ⟨rfl, rfl⟩)); refine hK _ _ ?_; clear hK K)
    refine stepK rfl (by kernel_rfl) (fun K hK => ?_); go_simp
    first | (refine hK _ _ ?_; clear hK K) | (apply Exists.intro; apply And.intro; (focus (intro wk hk; have cc : wk.cell? ⟨w.heap.size + 1, 4, none⟩ = some (.slice hq2 lh2 hc2) := ((K6.Row.tr r3 hk id).cell 4).trans y4; go_simp; exact ⟨rfl, rfl⟩)); refine hK _ _ ?_; clear hK K)
    refine stepS _ rfl (by kernel_rfl) (fun K hK => ?_); go_simp
    refine ⟨?_, ?_⟩
    · intro wk hk hg hu; go_simp; refine upon_enter ((kH.out _ (hl.trans (hk.below.mono hl.size))).mono ?_); rintro e w' ⟨rfl, hb⟩; exact ⟨_, rfl, left_V (p := fun u => u = .bool false) rfl (hb) rfl⟩
    rintro ⟨v31, lo31, hi31⟩ - - (rfl : v31 = _)
    refine hK _ _ ?_; clear hK K
    refine stepK rfl (by kernel_rfl) (fun K hK => ?_); go_simp
    apply Exists.intro; apply And.intro; (focus (intro wk hk; go_simp; exact ⟨rfl, rfl⟩)); refine hK _ _ ?_; clear hK K
    refine stepK rfl (by kernel_rfl) (fun K hK => ?_); go_simp
    apply Exists.intro; apply And.intro; (focus (intro wk hk; go_simp; exact ⟨rfl, rfl⟩)); refine hK _ _ ?_; clear hK K
    refine stepK rfl (by kernel_rfl) (fun K hK => ?_); go_simp
    first | (refine hK _ _ ?_; clear hK K) | (apply Exists.intro; apply And.intro; (focus (intro wk hk; go_simp; exact ⟨rfl, rfl⟩)); refine hK _ _ ?_; clear hK K)
    refine stepK rfl (by kernel_rfl) (fun K hK => ?_); go_simp
    first | (refine hK _ _ ?_; clear hK K) | (apply Exists.intro; apply And.intro; (focus (intro wk hk; go_simp; exact ⟨rfl, rfl⟩)); refine hK _ _ ?_; clear hK K)
    refine stepK rfl (by kernel_rfl) (fun K hK => ?_); go_simp
    first | (refine hK _ _ ?_; clear hK K) | (apply Exists.intro; apply And.intro; (focus (intro wk hk; go_simp; exact ⟨rfl, rfl⟩)); refine hK _ _ ?_; clear hK K)
    refine stepK rfl (by kernel_rfl) (fun K hK => ?_); go_simp
    first | (refine hK _ _ ?_; clear hK K) | (apply Exists.intro; apply And.intro; (focus (intro wk hk; go_simp; exact ⟨rfl, rfl⟩)); refine hK _ _ ?_; clear hK K)
    refine stepK rfl (by kernel_rfl) (fun K hK => ?_); go_simp
    first | (refine hK _ _ ?_; clear hK K) | (apply Exists.intro; apply And.intro; (focus (intro wk hk; go_simp; exact ⟨rfl, rfl⟩)); refine hK _ _ ?_; clear hK K)
    refine stepK rfl (by kernel_rfl) (fun K hK => ?_); go_simp
    apply Exists.intro; apply And.intro; (focus (intro wk hk; go_simp; exact ⟨rfl, rfl⟩)); refine hK _ _ ?_; clear hK K
    refine stepK rfl (by kernel_rfl) (fun K hK => ?_); go_simp
    apply Exists.intro; apply And.intro; (focus (intro wk hk; go_simp; exact ⟨rfl, rfl⟩)); refine hK _ _ ?_; clear hK K
    refine stepN ?_
    refine hQ _ _ ?_
    intro w9 hT hG hF
    have H9 := Lib.hid (hl.trans (hT.below.mono hl.size))
    clear hT hG hF hQ QQ L hl r2 r3
    go_wp2_with fail
    go_ret
    exact ⟨rfl, H9.out⟩
  have hbb := HB.out.2 e0 e1 rfl rfl rfl
  subst hbb
  clear e0 e1 HB 
  let L : List Sp := [sV 17 [] [] (fun u => u = .bool true), sV 24 [] [] (fun u => u = .bool true), sV 31 [] [] (fun u => u = .bool true), sV 38 [] [] (fun u => u = .bool bC)]
  refine wp_region_six0 (shs L) (look6 L) (None_) (by kernel_rfl) (by kernel_rfl) (mk_St L [] [] (by kernel_rfl) (by kernel_rfl) ⟨ok_V ⟨_, rfl⟩, ok_V ⟨_, rfl⟩, ok_V ⟨_, rfl⟩, ok_V ⟨_, rfl⟩, trivial⟩ (by simp)) ?_
  intro QQ hQ
  refine stepK rfl (by kernel_rfl) (fun K hK => ?_); go_simp
  apply Exists.intro; apply And.intro; (focus (intro wk hk; go_simp; exact ⟨rfl, rfl⟩)); refine hK _ _ ?_; clear hK K
  refine stepK rfl (by kernel_rfl) (fun K hK => ?_); go_simp
  apply Exists.intro; apply And.intro; (focus (intro wk hk; have cc : wk.cell? ⟨w.heap.size, 0, none⟩ = some (.int .i64 tk) := ((K6.Row.tr r2 hk id).cell 0).trans x0; go_simp; exact ⟨rfl, rfl⟩)); refine hK _ _ ?_; clear hK K
  refine stepK rfl (by kernel_rfl) (fun K hK => ?_); go_simp
  apply Exists.intro; apply And.intro; (focus (intro wk hk; go_simp; exact ⟨rfl, rfl⟩)); refine hK _ _ ?_; clear hK K
  refine stepK rfl (by kernel_rfl) (fun K hK => ?_); go_simp
  apply Exists.intro; apply And.intro; (focus (intro wk hk; have cc : wk.cell? ⟨w.heap.size + 1, 0, none⟩ = some (.int .i64 uk) := ((K6.Row.tr r3 hk id).cell 0).trans y0; go_simp; exact ⟨rfl, rfl⟩)); refine hK _ _ ?_; clear hK K
  refine stepK rfl (by kernel_rfl) (fun K hK => ?_); go_simp
  apply Exists.intro; apply And.intro; (focus (intro wk hk; go_simp; exact ⟨rfl, rfl⟩)); refine hK _ _ ?_; clear hK K
  refine stepK rfl (by kernel_rfl) (fun K hK => ?_); go_simp
  apply Exists.intro; apply And.intro; (focus (intro wk hk; go_simp; exact ⟨rfl, rfl⟩)); refine hK _ _ ?_; clear hK K
  refine stepK rfl (by kernel_rfl) (fun K hK => ?_); go_simp
  first | (refine hK _ _ ?_; clear hK K) | (apply Exists.intro; apply And.intro; (focus (intro wk hk; go_simp; exact ⟨rfl, rfl⟩)); refine hK _ _ ?_; clear hK K)
  refine stepK rfl (by kernel_rfl) (fun K hK => ?_); go_simp
  first | (refine hK _ _ ?_; clear hK K) | (apply Exists.intro; apply And.intro; (focus (intro wk hk; have cc : wk.cell? ⟨w.heap.size, 1, none⟩ = some (.int .i64 tf) := ((K6.Row.tr r2 hk id).cell 1).trans x1; go_simp; exact ⟨rfl, rfl⟩)); refine hK _ _ ?_; clear hK K)
  refine stepK rfl (by kernel_rfl) (fun K hK => ?_); go_simp
  first | (refine hK _ _ ?_; clear hK K) | (apply Exists.intro; apply And.intro; (focus (intro wk hk; go_simp; exact ⟨rfl, rfl⟩)); refine hK _ _ ?_; clear hK K)
  refine stepK rfl (by kernel_rfl) (fun K hK => ?_); go_simp
  first | (refine hK _ _ ?_; clear hK K) | (apply Exists.intro; apply And.intro; (focus (intro wk hk; have cc : wk.cell? ⟨w.heap.size + 1, 1, none⟩ = some (.int .i64 uf) := ((K6.Row.tr r3 hk id).cell 1).trans y1; go_simp; exact ⟨rfl, rfl⟩)); refine hK _ _ ?_; clear hK K)
  refine stepK rfl (by kernel_rfl) (fun K hK => ?_); go_simp
  first | (refine hK _ _ ?_; clear hK K) | (apply Exists.intro; apply And.intro; (focus (intro wk hk; go_simp; exact ⟨rfl, rfl⟩)); refine hK _ _ ?_; clear hK K)
  refine stepK rfl (by kernel_rfl) (fun K hK => ?_); go_simp
  apply Exists.intro; apply And.intro; (focus (intro wk hk; go_simp; exact ⟨rfl, rfl⟩)); refine hK _ _ ?_; clear hK K
  refine stepK rfl (by kernel_rfl) (fun K hK => ?_); go_simp
  apply Exists.intro; apply And.intro; (focus (intro wk hk; go_simp; exact ⟨rfl, rfl⟩)); refine hK _ _ ?_; clear hK K
  refine stepK rfl (by kernel_rfl) (fun K hK => ?_); go_simp
  first | (refine hK _ _ ?_; clear hK K) | (apply Exists.intro; apply And.intro; (focus (intro wk hk; go_simp; exact ⟨rfl, rfl⟩)); refine hK _ _ ?_; clear hK K)
  refine stepK rfl (by kernel_rfl) (fun K hK => ?_); go_simp
  first | (refine hK _ _ ?_; clear hK K) | (apply Exists.intro; apply And.intro; (focus (intro wk hk; have cc : wk.cell? ⟨w.heap.size, 2, none⟩ = some (.slice nq1 ln1 nc1) := ((K6.Row.tr r2 hk id).cell 2).trans x2; go_simp; exact ⟨rfl, rfl⟩)); refine hK _ _ ?_; clear hK K)
  refine stepK rfl (by kernel_rfl) (fun K hK => ?_); go_simp
  first | (refine hK _ _ ?_; clear hK K) | (apply Exists.intro; apply And.intro; (focus (intro wk hk; go_simp; exact ⟨rfl, rfl⟩)); refine hK _ _ ?_; clear hK K)
  refine stepK rfl (by kernel_rfl) (fun K hK => ?_); go_simp
  first | (refine hK _ _ ?_; clear hK K) | (apply Exists.intro; apply And.intro; (focus (intro wk hk; have cc : wk.cell? ⟨w.heap.size + 1, 2, none⟩ = some (.slice nq2 ln2 nc2) := ((K6.Row.tr r3 hk id).cell 2).trans y2; go_simp; exact ⟨rfl, rfl⟩)); refine hK _ _ ?_; clear hK K)
  refine stepS _ rfl (by kernel_rfl) (fun K hK => ?_); go_simp
  refine ⟨?_, ?_⟩
  · intro wk hk hg hu; go_simp; refine upon_enter ((kI.out _ (hl.trans (hk.below.mono hl.size))).mono ?_); rintro e w' ⟨rfl, hb⟩; exact ⟨_, rfl, left_V (p := fun u => u = .bool true) rfl (hb) rfl⟩
  rintro ⟨v17, lo17, hi17⟩ - - (rfl : v17 = _)
  refine hK _ _ ?_; clear hK K
  refine stepK rfl (by kernel_rfl) (fun K hK => ?_); go_simp
  apply Exists.intro; apply And.intro; (focus (intro wk hk; go_simp; exact ⟨rfl, rfl⟩)); refine hK _ _ ?_; clear hK K
  refine stepK rfl (by kernel_rfl) (fun K hK => ?_); go_simp
  apply Exists.intro; apply And.intro; (focus (intro wk hk; go_simp; exact ⟨rfl, rfl⟩)); refine hK _ _ ?_; clear hK K
  refine stepK rfl (by kernel_rfl) (fun K hK => ?_); go_simp
  first | (refine hK _ _ ?_; clear hK K) | (apply Exists.intro; apply And.intro; (focus (intro wk hk; go_simp; exact ⟨rfl, rfl⟩)); refine hK _ _ ?_; clear hK K)
  refine stepK rfl (by kernel_rfl) (fun K hK => ?_); go_simp
  first | (refine hK _ _ ?_; clear hK K) | (apply Exists.intro; apply And.intro; (focus (intro wk hk; have cc : wk.cell? ⟨w.heap.size, 3, none⟩ = some (.slice aq1 la1 ac1) := ((K6.Row.tr r2 hk id).cell 3).trans x3; go_simp; exact ⟨rfl, rfl⟩)); refine hK _ _ ?_; clear hK K)
  refine stepK rfl (by kernel_rfl) (fun K hK => ?_); go_simp
  first | (refine hK _ _ ?_; clear hK K) | (apply Exists.intro; apply And.intro; (focus (intro wk hk; go_simp; exact ⟨rfl, rfl⟩)); refine hK _ _ ?_; clear hK K)
  refine stepK rfl (by kernel_rfl) (fun K hK => ?_); go_simp
  first | (refine hK _ _ ?_; clear hK K) | (apply Exists.intro; apply And.intro; (focus (intro wk hk; have cc : wk.cell? ⟨w.heap.size + 1, 3, none⟩ = some (.slice aq2 la2 ac2) := ((K6.Row.tr r3 hk id).cell 3).trans y3; go_simp; exact ⟨rfl, rfl⟩)); refine hK _ _ ?_; clear hK K)
  refine stepS _ rfl (by kernel_rfl) (fun K hK => ?_); go_simp
  refine ⟨?_, ?_⟩
  · intro wk hk hg hu; go_simp; refine upon_enter ((kU.out _ (hl.trans (hk.below.mono hl.size))).mono ?_); rintro e w' ⟨rfl, hb⟩; exact ⟨_, rfl, left_V (p := fun u => u = .bool true) rfl (hb) rfl⟩
  rintro ⟨v24, lo24, hi24⟩ - - (rfl : v24 = _)
  refine hK _ _ ?_; clear hK K
  refine stepK rfl (by kernel_rfl) (fun K hK => ?_); go_simp
  apply Exists.intro; apply And.intro; (focus (intro wk hk; go_simp; exact ⟨rfl, rfl⟩)); refine hK _ _ ?_; clear hK K
  refine stepK rfl (by kernel_rfl) (fun K hK => ?_); go_simp
  apply Exists.intro; apply And.intro; (focus (intro wk hk; go_simp; exact ⟨rfl, rfl⟩)); refine hK _ _ ?_; clear hK K
  refine stepK rfl (by kernel_rfl) (fun K hK => ?_); go_simp
  first | (refine hK _ _ ?_; clear hK K) | (apply Exists.intro; apply And.intro; (focus (intro wk hk; go_simp; exact ⟨rfl, rfl⟩)); refine hK _ _ ?_; clear hK K)
  refine stepK rfl (by kernel_rfl) (fun K hK => ?_); go_simp
  first | (refine hK _ _ ?_; clear hK K) | (apply Exists.intro; apply And.intro; (focus (intro wk hk; have cc : wk.cell? ⟨w.heap.size, 4, none⟩ = some (.slice hq1 lh1 hc1) := ((K6.Row.tr r2 hk id).cell 4).trans x4; go_simp; exact ⟨rfl, rfl⟩)); refine hK _ _ ?_; clear hK K)
  refine stepK rfl (by kernel_rfl) (fun K hK => ?_); go_simp
  first | (refine hK _ _ ?_; clear hK K) | (apply Exists.intro; apply And.intro; (focus (intro wk hk; go_simp; exact ⟨rfl, rfl⟩)); refine hK _ _ ?_; clear hK K)
  refine stepK rfl (by kernel_rfl) (fun K hK => ?_); go_simp
  first | (refine hK _ _ ?_; clear hK K) | (apply Exists.intro; apply And.intro; (focus (intro wk hk; have cc : wk.cell? ⟨w.heap.size + 1, 4, none⟩ = some (.slice hq2 lh2 hc2) := ((K6.Row.tr r3 hk id).cell 4).trans y4; go_simp; exact ⟨rfl, rfl⟩)); refine hK _ _ ?_; clear hK K)
  refine stepS _ rfl (by kernel_rfl) (fun K hK => ?_); go_simp
  refine ⟨?_, ?_⟩
  · intro wk hk hg hu; go_simp; refine upon_enter ((kH.out _ (hl.trans (hk.below.mono hl.size))).mono ?_); rintro e w' ⟨rfl, hb⟩; exact ⟨_, rfl, left_V (p := fun u => u = .bool true) rfl (hb) rfl⟩
  rintro ⟨v31, lo31, hi31⟩ - - (rfl : v31 = _)
  refine hK _ _ ?_; clear hK K
  refine stepK rfl (by kernel_rfl) (fun K hK => ?_); go_simp
  apply Exists.intro; apply And.intro; (focus (intro wk hk; go_simp; exact ⟨rfl, rfl⟩)); refine hK _ _ ?_; clear hK K
  refine stepK rfl (by kernel_rfl) (fun K hK => ?_); go_simp
  apply Exists.intro; apply And.intro; (focus (intro wk hk; go_simp; exact ⟨rfl, rfl⟩)); refine hK _ _ ?_; clear hK K
  refine stepK rfl (by kernel_rfl) (fun K hK => ?_); go_simp
  first | (refine hK _ _ ?_; clear hK K) | (apply Exists.intro; apply And.intro; (focus (intro wk hk; go_simp; exact ⟨rfl, rfl⟩)); refine hK _ _ ?_; clear hK K)
  refine stepK rfl (by kernel_rfl) (fun K hK => ?_); go_simp
  first | (refine hK _ _ ?_; clear hK K) | (apply Exists.intro; apply And.intro; (focus exact kLoadMid rfl rfl aggT114 r2 xm xs id); refine hK _ _ ?_; clear hK K)
  refine stepK rfl (by kernel_rfl) (fun K hK => ?_); go_simp
  first | (refine hK _ _ ?_; clear hK K) | (apply Exists.intro; apply And.intro; (focus (intro wk hk; go_simp; exact ⟨rfl, rfl⟩)); refine hK _ _ ?_; clear hK K)
  refine stepK rfl (by kernel_rfl) (fun K hK => ?_); go_simp
  first | (refine hK _ _ ?_; clear hK K) | (apply Exists.intro; apply And.intro; (focus exact kLoadMid rfl rfl aggT114 r3 ym ys id); refine hK _ _ ?_; clear hK K)
  refine stepS _ rfl (by kernel_rfl) (fun K hK => ?_); go_simp
  refine ⟨?_, ?_⟩
  · intro wk hk hg hu; go_simp; refine upon_enter ((kC.out _ (hl.trans (hk.below.mono hl.size))).mono ?_); rintro e w' ⟨rfl, hb⟩; exact ⟨_, rfl, left_V (p := fun u => u = .bool bC) rfl (hb) rfl⟩
  rintro ⟨v38, lo38, hi38⟩ - - (rfl : v38 = _)
  refine hK _ _ ?_; clear hK K
  refine stepK rfl (by kernel_rfl) (fun K hK => ?_); go_simp
  apply Exists.intro; apply And.intro; (focus (intro wk hk; go_simp; exact ⟨rfl, rfl⟩)); refine hK _ _ ?_; clear hK K
  refine stepK rfl (by kernel_rfl) (fun K hK => ?_); go_simp
  apply Exists.intro; apply And.intro; (focus (intro wk hk; go_simp; exact ⟨rfl, rfl⟩)); refine hK _ _ ?_; clear hK K
  refine stepN ?_
  refine hQ _ _ ?_
  intro w9 hT hG hF
  have H9 := Lib.hid (hl.trans (hT.below.mono hl.size))
  clear hT hG hF hQ QQ L hl r2 r3
  go_wp2_with fail
  go_ret
  exact ⟨rfl, H9.out⟩
end Go.Proofs.Ytpdenhmkpiafiaa
namespace Go.Proofs.Ytpdenhmkpiafiaa
open Go Go.RowKit K6
def lightB (t : Txv) : Bool := decide (t.n.length ≤ 50) && (decide (t.a.length ≤ 50) && (decide (t.h.length ≤ 50) && (decide (t.c.p.length ≤ 50) && (decide (t.c.l.length ≤ 50) && t.c.l.all fun x => decide (x.p.length ≤ 50)))))
theorem lightB_is {t : Txv} (h : lightB t = true) : LightT t := by
  unfold lightB at h
  simp only [Bool.and_eq_true, decide_eq_true_eq, List.all_eq_true] at h
  exact ⟨h.1, h.2.1, h.2.2.1, h.2.2.2.1, h.2.2.2.2.1, h.2.2.2.2.2⟩
structure LenT (t : Txv) : Prop where
  n : t.n.length ≤ 9223372036854775807
  a : t.a.length ≤ 9223372036854775807
  h : t.h.length ≤ 9223372036854775807
  p : t.c.p.length ≤ 9223372036854775807
  l : t.c.l.length ≤ 9223372036854775807
  q : ∀ x ∈ t.c.l, x.p.length ≤ 9223372036854775807
set_option maxRecDepth 100000 in
set_option maxHeartbeats 64000000 in
theorem light15_at (t : Txv) (w : World) (ht : TxOk w t) (hm : LenT t) :
    Calls Try.prog 134 #[.agg t.cs.toArray] w fun r w' => r = .returned (.bool (lightB t)) ∧ Below w.heap.size w w' := by
  have x2 := tA2 t
  have x3 := tA3 t
  have x4 := tA4 t
  have x5 : t.cs.toArray[40]? = some (.slice t.c.pq t.c.p.length t.c.pc) := Txv.c_ t 35 _ (cA35 ht.c.tok)
  have x6 : t.cs.toArray[41]? = some (.slice t.c.lq t.c.l.length t.c.lc) := Txv.c_ t 36 _ (cA36 ht.c.tok)
  obtain ⟨b, hb⟩ : ∃ b, lightB t = b := ⟨_, rfl⟩
  have hb' : (decide (t.n.length ≤ 50) && (decide (t.a.length ≤ 50) && (decide (t.h.length ≤ 50) && (decide (t.c.p.length ≤ 50) && (decide (t.c.l.length ≤ 50) && t.c.l.all fun x => decide (x.p.length ≤ 50)))))) = b := hb
  rw [hb]
  have HLs := ht.c.l
  unfold Cm.lv at HLs
  have hqq := hm.q
  obtain ⟨nn, hnn⟩ : ∃ n, t.n.length = n := ⟨_, rfl⟩
  have hmn := hm.n
  rw [hnn] at hmn hb' x2
  obtain ⟨na, hna⟩ : ∃ n, t.a.length = n := ⟨_, rfl⟩
  have hma := hm.a
  rw [hna] at hma hb' x3
  obtain ⟨nh, hnh⟩ : ∃ n, t.h.length = n := ⟨_, rfl⟩
  have hmh := hm.h
  rw [hnh] at hmh hb' x4
  obtain ⟨np, hnp⟩ : ∃ n, t.c.p.length = n := ⟨_, rfl⟩
  have hmp := hm.p
  rw [hnp] at hmp hb' x5
  obtain ⟨nl, hnl⟩ : ∃ n, t.c.l.length = n := ⟨_, rfl⟩
  have hml := hm.l
  rw [hnl] at hml hb' x6 HLs
  obtain ⟨ll, hll⟩ : ∃ l, t.c.l = l := ⟨_, rfl⟩
  rw [hll] at HLs hb' hqq hnl
  obtain ⟨lq, hlq⟩ : ∃ q, t.c.lq = q := ⟨_, rfl⟩
  obtain ⟨lc, hlc⟩ : ∃ q, t.c.lc = q := ⟨_, rfl⟩
  rw [hlq, hlc] at x6 HLs
  obtain ⟨nq, hnq⟩ : ∃ q, t.nq = q := ⟨_, rfl⟩
  obtain ⟨nc, hnc⟩ : ∃ q, t.nc = q := ⟨_, rfl⟩
  rw [hnq, hnc] at x2
  obtain ⟨aq, haq⟩ : ∃ q, t.aq = q := ⟨_, rfl⟩
  obtain ⟨ac, hac⟩ : ∃ q, t.ac = q := ⟨_, rfl⟩
  rw [haq, hac] at x3
  obtain ⟨hq, hhq⟩ : ∃ q, t.hq = q := ⟨_, rfl⟩
  obtain ⟨hc, hhc⟩ : ∃ q, t.hc = q := ⟨_, rfl⟩
  rw [hhq, hhc] at x4
  obtain ⟨pq, hpq⟩ : ∃ q, t.c.pq = q := ⟨_, rfl⟩
  obtain ⟨pc, hpc⟩ : ∃ q, t.c.pc = q := ⟨_, rfl⟩
  rw [hpq, hpc] at x5
  obtain ⟨ct, hct⟩ : ∃ c, t.cs.toArray = c := ⟨_, rfl⟩
  rw [hct] at x2 x3 x4 x5 x6 ⊢
  have HB := Lib.hid hb'
  have HC := Lib.hid (show _ ∧ _ ∧ _ from ⟨HLs, hqq, hnl⟩)
  have mn : (nn : Int) ≤ 9223372036854775807 := by omega
  have ma : (na : Int) ≤ 9223372036854775807 := by omega
  have mh : (nh : Int) ≤ 9223372036854775807 := by omega
  have mp : (np : Int) ≤ 9223372036854775807 := by omega
  have ml : (nl : Int) ≤ 9223372036854775807 := by omega
  clear hb hb' HLs hqq hnn hna hnh hnp hnl hmn hma hmh hmp hml hll hlq hlc hnq hnc haq hac hhq hhc hpq hpc hct ht hm
  go_enter Try.func134, Try.ntmps134
  go_upto_region 1 with (fail)
  refine wp_abs (Mem w [(w.heap.size, 116, ct)]) ⟨by go_grown, by (repeat (first | (refine Row.new_at ?_; simp; done) | refine Row.alloc ?_ _)), trivial⟩ ?_
  intro w0 hM
  obtain ⟨hl, r1, -⟩ := hM
  have d2 := (r1.cell 2).trans x2
  have d3 := (r1.cell 3).trans x3
  have d4 := (r1.cell 4).trans x4
  have d5 := (r1.cell 40).trans x5
  have d6 := (r1.cell 41).trans x6
  have HL := Lib.hid hl
  clear hl r1 x2 x3 x4 x5 x6
  by_cases h0 : 50 < nn
  · have q0 : 50 < (nn : Int) := by omega
    have hbb : b = false := by rw [← HB.out, decide_eq_false (show ¬ nn ≤ 50 by omega)]; simp
    subst hbb
    clear HB HC h0
    go_wp2_with fail
    go_ret
    exact ⟨rfl, HL.out⟩
  have q0 : (nn : Int) ≤ 50 := by omega
  by_cases h1 : 50 < na
  · have q1 : 50 < (na : Int) := by omega
    have hbb : b = false := by rw [← HB.out, decide_eq_false (show ¬ na ≤ 50 by omega)]; simp
    subst hbb
    clear HB HC h1
    go_wp2_with fail
    go_ret
    exact ⟨rfl, HL.out⟩
  have q1 : (na : Int) ≤ 50 := by omega
  by_cases h2 : 50 < nh
  · have q2 : 50 < (nh : Int) := by omega
    have hbb : b = false := by rw [← HB.out, decide_eq_false (show ¬ nh ≤ 50 by omega)]; simp
    subst hbb
    clear HB HC h2
    go_wp2_with fail
    go_ret
    exact ⟨rfl, HL.out⟩
  have q2 : (nh : Int) ≤ 50 := by omega
  by_cases h3 : 50 < np
  · have q3 : 50 < (np : Int) := by omega
    have hbb : b = false := by rw [← HB.out, decide_eq_false (show ¬ np ≤ 50 by omega)]; simp
    subst hbb
    clear HB HC h3
    go_wp2_with fail
    go_ret
    exact ⟨rfl, HL.out⟩
  have q3 : (np : Int) ≤ 50 := by omega
  by_cases h4 : 50 < nl
  · have q4 : 50 < (nl : Int) := by omega
    have hbb : b = false := by rw [← HB.out, decide_eq_false (show ¬ nl ≤ 50 by omega)]; simp
    subst hbb
    clear HB HC h4
    go_wp2_with fail
    go_ret
    exact ⟨rfl, HL.out⟩
  have q4 : (nl : Int) ≤ 50 := by omega
  have HB2 := Lib.hid (show (ll.all fun x => decide (x.p.length ≤ 50)) = b by have h := HB.out; rw [decide_eq_true (show nn ≤ 50 by omega), decide_eq_true (show na ≤ 50 by omega), decide_eq_true (show nh ≤ 50 by omega), decide_eq_true (show np ≤ 50 by omega), decide_eq_true (show nl ≤ 50 by omega)] at h; simpa using h)
  clear HB h0 h1 h2 h3 h4
  go_wp2_with fail
  clear d2 d3 d4 d5 d6
  go_loopg [39] nl (fun gg s39 wr => ∃ i : Nat, i + gg = nl ∧ s39 = .int .i64 (i : Int) ∧ Hid (∀ (j : Nat) (x : Lf), j < i → ll[j]? = some x → decide (x.p.length ≤ 50) = true) ∧ Hid (Below w.heap.size w wr))
  case atStart => exact ⟨0, by omega, rfl, Lib.hid (fun j e h => absurd h (Nat.not_lt_zero j)), HL⟩
  case round =>
    clear HL
    obtain ⟨i, him, rfl, hall, hinv⟩ := hrel
    by_cases hi : i < nl
    · obtain ⟨x, hx⟩ : ∃ x, ll[i]? = some x := ⟨_, List.getElem?_eq_getElem (by have := HC.out.2.2; omega)⟩
      obtain ⟨gx, ox, cx', hu, hgx, hcx⟩ := (HC.out.1.below hinv.out).1.get hx
      simp only [Value.slice.injEq] at hu
      obtain ⟨rfl, -, -⟩ := hu
      have hql := HC.out.2.1 x (List.mem_of_getElem? hx)
      have y6 := lA6 x
      obtain ⟨Y, hY⟩ : ∃ Y, (lfc x).toArray = Y := ⟨_, rfl⟩
      have hYsz : (lfc x).toArray.size = 7 := rfl
      have hYone := lfc_one x
      replace hcx : ∀ j v, (lfc x).toArray.toList[j]? = some v → wr.cell? ⟨gx, ox + i * 7 + j, none⟩ = some v := hcx
      rw [hY] at y6 hYsz hYone hcx
      have hinf := info198 hYsz
      have HO := Lib.hid hx
      obtain ⟨xn, hxn⟩ : ∃ n, x.p.length = n := ⟨_, rfl⟩
      obtain ⟨xq, hxq⟩ : ∃ n, x.pq = n := ⟨_, rfl⟩
      obtain ⟨xc, hxc⟩ : ∃ n, x.pc = n := ⟨_, rfl⟩
      rw [hxn] at hql
      rw [hxn, hxq, hxc] at y6
      have hqi : (xn : Int) ≤ 9223372036854775807 := by omega
      have HXN := Lib.hid hxn
      clear hx hY hql hxq hxc hxn
      have hlt : (i : Int) < (nl : Int) := by omega
      go_upto_region 5 with (fail)
      let L : List Sp := [sA 2 198 [3] #[.int .i64 0, .int .i64 0, .int .u64 0, .int .u64 0, .int .u64 0, .int .u64 0, .slice none 0 0], sT 3 2 198 [1] (fun g => aggOf g 1)]
      refine wp_region_six0 (shs L) (look6 L) (None_) (by kernel_rfl) (by kernel_rfl) (mk_St L [] [] (by kernel_rfl) (by kernel_rfl) ⟨ok_A, ok_T aggOf_congr, trivial⟩ (by simp)) ?_
      intro QQ hQ
      refine stepK rfl (by kernel_rfl) (fun K hK => ?_); go_simp
      apply Exists.intro; apply And.intro; (focus (intro wk hk; go_simp; exact ⟨rfl, rfl⟩)); refine hK _ _ ?_; clear hK K
      refine stepK rfl (by kernel_rfl) (fun K hK => ?_); go_simp
      apply Exists.intro; apply And.intro; (focus exact kLoadA rfl rfl aggT198 hcx hYsz hgx id); refine hK _ _ ?_; clear hK K
      refine stepS _ rfl (by kernel_rfl) (fun K hK => ?_); go_simp
      refine ⟨?_, ?_⟩
      · intro wk hk hg hu; go_simp; exact left_A rfl rfl
      rintro ⟨v2, lo2, hi2⟩ hlo2 hhi2 ⟨e2, f2⟩
      replace e2 : v2 = .pointer (some ⟨lo2, 0, none⟩) := e2; replace f2 : hi2 = lo2 + 1 := f2; replace hlo2 : _ ≤ lo2 := hlo2; subst e2; subst f2
      refine hK _ _ ?_; clear hK K
      refine stepS _ rfl (by kernel_rfl) (fun K hK => ?_); go_simp
      refine ⟨?_, ?_⟩
      · exact sStoreT rfl rfl rfl rfl rfl rfl rfl hinf hYsz.symm hYone (by decide) aggOf_congr
      rintro ⟨v3, lo3, hi3⟩ - - (rfl : v3 = undef)
      refine hK _ _ ?_; clear hK K
      refine stepN ?_
      refine hQ _ _ ?_
      intro w4 hT hG hF
      have hbw4 := hT.below
      have rY : Row w4 lo2 198 Y := (hF 3 _ rfl rfl (by decide)).2
      clear hT hG hF hQ QQ L hcx hgx
      have HL5 := Lib.hid (hinv.out.trans (hbw4.mono hinv.out.size))
      have d6 := (rY.cell 6).trans y6
      clear hbw4 hinv rY hYone hinf hYsz
      by_cases h5 : 50 < xn
      · have h5i : 50 < (xn : Int) := by omega
        have hbb : b = false := by rw [← HB2.out]; exact all_not HO.out (decide_eq_false (by have := HXN.out; omega))
        subst hbb
        clear hall HB2 HC HO HXN h5
        go_wp2_with fail
        go_ret
        exact ⟨rfl, HL5.out⟩
      · have h5i : (xn : Int) ≤ 50 := by omega
        have hnext := Lib.hid (show decide (x.p.length ≤ 50) = true from decide_eq_true (by have := HXN.out; omega))
        clear h5 HXN
        go_wp2_with fail
        go_roundg (gk - 1)
        case measure => omega
        case rel =>
          refine ⟨i + 1, by omega, by go_num, Lib.hid fun j e hj hje => ?_, HL5⟩
          rcases Nat.lt_or_ge j i with h | h
          · exact hall.out j e h hje
          · obtain rfl : j = i := by omega
            have h1 := HO.out.symm.trans hje
            injection h1 with h1
            rw [← h1]
            exact of_eq_true (by simp [of_decide_eq_true hnext.out])
    · obtain rfl : i = nl := by omega
      have hlt : ¬ (i : Int) < (i : Int) := by omega
      have hbt : b = true := by rw [← HB2.out]; exact all_all (fun j e hj hje => hall.out j e (by have := HC.out.2.2; omega) hje)
      subst hbt
      go_wp2_with fail
      go_ret
      exact ⟨rfl, hinv.out⟩
end Go.Proofs.Ytpdenhmkpiafiaa
