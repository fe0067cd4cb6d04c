/-
  Two numbers in one block of eight words: a store into one of them.
-/
import Derived.Test.YtpdenhmkpiafiaaMDown
import Derived.Deep.MidRow
import Derived.Deep.Upon
namespace Go.Proofs.Ytpdenhmkpiafiaa
open Go Go.RowKit K6

theorem aggT192 : AggT Try.prog 192 8 := ⟨⟨_, Try.underlying192, rfl⟩, by kernel_rfl⟩
theorem aggT132 : AggT Try.prog 132 8 := ⟨⟨_, Try.underlying132, rfl⟩, by kernel_rfl⟩
theorem build192 (s t : Nat) (w : World) : (Instr.build 192 #[(0, .agg (W4 s)), (1, .agg (W4 t))]).run Try.prog w = .ok (.agg (W8 s t)) w := run_build w 192 _ _ (by kernel_rfl)
theorem build92 (s t : Nat) (w : World) : (Instr.build 92 #[(0, .agg (W4 s)), (1, .agg (W4 t))]).run Try.prog w = .ok (.agg (W8 s t)) w := run_build w 92 _ _ (by kernel_rfl)
namespace K6
theorem row_hi {w : World} {b t h l q : Nat} (hr : Row w b t (W8 h l)) : Row (w.setCells b 0 (W4 q).toList) b t (W8 q l) :=
  (((((hr.set 0 (.int .u64 (wordsOf q 0))).set 1 (.int .u64 (wordsOf q 1))).set 2 (.int .u64 (wordsOf q 2))).set 3 (.int .u64 (wordsOf q 3)))).congr rfl
theorem row_lo {w : World} {b t h l q : Nat} (hr : Row w b t (W8 h l)) : Row (w.setCells b 4 (W4 q).toList) b t (W8 h q) :=
  (((((hr.set 4 (.int .u64 (wordsOf q 0))).set 5 (.int .u64 (wordsOf q 1))).set 6 (.int .u64 (wordsOf q 2))).set 7 (.int .u64 (wordsOf q 3)))).congr rfl
theorem there8 {w : World} {b t h l o : Nat} (hr : Row w b t (W8 h l)) (ho : o + 4 ≤ 8) : w.there b o 4 := fun j hj => by
  refine ⟨?_, hr.frozen _⟩
  rw [hr.cell]
  have : o + j < (W8 h l).size := by show o + j < 8; omega
  rw [Array.getElem?_eq_getElem this]; rfl
theorem setCells_far {w : World} {b o c : Nat} {vs : List Value} (h : c ≠ b) : (w.setCells b o vs).heap[c]? = w.heap[c]? := by
  rcases Nat.lt_or_ge c w.heap.size with h1 | h1
  · exact World.heap_setCells_other w b o vs h1 h
  · have hs : (w.setCells b o vs).heap.size = w.heap.size := by
      clear h1 h
      induction vs generalizing w o with
      | nil => rfl
      | cons v r ih => rw [World.setCells, ih]; simp
    rw [Array.getElem?_eq_none h1, Array.getElem?_eq_none (by rw [hs]; exact h1)]
theorem size_setCells {w : World} {b o : Nat} {vs : List Value} : (w.setCells b o vs).heap.size = w.heap.size := by
  induction vs generalizing w o with
  | nil => rfl
  | cons v r ih => rw [World.setCells, ih]; simp
theorem tape_setCells {w : World} {b o : Nat} {vs : List Value} : (w.setCells b o vs).tape = w.tape := by
  induction vs generalizing w o with
  | nil => rfl
  | cons v r ih => rw [World.setCells, ih]; rfl
theorem run_store_mid {P : Program} {o : Oper} {a : Act} {ty : TypeId} {x y : Operand} {b off t h l q : Nat} {w : World} (ho : o.op = .store ty x y) (hx : a.eval x = .pointer (some ⟨b, off, none⟩)) (hy : a.eval y = .agg (W4 q)) (hr : Row w b t (W8 h l)) (hoff : off + 4 ≤ 8)
    (hi : (P.info? ty).map (·.size) = some 4) : (execOp a.eval o).run P w = .ok .skip (w.setCells b off (W4 q).toList) := by
  unfold execOp
  simp only [ho, hx, hy, Sem.run_bind, Sem.run_pure, Result.andThen_ok, run_storeAt_mid w b off ty (W4 q) (there8 hr hoff) hi (by kernel_rfl)]
theorem sStoreHi {P : Program} {o : Oper} {a : Act} {w1 : World} {sh : List Sh} {g : Ghost} {X : Nat → Prop} {l : List Sp} {i b t h lo q : Nat} {D : List Nat} {cells : Ghost → Array Value} {s : Sh} (hl : look6 l s.i = (sO i b t D cells).2) (hs : s = (sO i b t D cells).1)
    {ty : TypeId} {x y : Operand} (ho : o.op = .store ty x y) (hx : a.eval x = .pointer (some ⟨b, 0, none⟩)) (hy : a.eval y = .agg (W4 q)) (hcs : cells g = W8 q lo) (hr : Row w1 b t (W8 h lo)) (hX : ¬ X b)
    (hi : (P.info? ty).map (·.size) = some 4) (hik : i ∉ D) (hc : ∀ g g', (∀ x ∈ D, g' x = g x) → cells g' = cells g) : sOut P w1 sh (look6 l) X o a s g := by
  intro w hT hg hu
  rw [run_store_mid ho hx hy (Row.tr hr hT hX) (by omega) hi]
  exact left_O hl hs hik hc (fun b hb => setCells_far hb) (World.os_setCells _ _ _ _) tape_setCells (World.output_setCells _ _ _ _) size_setCells (hcs ▸ row_hi (Row.tr hr hT hX))
theorem sStoreLo {P : Program} {o : Oper} {a : Act} {w1 : World} {sh : List Sh} {g : Ghost} {X : Nat → Prop} {l : List Sp} {i b t h lo q : Nat} {D : List Nat} {cells : Ghost → Array Value} {s : Sh} (hl : look6 l s.i = (sO i b t D cells).2) (hs : s = (sO i b t D cells).1)
    {ty : TypeId} {x y : Operand} (ho : o.op = .store ty x y) (hx : a.eval x = .pointer (some ⟨b, 4, none⟩)) (hy : a.eval y = .agg (W4 q)) (hcs : cells g = W8 h q) (hr : Row w1 b t (W8 h lo)) (hX : ¬ X b)
    (hi : (P.info? ty).map (·.size) = some 4) (hik : i ∉ D) (hc : ∀ g g', (∀ x ∈ D, g' x = g x) → cells g' = cells g) : sOut P w1 sh (look6 l) X o a s g := by
  intro w hT hg hu
  rw [run_store_mid ho hx hy (Row.tr hr hT hX) (by omega) hi]
  exact left_O hl hs hik hc (fun b hb => setCells_far hb) (World.os_setCells _ _ _ _) tape_setCells (World.output_setCells _ _ _ _) size_setCells (hcs ▸ row_lo (Row.tr hr hT hX))
theorem hi_congr {y : Nat} {l : Nat} : ∀ g g' : Ghost, (∀ x ∈ [y], g' x = g x) → aggOf g' y ++ W4 l = aggOf g y ++ W4 l := fun g g' h => by
  unfold aggOf; rw [h y (by simp)]
theorem lo_congr {y : Nat} {h : Nat} : ∀ g g' : Ghost, (∀ x ∈ [y], g' x = g x) → W4 h ++ aggOf g' y = W4 h ++ aggOf g y := fun g g' hh => by
  unfold aggOf; rw [hh y (by simp)]
theorem kBuild {P : Program} {o : Oper} {a : Act} {w1 : World} {X : Nat → Prop} {t : TypeId} {x y : Operand} {i j : Nat} {u v z : Value} (ho : o.op = .build t #[(i, x), (j, y)]) (hx : a.eval x = u) (hy : a.eval y = v) (h : ∀ w, (Instr.build t #[(i, u), (j, v)]).run P w = .ok z w) : kOut P w1 X o a z := by
  intro w hw
  unfold execOp
  simp only [ho, List.map_toArray, List.map_cons, List.map_nil, hx, hy, Sem.run_bind, Sem.run_pure, Result.andThen_ok, h w]
  exact ⟨rfl, rfl⟩
end K6
end Go.Proofs.Ytpdenhmkpiafiaa
