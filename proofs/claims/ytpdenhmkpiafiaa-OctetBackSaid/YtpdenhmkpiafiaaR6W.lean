/-
  THE LAW K6 MADE READY, ITS SECOND PART: what the calls over numbers of four words yield.
-/
import Derived.Test.YtpdenhmkpiafiaaR6
import Derived.Test.YtpdenhmkpiafiaaFrom
namespace Go.Proofs.Ytpdenhmkpiafiaa
open Go Go.RowKit K6

def PairV (n : Nat) (ok : Bool) (v : Value) : Prop := ∃ x0 x1 x2 x3 : Int, v = .tuple #[.agg #[.int .u64 x0, .int .u64 x1, .int .u64 x2, .int .u64 x3], .bool ok] ∧ IsW x0 x1 x2 x3 n
def OneV (n : Nat) (v : Value) : Prop := ∃ x0 x1 x2 x3 : Int, v = .agg #[.int .u64 x0, .int .u64 x1, .int .u64 x2, .int .u64 x3] ∧ IsW x0 x1 x2 x3 n
def TripV (q r : Nat) (ok : Bool) (v : Value) : Prop := ∃ x0 x1 x2 x3 y0 y1 y2 y3 : Int, v = .tuple #[.agg #[.int .u64 x0, .int .u64 x1, .int .u64 x2, .int .u64 x3], .agg #[.int .u64 y0, .int .u64 y1, .int .u64 y2, .int .u64 y3], .bool ok] ∧ IsW x0 x1 x2 x3 q ∧ IsW y0 y1 y2 y3 r
theorem pairV_some {n : Nat} (h : n < M) (ok : Bool) : ∃ v, PairV n ok v := ⟨_, _, _, _, _, rfl, wordsOf_isW n h⟩
theorem oneV_some {n : Nat} (h : n < M) : ∃ v, OneV n v := ⟨_, _, _, _, _, rfl, wordsOf_isW n h⟩
theorem tripV_some {q r : Nat} (h : q < M) (h' : r < M) (ok : Bool) : ∃ v, TripV q r ok v := ⟨_, _, _, _, _, _, _, _, _, rfl, wordsOf_isW q h, wordsOf_isW r h'⟩
theorem M_pos : 0 < M := by unfold M; omega
theorem add_lt (a b : Nat) : addN a b < M := by
  unfold addN; split
  · assumption
  · exact M_pos
theorem mul_lt (a b : Nat) : mulN a b < M := by
  unfold mulN; split
  · assumption
  · exact M_pos
theorem any_some (w1 : World) : ∃ x : GV, w1.heap.size ≤ x.lo ∧ x.lo ≤ x.hi ∧ True := ⟨⟨undef, w1.heap.size, w1.heap.size⟩, Nat.le_refl _, Nat.le_refl _, trivial⟩
/-- the cells of a whole value -/
def aggOf (g : Ghost) (k : Nat) : Array Value := match (g k).v with | .agg cs => cs | _ => #[]
theorem aggOf_congr {k : Nat} (g g' : Ghost) (h : ∀ x ∈ [k], g' x = g x) : aggOf g' k = aggOf g k := by unfold aggOf; rw [h k (by simp)]
/-- the cells of a whole value behind a number -/
theorem Row.four4' {w : World} {g t : Nat} {x0 x1 x2 x3 : Int} (h : Row w g t #[.int .u64 x0, .int .u64 x1, .int .u64 x2, .int .u64 x3]) : Row w g t (arr .u64 (sel4 x0 x1 x2 x3) 4) := h
/-- what is written below is as it was -/
theorem Mem.of {w wc w' : World} {L : List (Nat × Nat × Array Value)} {X : Nat → Prop} (h : Mem w [] wc) (hT : Tr X wc w') (hx : ∀ c, X c → w.heap.size ≤ c) (hr : RowL L w') : Mem w L w' := ⟨h.1.trans (hT.below_of h.1.size hx), hr⟩
end Go.Proofs.Ytpdenhmkpiafiaa
