/-
  tallagelaw01.lives: the document's examples of layer 1 are as it says.
-/
import Derived.Test.YtpdenhmkpiafiaaBytes
namespace Go.Proofs.Ytpdenhmkpiafiaa
open Go Go.RowKit

theorem M_big (n : Nat) (h : n < 18446744073709551616) : n < M := by unfold M; omega

set_option maxRecDepth 100000 in
set_option maxHeartbeats 2000000 in
theorem lives1_any (w : World) : Calls Try.prog 50 #[] w fun e w' => e = .returned (.bool true) ∧ Below w.heap.size w w' := by
  have q31 := eq31
  go_enter Try.func50, Try.ntmps50
  go_wp2_with fail
  refine (sub_any 1 0 0 0 2 0 0 0 1 2 (isW_word rfl (by omega)) (isW_word rfl (by omega)) _).mono ?_
  rintro e w1 ⟨x0, x1, x2, x3, rfl, hx, hb1⟩
  have s1 : subB 1 2 = false := by decide
  rw [s1]
  have z1 := hb1.size
  go_wp2_with fail
  refine (div_any 7 0 0 0 2 0 0 0 7 2 (isW_word rfl (by omega)) (isW_word rfl (by omega)) _).mono ?_
  rintro e w2 ⟨q0, q1, q2, q3, r0, r1, r2, r3, rfl, hq, hr, hb2⟩
  obtain ⟨rfl, rfl, rfl, rfl⟩ := (isW_word (x := 3) (n := 7 / 2) (by decide) (by decide)).uniq hq
  obtain ⟨rfl, rfl, rfl, rfl⟩ := (isW_word (x := 1) (n := divR 7 2) (by decide) (by decide)).uniq hr
  have z2 := hb2.size
  have d2 : decide ((2 : Nat) ≠ 0) = true := by decide
  rw [d2]
  go_wp2_with fail
  refine (bytes_any 258 0 0 0 258 (isW_word rfl (by omega)) _).mono ?_
  rintro e w3 ⟨g, rfl, hg, ro, hb3⟩
  have c30 : w3.cell? ⟨g, 30, none⟩ = some (.int .u8 1) := (ro.at_ 30 (by omega)).trans (congrArg (fun x => some (Value.int .u8 x)) (by decide))
  have c31 : w3.cell? ⟨g, 31, none⟩ = some (.int .u8 2) := (ro.at_ 31 (by omega)).trans (congrArg (fun x => some (Value.int .u8 x)) (by decide))
  have rq : Row w3 w2.heap.size 31 #[.int .u64 3, .int .u64 0, .int .u64 0, .int .u64 0] := Row.below (by repeat (first | (refine Row.new_at ?_; simp; done) | refine Row.alloc ?_ _)) hb3 (by simp; omega)
  have rr : Row w3 (w2.heap.size + 1) 31 #[.int .u64 1, .int .u64 0, .int .u64 0, .int .u64 0] := Row.below (by repeat (first | (refine Row.new_at ?_; simp; done) | refine Row.alloc ?_ _)) hb3 (by simp)
  obtain ⟨⟨m0, m1, m2, m3⟩, _⟩ := Row.four4 (x0 := 3) (x1 := 0) (x2 := 0) (x3 := 0) rq
  obtain ⟨⟨o0, o1, o2, o3⟩, _⟩ := Row.four4 (x0 := 1) (x1 := 0) (x2 := 0) (x3 := 0) rr
  have hl : Below w.heap.size w w3 := (((hb1.alloc hb1.size _).trans (hb2.mono (by simp; omega))).alloc (by simp at *; omega) _ |>.alloc (by simp at *; omega) _).trans (hb3.mono (by simp at *; omega))
  clear rq rr ro hb1 hb2 hb3 hg z1 z2
  go_wp2
  go_ret
  exact ⟨rfl, hl⟩
end Go.Proofs.Ytpdenhmkpiafiaa
