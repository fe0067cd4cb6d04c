/-
  u256.Div, the short ways: by nought; of a lesser number; by a half word. And u256.Of.
-/
import Derived.Test.YtpdenhmkpiafiaaMul
import Derived.Test.YtpdenhmkpiafiaaLen
namespace Go.Proofs.Ytpdenhmkpiafiaa
open Go Go.RowKit

/-- two numbers, and whether they are -/
def Trip (w : World) (q r : Nat) (ok : Bool) (e : Ending) (w' : World) : Prop :=
  ∃ x0 x1 x2 x3 y0 y1 y2 y3 : Int, e = .returned (.tuple #[.agg #[.int .u64 x0, .int .u64 x1, .int .u64 x2, .int .u64 x3], .agg #[.int .u64 y0, .int .u64 y1, .int .u64 y2, .int .u64 y3], .bool ok]) ∧ IsW x0 x1 x2 x3 q ∧ IsW y0 y1 y2 y3 r ∧ Below w.heap.size w w'

theorem IsW.lin {x0 x1 x2 x3 : Int} {n : Nat} (h : IsW x0 x1 x2 x3 n) : (n : Int) = x0 + 18446744073709551616 * x1 + 340282366920938463463374607431768211456 * x2 + 6277101735386680763835789423207666416102355444464034512896 * x3 ∧
    (0 ≤ x0 ∧ x0 < 18446744073709551616) ∧ (0 ≤ x1 ∧ x1 < 18446744073709551616) ∧ (0 ≤ x2 ∧ x2 < 18446744073709551616) ∧ (0 ≤ x3 ∧ x3 < 18446744073709551616) := by
  have hv := h.val
  simp [psum, sel4, W] at hv
  exact ⟨by omega, h.wordy 0, h.wordy 1, h.wordy 2, h.wordy 3⟩
theorem IsW.mk' {x0 x1 x2 x3 : Int} {n : Nat} (hn : (n : Int) = x0 + 18446744073709551616 * x1 + 340282366920938463463374607431768211456 * x2 + 6277101735386680763835789423207666416102355444464034512896 * x3)
    (h0 : 0 ≤ x0 ∧ x0 < 18446744073709551616) (h1 : 0 ≤ x1 ∧ x1 < 18446744073709551616) (h2 : 0 ≤ x2 ∧ x2 < 18446744073709551616) (h3 : 0 ≤ x3 ∧ x3 < 18446744073709551616) : IsW x0 x1 x2 x3 n :=
  ⟨fun i => by unfold sel4; (repeat' split) <;> assumption, by simp [psum, sel4, W]; omega⟩
theorem IsW.zero_iff {x0 x1 x2 x3 : Int} {n : Nat} (h : IsW x0 x1 x2 x3 n) : n = 0 ↔ x0 = 0 ∧ x1 = 0 ∧ x2 = 0 ∧ x3 = 0 := by
  have := h.lin
  constructor
  · rintro rfl; refine ⟨?_, ?_, ?_, ?_⟩ <;> omega
  · rintro ⟨rfl, rfl, rfl, rfl⟩; omega
theorem IsW.nonzero {x0 x1 x2 x3 : Int} {n : Nat} (h : IsW x0 x1 x2 x3 n) (hn : n ≠ 0) : (x0 == 0 && (x1 == 0 && (x2 == 0 && x3 == 0))) = false := by
  cases hb : (x0 == 0 && (x1 == 0 && (x2 == 0 && x3 == 0))) with
  | false => rfl
  | true => simp at hb; exact absurd (h.zero_iff.2 hb) hn
theorem IsW.uniq {x0 x1 x2 x3 y0 y1 y2 y3 : Int} {n : Nat} (h : IsW x0 x1 x2 x3 n) (h' : IsW y0 y1 y2 y3 n) : x0 = y0 ∧ x1 = y1 ∧ x2 = y2 ∧ x3 = y3 := by
  have a := h.lin
  have b := h'.lin
  refine ⟨?_, ?_, ?_, ?_⟩ <;> omega
theorem isW_word {x : Int} {n : Nat} (hx : x = n) (hn : n < 18446744073709551616) : IsW x 0 0 0 n := IsW.mk' (by omega) (by omega) (by omega) (by omega) (by omega)

theorem Row.far4 {w : World} {g t g' : Nat} {cs : Array Value} (h : Row w g t cs) (hg : g ≠ g') (v0 v1 v2 v3 : Value) :
    Row ((((w.setCell ⟨g', 0, none⟩ v0).setCell ⟨g', 1, none⟩ v1).setCell ⟨g', 2, none⟩ v2).setCell ⟨g', 3, none⟩ v3) g t cs :=
  (((h.far hg v0).far hg v1).far hg v2).far hg v3
/-- exactly: so that the walk sees the world -/
theorem of_exact (x : Int) (w : World) : Calls Try.prog 103 #[.int .u64 x] w fun e w' => e = .returned (.agg #[.int .u64 x, .int .u64 0, .int .u64 0, .int .u64 0]) ∧ w.alloc (.cells #[.int .u64 x, .int .u64 0, .int .u64 0, .int .u64 0] 31) = w' := by
  go_enter Try.func103, Try.ntmps103
  go_wp2
  exact bodyPost_ret (results_c rfl aggT31 rfl (Row.new_at rfl) rfl) rfl ⟨rfl, rfl⟩
theorem of_any (x : Int) (n : Nat) (hx : x = n) (hn : n < 18446744073709551616) (w : World) : Calls Try.prog 103 #[.int .u64 x] w (One w n) := by
  subst hx
  go_enter Try.func103, Try.ntmps103
  go_wp2
  refine bodyPost_ret (results_c rfl aggT31 rfl (Row.new_at rfl) rfl) rfl ?_
  exact ⟨_, _, _, _, rfl, isW_word rfl hn, by go_grown⟩

set_option maxRecDepth 100000 in
set_option maxHeartbeats 1000000 in
theorem div_zero (a0 a1 a2 a3 : Int) (w : World) :
    Calls Try.prog 55 #[.agg #[.int .u64 a0, .int .u64 a1, .int .u64 a2, .int .u64 a3], .agg #[.int .u64 0, .int .u64 0, .int .u64 0, .int .u64 0]] w (Trip w 0 0 false) := by
  have q31 := eq31
  go_enter Try.func55, Try.ntmps55
  go_wp2
  refine bodyPost_ret (results_cct (g := w.heap.size + 1 + 1) (g' := w.heap.size + 1 + 1 + 1) (t := 31) (t' := 31) (cs := #[.int .u64 0, .int .u64 0, .int .u64 0, .int .u64 0]) (cs' := #[.int .u64 0, .int .u64 0, .int .u64 0, .int .u64 0]) rfl aggT31 aggT31 rfl rfl ?_ ?_ rfl rfl) rfl ?_
  · repeat (first | (refine Row.new_at ?_; simp; done) | refine Row.alloc ?_ _)
  · repeat (first | (refine Row.new_at ?_; simp; done) | refine Row.alloc ?_ _)
  · exact ⟨_, _, _, _, _, _, _, _, rfl, isW_zero, isW_zero, by go_grown⟩

set_option maxRecDepth 100000 in
set_option maxHeartbeats 2000000 in
theorem div_less (a0 a1 a2 a3 b0 b1 b2 b3 : Int) (a b : Nat) (ha : IsW a0 a1 a2 a3 a) (hb : IsW b0 b1 b2 b3 b) (hlt : a < b) (w : World) :
    Calls Try.prog 55 #[.agg #[.int .u64 a0, .int .u64 a1, .int .u64 a2, .int .u64 a3], .agg #[.int .u64 b0, .int .u64 b1, .int .u64 b2, .int .u64 b3]] w (Trip w 0 a true) := by
  have q31 := eq31
  have hnz := hb.nonzero (by omega)
  have hc : cmpN a b < 0 := by unfold cmpN; rw [if_pos hlt]; omega
  clear hlt
  go_enter Try.func55, Try.ntmps55
  go_wp2_with fail
  refine (cmp_any _ _ _ _ _ _ _ _ a b ha hb _).mono ?_
  rintro e w1 ⟨rfl, hb1⟩
  obtain ⟨hc1, hf1⟩ := bcell hb1
  have hl1 : Below w.heap.size w w1 := Below.trans (by go_grown) (hb1.mono (by go_size))
  have r2 : Row w1 (w.heap.size + 1 + 1) 31 (arr .u64 (fun _ => 0) 4) := Row.below (by repeat (first | (refine Row.new_at ?_; simp; done) | refine Row.alloc ?_ _)) hb1 (by go_size)
  have r3 : Row w1 (w.heap.size + 1 + 1 + 1) 31 (arr .u64 (fun _ => 0) 4) := Row.below (by repeat (first | (refine Row.new_at ?_; simp; done) | refine Row.alloc ?_ _)) hb1 (by go_size)
  go_wp2_with fail
  go_region
  go_wp2
  refine bodyPost_ret (results_cct rfl aggT31 aggT31 rfl rfl ((r2.store4 rfl _ _ _ _).far4 (by omega) _ _ _ _).drew ((r3.far4 (by omega) _ _ _ _).store4 rfl _ _ _ _).drew rfl rfl) rfl ?_
  exact ⟨_, _, _, _, _, _, _, _, rfl, isW_zero, ha, by go_grown⟩

set_option maxRecDepth 100000 in
set_option maxHeartbeats 600000 in
theorem div_small (a0 a1 a2 a3 b0 : Int) (a b : Nat) (ha : IsW a0 a1 a2 a3 a) (hb : b0 = b) (h1 : 1 ≤ b) (h2 : b ≤ 4294967295) (hge : b ≤ a) (w : World) :
    Calls Try.prog 55 #[.agg #[.int .u64 a0, .int .u64 a1, .int .u64 a2, .int .u64 a3], .agg #[.int .u64 b0, .int .u64 0, .int .u64 0, .int .u64 0]] w (Trip w (a / b) (a % b) true) := by
  subst hb
  have q31 := eq31
  have hb := isW_word (x := (b : Int)) rfl (by omega)
  have hnz : ((b : Int) == 0) = false := by simp; omega
  have hle : (b : Int) ≤ 4294967295 := by omega
  have hc : ¬ cmpN a b < 0 := by unfold cmpN; rw [if_neg (by omega)]; split <;> omega
  clear hge
  go_enter Try.func55, Try.ntmps55
  go_wp2_with fail
  refine (cmp_any _ _ _ _ _ _ _ _ a b ha hb _).mono ?_
  rintro e w1 ⟨rfl, hb1⟩
  obtain ⟨hc1, hf1⟩ := bcell hb1
  have hl1 : Below w.heap.size w w1 := Below.trans (by go_grown) (hb1.mono (by go_size))
  have hz1 := hb1.size
  simp at hz1
  have r2 : Row w1 (w.heap.size + 1 + 1) 31 (arr .u64 (fun _ => 0) 4) := Row.below (by repeat (first | (refine Row.new_at ?_; simp; done) | refine Row.alloc ?_ _)) hb1 (by go_size)
  have r3 : Row w1 (w.heap.size + 1 + 1 + 1) 31 (arr .u64 (fun _ => 0) 4) := Row.below (by repeat (first | (refine Row.new_at ?_; simp; done) | refine Row.alloc ?_ _)) hb1 (by go_size)
  go_wp2_with fail
  refine (small_any _ _ _ _ _ a b ha rfl h1 h2 _).mono ?_
  rintro e w2 ⟨x0, x1, x2, x3, rfl, hx, hb2⟩
  have hl2 : Below w.heap.size w w2 := hl1.trans (hb2.mono hl1.size)
  have s2 := r2.below hb2 r2.lt
  have s3 := r3.below hb2 r3.lt
  have z2 := s2.lt
  have z3 := s3.lt
  have z1 : w.heap.size + 1 < w2.heap.size := by omega
  have z0 : w.heap.size < w2.heap.size := by omega
  obtain ⟨⟨c0, c1, c2, c3⟩, f0, f1, f2, f3⟩ := s2.four
  obtain ⟨⟨d0, d1, d2, d3⟩, g0, g1, g2, g3⟩ := s3.four
  have S := Lib.hid (show _ ∧ _ from ⟨s2, s3⟩)
  clear s2 s3
  clear hc1 hf1 r2 r3 hz1 hl1 hb1 hb2
  go_wp2_with fail
  go_region_with (go_at_call 103; refine (of_exact _ _).mono ?_; rintro e w' ⟨rfl, rfl⟩)
  all_goals
    go_step
    go_step
    go_step
    simp only [Exit.inBlock, Exit.then]
    refine bodyPost_ret (results_cct rfl aggT31 aggT31 rfl rfl ((((((S.out.1.store4 rfl _ _ _ _).far4 (by omega) _ _ _ _).alloc _)).alloc _).drew) ((((((S.out.2.far4 (by omega) _ _ _ _).store4 rfl _ _ _ _).alloc _)).alloc _).drew) rfl rfl) rfl ?_
    exact ⟨_, _, _, _, _, _, _, _, rfl, hx, isW_word (by simp) (by have := Nat.mod_lt a (show 0 < b by omega); omega), by go_grown⟩
end Go.Proofs.Ytpdenhmkpiafiaa
