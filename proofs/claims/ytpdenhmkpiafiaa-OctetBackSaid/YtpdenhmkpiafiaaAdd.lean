/-
  u256.Add AND u256.Sub: the sum and the difference of two numbers of four words, or that there is none.
-/
import Derived.Test.YtpdenhmkpiafiaaWordWalk
import Derived.Deep.LoopGhost
import Derived.Deep.RegionWith
import Derived.Handy
namespace Go.Proofs.Ytpdenhmkpiafiaa
open Go Go.RowKit

def M : Nat := 115792089237316195423570985008687907853269984665640564039457584007913129639936
theorem M_W : (M : Int) = W ^ 4 := by unfold M W; decide
theorem IsW.ltM {x0 x1 x2 x3 : Int} {n : Nat} (h : IsW x0 x1 x2 x3 n) : n < M := by have := h.lt; rw [← M_W] at this; omega
theorem isW_zero : IsW 0 0 0 0 0 := ⟨fun i => by unfold sel4; (repeat' split) <;> exact ⟨Int.le_refl _, W_pos⟩, by simp [psum, sel4]⟩
def addN (a b : Nat) : Nat := if a + b < M then a + b else 0
def addB (a b : Nat) : Bool := decide (a + b < M)
def subB (a b : Nat) : Bool := decide (b ≤ a)

theorem aggT31 : AggT Try.prog 31 4 := ⟨⟨_, Try.underlying31, rfl⟩, by kernel_rfl⟩
/-- a number, and whether it is one -/
def Pair (w : World) (n : Nat) (ok : Bool) (e : Ending) (w' : World) : Prop :=
  ∃ x0 x1 x2 x3 : Int, e = .returned (.tuple #[.agg #[.int .u64 x0, .int .u64 x1, .int .u64 x2, .int .u64 x3], .bool ok]) ∧ IsW x0 x1 x2 x3 n ∧ Below w.heap.size w w'

/-- a number -/
def One (w : World) (n : Nat) (e : Ending) (w' : World) : Prop :=
  ∃ x0 x1 x2 x3 : Int, e = .returned (.agg #[.int .u64 x0, .int .u64 x1, .int .u64 x2, .int .u64 x3]) ∧ IsW x0 x1 x2 x3 n ∧ Below w.heap.size w w'

/-- what holds of the words that are done -/
def AddInv (f : Nat → Int) (C : Int) (a b : Nat → Int) (k : Nat) : Prop := Wordy f ∧ psum f k + C * W ^ k = psum a k + psum b k
theorem AddInv.step {f a b : Nat → Int} {C : Int} {k : Nat} (h : AddInv f C a b k) : AddInv (upd f k (cS (a k) (b k) C)) (cC (a k) (b k) C) a b (k + 1) := by
  refine ⟨h.1.upd k (cS_bd _ _ _), ?_⟩
  have h2 := h.2
  have hv := carry_val (a k) (b k) C
  simp only [psum]
  rw [psum_upd_ge _ _ _ (Nat.le_refl k), upd_same, Int.pow_succ]
  generalize W ^ k = X at *
  generalize cS (a k) (b k) C = s at *
  generalize cC (a k) (b k) C = t at *
  grind
def SubInv (f : Nat → Int) (C : Int) (a b : Nat → Int) (k : Nat) : Prop := Wordy f ∧ psum f k - C * W ^ k = psum a k - psum b k
theorem SubInv.step {f a b : Nat → Int} {C : Int} {k : Nat} (h : SubInv f C a b k) : SubInv (upd f k (bS (a k) (b k) C)) (bC (a k) (b k) C) a b (k + 1) := by
  refine ⟨h.1.upd k (bS_bd _ _ _), ?_⟩
  have h2 := h.2
  have hv := borrow_val (a k) (b k) C
  simp only [psum]
  rw [psum_upd_ge _ _ _ (Nat.le_refl k), upd_same, Int.pow_succ]
  generalize W ^ k = X at *
  generalize bS (a k) (b k) C = s at *
  generalize bC (a k) (b k) C = t at *
  grind

theorem AddInv.none {f : Nat → Int} {C a0 a1 a2 a3 b0 b1 b2 b3 : Int} {a b : Nat} (h : AddInv f C (sel4 a0 a1 a2 a3) (sel4 b0 b1 b2 b3) 4) (ha : IsW a0 a1 a2 a3 a) (hb : IsW b0 b1 b2 b3 b) (hC : C = 0) :
    IsW (f 0) (f 1) (f 2) (f 3) (addN a b) ∧ addB a b = true := by
  have h2 := h.2
  rw [hC, Int.zero_mul, Int.add_zero, ← ha.val, ← hb.val] at h2
  have hl := (psum_bd h.1 4).2
  rw [← M_W] at hl
  have hlt : a + b < M := by omega
  exact ⟨IsW.of h.1 (by unfold addN; rw [if_pos hlt, h2]; omega), by simp [addB, hlt]⟩
theorem AddInv.some_ {f : Nat → Int} {C a0 a1 a2 a3 b0 b1 b2 b3 : Int} {a b : Nat} (h : AddInv f C (sel4 a0 a1 a2 a3) (sel4 b0 b1 b2 b3) 4) (ha : IsW a0 a1 a2 a3 a) (hb : IsW b0 b1 b2 b3 b) (hC : C = 1) :
    addN a b = 0 ∧ addB a b = false := by
  have h2 := h.2
  rw [hC, Int.one_mul, ← M_W, ← ha.val, ← hb.val] at h2
  have hl := (psum_bd h.1 4).1
  have hge : ¬ a + b < M := by omega
  exact ⟨by unfold addN; rw [if_neg hge], by simp [addB, hge]⟩
theorem SubInv.none {f : Nat → Int} {C a0 a1 a2 a3 b0 b1 b2 b3 : Int} {a b : Nat} (h : SubInv f C (sel4 a0 a1 a2 a3) (sel4 b0 b1 b2 b3) 4) (ha : IsW a0 a1 a2 a3 a) (hb : IsW b0 b1 b2 b3 b) (hC : C = 0) :
    IsW (f 0) (f 1) (f 2) (f 3) (a - b) ∧ subB a b = true := by
  have h2 := h.2
  rw [hC, Int.zero_mul, Int.sub_zero, ← ha.val, ← hb.val] at h2
  have hl := (psum_bd h.1 4).1
  have hle : b ≤ a := by omega
  exact ⟨IsW.of h.1 (by rw [h2]; omega), by simp [subB, hle]⟩
theorem SubInv.some_ {f : Nat → Int} {C a0 a1 a2 a3 b0 b1 b2 b3 : Int} {a b : Nat} (h : SubInv f C (sel4 a0 a1 a2 a3) (sel4 b0 b1 b2 b3) 4) (ha : IsW a0 a1 a2 a3 a) (hb : IsW b0 b1 b2 b3 b) (hC : C = 1) :
    a - b = 0 ∧ subB a b = false := by
  have h2 := h.2
  rw [hC, Int.one_mul, ← M_W, ← ha.val, ← hb.val] at h2
  have hl := (psum_bd h.1 4).2
  rw [← M_W] at hl
  have hge : ¬ b ≤ a := by omega
  exact ⟨by omega, by simp [subB, hge]⟩

set_option maxHeartbeats 1000000 in
theorem add_any (a0 a1 a2 a3 b0 b1 b2 b3 : Int) (a b : Nat) (ha : IsW a0 a1 a2 a3 a) (hb : IsW b0 b1 b2 b3 b) (w : World) :
    Calls Try.prog 46 #[.agg #[.int .u64 a0, .int .u64 a1, .int .u64 a2, .int .u64 a3], .agg #[.int .u64 b0, .int .u64 b1, .int .u64 b2, .int .u64 b3]] w (Pair w (addN a b) (addB a b)) := by
  go_enter Try.func46, Try.ntmps46
  go_wp2
  go_loopg [7, 9] 4 (fun g c i wr => ∃ (k : Nat) (f : Nat → Int) (C : Int), k + g = 4 ∧ i = .int .i64 (k : Int) ∧ c = .int .u64 C ∧ 0 ≤ C ∧ C ≤ 1 ∧ w.heap.size + 1 + 1 + 1 < wr.heap.size ∧
     Below w.heap.size w wr ∧ Row wr w.heap.size 31 (arr .u64 (sel4 a0 a1 a2 a3) 4) ∧ Row wr (w.heap.size + 1) 31 (arr .u64 (sel4 b0 b1 b2 b3) 4) ∧ Row wr (w.heap.size + 1 + 1) 31 (arr .u64 (fun _ => 0) 4) ∧ Row wr (w.heap.size + 1 + 1 + 1) 31 (arr .u64 f 4) ∧ AddInv f C (sel4 a0 a1 a2 a3) (sel4 b0 b1 b2 b3) k)
  case atStart =>
    refine ⟨0, fun _ => 0, 0, rfl, rfl, rfl, by omega, by omega, by simp, by go_grown, ?_, ?_, ?_, ?_, wordy_zero, by simp [psum]⟩ <;> repeat (first | (refine Row.new_at ?_; simp; done) | refine Row.alloc ?_ _)
  case round =>
    obtain ⟨k, f, C, hk, rfl, rfl, hC0, hC1, hsz, hbl, ra, rb, rr, ro, inv⟩ := hrel
    by_cases hlt : k < 4
    · have ca := ra.at_ k hlt
      have cb := rb.at_ k hlt
      have co := ro.at_ k hlt
      have fo := ro.frozen k
      have wa := ha.wordy k
      have wb := hb.wordy k
      have H := Lib.hid (show _ ∧ _ ∧ _ ∧ _ from ⟨ra, rb, rr, ro⟩)
      clear ra rb rr ro
      go_wp2_with fail
      go_region_with (go_at_call 158; refine (carry_any _ _ _ _ wa wb ⟨hC0, hC1⟩).mono ?_; rintro e w' ⟨rfl, rfl⟩)
      all_goals
        go_wp2_with fail
        go_roundg (gk - 1)
        case measure => omega
        case rel =>
          obtain ⟨ra, rb, rr, ro⟩ := H.out
          have hc := cC_bd _ _ _ wa wb ⟨hC0, hC1⟩
          exact ⟨k + 1, _, _, by omega, by go_num, rfl, hc.1, hc.2, by simpa using hsz, by go_grown, (ra.far (by dsimp only; omega) _).drew, (rb.far (by dsimp only; omega) _).drew, (rr.far (by dsimp only; omega) _).drew, (ro.put k hlt _).drew, inv.step⟩
    · obtain rfl : k = 4 := by omega
      have c0 := ro.at_ 0 (by omega)
      have c1 := ro.at_ 1 (by omega)
      have c2 := ro.at_ 2 (by omega)
      have c3 := ro.at_ 3 (by omega)
      have d0 := rr.at_ 0 (by omega)
      have d1 := rr.at_ 1 (by omega)
      have d2 := rr.at_ 2 (by omega)
      have d3 := rr.at_ 3 (by omega)
      have f0 := rr.frozen 0
      have f1 := rr.frozen 1
      have f2 := rr.frozen 2
      have f3 := rr.frozen 3
      have H := Lib.hid (show _ ∧ _ from ⟨rr, hsz⟩)
      clear ra rb rr ro hlt
      by_cases hC : C = 0
      · have e : ((C : Int) != 0) = false := by simp [hC]
        have fin := inv.none ha hb hC
        clear hC inv
        have fin := Lib.hid fin
        go_wp2
        refine bodyPost_ret (results_ct rfl aggT31 rfl (H.out.1.store4 rfl _ _ _ _) rfl) rfl ?_
        exact ⟨_, _, _, _, by rw [fin.out.2]; rfl, fin.out.1, by go_grown⟩
      · have e : ((C : Int) != 0) = true := by simp [hC]
        have fin := inv.some_ ha hb (by omega)
        clear hC inv
        have fin := Lib.hid fin
        go_wp2
        refine bodyPost_ret (results_ct rfl aggT31 rfl (H.out.1.store4 rfl _ _ _ _) rfl) rfl ?_
        exact ⟨_, _, _, _, by rw [fin.out.2]; rfl, by rw [fin.out.1]; exact isW_zero, by go_grown⟩

set_option maxHeartbeats 1000000 in
theorem sub_any (a0 a1 a2 a3 b0 b1 b2 b3 : Int) (a b : Nat) (ha : IsW a0 a1 a2 a3 a) (hb : IsW b0 b1 b2 b3 b) (w : World) :
    Calls Try.prog 52 #[.agg #[.int .u64 a0, .int .u64 a1, .int .u64 a2, .int .u64 a3], .agg #[.int .u64 b0, .int .u64 b1, .int .u64 b2, .int .u64 b3]] w (Pair w (a - b) (subB a b)) := by
  go_enter Try.func52, Try.ntmps52
  go_wp2
  go_loopg [7, 9] 4 (fun g c i wr => ∃ (k : Nat) (f : Nat → Int) (C : Int), k + g = 4 ∧ i = .int .i64 (k : Int) ∧ c = .int .u64 C ∧ 0 ≤ C ∧ C ≤ 1 ∧ w.heap.size + 1 + 1 + 1 < wr.heap.size ∧
     Below w.heap.size w wr ∧ Row wr w.heap.size 31 (arr .u64 (sel4 a0 a1 a2 a3) 4) ∧ Row wr (w.heap.size + 1) 31 (arr .u64 (sel4 b0 b1 b2 b3) 4) ∧ Row wr (w.heap.size + 1 + 1) 31 (arr .u64 (fun _ => 0) 4) ∧ Row wr (w.heap.size + 1 + 1 + 1) 31 (arr .u64 f 4) ∧ SubInv f C (sel4 a0 a1 a2 a3) (sel4 b0 b1 b2 b3) k)
  case atStart =>
    refine ⟨0, fun _ => 0, 0, rfl, rfl, rfl, by omega, by omega, by simp, by go_grown, ?_, ?_, ?_, ?_, wordy_zero, by simp [psum]⟩ <;> repeat (first | (refine Row.new_at ?_; simp; done) | refine Row.alloc ?_ _)
  case round =>
    obtain ⟨k, f, C, hk, rfl, rfl, hC0, hC1, hsz, hbl, ra, rb, rr, ro, inv⟩ := hrel
    by_cases hlt : k < 4
    · have ca := ra.at_ k hlt
      have cb := rb.at_ k hlt
      have co := ro.at_ k hlt
      have fo := ro.frozen k
      have wa := ha.wordy k
      have wb := hb.wordy k
      have H := Lib.hid (show _ ∧ _ ∧ _ ∧ _ from ⟨ra, rb, rr, ro⟩)
      clear ra rb rr ro
      go_wp2_with fail
      go_region_with (go_at_call 165; refine (borrow_any _ _ _ _ wa wb ⟨hC0, hC1⟩).mono ?_; rintro e w' ⟨rfl, rfl⟩)
      all_goals
        go_wp2_with fail
        go_roundg (gk - 1)
        case measure => omega
        case rel =>
          obtain ⟨ra, rb, rr, ro⟩ := H.out
          have hc := bC_bd _ _ _ wa wb ⟨hC0, hC1⟩
          exact ⟨k + 1, _, _, by omega, by go_num, rfl, hc.1, hc.2, by simpa using hsz, by go_grown, (ra.far (by dsimp only; omega) _).drew, (rb.far (by dsimp only; omega) _).drew, (rr.far (by dsimp only; omega) _).drew, (ro.put k hlt _).drew, inv.step⟩
    · obtain rfl : k = 4 := by omega
      have c0 := ro.at_ 0 (by omega)
      have c1 := ro.at_ 1 (by omega)
      have c2 := ro.at_ 2 (by omega)
      have c3 := ro.at_ 3 (by omega)
      have d0 := rr.at_ 0 (by omega)
      have d1 := rr.at_ 1 (by omega)
      have d2 := rr.at_ 2 (by omega)
      have d3 := rr.at_ 3 (by omega)
      have f0 := rr.frozen 0
      have f1 := rr.frozen 1
      have f2 := rr.frozen 2
      have f3 := rr.frozen 3
      have H := Lib.hid (show _ ∧ _ from ⟨rr, hsz⟩)
      clear ra rb rr ro hlt
      by_cases hC : C = 0
      · have e : ((C : Int) != 0) = false := by simp [hC]
        have fin := inv.none ha hb hC
        clear hC inv
        have fin := Lib.hid fin
        go_wp2
        refine bodyPost_ret (results_ct rfl aggT31 rfl (H.out.1.store4 rfl _ _ _ _) rfl) rfl ?_
        exact ⟨_, _, _, _, by rw [fin.out.2]; rfl, fin.out.1, by go_grown⟩
      · have e : ((C : Int) != 0) = true := by simp [hC]
        have fin := inv.some_ ha hb (by omega)
        clear hC inv
        have fin := Lib.hid fin
        go_wp2
        refine bodyPost_ret (results_ct rfl aggT31 rfl (H.out.1.store4 rfl _ _ _ _) rfl) rfl ?_
        exact ⟨_, _, _, _, by rw [fin.out.2]; rfl, by rw [fin.out.1]; exact isW_zero, by go_grown⟩
end Go.Proofs.Ytpdenhmkpiafiaa
