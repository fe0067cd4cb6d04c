/-
  u256.used AND u256.Cmp, Min: how many words a number has; which of two is less.
-/
import Derived.Test.YtpdenhmkpiafiaaAdd
import Derived.Deep.QuietTactic
import Derived.BigQuiet
namespace Go.Proofs.Ytpdenhmkpiafiaa
open Go Go.RowKit

/-- how many words are not noughts above -/
def wlen (n : Nat) : Nat := if n = 0 then 0 else if n < 18446744073709551616 then 1 else if n < 340282366920938463463374607431768211456 then 2 else if n < 6277101735386680763835789423207666416102355444464034512896 then 3 else 4
theorem wlen_le (n : Nat) : wlen n ≤ 4 := by unfold wlen; (repeat' split) <;> omega
theorem psum_top {f : Nat → Int} (h : Wordy f) (k : Nat) (hk : f k ≠ 0) : W ^ k ≤ psum f (k + 1) := by
  have h1 := (psum_bd h k).1
  have h2 := h k
  have h3 := Wpow_pos k
  have h4 : 1 * W ^ k ≤ f k * W ^ k := Int.mul_le_mul_of_nonneg_right (by omega) (by omega)
  unfold psum; omega
theorem wlen_eq {n k : Nat} {f : Nat → Int} (h : Wordy f) (hk : f k ≠ 0) (hlt : k < 4) (hn : (n : Int) = psum f (k + 1)) : wlen n = k + 1 := by
  have h1 := psum_top h k hk
  have h2 := (psum_bd h (k + 1)).2
  rw [← hn] at h1 h2
  have : k = 0 ∨ k = 1 ∨ k = 2 ∨ k = 3 := by omega
  rcases this with rfl | rfl | rfl | rfl <;> simp [W] at h1 h2 <;> unfold wlen <;> (repeat' split) <;> omega

set_option maxHeartbeats 400000 in
theorem used_any (a0 a1 a2 a3 : Int) (a : Nat) (ha : IsW a0 a1 a2 a3 a) (w : World) :
    Calls Try.prog 159 #[.agg #[.int .u64 a0, .int .u64 a1, .int .u64 a2, .int .u64 a3]] w fun e w' => e = .returned (.int .i64 (wlen a)) ∧ Below w.heap.size w w' := by
  go_enter Try.func159, Try.ntmps159
  go_wp2
  go_loopg [3] 4 (fun g i wr => ∃ (k : Nat), k = g ∧ k ≤ 4 ∧ i = .int .i64 (k : Int) ∧ Below w.heap.size w wr ∧ Row wr w.heap.size 31 (arr .u64 (sel4 a0 a1 a2 a3) 4) ∧ Hid ((a : Int) = psum (sel4 a0 a1 a2 a3) k))
  case atStart =>
    refine ⟨4, rfl, by omega, rfl, by go_grown, ?_, ha.val⟩ <;> repeat (first | (refine Row.new_at ?_; simp; done) | refine Row.alloc ?_ _)
  case round =>
    obtain ⟨k, rfl, hk, rfl, hbl, ra, hv⟩ := hrel
    by_cases h0 : 0 < k
    · obtain ⟨j, rfl⟩ : ∃ j, k = j + 1 := ⟨k - 1, by omega⟩
      have ca := ra.at_ j (by omega)
      have wa := ha.wordy j
      have H := Lib.hid (show _ ∧ _ from ⟨ra, hv⟩)
      clear ra hv
      have e1 : ((j + 1 : Nat) : Int) - 1 = (j : Int) := by omega
      have e2 : ((j + 1 : Nat) : Int).toNat - 1 = j := by omega
      by_cases hz : sel4 a0 a1 a2 a3 j = 0
      · have hz' : (sel4 a0 a1 a2 a3 j != 0) = false := by simp [hz]
        have HZ := Lib.hid hz
        clear hz
        go_wp2
        go_roundg j
        case measure => omega
        case rel =>
          obtain ⟨ra, hv⟩ := H.out
          refine ⟨j, rfl, by omega, rfl, by go_grown, ra, ?_⟩
          have h := hv.out
          simp only [psum] at h
          rw [HZ.out] at h
          show (a : Int) = _
          rw [h]; simp
      · have hz' : (sel4 a0 a1 a2 a3 j != 0) = true := by simp [hz]
        have fin := Lib.hid (wlen_eq ha.wordy hz (by omega) H.out.2.out)
        clear hz
        go_wp2
        go_ret
        exact ⟨by rw [fin.out]; rfl, by go_grown⟩
    · obtain rfl : k = 0 := by omega
      have hz : a = 0 := by have := hv.out; simp [psum] at this; exact this
      have fin := Lib.hid hz
      clear hv hz h0
      go_wp2
      go_ret
      exact ⟨by rw [fin.out]; rfl, by go_grown⟩

/-- which of two is less -/
def cmpN (a b : Nat) : Int := if a < b then -1 else if b < a then 1 else 0
theorem psum_lt {f g : Nat → Int} (hf : Wordy f) (hg : Wordy g) {k : Nat} (h : f k < g k) : psum f (k + 1) < psum g (k + 1) := by
  have h1 := (psum_bd hf k).2
  have h2 := (psum_bd hg k).1
  have h3 := Wpow_pos k
  have h4 : (f k + 1) * W ^ k ≤ g k * W ^ k := Int.mul_le_mul_of_nonneg_right (by omega) (by omega)
  rw [Int.add_mul, Int.one_mul] at h4
  simp only [psum]; omega
/-- what holds of the words above: they are alike -/
def CmpInv (a b : Nat) (f g : Nat → Int) (k : Nat) : Prop := (a : Int) - b = psum f k - psum g k
theorem CmpInv.lt {a b : Nat} {f g : Nat → Int} {k : Nat} (h : CmpInv a b f g (k + 1)) (hf : Wordy f) (hg : Wordy g) (hl : f k < g k) : cmpN a b = -1 := by
  have := psum_lt hf hg hl
  unfold CmpInv at h
  unfold cmpN; rw [if_pos (by omega)]
theorem CmpInv.gt {a b : Nat} {f g : Nat → Int} {k : Nat} (h : CmpInv a b f g (k + 1)) (hf : Wordy f) (hg : Wordy g) (hl : g k < f k) : cmpN a b = 1 := by
  have := psum_lt hg hf hl
  unfold CmpInv at h
  unfold cmpN; rw [if_neg (by omega), if_pos (by omega)]
theorem CmpInv.eq {a b : Nat} {f g : Nat → Int} {k : Nat} (h : CmpInv a b f g (k + 1)) (hl : f k = g k) : CmpInv a b f g k := by
  unfold CmpInv at h ⊢
  simp only [psum] at h
  rw [hl] at h; omega

set_option maxHeartbeats 1000000 in
theorem cmp_any (a0 a1 a2 a3 b0 b1 b2 b3 : Int) (a b : Nat) (ha : IsW a0 a1 a2 a3 a) (hb : IsW b0 b1 b2 b3 b) (w : World) :
    Calls Try.prog 48 #[.agg #[.int .u64 a0, .int .u64 a1, .int .u64 a2, .int .u64 a3], .agg #[.int .u64 b0, .int .u64 b1, .int .u64 b2, .int .u64 b3]] w fun e w' => e = .returned (.int .i64 (cmpN a b)) ∧ Below w.heap.size w w' := by
  go_enter Try.func48, Try.ntmps48
  go_wp2
  go_loopg [5] 4 (fun g i wr => g ≤ 4 ∧ i = .int .i64 ((g : Int) - 1) ∧ Below w.heap.size w wr ∧ Row wr w.heap.size 31 (arr .u64 (sel4 a0 a1 a2 a3) 4) ∧ Row wr (w.heap.size + 1) 31 (arr .u64 (sel4 b0 b1 b2 b3) 4) ∧ Hid (CmpInv a b (sel4 a0 a1 a2 a3) (sel4 b0 b1 b2 b3) g))
  case atStart =>
    refine ⟨by omega, rfl, by go_grown, ?_, ?_, show (a : Int) - b = _ by rw [ha.val, hb.val]⟩ <;> repeat (first | (refine Row.new_at ?_; simp; done) | refine Row.alloc ?_ _)
  case round =>
    obtain ⟨hk, rfl, hbl, ra, rb, hv⟩ := hrel
    by_cases h0 : 0 < gk
    · obtain ⟨j, rfl⟩ : ∃ j, gk = j + 1 := ⟨gk - 1, by omega⟩
      have ca := ra.at_ j (by omega)
      have cb := rb.at_ j (by omega)
      have H := Lib.hid (show _ ∧ _ ∧ _ from ⟨ra, rb, hv⟩)
      clear ra rb hv h0
      rw [show (((j + 1 : Nat) : Int) - 1) = (j : Int) from by omega]
      have wa := ha.wordy j
      have wb := hb.wordy j
      rcases Int.lt_trichotomy (sel4 a0 a1 a2 a3 j) (sel4 b0 b1 b2 b3 j) with hl | hl | hl
      · have fin := Lib.hid (H.out.2.2.out.lt ha.wordy hb.wordy hl)
        have d1 : decide (sel4 a0 a1 a2 a3 j < sel4 b0 b1 b2 b3 j) = true := by simpa using hl
        clear hl
        go_wp2_with fail
        go_quiet (fail)
        go_wp2
        go_ret
        exact ⟨by rw [fin.out]; rfl, belowDN hbl _⟩
      · have fin := Lib.hid (H.out.2.2.out.eq hl)
        have d1 : decide (sel4 a0 a1 a2 a3 j < sel4 b0 b1 b2 b3 j) = false := by simp [hl]
        have d2 : decide (sel4 b0 b1 b2 b3 j < sel4 a0 a1 a2 a3 j) = false := by simp [hl]
        clear hl
        go_wp2_with fail
        go_quiet (fail)
        go_wp2_with fail
        go_quiet (fail)
        go_wp2
        go_roundg j
        case measure => omega
        case rel => exact ⟨by omega, rfl, belowDN hbl _, H.out.1, H.out.2.1, fin⟩
      · have fin := Lib.hid (H.out.2.2.out.gt ha.wordy hb.wordy hl)
        have d1 : decide (sel4 a0 a1 a2 a3 j < sel4 b0 b1 b2 b3 j) = false := by simp; omega
        have d2 : decide (sel4 b0 b1 b2 b3 j < sel4 a0 a1 a2 a3 j) = true := by simpa using hl
        clear hl
        go_wp2_with fail
        go_quiet (fail)
        go_wp2_with fail
        go_quiet (fail)
        go_wp2
        go_ret
        exact ⟨by rw [fin.out]; rfl, belowDN (belowDN hbl _) _⟩
    · obtain rfl : gk = 0 := by omega
      have hz : cmpN a b = 0 := by
        have h := hv.out
        simp [CmpInv, psum] at h
        unfold cmpN; rw [if_neg (by omega), if_neg (by omega)]
      have fin := Lib.hid hz
      clear hv hz h0
      go_wp2
      go_ret
      exact ⟨by rw [fin.out]; rfl, by go_grown⟩

set_option maxHeartbeats 400000 in
theorem min_any (a0 a1 a2 a3 b0 b1 b2 b3 : Int) (a b : Nat) (ha : IsW a0 a1 a2 a3 a) (hb : IsW b0 b1 b2 b3 b) (w : World) :
    Calls Try.prog 58 #[.agg #[.int .u64 a0, .int .u64 a1, .int .u64 a2, .int .u64 a3], .agg #[.int .u64 b0, .int .u64 b1, .int .u64 b2, .int .u64 b3]] w (One w (if a ≤ b then a else b)) := by
  by_cases h : a ≤ b
  · have hc : cmpN a b ≤ 0 := by unfold cmpN; (repeat' split) <;> omega
    rw [if_pos h]
    clear h
    go_enter Try.func58, Try.ntmps58
    go_wp2_with fail
    refine (cmp_any _ _ _ _ _ _ _ _ a b ha hb _).mono ?_
    rintro e w1 ⟨rfl, hb1⟩
    obtain ⟨hc1, hf1⟩ := bcell hb1
    have hl1 : Below w.heap.size w w1 := Below.trans (by go_grown) (hb1.mono (by go_size))
    have rr : Row w1 (w.heap.size + 1 + 1) 31 (arr .u64 (fun _ => 0) 4) := Row.below (by repeat (first | (refine Row.new_at ?_; simp; done) | refine Row.alloc ?_ _)) hb1 (by go_size)
    go_wp2
    refine bodyPost_ret (results_c rfl aggT31 rfl (rr.store4 rfl _ _ _ _) rfl) rfl ?_
    exact ⟨_, _, _, _, rfl, ha, by go_grown⟩
  · have hc : ¬ cmpN a b ≤ 0 := by unfold cmpN; (repeat' split) <;> omega
    rw [if_neg h]
    clear h
    go_enter Try.func58, Try.ntmps58
    go_wp2_with fail
    refine (cmp_any _ _ _ _ _ _ _ _ a b ha hb _).mono ?_
    rintro e w1 ⟨rfl, hb1⟩
    obtain ⟨hc1, hf1⟩ := bcell hb1
    have hl1 : Below w.heap.size w w1 := Below.trans (by go_grown) (hb1.mono (by go_size))
    have rr : Row w1 (w.heap.size + 1 + 1) 31 (arr .u64 (fun _ => 0) 4) := Row.below (by repeat (first | (refine Row.new_at ?_; simp; done) | refine Row.alloc ?_ _)) hb1 (by go_size)
    go_wp2
    refine bodyPost_ret (results_c rfl aggT31 rfl (rr.store4 rfl _ _ _ _) rfl) rfl ?_
    exact ⟨_, _, _, _, rfl, hb, by go_grown⟩
end Go.Proofs.Ytpdenhmkpiafiaa
