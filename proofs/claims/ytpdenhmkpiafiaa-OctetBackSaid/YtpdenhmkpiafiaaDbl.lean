/-
  u256.double AND u256.wrap: twice a number and a bit; a number and 2^256, less another.
-/
import Derived.Test.YtpdenhmkpiafiaaUsed
namespace Go.Proofs.Ytpdenhmkpiafiaa
open Go Go.RowKit

theorem shl_or (x c : Int) (hx : 0 ≤ x ∧ x < 18446744073709551616) (hc : 0 ≤ c ∧ c ≤ 1) : bits .or .u64 (IntKind.u64.wrap (x * 2)) c = (2 * x) % 18446744073709551616 + c := by
  obtain ⟨X, rfl⟩ := Int.eq_ofNat_of_zero_le hx.1
  obtain ⟨C, rfl⟩ := Int.eq_ofNat_of_zero_le hc.1
  have e : IntKind.u64.wrap ((X : Int) * 2) = (((X % 9223372036854775808) * 2 : Nat) : Int) := by rw [IntKind.wrap_u64]; omega
  rw [e, u64_or_nat _ _ (by omega) (by omega)]
  have := Nat.two_pow_add_eq_or_of_lt (i := 1) (b := C) (by omega) (X % 9223372036854775808)
  rw [Nat.mul_comm (X % 9223372036854775808), show (2 : Nat) = 2 ^ 1 from rfl, ← this]; omega
/-- twice a number and a bit, what stays and what falls out above -/
def dblN (a b : Nat) : Nat := (2 * a + b) % M
def dblC (a b : Nat) : Nat := (2 * a + b) / M
def DblInv (f : Nat → Int) (C : Int) (a : Nat → Int) (b : Int) (k : Nat) : Prop := Wordy f ∧ 0 ≤ C ∧ C ≤ 1 ∧ (∀ i, k ≤ i → f i = a i) ∧ psum f k + C * W ^ k = 2 * psum a k + b
theorem DblInv.step {f a : Nat → Int} {C b : Int} {k : Nat} (h : DblInv f C a b k) : DblInv (upd f k ((2 * f k) % 18446744073709551616 + C)) (f k / 9223372036854775808) a b (k + 1) := by
  obtain ⟨h1, h2, h3, h4, h5⟩ := h
  have hk := h4 k (Nat.le_refl k)
  have hw := h1 k
  unfold W at hw
  refine ⟨h1.upd k (by unfold W; omega), by omega, by omega, fun i hi => ?_, ?_⟩
  · rw [upd_ne _ _ _ _ (by omega)]; exact h4 i (by omega)
  · simp only [psum]
    rw [psum_upd_ge _ _ _ (Nat.le_refl k), upd_same, Int.pow_succ, ← hk]
    have hv : (2 * f k) % 18446744073709551616 + W * (f k / 9223372036854775808) = 2 * f k := by unfold W; omega
    generalize W ^ k = X at *
    generalize (2 * f k) % 18446744073709551616 = s at *
    generalize f k / 9223372036854775808 = t at *
    grind
theorem DblInv.fin {f : Nat → Int} {C a0 a1 a2 a3 : Int} {a b : Nat} (h : DblInv f C (sel4 a0 a1 a2 a3) b 4) (ha : IsW a0 a1 a2 a3 a) : IsW (f 0) (f 1) (f 2) (f 3) (dblN a b) ∧ (dblC a b : Int) = C := by
  obtain ⟨h1, h2, h3, h4, h5⟩ := h
  rw [← ha.val, ← M_W] at h5
  have hb := psum_bd h1 4
  rw [← M_W] at hb
  have hM : (0 : Int) < M := by rw [M_W]; exact Wpow_pos 4
  obtain ⟨F, hF⟩ := Int.eq_ofNat_of_zero_le hb.1
  obtain ⟨c, rfl⟩ := Int.eq_ofNat_of_zero_le h2
  rw [hF] at h5 hb
  have h6 : F + c * M = 2 * a + b := by
    have : ((F + c * M : Nat) : Int) = ((2 * a + b : Nat) : Int) := by rw [Int.natCast_add, Int.natCast_mul]; omega
    exact Int.ofNat_inj.1 this
  have hFM : F < M := by omega
  refine ⟨IsW.of h1 ?_, ?_⟩
  · unfold dblN; rw [hF, ← h6, Nat.add_mul_mod_self_right, Nat.mod_eq_of_lt hFM]
  · unfold dblC; rw [← h6, Nat.add_mul_div_right _ _ (by omega), Nat.div_eq_of_lt hFM, Nat.zero_add]

/-- a number and a word -/
def Two (w : World) (n : Nat) (c : Int) (e : Ending) (w' : World) : Prop :=
  ∃ x0 x1 x2 x3 : Int, e = .returned (.tuple #[.agg #[.int .u64 x0, .int .u64 x1, .int .u64 x2, .int .u64 x3], .int .u64 c]) ∧ IsW x0 x1 x2 x3 n ∧ Below w.heap.size w w'

set_option maxHeartbeats 1000000 in
theorem double_any (a0 a1 a2 a3 b : Int) (a : Nat) (B : Nat) (ha : IsW a0 a1 a2 a3 a) (hb : b = B) (hB : B ≤ 1) (w : World) :
    Calls Try.prog 169 #[.agg #[.int .u64 a0, .int .u64 a1, .int .u64 a2, .int .u64 a3], .int .u64 b] w (Two w (dblN a B) (dblC a B)) := by
  subst hb
  go_enter Try.func169, Try.ntmps169
  go_wp2
  go_loopg [1, 8] 4 (fun g c i wr => ∃ (k : Nat) (f : Nat → Int) (C : Int), k + g = 4 ∧ i = .int .i64 (k : Int) ∧ c = .int .u64 C ∧
     Below w.heap.size w wr ∧ Row wr w.heap.size 31 (arr .u64 f 4) ∧ Row wr (w.heap.size + 1) 31 (arr .u64 (fun _ => 0) 4) ∧ DblInv f C (sel4 a0 a1 a2 a3) B k)
  case atStart =>
    refine ⟨0, sel4 a0 a1 a2 a3, B, rfl, rfl, rfl, by go_grown, ?_, ?_, ha.wordy, by omega, by omega, fun _ _ => rfl, by simp [psum]⟩ <;> repeat (first | (refine Row.new_at ?_; simp; done) | refine Row.alloc ?_ _)
  case round =>
    obtain ⟨k, f, C, hk, rfl, rfl, hbl, ra, rr, inv⟩ := hrel
    by_cases hlt : k < 4
    · have ca := ra.at_ k hlt
      have fa := ra.frozen k
      have wa := inv.1 k
      have e1 := shl_or (f k) C wa ⟨inv.2.1, inv.2.2.1⟩
      have H := Lib.hid (show _ ∧ _ ∧ _ from ⟨ra, rr, inv⟩)
      clear ra rr inv
      go_wp2
      go_roundg (gk - 1)
      case measure => omega
      case rel =>
        obtain ⟨ra, rr, inv⟩ := H.out
        exact ⟨k + 1, _, _, by omega, by go_num, rfl, by go_grown, ra.put k hlt _, rr.far (by dsimp only; omega) _, inv.step⟩
    · obtain rfl : k = 4 := by omega
      have c0 := ra.at_ 0 (by omega)
      have c1 := ra.at_ 1 (by omega)
      have c2 := ra.at_ 2 (by omega)
      have c3 := ra.at_ 3 (by omega)
      have d0 := rr.at_ 0 (by omega)
      have d1 := rr.at_ 1 (by omega)
      have d2 := rr.at_ 2 (by omega)
      have d3 := rr.at_ 3 (by omega)
      have f0 := rr.frozen 0
      have f1 := rr.frozen 1
      have f2 := rr.frozen 2
      have f3 := rr.frozen 3
      have fin := Lib.hid (inv.fin ha)
      have H := Lib.hid rr
      clear ra rr hlt inv
      go_wp2
      refine bodyPost_ret (results_ct rfl aggT31 rfl (H.out.store4 rfl _ _ _ _) rfl) rfl ?_
      exact ⟨_, _, _, _, by rw [fin.out.2]; rfl, fin.out.1, by go_grown⟩

def wrapN (a b : Nat) : Nat := (a + M - b) % M
def WrapInv (f : Nat → Int) (C : Int) (a b : Nat → Int) (k : Nat) : Prop := (∀ i, k ≤ i → f i = a i) ∧ 0 ≤ C ∧ C ≤ 1 ∧ SubInv f C a b k
theorem WrapInv.step {f a b : Nat → Int} {C : Int} {k : Nat} (h : WrapInv f C a b k) (ha : Wordy a) (hb : Wordy b) : WrapInv (upd f k (bS (f k) (b k) C)) (bC (f k) (b k) C) a b (k + 1) := by
  obtain ⟨h1, h2, h3, h4⟩ := h
  have hk := h1 k (Nat.le_refl k)
  have hc := bC_bd (a k) (b k) C (ha k) (hb k) ⟨h2, h3⟩
  rw [hk]
  exact ⟨fun i hi => by rw [upd_ne _ _ _ _ (by omega)]; exact h1 i (by omega), hc.1, hc.2, h4.step⟩
theorem WrapInv.fin {f : Nat → Int} {C a0 a1 a2 a3 b0 b1 b2 b3 : Int} {a b : Nat} (h : WrapInv f C (sel4 a0 a1 a2 a3) (sel4 b0 b1 b2 b3) 4) (ha : IsW a0 a1 a2 a3 a) (hb : IsW b0 b1 b2 b3 b) : IsW (f 0) (f 1) (f 2) (f 3) (wrapN a b) := by
  obtain ⟨h1, h2, h3, h4, h5⟩ := h
  rw [← ha.val, ← hb.val, ← M_W] at h5
  have hp := psum_bd h4 4
  rw [← M_W] at hp
  have la := ha.ltM
  have lb := hb.ltM
  refine IsW.of h4 ?_
  unfold wrapN
  rcases (show C = 0 ∨ C = 1 by omega) with rfl | rfl
  · rw [Int.zero_mul] at h5
    have e : a + M - b = (a - b) + M := by omega
    rw [e, Nat.add_mod_right, Nat.mod_eq_of_lt (by omega)]; omega
  · rw [Int.one_mul] at h5
    rw [Nat.mod_eq_of_lt (by omega)]; omega

set_option maxHeartbeats 1000000 in
theorem wrap_any (a0 a1 a2 a3 b0 b1 b2 b3 : Int) (a b : Nat) (ha : IsW a0 a1 a2 a3 a) (hb : IsW b0 b1 b2 b3 b) (w : World) :
    Calls Try.prog 170 #[.agg #[.int .u64 a0, .int .u64 a1, .int .u64 a2, .int .u64 a3], .agg #[.int .u64 b0, .int .u64 b1, .int .u64 b2, .int .u64 b3]] w (One w (wrapN a b)) := by
  go_enter Try.func170, Try.ntmps170
  go_wp2
  go_loopg [5, 7] 4 (fun g c i wr => ∃ (k : Nat) (f : Nat → Int) (C : Int), k + g = 4 ∧ i = .int .i64 (k : Int) ∧ c = .int .u64 C ∧
     Below w.heap.size w wr ∧ Row wr w.heap.size 31 (arr .u64 f 4) ∧ Row wr (w.heap.size + 1) 31 (arr .u64 (sel4 b0 b1 b2 b3) 4) ∧ Row wr (w.heap.size + 1 + 1) 31 (arr .u64 (fun _ => 0) 4) ∧ WrapInv f C (sel4 a0 a1 a2 a3) (sel4 b0 b1 b2 b3) k)
  case atStart =>
    refine ⟨0, sel4 a0 a1 a2 a3, 0, rfl, rfl, rfl, by go_grown, ?_, ?_, ?_, fun _ _ => rfl, by omega, by omega, ha.wordy, by simp [psum]⟩ <;> repeat (first | (refine Row.new_at ?_; simp; done) | refine Row.alloc ?_ _)
  case round =>
    obtain ⟨k, f, C, hk, rfl, rfl, hbl, ra, rb, rr, inv⟩ := hrel
    by_cases hlt : k < 4
    · have ca := ra.at_ k hlt
      have fa := ra.frozen k
      have cb := rb.at_ k hlt
      have wa := inv.2.2.2.1 k
      have wb := hb.wordy k
      have hC0 := inv.2.1
      have hC1 := inv.2.2.1
      have H := Lib.hid (show _ ∧ _ ∧ _ ∧ _ from ⟨ra, rb, rr, inv⟩)
      clear ra rb rr inv
      go_wp2_with fail
      go_region_with (go_at_call 165; refine (borrow_any _ _ _ _ wa wb ⟨hC0, hC1⟩).mono ?_; rintro e w' ⟨rfl, rfl⟩)
      all_goals
        go_wp2_with fail
        go_roundg (gk - 1)
        case measure => omega
        case rel =>
          obtain ⟨ra, rb, rr, inv⟩ := H.out
          exact ⟨k + 1, _, _, by omega, by go_num, rfl, by go_grown, (ra.put k hlt _).drew, (rb.far (by dsimp only; omega) _).drew, (rr.far (by dsimp only; omega) _).drew, inv.step ha.wordy hb.wordy⟩
    · obtain rfl : k = 4 := by omega
      have c0 := ra.at_ 0 (by omega)
      have c1 := ra.at_ 1 (by omega)
      have c2 := ra.at_ 2 (by omega)
      have c3 := ra.at_ 3 (by omega)
      have d0 := rr.at_ 0 (by omega)
      have d1 := rr.at_ 1 (by omega)
      have d2 := rr.at_ 2 (by omega)
      have d3 := rr.at_ 3 (by omega)
      have f0 := rr.frozen 0
      have f1 := rr.frozen 1
      have f2 := rr.frozen 2
      have f3 := rr.frozen 3
      have fin := Lib.hid (inv.fin ha hb)
      have H := Lib.hid rr
      clear ra rb rr hlt inv
      go_wp2
      refine bodyPost_ret (results_c rfl aggT31 rfl (H.out.store4 rfl _ _ _ _) rfl) rfl ?_
      exact ⟨_, _, _, _, rfl, fin.out, by go_grown⟩
end Go.Proofs.Ytpdenhmkpiafiaa
