/-
  u256.small: a number divided by a half word: how often, and what is left.
-/
import Derived.Test.YtpdenhmkpiafiaaDbl
import Derived.BigRegion
namespace Go.Proofs.Ytpdenhmkpiafiaa
open Go Go.RowKit

theorem psum_succ (f : Nat → Int) (n : Nat) : psum f (n + 1) = psum f n + f n * W ^ n := rfl
theorem psum_upd {f : Nat → Int} {k : Nat} (x : Int) : ∀ {n : Nat}, k < n → psum (upd f k x) n = psum f n + (x - f k) * W ^ k
  | 0, h => absurd h (by omega)
  | n + 1, h => by
    unfold psum
    by_cases e : k = n
    · subst e
      rw [psum_upd_ge _ _ _ (Nat.le_refl k), upd_same, Int.sub_mul]; omega
    · rw [psum_upd x (by omega), upd_ne _ _ _ _ (by omega)]; omega

def smQ (r x d : Int) : Int := (r * 18446744073709551616 + x) / d
def smR (r x d : Int) : Int := (r * 18446744073709551616 + x) % d
theorem quo_rem_of {n d q r : Int} (h0 : 0 ≤ r) (h1 : r < d) (h : n = d * q + r) : n / d = q ∧ n % d = r := by
  subst h
  have hd : d ≠ 0 := by omega
  exact ⟨by rw [Int.add_comm, Int.add_mul_ediv_left _ _ hd, Int.ediv_eq_zero_of_lt h0 h1, Int.zero_add], by rw [Int.add_comm, Int.add_mul_emod_self_left, Int.emod_eq_of_lt h0 h1]⟩
theorem small_eq (R x D : Int) (hD : 1 ≤ D ∧ D ≤ 4294967295) (hR : 0 ≤ R ∧ R < D) (hx : 0 ≤ x ∧ x < 18446744073709551616) :
    bits .or .u64 (IntKind.u64.wrap (IntKind.u64.wrap ((bits .or .u64 (R * 4294967296) (x / 4294967296)).tdiv D) * 4294967296))
      (IntKind.u64.wrap ((bits .or .u64 (IntKind.u64.wrap ((bits .or .u64 (R * 4294967296) (x / 4294967296)).tmod D * 4294967296)) (bits .and .u64 x 4294967295)).tdiv D)) = smQ R x D ∧
    (bits .or .u64 (IntKind.u64.wrap ((bits .or .u64 (R * 4294967296) (x / 4294967296)).tmod D * 4294967296)) (bits .and .u64 x 4294967295)).tmod D = smR R x D := by
  have u : ∀ y : Int, 0 ≤ y → y < 18446744073709551616 → IntKind.u64.wrap y = y := fun y h1 h2 => by rw [IntKind.wrap_u64]; omega
  rw [or_add R (x / 4294967296) (by omega) (by omega), and_low x hx]
  have hH0 : 0 ≤ R * 4294967296 + x / 4294967296 := by omega
  rw [Int.tmod_eq_emod_of_nonneg hH0, Int.tdiv_eq_ediv_of_nonneg hH0]
  have hH1 : R * 4294967296 + x / 4294967296 < D * 4294967296 := by omega
  have r1 := Int.emod_nonneg (R * 4294967296 + x / 4294967296) (show D ≠ 0 by omega)
  have r2 := Int.emod_lt_of_pos (R * 4294967296 + x / 4294967296) (show 0 < D by omega)
  have q1 : 0 ≤ (R * 4294967296 + x / 4294967296) / D := Int.ediv_nonneg hH0 (by omega)
  have q2 : (R * 4294967296 + x / 4294967296) / D < 4294967296 := Int.ediv_lt_of_lt_mul (by omega) (by omega)
  have e1 := Int.emod_add_mul_ediv (R * 4294967296 + x / 4294967296) D
  generalize (R * 4294967296 + x / 4294967296) % D = rh at *
  generalize (R * 4294967296 + x / 4294967296) / D = qh at *
  rw [u (rh * 4294967296) (by omega) (by omega), or_add rh (x % 4294967296) (by omega) (by omega)]
  have hB0 : 0 ≤ rh * 4294967296 + x % 4294967296 := by omega
  have hB1 : rh * 4294967296 + x % 4294967296 < D * 4294967296 := by omega
  rw [Int.tmod_eq_emod_of_nonneg hB0, Int.tdiv_eq_ediv_of_nonneg hB0]
  have r3 := Int.emod_nonneg (rh * 4294967296 + x % 4294967296) (show D ≠ 0 by omega)
  have r4 := Int.emod_lt_of_pos (rh * 4294967296 + x % 4294967296) (show 0 < D by omega)
  have q3 : 0 ≤ (rh * 4294967296 + x % 4294967296) / D := Int.ediv_nonneg hB0 (by omega)
  have q4 : (rh * 4294967296 + x % 4294967296) / D < 4294967296 := Int.ediv_lt_of_lt_mul (by omega) (by omega)
  have e2 := Int.emod_add_mul_ediv (rh * 4294967296 + x % 4294967296) D
  generalize (rh * 4294967296 + x % 4294967296) % D = rb at *
  generalize (rh * 4294967296 + x % 4294967296) / D = qb at *
  rw [u qh (by omega) (by omega), u (qh * 4294967296) (by omega) (by omega), u qb (by omega) (by omega), or_add qh qb ⟨q1, q2⟩ ⟨q3, q4⟩]
  have hn : R * 18446744073709551616 + x = D * (qh * 4294967296 + qb) + rb := by
    rw [Int.mul_add, ← Int.mul_assoc]
    generalize D * qh = t at *
    generalize D * qb = v at *
    omega
  have h := quo_rem_of r3 r4 hn
  unfold smQ smR
  exact ⟨h.1.symm, h.2.symm⟩

def SmInv (f : Nat → Int) (R : Int) (a : Nat → Int) (D : Int) (k : Nat) : Prop := Wordy f ∧ 0 ≤ R ∧ R < D ∧ (∀ i, i < k → f i = a i) ∧ D * (psum f 4 - psum f k) + R * W ^ k = psum a 4 - psum a k
theorem sm_ring {D F G y X R A B r q V : Int} (h5 : D * (F - (G + y * X)) + R * (X * V) = A - (B + y * X)) (h : (r + D * q) * X = (R * V + y) * X) : D * (F + (q - y) * X - G) + r * X = A - B := by
  grind
theorem SmInv.step {f a : Nat → Int} {R D : Int} {k : Nat} (h : SmInv f R a D (k + 1)) (hk : k < 4) : SmInv (upd f k (smQ R (f k) D)) (smR R (f k) D) a D k := by
  obtain ⟨h1, h2, h3, h4, h5⟩ := h
  have wk := h1 k
  have hD : 0 < D := by omega
  have e := Int.emod_add_mul_ediv (R * 18446744073709551616 + f k) D
  have q0 : 0 ≤ smQ R (f k) D := Int.ediv_nonneg (by omega) (by omega)
  have q1 : smQ R (f k) D < W := Int.ediv_lt_of_lt_mul hD (by unfold W at *; have : (R + 1) * 18446744073709551616 ≤ D * 18446744073709551616 := Int.mul_le_mul_of_nonneg_right (by omega) (by omega); rw [Int.mul_comm]; omega)
  refine ⟨h1.upd k ⟨q0, q1⟩, Int.emod_nonneg _ (by omega), Int.emod_lt_of_pos _ hD, fun i hi => ?_, ?_⟩
  · rw [upd_ne _ _ _ _ (by omega)]; exact h4 i (by omega)
  · rw [psum_upd _ hk, psum_upd_ge _ _ _ (Nat.le_refl k)]
    have ha := h4 k (by omega)
    rw [psum_succ f k, psum_succ a k, Int.pow_succ] at h5
    unfold smQ smR
    rw [← ha] at h5
    rw [show (18446744073709551616 : Int) = W from rfl] at *
    generalize (R * W + f k) % D = r at *
    generalize (R * W + f k) / D = q at *
    generalize psum f 4 = F at *
    generalize psum f k = G at *
    generalize W ^ k = X at *
    generalize psum a 4 = A at *
    generalize psum a k = B at *
    generalize f k = y at *
    have : (r + D * q) * X = (R * W + y) * X := by rw [e]
    exact sm_ring h5 this
theorem SmInv.fin {f : Nat → Int} {R a0 a1 a2 a3 : Int} {a D : Nat} (h : SmInv f R (sel4 a0 a1 a2 a3) D 0) (ha : IsW a0 a1 a2 a3 a) : IsW (f 0) (f 1) (f 2) (f 3) (a / D) ∧ ((a % D : Nat) : Int) = R := by
  obtain ⟨h1, h2, h3, h4, h5⟩ := h
  rw [← ha.val] at h5
  rw [show psum f 0 = 0 from rfl, show psum (sel4 a0 a1 a2 a3) 0 = 0 from rfl, Int.pow_zero, Int.mul_one, Int.sub_zero, Int.sub_zero] at h5
  have := quo_rem_of h2 h3 h5.symm
  refine ⟨IsW.of h1 ?_, ?_⟩
  · rw [Int.natCast_ediv]; exact this.1
  · rw [Int.natCast_emod]; exact this.2

set_option maxHeartbeats 1000000 in
theorem small_any (a0 a1 a2 a3 d : Int) (a D : Nat) (ha : IsW a0 a1 a2 a3 a) (hd : d = D) (h1 : 1 ≤ D) (h2 : D ≤ 4294967295) (w : World) :
    Calls Try.prog 168 #[.agg #[.int .u64 a0, .int .u64 a1, .int .u64 a2, .int .u64 a3], .int .u64 d] w (Two w (a / D) ((a % D : Nat) : Int)) := by
  subst hd
  go_enter Try.func168, Try.ntmps168
  go_wp2
  go_loopg [6, 7] 4 (fun g r i wr => ∃ (f : Nat → Int) (R : Int), g ≤ 4 ∧ i = .int .i64 ((g : Int) - 1) ∧ r = .int .u64 R ∧
     Below w.heap.size w wr ∧ Row wr w.heap.size 31 (arr .u64 f 4) ∧ Row wr (w.heap.size + 1) 31 (arr .u64 (fun _ => 0) 4) ∧ SmInv f R (sel4 a0 a1 a2 a3) D g)
  case atStart =>
    refine ⟨sel4 a0 a1 a2 a3, 0, by omega, rfl, rfl, by go_grown, ?_, ?_, ha.wordy, by omega, by omega, fun _ _ => rfl, by simp⟩ <;> repeat (first | (refine Row.new_at ?_; simp; done) | refine Row.alloc ?_ _)
  case round =>
    obtain ⟨f, R, hk, rfl, rfl, hbl, ra, rr, inv⟩ := hrel
    have hR0 := inv.2.1
    have hR1 := inv.2.2.1
    by_cases h0 : 0 < gk
    · obtain ⟨j, rfl⟩ : ∃ j, gk = j + 1 := ⟨gk - 1, by omega⟩
      rw [show (((j + 1 : Nat) : Int) - 1) = (j : Int) from by omega]
      have ca := ra.at_ j (by omega)
      have fa := ra.frozen j
      have wa := inv.1 j
      have hd0 : ¬ ((D : Int) = 0) := by omega
      have hd0' : ((D : Int) == 0) = false := by simp; omega
      have H := Lib.hid (show _ ∧ _ ∧ _ from ⟨ra, rr, inv⟩)
      clear ra rr inv h0
      go_wp2_with fail
      go_quiet (fail)
      go_wp2_with fail
      go_region
      go_wp2_with fail
      go_roundg j
      case measure => omega
      case rel =>
        obtain ⟨ra, rr, inv⟩ := H.out
        have he := small_eq R (f j) D ⟨by omega, by omega⟩ ⟨hR0, hR1⟩ wa
        rw [he.1, he.2]
        exact ⟨_, _, by omega, rfl, rfl, (belowDN hbl _).setCell (Nat.le_refl _) _, Row.put (w := wr.drewN _) (ra.drewN _) j (by omega) _, Row.far (w := wr.drewN _) (rr.drewN _) (by dsimp only; omega) _, inv.step (by omega)⟩
    · obtain rfl : gk = 0 := by omega
      have c0 := ra.at_ 0 (by omega)
      have c1 := ra.at_ 1 (by omega)
      have c2 := ra.at_ 2 (by omega)
      have c3 := ra.at_ 3 (by omega)
      have d0 := rr.at_ 0 (by omega)
      have d1 := rr.at_ 1 (by omega)
      have d2 := rr.at_ 2 (by omega)
      have d3 := rr.at_ 3 (by omega)
      have f0 := rr.frozen 0
      have f1 := rr.frozen 1
      have f2 := rr.frozen 2
      have f3 := rr.frozen 3
      have fin := Lib.hid (inv.fin ha)
      have H := Lib.hid rr
      clear ra rr h0 inv
      go_wp2
      refine bodyPost_ret (results_ct rfl aggT31 rfl (H.out.store4 rfl _ _ _ _) rfl) rfl ?_
      exact ⟨_, _, _, _, by rw [fin.out.2]; rfl, fin.out.1, by go_grown⟩
end Go.Proofs.Ytpdenhmkpiafiaa
