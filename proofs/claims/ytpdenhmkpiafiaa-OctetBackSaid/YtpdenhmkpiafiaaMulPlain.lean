/-
  THE PLAIN LAW OF LONG MULTIPLICATION, word by word. No program in sight.
-/
import Derived.Test.YtpdenhmkpiafiaaSmall
namespace Go.Proofs.Ytpdenhmkpiafiaa
open Go Go.RowKit

def mS (x y f c : Int) : Int := (x * y + f + c) % 18446744073709551616
def mC (x y f c : Int) : Int := (x * y + f + c) / 18446744073709551616
theorem mul_step (x y f c : Int) (hx : 0 ≤ x ∧ x < 18446744073709551616) (hy : 0 ≤ y ∧ y < 18446744073709551616) (hf : 0 ≤ f ∧ f < 18446744073709551616) (hc : 0 ≤ c ∧ c < 18446744073709551616) :
    cS (cS (pL x y) f 0) c 0 = mS x y f c ∧ IntKind.u64.wrap (IntKind.u64.wrap (pH x y + cC (pL x y) f 0) + cC (cS (pL x y) f 0) c 0) = mC x y f c ∧ 0 ≤ mC x y f c ∧ mC x y f c < 18446744073709551616 ∧ 0 ≤ mS x y f c ∧ mS x y f c < 18446744073709551616 := by
  have h0 : 0 ≤ x * y := Int.mul_nonneg hx.1 hy.1
  have h1 : x * y ≤ 18446744073709551615 * y := Int.mul_le_mul_of_nonneg_right (by omega) hy.1
  rw [IntKind.wrap_u64, IntKind.wrap_u64]
  unfold cS cC pL pH mS mC
  generalize x * y = t at *
  omega
theorem mul_step_val (x y f c : Int) : mS x y f c + W * mC x y f c = x * y + f + c := by unfold mS mC W; omega

/-- after i words of a: what out holds -/
def MulInv (f a b : Nat → Int) (i : Nat) : Prop := Wordy f ∧ (∀ m, i + 4 ≤ m → f m = 0) ∧ psum f (i + 4) = psum a i * psum b 4
/-- .. and of the next word's products j are added, c is carried -/
def MulMid (f : Nat → Int) (c : Int) (a b : Nat → Int) (i j : Nat) : Prop :=
  Wordy f ∧ (∀ m, i + 4 ≤ m → f m = 0) ∧ 0 ≤ c ∧ c < 18446744073709551616 ∧ psum f (i + 4) + c * W ^ (i + j) = psum a i * psum b 4 + a i * psum b j * W ^ i
theorem MulInv.zero (a b : Nat → Int) : MulInv (fun _ => 0) a b 0 := ⟨wordy_zero, fun _ _ => rfl, by rw [psum_zero]; simp [psum]⟩
theorem MulInv.mid {f a b : Nat → Int} {i : Nat} (h : MulInv f a b i) : MulMid f 0 a b i 0 :=
  ⟨h.1, h.2.1, by omega, by omega, by rw [h.2.2]; simp [psum]⟩
theorem mid_ring {F f c A x B y X s t V P Q : Int} (h : F + c * (P * Q) = A * X + x * B * P) (hv : s + V * t = x * y + f + c) : F + (s - f) * (P * Q) + t * (P * (Q * V)) = A * X + x * (B + y * Q) * P := by
  have : (s + V * t) * (P * Q) = (x * y + f + c) * (P * Q) := by rw [hv]
  grind
theorem MulMid.step {f a b : Nat → Int} {c : Int} {i j : Nat} (h : MulMid f c a b i j) (ha : Wordy a) (hb : Wordy b) (hj : j < 4) :
    MulMid (upd f (i + j) (mS (a i) (b j) (f (i + j)) c)) (mC (a i) (b j) (f (i + j)) c) a b i (j + 1) := by
  obtain ⟨h1, h2, h3, h4, h5⟩ := h
  have hs := mul_step (a i) (b j) (f (i + j)) c (ha i) (hb j) (h1 _) ⟨h3, h4⟩
  have hv := mul_step_val (a i) (b j) (f (i + j)) c
  refine ⟨h1.upd _ hs.2.2.2.2, fun m hm => ?_, hs.2.2.1, hs.2.2.2.1, ?_⟩
  · rw [upd_ne _ _ _ _ (by omega)]; exact h2 m hm
  · rw [psum_upd _ (by omega), psum_succ b j, ← Nat.add_assoc, Int.pow_succ (W) (i + j), Int.pow_add, Int.mul_assoc (W ^ i)]
    rw [Int.pow_add] at h5
    exact mid_ring h5 hv
theorem MulMid.done {f a b : Nat → Int} {c : Int} {i : Nat} (h : MulMid f c a b i 4) : MulInv (upd f (i + 4) c) a b (i + 1) := by
  obtain ⟨h1, h2, h3, h4, h5⟩ := h
  refine ⟨h1.upd _ ⟨h3, h4⟩, fun m hm => ?_, ?_⟩
  · rw [upd_ne _ _ _ _ (by omega)]; exact h2 m (by omega)
  · rw [show i + 1 + 4 = (i + 4) + 1 by omega, psum_succ, psum_upd_ge _ _ _ (Nat.le_refl _), upd_same, psum_succ a i, h5]
    grind
theorem psum_tail {f : Nat → Int} {k : Nat} (h : ∀ m, k ≤ m → f m = 0) : ∀ n, k ≤ n → psum f n = psum f k := by
  intro n
  induction n with
  | zero => intro hn; rw [show k = 0 by omega]
  | succ n ih =>
    intro hn
    by_cases e : k = n + 1
    · rw [e]
    · rw [psum_succ, ih (by omega), h n (by omega)]; simp
theorem psum_wlen {a0 a1 a2 a3 : Int} {a : Nat} (h : IsW a0 a1 a2 a3 a) : psum (sel4 a0 a1 a2 a3) (wlen a) = a := by
  by_cases h0 : wlen a = 0
  · rw [h0]
    have : a = 0 := by unfold wlen at h0; (repeat' split at h0) <;> omega
    rw [this]; rfl
  · obtain ⟨j, hj⟩ : ∃ j, wlen a = j + 1 := ⟨wlen a - 1, by omega⟩
    have hv := h.val
    have w0 := h.wordy 0
    have w1 := h.wordy 1
    have w2 := h.wordy 2
    have w3 := h.wordy 3
    simp [sel4, W, psum] at w0 w1 w2 w3 hv
    unfold wlen at hj ⊢
    (repeat' split) <;> simp [sel4, psum, W] <;> omega
theorem mul_fin {f : Nat → Int} {a0 a1 a2 a3 b0 b1 b2 b3 : Int} {a b : Nat} (ha : IsW a0 a1 a2 a3 a) (hb : IsW b0 b1 b2 b3 b) (h : MulInv f (sel4 a0 a1 a2 a3) (sel4 b0 b1 b2 b3) (wlen a)) : psum f 8 = ((a * b : Nat) : Int) := by
  have hl := wlen_le a
  rw [psum_tail h.2.1 8 (by omega), h.2.2, psum_wlen ha, ← hb.val, Int.natCast_mul]
def mulN (a b : Nat) : Nat := if a * b < M then a * b else 0
def mulB (a b : Nat) : Bool := decide (a * b < M)
theorem psum8 (f : Nat → Int) : psum f 8 = psum f 4 + W ^ 4 * (f 4 + f 5 * W + f 6 * W ^ 2 + f 7 * W ^ 3) := by
  simp only [psum]
  grind
/-- the upper half is nought -/
def Low (f : Nat → Int) : Prop := f 4 = 0 ∧ f 5 = 0 ∧ f 6 = 0 ∧ f 7 = 0
theorem low_iff {f : Nat → Int} (h : Wordy f) {n : Nat} (hn : psum f 8 = (n : Int)) : (Low f → IsW (f 0) (f 1) (f 2) (f 3) n ∧ n < M) ∧ (¬ Low f → ¬ n < M) := by
  rw [psum8, ← M_W] at hn
  have hb := psum_bd h 4
  rw [← M_W] at hb
  have h4 := h 4
  have h5 := h 5
  have h6 := h 6
  have h7 := h 7
  constructor
  · rintro ⟨e4, e5, e6, e7⟩
    rw [e4, e5, e6, e7] at hn
    simp at hn
    exact ⟨IsW.of h hn.symm, by omega⟩
  · intro hl hlt
    have hT : 1 ≤ f 4 + f 5 * W + f 6 * W ^ 2 + f 7 * W ^ 3 := by
      rcases (show 0 < (f 4 + f 5 * W + f 6 * W ^ 2 + f 7 * W ^ 3) ∨ (f 4 + f 5 * W + f 6 * W ^ 2 + f 7 * W ^ 3) ≤ 0 by omega) with h0 | h0
      · omega
      · exfalso
        apply hl
        unfold W at *
        simp only [Int.reducePow] at h0
        refine ⟨?_, ?_, ?_, ?_⟩ <;> omega
    generalize f 4 + f 5 * W + f 6 * W ^ 2 + f 7 * W ^ 3 = T at *
    have h8 : (M : Int) * 1 ≤ M * T := Int.mul_le_mul_of_nonneg_left hT (by omega)
    omega
theorem wlen_ge {n : Nat} (h : wlen n ≠ 0) : W ^ (wlen n - 1) ≤ (n : Int) := by
  unfold wlen at *
  (repeat' split at h) <;> (repeat' split) <;> simp [W] at * <;> omega
theorem big_mul {a b : Nat} (h : 5 < wlen a + wlen b) : ¬ a * b < M := by
  have la := wlen_le a
  have lb := wlen_le b
  have h1 := wlen_ge (n := a) (by omega)
  have h2 := wlen_ge (n := b) (by omega)
  have h3 : W ^ (wlen a - 1) * W ^ (wlen b - 1) ≤ (a : Int) * b := Int.mul_le_mul h1 h2 (Int.le_of_lt (Wpow_pos _)) (by omega)
  rw [← Int.pow_add] at h3
  have h4 : W ^ 4 ≤ W ^ (wlen a - 1 + (wlen b - 1)) := by
    rw [show wlen a - 1 + (wlen b - 1) = 4 + (wlen a - 1 + (wlen b - 1) - 4) by omega, Int.pow_add]
    have h5 := Wpow_pos (wlen a - 1 + (wlen b - 1) - 4)
    have h6 : W ^ 4 * 1 ≤ W ^ 4 * W ^ (wlen a - 1 + (wlen b - 1) - 4) := Int.mul_le_mul_of_nonneg_left (by omega) (Int.le_of_lt (Wpow_pos 4))
    omega
  rw [← M_W] at h4
  intro hlt
  have : ((a * b : Nat) : Int) < M := Int.ofNat_lt.2 hlt
  rw [Int.natCast_mul] at this
  omega
end Go.Proofs.Ytpdenhmkpiafiaa
