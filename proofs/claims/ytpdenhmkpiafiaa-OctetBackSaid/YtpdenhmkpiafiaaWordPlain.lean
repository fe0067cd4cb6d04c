/-
  THE PLAIN LAWS OF ONE WORD: what Carry, Borrow, Product and the shifts of u256 compute. No program in sight.
-/
import Derived.Test.YtpdenhmkpiafiaaBase
namespace Go.Proofs.Ytpdenhmkpiafiaa
open Go Go.RowKit

/-- a sum's word, and what is carried -/
def cS (a b c : Int) : Int := (a + b + c) % 18446744073709551616
def cC (a b c : Int) : Int := (a + b + c) / 18446744073709551616
/-- a difference's word, and what is borrowed -/
def bS (a b c : Int) : Int := (a - b - c) % 18446744073709551616
def bC (a b c : Int) : Int := -((a - b - c) / 18446744073709551616)
/-- a product's words -/
def pH (a b : Int) : Int := a * b / 18446744073709551616
def pL (a b : Int) : Int := a * b % 18446744073709551616

theorem top_bit (X : Nat) (h : X < 18446744073709551616) : X / 9223372036854775808 = 0 ∨ X / 9223372036854775808 = 1 := by omega

theorem carry_nat (A B S : Nat) (hA : A < 18446744073709551616) (hB : B < 18446744073709551616) (hS : S < 18446744073709551616) :
    ((A &&& B) ||| ((A ||| B) &&& (18446744073709551615 - S))) / 9223372036854775808 =
      (if A / 9223372036854775808 + B / 9223372036854775808 = 2 ∨ (A / 9223372036854775808 + B / 9223372036854775808 = 1 ∧ S / 9223372036854775808 = 0) then 1 else 0) := by
  rw [show (9223372036854775808 : Nat) = 2 ^ 63 from rfl, Nat.or_div_two_pow, Nat.and_div_two_pow, Nat.and_div_two_pow, Nat.or_div_two_pow]
  have e : (18446744073709551615 - S) / 2 ^ 63 = 1 - S / 2 ^ 63 := by omega
  rw [e]
  rcases (show A / 2 ^ 63 = 0 ∨ A / 2 ^ 63 = 1 by omega) with h1 | h1 <;> rcases (show B / 2 ^ 63 = 0 ∨ B / 2 ^ 63 = 1 by omega) with h2 | h2 <;>
    rcases (show S / 2 ^ 63 = 0 ∨ S / 2 ^ 63 = 1 by omega) with h3 | h3 <;> rw [h1, h2, h3] <;> decide

theorem carry_eq (a b c : Int) (ha : 0 ≤ a ∧ a < 18446744073709551616) (hb : 0 ≤ b ∧ b < 18446744073709551616) (hc : 0 ≤ c ∧ c ≤ 1) :
    bits .or .u64 (bits .and .u64 a b) (bits .andNot .u64 (bits .or .u64 a b) (IntKind.u64.wrap (IntKind.u64.wrap (a + b) + c))) / 9223372036854775808 = cC a b c := by
  obtain ⟨A, rfl⟩ := Int.eq_ofNat_of_zero_le ha.1
  obtain ⟨B, rfl⟩ := Int.eq_ofNat_of_zero_le hb.1
  obtain ⟨C, rfl⟩ := Int.eq_ofNat_of_zero_le hc.1
  have hA : A < 18446744073709551616 := by omega
  have hB : B < 18446744073709551616 := by omega
  have e : IntKind.u64.wrap (IntKind.u64.wrap ((A : Int) + (B : Int)) + (C : Int)) = (((A + B + C) % 18446744073709551616 : Nat) : Int) := by
    rw [IntKind.wrap_u64, IntKind.wrap_u64]; omega
  have hS : (A + B + C) % 18446744073709551616 < 18446744073709551616 := Nat.mod_lt _ (by decide)
  have hor : A ||| B < 18446744073709551616 := Nat.or_lt_two_pow (n := 64) hA hB
  have hand : A &&& B < 18446744073709551616 := Nat.and_lt_two_pow (n := 64) _ hB
  rw [e, u64_and_nat A B hA hB, u64_or_nat A B hA hB, u64_andNot_nat _ _ hor hS, u64_or_nat _ _ hand (Nat.lt_of_le_of_lt Nat.and_le_left hor)]
  have h := carry_nat A B _ hA hB hS
  rw [show ((((A &&& B) ||| ((A ||| B) &&& (18446744073709551615 - (A + B + C) % 18446744073709551616)) : Nat) : Int) / 9223372036854775808) = ((((A &&& B) ||| ((A ||| B) &&& (18446744073709551615 - (A + B + C) % 18446744073709551616))) / 9223372036854775808 : Nat) : Int) from by omega, h]
  unfold cC
  split <;> omega
theorem sum_eq (a b c : Int) : IntKind.u64.wrap (IntKind.u64.wrap (a + b) + c) = cS a b c := by
  rw [IntKind.wrap_u64, IntKind.wrap_u64]; unfold cS; omega
theorem cC_bd (a b c : Int) (ha : 0 ≤ a ∧ a < 18446744073709551616) (hb : 0 ≤ b ∧ b < 18446744073709551616) (hc : 0 ≤ c ∧ c ≤ 1) : 0 ≤ cC a b c ∧ cC a b c ≤ 1 := by
  unfold cC; omega
theorem cS_bd (a b c : Int) : 0 ≤ cS a b c ∧ cS a b c < W := by unfold cS W; omega
theorem carry_val (a b c : Int) : cS a b c + W * cC a b c = a + b + c := by unfold cS cC W; omega

theorem borrow_nat (A B S : Nat) (hA : A < 18446744073709551616) (hB : B < 18446744073709551616) (hS : S < 18446744073709551616) :
    (((18446744073709551615 - A) &&& B) ||| (((18446744073709551615 - A) ||| B) &&& S)) / 9223372036854775808 =
      (if (1 - A / 9223372036854775808) + B / 9223372036854775808 = 2 ∨ ((1 - A / 9223372036854775808) + B / 9223372036854775808 = 1 ∧ S / 9223372036854775808 = 1) then 1 else 0) := by
  rw [show (9223372036854775808 : Nat) = 2 ^ 63 from rfl, Nat.or_div_two_pow, Nat.and_div_two_pow, Nat.and_div_two_pow, Nat.or_div_two_pow]
  have e : (18446744073709551615 - A) / 2 ^ 63 = 1 - A / 2 ^ 63 := by omega
  rw [e]
  rcases (show A / 2 ^ 63 = 0 ∨ A / 2 ^ 63 = 1 by omega) with h1 | h1 <;> rcases (show B / 2 ^ 63 = 0 ∨ B / 2 ^ 63 = 1 by omega) with h2 | h2 <;>
    rcases (show S / 2 ^ 63 = 0 ∨ S / 2 ^ 63 = 1 by omega) with h3 | h3 <;> rw [h1, h2, h3] <;> decide

theorem xor_max (a : Int) (ha : 0 ≤ a ∧ a < 18446744073709551616) : bits .xor .u64 IntKind.u64.max a = 18446744073709551615 - a := by
  obtain ⟨A, rfl⟩ := Int.eq_ofNat_of_zero_le ha.1
  have e : IntKind.u64.max = ((18446744073709551615 : Nat) : Int) := by decide
  rw [e, u64_xor_nat _ _ (by decide) (by omega)]
  have h : 18446744073709551615 ^^^ A = 18446744073709551615 - A := by
    have h1 := BitVec.toNat_not (x := BitVec.ofNat 64 A)
    have h2 : (~~~BitVec.ofNat 64 A) = BitVec.allOnes 64 ^^^ BitVec.ofNat 64 A := (BitVec.allOnes_xor).symm
    rw [h2, BitVec.toNat_xor, BitVec.toNat_allOnes, BitVec.toNat_ofNat, Nat.mod_eq_of_lt (by omega)] at h1
    exact h1
  rw [h]; omega

theorem borrow_eq (a b c : Int) (ha : 0 ≤ a ∧ a < 18446744073709551616) (hb : 0 ≤ b ∧ b < 18446744073709551616) (hc : 0 ≤ c ∧ c ≤ 1) :
    bits .or .u64 (bits .and .u64 (bits .xor .u64 IntKind.u64.max a) b) (bits .and .u64 (bits .or .u64 (bits .xor .u64 IntKind.u64.max a) b) (IntKind.u64.wrap (IntKind.u64.wrap (a - b) - c))) / 9223372036854775808 = bC a b c := by
  rw [xor_max a ha]
  obtain ⟨A, rfl⟩ := Int.eq_ofNat_of_zero_le ha.1
  obtain ⟨B, rfl⟩ := Int.eq_ofNat_of_zero_le hb.1
  obtain ⟨C, rfl⟩ := Int.eq_ofNat_of_zero_le hc.1
  have hA : A < 18446744073709551616 := by omega
  have hB : B < 18446744073709551616 := by omega
  have e0 : (18446744073709551615 : Int) - (A : Int) = ((18446744073709551615 - A : Nat) : Int) := by omega
  have e : IntKind.u64.wrap (IntKind.u64.wrap ((A : Int) - (B : Int)) - (C : Int)) = (((A + 2 * 18446744073709551616 - B - C) % 18446744073709551616 : Nat) : Int) := by
    rw [IntKind.wrap_u64, IntKind.wrap_u64]; omega
  have hA' : 18446744073709551615 - A < 18446744073709551616 := by omega
  have hS : (A + 2 * 18446744073709551616 - B - C) % 18446744073709551616 < 18446744073709551616 := Nat.mod_lt _ (by decide)
  have hor : (18446744073709551615 - A) ||| B < 18446744073709551616 := Nat.or_lt_two_pow (n := 64) hA' hB
  have hand : (18446744073709551615 - A) &&& B < 18446744073709551616 := Nat.and_lt_two_pow (n := 64) _ hB
  rw [e0, e, u64_and_nat _ B hA' hB, u64_or_nat _ B hA' hB, u64_and_nat _ _ hor hS, u64_or_nat _ _ hand (Nat.lt_of_le_of_lt Nat.and_le_left hor)]
  have h := borrow_nat A B _ hA hB hS
  have e1 : ∀ X : Nat, ((X : Int) / 9223372036854775808) = ((X / 9223372036854775808 : Nat) : Int) := fun X => by omega
  rw [e1, h]
  unfold bC
  split <;> omega
theorem diff_eq (a b c : Int) : IntKind.u64.wrap (IntKind.u64.wrap (a - b) - c) = bS a b c := by
  rw [IntKind.wrap_u64, IntKind.wrap_u64]; unfold bS; omega
theorem bC_bd (a b c : Int) (ha : 0 ≤ a ∧ a < 18446744073709551616) (hb : 0 ≤ b ∧ b < 18446744073709551616) (hc : 0 ≤ c ∧ c ≤ 1) : 0 ≤ bC a b c ∧ bC a b c ≤ 1 := by
  unfold bC; omega
theorem bS_bd (a b c : Int) : 0 ≤ bS a b c ∧ bS a b c < W := by unfold bS W; omega
theorem borrow_val (a b c : Int) : bS a b c - W * bC a b c = a - b - c := by unfold bS bC W; omega

theorem and_low (a : Int) (ha : 0 ≤ a ∧ a < 18446744073709551616) : bits .and .u64 a 4294967295 = a % 4294967296 := by
  obtain ⟨A, rfl⟩ := Int.eq_ofNat_of_zero_le ha.1
  have h := u64_and_nat A 4294967295 (by omega) (by decide)
  rw [show (4294967295 : Int) = ((4294967295 : Nat) : Int) from rfl, h]
  have := Nat.and_two_pow_sub_one_eq_mod A 32
  rw [show (4294967295 : Nat) = 2 ^ 32 - 1 from rfl, this]; omega
theorem or_add (a b : Int) (ha : 0 ≤ a ∧ a < 4294967296) (hb : 0 ≤ b ∧ b < 4294967296) : bits .or .u64 (a * 4294967296) b = a * 4294967296 + b := by
  obtain ⟨A, rfl⟩ := Int.eq_ofNat_of_zero_le ha.1
  obtain ⟨B, rfl⟩ := Int.eq_ofNat_of_zero_le hb.1
  rw [show (A : Int) * 4294967296 = ((A * 4294967296 : Nat) : Int) from by omega, u64_or_nat _ _ (by omega) (by omega)]
  have := Nat.two_pow_add_eq_or_of_lt (i := 32) (b := B) (by omega) A
  rw [Nat.mul_comm A, show (4294967296 : Nat) = 2 ^ 32 from rfl, ← this]; omega
theorem mul_bd (x y : Int) (hx : 0 ≤ x ∧ x < 4294967296) (hy : 0 ≤ y ∧ y < 4294967296) : 0 ≤ x * y ∧ x * y ≤ 18446744065119617025 := by
  refine ⟨Int.mul_nonneg hx.1 hy.1, ?_⟩
  have h1 : x * y ≤ 4294967295 * y := Int.mul_le_mul_of_nonneg_right (by omega) hy.1
  omega
theorem prod_parts (aH aL bH bL : Int) (h1 : 0 ≤ aH ∧ aH < 4294967296) (h2 : 0 ≤ aL ∧ aL < 4294967296) (h3 : 0 ≤ bH ∧ bH < 4294967296) (h4 : 0 ≤ bL ∧ bL < 4294967296) :
    let bottom := aL * bL
    let one := aH * bL + bottom / 4294967296
    let two := aL * bH + one % 4294967296
    (aH * bH + one / 4294967296 + two / 4294967296) * 18446744073709551616 + ((two % 4294967296) * 4294967296 + bottom % 4294967296) = (aH * 4294967296 + aL) * (bH * 4294967296 + bL) ∧
    0 ≤ bottom ∧ bottom < 18446744073709551616 ∧ 0 ≤ one ∧ one < 18446744073709551616 ∧ 0 ≤ two ∧ two < 18446744073709551616 ∧ 0 ≤ aH * bH + one / 4294967296 + two / 4294967296 ∧ aH * bH + one / 4294967296 + two / 4294967296 < 18446744073709551616 := by
  intro bottom one two
  have p1 := mul_bd aL bL h2 h4
  have p2 := mul_bd aH bL h1 h4
  have p3 := mul_bd aL bH h2 h3
  have p4 := mul_bd aH bH h1 h3
  have e : (aH * 4294967296 + aL) * (bH * 4294967296 + bL) = (aH * bH) * 18446744073709551616 + (aH * bL) * 4294967296 + (aL * bH) * 4294967296 + aL * bL := by grind
  rw [e]
  omega
theorem product_eq (a b : Int) (ha : 0 ≤ a ∧ a < 18446744073709551616) (hb : 0 ≤ b ∧ b < 18446744073709551616) :
    IntKind.u64.wrap (IntKind.u64.wrap (IntKind.u64.wrap (a / 4294967296 * (b / 4294967296)) + IntKind.u64.wrap (IntKind.u64.wrap (a / 4294967296 * bits .and .u64 b 4294967295) + IntKind.u64.wrap (bits .and .u64 a 4294967295 * bits .and .u64 b 4294967295) / 4294967296) / 4294967296) +
      IntKind.u64.wrap (IntKind.u64.wrap (bits .and .u64 a 4294967295 * (b / 4294967296)) + bits .and .u64 (IntKind.u64.wrap (IntKind.u64.wrap (a / 4294967296 * bits .and .u64 b 4294967295) + IntKind.u64.wrap (bits .and .u64 a 4294967295 * bits .and .u64 b 4294967295) / 4294967296)) 4294967295) / 4294967296) = pH a b ∧
    bits .or .u64 (IntKind.u64.wrap (IntKind.u64.wrap (IntKind.u64.wrap (bits .and .u64 a 4294967295 * (b / 4294967296)) + bits .and .u64 (IntKind.u64.wrap (IntKind.u64.wrap (a / 4294967296 * bits .and .u64 b 4294967295) + IntKind.u64.wrap (bits .and .u64 a 4294967295 * bits .and .u64 b 4294967295) / 4294967296)) 4294967295) * 4294967296))
      (bits .and .u64 (IntKind.u64.wrap (bits .and .u64 a 4294967295 * bits .and .u64 b 4294967295)) 4294967295) = pL a b := by
  rw [and_low a ha, and_low b hb]
  have hm := prod_parts (a / 4294967296) (a % 4294967296) (b / 4294967296) (b % 4294967296) (by omega) (by omega) (by omega) (by omega)
  have ea : a / 4294967296 * 4294967296 + a % 4294967296 = a := by omega
  have eb : b / 4294967296 * 4294967296 + b % 4294967296 = b := by omega
  rw [ea, eb] at hm
  have p1 := mul_bd (a % 4294967296) (b % 4294967296) (by omega) (by omega)
  have p2 := mul_bd (a / 4294967296) (b % 4294967296) (by omega) (by omega)
  have p3 := mul_bd (a % 4294967296) (b / 4294967296) (by omega) (by omega)
  have p4 := mul_bd (a / 4294967296) (b / 4294967296) (by omega) (by omega)
  unfold pH pL
  generalize a % 4294967296 * (b % 4294967296) = q1 at *
  generalize a / 4294967296 * (b % 4294967296) = q2 at *
  generalize a % 4294967296 * (b / 4294967296) = q3 at *
  generalize a / 4294967296 * (b / 4294967296) = q4 at *
  generalize a * b = t at *
  have u : ∀ x : Int, 0 ≤ x → x < 18446744073709551616 → IntKind.u64.wrap x = x := fun x h1 h2 => by rw [IntKind.wrap_u64]; omega
  dsimp only at hm
  obtain ⟨hv, _, _, h1, h2, h3, h4, h5, h6⟩ := hm
  rw [u q1 (by omega) (by omega), u q2 (by omega) (by omega), u (q2 + q1 / 4294967296) h1 h2, u q3 (by omega) (by omega), and_low _ ⟨h1, h2⟩, u (q3 + (q2 + q1 / 4294967296) % 4294967296) h3 h4, u q4 (by omega) (by omega), and_low q1 (by omega)]
  have e : IntKind.u64.wrap ((q3 + (q2 + q1 / 4294967296) % 4294967296) * 4294967296) = (q3 + (q2 + q1 / 4294967296) % 4294967296) % 4294967296 * 4294967296 := by
    rw [IntKind.wrap_u64]; omega
  rw [e, or_add _ _ (by omega) (by omega), u (q4 + (q2 + q1 / 4294967296) / 4294967296) (by omega) (by omega), u _ h5 h6]
  omega
theorem prod_val (a b : Int) : pL a b + W * pH a b = a * b := by unfold pL pH W; omega
theorem pL_bd (a b : Int) : 0 ≤ pL a b ∧ pL a b < W := by unfold pL W; omega
theorem pH_bd (a b : Int) (ha : 0 ≤ a ∧ a < 18446744073709551616) (hb : 0 ≤ b ∧ b < 18446744073709551616) : 0 ≤ pH a b ∧ pH a b ≤ 18446744073709551614 := by
  unfold pH
  have h0 : 0 ≤ a * b := Int.mul_nonneg ha.1 hb.1
  have h1 : a * b ≤ 18446744073709551615 * b := Int.mul_le_mul_of_nonneg_right (by omega) hb.1
  omega
end Go.Proofs.Ytpdenhmkpiafiaa
