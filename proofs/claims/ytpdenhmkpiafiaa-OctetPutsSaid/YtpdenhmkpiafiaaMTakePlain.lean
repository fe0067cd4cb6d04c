/-
  muldiv.rest.take, plain: twice a rest and a bit more, the divisor taken off where it fits.
-/
import Derived.Test.YtpdenhmkpiafiaaMBit1
namespace Go.Proofs.Ytpdenhmkpiafiaa
open Go Go.RowKit K6

/-- word j of twice a number and a bit -/
def nw (f : Nat → Int) (t : Int) (j : Nat) : Int := if j = 0 then (2 * f 0) % 18446744073709551616 + t else (2 * f j) % 18446744073709551616 + f (j - 1) / 9223372036854775808
/-- the words above k are shifted, the word above all told -/
def shF (f : Nat → Int) (k : Nat) : Nat → Int := fun j => if j = 4 then f 3 / 9223372036854775808 else if 4 < j then 0 else if k < j then nw f 0 j else f j
/-- all words are shifted -/
def finF (f : Nat → Int) (t : Int) : Nat → Int := upd (shF f 0) 0 (nw f t 0)
theorem shF_step (f : Nat → Int) (k : Nat) (hk : k < 3) : upd (shF f (k + 1)) (k + 1) (nw f 0 (k + 1)) = shF f k := by
  funext j
  unfold upd shF
  by_cases h : j = k + 1
  · subst h
    rw [if_pos rfl, if_neg (by omega), if_neg (by omega), if_pos (by omega)]
  · rw [if_neg h]
    by_cases h4 : j = 4
    · rw [if_pos h4, if_pos h4]
    · rw [if_neg h4, if_neg h4]
      by_cases h5 : 4 < j
      · rw [if_pos h5, if_pos h5]
      · rw [if_neg h5, if_neg h5]
        by_cases h6 : k + 1 < j
        · rw [if_pos h6, if_pos (by omega)]
        · rw [if_neg h6, if_neg (by omega)]
theorem nw_bd {f : Nat → Int} (hf : Wordy f) {t : Int} (ht : 0 ≤ t ∧ t ≤ 1) (j : Nat) : 0 ≤ nw f t j ∧ nw f t j < 18446744073709551616 := by
  have h0 := hf 0
  have h1 := hf j
  have h2 := hf (j - 1)
  unfold W at *
  unfold nw
  split <;> omega
theorem shF_wordy {f : Nat → Int} (hf : Wordy f) (k : Nat) : Wordy (shF f k) := fun j => by
  have h3 := hf 3
  have hj := hf j
  have hn := nw_bd hf (t := 0) ⟨by omega, by omega⟩ j
  unfold shF W at *
  split
  · omega
  · split
    · omega
    · split
      · exact hn
      · exact hj
theorem finF_wordy {f : Nat → Int} (hf : Wordy f) {t : Int} (ht : 0 ≤ t ∧ t ≤ 1) : Wordy (finF f t) := (shF_wordy hf 0).upd 0 (nw_bd hf ht 0)
theorem finF_val {f : Nat → Int} (hf : Wordy f) {r t : Nat} (hr : psum f 4 = r) (ht : t ≤ 1) : IsW (finF f t 0) (finF f t 1) (finF f t 2) (finF f t 3) ((2 * r + t) % M) ∧ finF f t 4 = (((2 * r + t) / M : Nat) : Int) := by
  have h0 := hf 0
  have h1 := hf 1
  have h2 := hf 2
  have h3 := hf 3
  have hw := finF_wordy hf (t := (t : Int)) ⟨by omega, by omega⟩
  have hb := psum_bd hw 4
  have e4 : finF f t 4 = f 3 / 9223372036854775808 := rfl
  have hs : psum (finF f t) 4 + (f 3 / 9223372036854775808) * ((M : Nat) : Int) = 2 * psum f 4 + t := by
    rw [M_W]
    simp only [psum, finF, shF, nw, upd, W] at *
    simp
    omega
  rw [M_W.symm] at hb
  rw [hr] at hs
  obtain ⟨F, hF⟩ := Int.eq_ofNat_of_zero_le hb.1
  obtain ⟨C, hC⟩ := Int.eq_ofNat_of_zero_le (show 0 ≤ f 3 / 9223372036854775808 by unfold W at h3; omega)
  rw [hF] at hs hb
  rw [hC] at hs
  have hn : F + C * M = 2 * r + t := by
    have : ((F + C * M : Nat) : Int) = ((2 * r + t : Nat) : Int) := by rw [Int.natCast_add, Int.natCast_mul]; omega
    exact Int.ofNat_inj.1 this
  have hFM : F < M := by omega
  refine ⟨IsW.of hw ?_, ?_⟩
  · rw [hF, ← hn, Nat.add_mul_mod_self_right, Nat.mod_eq_of_lt hFM]
  · rw [e4, hC, ← hn, Nat.add_mul_div_right _ _ M_pos, Nat.div_eq_of_lt hFM, Nat.zero_add]
theorem WrapInv.fin' {f p q : Nat → Int} {C : Int} {a b : Nat} (h : WrapInv f C p q 4) (ha : psum p 4 = a) (hb : psum q 4 = b) (la : a < M) (lb : b < M) : IsW (f 0) (f 1) (f 2) (f 3) (wrapN a b) ∧ Wordy f := by
  obtain ⟨_, h2, h3, h4, h5⟩ := h
  have la' := la
  rw [ha, hb, ← M_W] at h5
  have hp := psum_bd h4 4
  rw [← M_W] at hp
  refine ⟨IsW.of h4 ?_, h4⟩
  unfold wrapN
  rcases (show C = 0 ∨ C = 1 by omega) with rfl | rfl
  · rw [Int.zero_mul] at h5
    have e : a + M - b = (a - b) + M := by omega
    rw [e, Nat.add_mod_right, Nat.mod_eq_of_lt (Nat.lt_of_le_of_lt (Nat.sub_le a b) la')]; omega
  · rw [Int.one_mul] at h5
    rw [Nat.mod_eq_of_lt (by omega)]; omega
/-- taken off -/
theorem take_off {r t d : Nat} (hr : r < d) (hd : d < M) (ht : t ≤ 1) (hle : d ≤ 2 * r + t) : wrapN ((2 * r + t) % M) d = rN r d t := by
  unfold wrapN rN
  rw [if_pos hle]
  rcases Nat.lt_or_ge (2 * r + t) M with h | h
  · rw [Nat.mod_eq_of_lt h, show 2 * r + t + M - d = 2 * r + t - d + M by omega, Nat.add_mod_right, Nat.mod_eq_of_lt (by omega)]
  · have e : (2 * r + t) % M = 2 * r + t - M := by
      rw [Nat.mod_eq_sub_mod h, Nat.mod_eq_of_lt (by omega)]
    rw [e, show 2 * r + t - M + M - d = 2 * r + t - d by omega, Nat.mod_eq_of_lt (by omega)]
theorem sel4_of (f : Nat → Int) (j : Nat) (hj : j < 4) : sel4 (f 0) (f 1) (f 2) (f 3) j = f j := by
  have : j = 0 ∨ j = 1 ∨ j = 2 ∨ j = 3 := by omega
  rcases this with rfl | rfl | rfl | rfl <;> rfl
/-- four words of a row of five -/
theorem row5_hi {f : Nat → Int} {n : Nat} (h : IsW (f 0) (f 1) (f 2) (f 3) n) : ∀ (j : Nat) (v : Value), (W4 n)[j]? = some v → (arr .u64 f 5)[0 + j]? = some v := fun j v hv => by
  have hj : j < 4 := (Array.getElem?_eq_some_iff.1 hv).1
  rw [Nat.zero_add, arr_get _ _ _ _ (by omega)]
  rw [← W4_eq h, show #[Value.int .u64 (f 0), .int .u64 (f 1), .int .u64 (f 2), .int .u64 (f 3)] = arr .u64 f 4 from rfl, arr_get _ _ _ _ hj] at hv
  exact hv
end Go.Proofs.Ytpdenhmkpiafiaa
