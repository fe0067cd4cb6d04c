/-
  PLAIN: the text of a number in digits of ten leads back to it.
-/
import Derived.Test.YtpdenhmkpiafiaaGE
namespace Go.Proofs.Ytpdenhmkpiafiaa
open Go Go.RowKit

theorem str_size (a j : Nat) : (strOfNums (decs a j)).size = j := by
  simp [strOfNums, decs, ByteArray.size]
theorem str_chr (a j i : Nat) (hi : i < j) : chr (strOfNums (decs a j)) i = dgN a (j - 1 - i) := by
  have hd := dgN_bd a (j - 1 - i)
  unfold chr strOfNums decs
  simp [hi]
  omega
theorem pAt_str (a j : Nat) (ha : a < M) (hj : a / 10 ^ j = 0) : ∀ i, i ≤ j → pAt (strOfNums (decs a j)) i = some (a / 10 ^ (j - i))
  | 0, _ => by simp [pAt, hj]
  | i + 1, hi => by
    have ih := pAt_str a j ha hj i (by omega)
    have hd := dgN_bd a (j - 1 - i)
    have e : a / 10 ^ (j - i) * 10 + (dgN a (j - 1 - i) - 48) = a / 10 ^ (j - (i + 1)) := by
      unfold dgN
      rw [show j - i = j - 1 - i + 1 by omega, Nat.pow_succ, ← Nat.div_div_eq_div_mul, show j - (i + 1) = j - 1 - i by omega]
      omega
    have hle : a / 10 ^ (j - (i + 1)) ≤ a := Nat.div_le_self _ _
    unfold pAt
    rw [ih]
    simp only [str_chr a j i (by omega)]
    rw [if_pos ⟨hd.1, hd.2, by omega, by omega⟩, e]
theorem parse_text (a j : Nat) (ha : a < M) (h1 : 1 ≤ j) (h78 : j ≤ 78) (hj : a / 10 ^ j = 0) (hn : j = 1 ∨ a / 10 ^ (j - 1) ≠ 0) : parsN (strOfNums (decs a j)) = some a := by
  have hs := str_size a j
  unfold parsN
  rw [if_neg ?_, hs, pAt_str a j ha hj j (Nat.le_refl _), Nat.sub_self, Nat.pow_zero, Nat.div_one]
  rw [hs, str_chr a j 0 (by omega)]
  rintro (h | h | ⟨h, h2⟩)
  · omega
  · omega
  · rcases hn with h3 | h3
    · omega
    · unfold dgN at h
      rw [Nat.sub_zero] at h
      have hz : a / 10 ^ (j - 1) / 10 = 0 := by rw [Nat.div_div_eq_div_mul, ← Nat.pow_succ, show (j - 1).succ = j by omega]; exact hj
      generalize a / 10 ^ (j - 1) = q at *
      omega
theorem dec_len (a : Nat) : ∀ n, 1 ≤ n → a / 10 ^ n = 0 → ∃ j, 1 ≤ j ∧ j ≤ n ∧ a / 10 ^ j = 0 ∧ (j = 1 ∨ a / 10 ^ (j - 1) ≠ 0)
  | 0, h, _ => by omega
  | 1, _, h => ⟨1, by omega, by omega, h, .inl rfl⟩
  | n + 2, _, h => by
    by_cases h1 : a / 10 ^ (n + 1) = 0
    · obtain ⟨j, h2, h3, h4⟩ := dec_len a (n + 1) (by omega) h1
      exact ⟨j, h2, by omega, h4⟩
    · exact ⟨n + 2, by omega, by omega, h, .inr (by simpa using h1)⟩
/-- a text that leads back to a number -/
def LeadsBack (a : Nat) (v : Value) : Prop := ∃ s, v = .string s ∧ parsN s = some a
theorem leadsBack_some {a : Nat} (ha : a < M) : ∃ v, LeadsBack a v := by
  obtain ⟨j, h1, h2, h3, h4⟩ := dec_len a 78 (by omega) (Nat.div_eq_of_lt (Nat.lt_of_lt_of_le ha pow77))
  exact ⟨_, _, rfl, parse_text a j ha h1 h2 h3 h4⟩
theorem textBack {a : Nat} (ha : a < M) (w : World) : Calls Try.prog 84 #[.agg (W4 a)] w (fun e w' => ∃ s, e = .returned (.string s) ∧ parsN s = some a ∧ Below w.heap.size w w') :=
  (textU ha w).mono fun _ _ ⟨j, h1, h2, h3, h4, he, hb⟩ => ⟨_, he, parse_text a j ha h1 h2 h3 h4, hb⟩
theorem parseBack {a : Nat} {s : ByteArray} (h : parsN s = some a) (w : World) : Calls Try.prog 83 #[.string s] w (Ret w (.tuple #[.agg (W4 a), .bool true])) := by
  have := parseU s w
  rwa [h] at this
end Go.Proofs.Ytpdenhmkpiafiaa
