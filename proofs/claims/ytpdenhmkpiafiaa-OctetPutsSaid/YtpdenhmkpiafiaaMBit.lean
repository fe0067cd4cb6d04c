/-
  muldiv.Wide: how many bits a product has, and each of them; whether two products are the same.
-/
import Derived.Test.YtpdenhmkpiafiaaMMul
import Derived.Laws.StructEq
namespace Go.Proofs.Ytpdenhmkpiafiaa
open Go Go.RowKit K6

theorem fields92 : (Try.prog.fieldsOf 92).toList = [⟨ "High", 31, 0, false, "", "", 0⟩, ⟨ "Low", 31, 4, false, "", "", 32⟩] := by kernel_rfl
theorem W8_inj {h l h' l' : Nat} (a : h < M) (b : l < M) (a' : h' < M) (b' : l' < M) (e : W8 h l = W8 h' l') : h = h' ∧ l = l' := by
  unfold W8 at e
  have e1 := Array.append_inj e rfl
  exact ⟨W4_inj a a' e1.1, W4_inj b b' e1.2⟩
theorem eqU9999 {a b : Nat} (ha : a < M) (hb : b < M) (w : World) : (Op.equalIn 9999 31 (.agg (W4 a)) (.agg (W4 b))).run Try.prog w = .ok (decide (a = b)) w := by
  obtain ⟨i, hi⟩ := Option.isSome_iff_exists.1 some29
  have h := run_eq4 9997 Try.underlying31 Try.underlying29 hi cells29 (wordsOf a 0) (wordsOf a 1) (wordsOf a 2) (wordsOf a 3) (wordsOf b 0) (wordsOf b 1) (wordsOf b 2) (wordsOf b 3) w
  have h2 := eqU ha hb w
  unfold W4 at h2 ⊢
  rw [eq31] at h2
  rw [h]
  exact h2
theorem part92 (h l : Nat) (w : World) : (part 31 (W8 h l) 0).run Try.prog w = .ok (.agg (W4 h)) w ∧ (part 31 (W8 h l) 4).run Try.prog w = .ok (.agg (W4 l)) w := by
  constructor <;> kernel_rfl
theorem eq92 {h l h' l' : Nat} (a : h < M) (b : l < M) (a' : h' < M) (b' : l' < M) (w : World) : (Op.equalIn 10000 92 (.agg (W8 h l)) (.agg (W8 h' l'))).run Try.prog w = .ok (decide (h = h') && decide (l = l')) w := by
  rw [run_equalIn_struct w 9999 92 _ _ (by kernel_rfl) (by kernel_rfl), fields92]
  simp [Op.eqFields, (part92 h l w).1, (part92 h l w).2, (part92 h' l' w).1, (part92 h' l' w).2, eqU9999 a a', eqU9999 b b']
  by_cases e : h = h' <;> by_cases e' : l = l' <;> simp [e, e']
end Go.Proofs.Ytpdenhmkpiafiaa
