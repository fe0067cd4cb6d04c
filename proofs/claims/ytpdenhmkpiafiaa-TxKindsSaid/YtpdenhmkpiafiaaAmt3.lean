/-
  wad.Amount (105).
-/
import Derived.Test.YtpdenhmkpiafiaaGE
namespace Go.Proofs.Ytpdenhmkpiafiaa
open Go Go.RowKit K6

def M2 : Nat := 340282366920938463463374607431768211456
theorem amount_bits {a : Nat} (ha : a < M) : (bits .or .u64 (wordsOf a 2) (wordsOf a 3) == 0) = decide (a < M2) := by
  unfold wordsOf
  rw [u64_or_nat _ _ (Nat.mod_lt _ (by decide)) (Nat.mod_lt _ (by decide)), Bool.eq_iff_iff]
  simp only [beq_iff_eq, decide_eq_true_eq]
  have e : ((a / 2 ^ (64 * 2) % 2 ^ 64 ||| a / 2 ^ (64 * 3) % 2 ^ 64 : Nat) : Int) = 0 ↔ a / 2 ^ (64 * 2) % 2 ^ 64 = 0 ∧ a / 2 ^ (64 * 3) % 2 ^ 64 = 0 := by
    rw [Int.natCast_eq_zero, Nat.or_eq_zero_iff]
  rw [e]
  unfold M at ha
  unfold M2
  omega
set_option maxRecDepth 100000 in
set_option maxHeartbeats 4000000 in
theorem amountU {a : Nat} (ha : a < M) (w : World) : Calls Try.prog 105 #[.agg (W4 a)] w (Ret w (.bool (decide (a < M2)))) := by
  have hb := amount_bits ha
  obtain ⟨x2, h2⟩ : ∃ x, x = wordsOf a 2 := ⟨_, rfl⟩
  obtain ⟨x3, h3⟩ : ∃ x, x = wordsOf a 3 := ⟨_, rfl⟩
  rw [← h2, ← h3] at hb
  go_enter Try.func105, Try.ntmps105
  apply wp_seq_eq
  focus
    intro J hJ
    go_wp2_with fail
    exact hJ
  refine wp_abs (Mem w [(w.heap.size, 31, W4 a)]) ⟨by go_grown, ?_, trivial⟩ ?_
  · repeat (first | (refine Row.new_at ?_; simp; done) | refine Row.alloc ?_ _)
  intro w0 hM
  obtain ⟨hl, ra, -⟩ := hM
  go_upto_region 1 with (fail)
  have c2 : w0.cell? ⟨w.heap.size, 2, none⟩ = some (.int .u64 x2) := by rw [h2]; exact ra.cell 2
  have c3 : w0.cell? ⟨w.heap.size, 3, none⟩ = some (.int .u64 x3) := by rw [h3]; exact ra.cell 3
  go_wp2_with fail
  go_ret
  exact ⟨by rw [← hb, h2, h3]; rfl, hl⟩
end Go.Proofs.Ytpdenhmkpiafiaa
