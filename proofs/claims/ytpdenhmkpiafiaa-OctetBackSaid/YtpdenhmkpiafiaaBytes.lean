/-
  u256.Bytes AND u256.FromBytes: a number as 32 bytes, the greatest first; and back.
-/
import Derived.Test.YtpdenhmkpiafiaaDivLong
namespace Go.Proofs.Ytpdenhmkpiafiaa
open Go Go.RowKit

/-- byte k of a number, the least first -/
def byN (n k : Nat) : Nat := n / 2 ^ (8 * k) % 256
theorem byN_lt (n k : Nat) : byN n k < 256 := Nat.mod_lt _ (by decide)
theorem byte_word {x0 x1 x2 x3 : Int} {a k : Nat} (h : IsW x0 x1 x2 x3 a) (hk : k / 8 < 4) : IntKind.u8.wrap (sel4 x0 x1 x2 x3 (k / 8) / 2 ^ (8 * (k % 8))) = ((byN a k : Nat) : Int) := by
  rw [h.word hk]
  have e : (((a / 2 ^ (64 * (k / 8)) % 2 ^ 64 : Nat) : Int) / 2 ^ (8 * (k % 8))) = ((a / 2 ^ (64 * (k / 8)) % 2 ^ 64 / 2 ^ (8 * (k % 8)) : Nat) : Int) := by rw [Int.natCast_ediv, Int.natCast_pow]; rfl
  rw [e, IntKind.wrap_u8']
  have : a / 2 ^ (64 * (k / 8)) % 2 ^ 64 / 2 ^ (8 * (k % 8)) % 2 ^ 8 = a / 2 ^ (8 * k) % 2 ^ 8 := by
    apply Nat.eq_of_testBit_eq
    intro i
    simp only [Nat.testBit_mod_two_pow, Nat.testBit_div_two_pow]
    by_cases hi : i < 8
    · have h1 : i + 8 * (k % 8) < 64 := by omega
      have h2 : 8 * (k % 8) + i < 64 := by omega
      have h3 : i + 8 * (k % 8) + 64 * (k / 8) = i + 8 * k := by omega
      have h4 : 64 * (k / 8) + (8 * (k % 8) + i) = 8 * k + i := by omega
      first | (simp [hi, h1, h3]; done) | (simp [hi, h2, h4]; done)
    · simp [hi]
  unfold byN
  rw [show (256 : Nat) = 2 ^ 8 from rfl, ← this]
  omega
def bytesTo (n k : Nat) : Nat → Int := fun i => if i < k then ((byN n (31 - i) : Nat) : Int) else 0
theorem bytesTo_step (n k : Nat) : upd (bytesTo n k) k ((byN n (31 - k) : Nat) : Int) = bytesTo n (k + 1) := by
  funext j
  unfold upd bytesTo
  by_cases e : j = k
  · subst e; simp
  · rw [if_neg e]
    by_cases h : j < k
    · rw [if_pos h, if_pos (by omega)]
    · rw [if_neg h, if_neg (by omega)]

/-- 32 bytes of a number, in memory of the call's own -/
def Bytes32 (w : World) (n : Nat) (e : Ending) (w' : World) : Prop :=
  ∃ g, e = .returned (.slice (some ⟨g, 0, none⟩) 32 32) ∧ w.heap.size ≤ g ∧ Row w' g 5 (arr .u8 (bytesTo n 32) 32) ∧ Below w.heap.size w w'

set_option maxRecDepth 100000 in
set_option maxHeartbeats 2000000 in
theorem bytes_any (a0 a1 a2 a3 : Int) (a : Nat) (ha : IsW a0 a1 a2 a3 a) (w : World) :
    Calls Try.prog 82 #[.agg #[.int .u64 a0, .int .u64 a1, .int .u64 a2, .int .u64 a3]] w (Bytes32 w a) := by
  have hmk : ∀ wx, (Instr.makeSlice 33 (.int .i64 32) (.int .i64 32)).run Try.prog wx = .ok (.slice (some ⟨wx.heap.size, 0, none⟩) 32 32) (wx.alloc (.cells (arr .u8 (fun _ => 0) 32) 5)) := fun _ => by kernel_rfl
  go_enter Try.func82, Try.ntmps82
  go_wp2_with fail
  go_loopg [9] 32 (fun g c wr => ∃ (i : Nat), i + g = 32 ∧ c = .int .i64 (i : Int) ∧ Below w.heap.size w wr ∧ Row wr w.heap.size 31 (arr .u64 (sel4 a0 a1 a2 a3) 4) ∧ Row wr (w.heap.size + 1) 5 (arr .u8 (bytesTo a i) 32))
  case atStart =>
    refine ⟨0, by omega, rfl, by go_grown, ?_, ?_⟩ <;> repeat (first | (refine Row.new_at ?_; simp; done) | refine Row.alloc ?_ _)
  case round =>
    obtain ⟨i, hi, rfl, hl, ra, ro⟩ := hrel
    by_cases hlt : i < 32
    · obtain ⟨k, hk⟩ : ∃ k, k + i = 31 := ⟨31 - i, by omega⟩
      have e0 : (31 : Int) - (i : Int) = (k : Int) := by omega
      have t1 : ((k : Int)).tdiv 8 = (k : Int) / 8 := Int.tdiv_eq_ediv_of_nonneg (by omega)
      have t2 : ((k : Int)).tmod 8 = (k : Int) % 8 := Int.tmod_eq_emod_of_nonneg (by omega)
      have t5 : (k : Int) / 8 < 4 := by omega
      have t6 : 0 ≤ (k : Int) / 8 := by omega
      have t7 : 0 ≤ (k : Int) % 8 := by omega
      have t8 : (k : Int) % 8 < 8 := by omega
      have t9 : ((k : Int) / 8).toNat = k / 8 := by omega
      have t10 : (8 * ((k : Int) % 8)).toNat = 8 * (k % 8) := by omega
      have ca := ra.at_ (k / 8) (by omega)
      have co := ro.at_ i hlt
      have fo := ro.frozen i
      have hby := byte_word ha (show k / 8 < 4 by omega)
      have wa := ha.wordy (k / 8)
      have S := Lib.hid (show _ ∧ _ ∧ _ from ⟨ra, ro, hk⟩)
      clear ra ro
      go_wp2_with fail
      go_roundg (gk - 1)
      case measure => omega
      case rel =>
        obtain ⟨ra, ro, hk⟩ := S.out
        refine ⟨i + 1, by omega, by go_num, by go_grown, ra.far (by dsimp only; omega) _, ?_⟩
        rw [← bytesTo_step, show 31 - i = k by omega]
        exact ro.put i hlt _
    · obtain rfl : i = 32 := by omega
      have S := Lib.hid (show _ from ro)
      clear ra ro hlt
      go_wp2_with fail
      go_ret
      exact ⟨_, rfl, by omega, S.out, hl⟩
end Go.Proofs.Ytpdenhmkpiafiaa
