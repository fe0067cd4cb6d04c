/-
  u256.FromBytes: 32 bytes are a number, the greatest first; other bytes are none.
-/
import Derived.Test.YtpdenhmkpiafiaaBytes
namespace Go.Proofs.Ytpdenhmkpiafiaa
open Go Go.RowKit

/-! ### plain: a byte laid into a number's word -/
def wordsOf (n : Nat) : Nat → Int := fun q => ((n / 2 ^ (64 * q) % 2 ^ 64 : Nat) : Int)
theorem wordsOf_isW (n : Nat) (h : n < M) : IsW (wordsOf n 0) (wordsOf n 1) (wordsOf n 2) (wordsOf n 3) n :=
  IsW.mk' (by unfold wordsOf; unfold M at h; omega) (by unfold wordsOf; omega) (by unfold wordsOf; omega) (by unfold wordsOf; omega) (by unfold wordsOf; omega)
theorem wordsOf_wordy (n q : Nat) : 0 ≤ wordsOf n q ∧ wordsOf n q < 18446744073709551616 := by unfold wordsOf; omega
theorem wordsOf_zero : wordsOf 0 = fun _ => 0 := by funext q; simp [wordsOf]

theorem put_byte (m b k : Nat) (hb : b < 256) :
    upd (wordsOf (2 ^ (8 * (k + 1)) * m)) (k / 8) (bits .or .u64 (wordsOf (2 ^ (8 * (k + 1)) * m) (k / 8)) (IntKind.u64.wrap ((b : Int) * 2 ^ (8 * (k % 8))))) = wordsOf (2 ^ (8 * (k + 1)) * m + b * 2 ^ (8 * k)) := by
  have hB : b * 2 ^ (8 * k) < 2 ^ (8 * (k + 1)) := by
    rw [show 8 * (k + 1) = 8 + 8 * k by omega, Nat.pow_add]
    exact Nat.mul_lt_mul_of_pos_right (by omega) (Nat.pow_pos (by decide))
  have hor := Nat.two_pow_add_eq_or_of_lt hB m
  have hw : ∀ q, (2 ^ (8 * (k + 1)) * m + b * 2 ^ (8 * k)) / 2 ^ (64 * q) % 2 ^ 64 = (2 ^ (8 * (k + 1)) * m) / 2 ^ (64 * q) % 2 ^ 64 ||| (b * 2 ^ (8 * k)) / 2 ^ (64 * q) % 2 ^ 64 := fun q => by
    rw [hor, Nat.or_div_two_pow, Nat.or_mod_two_pow]
  have hat : (b * 2 ^ (8 * k)) / 2 ^ (64 * (k / 8)) % 2 ^ 64 = b * 2 ^ (8 * (k % 8)) := by
    have e : 8 * k = 8 * (k % 8) + 64 * (k / 8) := by omega
    have h1 : b * 2 ^ (8 * k) = b * 2 ^ (8 * (k % 8)) * 2 ^ (64 * (k / 8)) := by rw [Nat.mul_assoc, ← Nat.pow_add, ← e]
    rw [h1, Nat.mul_div_cancel _ (Nat.pow_pos (by decide))]
    refine Nat.mod_eq_of_lt ?_
    have h2 : 2 ^ (8 * (k % 8)) ≤ 2 ^ 56 := Nat.pow_le_pow_right (by decide) (by omega)
    have h3 : b * 2 ^ (8 * (k % 8)) ≤ 255 * 2 ^ 56 := Nat.mul_le_mul (by omega) h2
    omega
  have hne : ∀ q, q ≠ k / 8 → (b * 2 ^ (8 * k)) / 2 ^ (64 * q) % 2 ^ 64 = 0 := fun q hq => by
    rcases Nat.lt_or_ge (k / 8) q with h | h
    · have h1 : 2 ^ (8 * (k + 1)) ≤ 2 ^ (64 * q) := Nat.pow_le_pow_right (by decide) (by omega)
      rw [Nat.div_eq_of_lt (by omega)]
    · have e : 8 * k = (8 * k - 64 * (q + 1)) + 64 + 64 * q := by omega
      rw [e, Nat.pow_add, Nat.pow_add, ← Nat.mul_assoc, Nat.mul_div_cancel _ (Nat.pow_pos (by decide)), ← Nat.mul_assoc, Nat.mul_mod_left]
  funext q
  unfold upd
  by_cases e : q = k / 8
  · rw [if_pos e, e]
    unfold wordsOf
    rw [hw, hat]
    have hx : (2 ^ (8 * (k + 1)) * m) / 2 ^ (64 * (k / 8)) % 2 ^ 64 < 18446744073709551616 := Nat.mod_lt _ (by decide)
    have hy : b * 2 ^ (8 * (k % 8)) < 18446744073709551616 := by rw [← hat]; exact Nat.mod_lt _ (by decide)
    have ew : IntKind.u64.wrap ((b : Int) * 2 ^ (8 * (k % 8))) = ((b * 2 ^ (8 * (k % 8)) : Nat) : Int) := by
      rw [IntKind.wrap_u64]
      have : ((b : Int) * 2 ^ (8 * (k % 8))) = ((b * 2 ^ (8 * (k % 8)) : Nat) : Int) := by rw [Int.natCast_mul, Int.natCast_pow]; rfl
      rw [this]
      omega
    rw [ew, u64_or_nat _ _ hx hy]
  · rw [if_neg e]
    unfold wordsOf
    rw [hw, hne q e, Nat.or_zero]

/-- the number of the first i bytes of 32, the greatest first -/
def fromN (f : Nat → Nat) : Nat → Nat
  | 0 => 0
  | i + 1 => fromN f i + f i * 2 ^ (8 * (31 - i))
theorem fromN_mul (f : Nat → Nat) : ∀ i, i ≤ 32 → ∃ m, fromN f i = 2 ^ (8 * (32 - i)) * m
  | 0, _ => ⟨0, rfl⟩
  | i + 1, h => by
    obtain ⟨m, hm⟩ := fromN_mul f i (by omega)
    refine ⟨2 ^ 8 * m + f i, ?_⟩
    unfold fromN
    rw [hm, show 32 - (i + 1) = 31 - i by omega, show 8 * (32 - i) = 8 * (31 - i) + 8 by omega, Nat.pow_add, Nat.mul_add, Nat.mul_assoc, Nat.mul_comm (f i)]
theorem fromN_lt (f : Nat → Nat) (hf : ∀ i, f i < 256) : ∀ i, i ≤ 32 → fromN f i + 2 ^ (8 * (32 - i)) ≤ 2 ^ 256
  | 0, _ => by simp [fromN]
  | i + 1, h => by
    have ih := fromN_lt f hf i (by omega)
    have hi := hf i
    unfold fromN
    rw [show 32 - (i + 1) = 31 - i by omega]
    rw [show 8 * (32 - i) = 8 * (31 - i) + 8 by omega, Nat.pow_add] at ih
    have h1 : f i * 2 ^ (8 * (31 - i)) + 2 ^ (8 * (31 - i)) ≤ 2 ^ (8 * (31 - i)) * 2 ^ 8 := by
      have := Nat.mul_le_mul_right (2 ^ (8 * (31 - i))) (show f i + 1 ≤ 2 ^ 8 by omega)
      rw [Nat.add_mul, Nat.one_mul] at this
      rw [Nat.mul_comm _ (2 ^ 8)]
      exact this
    omega
theorem fromN_bd (f : Nat → Nat) (hf : ∀ i, f i < 256) : fromN f 32 < M := by
  have h := fromN_lt f hf 32 (Nat.le_refl _)
  rw [show 32 - 32 = 0 from rfl] at h
  have e : M = 2 ^ 256 := by decide
  rw [e]
  exact Nat.lt_of_lt_of_le (Nat.lt_add_of_pos_right (by decide)) h
theorem fromN_byN (a : Nat) (ha : a < M) : fromN (fun i => byN a (31 - i)) 32 = a := by
  have key : ∀ i, i ≤ 32 → fromN (fun i => byN a (31 - i)) i = a / 2 ^ (8 * (32 - i)) * 2 ^ (8 * (32 - i)) := by
    intro i
    induction i with
    | zero =>
      intro _
      have e : M = 2 ^ (8 * (32 - 0)) := by decide
      rw [Nat.div_eq_of_lt (by rw [← e]; exact ha), Nat.zero_mul]
      rfl
    | succ i ih =>
      intro h
      unfold fromN
      rw [ih (by omega), show 32 - (i + 1) = 31 - i by omega, show 8 * (32 - i) = 8 * (31 - i) + 8 by omega, Nat.pow_add, ← Nat.div_div_eq_div_mul]
      unfold byN
      generalize a / 2 ^ (8 * (31 - i)) = x
      generalize 2 ^ (8 * (31 - i)) = y
      have hx := Nat.div_add_mod x 256
      rw [show (2 : Nat) ^ 8 = 256 from rfl]
      rw [Nat.mul_comm y 256, ← Nat.mul_assoc, ← Nat.add_mul]
      congr 1
      omega
  have := key 32 (Nat.le_refl _)
  rw [this, show 8 * (32 - 32) = 0 from rfl, Nat.pow_zero, Nat.div_one, Nat.mul_one]

/-! ### the walk -/
set_option maxRecDepth 100000 in
set_option maxHeartbeats 2000000 in
theorem fromBytes_any (r : Option Addr) (n c : Nat) (f : Nat → Nat) (w : World) (hf : ∀ i, f i < 256) (hr : n = 32 → ∃ g o, r = some ⟨g, o, none⟩ ∧ g < w.heap.size ∧ ∀ i, i < 32 → w.cell? ⟨g, o + i, none⟩ = some (.int .u8 ((f i : Nat) : Int))) :
    Calls Try.prog 81 #[.slice r n c] w (Pair w (if n = 32 then fromN f 32 else 0) (decide (n = 32))) := by
  go_enter Try.func81, Try.ntmps81
  by_cases hn : n = 32
  · subst hn
    obtain ⟨g, o, rfl, hg, hc⟩ := hr rfl
    go_wp2_with fail
    go_loopg [14] 32 (fun gg i wr => ∃ (k : Nat), k + gg = 32 ∧ i = .int .i64 (k : Int) ∧ Below w.heap.size w wr ∧ Row wr w.heap.size 31 (arr .u64 (fun _ => 0) 4) ∧ Row wr (w.heap.size + 1) 31 (arr .u64 (wordsOf (fromN f k)) 4))
    case atStart =>
      refine ⟨0, by omega, rfl, by go_grown, ?_, ?_⟩
      · repeat (first | (refine Row.new_at ?_; simp; done) | refine Row.alloc ?_ _)
      · rw [show fromN f 0 = 0 from rfl, wordsOf_zero]
        repeat (first | (refine Row.new_at ?_; simp; done) | refine Row.alloc ?_ _)
    case round =>
      obtain ⟨i, hi, rfl, hl, rr, ro⟩ := hrel
      by_cases hlt : i < 32
      · obtain ⟨k, hk⟩ : ∃ k, k + i = 31 := ⟨31 - i, by omega⟩
        have e0 : (31 : Int) - (i : Int) = (k : Int) := by omega
        have t1 : ((k : Int)).tdiv 8 = (k : Int) / 8 := Int.tdiv_eq_ediv_of_nonneg (by omega)
        have t2 : ((k : Int)).tmod 8 = (k : Int) % 8 := Int.tmod_eq_emod_of_nonneg (by omega)
        have t5 : (k : Int) / 8 < 4 := by omega
        have t6 : 0 ≤ (k : Int) / 8 := by omega
        have t7 : 0 ≤ (k : Int) % 8 := by omega
        have t8 : (k : Int) % 8 < 8 := by omega
        have t9 : ((k : Int) / 8).toNat = k / 8 := by omega
        have t10 : (8 * ((k : Int) % 8)).toNat = 8 * (k % 8) := by omega
        have ci : wr.cell? ⟨g, o + i, none⟩ = some (.int .u8 ((f i : Nat) : Int)) := ((bcell hl).1 g (o + i) hg).trans (hc i hlt)
        have wb : IntKind.u64.wrap ((f i : Nat) : Int) = ((f i : Nat) : Int) := by rw [IntKind.wrap_u64]; have := hf i; omega
        have co := ro.at_ (k / 8) (by omega)
        have fo := ro.frozen (k / 8)
        have S := Lib.hid (show _ ∧ _ ∧ _ from ⟨rr, ro, hk⟩)
        clear rr ro
        go_wp2_with fail
        go_region
        all_goals
          go_wp2_with fail
          go_roundg (gk - 1)
          case measure => omega
          case rel =>
            obtain ⟨rr, ro, hk⟩ := S.out
            obtain ⟨m, hm⟩ := fromN_mul f i (by omega)
            have hp := put_byte m (f i) k (hf i)
            rw [show 8 * (k + 1) = 8 * (32 - i) by omega, ← hm] at hp
            refine ⟨i + 1, by omega, by go_num, by go_grown, (rr.far (by dsimp only; omega) _).drew, ?_⟩
            refine ((ro.put (k / 8) (by omega) _).drew).congr ?_
            rw [hp]
            rw [show fromN f (i + 1) = fromN f i + f i * 2 ^ (8 * (31 - i)) from rfl, show 31 - i = k by omega]
      · obtain rfl : i = 32 := by omega
        have d0 := ro.at_ 0 (by omega)
        have d1 := ro.at_ 1 (by omega)
        have d2 := ro.at_ 2 (by omega)
        have d3 := ro.at_ 3 (by omega)
        have e0 := rr.at_ 0 (by omega)
        have e1 := rr.at_ 1 (by omega)
        have e2 := rr.at_ 2 (by omega)
        have e3 := rr.at_ 3 (by omega)
        have f0 := rr.frozen 0
        have f1 := rr.frozen 1
        have f2 := rr.frozen 2
        have f3 := rr.frozen 3
        have H := Lib.hid (show _ from rr)
        clear rr ro hlt
        go_wp2
        refine bodyPost_ret (results_ct rfl aggT31 rfl (H.out.store4 rfl _ _ _ _) rfl) rfl ?_
        exact ⟨_, _, _, _, rfl, wordsOf_isW _ (fromN_bd f hf), by go_grown⟩
  · have hne : ((n : Int) != 32) = true := by simp; omega
    have r0 : Row ((w.alloc (.cells #[Value.int .u64 0, Value.int .u64 0, Value.int .u64 0, Value.int .u64 0] 31)).alloc (.cells #[Value.int .u64 0, Value.int .u64 0, Value.int .u64 0, Value.int .u64 0] 31)) w.heap.size 31 #[Value.int .u64 0, Value.int .u64 0, Value.int .u64 0, Value.int .u64 0] := by
      repeat (first | (refine Row.new_at ?_; simp; done) | refine Row.alloc ?_ _)
    go_wp2_with fail
    refine bodyPost_ret (results_ct rfl aggT31 rfl r0 rfl) rfl ?_
    exact ⟨_, _, _, _, rfl, isW_zero, by go_grown⟩
end Go.Proofs.Ytpdenhmkpiafiaa
