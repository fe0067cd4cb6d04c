/-
  tallageref01: FromBytes (96), Bits (102), Int (99); u256.Int (98).
-/
import Derived.Test.YtpdenhmkpiafiaaGC
import Derived.Test.YtpdenhmkpiafiaaGE
namespace Go.Proofs.Ytpdenhmkpiafiaa
open Go Go.RowKit

set_option maxRecDepth 100000 in
set_option maxHeartbeats 2000000 in
theorem refFrom_any (r : Option Addr) (n c : Nat) (f : Nat → Nat) (w : World) (hf : ∀ i, f i < 256) (hr : n = 32 → ∃ g o, r = some ⟨g, o, none⟩ ∧ g < w.heap.size ∧ ∀ i, i < 32 → w.cell? ⟨g, o + i, none⟩ = some (.int .u8 ((f i : Nat) : Int))) :
    Calls Try.prog 96 #[.slice r n c] w (Pair w (if n = 32 then fromN f 32 else 0) (decide (n = 32))) := by
  go_enter Try.func96, Try.ntmps96
  by_cases hn : n = 32
  · subst hn
    obtain ⟨g, o, rfl, hg, hc⟩ := hr rfl
    go_wp2_with fail
    go_loopg [14] 32 (fun gg i wr => ∃ (k : Nat), k + gg = 32 ∧ i = .int .i64 (k : Int) ∧ Below w.heap.size w wr ∧ Row wr w.heap.size 31 (arr .u64 (fun _ => 0) 4) ∧ Row wr (w.heap.size + 1) 31 (arr .u64 (wordsOf (fromN f k)) 4))
    case atStart =>
      refine ⟨0, by omega, rfl, by go_grown, ?_, ?_⟩
      · repeat (first | (refine Row.new_at ?_; simp; done) | refine Row.alloc ?_ _)
      · rw [show fromN f 0 = 0 from rfl, wordsOf_zero]
        repeat (first | (refine Row.new_at ?_; simp; done) | refine Row.alloc ?_ _)
    case round =>
      obtain ⟨i, hi, rfl, hl, rr, ro⟩ := hrel
      by_cases hlt : i < 32
      · obtain ⟨k, hk⟩ : ∃ k, k + i = 31 := ⟨31 - i, by omega⟩
        have e0 : (31 : Int) - (i : Int) = (k : Int) := by omega
        have t1 : ((k : Int)).tdiv 8 = (k : Int) / 8 := Int.tdiv_eq_ediv_of_nonneg (by omega)
        have t2 : ((k : Int)).tmod 8 = (k : Int) % 8 := Int.tmod_eq_emod_of_nonneg (by omega)
        have t5 : (k : Int) / 8 < 4 := by omega
        have t6 : 0 ≤ (k : Int) / 8 := by omega
        have t7 : 0 ≤ (k : Int) % 8 := by omega
        have t8 : (k : Int) % 8 < 8 := by omega
        have t9 : ((k : Int) / 8).toNat = k / 8 := by omega
        have t10 : (8 * ((k : Int) % 8)).toNat = 8 * (k % 8) := by omega
        have ci : wr.cell? ⟨g, o + i, none⟩ = some (.int .u8 ((f i : Nat) : Int)) := ((bcell hl).1 g (o + i) hg).trans (hc i hlt)
        have t11 : IntKind.u64.wrap (8 * ((k : Int) % 8)) = 8 * ((k : Int) % 8) := by rw [IntKind.wrap_u64]; omega
        have wb : IntKind.u64.wrap ((f i : Nat) : Int) = ((f i : Nat) : Int) := by rw [IntKind.wrap_u64]; have := hf i; omega
        have co := ro.at_ (k / 8) (by omega)
        have fo := ro.frozen (k / 8)
        have S := Lib.hid (show _ ∧ _ ∧ _ from ⟨rr, ro, hk⟩)
        clear rr ro
        all_goals
          go_wp2_with fail
          go_roundg (gk - 1)
          case measure => omega
          case rel =>
            obtain ⟨rr, ro, hk⟩ := S.out
            obtain ⟨m, hm⟩ := fromN_mul f i (by omega)
            have hp := put_byte m (f i) k (hf i)
            rw [show 8 * (k + 1) = 8 * (32 - i) by omega, ← hm] at hp
            refine ⟨i + 1, by omega, by go_num, by go_grown, rr.far (by dsimp only; omega) _, ?_⟩
            refine (ro.put (k / 8) (by omega) _).congr ?_
            rw [hp]
            rw [show fromN f (i + 1) = fromN f i + f i * 2 ^ (8 * (31 - i)) from rfl, show 31 - i = k by omega]
      · obtain rfl : i = 32 := by omega
        have d0 := ro.at_ 0 (by omega)
        have d1 := ro.at_ 1 (by omega)
        have d2 := ro.at_ 2 (by omega)
        have d3 := ro.at_ 3 (by omega)
        have e0 := rr.at_ 0 (by omega)
        have e1 := rr.at_ 1 (by omega)
        have e2 := rr.at_ 2 (by omega)
        have e3 := rr.at_ 3 (by omega)
        have f0 := rr.frozen 0
        have f1 := rr.frozen 1
        have f2 := rr.frozen 2
        have f3 := rr.frozen 3
        have H := Lib.hid (show _ from rr)
        clear rr ro hlt
        go_wp2
        refine bodyPost_ret (results_ct rfl aggT31 rfl (H.out.store4 rfl _ _ _ _) rfl) rfl ?_
        exact ⟨_, _, _, _, rfl, wordsOf_isW _ (fromN_bd f hf), by go_grown⟩
  · have hne : ((n : Int) != 32) = true := by simp; omega
    have r0 : Row ((w.alloc (.cells #[Value.int .u64 0, Value.int .u64 0, Value.int .u64 0, Value.int .u64 0] 31)).alloc (.cells #[Value.int .u64 0, Value.int .u64 0, Value.int .u64 0, Value.int .u64 0] 31)) w.heap.size 31 #[Value.int .u64 0, Value.int .u64 0, Value.int .u64 0, Value.int .u64 0] := by
      repeat (first | (refine Row.new_at ?_; simp; done) | refine Row.alloc ?_ _)
    go_wp2_with fail
    refine bodyPost_ret (results_ct rfl aggT31 rfl r0 rfl) rfl ?_
    exact ⟨_, _, _, _, rfl, isW_zero, by go_grown⟩

theorem blen_top {a k : Nat} (h : a < 2 ^ (k + 1)) (hb : bitN a k = 1) : blen a = k + 1 := by
  have h1 : a / 2 ^ k < 2 := by rw [Nat.div_lt_iff_lt_mul (Nat.pow_pos (by decide))]; rw [Nat.pow_succ] at h; omega
  have h2 : a / 2 ^ k = 1 := by
    unfold bitN at hb
    obtain ⟨q, hq⟩ : ∃ q, a / 2 ^ k = q := ⟨_, rfl⟩
    rw [hq] at h1 hb ⊢
    omega
  rw [blen_shift (n := a) (s := k) (by rw [h2]; decide), h2, blen_one (by decide)]
theorem bit_low {a k : Nat} (h : a < 2 ^ (k + 1)) (hb : bitN a k ≠ 1) : a < 2 ^ k := by
  have h1 : a / 2 ^ k < 2 := by rw [Nat.div_lt_iff_lt_mul (Nat.pow_pos (by decide))]; rw [Nat.pow_succ] at h; omega
  have h2 : a / 2 ^ k = 0 := by
    unfold bitN at hb
    obtain ⟨q, hq⟩ : ∃ q, a / 2 ^ k = q := ⟨_, rfl⟩
    rw [hq] at h1 hb ⊢
    omega
  rcases Nat.lt_or_ge a (2 ^ k) with h3 | h3
  · exact h3
  · have := Nat.div_pos h3 (Nat.pow_pos (by decide)); omega
set_option maxRecDepth 100000 in
set_option maxHeartbeats 4000000 in
theorem refBits_any (x0 x1 x2 x3 : Int) (a : Nat) (h : IsW x0 x1 x2 x3 a) (w : World) : Calls Try.prog 102 #[.agg #[.int .u64 x0, .int .u64 x1, .int .u64 x2, .int .u64 x3]] w (Ret w (.int .i64 (blen a))) := by
  have ha : a < 2 ^ 256 := h.ltM
  have h' := Lib.hid h
  clear h
  have HA := Lib.hid ha
  clear ha
  go_enter Try.func102, Try.ntmps102
  go_wp2_with fail
  go_loopg [3] 256 (fun gg s3 wr => gg ≤ 256 ∧ s3 = .int .i64 ((gg : Int) - 1) ∧ Below w.heap.size w wr ∧ Row wr w.heap.size 31 (arr .u64 (sel4 x0 x1 x2 x3) 4) ∧ a < 2 ^ gg)
  case atStart => exact ⟨Nat.le_refl _, by go_num, by go_grown, Row.new_at rfl, HA.out⟩
  case round =>
    obtain ⟨hk, rfl, hl, ra, hlt⟩ := hrel
    rcases Nat.eq_zero_or_pos gk with h0 | h0
    · subst h0
      have hv : blen a = 0 := by
        have : a = 0 := by simpa using hlt
        rw [this]; rfl
      replace hv := Lib.hid hv
      clear hlt
      go_wp2_with fail
      go_ret
      exact ⟨by rw [hv.out]; rfl, hl⟩
    · obtain ⟨k, rfl⟩ : ∃ k, gk = k + 1 := ⟨gk - 1, by omega⟩
      have e0 : ((k : Int) + 1) - 1 = (k : Int) := by omega
      have t1 : ((k : Int)).tdiv 64 = (k : Int) / 64 := Int.tdiv_eq_ediv_of_nonneg (by omega)
      have t2 : ((k : Int)).tmod 64 = (k : Int) % 64 := Int.tmod_eq_emod_of_nonneg (by omega)
      have t5 : (k : Int) / 64 < 4 := by omega
      have t6 : 0 ≤ (k : Int) / 64 := by omega
      have t7 : 0 ≤ (k : Int) % 64 := by omega
      have t8 : (k : Int) % 64 < 64 := by omega
      have t9 : ((k : Int) / 64).toNat = k / 64 := by omega
      have t10 : ((k : Int) % 64).toNat = k % 64 := by omega
      have t11 : IntKind.u64.wrap ((k : Int) % 64) = (k : Int) % 64 := by rw [IntKind.wrap_u64]; omega
      have hb := bit_word h'.out (k := k) (by omega)
      have co := ra.at_ (k / 64) (by omega)
      obtain ⟨x, hx⟩ : ∃ x, sel4 x0 x1 x2 x3 (k / 64) = x := ⟨_, rfl⟩
      rw [hx] at hb co
      clear hx
      by_cases h1 : bitN a k = 1
      · have hv := Lib.hid (blen_top hlt h1)
        rw [h1, show ((1 : Nat) : Int) = 1 from rfl] at hb
        clear hlt h1 ra
        go_wp2_with fail
        go_ret
        exact ⟨by rw [hv.out]; rfl, hl⟩
      · have hz : bitN a k = 0 := by have := bitN_le a k; omega
        have hv := Lib.hid (show _ ∧ _ from ⟨bit_low hlt h1, ra⟩)
        rw [hz, show ((0 : Nat) : Int) = 0 from rfl] at hb
        clear hlt h1 ra hz
        go_wp2_with fail
        go_roundg k
        case measure => omega
        case rel => exact ⟨by omega, by go_num, hl, hv.out.2, hv.out.1⟩
/-- a number as an int, if it is one -/
def intN (a : Nat) : Int := if a < 2 ^ 63 then (a : Int) else 0
end Go.Proofs.Ytpdenhmkpiafiaa
