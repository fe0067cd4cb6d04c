/-
  u256.length AND u256.Bits: how many bits a word, and a number, has.
-/
import Derived.Test.YtpdenhmkpiafiaaUsed
namespace Go.Proofs.Ytpdenhmkpiafiaa
open Go Go.RowKit

def blen (n : Nat) : Nat := if n = 0 then 0 else Nat.log2 n + 1
theorem blen_shift {n s : Nat} (h : n / 2 ^ s ≠ 0) : blen n = s + blen (n / 2 ^ s) := by
  have hn : n ≠ 0 := by rintro rfl; simp at h
  unfold blen
  rw [if_neg hn, if_neg h]
  have h1 := (Nat.log2_eq_iff h).1 rfl
  have h2 : n.log2 = (n / 2 ^ s).log2 + s := by
    refine (Nat.log2_eq_iff hn).2 ⟨?_, ?_⟩
    · rw [Nat.pow_add]
      exact Nat.le_trans (Nat.mul_le_mul_right _ h1.1) (Nat.div_mul_le_self _ _)
    · rw [show (n / 2 ^ s).log2 + s + 1 = (n / 2 ^ s).log2 + 1 + s by omega, Nat.pow_add]
      exact (Nat.div_lt_iff_lt_mul (Nat.two_pow_pos s)).1 h1.2
  omega
theorem blen_le {n k : Nat} (h : n < 2 ^ k) : blen n ≤ k := by
  unfold blen
  split
  · omega
  · rename_i h0
    have := (Nat.log2_lt h0).2 h
    omega
theorem blen_one {n : Nat} (h : n < 2) : blen n = n := by
  have : n = 0 ∨ n = 1 := by omega
  rcases this with rfl | rfl <;> decide
/-- the step with so many rounds to come -/
def stp : Nat → Int
  | 0 => 0
  | 1 => 1
  | 2 => 2
  | 3 => 4
  | 4 => 8
  | 5 => 16
  | _ => 32
def bnd : Nat → Int
  | 0 => 2
  | 1 => 4
  | 2 => 16
  | 3 => 256
  | 4 => 65536
  | 5 => 4294967296
  | _ => 18446744073709551616

def LenInv (x N X : Int) (g : Nat) : Prop := g ≤ 6 ∧ 0 ≤ X ∧ X < bnd g ∧ 0 ≤ N ∧ N ≤ 64 ∧ (blen x.toNat : Int) = N + blen X.toNat
theorem LenInv.low {x N X : Int} {g : Nat} (h : LenInv x N X (g + 1)) (p : Int) (hp : 0 < p) (hb : bnd g = p) (hz : X / p = 0) : LenInv x N X g := by
  obtain ⟨h1, h2, h3, h4, h5, h6⟩ := h
  refine ⟨by omega, h2, ?_, h4, h5, h6⟩
  rw [hb]
  have h7 := Int.emod_add_mul_ediv X p
  have h8 := Int.emod_lt_of_pos X hp
  rw [hz, Int.mul_zero] at h7
  omega
theorem LenInv.big {x N X : Int} {g : Nat} (h : LenInv x N X (g + 1)) (hx : x < 18446744073709551616) (p : Nat) (s : Nat) (hp : p = 2 ^ s) (hb : bnd g = p) (hb2 : bnd (g + 1) = p * p) (hz : ¬ X / (p : Int) = 0) : LenInv x (N + s) (X / p) g := by
  obtain ⟨h1, h2, h3, h4, h5, h6⟩ := h
  obtain ⟨Y, rfl⟩ := Int.eq_ofNat_of_zero_le h2
  have hp0 : 0 < p := by rw [hp]; exact Nat.two_pow_pos s
  have e : (Y : Int) / (p : Int) = ((Y / p : Nat) : Int) := (Int.natCast_ediv _ _).symm
  rw [e] at hz ⊢
  rw [hb2] at h3
  have h3' : Y < p * p := by have : (Y : Int) < ((p * p : Nat) : Int) := by rw [Int.natCast_mul]; exact h3
                             exact Int.ofNat_lt.1 this
  have hq : Y / p < p := (Nat.div_lt_iff_lt_mul hp0).2 h3'
  have hs : blen Y = s + blen (Y / p) := by
    rw [hp] at hz ⊢
    exact blen_shift (by omega)
  have h64 : blen x.toNat ≤ 64 := blen_le (by omega)
  rw [Int.toNat_natCast] at h6
  refine ⟨by omega, Int.natCast_nonneg _, by rw [hb]; exact Int.ofNat_lt.2 hq, by omega, by omega, ?_⟩
  rw [Int.toNat_natCast]
  omega
theorem LenInv.last {x N X : Int} (h : LenInv x N X 0) : (blen x.toNat : Int) = N + X := by
  obtain ⟨h1, h2, h3, h4, h5, h6⟩ := h
  rw [blen_one (n := X.toNat) (by have : X < 2 := h3; omega)] at h6
  omega

set_option maxHeartbeats 2000000 in
theorem length_any (x : Int) (hx : 0 ≤ x ∧ x < 18446744073709551616) (w : World) :
    Calls Try.prog 161 #[.int .u64 x] w fun e w' => e = .returned (.int .i64 (blen x.toNat)) ∧ ∃ n, w' = w.drewN n := by
  go_enter Try.func161, Try.ntmps161
  go_wp2
  go_loopg [0, 3, 4] 6 (fun g s0 s3 s4 wr => ∃ N X : Int, s0 = .int .u64 X ∧ s3 = .int .i64 N ∧ s4 = .int .i64 (stp g) ∧ (∃ n, wr = w.drewN n) ∧ LenInv x N X g)
  case atStart => exact ⟨0, x, rfl, rfl, rfl, ⟨0, rfl⟩, by omega, hx.1, hx.2, by omega, by omega, by omega⟩
  case round =>
    obtain ⟨N, X, rfl, rfl, rfl, ⟨n, rfl⟩, inv⟩ := hrel
    have h6 := inv.1
    have hX := inv.2.1
    have hXb := inv.2.2.1
    have hN := inv.2.2.2.1
    have hN' := inv.2.2.2.2.1
    rcases (show gk = 0 ∨ gk = 1 ∨ gk = 2 ∨ gk = 3 ∨ gk = 4 ∨ gk = 5 ∨ gk = 6 by omega) with rfl | rfl | rfl | rfl | rfl | rfl | rfl
    · simp only [stp, bnd] at hXb ⊢
      clear h6
      go_wp2
      go_ret
      refine ⟨?_, _, rfl⟩
      rw [inv.last]; rfl
    · simp only [stp, bnd] at hXb ⊢
      clear h6
      by_cases hz : X / 2 = 0
      · have hz' : (X / 2 != 0) = false := by simp [hz]
        have HZ := Lib.hid (inv.low 2 (by omega) rfl hz)
        clear hz
        go_wp2
        go_roundg 0
        case measure => omega
        case rel => exact ⟨N, X, rfl, rfl, rfl, ⟨_, rfl⟩, HZ.out⟩
      · have hz' : (X / 2 != 0) = true := by simp [hz]
        have HZ := Lib.hid (inv.big hx.2 2 1 (by decide) rfl rfl hz)
        clear hz
        go_wp2_with fail
        go_quiet (fail)
        go_wp2
        go_roundg 0
        case measure => omega
        case rel => exact ⟨N + 1, X / 2, rfl, rfl, rfl, ⟨_, rfl⟩, HZ.out⟩
    · simp only [stp, bnd] at hXb ⊢
      clear h6
      by_cases hz : X / 4 = 0
      · have hz' : (X / 4 != 0) = false := by simp [hz]
        have HZ := Lib.hid (inv.low 4 (by omega) rfl hz)
        clear hz
        go_wp2
        go_roundg 1
        case measure => omega
        case rel => exact ⟨N, X, rfl, rfl, rfl, ⟨_, rfl⟩, HZ.out⟩
      · have hz' : (X / 4 != 0) = true := by simp [hz]
        have HZ := Lib.hid (inv.big hx.2 4 2 (by decide) rfl rfl hz)
        clear hz
        go_wp2_with fail
        go_quiet (fail)
        go_wp2
        go_roundg 1
        case measure => omega
        case rel => exact ⟨N + 2, X / 4, rfl, rfl, rfl, ⟨_, rfl⟩, HZ.out⟩
    · simp only [stp, bnd] at hXb ⊢
      clear h6
      by_cases hz : X / 16 = 0
      · have hz' : (X / 16 != 0) = false := by simp [hz]
        have HZ := Lib.hid (inv.low 16 (by omega) rfl hz)
        clear hz
        go_wp2
        go_roundg 2
        case measure => omega
        case rel => exact ⟨N, X, rfl, rfl, rfl, ⟨_, rfl⟩, HZ.out⟩
      · have hz' : (X / 16 != 0) = true := by simp [hz]
        have HZ := Lib.hid (inv.big hx.2 16 4 (by decide) rfl rfl hz)
        clear hz
        go_wp2_with fail
        go_quiet (fail)
        go_wp2
        go_roundg 2
        case measure => omega
        case rel => exact ⟨N + 4, X / 16, rfl, rfl, rfl, ⟨_, rfl⟩, HZ.out⟩
    · simp only [stp, bnd] at hXb ⊢
      clear h6
      by_cases hz : X / 256 = 0
      · have hz' : (X / 256 != 0) = false := by simp [hz]
        have HZ := Lib.hid (inv.low 256 (by omega) rfl hz)
        clear hz
        go_wp2
        go_roundg 3
        case measure => omega
        case rel => exact ⟨N, X, rfl, rfl, rfl, ⟨_, rfl⟩, HZ.out⟩
      · have hz' : (X / 256 != 0) = true := by simp [hz]
        have HZ := Lib.hid (inv.big hx.2 256 8 (by decide) rfl rfl hz)
        clear hz
        go_wp2_with fail
        go_quiet (fail)
        go_wp2
        go_roundg 3
        case measure => omega
        case rel => exact ⟨N + 8, X / 256, rfl, rfl, rfl, ⟨_, rfl⟩, HZ.out⟩
    · simp only [stp, bnd] at hXb ⊢
      clear h6
      by_cases hz : X / 65536 = 0
      · have hz' : (X / 65536 != 0) = false := by simp [hz]
        have HZ := Lib.hid (inv.low 65536 (by omega) rfl hz)
        clear hz
        go_wp2
        go_roundg 4
        case measure => omega
        case rel => exact ⟨N, X, rfl, rfl, rfl, ⟨_, rfl⟩, HZ.out⟩
      · have hz' : (X / 65536 != 0) = true := by simp [hz]
        have HZ := Lib.hid (inv.big hx.2 65536 16 (by decide) rfl rfl hz)
        clear hz
        go_wp2_with fail
        go_quiet (fail)
        go_wp2
        go_roundg 4
        case measure => omega
        case rel => exact ⟨N + 16, X / 65536, rfl, rfl, rfl, ⟨_, rfl⟩, HZ.out⟩
    · simp only [stp, bnd] at hXb ⊢
      clear h6
      by_cases hz : X / 4294967296 = 0
      · have hz' : (X / 4294967296 != 0) = false := by simp [hz]
        have HZ := Lib.hid (inv.low 4294967296 (by omega) rfl hz)
        clear hz
        go_wp2
        go_roundg 5
        case measure => omega
        case rel => exact ⟨N, X, rfl, rfl, rfl, ⟨_, rfl⟩, HZ.out⟩
      · have hz' : (X / 4294967296 != 0) = true := by simp [hz]
        have HZ := Lib.hid (inv.big hx.2 4294967296 32 (by decide) rfl rfl hz)
        clear hz
        go_wp2_with fail
        go_quiet (fail)
        go_wp2
        go_roundg 5
        case measure => omega
        case rel => exact ⟨N + 32, X / 4294967296, rfl, rfl, rfl, ⟨_, rfl⟩, HZ.out⟩

theorem wlen_split {a0 a1 a2 a3 : Int} {a j : Nat} (h : IsW a0 a1 a2 a3 a) (hj : wlen a = j + 1) : (a : Int) = psum (sel4 a0 a1 a2 a3) (j + 1) ∧ sel4 a0 a1 a2 a3 j ≠ 0 := by
  have w0 := h.wordy 0
  have w1 := h.wordy 1
  have w2 := h.wordy 2
  have w3 := h.wordy 3
  have hv := h.val
  simp [sel4, W, psum] at w0 w1 w2 w3 hv
  unfold wlen at hj
  have : j = 0 ∨ j = 1 ∨ j = 2 ∨ j = 3 := by have := wlen_le a; unfold wlen at this; omega
  rcases this with rfl | rfl | rfl | rfl <;> simp [sel4, psum, W] <;> (repeat' split at hj) <;> omega
theorem blen_word {f : Nat → Int} (h : Wordy f) {a j : Nat} (ha : (a : Int) = psum f (j + 1)) (hf : f j ≠ 0) : blen a = 64 * j + blen (f j).toNat := by
  have hb := psum_bd h j
  have hj := h j
  have hW : (W : Int) ^ j = ((2 ^ (64 * j) : Nat) : Int) := by
    rw [show W = ((2 ^ 64 : Nat) : Int) from rfl, ← Int.natCast_pow, ← Nat.pow_mul]
  unfold psum at ha
  have hq : a / 2 ^ (64 * j) = (f j).toNat := by
    have hpos := Nat.two_pow_pos (64 * j)
    refine Nat.div_eq_of_lt_le ?_ ?_
    · have : ((f j).toNat * 2 ^ (64 * j) : Nat) ≤ (a : Int) := by
        rw [Int.natCast_mul, ← hW, Int.toNat_of_nonneg hj.1, ha]; omega
      exact Int.ofNat_le.1 this
    · have : (a : Int) < (((f j).toNat + 1) * 2 ^ (64 * j) : Nat) := by
        rw [Int.natCast_mul, ← hW, Int.natCast_add, Int.toNat_of_nonneg hj.1, ha, Int.add_mul]; omega
      exact Int.ofNat_lt.1 this
  have hne : a / 2 ^ (64 * j) ≠ 0 := by rw [hq]; omega
  rw [blen_shift hne, hq]

set_option maxHeartbeats 400000 in
theorem bits_any (a0 a1 a2 a3 : Int) (a : Nat) (ha : IsW a0 a1 a2 a3 a) (w : World) :
    Calls Try.prog 49 #[.agg #[.int .u64 a0, .int .u64 a1, .int .u64 a2, .int .u64 a3]] w fun e w' => e = .returned (.int .i64 (blen a)) ∧ Below w.heap.size w w' := by
  go_enter Try.func49, Try.ntmps49
  go_wp2_with fail
  refine (used_any _ _ _ _ a ha _).mono ?_
  rintro e w1 ⟨rfl, hb1⟩
  have hl1 : Below w.heap.size w w1 := Below.trans (by go_grown) (hb1.mono (by go_size))
  have ra : Row w1 w.heap.size 31 (arr .u64 (sel4 a0 a1 a2 a3) 4) := Row.below (by repeat (first | (refine Row.new_at ?_; simp; done) | refine Row.alloc ?_ _)) hb1 (by go_size)
  have hw := wlen_le a
  by_cases h0 : wlen a = 0
  · have hz : a = 0 := by unfold wlen at h0; (repeat' split at h0) <;> omega
    have fin : blen a = 0 := by rw [hz]; rfl
    have fin := Lib.hid fin
    clear hz ra hb1 hw
    go_wp2
    go_ret
    exact ⟨by rw [fin.out]; rfl, hl1⟩
  · obtain ⟨j, hj⟩ : ∃ j, wlen a = j + 1 := ⟨wlen a - 1, by omega⟩
    have hs := wlen_split ha hj
    have fin := Lib.hid (blen_word ha.wordy hs.1 hs.2)
    have ca := ra.at_ j (by omega)
    have wj := ha.wordy j
    rw [hj] at hw ⊢
    have HJ := Lib.hid hj
    clear hj hs ra hb1 h0
    have e1 : ((j + 1 : Nat) : Int) - 1 = (j : Int) := by omega
    have hle : (blen (sel4 a0 a1 a2 a3 j).toNat : Int) ≤ 64 := by have := blen_le (n := (sel4 a0 a1 a2 a3 j).toNat) (k := 64) (by have := wj.2; unfold W at this; omega); omega
    go_wp2_with fail
    refine (length_any _ wj _).mono ?_
    rintro e w2 ⟨rfl, n, rfl⟩
    go_wp2
    go_ret
    refine ⟨?_, belowDN hl1 _⟩
    rw [fin.out]; simp
end Go.Proofs.Ytpdenhmkpiafiaa
