/-
  muldiv.Wide.bit: a bit of a product.
-/
import Derived.Test.YtpdenhmkpiafiaaMBits
namespace Go.Proofs.Ytpdenhmkpiafiaa
open Go Go.RowKit K6

theorem bit_hi {h l i : Nat} (hl : l < M) (hi : 256 ≤ i) : bitN (h * M + l) i = bitN h (i - 256) := by
  unfold bitN
  rw [show i = 256 + (i - 256) by omega, Nat.pow_add, ← Nat.div_div_eq_div_mul, ← M_eq, wide_hi hl, Nat.add_sub_cancel_left]
theorem bit_lo {h l i : Nat} (hi : i < 256) : bitN (h * M + l) i = bitN l i := by
  unfold bitN
  rw [M_eq, show 256 = i + 1 + (255 - i) by omega, Nat.pow_add, Nat.pow_succ]
  rw [show h * (2 ^ i * 2 * 2 ^ (255 - i)) + l = 2 ^ i * (2 * (h * 2 ^ (255 - i))) + l by simp only [Nat.mul_assoc, Nat.mul_comm, Nat.mul_left_comm], Nat.mul_add_div (Nat.pow_pos (by decide)), Nat.mul_add_mod]
/-- the words of a row of eight -/
theorem W8_at {w : World} {g t h l : Nat} (hr : Row w g t (W8 h l)) (j : Nat) (hj : j < 4) : w.cell? ⟨g, j, none⟩ = some (.int .u64 (sel4 (wordsOf h 0) (wordsOf h 1) (wordsOf h 2) (wordsOf h 3) j)) ∧ w.cell? ⟨g, 4 + j, none⟩ = some (.int .u64 (sel4 (wordsOf l 0) (wordsOf l 1) (wordsOf l 2) (wordsOf l 3) j)) := by
  have e : ∀ n, (W4 n)[j]? = some (.int .u64 (sel4 (wordsOf n 0) (wordsOf n 1) (wordsOf n 2) (wordsOf n 3) j)) := fun n => by rw [W4_arr, arr_get _ _ _ _ hj]
  constructor
  · rw [hr.cell]; have := W8_hi h l j _ (e h); rwa [Nat.zero_add] at this
  · rw [hr.cell]; exact W8_lo h l j _ (e l)

set_option maxRecDepth 100000 in
set_option maxHeartbeats 4000000 in
theorem mbit_any {h l : Nat} (hh : h < M) (hlM : l < M) (i : Nat) (hi : i < 512) (w : World) : Calls Try.prog 196 #[.agg (W8 h l), .int .i64 (i : Int)] w (Ret w (.int .u64 ((bitN (h * M + l) i : Nat) : Int))) := by
  have t1 : ((i : Int)).tdiv 64 = (i : Int) / 64 := Int.tdiv_eq_ediv_of_nonneg (by omega)
  have t2 : ((i : Int)).tmod 64 = (i : Int) % 64 := Int.tmod_eq_emod_of_nonneg (by omega)
  have t3 : IntKind.i64.wrap ((i : Int) / 64) = (i : Int) / 64 := IntWalk.i64_in _ (by omega)
  have t7 : 0 ≤ (i : Int) % 64 := by omega
  have t8 : (i : Int) % 64 < 64 := by omega
  have t9 : ((i : Int) % 64).toNat = i % 64 := by omega
  have t10 : IntKind.i64.wrap ((i : Int) % 64) = (i : Int) % 64 := IntWalk.i64_in _ (by omega)
  by_cases hb : 256 ≤ i
  · have hb' : (256 : Int) ≤ (i : Int) := by omega
    have t4 : 0 ≤ (i : Int) / 64 - 4 := by omega
    have t5 : (i : Int) / 64 - 4 < 4 := by omega
    have t6 : ((i : Int) / 64 - 4).toNat = (i - 256) / 64 := by omega
    have e6 : (i - 256) % 64 = i % 64 := by omega
    have hw := Lib.hid (bit_word (wordsOf_isW h hh) (k := i - 256) (by omega))
    have fin := Lib.hid (bit_hi (h := h) hlM hb)
    have hj : (i - 256) / 64 < 4 := by omega
    have hR : Row (w.alloc (.cells (W8 h l) 92)) w.heap.size 92 (W8 h l) := Row.new_at rfl
    obtain ⟨c, -⟩ := W8_at hR _ hj
    have e7 := Lib.hid e6
    clear hR e6 hj hb
    go_enter Try.func196, Try.ntmps196
    go_wp2_with fail
    trace_state
    go_ret
    exact ⟨ret_i (by rw [fin.out, ← hw.out, e7.out]), by go_grown⟩
  · have hb' : (i : Int) < 256 := by omega
    have t4 : 0 ≤ (i : Int) / 64 := by omega
    have t5 : (i : Int) / 64 < 4 := by omega
    have t6 : ((i : Int) / 64).toNat = i / 64 := by omega
    have hw := Lib.hid (bit_word (wordsOf_isW l hlM) (k := i) (by omega))
    have fin := Lib.hid (bit_lo (h := h) (l := l) (i := i) (by omega))
    have hj : i / 64 < 4 := by omega
    have hR : Row (w.alloc (.cells (W8 h l) 92)) w.heap.size 92 (W8 h l) := Row.new_at rfl
    obtain ⟨-, c⟩ := W8_at hR _ hj
    clear hR hj hb
    go_enter Try.func196, Try.ntmps196
    go_wp2_with fail
    trace_state
    go_ret
    exact ⟨ret_i (by rw [fin.out, ← hw.out]), by go_grown⟩
end Go.Proofs.Ytpdenhmkpiafiaa
