/-
  Rows of 32-bit digits that say a number: one digit put, a slice over them, a row newly made.
-/
import Derived.Test.YtpdenhmkpiafiaaRefMinus
import Derived.Deep.OwnRows
namespace Go.Proofs.Ytpdenhmkpiafiaa
open Go Go.RowKit K6 Ref

/-- the digits of a number, as a row's function -/
def dgf (V : Nat) : Nat → Int := fun j => ((d32 V j : Nat) : Int)
theorem d32_B (V j : Nat) : d32 V j = V / B ^ j % B := by unfold d32; rw [Nat.pow_mul]
theorem d32_lt (V j : Nat) : d32 V j < B := Nat.mod_lt _ (by decide)
theorem d32_zero (j : Nat) : d32 0 j = 0 := by unfold d32; simp
theorem B_pos (p : Nat) : 0 < B ^ p := Nat.pow_pos (by decide)
/-- a number, parted at digit p -/
theorem parted (V p : Nat) : V = V % B ^ p + B ^ p * (d32 V p + B * (V / B ^ (p + 1))) := by
  rw [d32_B, Nat.pow_succ, ← Nat.div_div_eq_div_mul, Nat.mod_add_div, Nat.mod_add_div]
theorem d32_parts {lo d hi p : Nat} (hlo : lo < B ^ p) (hd : d < B) (j : Nat) :
    d32 (lo + B ^ p * (d + B * hi)) j = if j < p then d32 lo j else if j = p then d else d32 hi (j - p - 1) := by
  rw [d32_B]
  rcases Nat.lt_trichotomy j p with h | h | h
  · rw [if_pos h, d32_B]
    obtain ⟨k, rfl⟩ : ∃ k, p = j + k + 1 := ⟨p - j - 1, by omega⟩
    rw [show B ^ (j + k + 1) * (d + B * hi) = B ^ j * (B * (B ^ k * (d + B * hi))) by rw [Nat.pow_succ, Nat.pow_add]; simp only [Nat.mul_assoc]; rw [Nat.mul_left_comm (B ^ k) B]]
    rw [Nat.add_mul_div_left _ _ (B_pos j), Nat.add_mul_mod_self_left]
  · rw [if_neg (by omega), if_pos h, h, Nat.add_mul_div_left _ _ (B_pos p), Nat.div_eq_of_lt hlo, Nat.zero_add, Nat.add_mul_mod_self_left, Nat.mod_eq_of_lt hd]
  · rw [if_neg (by omega), if_neg (by omega), d32_B]
    obtain ⟨k, rfl⟩ : ∃ k, j = p + 1 + k := ⟨j - p - 1, by omega⟩
    rw [Nat.pow_add, Nat.pow_add, Nat.pow_one, ← Nat.div_div_eq_div_mul, ← Nat.div_div_eq_div_mul, Nat.add_mul_div_left _ _ (B_pos p), Nat.div_eq_of_lt hlo, Nat.zero_add, Nat.add_mul_div_left _ _ (by decide : 0 < B), Nat.div_eq_of_lt hd, Nat.zero_add]
    congr 3
    omega
/-- one digit put -/
theorem upd_dgf {V V' p r : Nat} (hr : r < B) (h : V' + B ^ p * d32 V p = V + B ^ p * r) : upd (dgf V) p (r : Int) = dgf V' := by
  have hV := parted V p
  have hlo : V % B ^ p < B ^ p := Nat.mod_lt _ (B_pos p)
  have hd := d32_lt V p
  generalize hlo' : V % B ^ p = lo at *
  generalize hh : V / B ^ (p + 1) = hi at *
  generalize hdd : d32 V p = d at *
  have hV' : V' = lo + B ^ p * (r + B * hi) := by
    rw [Nat.mul_add] at hV ⊢
    omega
  funext j
  unfold upd dgf
  rw [hV', d32_parts hlo hr]
  by_cases e : j = p
  · rw [if_pos e, if_neg (by omega), if_pos e]
  · rw [if_neg e, hV, d32_parts hlo hd, if_neg e, if_neg e]
/-- the slice over such a row -/
theorem Sl_dgf {w : World} {b L c V : Nat} (h : Row w b 181 (arr .u32 (dgf V) L)) (hc : L ≤ c) : Sl w (.slice (some ⟨b, 0, none⟩) L c) ((List.range L).map (d32 V)) := by
  have hl : ((List.range L).map (d32 V)).length = L := by simp
  refine ⟨some ⟨b, 0, none⟩, c, by rw [hl], by rw [hl]; exact hc, (fun h => (by cases h)), fun a ha => ?_⟩
  cases ha
  refine ⟨b, 0, rfl, h.lt, fun i hi => ?_⟩
  rw [hl] at hi
  rw [Nat.zero_add, h.at_ i hi]
  unfold dg dgf
  simp [hi]
theorem val_dgf {V L : Nat} (h : V < B ^ L) : val ((List.range L).map (d32 V)) = V := by
  rw [val_d32, Nat.pow_mul, Nat.mod_eq_of_lt h]
theorem dg_range {V L j : Nat} (h : j < L) : dg ((List.range L).map (d32 V)) j = d32 V j := by
  unfold dg; simp [h]
theorem made_arr (n : Nat) : madeCells #[Value.int .u32 0] n = arr .u32 (dgf 0) n := by
  apply Array.ext
  · simp [madeCells, arr]
  · intro i h1 h2
    simp [madeCells, arr, dgf, d32_zero, Nat.mod_one]
theorem make32 (n : Nat) (hn : n < 10000000000) (w : World) : (Instr.makeSlice 153 (.int .i64 (n : Int)) (.int .i64 (n : Int))).run Try.prog w = .ok (.slice (some ⟨w.heap.size, 0, none⟩) n n) (w.alloc (.cells (arr .u32 (dgf 0) n) 181)) := by
  rw [← made_arr]
  exact run_make_row' 153 181 (.int .u32 0) 4 Try.underlying153 (by kernel_rfl) rfl .i64 .i64 n (by omega) (by omega) w
/-- digits above are noughts -/
theorem d32_out {V k j : Nat} (h : V < B ^ k) (hj : k ≤ j) : d32 V j = 0 := by
  rw [d32_B, Nat.div_eq_of_lt (Nat.lt_of_lt_of_le h (Nat.pow_le_pow_right (by decide) hj)), Nat.zero_mod]
end Go.Proofs.Ytpdenhmkpiafiaa
