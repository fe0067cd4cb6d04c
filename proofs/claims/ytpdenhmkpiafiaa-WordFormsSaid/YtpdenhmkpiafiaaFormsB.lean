/-
  tallagelaw01.WordForms, THE WALK; tallageref01.Int (99).
-/
import Derived.Test.YtpdenhmkpiafiaaFormsA
import Derived.Test.YtpdenhmkpiafiaaRefForm1
import Derived.Test.YtpdenhmkpiafiaaRefForm2
import Derived.Test.YtpdenhmkpiafiaaLives1
namespace Go.Proofs.Ytpdenhmkpiafiaa
open Go Go.RowKit K6 Ref

theorem or3 {a : Nat} (ha : a < M) : (bits .or .u64 (bits .or .u64 (wordsOf a 1) (wordsOf a 2)) (wordsOf a 3) != 0) = decide (¬ a < 2 ^ 64) := by
  unfold wordsOf
  rw [u64_or_nat _ _ (Nat.mod_lt _ (by decide)) (Nat.mod_lt _ (by decide)), u64_or_nat _ _ (Nat.or_lt_two_pow (n := 64) (Nat.mod_lt _ (by decide)) (Nat.mod_lt _ (by decide))) (Nat.mod_lt _ (by decide)), Bool.eq_iff_iff]
  simp only [bne_iff_ne, ne_eq, decide_eq_true_eq]
  rw [Int.natCast_eq_zero, Nat.or_eq_zero_iff, Nat.or_eq_zero_iff]
  unfold M at ha
  omega
set_option maxRecDepth 100000 in
set_option maxHeartbeats 16000000 in
theorem refIntU {a : Nat} (ha : a < M) (w : World) : Calls Try.prog 99 #[.agg (W4 a)] w (Ret w (.tuple #[.int .i64 (intN a), .bool (decide (a < 2 ^ 63))])) := by
  have ho := or3 ha
  obtain ⟨y, hy⟩ : ∃ y, a % 2 ^ 64 = y := ⟨_, rfl⟩
  have hyl : y < 2 ^ 64 := hy ▸ Nat.mod_lt _ (by decide)
  obtain ⟨x1, h1⟩ : ∃ x, wordsOf a 1 = x := ⟨_, rfl⟩
  obtain ⟨x2, h2⟩ : ∃ x, wordsOf a 2 = x := ⟨_, rfl⟩
  obtain ⟨x3, h3⟩ : ∃ x, wordsOf a 3 = x := ⟨_, rfl⟩
  have hc : ∀ (wx : World) (b : Nat), Row wx b 31 (W4 a) → wx.cell? ⟨b, 0, none⟩ = some (.int .u64 (y : Int)) ∧ wx.cell? ⟨b, 1, none⟩ = some (.int .u64 x1) ∧ wx.cell? ⟨b, 2, none⟩ = some (.int .u64 x2) ∧ wx.cell? ⟨b, 3, none⟩ = some (.int .u64 x3) := fun _ _ h =>
    ⟨by rw [← hy, ← word0]; exact h.cell 0, by rw [← h1]; exact h.cell 1, by rw [← h2]; exact h.cell 2, by rw [← h3]; exact h.cell 3⟩
  rw [h1, h2, h3] at ho
  obtain ⟨o, hoo⟩ : ∃ o, bits .or .u64 (bits .or .u64 x1 x2) x3 = o := ⟨_, rfl⟩
  rw [hoo] at ho
  replace hc := Lib.hid hc
  clear h1 h2 h3
  by_cases h64 : a < 2 ^ 64
  · rw [decide_eq_false (fun h => h h64)] at ho
    have hya : y = a := by rw [← hy]; exact Nat.mod_eq_of_lt h64
    by_cases h63 : a < 2 ^ 63
    · have hh := Lib.hid (show intN a = (y : Int) ∧ decide (a < 2 ^ 63) = true from ⟨by unfold intN; rw [if_pos h63, hya], decide_eq_true h63⟩)
      have s1 : decide ((9223372036854775807 : Int) < (y : Int)) = false := by simp; omega
      have w1 : IntKind.i64.wrap (y : Int) = (y : Int) := by rw [IntKind.wrap_i64]; omega
      clear hy hya h63 h64 hyl
      go_enter Try.func99, Try.ntmps99
      apply wp_seq_eq
      focus
        intro J hJ
        go_wp2_with fail
        exact hJ
      refine wp_abs (Mem w [(w.heap.size, 31, W4 a)]) ⟨by go_grown, ?_, trivial⟩ ?_
      · repeat (first | (refine Row.new_at ?_; simp; done) | refine Row.alloc ?_ _)
      intro w0 hM
      obtain ⟨hl, ra, -⟩ := hM
      go_upto_region 1 with (fail)
      obtain ⟨c0, c1, c2, c3⟩ := hc.out _ _ ra
      clear ra
      go_wp2_with fail
      go_ret2
      exact ⟨by rw [hh.out.1, hh.out.2] <;> rfl, hl⟩
    · have hh := Lib.hid (show intN a = 0 ∧ decide (a < 2 ^ 63) = false from ⟨if_neg h63, decide_eq_false h63⟩)
      have s1 : decide ((9223372036854775807 : Int) < (y : Int)) = true := by simp; omega
      clear hy hya h63 h64 hyl
      go_enter Try.func99, Try.ntmps99
      apply wp_seq_eq
      focus
        intro J hJ
        go_wp2_with fail
        exact hJ
      refine wp_abs (Mem w [(w.heap.size, 31, W4 a)]) ⟨by go_grown, ?_, trivial⟩ ?_
      · repeat (first | (refine Row.new_at ?_; simp; done) | refine Row.alloc ?_ _)
      intro w0 hM
      obtain ⟨hl, ra, -⟩ := hM
      go_upto_region 1 with (fail)
      obtain ⟨c0, c1, c2, c3⟩ := hc.out _ _ ra
      clear ra
      go_wp2_with fail
      go_ret2
      exact ⟨by rw [hh.out.1, hh.out.2] <;> rfl, hl⟩
  · rw [decide_eq_true h64] at ho
    have hh := Lib.hid (show intN a = 0 ∧ decide (a < 2 ^ 63) = false from ⟨if_neg (by omega), decide_eq_false (by omega)⟩)
    clear hy h64 hyl
    go_enter Try.func99, Try.ntmps99
    apply wp_seq_eq
    focus
      intro J hJ
      go_wp2_with fail
      exact hJ
    refine wp_abs (Mem w [(w.heap.size, 31, W4 a)]) ⟨by go_grown, ?_, trivial⟩ ?_
    · repeat (first | (refine Row.new_at ?_; simp; done) | refine Row.alloc ?_ _)
    intro w0 hM
    obtain ⟨hl, ra, -⟩ := hM
    go_upto_region 1 with (fail)
    obtain ⟨c0, c1, c2, c3⟩ := hc.out _ _ ra
    clear ra
    go_wp2_with fail
    go_ret2
    exact ⟨by rw [hh.out.1, hh.out.2] <;> rfl, hl⟩
theorem refBitsU {a : Nat} (ha : a < M) (w : World) : Calls Try.prog 102 #[.agg (W4 a)] w (Ret w (.int .i64 (blen a))) := refBits_any _ _ _ _ a (wordsOf_isW a ha) w
/-- the text is one only -/
theorem txt_uniq {a i j : Nat} (h1 : a / 10 ^ i = 0) (h2 : i = 1 ∨ a / 10 ^ (i - 1) ≠ 0) (hi : 1 ≤ i) (k1 : a / 10 ^ j = 0) (k2 : j = 1 ∨ a / 10 ^ (j - 1) ≠ 0) (hj : 1 ≤ j) : i = j := by
  have key : ∀ p q : Nat, 1 ≤ p → p < q → a / 10 ^ p = 0 → (q = 1 ∨ a / 10 ^ (q - 1) ≠ 0) → False := fun p q hp hpq h0 h => by
    rcases h with h | h
    · omega
    · have h3 : 10 ^ p ≤ 10 ^ (q - 1) := Nat.pow_le_pow_right (by decide) (by omega)
      have hp0 : 0 < 10 ^ p := Nat.pow_pos (by decide)
      have h4 : a / 10 ^ (q - 1) ≤ a / 10 ^ p := Nat.div_le_div_left h3 hp0
      rw [h0] at h4
      exact h (Nat.le_zero.1 h4)
  rcases Nat.lt_trichotomy i j with h | h | h
  · exact (key i j hi h h1 k2).elim
  · exact h
  · exact (key j i hj h k1 h2).elim
theorem txt_is {a : Nat} (ha : a < M) : ∃ T : ByteArray, ∀ w e w', Txt w a e w' → Ret w (.string T) e w' := by
  obtain ⟨j, hj1, -, hj0, hjn⟩ := dec_len a 78 (by omega) (Nat.div_eq_of_lt (Nat.lt_of_lt_of_le ha pow77))
  refine ⟨strOfNums (decs a j), fun w e w' h => ?_⟩
  obtain ⟨i, hi1, -, hi0, hin, rfl, hb⟩ := h
  rw [txt_uniq hi0 hin hi1 hj0 hjn hj1]
  exact ⟨rfl, hb⟩
/-- a slice value reads as these bytes -/
def Bt (w : World) (v : Value) (xs : List Int) : Prop := ∃ g o c, v = .slice (some ⟨g, o, none⟩) xs.length c ∧ g < w.heap.size ∧ ∀ i, i < xs.length → w.cell? ⟨g, o + i, none⟩ = some (.int .u8 (xs.getD i 0))
theorem Bt.below {w w' : World} {v : Value} {xs : List Int} (h : Bt w v xs) (hb : Below w.heap.size w w') : Bt w' v xs := by
  obtain ⟨g, o, c, e, hg, hi⟩ := h
  exact ⟨g, o, c, e, Nat.lt_of_lt_of_le hg hb.size, fun i h => ((bcell hb).1 g (o + i) hg).trans (hi i h)⟩
theorem Bt.conv {w : World} {v : Value} {xs : List Int} (h : Bt w v xs) : (convert 33 9 v).run Try.prog w = .ok (.string (strOfNums xs)) w := by
  obtain ⟨g, o, c, rfl, hg, hi⟩ := h
  exact run_convert_bytes_arg (P := Try.prog) w 33 5 Try.underlying33 Try.underlying5 g o xs.length c xs rfl hi 9 Try.underlying9
def BL (a : Nat) : List Int := (List.range 32).map fun j => ((byN a (31 - j) : Nat) : Int)
theorem BL_len (a : Nat) : (BL a).length = 32 := by unfold BL; rw [List.length_map, List.length_range]
theorem BL_get (a i : Nat) (h : i < 32) : (BL a).getD i 0 = ((byN a (31 - i) : Nat) : Int) := by
  unfold BL
  simp [List.getD_eq_getElem?_getD, h]
theorem bytes82 {a : Nat} (ha : a < M) (w : World) : Calls Try.prog 82 #[.agg (W4 a)] w fun e w' => ∃ v, e = .returned v ∧ Bt w' v (BL a) ∧ Below w.heap.size w w' := by
  refine (bytesU ha w).mono ?_
  rintro e w' ⟨g, rfl, hg, hr, hb⟩
  refine ⟨_, rfl, ⟨g, 0, 32, by rw [BL_len], hr.lt, fun i hi => ?_⟩, hb⟩
  rw [BL_len] at hi
  rw [BL_get a i hi, Nat.zero_add, hr.at_ i hi]
  unfold bytesTo
  rw [if_pos hi]
theorem bytes100 {a : Nat} (ha : a < M) (w : World) : Calls Try.prog 100 #[.agg (W4 a)] w fun e w' => ∃ v, e = .returned v ∧ Bt w' v (BL a) ∧ Below w.heap.size w w' := by
  refine (refBytes_any a ha w).mono ?_
  rintro e w' ⟨v, rfl, h, hb⟩
  refine ⟨v, rfl, ?_, hb⟩
  rcases h.2 with ⟨rfl, h1⟩ | ⟨g, cap, cur, rfl, hb1, hg, h1, h2, h3, h4⟩
  · exact absurd h1 (by decide)
  · refine ⟨g, 0, cap, by rw [BL_len], (Array.getElem?_eq_some_iff.1 hg).1, fun i hi => ?_⟩
    rw [BL_len] at hi
    have h5 := h.cells (g := g) rfl i (.int .u8 ((byN a (31 - i) : Nat) : Int)) (by unfold bL; rw [List.getElem?_map, List.getElem?_range hi]; rfl)
    have hadd : (⟨g, 0, none⟩ : Addr).add i = ⟨g, 0 + i, none⟩ := by unfold Addr.add; split <;> simp_all
    rw [hadd] at h5
    rw [BL_get a i hi]
    exact h5
theorem lowEq {y : Nat} (hy : y < 2 ^ 64) (w : World) : (Op.equalIn 10000 31 (.agg (W4 y)) (.agg #[.int .u64 ((y : Nat) : Int), .int .u64 0, .int .u64 0, .int .u64 0])).run Try.prog w = .ok true w := by
  have hM : y < M := Nat.lt_of_lt_of_le hy (by unfold M; decide)
  rw [W4_word y hy, eqU hM hM, decide_eq_true rfl]
end Go.Proofs.Ytpdenhmkpiafiaa
