/-
  tallagelaw01.WordForms, THE WALK; u256.Int (98), tallageref01.Int (99).
-/
import Derived.Test.YtpdenhmkpiafiaaRefForm1
import Derived.Test.YtpdenhmkpiafiaaRefMulDiv
import Derived.Test.YtpdenhmkpiafiaaLives1
namespace Go.Proofs.Ytpdenhmkpiafiaa
open Go Go.RowKit K6 Ref

theorem word0 {a : Nat} : wordsOf a 0 = ((a % 2 ^ 64 : Nat) : Int) := by unfold wordsOf; simp
theorem lit0 (a : Nat) : #[Value.int .u64 ((a % 2 ^ 64 : Nat) : Int), .int .u64 0, .int .u64 0, .int .u64 0] = W4 (a % 2 ^ 64) := W4_word _ (Nat.mod_lt _ (by decide))
theorem eqLow {a : Nat} (ha : a < M) (w : World) : (Op.equalIn 10000 31 (.agg (W4 a)) (.agg #[.int .u64 ((a % 2 ^ 64 : Nat) : Int), .int .u64 0, .int .u64 0, .int .u64 0])).run Try.prog w = .ok (decide (a < 2 ^ 64)) w := by
  rw [lit0, eqU ha (Nat.lt_of_le_of_lt (Nat.mod_le _ _) ha)]
  congr 1
  congr 1
  refine propext ⟨fun h => by rw [h]; exact Nat.mod_lt _ (by decide), fun h => (Nat.mod_eq_of_lt h).symm⟩
set_option maxRecDepth 100000 in
set_option maxHeartbeats 16000000 in
theorem intU {a : Nat} (ha : a < M) (w : World) : Calls Try.prog 98 #[.agg (W4 a)] w (Ret w (.tuple #[.int .i64 (intN a), .bool (decide (a < 2 ^ 63))])) := by
  have qf := fun wx => eqLow ha wx
  obtain ⟨y, hy⟩ : ∃ y, a % 2 ^ 64 = y := ⟨_, rfl⟩
  rw [hy] at qf
  have hyl : y < 2 ^ 64 := hy ▸ Nat.mod_lt _ (by decide)
  have hc : ∀ (wx : World) (b : Nat), Row wx b 31 (W4 a) → wx.cell? ⟨b, 0, none⟩ = some (.int .u64 (y : Int)) := fun _ _ h => by rw [← hy, ← word0]; exact h.cell 0
  replace hc := Lib.hid hc
  by_cases h64 : a < 2 ^ 64
  · rw [decide_eq_true h64] at qf
    have hya : y = a := by rw [← hy]; exact Nat.mod_eq_of_lt h64
    by_cases h63 : a < 2 ^ 63
    · have hh := Lib.hid (show intN a = (y : Int) ∧ decide (a < 2 ^ 63) = true from ⟨by unfold intN; rw [if_pos h63, hya], decide_eq_true h63⟩)
      have s1 : (y : Int) / 9223372036854775808 = 0 := by omega
      have w1 : IntKind.i64.wrap (y : Int) = (y : Int) := by rw [IntKind.wrap_i64]; omega
      clear hy hya h63 h64 hyl
      go_enter Try.func98, Try.ntmps98
      apply wp_seq_eq
      focus
        intro J hJ
        go_wp2_with fail
        exact hJ
      refine wp_abs (Mem w [(w.heap.size, 31, W4 a)]) ⟨by go_grown, ?_, trivial⟩ ?_
      · repeat (first | (refine Row.new_at ?_; simp; done) | refine Row.alloc ?_ _)
      intro w0 hM
      obtain ⟨hl, ra, -⟩ := hM
      go_upto_region 1 with (fail)
      let L : List Sp := []
      refine wp_region_six0 (shs L) (look6 L) (None_) (by kernel_rfl) (by kernel_rfl) (mk_St L [] [] (by kernel_rfl) (by kernel_rfl) trivial (by simp)) ?_
      intro QQ hQ
      -- 0: load<31> *t1
      refine stepK rfl (by kernel_rfl) (fun K hK => ?_); go_simp
      apply Exists.intro; apply And.intro; (focus exact kLoad rfl rfl aggT31 ra rfl id); refine hK _ _ ?_; clear hK K
      -- 1: indexAddr<31> t1[0]
      refine stepK rfl (by kernel_rfl) (fun K hK => ?_); go_simp
      apply Exists.intro; apply And.intro; (focus (intro wk hk; go_simp; exact ⟨rfl, rfl⟩)); refine hK _ _ ?_; clear hK K
      -- 2: load<29> *t5
      refine stepK rfl (by kernel_rfl) (fun K hK => ?_); go_simp
      apply Exists.intro; apply And.intro; (focus (intro wk hk; have cc := hc.out _ _ (K6.Row.tr ra hk id); go_simp; exact ⟨rfl, rfl⟩)); refine hK _ _ ?_; clear hK K
      -- 3: build<31> 0:t6
      refine stepK rfl (by kernel_rfl) (fun K hK => ?_); go_simp
      apply Exists.intro; apply And.intro; (focus (intro wk hk; go_simp; exact ⟨rfl, rfl⟩)); refine hK _ _ ?_; clear hK K
      -- 4: neq<31> t4, t7
      refine stepK rfl (by kernel_rfl) (fun K hK => ?_); go_simp
      apply Exists.intro; apply And.intro; (focus (intro wk hk; go_simp; exact ⟨rfl, rfl⟩)); refine hK _ _ ?_; clear hK K
      -- 5: t8
      refine stepK rfl (by kernel_rfl) (fun K hK => ?_); go_simp
      apply Exists.intro; apply And.intro; (focus (intro wk hk; go_simp; exact ⟨rfl, rfl⟩)); refine hK _ _ ?_; clear hK K
      -- 6: indexAddr<31> t1[0]
      refine stepK rfl (by kernel_rfl) (fun K hK => ?_); go_simp
      first | (refine hK _ _ ?_; clear hK K) | (apply Exists.intro; apply And.intro; (focus (intro wk hk; go_simp; exact ⟨rfl, rfl⟩)); refine hK _ _ ?_; clear hK K)
      -- 7: load<29> *t10
      refine stepK rfl (by kernel_rfl) (fun K hK => ?_); go_simp
      first | (refine hK _ _ ?_; clear hK K) | (apply Exists.intro; apply And.intro; (focus (intro wk hk; have cc := hc.out _ _ (K6.Row.tr ra hk id); go_simp; exact ⟨rfl, rfl⟩)); refine hK _ _ ?_; clear hK K)
      -- 8: shr<29> t11, 63u <136>
      refine stepK rfl (by kernel_rfl) (fun K hK => ?_); go_simp
      first | (refine hK _ _ ?_; clear hK K) | (apply Exists.intro; apply And.intro; (focus (intro wk hk; go_simp; exact ⟨rfl, rfl⟩)); refine hK _ _ ?_; clear hK K)
      -- 9: neq<29> t12, 0u
      refine stepK rfl (by kernel_rfl) (fun K hK => ?_); go_simp
      first | (refine hK _ _ ?_; clear hK K) | (apply Exists.intro; apply And.intro; (focus (intro wk hk; go_simp; exact ⟨rfl, rfl⟩)); refine hK _ _ ?_; clear hK K)
      -- 10: pick t9 ? true : t13
      refine stepK rfl (by kernel_rfl) (fun K hK => ?_); go_simp
      apply Exists.intro; apply And.intro; (focus (intro wk hk; go_simp; exact ⟨rfl, rfl⟩)); refine hK _ _ ?_; clear hK K
      refine stepN ?_
      refine hQ _ _ ?_
      intro w1 hT hG hF
      have hbw1 := hT.below
      replace ra := ra.below hbw1 ra.lt
      replace hl := hl.trans (hbw1.mono hl.size)
      clear hT hG hF hbw1 hQ QQ L 
      have cc := hc.out _ _ ra
      clear ra
      go_wp2_with fail
      go_ret2
      exact ⟨by rw [hh.out.1, hh.out.2] <;> rfl, hl⟩
    · have hh := Lib.hid (show intN a = 0 ∧ decide (a < 2 ^ 63) = false from ⟨if_neg h63, decide_eq_false h63⟩)
      have s1 : (y : Int) / 9223372036854775808 = 1 := by omega
      clear hy hya h63 h64 hyl
      go_enter Try.func98, Try.ntmps98
      apply wp_seq_eq
      focus
        intro J hJ
        go_wp2_with fail
        exact hJ
      refine wp_abs (Mem w [(w.heap.size, 31, W4 a)]) ⟨by go_grown, ?_, trivial⟩ ?_
      · repeat (first | (refine Row.new_at ?_; simp; done) | refine Row.alloc ?_ _)
      intro w0 hM
      obtain ⟨hl, ra, -⟩ := hM
      go_upto_region 1 with (fail)
      let L : List Sp := []
      refine wp_region_six0 (shs L) (look6 L) (None_) (by kernel_rfl) (by kernel_rfl) (mk_St L [] [] (by kernel_rfl) (by kernel_rfl) trivial (by simp)) ?_
      intro QQ hQ
      -- 0: load<31> *t1
      refine stepK rfl (by kernel_rfl) (fun K hK => ?_); go_simp
      apply Exists.intro; apply And.intro; (focus exact kLoad rfl rfl aggT31 ra rfl id); refine hK _ _ ?_; clear hK K
      -- 1: indexAddr<31> t1[0]
      refine stepK rfl (by kernel_rfl) (fun K hK => ?_); go_simp
      apply Exists.intro; apply And.intro; (focus (intro wk hk; go_simp; exact ⟨rfl, rfl⟩)); refine hK _ _ ?_; clear hK K
      -- 2: load<29> *t5
      refine stepK rfl (by kernel_rfl) (fun K hK => ?_); go_simp
      apply Exists.intro; apply And.intro; (focus (intro wk hk; have cc := hc.out _ _ (K6.Row.tr ra hk id); go_simp; exact ⟨rfl, rfl⟩)); refine hK _ _ ?_; clear hK K
      -- 3: build<31> 0:t6
      refine stepK rfl (by kernel_rfl) (fun K hK => ?_); go_simp
      apply Exists.intro; apply And.intro; (focus (intro wk hk; go_simp; exact ⟨rfl, rfl⟩)); refine hK _ _ ?_; clear hK K
      -- 4: neq<31> t4, t7
      refine stepK rfl (by kernel_rfl) (fun K hK => ?_); go_simp
      apply Exists.intro; apply And.intro; (focus (intro wk hk; go_simp; exact ⟨rfl, rfl⟩)); refine hK _ _ ?_; clear hK K
      -- 5: t8
      refine stepK rfl (by kernel_rfl) (fun K hK => ?_); go_simp
      apply Exists.intro; apply And.intro; (focus (intro wk hk; go_simp; exact ⟨rfl, rfl⟩)); refine hK _ _ ?_; clear hK K
      -- 6: indexAddr<31> t1[0]
      refine stepK rfl (by kernel_rfl) (fun K hK => ?_); go_simp
      first | (refine hK _ _ ?_; clear hK K) | (apply Exists.intro; apply And.intro; (focus (intro wk hk; go_simp; exact ⟨rfl, rfl⟩)); refine hK _ _ ?_; clear hK K)
      -- 7: load<29> *t10
      refine stepK rfl (by kernel_rfl) (fun K hK => ?_); go_simp
      first | (refine hK _ _ ?_; clear hK K) | (apply Exists.intro; apply And.intro; (focus (intro wk hk; have cc := hc.out _ _ (K6.Row.tr ra hk id); go_simp; exact ⟨rfl, rfl⟩)); refine hK _ _ ?_; clear hK K)
      -- 8: shr<29> t11, 63u <136>
      refine stepK rfl (by kernel_rfl) (fun K hK => ?_); go_simp
      first | (refine hK _ _ ?_; clear hK K) | (apply Exists.intro; apply And.intro; (focus (intro wk hk; go_simp; exact ⟨rfl, rfl⟩)); refine hK _ _ ?_; clear hK K)
      -- 9: neq<29> t12, 0u
      refine stepK rfl (by kernel_rfl) (fun K hK => ?_); go_simp
      first | (refine hK _ _ ?_; clear hK K) | (apply Exists.intro; apply And.intro; (focus (intro wk hk; go_simp; exact ⟨rfl, rfl⟩)); refine hK _ _ ?_; clear hK K)
      -- 10: pick t9 ? true : t13
      refine stepK rfl (by kernel_rfl) (fun K hK => ?_); go_simp
      apply Exists.intro; apply And.intro; (focus (intro wk hk; go_simp; exact ⟨rfl, rfl⟩)); refine hK _ _ ?_; clear hK K
      refine stepN ?_
      refine hQ _ _ ?_
      intro w1 hT hG hF
      have hbw1 := hT.below
      replace ra := ra.below hbw1 ra.lt
      replace hl := hl.trans (hbw1.mono hl.size)
      clear hT hG hF hbw1 hQ QQ L 
      have cc := hc.out _ _ ra
      clear ra
      go_wp2_with fail
      go_ret2
      exact ⟨by rw [hh.out.1, hh.out.2] <;> rfl, hl⟩
  · rw [decide_eq_false h64] at qf
    have hh := Lib.hid (show intN a = 0 ∧ decide (a < 2 ^ 63) = false from ⟨if_neg (by omega), decide_eq_false (by omega)⟩)
    clear hy h64 hyl
    go_enter Try.func98, Try.ntmps98
    apply wp_seq_eq
    focus
      intro J hJ
      go_wp2_with fail
      exact hJ
    refine wp_abs (Mem w [(w.heap.size, 31, W4 a)]) ⟨by go_grown, ?_, trivial⟩ ?_
    · repeat (first | (refine Row.new_at ?_; simp; done) | refine Row.alloc ?_ _)
    intro w0 hM
    obtain ⟨hl, ra, -⟩ := hM
    go_upto_region 1 with (fail)
    let L : List Sp := []
    refine wp_region_six0 (shs L) (look6 L) (None_) (by kernel_rfl) (by kernel_rfl) (mk_St L [] [] (by kernel_rfl) (by kernel_rfl) trivial (by simp)) ?_
    intro QQ hQ
    -- 0: load<31> *t1
    refine stepK rfl (by kernel_rfl) (fun K hK => ?_); go_simp
    apply Exists.intro; apply And.intro; (focus exact kLoad rfl rfl aggT31 ra rfl id); refine hK _ _ ?_; clear hK K
    -- 1: indexAddr<31> t1[0]
    refine stepK rfl (by kernel_rfl) (fun K hK => ?_); go_simp
    apply Exists.intro; apply And.intro; (focus (intro wk hk; go_simp; exact ⟨rfl, rfl⟩)); refine hK _ _ ?_; clear hK K
    -- 2: load<29> *t5
    refine stepK rfl (by kernel_rfl) (fun K hK => ?_); go_simp
    apply Exists.intro; apply And.intro; (focus (intro wk hk; have cc := hc.out _ _ (K6.Row.tr ra hk id); go_simp; exact ⟨rfl, rfl⟩)); refine hK _ _ ?_; clear hK K
    -- 3: build<31> 0:t6
    refine stepK rfl (by kernel_rfl) (fun K hK => ?_); go_simp
    apply Exists.intro; apply And.intro; (focus (intro wk hk; go_simp; exact ⟨rfl, rfl⟩)); refine hK _ _ ?_; clear hK K
    -- 4: neq<31> t4, t7
    refine stepK rfl (by kernel_rfl) (fun K hK => ?_); go_simp
    apply Exists.intro; apply And.intro; (focus (intro wk hk; go_simp; exact ⟨rfl, rfl⟩)); refine hK _ _ ?_; clear hK K
    -- 5: t8
    refine stepK rfl (by kernel_rfl) (fun K hK => ?_); go_simp
    apply Exists.intro; apply And.intro; (focus (intro wk hk; go_simp; exact ⟨rfl, rfl⟩)); refine hK _ _ ?_; clear hK K
    -- 6: indexAddr<31> t1[0]
    refine stepK rfl (by kernel_rfl) (fun K hK => ?_); go_simp
    first | (refine hK _ _ ?_; clear hK K) | (apply Exists.intro; apply And.intro; (focus (intro wk hk; go_simp; exact ⟨rfl, rfl⟩)); refine hK _ _ ?_; clear hK K)
    -- 7: load<29> *t10
    refine stepK rfl (by kernel_rfl) (fun K hK => ?_); go_simp
    first | (refine hK _ _ ?_; clear hK K) | (apply Exists.intro; apply And.intro; (focus (intro wk hk; have cc := hc.out _ _ (K6.Row.tr ra hk id); go_simp; exact ⟨rfl, rfl⟩)); refine hK _ _ ?_; clear hK K)
    -- 8: shr<29> t11, 63u <136>
    refine stepK rfl (by kernel_rfl) (fun K hK => ?_); go_simp
    first | (refine hK _ _ ?_; clear hK K) | (apply Exists.intro; apply And.intro; (focus (intro wk hk; go_simp; exact ⟨rfl, rfl⟩)); refine hK _ _ ?_; clear hK K)
    -- 9: neq<29> t12, 0u
    refine stepK rfl (by kernel_rfl) (fun K hK => ?_); go_simp
    first | (refine hK _ _ ?_; clear hK K) | (apply Exists.intro; apply And.intro; (focus (intro wk hk; go_simp; exact ⟨rfl, rfl⟩)); refine hK _ _ ?_; clear hK K)
    -- 10: pick t9 ? true : t13
    refine stepK rfl (by kernel_rfl) (fun K hK => ?_); go_simp
    apply Exists.intro; apply And.intro; (focus (intro wk hk; go_simp; exact ⟨rfl, rfl⟩)); refine hK _ _ ?_; clear hK K
    refine stepN ?_
    refine hQ _ _ ?_
    intro w1 hT hG hF
    have hbw1 := hT.below
    replace ra := ra.below hbw1 ra.lt
    replace hl := hl.trans (hbw1.mono hl.size)
    clear hT hG hF hbw1 hQ QQ L 
    have cc := hc.out _ _ ra
    clear ra
    go_wp2_with fail
    go_ret2
    exact ⟨by rw [hh.out.1, hh.out.2] <;> rfl, hl⟩
end Go.Proofs.Ytpdenhmkpiafiaa
