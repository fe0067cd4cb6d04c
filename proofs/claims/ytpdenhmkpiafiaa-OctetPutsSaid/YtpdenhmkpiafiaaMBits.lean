/-
  muldiv.Wide.bits: how many bits a product has.
-/
import Derived.Test.YtpdenhmkpiafiaaMBit
namespace Go.Proofs.Ytpdenhmkpiafiaa
open Go Go.RowKit K6

theorem W8_hi (h l : Nat) : ∀ (j : Nat) (v : Value), (W4 h)[j]? = some v → (W8 h l)[0 + j]? = some v := fun j v hv => by
  have hj : j < (W4 h).size := (Array.getElem?_eq_some_iff.1 hv).1
  unfold W8
  rw [Nat.zero_add, Array.getElem?_append_left hj]; exact hv
theorem W8_lo (h l : Nat) : ∀ (j : Nat) (v : Value), (W4 l)[j]? = some v → (W8 h l)[4 + j]? = some v := fun j v hv => by
  unfold W8
  rw [Array.getElem?_append_right (by rw [W4_size]; omega), W4_size, Nat.add_sub_cancel_left]; exact hv
theorem ret_i {k : IntKind} {a b : Int} (h : a = b) : Ending.returned (.int k a) = .returned (.int k b) := by rw [h]
theorem W8_zero : #[Value.int .u64 0, .int .u64 0, .int .u64 0, .int .u64 0, .int .u64 0, .int .u64 0, .int .u64 0, .int .u64 0] = W8 0 0 := W8_eq isW_zero isW_zero
theorem wide_hi {h l : Nat} (hl : l < M) : (h * M + l) / M = h := by
  rw [Nat.mul_comm, Nat.mul_add_div M_pos, Nat.div_eq_of_lt hl, Nat.add_zero]
theorem blen_wide {h l : Nat} (hl : l < M) (h0 : h ≠ 0) : blen (h * M + l) = 256 + blen h := by
  have e : (h * M + l) / 2 ^ 256 = h := by rw [← M_eq]; exact wide_hi hl
  have := blen_shift (n := h * M + l) (s := 256) (by rw [e]; exact h0)
  rw [this, e]
theorem blen_leM {n : Nat} (h : n < M) : blen n ≤ 256 := by
  unfold blen
  split
  · omega
  · rename_i h0
    have := (Nat.log2_lt h0).2 (by rw [← M_eq]; exact h)
    omega

set_option maxRecDepth 100000 in
set_option maxHeartbeats 4000000 in
theorem mbits_any {h l : Nat} (hh : h < M) (hlM : l < M) (w : World) : Calls Try.prog 194 #[.agg (W8 h l)] w (Ret w (.int .i64 (blen (h * M + l)))) := by
  have bh := blen_leM hh
  have bi : ((blen h : Nat) : Int) ≤ 256 := by omega
  have wi : IntKind.i64.wrap (256 + ((blen h : Nat) : Int)) = 256 + ((blen h : Nat) : Int) := IntWalk.i64_in _ (by omega)
  by_cases h0 : h = 0
  · have Q0 : ∀ wx, (Op.equalIn 10000 31 (.agg (W4 h)) (.agg #[.int .u64 0, .int .u64 0, .int .u64 0, .int .u64 0])).run Try.prog wx = .ok true wx := fun wx => by rw [eqU0 hh, decide_eq_true h0]
    have e : h * M + l = l := by rw [h0]; simp
    rw [e]
    by_cases l0 : l = 0
    · have Q : ∀ wx, (Op.equalIn 10000 92 (.agg (W8 h l)) (.agg #[.int .u64 0, .int .u64 0, .int .u64 0, .int .u64 0, .int .u64 0, .int .u64 0, .int .u64 0, .int .u64 0])).run Try.prog wx = .ok true wx := fun wx => by rw [W8_zero, eq92 hh hlM M_pos M_pos, decide_eq_true h0, decide_eq_true l0]; rfl
      have fin := Lib.hid (show blen l = 0 by rw [l0]; rfl)
      clear h0 l0 e Q0
      go_enter Try.func194, Try.ntmps194
      apply wp_seq_eq
      focus
        intro J hJ
        go_wp2_with fail
        exact hJ
      refine wp_abs (Mem w [(w.heap.size, 92, W8 h l)]) ⟨by go_grown, Row.new_at rfl, trivial⟩ ?_
      intro w0 hM
      obtain ⟨hl, rw8, -⟩ := hM
      go_step
      go_step
      let L : List Sp := []
      refine wp_region_six0 (shs L) (look6 L) (None_) (by kernel_rfl) (by kernel_rfl) (mk_St L [] [] (by kernel_rfl) (by kernel_rfl) trivial (by simp)) ?_
      intro QQ hQ
      -- 0: load<92> *t1
      refine stepK rfl (by kernel_rfl) (fun K hK => ?_); go_simp
      apply Exists.intro; apply And.intro; (focus exact kLoad rfl rfl aggT92 rw8 rfl id); refine hK _ _ ?_; clear hK K
      -- 1: build<92> 
      refine stepK rfl (by kernel_rfl) (fun K hK => ?_); go_simp
      apply Exists.intro; apply And.intro; (focus (intro wk hk; go_simp; exact ⟨rfl, rfl⟩)); refine hK _ _ ?_; clear hK K
      -- 2: eql<92> t3, t4
      refine stepK rfl (by kernel_rfl) (fun K hK => ?_); go_simp
      apply Exists.intro; apply And.intro; (focus (intro wk hk; go_simp; exact ⟨rfl, rfl⟩)); refine hK _ _ ?_; clear hK K
      refine stepN ?_
      refine hQ _ _ ?_
      intro w1 hT hG hF
      have hbw1 := hT.below
      replace rw8 := rw8.below hbw1 rw8.lt
      replace hl := hl.trans (hbw1.mono hl.size)
      clear hT hG hF hbw1 hQ QQ L 
      go_wp2_with fail
      go_ret
      exact ⟨by rw [fin.out]; rfl, hl⟩
    · have Q : ∀ wx, (Op.equalIn 10000 92 (.agg (W8 h l)) (.agg #[.int .u64 0, .int .u64 0, .int .u64 0, .int .u64 0, .int .u64 0, .int .u64 0, .int .u64 0, .int .u64 0])).run Try.prog wx = .ok false wx := fun wx => by rw [W8_zero, eq92 hh hlM M_pos M_pos, decide_eq_true h0, decide_eq_false l0]; rfl
      clear h0 l0 e
      go_enter Try.func194, Try.ntmps194
      apply wp_seq_eq
      focus
        intro J hJ
        go_wp2_with fail
        exact hJ
      refine wp_abs (Mem w [(w.heap.size, 92, W8 h l)]) ⟨by go_grown, Row.new_at rfl, trivial⟩ ?_
      intro w0 hM
      obtain ⟨hl, rw8, -⟩ := hM
      go_step
      go_step
      let L : List Sp := []
      refine wp_region_six0 (shs L) (look6 L) (None_) (by kernel_rfl) (by kernel_rfl) (mk_St L [] [] (by kernel_rfl) (by kernel_rfl) trivial (by simp)) ?_
      intro QQ hQ
      -- 0: load<92> *t1
      refine stepK rfl (by kernel_rfl) (fun K hK => ?_); go_simp
      apply Exists.intro; apply And.intro; (focus exact kLoad rfl rfl aggT92 rw8 rfl id); refine hK _ _ ?_; clear hK K
      -- 1: build<92> 
      refine stepK rfl (by kernel_rfl) (fun K hK => ?_); go_simp
      apply Exists.intro; apply And.intro; (focus (intro wk hk; go_simp; exact ⟨rfl, rfl⟩)); refine hK _ _ ?_; clear hK K
      -- 2: eql<92> t3, t4
      refine stepK rfl (by kernel_rfl) (fun K hK => ?_); go_simp
      apply Exists.intro; apply And.intro; (focus (intro wk hk; go_simp; exact ⟨rfl, rfl⟩)); refine hK _ _ ?_; clear hK K
      refine stepN ?_
      refine hQ _ _ ?_
      intro w1 hT hG hF
      have hbw1 := hT.below
      replace rw8 := rw8.below hbw1 rw8.lt
      replace hl := hl.trans (hbw1.mono hl.size)
      clear hT hG hF hbw1 hQ QQ L 
      go_upto_region 3 with (fail)
      let L : List Sp := []
      refine wp_region_six0 (shs L) (look6 L) (None_) (by kernel_rfl) (by kernel_rfl) (mk_St L [] [] (by kernel_rfl) (by kernel_rfl) trivial (by simp)) ?_
      intro QQ hQ
      -- 0: fieldAddr<92> t1.0
      refine stepK rfl (by kernel_rfl) (fun K hK => ?_); go_simp
      apply Exists.intro; apply And.intro; (focus (intro wk hk; go_simp; exact ⟨rfl, rfl⟩)); refine hK _ _ ?_; clear hK K
      -- 1: load<31> *t6
      refine stepK rfl (by kernel_rfl) (fun K hK => ?_); go_simp
      apply Exists.intro; apply And.intro; (focus exact kLoadMid rfl rfl aggT31 rw8 (W8_hi h l) rfl id); refine hK _ _ ?_; clear hK K
      -- 2: build<31> 
      refine stepK rfl (by kernel_rfl) (fun K hK => ?_); go_simp
      apply Exists.intro; apply And.intro; (focus (intro wk hk; go_simp; exact ⟨rfl, rfl⟩)); refine hK _ _ ?_; clear hK K
      -- 3: neq<31> t7, t8
      refine stepK rfl (by kernel_rfl) (fun K hK => ?_); go_simp
      apply Exists.intro; apply And.intro; (focus (intro wk hk; go_simp; exact ⟨rfl, rfl⟩)); refine hK _ _ ?_; clear hK K
      refine stepN ?_
      refine hQ _ _ ?_
      intro w2 hT hG hF
      have hbw2 := hT.below
      replace rw8 := rw8.below hbw2 rw8.lt
      replace hl := hl.trans (hbw2.mono hl.size)
      clear hT hG hF hbw2 hQ QQ L 
      go_upto_region 5 with (fail)
      let L : List Sp := [sV 2 [] [] (fun u => u = .int .i64 (blen l))]
      refine wp_region_six0 (shs L) (look6 L) (None_) (by kernel_rfl) (by kernel_rfl) (mk_St L [] [] (by kernel_rfl) (by kernel_rfl) ⟨ok_V ⟨_, rfl⟩, trivial⟩ (by simp)) ?_
      intro QQ hQ
      -- 0: fieldAddr<92> t1.1
      refine stepK rfl (by kernel_rfl) (fun K hK => ?_); go_simp
      apply Exists.intro; apply And.intro; (focus (intro wk hk; go_simp; exact ⟨rfl, rfl⟩)); refine hK _ _ ?_; clear hK K
      -- 1: load<31> *t14
      refine stepK rfl (by kernel_rfl) (fun K hK => ?_); go_simp
      apply Exists.intro; apply And.intro; (focus exact kLoadMid rfl rfl aggT31 rw8 (W8_lo h l) rfl id); refine hK _ _ ?_; clear hK K
      -- 2: call F49(t15)
      refine stepS _ rfl (by kernel_rfl) (fun K hK => ?_); go_simp
      refine ⟨?_, ?_⟩
      · intro wk hk hg hu; go_simp; refine upon_enter ((bitsU hlM _).mono ?_); rintro e w' ⟨rfl, hb⟩; exact ⟨_, rfl, left_V (p := fun u => u = .int .i64 (blen l)) rfl (hb) rfl⟩
      rintro ⟨v2, lo2, hi2⟩ - - (rfl : v2 = _)
      refine hK _ _ ?_; clear hK K
      -- 3: assign t16
      refine stepK rfl (by kernel_rfl) (fun K hK => ?_); go_simp
      apply Exists.intro; apply And.intro; (focus (intro wk hk; go_simp; exact ⟨rfl, rfl⟩)); refine hK _ _ ?_; clear hK K
      refine stepN ?_
      refine hQ _ _ ?_
      intro w3 hT hG hF
      have hbw3 := hT.below
      replace rw8 := rw8.below hbw3 rw8.lt
      replace hl := hl.trans (hbw3.mono hl.size)
      clear hT hG hF hbw3 hQ QQ L 
      go_wp2_with fail
      go_ret
      exact ⟨rfl, hl⟩
  · have Q0 : ∀ wx, (Op.equalIn 10000 31 (.agg (W4 h)) (.agg #[.int .u64 0, .int .u64 0, .int .u64 0, .int .u64 0])).run Try.prog wx = .ok false wx := fun wx => by rw [eqU0 hh, decide_eq_false h0]
    have Q : ∀ wx, (Op.equalIn 10000 92 (.agg (W8 h l)) (.agg #[.int .u64 0, .int .u64 0, .int .u64 0, .int .u64 0, .int .u64 0, .int .u64 0, .int .u64 0, .int .u64 0])).run Try.prog wx = .ok false wx := fun wx => by rw [W8_zero, eq92 hh hlM M_pos M_pos, decide_eq_false h0]; rfl
    have fin := Lib.hid (blen_wide hlM h0)
    clear h0
    go_enter Try.func194, Try.ntmps194
    apply wp_seq_eq
    focus
      intro J hJ
      go_wp2_with fail
      exact hJ
    refine wp_abs (Mem w [(w.heap.size, 92, W8 h l)]) ⟨by go_grown, Row.new_at rfl, trivial⟩ ?_
    intro w0 hM
    obtain ⟨hl, rw8, -⟩ := hM
    go_step
    go_step
    let L : List Sp := []
    refine wp_region_six0 (shs L) (look6 L) (None_) (by kernel_rfl) (by kernel_rfl) (mk_St L [] [] (by kernel_rfl) (by kernel_rfl) trivial (by simp)) ?_
    intro QQ hQ
    -- 0: load<92> *t1
    refine stepK rfl (by kernel_rfl) (fun K hK => ?_); go_simp
    apply Exists.intro; apply And.intro; (focus exact kLoad rfl rfl aggT92 rw8 rfl id); refine hK _ _ ?_; clear hK K
    -- 1: build<92> 
    refine stepK rfl (by kernel_rfl) (fun K hK => ?_); go_simp
    apply Exists.intro; apply And.intro; (focus (intro wk hk; go_simp; exact ⟨rfl, rfl⟩)); refine hK _ _ ?_; clear hK K
    -- 2: eql<92> t3, t4
    refine stepK rfl (by kernel_rfl) (fun K hK => ?_); go_simp
    apply Exists.intro; apply And.intro; (focus (intro wk hk; go_simp; exact ⟨rfl, rfl⟩)); refine hK _ _ ?_; clear hK K
    refine stepN ?_
    refine hQ _ _ ?_
    intro w1 hT hG hF
    have hbw1 := hT.below
    replace rw8 := rw8.below hbw1 rw8.lt
    replace hl := hl.trans (hbw1.mono hl.size)
    clear hT hG hF hbw1 hQ QQ L 
    go_upto_region 3 with (fail)
    let L : List Sp := []
    refine wp_region_six0 (shs L) (look6 L) (None_) (by kernel_rfl) (by kernel_rfl) (mk_St L [] [] (by kernel_rfl) (by kernel_rfl) trivial (by simp)) ?_
    intro QQ hQ
    -- 0: fieldAddr<92> t1.0
    refine stepK rfl (by kernel_rfl) (fun K hK => ?_); go_simp
    apply Exists.intro; apply And.intro; (focus (intro wk hk; go_simp; exact ⟨rfl, rfl⟩)); refine hK _ _ ?_; clear hK K
    -- 1: load<31> *t6
    refine stepK rfl (by kernel_rfl) (fun K hK => ?_); go_simp
    apply Exists.intro; apply And.intro; (focus exact kLoadMid rfl rfl aggT31 rw8 (W8_hi h l) rfl id); refine hK _ _ ?_; clear hK K
    -- 2: build<31> 
    refine stepK rfl (by kernel_rfl) (fun K hK => ?_); go_simp
    apply Exists.intro; apply And.intro; (focus (intro wk hk; go_simp; exact ⟨rfl, rfl⟩)); refine hK _ _ ?_; clear hK K
    -- 3: neq<31> t7, t8
    refine stepK rfl (by kernel_rfl) (fun K hK => ?_); go_simp
    apply Exists.intro; apply And.intro; (focus (intro wk hk; go_simp; exact ⟨rfl, rfl⟩)); refine hK _ _ ?_; clear hK K
    refine stepN ?_
    refine hQ _ _ ?_
    intro w2 hT hG hF
    have hbw2 := hT.below
    replace rw8 := rw8.below hbw2 rw8.lt
    replace hl := hl.trans (hbw2.mono hl.size)
    clear hT hG hF hbw2 hQ QQ L 
    go_upto_region 4 with (fail)
    let L : List Sp := [sV 2 [] [] (fun u => u = .int .i64 (blen h))]
    refine wp_region_six0 (shs L) (look6 L) (None_) (by kernel_rfl) (by kernel_rfl) (mk_St L [] [] (by kernel_rfl) (by kernel_rfl) ⟨ok_V ⟨_, rfl⟩, trivial⟩ (by simp)) ?_
    intro QQ hQ
    -- 0: fieldAddr<92> t1.0
    refine stepK rfl (by kernel_rfl) (fun K hK => ?_); go_simp
    apply Exists.intro; apply And.intro; (focus (intro wk hk; go_simp; exact ⟨rfl, rfl⟩)); refine hK _ _ ?_; clear hK K
    -- 1: load<31> *t10
    refine stepK rfl (by kernel_rfl) (fun K hK => ?_); go_simp
    apply Exists.intro; apply And.intro; (focus exact kLoadMid rfl rfl aggT31 rw8 (W8_hi h l) rfl id); refine hK _ _ ?_; clear hK K
    -- 2: call F49(t11)
    refine stepS _ rfl (by kernel_rfl) (fun K hK => ?_); go_simp
    refine ⟨?_, ?_⟩
    · intro wk hk hg hu; go_simp; refine upon_enter ((bitsU hh _).mono ?_); rintro e w' ⟨rfl, hb⟩; exact ⟨_, rfl, left_V (p := fun u => u = .int .i64 (blen h)) rfl (hb) rfl⟩
    rintro ⟨v2, lo2, hi2⟩ - - (rfl : v2 = _)
    refine hK _ _ ?_; clear hK K
    -- 3: add<3> 256, t12
    refine stepK rfl (by kernel_rfl) (fun K hK => ?_); go_simp
    apply Exists.intro; apply And.intro; (focus (intro wk hk; go_simp; exact ⟨rfl, rfl⟩)); refine hK _ _ ?_; clear hK K
    -- 4: assign t13
    refine stepK rfl (by kernel_rfl) (fun K hK => ?_); go_simp
    apply Exists.intro; apply And.intro; (focus (intro wk hk; go_simp; exact ⟨rfl, rfl⟩)); refine hK _ _ ?_; clear hK K
    refine stepN ?_
    refine hQ _ _ ?_
    intro w3 hT hG hF
    have hbw3 := hT.below
    replace rw8 := rw8.below hbw3 rw8.lt
    replace hl := hl.trans (hbw3.mono hl.size)
    clear hT hG hF hbw3 hQ QQ L 
    go_wp2_with fail
    go_ret
    exact ⟨ret_i (by rw [fin.out, Int.natCast_add]; rfl), hl⟩
end Go.Proofs.Ytpdenhmkpiafiaa
