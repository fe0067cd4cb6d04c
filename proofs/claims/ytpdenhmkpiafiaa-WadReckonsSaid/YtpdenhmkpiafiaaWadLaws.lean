/-
  tallagelaw03.WadScales, WadSteps, THE WALKS.
-/
import Derived.Test.YtpdenhmkpiafiaaLives3
namespace Go.Proofs.Ytpdenhmkpiafiaa
open Go Go.RowKit K6

theorem cmpN_le {a b : Nat} (h : a ≤ b) : cmpN a b ≤ 0 := by unfold cmpN; split <;> (try split) <;> omega
theorem cmpN_gt {a b : Nat} (h : b < a) : 0 < cmpN a b := by unfold cmpN; rw [if_neg (by omega), if_pos h]; omega
theorem quo_pos {n d : Nat} (hd : d ≠ 0) (h : n / d < M) : quoN n d = n / d ∧ quoB n d = true := ⟨if_pos ⟨hd, h⟩, decide_eq_true ⟨hd, h⟩⟩
theorem rem_pos {n d : Nat} (hd : d ≠ 0) (h : n / d < M) : remN n d = n % d := if_pos ⟨hd, h⟩
/-- rounded up, where it is a number -/
theorem up_pos {n d : Nat} (hd : d ≠ 0) (h : n / d + 1 < M) : upN n d = (if n % d = 0 then n / d else n / d + 1) ∧ upB n d = true := by
  have h1 := rem_pos (n := n) hd (by omega)
  have h2 := quo_pos (n := n) hd (by omega)
  unfold upN upB
  rw [h1, h2.1, h2.2]
  split
  · exact ⟨rfl, rfl⟩
  · unfold addN addB; exact ⟨if_pos h, decide_eq_true h⟩
theorem up_pos' {n d a : Nat} (hd : d ≠ 0) (h : n ≤ a * d) (ha : a < M) : (upN n d = if n % d = 0 then n / d else n / d + 1) ∧ upB n d = true ∧ upN n d ≤ a ∧ n / d ≤ upN n d := by
  have hq : n / d ≤ a := Nat.div_le_of_le_mul (by rw [Nat.mul_comm]; exact h)
  have h1 := rem_pos (n := n) hd (by omega)
  have h2 := quo_pos (n := n) hd (by omega)
  by_cases hr : n % d = 0
  · unfold upN upB
    rw [h1, h2.1, h2.2, if_pos hr, if_pos hr, if_pos hr]
    exact ⟨rfl, rfl, hq, Nat.le_refl _⟩
  · have hlt : n / d < a := by
      rcases Nat.lt_or_ge (n / d) a with h3 | h3
      · exact h3
      · exfalso
        have h4 := Nat.div_add_mod n d
        have h5 : d * a ≤ d * (n / d) := Nat.mul_le_mul_left d h3
        rw [Nat.mul_comm d a] at h5
        omega
    have := up_pos (n := n) hd (by omega)
    rw [this.1, this.2, if_neg hr]
    exact ⟨rfl, rfl, hlt, by omega⟩
theorem scale_le {a t f : Nat} (ha : a < M) (hf : f ≠ 0) (htf : t ≤ f) : quoN (a * t) f ≤ a ∧ scB a t f = true ∧ upN (a * t) f ≤ a ∧ scUB a t f = true ∧ quoN (a * t) f ≤ upN (a * t) f ∧ quoN (a * f) f = a ∧ scB a f f = true := by
  have hm : a * t ≤ a * f := Nat.mul_le_mul_left a htf
  have hq : a * t / f ≤ a := Nat.div_le_of_le_mul (by rw [Nat.mul_comm f a]; exact hm)
  have h2 := quo_pos (n := a * t) hf (by omega)
  have h3 := up_pos' hf hm ha
  have e : a * f / f = a := Nat.mul_div_cancel _ (Nat.pos_of_ne_zero hf)
  have h4 := quo_pos (n := a * f) hf (by omega)
  unfold scB scUB
  rw [if_neg hf, if_neg hf, if_neg hf, h2.1, h2.2, h3.2.1, h4.1, h4.2, e]
  exact ⟨hq, rfl, h3.2.2.1, rfl, h3.2.2.2, rfl, rfl⟩
theorem part_le {a b f : Nat} (hb : b < M) (hab : a ≤ b) (hf : f ≤ E18) : quoB (a * f) E18 = true ∧ quoB (b * f) E18 = true ∧ quoN (a * f) E18 ≤ quoN (b * f) E18 ∧ quoN (b * f) E18 ≤ b ∧ quoN (b * E18) E18 = b ∧ quoB (b * E18) E18 = true := by
  have h0 : E18 ≠ 0 := by unfold E18; omega
  have hp : 0 < E18 := Nat.pos_of_ne_zero h0
  have h1 : a * f / E18 ≤ b * f / E18 := Nat.div_le_div_right (Nat.mul_le_mul_right f hab)
  have h2 : b * f / E18 ≤ b := Nat.div_le_of_le_mul (by rw [Nat.mul_comm E18 b]; exact Nat.mul_le_mul_left b hf)
  have e : b * E18 / E18 = b := Nat.mul_div_cancel _ hp
  have h3 := quo_pos (n := a * f) h0 (by omega)
  have h4 := quo_pos (n := b * f) h0 (by omega)
  have h5 := quo_pos (n := b * E18) h0 (by omega)
  rw [h3.1, h3.2, h4.1, h4.2, h5.1, h5.2, e]
  exact ⟨rfl, rfl, h1, h2, rfl, rfl⟩
set_option maxRecDepth 100000 in
set_option maxHeartbeats 16000000 in
theorem wadscales_walk (a t f : Nat) (ha : a < M) (ht : t < M) (hf : f < M) (w : World) : Calls Try.prog 20 #[.agg (W4 a), .agg (W4 t), .agg (W4 f)] w (Ret w (.bool true)) := by
  obtain ⟨c, hc⟩ : ∃ c, c = cmpN t f := ⟨_, rfl⟩
  by_cases htf : t ≤ f
  · have hc0 : c ≤ 0 := hc ▸ cmpN_le htf
    by_cases f0 : f = 0
    · clear htf
      have k0 := Lib.hid (show ∀ wx, Calls Try.prog 57 #[.agg (W4 t), .agg (W4 f)] wx (Ret wx (.int .i64 c)) from fun wx => by have h := refcmpU ht hf wx; rw [← hc] at h; exact h)
      have k1 := Lib.hid (show ∀ wx, Calls Try.prog 106 #[] wx (Ret wx (.bool true)) from fun wx => by have h := lives3U  wx; exact h)
      have q0 : ∀ wx, (Op.equalIn 10000 31 (.agg (W4 f)) (.agg #[.int .u64 0, .int .u64 0, .int .u64 0, .int .u64 0])).run Try.prog wx = .ok true wx := fun wx => by rw [eqU0 hf, decide_eq_true f0]
      clear hc f0
      go_enter Try.func20, Try.ntmps20
      apply wp_seq_eq
      focus
        intro J hJ
        go_wp2_with fail
        exact hJ
      refine wp_abs (Mem w [(w.heap.size, 31, W4 a), (w.heap.size + 1, 31, W4 t), (w.heap.size + 1 + 1, 31, W4 f)]) ⟨by go_grown, ?_, ?_, ?_, trivial⟩ ?_
      · repeat (first | (refine Row.new_at ?_; simp; done) | refine Row.alloc ?_ _)
      · repeat (first | (refine Row.new_at ?_; simp; done) | refine Row.alloc ?_ _)
      · repeat (first | (refine Row.new_at ?_; simp; done) | refine Row.alloc ?_ _)
      intro w0 hM
      obtain ⟨hl, r0, r1, r2, -⟩ := hM
      go_upto_region 1 with (fail)
      let L : List Sp := [sV 2 [] [] (fun u => u = .int .i64 c)]
      refine wp_region_six0 (shs L) (look6 L) (None_) (by kernel_rfl) (by kernel_rfl) (mk_St L [] [] (by kernel_rfl) (by kernel_rfl) ⟨ok_V ⟨_, rfl⟩, trivial⟩ (by simp)) ?_
      intro QQ hQ
      -- 0: load<31> *t4
      refine stepK rfl (by kernel_rfl) (fun K hK => ?_); go_simp
      apply Exists.intro; apply And.intro; (focus exact kLoad rfl rfl aggT31 r1 rfl id); refine hK _ _ ?_; clear hK K
      -- 1: load<31> *t5
      refine stepK rfl (by kernel_rfl) (fun K hK => ?_); go_simp
      apply Exists.intro; apply And.intro; (focus exact kLoad rfl rfl aggT31 r2 rfl id); refine hK _ _ ?_; clear hK K
      -- 2: call F57(t13, t14)
      refine stepS _ rfl (by kernel_rfl) (fun K hK => ?_); go_simp
      refine ⟨?_, ?_⟩
      · intro wk hk hg hu; go_simp; refine upon_enter ((k0.out _).mono ?_); rintro e w' ⟨rfl, hb⟩; exact ⟨_, rfl, left_V (p := fun u => u = .int .i64 c) rfl (hb) rfl⟩
      rintro ⟨v2, lo2, hi2⟩ - - (rfl : v2 = _)
      refine hK _ _ ?_; clear hK K
      -- 3: gtr<3> t15, 0
      refine stepK rfl (by kernel_rfl) (fun K hK => ?_); go_simp
      apply Exists.intro; apply And.intro; (focus (intro wk hk; go_simp; exact ⟨rfl, rfl⟩)); refine hK _ _ ?_; clear hK K
      -- 4: t16
      refine stepK rfl (by kernel_rfl) (fun K hK => ?_); go_simp
      apply Exists.intro; apply And.intro; (focus (intro wk hk; go_simp; exact ⟨rfl, rfl⟩)); refine hK _ _ ?_; clear hK K
      -- 5: load<31> *t5
      refine stepK rfl (by kernel_rfl) (fun K hK => ?_); go_simp
      first | (refine hK _ _ ?_; clear hK K) | (apply Exists.intro; apply And.intro; (focus exact kLoad rfl rfl aggT31 r2 rfl id); refine hK _ _ ?_; clear hK K)
      -- 6: build<31> 
      refine stepK rfl (by kernel_rfl) (fun K hK => ?_); go_simp
      first | (refine hK _ _ ?_; clear hK K) | (apply Exists.intro; apply And.intro; (focus (intro wk hk; go_simp; exact ⟨rfl, rfl⟩)); refine hK _ _ ?_; clear hK K)
      -- 7: eql<31> t18, t19
      refine stepK rfl (by kernel_rfl) (fun K hK => ?_); go_simp
      first | (refine hK _ _ ?_; clear hK K) | (apply Exists.intro; apply And.intro; (focus (intro wk hk; go_simp; exact ⟨rfl, rfl⟩)); refine hK _ _ ?_; clear hK K)
      -- 8: pick t17 ? true : t20
      refine stepK rfl (by kernel_rfl) (fun K hK => ?_); go_simp
      apply Exists.intro; apply And.intro; (focus (intro wk hk; go_simp; exact ⟨rfl, rfl⟩)); refine hK _ _ ?_; clear hK K
      refine stepN ?_
      refine hQ _ _ ?_
      intro w1 hT hG hF
      have hbw1 := hT.below
      replace r0 := r0.below hbw1 r0.lt
      replace r1 := r1.below hbw1 r1.lt
      replace r2 := r2.below hbw1 r2.lt
      replace hl := hl.trans (hbw1.mono hl.size)
      clear hT hG hF hbw1 hQ QQ L 
      go_upto_region 2 with (fail)
      let L : List Sp := [sV 0 [] [] (fun u => u = .bool true)]
      refine wp_region_six0 (shs L) (look6 L) (None_) (by kernel_rfl) (by kernel_rfl) (mk_St L [] [] (by kernel_rfl) (by kernel_rfl) ⟨ok_V ⟨_, rfl⟩, trivial⟩ (by simp)) ?_
      intro QQ hQ
      -- 0: call F106()
      refine stepS _ rfl (by kernel_rfl) (fun K hK => ?_); go_simp
      refine ⟨?_, ?_⟩
      · intro wk hk hg hu; go_simp; refine upon_enter ((k1.out _).mono ?_); rintro e w' ⟨rfl, hb⟩; exact ⟨_, rfl, left_V (p := fun u => u = .bool true) rfl (hb) rfl⟩
      rintro ⟨v0, lo0, hi0⟩ - - (rfl : v0 = _)
      refine hK _ _ ?_; clear hK K
      -- 1: assign t22
      refine stepK rfl (by kernel_rfl) (fun K hK => ?_); go_simp
      apply Exists.intro; apply And.intro; (focus (intro wk hk; go_simp; exact ⟨rfl, rfl⟩)); refine hK _ _ ?_; clear hK K
      refine stepN ?_
      refine hQ _ _ ?_
      intro w2 hT hG hF
      have hbw2 := hT.below
      replace r0 := r0.below hbw2 r0.lt
      replace r1 := r1.below hbw2 r1.lt
      replace r2 := r2.below hbw2 r2.lt
      replace hl := hl.trans (hbw2.mono hl.size)
      clear hT hG hF hbw2 hQ QQ L 
      go_wp2_with fail
      go_ret
      exact ⟨rfl, hl⟩
    · have S := scale_le ha f0 htf
      clear htf
      obtain ⟨x, hx⟩ : ∃ x, x = quoN (a * t) f := ⟨_, rfl⟩
      obtain ⟨y, hy⟩ : ∃ y, y = upN (a * t) f := ⟨_, rfl⟩
      rw [← hx, ← hy] at S
      have xl : x < M := Nat.lt_of_le_of_lt S.1 ha
      have yl : y < M := Nat.lt_of_le_of_lt S.2.2.1 ha
      obtain ⟨c1, hc1⟩ : ∃ c, c = cmpN x a := ⟨_, rfl⟩
      obtain ⟨c2, hc2⟩ : ∃ c, c = cmpN y a := ⟨_, rfl⟩
      obtain ⟨c3, hc3⟩ : ∃ c, c = cmpN x y := ⟨_, rfl⟩
      have h1 : c1 ≤ 0 := hc1 ▸ cmpN_le S.1
      have h2 : c2 ≤ 0 := hc2 ▸ cmpN_le S.2.2.1
      have h3 : c3 ≤ 0 := hc3 ▸ cmpN_le S.2.2.2.2.1
      have k0 := Lib.hid (show ∀ wx, Calls Try.prog 57 #[.agg (W4 t), .agg (W4 f)] wx (Ret wx (.int .i64 c)) from fun wx => by have h := refcmpU ht hf wx; rw [← hc] at h; exact h)
      have k1 := Lib.hid (show ∀ wx, Calls Try.prog 110 #[.agg (W4 a), .agg (W4 t), .agg (W4 f)] wx (Ret wx (.tuple #[.agg (W4 x), .bool true])) from fun wx => by have h := scaleU ha ht hf wx; rw [← hx, S.2.1] at h; exact h)
      have k2 := Lib.hid (show ∀ wx, Calls Try.prog 111 #[.agg (W4 a), .agg (W4 t), .agg (W4 f)] wx (Ret wx (.tuple #[.agg (W4 y), .bool true])) from fun wx => by have h := scaleUpU ha ht hf wx; rw [← hy, S.2.2.2.1] at h; exact h)
      have k3 := Lib.hid (show ∀ wx, Calls Try.prog 110 #[.agg (W4 a), .agg (W4 f), .agg (W4 f)] wx (Ret wx (.tuple #[.agg (W4 a), .bool true])) from fun wx => by have h := scaleU ha hf hf wx; rw [S.2.2.2.2.2.1, S.2.2.2.2.2.2] at h; exact h)
      have k4 := Lib.hid (show ∀ wx, Calls Try.prog 57 #[.agg (W4 x), .agg (W4 a)] wx (Ret wx (.int .i64 c1)) from fun wx => by have h := refcmpU xl ha wx; rw [← hc1] at h; exact h)
      have k5 := Lib.hid (show ∀ wx, Calls Try.prog 57 #[.agg (W4 y), .agg (W4 a)] wx (Ret wx (.int .i64 c2)) from fun wx => by have h := refcmpU yl ha wx; rw [← hc2] at h; exact h)
      have k6 := Lib.hid (show ∀ wx, Calls Try.prog 57 #[.agg (W4 x), .agg (W4 y)] wx (Ret wx (.int .i64 c3)) from fun wx => by have h := refcmpU xl yl wx; rw [← hc3] at h; exact h)
      have k7 := Lib.hid (show ∀ wx, Calls Try.prog 106 #[] wx (Ret wx (.bool true)) from fun wx => by have h := lives3U  wx; exact h)
      have q0 : ∀ wx, (Op.equalIn 10000 31 (.agg (W4 f)) (.agg #[.int .u64 0, .int .u64 0, .int .u64 0, .int .u64 0])).run Try.prog wx = .ok false wx := fun wx => by rw [eqU0 hf, decide_eq_false f0]
      have q1 : ∀ wx, (Op.equalIn 10000 31 (.agg (W4 a)) (.agg (W4 a))).run Try.prog wx = .ok true wx := fun wx => by rw [eqU ha ha, decide_eq_true rfl]
      clear hc hc1 hc2 hc3 S f0 hx hy
      go_enter Try.func20, Try.ntmps20
      apply wp_seq_eq
      focus
        intro J hJ
        go_wp2_with fail
        exact hJ
      refine wp_abs (Mem w [(w.heap.size, 31, W4 a), (w.heap.size + 1, 31, W4 t), (w.heap.size + 1 + 1, 31, W4 f)]) ⟨by go_grown, ?_, ?_, ?_, trivial⟩ ?_
      · repeat (first | (refine Row.new_at ?_; simp; done) | refine Row.alloc ?_ _)
      · repeat (first | (refine Row.new_at ?_; simp; done) | refine Row.alloc ?_ _)
      · repeat (first | (refine Row.new_at ?_; simp; done) | refine Row.alloc ?_ _)
      intro w0 hM
      obtain ⟨hl, r0, r1, r2, -⟩ := hM
      go_upto_region 1 with (fail)
      let L : List Sp := [sV 2 [] [] (fun u => u = .int .i64 c)]
      refine wp_region_six0 (shs L) (look6 L) (None_) (by kernel_rfl) (by kernel_rfl) (mk_St L [] [] (by kernel_rfl) (by kernel_rfl) ⟨ok_V ⟨_, rfl⟩, trivial⟩ (by simp)) ?_
      intro QQ hQ
      -- 0: load<31> *t4
      refine stepK rfl (by kernel_rfl) (fun K hK => ?_); go_simp
      apply Exists.intro; apply And.intro; (focus exact kLoad rfl rfl aggT31 r1 rfl id); refine hK _ _ ?_; clear hK K
      -- 1: load<31> *t5
      refine stepK rfl (by kernel_rfl) (fun K hK => ?_); go_simp
      apply Exists.intro; apply And.intro; (focus exact kLoad rfl rfl aggT31 r2 rfl id); refine hK _ _ ?_; clear hK K
      -- 2: call F57(t13, t14)
      refine stepS _ rfl (by kernel_rfl) (fun K hK => ?_); go_simp
      refine ⟨?_, ?_⟩
      · intro wk hk hg hu; go_simp; refine upon_enter ((k0.out _).mono ?_); rintro e w' ⟨rfl, hb⟩; exact ⟨_, rfl, left_V (p := fun u => u = .int .i64 c) rfl (hb) rfl⟩
      rintro ⟨v2, lo2, hi2⟩ - - (rfl : v2 = _)
      refine hK _ _ ?_; clear hK K
      -- 3: gtr<3> t15, 0
      refine stepK rfl (by kernel_rfl) (fun K hK => ?_); go_simp
      apply Exists.intro; apply And.intro; (focus (intro wk hk; go_simp; exact ⟨rfl, rfl⟩)); refine hK _ _ ?_; clear hK K
      -- 4: t16
      refine stepK rfl (by kernel_rfl) (fun K hK => ?_); go_simp
      apply Exists.intro; apply And.intro; (focus (intro wk hk; go_simp; exact ⟨rfl, rfl⟩)); refine hK _ _ ?_; clear hK K
      -- 5: load<31> *t5
      refine stepK rfl (by kernel_rfl) (fun K hK => ?_); go_simp
      first | (refine hK _ _ ?_; clear hK K) | (apply Exists.intro; apply And.intro; (focus exact kLoad rfl rfl aggT31 r2 rfl id); refine hK _ _ ?_; clear hK K)
      -- 6: build<31> 
      refine stepK rfl (by kernel_rfl) (fun K hK => ?_); go_simp
      first | (refine hK _ _ ?_; clear hK K) | (apply Exists.intro; apply And.intro; (focus (intro wk hk; go_simp; exact ⟨rfl, rfl⟩)); refine hK _ _ ?_; clear hK K)
      -- 7: eql<31> t18, t19
      refine stepK rfl (by kernel_rfl) (fun K hK => ?_); go_simp
      first | (refine hK _ _ ?_; clear hK K) | (apply Exists.intro; apply And.intro; (focus (intro wk hk; go_simp; exact ⟨rfl, rfl⟩)); refine hK _ _ ?_; clear hK K)
      -- 8: pick t17 ? true : t20
      refine stepK rfl (by kernel_rfl) (fun K hK => ?_); go_simp
      apply Exists.intro; apply And.intro; (focus (intro wk hk; go_simp; exact ⟨rfl, rfl⟩)); refine hK _ _ ?_; clear hK K
      refine stepN ?_
      refine hQ _ _ ?_
      intro w1 hT hG hF
      have hbw1 := hT.below
      replace r0 := r0.below hbw1 r0.lt
      replace r1 := r1.below hbw1 r1.lt
      replace r2 := r2.below hbw1 r2.lt
      replace hl := hl.trans (hbw1.mono hl.size)
      clear hT hG hF hbw1 hQ QQ L 
      go_upto_region 3 with (fail)
      let L : List Sp := [sV 3 [] [] (fun u => u = .tuple #[.agg (W4 x), .bool true]), sA 7 31 [8] #[.int .u64 0, .int .u64 0, .int .u64 0, .int .u64 0], sT 8 7 31 [5] (fun g => aggOf g 5)]
      refine wp_region_six0 (shs L) (look6 L) (None_) (by kernel_rfl) (by kernel_rfl) (mk_St L [] [] (by kernel_rfl) (by kernel_rfl) ⟨ok_V ⟨_, rfl⟩, ok_A, ok_T aggOf_congr, trivial⟩ (by simp)) ?_
      intro QQ hQ
      -- 0: load<31> *t3
      refine stepK rfl (by kernel_rfl) (fun K hK => ?_); go_simp
      apply Exists.intro; apply And.intro; (focus exact kLoad rfl rfl aggT31 r0 rfl id); refine hK _ _ ?_; clear hK K
      -- 1: load<31> *t4
      refine stepK rfl (by kernel_rfl) (fun K hK => ?_); go_simp
      apply Exists.intro; apply And.intro; (focus exact kLoad rfl rfl aggT31 r1 rfl id); refine hK _ _ ?_; clear hK K
      -- 2: load<31> *t5
      refine stepK rfl (by kernel_rfl) (fun K hK => ?_); go_simp
      apply Exists.intro; apply And.intro; (focus exact kLoad rfl rfl aggT31 r2 rfl id); refine hK _ _ ?_; clear hK K
      -- 3: call F110(t24, t25, t26)
      refine stepS _ rfl (by kernel_rfl) (fun K hK => ?_); go_simp
      refine ⟨?_, ?_⟩
      · intro wk hk hg hu; go_simp; refine upon_enter ((k1.out _).mono ?_); rintro e w' ⟨rfl, hb⟩; exact ⟨_, rfl, left_V (p := fun u => u = .tuple #[.agg (W4 x), .bool true]) rfl (hb) rfl⟩
      rintro ⟨v3, lo3, hi3⟩ - - (rfl : v3 = _)
      refine hK _ _ ?_; clear hK K
      -- 4: t27
      refine stepK rfl (by kernel_rfl) (fun K hK => ?_); go_simp
      apply Exists.intro; apply And.intro; (focus (intro wk hk; go_simp; exact ⟨rfl, rfl⟩)); refine hK _ _ ?_; clear hK K
      -- 5: extract t23 #0
      refine stepK rfl (by kernel_rfl) (fun K hK => ?_); go_simp
      apply Exists.intro; apply And.intro; (focus (intro wk hk; go_simp; exact ⟨rfl, rfl⟩)); refine hK _ _ ?_; clear hK K
      -- 6: extract t23 #1
      refine stepK rfl (by kernel_rfl) (fun K hK => ?_); go_simp
      apply Exists.intro; apply And.intro; (focus (intro wk hk; go_simp; exact ⟨rfl, rfl⟩)); refine hK _ _ ?_; clear hK K
      -- 7: alloc<31>
      refine stepS _ rfl (by kernel_rfl) (fun K hK => ?_); go_simp
      refine ⟨?_, ?_⟩
      · intro wk hk hg hu; go_simp; exact left_A rfl rfl
      rintro ⟨v7, lo7, hi7⟩ hlo7 hhi7 ⟨e7, f7⟩
      replace e7 : v7 = .pointer (some ⟨lo7, 0, none⟩) := e7; replace f7 : hi7 = lo7 + 1 := f7; replace hlo7 : _ ≤ lo7 := hlo7; subst e7; subst f7
      refine hK _ _ ?_; clear hK K
      -- 8: store<31> *t7 = t28
      refine stepS _ rfl (by kernel_rfl) (fun K hK => ?_); go_simp
      refine ⟨?_, ?_⟩
      · exact sStoreT rfl rfl rfl rfl rfl rfl rfl (by kernel_rfl) rfl (by kernel_rfl) (by decide) aggOf_congr
      rintro ⟨v8, lo8, hi8⟩ - - (rfl : v8 = undef)
      refine hK _ _ ?_; clear hK K
      -- 9: assign t29
      refine stepK rfl (by kernel_rfl) (fun K hK => ?_); go_simp
      apply Exists.intro; apply And.intro; (focus (intro wk hk; go_simp; exact ⟨rfl, rfl⟩)); refine hK _ _ ?_; clear hK K
      refine stepN ?_
      refine hQ _ _ ?_
      intro w2 hT hG hF
      have hbw2 := hT.below
      have r3 : Row w2 lo7 31 ((W4 x)) := (hF 8 _ rfl rfl (by decide)).2
      replace r0 := r0.below hbw2 r0.lt
      replace r1 := r1.below hbw2 r1.lt
      replace r2 := r2.below hbw2 r2.lt
      replace hl := hl.trans (hbw2.mono hl.size)
      clear hT hG hF hbw2 hQ QQ L hlo7 hhi7
      go_upto_region 4 with (fail)
      let L : List Sp := [sV 3 [] [] (fun u => u = .tuple #[.agg (W4 y), .bool true]), sA 7 31 [8] #[.int .u64 0, .int .u64 0, .int .u64 0, .int .u64 0], sT 8 7 31 [5] (fun g => aggOf g 5)]
      refine wp_region_six0 (shs L) (look6 L) (None_) (by kernel_rfl) (by kernel_rfl) (mk_St L [] [] (by kernel_rfl) (by kernel_rfl) ⟨ok_V ⟨_, rfl⟩, ok_A, ok_T aggOf_congr, trivial⟩ (by simp)) ?_
      intro QQ hQ
      -- 0: load<31> *t3
      refine stepK rfl (by kernel_rfl) (fun K hK => ?_); go_simp
      apply Exists.intro; apply And.intro; (focus exact kLoad rfl rfl aggT31 r0 rfl id); refine hK _ _ ?_; clear hK K
      -- 1: load<31> *t4
      refine stepK rfl (by kernel_rfl) (fun K hK => ?_); go_simp
      apply Exists.intro; apply And.intro; (focus exact kLoad rfl rfl aggT31 r1 rfl id); refine hK _ _ ?_; clear hK K
      -- 2: load<31> *t5
      refine stepK rfl (by kernel_rfl) (fun K hK => ?_); go_simp
      apply Exists.intro; apply And.intro; (focus exact kLoad rfl rfl aggT31 r2 rfl id); refine hK _ _ ?_; clear hK K
      -- 3: call F111(t31, t32, t33)
      refine stepS _ rfl (by kernel_rfl) (fun K hK => ?_); go_simp
      refine ⟨?_, ?_⟩
      · intro wk hk hg hu; go_simp; refine upon_enter ((k2.out _).mono ?_); rintro e w' ⟨rfl, hb⟩; exact ⟨_, rfl, left_V (p := fun u => u = .tuple #[.agg (W4 y), .bool true]) rfl (hb) rfl⟩
      rintro ⟨v3, lo3, hi3⟩ - - (rfl : v3 = _)
      refine hK _ _ ?_; clear hK K
      -- 4: t34
      refine stepK rfl (by kernel_rfl) (fun K hK => ?_); go_simp
      apply Exists.intro; apply And.intro; (focus (intro wk hk; go_simp; exact ⟨rfl, rfl⟩)); refine hK _ _ ?_; clear hK K
      -- 5: extract t30 #0
      refine stepK rfl (by kernel_rfl) (fun K hK => ?_); go_simp
      apply Exists.intro; apply And.intro; (focus (intro wk hk; go_simp; exact ⟨rfl, rfl⟩)); refine hK _ _ ?_; clear hK K
      -- 6: extract t30 #1
      refine stepK rfl (by kernel_rfl) (fun K hK => ?_); go_simp
      apply Exists.intro; apply And.intro; (focus (intro wk hk; go_simp; exact ⟨rfl, rfl⟩)); refine hK _ _ ?_; clear hK K
      -- 7: alloc<31>
      refine stepS _ rfl (by kernel_rfl) (fun K hK => ?_); go_simp
      refine ⟨?_, ?_⟩
      · intro wk hk hg hu; go_simp; exact left_A rfl rfl
      rintro ⟨v7, lo7, hi7⟩ hlo7 hhi7 ⟨e7, f7⟩
      replace e7 : v7 = .pointer (some ⟨lo7, 0, none⟩) := e7; replace f7 : hi7 = lo7 + 1 := f7; replace hlo7 : _ ≤ lo7 := hlo7; subst e7; subst f7
      refine hK _ _ ?_; clear hK K
      -- 8: store<31> *t9 = t35
      refine stepS _ rfl (by kernel_rfl) (fun K hK => ?_); go_simp
      refine ⟨?_, ?_⟩
      · exact sStoreT rfl rfl rfl rfl rfl rfl rfl (by kernel_rfl) rfl (by kernel_rfl) (by decide) aggOf_congr
      rintro ⟨v8, lo8, hi8⟩ - - (rfl : v8 = undef)
      refine hK _ _ ?_; clear hK K
      -- 9: assign t36
      refine stepK rfl (by kernel_rfl) (fun K hK => ?_); go_simp
      apply Exists.intro; apply And.intro; (focus (intro wk hk; go_simp; exact ⟨rfl, rfl⟩)); refine hK _ _ ?_; clear hK K
      refine stepN ?_
      refine hQ _ _ ?_
      intro w3 hT hG hF
      have hbw3 := hT.below
      have r4 : Row w3 lo7 31 ((W4 y)) := (hF 8 _ rfl rfl (by decide)).2
      replace r0 := r0.below hbw3 r0.lt
      replace r1 := r1.below hbw3 r1.lt
      replace r2 := r2.below hbw3 r2.lt
      replace r3 := r3.below hbw3 r3.lt
      replace hl := hl.trans (hbw3.mono hl.size)
      clear hT hG hF hbw3 hQ QQ L hlo7 hhi7
      go_upto_region 5 with (fail)
      let L : List Sp := [sV 3 [] [] (fun u => u = .tuple #[.agg (W4 a), .bool true]), sA 7 31 [8] #[.int .u64 0, .int .u64 0, .int .u64 0, .int .u64 0], sT 8 7 31 [5] (fun g => aggOf g 5)]
      refine wp_region_six0 (shs L) (look6 L) (None_) (by kernel_rfl) (by kernel_rfl) (mk_St L [] [] (by kernel_rfl) (by kernel_rfl) ⟨ok_V ⟨_, rfl⟩, ok_A, ok_T aggOf_congr, trivial⟩ (by simp)) ?_
      intro QQ hQ
      -- 0: load<31> *t3
      refine stepK rfl (by kernel_rfl) (fun K hK => ?_); go_simp
      apply Exists.intro; apply And.intro; (focus exact kLoad rfl rfl aggT31 r0 rfl id); refine hK _ _ ?_; clear hK K
      -- 1: load<31> *t5
      refine stepK rfl (by kernel_rfl) (fun K hK => ?_); go_simp
      apply Exists.intro; apply And.intro; (focus exact kLoad rfl rfl aggT31 r2 rfl id); refine hK _ _ ?_; clear hK K
      -- 2: load<31> *t5
      refine stepK rfl (by kernel_rfl) (fun K hK => ?_); go_simp
      apply Exists.intro; apply And.intro; (focus exact kLoad rfl rfl aggT31 r2 rfl id); refine hK _ _ ?_; clear hK K
      -- 3: call F110(t38, t39, t40)
      refine stepS _ rfl (by kernel_rfl) (fun K hK => ?_); go_simp
      refine ⟨?_, ?_⟩
      · intro wk hk hg hu; go_simp; refine upon_enter ((k3.out _).mono ?_); rintro e w' ⟨rfl, hb⟩; exact ⟨_, rfl, left_V (p := fun u => u = .tuple #[.agg (W4 a), .bool true]) rfl (hb) rfl⟩
      rintro ⟨v3, lo3, hi3⟩ - - (rfl : v3 = _)
      refine hK _ _ ?_; clear hK K
      -- 4: t41
      refine stepK rfl (by kernel_rfl) (fun K hK => ?_); go_simp
      apply Exists.intro; apply And.intro; (focus (intro wk hk; go_simp; exact ⟨rfl, rfl⟩)); refine hK _ _ ?_; clear hK K
      -- 5: extract t37 #0
      refine stepK rfl (by kernel_rfl) (fun K hK => ?_); go_simp
      apply Exists.intro; apply And.intro; (focus (intro wk hk; go_simp; exact ⟨rfl, rfl⟩)); refine hK _ _ ?_; clear hK K
      -- 6: extract t37 #1
      refine stepK rfl (by kernel_rfl) (fun K hK => ?_); go_simp
      apply Exists.intro; apply And.intro; (focus (intro wk hk; go_simp; exact ⟨rfl, rfl⟩)); refine hK _ _ ?_; clear hK K
      -- 7: alloc<31>
      refine stepS _ rfl (by kernel_rfl) (fun K hK => ?_); go_simp
      refine ⟨?_, ?_⟩
      · intro wk hk hg hu; go_simp; exact left_A rfl rfl
      rintro ⟨v7, lo7, hi7⟩ hlo7 hhi7 ⟨e7, f7⟩
      replace e7 : v7 = .pointer (some ⟨lo7, 0, none⟩) := e7; replace f7 : hi7 = lo7 + 1 := f7; replace hlo7 : _ ≤ lo7 := hlo7; subst e7; subst f7
      refine hK _ _ ?_; clear hK K
      -- 8: store<31> *t11 = t42
      refine stepS _ rfl (by kernel_rfl) (fun K hK => ?_); go_simp
      refine ⟨?_, ?_⟩
      · exact sStoreT rfl rfl rfl rfl rfl rfl rfl (by kernel_rfl) rfl (by kernel_rfl) (by decide) aggOf_congr
      rintro ⟨v8, lo8, hi8⟩ - - (rfl : v8 = undef)
      refine hK _ _ ?_; clear hK K
      -- 9: assign t43
      refine stepK rfl (by kernel_rfl) (fun K hK => ?_); go_simp
      apply Exists.intro; apply And.intro; (focus (intro wk hk; go_simp; exact ⟨rfl, rfl⟩)); refine hK _ _ ?_; clear hK K
      refine stepN ?_
      refine hQ _ _ ?_
      intro w4 hT hG hF
      have hbw4 := hT.below
      have r5 : Row w4 lo7 31 ((W4 a)) := (hF 8 _ rfl rfl (by decide)).2
      replace r0 := r0.below hbw4 r0.lt
      replace r1 := r1.below hbw4 r1.lt
      replace r2 := r2.below hbw4 r2.lt
      replace r3 := r3.below hbw4 r3.lt
      replace r4 := r4.below hbw4 r4.lt
      replace hl := hl.trans (hbw4.mono hl.size)
      clear hT hG hF hbw4 hQ QQ L hlo7 hhi7
      go_upto_region 6 with (fail)
      let L : List Sp := [sV 10 [] [] (fun u => u = .int .i64 c1), sV 16 [] [] (fun u => u = .int .i64 c2), sV 22 [] [] (fun u => u = .int .i64 c3), sV 31 [] [] (fun u => u = .bool true)]
      refine wp_region_six0 (shs L) (look6 L) (None_) (by kernel_rfl) (by kernel_rfl) (mk_St L [] [] (by kernel_rfl) (by kernel_rfl) ⟨ok_V ⟨_, rfl⟩, ok_V ⟨_, rfl⟩, ok_V ⟨_, rfl⟩, ok_V ⟨_, rfl⟩, trivial⟩ (by simp)) ?_
      intro QQ hQ
      -- 0: t8
      refine stepK rfl (by kernel_rfl) (fun K hK => ?_); go_simp
      apply Exists.intro; apply And.intro; (focus (intro wk hk; go_simp; exact ⟨rfl, rfl⟩)); refine hK _ _ ?_; clear hK K
      -- 1: t44
      refine stepK rfl (by kernel_rfl) (fun K hK => ?_); go_simp
      apply Exists.intro; apply And.intro; (focus (intro wk hk; go_simp; exact ⟨rfl, rfl⟩)); refine hK _ _ ?_; clear hK K
      -- 2: t10
      refine stepK rfl (by kernel_rfl) (fun K hK => ?_); go_simp
      first | (refine hK _ _ ?_; clear hK K) | (apply Exists.intro; apply And.intro; (focus (intro wk hk; go_simp; exact ⟨rfl, rfl⟩)); refine hK _ _ ?_; clear hK K)
      -- 3: pick t45 ? t46 : false
      refine stepK rfl (by kernel_rfl) (fun K hK => ?_); go_simp
      apply Exists.intro; apply And.intro; (focus (intro wk hk; go_simp; exact ⟨rfl, rfl⟩)); refine hK _ _ ?_; clear hK K
      -- 4: t47
      refine stepK rfl (by kernel_rfl) (fun K hK => ?_); go_simp
      apply Exists.intro; apply And.intro; (focus (intro wk hk; go_simp; exact ⟨rfl, rfl⟩)); refine hK _ _ ?_; clear hK K
      -- 5: t12
      refine stepK rfl (by kernel_rfl) (fun K hK => ?_); go_simp
      first | (refine hK _ _ ?_; clear hK K) | (apply Exists.intro; apply And.intro; (focus (intro wk hk; go_simp; exact ⟨rfl, rfl⟩)); refine hK _ _ ?_; clear hK K)
      -- 6: pick t48 ? t49 : false
      refine stepK rfl (by kernel_rfl) (fun K hK => ?_); go_simp
      apply Exists.intro; apply And.intro; (focus (intro wk hk; go_simp; exact ⟨rfl, rfl⟩)); refine hK _ _ ?_; clear hK K
      -- 7: t50
      refine stepK rfl (by kernel_rfl) (fun K hK => ?_); go_simp
      apply Exists.intro; apply And.intro; (focus (intro wk hk; go_simp; exact ⟨rfl, rfl⟩)); refine hK _ _ ?_; clear hK K
      -- 8: load<31> *t7
      refine stepK rfl (by kernel_rfl) (fun K hK => ?_); go_simp
      first | (refine hK _ _ ?_; clear hK K) | (apply Exists.intro; apply And.intro; (focus exact kLoad rfl rfl aggT31 r3 rfl id); refine hK _ _ ?_; clear hK K)
      -- 9: load<31> *t3
      refine stepK rfl (by kernel_rfl) (fun K hK => ?_); go_simp
      first | (refine hK _ _ ?_; clear hK K) | (apply Exists.intro; apply And.intro; (focus exact kLoad rfl rfl aggT31 r0 rfl id); refine hK _ _ ?_; clear hK K)
      -- 10: call F57(t52, t53)
      refine stepS _ rfl (by kernel_rfl) (fun K hK => ?_); go_simp
      refine ⟨?_, ?_⟩
      · intro wk hk hg hu; go_simp; refine upon_enter ((k4.out _).mono ?_); rintro e w' ⟨rfl, hb⟩; exact ⟨_, rfl, left_V (p := fun u => u = .int .i64 c1) rfl (hb) rfl⟩
      rintro ⟨v10, lo10, hi10⟩ - - (rfl : v10 = _)
      refine hK _ _ ?_; clear hK K
      -- 11: leq<3> t54, 0
      refine stepK rfl (by kernel_rfl) (fun K hK => ?_); go_simp
      first | (refine hK _ _ ?_; clear hK K) | (apply Exists.intro; apply And.intro; (focus (intro wk hk; go_simp; exact ⟨rfl, rfl⟩)); refine hK _ _ ?_; clear hK K)
      -- 12: pick t51 ? t55 : false
      refine stepK rfl (by kernel_rfl) (fun K hK => ?_); go_simp
      apply Exists.intro; apply And.intro; (focus (intro wk hk; go_simp; exact ⟨rfl, rfl⟩)); refine hK _ _ ?_; clear hK K
      -- 13: t56
      refine stepK rfl (by kernel_rfl) (fun K hK => ?_); go_simp
      apply Exists.intro; apply And.intro; (focus (intro wk hk; go_simp; exact ⟨rfl, rfl⟩)); refine hK _ _ ?_; clear hK K
      -- 14: load<31> *t9
      refine stepK rfl (by kernel_rfl) (fun K hK => ?_); go_simp
      first | (refine hK _ _ ?_; clear hK K) | (apply Exists.intro; apply And.intro; (focus exact kLoad rfl rfl aggT31 r4 rfl id); refine hK _ _ ?_; clear hK K)
      -- 15: load<31> *t3
      refine stepK rfl (by kernel_rfl) (fun K hK => ?_); go_simp
      first | (refine hK _ _ ?_; clear hK K) | (apply Exists.intro; apply And.intro; (focus exact kLoad rfl rfl aggT31 r0 rfl id); refine hK _ _ ?_; clear hK K)
      -- 16: call F57(t58, t59)
      refine stepS _ rfl (by kernel_rfl) (fun K hK => ?_); go_simp
      refine ⟨?_, ?_⟩
      · intro wk hk hg hu; go_simp; refine upon_enter ((k5.out _).mono ?_); rintro e w' ⟨rfl, hb⟩; exact ⟨_, rfl, left_V (p := fun u => u = .int .i64 c2) rfl (hb) rfl⟩
      rintro ⟨v16, lo16, hi16⟩ - - (rfl : v16 = _)
      refine hK _ _ ?_; clear hK K
      -- 17: leq<3> t60, 0
      refine stepK rfl (by kernel_rfl) (fun K hK => ?_); go_simp
      first | (refine hK _ _ ?_; clear hK K) | (apply Exists.intro; apply And.intro; (focus (intro wk hk; go_simp; exact ⟨rfl, rfl⟩)); refine hK _ _ ?_; clear hK K)
      -- 18: pick t57 ? t61 : false
      refine stepK rfl (by kernel_rfl) (fun K hK => ?_); go_simp
      apply Exists.intro; apply And.intro; (focus (intro wk hk; go_simp; exact ⟨rfl, rfl⟩)); refine hK _ _ ?_; clear hK K
      -- 19: t62
      refine stepK rfl (by kernel_rfl) (fun K hK => ?_); go_simp
      apply Exists.intro; apply And.intro; (focus (intro wk hk; go_simp; exact ⟨rfl, rfl⟩)); refine hK _ _ ?_; clear hK K
      -- 20: load<31> *t7
      refine stepK rfl (by kernel_rfl) (fun K hK => ?_); go_simp
      first | (refine hK _ _ ?_; clear hK K) | (apply Exists.intro; apply And.intro; (focus exact kLoad rfl rfl aggT31 r3 rfl id); refine hK _ _ ?_; clear hK K)
      -- 21: load<31> *t9
      refine stepK rfl (by kernel_rfl) (fun K hK => ?_); go_simp
      first | (refine hK _ _ ?_; clear hK K) | (apply Exists.intro; apply And.intro; (focus exact kLoad rfl rfl aggT31 r4 rfl id); refine hK _ _ ?_; clear hK K)
      -- 22: call F57(t64, t65)
      refine stepS _ rfl (by kernel_rfl) (fun K hK => ?_); go_simp
      refine ⟨?_, ?_⟩
      · intro wk hk hg hu; go_simp; refine upon_enter ((k6.out _).mono ?_); rintro e w' ⟨rfl, hb⟩; exact ⟨_, rfl, left_V (p := fun u => u = .int .i64 c3) rfl (hb) rfl⟩
      rintro ⟨v22, lo22, hi22⟩ - - (rfl : v22 = _)
      refine hK _ _ ?_; clear hK K
      -- 23: leq<3> t66, 0
      refine stepK rfl (by kernel_rfl) (fun K hK => ?_); go_simp
      first | (refine hK _ _ ?_; clear hK K) | (apply Exists.intro; apply And.intro; (focus (intro wk hk; go_simp; exact ⟨rfl, rfl⟩)); refine hK _ _ ?_; clear hK K)
      -- 24: pick t63 ? t67 : false
      refine stepK rfl (by kernel_rfl) (fun K hK => ?_); go_simp
      apply Exists.intro; apply And.intro; (focus (intro wk hk; go_simp; exact ⟨rfl, rfl⟩)); refine hK _ _ ?_; clear hK K
      -- 25: t68
      refine stepK rfl (by kernel_rfl) (fun K hK => ?_); go_simp
      apply Exists.intro; apply And.intro; (focus (intro wk hk; go_simp; exact ⟨rfl, rfl⟩)); refine hK _ _ ?_; clear hK K
      -- 26: load<31> *t11
      refine stepK rfl (by kernel_rfl) (fun K hK => ?_); go_simp
      first | (refine hK _ _ ?_; clear hK K) | (apply Exists.intro; apply And.intro; (focus exact kLoad rfl rfl aggT31 r5 rfl id); refine hK _ _ ?_; clear hK K)
      -- 27: load<31> *t3
      refine stepK rfl (by kernel_rfl) (fun K hK => ?_); go_simp
      first | (refine hK _ _ ?_; clear hK K) | (apply Exists.intro; apply And.intro; (focus exact kLoad rfl rfl aggT31 r0 rfl id); refine hK _ _ ?_; clear hK K)
      -- 28: eql<31> t70, t71
      refine stepK rfl (by kernel_rfl) (fun K hK => ?_); go_simp
      first | (refine hK _ _ ?_; clear hK K) | (apply Exists.intro; apply And.intro; (focus (intro wk hk; go_simp; exact ⟨rfl, rfl⟩)); refine hK _ _ ?_; clear hK K)
      -- 29: pick t69 ? t72 : false
      refine stepK rfl (by kernel_rfl) (fun K hK => ?_); go_simp
      apply Exists.intro; apply And.intro; (focus (intro wk hk; go_simp; exact ⟨rfl, rfl⟩)); refine hK _ _ ?_; clear hK K
      -- 30: t73
      refine stepK rfl (by kernel_rfl) (fun K hK => ?_); go_simp
      apply Exists.intro; apply And.intro; (focus (intro wk hk; go_simp; exact ⟨rfl, rfl⟩)); refine hK _ _ ?_; clear hK K
      -- 31: call F106()
      refine stepS _ rfl (by kernel_rfl) (fun K hK => ?_); go_simp
      refine ⟨?_, ?_⟩
      · intro wk hk hg hu; go_simp; refine upon_enter ((k7.out _).mono ?_); rintro e w' ⟨rfl, hb⟩; exact ⟨_, rfl, left_V (p := fun u => u = .bool true) rfl (hb) rfl⟩
      rintro ⟨v31, lo31, hi31⟩ - - (rfl : v31 = _)
      refine hK _ _ ?_; clear hK K
      -- 32: pick t74 ? t75 : false
      refine stepK rfl (by kernel_rfl) (fun K hK => ?_); go_simp
      apply Exists.intro; apply And.intro; (focus (intro wk hk; go_simp; exact ⟨rfl, rfl⟩)); refine hK _ _ ?_; clear hK K
      -- 33: assign t76
      refine stepK rfl (by kernel_rfl) (fun K hK => ?_); go_simp
      apply Exists.intro; apply And.intro; (focus (intro wk hk; go_simp; exact ⟨rfl, rfl⟩)); refine hK _ _ ?_; clear hK K
      refine stepN ?_
      refine hQ _ _ ?_
      intro w5 hT hG hF
      have hbw5 := hT.below
      replace r0 := r0.below hbw5 r0.lt
      replace r1 := r1.below hbw5 r1.lt
      replace r2 := r2.below hbw5 r2.lt
      replace r3 := r3.below hbw5 r3.lt
      replace r4 := r4.below hbw5 r4.lt
      replace r5 := r5.below hbw5 r5.lt
      replace hl := hl.trans (hbw5.mono hl.size)
      clear hT hG hF hbw5 hQ QQ L 
      go_wp2_with fail
      go_ret
      exact ⟨rfl, hl⟩
  · have hc0 : 0 < c := hc ▸ cmpN_gt (by omega)
    clear htf
    have k0 := Lib.hid (show ∀ wx, Calls Try.prog 57 #[.agg (W4 t), .agg (W4 f)] wx (Ret wx (.int .i64 c)) from fun wx => by have h := refcmpU ht hf wx; rw [← hc] at h; exact h)
    have k1 := Lib.hid (show ∀ wx, Calls Try.prog 106 #[] wx (Ret wx (.bool true)) from fun wx => by have h := lives3U  wx; exact h)
    clear hc
    go_enter Try.func20, Try.ntmps20
    apply wp_seq_eq
    focus
      intro J hJ
      go_wp2_with fail
      exact hJ
    refine wp_abs (Mem w [(w.heap.size, 31, W4 a), (w.heap.size + 1, 31, W4 t), (w.heap.size + 1 + 1, 31, W4 f)]) ⟨by go_grown, ?_, ?_, ?_, trivial⟩ ?_
    · repeat (first | (refine Row.new_at ?_; simp; done) | refine Row.alloc ?_ _)
    · repeat (first | (refine Row.new_at ?_; simp; done) | refine Row.alloc ?_ _)
    · repeat (first | (refine Row.new_at ?_; simp; done) | refine Row.alloc ?_ _)
    intro w0 hM
    obtain ⟨hl, r0, r1, r2, -⟩ := hM
    go_upto_region 1 with (fail)
    let L : List Sp := [sV 2 [] [] (fun u => u = .int .i64 c)]
    refine wp_region_six0 (shs L) (look6 L) (None_) (by kernel_rfl) (by kernel_rfl) (mk_St L [] [] (by kernel_rfl) (by kernel_rfl) ⟨ok_V ⟨_, rfl⟩, trivial⟩ (by simp)) ?_
    intro QQ hQ
    -- 0: load<31> *t4
    refine stepK rfl (by kernel_rfl) (fun K hK => ?_); go_simp
    apply Exists.intro; apply And.intro; (focus exact kLoad rfl rfl aggT31 r1 rfl id); refine hK _ _ ?_; clear hK K
    -- 1: load<31> *t5
    refine stepK rfl (by kernel_rfl) (fun K hK => ?_); go_simp
    apply Exists.intro; apply And.intro; (focus exact kLoad rfl rfl aggT31 r2 rfl id); refine hK _ _ ?_; clear hK K
    -- 2: call F57(t13, t14)
    refine stepS _ rfl (by kernel_rfl) (fun K hK => ?_); go_simp
    refine ⟨?_, ?_⟩
    · intro wk hk hg hu; go_simp; refine upon_enter ((k0.out _).mono ?_); rintro e w' ⟨rfl, hb⟩; exact ⟨_, rfl, left_V (p := fun u => u = .int .i64 c) rfl (hb) rfl⟩
    rintro ⟨v2, lo2, hi2⟩ - - (rfl : v2 = _)
    refine hK _ _ ?_; clear hK K
    -- 3: gtr<3> t15, 0
    refine stepK rfl (by kernel_rfl) (fun K hK => ?_); go_simp
    apply Exists.intro; apply And.intro; (focus (intro wk hk; go_simp; exact ⟨rfl, rfl⟩)); refine hK _ _ ?_; clear hK K
    -- 4: t16
    refine stepK rfl (by kernel_rfl) (fun K hK => ?_); go_simp
    apply Exists.intro; apply And.intro; (focus (intro wk hk; go_simp; exact ⟨rfl, rfl⟩)); refine hK _ _ ?_; clear hK K
    -- 5: load<31> *t5
    refine stepK rfl (by kernel_rfl) (fun K hK => ?_); go_simp
    first | (refine hK _ _ ?_; clear hK K) | (apply Exists.intro; apply And.intro; (focus (intro wk hk; go_simp; exact ⟨rfl, rfl⟩)); refine hK _ _ ?_; clear hK K)
    -- 6: build<31> 
    refine stepK rfl (by kernel_rfl) (fun K hK => ?_); go_simp
    first | (refine hK _ _ ?_; clear hK K) | (apply Exists.intro; apply And.intro; (focus (intro wk hk; go_simp; exact ⟨rfl, rfl⟩)); refine hK _ _ ?_; clear hK K)
    -- 7: eql<31> t18, t19
    refine stepK rfl (by kernel_rfl) (fun K hK => ?_); go_simp
    first | (refine hK _ _ ?_; clear hK K) | (apply Exists.intro; apply And.intro; (focus (intro wk hk; go_simp; exact ⟨rfl, rfl⟩)); refine hK _ _ ?_; clear hK K)
    -- 8: pick t17 ? true : t20
    refine stepK rfl (by kernel_rfl) (fun K hK => ?_); go_simp
    apply Exists.intro; apply And.intro; (focus (intro wk hk; go_simp; exact ⟨rfl, rfl⟩)); refine hK _ _ ?_; clear hK K
    refine stepN ?_
    refine hQ _ _ ?_
    intro w1 hT hG hF
    have hbw1 := hT.below
    replace r0 := r0.below hbw1 r0.lt
    replace r1 := r1.below hbw1 r1.lt
    replace r2 := r2.below hbw1 r2.lt
    replace hl := hl.trans (hbw1.mono hl.size)
    clear hT hG hF hbw1 hQ QQ L 
    go_upto_region 2 with (fail)
    let L : List Sp := [sV 0 [] [] (fun u => u = .bool true)]
    refine wp_region_six0 (shs L) (look6 L) (None_) (by kernel_rfl) (by kernel_rfl) (mk_St L [] [] (by kernel_rfl) (by kernel_rfl) ⟨ok_V ⟨_, rfl⟩, trivial⟩ (by simp)) ?_
    intro QQ hQ
    -- 0: call F106()
    refine stepS _ rfl (by kernel_rfl) (fun K hK => ?_); go_simp
    refine ⟨?_, ?_⟩
    · intro wk hk hg hu; go_simp; refine upon_enter ((k1.out _).mono ?_); rintro e w' ⟨rfl, hb⟩; exact ⟨_, rfl, left_V (p := fun u => u = .bool true) rfl (hb) rfl⟩
    rintro ⟨v0, lo0, hi0⟩ - - (rfl : v0 = _)
    refine hK _ _ ?_; clear hK K
    -- 1: assign t22
    refine stepK rfl (by kernel_rfl) (fun K hK => ?_); go_simp
    apply Exists.intro; apply And.intro; (focus (intro wk hk; go_simp; exact ⟨rfl, rfl⟩)); refine hK _ _ ?_; clear hK K
    refine stepN ?_
    refine hQ _ _ ?_
    intro w2 hT hG hF
    have hbw2 := hT.below
    replace r0 := r0.below hbw2 r0.lt
    replace r1 := r1.below hbw2 r1.lt
    replace r2 := r2.below hbw2 r2.lt
    replace hl := hl.trans (hbw2.mono hl.size)
    clear hT hG hF hbw2 hQ QQ L 
    go_wp2_with fail
    go_ret
    exact ⟨rfl, hl⟩
set_option maxRecDepth 100000 in
set_option maxHeartbeats 16000000 in
theorem wadsteps_walk (a b f : Nat) (ha : a < M) (hb : b < M) (hf : f < M) (w : World) : Calls Try.prog 19 #[.agg (W4 a), .agg (W4 b), .agg (W4 f)] w (Ret w (.bool true)) := by
  obtain ⟨c, hc⟩ : ∃ c, c = cmpN a b := ⟨_, rfl⟩
  by_cases hab : a ≤ b
  · have hc0 : c ≤ 0 := hc ▸ cmpN_le hab
    by_cases hb1 : b < M2
    · have hb2 : decide (b < M2) = true := decide_eq_true hb1
      by_cases hg1 : f ≤ E18
      · have hg2 : decide (f ≤ E18) = true := decide_eq_true hg1
        have S := part_le hb hab hg1
        clear hab hg1 hb1
        obtain ⟨x, hx⟩ : ∃ x, x = quoN (a * f) E18 := ⟨_, rfl⟩
        obtain ⟨y, hy⟩ : ∃ y, y = quoN (b * f) E18 := ⟨_, rfl⟩
        have xl : x < M := hx ▸ quoN_lt _ _
        have yl : y < M := hy ▸ quoN_lt _ _
        rw [← hx, ← hy] at S
        obtain ⟨c1, hc1⟩ : ∃ c, c = cmpN x y := ⟨_, rfl⟩
        obtain ⟨c2, hc2⟩ : ∃ c, c = cmpN y b := ⟨_, rfl⟩
        have h1 : c1 ≤ 0 := hc1 ▸ cmpN_le S.2.2.1
        have h2 : c2 ≤ 0 := hc2 ▸ cmpN_le S.2.2.2.1
        have k0 := Lib.hid (show ∀ wx, Calls Try.prog 57 #[.agg (W4 a), .agg (W4 b)] wx (Ret wx (.int .i64 c)) from fun wx => by have h := refcmpU ha hb wx; rw [← hc] at h; exact h)
        have k1 := Lib.hid (show ∀ wx, Calls Try.prog 105 #[.agg (W4 b)] wx (Ret wx (.bool true)) from fun wx => by have h := amountU hb wx; rw [hb2] at h; exact h)
        have k2 := Lib.hid (show ∀ wx, Calls Try.prog 104 #[.agg (W4 f)] wx (Ret wx (.bool true)) from fun wx => by have h := goodU hf wx; rw [hg2] at h; exact h)
        have k3 := Lib.hid (show ∀ wx, Calls Try.prog 108 #[.agg (W4 a), .agg (W4 f)] wx (Ret wx (.tuple #[.agg (W4 x), .bool true])) from fun wx => by have h := partU ha hf wx; rw [← hx, S.1] at h; exact h)
        have k4 := Lib.hid (show ∀ wx, Calls Try.prog 108 #[.agg (W4 b), .agg (W4 f)] wx (Ret wx (.tuple #[.agg (W4 y), .bool true])) from fun wx => by have h := partU hb hf wx; rw [← hy, S.2.1] at h; exact h)
        have k5 := Lib.hid (show ∀ wx, Calls Try.prog 107 #[] wx (Ret wx (.agg (W4 E18))) from fun wx => by have h := oneU  wx; exact h)
        have k6 := Lib.hid (show ∀ wx, Calls Try.prog 108 #[.agg (W4 b), .agg (W4 E18)] wx (Ret wx (.tuple #[.agg (W4 b), .bool true])) from fun wx => by have h := partU hb E18_lt wx; rw [S.2.2.2.2.1, S.2.2.2.2.2] at h; exact h)
        have k7 := Lib.hid (show ∀ wx, Calls Try.prog 57 #[.agg (W4 x), .agg (W4 y)] wx (Ret wx (.int .i64 c1)) from fun wx => by have h := refcmpU xl yl wx; rw [← hc1] at h; exact h)
        have k8 := Lib.hid (show ∀ wx, Calls Try.prog 57 #[.agg (W4 y), .agg (W4 b)] wx (Ret wx (.int .i64 c2)) from fun wx => by have h := refcmpU yl hb wx; rw [← hc2] at h; exact h)
        have k9 := Lib.hid (show ∀ wx, Calls Try.prog 106 #[] wx (Ret wx (.bool true)) from fun wx => by have h := lives3U  wx; exact h)
        have q0 : ∀ wx, (Op.equalIn 10000 31 (.agg (W4 b)) (.agg (W4 b))).run Try.prog wx = .ok true wx := fun wx => by rw [eqU hb hb, decide_eq_true rfl]
        clear hc hc1 hc2 hb2 hg2 S hx hy
        go_enter Try.func19, Try.ntmps19
        apply wp_seq_eq
        focus
          intro J hJ
          go_wp2_with fail
          exact hJ
        refine wp_abs (Mem w [(w.heap.size, 31, W4 a), (w.heap.size + 1, 31, W4 b), (w.heap.size + 1 + 1, 31, W4 f)]) ⟨by go_grown, ?_, ?_, ?_, trivial⟩ ?_
        · repeat (first | (refine Row.new_at ?_; simp; done) | refine Row.alloc ?_ _)
        · repeat (first | (refine Row.new_at ?_; simp; done) | refine Row.alloc ?_ _)
        · repeat (first | (refine Row.new_at ?_; simp; done) | refine Row.alloc ?_ _)
        intro w0 hM
        obtain ⟨hl, r0, r1, r2, -⟩ := hM
        go_upto_region 1 with (fail)
        let L : List Sp := [sV 2 [] [] (fun u => u = .int .i64 c), sV 6 [] [] (fun u => u = .bool true), sV 11 [] [] (fun u => u = .bool true)]
        refine wp_region_six0 (shs L) (look6 L) (None_) (by kernel_rfl) (by kernel_rfl) (mk_St L [] [] (by kernel_rfl) (by kernel_rfl) ⟨ok_V ⟨_, rfl⟩, ok_V ⟨_, rfl⟩, ok_V ⟨_, rfl⟩, trivial⟩ (by simp)) ?_
        intro QQ hQ
        -- 0: load<31> *t3
        refine stepK rfl (by kernel_rfl) (fun K hK => ?_); go_simp
        apply Exists.intro; apply And.intro; (focus exact kLoad rfl rfl aggT31 r0 rfl id); refine hK _ _ ?_; clear hK K
        -- 1: load<31> *t4
        refine stepK rfl (by kernel_rfl) (fun K hK => ?_); go_simp
        apply Exists.intro; apply And.intro; (focus exact kLoad rfl rfl aggT31 r1 rfl id); refine hK _ _ ?_; clear hK K
        -- 2: call F57(t13, t14)
        refine stepS _ rfl (by kernel_rfl) (fun K hK => ?_); go_simp
        refine ⟨?_, ?_⟩
        · intro wk hk hg hu; go_simp; refine upon_enter ((k0.out _).mono ?_); rintro e w' ⟨rfl, hb⟩; exact ⟨_, rfl, left_V (p := fun u => u = .int .i64 c) rfl (hb) rfl⟩
        rintro ⟨v2, lo2, hi2⟩ - - (rfl : v2 = _)
        refine hK _ _ ?_; clear hK K
        -- 3: gtr<3> t15, 0
        refine stepK rfl (by kernel_rfl) (fun K hK => ?_); go_simp
        apply Exists.intro; apply And.intro; (focus (intro wk hk; go_simp; exact ⟨rfl, rfl⟩)); refine hK _ _ ?_; clear hK K
        -- 4: t16
        refine stepK rfl (by kernel_rfl) (fun K hK => ?_); go_simp
        apply Exists.intro; apply And.intro; (focus (intro wk hk; go_simp; exact ⟨rfl, rfl⟩)); refine hK _ _ ?_; clear hK K
        -- 5: load<31> *t4
        refine stepK rfl (by kernel_rfl) (fun K hK => ?_); go_simp
        first | (refine hK _ _ ?_; clear hK K) | (apply Exists.intro; apply And.intro; (focus exact kLoad rfl rfl aggT31 r1 rfl id); refine hK _ _ ?_; clear hK K)
        -- 6: call F105(t18)
        refine stepS _ rfl (by kernel_rfl) (fun K hK => ?_); go_simp
        refine ⟨?_, ?_⟩
        · intro wk hk hg hu; go_simp; refine upon_enter ((k1.out _).mono ?_); rintro e w' ⟨rfl, hb⟩; exact ⟨_, rfl, left_V (p := fun u => u = .bool true) rfl (hb) rfl⟩
        rintro ⟨v6, lo6, hi6⟩ - - (rfl : v6 = _)
        refine hK _ _ ?_; clear hK K
        -- 7: not<4> t19
        refine stepK rfl (by kernel_rfl) (fun K hK => ?_); go_simp
        first | (refine hK _ _ ?_; clear hK K) | (apply Exists.intro; apply And.intro; (focus (intro wk hk; go_simp; exact ⟨rfl, rfl⟩)); refine hK _ _ ?_; clear hK K)
        -- 8: pick t17 ? true : t20
        refine stepK rfl (by kernel_rfl) (fun K hK => ?_); go_simp
        apply Exists.intro; apply And.intro; (focus (intro wk hk; go_simp; exact ⟨rfl, rfl⟩)); refine hK _ _ ?_; clear hK K
        -- 9: t21
        refine stepK rfl (by kernel_rfl) (fun K hK => ?_); go_simp
        apply Exists.intro; apply And.intro; (focus (intro wk hk; go_simp; exact ⟨rfl, rfl⟩)); refine hK _ _ ?_; clear hK K
        -- 10: load<31> *t5
        refine stepK rfl (by kernel_rfl) (fun K hK => ?_); go_simp
        first | (refine hK _ _ ?_; clear hK K) | (apply Exists.intro; apply And.intro; (focus exact kLoad rfl rfl aggT31 r2 rfl id); refine hK _ _ ?_; clear hK K)
        -- 11: call F104(t23)
        refine stepS _ rfl (by kernel_rfl) (fun K hK => ?_); go_simp
        refine ⟨?_, ?_⟩
        · intro wk hk hg hu; go_simp; refine upon_enter ((k2.out _).mono ?_); rintro e w' ⟨rfl, hb⟩; exact ⟨_, rfl, left_V (p := fun u => u = .bool true) rfl (hb) rfl⟩
        rintro ⟨v11, lo11, hi11⟩ - - (rfl : v11 = _)
        refine hK _ _ ?_; clear hK K
        -- 12: not<4> t24
        refine stepK rfl (by kernel_rfl) (fun K hK => ?_); go_simp
        first | (refine hK _ _ ?_; clear hK K) | (apply Exists.intro; apply And.intro; (focus (intro wk hk; go_simp; exact ⟨rfl, rfl⟩)); refine hK _ _ ?_; clear hK K)
        -- 13: pick t22 ? true : t25
        refine stepK rfl (by kernel_rfl) (fun K hK => ?_); go_simp
        apply Exists.intro; apply And.intro; (focus (intro wk hk; go_simp; exact ⟨rfl, rfl⟩)); refine hK _ _ ?_; clear hK K
        refine stepN ?_
        refine hQ _ _ ?_
        intro w1 hT hG hF
        have hbw1 := hT.below
        replace r0 := r0.below hbw1 r0.lt
        replace r1 := r1.below hbw1 r1.lt
        replace r2 := r2.below hbw1 r2.lt
        replace hl := hl.trans (hbw1.mono hl.size)
        clear hT hG hF hbw1 hQ QQ L 
        go_upto_region 3 with (fail)
        let L : List Sp := [sV 2 [] [] (fun u => u = .tuple #[.agg (W4 x), .bool true]), sA 6 31 [7] #[.int .u64 0, .int .u64 0, .int .u64 0, .int .u64 0], sT 7 6 31 [4] (fun g => aggOf g 4)]
        refine wp_region_six0 (shs L) (look6 L) (None_) (by kernel_rfl) (by kernel_rfl) (mk_St L [] [] (by kernel_rfl) (by kernel_rfl) ⟨ok_V ⟨_, rfl⟩, ok_A, ok_T aggOf_congr, trivial⟩ (by simp)) ?_
        intro QQ hQ
        -- 0: load<31> *t3
        refine stepK rfl (by kernel_rfl) (fun K hK => ?_); go_simp
        apply Exists.intro; apply And.intro; (focus exact kLoad rfl rfl aggT31 r0 rfl id); refine hK _ _ ?_; clear hK K
        -- 1: load<31> *t5
        refine stepK rfl (by kernel_rfl) (fun K hK => ?_); go_simp
        apply Exists.intro; apply And.intro; (focus exact kLoad rfl rfl aggT31 r2 rfl id); refine hK _ _ ?_; clear hK K
        -- 2: call F108(t29, t30)
        refine stepS _ rfl (by kernel_rfl) (fun K hK => ?_); go_simp
        refine ⟨?_, ?_⟩
        · intro wk hk hg hu; go_simp; refine upon_enter ((k3.out _).mono ?_); rintro e w' ⟨rfl, hb⟩; exact ⟨_, rfl, left_V (p := fun u => u = .tuple #[.agg (W4 x), .bool true]) rfl (hb) rfl⟩
        rintro ⟨v2, lo2, hi2⟩ - - (rfl : v2 = _)
        refine hK _ _ ?_; clear hK K
        -- 3: t31
        refine stepK rfl (by kernel_rfl) (fun K hK => ?_); go_simp
        apply Exists.intro; apply And.intro; (focus (intro wk hk; go_simp; exact ⟨rfl, rfl⟩)); refine hK _ _ ?_; clear hK K
        -- 4: extract t28 #0
        refine stepK rfl (by kernel_rfl) (fun K hK => ?_); go_simp
        apply Exists.intro; apply And.intro; (focus (intro wk hk; go_simp; exact ⟨rfl, rfl⟩)); refine hK _ _ ?_; clear hK K
        -- 5: extract t28 #1
        refine stepK rfl (by kernel_rfl) (fun K hK => ?_); go_simp
        apply Exists.intro; apply And.intro; (focus (intro wk hk; go_simp; exact ⟨rfl, rfl⟩)); refine hK _ _ ?_; clear hK K
        -- 6: alloc<31>
        refine stepS _ rfl (by kernel_rfl) (fun K hK => ?_); go_simp
        refine ⟨?_, ?_⟩
        · intro wk hk hg hu; go_simp; exact left_A rfl rfl
        rintro ⟨v6, lo6, hi6⟩ hlo6 hhi6 ⟨e6, f6⟩
        replace e6 : v6 = .pointer (some ⟨lo6, 0, none⟩) := e6; replace f6 : hi6 = lo6 + 1 := f6; replace hlo6 : _ ≤ lo6 := hlo6; subst e6; subst f6
        refine hK _ _ ?_; clear hK K
        -- 7: store<31> *t7 = t32
        refine stepS _ rfl (by kernel_rfl) (fun K hK => ?_); go_simp
        refine ⟨?_, ?_⟩
        · exact sStoreT rfl rfl rfl rfl rfl rfl rfl (by kernel_rfl) rfl (by kernel_rfl) (by decide) aggOf_congr
        rintro ⟨v7, lo7, hi7⟩ - - (rfl : v7 = undef)
        refine hK _ _ ?_; clear hK K
        -- 8: assign t33
        refine stepK rfl (by kernel_rfl) (fun K hK => ?_); go_simp
        apply Exists.intro; apply And.intro; (focus (intro wk hk; go_simp; exact ⟨rfl, rfl⟩)); refine hK _ _ ?_; clear hK K
        refine stepN ?_
        refine hQ _ _ ?_
        intro w2 hT hG hF
        have hbw2 := hT.below
        have r3 : Row w2 lo6 31 ((W4 x)) := (hF 7 _ rfl rfl (by decide)).2
        replace r0 := r0.below hbw2 r0.lt
        replace r1 := r1.below hbw2 r1.lt
        replace r2 := r2.below hbw2 r2.lt
        replace hl := hl.trans (hbw2.mono hl.size)
        clear hT hG hF hbw2 hQ QQ L hlo6 hhi6
        go_upto_region 4 with (fail)
        let L : List Sp := [sV 2 [] [] (fun u => u = .tuple #[.agg (W4 y), .bool true]), sA 6 31 [7] #[.int .u64 0, .int .u64 0, .int .u64 0, .int .u64 0], sT 7 6 31 [4] (fun g => aggOf g 4)]
        refine wp_region_six0 (shs L) (look6 L) (None_) (by kernel_rfl) (by kernel_rfl) (mk_St L [] [] (by kernel_rfl) (by kernel_rfl) ⟨ok_V ⟨_, rfl⟩, ok_A, ok_T aggOf_congr, trivial⟩ (by simp)) ?_
        intro QQ hQ
        -- 0: load<31> *t4
        refine stepK rfl (by kernel_rfl) (fun K hK => ?_); go_simp
        apply Exists.intro; apply And.intro; (focus exact kLoad rfl rfl aggT31 r1 rfl id); refine hK _ _ ?_; clear hK K
        -- 1: load<31> *t5
        refine stepK rfl (by kernel_rfl) (fun K hK => ?_); go_simp
        apply Exists.intro; apply And.intro; (focus exact kLoad rfl rfl aggT31 r2 rfl id); refine hK _ _ ?_; clear hK K
        -- 2: call F108(t35, t36)
        refine stepS _ rfl (by kernel_rfl) (fun K hK => ?_); go_simp
        refine ⟨?_, ?_⟩
        · intro wk hk hg hu; go_simp; refine upon_enter ((k4.out _).mono ?_); rintro e w' ⟨rfl, hb⟩; exact ⟨_, rfl, left_V (p := fun u => u = .tuple #[.agg (W4 y), .bool true]) rfl (hb) rfl⟩
        rintro ⟨v2, lo2, hi2⟩ - - (rfl : v2 = _)
        refine hK _ _ ?_; clear hK K
        -- 3: t37
        refine stepK rfl (by kernel_rfl) (fun K hK => ?_); go_simp
        apply Exists.intro; apply And.intro; (focus (intro wk hk; go_simp; exact ⟨rfl, rfl⟩)); refine hK _ _ ?_; clear hK K
        -- 4: extract t34 #0
        refine stepK rfl (by kernel_rfl) (fun K hK => ?_); go_simp
        apply Exists.intro; apply And.intro; (focus (intro wk hk; go_simp; exact ⟨rfl, rfl⟩)); refine hK _ _ ?_; clear hK K
        -- 5: extract t34 #1
        refine stepK rfl (by kernel_rfl) (fun K hK => ?_); go_simp
        apply Exists.intro; apply And.intro; (focus (intro wk hk; go_simp; exact ⟨rfl, rfl⟩)); refine hK _ _ ?_; clear hK K
        -- 6: alloc<31>
        refine stepS _ rfl (by kernel_rfl) (fun K hK => ?_); go_simp
        refine ⟨?_, ?_⟩
        · intro wk hk hg hu; go_simp; exact left_A rfl rfl
        rintro ⟨v6, lo6, hi6⟩ hlo6 hhi6 ⟨e6, f6⟩
        replace e6 : v6 = .pointer (some ⟨lo6, 0, none⟩) := e6; replace f6 : hi6 = lo6 + 1 := f6; replace hlo6 : _ ≤ lo6 := hlo6; subst e6; subst f6
        refine hK _ _ ?_; clear hK K
        -- 7: store<31> *t9 = t38
        refine stepS _ rfl (by kernel_rfl) (fun K hK => ?_); go_simp
        refine ⟨?_, ?_⟩
        · exact sStoreT rfl rfl rfl rfl rfl rfl rfl (by kernel_rfl) rfl (by kernel_rfl) (by decide) aggOf_congr
        rintro ⟨v7, lo7, hi7⟩ - - (rfl : v7 = undef)
        refine hK _ _ ?_; clear hK K
        -- 8: assign t39
        refine stepK rfl (by kernel_rfl) (fun K hK => ?_); go_simp
        apply Exists.intro; apply And.intro; (focus (intro wk hk; go_simp; exact ⟨rfl, rfl⟩)); refine hK _ _ ?_; clear hK K
        refine stepN ?_
        refine hQ _ _ ?_
        intro w3 hT hG hF
        have hbw3 := hT.below
        have r4 : Row w3 lo6 31 ((W4 y)) := (hF 7 _ rfl rfl (by decide)).2
        replace r0 := r0.below hbw3 r0.lt
        replace r1 := r1.below hbw3 r1.lt
        replace r2 := r2.below hbw3 r2.lt
        replace r3 := r3.below hbw3 r3.lt
        replace hl := hl.trans (hbw3.mono hl.size)
        clear hT hG hF hbw3 hQ QQ L hlo6 hhi6
        go_upto_region 5 with (fail)
        let L : List Sp := [sV 1 [] [] (fun u => u = .agg (W4 E18)), sV 2 [] [] (fun u => u = .tuple #[.agg (W4 b), .bool true]), sA 6 31 [7] #[.int .u64 0, .int .u64 0, .int .u64 0, .int .u64 0], sT 7 6 31 [4] (fun g => aggOf g 4)]
        refine wp_region_six (shs L) (look6 L) (None_) (by kernel_rfl) (by kernel_rfl) (mk_St L [] [] (by kernel_rfl) (by kernel_rfl) ⟨ok_V ⟨_, rfl⟩, ok_V ⟨_, rfl⟩, ok_A, ok_T aggOf_congr, trivial⟩ (by simp)) ?_
        intro QQ hQ
        -- 0: load<31> *t4
        refine stepK rfl (by kernel_rfl) (fun K hK => ?_); go_simp
        apply Exists.intro; apply And.intro; (focus exact kLoad rfl rfl aggT31 r1 rfl id); refine hK _ _ ?_; clear hK K
        -- 1: call F107()
        refine stepS _ rfl (by kernel_rfl) (fun K hK => ?_); go_simp
        refine ⟨?_, ?_⟩
        · intro wk hk hg hu; go_simp; refine upon_enter ((k5.out _).mono ?_); rintro e w' ⟨rfl, hb⟩; exact ⟨_, rfl, left_V (p := fun u => u = .agg (W4 E18)) rfl (hb) rfl⟩
        rintro ⟨v1, lo1, hi1⟩ - - (rfl : v1 = _)
        refine hK _ _ ?_; clear hK K
        -- 2: call F108(t41, t42)
        refine stepS _ rfl (by kernel_rfl) (fun K hK => ?_); go_simp
        refine ⟨?_, ?_⟩
        · intro wk hk hg hu; go_simp; refine upon_enter ((k6.out _).mono ?_); rintro e w' ⟨rfl, hb⟩; exact ⟨_, rfl, left_V (p := fun u => u = .tuple #[.agg (W4 b), .bool true]) rfl (hb) rfl⟩
        rintro ⟨v2, lo2, hi2⟩ - - (rfl : v2 = _)
        refine hK _ _ ?_; clear hK K
        -- 3: t43
        refine stepK rfl (by kernel_rfl) (fun K hK => ?_); go_simp
        apply Exists.intro; apply And.intro; (focus (intro wk hk; go_simp; exact ⟨rfl, rfl⟩)); refine hK _ _ ?_; clear hK K
        -- 4: extract t40 #0
        refine stepK rfl (by kernel_rfl) (fun K hK => ?_); go_simp
        apply Exists.intro; apply And.intro; (focus (intro wk hk; go_simp; exact ⟨rfl, rfl⟩)); refine hK _ _ ?_; clear hK K
        -- 5: extract t40 #1
        refine stepK rfl (by kernel_rfl) (fun K hK => ?_); go_simp
        apply Exists.intro; apply And.intro; (focus (intro wk hk; go_simp; exact ⟨rfl, rfl⟩)); refine hK _ _ ?_; clear hK K
        -- 6: alloc<31>
        refine stepS _ rfl (by kernel_rfl) (fun K hK => ?_); go_simp
        refine ⟨?_, ?_⟩
        · intro wk hk hg hu; go_simp; exact left_A rfl rfl
        rintro ⟨v6, lo6, hi6⟩ hlo6 hhi6 ⟨e6, f6⟩
        replace e6 : v6 = .pointer (some ⟨lo6, 0, none⟩) := e6; replace f6 : hi6 = lo6 + 1 := f6; replace hlo6 : _ ≤ lo6 := hlo6; subst e6; subst f6
        refine hK _ _ ?_; clear hK K
        -- 7: store<31> *t11 = t44
        refine stepS _ rfl (by kernel_rfl) (fun K hK => ?_); go_simp
        refine ⟨?_, ?_⟩
        · exact sStoreT rfl rfl rfl rfl rfl rfl rfl (by kernel_rfl) rfl (by kernel_rfl) (by decide) aggOf_congr
        rintro ⟨v7, lo7, hi7⟩ - - (rfl : v7 = undef)
        refine hK _ _ ?_; clear hK K
        -- 8: assign t45
        refine stepK rfl (by kernel_rfl) (fun K hK => ?_); go_simp
        apply Exists.intro; apply And.intro; (focus (intro wk hk; go_simp; exact ⟨rfl, rfl⟩)); refine hK _ _ ?_; clear hK K
        refine stepN ?_
        refine hQ _ _ ?_
        intro w4 hT hG hF
        have hbw4 := hT.undrew.below
        have r5 : Row w4 lo6 31 ((W4 b)) := (hF 7 _ rfl rfl (by decide)).2
        replace r0 := r0.below hbw4 r0.lt
        replace r1 := r1.below hbw4 r1.lt
        replace r2 := r2.below hbw4 r2.lt
        replace r3 := r3.below hbw4 r3.lt
        replace r4 := r4.below hbw4 r4.lt
        replace hl := hl.trans (hbw4.mono hl.size)
        clear hT hG hF hbw4 hQ QQ L hlo6 hhi6
        go_upto_region 6 with (fail)
        let L : List Sp := [sV 10 [] [] (fun u => u = .int .i64 c1), sV 16 [] [] (fun u => u = .int .i64 c2), sV 25 [] [] (fun u => u = .bool true)]
        refine wp_region_six0 (shs L) (look6 L) (None_) (by kernel_rfl) (by kernel_rfl) (mk_St L [] [] (by kernel_rfl) (by kernel_rfl) ⟨ok_V ⟨_, rfl⟩, ok_V ⟨_, rfl⟩, ok_V ⟨_, rfl⟩, trivial⟩ (by simp)) ?_
        intro QQ hQ
        -- 0: t8
        refine stepK rfl (by kernel_rfl) (fun K hK => ?_); go_simp
        apply Exists.intro; apply And.intro; (focus (intro wk hk; go_simp; exact ⟨rfl, rfl⟩)); refine hK _ _ ?_; clear hK K
        -- 1: t46
        refine stepK rfl (by kernel_rfl) (fun K hK => ?_); go_simp
        apply Exists.intro; apply And.intro; (focus (intro wk hk; go_simp; exact ⟨rfl, rfl⟩)); refine hK _ _ ?_; clear hK K
        -- 2: t10
        refine stepK rfl (by kernel_rfl) (fun K hK => ?_); go_simp
        first | (refine hK _ _ ?_; clear hK K) | (apply Exists.intro; apply And.intro; (focus (intro wk hk; go_simp; exact ⟨rfl, rfl⟩)); refine hK _ _ ?_; clear hK K)
        -- 3: pick t47 ? t48 : false
        refine stepK rfl (by kernel_rfl) (fun K hK => ?_); go_simp
        apply Exists.intro; apply And.intro; (focus (intro wk hk; go_simp; exact ⟨rfl, rfl⟩)); refine hK _ _ ?_; clear hK K
        -- 4: t49
        refine stepK rfl (by kernel_rfl) (fun K hK => ?_); go_simp
        apply Exists.intro; apply And.intro; (focus (intro wk hk; go_simp; exact ⟨rfl, rfl⟩)); refine hK _ _ ?_; clear hK K
        -- 5: t12
        refine stepK rfl (by kernel_rfl) (fun K hK => ?_); go_simp
        first | (refine hK _ _ ?_; clear hK K) | (apply Exists.intro; apply And.intro; (focus (intro wk hk; go_simp; exact ⟨rfl, rfl⟩)); refine hK _ _ ?_; clear hK K)
        -- 6: pick t50 ? t51 : false
        refine stepK rfl (by kernel_rfl) (fun K hK => ?_); go_simp
        apply Exists.intro; apply And.intro; (focus (intro wk hk; go_simp; exact ⟨rfl, rfl⟩)); refine hK _ _ ?_; clear hK K
        -- 7: t52
        refine stepK rfl (by kernel_rfl) (fun K hK => ?_); go_simp
        apply Exists.intro; apply And.intro; (focus (intro wk hk; go_simp; exact ⟨rfl, rfl⟩)); refine hK _ _ ?_; clear hK K
        -- 8: load<31> *t7
        refine stepK rfl (by kernel_rfl) (fun K hK => ?_); go_simp
        first | (refine hK _ _ ?_; clear hK K) | (apply Exists.intro; apply And.intro; (focus exact kLoad rfl rfl aggT31 r3 rfl id); refine hK _ _ ?_; clear hK K)
        -- 9: load<31> *t9
        refine stepK rfl (by kernel_rfl) (fun K hK => ?_); go_simp
        first | (refine hK _ _ ?_; clear hK K) | (apply Exists.intro; apply And.intro; (focus exact kLoad rfl rfl aggT31 r4 rfl id); refine hK _ _ ?_; clear hK K)
        -- 10: call F57(t54, t55)
        refine stepS _ rfl (by kernel_rfl) (fun K hK => ?_); go_simp
        refine ⟨?_, ?_⟩
        · intro wk hk hg hu; go_simp; refine upon_enter ((k7.out _).mono ?_); rintro e w' ⟨rfl, hb⟩; exact ⟨_, rfl, left_V (p := fun u => u = .int .i64 c1) rfl (hb) rfl⟩
        rintro ⟨v10, lo10, hi10⟩ - - (rfl : v10 = _)
        refine hK _ _ ?_; clear hK K
        -- 11: leq<3> t56, 0
        refine stepK rfl (by kernel_rfl) (fun K hK => ?_); go_simp
        first | (refine hK _ _ ?_; clear hK K) | (apply Exists.intro; apply And.intro; (focus (intro wk hk; go_simp; exact ⟨rfl, rfl⟩)); refine hK _ _ ?_; clear hK K)
        -- 12: pick t53 ? t57 : false
        refine stepK rfl (by kernel_rfl) (fun K hK => ?_); go_simp
        apply Exists.intro; apply And.intro; (focus (intro wk hk; go_simp; exact ⟨rfl, rfl⟩)); refine hK _ _ ?_; clear hK K
        -- 13: t58
        refine stepK rfl (by kernel_rfl) (fun K hK => ?_); go_simp
        apply Exists.intro; apply And.intro; (focus (intro wk hk; go_simp; exact ⟨rfl, rfl⟩)); refine hK _ _ ?_; clear hK K
        -- 14: load<31> *t9
        refine stepK rfl (by kernel_rfl) (fun K hK => ?_); go_simp
        first | (refine hK _ _ ?_; clear hK K) | (apply Exists.intro; apply And.intro; (focus exact kLoad rfl rfl aggT31 r4 rfl id); refine hK _ _ ?_; clear hK K)
        -- 15: load<31> *t11
        refine stepK rfl (by kernel_rfl) (fun K hK => ?_); go_simp
        first | (refine hK _ _ ?_; clear hK K) | (apply Exists.intro; apply And.intro; (focus exact kLoad rfl rfl aggT31 r5 rfl id); refine hK _ _ ?_; clear hK K)
        -- 16: call F57(t60, t61)
        refine stepS _ rfl (by kernel_rfl) (fun K hK => ?_); go_simp
        refine ⟨?_, ?_⟩
        · intro wk hk hg hu; go_simp; refine upon_enter ((k8.out _).mono ?_); rintro e w' ⟨rfl, hb⟩; exact ⟨_, rfl, left_V (p := fun u => u = .int .i64 c2) rfl (hb) rfl⟩
        rintro ⟨v16, lo16, hi16⟩ - - (rfl : v16 = _)
        refine hK _ _ ?_; clear hK K
        -- 17: leq<3> t62, 0
        refine stepK rfl (by kernel_rfl) (fun K hK => ?_); go_simp
        first | (refine hK _ _ ?_; clear hK K) | (apply Exists.intro; apply And.intro; (focus (intro wk hk; go_simp; exact ⟨rfl, rfl⟩)); refine hK _ _ ?_; clear hK K)
        -- 18: pick t59 ? t63 : false
        refine stepK rfl (by kernel_rfl) (fun K hK => ?_); go_simp
        apply Exists.intro; apply And.intro; (focus (intro wk hk; go_simp; exact ⟨rfl, rfl⟩)); refine hK _ _ ?_; clear hK K
        -- 19: t64
        refine stepK rfl (by kernel_rfl) (fun K hK => ?_); go_simp
        apply Exists.intro; apply And.intro; (focus (intro wk hk; go_simp; exact ⟨rfl, rfl⟩)); refine hK _ _ ?_; clear hK K
        -- 20: load<31> *t11
        refine stepK rfl (by kernel_rfl) (fun K hK => ?_); go_simp
        first | (refine hK _ _ ?_; clear hK K) | (apply Exists.intro; apply And.intro; (focus exact kLoad rfl rfl aggT31 r5 rfl id); refine hK _ _ ?_; clear hK K)
        -- 21: load<31> *t4
        refine stepK rfl (by kernel_rfl) (fun K hK => ?_); go_simp
        first | (refine hK _ _ ?_; clear hK K) | (apply Exists.intro; apply And.intro; (focus exact kLoad rfl rfl aggT31 r1 rfl id); refine hK _ _ ?_; clear hK K)
        -- 22: eql<31> t66, t67
        refine stepK rfl (by kernel_rfl) (fun K hK => ?_); go_simp
        first | (refine hK _ _ ?_; clear hK K) | (apply Exists.intro; apply And.intro; (focus (intro wk hk; go_simp; exact ⟨rfl, rfl⟩)); refine hK _ _ ?_; clear hK K)
        -- 23: pick t65 ? t68 : false
        refine stepK rfl (by kernel_rfl) (fun K hK => ?_); go_simp
        apply Exists.intro; apply And.intro; (focus (intro wk hk; go_simp; exact ⟨rfl, rfl⟩)); refine hK _ _ ?_; clear hK K
        -- 24: t69
        refine stepK rfl (by kernel_rfl) (fun K hK => ?_); go_simp
        apply Exists.intro; apply And.intro; (focus (intro wk hk; go_simp; exact ⟨rfl, rfl⟩)); refine hK _ _ ?_; clear hK K
        -- 25: call F106()
        refine stepS _ rfl (by kernel_rfl) (fun K hK => ?_); go_simp
        refine ⟨?_, ?_⟩
        · intro wk hk hg hu; go_simp; refine upon_enter ((k9.out _).mono ?_); rintro e w' ⟨rfl, hb⟩; exact ⟨_, rfl, left_V (p := fun u => u = .bool true) rfl (hb) rfl⟩
        rintro ⟨v25, lo25, hi25⟩ - - (rfl : v25 = _)
        refine hK _ _ ?_; clear hK K
        -- 26: pick t70 ? t71 : false
        refine stepK rfl (by kernel_rfl) (fun K hK => ?_); go_simp
        apply Exists.intro; apply And.intro; (focus (intro wk hk; go_simp; exact ⟨rfl, rfl⟩)); refine hK _ _ ?_; clear hK K
        -- 27: assign t72
        refine stepK rfl (by kernel_rfl) (fun K hK => ?_); go_simp
        apply Exists.intro; apply And.intro; (focus (intro wk hk; go_simp; exact ⟨rfl, rfl⟩)); refine hK _ _ ?_; clear hK K
        refine stepN ?_
        refine hQ _ _ ?_
        intro w5 hT hG hF
        have hbw5 := hT.below
        replace r0 := r0.below hbw5 r0.lt
        replace r1 := r1.below hbw5 r1.lt
        replace r2 := r2.below hbw5 r2.lt
        replace r3 := r3.below hbw5 r3.lt
        replace r4 := r4.below hbw5 r4.lt
        replace r5 := r5.below hbw5 r5.lt
        replace hl := hl.trans (hbw5.mono hl.size)
        clear hT hG hF hbw5 hQ QQ L 
        go_wp2_with fail
        go_ret
        exact ⟨rfl, hl⟩
      · have hg2 : decide (f ≤ E18) = false := decide_eq_false hg1
        clear hab hb1 hg1
        have k0 := Lib.hid (show ∀ wx, Calls Try.prog 57 #[.agg (W4 a), .agg (W4 b)] wx (Ret wx (.int .i64 c)) from fun wx => by have h := refcmpU ha hb wx; rw [← hc] at h; exact h)
        have k1 := Lib.hid (show ∀ wx, Calls Try.prog 105 #[.agg (W4 b)] wx (Ret wx (.bool true)) from fun wx => by have h := amountU hb wx; rw [hb2] at h; exact h)
        have k2 := Lib.hid (show ∀ wx, Calls Try.prog 104 #[.agg (W4 f)] wx (Ret wx (.bool false)) from fun wx => by have h := goodU hf wx; rw [hg2] at h; exact h)
        have k3 := Lib.hid (show ∀ wx, Calls Try.prog 106 #[] wx (Ret wx (.bool true)) from fun wx => by have h := lives3U  wx; exact h)
        clear hc hb2 hg2
        go_enter Try.func19, Try.ntmps19
        apply wp_seq_eq
        focus
          intro J hJ
          go_wp2_with fail
          exact hJ
        refine wp_abs (Mem w [(w.heap.size, 31, W4 a), (w.heap.size + 1, 31, W4 b), (w.heap.size + 1 + 1, 31, W4 f)]) ⟨by go_grown, ?_, ?_, ?_, trivial⟩ ?_
        · repeat (first | (refine Row.new_at ?_; simp; done) | refine Row.alloc ?_ _)
        · repeat (first | (refine Row.new_at ?_; simp; done) | refine Row.alloc ?_ _)
        · repeat (first | (refine Row.new_at ?_; simp; done) | refine Row.alloc ?_ _)
        intro w0 hM
        obtain ⟨hl, r0, r1, r2, -⟩ := hM
        go_upto_region 1 with (fail)
        let L : List Sp := [sV 2 [] [] (fun u => u = .int .i64 c), sV 6 [] [] (fun u => u = .bool true), sV 11 [] [] (fun u => u = .bool false)]
        refine wp_region_six0 (shs L) (look6 L) (None_) (by kernel_rfl) (by kernel_rfl) (mk_St L [] [] (by kernel_rfl) (by kernel_rfl) ⟨ok_V ⟨_, rfl⟩, ok_V ⟨_, rfl⟩, ok_V ⟨_, rfl⟩, trivial⟩ (by simp)) ?_
        intro QQ hQ
        -- 0: load<31> *t3
        refine stepK rfl (by kernel_rfl) (fun K hK => ?_); go_simp
        apply Exists.intro; apply And.intro; (focus exact kLoad rfl rfl aggT31 r0 rfl id); refine hK _ _ ?_; clear hK K
        -- 1: load<31> *t4
        refine stepK rfl (by kernel_rfl) (fun K hK => ?_); go_simp
        apply Exists.intro; apply And.intro; (focus exact kLoad rfl rfl aggT31 r1 rfl id); refine hK _ _ ?_; clear hK K
        -- 2: call F57(t13, t14)
        refine stepS _ rfl (by kernel_rfl) (fun K hK => ?_); go_simp
        refine ⟨?_, ?_⟩
        · intro wk hk hg hu; go_simp; refine upon_enter ((k0.out _).mono ?_); rintro e w' ⟨rfl, hb⟩; exact ⟨_, rfl, left_V (p := fun u => u = .int .i64 c) rfl (hb) rfl⟩
        rintro ⟨v2, lo2, hi2⟩ - - (rfl : v2 = _)
        refine hK _ _ ?_; clear hK K
        -- 3: gtr<3> t15, 0
        refine stepK rfl (by kernel_rfl) (fun K hK => ?_); go_simp
        apply Exists.intro; apply And.intro; (focus (intro wk hk; go_simp; exact ⟨rfl, rfl⟩)); refine hK _ _ ?_; clear hK K
        -- 4: t16
        refine stepK rfl (by kernel_rfl) (fun K hK => ?_); go_simp
        apply Exists.intro; apply And.intro; (focus (intro wk hk; go_simp; exact ⟨rfl, rfl⟩)); refine hK _ _ ?_; clear hK K
        -- 5: load<31> *t4
        refine stepK rfl (by kernel_rfl) (fun K hK => ?_); go_simp
        first | (refine hK _ _ ?_; clear hK K) | (apply Exists.intro; apply And.intro; (focus exact kLoad rfl rfl aggT31 r1 rfl id); refine hK _ _ ?_; clear hK K)
        -- 6: call F105(t18)
        refine stepS _ rfl (by kernel_rfl) (fun K hK => ?_); go_simp
        refine ⟨?_, ?_⟩
        · intro wk hk hg hu; go_simp; refine upon_enter ((k1.out _).mono ?_); rintro e w' ⟨rfl, hb⟩; exact ⟨_, rfl, left_V (p := fun u => u = .bool true) rfl (hb) rfl⟩
        rintro ⟨v6, lo6, hi6⟩ - - (rfl : v6 = _)
        refine hK _ _ ?_; clear hK K
        -- 7: not<4> t19
        refine stepK rfl (by kernel_rfl) (fun K hK => ?_); go_simp
        first | (refine hK _ _ ?_; clear hK K) | (apply Exists.intro; apply And.intro; (focus (intro wk hk; go_simp; exact ⟨rfl, rfl⟩)); refine hK _ _ ?_; clear hK K)
        -- 8: pick t17 ? true : t20
        refine stepK rfl (by kernel_rfl) (fun K hK => ?_); go_simp
        apply Exists.intro; apply And.intro; (focus (intro wk hk; go_simp; exact ⟨rfl, rfl⟩)); refine hK _ _ ?_; clear hK K
        -- 9: t21
        refine stepK rfl (by kernel_rfl) (fun K hK => ?_); go_simp
        apply Exists.intro; apply And.intro; (focus (intro wk hk; go_simp; exact ⟨rfl, rfl⟩)); refine hK _ _ ?_; clear hK K
        -- 10: load<31> *t5
        refine stepK rfl (by kernel_rfl) (fun K hK => ?_); go_simp
        first | (refine hK _ _ ?_; clear hK K) | (apply Exists.intro; apply And.intro; (focus exact kLoad rfl rfl aggT31 r2 rfl id); refine hK _ _ ?_; clear hK K)
        -- 11: call F104(t23)
        refine stepS _ rfl (by kernel_rfl) (fun K hK => ?_); go_simp
        refine ⟨?_, ?_⟩
        · intro wk hk hg hu; go_simp; refine upon_enter ((k2.out _).mono ?_); rintro e w' ⟨rfl, hb⟩; exact ⟨_, rfl, left_V (p := fun u => u = .bool false) rfl (hb) rfl⟩
        rintro ⟨v11, lo11, hi11⟩ - - (rfl : v11 = _)
        refine hK _ _ ?_; clear hK K
        -- 12: not<4> t24
        refine stepK rfl (by kernel_rfl) (fun K hK => ?_); go_simp
        first | (refine hK _ _ ?_; clear hK K) | (apply Exists.intro; apply And.intro; (focus (intro wk hk; go_simp; exact ⟨rfl, rfl⟩)); refine hK _ _ ?_; clear hK K)
        -- 13: pick t22 ? true : t25
        refine stepK rfl (by kernel_rfl) (fun K hK => ?_); go_simp
        apply Exists.intro; apply And.intro; (focus (intro wk hk; go_simp; exact ⟨rfl, rfl⟩)); refine hK _ _ ?_; clear hK K
        refine stepN ?_
        refine hQ _ _ ?_
        intro w1 hT hG hF
        have hbw1 := hT.below
        replace r0 := r0.below hbw1 r0.lt
        replace r1 := r1.below hbw1 r1.lt
        replace r2 := r2.below hbw1 r2.lt
        replace hl := hl.trans (hbw1.mono hl.size)
        clear hT hG hF hbw1 hQ QQ L 
        go_upto_region 2 with (fail)
        let L : List Sp := [sV 0 [] [] (fun u => u = .bool true)]
        refine wp_region_six0 (shs L) (look6 L) (None_) (by kernel_rfl) (by kernel_rfl) (mk_St L [] [] (by kernel_rfl) (by kernel_rfl) ⟨ok_V ⟨_, rfl⟩, trivial⟩ (by simp)) ?_
        intro QQ hQ
        -- 0: call F106()
        refine stepS _ rfl (by kernel_rfl) (fun K hK => ?_); go_simp
        refine ⟨?_, ?_⟩
        · intro wk hk hg hu; go_simp; refine upon_enter ((k3.out _).mono ?_); rintro e w' ⟨rfl, hb⟩; exact ⟨_, rfl, left_V (p := fun u => u = .bool true) rfl (hb) rfl⟩
        rintro ⟨v0, lo0, hi0⟩ - - (rfl : v0 = _)
        refine hK _ _ ?_; clear hK K
        -- 1: assign t27
        refine stepK rfl (by kernel_rfl) (fun K hK => ?_); go_simp
        apply Exists.intro; apply And.intro; (focus (intro wk hk; go_simp; exact ⟨rfl, rfl⟩)); refine hK _ _ ?_; clear hK K
        refine stepN ?_
        refine hQ _ _ ?_
        intro w2 hT hG hF
        have hbw2 := hT.below
        replace r0 := r0.below hbw2 r0.lt
        replace r1 := r1.below hbw2 r1.lt
        replace r2 := r2.below hbw2 r2.lt
        replace hl := hl.trans (hbw2.mono hl.size)
        clear hT hG hF hbw2 hQ QQ L 
        go_wp2_with fail
        go_ret
        exact ⟨rfl, hl⟩
    · have hb2 : decide (b < M2) = false := decide_eq_false hb1
      clear hab hb1
      have k0 := Lib.hid (show ∀ wx, Calls Try.prog 57 #[.agg (W4 a), .agg (W4 b)] wx (Ret wx (.int .i64 c)) from fun wx => by have h := refcmpU ha hb wx; rw [← hc] at h; exact h)
      have k1 := Lib.hid (show ∀ wx, Calls Try.prog 105 #[.agg (W4 b)] wx (Ret wx (.bool false)) from fun wx => by have h := amountU hb wx; rw [hb2] at h; exact h)
      have k2 := Lib.hid (show ∀ wx, Calls Try.prog 106 #[] wx (Ret wx (.bool true)) from fun wx => by have h := lives3U  wx; exact h)
      clear hc hb2
      go_enter Try.func19, Try.ntmps19
      apply wp_seq_eq
      focus
        intro J hJ
        go_wp2_with fail
        exact hJ
      refine wp_abs (Mem w [(w.heap.size, 31, W4 a), (w.heap.size + 1, 31, W4 b), (w.heap.size + 1 + 1, 31, W4 f)]) ⟨by go_grown, ?_, ?_, ?_, trivial⟩ ?_
      · repeat (first | (refine Row.new_at ?_; simp; done) | refine Row.alloc ?_ _)
      · repeat (first | (refine Row.new_at ?_; simp; done) | refine Row.alloc ?_ _)
      · repeat (first | (refine Row.new_at ?_; simp; done) | refine Row.alloc ?_ _)
      intro w0 hM
      obtain ⟨hl, r0, r1, r2, -⟩ := hM
      go_upto_region 1 with (fail)
      let L : List Sp := [sV 2 [] [] (fun u => u = .int .i64 c), sV 6 [] [] (fun u => u = .bool false)]
      refine wp_region_six0 (shs L) (look6 L) (None_) (by kernel_rfl) (by kernel_rfl) (mk_St L [] [] (by kernel_rfl) (by kernel_rfl) ⟨ok_V ⟨_, rfl⟩, ok_V ⟨_, rfl⟩, trivial⟩ (by simp)) ?_
      intro QQ hQ
      -- 0: load<31> *t3
      refine stepK rfl (by kernel_rfl) (fun K hK => ?_); go_simp
      apply Exists.intro; apply And.intro; (focus exact kLoad rfl rfl aggT31 r0 rfl id); refine hK _ _ ?_; clear hK K
      -- 1: load<31> *t4
      refine stepK rfl (by kernel_rfl) (fun K hK => ?_); go_simp
      apply Exists.intro; apply And.intro; (focus exact kLoad rfl rfl aggT31 r1 rfl id); refine hK _ _ ?_; clear hK K
      -- 2: call F57(t13, t14)
      refine stepS _ rfl (by kernel_rfl) (fun K hK => ?_); go_simp
      refine ⟨?_, ?_⟩
      · intro wk hk hg hu; go_simp; refine upon_enter ((k0.out _).mono ?_); rintro e w' ⟨rfl, hb⟩; exact ⟨_, rfl, left_V (p := fun u => u = .int .i64 c) rfl (hb) rfl⟩
      rintro ⟨v2, lo2, hi2⟩ - - (rfl : v2 = _)
      refine hK _ _ ?_; clear hK K
      -- 3: gtr<3> t15, 0
      refine stepK rfl (by kernel_rfl) (fun K hK => ?_); go_simp
      apply Exists.intro; apply And.intro; (focus (intro wk hk; go_simp; exact ⟨rfl, rfl⟩)); refine hK _ _ ?_; clear hK K
      -- 4: t16
      refine stepK rfl (by kernel_rfl) (fun K hK => ?_); go_simp
      apply Exists.intro; apply And.intro; (focus (intro wk hk; go_simp; exact ⟨rfl, rfl⟩)); refine hK _ _ ?_; clear hK K
      -- 5: load<31> *t4
      refine stepK rfl (by kernel_rfl) (fun K hK => ?_); go_simp
      first | (refine hK _ _ ?_; clear hK K) | (apply Exists.intro; apply And.intro; (focus exact kLoad rfl rfl aggT31 r1 rfl id); refine hK _ _ ?_; clear hK K)
      -- 6: call F105(t18)
      refine stepS _ rfl (by kernel_rfl) (fun K hK => ?_); go_simp
      refine ⟨?_, ?_⟩
      · intro wk hk hg hu; go_simp; refine upon_enter ((k1.out _).mono ?_); rintro e w' ⟨rfl, hb⟩; exact ⟨_, rfl, left_V (p := fun u => u = .bool false) rfl (hb) rfl⟩
      rintro ⟨v6, lo6, hi6⟩ - - (rfl : v6 = _)
      refine hK _ _ ?_; clear hK K
      -- 7: not<4> t19
      refine stepK rfl (by kernel_rfl) (fun K hK => ?_); go_simp
      first | (refine hK _ _ ?_; clear hK K) | (apply Exists.intro; apply And.intro; (focus (intro wk hk; go_simp; exact ⟨rfl, rfl⟩)); refine hK _ _ ?_; clear hK K)
      -- 8: pick t17 ? true : t20
      refine stepK rfl (by kernel_rfl) (fun K hK => ?_); go_simp
      apply Exists.intro; apply And.intro; (focus (intro wk hk; go_simp; exact ⟨rfl, rfl⟩)); refine hK _ _ ?_; clear hK K
      -- 9: t21
      refine stepK rfl (by kernel_rfl) (fun K hK => ?_); go_simp
      apply Exists.intro; apply And.intro; (focus (intro wk hk; go_simp; exact ⟨rfl, rfl⟩)); refine hK _ _ ?_; clear hK K
      -- 10: load<31> *t5
      refine stepK rfl (by kernel_rfl) (fun K hK => ?_); go_simp
      first | (refine hK _ _ ?_; clear hK K) | (apply Exists.intro; apply And.intro; (focus (intro wk hk; go_simp; exact ⟨rfl, rfl⟩)); refine hK _ _ ?_; clear hK K)
      -- 11: call F104(t23)
      refine stepK rfl (by kernel_rfl) (fun K hK => ?_); go_simp
      first | (refine hK _ _ ?_; clear hK K) | (apply Exists.intro; apply And.intro; (focus (intro wk hk; go_simp; exact ⟨rfl, rfl⟩)); refine hK _ _ ?_; clear hK K)
      -- 12: not<4> t24
      refine stepK rfl (by kernel_rfl) (fun K hK => ?_); go_simp
      first | (refine hK _ _ ?_; clear hK K) | (apply Exists.intro; apply And.intro; (focus (intro wk hk; go_simp; exact ⟨rfl, rfl⟩)); refine hK _ _ ?_; clear hK K)
      -- 13: pick t22 ? true : t25
      refine stepK rfl (by kernel_rfl) (fun K hK => ?_); go_simp
      apply Exists.intro; apply And.intro; (focus (intro wk hk; go_simp; exact ⟨rfl, rfl⟩)); refine hK _ _ ?_; clear hK K
      refine stepN ?_
      refine hQ _ _ ?_
      intro w1 hT hG hF
      have hbw1 := hT.below
      replace r0 := r0.below hbw1 r0.lt
      replace r1 := r1.below hbw1 r1.lt
      replace r2 := r2.below hbw1 r2.lt
      replace hl := hl.trans (hbw1.mono hl.size)
      clear hT hG hF hbw1 hQ QQ L 
      go_upto_region 2 with (fail)
      let L : List Sp := [sV 0 [] [] (fun u => u = .bool true)]
      refine wp_region_six0 (shs L) (look6 L) (None_) (by kernel_rfl) (by kernel_rfl) (mk_St L [] [] (by kernel_rfl) (by kernel_rfl) ⟨ok_V ⟨_, rfl⟩, trivial⟩ (by simp)) ?_
      intro QQ hQ
      -- 0: call F106()
      refine stepS _ rfl (by kernel_rfl) (fun K hK => ?_); go_simp
      refine ⟨?_, ?_⟩
      · intro wk hk hg hu; go_simp; refine upon_enter ((k2.out _).mono ?_); rintro e w' ⟨rfl, hb⟩; exact ⟨_, rfl, left_V (p := fun u => u = .bool true) rfl (hb) rfl⟩
      rintro ⟨v0, lo0, hi0⟩ - - (rfl : v0 = _)
      refine hK _ _ ?_; clear hK K
      -- 1: assign t27
      refine stepK rfl (by kernel_rfl) (fun K hK => ?_); go_simp
      apply Exists.intro; apply And.intro; (focus (intro wk hk; go_simp; exact ⟨rfl, rfl⟩)); refine hK _ _ ?_; clear hK K
      refine stepN ?_
      refine hQ _ _ ?_
      intro w2 hT hG hF
      have hbw2 := hT.below
      replace r0 := r0.below hbw2 r0.lt
      replace r1 := r1.below hbw2 r1.lt
      replace r2 := r2.below hbw2 r2.lt
      replace hl := hl.trans (hbw2.mono hl.size)
      clear hT hG hF hbw2 hQ QQ L 
      go_wp2_with fail
      go_ret
      exact ⟨rfl, hl⟩
  · have hc0 : 0 < c := hc ▸ cmpN_gt (by omega)
    clear hab
    have k0 := Lib.hid (show ∀ wx, Calls Try.prog 57 #[.agg (W4 a), .agg (W4 b)] wx (Ret wx (.int .i64 c)) from fun wx => by have h := refcmpU ha hb wx; rw [← hc] at h; exact h)
    have k1 := Lib.hid (show ∀ wx, Calls Try.prog 106 #[] wx (Ret wx (.bool true)) from fun wx => by have h := lives3U  wx; exact h)
    clear hc
    go_enter Try.func19, Try.ntmps19
    apply wp_seq_eq
    focus
      intro J hJ
      go_wp2_with fail
      exact hJ
    refine wp_abs (Mem w [(w.heap.size, 31, W4 a), (w.heap.size + 1, 31, W4 b), (w.heap.size + 1 + 1, 31, W4 f)]) ⟨by go_grown, ?_, ?_, ?_, trivial⟩ ?_
    · repeat (first | (refine Row.new_at ?_; simp; done) | refine Row.alloc ?_ _)
    · repeat (first | (refine Row.new_at ?_; simp; done) | refine Row.alloc ?_ _)
    · repeat (first | (refine Row.new_at ?_; simp; done) | refine Row.alloc ?_ _)
    intro w0 hM
    obtain ⟨hl, r0, r1, r2, -⟩ := hM
    go_upto_region 1 with (fail)
    let L : List Sp := [sV 2 [] [] (fun u => u = .int .i64 c)]
    refine wp_region_six0 (shs L) (look6 L) (None_) (by kernel_rfl) (by kernel_rfl) (mk_St L [] [] (by kernel_rfl) (by kernel_rfl) ⟨ok_V ⟨_, rfl⟩, trivial⟩ (by simp)) ?_
    intro QQ hQ
    -- 0: load<31> *t3
    refine stepK rfl (by kernel_rfl) (fun K hK => ?_); go_simp
    apply Exists.intro; apply And.intro; (focus exact kLoad rfl rfl aggT31 r0 rfl id); refine hK _ _ ?_; clear hK K
    -- 1: load<31> *t4
    refine stepK rfl (by kernel_rfl) (fun K hK => ?_); go_simp
    apply Exists.intro; apply And.intro; (focus exact kLoad rfl rfl aggT31 r1 rfl id); refine hK _ _ ?_; clear hK K
    -- 2: call F57(t13, t14)
    refine stepS _ rfl (by kernel_rfl) (fun K hK => ?_); go_simp
    refine ⟨?_, ?_⟩
    · intro wk hk hg hu; go_simp; refine upon_enter ((k0.out _).mono ?_); rintro e w' ⟨rfl, hb⟩; exact ⟨_, rfl, left_V (p := fun u => u = .int .i64 c) rfl (hb) rfl⟩
    rintro ⟨v2, lo2, hi2⟩ - - (rfl : v2 = _)
    refine hK _ _ ?_; clear hK K
    -- 3: gtr<3> t15, 0
    refine stepK rfl (by kernel_rfl) (fun K hK => ?_); go_simp
    apply Exists.intro; apply And.intro; (focus (intro wk hk; go_simp; exact ⟨rfl, rfl⟩)); refine hK _ _ ?_; clear hK K
    -- 4: t16
    refine stepK rfl (by kernel_rfl) (fun K hK => ?_); go_simp
    apply Exists.intro; apply And.intro; (focus (intro wk hk; go_simp; exact ⟨rfl, rfl⟩)); refine hK _ _ ?_; clear hK K
    -- 5: load<31> *t4
    refine stepK rfl (by kernel_rfl) (fun K hK => ?_); go_simp
    first | (refine hK _ _ ?_; clear hK K) | (apply Exists.intro; apply And.intro; (focus (intro wk hk; go_simp; exact ⟨rfl, rfl⟩)); refine hK _ _ ?_; clear hK K)
    -- 6: call F105(t18)
    refine stepK rfl (by kernel_rfl) (fun K hK => ?_); go_simp
    first | (refine hK _ _ ?_; clear hK K) | (apply Exists.intro; apply And.intro; (focus (intro wk hk; go_simp; exact ⟨rfl, rfl⟩)); refine hK _ _ ?_; clear hK K)
    -- 7: not<4> t19
    refine stepK rfl (by kernel_rfl) (fun K hK => ?_); go_simp
    first | (refine hK _ _ ?_; clear hK K) | (apply Exists.intro; apply And.intro; (focus (intro wk hk; go_simp; exact ⟨rfl, rfl⟩)); refine hK _ _ ?_; clear hK K)
    -- 8: pick t17 ? true : t20
    refine stepK rfl (by kernel_rfl) (fun K hK => ?_); go_simp
    apply Exists.intro; apply And.intro; (focus (intro wk hk; go_simp; exact ⟨rfl, rfl⟩)); refine hK _ _ ?_; clear hK K
    -- 9: t21
    refine stepK rfl (by kernel_rfl) (fun K hK => ?_); go_simp
    apply Exists.intro; apply And.intro; (focus (intro wk hk; go_simp; exact ⟨rfl, rfl⟩)); refine hK _ _ ?_; clear hK K
    -- 10: load<31> *t5
    refine stepK rfl (by kernel_rfl) (fun K hK => ?_); go_simp
    first | (refine hK _ _ ?_; clear hK K) | (apply Exists.intro; apply And.intro; (focus (intro wk hk; go_simp; exact ⟨rfl, rfl⟩)); refine hK _ _ ?_; clear hK K)
    -- 11: call F104(t23)
    refine stepK rfl (by kernel_rfl) (fun K hK => ?_); go_simp
    first | (refine hK _ _ ?_; clear hK K) | (apply Exists.intro; apply And.intro; (focus (intro wk hk; go_simp; exact ⟨rfl, rfl⟩)); refine hK _ _ ?_; clear hK K)
    -- 12: not<4> t24
    refine stepK rfl (by kernel_rfl) (fun K hK => ?_); go_simp
    first | (refine hK _ _ ?_; clear hK K) | (apply Exists.intro; apply And.intro; (focus (intro wk hk; go_simp; exact ⟨rfl, rfl⟩)); refine hK _ _ ?_; clear hK K)
    -- 13: pick t22 ? true : t25
    refine stepK rfl (by kernel_rfl) (fun K hK => ?_); go_simp
    apply Exists.intro; apply And.intro; (focus (intro wk hk; go_simp; exact ⟨rfl, rfl⟩)); refine hK _ _ ?_; clear hK K
    refine stepN ?_
    refine hQ _ _ ?_
    intro w1 hT hG hF
    have hbw1 := hT.below
    replace r0 := r0.below hbw1 r0.lt
    replace r1 := r1.below hbw1 r1.lt
    replace r2 := r2.below hbw1 r2.lt
    replace hl := hl.trans (hbw1.mono hl.size)
    clear hT hG hF hbw1 hQ QQ L 
    go_upto_region 2 with (fail)
    let L : List Sp := [sV 0 [] [] (fun u => u = .bool true)]
    refine wp_region_six0 (shs L) (look6 L) (None_) (by kernel_rfl) (by kernel_rfl) (mk_St L [] [] (by kernel_rfl) (by kernel_rfl) ⟨ok_V ⟨_, rfl⟩, trivial⟩ (by simp)) ?_
    intro QQ hQ
    -- 0: call F106()
    refine stepS _ rfl (by kernel_rfl) (fun K hK => ?_); go_simp
    refine ⟨?_, ?_⟩
    · intro wk hk hg hu; go_simp; refine upon_enter ((k1.out _).mono ?_); rintro e w' ⟨rfl, hb⟩; exact ⟨_, rfl, left_V (p := fun u => u = .bool true) rfl (hb) rfl⟩
    rintro ⟨v0, lo0, hi0⟩ - - (rfl : v0 = _)
    refine hK _ _ ?_; clear hK K
    -- 1: assign t27
    refine stepK rfl (by kernel_rfl) (fun K hK => ?_); go_simp
    apply Exists.intro; apply And.intro; (focus (intro wk hk; go_simp; exact ⟨rfl, rfl⟩)); refine hK _ _ ?_; clear hK K
    refine stepN ?_
    refine hQ _ _ ?_
    intro w2 hT hG hF
    have hbw2 := hT.below
    replace r0 := r0.below hbw2 r0.lt
    replace r1 := r1.below hbw2 r1.lt
    replace r2 := r2.below hbw2 r2.lt
    replace hl := hl.trans (hbw2.mono hl.size)
    clear hT hG hF hbw2 hQ QQ L 
    go_wp2_with fail
    go_ret
    exact ⟨rfl, hl⟩
end Go.Proofs.Ytpdenhmkpiafiaa
