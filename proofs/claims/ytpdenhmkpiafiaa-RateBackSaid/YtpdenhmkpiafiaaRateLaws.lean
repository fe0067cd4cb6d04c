/-
  tallagelaw18.RateStays, RateBack, THE WALKS.
-/
import Derived.Test.YtpdenhmkpiafiaaRate
namespace Go.Proofs.Ytpdenhmkpiafiaa
open Go Go.RowKit K6

theorem M2_M {n : Nat} (h : n < M2) : n < M := by unfold M2 at h; unfold M; omega
theorem MM2 {a b : Nat} (ha : a < M2) (hb : b < M2) : a + b < M := by unfold M2 at ha hb; unfold M; omega
theorem amt2_ok {s t : Nat} (hs : s < M2) (ht : t < M2) : amt2 s t = true := by unfold amt2; rw [decide_eq_true hs, decide_eq_true ht]; rfl
theorem good_ok {s t : Nat} (hs : s < M2) (ht : t < M2) (h : t ≤ s) : (amt2 s t && decide (t ≤ s)) = true := by rw [amt2_ok hs ht, decide_eq_true h]; rfl
theorem good_no {s t : Nat} (hs : ¬ s < M2) : (amt2 s t && decide (t ≤ s)) = false := by unfold amt2; rw [decide_eq_false hs]; rfl
theorem good_get {s t : Nat} (h : (amt2 s t && decide (t ≤ s)) = true) : s < M2 ∧ t < M2 ∧ t ≤ s := by
  rw [Bool.and_eq_true] at h
  exact ⟨amt2_l h.1, amt2_r h.1, of_decide_eq_true h.2⟩
theorem rate_buy {s t a : Nat} (hs : s < M2) (ht : t < M2) (hts : t ≤ s) (ha : a < M2) : shB s t a = true ∧ shN s t a ≤ a ∧ shN s t a * (s + 1000) ≤ a * (t + 1000) := by
  have h0 : s + 1000 ≠ 0 := by omega
  have h1 : a * (t + 1000) / (s + 1000) ≤ a := Nat.div_le_of_le_mul (by rw [Nat.mul_comm (s + 1000) a]; exact Nat.mul_le_mul_left a (by omega))
  have hq := quo_pos (n := a * (t + 1000)) h0 (Nat.lt_of_le_of_lt h1 (M2_M ha))
  unfold shB shN
  rw [if_pos (amt2_ok hs ht), if_pos (amt2_ok hs ht), hq.1, hq.2]
  exact ⟨rfl, h1, Nat.div_mul_le_self _ _⟩
set_option maxRecDepth 100000 in
theorem rate_sell {s t a : Nat} (hs : s < M2) (ht : t < M2) (hts : t ≤ s) (hat : a ≤ t) : tkB s t a = true ∧ tkN s t a ≤ s ∧ tkN s t a + t ≤ s + a := by
  have h0 : t + 1000 ≠ 0 := by omega
  obtain ⟨d, rfl⟩ : ∃ d, s = t + d := ⟨s - t, by omega⟩
  have h1 : a * (t + d + 1000) / (t + 1000) ≤ a + d := Nat.div_le_of_le_mul (by
    have e1 : a * (t + d + 1000) = a * (t + 1000) + a * d := by rw [← Nat.mul_add]; congr 1; omega
    have e2 : (t + 1000) * (a + d) = (t + 1000) * a + (t + 1000) * d := Nat.mul_add _ _ _
    have e3 : a * d ≤ (t + 1000) * d := Nat.mul_le_mul_right d (by omega)
    rw [e1, e2, Nat.mul_comm (t + 1000) a]
    omega)
  have hq := quo_pos (n := a * (t + d + 1000)) h0 (by have := M2_M hs; omega)
  unfold tkB tkN
  rw [if_pos (amt2_ok hs ht), if_pos (amt2_ok hs ht), hq.1, hq.2]
  exact ⟨rfl, by omega, by omega⟩
set_option maxRecDepth 100000 in
theorem rate_back {s t a x : Nat} (hm : s + a < M2) (hu : t + x < M2) (hx : x * (s + 1000) ≤ a * (t + 1000)) (ha : a < M2) : tkB (s + a) (t + x) x = true ∧ tkN (s + a) (t + x) x ≤ a := by
  have h0 : t + x + 1000 ≠ 0 := by omega
  have h1 : x * (s + a + 1000) / (t + x + 1000) ≤ a := Nat.div_le_of_le_mul (by
    have e1 : x * (s + a + 1000) = x * (s + 1000) + x * a := by rw [← Nat.mul_add]; congr 1; omega
    have e2 : (t + x + 1000) * a = a * (t + 1000) + x * a := by rw [Nat.mul_comm a, ← Nat.add_mul]; congr 1; omega
    omega)
  have hq := quo_pos (n := x * (s + a + 1000)) h0 (Nat.lt_of_le_of_lt h1 (M2_M ha))
  unfold tkB tkN
  rw [if_pos (amt2_ok hm hu), if_pos (amt2_ok hm hu), hq.1, hq.2]
  exact ⟨rfl, h1⟩
set_option maxRecDepth 100000 in
set_option maxHeartbeats 16000000 in
theorem ratestays_walk (s t a : Nat) (hs : s < M) (ht : t < M) (ha : a < M) (w : World) : Calls Try.prog 22 #[.agg (W4 s), .agg (W4 t), .agg (W4 a)] w (Ret w (.bool true)) := by
  cases hg1 : (amt2 s t && decide (t ≤ s))
  · skip
    have k0 := Lib.hid (show ∀ wx, Calls Try.prog 116 #[.agg (W4 s), .agg (W4 t)] wx (Ret wx (.bool false)) from fun wx => by have h := goodRU hs ht wx; rw [hg1] at h; exact h)
    have k1 := Lib.hid (show ∀ wx, Calls Try.prog 118 #[] wx (Ret wx (.bool true)) from fun wx => by have h := lives18U  wx; exact h)
    clear hg1
    go_enter Try.func22, Try.ntmps22
    apply wp_seq_eq
    focus
      intro J hJ
      go_wp2_with fail
      exact hJ
    refine wp_abs (Mem w [(w.heap.size, 31, W4 s), (w.heap.size + 1, 31, W4 t), (w.heap.size + 1 + 1, 31, W4 a)]) ⟨by go_grown, ?_, ?_, ?_, trivial⟩ ?_
    · repeat (first | (refine Row.new_at ?_; simp; done) | refine Row.alloc ?_ _)
    · repeat (first | (refine Row.new_at ?_; simp; done) | refine Row.alloc ?_ _)
    · repeat (first | (refine Row.new_at ?_; simp; done) | refine Row.alloc ?_ _)
    intro w0 hM
    obtain ⟨hl, r0, r1, r2, -⟩ := hM
    go_upto_region 1 with (fail)
    let L : List Sp := [sV 2 [] [] (fun u => u = .bool false)]
    refine wp_region_six0 (shs L) (look6 L) (None_) (by kernel_rfl) (by kernel_rfl) (mk_St L [] [] (by kernel_rfl) (by kernel_rfl) ⟨ok_V ⟨_, rfl⟩, trivial⟩ (by simp)) ?_
    intro QQ hQ
    -- 0: load<31> *t3
    refine stepK rfl (by kernel_rfl) (fun K hK => ?_); go_simp
    apply Exists.intro; apply And.intro; (focus exact kLoad rfl rfl aggT31 r0 rfl id); refine hK _ _ ?_; clear hK K
    -- 1: load<31> *t4
    refine stepK rfl (by kernel_rfl) (fun K hK => ?_); go_simp
    apply Exists.intro; apply And.intro; (focus exact kLoad rfl rfl aggT31 r1 rfl id); refine hK _ _ ?_; clear hK K
    -- 2: call F116(t19, t20)
    refine stepS _ rfl (by kernel_rfl) (fun K hK => ?_); go_simp
    refine ⟨?_, ?_⟩
    · intro wk hk hg hu; go_simp; refine upon_enter ((k0.out _).mono ?_); rintro e w' ⟨rfl, hb⟩; exact ⟨_, rfl, left_V (p := fun u => u = .bool false) rfl (hb) rfl⟩
    rintro ⟨v2, lo2, hi2⟩ - - (rfl : v2 = _)
    refine hK _ _ ?_; clear hK K
    -- 3: not<4> t21
    refine stepK rfl (by kernel_rfl) (fun K hK => ?_); go_simp
    apply Exists.intro; apply And.intro; (focus (intro wk hk; go_simp; exact ⟨rfl, rfl⟩)); refine hK _ _ ?_; clear hK K
    -- 4: t22
    refine stepK rfl (by kernel_rfl) (fun K hK => ?_); go_simp
    apply Exists.intro; apply And.intro; (focus (intro wk hk; go_simp; exact ⟨rfl, rfl⟩)); refine hK _ _ ?_; clear hK K
    -- 5: load<31> *t5
    refine stepK rfl (by kernel_rfl) (fun K hK => ?_); go_simp
    first | (refine hK _ _ ?_; clear hK K) | (apply Exists.intro; apply And.intro; (focus (intro wk hk; go_simp; exact ⟨rfl, rfl⟩)); refine hK _ _ ?_; clear hK K)
    -- 6: build<31> 
    refine stepK rfl (by kernel_rfl) (fun K hK => ?_); go_simp
    first | (refine hK _ _ ?_; clear hK K) | (apply Exists.intro; apply And.intro; (focus (intro wk hk; go_simp; exact ⟨rfl, rfl⟩)); refine hK _ _ ?_; clear hK K)
    -- 7: call F116(t24, t25)
    refine stepK rfl (by kernel_rfl) (fun K hK => ?_); go_simp
    first | (refine hK _ _ ?_; clear hK K) | (apply Exists.intro; apply And.intro; (focus (intro wk hk; go_simp; exact ⟨rfl, rfl⟩)); refine hK _ _ ?_; clear hK K)
    -- 8: not<4> t26
    refine stepK rfl (by kernel_rfl) (fun K hK => ?_); go_simp
    first | (refine hK _ _ ?_; clear hK K) | (apply Exists.intro; apply And.intro; (focus (intro wk hk; go_simp; exact ⟨rfl, rfl⟩)); refine hK _ _ ?_; clear hK K)
    -- 9: pick t23 ? true : t27
    refine stepK rfl (by kernel_rfl) (fun K hK => ?_); go_simp
    apply Exists.intro; apply And.intro; (focus (intro wk hk; go_simp; exact ⟨rfl, rfl⟩)); refine hK _ _ ?_; clear hK K
    refine stepN ?_
    refine hQ _ _ ?_
    intro w1 hT hG hF
    have hbw1 := hT.below
    replace r0 := r0.below hbw1 r0.lt
    replace r1 := r1.below hbw1 r1.lt
    replace r2 := r2.below hbw1 r2.lt
    replace hl := hl.trans (hbw1.mono hl.size)
    clear hT hG hF hbw1 hQ QQ L 
    go_upto_region 2 with (fail)
    let L : List Sp := [sV 0 [] [] (fun u => u = .bool true)]
    refine wp_region_six0 (shs L) (look6 L) (None_) (by kernel_rfl) (by kernel_rfl) (mk_St L [] [] (by kernel_rfl) (by kernel_rfl) ⟨ok_V ⟨_, rfl⟩, trivial⟩ (by simp)) ?_
    intro QQ hQ
    -- 0: call F118()
    refine stepS _ rfl (by kernel_rfl) (fun K hK => ?_); go_simp
    refine ⟨?_, ?_⟩
    · intro wk hk hg hu; go_simp; refine upon_enter ((k1.out _).mono ?_); rintro e w' ⟨rfl, hb⟩; exact ⟨_, rfl, left_V (p := fun u => u = .bool true) rfl (hb) rfl⟩
    rintro ⟨v0, lo0, hi0⟩ - - (rfl : v0 = _)
    refine hK _ _ ?_; clear hK K
    -- 1: assign t29
    refine stepK rfl (by kernel_rfl) (fun K hK => ?_); go_simp
    apply Exists.intro; apply And.intro; (focus (intro wk hk; go_simp; exact ⟨rfl, rfl⟩)); refine hK _ _ ?_; clear hK K
    refine stepN ?_
    refine hQ _ _ ?_
    intro w2 hT hG hF
    have hbw2 := hT.below
    replace r0 := r0.below hbw2 r0.lt
    replace r1 := r1.below hbw2 r1.lt
    replace r2 := r2.below hbw2 r2.lt
    replace hl := hl.trans (hbw2.mono hl.size)
    clear hT hG hF hbw2 hQ QQ L 
    go_wp2_with fail
    go_ret
    exact ⟨rfl, hl⟩
  · cases hg2 : (amt2 a 0 && decide (0 ≤ a))
    · skip
      have k0 := Lib.hid (show ∀ wx, Calls Try.prog 116 #[.agg (W4 s), .agg (W4 t)] wx (Ret wx (.bool true)) from fun wx => by have h := goodRU hs ht wx; rw [hg1] at h; exact h)
      have k1 := Lib.hid (show ∀ wx, Calls Try.prog 116 #[.agg (W4 a), .agg #[.int .u64 0, .int .u64 0, .int .u64 0, .int .u64 0]] wx (Ret wx (.bool false)) from fun wx => by have h := goodRU ha (show 0 < M by unfold M; omega) wx; rw [hg2] at h; exact h)
      have k2 := Lib.hid (show ∀ wx, Calls Try.prog 118 #[] wx (Ret wx (.bool true)) from fun wx => by have h := lives18U  wx; exact h)
      clear hg1 hg2
      go_enter Try.func22, Try.ntmps22
      apply wp_seq_eq
      focus
        intro J hJ
        go_wp2_with fail
        exact hJ
      refine wp_abs (Mem w [(w.heap.size, 31, W4 s), (w.heap.size + 1, 31, W4 t), (w.heap.size + 1 + 1, 31, W4 a)]) ⟨by go_grown, ?_, ?_, ?_, trivial⟩ ?_
      · repeat (first | (refine Row.new_at ?_; simp; done) | refine Row.alloc ?_ _)
      · repeat (first | (refine Row.new_at ?_; simp; done) | refine Row.alloc ?_ _)
      · repeat (first | (refine Row.new_at ?_; simp; done) | refine Row.alloc ?_ _)
      intro w0 hM
      obtain ⟨hl, r0, r1, r2, -⟩ := hM
      go_upto_region 1 with (fail)
      let L : List Sp := [sV 2 [] [] (fun u => u = .bool true), sV 7 [] [] (fun u => u = .bool false)]
      refine wp_region_six0 (shs L) (look6 L) (None_) (by kernel_rfl) (by kernel_rfl) (mk_St L [] [] (by kernel_rfl) (by kernel_rfl) ⟨ok_V ⟨_, rfl⟩, ok_V ⟨_, rfl⟩, trivial⟩ (by simp)) ?_
      intro QQ hQ
      -- 0: load<31> *t3
      refine stepK rfl (by kernel_rfl) (fun K hK => ?_); go_simp
      apply Exists.intro; apply And.intro; (focus exact kLoad rfl rfl aggT31 r0 rfl id); refine hK _ _ ?_; clear hK K
      -- 1: load<31> *t4
      refine stepK rfl (by kernel_rfl) (fun K hK => ?_); go_simp
      apply Exists.intro; apply And.intro; (focus exact kLoad rfl rfl aggT31 r1 rfl id); refine hK _ _ ?_; clear hK K
      -- 2: call F116(t19, t20)
      refine stepS _ rfl (by kernel_rfl) (fun K hK => ?_); go_simp
      refine ⟨?_, ?_⟩
      · intro wk hk hg hu; go_simp; refine upon_enter ((k0.out _).mono ?_); rintro e w' ⟨rfl, hb⟩; exact ⟨_, rfl, left_V (p := fun u => u = .bool true) rfl (hb) rfl⟩
      rintro ⟨v2, lo2, hi2⟩ - - (rfl : v2 = _)
      refine hK _ _ ?_; clear hK K
      -- 3: not<4> t21
      refine stepK rfl (by kernel_rfl) (fun K hK => ?_); go_simp
      apply Exists.intro; apply And.intro; (focus (intro wk hk; go_simp; exact ⟨rfl, rfl⟩)); refine hK _ _ ?_; clear hK K
      -- 4: t22
      refine stepK rfl (by kernel_rfl) (fun K hK => ?_); go_simp
      apply Exists.intro; apply And.intro; (focus (intro wk hk; go_simp; exact ⟨rfl, rfl⟩)); refine hK _ _ ?_; clear hK K
      -- 5: load<31> *t5
      refine stepK rfl (by kernel_rfl) (fun K hK => ?_); go_simp
      first | (refine hK _ _ ?_; clear hK K) | (apply Exists.intro; apply And.intro; (focus exact kLoad rfl rfl aggT31 r2 rfl id); refine hK _ _ ?_; clear hK K)
      -- 6: build<31> 
      refine stepK rfl (by kernel_rfl) (fun K hK => ?_); go_simp
      first | (refine hK _ _ ?_; clear hK K) | (apply Exists.intro; apply And.intro; (focus (intro wk hk; go_simp; exact ⟨rfl, rfl⟩)); refine hK _ _ ?_; clear hK K)
      -- 7: call F116(t24, t25)
      refine stepS _ rfl (by kernel_rfl) (fun K hK => ?_); go_simp
      refine ⟨?_, ?_⟩
      · intro wk hk hg hu; go_simp; refine upon_enter ((k1.out _).mono ?_); rintro e w' ⟨rfl, hb⟩; exact ⟨_, rfl, left_V (p := fun u => u = .bool false) rfl (hb) rfl⟩
      rintro ⟨v7, lo7, hi7⟩ - - (rfl : v7 = _)
      refine hK _ _ ?_; clear hK K
      -- 8: not<4> t26
      refine stepK rfl (by kernel_rfl) (fun K hK => ?_); go_simp
      first | (refine hK _ _ ?_; clear hK K) | (apply Exists.intro; apply And.intro; (focus (intro wk hk; go_simp; exact ⟨rfl, rfl⟩)); refine hK _ _ ?_; clear hK K)
      -- 9: pick t23 ? true : t27
      refine stepK rfl (by kernel_rfl) (fun K hK => ?_); go_simp
      apply Exists.intro; apply And.intro; (focus (intro wk hk; go_simp; exact ⟨rfl, rfl⟩)); refine hK _ _ ?_; clear hK K
      refine stepN ?_
      refine hQ _ _ ?_
      intro w1 hT hG hF
      have hbw1 := hT.below
      replace r0 := r0.below hbw1 r0.lt
      replace r1 := r1.below hbw1 r1.lt
      replace r2 := r2.below hbw1 r2.lt
      replace hl := hl.trans (hbw1.mono hl.size)
      clear hT hG hF hbw1 hQ QQ L 
      go_upto_region 2 with (fail)
      let L : List Sp := [sV 0 [] [] (fun u => u = .bool true)]
      refine wp_region_six0 (shs L) (look6 L) (None_) (by kernel_rfl) (by kernel_rfl) (mk_St L [] [] (by kernel_rfl) (by kernel_rfl) ⟨ok_V ⟨_, rfl⟩, trivial⟩ (by simp)) ?_
      intro QQ hQ
      -- 0: call F118()
      refine stepS _ rfl (by kernel_rfl) (fun K hK => ?_); go_simp
      refine ⟨?_, ?_⟩
      · intro wk hk hg hu; go_simp; refine upon_enter ((k2.out _).mono ?_); rintro e w' ⟨rfl, hb⟩; exact ⟨_, rfl, left_V (p := fun u => u = .bool true) rfl (hb) rfl⟩
      rintro ⟨v0, lo0, hi0⟩ - - (rfl : v0 = _)
      refine hK _ _ ?_; clear hK K
      -- 1: assign t29
      refine stepK rfl (by kernel_rfl) (fun K hK => ?_); go_simp
      apply Exists.intro; apply And.intro; (focus (intro wk hk; go_simp; exact ⟨rfl, rfl⟩)); refine hK _ _ ?_; clear hK K
      refine stepN ?_
      refine hQ _ _ ?_
      intro w2 hT hG hF
      have hbw2 := hT.below
      replace r0 := r0.below hbw2 r0.lt
      replace r1 := r1.below hbw2 r1.lt
      replace r2 := r2.below hbw2 r2.lt
      replace hl := hl.trans (hbw2.mono hl.size)
      clear hT hG hF hbw2 hQ QQ L 
      go_wp2_with fail
      go_ret
      exact ⟨rfl, hl⟩
    · have G1 := good_get hg1
      have G2 := good_get hg2
      have B := rate_buy G1.1 G1.2.1 G1.2.2 G2.1
      obtain ⟨x, hx⟩ : ∃ x, x = shN s t a := ⟨_, rfl⟩
      rw [← hx] at B
      have xl : x < M := Nat.lt_of_le_of_lt B.2.1 ha
      obtain ⟨m, hmm⟩ : ∃ m, m = s + a := ⟨_, rfl⟩
      obtain ⟨z, huu⟩ : ∃ z, z = t + x := ⟨_, rfl⟩
      have ml : m < M := hmm ▸ MM2 G1.1 G2.1
      have zl : z < M := by have := B.2.1; have := G1.2.2; omega
      have hum : z ≤ m := by have := B.2.1; have := G1.2.2; omega
      have hm : addN s a = m ∧ addB s a = true := by unfold addN addB; rw [← hmm]; exact ⟨if_pos ml, decide_eq_true ml⟩
      have hu : addN t x = z ∧ addB t x = true := by unfold addN addB; rw [← huu]; exact ⟨if_pos zl, decide_eq_true zl⟩
      obtain ⟨c1, hc1⟩ : ∃ c, c = cmpN x a := ⟨_, rfl⟩
      have h1 : c1 ≤ 0 := hc1 ▸ cmpN_le B.2.1
      obtain ⟨c2, hc2⟩ : ∃ c, c = cmpN a t := ⟨_, rfl⟩
      by_cases hm2 : m < M2
      · have g3 : (amt2 m 0 && decide (0 ≤ m)) = true := good_ok hm2 (by unfold M2; omega) (Nat.zero_le _)
        have g4 : (amt2 m z && decide (z ≤ m)) = true := good_ok hm2 (by omega) hum
        have g5 : (amt2 m t && decide (t ≤ m)) = true := good_ok hm2 G1.2.1 (by have := G1.2.2; omega)
        by_cases hat : a ≤ t
        · have h2 : c2 ≤ 0 := hc2 ▸ cmpN_le hat
          have E0 := rate_sell G1.1 G1.2.1 G1.2.2 hat
          obtain ⟨k, hk⟩ : ∃ k, k = tkN s t a := ⟨_, rfl⟩
          rw [← hk] at E0
          have kl : k < M := Nat.lt_of_le_of_lt E0.2.1 hs
          obtain ⟨r, hr⟩ : ∃ r, r = s - k := ⟨_, rfl⟩
          obtain ⟨l, hll⟩ : ∃ l, l = t - a := ⟨_, rfl⟩
          have rl : r < M := by omega
          have ll : l < M := by omega
          have E : tkB s t a = true ∧ subB s k = true ∧ subB t a = true ∧ (amt2 r l && decide (l ≤ r)) = true := ⟨E0.1, decide_eq_true E0.2.1, decide_eq_true hat, good_ok (by have := G1.1; omega) (by have := G1.2.1; omega) (by have := E0.2.2; have := E0.2.1; omega)⟩
          clear E0 hat G1 G2 hmm huu hum hm2
          have k0 := Lib.hid (show ∀ wx, Calls Try.prog 116 #[.agg (W4 s), .agg (W4 t)] wx (Ret wx (.bool true)) from fun wx => by have h := goodRU hs ht wx; rw [hg1] at h; exact h)
          have k1 := Lib.hid (show ∀ wx, Calls Try.prog 116 #[.agg (W4 a), .agg #[.int .u64 0, .int .u64 0, .int .u64 0, .int .u64 0]] wx (Ret wx (.bool true)) from fun wx => by have h := goodRU ha (show 0 < M by unfold M; omega) wx; rw [hg2] at h; exact h)
          have k2 := Lib.hid (show ∀ wx, Calls Try.prog 112 #[.agg (W4 s), .agg (W4 t), .agg (W4 a)] wx (Ret wx (.tuple #[.agg (W4 x), .bool true])) from fun wx => by have h := sharesU hs ht ha wx; rw [← hx, B.1] at h; exact h)
          have k3 := Lib.hid (show ∀ wx, Calls Try.prog 57 #[.agg (W4 x), .agg (W4 a)] wx (Ret wx (.int .i64 c1)) from fun wx => by have h := refcmpU xl ha wx; rw [← hc1] at h; exact h)
          have k4 := Lib.hid (show ∀ wx, Calls Try.prog 51 #[.agg (W4 s), .agg (W4 a)] wx (Ret wx (.tuple #[.agg (W4 m), .bool true])) from fun wx => by have h := refaddU hs ha wx; rw [hm.1, hm.2] at h; exact h)
          have k5 := Lib.hid (show ∀ wx, Calls Try.prog 51 #[.agg (W4 t), .agg (W4 x)] wx (Ret wx (.tuple #[.agg (W4 z), .bool true])) from fun wx => by have h := refaddU ht xl wx; rw [hu.1, hu.2] at h; exact h)
          have k6 := Lib.hid (show ∀ wx, Calls Try.prog 116 #[.agg (W4 m), .agg #[.int .u64 0, .int .u64 0, .int .u64 0, .int .u64 0]] wx (Ret wx (.bool true)) from fun wx => by have h := goodRU ml (show 0 < M by unfold M; omega) wx; rw [g3] at h; exact h)
          have k7 := Lib.hid (show ∀ wx, Calls Try.prog 116 #[.agg (W4 m), .agg (W4 z)] wx (Ret wx (.bool true)) from fun wx => by have h := goodRU ml zl wx; rw [g4] at h; exact h)
          have k8 := Lib.hid (show ∀ wx, Calls Try.prog 116 #[.agg (W4 m), .agg (W4 t)] wx (Ret wx (.bool true)) from fun wx => by have h := goodRU ml ht wx; rw [g5] at h; exact h)
          have k9 := Lib.hid (show ∀ wx, Calls Try.prog 57 #[.agg (W4 a), .agg (W4 t)] wx (Ret wx (.int .i64 c2)) from fun wx => by have h := refcmpU ha ht wx; rw [← hc2] at h; exact h)
          have k10 := Lib.hid (show ∀ wx, Calls Try.prog 114 #[.agg (W4 s), .agg (W4 t), .agg (W4 a)] wx (Ret wx (.tuple #[.agg (W4 k), .bool true])) from fun wx => by have h := tokensU hs ht ha wx; rw [← hk, E.1] at h; exact h)
          have k11 := Lib.hid (show ∀ wx, Calls Try.prog 53 #[.agg (W4 s), .agg (W4 k)] wx (Ret wx (.tuple #[.agg (W4 r), .bool true])) from fun wx => by have h := refsubU hs kl wx; rw [← hr, E.2.1] at h; exact h)
          have k12 := Lib.hid (show ∀ wx, Calls Try.prog 53 #[.agg (W4 t), .agg (W4 a)] wx (Ret wx (.tuple #[.agg (W4 l), .bool true])) from fun wx => by have h := refsubU ht ha wx; rw [← hll, E.2.2.1] at h; exact h)
          have k13 := Lib.hid (show ∀ wx, Calls Try.prog 116 #[.agg (W4 r), .agg (W4 l)] wx (Ret wx (.bool true)) from fun wx => by have h := goodRU rl ll wx; rw [E.2.2.2] at h; exact h)
          have k14 := Lib.hid (show ∀ wx, Calls Try.prog 118 #[] wx (Ret wx (.bool true)) from fun wx => by have h := lives18U  wx; exact h)
          clear hg1 hg2 B hx hc1 hm hu hc2 g3 g4 g5 hk hr hll E
          go_enter Try.func22, Try.ntmps22
          apply wp_seq_eq
          focus
            intro J hJ
            go_wp2_with fail
            exact hJ
          refine wp_abs (Mem w [(w.heap.size, 31, W4 s), (w.heap.size + 1, 31, W4 t), (w.heap.size + 1 + 1, 31, W4 a)]) ⟨by go_grown, ?_, ?_, ?_, trivial⟩ ?_
          · repeat (first | (refine Row.new_at ?_; simp; done) | refine Row.alloc ?_ _)
          · repeat (first | (refine Row.new_at ?_; simp; done) | refine Row.alloc ?_ _)
          · repeat (first | (refine Row.new_at ?_; simp; done) | refine Row.alloc ?_ _)
          intro w0 hM
          obtain ⟨hl, r0, r1, r2, -⟩ := hM
          go_upto_region 1 with (fail)
          let L : List Sp := [sV 2 [] [] (fun u => u = .bool true), sV 7 [] [] (fun u => u = .bool true)]
          refine wp_region_six0 (shs L) (look6 L) (None_) (by kernel_rfl) (by kernel_rfl) (mk_St L [] [] (by kernel_rfl) (by kernel_rfl) ⟨ok_V ⟨_, rfl⟩, ok_V ⟨_, rfl⟩, trivial⟩ (by simp)) ?_
          intro QQ hQ
          -- 0: load<31> *t3
          refine stepK rfl (by kernel_rfl) (fun K hK => ?_); go_simp
          apply Exists.intro; apply And.intro; (focus exact kLoad rfl rfl aggT31 r0 rfl id); refine hK _ _ ?_; clear hK K
          -- 1: load<31> *t4
          refine stepK rfl (by kernel_rfl) (fun K hK => ?_); go_simp
          apply Exists.intro; apply And.intro; (focus exact kLoad rfl rfl aggT31 r1 rfl id); refine hK _ _ ?_; clear hK K
          -- 2: call F116(t19, t20)
          refine stepS _ rfl (by kernel_rfl) (fun K hK => ?_); go_simp
          refine ⟨?_, ?_⟩
          · intro wk hk hg hu; go_simp; refine upon_enter ((k0.out _).mono ?_); rintro e w' ⟨rfl, hb⟩; exact ⟨_, rfl, left_V (p := fun u => u = .bool true) rfl (hb) rfl⟩
          rintro ⟨v2, lo2, hi2⟩ - - (rfl : v2 = _)
          refine hK _ _ ?_; clear hK K
          -- 3: not<4> t21
          refine stepK rfl (by kernel_rfl) (fun K hK => ?_); go_simp
          apply Exists.intro; apply And.intro; (focus (intro wk hk; go_simp; exact ⟨rfl, rfl⟩)); refine hK _ _ ?_; clear hK K
          -- 4: t22
          refine stepK rfl (by kernel_rfl) (fun K hK => ?_); go_simp
          apply Exists.intro; apply And.intro; (focus (intro wk hk; go_simp; exact ⟨rfl, rfl⟩)); refine hK _ _ ?_; clear hK K
          -- 5: load<31> *t5
          refine stepK rfl (by kernel_rfl) (fun K hK => ?_); go_simp
          first | (refine hK _ _ ?_; clear hK K) | (apply Exists.intro; apply And.intro; (focus exact kLoad rfl rfl aggT31 r2 rfl id); refine hK _ _ ?_; clear hK K)
          -- 6: build<31> 
          refine stepK rfl (by kernel_rfl) (fun K hK => ?_); go_simp
          first | (refine hK _ _ ?_; clear hK K) | (apply Exists.intro; apply And.intro; (focus (intro wk hk; go_simp; exact ⟨rfl, rfl⟩)); refine hK _ _ ?_; clear hK K)
          -- 7: call F116(t24, t25)
          refine stepS _ rfl (by kernel_rfl) (fun K hK => ?_); go_simp
          refine ⟨?_, ?_⟩
          · intro wk hk hg hu; go_simp; refine upon_enter ((k1.out _).mono ?_); rintro e w' ⟨rfl, hb⟩; exact ⟨_, rfl, left_V (p := fun u => u = .bool true) rfl (hb) rfl⟩
          rintro ⟨v7, lo7, hi7⟩ - - (rfl : v7 = _)
          refine hK _ _ ?_; clear hK K
          -- 8: not<4> t26
          refine stepK rfl (by kernel_rfl) (fun K hK => ?_); go_simp
          first | (refine hK _ _ ?_; clear hK K) | (apply Exists.intro; apply And.intro; (focus (intro wk hk; go_simp; exact ⟨rfl, rfl⟩)); refine hK _ _ ?_; clear hK K)
          -- 9: pick t23 ? true : t27
          refine stepK rfl (by kernel_rfl) (fun K hK => ?_); go_simp
          apply Exists.intro; apply And.intro; (focus (intro wk hk; go_simp; exact ⟨rfl, rfl⟩)); refine hK _ _ ?_; clear hK K
          refine stepN ?_
          refine hQ _ _ ?_
          intro w1 hT hG hF
          have hbw1 := hT.below
          replace r0 := r0.below hbw1 r0.lt
          replace r1 := r1.below hbw1 r1.lt
          replace r2 := r2.below hbw1 r2.lt
          replace hl := hl.trans (hbw1.mono hl.size)
          clear hT hG hF hbw1 hQ QQ L 
          go_upto_region 3 with (fail)
          let L : List Sp := [sV 3 [] [] (fun u => u = .tuple #[.agg (W4 x), .bool true]), sA 7 31 [8] #[.int .u64 0, .int .u64 0, .int .u64 0, .int .u64 0], sT 8 7 31 [5] (fun g => aggOf g 5)]
          refine wp_region_six0 (shs L) (look6 L) (None_) (by kernel_rfl) (by kernel_rfl) (mk_St L [] [] (by kernel_rfl) (by kernel_rfl) ⟨ok_V ⟨_, rfl⟩, ok_A, ok_T aggOf_congr, trivial⟩ (by simp)) ?_
          intro QQ hQ
          -- 0: load<31> *t3
          refine stepK rfl (by kernel_rfl) (fun K hK => ?_); go_simp
          apply Exists.intro; apply And.intro; (focus exact kLoad rfl rfl aggT31 r0 rfl id); refine hK _ _ ?_; clear hK K
          -- 1: load<31> *t4
          refine stepK rfl (by kernel_rfl) (fun K hK => ?_); go_simp
          apply Exists.intro; apply And.intro; (focus exact kLoad rfl rfl aggT31 r1 rfl id); refine hK _ _ ?_; clear hK K
          -- 2: load<31> *t5
          refine stepK rfl (by kernel_rfl) (fun K hK => ?_); go_simp
          apply Exists.intro; apply And.intro; (focus exact kLoad rfl rfl aggT31 r2 rfl id); refine hK _ _ ?_; clear hK K
          -- 3: call F112(t31, t32, t33)
          refine stepS _ rfl (by kernel_rfl) (fun K hK => ?_); go_simp
          refine ⟨?_, ?_⟩
          · intro wk hk hg hu; go_simp; refine upon_enter ((k2.out _).mono ?_); rintro e w' ⟨rfl, hb⟩; exact ⟨_, rfl, left_V (p := fun u => u = .tuple #[.agg (W4 x), .bool true]) rfl (hb) rfl⟩
          rintro ⟨v3, lo3, hi3⟩ - - (rfl : v3 = _)
          refine hK _ _ ?_; clear hK K
          -- 4: t34
          refine stepK rfl (by kernel_rfl) (fun K hK => ?_); go_simp
          apply Exists.intro; apply And.intro; (focus (intro wk hk; go_simp; exact ⟨rfl, rfl⟩)); refine hK _ _ ?_; clear hK K
          -- 5: extract t30 #0
          refine stepK rfl (by kernel_rfl) (fun K hK => ?_); go_simp
          apply Exists.intro; apply And.intro; (focus (intro wk hk; go_simp; exact ⟨rfl, rfl⟩)); refine hK _ _ ?_; clear hK K
          -- 6: extract t30 #1
          refine stepK rfl (by kernel_rfl) (fun K hK => ?_); go_simp
          apply Exists.intro; apply And.intro; (focus (intro wk hk; go_simp; exact ⟨rfl, rfl⟩)); refine hK _ _ ?_; clear hK K
          -- 7: alloc<31>
          refine stepS _ rfl (by kernel_rfl) (fun K hK => ?_); go_simp
          refine ⟨?_, ?_⟩
          · intro wk hk hg hu; go_simp; exact left_A rfl rfl
          rintro ⟨v7, lo3_7, hi7⟩ hlo7 hhi7 ⟨e7, f7⟩
          replace e7 : v7 = .pointer (some ⟨lo3_7, 0, none⟩) := e7; replace f7 : hi7 = lo3_7 + 1 := f7; replace hlo7 : _ ≤ lo3_7 := hlo7; subst e7; subst f7
          refine hK _ _ ?_; clear hK K
          -- 8: store<31> *t7 = t35
          refine stepS _ rfl (by kernel_rfl) (fun K hK => ?_); go_simp
          refine ⟨?_, ?_⟩
          · exact sStoreT rfl rfl rfl rfl rfl rfl rfl (by kernel_rfl) rfl (by kernel_rfl) (by decide) aggOf_congr
          rintro ⟨v8, lo8, hi8⟩ - - (rfl : v8 = undef)
          refine hK _ _ ?_; clear hK K
          -- 9: assign t36
          refine stepK rfl (by kernel_rfl) (fun K hK => ?_); go_simp
          apply Exists.intro; apply And.intro; (focus (intro wk hk; go_simp; exact ⟨rfl, rfl⟩)); refine hK _ _ ?_; clear hK K
          refine stepN ?_
          refine hQ _ _ ?_
          intro w2 hT hG hF
          have hbw2 := hT.below
          have r3 : Row w2 lo3_7 31 ((W4 x)) := (hF 8 _ rfl rfl (by decide)).2
          replace r0 := r0.below hbw2 r0.lt
          replace r1 := r1.below hbw2 r1.lt
          replace r2 := r2.below hbw2 r2.lt
          replace hl := hl.trans (hbw2.mono hl.size)
          clear hT hG hF hbw2 hQ QQ L hlo7 hhi7
          go_upto_region 4 with (fail)
          let L : List Sp := [sV 5 [] [] (fun u => u = .int .i64 c1)]
          refine wp_region_six0 (shs L) (look6 L) (None_) (by kernel_rfl) (by kernel_rfl) (mk_St L [] [] (by kernel_rfl) (by kernel_rfl) ⟨ok_V ⟨_, rfl⟩, trivial⟩ (by simp)) ?_
          intro QQ hQ
          -- 0: t8
          refine stepK rfl (by kernel_rfl) (fun K hK => ?_); go_simp
          apply Exists.intro; apply And.intro; (focus (intro wk hk; go_simp; exact ⟨rfl, rfl⟩)); refine hK _ _ ?_; clear hK K
          -- 1: not<4> t37
          refine stepK rfl (by kernel_rfl) (fun K hK => ?_); go_simp
          apply Exists.intro; apply And.intro; (focus (intro wk hk; go_simp; exact ⟨rfl, rfl⟩)); refine hK _ _ ?_; clear hK K
          -- 2: t38
          refine stepK rfl (by kernel_rfl) (fun K hK => ?_); go_simp
          apply Exists.intro; apply And.intro; (focus (intro wk hk; go_simp; exact ⟨rfl, rfl⟩)); refine hK _ _ ?_; clear hK K
          -- 3: load<31> *t7
          refine stepK rfl (by kernel_rfl) (fun K hK => ?_); go_simp
          first | (refine hK _ _ ?_; clear hK K) | (apply Exists.intro; apply And.intro; (focus exact kLoad rfl rfl aggT31 r3 rfl id); refine hK _ _ ?_; clear hK K)
          -- 4: load<31> *t5
          refine stepK rfl (by kernel_rfl) (fun K hK => ?_); go_simp
          first | (refine hK _ _ ?_; clear hK K) | (apply Exists.intro; apply And.intro; (focus exact kLoad rfl rfl aggT31 r2 rfl id); refine hK _ _ ?_; clear hK K)
          -- 5: call F57(t40, t41)
          refine stepS _ rfl (by kernel_rfl) (fun K hK => ?_); go_simp
          refine ⟨?_, ?_⟩
          · intro wk hk hg hu; go_simp; refine upon_enter ((k3.out _).mono ?_); rintro e w' ⟨rfl, hb⟩; exact ⟨_, rfl, left_V (p := fun u => u = .int .i64 c1) rfl (hb) rfl⟩
          rintro ⟨v5, lo5, hi5⟩ - - (rfl : v5 = _)
          refine hK _ _ ?_; clear hK K
          -- 6: gtr<3> t42, 0
          refine stepK rfl (by kernel_rfl) (fun K hK => ?_); go_simp
          first | (refine hK _ _ ?_; clear hK K) | (apply Exists.intro; apply And.intro; (focus (intro wk hk; go_simp; exact ⟨rfl, rfl⟩)); refine hK _ _ ?_; clear hK K)
          -- 7: pick t39 ? true : t43
          refine stepK rfl (by kernel_rfl) (fun K hK => ?_); go_simp
          apply Exists.intro; apply And.intro; (focus (intro wk hk; go_simp; exact ⟨rfl, rfl⟩)); refine hK _ _ ?_; clear hK K
          refine stepN ?_
          refine hQ _ _ ?_
          intro w3 hT hG hF
          have hbw3 := hT.below
          replace r0 := r0.below hbw3 r0.lt
          replace r1 := r1.below hbw3 r1.lt
          replace r2 := r2.below hbw3 r2.lt
          replace r3 := r3.below hbw3 r3.lt
          replace hl := hl.trans (hbw3.mono hl.size)
          clear hT hG hF hbw3 hQ QQ L 
          go_upto_region 6 with (fail)
          let L : List Sp := [sV 2 [] [] (fun u => u = .tuple #[.agg (W4 m), .bool true]), sA 6 31 [7] #[.int .u64 0, .int .u64 0, .int .u64 0, .int .u64 0], sT 7 6 31 [4] (fun g => aggOf g 4)]
          refine wp_region_six0 (shs L) (look6 L) (None_) (by kernel_rfl) (by kernel_rfl) (mk_St L [] [] (by kernel_rfl) (by kernel_rfl) ⟨ok_V ⟨_, rfl⟩, ok_A, ok_T aggOf_congr, trivial⟩ (by simp)) ?_
          intro QQ hQ
          -- 0: load<31> *t3
          refine stepK rfl (by kernel_rfl) (fun K hK => ?_); go_simp
          apply Exists.intro; apply And.intro; (focus exact kLoad rfl rfl aggT31 r0 rfl id); refine hK _ _ ?_; clear hK K
          -- 1: load<31> *t5
          refine stepK rfl (by kernel_rfl) (fun K hK => ?_); go_simp
          apply Exists.intro; apply And.intro; (focus exact kLoad rfl rfl aggT31 r2 rfl id); refine hK _ _ ?_; clear hK K
          -- 2: call F51(t46, t47)
          refine stepS _ rfl (by kernel_rfl) (fun K hK => ?_); go_simp
          refine ⟨?_, ?_⟩
          · intro wk hk hg hu; go_simp; refine upon_enter ((k4.out _).mono ?_); rintro e w' ⟨rfl, hb⟩; exact ⟨_, rfl, left_V (p := fun u => u = .tuple #[.agg (W4 m), .bool true]) rfl (hb) rfl⟩
          rintro ⟨v2, lo2, hi2⟩ - - (rfl : v2 = _)
          refine hK _ _ ?_; clear hK K
          -- 3: t48
          refine stepK rfl (by kernel_rfl) (fun K hK => ?_); go_simp
          apply Exists.intro; apply And.intro; (focus (intro wk hk; go_simp; exact ⟨rfl, rfl⟩)); refine hK _ _ ?_; clear hK K
          -- 4: extract t45 #0
          refine stepK rfl (by kernel_rfl) (fun K hK => ?_); go_simp
          apply Exists.intro; apply And.intro; (focus (intro wk hk; go_simp; exact ⟨rfl, rfl⟩)); refine hK _ _ ?_; clear hK K
          -- 5: extract t45 #1
          refine stepK rfl (by kernel_rfl) (fun K hK => ?_); go_simp
          apply Exists.intro; apply And.intro; (focus (intro wk hk; go_simp; exact ⟨rfl, rfl⟩)); refine hK _ _ ?_; clear hK K
          -- 6: alloc<31>
          refine stepS _ rfl (by kernel_rfl) (fun K hK => ?_); go_simp
          refine ⟨?_, ?_⟩
          · intro wk hk hg hu; go_simp; exact left_A rfl rfl
          rintro ⟨v6, lo6_6, hi6⟩ hlo6 hhi6 ⟨e6, f6⟩
          replace e6 : v6 = .pointer (some ⟨lo6_6, 0, none⟩) := e6; replace f6 : hi6 = lo6_6 + 1 := f6; replace hlo6 : _ ≤ lo6_6 := hlo6; subst e6; subst f6
          refine hK _ _ ?_; clear hK K
          -- 7: store<31> *t9 = t49
          refine stepS _ rfl (by kernel_rfl) (fun K hK => ?_); go_simp
          refine ⟨?_, ?_⟩
          · exact sStoreT rfl rfl rfl rfl rfl rfl rfl (by kernel_rfl) rfl (by kernel_rfl) (by decide) aggOf_congr
          rintro ⟨v7, lo7, hi7⟩ - - (rfl : v7 = undef)
          refine hK _ _ ?_; clear hK K
          -- 8: assign t50
          refine stepK rfl (by kernel_rfl) (fun K hK => ?_); go_simp
          apply Exists.intro; apply And.intro; (focus (intro wk hk; go_simp; exact ⟨rfl, rfl⟩)); refine hK _ _ ?_; clear hK K
          refine stepN ?_
          refine hQ _ _ ?_
          intro w4 hT hG hF
          have hbw4 := hT.below
          have r4 : Row w4 lo6_6 31 ((W4 m)) := (hF 7 _ rfl rfl (by decide)).2
          replace r0 := r0.below hbw4 r0.lt
          replace r1 := r1.below hbw4 r1.lt
          replace r2 := r2.below hbw4 r2.lt
          replace r3 := r3.below hbw4 r3.lt
          replace hl := hl.trans (hbw4.mono hl.size)
          clear hT hG hF hbw4 hQ QQ L hlo6 hhi6
          go_upto_region 7 with (fail)
          let L : List Sp := [sV 2 [] [] (fun u => u = .tuple #[.agg (W4 z), .bool true]), sA 6 31 [7] #[.int .u64 0, .int .u64 0, .int .u64 0, .int .u64 0], sT 7 6 31 [4] (fun g => aggOf g 4)]
          refine wp_region_six0 (shs L) (look6 L) (None_) (by kernel_rfl) (by kernel_rfl) (mk_St L [] [] (by kernel_rfl) (by kernel_rfl) ⟨ok_V ⟨_, rfl⟩, ok_A, ok_T aggOf_congr, trivial⟩ (by simp)) ?_
          intro QQ hQ
          -- 0: load<31> *t4
          refine stepK rfl (by kernel_rfl) (fun K hK => ?_); go_simp
          apply Exists.intro; apply And.intro; (focus exact kLoad rfl rfl aggT31 r1 rfl id); refine hK _ _ ?_; clear hK K
          -- 1: load<31> *t7
          refine stepK rfl (by kernel_rfl) (fun K hK => ?_); go_simp
          apply Exists.intro; apply And.intro; (focus exact kLoad rfl rfl aggT31 r3 rfl id); refine hK _ _ ?_; clear hK K
          -- 2: call F51(t52, t53)
          refine stepS _ rfl (by kernel_rfl) (fun K hK => ?_); go_simp
          refine ⟨?_, ?_⟩
          · intro wk hk hg hu; go_simp; refine upon_enter ((k5.out _).mono ?_); rintro e w' ⟨rfl, hb⟩; exact ⟨_, rfl, left_V (p := fun u => u = .tuple #[.agg (W4 z), .bool true]) rfl (hb) rfl⟩
          rintro ⟨v2, lo2, hi2⟩ - - (rfl : v2 = _)
          refine hK _ _ ?_; clear hK K
          -- 3: t54
          refine stepK rfl (by kernel_rfl) (fun K hK => ?_); go_simp
          apply Exists.intro; apply And.intro; (focus (intro wk hk; go_simp; exact ⟨rfl, rfl⟩)); refine hK _ _ ?_; clear hK K
          -- 4: extract t51 #0
          refine stepK rfl (by kernel_rfl) (fun K hK => ?_); go_simp
          apply Exists.intro; apply And.intro; (focus (intro wk hk; go_simp; exact ⟨rfl, rfl⟩)); refine hK _ _ ?_; clear hK K
          -- 5: extract t51 #1
          refine stepK rfl (by kernel_rfl) (fun K hK => ?_); go_simp
          apply Exists.intro; apply And.intro; (focus (intro wk hk; go_simp; exact ⟨rfl, rfl⟩)); refine hK _ _ ?_; clear hK K
          -- 6: alloc<31>
          refine stepS _ rfl (by kernel_rfl) (fun K hK => ?_); go_simp
          refine ⟨?_, ?_⟩
          · intro wk hk hg hu; go_simp; exact left_A rfl rfl
          rintro ⟨v6, lo7_6, hi6⟩ hlo6 hhi6 ⟨e6, f6⟩
          replace e6 : v6 = .pointer (some ⟨lo7_6, 0, none⟩) := e6; replace f6 : hi6 = lo7_6 + 1 := f6; replace hlo6 : _ ≤ lo7_6 := hlo6; subst e6; subst f6
          refine hK _ _ ?_; clear hK K
          -- 7: store<31> *t11 = t55
          refine stepS _ rfl (by kernel_rfl) (fun K hK => ?_); go_simp
          refine ⟨?_, ?_⟩
          · exact sStoreT rfl rfl rfl rfl rfl rfl rfl (by kernel_rfl) rfl (by kernel_rfl) (by decide) aggOf_congr
          rintro ⟨v7, lo7, hi7⟩ - - (rfl : v7 = undef)
          refine hK _ _ ?_; clear hK K
          -- 8: assign t56
          refine stepK rfl (by kernel_rfl) (fun K hK => ?_); go_simp
          apply Exists.intro; apply And.intro; (focus (intro wk hk; go_simp; exact ⟨rfl, rfl⟩)); refine hK _ _ ?_; clear hK K
          refine stepN ?_
          refine hQ _ _ ?_
          intro w5 hT hG hF
          have hbw5 := hT.below
          have r5 : Row w5 lo7_6 31 ((W4 z)) := (hF 7 _ rfl rfl (by decide)).2
          replace r0 := r0.below hbw5 r0.lt
          replace r1 := r1.below hbw5 r1.lt
          replace r2 := r2.below hbw5 r2.lt
          replace r3 := r3.below hbw5 r3.lt
          replace r4 := r4.below hbw5 r4.lt
          replace hl := hl.trans (hbw5.mono hl.size)
          clear hT hG hF hbw5 hQ QQ L hlo6 hhi6
          go_upto_region 8 with (fail)
          let L : List Sp := [sV 2 [] [] (fun u => u = .bool true), sV 6 [] [] (fun u => u = .bool true), sV 11 [] [] (fun u => u = .bool true)]
          refine wp_region_six0 (shs L) (look6 L) (None_) (by kernel_rfl) (by kernel_rfl) (mk_St L [] [] (by kernel_rfl) (by kernel_rfl) ⟨ok_V ⟨_, rfl⟩, ok_V ⟨_, rfl⟩, ok_V ⟨_, rfl⟩, trivial⟩ (by simp)) ?_
          intro QQ hQ
          -- 0: load<31> *t9
          refine stepK rfl (by kernel_rfl) (fun K hK => ?_); go_simp
          apply Exists.intro; apply And.intro; (focus exact kLoad rfl rfl aggT31 r4 rfl id); refine hK _ _ ?_; clear hK K
          -- 1: build<31> 
          refine stepK rfl (by kernel_rfl) (fun K hK => ?_); go_simp
          apply Exists.intro; apply And.intro; (focus (intro wk hk; go_simp; exact ⟨rfl, rfl⟩)); refine hK _ _ ?_; clear hK K
          -- 2: call F116(t57, t58)
          refine stepS _ rfl (by kernel_rfl) (fun K hK => ?_); go_simp
          refine ⟨?_, ?_⟩
          · intro wk hk hg hu; go_simp; refine upon_enter ((k6.out _).mono ?_); rintro e w' ⟨rfl, hb⟩; exact ⟨_, rfl, left_V (p := fun u => u = .bool true) rfl (hb) rfl⟩
          rintro ⟨v2, lo2, hi2⟩ - - (rfl : v2 = _)
          refine hK _ _ ?_; clear hK K
          -- 3: t59
          refine stepK rfl (by kernel_rfl) (fun K hK => ?_); go_simp
          apply Exists.intro; apply And.intro; (focus (intro wk hk; go_simp; exact ⟨rfl, rfl⟩)); refine hK _ _ ?_; clear hK K
          -- 4: load<31> *t9
          refine stepK rfl (by kernel_rfl) (fun K hK => ?_); go_simp
          first | (refine hK _ _ ?_; clear hK K) | (apply Exists.intro; apply And.intro; (focus exact kLoad rfl rfl aggT31 r4 rfl id); refine hK _ _ ?_; clear hK K)
          -- 5: load<31> *t11
          refine stepK rfl (by kernel_rfl) (fun K hK => ?_); go_simp
          first | (refine hK _ _ ?_; clear hK K) | (apply Exists.intro; apply And.intro; (focus exact kLoad rfl rfl aggT31 r5 rfl id); refine hK _ _ ?_; clear hK K)
          -- 6: call F116(t61, t62)
          refine stepS _ rfl (by kernel_rfl) (fun K hK => ?_); go_simp
          refine ⟨?_, ?_⟩
          · intro wk hk hg hu; go_simp; refine upon_enter ((k7.out _).mono ?_); rintro e w' ⟨rfl, hb⟩; exact ⟨_, rfl, left_V (p := fun u => u = .bool true) rfl (hb) rfl⟩
          rintro ⟨v6, lo6, hi6⟩ - - (rfl : v6 = _)
          refine hK _ _ ?_; clear hK K
          -- 7: not<4> t63
          refine stepK rfl (by kernel_rfl) (fun K hK => ?_); go_simp
          first | (refine hK _ _ ?_; clear hK K) | (apply Exists.intro; apply And.intro; (focus (intro wk hk; go_simp; exact ⟨rfl, rfl⟩)); refine hK _ _ ?_; clear hK K)
          -- 8: t64
          refine stepK rfl (by kernel_rfl) (fun K hK => ?_); go_simp
          first | (refine hK _ _ ?_; clear hK K) | (apply Exists.intro; apply And.intro; (focus (intro wk hk; go_simp; exact ⟨rfl, rfl⟩)); refine hK _ _ ?_; clear hK K)
          -- 9: load<31> *t9
          refine stepK rfl (by kernel_rfl) (fun K hK => ?_); go_simp
          first | (refine hK _ _ ?_; clear hK K) | (apply Exists.intro; apply And.intro; (focus exact kLoad rfl rfl aggT31 r4 rfl id); refine hK _ _ ?_; clear hK K)
          -- 10: load<31> *t4
          refine stepK rfl (by kernel_rfl) (fun K hK => ?_); go_simp
          first | (refine hK _ _ ?_; clear hK K) | (apply Exists.intro; apply And.intro; (focus exact kLoad rfl rfl aggT31 r1 rfl id); refine hK _ _ ?_; clear hK K)
          -- 11: call F116(t66, t67)
          refine stepS _ rfl (by kernel_rfl) (fun K hK => ?_); go_simp
          refine ⟨?_, ?_⟩
          · intro wk hk hg hu; go_simp; refine upon_enter ((k8.out _).mono ?_); rintro e w' ⟨rfl, hb⟩; exact ⟨_, rfl, left_V (p := fun u => u = .bool true) rfl (hb) rfl⟩
          rintro ⟨v11, lo11, hi11⟩ - - (rfl : v11 = _)
          refine hK _ _ ?_; clear hK K
          -- 12: not<4> t68
          refine stepK rfl (by kernel_rfl) (fun K hK => ?_); go_simp
          first | (refine hK _ _ ?_; clear hK K) | (apply Exists.intro; apply And.intro; (focus (intro wk hk; go_simp; exact ⟨rfl, rfl⟩)); refine hK _ _ ?_; clear hK K)
          -- 13: pick t65 ? true : t69
          refine stepK rfl (by kernel_rfl) (fun K hK => ?_); go_simp
          first | (refine hK _ _ ?_; clear hK K) | (apply Exists.intro; apply And.intro; (focus (intro wk hk; go_simp; exact ⟨rfl, rfl⟩)); refine hK _ _ ?_; clear hK K)
          -- 14: pick t60 ? t70 : false
          refine stepK rfl (by kernel_rfl) (fun K hK => ?_); go_simp
          apply Exists.intro; apply And.intro; (focus (intro wk hk; go_simp; exact ⟨rfl, rfl⟩)); refine hK _ _ ?_; clear hK K
          refine stepN ?_
          refine hQ _ _ ?_
          intro w6 hT hG hF
          have hbw6 := hT.below
          replace r0 := r0.below hbw6 r0.lt
          replace r1 := r1.below hbw6 r1.lt
          replace r2 := r2.below hbw6 r2.lt
          replace r3 := r3.below hbw6 r3.lt
          replace r4 := r4.below hbw6 r4.lt
          replace r5 := r5.below hbw6 r5.lt
          replace hl := hl.trans (hbw6.mono hl.size)
          clear hT hG hF hbw6 hQ QQ L 
          go_upto_region 10 with (fail)
          let L : List Sp := [sV 2 [] [] (fun u => u = .int .i64 c2)]
          refine wp_region_six0 (shs L) (look6 L) (None_) (by kernel_rfl) (by kernel_rfl) (mk_St L [] [] (by kernel_rfl) (by kernel_rfl) ⟨ok_V ⟨_, rfl⟩, trivial⟩ (by simp)) ?_
          intro QQ hQ
          -- 0: load<31> *t5
          refine stepK rfl (by kernel_rfl) (fun K hK => ?_); go_simp
          apply Exists.intro; apply And.intro; (focus exact kLoad rfl rfl aggT31 r2 rfl id); refine hK _ _ ?_; clear hK K
          -- 1: load<31> *t4
          refine stepK rfl (by kernel_rfl) (fun K hK => ?_); go_simp
          apply Exists.intro; apply And.intro; (focus exact kLoad rfl rfl aggT31 r1 rfl id); refine hK _ _ ?_; clear hK K
          -- 2: call F57(t72, t73)
          refine stepS _ rfl (by kernel_rfl) (fun K hK => ?_); go_simp
          refine ⟨?_, ?_⟩
          · intro wk hk hg hu; go_simp; refine upon_enter ((k9.out _).mono ?_); rintro e w' ⟨rfl, hb⟩; exact ⟨_, rfl, left_V (p := fun u => u = .int .i64 c2) rfl (hb) rfl⟩
          rintro ⟨v2, lo2, hi2⟩ - - (rfl : v2 = _)
          refine hK _ _ ?_; clear hK K
          -- 3: gtr<3> t74, 0
          refine stepK rfl (by kernel_rfl) (fun K hK => ?_); go_simp
          apply Exists.intro; apply And.intro; (focus (intro wk hk; go_simp; exact ⟨rfl, rfl⟩)); refine hK _ _ ?_; clear hK K
          refine stepN ?_
          refine hQ _ _ ?_
          intro w7 hT hG hF
          have hbw7 := hT.below
          replace r0 := r0.below hbw7 r0.lt
          replace r1 := r1.below hbw7 r1.lt
          replace r2 := r2.below hbw7 r2.lt
          replace r3 := r3.below hbw7 r3.lt
          replace r4 := r4.below hbw7 r4.lt
          replace r5 := r5.below hbw7 r5.lt
          replace hl := hl.trans (hbw7.mono hl.size)
          clear hT hG hF hbw7 hQ QQ L 
          go_upto_region 12 with (fail)
          let L : List Sp := [sV 3 [] [] (fun u => u = .tuple #[.agg (W4 k), .bool true]), sA 7 31 [8] #[.int .u64 0, .int .u64 0, .int .u64 0, .int .u64 0], sT 8 7 31 [5] (fun g => aggOf g 5)]
          refine wp_region_six0 (shs L) (look6 L) (None_) (by kernel_rfl) (by kernel_rfl) (mk_St L [] [] (by kernel_rfl) (by kernel_rfl) ⟨ok_V ⟨_, rfl⟩, ok_A, ok_T aggOf_congr, trivial⟩ (by simp)) ?_
          intro QQ hQ
          -- 0: load<31> *t3
          refine stepK rfl (by kernel_rfl) (fun K hK => ?_); go_simp
          apply Exists.intro; apply And.intro; (focus exact kLoad rfl rfl aggT31 r0 rfl id); refine hK _ _ ?_; clear hK K
          -- 1: load<31> *t4
          refine stepK rfl (by kernel_rfl) (fun K hK => ?_); go_simp
          apply Exists.intro; apply And.intro; (focus exact kLoad rfl rfl aggT31 r1 rfl id); refine hK _ _ ?_; clear hK K
          -- 2: load<31> *t5
          refine stepK rfl (by kernel_rfl) (fun K hK => ?_); go_simp
          apply Exists.intro; apply And.intro; (focus exact kLoad rfl rfl aggT31 r2 rfl id); refine hK _ _ ?_; clear hK K
          -- 3: call F114(t78, t79, t80)
          refine stepS _ rfl (by kernel_rfl) (fun K hK => ?_); go_simp
          refine ⟨?_, ?_⟩
          · intro wk hk hg hu; go_simp; refine upon_enter ((k10.out _).mono ?_); rintro e w' ⟨rfl, hb⟩; exact ⟨_, rfl, left_V (p := fun u => u = .tuple #[.agg (W4 k), .bool true]) rfl (hb) rfl⟩
          rintro ⟨v3, lo3, hi3⟩ - - (rfl : v3 = _)
          refine hK _ _ ?_; clear hK K
          -- 4: t81
          refine stepK rfl (by kernel_rfl) (fun K hK => ?_); go_simp
          apply Exists.intro; apply And.intro; (focus (intro wk hk; go_simp; exact ⟨rfl, rfl⟩)); refine hK _ _ ?_; clear hK K
          -- 5: extract t77 #0
          refine stepK rfl (by kernel_rfl) (fun K hK => ?_); go_simp
          apply Exists.intro; apply And.intro; (focus (intro wk hk; go_simp; exact ⟨rfl, rfl⟩)); refine hK _ _ ?_; clear hK K
          -- 6: extract t77 #1
          refine stepK rfl (by kernel_rfl) (fun K hK => ?_); go_simp
          apply Exists.intro; apply And.intro; (focus (intro wk hk; go_simp; exact ⟨rfl, rfl⟩)); refine hK _ _ ?_; clear hK K
          -- 7: alloc<31>
          refine stepS _ rfl (by kernel_rfl) (fun K hK => ?_); go_simp
          refine ⟨?_, ?_⟩
          · intro wk hk hg hu; go_simp; exact left_A rfl rfl
          rintro ⟨v7, lo12_7, hi7⟩ hlo7 hhi7 ⟨e7, f7⟩
          replace e7 : v7 = .pointer (some ⟨lo12_7, 0, none⟩) := e7; replace f7 : hi7 = lo12_7 + 1 := f7; replace hlo7 : _ ≤ lo12_7 := hlo7; subst e7; subst f7
          refine hK _ _ ?_; clear hK K
          -- 8: store<31> *t13 = t82
          refine stepS _ rfl (by kernel_rfl) (fun K hK => ?_); go_simp
          refine ⟨?_, ?_⟩
          · exact sStoreT rfl rfl rfl rfl rfl rfl rfl (by kernel_rfl) rfl (by kernel_rfl) (by decide) aggOf_congr
          rintro ⟨v8, lo8, hi8⟩ - - (rfl : v8 = undef)
          refine hK _ _ ?_; clear hK K
          -- 9: assign t83
          refine stepK rfl (by kernel_rfl) (fun K hK => ?_); go_simp
          apply Exists.intro; apply And.intro; (focus (intro wk hk; go_simp; exact ⟨rfl, rfl⟩)); refine hK _ _ ?_; clear hK K
          refine stepN ?_
          refine hQ _ _ ?_
          intro w8 hT hG hF
          have hbw8 := hT.below
          have r6 : Row w8 lo12_7 31 ((W4 k)) := (hF 8 _ rfl rfl (by decide)).2
          replace r0 := r0.below hbw8 r0.lt
          replace r1 := r1.below hbw8 r1.lt
          replace r2 := r2.below hbw8 r2.lt
          replace r3 := r3.below hbw8 r3.lt
          replace r4 := r4.below hbw8 r4.lt
          replace r5 := r5.below hbw8 r5.lt
          replace hl := hl.trans (hbw8.mono hl.size)
          clear hT hG hF hbw8 hQ QQ L hlo7 hhi7
          go_upto_region 13 with (fail)
          let L : List Sp := [sV 2 [] [] (fun u => u = .tuple #[.agg (W4 r), .bool true]), sA 6 31 [7] #[.int .u64 0, .int .u64 0, .int .u64 0, .int .u64 0], sT 7 6 31 [4] (fun g => aggOf g 4)]
          refine wp_region_six0 (shs L) (look6 L) (None_) (by kernel_rfl) (by kernel_rfl) (mk_St L [] [] (by kernel_rfl) (by kernel_rfl) ⟨ok_V ⟨_, rfl⟩, ok_A, ok_T aggOf_congr, trivial⟩ (by simp)) ?_
          intro QQ hQ
          -- 0: load<31> *t3
          refine stepK rfl (by kernel_rfl) (fun K hK => ?_); go_simp
          apply Exists.intro; apply And.intro; (focus exact kLoad rfl rfl aggT31 r0 rfl id); refine hK _ _ ?_; clear hK K
          -- 1: load<31> *t13
          refine stepK rfl (by kernel_rfl) (fun K hK => ?_); go_simp
          apply Exists.intro; apply And.intro; (focus exact kLoad rfl rfl aggT31 r6 rfl id); refine hK _ _ ?_; clear hK K
          -- 2: call F53(t85, t86)
          refine stepS _ rfl (by kernel_rfl) (fun K hK => ?_); go_simp
          refine ⟨?_, ?_⟩
          · intro wk hk hg hu; go_simp; refine upon_enter ((k11.out _).mono ?_); rintro e w' ⟨rfl, hb⟩; exact ⟨_, rfl, left_V (p := fun u => u = .tuple #[.agg (W4 r), .bool true]) rfl (hb) rfl⟩
          rintro ⟨v2, lo2, hi2⟩ - - (rfl : v2 = _)
          refine hK _ _ ?_; clear hK K
          -- 3: t87
          refine stepK rfl (by kernel_rfl) (fun K hK => ?_); go_simp
          apply Exists.intro; apply And.intro; (focus (intro wk hk; go_simp; exact ⟨rfl, rfl⟩)); refine hK _ _ ?_; clear hK K
          -- 4: extract t84 #0
          refine stepK rfl (by kernel_rfl) (fun K hK => ?_); go_simp
          apply Exists.intro; apply And.intro; (focus (intro wk hk; go_simp; exact ⟨rfl, rfl⟩)); refine hK _ _ ?_; clear hK K
          -- 5: extract t84 #1
          refine stepK rfl (by kernel_rfl) (fun K hK => ?_); go_simp
          apply Exists.intro; apply And.intro; (focus (intro wk hk; go_simp; exact ⟨rfl, rfl⟩)); refine hK _ _ ?_; clear hK K
          -- 6: alloc<31>
          refine stepS _ rfl (by kernel_rfl) (fun K hK => ?_); go_simp
          refine ⟨?_, ?_⟩
          · intro wk hk hg hu; go_simp; exact left_A rfl rfl
          rintro ⟨v6, lo13_6, hi6⟩ hlo6 hhi6 ⟨e6, f6⟩
          replace e6 : v6 = .pointer (some ⟨lo13_6, 0, none⟩) := e6; replace f6 : hi6 = lo13_6 + 1 := f6; replace hlo6 : _ ≤ lo13_6 := hlo6; subst e6; subst f6
          refine hK _ _ ?_; clear hK K
          -- 7: store<31> *t15 = t88
          refine stepS _ rfl (by kernel_rfl) (fun K hK => ?_); go_simp
          refine ⟨?_, ?_⟩
          · exact sStoreT rfl rfl rfl rfl rfl rfl rfl (by kernel_rfl) rfl (by kernel_rfl) (by decide) aggOf_congr
          rintro ⟨v7, lo7, hi7⟩ - - (rfl : v7 = undef)
          refine hK _ _ ?_; clear hK K
          -- 8: assign t89
          refine stepK rfl (by kernel_rfl) (fun K hK => ?_); go_simp
          apply Exists.intro; apply And.intro; (focus (intro wk hk; go_simp; exact ⟨rfl, rfl⟩)); refine hK _ _ ?_; clear hK K
          refine stepN ?_
          refine hQ _ _ ?_
          intro w9 hT hG hF
          have hbw9 := hT.below
          have r7 : Row w9 lo13_6 31 ((W4 r)) := (hF 7 _ rfl rfl (by decide)).2
          replace r0 := r0.below hbw9 r0.lt
          replace r1 := r1.below hbw9 r1.lt
          replace r2 := r2.below hbw9 r2.lt
          replace r3 := r3.below hbw9 r3.lt
          replace r4 := r4.below hbw9 r4.lt
          replace r5 := r5.below hbw9 r5.lt
          replace r6 := r6.below hbw9 r6.lt
          replace hl := hl.trans (hbw9.mono hl.size)
          clear hT hG hF hbw9 hQ QQ L hlo6 hhi6
          go_upto_region 14 with (fail)
          let L : List Sp := [sV 2 [] [] (fun u => u = .tuple #[.agg (W4 l), .bool true]), sA 6 31 [7] #[.int .u64 0, .int .u64 0, .int .u64 0, .int .u64 0], sT 7 6 31 [4] (fun g => aggOf g 4)]
          refine wp_region_six0 (shs L) (look6 L) (None_) (by kernel_rfl) (by kernel_rfl) (mk_St L [] [] (by kernel_rfl) (by kernel_rfl) ⟨ok_V ⟨_, rfl⟩, ok_A, ok_T aggOf_congr, trivial⟩ (by simp)) ?_
          intro QQ hQ
          -- 0: load<31> *t4
          refine stepK rfl (by kernel_rfl) (fun K hK => ?_); go_simp
          apply Exists.intro; apply And.intro; (focus exact kLoad rfl rfl aggT31 r1 rfl id); refine hK _ _ ?_; clear hK K
          -- 1: load<31> *t5
          refine stepK rfl (by kernel_rfl) (fun K hK => ?_); go_simp
          apply Exists.intro; apply And.intro; (focus exact kLoad rfl rfl aggT31 r2 rfl id); refine hK _ _ ?_; clear hK K
          -- 2: call F53(t91, t92)
          refine stepS _ rfl (by kernel_rfl) (fun K hK => ?_); go_simp
          refine ⟨?_, ?_⟩
          · intro wk hk hg hu; go_simp; refine upon_enter ((k12.out _).mono ?_); rintro e w' ⟨rfl, hb⟩; exact ⟨_, rfl, left_V (p := fun u => u = .tuple #[.agg (W4 l), .bool true]) rfl (hb) rfl⟩
          rintro ⟨v2, lo2, hi2⟩ - - (rfl : v2 = _)
          refine hK _ _ ?_; clear hK K
          -- 3: t93
          refine stepK rfl (by kernel_rfl) (fun K hK => ?_); go_simp
          apply Exists.intro; apply And.intro; (focus (intro wk hk; go_simp; exact ⟨rfl, rfl⟩)); refine hK _ _ ?_; clear hK K
          -- 4: extract t90 #0
          refine stepK rfl (by kernel_rfl) (fun K hK => ?_); go_simp
          apply Exists.intro; apply And.intro; (focus (intro wk hk; go_simp; exact ⟨rfl, rfl⟩)); refine hK _ _ ?_; clear hK K
          -- 5: extract t90 #1
          refine stepK rfl (by kernel_rfl) (fun K hK => ?_); go_simp
          apply Exists.intro; apply And.intro; (focus (intro wk hk; go_simp; exact ⟨rfl, rfl⟩)); refine hK _ _ ?_; clear hK K
          -- 6: alloc<31>
          refine stepS _ rfl (by kernel_rfl) (fun K hK => ?_); go_simp
          refine ⟨?_, ?_⟩
          · intro wk hk hg hu; go_simp; exact left_A rfl rfl
          rintro ⟨v6, lo14_6, hi6⟩ hlo6 hhi6 ⟨e6, f6⟩
          replace e6 : v6 = .pointer (some ⟨lo14_6, 0, none⟩) := e6; replace f6 : hi6 = lo14_6 + 1 := f6; replace hlo6 : _ ≤ lo14_6 := hlo6; subst e6; subst f6
          refine hK _ _ ?_; clear hK K
          -- 7: store<31> *t17 = t94
          refine stepS _ rfl (by kernel_rfl) (fun K hK => ?_); go_simp
          refine ⟨?_, ?_⟩
          · exact sStoreT rfl rfl rfl rfl rfl rfl rfl (by kernel_rfl) rfl (by kernel_rfl) (by decide) aggOf_congr
          rintro ⟨v7, lo7, hi7⟩ - - (rfl : v7 = undef)
          refine hK _ _ ?_; clear hK K
          -- 8: assign t95
          refine stepK rfl (by kernel_rfl) (fun K hK => ?_); go_simp
          apply Exists.intro; apply And.intro; (focus (intro wk hk; go_simp; exact ⟨rfl, rfl⟩)); refine hK _ _ ?_; clear hK K
          refine stepN ?_
          refine hQ _ _ ?_
          intro w10 hT hG hF
          have hbw10 := hT.below
          have r8 : Row w10 lo14_6 31 ((W4 l)) := (hF 7 _ rfl rfl (by decide)).2
          replace r0 := r0.below hbw10 r0.lt
          replace r1 := r1.below hbw10 r1.lt
          replace r2 := r2.below hbw10 r2.lt
          replace r3 := r3.below hbw10 r3.lt
          replace r4 := r4.below hbw10 r4.lt
          replace r5 := r5.below hbw10 r5.lt
          replace r6 := r6.below hbw10 r6.lt
          replace r7 := r7.below hbw10 r7.lt
          replace hl := hl.trans (hbw10.mono hl.size)
          clear hT hG hF hbw10 hQ QQ L hlo6 hhi6
          go_upto_region 15 with (fail)
          let L : List Sp := [sV 7 [] [] (fun u => u = .bool true), sV 10 [] [] (fun u => u = .bool true)]
          refine wp_region_six0 (shs L) (look6 L) (None_) (by kernel_rfl) (by kernel_rfl) (mk_St L [] [] (by kernel_rfl) (by kernel_rfl) ⟨ok_V ⟨_, rfl⟩, ok_V ⟨_, rfl⟩, trivial⟩ (by simp)) ?_
          intro QQ hQ
          -- 0: t14
          refine stepK rfl (by kernel_rfl) (fun K hK => ?_); go_simp
          apply Exists.intro; apply And.intro; (focus (intro wk hk; go_simp; exact ⟨rfl, rfl⟩)); refine hK _ _ ?_; clear hK K
          -- 1: t96
          refine stepK rfl (by kernel_rfl) (fun K hK => ?_); go_simp
          apply Exists.intro; apply And.intro; (focus (intro wk hk; go_simp; exact ⟨rfl, rfl⟩)); refine hK _ _ ?_; clear hK K
          -- 2: t16
          refine stepK rfl (by kernel_rfl) (fun K hK => ?_); go_simp
          first | (refine hK _ _ ?_; clear hK K) | (apply Exists.intro; apply And.intro; (focus (intro wk hk; go_simp; exact ⟨rfl, rfl⟩)); refine hK _ _ ?_; clear hK K)
          -- 3: pick t97 ? t98 : false
          refine stepK rfl (by kernel_rfl) (fun K hK => ?_); go_simp
          apply Exists.intro; apply And.intro; (focus (intro wk hk; go_simp; exact ⟨rfl, rfl⟩)); refine hK _ _ ?_; clear hK K
          -- 4: t99
          refine stepK rfl (by kernel_rfl) (fun K hK => ?_); go_simp
          apply Exists.intro; apply And.intro; (focus (intro wk hk; go_simp; exact ⟨rfl, rfl⟩)); refine hK _ _ ?_; clear hK K
          -- 5: load<31> *t15
          refine stepK rfl (by kernel_rfl) (fun K hK => ?_); go_simp
          first | (refine hK _ _ ?_; clear hK K) | (apply Exists.intro; apply And.intro; (focus exact kLoad rfl rfl aggT31 r7 rfl id); refine hK _ _ ?_; clear hK K)
          -- 6: load<31> *t17
          refine stepK rfl (by kernel_rfl) (fun K hK => ?_); go_simp
          first | (refine hK _ _ ?_; clear hK K) | (apply Exists.intro; apply And.intro; (focus exact kLoad rfl rfl aggT31 r8 rfl id); refine hK _ _ ?_; clear hK K)
          -- 7: call F116(t101, t102)
          refine stepS _ rfl (by kernel_rfl) (fun K hK => ?_); go_simp
          refine ⟨?_, ?_⟩
          · intro wk hk hg hu; go_simp; refine upon_enter ((k13.out _).mono ?_); rintro e w' ⟨rfl, hb⟩; exact ⟨_, rfl, left_V (p := fun u => u = .bool true) rfl (hb) rfl⟩
          rintro ⟨v7, lo7, hi7⟩ - - (rfl : v7 = _)
          refine hK _ _ ?_; clear hK K
          -- 8: pick t100 ? t103 : false
          refine stepK rfl (by kernel_rfl) (fun K hK => ?_); go_simp
          apply Exists.intro; apply And.intro; (focus (intro wk hk; go_simp; exact ⟨rfl, rfl⟩)); refine hK _ _ ?_; clear hK K
          -- 9: t104
          refine stepK rfl (by kernel_rfl) (fun K hK => ?_); go_simp
          apply Exists.intro; apply And.intro; (focus (intro wk hk; go_simp; exact ⟨rfl, rfl⟩)); refine hK _ _ ?_; clear hK K
          -- 10: call F118()
          refine stepS _ rfl (by kernel_rfl) (fun K hK => ?_); go_simp
          refine ⟨?_, ?_⟩
          · intro wk hk hg hu; go_simp; refine upon_enter ((k14.out _).mono ?_); rintro e w' ⟨rfl, hb⟩; exact ⟨_, rfl, left_V (p := fun u => u = .bool true) rfl (hb) rfl⟩
          rintro ⟨v10, lo10, hi10⟩ - - (rfl : v10 = _)
          refine hK _ _ ?_; clear hK K
          -- 11: pick t105 ? t106 : false
          refine stepK rfl (by kernel_rfl) (fun K hK => ?_); go_simp
          apply Exists.intro; apply And.intro; (focus (intro wk hk; go_simp; exact ⟨rfl, rfl⟩)); refine hK _ _ ?_; clear hK K
          -- 12: assign t107
          refine stepK rfl (by kernel_rfl) (fun K hK => ?_); go_simp
          apply Exists.intro; apply And.intro; (focus (intro wk hk; go_simp; exact ⟨rfl, rfl⟩)); refine hK _ _ ?_; clear hK K
          refine stepN ?_
          refine hQ _ _ ?_
          intro w11 hT hG hF
          have hbw11 := hT.below
          replace r0 := r0.below hbw11 r0.lt
          replace r1 := r1.below hbw11 r1.lt
          replace r2 := r2.below hbw11 r2.lt
          replace r3 := r3.below hbw11 r3.lt
          replace r4 := r4.below hbw11 r4.lt
          replace r5 := r5.below hbw11 r5.lt
          replace r6 := r6.below hbw11 r6.lt
          replace r7 := r7.below hbw11 r7.lt
          replace r8 := r8.below hbw11 r8.lt
          replace hl := hl.trans (hbw11.mono hl.size)
          clear hT hG hF hbw11 hQ QQ L 
          go_wp2_with fail
          go_ret
          exact ⟨rfl, hl⟩
        · have h2 : 0 < c2 := hc2 ▸ cmpN_gt (by omega)
          clear hat G1 G2 hmm huu hum hm2
          have k0 := Lib.hid (show ∀ wx, Calls Try.prog 116 #[.agg (W4 s), .agg (W4 t)] wx (Ret wx (.bool true)) from fun wx => by have h := goodRU hs ht wx; rw [hg1] at h; exact h)
          have k1 := Lib.hid (show ∀ wx, Calls Try.prog 116 #[.agg (W4 a), .agg #[.int .u64 0, .int .u64 0, .int .u64 0, .int .u64 0]] wx (Ret wx (.bool true)) from fun wx => by have h := goodRU ha (show 0 < M by unfold M; omega) wx; rw [hg2] at h; exact h)
          have k2 := Lib.hid (show ∀ wx, Calls Try.prog 112 #[.agg (W4 s), .agg (W4 t), .agg (W4 a)] wx (Ret wx (.tuple #[.agg (W4 x), .bool true])) from fun wx => by have h := sharesU hs ht ha wx; rw [← hx, B.1] at h; exact h)
          have k3 := Lib.hid (show ∀ wx, Calls Try.prog 57 #[.agg (W4 x), .agg (W4 a)] wx (Ret wx (.int .i64 c1)) from fun wx => by have h := refcmpU xl ha wx; rw [← hc1] at h; exact h)
          have k4 := Lib.hid (show ∀ wx, Calls Try.prog 51 #[.agg (W4 s), .agg (W4 a)] wx (Ret wx (.tuple #[.agg (W4 m), .bool true])) from fun wx => by have h := refaddU hs ha wx; rw [hm.1, hm.2] at h; exact h)
          have k5 := Lib.hid (show ∀ wx, Calls Try.prog 51 #[.agg (W4 t), .agg (W4 x)] wx (Ret wx (.tuple #[.agg (W4 z), .bool true])) from fun wx => by have h := refaddU ht xl wx; rw [hu.1, hu.2] at h; exact h)
          have k6 := Lib.hid (show ∀ wx, Calls Try.prog 116 #[.agg (W4 m), .agg #[.int .u64 0, .int .u64 0, .int .u64 0, .int .u64 0]] wx (Ret wx (.bool true)) from fun wx => by have h := goodRU ml (show 0 < M by unfold M; omega) wx; rw [g3] at h; exact h)
          have k7 := Lib.hid (show ∀ wx, Calls Try.prog 116 #[.agg (W4 m), .agg (W4 z)] wx (Ret wx (.bool true)) from fun wx => by have h := goodRU ml zl wx; rw [g4] at h; exact h)
          have k8 := Lib.hid (show ∀ wx, Calls Try.prog 116 #[.agg (W4 m), .agg (W4 t)] wx (Ret wx (.bool true)) from fun wx => by have h := goodRU ml ht wx; rw [g5] at h; exact h)
          have k9 := Lib.hid (show ∀ wx, Calls Try.prog 57 #[.agg (W4 a), .agg (W4 t)] wx (Ret wx (.int .i64 c2)) from fun wx => by have h := refcmpU ha ht wx; rw [← hc2] at h; exact h)
          have k10 := Lib.hid (show ∀ wx, Calls Try.prog 118 #[] wx (Ret wx (.bool true)) from fun wx => by have h := lives18U  wx; exact h)
          clear hg1 hg2 B hx hc1 hm hu hc2 g3 g4 g5 
          go_enter Try.func22, Try.ntmps22
          apply wp_seq_eq
          focus
            intro J hJ
            go_wp2_with fail
            exact hJ
          refine wp_abs (Mem w [(w.heap.size, 31, W4 s), (w.heap.size + 1, 31, W4 t), (w.heap.size + 1 + 1, 31, W4 a)]) ⟨by go_grown, ?_, ?_, ?_, trivial⟩ ?_
          · repeat (first | (refine Row.new_at ?_; simp; done) | refine Row.alloc ?_ _)
          · repeat (first | (refine Row.new_at ?_; simp; done) | refine Row.alloc ?_ _)
          · repeat (first | (refine Row.new_at ?_; simp; done) | refine Row.alloc ?_ _)
          intro w0 hM
          obtain ⟨hl, r0, r1, r2, -⟩ := hM
          go_upto_region 1 with (fail)
          let L : List Sp := [sV 2 [] [] (fun u => u = .bool true), sV 7 [] [] (fun u => u = .bool true)]
          refine wp_region_six0 (shs L) (look6 L) (None_) (by kernel_rfl) (by kernel_rfl) (mk_St L [] [] (by kernel_rfl) (by kernel_rfl) ⟨ok_V ⟨_, rfl⟩, ok_V ⟨_, rfl⟩, trivial⟩ (by simp)) ?_
          intro QQ hQ
          -- 0: load<31> *t3
          refine stepK rfl (by kernel_rfl) (fun K hK => ?_); go_simp
          apply Exists.intro; apply And.intro; (focus exact kLoad rfl rfl aggT31 r0 rfl id); refine hK _ _ ?_; clear hK K
          -- 1: load<31> *t4
          refine stepK rfl (by kernel_rfl) (fun K hK => ?_); go_simp
          apply Exists.intro; apply And.intro; (focus exact kLoad rfl rfl aggT31 r1 rfl id); refine hK _ _ ?_; clear hK K
          -- 2: call F116(t19, t20)
          refine stepS _ rfl (by kernel_rfl) (fun K hK => ?_); go_simp
          refine ⟨?_, ?_⟩
          · intro wk hk hg hu; go_simp; refine upon_enter ((k0.out _).mono ?_); rintro e w' ⟨rfl, hb⟩; exact ⟨_, rfl, left_V (p := fun u => u = .bool true) rfl (hb) rfl⟩
          rintro ⟨v2, lo2, hi2⟩ - - (rfl : v2 = _)
          refine hK _ _ ?_; clear hK K
          -- 3: not<4> t21
          refine stepK rfl (by kernel_rfl) (fun K hK => ?_); go_simp
          apply Exists.intro; apply And.intro; (focus (intro wk hk; go_simp; exact ⟨rfl, rfl⟩)); refine hK _ _ ?_; clear hK K
          -- 4: t22
          refine stepK rfl (by kernel_rfl) (fun K hK => ?_); go_simp
          apply Exists.intro; apply And.intro; (focus (intro wk hk; go_simp; exact ⟨rfl, rfl⟩)); refine hK _ _ ?_; clear hK K
          -- 5: load<31> *t5
          refine stepK rfl (by kernel_rfl) (fun K hK => ?_); go_simp
          first | (refine hK _ _ ?_; clear hK K) | (apply Exists.intro; apply And.intro; (focus exact kLoad rfl rfl aggT31 r2 rfl id); refine hK _ _ ?_; clear hK K)
          -- 6: build<31> 
          refine stepK rfl (by kernel_rfl) (fun K hK => ?_); go_simp
          first | (refine hK _ _ ?_; clear hK K) | (apply Exists.intro; apply And.intro; (focus (intro wk hk; go_simp; exact ⟨rfl, rfl⟩)); refine hK _ _ ?_; clear hK K)
          -- 7: call F116(t24, t25)
          refine stepS _ rfl (by kernel_rfl) (fun K hK => ?_); go_simp
          refine ⟨?_, ?_⟩
          · intro wk hk hg hu; go_simp; refine upon_enter ((k1.out _).mono ?_); rintro e w' ⟨rfl, hb⟩; exact ⟨_, rfl, left_V (p := fun u => u = .bool true) rfl (hb) rfl⟩
          rintro ⟨v7, lo7, hi7⟩ - - (rfl : v7 = _)
          refine hK _ _ ?_; clear hK K
          -- 8: not<4> t26
          refine stepK rfl (by kernel_rfl) (fun K hK => ?_); go_simp
          first | (refine hK _ _ ?_; clear hK K) | (apply Exists.intro; apply And.intro; (focus (intro wk hk; go_simp; exact ⟨rfl, rfl⟩)); refine hK _ _ ?_; clear hK K)
          -- 9: pick t23 ? true : t27
          refine stepK rfl (by kernel_rfl) (fun K hK => ?_); go_simp
          apply Exists.intro; apply And.intro; (focus (intro wk hk; go_simp; exact ⟨rfl, rfl⟩)); refine hK _ _ ?_; clear hK K
          refine stepN ?_
          refine hQ _ _ ?_
          intro w1 hT hG hF
          have hbw1 := hT.below
          replace r0 := r0.below hbw1 r0.lt
          replace r1 := r1.below hbw1 r1.lt
          replace r2 := r2.below hbw1 r2.lt
          replace hl := hl.trans (hbw1.mono hl.size)
          clear hT hG hF hbw1 hQ QQ L 
          go_upto_region 3 with (fail)
          let L : List Sp := [sV 3 [] [] (fun u => u = .tuple #[.agg (W4 x), .bool true]), sA 7 31 [8] #[.int .u64 0, .int .u64 0, .int .u64 0, .int .u64 0], sT 8 7 31 [5] (fun g => aggOf g 5)]
          refine wp_region_six0 (shs L) (look6 L) (None_) (by kernel_rfl) (by kernel_rfl) (mk_St L [] [] (by kernel_rfl) (by kernel_rfl) ⟨ok_V ⟨_, rfl⟩, ok_A, ok_T aggOf_congr, trivial⟩ (by simp)) ?_
          intro QQ hQ
          -- 0: load<31> *t3
          refine stepK rfl (by kernel_rfl) (fun K hK => ?_); go_simp
          apply Exists.intro; apply And.intro; (focus exact kLoad rfl rfl aggT31 r0 rfl id); refine hK _ _ ?_; clear hK K
          -- 1: load<31> *t4
          refine stepK rfl (by kernel_rfl) (fun K hK => ?_); go_simp
          apply Exists.intro; apply And.intro; (focus exact kLoad rfl rfl aggT31 r1 rfl id); refine hK _ _ ?_; clear hK K
          -- 2: load<31> *t5
          refine stepK rfl (by kernel_rfl) (fun K hK => ?_); go_simp
          apply Exists.intro; apply And.intro; (focus exact kLoad rfl rfl aggT31 r2 rfl id); refine hK _ _ ?_; clear hK K
          -- 3: call F112(t31, t32, t33)
          refine stepS _ rfl (by kernel_rfl) (fun K hK => ?_); go_simp
          refine ⟨?_, ?_⟩
          · intro wk hk hg hu; go_simp; refine upon_enter ((k2.out _).mono ?_); rintro e w' ⟨rfl, hb⟩; exact ⟨_, rfl, left_V (p := fun u => u = .tuple #[.agg (W4 x), .bool true]) rfl (hb) rfl⟩
          rintro ⟨v3, lo3, hi3⟩ - - (rfl : v3 = _)
          refine hK _ _ ?_; clear hK K
          -- 4: t34
          refine stepK rfl (by kernel_rfl) (fun K hK => ?_); go_simp
          apply Exists.intro; apply And.intro; (focus (intro wk hk; go_simp; exact ⟨rfl, rfl⟩)); refine hK _ _ ?_; clear hK K
          -- 5: extract t30 #0
          refine stepK rfl (by kernel_rfl) (fun K hK => ?_); go_simp
          apply Exists.intro; apply And.intro; (focus (intro wk hk; go_simp; exact ⟨rfl, rfl⟩)); refine hK _ _ ?_; clear hK K
          -- 6: extract t30 #1
          refine stepK rfl (by kernel_rfl) (fun K hK => ?_); go_simp
          apply Exists.intro; apply And.intro; (focus (intro wk hk; go_simp; exact ⟨rfl, rfl⟩)); refine hK _ _ ?_; clear hK K
          -- 7: alloc<31>
          refine stepS _ rfl (by kernel_rfl) (fun K hK => ?_); go_simp
          refine ⟨?_, ?_⟩
          · intro wk hk hg hu; go_simp; exact left_A rfl rfl
          rintro ⟨v7, lo3_7, hi7⟩ hlo7 hhi7 ⟨e7, f7⟩
          replace e7 : v7 = .pointer (some ⟨lo3_7, 0, none⟩) := e7; replace f7 : hi7 = lo3_7 + 1 := f7; replace hlo7 : _ ≤ lo3_7 := hlo7; subst e7; subst f7
          refine hK _ _ ?_; clear hK K
          -- 8: store<31> *t7 = t35
          refine stepS _ rfl (by kernel_rfl) (fun K hK => ?_); go_simp
          refine ⟨?_, ?_⟩
          · exact sStoreT rfl rfl rfl rfl rfl rfl rfl (by kernel_rfl) rfl (by kernel_rfl) (by decide) aggOf_congr
          rintro ⟨v8, lo8, hi8⟩ - - (rfl : v8 = undef)
          refine hK _ _ ?_; clear hK K
          -- 9: assign t36
          refine stepK rfl (by kernel_rfl) (fun K hK => ?_); go_simp
          apply Exists.intro; apply And.intro; (focus (intro wk hk; go_simp; exact ⟨rfl, rfl⟩)); refine hK _ _ ?_; clear hK K
          refine stepN ?_
          refine hQ _ _ ?_
          intro w2 hT hG hF
          have hbw2 := hT.below
          have r3 : Row w2 lo3_7 31 ((W4 x)) := (hF 8 _ rfl rfl (by decide)).2
          replace r0 := r0.below hbw2 r0.lt
          replace r1 := r1.below hbw2 r1.lt
          replace r2 := r2.below hbw2 r2.lt
          replace hl := hl.trans (hbw2.mono hl.size)
          clear hT hG hF hbw2 hQ QQ L hlo7 hhi7
          go_upto_region 4 with (fail)
          let L : List Sp := [sV 5 [] [] (fun u => u = .int .i64 c1)]
          refine wp_region_six0 (shs L) (look6 L) (None_) (by kernel_rfl) (by kernel_rfl) (mk_St L [] [] (by kernel_rfl) (by kernel_rfl) ⟨ok_V ⟨_, rfl⟩, trivial⟩ (by simp)) ?_
          intro QQ hQ
          -- 0: t8
          refine stepK rfl (by kernel_rfl) (fun K hK => ?_); go_simp
          apply Exists.intro; apply And.intro; (focus (intro wk hk; go_simp; exact ⟨rfl, rfl⟩)); refine hK _ _ ?_; clear hK K
          -- 1: not<4> t37
          refine stepK rfl (by kernel_rfl) (fun K hK => ?_); go_simp
          apply Exists.intro; apply And.intro; (focus (intro wk hk; go_simp; exact ⟨rfl, rfl⟩)); refine hK _ _ ?_; clear hK K
          -- 2: t38
          refine stepK rfl (by kernel_rfl) (fun K hK => ?_); go_simp
          apply Exists.intro; apply And.intro; (focus (intro wk hk; go_simp; exact ⟨rfl, rfl⟩)); refine hK _ _ ?_; clear hK K
          -- 3: load<31> *t7
          refine stepK rfl (by kernel_rfl) (fun K hK => ?_); go_simp
          first | (refine hK _ _ ?_; clear hK K) | (apply Exists.intro; apply And.intro; (focus exact kLoad rfl rfl aggT31 r3 rfl id); refine hK _ _ ?_; clear hK K)
          -- 4: load<31> *t5
          refine stepK rfl (by kernel_rfl) (fun K hK => ?_); go_simp
          first | (refine hK _ _ ?_; clear hK K) | (apply Exists.intro; apply And.intro; (focus exact kLoad rfl rfl aggT31 r2 rfl id); refine hK _ _ ?_; clear hK K)
          -- 5: call F57(t40, t41)
          refine stepS _ rfl (by kernel_rfl) (fun K hK => ?_); go_simp
          refine ⟨?_, ?_⟩
          · intro wk hk hg hu; go_simp; refine upon_enter ((k3.out _).mono ?_); rintro e w' ⟨rfl, hb⟩; exact ⟨_, rfl, left_V (p := fun u => u = .int .i64 c1) rfl (hb) rfl⟩
          rintro ⟨v5, lo5, hi5⟩ - - (rfl : v5 = _)
          refine hK _ _ ?_; clear hK K
          -- 6: gtr<3> t42, 0
          refine stepK rfl (by kernel_rfl) (fun K hK => ?_); go_simp
          first | (refine hK _ _ ?_; clear hK K) | (apply Exists.intro; apply And.intro; (focus (intro wk hk; go_simp; exact ⟨rfl, rfl⟩)); refine hK _ _ ?_; clear hK K)
          -- 7: pick t39 ? true : t43
          refine stepK rfl (by kernel_rfl) (fun K hK => ?_); go_simp
          apply Exists.intro; apply And.intro; (focus (intro wk hk; go_simp; exact ⟨rfl, rfl⟩)); refine hK _ _ ?_; clear hK K
          refine stepN ?_
          refine hQ _ _ ?_
          intro w3 hT hG hF
          have hbw3 := hT.below
          replace r0 := r0.below hbw3 r0.lt
          replace r1 := r1.below hbw3 r1.lt
          replace r2 := r2.below hbw3 r2.lt
          replace r3 := r3.below hbw3 r3.lt
          replace hl := hl.trans (hbw3.mono hl.size)
          clear hT hG hF hbw3 hQ QQ L 
          go_upto_region 6 with (fail)
          let L : List Sp := [sV 2 [] [] (fun u => u = .tuple #[.agg (W4 m), .bool true]), sA 6 31 [7] #[.int .u64 0, .int .u64 0, .int .u64 0, .int .u64 0], sT 7 6 31 [4] (fun g => aggOf g 4)]
          refine wp_region_six0 (shs L) (look6 L) (None_) (by kernel_rfl) (by kernel_rfl) (mk_St L [] [] (by kernel_rfl) (by kernel_rfl) ⟨ok_V ⟨_, rfl⟩, ok_A, ok_T aggOf_congr, trivial⟩ (by simp)) ?_
          intro QQ hQ
          -- 0: load<31> *t3
          refine stepK rfl (by kernel_rfl) (fun K hK => ?_); go_simp
          apply Exists.intro; apply And.intro; (focus exact kLoad rfl rfl aggT31 r0 rfl id); refine hK _ _ ?_; clear hK K
          -- 1: load<31> *t5
          refine stepK rfl (by kernel_rfl) (fun K hK => ?_); go_simp
          apply Exists.intro; apply And.intro; (focus exact kLoad rfl rfl aggT31 r2 rfl id); refine hK _ _ ?_; clear hK K
          -- 2: call F51(t46, t47)
          refine stepS _ rfl (by kernel_rfl) (fun K hK => ?_); go_simp
          refine ⟨?_, ?_⟩
          · intro wk hk hg hu; go_simp; refine upon_enter ((k4.out _).mono ?_); rintro e w' ⟨rfl, hb⟩; exact ⟨_, rfl, left_V (p := fun u => u = .tuple #[.agg (W4 m), .bool true]) rfl (hb) rfl⟩
          rintro ⟨v2, lo2, hi2⟩ - - (rfl : v2 = _)
          refine hK _ _ ?_; clear hK K
          -- 3: t48
          refine stepK rfl (by kernel_rfl) (fun K hK => ?_); go_simp
          apply Exists.intro; apply And.intro; (focus (intro wk hk; go_simp; exact ⟨rfl, rfl⟩)); refine hK _ _ ?_; clear hK K
          -- 4: extract t45 #0
          refine stepK rfl (by kernel_rfl) (fun K hK => ?_); go_simp
          apply Exists.intro; apply And.intro; (focus (intro wk hk; go_simp; exact ⟨rfl, rfl⟩)); refine hK _ _ ?_; clear hK K
          -- 5: extract t45 #1
          refine stepK rfl (by kernel_rfl) (fun K hK => ?_); go_simp
          apply Exists.intro; apply And.intro; (focus (intro wk hk; go_simp; exact ⟨rfl, rfl⟩)); refine hK _ _ ?_; clear hK K
          -- 6: alloc<31>
          refine stepS _ rfl (by kernel_rfl) (fun K hK => ?_); go_simp
          refine ⟨?_, ?_⟩
          · intro wk hk hg hu; go_simp; exact left_A rfl rfl
          rintro ⟨v6, lo6_6, hi6⟩ hlo6 hhi6 ⟨e6, f6⟩
          replace e6 : v6 = .pointer (some ⟨lo6_6, 0, none⟩) := e6; replace f6 : hi6 = lo6_6 + 1 := f6; replace hlo6 : _ ≤ lo6_6 := hlo6; subst e6; subst f6
          refine hK _ _ ?_; clear hK K
          -- 7: store<31> *t9 = t49
          refine stepS _ rfl (by kernel_rfl) (fun K hK => ?_); go_simp
          refine ⟨?_, ?_⟩
          · exact sStoreT rfl rfl rfl rfl rfl rfl rfl (by kernel_rfl) rfl (by kernel_rfl) (by decide) aggOf_congr
          rintro ⟨v7, lo7, hi7⟩ - - (rfl : v7 = undef)
          refine hK _ _ ?_; clear hK K
          -- 8: assign t50
          refine stepK rfl (by kernel_rfl) (fun K hK => ?_); go_simp
          apply Exists.intro; apply And.intro; (focus (intro wk hk; go_simp; exact ⟨rfl, rfl⟩)); refine hK _ _ ?_; clear hK K
          refine stepN ?_
          refine hQ _ _ ?_
          intro w4 hT hG hF
          have hbw4 := hT.below
          have r4 : Row w4 lo6_6 31 ((W4 m)) := (hF 7 _ rfl rfl (by decide)).2
          replace r0 := r0.below hbw4 r0.lt
          replace r1 := r1.below hbw4 r1.lt
          replace r2 := r2.below hbw4 r2.lt
          replace r3 := r3.below hbw4 r3.lt
          replace hl := hl.trans (hbw4.mono hl.size)
          clear hT hG hF hbw4 hQ QQ L hlo6 hhi6
          go_upto_region 7 with (fail)
          let L : List Sp := [sV 2 [] [] (fun u => u = .tuple #[.agg (W4 z), .bool true]), sA 6 31 [7] #[.int .u64 0, .int .u64 0, .int .u64 0, .int .u64 0], sT 7 6 31 [4] (fun g => aggOf g 4)]
          refine wp_region_six0 (shs L) (look6 L) (None_) (by kernel_rfl) (by kernel_rfl) (mk_St L [] [] (by kernel_rfl) (by kernel_rfl) ⟨ok_V ⟨_, rfl⟩, ok_A, ok_T aggOf_congr, trivial⟩ (by simp)) ?_
          intro QQ hQ
          -- 0: load<31> *t4
          refine stepK rfl (by kernel_rfl) (fun K hK => ?_); go_simp
          apply Exists.intro; apply And.intro; (focus exact kLoad rfl rfl aggT31 r1 rfl id); refine hK _ _ ?_; clear hK K
          -- 1: load<31> *t7
          refine stepK rfl (by kernel_rfl) (fun K hK => ?_); go_simp
          apply Exists.intro; apply And.intro; (focus exact kLoad rfl rfl aggT31 r3 rfl id); refine hK _ _ ?_; clear hK K
          -- 2: call F51(t52, t53)
          refine stepS _ rfl (by kernel_rfl) (fun K hK => ?_); go_simp
          refine ⟨?_, ?_⟩
          · intro wk hk hg hu; go_simp; refine upon_enter ((k5.out _).mono ?_); rintro e w' ⟨rfl, hb⟩; exact ⟨_, rfl, left_V (p := fun u => u = .tuple #[.agg (W4 z), .bool true]) rfl (hb) rfl⟩
          rintro ⟨v2, lo2, hi2⟩ - - (rfl : v2 = _)
          refine hK _ _ ?_; clear hK K
          -- 3: t54
          refine stepK rfl (by kernel_rfl) (fun K hK => ?_); go_simp
          apply Exists.intro; apply And.intro; (focus (intro wk hk; go_simp; exact ⟨rfl, rfl⟩)); refine hK _ _ ?_; clear hK K
          -- 4: extract t51 #0
          refine stepK rfl (by kernel_rfl) (fun K hK => ?_); go_simp
          apply Exists.intro; apply And.intro; (focus (intro wk hk; go_simp; exact ⟨rfl, rfl⟩)); refine hK _ _ ?_; clear hK K
          -- 5: extract t51 #1
          refine stepK rfl (by kernel_rfl) (fun K hK => ?_); go_simp
          apply Exists.intro; apply And.intro; (focus (intro wk hk; go_simp; exact ⟨rfl, rfl⟩)); refine hK _ _ ?_; clear hK K
          -- 6: alloc<31>
          refine stepS _ rfl (by kernel_rfl) (fun K hK => ?_); go_simp
          refine ⟨?_, ?_⟩
          · intro wk hk hg hu; go_simp; exact left_A rfl rfl
          rintro ⟨v6, lo7_6, hi6⟩ hlo6 hhi6 ⟨e6, f6⟩
          replace e6 : v6 = .pointer (some ⟨lo7_6, 0, none⟩) := e6; replace f6 : hi6 = lo7_6 + 1 := f6; replace hlo6 : _ ≤ lo7_6 := hlo6; subst e6; subst f6
          refine hK _ _ ?_; clear hK K
          -- 7: store<31> *t11 = t55
          refine stepS _ rfl (by kernel_rfl) (fun K hK => ?_); go_simp
          refine ⟨?_, ?_⟩
          · exact sStoreT rfl rfl rfl rfl rfl rfl rfl (by kernel_rfl) rfl (by kernel_rfl) (by decide) aggOf_congr
          rintro ⟨v7, lo7, hi7⟩ - - (rfl : v7 = undef)
          refine hK _ _ ?_; clear hK K
          -- 8: assign t56
          refine stepK rfl (by kernel_rfl) (fun K hK => ?_); go_simp
          apply Exists.intro; apply And.intro; (focus (intro wk hk; go_simp; exact ⟨rfl, rfl⟩)); refine hK _ _ ?_; clear hK K
          refine stepN ?_
          refine hQ _ _ ?_
          intro w5 hT hG hF
          have hbw5 := hT.below
          have r5 : Row w5 lo7_6 31 ((W4 z)) := (hF 7 _ rfl rfl (by decide)).2
          replace r0 := r0.below hbw5 r0.lt
          replace r1 := r1.below hbw5 r1.lt
          replace r2 := r2.below hbw5 r2.lt
          replace r3 := r3.below hbw5 r3.lt
          replace r4 := r4.below hbw5 r4.lt
          replace hl := hl.trans (hbw5.mono hl.size)
          clear hT hG hF hbw5 hQ QQ L hlo6 hhi6
          go_upto_region 8 with (fail)
          let L : List Sp := [sV 2 [] [] (fun u => u = .bool true), sV 6 [] [] (fun u => u = .bool true), sV 11 [] [] (fun u => u = .bool true)]
          refine wp_region_six0 (shs L) (look6 L) (None_) (by kernel_rfl) (by kernel_rfl) (mk_St L [] [] (by kernel_rfl) (by kernel_rfl) ⟨ok_V ⟨_, rfl⟩, ok_V ⟨_, rfl⟩, ok_V ⟨_, rfl⟩, trivial⟩ (by simp)) ?_
          intro QQ hQ
          -- 0: load<31> *t9
          refine stepK rfl (by kernel_rfl) (fun K hK => ?_); go_simp
          apply Exists.intro; apply And.intro; (focus exact kLoad rfl rfl aggT31 r4 rfl id); refine hK _ _ ?_; clear hK K
          -- 1: build<31> 
          refine stepK rfl (by kernel_rfl) (fun K hK => ?_); go_simp
          apply Exists.intro; apply And.intro; (focus (intro wk hk; go_simp; exact ⟨rfl, rfl⟩)); refine hK _ _ ?_; clear hK K
          -- 2: call F116(t57, t58)
          refine stepS _ rfl (by kernel_rfl) (fun K hK => ?_); go_simp
          refine ⟨?_, ?_⟩
          · intro wk hk hg hu; go_simp; refine upon_enter ((k6.out _).mono ?_); rintro e w' ⟨rfl, hb⟩; exact ⟨_, rfl, left_V (p := fun u => u = .bool true) rfl (hb) rfl⟩
          rintro ⟨v2, lo2, hi2⟩ - - (rfl : v2 = _)
          refine hK _ _ ?_; clear hK K
          -- 3: t59
          refine stepK rfl (by kernel_rfl) (fun K hK => ?_); go_simp
          apply Exists.intro; apply And.intro; (focus (intro wk hk; go_simp; exact ⟨rfl, rfl⟩)); refine hK _ _ ?_; clear hK K
          -- 4: load<31> *t9
          refine stepK rfl (by kernel_rfl) (fun K hK => ?_); go_simp
          first | (refine hK _ _ ?_; clear hK K) | (apply Exists.intro; apply And.intro; (focus exact kLoad rfl rfl aggT31 r4 rfl id); refine hK _ _ ?_; clear hK K)
          -- 5: load<31> *t11
          refine stepK rfl (by kernel_rfl) (fun K hK => ?_); go_simp
          first | (refine hK _ _ ?_; clear hK K) | (apply Exists.intro; apply And.intro; (focus exact kLoad rfl rfl aggT31 r5 rfl id); refine hK _ _ ?_; clear hK K)
          -- 6: call F116(t61, t62)
          refine stepS _ rfl (by kernel_rfl) (fun K hK => ?_); go_simp
          refine ⟨?_, ?_⟩
          · intro wk hk hg hu; go_simp; refine upon_enter ((k7.out _).mono ?_); rintro e w' ⟨rfl, hb⟩; exact ⟨_, rfl, left_V (p := fun u => u = .bool true) rfl (hb) rfl⟩
          rintro ⟨v6, lo6, hi6⟩ - - (rfl : v6 = _)
          refine hK _ _ ?_; clear hK K
          -- 7: not<4> t63
          refine stepK rfl (by kernel_rfl) (fun K hK => ?_); go_simp
          first | (refine hK _ _ ?_; clear hK K) | (apply Exists.intro; apply And.intro; (focus (intro wk hk; go_simp; exact ⟨rfl, rfl⟩)); refine hK _ _ ?_; clear hK K)
          -- 8: t64
          refine stepK rfl (by kernel_rfl) (fun K hK => ?_); go_simp
          first | (refine hK _ _ ?_; clear hK K) | (apply Exists.intro; apply And.intro; (focus (intro wk hk; go_simp; exact ⟨rfl, rfl⟩)); refine hK _ _ ?_; clear hK K)
          -- 9: load<31> *t9
          refine stepK rfl (by kernel_rfl) (fun K hK => ?_); go_simp
          first | (refine hK _ _ ?_; clear hK K) | (apply Exists.intro; apply And.intro; (focus exact kLoad rfl rfl aggT31 r4 rfl id); refine hK _ _ ?_; clear hK K)
          -- 10: load<31> *t4
          refine stepK rfl (by kernel_rfl) (fun K hK => ?_); go_simp
          first | (refine hK _ _ ?_; clear hK K) | (apply Exists.intro; apply And.intro; (focus exact kLoad rfl rfl aggT31 r1 rfl id); refine hK _ _ ?_; clear hK K)
          -- 11: call F116(t66, t67)
          refine stepS _ rfl (by kernel_rfl) (fun K hK => ?_); go_simp
          refine ⟨?_, ?_⟩
          · intro wk hk hg hu; go_simp; refine upon_enter ((k8.out _).mono ?_); rintro e w' ⟨rfl, hb⟩; exact ⟨_, rfl, left_V (p := fun u => u = .bool true) rfl (hb) rfl⟩
          rintro ⟨v11, lo11, hi11⟩ - - (rfl : v11 = _)
          refine hK _ _ ?_; clear hK K
          -- 12: not<4> t68
          refine stepK rfl (by kernel_rfl) (fun K hK => ?_); go_simp
          first | (refine hK _ _ ?_; clear hK K) | (apply Exists.intro; apply And.intro; (focus (intro wk hk; go_simp; exact ⟨rfl, rfl⟩)); refine hK _ _ ?_; clear hK K)
          -- 13: pick t65 ? true : t69
          refine stepK rfl (by kernel_rfl) (fun K hK => ?_); go_simp
          first | (refine hK _ _ ?_; clear hK K) | (apply Exists.intro; apply And.intro; (focus (intro wk hk; go_simp; exact ⟨rfl, rfl⟩)); refine hK _ _ ?_; clear hK K)
          -- 14: pick t60 ? t70 : false
          refine stepK rfl (by kernel_rfl) (fun K hK => ?_); go_simp
          apply Exists.intro; apply And.intro; (focus (intro wk hk; go_simp; exact ⟨rfl, rfl⟩)); refine hK _ _ ?_; clear hK K
          refine stepN ?_
          refine hQ _ _ ?_
          intro w6 hT hG hF
          have hbw6 := hT.below
          replace r0 := r0.below hbw6 r0.lt
          replace r1 := r1.below hbw6 r1.lt
          replace r2 := r2.below hbw6 r2.lt
          replace r3 := r3.below hbw6 r3.lt
          replace r4 := r4.below hbw6 r4.lt
          replace r5 := r5.below hbw6 r5.lt
          replace hl := hl.trans (hbw6.mono hl.size)
          clear hT hG hF hbw6 hQ QQ L 
          go_upto_region 10 with (fail)
          let L : List Sp := [sV 2 [] [] (fun u => u = .int .i64 c2)]
          refine wp_region_six0 (shs L) (look6 L) (None_) (by kernel_rfl) (by kernel_rfl) (mk_St L [] [] (by kernel_rfl) (by kernel_rfl) ⟨ok_V ⟨_, rfl⟩, trivial⟩ (by simp)) ?_
          intro QQ hQ
          -- 0: load<31> *t5
          refine stepK rfl (by kernel_rfl) (fun K hK => ?_); go_simp
          apply Exists.intro; apply And.intro; (focus exact kLoad rfl rfl aggT31 r2 rfl id); refine hK _ _ ?_; clear hK K
          -- 1: load<31> *t4
          refine stepK rfl (by kernel_rfl) (fun K hK => ?_); go_simp
          apply Exists.intro; apply And.intro; (focus exact kLoad rfl rfl aggT31 r1 rfl id); refine hK _ _ ?_; clear hK K
          -- 2: call F57(t72, t73)
          refine stepS _ rfl (by kernel_rfl) (fun K hK => ?_); go_simp
          refine ⟨?_, ?_⟩
          · intro wk hk hg hu; go_simp; refine upon_enter ((k9.out _).mono ?_); rintro e w' ⟨rfl, hb⟩; exact ⟨_, rfl, left_V (p := fun u => u = .int .i64 c2) rfl (hb) rfl⟩
          rintro ⟨v2, lo2, hi2⟩ - - (rfl : v2 = _)
          refine hK _ _ ?_; clear hK K
          -- 3: gtr<3> t74, 0
          refine stepK rfl (by kernel_rfl) (fun K hK => ?_); go_simp
          apply Exists.intro; apply And.intro; (focus (intro wk hk; go_simp; exact ⟨rfl, rfl⟩)); refine hK _ _ ?_; clear hK K
          refine stepN ?_
          refine hQ _ _ ?_
          intro w7 hT hG hF
          have hbw7 := hT.below
          replace r0 := r0.below hbw7 r0.lt
          replace r1 := r1.below hbw7 r1.lt
          replace r2 := r2.below hbw7 r2.lt
          replace r3 := r3.below hbw7 r3.lt
          replace r4 := r4.below hbw7 r4.lt
          replace r5 := r5.below hbw7 r5.lt
          replace hl := hl.trans (hbw7.mono hl.size)
          clear hT hG hF hbw7 hQ QQ L 
          go_upto_region 11 with (fail)
          let L : List Sp := [sV 0 [] [] (fun u => u = .bool true)]
          refine wp_region_six0 (shs L) (look6 L) (None_) (by kernel_rfl) (by kernel_rfl) (mk_St L [] [] (by kernel_rfl) (by kernel_rfl) ⟨ok_V ⟨_, rfl⟩, trivial⟩ (by simp)) ?_
          intro QQ hQ
          -- 0: call F118()
          refine stepS _ rfl (by kernel_rfl) (fun K hK => ?_); go_simp
          refine ⟨?_, ?_⟩
          · intro wk hk hg hu; go_simp; refine upon_enter ((k10.out _).mono ?_); rintro e w' ⟨rfl, hb⟩; exact ⟨_, rfl, left_V (p := fun u => u = .bool true) rfl (hb) rfl⟩
          rintro ⟨v0, lo0, hi0⟩ - - (rfl : v0 = _)
          refine hK _ _ ?_; clear hK K
          -- 1: assign t76
          refine stepK rfl (by kernel_rfl) (fun K hK => ?_); go_simp
          apply Exists.intro; apply And.intro; (focus (intro wk hk; go_simp; exact ⟨rfl, rfl⟩)); refine hK _ _ ?_; clear hK K
          refine stepN ?_
          refine hQ _ _ ?_
          intro w8 hT hG hF
          have hbw8 := hT.below
          replace r0 := r0.below hbw8 r0.lt
          replace r1 := r1.below hbw8 r1.lt
          replace r2 := r2.below hbw8 r2.lt
          replace r3 := r3.below hbw8 r3.lt
          replace r4 := r4.below hbw8 r4.lt
          replace r5 := r5.below hbw8 r5.lt
          replace hl := hl.trans (hbw8.mono hl.size)
          clear hT hG hF hbw8 hQ QQ L 
          go_wp2_with fail
          go_ret
          exact ⟨rfl, hl⟩
      · have g3 : (amt2 m 0 && decide (0 ≤ m)) = false := good_no hm2
        by_cases hat : a ≤ t
        · have h2 : c2 ≤ 0 := hc2 ▸ cmpN_le hat
          have E0 := rate_sell G1.1 G1.2.1 G1.2.2 hat
          obtain ⟨k, hk⟩ : ∃ k, k = tkN s t a := ⟨_, rfl⟩
          rw [← hk] at E0
          have kl : k < M := Nat.lt_of_le_of_lt E0.2.1 hs
          obtain ⟨r, hr⟩ : ∃ r, r = s - k := ⟨_, rfl⟩
          obtain ⟨l, hll⟩ : ∃ l, l = t - a := ⟨_, rfl⟩
          have rl : r < M := by omega
          have ll : l < M := by omega
          have E : tkB s t a = true ∧ subB s k = true ∧ subB t a = true ∧ (amt2 r l && decide (l ≤ r)) = true := ⟨E0.1, decide_eq_true E0.2.1, decide_eq_true hat, good_ok (by have := G1.1; omega) (by have := G1.2.1; omega) (by have := E0.2.2; have := E0.2.1; omega)⟩
          clear E0 hat G1 G2 hmm huu hum hm2
          have k0 := Lib.hid (show ∀ wx, Calls Try.prog 116 #[.agg (W4 s), .agg (W4 t)] wx (Ret wx (.bool true)) from fun wx => by have h := goodRU hs ht wx; rw [hg1] at h; exact h)
          have k1 := Lib.hid (show ∀ wx, Calls Try.prog 116 #[.agg (W4 a), .agg #[.int .u64 0, .int .u64 0, .int .u64 0, .int .u64 0]] wx (Ret wx (.bool true)) from fun wx => by have h := goodRU ha (show 0 < M by unfold M; omega) wx; rw [hg2] at h; exact h)
          have k2 := Lib.hid (show ∀ wx, Calls Try.prog 112 #[.agg (W4 s), .agg (W4 t), .agg (W4 a)] wx (Ret wx (.tuple #[.agg (W4 x), .bool true])) from fun wx => by have h := sharesU hs ht ha wx; rw [← hx, B.1] at h; exact h)
          have k3 := Lib.hid (show ∀ wx, Calls Try.prog 57 #[.agg (W4 x), .agg (W4 a)] wx (Ret wx (.int .i64 c1)) from fun wx => by have h := refcmpU xl ha wx; rw [← hc1] at h; exact h)
          have k4 := Lib.hid (show ∀ wx, Calls Try.prog 51 #[.agg (W4 s), .agg (W4 a)] wx (Ret wx (.tuple #[.agg (W4 m), .bool true])) from fun wx => by have h := refaddU hs ha wx; rw [hm.1, hm.2] at h; exact h)
          have k5 := Lib.hid (show ∀ wx, Calls Try.prog 51 #[.agg (W4 t), .agg (W4 x)] wx (Ret wx (.tuple #[.agg (W4 z), .bool true])) from fun wx => by have h := refaddU ht xl wx; rw [hu.1, hu.2] at h; exact h)
          have k6 := Lib.hid (show ∀ wx, Calls Try.prog 116 #[.agg (W4 m), .agg #[.int .u64 0, .int .u64 0, .int .u64 0, .int .u64 0]] wx (Ret wx (.bool false)) from fun wx => by have h := goodRU ml (show 0 < M by unfold M; omega) wx; rw [g3] at h; exact h)
          have k7 := Lib.hid (show ∀ wx, Calls Try.prog 57 #[.agg (W4 a), .agg (W4 t)] wx (Ret wx (.int .i64 c2)) from fun wx => by have h := refcmpU ha ht wx; rw [← hc2] at h; exact h)
          have k8 := Lib.hid (show ∀ wx, Calls Try.prog 114 #[.agg (W4 s), .agg (W4 t), .agg (W4 a)] wx (Ret wx (.tuple #[.agg (W4 k), .bool true])) from fun wx => by have h := tokensU hs ht ha wx; rw [← hk, E.1] at h; exact h)
          have k9 := Lib.hid (show ∀ wx, Calls Try.prog 53 #[.agg (W4 s), .agg (W4 k)] wx (Ret wx (.tuple #[.agg (W4 r), .bool true])) from fun wx => by have h := refsubU hs kl wx; rw [← hr, E.2.1] at h; exact h)
          have k10 := Lib.hid (show ∀ wx, Calls Try.prog 53 #[.agg (W4 t), .agg (W4 a)] wx (Ret wx (.tuple #[.agg (W4 l), .bool true])) from fun wx => by have h := refsubU ht ha wx; rw [← hll, E.2.2.1] at h; exact h)
          have k11 := Lib.hid (show ∀ wx, Calls Try.prog 116 #[.agg (W4 r), .agg (W4 l)] wx (Ret wx (.bool true)) from fun wx => by have h := goodRU rl ll wx; rw [E.2.2.2] at h; exact h)
          have k12 := Lib.hid (show ∀ wx, Calls Try.prog 118 #[] wx (Ret wx (.bool true)) from fun wx => by have h := lives18U  wx; exact h)
          clear hg1 hg2 B hx hc1 hm hu hc2 g3 hk hr hll E
          go_enter Try.func22, Try.ntmps22
          apply wp_seq_eq
          focus
            intro J hJ
            go_wp2_with fail
            exact hJ
          refine wp_abs (Mem w [(w.heap.size, 31, W4 s), (w.heap.size + 1, 31, W4 t), (w.heap.size + 1 + 1, 31, W4 a)]) ⟨by go_grown, ?_, ?_, ?_, trivial⟩ ?_
          · repeat (first | (refine Row.new_at ?_; simp; done) | refine Row.alloc ?_ _)
          · repeat (first | (refine Row.new_at ?_; simp; done) | refine Row.alloc ?_ _)
          · repeat (first | (refine Row.new_at ?_; simp; done) | refine Row.alloc ?_ _)
          intro w0 hM
          obtain ⟨hl, r0, r1, r2, -⟩ := hM
          go_upto_region 1 with (fail)
          let L : List Sp := [sV 2 [] [] (fun u => u = .bool true), sV 7 [] [] (fun u => u = .bool true)]
          refine wp_region_six0 (shs L) (look6 L) (None_) (by kernel_rfl) (by kernel_rfl) (mk_St L [] [] (by kernel_rfl) (by kernel_rfl) ⟨ok_V ⟨_, rfl⟩, ok_V ⟨_, rfl⟩, trivial⟩ (by simp)) ?_
          intro QQ hQ
          -- 0: load<31> *t3
          refine stepK rfl (by kernel_rfl) (fun K hK => ?_); go_simp
          apply Exists.intro; apply And.intro; (focus exact kLoad rfl rfl aggT31 r0 rfl id); refine hK _ _ ?_; clear hK K
          -- 1: load<31> *t4
          refine stepK rfl (by kernel_rfl) (fun K hK => ?_); go_simp
          apply Exists.intro; apply And.intro; (focus exact kLoad rfl rfl aggT31 r1 rfl id); refine hK _ _ ?_; clear hK K
          -- 2: call F116(t19, t20)
          refine stepS _ rfl (by kernel_rfl) (fun K hK => ?_); go_simp
          refine ⟨?_, ?_⟩
          · intro wk hk hg hu; go_simp; refine upon_enter ((k0.out _).mono ?_); rintro e w' ⟨rfl, hb⟩; exact ⟨_, rfl, left_V (p := fun u => u = .bool true) rfl (hb) rfl⟩
          rintro ⟨v2, lo2, hi2⟩ - - (rfl : v2 = _)
          refine hK _ _ ?_; clear hK K
          -- 3: not<4> t21
          refine stepK rfl (by kernel_rfl) (fun K hK => ?_); go_simp
          apply Exists.intro; apply And.intro; (focus (intro wk hk; go_simp; exact ⟨rfl, rfl⟩)); refine hK _ _ ?_; clear hK K
          -- 4: t22
          refine stepK rfl (by kernel_rfl) (fun K hK => ?_); go_simp
          apply Exists.intro; apply And.intro; (focus (intro wk hk; go_simp; exact ⟨rfl, rfl⟩)); refine hK _ _ ?_; clear hK K
          -- 5: load<31> *t5
          refine stepK rfl (by kernel_rfl) (fun K hK => ?_); go_simp
          first | (refine hK _ _ ?_; clear hK K) | (apply Exists.intro; apply And.intro; (focus exact kLoad rfl rfl aggT31 r2 rfl id); refine hK _ _ ?_; clear hK K)
          -- 6: build<31> 
          refine stepK rfl (by kernel_rfl) (fun K hK => ?_); go_simp
          first | (refine hK _ _ ?_; clear hK K) | (apply Exists.intro; apply And.intro; (focus (intro wk hk; go_simp; exact ⟨rfl, rfl⟩)); refine hK _ _ ?_; clear hK K)
          -- 7: call F116(t24, t25)
          refine stepS _ rfl (by kernel_rfl) (fun K hK => ?_); go_simp
          refine ⟨?_, ?_⟩
          · intro wk hk hg hu; go_simp; refine upon_enter ((k1.out _).mono ?_); rintro e w' ⟨rfl, hb⟩; exact ⟨_, rfl, left_V (p := fun u => u = .bool true) rfl (hb) rfl⟩
          rintro ⟨v7, lo7, hi7⟩ - - (rfl : v7 = _)
          refine hK _ _ ?_; clear hK K
          -- 8: not<4> t26
          refine stepK rfl (by kernel_rfl) (fun K hK => ?_); go_simp
          first | (refine hK _ _ ?_; clear hK K) | (apply Exists.intro; apply And.intro; (focus (intro wk hk; go_simp; exact ⟨rfl, rfl⟩)); refine hK _ _ ?_; clear hK K)
          -- 9: pick t23 ? true : t27
          refine stepK rfl (by kernel_rfl) (fun K hK => ?_); go_simp
          apply Exists.intro; apply And.intro; (focus (intro wk hk; go_simp; exact ⟨rfl, rfl⟩)); refine hK _ _ ?_; clear hK K
          refine stepN ?_
          refine hQ _ _ ?_
          intro w1 hT hG hF
          have hbw1 := hT.below
          replace r0 := r0.below hbw1 r0.lt
          replace r1 := r1.below hbw1 r1.lt
          replace r2 := r2.below hbw1 r2.lt
          replace hl := hl.trans (hbw1.mono hl.size)
          clear hT hG hF hbw1 hQ QQ L 
          go_upto_region 3 with (fail)
          let L : List Sp := [sV 3 [] [] (fun u => u = .tuple #[.agg (W4 x), .bool true]), sA 7 31 [8] #[.int .u64 0, .int .u64 0, .int .u64 0, .int .u64 0], sT 8 7 31 [5] (fun g => aggOf g 5)]
          refine wp_region_six0 (shs L) (look6 L) (None_) (by kernel_rfl) (by kernel_rfl) (mk_St L [] [] (by kernel_rfl) (by kernel_rfl) ⟨ok_V ⟨_, rfl⟩, ok_A, ok_T aggOf_congr, trivial⟩ (by simp)) ?_
          intro QQ hQ
          -- 0: load<31> *t3
          refine stepK rfl (by kernel_rfl) (fun K hK => ?_); go_simp
          apply Exists.intro; apply And.intro; (focus exact kLoad rfl rfl aggT31 r0 rfl id); refine hK _ _ ?_; clear hK K
          -- 1: load<31> *t4
          refine stepK rfl (by kernel_rfl) (fun K hK => ?_); go_simp
          apply Exists.intro; apply And.intro; (focus exact kLoad rfl rfl aggT31 r1 rfl id); refine hK _ _ ?_; clear hK K
          -- 2: load<31> *t5
          refine stepK rfl (by kernel_rfl) (fun K hK => ?_); go_simp
          apply Exists.intro; apply And.intro; (focus exact kLoad rfl rfl aggT31 r2 rfl id); refine hK _ _ ?_; clear hK K
          -- 3: call F112(t31, t32, t33)
          refine stepS _ rfl (by kernel_rfl) (fun K hK => ?_); go_simp
          refine ⟨?_, ?_⟩
          · intro wk hk hg hu; go_simp; refine upon_enter ((k2.out _).mono ?_); rintro e w' ⟨rfl, hb⟩; exact ⟨_, rfl, left_V (p := fun u => u = .tuple #[.agg (W4 x), .bool true]) rfl (hb) rfl⟩
          rintro ⟨v3, lo3, hi3⟩ - - (rfl : v3 = _)
          refine hK _ _ ?_; clear hK K
          -- 4: t34
          refine stepK rfl (by kernel_rfl) (fun K hK => ?_); go_simp
          apply Exists.intro; apply And.intro; (focus (intro wk hk; go_simp; exact ⟨rfl, rfl⟩)); refine hK _ _ ?_; clear hK K
          -- 5: extract t30 #0
          refine stepK rfl (by kernel_rfl) (fun K hK => ?_); go_simp
          apply Exists.intro; apply And.intro; (focus (intro wk hk; go_simp; exact ⟨rfl, rfl⟩)); refine hK _ _ ?_; clear hK K
          -- 6: extract t30 #1
          refine stepK rfl (by kernel_rfl) (fun K hK => ?_); go_simp
          apply Exists.intro; apply And.intro; (focus (intro wk hk; go_simp; exact ⟨rfl, rfl⟩)); refine hK _ _ ?_; clear hK K
          -- 7: alloc<31>
          refine stepS _ rfl (by kernel_rfl) (fun K hK => ?_); go_simp
          refine ⟨?_, ?_⟩
          · intro wk hk hg hu; go_simp; exact left_A rfl rfl
          rintro ⟨v7, lo3_7, hi7⟩ hlo7 hhi7 ⟨e7, f7⟩
          replace e7 : v7 = .pointer (some ⟨lo3_7, 0, none⟩) := e7; replace f7 : hi7 = lo3_7 + 1 := f7; replace hlo7 : _ ≤ lo3_7 := hlo7; subst e7; subst f7
          refine hK _ _ ?_; clear hK K
          -- 8: store<31> *t7 = t35
          refine stepS _ rfl (by kernel_rfl) (fun K hK => ?_); go_simp
          refine ⟨?_, ?_⟩
          · exact sStoreT rfl rfl rfl rfl rfl rfl rfl (by kernel_rfl) rfl (by kernel_rfl) (by decide) aggOf_congr
          rintro ⟨v8, lo8, hi8⟩ - - (rfl : v8 = undef)
          refine hK _ _ ?_; clear hK K
          -- 9: assign t36
          refine stepK rfl (by kernel_rfl) (fun K hK => ?_); go_simp
          apply Exists.intro; apply And.intro; (focus (intro wk hk; go_simp; exact ⟨rfl, rfl⟩)); refine hK _ _ ?_; clear hK K
          refine stepN ?_
          refine hQ _ _ ?_
          intro w2 hT hG hF
          have hbw2 := hT.below
          have r3 : Row w2 lo3_7 31 ((W4 x)) := (hF 8 _ rfl rfl (by decide)).2
          replace r0 := r0.below hbw2 r0.lt
          replace r1 := r1.below hbw2 r1.lt
          replace r2 := r2.below hbw2 r2.lt
          replace hl := hl.trans (hbw2.mono hl.size)
          clear hT hG hF hbw2 hQ QQ L hlo7 hhi7
          go_upto_region 4 with (fail)
          let L : List Sp := [sV 5 [] [] (fun u => u = .int .i64 c1)]
          refine wp_region_six0 (shs L) (look6 L) (None_) (by kernel_rfl) (by kernel_rfl) (mk_St L [] [] (by kernel_rfl) (by kernel_rfl) ⟨ok_V ⟨_, rfl⟩, trivial⟩ (by simp)) ?_
          intro QQ hQ
          -- 0: t8
          refine stepK rfl (by kernel_rfl) (fun K hK => ?_); go_simp
          apply Exists.intro; apply And.intro; (focus (intro wk hk; go_simp; exact ⟨rfl, rfl⟩)); refine hK _ _ ?_; clear hK K
          -- 1: not<4> t37
          refine stepK rfl (by kernel_rfl) (fun K hK => ?_); go_simp
          apply Exists.intro; apply And.intro; (focus (intro wk hk; go_simp; exact ⟨rfl, rfl⟩)); refine hK _ _ ?_; clear hK K
          -- 2: t38
          refine stepK rfl (by kernel_rfl) (fun K hK => ?_); go_simp
          apply Exists.intro; apply And.intro; (focus (intro wk hk; go_simp; exact ⟨rfl, rfl⟩)); refine hK _ _ ?_; clear hK K
          -- 3: load<31> *t7
          refine stepK rfl (by kernel_rfl) (fun K hK => ?_); go_simp
          first | (refine hK _ _ ?_; clear hK K) | (apply Exists.intro; apply And.intro; (focus exact kLoad rfl rfl aggT31 r3 rfl id); refine hK _ _ ?_; clear hK K)
          -- 4: load<31> *t5
          refine stepK rfl (by kernel_rfl) (fun K hK => ?_); go_simp
          first | (refine hK _ _ ?_; clear hK K) | (apply Exists.intro; apply And.intro; (focus exact kLoad rfl rfl aggT31 r2 rfl id); refine hK _ _ ?_; clear hK K)
          -- 5: call F57(t40, t41)
          refine stepS _ rfl (by kernel_rfl) (fun K hK => ?_); go_simp
          refine ⟨?_, ?_⟩
          · intro wk hk hg hu; go_simp; refine upon_enter ((k3.out _).mono ?_); rintro e w' ⟨rfl, hb⟩; exact ⟨_, rfl, left_V (p := fun u => u = .int .i64 c1) rfl (hb) rfl⟩
          rintro ⟨v5, lo5, hi5⟩ - - (rfl : v5 = _)
          refine hK _ _ ?_; clear hK K
          -- 6: gtr<3> t42, 0
          refine stepK rfl (by kernel_rfl) (fun K hK => ?_); go_simp
          first | (refine hK _ _ ?_; clear hK K) | (apply Exists.intro; apply And.intro; (focus (intro wk hk; go_simp; exact ⟨rfl, rfl⟩)); refine hK _ _ ?_; clear hK K)
          -- 7: pick t39 ? true : t43
          refine stepK rfl (by kernel_rfl) (fun K hK => ?_); go_simp
          apply Exists.intro; apply And.intro; (focus (intro wk hk; go_simp; exact ⟨rfl, rfl⟩)); refine hK _ _ ?_; clear hK K
          refine stepN ?_
          refine hQ _ _ ?_
          intro w3 hT hG hF
          have hbw3 := hT.below
          replace r0 := r0.below hbw3 r0.lt
          replace r1 := r1.below hbw3 r1.lt
          replace r2 := r2.below hbw3 r2.lt
          replace r3 := r3.below hbw3 r3.lt
          replace hl := hl.trans (hbw3.mono hl.size)
          clear hT hG hF hbw3 hQ QQ L 
          go_upto_region 6 with (fail)
          let L : List Sp := [sV 2 [] [] (fun u => u = .tuple #[.agg (W4 m), .bool true]), sA 6 31 [7] #[.int .u64 0, .int .u64 0, .int .u64 0, .int .u64 0], sT 7 6 31 [4] (fun g => aggOf g 4)]
          refine wp_region_six0 (shs L) (look6 L) (None_) (by kernel_rfl) (by kernel_rfl) (mk_St L [] [] (by kernel_rfl) (by kernel_rfl) ⟨ok_V ⟨_, rfl⟩, ok_A, ok_T aggOf_congr, trivial⟩ (by simp)) ?_
          intro QQ hQ
          -- 0: load<31> *t3
          refine stepK rfl (by kernel_rfl) (fun K hK => ?_); go_simp
          apply Exists.intro; apply And.intro; (focus exact kLoad rfl rfl aggT31 r0 rfl id); refine hK _ _ ?_; clear hK K
          -- 1: load<31> *t5
          refine stepK rfl (by kernel_rfl) (fun K hK => ?_); go_simp
          apply Exists.intro; apply And.intro; (focus exact kLoad rfl rfl aggT31 r2 rfl id); refine hK _ _ ?_; clear hK K
          -- 2: call F51(t46, t47)
          refine stepS _ rfl (by kernel_rfl) (fun K hK => ?_); go_simp
          refine ⟨?_, ?_⟩
          · intro wk hk hg hu; go_simp; refine upon_enter ((k4.out _).mono ?_); rintro e w' ⟨rfl, hb⟩; exact ⟨_, rfl, left_V (p := fun u => u = .tuple #[.agg (W4 m), .bool true]) rfl (hb) rfl⟩
          rintro ⟨v2, lo2, hi2⟩ - - (rfl : v2 = _)
          refine hK _ _ ?_; clear hK K
          -- 3: t48
          refine stepK rfl (by kernel_rfl) (fun K hK => ?_); go_simp
          apply Exists.intro; apply And.intro; (focus (intro wk hk; go_simp; exact ⟨rfl, rfl⟩)); refine hK _ _ ?_; clear hK K
          -- 4: extract t45 #0
          refine stepK rfl (by kernel_rfl) (fun K hK => ?_); go_simp
          apply Exists.intro; apply And.intro; (focus (intro wk hk; go_simp; exact ⟨rfl, rfl⟩)); refine hK _ _ ?_; clear hK K
          -- 5: extract t45 #1
          refine stepK rfl (by kernel_rfl) (fun K hK => ?_); go_simp
          apply Exists.intro; apply And.intro; (focus (intro wk hk; go_simp; exact ⟨rfl, rfl⟩)); refine hK _ _ ?_; clear hK K
          -- 6: alloc<31>
          refine stepS _ rfl (by kernel_rfl) (fun K hK => ?_); go_simp
          refine ⟨?_, ?_⟩
          · intro wk hk hg hu; go_simp; exact left_A rfl rfl
          rintro ⟨v6, lo6_6, hi6⟩ hlo6 hhi6 ⟨e6, f6⟩
          replace e6 : v6 = .pointer (some ⟨lo6_6, 0, none⟩) := e6; replace f6 : hi6 = lo6_6 + 1 := f6; replace hlo6 : _ ≤ lo6_6 := hlo6; subst e6; subst f6
          refine hK _ _ ?_; clear hK K
          -- 7: store<31> *t9 = t49
          refine stepS _ rfl (by kernel_rfl) (fun K hK => ?_); go_simp
          refine ⟨?_, ?_⟩
          · exact sStoreT rfl rfl rfl rfl rfl rfl rfl (by kernel_rfl) rfl (by kernel_rfl) (by decide) aggOf_congr
          rintro ⟨v7, lo7, hi7⟩ - - (rfl : v7 = undef)
          refine hK _ _ ?_; clear hK K
          -- 8: assign t50
          refine stepK rfl (by kernel_rfl) (fun K hK => ?_); go_simp
          apply Exists.intro; apply And.intro; (focus (intro wk hk; go_simp; exact ⟨rfl, rfl⟩)); refine hK _ _ ?_; clear hK K
          refine stepN ?_
          refine hQ _ _ ?_
          intro w4 hT hG hF
          have hbw4 := hT.below
          have r4 : Row w4 lo6_6 31 ((W4 m)) := (hF 7 _ rfl rfl (by decide)).2
          replace r0 := r0.below hbw4 r0.lt
          replace r1 := r1.below hbw4 r1.lt
          replace r2 := r2.below hbw4 r2.lt
          replace r3 := r3.below hbw4 r3.lt
          replace hl := hl.trans (hbw4.mono hl.size)
          clear hT hG hF hbw4 hQ QQ L hlo6 hhi6
          go_upto_region 7 with (fail)
          let L : List Sp := [sV 2 [] [] (fun u => u = .tuple #[.agg (W4 z), .bool true]), sA 6 31 [7] #[.int .u64 0, .int .u64 0, .int .u64 0, .int .u64 0], sT 7 6 31 [4] (fun g => aggOf g 4)]
          refine wp_region_six0 (shs L) (look6 L) (None_) (by kernel_rfl) (by kernel_rfl) (mk_St L [] [] (by kernel_rfl) (by kernel_rfl) ⟨ok_V ⟨_, rfl⟩, ok_A, ok_T aggOf_congr, trivial⟩ (by simp)) ?_
          intro QQ hQ
          -- 0: load<31> *t4
          refine stepK rfl (by kernel_rfl) (fun K hK => ?_); go_simp
          apply Exists.intro; apply And.intro; (focus exact kLoad rfl rfl aggT31 r1 rfl id); refine hK _ _ ?_; clear hK K
          -- 1: load<31> *t7
          refine stepK rfl (by kernel_rfl) (fun K hK => ?_); go_simp
          apply Exists.intro; apply And.intro; (focus exact kLoad rfl rfl aggT31 r3 rfl id); refine hK _ _ ?_; clear hK K
          -- 2: call F51(t52, t53)
          refine stepS _ rfl (by kernel_rfl) (fun K hK => ?_); go_simp
          refine ⟨?_, ?_⟩
          · intro wk hk hg hu; go_simp; refine upon_enter ((k5.out _).mono ?_); rintro e w' ⟨rfl, hb⟩; exact ⟨_, rfl, left_V (p := fun u => u = .tuple #[.agg (W4 z), .bool true]) rfl (hb) rfl⟩
          rintro ⟨v2, lo2, hi2⟩ - - (rfl : v2 = _)
          refine hK _ _ ?_; clear hK K
          -- 3: t54
          refine stepK rfl (by kernel_rfl) (fun K hK => ?_); go_simp
          apply Exists.intro; apply And.intro; (focus (intro wk hk; go_simp; exact ⟨rfl, rfl⟩)); refine hK _ _ ?_; clear hK K
          -- 4: extract t51 #0
          refine stepK rfl (by kernel_rfl) (fun K hK => ?_); go_simp
          apply Exists.intro; apply And.intro; (focus (intro wk hk; go_simp; exact ⟨rfl, rfl⟩)); refine hK _ _ ?_; clear hK K
          -- 5: extract t51 #1
          refine stepK rfl (by kernel_rfl) (fun K hK => ?_); go_simp
          apply Exists.intro; apply And.intro; (focus (intro wk hk; go_simp; exact ⟨rfl, rfl⟩)); refine hK _ _ ?_; clear hK K
          -- 6: alloc<31>
          refine stepS _ rfl (by kernel_rfl) (fun K hK => ?_); go_simp
          refine ⟨?_, ?_⟩
          · intro wk hk hg hu; go_simp; exact left_A rfl rfl
          rintro ⟨v6, lo7_6, hi6⟩ hlo6 hhi6 ⟨e6, f6⟩
          replace e6 : v6 = .pointer (some ⟨lo7_6, 0, none⟩) := e6; replace f6 : hi6 = lo7_6 + 1 := f6; replace hlo6 : _ ≤ lo7_6 := hlo6; subst e6; subst f6
          refine hK _ _ ?_; clear hK K
          -- 7: store<31> *t11 = t55
          refine stepS _ rfl (by kernel_rfl) (fun K hK => ?_); go_simp
          refine ⟨?_, ?_⟩
          · exact sStoreT rfl rfl rfl rfl rfl rfl rfl (by kernel_rfl) rfl (by kernel_rfl) (by decide) aggOf_congr
          rintro ⟨v7, lo7, hi7⟩ - - (rfl : v7 = undef)
          refine hK _ _ ?_; clear hK K
          -- 8: assign t56
          refine stepK rfl (by kernel_rfl) (fun K hK => ?_); go_simp
          apply Exists.intro; apply And.intro; (focus (intro wk hk; go_simp; exact ⟨rfl, rfl⟩)); refine hK _ _ ?_; clear hK K
          refine stepN ?_
          refine hQ _ _ ?_
          intro w5 hT hG hF
          have hbw5 := hT.below
          have r5 : Row w5 lo7_6 31 ((W4 z)) := (hF 7 _ rfl rfl (by decide)).2
          replace r0 := r0.below hbw5 r0.lt
          replace r1 := r1.below hbw5 r1.lt
          replace r2 := r2.below hbw5 r2.lt
          replace r3 := r3.below hbw5 r3.lt
          replace r4 := r4.below hbw5 r4.lt
          replace hl := hl.trans (hbw5.mono hl.size)
          clear hT hG hF hbw5 hQ QQ L hlo6 hhi6
          go_upto_region 8 with (fail)
          let L : List Sp := [sV 2 [] [] (fun u => u = .bool false)]
          refine wp_region_six0 (shs L) (look6 L) (None_) (by kernel_rfl) (by kernel_rfl) (mk_St L [] [] (by kernel_rfl) (by kernel_rfl) ⟨ok_V ⟨_, rfl⟩, trivial⟩ (by simp)) ?_
          intro QQ hQ
          -- 0: load<31> *t9
          refine stepK rfl (by kernel_rfl) (fun K hK => ?_); go_simp
          apply Exists.intro; apply And.intro; (focus exact kLoad rfl rfl aggT31 r4 rfl id); refine hK _ _ ?_; clear hK K
          -- 1: build<31> 
          refine stepK rfl (by kernel_rfl) (fun K hK => ?_); go_simp
          apply Exists.intro; apply And.intro; (focus (intro wk hk; go_simp; exact ⟨rfl, rfl⟩)); refine hK _ _ ?_; clear hK K
          -- 2: call F116(t57, t58)
          refine stepS _ rfl (by kernel_rfl) (fun K hK => ?_); go_simp
          refine ⟨?_, ?_⟩
          · intro wk hk hg hu; go_simp; refine upon_enter ((k6.out _).mono ?_); rintro e w' ⟨rfl, hb⟩; exact ⟨_, rfl, left_V (p := fun u => u = .bool false) rfl (hb) rfl⟩
          rintro ⟨v2, lo2, hi2⟩ - - (rfl : v2 = _)
          refine hK _ _ ?_; clear hK K
          -- 3: t59
          refine stepK rfl (by kernel_rfl) (fun K hK => ?_); go_simp
          apply Exists.intro; apply And.intro; (focus (intro wk hk; go_simp; exact ⟨rfl, rfl⟩)); refine hK _ _ ?_; clear hK K
          -- 4: load<31> *t9
          refine stepK rfl (by kernel_rfl) (fun K hK => ?_); go_simp
          first | (refine hK _ _ ?_; clear hK K) | (apply Exists.intro; apply And.intro; (focus (intro wk hk; go_simp; exact ⟨rfl, rfl⟩)); refine hK _ _ ?_; clear hK K)
          -- 5: load<31> *t11
          refine stepK rfl (by kernel_rfl) (fun K hK => ?_); go_simp
          first | (refine hK _ _ ?_; clear hK K) | (apply Exists.intro; apply And.intro; (focus (intro wk hk; go_simp; exact ⟨rfl, rfl⟩)); refine hK _ _ ?_; clear hK K)
          -- 6: call F116(t61, t62)
          refine stepK rfl (by kernel_rfl) (fun K hK => ?_); go_simp
          first | (refine hK _ _ ?_; clear hK K) | (apply Exists.intro; apply And.intro; (focus (intro wk hk; go_simp; exact ⟨rfl, rfl⟩)); refine hK _ _ ?_; clear hK K)
          -- 7: not<4> t63
          refine stepK rfl (by kernel_rfl) (fun K hK => ?_); go_simp
          first | (refine hK _ _ ?_; clear hK K) | (apply Exists.intro; apply And.intro; (focus (intro wk hk; go_simp; exact ⟨rfl, rfl⟩)); refine hK _ _ ?_; clear hK K)
          -- 8: t64
          refine stepK rfl (by kernel_rfl) (fun K hK => ?_); go_simp
          first | (refine hK _ _ ?_; clear hK K) | (apply Exists.intro; apply And.intro; (focus (intro wk hk; go_simp; exact ⟨rfl, rfl⟩)); refine hK _ _ ?_; clear hK K)
          -- 9: load<31> *t9
          refine stepK rfl (by kernel_rfl) (fun K hK => ?_); go_simp
          first | (refine hK _ _ ?_; clear hK K) | (apply Exists.intro; apply And.intro; (focus (intro wk hk; go_simp; exact ⟨rfl, rfl⟩)); refine hK _ _ ?_; clear hK K)
          -- 10: load<31> *t4
          refine stepK rfl (by kernel_rfl) (fun K hK => ?_); go_simp
          first | (refine hK _ _ ?_; clear hK K) | (apply Exists.intro; apply And.intro; (focus (intro wk hk; go_simp; exact ⟨rfl, rfl⟩)); refine hK _ _ ?_; clear hK K)
          -- 11: call F116(t66, t67)
          refine stepK rfl (by kernel_rfl) (fun K hK => ?_); go_simp
          first | (refine hK _ _ ?_; clear hK K) | (apply Exists.intro; apply And.intro; (focus (intro wk hk; go_simp; exact ⟨rfl, rfl⟩)); refine hK _ _ ?_; clear hK K)
          -- 12: not<4> t68
          refine stepK rfl (by kernel_rfl) (fun K hK => ?_); go_simp
          first | (refine hK _ _ ?_; clear hK K) | (apply Exists.intro; apply And.intro; (focus (intro wk hk; go_simp; exact ⟨rfl, rfl⟩)); refine hK _ _ ?_; clear hK K)
          -- 13: pick t65 ? true : t69
          refine stepK rfl (by kernel_rfl) (fun K hK => ?_); go_simp
          first | (refine hK _ _ ?_; clear hK K) | (apply Exists.intro; apply And.intro; (focus (intro wk hk; go_simp; exact ⟨rfl, rfl⟩)); refine hK _ _ ?_; clear hK K)
          -- 14: pick t60 ? t70 : false
          refine stepK rfl (by kernel_rfl) (fun K hK => ?_); go_simp
          apply Exists.intro; apply And.intro; (focus (intro wk hk; go_simp; exact ⟨rfl, rfl⟩)); refine hK _ _ ?_; clear hK K
          refine stepN ?_
          refine hQ _ _ ?_
          intro w6 hT hG hF
          have hbw6 := hT.below
          replace r0 := r0.below hbw6 r0.lt
          replace r1 := r1.below hbw6 r1.lt
          replace r2 := r2.below hbw6 r2.lt
          replace r3 := r3.below hbw6 r3.lt
          replace r4 := r4.below hbw6 r4.lt
          replace r5 := r5.below hbw6 r5.lt
          replace hl := hl.trans (hbw6.mono hl.size)
          clear hT hG hF hbw6 hQ QQ L 
          go_upto_region 10 with (fail)
          let L : List Sp := [sV 2 [] [] (fun u => u = .int .i64 c2)]
          refine wp_region_six0 (shs L) (look6 L) (None_) (by kernel_rfl) (by kernel_rfl) (mk_St L [] [] (by kernel_rfl) (by kernel_rfl) ⟨ok_V ⟨_, rfl⟩, trivial⟩ (by simp)) ?_
          intro QQ hQ
          -- 0: load<31> *t5
          refine stepK rfl (by kernel_rfl) (fun K hK => ?_); go_simp
          apply Exists.intro; apply And.intro; (focus exact kLoad rfl rfl aggT31 r2 rfl id); refine hK _ _ ?_; clear hK K
          -- 1: load<31> *t4
          refine stepK rfl (by kernel_rfl) (fun K hK => ?_); go_simp
          apply Exists.intro; apply And.intro; (focus exact kLoad rfl rfl aggT31 r1 rfl id); refine hK _ _ ?_; clear hK K
          -- 2: call F57(t72, t73)
          refine stepS _ rfl (by kernel_rfl) (fun K hK => ?_); go_simp
          refine ⟨?_, ?_⟩
          · intro wk hk hg hu; go_simp; refine upon_enter ((k7.out _).mono ?_); rintro e w' ⟨rfl, hb⟩; exact ⟨_, rfl, left_V (p := fun u => u = .int .i64 c2) rfl (hb) rfl⟩
          rintro ⟨v2, lo2, hi2⟩ - - (rfl : v2 = _)
          refine hK _ _ ?_; clear hK K
          -- 3: gtr<3> t74, 0
          refine stepK rfl (by kernel_rfl) (fun K hK => ?_); go_simp
          apply Exists.intro; apply And.intro; (focus (intro wk hk; go_simp; exact ⟨rfl, rfl⟩)); refine hK _ _ ?_; clear hK K
          refine stepN ?_
          refine hQ _ _ ?_
          intro w7 hT hG hF
          have hbw7 := hT.below
          replace r0 := r0.below hbw7 r0.lt
          replace r1 := r1.below hbw7 r1.lt
          replace r2 := r2.below hbw7 r2.lt
          replace r3 := r3.below hbw7 r3.lt
          replace r4 := r4.below hbw7 r4.lt
          replace r5 := r5.below hbw7 r5.lt
          replace hl := hl.trans (hbw7.mono hl.size)
          clear hT hG hF hbw7 hQ QQ L 
          go_upto_region 12 with (fail)
          let L : List Sp := [sV 3 [] [] (fun u => u = .tuple #[.agg (W4 k), .bool true]), sA 7 31 [8] #[.int .u64 0, .int .u64 0, .int .u64 0, .int .u64 0], sT 8 7 31 [5] (fun g => aggOf g 5)]
          refine wp_region_six0 (shs L) (look6 L) (None_) (by kernel_rfl) (by kernel_rfl) (mk_St L [] [] (by kernel_rfl) (by kernel_rfl) ⟨ok_V ⟨_, rfl⟩, ok_A, ok_T aggOf_congr, trivial⟩ (by simp)) ?_
          intro QQ hQ
          -- 0: load<31> *t3
          refine stepK rfl (by kernel_rfl) (fun K hK => ?_); go_simp
          apply Exists.intro; apply And.intro; (focus exact kLoad rfl rfl aggT31 r0 rfl id); refine hK _ _ ?_; clear hK K
          -- 1: load<31> *t4
          refine stepK rfl (by kernel_rfl) (fun K hK => ?_); go_simp
          apply Exists.intro; apply And.intro; (focus exact kLoad rfl rfl aggT31 r1 rfl id); refine hK _ _ ?_; clear hK K
          -- 2: load<31> *t5
          refine stepK rfl (by kernel_rfl) (fun K hK => ?_); go_simp
          apply Exists.intro; apply And.intro; (focus exact kLoad rfl rfl aggT31 r2 rfl id); refine hK _ _ ?_; clear hK K
          -- 3: call F114(t78, t79, t80)
          refine stepS _ rfl (by kernel_rfl) (fun K hK => ?_); go_simp
          refine ⟨?_, ?_⟩
          · intro wk hk hg hu; go_simp; refine upon_enter ((k8.out _).mono ?_); rintro e w' ⟨rfl, hb⟩; exact ⟨_, rfl, left_V (p := fun u => u = .tuple #[.agg (W4 k), .bool true]) rfl (hb) rfl⟩
          rintro ⟨v3, lo3, hi3⟩ - - (rfl : v3 = _)
          refine hK _ _ ?_; clear hK K
          -- 4: t81
          refine stepK rfl (by kernel_rfl) (fun K hK => ?_); go_simp
          apply Exists.intro; apply And.intro; (focus (intro wk hk; go_simp; exact ⟨rfl, rfl⟩)); refine hK _ _ ?_; clear hK K
          -- 5: extract t77 #0
          refine stepK rfl (by kernel_rfl) (fun K hK => ?_); go_simp
          apply Exists.intro; apply And.intro; (focus (intro wk hk; go_simp; exact ⟨rfl, rfl⟩)); refine hK _ _ ?_; clear hK K
          -- 6: extract t77 #1
          refine stepK rfl (by kernel_rfl) (fun K hK => ?_); go_simp
          apply Exists.intro; apply And.intro; (focus (intro wk hk; go_simp; exact ⟨rfl, rfl⟩)); refine hK _ _ ?_; clear hK K
          -- 7: alloc<31>
          refine stepS _ rfl (by kernel_rfl) (fun K hK => ?_); go_simp
          refine ⟨?_, ?_⟩
          · intro wk hk hg hu; go_simp; exact left_A rfl rfl
          rintro ⟨v7, lo12_7, hi7⟩ hlo7 hhi7 ⟨e7, f7⟩
          replace e7 : v7 = .pointer (some ⟨lo12_7, 0, none⟩) := e7; replace f7 : hi7 = lo12_7 + 1 := f7; replace hlo7 : _ ≤ lo12_7 := hlo7; subst e7; subst f7
          refine hK _ _ ?_; clear hK K
          -- 8: store<31> *t13 = t82
          refine stepS _ rfl (by kernel_rfl) (fun K hK => ?_); go_simp
          refine ⟨?_, ?_⟩
          · exact sStoreT rfl rfl rfl rfl rfl rfl rfl (by kernel_rfl) rfl (by kernel_rfl) (by decide) aggOf_congr
          rintro ⟨v8, lo8, hi8⟩ - - (rfl : v8 = undef)
          refine hK _ _ ?_; clear hK K
          -- 9: assign t83
          refine stepK rfl (by kernel_rfl) (fun K hK => ?_); go_simp
          apply Exists.intro; apply And.intro; (focus (intro wk hk; go_simp; exact ⟨rfl, rfl⟩)); refine hK _ _ ?_; clear hK K
          refine stepN ?_
          refine hQ _ _ ?_
          intro w8 hT hG hF
          have hbw8 := hT.below
          have r6 : Row w8 lo12_7 31 ((W4 k)) := (hF 8 _ rfl rfl (by decide)).2
          replace r0 := r0.below hbw8 r0.lt
          replace r1 := r1.below hbw8 r1.lt
          replace r2 := r2.below hbw8 r2.lt
          replace r3 := r3.below hbw8 r3.lt
          replace r4 := r4.below hbw8 r4.lt
          replace r5 := r5.below hbw8 r5.lt
          replace hl := hl.trans (hbw8.mono hl.size)
          clear hT hG hF hbw8 hQ QQ L hlo7 hhi7
          go_upto_region 13 with (fail)
          let L : List Sp := [sV 2 [] [] (fun u => u = .tuple #[.agg (W4 r), .bool true]), sA 6 31 [7] #[.int .u64 0, .int .u64 0, .int .u64 0, .int .u64 0], sT 7 6 31 [4] (fun g => aggOf g 4)]
          refine wp_region_six0 (shs L) (look6 L) (None_) (by kernel_rfl) (by kernel_rfl) (mk_St L [] [] (by kernel_rfl) (by kernel_rfl) ⟨ok_V ⟨_, rfl⟩, ok_A, ok_T aggOf_congr, trivial⟩ (by simp)) ?_
          intro QQ hQ
          -- 0: load<31> *t3
          refine stepK rfl (by kernel_rfl) (fun K hK => ?_); go_simp
          apply Exists.intro; apply And.intro; (focus exact kLoad rfl rfl aggT31 r0 rfl id); refine hK _ _ ?_; clear hK K
          -- 1: load<31> *t13
          refine stepK rfl (by kernel_rfl) (fun K hK => ?_); go_simp
          apply Exists.intro; apply And.intro; (focus exact kLoad rfl rfl aggT31 r6 rfl id); refine hK _ _ ?_; clear hK K
          -- 2: call F53(t85, t86)
          refine stepS _ rfl (by kernel_rfl) (fun K hK => ?_); go_simp
          refine ⟨?_, ?_⟩
          · intro wk hk hg hu; go_simp; refine upon_enter ((k9.out _).mono ?_); rintro e w' ⟨rfl, hb⟩; exact ⟨_, rfl, left_V (p := fun u => u = .tuple #[.agg (W4 r), .bool true]) rfl (hb) rfl⟩
          rintro ⟨v2, lo2, hi2⟩ - - (rfl : v2 = _)
          refine hK _ _ ?_; clear hK K
          -- 3: t87
          refine stepK rfl (by kernel_rfl) (fun K hK => ?_); go_simp
          apply Exists.intro; apply And.intro; (focus (intro wk hk; go_simp; exact ⟨rfl, rfl⟩)); refine hK _ _ ?_; clear hK K
          -- 4: extract t84 #0
          refine stepK rfl (by kernel_rfl) (fun K hK => ?_); go_simp
          apply Exists.intro; apply And.intro; (focus (intro wk hk; go_simp; exact ⟨rfl, rfl⟩)); refine hK _ _ ?_; clear hK K
          -- 5: extract t84 #1
          refine stepK rfl (by kernel_rfl) (fun K hK => ?_); go_simp
          apply Exists.intro; apply And.intro; (focus (intro wk hk; go_simp; exact ⟨rfl, rfl⟩)); refine hK _ _ ?_; clear hK K
          -- 6: alloc<31>
          refine stepS _ rfl (by kernel_rfl) (fun K hK => ?_); go_simp
          refine ⟨?_, ?_⟩
          · intro wk hk hg hu; go_simp; exact left_A rfl rfl
          rintro ⟨v6, lo13_6, hi6⟩ hlo6 hhi6 ⟨e6, f6⟩
          replace e6 : v6 = .pointer (some ⟨lo13_6, 0, none⟩) := e6; replace f6 : hi6 = lo13_6 + 1 := f6; replace hlo6 : _ ≤ lo13_6 := hlo6; subst e6; subst f6
          refine hK _ _ ?_; clear hK K
          -- 7: store<31> *t15 = t88
          refine stepS _ rfl (by kernel_rfl) (fun K hK => ?_); go_simp
          refine ⟨?_, ?_⟩
          · exact sStoreT rfl rfl rfl rfl rfl rfl rfl (by kernel_rfl) rfl (by kernel_rfl) (by decide) aggOf_congr
          rintro ⟨v7, lo7, hi7⟩ - - (rfl : v7 = undef)
          refine hK _ _ ?_; clear hK K
          -- 8: assign t89
          refine stepK rfl (by kernel_rfl) (fun K hK => ?_); go_simp
          apply Exists.intro; apply And.intro; (focus (intro wk hk; go_simp; exact ⟨rfl, rfl⟩)); refine hK _ _ ?_; clear hK K
          refine stepN ?_
          refine hQ _ _ ?_
          intro w9 hT hG hF
          have hbw9 := hT.below
          have r7 : Row w9 lo13_6 31 ((W4 r)) := (hF 7 _ rfl rfl (by decide)).2
          replace r0 := r0.below hbw9 r0.lt
          replace r1 := r1.below hbw9 r1.lt
          replace r2 := r2.below hbw9 r2.lt
          replace r3 := r3.below hbw9 r3.lt
          replace r4 := r4.below hbw9 r4.lt
          replace r5 := r5.below hbw9 r5.lt
          replace r6 := r6.below hbw9 r6.lt
          replace hl := hl.trans (hbw9.mono hl.size)
          clear hT hG hF hbw9 hQ QQ L hlo6 hhi6
          go_upto_region 14 with (fail)
          let L : List Sp := [sV 2 [] [] (fun u => u = .tuple #[.agg (W4 l), .bool true]), sA 6 31 [7] #[.int .u64 0, .int .u64 0, .int .u64 0, .int .u64 0], sT 7 6 31 [4] (fun g => aggOf g 4)]
          refine wp_region_six0 (shs L) (look6 L) (None_) (by kernel_rfl) (by kernel_rfl) (mk_St L [] [] (by kernel_rfl) (by kernel_rfl) ⟨ok_V ⟨_, rfl⟩, ok_A, ok_T aggOf_congr, trivial⟩ (by simp)) ?_
          intro QQ hQ
          -- 0: load<31> *t4
          refine stepK rfl (by kernel_rfl) (fun K hK => ?_); go_simp
          apply Exists.intro; apply And.intro; (focus exact kLoad rfl rfl aggT31 r1 rfl id); refine hK _ _ ?_; clear hK K
          -- 1: load<31> *t5
          refine stepK rfl (by kernel_rfl) (fun K hK => ?_); go_simp
          apply Exists.intro; apply And.intro; (focus exact kLoad rfl rfl aggT31 r2 rfl id); refine hK _ _ ?_; clear hK K
          -- 2: call F53(t91, t92)
          refine stepS _ rfl (by kernel_rfl) (fun K hK => ?_); go_simp
          refine ⟨?_, ?_⟩
          · intro wk hk hg hu; go_simp; refine upon_enter ((k10.out _).mono ?_); rintro e w' ⟨rfl, hb⟩; exact ⟨_, rfl, left_V (p := fun u => u = .tuple #[.agg (W4 l), .bool true]) rfl (hb) rfl⟩
          rintro ⟨v2, lo2, hi2⟩ - - (rfl : v2 = _)
          refine hK _ _ ?_; clear hK K
          -- 3: t93
          refine stepK rfl (by kernel_rfl) (fun K hK => ?_); go_simp
          apply Exists.intro; apply And.intro; (focus (intro wk hk; go_simp; exact ⟨rfl, rfl⟩)); refine hK _ _ ?_; clear hK K
          -- 4: extract t90 #0
          refine stepK rfl (by kernel_rfl) (fun K hK => ?_); go_simp
          apply Exists.intro; apply And.intro; (focus (intro wk hk; go_simp; exact ⟨rfl, rfl⟩)); refine hK _ _ ?_; clear hK K
          -- 5: extract t90 #1
          refine stepK rfl (by kernel_rfl) (fun K hK => ?_); go_simp
          apply Exists.intro; apply And.intro; (focus (intro wk hk; go_simp; exact ⟨rfl, rfl⟩)); refine hK _ _ ?_; clear hK K
          -- 6: alloc<31>
          refine stepS _ rfl (by kernel_rfl) (fun K hK => ?_); go_simp
          refine ⟨?_, ?_⟩
          · intro wk hk hg hu; go_simp; exact left_A rfl rfl
          rintro ⟨v6, lo14_6, hi6⟩ hlo6 hhi6 ⟨e6, f6⟩
          replace e6 : v6 = .pointer (some ⟨lo14_6, 0, none⟩) := e6; replace f6 : hi6 = lo14_6 + 1 := f6; replace hlo6 : _ ≤ lo14_6 := hlo6; subst e6; subst f6
          refine hK _ _ ?_; clear hK K
          -- 7: store<31> *t17 = t94
          refine stepS _ rfl (by kernel_rfl) (fun K hK => ?_); go_simp
          refine ⟨?_, ?_⟩
          · exact sStoreT rfl rfl rfl rfl rfl rfl rfl (by kernel_rfl) rfl (by kernel_rfl) (by decide) aggOf_congr
          rintro ⟨v7, lo7, hi7⟩ - - (rfl : v7 = undef)
          refine hK _ _ ?_; clear hK K
          -- 8: assign t95
          refine stepK rfl (by kernel_rfl) (fun K hK => ?_); go_simp
          apply Exists.intro; apply And.intro; (focus (intro wk hk; go_simp; exact ⟨rfl, rfl⟩)); refine hK _ _ ?_; clear hK K
          refine stepN ?_
          refine hQ _ _ ?_
          intro w10 hT hG hF
          have hbw10 := hT.below
          have r8 : Row w10 lo14_6 31 ((W4 l)) := (hF 7 _ rfl rfl (by decide)).2
          replace r0 := r0.below hbw10 r0.lt
          replace r1 := r1.below hbw10 r1.lt
          replace r2 := r2.below hbw10 r2.lt
          replace r3 := r3.below hbw10 r3.lt
          replace r4 := r4.below hbw10 r4.lt
          replace r5 := r5.below hbw10 r5.lt
          replace r6 := r6.below hbw10 r6.lt
          replace r7 := r7.below hbw10 r7.lt
          replace hl := hl.trans (hbw10.mono hl.size)
          clear hT hG hF hbw10 hQ QQ L hlo6 hhi6
          go_upto_region 15 with (fail)
          let L : List Sp := [sV 7 [] [] (fun u => u = .bool true), sV 10 [] [] (fun u => u = .bool true)]
          refine wp_region_six0 (shs L) (look6 L) (None_) (by kernel_rfl) (by kernel_rfl) (mk_St L [] [] (by kernel_rfl) (by kernel_rfl) ⟨ok_V ⟨_, rfl⟩, ok_V ⟨_, rfl⟩, trivial⟩ (by simp)) ?_
          intro QQ hQ
          -- 0: t14
          refine stepK rfl (by kernel_rfl) (fun K hK => ?_); go_simp
          apply Exists.intro; apply And.intro; (focus (intro wk hk; go_simp; exact ⟨rfl, rfl⟩)); refine hK _ _ ?_; clear hK K
          -- 1: t96
          refine stepK rfl (by kernel_rfl) (fun K hK => ?_); go_simp
          apply Exists.intro; apply And.intro; (focus (intro wk hk; go_simp; exact ⟨rfl, rfl⟩)); refine hK _ _ ?_; clear hK K
          -- 2: t16
          refine stepK rfl (by kernel_rfl) (fun K hK => ?_); go_simp
          first | (refine hK _ _ ?_; clear hK K) | (apply Exists.intro; apply And.intro; (focus (intro wk hk; go_simp; exact ⟨rfl, rfl⟩)); refine hK _ _ ?_; clear hK K)
          -- 3: pick t97 ? t98 : false
          refine stepK rfl (by kernel_rfl) (fun K hK => ?_); go_simp
          apply Exists.intro; apply And.intro; (focus (intro wk hk; go_simp; exact ⟨rfl, rfl⟩)); refine hK _ _ ?_; clear hK K
          -- 4: t99
          refine stepK rfl (by kernel_rfl) (fun K hK => ?_); go_simp
          apply Exists.intro; apply And.intro; (focus (intro wk hk; go_simp; exact ⟨rfl, rfl⟩)); refine hK _ _ ?_; clear hK K
          -- 5: load<31> *t15
          refine stepK rfl (by kernel_rfl) (fun K hK => ?_); go_simp
          first | (refine hK _ _ ?_; clear hK K) | (apply Exists.intro; apply And.intro; (focus exact kLoad rfl rfl aggT31 r7 rfl id); refine hK _ _ ?_; clear hK K)
          -- 6: load<31> *t17
          refine stepK rfl (by kernel_rfl) (fun K hK => ?_); go_simp
          first | (refine hK _ _ ?_; clear hK K) | (apply Exists.intro; apply And.intro; (focus exact kLoad rfl rfl aggT31 r8 rfl id); refine hK _ _ ?_; clear hK K)
          -- 7: call F116(t101, t102)
          refine stepS _ rfl (by kernel_rfl) (fun K hK => ?_); go_simp
          refine ⟨?_, ?_⟩
          · intro wk hk hg hu; go_simp; refine upon_enter ((k11.out _).mono ?_); rintro e w' ⟨rfl, hb⟩; exact ⟨_, rfl, left_V (p := fun u => u = .bool true) rfl (hb) rfl⟩
          rintro ⟨v7, lo7, hi7⟩ - - (rfl : v7 = _)
          refine hK _ _ ?_; clear hK K
          -- 8: pick t100 ? t103 : false
          refine stepK rfl (by kernel_rfl) (fun K hK => ?_); go_simp
          apply Exists.intro; apply And.intro; (focus (intro wk hk; go_simp; exact ⟨rfl, rfl⟩)); refine hK _ _ ?_; clear hK K
          -- 9: t104
          refine stepK rfl (by kernel_rfl) (fun K hK => ?_); go_simp
          apply Exists.intro; apply And.intro; (focus (intro wk hk; go_simp; exact ⟨rfl, rfl⟩)); refine hK _ _ ?_; clear hK K
          -- 10: call F118()
          refine stepS _ rfl (by kernel_rfl) (fun K hK => ?_); go_simp
          refine ⟨?_, ?_⟩
          · intro wk hk hg hu; go_simp; refine upon_enter ((k12.out _).mono ?_); rintro e w' ⟨rfl, hb⟩; exact ⟨_, rfl, left_V (p := fun u => u = .bool true) rfl (hb) rfl⟩
          rintro ⟨v10, lo10, hi10⟩ - - (rfl : v10 = _)
          refine hK _ _ ?_; clear hK K
          -- 11: pick t105 ? t106 : false
          refine stepK rfl (by kernel_rfl) (fun K hK => ?_); go_simp
          apply Exists.intro; apply And.intro; (focus (intro wk hk; go_simp; exact ⟨rfl, rfl⟩)); refine hK _ _ ?_; clear hK K
          -- 12: assign t107
          refine stepK rfl (by kernel_rfl) (fun K hK => ?_); go_simp
          apply Exists.intro; apply And.intro; (focus (intro wk hk; go_simp; exact ⟨rfl, rfl⟩)); refine hK _ _ ?_; clear hK K
          refine stepN ?_
          refine hQ _ _ ?_
          intro w11 hT hG hF
          have hbw11 := hT.below
          replace r0 := r0.below hbw11 r0.lt
          replace r1 := r1.below hbw11 r1.lt
          replace r2 := r2.below hbw11 r2.lt
          replace r3 := r3.below hbw11 r3.lt
          replace r4 := r4.below hbw11 r4.lt
          replace r5 := r5.below hbw11 r5.lt
          replace r6 := r6.below hbw11 r6.lt
          replace r7 := r7.below hbw11 r7.lt
          replace r8 := r8.below hbw11 r8.lt
          replace hl := hl.trans (hbw11.mono hl.size)
          clear hT hG hF hbw11 hQ QQ L 
          go_wp2_with fail
          go_ret
          exact ⟨rfl, hl⟩
        · have h2 : 0 < c2 := hc2 ▸ cmpN_gt (by omega)
          clear hat G1 G2 hmm huu hum hm2
          have k0 := Lib.hid (show ∀ wx, Calls Try.prog 116 #[.agg (W4 s), .agg (W4 t)] wx (Ret wx (.bool true)) from fun wx => by have h := goodRU hs ht wx; rw [hg1] at h; exact h)
          have k1 := Lib.hid (show ∀ wx, Calls Try.prog 116 #[.agg (W4 a), .agg #[.int .u64 0, .int .u64 0, .int .u64 0, .int .u64 0]] wx (Ret wx (.bool true)) from fun wx => by have h := goodRU ha (show 0 < M by unfold M; omega) wx; rw [hg2] at h; exact h)
          have k2 := Lib.hid (show ∀ wx, Calls Try.prog 112 #[.agg (W4 s), .agg (W4 t), .agg (W4 a)] wx (Ret wx (.tuple #[.agg (W4 x), .bool true])) from fun wx => by have h := sharesU hs ht ha wx; rw [← hx, B.1] at h; exact h)
          have k3 := Lib.hid (show ∀ wx, Calls Try.prog 57 #[.agg (W4 x), .agg (W4 a)] wx (Ret wx (.int .i64 c1)) from fun wx => by have h := refcmpU xl ha wx; rw [← hc1] at h; exact h)
          have k4 := Lib.hid (show ∀ wx, Calls Try.prog 51 #[.agg (W4 s), .agg (W4 a)] wx (Ret wx (.tuple #[.agg (W4 m), .bool true])) from fun wx => by have h := refaddU hs ha wx; rw [hm.1, hm.2] at h; exact h)
          have k5 := Lib.hid (show ∀ wx, Calls Try.prog 51 #[.agg (W4 t), .agg (W4 x)] wx (Ret wx (.tuple #[.agg (W4 z), .bool true])) from fun wx => by have h := refaddU ht xl wx; rw [hu.1, hu.2] at h; exact h)
          have k6 := Lib.hid (show ∀ wx, Calls Try.prog 116 #[.agg (W4 m), .agg #[.int .u64 0, .int .u64 0, .int .u64 0, .int .u64 0]] wx (Ret wx (.bool false)) from fun wx => by have h := goodRU ml (show 0 < M by unfold M; omega) wx; rw [g3] at h; exact h)
          have k7 := Lib.hid (show ∀ wx, Calls Try.prog 57 #[.agg (W4 a), .agg (W4 t)] wx (Ret wx (.int .i64 c2)) from fun wx => by have h := refcmpU ha ht wx; rw [← hc2] at h; exact h)
          have k8 := Lib.hid (show ∀ wx, Calls Try.prog 118 #[] wx (Ret wx (.bool true)) from fun wx => by have h := lives18U  wx; exact h)
          clear hg1 hg2 B hx hc1 hm hu hc2 g3 
          go_enter Try.func22, Try.ntmps22
          apply wp_seq_eq
          focus
            intro J hJ
            go_wp2_with fail
            exact hJ
          refine wp_abs (Mem w [(w.heap.size, 31, W4 s), (w.heap.size + 1, 31, W4 t), (w.heap.size + 1 + 1, 31, W4 a)]) ⟨by go_grown, ?_, ?_, ?_, trivial⟩ ?_
          · repeat (first | (refine Row.new_at ?_; simp; done) | refine Row.alloc ?_ _)
          · repeat (first | (refine Row.new_at ?_; simp; done) | refine Row.alloc ?_ _)
          · repeat (first | (refine Row.new_at ?_; simp; done) | refine Row.alloc ?_ _)
          intro w0 hM
          obtain ⟨hl, r0, r1, r2, -⟩ := hM
          go_upto_region 1 with (fail)
          let L : List Sp := [sV 2 [] [] (fun u => u = .bool true), sV 7 [] [] (fun u => u = .bool true)]
          refine wp_region_six0 (shs L) (look6 L) (None_) (by kernel_rfl) (by kernel_rfl) (mk_St L [] [] (by kernel_rfl) (by kernel_rfl) ⟨ok_V ⟨_, rfl⟩, ok_V ⟨_, rfl⟩, trivial⟩ (by simp)) ?_
          intro QQ hQ
          -- 0: load<31> *t3
          refine stepK rfl (by kernel_rfl) (fun K hK => ?_); go_simp
          apply Exists.intro; apply And.intro; (focus exact kLoad rfl rfl aggT31 r0 rfl id); refine hK _ _ ?_; clear hK K
          -- 1: load<31> *t4
          refine stepK rfl (by kernel_rfl) (fun K hK => ?_); go_simp
          apply Exists.intro; apply And.intro; (focus exact kLoad rfl rfl aggT31 r1 rfl id); refine hK _ _ ?_; clear hK K
          -- 2: call F116(t19, t20)
          refine stepS _ rfl (by kernel_rfl) (fun K hK => ?_); go_simp
          refine ⟨?_, ?_⟩
          · intro wk hk hg hu; go_simp; refine upon_enter ((k0.out _).mono ?_); rintro e w' ⟨rfl, hb⟩; exact ⟨_, rfl, left_V (p := fun u => u = .bool true) rfl (hb) rfl⟩
          rintro ⟨v2, lo2, hi2⟩ - - (rfl : v2 = _)
          refine hK _ _ ?_; clear hK K
          -- 3: not<4> t21
          refine stepK rfl (by kernel_rfl) (fun K hK => ?_); go_simp
          apply Exists.intro; apply And.intro; (focus (intro wk hk; go_simp; exact ⟨rfl, rfl⟩)); refine hK _ _ ?_; clear hK K
          -- 4: t22
          refine stepK rfl (by kernel_rfl) (fun K hK => ?_); go_simp
          apply Exists.intro; apply And.intro; (focus (intro wk hk; go_simp; exact ⟨rfl, rfl⟩)); refine hK _ _ ?_; clear hK K
          -- 5: load<31> *t5
          refine stepK rfl (by kernel_rfl) (fun K hK => ?_); go_simp
          first | (refine hK _ _ ?_; clear hK K) | (apply Exists.intro; apply And.intro; (focus exact kLoad rfl rfl aggT31 r2 rfl id); refine hK _ _ ?_; clear hK K)
          -- 6: build<31> 
          refine stepK rfl (by kernel_rfl) (fun K hK => ?_); go_simp
          first | (refine hK _ _ ?_; clear hK K) | (apply Exists.intro; apply And.intro; (focus (intro wk hk; go_simp; exact ⟨rfl, rfl⟩)); refine hK _ _ ?_; clear hK K)
          -- 7: call F116(t24, t25)
          refine stepS _ rfl (by kernel_rfl) (fun K hK => ?_); go_simp
          refine ⟨?_, ?_⟩
          · intro wk hk hg hu; go_simp; refine upon_enter ((k1.out _).mono ?_); rintro e w' ⟨rfl, hb⟩; exact ⟨_, rfl, left_V (p := fun u => u = .bool true) rfl (hb) rfl⟩
          rintro ⟨v7, lo7, hi7⟩ - - (rfl : v7 = _)
          refine hK _ _ ?_; clear hK K
          -- 8: not<4> t26
          refine stepK rfl (by kernel_rfl) (fun K hK => ?_); go_simp
          first | (refine hK _ _ ?_; clear hK K) | (apply Exists.intro; apply And.intro; (focus (intro wk hk; go_simp; exact ⟨rfl, rfl⟩)); refine hK _ _ ?_; clear hK K)
          -- 9: pick t23 ? true : t27
          refine stepK rfl (by kernel_rfl) (fun K hK => ?_); go_simp
          apply Exists.intro; apply And.intro; (focus (intro wk hk; go_simp; exact ⟨rfl, rfl⟩)); refine hK _ _ ?_; clear hK K
          refine stepN ?_
          refine hQ _ _ ?_
          intro w1 hT hG hF
          have hbw1 := hT.below
          replace r0 := r0.below hbw1 r0.lt
          replace r1 := r1.below hbw1 r1.lt
          replace r2 := r2.below hbw1 r2.lt
          replace hl := hl.trans (hbw1.mono hl.size)
          clear hT hG hF hbw1 hQ QQ L 
          go_upto_region 3 with (fail)
          let L : List Sp := [sV 3 [] [] (fun u => u = .tuple #[.agg (W4 x), .bool true]), sA 7 31 [8] #[.int .u64 0, .int .u64 0, .int .u64 0, .int .u64 0], sT 8 7 31 [5] (fun g => aggOf g 5)]
          refine wp_region_six0 (shs L) (look6 L) (None_) (by kernel_rfl) (by kernel_rfl) (mk_St L [] [] (by kernel_rfl) (by kernel_rfl) ⟨ok_V ⟨_, rfl⟩, ok_A, ok_T aggOf_congr, trivial⟩ (by simp)) ?_
          intro QQ hQ
          -- 0: load<31> *t3
          refine stepK rfl (by kernel_rfl) (fun K hK => ?_); go_simp
          apply Exists.intro; apply And.intro; (focus exact kLoad rfl rfl aggT31 r0 rfl id); refine hK _ _ ?_; clear hK K
          -- 1: load<31> *t4
          refine stepK rfl (by kernel_rfl) (fun K hK => ?_); go_simp
          apply Exists.intro; apply And.intro; (focus exact kLoad rfl rfl aggT31 r1 rfl id); refine hK _ _ ?_; clear hK K
          -- 2: load<31> *t5
          refine stepK rfl (by kernel_rfl) (fun K hK => ?_); go_simp
          apply Exists.intro; apply And.intro; (focus exact kLoad rfl rfl aggT31 r2 rfl id); refine hK _ _ ?_; clear hK K
          -- 3: call F112(t31, t32, t33)
          refine stepS _ rfl (by kernel_rfl) (fun K hK => ?_); go_simp
          refine ⟨?_, ?_⟩
          · intro wk hk hg hu; go_simp; refine upon_enter ((k2.out _).mono ?_); rintro e w' ⟨rfl, hb⟩; exact ⟨_, rfl, left_V (p := fun u => u = .tuple #[.agg (W4 x), .bool true]) rfl (hb) rfl⟩
          rintro ⟨v3, lo3, hi3⟩ - - (rfl : v3 = _)
          refine hK _ _ ?_; clear hK K
          -- 4: t34
          refine stepK rfl (by kernel_rfl) (fun K hK => ?_); go_simp
          apply Exists.intro; apply And.intro; (focus (intro wk hk; go_simp; exact ⟨rfl, rfl⟩)); refine hK _ _ ?_; clear hK K
          -- 5: extract t30 #0
          refine stepK rfl (by kernel_rfl) (fun K hK => ?_); go_simp
          apply Exists.intro; apply And.intro; (focus (intro wk hk; go_simp; exact ⟨rfl, rfl⟩)); refine hK _ _ ?_; clear hK K
          -- 6: extract t30 #1
          refine stepK rfl (by kernel_rfl) (fun K hK => ?_); go_simp
          apply Exists.intro; apply And.intro; (focus (intro wk hk; go_simp; exact ⟨rfl, rfl⟩)); refine hK _ _ ?_; clear hK K
          -- 7: alloc<31>
          refine stepS _ rfl (by kernel_rfl) (fun K hK => ?_); go_simp
          refine ⟨?_, ?_⟩
          · intro wk hk hg hu; go_simp; exact left_A rfl rfl
          rintro ⟨v7, lo3_7, hi7⟩ hlo7 hhi7 ⟨e7, f7⟩
          replace e7 : v7 = .pointer (some ⟨lo3_7, 0, none⟩) := e7; replace f7 : hi7 = lo3_7 + 1 := f7; replace hlo7 : _ ≤ lo3_7 := hlo7; subst e7; subst f7
          refine hK _ _ ?_; clear hK K
          -- 8: store<31> *t7 = t35
          refine stepS _ rfl (by kernel_rfl) (fun K hK => ?_); go_simp
          refine ⟨?_, ?_⟩
          · exact sStoreT rfl rfl rfl rfl rfl rfl rfl (by kernel_rfl) rfl (by kernel_rfl) (by decide) aggOf_congr
          rintro ⟨v8, lo8, hi8⟩ - - (rfl : v8 = undef)
          refine hK _ _ ?_; clear hK K
          -- 9: assign t36
          refine stepK rfl (by kernel_rfl) (fun K hK => ?_); go_simp
          apply Exists.intro; apply And.intro; (focus (intro wk hk; go_simp; exact ⟨rfl, rfl⟩)); refine hK _ _ ?_; clear hK K
          refine stepN ?_
          refine hQ _ _ ?_
          intro w2 hT hG hF
          have hbw2 := hT.below
          have r3 : Row w2 lo3_7 31 ((W4 x)) := (hF 8 _ rfl rfl (by decide)).2
          replace r0 := r0.below hbw2 r0.lt
          replace r1 := r1.below hbw2 r1.lt
          replace r2 := r2.below hbw2 r2.lt
          replace hl := hl.trans (hbw2.mono hl.size)
          clear hT hG hF hbw2 hQ QQ L hlo7 hhi7
          go_upto_region 4 with (fail)
          let L : List Sp := [sV 5 [] [] (fun u => u = .int .i64 c1)]
          refine wp_region_six0 (shs L) (look6 L) (None_) (by kernel_rfl) (by kernel_rfl) (mk_St L [] [] (by kernel_rfl) (by kernel_rfl) ⟨ok_V ⟨_, rfl⟩, trivial⟩ (by simp)) ?_
          intro QQ hQ
          -- 0: t8
          refine stepK rfl (by kernel_rfl) (fun K hK => ?_); go_simp
          apply Exists.intro; apply And.intro; (focus (intro wk hk; go_simp; exact ⟨rfl, rfl⟩)); refine hK _ _ ?_; clear hK K
          -- 1: not<4> t37
          refine stepK rfl (by kernel_rfl) (fun K hK => ?_); go_simp
          apply Exists.intro; apply And.intro; (focus (intro wk hk; go_simp; exact ⟨rfl, rfl⟩)); refine hK _ _ ?_; clear hK K
          -- 2: t38
          refine stepK rfl (by kernel_rfl) (fun K hK => ?_); go_simp
          apply Exists.intro; apply And.intro; (focus (intro wk hk; go_simp; exact ⟨rfl, rfl⟩)); refine hK _ _ ?_; clear hK K
          -- 3: load<31> *t7
          refine stepK rfl (by kernel_rfl) (fun K hK => ?_); go_simp
          first | (refine hK _ _ ?_; clear hK K) | (apply Exists.intro; apply And.intro; (focus exact kLoad rfl rfl aggT31 r3 rfl id); refine hK _ _ ?_; clear hK K)
          -- 4: load<31> *t5
          refine stepK rfl (by kernel_rfl) (fun K hK => ?_); go_simp
          first | (refine hK _ _ ?_; clear hK K) | (apply Exists.intro; apply And.intro; (focus exact kLoad rfl rfl aggT31 r2 rfl id); refine hK _ _ ?_; clear hK K)
          -- 5: call F57(t40, t41)
          refine stepS _ rfl (by kernel_rfl) (fun K hK => ?_); go_simp
          refine ⟨?_, ?_⟩
          · intro wk hk hg hu; go_simp; refine upon_enter ((k3.out _).mono ?_); rintro e w' ⟨rfl, hb⟩; exact ⟨_, rfl, left_V (p := fun u => u = .int .i64 c1) rfl (hb) rfl⟩
          rintro ⟨v5, lo5, hi5⟩ - - (rfl : v5 = _)
          refine hK _ _ ?_; clear hK K
          -- 6: gtr<3> t42, 0
          refine stepK rfl (by kernel_rfl) (fun K hK => ?_); go_simp
          first | (refine hK _ _ ?_; clear hK K) | (apply Exists.intro; apply And.intro; (focus (intro wk hk; go_simp; exact ⟨rfl, rfl⟩)); refine hK _ _ ?_; clear hK K)
          -- 7: pick t39 ? true : t43
          refine stepK rfl (by kernel_rfl) (fun K hK => ?_); go_simp
          apply Exists.intro; apply And.intro; (focus (intro wk hk; go_simp; exact ⟨rfl, rfl⟩)); refine hK _ _ ?_; clear hK K
          refine stepN ?_
          refine hQ _ _ ?_
          intro w3 hT hG hF
          have hbw3 := hT.below
          replace r0 := r0.below hbw3 r0.lt
          replace r1 := r1.below hbw3 r1.lt
          replace r2 := r2.below hbw3 r2.lt
          replace r3 := r3.below hbw3 r3.lt
          replace hl := hl.trans (hbw3.mono hl.size)
          clear hT hG hF hbw3 hQ QQ L 
          go_upto_region 6 with (fail)
          let L : List Sp := [sV 2 [] [] (fun u => u = .tuple #[.agg (W4 m), .bool true]), sA 6 31 [7] #[.int .u64 0, .int .u64 0, .int .u64 0, .int .u64 0], sT 7 6 31 [4] (fun g => aggOf g 4)]
          refine wp_region_six0 (shs L) (look6 L) (None_) (by kernel_rfl) (by kernel_rfl) (mk_St L [] [] (by kernel_rfl) (by kernel_rfl) ⟨ok_V ⟨_, rfl⟩, ok_A, ok_T aggOf_congr, trivial⟩ (by simp)) ?_
          intro QQ hQ
          -- 0: load<31> *t3
          refine stepK rfl (by kernel_rfl) (fun K hK => ?_); go_simp
          apply Exists.intro; apply And.intro; (focus exact kLoad rfl rfl aggT31 r0 rfl id); refine hK _ _ ?_; clear hK K
          -- 1: load<31> *t5
          refine stepK rfl (by kernel_rfl) (fun K hK => ?_); go_simp
          apply Exists.intro; apply And.intro; (focus exact kLoad rfl rfl aggT31 r2 rfl id); refine hK _ _ ?_; clear hK K
          -- 2: call F51(t46, t47)
          refine stepS _ rfl (by kernel_rfl) (fun K hK => ?_); go_simp
          refine ⟨?_, ?_⟩
          · intro wk hk hg hu; go_simp; refine upon_enter ((k4.out _).mono ?_); rintro e w' ⟨rfl, hb⟩; exact ⟨_, rfl, left_V (p := fun u => u = .tuple #[.agg (W4 m), .bool true]) rfl (hb) rfl⟩
          rintro ⟨v2, lo2, hi2⟩ - - (rfl : v2 = _)
          refine hK _ _ ?_; clear hK K
          -- 3: t48
          refine stepK rfl (by kernel_rfl) (fun K hK => ?_); go_simp
          apply Exists.intro; apply And.intro; (focus (intro wk hk; go_simp; exact ⟨rfl, rfl⟩)); refine hK _ _ ?_; clear hK K
          -- 4: extract t45 #0
          refine stepK rfl (by kernel_rfl) (fun K hK => ?_); go_simp
          apply Exists.intro; apply And.intro; (focus (intro wk hk; go_simp; exact ⟨rfl, rfl⟩)); refine hK _ _ ?_; clear hK K
          -- 5: extract t45 #1
          refine stepK rfl (by kernel_rfl) (fun K hK => ?_); go_simp
          apply Exists.intro; apply And.intro; (focus (intro wk hk; go_simp; exact ⟨rfl, rfl⟩)); refine hK _ _ ?_; clear hK K
          -- 6: alloc<31>
          refine stepS _ rfl (by kernel_rfl) (fun K hK => ?_); go_simp
          refine ⟨?_, ?_⟩
          · intro wk hk hg hu; go_simp; exact left_A rfl rfl
          rintro ⟨v6, lo6_6, hi6⟩ hlo6 hhi6 ⟨e6, f6⟩
          replace e6 : v6 = .pointer (some ⟨lo6_6, 0, none⟩) := e6; replace f6 : hi6 = lo6_6 + 1 := f6; replace hlo6 : _ ≤ lo6_6 := hlo6; subst e6; subst f6
          refine hK _ _ ?_; clear hK K
          -- 7: store<31> *t9 = t49
          refine stepS _ rfl (by kernel_rfl) (fun K hK => ?_); go_simp
          refine ⟨?_, ?_⟩
          · exact sStoreT rfl rfl rfl rfl rfl rfl rfl (by kernel_rfl) rfl (by kernel_rfl) (by decide) aggOf_congr
          rintro ⟨v7, lo7, hi7⟩ - - (rfl : v7 = undef)
          refine hK _ _ ?_; clear hK K
          -- 8: assign t50
          refine stepK rfl (by kernel_rfl) (fun K hK => ?_); go_simp
          apply Exists.intro; apply And.intro; (focus (intro wk hk; go_simp; exact ⟨rfl, rfl⟩)); refine hK _ _ ?_; clear hK K
          refine stepN ?_
          refine hQ _ _ ?_
          intro w4 hT hG hF
          have hbw4 := hT.below
          have r4 : Row w4 lo6_6 31 ((W4 m)) := (hF 7 _ rfl rfl (by decide)).2
          replace r0 := r0.below hbw4 r0.lt
          replace r1 := r1.below hbw4 r1.lt
          replace r2 := r2.below hbw4 r2.lt
          replace r3 := r3.below hbw4 r3.lt
          replace hl := hl.trans (hbw4.mono hl.size)
          clear hT hG hF hbw4 hQ QQ L hlo6 hhi6
          go_upto_region 7 with (fail)
          let L : List Sp := [sV 2 [] [] (fun u => u = .tuple #[.agg (W4 z), .bool true]), sA 6 31 [7] #[.int .u64 0, .int .u64 0, .int .u64 0, .int .u64 0], sT 7 6 31 [4] (fun g => aggOf g 4)]
          refine wp_region_six0 (shs L) (look6 L) (None_) (by kernel_rfl) (by kernel_rfl) (mk_St L [] [] (by kernel_rfl) (by kernel_rfl) ⟨ok_V ⟨_, rfl⟩, ok_A, ok_T aggOf_congr, trivial⟩ (by simp)) ?_
          intro QQ hQ
          -- 0: load<31> *t4
          refine stepK rfl (by kernel_rfl) (fun K hK => ?_); go_simp
          apply Exists.intro; apply And.intro; (focus exact kLoad rfl rfl aggT31 r1 rfl id); refine hK _ _ ?_; clear hK K
          -- 1: load<31> *t7
          refine stepK rfl (by kernel_rfl) (fun K hK => ?_); go_simp
          apply Exists.intro; apply And.intro; (focus exact kLoad rfl rfl aggT31 r3 rfl id); refine hK _ _ ?_; clear hK K
          -- 2: call F51(t52, t53)
          refine stepS _ rfl (by kernel_rfl) (fun K hK => ?_); go_simp
          refine ⟨?_, ?_⟩
          · intro wk hk hg hu; go_simp; refine upon_enter ((k5.out _).mono ?_); rintro e w' ⟨rfl, hb⟩; exact ⟨_, rfl, left_V (p := fun u => u = .tuple #[.agg (W4 z), .bool true]) rfl (hb) rfl⟩
          rintro ⟨v2, lo2, hi2⟩ - - (rfl : v2 = _)
          refine hK _ _ ?_; clear hK K
          -- 3: t54
          refine stepK rfl (by kernel_rfl) (fun K hK => ?_); go_simp
          apply Exists.intro; apply And.intro; (focus (intro wk hk; go_simp; exact ⟨rfl, rfl⟩)); refine hK _ _ ?_; clear hK K
          -- 4: extract t51 #0
          refine stepK rfl (by kernel_rfl) (fun K hK => ?_); go_simp
          apply Exists.intro; apply And.intro; (focus (intro wk hk; go_simp; exact ⟨rfl, rfl⟩)); refine hK _ _ ?_; clear hK K
          -- 5: extract t51 #1
          refine stepK rfl (by kernel_rfl) (fun K hK => ?_); go_simp
          apply Exists.intro; apply And.intro; (focus (intro wk hk; go_simp; exact ⟨rfl, rfl⟩)); refine hK _ _ ?_; clear hK K
          -- 6: alloc<31>
          refine stepS _ rfl (by kernel_rfl) (fun K hK => ?_); go_simp
          refine ⟨?_, ?_⟩
          · intro wk hk hg hu; go_simp; exact left_A rfl rfl
          rintro ⟨v6, lo7_6, hi6⟩ hlo6 hhi6 ⟨e6, f6⟩
          replace e6 : v6 = .pointer (some ⟨lo7_6, 0, none⟩) := e6; replace f6 : hi6 = lo7_6 + 1 := f6; replace hlo6 : _ ≤ lo7_6 := hlo6; subst e6; subst f6
          refine hK _ _ ?_; clear hK K
          -- 7: store<31> *t11 = t55
          refine stepS _ rfl (by kernel_rfl) (fun K hK => ?_); go_simp
          refine ⟨?_, ?_⟩
          · exact sStoreT rfl rfl rfl rfl rfl rfl rfl (by kernel_rfl) rfl (by kernel_rfl) (by decide) aggOf_congr
          rintro ⟨v7, lo7, hi7⟩ - - (rfl : v7 = undef)
          refine hK _ _ ?_; clear hK K
          -- 8: assign t56
          refine stepK rfl (by kernel_rfl) (fun K hK => ?_); go_simp
          apply Exists.intro; apply And.intro; (focus (intro wk hk; go_simp; exact ⟨rfl, rfl⟩)); refine hK _ _ ?_; clear hK K
          refine stepN ?_
          refine hQ _ _ ?_
          intro w5 hT hG hF
          have hbw5 := hT.below
          have r5 : Row w5 lo7_6 31 ((W4 z)) := (hF 7 _ rfl rfl (by decide)).2
          replace r0 := r0.below hbw5 r0.lt
          replace r1 := r1.below hbw5 r1.lt
          replace r2 := r2.below hbw5 r2.lt
          replace r3 := r3.below hbw5 r3.lt
          replace r4 := r4.below hbw5 r4.lt
          replace hl := hl.trans (hbw5.mono hl.size)
          clear hT hG hF hbw5 hQ QQ L hlo6 hhi6
          go_upto_region 8 with (fail)
          let L : List Sp := [sV 2 [] [] (fun u => u = .bool false)]
          refine wp_region_six0 (shs L) (look6 L) (None_) (by kernel_rfl) (by kernel_rfl) (mk_St L [] [] (by kernel_rfl) (by kernel_rfl) ⟨ok_V ⟨_, rfl⟩, trivial⟩ (by simp)) ?_
          intro QQ hQ
          -- 0: load<31> *t9
          refine stepK rfl (by kernel_rfl) (fun K hK => ?_); go_simp
          apply Exists.intro; apply And.intro; (focus exact kLoad rfl rfl aggT31 r4 rfl id); refine hK _ _ ?_; clear hK K
          -- 1: build<31> 
          refine stepK rfl (by kernel_rfl) (fun K hK => ?_); go_simp
          apply Exists.intro; apply And.intro; (focus (intro wk hk; go_simp; exact ⟨rfl, rfl⟩)); refine hK _ _ ?_; clear hK K
          -- 2: call F116(t57, t58)
          refine stepS _ rfl (by kernel_rfl) (fun K hK => ?_); go_simp
          refine ⟨?_, ?_⟩
          · intro wk hk hg hu; go_simp; refine upon_enter ((k6.out _).mono ?_); rintro e w' ⟨rfl, hb⟩; exact ⟨_, rfl, left_V (p := fun u => u = .bool false) rfl (hb) rfl⟩
          rintro ⟨v2, lo2, hi2⟩ - - (rfl : v2 = _)
          refine hK _ _ ?_; clear hK K
          -- 3: t59
          refine stepK rfl (by kernel_rfl) (fun K hK => ?_); go_simp
          apply Exists.intro; apply And.intro; (focus (intro wk hk; go_simp; exact ⟨rfl, rfl⟩)); refine hK _ _ ?_; clear hK K
          -- 4: load<31> *t9
          refine stepK rfl (by kernel_rfl) (fun K hK => ?_); go_simp
          first | (refine hK _ _ ?_; clear hK K) | (apply Exists.intro; apply And.intro; (focus (intro wk hk; go_simp; exact ⟨rfl, rfl⟩)); refine hK _ _ ?_; clear hK K)
          -- 5: load<31> *t11
          refine stepK rfl (by kernel_rfl) (fun K hK => ?_); go_simp
          first | (refine hK _ _ ?_; clear hK K) | (apply Exists.intro; apply And.intro; (focus (intro wk hk; go_simp; exact ⟨rfl, rfl⟩)); refine hK _ _ ?_; clear hK K)
          -- 6: call F116(t61, t62)
          refine stepK rfl (by kernel_rfl) (fun K hK => ?_); go_simp
          first | (refine hK _ _ ?_; clear hK K) | (apply Exists.intro; apply And.intro; (focus (intro wk hk; go_simp; exact ⟨rfl, rfl⟩)); refine hK _ _ ?_; clear hK K)
          -- 7: not<4> t63
          refine stepK rfl (by kernel_rfl) (fun K hK => ?_); go_simp
          first | (refine hK _ _ ?_; clear hK K) | (apply Exists.intro; apply And.intro; (focus (intro wk hk; go_simp; exact ⟨rfl, rfl⟩)); refine hK _ _ ?_; clear hK K)
          -- 8: t64
          refine stepK rfl (by kernel_rfl) (fun K hK => ?_); go_simp
          first | (refine hK _ _ ?_; clear hK K) | (apply Exists.intro; apply And.intro; (focus (intro wk hk; go_simp; exact ⟨rfl, rfl⟩)); refine hK _ _ ?_; clear hK K)
          -- 9: load<31> *t9
          refine stepK rfl (by kernel_rfl) (fun K hK => ?_); go_simp
          first | (refine hK _ _ ?_; clear hK K) | (apply Exists.intro; apply And.intro; (focus (intro wk hk; go_simp; exact ⟨rfl, rfl⟩)); refine hK _ _ ?_; clear hK K)
          -- 10: load<31> *t4
          refine stepK rfl (by kernel_rfl) (fun K hK => ?_); go_simp
          first | (refine hK _ _ ?_; clear hK K) | (apply Exists.intro; apply And.intro; (focus (intro wk hk; go_simp; exact ⟨rfl, rfl⟩)); refine hK _ _ ?_; clear hK K)
          -- 11: call F116(t66, t67)
          refine stepK rfl (by kernel_rfl) (fun K hK => ?_); go_simp
          first | (refine hK _ _ ?_; clear hK K) | (apply Exists.intro; apply And.intro; (focus (intro wk hk; go_simp; exact ⟨rfl, rfl⟩)); refine hK _ _ ?_; clear hK K)
          -- 12: not<4> t68
          refine stepK rfl (by kernel_rfl) (fun K hK => ?_); go_simp
          first | (refine hK _ _ ?_; clear hK K) | (apply Exists.intro; apply And.intro; (focus (intro wk hk; go_simp; exact ⟨rfl, rfl⟩)); refine hK _ _ ?_; clear hK K)
          -- 13: pick t65 ? true : t69
          refine stepK rfl (by kernel_rfl) (fun K hK => ?_); go_simp
          first | (refine hK _ _ ?_; clear hK K) | (apply Exists.intro; apply And.intro; (focus (intro wk hk; go_simp; exact ⟨rfl, rfl⟩)); refine hK _ _ ?_; clear hK K)
          -- 14: pick t60 ? t70 : false
          refine stepK rfl (by kernel_rfl) (fun K hK => ?_); go_simp
          apply Exists.intro; apply And.intro; (focus (intro wk hk; go_simp; exact ⟨rfl, rfl⟩)); refine hK _ _ ?_; clear hK K
          refine stepN ?_
          refine hQ _ _ ?_
          intro w6 hT hG hF
          have hbw6 := hT.below
          replace r0 := r0.below hbw6 r0.lt
          replace r1 := r1.below hbw6 r1.lt
          replace r2 := r2.below hbw6 r2.lt
          replace r3 := r3.below hbw6 r3.lt
          replace r4 := r4.below hbw6 r4.lt
          replace r5 := r5.below hbw6 r5.lt
          replace hl := hl.trans (hbw6.mono hl.size)
          clear hT hG hF hbw6 hQ QQ L 
          go_upto_region 10 with (fail)
          let L : List Sp := [sV 2 [] [] (fun u => u = .int .i64 c2)]
          refine wp_region_six0 (shs L) (look6 L) (None_) (by kernel_rfl) (by kernel_rfl) (mk_St L [] [] (by kernel_rfl) (by kernel_rfl) ⟨ok_V ⟨_, rfl⟩, trivial⟩ (by simp)) ?_
          intro QQ hQ
          -- 0: load<31> *t5
          refine stepK rfl (by kernel_rfl) (fun K hK => ?_); go_simp
          apply Exists.intro; apply And.intro; (focus exact kLoad rfl rfl aggT31 r2 rfl id); refine hK _ _ ?_; clear hK K
          -- 1: load<31> *t4
          refine stepK rfl (by kernel_rfl) (fun K hK => ?_); go_simp
          apply Exists.intro; apply And.intro; (focus exact kLoad rfl rfl aggT31 r1 rfl id); refine hK _ _ ?_; clear hK K
          -- 2: call F57(t72, t73)
          refine stepS _ rfl (by kernel_rfl) (fun K hK => ?_); go_simp
          refine ⟨?_, ?_⟩
          · intro wk hk hg hu; go_simp; refine upon_enter ((k7.out _).mono ?_); rintro e w' ⟨rfl, hb⟩; exact ⟨_, rfl, left_V (p := fun u => u = .int .i64 c2) rfl (hb) rfl⟩
          rintro ⟨v2, lo2, hi2⟩ - - (rfl : v2 = _)
          refine hK _ _ ?_; clear hK K
          -- 3: gtr<3> t74, 0
          refine stepK rfl (by kernel_rfl) (fun K hK => ?_); go_simp
          apply Exists.intro; apply And.intro; (focus (intro wk hk; go_simp; exact ⟨rfl, rfl⟩)); refine hK _ _ ?_; clear hK K
          refine stepN ?_
          refine hQ _ _ ?_
          intro w7 hT hG hF
          have hbw7 := hT.below
          replace r0 := r0.below hbw7 r0.lt
          replace r1 := r1.below hbw7 r1.lt
          replace r2 := r2.below hbw7 r2.lt
          replace r3 := r3.below hbw7 r3.lt
          replace r4 := r4.below hbw7 r4.lt
          replace r5 := r5.below hbw7 r5.lt
          replace hl := hl.trans (hbw7.mono hl.size)
          clear hT hG hF hbw7 hQ QQ L 
          go_upto_region 11 with (fail)
          let L : List Sp := [sV 0 [] [] (fun u => u = .bool true)]
          refine wp_region_six0 (shs L) (look6 L) (None_) (by kernel_rfl) (by kernel_rfl) (mk_St L [] [] (by kernel_rfl) (by kernel_rfl) ⟨ok_V ⟨_, rfl⟩, trivial⟩ (by simp)) ?_
          intro QQ hQ
          -- 0: call F118()
          refine stepS _ rfl (by kernel_rfl) (fun K hK => ?_); go_simp
          refine ⟨?_, ?_⟩
          · intro wk hk hg hu; go_simp; refine upon_enter ((k8.out _).mono ?_); rintro e w' ⟨rfl, hb⟩; exact ⟨_, rfl, left_V (p := fun u => u = .bool true) rfl (hb) rfl⟩
          rintro ⟨v0, lo0, hi0⟩ - - (rfl : v0 = _)
          refine hK _ _ ?_; clear hK K
          -- 1: assign t76
          refine stepK rfl (by kernel_rfl) (fun K hK => ?_); go_simp
          apply Exists.intro; apply And.intro; (focus (intro wk hk; go_simp; exact ⟨rfl, rfl⟩)); refine hK _ _ ?_; clear hK K
          refine stepN ?_
          refine hQ _ _ ?_
          intro w8 hT hG hF
          have hbw8 := hT.below
          replace r0 := r0.below hbw8 r0.lt
          replace r1 := r1.below hbw8 r1.lt
          replace r2 := r2.below hbw8 r2.lt
          replace r3 := r3.below hbw8 r3.lt
          replace r4 := r4.below hbw8 r4.lt
          replace r5 := r5.below hbw8 r5.lt
          replace hl := hl.trans (hbw8.mono hl.size)
          clear hT hG hF hbw8 hQ QQ L 
          go_wp2_with fail
          go_ret
          exact ⟨rfl, hl⟩
set_option maxRecDepth 100000 in
set_option maxHeartbeats 16000000 in
theorem rateback_walk (s t a : Nat) (hs : s < M) (ht : t < M) (ha : a < M) (w : World) : Calls Try.prog 23 #[.agg (W4 s), .agg (W4 t), .agg (W4 a)] w (Ret w (.bool true)) := by
  cases hg1 : (amt2 s t && decide (t ≤ s))
  · skip
    have k0 := Lib.hid (show ∀ wx, Calls Try.prog 116 #[.agg (W4 s), .agg (W4 t)] wx (Ret wx (.bool false)) from fun wx => by have h := goodRU hs ht wx; rw [hg1] at h; exact h)
    have k1 := Lib.hid (show ∀ wx, Calls Try.prog 118 #[] wx (Ret wx (.bool true)) from fun wx => by have h := lives18U  wx; exact h)
    clear hg1
    go_enter Try.func23, Try.ntmps23
    apply wp_seq_eq
    focus
      intro J hJ
      go_wp2_with fail
      exact hJ
    refine wp_abs (Mem w [(w.heap.size, 31, W4 s), (w.heap.size + 1, 31, W4 t), (w.heap.size + 1 + 1, 31, W4 a)]) ⟨by go_grown, ?_, ?_, ?_, trivial⟩ ?_
    · repeat (first | (refine Row.new_at ?_; simp; done) | refine Row.alloc ?_ _)
    · repeat (first | (refine Row.new_at ?_; simp; done) | refine Row.alloc ?_ _)
    · repeat (first | (refine Row.new_at ?_; simp; done) | refine Row.alloc ?_ _)
    intro w0 hM
    obtain ⟨hl, r0, r1, r2, -⟩ := hM
    go_upto_region 1 with (fail)
    let L : List Sp := [sV 2 [] [] (fun u => u = .bool false)]
    refine wp_region_six0 (shs L) (look6 L) (None_) (by kernel_rfl) (by kernel_rfl) (mk_St L [] [] (by kernel_rfl) (by kernel_rfl) ⟨ok_V ⟨_, rfl⟩, trivial⟩ (by simp)) ?_
    intro QQ hQ
    -- 0: load<31> *t3
    refine stepK rfl (by kernel_rfl) (fun K hK => ?_); go_simp
    apply Exists.intro; apply And.intro; (focus exact kLoad rfl rfl aggT31 r0 rfl id); refine hK _ _ ?_; clear hK K
    -- 1: load<31> *t4
    refine stepK rfl (by kernel_rfl) (fun K hK => ?_); go_simp
    apply Exists.intro; apply And.intro; (focus exact kLoad rfl rfl aggT31 r1 rfl id); refine hK _ _ ?_; clear hK K
    -- 2: call F116(t15, t16)
    refine stepS _ rfl (by kernel_rfl) (fun K hK => ?_); go_simp
    refine ⟨?_, ?_⟩
    · intro wk hk hg hu; go_simp; refine upon_enter ((k0.out _).mono ?_); rintro e w' ⟨rfl, hb⟩; exact ⟨_, rfl, left_V (p := fun u => u = .bool false) rfl (hb) rfl⟩
    rintro ⟨v2, lo2, hi2⟩ - - (rfl : v2 = _)
    refine hK _ _ ?_; clear hK K
    -- 3: not<4> t17
    refine stepK rfl (by kernel_rfl) (fun K hK => ?_); go_simp
    apply Exists.intro; apply And.intro; (focus (intro wk hk; go_simp; exact ⟨rfl, rfl⟩)); refine hK _ _ ?_; clear hK K
    -- 4: t18
    refine stepK rfl (by kernel_rfl) (fun K hK => ?_); go_simp
    apply Exists.intro; apply And.intro; (focus (intro wk hk; go_simp; exact ⟨rfl, rfl⟩)); refine hK _ _ ?_; clear hK K
    -- 5: load<31> *t5
    refine stepK rfl (by kernel_rfl) (fun K hK => ?_); go_simp
    first | (refine hK _ _ ?_; clear hK K) | (apply Exists.intro; apply And.intro; (focus (intro wk hk; go_simp; exact ⟨rfl, rfl⟩)); refine hK _ _ ?_; clear hK K)
    -- 6: build<31> 
    refine stepK rfl (by kernel_rfl) (fun K hK => ?_); go_simp
    first | (refine hK _ _ ?_; clear hK K) | (apply Exists.intro; apply And.intro; (focus (intro wk hk; go_simp; exact ⟨rfl, rfl⟩)); refine hK _ _ ?_; clear hK K)
    -- 7: call F116(t20, t21)
    refine stepK rfl (by kernel_rfl) (fun K hK => ?_); go_simp
    first | (refine hK _ _ ?_; clear hK K) | (apply Exists.intro; apply And.intro; (focus (intro wk hk; go_simp; exact ⟨rfl, rfl⟩)); refine hK _ _ ?_; clear hK K)
    -- 8: not<4> t22
    refine stepK rfl (by kernel_rfl) (fun K hK => ?_); go_simp
    first | (refine hK _ _ ?_; clear hK K) | (apply Exists.intro; apply And.intro; (focus (intro wk hk; go_simp; exact ⟨rfl, rfl⟩)); refine hK _ _ ?_; clear hK K)
    -- 9: pick t19 ? true : t23
    refine stepK rfl (by kernel_rfl) (fun K hK => ?_); go_simp
    apply Exists.intro; apply And.intro; (focus (intro wk hk; go_simp; exact ⟨rfl, rfl⟩)); refine hK _ _ ?_; clear hK K
    refine stepN ?_
    refine hQ _ _ ?_
    intro w1 hT hG hF
    have hbw1 := hT.below
    replace r0 := r0.below hbw1 r0.lt
    replace r1 := r1.below hbw1 r1.lt
    replace r2 := r2.below hbw1 r2.lt
    replace hl := hl.trans (hbw1.mono hl.size)
    clear hT hG hF hbw1 hQ QQ L 
    go_upto_region 2 with (fail)
    let L : List Sp := [sV 0 [] [] (fun u => u = .bool true)]
    refine wp_region_six0 (shs L) (look6 L) (None_) (by kernel_rfl) (by kernel_rfl) (mk_St L [] [] (by kernel_rfl) (by kernel_rfl) ⟨ok_V ⟨_, rfl⟩, trivial⟩ (by simp)) ?_
    intro QQ hQ
    -- 0: call F118()
    refine stepS _ rfl (by kernel_rfl) (fun K hK => ?_); go_simp
    refine ⟨?_, ?_⟩
    · intro wk hk hg hu; go_simp; refine upon_enter ((k1.out _).mono ?_); rintro e w' ⟨rfl, hb⟩; exact ⟨_, rfl, left_V (p := fun u => u = .bool true) rfl (hb) rfl⟩
    rintro ⟨v0, lo0, hi0⟩ - - (rfl : v0 = _)
    refine hK _ _ ?_; clear hK K
    -- 1: assign t25
    refine stepK rfl (by kernel_rfl) (fun K hK => ?_); go_simp
    apply Exists.intro; apply And.intro; (focus (intro wk hk; go_simp; exact ⟨rfl, rfl⟩)); refine hK _ _ ?_; clear hK K
    refine stepN ?_
    refine hQ _ _ ?_
    intro w2 hT hG hF
    have hbw2 := hT.below
    replace r0 := r0.below hbw2 r0.lt
    replace r1 := r1.below hbw2 r1.lt
    replace r2 := r2.below hbw2 r2.lt
    replace hl := hl.trans (hbw2.mono hl.size)
    clear hT hG hF hbw2 hQ QQ L 
    go_wp2_with fail
    go_ret
    exact ⟨rfl, hl⟩
  · cases hg2 : (amt2 a 0 && decide (0 ≤ a))
    · skip
      have k0 := Lib.hid (show ∀ wx, Calls Try.prog 116 #[.agg (W4 s), .agg (W4 t)] wx (Ret wx (.bool true)) from fun wx => by have h := goodRU hs ht wx; rw [hg1] at h; exact h)
      have k1 := Lib.hid (show ∀ wx, Calls Try.prog 116 #[.agg (W4 a), .agg #[.int .u64 0, .int .u64 0, .int .u64 0, .int .u64 0]] wx (Ret wx (.bool false)) from fun wx => by have h := goodRU ha (show 0 < M by unfold M; omega) wx; rw [hg2] at h; exact h)
      have k2 := Lib.hid (show ∀ wx, Calls Try.prog 118 #[] wx (Ret wx (.bool true)) from fun wx => by have h := lives18U  wx; exact h)
      clear hg1 hg2
      go_enter Try.func23, Try.ntmps23
      apply wp_seq_eq
      focus
        intro J hJ
        go_wp2_with fail
        exact hJ
      refine wp_abs (Mem w [(w.heap.size, 31, W4 s), (w.heap.size + 1, 31, W4 t), (w.heap.size + 1 + 1, 31, W4 a)]) ⟨by go_grown, ?_, ?_, ?_, trivial⟩ ?_
      · repeat (first | (refine Row.new_at ?_; simp; done) | refine Row.alloc ?_ _)
      · repeat (first | (refine Row.new_at ?_; simp; done) | refine Row.alloc ?_ _)
      · repeat (first | (refine Row.new_at ?_; simp; done) | refine Row.alloc ?_ _)
      intro w0 hM
      obtain ⟨hl, r0, r1, r2, -⟩ := hM
      go_upto_region 1 with (fail)
      let L : List Sp := [sV 2 [] [] (fun u => u = .bool true), sV 7 [] [] (fun u => u = .bool false)]
      refine wp_region_six0 (shs L) (look6 L) (None_) (by kernel_rfl) (by kernel_rfl) (mk_St L [] [] (by kernel_rfl) (by kernel_rfl) ⟨ok_V ⟨_, rfl⟩, ok_V ⟨_, rfl⟩, trivial⟩ (by simp)) ?_
      intro QQ hQ
      -- 0: load<31> *t3
      refine stepK rfl (by kernel_rfl) (fun K hK => ?_); go_simp
      apply Exists.intro; apply And.intro; (focus exact kLoad rfl rfl aggT31 r0 rfl id); refine hK _ _ ?_; clear hK K
      -- 1: load<31> *t4
      refine stepK rfl (by kernel_rfl) (fun K hK => ?_); go_simp
      apply Exists.intro; apply And.intro; (focus exact kLoad rfl rfl aggT31 r1 rfl id); refine hK _ _ ?_; clear hK K
      -- 2: call F116(t15, t16)
      refine stepS _ rfl (by kernel_rfl) (fun K hK => ?_); go_simp
      refine ⟨?_, ?_⟩
      · intro wk hk hg hu; go_simp; refine upon_enter ((k0.out _).mono ?_); rintro e w' ⟨rfl, hb⟩; exact ⟨_, rfl, left_V (p := fun u => u = .bool true) rfl (hb) rfl⟩
      rintro ⟨v2, lo2, hi2⟩ - - (rfl : v2 = _)
      refine hK _ _ ?_; clear hK K
      -- 3: not<4> t17
      refine stepK rfl (by kernel_rfl) (fun K hK => ?_); go_simp
      apply Exists.intro; apply And.intro; (focus (intro wk hk; go_simp; exact ⟨rfl, rfl⟩)); refine hK _ _ ?_; clear hK K
      -- 4: t18
      refine stepK rfl (by kernel_rfl) (fun K hK => ?_); go_simp
      apply Exists.intro; apply And.intro; (focus (intro wk hk; go_simp; exact ⟨rfl, rfl⟩)); refine hK _ _ ?_; clear hK K
      -- 5: load<31> *t5
      refine stepK rfl (by kernel_rfl) (fun K hK => ?_); go_simp
      first | (refine hK _ _ ?_; clear hK K) | (apply Exists.intro; apply And.intro; (focus exact kLoad rfl rfl aggT31 r2 rfl id); refine hK _ _ ?_; clear hK K)
      -- 6: build<31> 
      refine stepK rfl (by kernel_rfl) (fun K hK => ?_); go_simp
      first | (refine hK _ _ ?_; clear hK K) | (apply Exists.intro; apply And.intro; (focus (intro wk hk; go_simp; exact ⟨rfl, rfl⟩)); refine hK _ _ ?_; clear hK K)
      -- 7: call F116(t20, t21)
      refine stepS _ rfl (by kernel_rfl) (fun K hK => ?_); go_simp
      refine ⟨?_, ?_⟩
      · intro wk hk hg hu; go_simp; refine upon_enter ((k1.out _).mono ?_); rintro e w' ⟨rfl, hb⟩; exact ⟨_, rfl, left_V (p := fun u => u = .bool false) rfl (hb) rfl⟩
      rintro ⟨v7, lo7, hi7⟩ - - (rfl : v7 = _)
      refine hK _ _ ?_; clear hK K
      -- 8: not<4> t22
      refine stepK rfl (by kernel_rfl) (fun K hK => ?_); go_simp
      first | (refine hK _ _ ?_; clear hK K) | (apply Exists.intro; apply And.intro; (focus (intro wk hk; go_simp; exact ⟨rfl, rfl⟩)); refine hK _ _ ?_; clear hK K)
      -- 9: pick t19 ? true : t23
      refine stepK rfl (by kernel_rfl) (fun K hK => ?_); go_simp
      apply Exists.intro; apply And.intro; (focus (intro wk hk; go_simp; exact ⟨rfl, rfl⟩)); refine hK _ _ ?_; clear hK K
      refine stepN ?_
      refine hQ _ _ ?_
      intro w1 hT hG hF
      have hbw1 := hT.below
      replace r0 := r0.below hbw1 r0.lt
      replace r1 := r1.below hbw1 r1.lt
      replace r2 := r2.below hbw1 r2.lt
      replace hl := hl.trans (hbw1.mono hl.size)
      clear hT hG hF hbw1 hQ QQ L 
      go_upto_region 2 with (fail)
      let L : List Sp := [sV 0 [] [] (fun u => u = .bool true)]
      refine wp_region_six0 (shs L) (look6 L) (None_) (by kernel_rfl) (by kernel_rfl) (mk_St L [] [] (by kernel_rfl) (by kernel_rfl) ⟨ok_V ⟨_, rfl⟩, trivial⟩ (by simp)) ?_
      intro QQ hQ
      -- 0: call F118()
      refine stepS _ rfl (by kernel_rfl) (fun K hK => ?_); go_simp
      refine ⟨?_, ?_⟩
      · intro wk hk hg hu; go_simp; refine upon_enter ((k2.out _).mono ?_); rintro e w' ⟨rfl, hb⟩; exact ⟨_, rfl, left_V (p := fun u => u = .bool true) rfl (hb) rfl⟩
      rintro ⟨v0, lo0, hi0⟩ - - (rfl : v0 = _)
      refine hK _ _ ?_; clear hK K
      -- 1: assign t25
      refine stepK rfl (by kernel_rfl) (fun K hK => ?_); go_simp
      apply Exists.intro; apply And.intro; (focus (intro wk hk; go_simp; exact ⟨rfl, rfl⟩)); refine hK _ _ ?_; clear hK K
      refine stepN ?_
      refine hQ _ _ ?_
      intro w2 hT hG hF
      have hbw2 := hT.below
      replace r0 := r0.below hbw2 r0.lt
      replace r1 := r1.below hbw2 r1.lt
      replace r2 := r2.below hbw2 r2.lt
      replace hl := hl.trans (hbw2.mono hl.size)
      clear hT hG hF hbw2 hQ QQ L 
      go_wp2_with fail
      go_ret
      exact ⟨rfl, hl⟩
    · have G1 := good_get hg1
      have G2 := good_get hg2
      have B := rate_buy G1.1 G1.2.1 G1.2.2 G2.1
      obtain ⟨x, hx⟩ : ∃ x, x = shN s t a := ⟨_, rfl⟩
      rw [← hx] at B
      have xl : x < M := Nat.lt_of_le_of_lt B.2.1 ha
      obtain ⟨m, hmm⟩ : ∃ m, m = s + a := ⟨_, rfl⟩
      obtain ⟨z, huu⟩ : ∃ z, z = t + x := ⟨_, rfl⟩
      have ml : m < M := hmm ▸ MM2 G1.1 G2.1
      have zl : z < M := by have := B.2.1; have := G1.2.2; omega
      have hum : z ≤ m := by have := B.2.1; have := G1.2.2; omega
      have hm : addN s a = m ∧ addB s a = true := by unfold addN addB; rw [← hmm]; exact ⟨if_pos ml, decide_eq_true ml⟩
      have hu : addN t x = z ∧ addB t x = true := by unfold addN addB; rw [← huu]; exact ⟨if_pos zl, decide_eq_true zl⟩
      by_cases hm2 : m < M2
      · have g3 : (amt2 m z && decide (z ≤ m)) = true := good_ok hm2 (by omega) hum
        have E : tkB m z x = true ∧ tkN m z x ≤ a := by
          rw [hmm, huu]
          exact rate_back (by omega) (by omega) B.2.2 G2.1
        obtain ⟨k, hk⟩ : ∃ k, k = tkN m z x := ⟨_, rfl⟩
        rw [← hk] at E
        have kl : k < M := Nat.lt_of_le_of_lt E.2 ha
        obtain ⟨c1, hc1⟩ : ∃ c, c = cmpN k a := ⟨_, rfl⟩
        have h1 : c1 ≤ 0 := hc1 ▸ cmpN_le E.2
        clear G1 G2 hmm huu hum hm2
        have k0 := Lib.hid (show ∀ wx, Calls Try.prog 116 #[.agg (W4 s), .agg (W4 t)] wx (Ret wx (.bool true)) from fun wx => by have h := goodRU hs ht wx; rw [hg1] at h; exact h)
        have k1 := Lib.hid (show ∀ wx, Calls Try.prog 116 #[.agg (W4 a), .agg #[.int .u64 0, .int .u64 0, .int .u64 0, .int .u64 0]] wx (Ret wx (.bool true)) from fun wx => by have h := goodRU ha (show 0 < M by unfold M; omega) wx; rw [hg2] at h; exact h)
        have k2 := Lib.hid (show ∀ wx, Calls Try.prog 112 #[.agg (W4 s), .agg (W4 t), .agg (W4 a)] wx (Ret wx (.tuple #[.agg (W4 x), .bool true])) from fun wx => by have h := sharesU hs ht ha wx; rw [← hx, B.1] at h; exact h)
        have k3 := Lib.hid (show ∀ wx, Calls Try.prog 51 #[.agg (W4 s), .agg (W4 a)] wx (Ret wx (.tuple #[.agg (W4 m), .bool true])) from fun wx => by have h := refaddU hs ha wx; rw [hm.1, hm.2] at h; exact h)
        have k4 := Lib.hid (show ∀ wx, Calls Try.prog 51 #[.agg (W4 t), .agg (W4 x)] wx (Ret wx (.tuple #[.agg (W4 z), .bool true])) from fun wx => by have h := refaddU ht xl wx; rw [hu.1, hu.2] at h; exact h)
        have k5 := Lib.hid (show ∀ wx, Calls Try.prog 116 #[.agg (W4 m), .agg (W4 z)] wx (Ret wx (.bool true)) from fun wx => by have h := goodRU ml zl wx; rw [g3] at h; exact h)
        have k6 := Lib.hid (show ∀ wx, Calls Try.prog 114 #[.agg (W4 m), .agg (W4 z), .agg (W4 x)] wx (Ret wx (.tuple #[.agg (W4 k), .bool true])) from fun wx => by have h := tokensU ml zl xl wx; rw [← hk, E.1] at h; exact h)
        have k7 := Lib.hid (show ∀ wx, Calls Try.prog 57 #[.agg (W4 k), .agg (W4 a)] wx (Ret wx (.int .i64 c1)) from fun wx => by have h := refcmpU kl ha wx; rw [← hc1] at h; exact h)
        have k8 := Lib.hid (show ∀ wx, Calls Try.prog 118 #[] wx (Ret wx (.bool true)) from fun wx => by have h := lives18U  wx; exact h)
        clear hg1 hg2 B hx hm hu g3 hk E hc1
        go_enter Try.func23, Try.ntmps23
        apply wp_seq_eq
        focus
          intro J hJ
          go_wp2_with fail
          exact hJ
        refine wp_abs (Mem w [(w.heap.size, 31, W4 s), (w.heap.size + 1, 31, W4 t), (w.heap.size + 1 + 1, 31, W4 a)]) ⟨by go_grown, ?_, ?_, ?_, trivial⟩ ?_
        · repeat (first | (refine Row.new_at ?_; simp; done) | refine Row.alloc ?_ _)
        · repeat (first | (refine Row.new_at ?_; simp; done) | refine Row.alloc ?_ _)
        · repeat (first | (refine Row.new_at ?_; simp; done) | refine Row.alloc ?_ _)
        intro w0 hM
        obtain ⟨hl, r0, r1, r2, -⟩ := hM
        go_upto_region 1 with (fail)
        let L : List Sp := [sV 2 [] [] (fun u => u = .bool true), sV 7 [] [] (fun u => u = .bool true)]
        refine wp_region_six0 (shs L) (look6 L) (None_) (by kernel_rfl) (by kernel_rfl) (mk_St L [] [] (by kernel_rfl) (by kernel_rfl) ⟨ok_V ⟨_, rfl⟩, ok_V ⟨_, rfl⟩, trivial⟩ (by simp)) ?_
        intro QQ hQ
        -- 0: load<31> *t3
        refine stepK rfl (by kernel_rfl) (fun K hK => ?_); go_simp
        apply Exists.intro; apply And.intro; (focus exact kLoad rfl rfl aggT31 r0 rfl id); refine hK _ _ ?_; clear hK K
        -- 1: load<31> *t4
        refine stepK rfl (by kernel_rfl) (fun K hK => ?_); go_simp
        apply Exists.intro; apply And.intro; (focus exact kLoad rfl rfl aggT31 r1 rfl id); refine hK _ _ ?_; clear hK K
        -- 2: call F116(t15, t16)
        refine stepS _ rfl (by kernel_rfl) (fun K hK => ?_); go_simp
        refine ⟨?_, ?_⟩
        · intro wk hk hg hu; go_simp; refine upon_enter ((k0.out _).mono ?_); rintro e w' ⟨rfl, hb⟩; exact ⟨_, rfl, left_V (p := fun u => u = .bool true) rfl (hb) rfl⟩
        rintro ⟨v2, lo2, hi2⟩ - - (rfl : v2 = _)
        refine hK _ _ ?_; clear hK K
        -- 3: not<4> t17
        refine stepK rfl (by kernel_rfl) (fun K hK => ?_); go_simp
        apply Exists.intro; apply And.intro; (focus (intro wk hk; go_simp; exact ⟨rfl, rfl⟩)); refine hK _ _ ?_; clear hK K
        -- 4: t18
        refine stepK rfl (by kernel_rfl) (fun K hK => ?_); go_simp
        apply Exists.intro; apply And.intro; (focus (intro wk hk; go_simp; exact ⟨rfl, rfl⟩)); refine hK _ _ ?_; clear hK K
        -- 5: load<31> *t5
        refine stepK rfl (by kernel_rfl) (fun K hK => ?_); go_simp
        first | (refine hK _ _ ?_; clear hK K) | (apply Exists.intro; apply And.intro; (focus exact kLoad rfl rfl aggT31 r2 rfl id); refine hK _ _ ?_; clear hK K)
        -- 6: build<31> 
        refine stepK rfl (by kernel_rfl) (fun K hK => ?_); go_simp
        first | (refine hK _ _ ?_; clear hK K) | (apply Exists.intro; apply And.intro; (focus (intro wk hk; go_simp; exact ⟨rfl, rfl⟩)); refine hK _ _ ?_; clear hK K)
        -- 7: call F116(t20, t21)
        refine stepS _ rfl (by kernel_rfl) (fun K hK => ?_); go_simp
        refine ⟨?_, ?_⟩
        · intro wk hk hg hu; go_simp; refine upon_enter ((k1.out _).mono ?_); rintro e w' ⟨rfl, hb⟩; exact ⟨_, rfl, left_V (p := fun u => u = .bool true) rfl (hb) rfl⟩
        rintro ⟨v7, lo7, hi7⟩ - - (rfl : v7 = _)
        refine hK _ _ ?_; clear hK K
        -- 8: not<4> t22
        refine stepK rfl (by kernel_rfl) (fun K hK => ?_); go_simp
        first | (refine hK _ _ ?_; clear hK K) | (apply Exists.intro; apply And.intro; (focus (intro wk hk; go_simp; exact ⟨rfl, rfl⟩)); refine hK _ _ ?_; clear hK K)
        -- 9: pick t19 ? true : t23
        refine stepK rfl (by kernel_rfl) (fun K hK => ?_); go_simp
        apply Exists.intro; apply And.intro; (focus (intro wk hk; go_simp; exact ⟨rfl, rfl⟩)); refine hK _ _ ?_; clear hK K
        refine stepN ?_
        refine hQ _ _ ?_
        intro w1 hT hG hF
        have hbw1 := hT.below
        replace r0 := r0.below hbw1 r0.lt
        replace r1 := r1.below hbw1 r1.lt
        replace r2 := r2.below hbw1 r2.lt
        replace hl := hl.trans (hbw1.mono hl.size)
        clear hT hG hF hbw1 hQ QQ L 
        go_upto_region 3 with (fail)
        let L : List Sp := [sV 3 [] [] (fun u => u = .tuple #[.agg (W4 x), .bool true]), sA 7 31 [8] #[.int .u64 0, .int .u64 0, .int .u64 0, .int .u64 0], sT 8 7 31 [5] (fun g => aggOf g 5)]
        refine wp_region_six0 (shs L) (look6 L) (None_) (by kernel_rfl) (by kernel_rfl) (mk_St L [] [] (by kernel_rfl) (by kernel_rfl) ⟨ok_V ⟨_, rfl⟩, ok_A, ok_T aggOf_congr, trivial⟩ (by simp)) ?_
        intro QQ hQ
        -- 0: load<31> *t3
        refine stepK rfl (by kernel_rfl) (fun K hK => ?_); go_simp
        apply Exists.intro; apply And.intro; (focus exact kLoad rfl rfl aggT31 r0 rfl id); refine hK _ _ ?_; clear hK K
        -- 1: load<31> *t4
        refine stepK rfl (by kernel_rfl) (fun K hK => ?_); go_simp
        apply Exists.intro; apply And.intro; (focus exact kLoad rfl rfl aggT31 r1 rfl id); refine hK _ _ ?_; clear hK K
        -- 2: load<31> *t5
        refine stepK rfl (by kernel_rfl) (fun K hK => ?_); go_simp
        apply Exists.intro; apply And.intro; (focus exact kLoad rfl rfl aggT31 r2 rfl id); refine hK _ _ ?_; clear hK K
        -- 3: call F112(t27, t28, t29)
        refine stepS _ rfl (by kernel_rfl) (fun K hK => ?_); go_simp
        refine ⟨?_, ?_⟩
        · intro wk hk hg hu; go_simp; refine upon_enter ((k2.out _).mono ?_); rintro e w' ⟨rfl, hb⟩; exact ⟨_, rfl, left_V (p := fun u => u = .tuple #[.agg (W4 x), .bool true]) rfl (hb) rfl⟩
        rintro ⟨v3, lo3, hi3⟩ - - (rfl : v3 = _)
        refine hK _ _ ?_; clear hK K
        -- 4: t30
        refine stepK rfl (by kernel_rfl) (fun K hK => ?_); go_simp
        apply Exists.intro; apply And.intro; (focus (intro wk hk; go_simp; exact ⟨rfl, rfl⟩)); refine hK _ _ ?_; clear hK K
        -- 5: extract t26 #0
        refine stepK rfl (by kernel_rfl) (fun K hK => ?_); go_simp
        apply Exists.intro; apply And.intro; (focus (intro wk hk; go_simp; exact ⟨rfl, rfl⟩)); refine hK _ _ ?_; clear hK K
        -- 6: extract t26 #1
        refine stepK rfl (by kernel_rfl) (fun K hK => ?_); go_simp
        apply Exists.intro; apply And.intro; (focus (intro wk hk; go_simp; exact ⟨rfl, rfl⟩)); refine hK _ _ ?_; clear hK K
        -- 7: alloc<31>
        refine stepS _ rfl (by kernel_rfl) (fun K hK => ?_); go_simp
        refine ⟨?_, ?_⟩
        · intro wk hk hg hu; go_simp; exact left_A rfl rfl
        rintro ⟨v7, lo3_7, hi7⟩ hlo7 hhi7 ⟨e7, f7⟩
        replace e7 : v7 = .pointer (some ⟨lo3_7, 0, none⟩) := e7; replace f7 : hi7 = lo3_7 + 1 := f7; replace hlo7 : _ ≤ lo3_7 := hlo7; subst e7; subst f7
        refine hK _ _ ?_; clear hK K
        -- 8: store<31> *t7 = t31
        refine stepS _ rfl (by kernel_rfl) (fun K hK => ?_); go_simp
        refine ⟨?_, ?_⟩
        · exact sStoreT rfl rfl rfl rfl rfl rfl rfl (by kernel_rfl) rfl (by kernel_rfl) (by decide) aggOf_congr
        rintro ⟨v8, lo8, hi8⟩ - - (rfl : v8 = undef)
        refine hK _ _ ?_; clear hK K
        -- 9: assign t32
        refine stepK rfl (by kernel_rfl) (fun K hK => ?_); go_simp
        apply Exists.intro; apply And.intro; (focus (intro wk hk; go_simp; exact ⟨rfl, rfl⟩)); refine hK _ _ ?_; clear hK K
        refine stepN ?_
        refine hQ _ _ ?_
        intro w2 hT hG hF
        have hbw2 := hT.below
        have r3 : Row w2 lo3_7 31 ((W4 x)) := (hF 8 _ rfl rfl (by decide)).2
        replace r0 := r0.below hbw2 r0.lt
        replace r1 := r1.below hbw2 r1.lt
        replace r2 := r2.below hbw2 r2.lt
        replace hl := hl.trans (hbw2.mono hl.size)
        clear hT hG hF hbw2 hQ QQ L hlo7 hhi7
        go_upto_region 4 with (fail)
        let L : List Sp := [sV 2 [] [] (fun u => u = .tuple #[.agg (W4 m), .bool true]), sA 6 31 [7] #[.int .u64 0, .int .u64 0, .int .u64 0, .int .u64 0], sT 7 6 31 [4] (fun g => aggOf g 4)]
        refine wp_region_six0 (shs L) (look6 L) (None_) (by kernel_rfl) (by kernel_rfl) (mk_St L [] [] (by kernel_rfl) (by kernel_rfl) ⟨ok_V ⟨_, rfl⟩, ok_A, ok_T aggOf_congr, trivial⟩ (by simp)) ?_
        intro QQ hQ
        -- 0: load<31> *t3
        refine stepK rfl (by kernel_rfl) (fun K hK => ?_); go_simp
        apply Exists.intro; apply And.intro; (focus exact kLoad rfl rfl aggT31 r0 rfl id); refine hK _ _ ?_; clear hK K
        -- 1: load<31> *t5
        refine stepK rfl (by kernel_rfl) (fun K hK => ?_); go_simp
        apply Exists.intro; apply And.intro; (focus exact kLoad rfl rfl aggT31 r2 rfl id); refine hK _ _ ?_; clear hK K
        -- 2: call F51(t34, t35)
        refine stepS _ rfl (by kernel_rfl) (fun K hK => ?_); go_simp
        refine ⟨?_, ?_⟩
        · intro wk hk hg hu; go_simp; refine upon_enter ((k3.out _).mono ?_); rintro e w' ⟨rfl, hb⟩; exact ⟨_, rfl, left_V (p := fun u => u = .tuple #[.agg (W4 m), .bool true]) rfl (hb) rfl⟩
        rintro ⟨v2, lo2, hi2⟩ - - (rfl : v2 = _)
        refine hK _ _ ?_; clear hK K
        -- 3: t36
        refine stepK rfl (by kernel_rfl) (fun K hK => ?_); go_simp
        apply Exists.intro; apply And.intro; (focus (intro wk hk; go_simp; exact ⟨rfl, rfl⟩)); refine hK _ _ ?_; clear hK K
        -- 4: extract t33 #0
        refine stepK rfl (by kernel_rfl) (fun K hK => ?_); go_simp
        apply Exists.intro; apply And.intro; (focus (intro wk hk; go_simp; exact ⟨rfl, rfl⟩)); refine hK _ _ ?_; clear hK K
        -- 5: extract t33 #1
        refine stepK rfl (by kernel_rfl) (fun K hK => ?_); go_simp
        apply Exists.intro; apply And.intro; (focus (intro wk hk; go_simp; exact ⟨rfl, rfl⟩)); refine hK _ _ ?_; clear hK K
        -- 6: alloc<31>
        refine stepS _ rfl (by kernel_rfl) (fun K hK => ?_); go_simp
        refine ⟨?_, ?_⟩
        · intro wk hk hg hu; go_simp; exact left_A rfl rfl
        rintro ⟨v6, lo4_6, hi6⟩ hlo6 hhi6 ⟨e6, f6⟩
        replace e6 : v6 = .pointer (some ⟨lo4_6, 0, none⟩) := e6; replace f6 : hi6 = lo4_6 + 1 := f6; replace hlo6 : _ ≤ lo4_6 := hlo6; subst e6; subst f6
        refine hK _ _ ?_; clear hK K
        -- 7: store<31> *t9 = t37
        refine stepS _ rfl (by kernel_rfl) (fun K hK => ?_); go_simp
        refine ⟨?_, ?_⟩
        · exact sStoreT rfl rfl rfl rfl rfl rfl rfl (by kernel_rfl) rfl (by kernel_rfl) (by decide) aggOf_congr
        rintro ⟨v7, lo7, hi7⟩ - - (rfl : v7 = undef)
        refine hK _ _ ?_; clear hK K
        -- 8: assign t38
        refine stepK rfl (by kernel_rfl) (fun K hK => ?_); go_simp
        apply Exists.intro; apply And.intro; (focus (intro wk hk; go_simp; exact ⟨rfl, rfl⟩)); refine hK _ _ ?_; clear hK K
        refine stepN ?_
        refine hQ _ _ ?_
        intro w3 hT hG hF
        have hbw3 := hT.below
        have r4 : Row w3 lo4_6 31 ((W4 m)) := (hF 7 _ rfl rfl (by decide)).2
        replace r0 := r0.below hbw3 r0.lt
        replace r1 := r1.below hbw3 r1.lt
        replace r2 := r2.below hbw3 r2.lt
        replace r3 := r3.below hbw3 r3.lt
        replace hl := hl.trans (hbw3.mono hl.size)
        clear hT hG hF hbw3 hQ QQ L hlo6 hhi6
        go_upto_region 5 with (fail)
        let L : List Sp := [sV 2 [] [] (fun u => u = .tuple #[.agg (W4 z), .bool true]), sA 6 31 [7] #[.int .u64 0, .int .u64 0, .int .u64 0, .int .u64 0], sT 7 6 31 [4] (fun g => aggOf g 4)]
        refine wp_region_six0 (shs L) (look6 L) (None_) (by kernel_rfl) (by kernel_rfl) (mk_St L [] [] (by kernel_rfl) (by kernel_rfl) ⟨ok_V ⟨_, rfl⟩, ok_A, ok_T aggOf_congr, trivial⟩ (by simp)) ?_
        intro QQ hQ
        -- 0: load<31> *t4
        refine stepK rfl (by kernel_rfl) (fun K hK => ?_); go_simp
        apply Exists.intro; apply And.intro; (focus exact kLoad rfl rfl aggT31 r1 rfl id); refine hK _ _ ?_; clear hK K
        -- 1: load<31> *t7
        refine stepK rfl (by kernel_rfl) (fun K hK => ?_); go_simp
        apply Exists.intro; apply And.intro; (focus exact kLoad rfl rfl aggT31 r3 rfl id); refine hK _ _ ?_; clear hK K
        -- 2: call F51(t40, t41)
        refine stepS _ rfl (by kernel_rfl) (fun K hK => ?_); go_simp
        refine ⟨?_, ?_⟩
        · intro wk hk hg hu; go_simp; refine upon_enter ((k4.out _).mono ?_); rintro e w' ⟨rfl, hb⟩; exact ⟨_, rfl, left_V (p := fun u => u = .tuple #[.agg (W4 z), .bool true]) rfl (hb) rfl⟩
        rintro ⟨v2, lo2, hi2⟩ - - (rfl : v2 = _)
        refine hK _ _ ?_; clear hK K
        -- 3: t42
        refine stepK rfl (by kernel_rfl) (fun K hK => ?_); go_simp
        apply Exists.intro; apply And.intro; (focus (intro wk hk; go_simp; exact ⟨rfl, rfl⟩)); refine hK _ _ ?_; clear hK K
        -- 4: extract t39 #0
        refine stepK rfl (by kernel_rfl) (fun K hK => ?_); go_simp
        apply Exists.intro; apply And.intro; (focus (intro wk hk; go_simp; exact ⟨rfl, rfl⟩)); refine hK _ _ ?_; clear hK K
        -- 5: extract t39 #1
        refine stepK rfl (by kernel_rfl) (fun K hK => ?_); go_simp
        apply Exists.intro; apply And.intro; (focus (intro wk hk; go_simp; exact ⟨rfl, rfl⟩)); refine hK _ _ ?_; clear hK K
        -- 6: alloc<31>
        refine stepS _ rfl (by kernel_rfl) (fun K hK => ?_); go_simp
        refine ⟨?_, ?_⟩
        · intro wk hk hg hu; go_simp; exact left_A rfl rfl
        rintro ⟨v6, lo5_6, hi6⟩ hlo6 hhi6 ⟨e6, f6⟩
        replace e6 : v6 = .pointer (some ⟨lo5_6, 0, none⟩) := e6; replace f6 : hi6 = lo5_6 + 1 := f6; replace hlo6 : _ ≤ lo5_6 := hlo6; subst e6; subst f6
        refine hK _ _ ?_; clear hK K
        -- 7: store<31> *t11 = t43
        refine stepS _ rfl (by kernel_rfl) (fun K hK => ?_); go_simp
        refine ⟨?_, ?_⟩
        · exact sStoreT rfl rfl rfl rfl rfl rfl rfl (by kernel_rfl) rfl (by kernel_rfl) (by decide) aggOf_congr
        rintro ⟨v7, lo7, hi7⟩ - - (rfl : v7 = undef)
        refine hK _ _ ?_; clear hK K
        -- 8: assign t44
        refine stepK rfl (by kernel_rfl) (fun K hK => ?_); go_simp
        apply Exists.intro; apply And.intro; (focus (intro wk hk; go_simp; exact ⟨rfl, rfl⟩)); refine hK _ _ ?_; clear hK K
        refine stepN ?_
        refine hQ _ _ ?_
        intro w4 hT hG hF
        have hbw4 := hT.below
        have r5 : Row w4 lo5_6 31 ((W4 z)) := (hF 7 _ rfl rfl (by decide)).2
        replace r0 := r0.below hbw4 r0.lt
        replace r1 := r1.below hbw4 r1.lt
        replace r2 := r2.below hbw4 r2.lt
        replace r3 := r3.below hbw4 r3.lt
        replace r4 := r4.below hbw4 r4.lt
        replace hl := hl.trans (hbw4.mono hl.size)
        clear hT hG hF hbw4 hQ QQ L hlo6 hhi6
        go_upto_region 6 with (fail)
        let L : List Sp := [sV 5 [] [] (fun u => u = .bool true)]
        refine wp_region_six0 (shs L) (look6 L) (None_) (by kernel_rfl) (by kernel_rfl) (mk_St L [] [] (by kernel_rfl) (by kernel_rfl) ⟨ok_V ⟨_, rfl⟩, trivial⟩ (by simp)) ?_
        intro QQ hQ
        -- 0: t8
        refine stepK rfl (by kernel_rfl) (fun K hK => ?_); go_simp
        apply Exists.intro; apply And.intro; (focus (intro wk hk; go_simp; exact ⟨rfl, rfl⟩)); refine hK _ _ ?_; clear hK K
        -- 1: not<4> t45
        refine stepK rfl (by kernel_rfl) (fun K hK => ?_); go_simp
        apply Exists.intro; apply And.intro; (focus (intro wk hk; go_simp; exact ⟨rfl, rfl⟩)); refine hK _ _ ?_; clear hK K
        -- 2: t46
        refine stepK rfl (by kernel_rfl) (fun K hK => ?_); go_simp
        apply Exists.intro; apply And.intro; (focus (intro wk hk; go_simp; exact ⟨rfl, rfl⟩)); refine hK _ _ ?_; clear hK K
        -- 3: load<31> *t9
        refine stepK rfl (by kernel_rfl) (fun K hK => ?_); go_simp
        first | (refine hK _ _ ?_; clear hK K) | (apply Exists.intro; apply And.intro; (focus exact kLoad rfl rfl aggT31 r4 rfl id); refine hK _ _ ?_; clear hK K)
        -- 4: load<31> *t11
        refine stepK rfl (by kernel_rfl) (fun K hK => ?_); go_simp
        first | (refine hK _ _ ?_; clear hK K) | (apply Exists.intro; apply And.intro; (focus exact kLoad rfl rfl aggT31 r5 rfl id); refine hK _ _ ?_; clear hK K)
        -- 5: call F116(t48, t49)
        refine stepS _ rfl (by kernel_rfl) (fun K hK => ?_); go_simp
        refine ⟨?_, ?_⟩
        · intro wk hk hg hu; go_simp; refine upon_enter ((k5.out _).mono ?_); rintro e w' ⟨rfl, hb⟩; exact ⟨_, rfl, left_V (p := fun u => u = .bool true) rfl (hb) rfl⟩
        rintro ⟨v5, lo5, hi5⟩ - - (rfl : v5 = _)
        refine hK _ _ ?_; clear hK K
        -- 6: not<4> t50
        refine stepK rfl (by kernel_rfl) (fun K hK => ?_); go_simp
        first | (refine hK _ _ ?_; clear hK K) | (apply Exists.intro; apply And.intro; (focus (intro wk hk; go_simp; exact ⟨rfl, rfl⟩)); refine hK _ _ ?_; clear hK K)
        -- 7: pick t47 ? true : t51
        refine stepK rfl (by kernel_rfl) (fun K hK => ?_); go_simp
        apply Exists.intro; apply And.intro; (focus (intro wk hk; go_simp; exact ⟨rfl, rfl⟩)); refine hK _ _ ?_; clear hK K
        refine stepN ?_
        refine hQ _ _ ?_
        intro w5 hT hG hF
        have hbw5 := hT.below
        replace r0 := r0.below hbw5 r0.lt
        replace r1 := r1.below hbw5 r1.lt
        replace r2 := r2.below hbw5 r2.lt
        replace r3 := r3.below hbw5 r3.lt
        replace r4 := r4.below hbw5 r4.lt
        replace r5 := r5.below hbw5 r5.lt
        replace hl := hl.trans (hbw5.mono hl.size)
        clear hT hG hF hbw5 hQ QQ L 
        go_upto_region 8 with (fail)
        let L : List Sp := [sV 3 [] [] (fun u => u = .tuple #[.agg (W4 k), .bool true]), sA 7 31 [8] #[.int .u64 0, .int .u64 0, .int .u64 0, .int .u64 0], sT 8 7 31 [5] (fun g => aggOf g 5)]
        refine wp_region_six0 (shs L) (look6 L) (None_) (by kernel_rfl) (by kernel_rfl) (mk_St L [] [] (by kernel_rfl) (by kernel_rfl) ⟨ok_V ⟨_, rfl⟩, ok_A, ok_T aggOf_congr, trivial⟩ (by simp)) ?_
        intro QQ hQ
        -- 0: load<31> *t9
        refine stepK rfl (by kernel_rfl) (fun K hK => ?_); go_simp
        apply Exists.intro; apply And.intro; (focus exact kLoad rfl rfl aggT31 r4 rfl id); refine hK _ _ ?_; clear hK K
        -- 1: load<31> *t11
        refine stepK rfl (by kernel_rfl) (fun K hK => ?_); go_simp
        apply Exists.intro; apply And.intro; (focus exact kLoad rfl rfl aggT31 r5 rfl id); refine hK _ _ ?_; clear hK K
        -- 2: load<31> *t7
        refine stepK rfl (by kernel_rfl) (fun K hK => ?_); go_simp
        apply Exists.intro; apply And.intro; (focus exact kLoad rfl rfl aggT31 r3 rfl id); refine hK _ _ ?_; clear hK K
        -- 3: call F114(t64, t65, t66)
        refine stepS _ rfl (by kernel_rfl) (fun K hK => ?_); go_simp
        refine ⟨?_, ?_⟩
        · intro wk hk hg hu; go_simp; refine upon_enter ((k6.out _).mono ?_); rintro e w' ⟨rfl, hb⟩; exact ⟨_, rfl, left_V (p := fun u => u = .tuple #[.agg (W4 k), .bool true]) rfl (hb) rfl⟩
        rintro ⟨v3, lo3, hi3⟩ - - (rfl : v3 = _)
        refine hK _ _ ?_; clear hK K
        -- 4: t67
        refine stepK rfl (by kernel_rfl) (fun K hK => ?_); go_simp
        apply Exists.intro; apply And.intro; (focus (intro wk hk; go_simp; exact ⟨rfl, rfl⟩)); refine hK _ _ ?_; clear hK K
        -- 5: extract t63 #0
        refine stepK rfl (by kernel_rfl) (fun K hK => ?_); go_simp
        apply Exists.intro; apply And.intro; (focus (intro wk hk; go_simp; exact ⟨rfl, rfl⟩)); refine hK _ _ ?_; clear hK K
        -- 6: extract t63 #1
        refine stepK rfl (by kernel_rfl) (fun K hK => ?_); go_simp
        apply Exists.intro; apply And.intro; (focus (intro wk hk; go_simp; exact ⟨rfl, rfl⟩)); refine hK _ _ ?_; clear hK K
        -- 7: alloc<31>
        refine stepS _ rfl (by kernel_rfl) (fun K hK => ?_); go_simp
        refine ⟨?_, ?_⟩
        · intro wk hk hg hu; go_simp; exact left_A rfl rfl
        rintro ⟨v7, lo8_7, hi7⟩ hlo7 hhi7 ⟨e7, f7⟩
        replace e7 : v7 = .pointer (some ⟨lo8_7, 0, none⟩) := e7; replace f7 : hi7 = lo8_7 + 1 := f7; replace hlo7 : _ ≤ lo8_7 := hlo7; subst e7; subst f7
        refine hK _ _ ?_; clear hK K
        -- 8: store<31> *t13 = t68
        refine stepS _ rfl (by kernel_rfl) (fun K hK => ?_); go_simp
        refine ⟨?_, ?_⟩
        · exact sStoreT rfl rfl rfl rfl rfl rfl rfl (by kernel_rfl) rfl (by kernel_rfl) (by decide) aggOf_congr
        rintro ⟨v8, lo8, hi8⟩ - - (rfl : v8 = undef)
        refine hK _ _ ?_; clear hK K
        -- 9: assign t69
        refine stepK rfl (by kernel_rfl) (fun K hK => ?_); go_simp
        apply Exists.intro; apply And.intro; (focus (intro wk hk; go_simp; exact ⟨rfl, rfl⟩)); refine hK _ _ ?_; clear hK K
        refine stepN ?_
        refine hQ _ _ ?_
        intro w6 hT hG hF
        have hbw6 := hT.below
        have r6 : Row w6 lo8_7 31 ((W4 k)) := (hF 8 _ rfl rfl (by decide)).2
        replace r0 := r0.below hbw6 r0.lt
        replace r1 := r1.below hbw6 r1.lt
        replace r2 := r2.below hbw6 r2.lt
        replace r3 := r3.below hbw6 r3.lt
        replace r4 := r4.below hbw6 r4.lt
        replace r5 := r5.below hbw6 r5.lt
        replace hl := hl.trans (hbw6.mono hl.size)
        clear hT hG hF hbw6 hQ QQ L hlo7 hhi7
        go_upto_region 9 with (fail)
        let L : List Sp := [sV 4 [] [] (fun u => u = .int .i64 c1), sV 8 [] [] (fun u => u = .bool true)]
        refine wp_region_six0 (shs L) (look6 L) (None_) (by kernel_rfl) (by kernel_rfl) (mk_St L [] [] (by kernel_rfl) (by kernel_rfl) ⟨ok_V ⟨_, rfl⟩, ok_V ⟨_, rfl⟩, trivial⟩ (by simp)) ?_
        intro QQ hQ
        -- 0: t14
        refine stepK rfl (by kernel_rfl) (fun K hK => ?_); go_simp
        apply Exists.intro; apply And.intro; (focus (intro wk hk; go_simp; exact ⟨rfl, rfl⟩)); refine hK _ _ ?_; clear hK K
        -- 1: t70
        refine stepK rfl (by kernel_rfl) (fun K hK => ?_); go_simp
        apply Exists.intro; apply And.intro; (focus (intro wk hk; go_simp; exact ⟨rfl, rfl⟩)); refine hK _ _ ?_; clear hK K
        -- 2: load<31> *t13
        refine stepK rfl (by kernel_rfl) (fun K hK => ?_); go_simp
        first | (refine hK _ _ ?_; clear hK K) | (apply Exists.intro; apply And.intro; (focus exact kLoad rfl rfl aggT31 r6 rfl id); refine hK _ _ ?_; clear hK K)
        -- 3: load<31> *t5
        refine stepK rfl (by kernel_rfl) (fun K hK => ?_); go_simp
        first | (refine hK _ _ ?_; clear hK K) | (apply Exists.intro; apply And.intro; (focus exact kLoad rfl rfl aggT31 r2 rfl id); refine hK _ _ ?_; clear hK K)
        -- 4: call F57(t72, t73)
        refine stepS _ rfl (by kernel_rfl) (fun K hK => ?_); go_simp
        refine ⟨?_, ?_⟩
        · intro wk hk hg hu; go_simp; refine upon_enter ((k7.out _).mono ?_); rintro e w' ⟨rfl, hb⟩; exact ⟨_, rfl, left_V (p := fun u => u = .int .i64 c1) rfl (hb) rfl⟩
        rintro ⟨v4, lo4, hi4⟩ - - (rfl : v4 = _)
        refine hK _ _ ?_; clear hK K
        -- 5: leq<3> t74, 0
        refine stepK rfl (by kernel_rfl) (fun K hK => ?_); go_simp
        first | (refine hK _ _ ?_; clear hK K) | (apply Exists.intro; apply And.intro; (focus (intro wk hk; go_simp; exact ⟨rfl, rfl⟩)); refine hK _ _ ?_; clear hK K)
        -- 6: pick t71 ? t75 : false
        refine stepK rfl (by kernel_rfl) (fun K hK => ?_); go_simp
        apply Exists.intro; apply And.intro; (focus (intro wk hk; go_simp; exact ⟨rfl, rfl⟩)); refine hK _ _ ?_; clear hK K
        -- 7: t76
        refine stepK rfl (by kernel_rfl) (fun K hK => ?_); go_simp
        apply Exists.intro; apply And.intro; (focus (intro wk hk; go_simp; exact ⟨rfl, rfl⟩)); refine hK _ _ ?_; clear hK K
        -- 8: call F118()
        refine stepS _ rfl (by kernel_rfl) (fun K hK => ?_); go_simp
        refine ⟨?_, ?_⟩
        · intro wk hk hg hu; go_simp; refine upon_enter ((k8.out _).mono ?_); rintro e w' ⟨rfl, hb⟩; exact ⟨_, rfl, left_V (p := fun u => u = .bool true) rfl (hb) rfl⟩
        rintro ⟨v8, lo8, hi8⟩ - - (rfl : v8 = _)
        refine hK _ _ ?_; clear hK K
        -- 9: pick t77 ? t78 : false
        refine stepK rfl (by kernel_rfl) (fun K hK => ?_); go_simp
        apply Exists.intro; apply And.intro; (focus (intro wk hk; go_simp; exact ⟨rfl, rfl⟩)); refine hK _ _ ?_; clear hK K
        -- 10: assign t79
        refine stepK rfl (by kernel_rfl) (fun K hK => ?_); go_simp
        apply Exists.intro; apply And.intro; (focus (intro wk hk; go_simp; exact ⟨rfl, rfl⟩)); refine hK _ _ ?_; clear hK K
        refine stepN ?_
        refine hQ _ _ ?_
        intro w7 hT hG hF
        have hbw7 := hT.below
        replace r0 := r0.below hbw7 r0.lt
        replace r1 := r1.below hbw7 r1.lt
        replace r2 := r2.below hbw7 r2.lt
        replace r3 := r3.below hbw7 r3.lt
        replace r4 := r4.below hbw7 r4.lt
        replace r5 := r5.below hbw7 r5.lt
        replace r6 := r6.below hbw7 r6.lt
        replace hl := hl.trans (hbw7.mono hl.size)
        clear hT hG hF hbw7 hQ QQ L 
        go_wp2_with fail
        go_ret
        exact ⟨rfl, hl⟩
      · have g3 : (amt2 m z && decide (z ≤ m)) = false := good_no hm2
        have g4 : (amt2 m 0 && decide (0 ≤ m)) = false := good_no hm2
        clear G1 G2 hmm huu hum hm2
        have k0 := Lib.hid (show ∀ wx, Calls Try.prog 116 #[.agg (W4 s), .agg (W4 t)] wx (Ret wx (.bool true)) from fun wx => by have h := goodRU hs ht wx; rw [hg1] at h; exact h)
        have k1 := Lib.hid (show ∀ wx, Calls Try.prog 116 #[.agg (W4 a), .agg #[.int .u64 0, .int .u64 0, .int .u64 0, .int .u64 0]] wx (Ret wx (.bool true)) from fun wx => by have h := goodRU ha (show 0 < M by unfold M; omega) wx; rw [hg2] at h; exact h)
        have k2 := Lib.hid (show ∀ wx, Calls Try.prog 112 #[.agg (W4 s), .agg (W4 t), .agg (W4 a)] wx (Ret wx (.tuple #[.agg (W4 x), .bool true])) from fun wx => by have h := sharesU hs ht ha wx; rw [← hx, B.1] at h; exact h)
        have k3 := Lib.hid (show ∀ wx, Calls Try.prog 51 #[.agg (W4 s), .agg (W4 a)] wx (Ret wx (.tuple #[.agg (W4 m), .bool true])) from fun wx => by have h := refaddU hs ha wx; rw [hm.1, hm.2] at h; exact h)
        have k4 := Lib.hid (show ∀ wx, Calls Try.prog 51 #[.agg (W4 t), .agg (W4 x)] wx (Ret wx (.tuple #[.agg (W4 z), .bool true])) from fun wx => by have h := refaddU ht xl wx; rw [hu.1, hu.2] at h; exact h)
        have k5 := Lib.hid (show ∀ wx, Calls Try.prog 116 #[.agg (W4 m), .agg (W4 z)] wx (Ret wx (.bool false)) from fun wx => by have h := goodRU ml zl wx; rw [g3] at h; exact h)
        have k6 := Lib.hid (show ∀ wx, Calls Try.prog 116 #[.agg (W4 m), .agg #[.int .u64 0, .int .u64 0, .int .u64 0, .int .u64 0]] wx (Ret wx (.bool false)) from fun wx => by have h := goodRU ml (show 0 < M by unfold M; omega) wx; rw [g4] at h; exact h)
        have k7 := Lib.hid (show ∀ wx, Calls Try.prog 118 #[] wx (Ret wx (.bool true)) from fun wx => by have h := lives18U  wx; exact h)
        clear hg1 hg2 B hx hm hu g3 g4
        go_enter Try.func23, Try.ntmps23
        apply wp_seq_eq
        focus
          intro J hJ
          go_wp2_with fail
          exact hJ
        refine wp_abs (Mem w [(w.heap.size, 31, W4 s), (w.heap.size + 1, 31, W4 t), (w.heap.size + 1 + 1, 31, W4 a)]) ⟨by go_grown, ?_, ?_, ?_, trivial⟩ ?_
        · repeat (first | (refine Row.new_at ?_; simp; done) | refine Row.alloc ?_ _)
        · repeat (first | (refine Row.new_at ?_; simp; done) | refine Row.alloc ?_ _)
        · repeat (first | (refine Row.new_at ?_; simp; done) | refine Row.alloc ?_ _)
        intro w0 hM
        obtain ⟨hl, r0, r1, r2, -⟩ := hM
        go_upto_region 1 with (fail)
        let L : List Sp := [sV 2 [] [] (fun u => u = .bool true), sV 7 [] [] (fun u => u = .bool true)]
        refine wp_region_six0 (shs L) (look6 L) (None_) (by kernel_rfl) (by kernel_rfl) (mk_St L [] [] (by kernel_rfl) (by kernel_rfl) ⟨ok_V ⟨_, rfl⟩, ok_V ⟨_, rfl⟩, trivial⟩ (by simp)) ?_
        intro QQ hQ
        -- 0: load<31> *t3
        refine stepK rfl (by kernel_rfl) (fun K hK => ?_); go_simp
        apply Exists.intro; apply And.intro; (focus exact kLoad rfl rfl aggT31 r0 rfl id); refine hK _ _ ?_; clear hK K
        -- 1: load<31> *t4
        refine stepK rfl (by kernel_rfl) (fun K hK => ?_); go_simp
        apply Exists.intro; apply And.intro; (focus exact kLoad rfl rfl aggT31 r1 rfl id); refine hK _ _ ?_; clear hK K
        -- 2: call F116(t15, t16)
        refine stepS _ rfl (by kernel_rfl) (fun K hK => ?_); go_simp
        refine ⟨?_, ?_⟩
        · intro wk hk hg hu; go_simp; refine upon_enter ((k0.out _).mono ?_); rintro e w' ⟨rfl, hb⟩; exact ⟨_, rfl, left_V (p := fun u => u = .bool true) rfl (hb) rfl⟩
        rintro ⟨v2, lo2, hi2⟩ - - (rfl : v2 = _)
        refine hK _ _ ?_; clear hK K
        -- 3: not<4> t17
        refine stepK rfl (by kernel_rfl) (fun K hK => ?_); go_simp
        apply Exists.intro; apply And.intro; (focus (intro wk hk; go_simp; exact ⟨rfl, rfl⟩)); refine hK _ _ ?_; clear hK K
        -- 4: t18
        refine stepK rfl (by kernel_rfl) (fun K hK => ?_); go_simp
        apply Exists.intro; apply And.intro; (focus (intro wk hk; go_simp; exact ⟨rfl, rfl⟩)); refine hK _ _ ?_; clear hK K
        -- 5: load<31> *t5
        refine stepK rfl (by kernel_rfl) (fun K hK => ?_); go_simp
        first | (refine hK _ _ ?_; clear hK K) | (apply Exists.intro; apply And.intro; (focus exact kLoad rfl rfl aggT31 r2 rfl id); refine hK _ _ ?_; clear hK K)
        -- 6: build<31> 
        refine stepK rfl (by kernel_rfl) (fun K hK => ?_); go_simp
        first | (refine hK _ _ ?_; clear hK K) | (apply Exists.intro; apply And.intro; (focus (intro wk hk; go_simp; exact ⟨rfl, rfl⟩)); refine hK _ _ ?_; clear hK K)
        -- 7: call F116(t20, t21)
        refine stepS _ rfl (by kernel_rfl) (fun K hK => ?_); go_simp
        refine ⟨?_, ?_⟩
        · intro wk hk hg hu; go_simp; refine upon_enter ((k1.out _).mono ?_); rintro e w' ⟨rfl, hb⟩; exact ⟨_, rfl, left_V (p := fun u => u = .bool true) rfl (hb) rfl⟩
        rintro ⟨v7, lo7, hi7⟩ - - (rfl : v7 = _)
        refine hK _ _ ?_; clear hK K
        -- 8: not<4> t22
        refine stepK rfl (by kernel_rfl) (fun K hK => ?_); go_simp
        first | (refine hK _ _ ?_; clear hK K) | (apply Exists.intro; apply And.intro; (focus (intro wk hk; go_simp; exact ⟨rfl, rfl⟩)); refine hK _ _ ?_; clear hK K)
        -- 9: pick t19 ? true : t23
        refine stepK rfl (by kernel_rfl) (fun K hK => ?_); go_simp
        apply Exists.intro; apply And.intro; (focus (intro wk hk; go_simp; exact ⟨rfl, rfl⟩)); refine hK _ _ ?_; clear hK K
        refine stepN ?_
        refine hQ _ _ ?_
        intro w1 hT hG hF
        have hbw1 := hT.below
        replace r0 := r0.below hbw1 r0.lt
        replace r1 := r1.below hbw1 r1.lt
        replace r2 := r2.below hbw1 r2.lt
        replace hl := hl.trans (hbw1.mono hl.size)
        clear hT hG hF hbw1 hQ QQ L 
        go_upto_region 3 with (fail)
        let L : List Sp := [sV 3 [] [] (fun u => u = .tuple #[.agg (W4 x), .bool true]), sA 7 31 [8] #[.int .u64 0, .int .u64 0, .int .u64 0, .int .u64 0], sT 8 7 31 [5] (fun g => aggOf g 5)]
        refine wp_region_six0 (shs L) (look6 L) (None_) (by kernel_rfl) (by kernel_rfl) (mk_St L [] [] (by kernel_rfl) (by kernel_rfl) ⟨ok_V ⟨_, rfl⟩, ok_A, ok_T aggOf_congr, trivial⟩ (by simp)) ?_
        intro QQ hQ
        -- 0: load<31> *t3
        refine stepK rfl (by kernel_rfl) (fun K hK => ?_); go_simp
        apply Exists.intro; apply And.intro; (focus exact kLoad rfl rfl aggT31 r0 rfl id); refine hK _ _ ?_; clear hK K
        -- 1: load<31> *t4
        refine stepK rfl (by kernel_rfl) (fun K hK => ?_); go_simp
        apply Exists.intro; apply And.intro; (focus exact kLoad rfl rfl aggT31 r1 rfl id); refine hK _ _ ?_; clear hK K
        -- 2: load<31> *t5
        refine stepK rfl (by kernel_rfl) (fun K hK => ?_); go_simp
        apply Exists.intro; apply And.intro; (focus exact kLoad rfl rfl aggT31 r2 rfl id); refine hK _ _ ?_; clear hK K
        -- 3: call F112(t27, t28, t29)
        refine stepS _ rfl (by kernel_rfl) (fun K hK => ?_); go_simp
        refine ⟨?_, ?_⟩
        · intro wk hk hg hu; go_simp; refine upon_enter ((k2.out _).mono ?_); rintro e w' ⟨rfl, hb⟩; exact ⟨_, rfl, left_V (p := fun u => u = .tuple #[.agg (W4 x), .bool true]) rfl (hb) rfl⟩
        rintro ⟨v3, lo3, hi3⟩ - - (rfl : v3 = _)
        refine hK _ _ ?_; clear hK K
        -- 4: t30
        refine stepK rfl (by kernel_rfl) (fun K hK => ?_); go_simp
        apply Exists.intro; apply And.intro; (focus (intro wk hk; go_simp; exact ⟨rfl, rfl⟩)); refine hK _ _ ?_; clear hK K
        -- 5: extract t26 #0
        refine stepK rfl (by kernel_rfl) (fun K hK => ?_); go_simp
        apply Exists.intro; apply And.intro; (focus (intro wk hk; go_simp; exact ⟨rfl, rfl⟩)); refine hK _ _ ?_; clear hK K
        -- 6: extract t26 #1
        refine stepK rfl (by kernel_rfl) (fun K hK => ?_); go_simp
        apply Exists.intro; apply And.intro; (focus (intro wk hk; go_simp; exact ⟨rfl, rfl⟩)); refine hK _ _ ?_; clear hK K
        -- 7: alloc<31>
        refine stepS _ rfl (by kernel_rfl) (fun K hK => ?_); go_simp
        refine ⟨?_, ?_⟩
        · intro wk hk hg hu; go_simp; exact left_A rfl rfl
        rintro ⟨v7, lo3_7, hi7⟩ hlo7 hhi7 ⟨e7, f7⟩
        replace e7 : v7 = .pointer (some ⟨lo3_7, 0, none⟩) := e7; replace f7 : hi7 = lo3_7 + 1 := f7; replace hlo7 : _ ≤ lo3_7 := hlo7; subst e7; subst f7
        refine hK _ _ ?_; clear hK K
        -- 8: store<31> *t7 = t31
        refine stepS _ rfl (by kernel_rfl) (fun K hK => ?_); go_simp
        refine ⟨?_, ?_⟩
        · exact sStoreT rfl rfl rfl rfl rfl rfl rfl (by kernel_rfl) rfl (by kernel_rfl) (by decide) aggOf_congr
        rintro ⟨v8, lo8, hi8⟩ - - (rfl : v8 = undef)
        refine hK _ _ ?_; clear hK K
        -- 9: assign t32
        refine stepK rfl (by kernel_rfl) (fun K hK => ?_); go_simp
        apply Exists.intro; apply And.intro; (focus (intro wk hk; go_simp; exact ⟨rfl, rfl⟩)); refine hK _ _ ?_; clear hK K
        refine stepN ?_
        refine hQ _ _ ?_
        intro w2 hT hG hF
        have hbw2 := hT.below
        have r3 : Row w2 lo3_7 31 ((W4 x)) := (hF 8 _ rfl rfl (by decide)).2
        replace r0 := r0.below hbw2 r0.lt
        replace r1 := r1.below hbw2 r1.lt
        replace r2 := r2.below hbw2 r2.lt
        replace hl := hl.trans (hbw2.mono hl.size)
        clear hT hG hF hbw2 hQ QQ L hlo7 hhi7
        go_upto_region 4 with (fail)
        let L : List Sp := [sV 2 [] [] (fun u => u = .tuple #[.agg (W4 m), .bool true]), sA 6 31 [7] #[.int .u64 0, .int .u64 0, .int .u64 0, .int .u64 0], sT 7 6 31 [4] (fun g => aggOf g 4)]
        refine wp_region_six0 (shs L) (look6 L) (None_) (by kernel_rfl) (by kernel_rfl) (mk_St L [] [] (by kernel_rfl) (by kernel_rfl) ⟨ok_V ⟨_, rfl⟩, ok_A, ok_T aggOf_congr, trivial⟩ (by simp)) ?_
        intro QQ hQ
        -- 0: load<31> *t3
        refine stepK rfl (by kernel_rfl) (fun K hK => ?_); go_simp
        apply Exists.intro; apply And.intro; (focus exact kLoad rfl rfl aggT31 r0 rfl id); refine hK _ _ ?_; clear hK K
        -- 1: load<31> *t5
        refine stepK rfl (by kernel_rfl) (fun K hK => ?_); go_simp
        apply Exists.intro; apply And.intro; (focus exact kLoad rfl rfl aggT31 r2 rfl id); refine hK _ _ ?_; clear hK K
        -- 2: call F51(t34, t35)
        refine stepS _ rfl (by kernel_rfl) (fun K hK => ?_); go_simp
        refine ⟨?_, ?_⟩
        · intro wk hk hg hu; go_simp; refine upon_enter ((k3.out _).mono ?_); rintro e w' ⟨rfl, hb⟩; exact ⟨_, rfl, left_V (p := fun u => u = .tuple #[.agg (W4 m), .bool true]) rfl (hb) rfl⟩
        rintro ⟨v2, lo2, hi2⟩ - - (rfl : v2 = _)
        refine hK _ _ ?_; clear hK K
        -- 3: t36
        refine stepK rfl (by kernel_rfl) (fun K hK => ?_); go_simp
        apply Exists.intro; apply And.intro; (focus (intro wk hk; go_simp; exact ⟨rfl, rfl⟩)); refine hK _ _ ?_; clear hK K
        -- 4: extract t33 #0
        refine stepK rfl (by kernel_rfl) (fun K hK => ?_); go_simp
        apply Exists.intro; apply And.intro; (focus (intro wk hk; go_simp; exact ⟨rfl, rfl⟩)); refine hK _ _ ?_; clear hK K
        -- 5: extract t33 #1
        refine stepK rfl (by kernel_rfl) (fun K hK => ?_); go_simp
        apply Exists.intro; apply And.intro; (focus (intro wk hk; go_simp; exact ⟨rfl, rfl⟩)); refine hK _ _ ?_; clear hK K
        -- 6: alloc<31>
        refine stepS _ rfl (by kernel_rfl) (fun K hK => ?_); go_simp
        refine ⟨?_, ?_⟩
        · intro wk hk hg hu; go_simp; exact left_A rfl rfl
        rintro ⟨v6, lo4_6, hi6⟩ hlo6 hhi6 ⟨e6, f6⟩
        replace e6 : v6 = .pointer (some ⟨lo4_6, 0, none⟩) := e6; replace f6 : hi6 = lo4_6 + 1 := f6; replace hlo6 : _ ≤ lo4_6 := hlo6; subst e6; subst f6
        refine hK _ _ ?_; clear hK K
        -- 7: store<31> *t9 = t37
        refine stepS _ rfl (by kernel_rfl) (fun K hK => ?_); go_simp
        refine ⟨?_, ?_⟩
        · exact sStoreT rfl rfl rfl rfl rfl rfl rfl (by kernel_rfl) rfl (by kernel_rfl) (by decide) aggOf_congr
        rintro ⟨v7, lo7, hi7⟩ - - (rfl : v7 = undef)
        refine hK _ _ ?_; clear hK K
        -- 8: assign t38
        refine stepK rfl (by kernel_rfl) (fun K hK => ?_); go_simp
        apply Exists.intro; apply And.intro; (focus (intro wk hk; go_simp; exact ⟨rfl, rfl⟩)); refine hK _ _ ?_; clear hK K
        refine stepN ?_
        refine hQ _ _ ?_
        intro w3 hT hG hF
        have hbw3 := hT.below
        have r4 : Row w3 lo4_6 31 ((W4 m)) := (hF 7 _ rfl rfl (by decide)).2
        replace r0 := r0.below hbw3 r0.lt
        replace r1 := r1.below hbw3 r1.lt
        replace r2 := r2.below hbw3 r2.lt
        replace r3 := r3.below hbw3 r3.lt
        replace hl := hl.trans (hbw3.mono hl.size)
        clear hT hG hF hbw3 hQ QQ L hlo6 hhi6
        go_upto_region 5 with (fail)
        let L : List Sp := [sV 2 [] [] (fun u => u = .tuple #[.agg (W4 z), .bool true]), sA 6 31 [7] #[.int .u64 0, .int .u64 0, .int .u64 0, .int .u64 0], sT 7 6 31 [4] (fun g => aggOf g 4)]
        refine wp_region_six0 (shs L) (look6 L) (None_) (by kernel_rfl) (by kernel_rfl) (mk_St L [] [] (by kernel_rfl) (by kernel_rfl) ⟨ok_V ⟨_, rfl⟩, ok_A, ok_T aggOf_congr, trivial⟩ (by simp)) ?_
        intro QQ hQ
        -- 0: load<31> *t4
        refine stepK rfl (by kernel_rfl) (fun K hK => ?_); go_simp
        apply Exists.intro; apply And.intro; (focus exact kLoad rfl rfl aggT31 r1 rfl id); refine hK _ _ ?_; clear hK K
        -- 1: load<31> *t7
        refine stepK rfl (by kernel_rfl) (fun K hK => ?_); go_simp
        apply Exists.intro; apply And.intro; (focus exact kLoad rfl rfl aggT31 r3 rfl id); refine hK _ _ ?_; clear hK K
        -- 2: call F51(t40, t41)
        refine stepS _ rfl (by kernel_rfl) (fun K hK => ?_); go_simp
        refine ⟨?_, ?_⟩
        · intro wk hk hg hu; go_simp; refine upon_enter ((k4.out _).mono ?_); rintro e w' ⟨rfl, hb⟩; exact ⟨_, rfl, left_V (p := fun u => u = .tuple #[.agg (W4 z), .bool true]) rfl (hb) rfl⟩
        rintro ⟨v2, lo2, hi2⟩ - - (rfl : v2 = _)
        refine hK _ _ ?_; clear hK K
        -- 3: t42
        refine stepK rfl (by kernel_rfl) (fun K hK => ?_); go_simp
        apply Exists.intro; apply And.intro; (focus (intro wk hk; go_simp; exact ⟨rfl, rfl⟩)); refine hK _ _ ?_; clear hK K
        -- 4: extract t39 #0
        refine stepK rfl (by kernel_rfl) (fun K hK => ?_); go_simp
        apply Exists.intro; apply And.intro; (focus (intro wk hk; go_simp; exact ⟨rfl, rfl⟩)); refine hK _ _ ?_; clear hK K
        -- 5: extract t39 #1
        refine stepK rfl (by kernel_rfl) (fun K hK => ?_); go_simp
        apply Exists.intro; apply And.intro; (focus (intro wk hk; go_simp; exact ⟨rfl, rfl⟩)); refine hK _ _ ?_; clear hK K
        -- 6: alloc<31>
        refine stepS _ rfl (by kernel_rfl) (fun K hK => ?_); go_simp
        refine ⟨?_, ?_⟩
        · intro wk hk hg hu; go_simp; exact left_A rfl rfl
        rintro ⟨v6, lo5_6, hi6⟩ hlo6 hhi6 ⟨e6, f6⟩
        replace e6 : v6 = .pointer (some ⟨lo5_6, 0, none⟩) := e6; replace f6 : hi6 = lo5_6 + 1 := f6; replace hlo6 : _ ≤ lo5_6 := hlo6; subst e6; subst f6
        refine hK _ _ ?_; clear hK K
        -- 7: store<31> *t11 = t43
        refine stepS _ rfl (by kernel_rfl) (fun K hK => ?_); go_simp
        refine ⟨?_, ?_⟩
        · exact sStoreT rfl rfl rfl rfl rfl rfl rfl (by kernel_rfl) rfl (by kernel_rfl) (by decide) aggOf_congr
        rintro ⟨v7, lo7, hi7⟩ - - (rfl : v7 = undef)
        refine hK _ _ ?_; clear hK K
        -- 8: assign t44
        refine stepK rfl (by kernel_rfl) (fun K hK => ?_); go_simp
        apply Exists.intro; apply And.intro; (focus (intro wk hk; go_simp; exact ⟨rfl, rfl⟩)); refine hK _ _ ?_; clear hK K
        refine stepN ?_
        refine hQ _ _ ?_
        intro w4 hT hG hF
        have hbw4 := hT.below
        have r5 : Row w4 lo5_6 31 ((W4 z)) := (hF 7 _ rfl rfl (by decide)).2
        replace r0 := r0.below hbw4 r0.lt
        replace r1 := r1.below hbw4 r1.lt
        replace r2 := r2.below hbw4 r2.lt
        replace r3 := r3.below hbw4 r3.lt
        replace r4 := r4.below hbw4 r4.lt
        replace hl := hl.trans (hbw4.mono hl.size)
        clear hT hG hF hbw4 hQ QQ L hlo6 hhi6
        go_upto_region 6 with (fail)
        let L : List Sp := [sV 5 [] [] (fun u => u = .bool false)]
        refine wp_region_six0 (shs L) (look6 L) (None_) (by kernel_rfl) (by kernel_rfl) (mk_St L [] [] (by kernel_rfl) (by kernel_rfl) ⟨ok_V ⟨_, rfl⟩, trivial⟩ (by simp)) ?_
        intro QQ hQ
        -- 0: t8
        refine stepK rfl (by kernel_rfl) (fun K hK => ?_); go_simp
        apply Exists.intro; apply And.intro; (focus (intro wk hk; go_simp; exact ⟨rfl, rfl⟩)); refine hK _ _ ?_; clear hK K
        -- 1: not<4> t45
        refine stepK rfl (by kernel_rfl) (fun K hK => ?_); go_simp
        apply Exists.intro; apply And.intro; (focus (intro wk hk; go_simp; exact ⟨rfl, rfl⟩)); refine hK _ _ ?_; clear hK K
        -- 2: t46
        refine stepK rfl (by kernel_rfl) (fun K hK => ?_); go_simp
        apply Exists.intro; apply And.intro; (focus (intro wk hk; go_simp; exact ⟨rfl, rfl⟩)); refine hK _ _ ?_; clear hK K
        -- 3: load<31> *t9
        refine stepK rfl (by kernel_rfl) (fun K hK => ?_); go_simp
        first | (refine hK _ _ ?_; clear hK K) | (apply Exists.intro; apply And.intro; (focus exact kLoad rfl rfl aggT31 r4 rfl id); refine hK _ _ ?_; clear hK K)
        -- 4: load<31> *t11
        refine stepK rfl (by kernel_rfl) (fun K hK => ?_); go_simp
        first | (refine hK _ _ ?_; clear hK K) | (apply Exists.intro; apply And.intro; (focus exact kLoad rfl rfl aggT31 r5 rfl id); refine hK _ _ ?_; clear hK K)
        -- 5: call F116(t48, t49)
        refine stepS _ rfl (by kernel_rfl) (fun K hK => ?_); go_simp
        refine ⟨?_, ?_⟩
        · intro wk hk hg hu; go_simp; refine upon_enter ((k5.out _).mono ?_); rintro e w' ⟨rfl, hb⟩; exact ⟨_, rfl, left_V (p := fun u => u = .bool false) rfl (hb) rfl⟩
        rintro ⟨v5, lo5, hi5⟩ - - (rfl : v5 = _)
        refine hK _ _ ?_; clear hK K
        -- 6: not<4> t50
        refine stepK rfl (by kernel_rfl) (fun K hK => ?_); go_simp
        first | (refine hK _ _ ?_; clear hK K) | (apply Exists.intro; apply And.intro; (focus (intro wk hk; go_simp; exact ⟨rfl, rfl⟩)); refine hK _ _ ?_; clear hK K)
        -- 7: pick t47 ? true : t51
        refine stepK rfl (by kernel_rfl) (fun K hK => ?_); go_simp
        apply Exists.intro; apply And.intro; (focus (intro wk hk; go_simp; exact ⟨rfl, rfl⟩)); refine hK _ _ ?_; clear hK K
        refine stepN ?_
        refine hQ _ _ ?_
        intro w5 hT hG hF
        have hbw5 := hT.below
        replace r0 := r0.below hbw5 r0.lt
        replace r1 := r1.below hbw5 r1.lt
        replace r2 := r2.below hbw5 r2.lt
        replace r3 := r3.below hbw5 r3.lt
        replace r4 := r4.below hbw5 r4.lt
        replace r5 := r5.below hbw5 r5.lt
        replace hl := hl.trans (hbw5.mono hl.size)
        clear hT hG hF hbw5 hQ QQ L 
        go_upto_region 7 with (fail)
        let L : List Sp := [sV 4 [] [] (fun u => u = .bool false), sV 8 [] [] (fun u => u = .bool true)]
        refine wp_region_six0 (shs L) (look6 L) (None_) (by kernel_rfl) (by kernel_rfl) (mk_St L [] [] (by kernel_rfl) (by kernel_rfl) ⟨ok_V ⟨_, rfl⟩, ok_V ⟨_, rfl⟩, trivial⟩ (by simp)) ?_
        intro QQ hQ
        -- 0: t8
        refine stepK rfl (by kernel_rfl) (fun K hK => ?_); go_simp
        apply Exists.intro; apply And.intro; (focus (intro wk hk; go_simp; exact ⟨rfl, rfl⟩)); refine hK _ _ ?_; clear hK K
        -- 1: t53
        refine stepK rfl (by kernel_rfl) (fun K hK => ?_); go_simp
        apply Exists.intro; apply And.intro; (focus (intro wk hk; go_simp; exact ⟨rfl, rfl⟩)); refine hK _ _ ?_; clear hK K
        -- 2: load<31> *t9
        refine stepK rfl (by kernel_rfl) (fun K hK => ?_); go_simp
        first | (refine hK _ _ ?_; clear hK K) | (apply Exists.intro; apply And.intro; (focus exact kLoad rfl rfl aggT31 r4 rfl id); refine hK _ _ ?_; clear hK K)
        -- 3: build<31> 
        refine stepK rfl (by kernel_rfl) (fun K hK => ?_); go_simp
        first | (refine hK _ _ ?_; clear hK K) | (apply Exists.intro; apply And.intro; (focus (intro wk hk; go_simp; exact ⟨rfl, rfl⟩)); refine hK _ _ ?_; clear hK K)
        -- 4: call F116(t55, t56)
        refine stepS _ rfl (by kernel_rfl) (fun K hK => ?_); go_simp
        refine ⟨?_, ?_⟩
        · intro wk hk hg hu; go_simp; refine upon_enter ((k6.out _).mono ?_); rintro e w' ⟨rfl, hb⟩; exact ⟨_, rfl, left_V (p := fun u => u = .bool false) rfl (hb) rfl⟩
        rintro ⟨v4, lo4, hi4⟩ - - (rfl : v4 = _)
        refine hK _ _ ?_; clear hK K
        -- 5: not<4> t57
        refine stepK rfl (by kernel_rfl) (fun K hK => ?_); go_simp
        first | (refine hK _ _ ?_; clear hK K) | (apply Exists.intro; apply And.intro; (focus (intro wk hk; go_simp; exact ⟨rfl, rfl⟩)); refine hK _ _ ?_; clear hK K)
        -- 6: pick t54 ? t58 : false
        refine stepK rfl (by kernel_rfl) (fun K hK => ?_); go_simp
        apply Exists.intro; apply And.intro; (focus (intro wk hk; go_simp; exact ⟨rfl, rfl⟩)); refine hK _ _ ?_; clear hK K
        -- 7: t59
        refine stepK rfl (by kernel_rfl) (fun K hK => ?_); go_simp
        apply Exists.intro; apply And.intro; (focus (intro wk hk; go_simp; exact ⟨rfl, rfl⟩)); refine hK _ _ ?_; clear hK K
        -- 8: call F118()
        refine stepS _ rfl (by kernel_rfl) (fun K hK => ?_); go_simp
        refine ⟨?_, ?_⟩
        · intro wk hk hg hu; go_simp; refine upon_enter ((k7.out _).mono ?_); rintro e w' ⟨rfl, hb⟩; exact ⟨_, rfl, left_V (p := fun u => u = .bool true) rfl (hb) rfl⟩
        rintro ⟨v8, lo8, hi8⟩ - - (rfl : v8 = _)
        refine hK _ _ ?_; clear hK K
        -- 9: pick t60 ? t61 : false
        refine stepK rfl (by kernel_rfl) (fun K hK => ?_); go_simp
        apply Exists.intro; apply And.intro; (focus (intro wk hk; go_simp; exact ⟨rfl, rfl⟩)); refine hK _ _ ?_; clear hK K
        -- 10: assign t62
        refine stepK rfl (by kernel_rfl) (fun K hK => ?_); go_simp
        apply Exists.intro; apply And.intro; (focus (intro wk hk; go_simp; exact ⟨rfl, rfl⟩)); refine hK _ _ ?_; clear hK K
        refine stepN ?_
        refine hQ _ _ ?_
        intro w6 hT hG hF
        have hbw6 := hT.below
        replace r0 := r0.below hbw6 r0.lt
        replace r1 := r1.below hbw6 r1.lt
        replace r2 := r2.below hbw6 r2.lt
        replace r3 := r3.below hbw6 r3.lt
        replace r4 := r4.below hbw6 r4.lt
        replace r5 := r5.below hbw6 r5.lt
        replace hl := hl.trans (hbw6.mono hl.size)
        clear hT hG hF hbw6 hQ QQ L 
        go_wp2_with fail
        go_ret
        exact ⟨rfl, hl⟩
end Go.Proofs.Ytpdenhmkpiafiaa
