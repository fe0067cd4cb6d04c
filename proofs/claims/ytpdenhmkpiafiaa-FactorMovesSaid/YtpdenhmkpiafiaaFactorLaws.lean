/-
  tallagelaw20.FactorGrows, FactorParts, FactorMoves, THE WALKS.
-/
import Derived.Test.YtpdenhmkpiafiaaFactor2
namespace Go.Proofs.Ytpdenhmkpiafiaa
open Go Go.RowKit K6

theorem near_law {t n g E : Nat} (hn : 0 < n) (hE : 0 < E) (hg : g = t * E / n) : n * g / E ≤ t ∧ (1000000000 ≤ g → t ≤ n * g / E + t / 1000000000 + 2) := by
  have h1 : n * g ≤ t * E := by rw [hg]; exact Nat.mul_div_le _ _
  have hA : t * E < n * (g + 1) := by rw [hg]; exact Nat.lt_mul_div_succ _ hn
  refine ⟨Nat.div_le_of_le_mul (by rw [Nat.mul_comm E t]; exact h1), fun h9 => ?_⟩
  have hB : n * g < E * (n * g / E + 1) := Nat.lt_mul_div_succ _ hE
  have hC : t < 1000000000 * (t / 1000000000 + 1) := Nat.lt_mul_div_succ _ (by omega)
  obtain ⟨v, hv⟩ : ∃ v, n * g / E = v := ⟨_, rfl⟩
  obtain ⟨k, hk⟩ : ∃ k, t / 1000000000 = k := ⟨_, rfl⟩
  rw [hv] at hB ⊢
  rw [hk] at hC ⊢
  have h2 : n * 1000000000 ≤ n * g := Nat.mul_le_mul_left n h9
  have h3 : t * E < 1000000000 * (k + 1) * E := Nat.mul_lt_mul_of_pos_right hC hE
  have h4 : n < (k + 1) * E := by
    refine Nat.lt_of_mul_lt_mul_left (a := 1000000000) ?_
    rw [← Nat.mul_assoc 1000000000 (k + 1) E, Nat.mul_comm 1000000000 n]
    exact Nat.lt_of_le_of_lt (Nat.le_trans h2 h1) h3
  have h5 : t * E < (v + k + 2) * E := by
    have e1 : n * (g + 1) = n * g + n := Nat.mul_succ _ _
    have e2 : (v + k + 2) * E = E * (v + 1) + (k + 1) * E := by rw [Nat.mul_comm E, ← Nat.add_mul]; congr 1; omega
    rw [e2]
    rw [e1] at hA
    exact Nat.lt_trans hA (Nat.add_lt_add hB h4)
  exact Nat.le_of_lt (Nat.lt_of_mul_lt_mul_right h5)
theorem near_add {v t : Nat} (hvt : v ≤ t) (ht : t ≤ M2 * E18 + M2) (h : t ≤ v + t / 1000000000 + 2) : addN (addN v (t / 1000000000)) 2 ≥ t := by
  have h1 : 2 * (M2 * E18 + M2) + 2 < M := by unfold M2 E18 M; decide
  have h2 : t / 1000000000 ≤ t := Nat.div_le_self _ _
  obtain ⟨K, hK⟩ : ∃ K, M2 * E18 + M2 = K := ⟨_, rfl⟩
  rw [hK] at ht h1
  obtain ⟨k, hk⟩ : ∃ k, t / 1000000000 = k := ⟨_, rfl⟩
  rw [hk] at h h2 ⊢
  have e1 : addN v k = v + k := if_pos (by omega)
  have e2 : addN (v + k) 2 = v + k + 2 := if_pos (by omega)
  rw [e1, e2]
  exact h
theorem wr_of {d f m : Nat} (h : goodF d f m = true) : wrN d f m = d * m * f / E36 := by rw [show wrN d f m = d * f * m / E36 from if_pos h, Nat.mul_right_comm]
theorem grow_law {d f m x : Nat} (h : grB d f m x = true) : goodF d f m = true ∧ d + x < M2 ∧ goodF (d + x) (grN d f m x) m = true ∧ wrN (d + x) (grN d f m x) m ≤ wrN d f m + x ∧
    (1000000000 ≤ grN d f m x → addN (addN (wrN (d + x) (grN d f m x) m) ((wrN d f m + x) / 1000000000)) 2 ≥ wrN d f m + x) := by
  unfold grB at h
  rw [Bool.and_eq_true] at h
  have c := grC_get h.1
  have f1 := fcB_get h.2
  rw [← (gr_ok h.1).1] at f1
  have g2 : goodF (d + x) (grN d f m x) m = true := goodF_mk c.2.2.2 f1.2.2.2 (goodF_get c.1).2.2
  have n := near_law (t := wrN d f m + x) (n := (d + x) * m) (g := grN d f m x) (E := E36) (Nat.pos_of_ne_zero f1.1) E36_0 f1.2.1
  rw [← wr_of g2] at n
  have hw := wr_M (d := d) (f := f) (m := m)
  exact ⟨c.1, c.2.2.2, g2, n.1, fun h9 => near_add n.1 (Nat.add_le_add hw (by have := c.2.2.2; omega)) (n.2 h9)⟩
theorem move_law {d f m : Nat} (h : mvB d f m = true) : goodF d (mvN d f m) m = true ∧ wrN d (mvN d f m) m ≤ wrN d f E18 ∧
    (1000000000 ≤ mvN d f m → addN (addN (wrN d (mvN d f m) m) (wrN d f E18 / 1000000000)) 2 ≥ wrN d f E18) := by
  unfold mvB at h
  rw [Bool.and_eq_true] at h
  have c := mvC_get h.1
  have f1 := fcB_get h.2
  rw [← (mv_ok h.1).1] at f1
  have g2 : goodF d (mvN d f m) m = true := goodF_mk (goodF_get c.1).1 f1.2.2.2 (goodF_get c.1).2.2
  have n := near_law (t := wrN d f E18) (n := d * m) (g := mvN d f m) (E := E36) (Nat.pos_of_ne_zero f1.1) E36_0 f1.2.1
  rw [← wr_of g2] at n
  have hw := wr_M (d := d) (f := f) (m := E18)
  exact ⟨g2, n.1, fun h9 => near_add n.1 (Nat.le_trans hw (Nat.le_add_right _ _)) (n.2 h9)⟩
theorem gr_zero {d f m x : Nat} (h : grB d f m x = false) : grN d f m x = 0 := by
  cases hc : grC d f m x
  · exact (grN_no hc).1
  · have o := gr_ok hc
    rw [o.2] at h
    rw [o.1]
    unfold fcN
    rw [h]
    exact if_neg (by decide)
theorem mv_zero {d f m : Nat} (h : mvB d f m = false) : mvN d f m = 0 := by
  cases hc : mvC d f m
  · exact (mvN_no hc).1
  · have o := mv_ok hc
    rw [o.2] at h
    rw [o.1]
    unfold fcN
    rw [h]
    exact if_neg (by decide)
theorem gr_bad {d f m x : Nat} (h : goodF d f m = false) : grB d f m x = false := (grN_no (by unfold grC; rw [h]; rfl)).2
theorem mv_bad {d f m : Nat} (h : goodF d f E18 = false) : mvB d f m = false := by
  cases hm : mvB d f m
  · rfl
  · unfold mvB at hm
    rw [Bool.and_eq_true] at hm
    have g := goodF_get (mvC_get hm.1).1
    rw [goodF_mk g.1 g.2.1 (Nat.le_refl _)] at h
    exact absurd h (by decide)
theorem parts_law {d f m x : Nat} (h : goodF d f m = true) (hx : x ≤ d) : goodF x f m = true ∧ goodF (d - x) f m = true ∧ goodF d f E18 = true ∧ wrN x f m + wrN (d - x) f m ≤ wrN d f m ∧ wrN d f m ≤ wrN d f E18 ∧ wrN x f m ≤ wrN d f m := by
  have g := goodF_get h
  have g1 : goodF x f m = true := goodF_mk (by have := g.1; omega) g.2.1 g.2.2
  have g2 : goodF (d - x) f m = true := goodF_mk (by have := g.1; omega) g.2.1 g.2.2
  have g3 : goodF d f E18 = true := goodF_mk g.1 g.2.1 (Nat.le_refl _)
  have hs : wrN x f m + wrN (d - x) f m ≤ wrN d f m := by
    rw [wr_of g1, wr_of g2, wr_of h, Nat.le_div_iff_mul_le E36_0, Nat.add_mul]
    have a1 := Nat.div_mul_le_self (x * m * f) E36
    have a2 := Nat.div_mul_le_self ((d - x) * m * f) E36
    have a3 : x * m * f + (d - x) * m * f = d * m * f := by rw [← Nat.add_mul, ← Nat.add_mul]; congr 2; omega
    omega
  refine ⟨g1, g2, g3, hs, ?_, by omega⟩
  rw [wr_of h, wr_of g3]
  exact Nat.div_le_div_right (Nat.mul_le_mul_right _ (Nat.mul_le_mul_left _ g.2.2))
theorem W4_E18x : #[Value.int .u64 1000000000000000000, .int .u64 0, .int .u64 0, .int .u64 0] = W4 E18 := W4_word 1000000000000000000 (by omega)
set_option maxRecDepth 100000 in
set_option maxHeartbeats 16000000 in
theorem refOne20 (w : World) : Calls Try.prog 152 #[] w (Ret w (.agg (W4 E18))) := by
  go_enter Try.func152, Try.ntmps152
  apply wp_seq_eq
  focus
    intro J hJ
    go_wp2_with fail
    exact hJ
  refine wp_abs (Mem w [(w.heap.size, 31, arr .u64 (fun _ => 0) 4)]) ⟨by go_grown, ?_, trivial⟩ ?_
  · repeat (first | (refine Row.new_at ?_; simp; done) | refine Row.alloc ?_ _)
  intro w0 hM
  obtain ⟨hl, r0, -⟩ := hM
  go_upto_region 1 with (fail)
  let L : List Sp := [sO 1 (w.heap.size) 31 [0] (fun g => aggOf g 0)]
  refine wp_region_six0 (shs L) (look6 L) (fun c => c = w.heap.size) (by kernel_rfl) (by kernel_rfl) (mk_St L [1] [1] (by kernel_rfl) (by kernel_rfl) ⟨ok_O aggOf_congr r0.lt (rfl), trivial⟩ (by simp)) ?_
  intro QQ hQ
  -- 0: build<31> 0:1000000000000000000u
  refine stepK rfl (by kernel_rfl) (fun K hK => ?_); go_simp
  apply Exists.intro; apply And.intro; (focus (intro wk hk; go_simp; exact ⟨rfl, rfl⟩)); refine hK _ _ ?_; clear hK K
  -- 1: store<31> *t0 = t1
  refine stepS _ rfl (by kernel_rfl) (fun K hK => ?_); go_simp
  refine ⟨?_, ?_⟩
  · exact sStoreO rfl rfl rfl rfl rfl rfl r0 id (by kernel_rfl) rfl (by kernel_rfl) (by decide) aggOf_congr
  rintro ⟨v1, lo1, hi1⟩ - - (rfl : v1 = undef)
  refine hK _ _ ?_; clear hK K
  refine stepN ?_
  refine hQ _ _ ?_
  intro w1 hT hG hF
  have hT' := hT
  have xr0 : Row w1 (w.heap.size) 31 (#[.int .u64 1000000000000000000, .int .u64 0, .int .u64 0, .int .u64 0]) := hF 1 _ rfl rfl (by decide)
  have hl9 : Below w.heap.size w w1 := hl.trans (hT'.below_of hl.size (by intro c hc; omega))
  clear hT hT' hG hF hQ QQ L hl r0
  have hl := hl9; clear hl9
  have r0 := xr0; clear xr0
  replace r0 := Row.congr r0 W4_E18x
  go_wp2_with fail
  refine bodyPost_ret (results_c rfl aggT31 rfl r0 rfl) rfl ?_
  exact ⟨rfl, hl⟩
set_option maxRecDepth 100000 in
set_option maxHeartbeats 16000000 in
theorem factorgrows_walk (d f m x : Nat) (hd : d < M) (hf : f < M) (hm : m < M) (hx : x < M) (w : World) : Calls Try.prog 28 #[.agg (W8 d f), .agg (W4 m), .agg (W4 x)] w (Ret w (.bool true)) := by
  obtain ⟨v, hv⟩ : ∃ v, v = wrN d f m := ⟨_, rfl⟩
  have vl : v < M := hv ▸ wr_lt d f m
  cases hg : goodF d f m
  · have hb := gr_bad (x := x) hg
    have hz := gr_zero hb
    have k0 := Lib.hid (show ∀ wx, Calls Try.prog 147 #[.agg (W4 d), .agg (W4 f), .agg (W4 m)] wx (Ret wx (.tuple #[.agg (W4 v), .bool false])) from fun wx => by have h := worthU hd hf hm wx; rw [← hv, hg] at h; exact h)
    have k1 := Lib.hid (show ∀ wx, Calls Try.prog 148 #[.agg (W4 d), .agg (W4 f), .agg (W4 m), .agg (W4 x)] wx (Ret wx (.tuple #[.agg (W4 0), .bool false])) from fun wx => by have h := growU hd hf hm hx wx; rw [hz, hb] at h; exact h)
    have k2 := Lib.hid (show ∀ wx, Calls Try.prog 149 #[] wx (Ret wx (.bool true)) from fun wx => by have h := lives20U  wx; exact h)
    have q0 : ∀ wx, (Op.equalIn 10000 31 (.agg (W4 0)) (.agg #[.int .u64 0, .int .u64 0, .int .u64 0, .int .u64 0])).run Try.prog wx = .ok true wx := fun wx => by rw [eqU0 M_pos, decide_eq_true rfl]
    clear hv hg hz hb
    go_enter Try.func28, Try.ntmps28
    apply wp_seq_eq
    focus
      intro J hJ
      go_wp2_with fail
      exact hJ
    refine wp_abs (Mem w [(w.heap.size, 132, W8 d f), (w.heap.size + 1, 31, W4 m), (w.heap.size + 1 + 1, 31, W4 x)]) ⟨by go_grown, ?_, ?_, ?_, trivial⟩ ?_
    · repeat (first | (refine Row.new_at ?_; simp; done) | refine Row.alloc ?_ _)
    · repeat (first | (refine Row.new_at ?_; simp; done) | refine Row.alloc ?_ _)
    · repeat (first | (refine Row.new_at ?_; simp; done) | refine Row.alloc ?_ _)
    intro w0 hM
    obtain ⟨hl, r0, r1, r2, -⟩ := hM
    go_upto_region 1 with (fail)
    let L : List Sp := [sA 4 31 [6] #[.int .u64 0, .int .u64 0, .int .u64 0, .int .u64 0], sA 5 31 [7] #[.int .u64 0, .int .u64 0, .int .u64 0, .int .u64 0], sT 6 4 31 [1] (fun g => aggOf g 1), sT 7 5 31 [3] (fun g => aggOf g 3)]
    refine wp_region_six (shs L) (look6 L) (None_) (by kernel_rfl) (by kernel_rfl) (mk_St L [] [] (by kernel_rfl) (by kernel_rfl) ⟨ok_A, ok_A, ok_T aggOf_congr, ok_T aggOf_congr, trivial⟩ (by simp)) ?_
    intro QQ hQ
    -- 0: indexAddr<132> t3[0]
    refine stepK rfl (by kernel_rfl) (fun K hK => ?_); go_simp
    apply Exists.intro; apply And.intro; (focus (intro wk hk; go_simp; exact ⟨rfl, rfl⟩)); refine hK _ _ ?_; clear hK K
    -- 1: load<31> *t19
    refine stepK rfl (by kernel_rfl) (fun K hK => ?_); go_simp
    apply Exists.intro; apply And.intro; (focus exact kLoadMid rfl rfl aggT31 r0 (W8_hi d f) rfl id); refine hK _ _ ?_; clear hK K
    -- 2: indexAddr<132> t3[1]
    refine stepK rfl (by kernel_rfl) (fun K hK => ?_); go_simp
    apply Exists.intro; apply And.intro; (focus (intro wk hk; go_simp; exact ⟨rfl, rfl⟩)); refine hK _ _ ?_; clear hK K
    -- 3: load<31> *t21
    refine stepK rfl (by kernel_rfl) (fun K hK => ?_); go_simp
    apply Exists.intro; apply And.intro; (focus exact kLoadMid rfl rfl aggT31 r0 (W8_lo d f) rfl id); refine hK _ _ ?_; clear hK K
    -- 4: alloc<31>
    refine stepS _ rfl (by kernel_rfl) (fun K hK => ?_); go_simp
    refine ⟨?_, ?_⟩
    · intro wk hk hg hu; go_simp; exact left_A rfl rfl
    rintro ⟨v4, lo1_4, hi4⟩ hlo4 hhi4 ⟨e4, f4⟩
    replace e4 : v4 = .pointer (some ⟨lo1_4, 0, none⟩) := e4; replace f4 : hi4 = lo1_4 + 1 := f4; replace hlo4 : _ ≤ lo1_4 := hlo4; subst e4; subst f4
    refine hK _ _ ?_; clear hK K
    -- 5: alloc<31>
    refine stepS _ rfl (by kernel_rfl) (fun K hK => ?_); go_simp
    refine ⟨?_, ?_⟩
    · intro wk hk hg hu; go_simp; exact left_A rfl rfl
    rintro ⟨v5, lo1_5, hi5⟩ hlo5 hhi5 ⟨e5, f5⟩
    replace e5 : v5 = .pointer (some ⟨lo1_5, 0, none⟩) := e5; replace f5 : hi5 = lo1_5 + 1 := f5; replace hlo5 : _ ≤ lo1_5 := hlo5; subst e5; subst f5
    refine hK _ _ ?_; clear hK K
    -- 6: store<31> *t7 = t20
    refine stepS _ rfl (by kernel_rfl) (fun K hK => ?_); go_simp
    refine ⟨?_, ?_⟩
    · exact sStoreT rfl rfl rfl rfl rfl rfl rfl (by kernel_rfl) rfl (by kernel_rfl) (by decide) aggOf_congr
    rintro ⟨v6, lo6, hi6⟩ - - (rfl : v6 = undef)
    refine hK _ _ ?_; clear hK K
    -- 7: store<31> *t8 = t22
    refine stepS _ rfl (by kernel_rfl) (fun K hK => ?_); go_simp
    refine ⟨?_, ?_⟩
    · exact sStoreT rfl rfl rfl rfl rfl rfl rfl (by kernel_rfl) rfl (by kernel_rfl) (by decide) aggOf_congr
    rintro ⟨v7, lo7, hi7⟩ - - (rfl : v7 = undef)
    refine hK _ _ ?_; clear hK K
    refine stepN ?_
    refine hQ _ _ ?_
    intro w1 hT hG hF
    have hbw1 := hT.undrew.below
    have r3 : Row w1 lo1_4 31 ((W4 d)) := (hF 6 _ rfl rfl (by decide)).2
    have r4 : Row w1 lo1_5 31 ((W4 f)) := (hF 7 _ rfl rfl (by decide)).2
    replace r0 := r0.below hbw1 r0.lt
    replace r1 := r1.below hbw1 r1.lt
    replace r2 := r2.below hbw1 r2.lt
    replace hl := hl.trans (hbw1.mono hl.size)
    clear hT hG hF hbw1 hQ QQ L hlo4 hhi4 hlo5 hhi5
    go_upto_region 2 with (fail)
    let L : List Sp := [sV 3 [] [] (fun u => u = .tuple #[.agg (W4 v), .bool false]), sA 7 31 [8] #[.int .u64 0, .int .u64 0, .int .u64 0, .int .u64 0], sT 8 7 31 [5] (fun g => aggOf g 5)]
    refine wp_region_six0 (shs L) (look6 L) (None_) (by kernel_rfl) (by kernel_rfl) (mk_St L [] [] (by kernel_rfl) (by kernel_rfl) ⟨ok_V ⟨_, rfl⟩, ok_A, ok_T aggOf_congr, trivial⟩ (by simp)) ?_
    intro QQ hQ
    -- 0: load<31> *t7
    refine stepK rfl (by kernel_rfl) (fun K hK => ?_); go_simp
    apply Exists.intro; apply And.intro; (focus exact kLoad rfl rfl aggT31 r3 rfl id); refine hK _ _ ?_; clear hK K
    -- 1: load<31> *t8
    refine stepK rfl (by kernel_rfl) (fun K hK => ?_); go_simp
    apply Exists.intro; apply And.intro; (focus exact kLoad rfl rfl aggT31 r4 rfl id); refine hK _ _ ?_; clear hK K
    -- 2: load<31> *t4
    refine stepK rfl (by kernel_rfl) (fun K hK => ?_); go_simp
    apply Exists.intro; apply And.intro; (focus exact kLoad rfl rfl aggT31 r1 rfl id); refine hK _ _ ?_; clear hK K
    -- 3: call F147(t24, t25, t26)
    refine stepS _ rfl (by kernel_rfl) (fun K hK => ?_); go_simp
    refine ⟨?_, ?_⟩
    · intro wk hk hg hu; go_simp; refine upon_enter ((k0.out _).mono ?_); rintro e w' ⟨rfl, hb⟩; exact ⟨_, rfl, left_V (p := fun u => u = .tuple #[.agg (W4 v), .bool false]) rfl (hb) rfl⟩
    rintro ⟨v3, lo3, hi3⟩ - - (rfl : v3 = _)
    refine hK _ _ ?_; clear hK K
    -- 4: t27
    refine stepK rfl (by kernel_rfl) (fun K hK => ?_); go_simp
    apply Exists.intro; apply And.intro; (focus (intro wk hk; go_simp; exact ⟨rfl, rfl⟩)); refine hK _ _ ?_; clear hK K
    -- 5: extract t23 #0
    refine stepK rfl (by kernel_rfl) (fun K hK => ?_); go_simp
    apply Exists.intro; apply And.intro; (focus (intro wk hk; go_simp; exact ⟨rfl, rfl⟩)); refine hK _ _ ?_; clear hK K
    -- 6: extract t23 #1
    refine stepK rfl (by kernel_rfl) (fun K hK => ?_); go_simp
    apply Exists.intro; apply And.intro; (focus (intro wk hk; go_simp; exact ⟨rfl, rfl⟩)); refine hK _ _ ?_; clear hK K
    -- 7: alloc<31>
    refine stepS _ rfl (by kernel_rfl) (fun K hK => ?_); go_simp
    refine ⟨?_, ?_⟩
    · intro wk hk hg hu; go_simp; exact left_A rfl rfl
    rintro ⟨v7, lo2_7, hi7⟩ hlo7 hhi7 ⟨e7, f7⟩
    replace e7 : v7 = .pointer (some ⟨lo2_7, 0, none⟩) := e7; replace f7 : hi7 = lo2_7 + 1 := f7; replace hlo7 : _ ≤ lo2_7 := hlo7; subst e7; subst f7
    refine hK _ _ ?_; clear hK K
    -- 8: store<31> *t9 = t28
    refine stepS _ rfl (by kernel_rfl) (fun K hK => ?_); go_simp
    refine ⟨?_, ?_⟩
    · exact sStoreT rfl rfl rfl rfl rfl rfl rfl (by kernel_rfl) rfl (by kernel_rfl) (by decide) aggOf_congr
    rintro ⟨v8, lo8, hi8⟩ - - (rfl : v8 = undef)
    refine hK _ _ ?_; clear hK K
    -- 9: assign t29
    refine stepK rfl (by kernel_rfl) (fun K hK => ?_); go_simp
    apply Exists.intro; apply And.intro; (focus (intro wk hk; go_simp; exact ⟨rfl, rfl⟩)); refine hK _ _ ?_; clear hK K
    refine stepN ?_
    refine hQ _ _ ?_
    intro w2 hT hG hF
    have hbw2 := hT.below
    have r5 : Row w2 lo2_7 31 ((W4 v)) := (hF 8 _ rfl rfl (by decide)).2
    replace r0 := r0.below hbw2 r0.lt
    replace r1 := r1.below hbw2 r1.lt
    replace r2 := r2.below hbw2 r2.lt
    replace r3 := r3.below hbw2 r3.lt
    replace r4 := r4.below hbw2 r4.lt
    replace hl := hl.trans (hbw2.mono hl.size)
    clear hT hG hF hbw2 hQ QQ L hlo7 hhi7
    go_upto_region 3 with (fail)
    let L : List Sp := [sV 4 [] [] (fun u => u = .tuple #[.agg (W4 0), .bool false]), sA 8 31 [9] #[.int .u64 0, .int .u64 0, .int .u64 0, .int .u64 0], sT 9 8 31 [6] (fun g => aggOf g 6)]
    refine wp_region_six0 (shs L) (look6 L) (None_) (by kernel_rfl) (by kernel_rfl) (mk_St L [] [] (by kernel_rfl) (by kernel_rfl) ⟨ok_V ⟨_, rfl⟩, ok_A, ok_T aggOf_congr, trivial⟩ (by simp)) ?_
    intro QQ hQ
    -- 0: load<31> *t7
    refine stepK rfl (by kernel_rfl) (fun K hK => ?_); go_simp
    apply Exists.intro; apply And.intro; (focus exact kLoad rfl rfl aggT31 r3 rfl id); refine hK _ _ ?_; clear hK K
    -- 1: load<31> *t8
    refine stepK rfl (by kernel_rfl) (fun K hK => ?_); go_simp
    apply Exists.intro; apply And.intro; (focus exact kLoad rfl rfl aggT31 r4 rfl id); refine hK _ _ ?_; clear hK K
    -- 2: load<31> *t4
    refine stepK rfl (by kernel_rfl) (fun K hK => ?_); go_simp
    apply Exists.intro; apply And.intro; (focus exact kLoad rfl rfl aggT31 r1 rfl id); refine hK _ _ ?_; clear hK K
    -- 3: load<31> *t5
    refine stepK rfl (by kernel_rfl) (fun K hK => ?_); go_simp
    apply Exists.intro; apply And.intro; (focus exact kLoad rfl rfl aggT31 r2 rfl id); refine hK _ _ ?_; clear hK K
    -- 4: call F148(t31, t32, t33, t34)
    refine stepS _ rfl (by kernel_rfl) (fun K hK => ?_); go_simp
    refine ⟨?_, ?_⟩
    · intro wk hk hg hu; go_simp; refine upon_enter ((k1.out _).mono ?_); rintro e w' ⟨rfl, hb⟩; exact ⟨_, rfl, left_V (p := fun u => u = .tuple #[.agg (W4 0), .bool false]) rfl (hb) rfl⟩
    rintro ⟨v4, lo4, hi4⟩ - - (rfl : v4 = _)
    refine hK _ _ ?_; clear hK K
    -- 5: t35
    refine stepK rfl (by kernel_rfl) (fun K hK => ?_); go_simp
    apply Exists.intro; apply And.intro; (focus (intro wk hk; go_simp; exact ⟨rfl, rfl⟩)); refine hK _ _ ?_; clear hK K
    -- 6: extract t30 #0
    refine stepK rfl (by kernel_rfl) (fun K hK => ?_); go_simp
    apply Exists.intro; apply And.intro; (focus (intro wk hk; go_simp; exact ⟨rfl, rfl⟩)); refine hK _ _ ?_; clear hK K
    -- 7: extract t30 #1
    refine stepK rfl (by kernel_rfl) (fun K hK => ?_); go_simp
    apply Exists.intro; apply And.intro; (focus (intro wk hk; go_simp; exact ⟨rfl, rfl⟩)); refine hK _ _ ?_; clear hK K
    -- 8: alloc<31>
    refine stepS _ rfl (by kernel_rfl) (fun K hK => ?_); go_simp
    refine ⟨?_, ?_⟩
    · intro wk hk hg hu; go_simp; exact left_A rfl rfl
    rintro ⟨v8, lo3_8, hi8⟩ hlo8 hhi8 ⟨e8, f8⟩
    replace e8 : v8 = .pointer (some ⟨lo3_8, 0, none⟩) := e8; replace f8 : hi8 = lo3_8 + 1 := f8; replace hlo8 : _ ≤ lo3_8 := hlo8; subst e8; subst f8
    refine hK _ _ ?_; clear hK K
    -- 9: store<31> *t11 = t36
    refine stepS _ rfl (by kernel_rfl) (fun K hK => ?_); go_simp
    refine ⟨?_, ?_⟩
    · exact sStoreT rfl rfl rfl rfl rfl rfl rfl (by kernel_rfl) rfl (by kernel_rfl) (by decide) aggOf_congr
    rintro ⟨v9, lo9, hi9⟩ - - (rfl : v9 = undef)
    refine hK _ _ ?_; clear hK K
    -- 10: assign t37
    refine stepK rfl (by kernel_rfl) (fun K hK => ?_); go_simp
    apply Exists.intro; apply And.intro; (focus (intro wk hk; go_simp; exact ⟨rfl, rfl⟩)); refine hK _ _ ?_; clear hK K
    refine stepN ?_
    refine hQ _ _ ?_
    intro w3 hT hG hF
    have hbw3 := hT.below
    have r6 : Row w3 lo3_8 31 ((W4 0)) := (hF 9 _ rfl rfl (by decide)).2
    replace r0 := r0.below hbw3 r0.lt
    replace r1 := r1.below hbw3 r1.lt
    replace r2 := r2.below hbw3 r2.lt
    replace r3 := r3.below hbw3 r3.lt
    replace r4 := r4.below hbw3 r4.lt
    replace r5 := r5.below hbw3 r5.lt
    replace hl := hl.trans (hbw3.mono hl.size)
    clear hT hG hF hbw3 hQ QQ L hlo8 hhi8
    go_upto_region 5 with (fail)
    let L : List Sp := [sV 4 [] [] (fun u => u = .bool true)]
    refine wp_region_six0 (shs L) (look6 L) (None_) (by kernel_rfl) (by kernel_rfl) (mk_St L [] [] (by kernel_rfl) (by kernel_rfl) ⟨ok_V ⟨_, rfl⟩, trivial⟩ (by simp)) ?_
    intro QQ hQ
    -- 0: load<31> *t11
    refine stepK rfl (by kernel_rfl) (fun K hK => ?_); go_simp
    apply Exists.intro; apply And.intro; (focus exact kLoad rfl rfl aggT31 r6 rfl id); refine hK _ _ ?_; clear hK K
    -- 1: build<31> 
    refine stepK rfl (by kernel_rfl) (fun K hK => ?_); go_simp
    apply Exists.intro; apply And.intro; (focus (intro wk hk; go_simp; exact ⟨rfl, rfl⟩)); refine hK _ _ ?_; clear hK K
    -- 2: eql<31> t44, t45
    refine stepK rfl (by kernel_rfl) (fun K hK => ?_); go_simp
    apply Exists.intro; apply And.intro; (focus (intro wk hk; go_simp; exact ⟨rfl, rfl⟩)); refine hK _ _ ?_; clear hK K
    -- 3: t46
    refine stepK rfl (by kernel_rfl) (fun K hK => ?_); go_simp
    apply Exists.intro; apply And.intro; (focus (intro wk hk; go_simp; exact ⟨rfl, rfl⟩)); refine hK _ _ ?_; clear hK K
    -- 4: call F149()
    refine stepS _ rfl (by kernel_rfl) (fun K hK => ?_); go_simp
    refine ⟨?_, ?_⟩
    · intro wk hk hg hu; go_simp; refine upon_enter ((k2.out _).mono ?_); rintro e w' ⟨rfl, hb⟩; exact ⟨_, rfl, left_V (p := fun u => u = .bool true) rfl (hb) rfl⟩
    rintro ⟨v4, lo4, hi4⟩ - - (rfl : v4 = _)
    refine hK _ _ ?_; clear hK K
    -- 5: pick t47 ? t48 : false
    refine stepK rfl (by kernel_rfl) (fun K hK => ?_); go_simp
    apply Exists.intro; apply And.intro; (focus (intro wk hk; go_simp; exact ⟨rfl, rfl⟩)); refine hK _ _ ?_; clear hK K
    -- 6: assign t49
    refine stepK rfl (by kernel_rfl) (fun K hK => ?_); go_simp
    apply Exists.intro; apply And.intro; (focus (intro wk hk; go_simp; exact ⟨rfl, rfl⟩)); refine hK _ _ ?_; clear hK K
    refine stepN ?_
    refine hQ _ _ ?_
    intro w4 hT hG hF
    have hbw4 := hT.below
    replace r0 := r0.below hbw4 r0.lt
    replace r1 := r1.below hbw4 r1.lt
    replace r2 := r2.below hbw4 r2.lt
    replace r3 := r3.below hbw4 r3.lt
    replace r4 := r4.below hbw4 r4.lt
    replace r5 := r5.below hbw4 r5.lt
    replace r6 := r6.below hbw4 r6.lt
    replace hl := hl.trans (hbw4.mono hl.size)
    clear hT hG hF hbw4 hQ QQ L 
    go_wp2_with fail
    go_ret
    exact ⟨rfl, hl⟩
  · cases hb : grB d f m x
    · have hz := gr_zero hb
      have k0 := Lib.hid (show ∀ wx, Calls Try.prog 147 #[.agg (W4 d), .agg (W4 f), .agg (W4 m)] wx (Ret wx (.tuple #[.agg (W4 v), .bool true])) from fun wx => by have h := worthU hd hf hm wx; rw [← hv, hg] at h; exact h)
      have k1 := Lib.hid (show ∀ wx, Calls Try.prog 148 #[.agg (W4 d), .agg (W4 f), .agg (W4 m), .agg (W4 x)] wx (Ret wx (.tuple #[.agg (W4 0), .bool false])) from fun wx => by have h := growU hd hf hm hx wx; rw [hz, hb] at h; exact h)
      have k2 := Lib.hid (show ∀ wx, Calls Try.prog 149 #[] wx (Ret wx (.bool true)) from fun wx => by have h := lives20U  wx; exact h)
      have q0 : ∀ wx, (Op.equalIn 10000 31 (.agg (W4 0)) (.agg #[.int .u64 0, .int .u64 0, .int .u64 0, .int .u64 0])).run Try.prog wx = .ok true wx := fun wx => by rw [eqU0 M_pos, decide_eq_true rfl]
      clear hv hg hz hb
      go_enter Try.func28, Try.ntmps28
      apply wp_seq_eq
      focus
        intro J hJ
        go_wp2_with fail
        exact hJ
      refine wp_abs (Mem w [(w.heap.size, 132, W8 d f), (w.heap.size + 1, 31, W4 m), (w.heap.size + 1 + 1, 31, W4 x)]) ⟨by go_grown, ?_, ?_, ?_, trivial⟩ ?_
      · repeat (first | (refine Row.new_at ?_; simp; done) | refine Row.alloc ?_ _)
      · repeat (first | (refine Row.new_at ?_; simp; done) | refine Row.alloc ?_ _)
      · repeat (first | (refine Row.new_at ?_; simp; done) | refine Row.alloc ?_ _)
      intro w0 hM
      obtain ⟨hl, r0, r1, r2, -⟩ := hM
      go_upto_region 1 with (fail)
      let L : List Sp := [sA 4 31 [6] #[.int .u64 0, .int .u64 0, .int .u64 0, .int .u64 0], sA 5 31 [7] #[.int .u64 0, .int .u64 0, .int .u64 0, .int .u64 0], sT 6 4 31 [1] (fun g => aggOf g 1), sT 7 5 31 [3] (fun g => aggOf g 3)]
      refine wp_region_six (shs L) (look6 L) (None_) (by kernel_rfl) (by kernel_rfl) (mk_St L [] [] (by kernel_rfl) (by kernel_rfl) ⟨ok_A, ok_A, ok_T aggOf_congr, ok_T aggOf_congr, trivial⟩ (by simp)) ?_
      intro QQ hQ
      -- 0: indexAddr<132> t3[0]
      refine stepK rfl (by kernel_rfl) (fun K hK => ?_); go_simp
      apply Exists.intro; apply And.intro; (focus (intro wk hk; go_simp; exact ⟨rfl, rfl⟩)); refine hK _ _ ?_; clear hK K
      -- 1: load<31> *t19
      refine stepK rfl (by kernel_rfl) (fun K hK => ?_); go_simp
      apply Exists.intro; apply And.intro; (focus exact kLoadMid rfl rfl aggT31 r0 (W8_hi d f) rfl id); refine hK _ _ ?_; clear hK K
      -- 2: indexAddr<132> t3[1]
      refine stepK rfl (by kernel_rfl) (fun K hK => ?_); go_simp
      apply Exists.intro; apply And.intro; (focus (intro wk hk; go_simp; exact ⟨rfl, rfl⟩)); refine hK _ _ ?_; clear hK K
      -- 3: load<31> *t21
      refine stepK rfl (by kernel_rfl) (fun K hK => ?_); go_simp
      apply Exists.intro; apply And.intro; (focus exact kLoadMid rfl rfl aggT31 r0 (W8_lo d f) rfl id); refine hK _ _ ?_; clear hK K
      -- 4: alloc<31>
      refine stepS _ rfl (by kernel_rfl) (fun K hK => ?_); go_simp
      refine ⟨?_, ?_⟩
      · intro wk hk hg hu; go_simp; exact left_A rfl rfl
      rintro ⟨v4, lo1_4, hi4⟩ hlo4 hhi4 ⟨e4, f4⟩
      replace e4 : v4 = .pointer (some ⟨lo1_4, 0, none⟩) := e4; replace f4 : hi4 = lo1_4 + 1 := f4; replace hlo4 : _ ≤ lo1_4 := hlo4; subst e4; subst f4
      refine hK _ _ ?_; clear hK K
      -- 5: alloc<31>
      refine stepS _ rfl (by kernel_rfl) (fun K hK => ?_); go_simp
      refine ⟨?_, ?_⟩
      · intro wk hk hg hu; go_simp; exact left_A rfl rfl
      rintro ⟨v5, lo1_5, hi5⟩ hlo5 hhi5 ⟨e5, f5⟩
      replace e5 : v5 = .pointer (some ⟨lo1_5, 0, none⟩) := e5; replace f5 : hi5 = lo1_5 + 1 := f5; replace hlo5 : _ ≤ lo1_5 := hlo5; subst e5; subst f5
      refine hK _ _ ?_; clear hK K
      -- 6: store<31> *t7 = t20
      refine stepS _ rfl (by kernel_rfl) (fun K hK => ?_); go_simp
      refine ⟨?_, ?_⟩
      · exact sStoreT rfl rfl rfl rfl rfl rfl rfl (by kernel_rfl) rfl (by kernel_rfl) (by decide) aggOf_congr
      rintro ⟨v6, lo6, hi6⟩ - - (rfl : v6 = undef)
      refine hK _ _ ?_; clear hK K
      -- 7: store<31> *t8 = t22
      refine stepS _ rfl (by kernel_rfl) (fun K hK => ?_); go_simp
      refine ⟨?_, ?_⟩
      · exact sStoreT rfl rfl rfl rfl rfl rfl rfl (by kernel_rfl) rfl (by kernel_rfl) (by decide) aggOf_congr
      rintro ⟨v7, lo7, hi7⟩ - - (rfl : v7 = undef)
      refine hK _ _ ?_; clear hK K
      refine stepN ?_
      refine hQ _ _ ?_
      intro w1 hT hG hF
      have hbw1 := hT.undrew.below
      have r3 : Row w1 lo1_4 31 ((W4 d)) := (hF 6 _ rfl rfl (by decide)).2
      have r4 : Row w1 lo1_5 31 ((W4 f)) := (hF 7 _ rfl rfl (by decide)).2
      replace r0 := r0.below hbw1 r0.lt
      replace r1 := r1.below hbw1 r1.lt
      replace r2 := r2.below hbw1 r2.lt
      replace hl := hl.trans (hbw1.mono hl.size)
      clear hT hG hF hbw1 hQ QQ L hlo4 hhi4 hlo5 hhi5
      go_upto_region 2 with (fail)
      let L : List Sp := [sV 3 [] [] (fun u => u = .tuple #[.agg (W4 v), .bool true]), sA 7 31 [8] #[.int .u64 0, .int .u64 0, .int .u64 0, .int .u64 0], sT 8 7 31 [5] (fun g => aggOf g 5)]
      refine wp_region_six0 (shs L) (look6 L) (None_) (by kernel_rfl) (by kernel_rfl) (mk_St L [] [] (by kernel_rfl) (by kernel_rfl) ⟨ok_V ⟨_, rfl⟩, ok_A, ok_T aggOf_congr, trivial⟩ (by simp)) ?_
      intro QQ hQ
      -- 0: load<31> *t7
      refine stepK rfl (by kernel_rfl) (fun K hK => ?_); go_simp
      apply Exists.intro; apply And.intro; (focus exact kLoad rfl rfl aggT31 r3 rfl id); refine hK _ _ ?_; clear hK K
      -- 1: load<31> *t8
      refine stepK rfl (by kernel_rfl) (fun K hK => ?_); go_simp
      apply Exists.intro; apply And.intro; (focus exact kLoad rfl rfl aggT31 r4 rfl id); refine hK _ _ ?_; clear hK K
      -- 2: load<31> *t4
      refine stepK rfl (by kernel_rfl) (fun K hK => ?_); go_simp
      apply Exists.intro; apply And.intro; (focus exact kLoad rfl rfl aggT31 r1 rfl id); refine hK _ _ ?_; clear hK K
      -- 3: call F147(t24, t25, t26)
      refine stepS _ rfl (by kernel_rfl) (fun K hK => ?_); go_simp
      refine ⟨?_, ?_⟩
      · intro wk hk hg hu; go_simp; refine upon_enter ((k0.out _).mono ?_); rintro e w' ⟨rfl, hb⟩; exact ⟨_, rfl, left_V (p := fun u => u = .tuple #[.agg (W4 v), .bool true]) rfl (hb) rfl⟩
      rintro ⟨v3, lo3, hi3⟩ - - (rfl : v3 = _)
      refine hK _ _ ?_; clear hK K
      -- 4: t27
      refine stepK rfl (by kernel_rfl) (fun K hK => ?_); go_simp
      apply Exists.intro; apply And.intro; (focus (intro wk hk; go_simp; exact ⟨rfl, rfl⟩)); refine hK _ _ ?_; clear hK K
      -- 5: extract t23 #0
      refine stepK rfl (by kernel_rfl) (fun K hK => ?_); go_simp
      apply Exists.intro; apply And.intro; (focus (intro wk hk; go_simp; exact ⟨rfl, rfl⟩)); refine hK _ _ ?_; clear hK K
      -- 6: extract t23 #1
      refine stepK rfl (by kernel_rfl) (fun K hK => ?_); go_simp
      apply Exists.intro; apply And.intro; (focus (intro wk hk; go_simp; exact ⟨rfl, rfl⟩)); refine hK _ _ ?_; clear hK K
      -- 7: alloc<31>
      refine stepS _ rfl (by kernel_rfl) (fun K hK => ?_); go_simp
      refine ⟨?_, ?_⟩
      · intro wk hk hg hu; go_simp; exact left_A rfl rfl
      rintro ⟨v7, lo2_7, hi7⟩ hlo7 hhi7 ⟨e7, f7⟩
      replace e7 : v7 = .pointer (some ⟨lo2_7, 0, none⟩) := e7; replace f7 : hi7 = lo2_7 + 1 := f7; replace hlo7 : _ ≤ lo2_7 := hlo7; subst e7; subst f7
      refine hK _ _ ?_; clear hK K
      -- 8: store<31> *t9 = t28
      refine stepS _ rfl (by kernel_rfl) (fun K hK => ?_); go_simp
      refine ⟨?_, ?_⟩
      · exact sStoreT rfl rfl rfl rfl rfl rfl rfl (by kernel_rfl) rfl (by kernel_rfl) (by decide) aggOf_congr
      rintro ⟨v8, lo8, hi8⟩ - - (rfl : v8 = undef)
      refine hK _ _ ?_; clear hK K
      -- 9: assign t29
      refine stepK rfl (by kernel_rfl) (fun K hK => ?_); go_simp
      apply Exists.intro; apply And.intro; (focus (intro wk hk; go_simp; exact ⟨rfl, rfl⟩)); refine hK _ _ ?_; clear hK K
      refine stepN ?_
      refine hQ _ _ ?_
      intro w2 hT hG hF
      have hbw2 := hT.below
      have r5 : Row w2 lo2_7 31 ((W4 v)) := (hF 8 _ rfl rfl (by decide)).2
      replace r0 := r0.below hbw2 r0.lt
      replace r1 := r1.below hbw2 r1.lt
      replace r2 := r2.below hbw2 r2.lt
      replace r3 := r3.below hbw2 r3.lt
      replace r4 := r4.below hbw2 r4.lt
      replace hl := hl.trans (hbw2.mono hl.size)
      clear hT hG hF hbw2 hQ QQ L hlo7 hhi7
      go_upto_region 3 with (fail)
      let L : List Sp := [sV 4 [] [] (fun u => u = .tuple #[.agg (W4 0), .bool false]), sA 8 31 [9] #[.int .u64 0, .int .u64 0, .int .u64 0, .int .u64 0], sT 9 8 31 [6] (fun g => aggOf g 6)]
      refine wp_region_six0 (shs L) (look6 L) (None_) (by kernel_rfl) (by kernel_rfl) (mk_St L [] [] (by kernel_rfl) (by kernel_rfl) ⟨ok_V ⟨_, rfl⟩, ok_A, ok_T aggOf_congr, trivial⟩ (by simp)) ?_
      intro QQ hQ
      -- 0: load<31> *t7
      refine stepK rfl (by kernel_rfl) (fun K hK => ?_); go_simp
      apply Exists.intro; apply And.intro; (focus exact kLoad rfl rfl aggT31 r3 rfl id); refine hK _ _ ?_; clear hK K
      -- 1: load<31> *t8
      refine stepK rfl (by kernel_rfl) (fun K hK => ?_); go_simp
      apply Exists.intro; apply And.intro; (focus exact kLoad rfl rfl aggT31 r4 rfl id); refine hK _ _ ?_; clear hK K
      -- 2: load<31> *t4
      refine stepK rfl (by kernel_rfl) (fun K hK => ?_); go_simp
      apply Exists.intro; apply And.intro; (focus exact kLoad rfl rfl aggT31 r1 rfl id); refine hK _ _ ?_; clear hK K
      -- 3: load<31> *t5
      refine stepK rfl (by kernel_rfl) (fun K hK => ?_); go_simp
      apply Exists.intro; apply And.intro; (focus exact kLoad rfl rfl aggT31 r2 rfl id); refine hK _ _ ?_; clear hK K
      -- 4: call F148(t31, t32, t33, t34)
      refine stepS _ rfl (by kernel_rfl) (fun K hK => ?_); go_simp
      refine ⟨?_, ?_⟩
      · intro wk hk hg hu; go_simp; refine upon_enter ((k1.out _).mono ?_); rintro e w' ⟨rfl, hb⟩; exact ⟨_, rfl, left_V (p := fun u => u = .tuple #[.agg (W4 0), .bool false]) rfl (hb) rfl⟩
      rintro ⟨v4, lo4, hi4⟩ - - (rfl : v4 = _)
      refine hK _ _ ?_; clear hK K
      -- 5: t35
      refine stepK rfl (by kernel_rfl) (fun K hK => ?_); go_simp
      apply Exists.intro; apply And.intro; (focus (intro wk hk; go_simp; exact ⟨rfl, rfl⟩)); refine hK _ _ ?_; clear hK K
      -- 6: extract t30 #0
      refine stepK rfl (by kernel_rfl) (fun K hK => ?_); go_simp
      apply Exists.intro; apply And.intro; (focus (intro wk hk; go_simp; exact ⟨rfl, rfl⟩)); refine hK _ _ ?_; clear hK K
      -- 7: extract t30 #1
      refine stepK rfl (by kernel_rfl) (fun K hK => ?_); go_simp
      apply Exists.intro; apply And.intro; (focus (intro wk hk; go_simp; exact ⟨rfl, rfl⟩)); refine hK _ _ ?_; clear hK K
      -- 8: alloc<31>
      refine stepS _ rfl (by kernel_rfl) (fun K hK => ?_); go_simp
      refine ⟨?_, ?_⟩
      · intro wk hk hg hu; go_simp; exact left_A rfl rfl
      rintro ⟨v8, lo3_8, hi8⟩ hlo8 hhi8 ⟨e8, f8⟩
      replace e8 : v8 = .pointer (some ⟨lo3_8, 0, none⟩) := e8; replace f8 : hi8 = lo3_8 + 1 := f8; replace hlo8 : _ ≤ lo3_8 := hlo8; subst e8; subst f8
      refine hK _ _ ?_; clear hK K
      -- 9: store<31> *t11 = t36
      refine stepS _ rfl (by kernel_rfl) (fun K hK => ?_); go_simp
      refine ⟨?_, ?_⟩
      · exact sStoreT rfl rfl rfl rfl rfl rfl rfl (by kernel_rfl) rfl (by kernel_rfl) (by decide) aggOf_congr
      rintro ⟨v9, lo9, hi9⟩ - - (rfl : v9 = undef)
      refine hK _ _ ?_; clear hK K
      -- 10: assign t37
      refine stepK rfl (by kernel_rfl) (fun K hK => ?_); go_simp
      apply Exists.intro; apply And.intro; (focus (intro wk hk; go_simp; exact ⟨rfl, rfl⟩)); refine hK _ _ ?_; clear hK K
      refine stepN ?_
      refine hQ _ _ ?_
      intro w3 hT hG hF
      have hbw3 := hT.below
      have r6 : Row w3 lo3_8 31 ((W4 0)) := (hF 9 _ rfl rfl (by decide)).2
      replace r0 := r0.below hbw3 r0.lt
      replace r1 := r1.below hbw3 r1.lt
      replace r2 := r2.below hbw3 r2.lt
      replace r3 := r3.below hbw3 r3.lt
      replace r4 := r4.below hbw3 r4.lt
      replace r5 := r5.below hbw3 r5.lt
      replace hl := hl.trans (hbw3.mono hl.size)
      clear hT hG hF hbw3 hQ QQ L hlo8 hhi8
      go_upto_region 5 with (fail)
      let L : List Sp := [sV 4 [] [] (fun u => u = .bool true)]
      refine wp_region_six0 (shs L) (look6 L) (None_) (by kernel_rfl) (by kernel_rfl) (mk_St L [] [] (by kernel_rfl) (by kernel_rfl) ⟨ok_V ⟨_, rfl⟩, trivial⟩ (by simp)) ?_
      intro QQ hQ
      -- 0: load<31> *t11
      refine stepK rfl (by kernel_rfl) (fun K hK => ?_); go_simp
      apply Exists.intro; apply And.intro; (focus exact kLoad rfl rfl aggT31 r6 rfl id); refine hK _ _ ?_; clear hK K
      -- 1: build<31> 
      refine stepK rfl (by kernel_rfl) (fun K hK => ?_); go_simp
      apply Exists.intro; apply And.intro; (focus (intro wk hk; go_simp; exact ⟨rfl, rfl⟩)); refine hK _ _ ?_; clear hK K
      -- 2: eql<31> t44, t45
      refine stepK rfl (by kernel_rfl) (fun K hK => ?_); go_simp
      apply Exists.intro; apply And.intro; (focus (intro wk hk; go_simp; exact ⟨rfl, rfl⟩)); refine hK _ _ ?_; clear hK K
      -- 3: t46
      refine stepK rfl (by kernel_rfl) (fun K hK => ?_); go_simp
      apply Exists.intro; apply And.intro; (focus (intro wk hk; go_simp; exact ⟨rfl, rfl⟩)); refine hK _ _ ?_; clear hK K
      -- 4: call F149()
      refine stepS _ rfl (by kernel_rfl) (fun K hK => ?_); go_simp
      refine ⟨?_, ?_⟩
      · intro wk hk hg hu; go_simp; refine upon_enter ((k2.out _).mono ?_); rintro e w' ⟨rfl, hb⟩; exact ⟨_, rfl, left_V (p := fun u => u = .bool true) rfl (hb) rfl⟩
      rintro ⟨v4, lo4, hi4⟩ - - (rfl : v4 = _)
      refine hK _ _ ?_; clear hK K
      -- 5: pick t47 ? t48 : false
      refine stepK rfl (by kernel_rfl) (fun K hK => ?_); go_simp
      apply Exists.intro; apply And.intro; (focus (intro wk hk; go_simp; exact ⟨rfl, rfl⟩)); refine hK _ _ ?_; clear hK K
      -- 6: assign t49
      refine stepK rfl (by kernel_rfl) (fun K hK => ?_); go_simp
      apply Exists.intro; apply And.intro; (focus (intro wk hk; go_simp; exact ⟨rfl, rfl⟩)); refine hK _ _ ?_; clear hK K
      refine stepN ?_
      refine hQ _ _ ?_
      intro w4 hT hG hF
      have hbw4 := hT.below
      replace r0 := r0.below hbw4 r0.lt
      replace r1 := r1.below hbw4 r1.lt
      replace r2 := r2.below hbw4 r2.lt
      replace r3 := r3.below hbw4 r3.lt
      replace r4 := r4.below hbw4 r4.lt
      replace r5 := r5.below hbw4 r5.lt
      replace r6 := r6.below hbw4 r6.lt
      replace hl := hl.trans (hbw4.mono hl.size)
      clear hT hG hF hbw4 hQ QQ L 
      go_wp2_with fail
      go_ret
      exact ⟨rfl, hl⟩
    · have G := grow_law hb
      obtain ⟨g, hge⟩ : ∃ g, g = grN d f m x := ⟨_, rfl⟩
      have gl : g < M := hge ▸ gr_lt d f m x
      have sl0 : d + x < M := M2_M' G.2.1
      have tl0 : v + x < M := hv ▸ wx_lt (by have := G.2.1; omega)
      have L : goodF (d + x) g m = true ∧ wrN (d + x) g m ≤ v + x ∧ (1000000000 ≤ g → addN (addN (wrN (d + x) g m) ((v + x) / 1000000000)) 2 ≥ v + x) := by
        rw [hge, hv]
        exact ⟨G.2.2.1, G.2.2.2.1, G.2.2.2.2⟩
      have hs2 : addB d x = true := decide_eq_true sl0
      have hs1 : addN d x = d + x := if_pos sl0
      have ht2 : addB v x = true := decide_eq_true tl0
      have ht1 : addN v x = v + x := if_pos tl0
      obtain ⟨s, hse⟩ : ∃ s, s = d + x := ⟨_, rfl⟩
      obtain ⟨t, hte⟩ : ∃ t, t = v + x := ⟨_, rfl⟩
      have sl : s < M := hse ▸ sl0
      have tl : t < M := hte ▸ tl0
      rw [← hse, ← hte] at L
      rw [← hse] at hs1
      rw [← hte] at ht1
      obtain ⟨y, hy⟩ : ∃ y, y = wrN s g m := ⟨_, rfl⟩
      have yl : y < M := hy ▸ wr_lt s g m
      rw [← hy] at L
      obtain ⟨c, hc⟩ : ∃ c, c = cmpN y t := ⟨_, rfl⟩
      have h1 : c ≤ 0 := hc ▸ cmpN_le L.2.1
      clear G sl0 tl0 hse hte
      have k0 := Lib.hid (show ∀ wx, Calls Try.prog 147 #[.agg (W4 d), .agg (W4 f), .agg (W4 m)] wx (Ret wx (.tuple #[.agg (W4 v), .bool true])) from fun wx => by have h := worthU hd hf hm wx; rw [← hv, hg] at h; exact h)
      have k1 := Lib.hid (show ∀ wx, Calls Try.prog 148 #[.agg (W4 d), .agg (W4 f), .agg (W4 m), .agg (W4 x)] wx (Ret wx (.tuple #[.agg (W4 g), .bool true])) from fun wx => by have h := growU hd hf hm hx wx; rw [← hge, hb] at h; exact h)
      have k2 := Lib.hid (show ∀ wx, Calls Try.prog 51 #[.agg (W4 d), .agg (W4 x)] wx (Ret wx (.tuple #[.agg (W4 s), .bool true])) from fun wx => by have h := refaddU hd hx wx; rw [hs1, hs2] at h; exact h)
      have k3 := Lib.hid (show ∀ wx, Calls Try.prog 147 #[.agg (W4 s), .agg (W4 g), .agg (W4 m)] wx (Ret wx (.tuple #[.agg (W4 y), .bool true])) from fun wx => by have h := worthU sl gl hm wx; rw [← hy, L.1] at h; exact h)
      have k4 := Lib.hid (show ∀ wx, Calls Try.prog 51 #[.agg (W4 v), .agg (W4 x)] wx (Ret wx (.tuple #[.agg (W4 t), .bool true])) from fun wx => by have h := refaddU vl hx wx; rw [ht1, ht2] at h; exact h)
      have k5 := Lib.hid (show ∀ wx, Calls Try.prog 57 #[.agg (W4 y), .agg (W4 t)] wx (Ret wx (.int .i64 c)) from fun wx => by have h := refcmpU yl tl wx; rw [← hc] at h; exact h)
      have k6 := Lib.hid (show ∀ wx, Calls Try.prog 150 #[.agg (W4 y), .agg (W4 t), .agg (W4 g)] wx (Ret wx (.bool true)) from fun wx => nearU yl tl gl L.2.2 wx)
      have k7 := Lib.hid (show ∀ wx, Calls Try.prog 149 #[] wx (Ret wx (.bool true)) from fun wx => by have h := lives20U  wx; exact h)
      clear hv hg hge hb hs1 hs2 hy L ht1 ht2 hc
      go_enter Try.func28, Try.ntmps28
      apply wp_seq_eq
      focus
        intro J hJ
        go_wp2_with fail
        exact hJ
      refine wp_abs (Mem w [(w.heap.size, 132, W8 d f), (w.heap.size + 1, 31, W4 m), (w.heap.size + 1 + 1, 31, W4 x)]) ⟨by go_grown, ?_, ?_, ?_, trivial⟩ ?_
      · repeat (first | (refine Row.new_at ?_; simp; done) | refine Row.alloc ?_ _)
      · repeat (first | (refine Row.new_at ?_; simp; done) | refine Row.alloc ?_ _)
      · repeat (first | (refine Row.new_at ?_; simp; done) | refine Row.alloc ?_ _)
      intro w0 hM
      obtain ⟨hl, r0, r1, r2, -⟩ := hM
      go_upto_region 1 with (fail)
      let L : List Sp := [sA 4 31 [6] #[.int .u64 0, .int .u64 0, .int .u64 0, .int .u64 0], sA 5 31 [7] #[.int .u64 0, .int .u64 0, .int .u64 0, .int .u64 0], sT 6 4 31 [1] (fun g => aggOf g 1), sT 7 5 31 [3] (fun g => aggOf g 3)]
      refine wp_region_six (shs L) (look6 L) (None_) (by kernel_rfl) (by kernel_rfl) (mk_St L [] [] (by kernel_rfl) (by kernel_rfl) ⟨ok_A, ok_A, ok_T aggOf_congr, ok_T aggOf_congr, trivial⟩ (by simp)) ?_
      intro QQ hQ
      -- 0: indexAddr<132> t3[0]
      refine stepK rfl (by kernel_rfl) (fun K hK => ?_); go_simp
      apply Exists.intro; apply And.intro; (focus (intro wk hk; go_simp; exact ⟨rfl, rfl⟩)); refine hK _ _ ?_; clear hK K
      -- 1: load<31> *t19
      refine stepK rfl (by kernel_rfl) (fun K hK => ?_); go_simp
      apply Exists.intro; apply And.intro; (focus exact kLoadMid rfl rfl aggT31 r0 (W8_hi d f) rfl id); refine hK _ _ ?_; clear hK K
      -- 2: indexAddr<132> t3[1]
      refine stepK rfl (by kernel_rfl) (fun K hK => ?_); go_simp
      apply Exists.intro; apply And.intro; (focus (intro wk hk; go_simp; exact ⟨rfl, rfl⟩)); refine hK _ _ ?_; clear hK K
      -- 3: load<31> *t21
      refine stepK rfl (by kernel_rfl) (fun K hK => ?_); go_simp
      apply Exists.intro; apply And.intro; (focus exact kLoadMid rfl rfl aggT31 r0 (W8_lo d f) rfl id); refine hK _ _ ?_; clear hK K
      -- 4: alloc<31>
      refine stepS _ rfl (by kernel_rfl) (fun K hK => ?_); go_simp
      refine ⟨?_, ?_⟩
      · intro wk hk hg hu; go_simp; exact left_A rfl rfl
      rintro ⟨v4, lo1_4, hi4⟩ hlo4 hhi4 ⟨e4, f4⟩
      replace e4 : v4 = .pointer (some ⟨lo1_4, 0, none⟩) := e4; replace f4 : hi4 = lo1_4 + 1 := f4; replace hlo4 : _ ≤ lo1_4 := hlo4; subst e4; subst f4
      refine hK _ _ ?_; clear hK K
      -- 5: alloc<31>
      refine stepS _ rfl (by kernel_rfl) (fun K hK => ?_); go_simp
      refine ⟨?_, ?_⟩
      · intro wk hk hg hu; go_simp; exact left_A rfl rfl
      rintro ⟨v5, lo1_5, hi5⟩ hlo5 hhi5 ⟨e5, f5⟩
      replace e5 : v5 = .pointer (some ⟨lo1_5, 0, none⟩) := e5; replace f5 : hi5 = lo1_5 + 1 := f5; replace hlo5 : _ ≤ lo1_5 := hlo5; subst e5; subst f5
      refine hK _ _ ?_; clear hK K
      -- 6: store<31> *t7 = t20
      refine stepS _ rfl (by kernel_rfl) (fun K hK => ?_); go_simp
      refine ⟨?_, ?_⟩
      · exact sStoreT rfl rfl rfl rfl rfl rfl rfl (by kernel_rfl) rfl (by kernel_rfl) (by decide) aggOf_congr
      rintro ⟨v6, lo6, hi6⟩ - - (rfl : v6 = undef)
      refine hK _ _ ?_; clear hK K
      -- 7: store<31> *t8 = t22
      refine stepS _ rfl (by kernel_rfl) (fun K hK => ?_); go_simp
      refine ⟨?_, ?_⟩
      · exact sStoreT rfl rfl rfl rfl rfl rfl rfl (by kernel_rfl) rfl (by kernel_rfl) (by decide) aggOf_congr
      rintro ⟨v7, lo7, hi7⟩ - - (rfl : v7 = undef)
      refine hK _ _ ?_; clear hK K
      refine stepN ?_
      refine hQ _ _ ?_
      intro w1 hT hG hF
      have hbw1 := hT.undrew.below
      have r3 : Row w1 lo1_4 31 ((W4 d)) := (hF 6 _ rfl rfl (by decide)).2
      have r4 : Row w1 lo1_5 31 ((W4 f)) := (hF 7 _ rfl rfl (by decide)).2
      replace r0 := r0.below hbw1 r0.lt
      replace r1 := r1.below hbw1 r1.lt
      replace r2 := r2.below hbw1 r2.lt
      replace hl := hl.trans (hbw1.mono hl.size)
      clear hT hG hF hbw1 hQ QQ L hlo4 hhi4 hlo5 hhi5
      go_upto_region 2 with (fail)
      let L : List Sp := [sV 3 [] [] (fun u => u = .tuple #[.agg (W4 v), .bool true]), sA 7 31 [8] #[.int .u64 0, .int .u64 0, .int .u64 0, .int .u64 0], sT 8 7 31 [5] (fun g => aggOf g 5)]
      refine wp_region_six0 (shs L) (look6 L) (None_) (by kernel_rfl) (by kernel_rfl) (mk_St L [] [] (by kernel_rfl) (by kernel_rfl) ⟨ok_V ⟨_, rfl⟩, ok_A, ok_T aggOf_congr, trivial⟩ (by simp)) ?_
      intro QQ hQ
      -- 0: load<31> *t7
      refine stepK rfl (by kernel_rfl) (fun K hK => ?_); go_simp
      apply Exists.intro; apply And.intro; (focus exact kLoad rfl rfl aggT31 r3 rfl id); refine hK _ _ ?_; clear hK K
      -- 1: load<31> *t8
      refine stepK rfl (by kernel_rfl) (fun K hK => ?_); go_simp
      apply Exists.intro; apply And.intro; (focus exact kLoad rfl rfl aggT31 r4 rfl id); refine hK _ _ ?_; clear hK K
      -- 2: load<31> *t4
      refine stepK rfl (by kernel_rfl) (fun K hK => ?_); go_simp
      apply Exists.intro; apply And.intro; (focus exact kLoad rfl rfl aggT31 r1 rfl id); refine hK _ _ ?_; clear hK K
      -- 3: call F147(t24, t25, t26)
      refine stepS _ rfl (by kernel_rfl) (fun K hK => ?_); go_simp
      refine ⟨?_, ?_⟩
      · intro wk hk hg hu; go_simp; refine upon_enter ((k0.out _).mono ?_); rintro e w' ⟨rfl, hb⟩; exact ⟨_, rfl, left_V (p := fun u => u = .tuple #[.agg (W4 v), .bool true]) rfl (hb) rfl⟩
      rintro ⟨v3, lo3, hi3⟩ - - (rfl : v3 = _)
      refine hK _ _ ?_; clear hK K
      -- 4: t27
      refine stepK rfl (by kernel_rfl) (fun K hK => ?_); go_simp
      apply Exists.intro; apply And.intro; (focus (intro wk hk; go_simp; exact ⟨rfl, rfl⟩)); refine hK _ _ ?_; clear hK K
      -- 5: extract t23 #0
      refine stepK rfl (by kernel_rfl) (fun K hK => ?_); go_simp
      apply Exists.intro; apply And.intro; (focus (intro wk hk; go_simp; exact ⟨rfl, rfl⟩)); refine hK _ _ ?_; clear hK K
      -- 6: extract t23 #1
      refine stepK rfl (by kernel_rfl) (fun K hK => ?_); go_simp
      apply Exists.intro; apply And.intro; (focus (intro wk hk; go_simp; exact ⟨rfl, rfl⟩)); refine hK _ _ ?_; clear hK K
      -- 7: alloc<31>
      refine stepS _ rfl (by kernel_rfl) (fun K hK => ?_); go_simp
      refine ⟨?_, ?_⟩
      · intro wk hk hg hu; go_simp; exact left_A rfl rfl
      rintro ⟨v7, lo2_7, hi7⟩ hlo7 hhi7 ⟨e7, f7⟩
      replace e7 : v7 = .pointer (some ⟨lo2_7, 0, none⟩) := e7; replace f7 : hi7 = lo2_7 + 1 := f7; replace hlo7 : _ ≤ lo2_7 := hlo7; subst e7; subst f7
      refine hK _ _ ?_; clear hK K
      -- 8: store<31> *t9 = t28
      refine stepS _ rfl (by kernel_rfl) (fun K hK => ?_); go_simp
      refine ⟨?_, ?_⟩
      · exact sStoreT rfl rfl rfl rfl rfl rfl rfl (by kernel_rfl) rfl (by kernel_rfl) (by decide) aggOf_congr
      rintro ⟨v8, lo8, hi8⟩ - - (rfl : v8 = undef)
      refine hK _ _ ?_; clear hK K
      -- 9: assign t29
      refine stepK rfl (by kernel_rfl) (fun K hK => ?_); go_simp
      apply Exists.intro; apply And.intro; (focus (intro wk hk; go_simp; exact ⟨rfl, rfl⟩)); refine hK _ _ ?_; clear hK K
      refine stepN ?_
      refine hQ _ _ ?_
      intro w2 hT hG hF
      have hbw2 := hT.below
      have r5 : Row w2 lo2_7 31 ((W4 v)) := (hF 8 _ rfl rfl (by decide)).2
      replace r0 := r0.below hbw2 r0.lt
      replace r1 := r1.below hbw2 r1.lt
      replace r2 := r2.below hbw2 r2.lt
      replace r3 := r3.below hbw2 r3.lt
      replace r4 := r4.below hbw2 r4.lt
      replace hl := hl.trans (hbw2.mono hl.size)
      clear hT hG hF hbw2 hQ QQ L hlo7 hhi7
      go_upto_region 3 with (fail)
      let L : List Sp := [sV 4 [] [] (fun u => u = .tuple #[.agg (W4 g), .bool true]), sA 8 31 [9] #[.int .u64 0, .int .u64 0, .int .u64 0, .int .u64 0], sT 9 8 31 [6] (fun g => aggOf g 6)]
      refine wp_region_six0 (shs L) (look6 L) (None_) (by kernel_rfl) (by kernel_rfl) (mk_St L [] [] (by kernel_rfl) (by kernel_rfl) ⟨ok_V ⟨_, rfl⟩, ok_A, ok_T aggOf_congr, trivial⟩ (by simp)) ?_
      intro QQ hQ
      -- 0: load<31> *t7
      refine stepK rfl (by kernel_rfl) (fun K hK => ?_); go_simp
      apply Exists.intro; apply And.intro; (focus exact kLoad rfl rfl aggT31 r3 rfl id); refine hK _ _ ?_; clear hK K
      -- 1: load<31> *t8
      refine stepK rfl (by kernel_rfl) (fun K hK => ?_); go_simp
      apply Exists.intro; apply And.intro; (focus exact kLoad rfl rfl aggT31 r4 rfl id); refine hK _ _ ?_; clear hK K
      -- 2: load<31> *t4
      refine stepK rfl (by kernel_rfl) (fun K hK => ?_); go_simp
      apply Exists.intro; apply And.intro; (focus exact kLoad rfl rfl aggT31 r1 rfl id); refine hK _ _ ?_; clear hK K
      -- 3: load<31> *t5
      refine stepK rfl (by kernel_rfl) (fun K hK => ?_); go_simp
      apply Exists.intro; apply And.intro; (focus exact kLoad rfl rfl aggT31 r2 rfl id); refine hK _ _ ?_; clear hK K
      -- 4: call F148(t31, t32, t33, t34)
      refine stepS _ rfl (by kernel_rfl) (fun K hK => ?_); go_simp
      refine ⟨?_, ?_⟩
      · intro wk hk hg hu; go_simp; refine upon_enter ((k1.out _).mono ?_); rintro e w' ⟨rfl, hb⟩; exact ⟨_, rfl, left_V (p := fun u => u = .tuple #[.agg (W4 g), .bool true]) rfl (hb) rfl⟩
      rintro ⟨v4, lo4, hi4⟩ - - (rfl : v4 = _)
      refine hK _ _ ?_; clear hK K
      -- 5: t35
      refine stepK rfl (by kernel_rfl) (fun K hK => ?_); go_simp
      apply Exists.intro; apply And.intro; (focus (intro wk hk; go_simp; exact ⟨rfl, rfl⟩)); refine hK _ _ ?_; clear hK K
      -- 6: extract t30 #0
      refine stepK rfl (by kernel_rfl) (fun K hK => ?_); go_simp
      apply Exists.intro; apply And.intro; (focus (intro wk hk; go_simp; exact ⟨rfl, rfl⟩)); refine hK _ _ ?_; clear hK K
      -- 7: extract t30 #1
      refine stepK rfl (by kernel_rfl) (fun K hK => ?_); go_simp
      apply Exists.intro; apply And.intro; (focus (intro wk hk; go_simp; exact ⟨rfl, rfl⟩)); refine hK _ _ ?_; clear hK K
      -- 8: alloc<31>
      refine stepS _ rfl (by kernel_rfl) (fun K hK => ?_); go_simp
      refine ⟨?_, ?_⟩
      · intro wk hk hg hu; go_simp; exact left_A rfl rfl
      rintro ⟨v8, lo3_8, hi8⟩ hlo8 hhi8 ⟨e8, f8⟩
      replace e8 : v8 = .pointer (some ⟨lo3_8, 0, none⟩) := e8; replace f8 : hi8 = lo3_8 + 1 := f8; replace hlo8 : _ ≤ lo3_8 := hlo8; subst e8; subst f8
      refine hK _ _ ?_; clear hK K
      -- 9: store<31> *t11 = t36
      refine stepS _ rfl (by kernel_rfl) (fun K hK => ?_); go_simp
      refine ⟨?_, ?_⟩
      · exact sStoreT rfl rfl rfl rfl rfl rfl rfl (by kernel_rfl) rfl (by kernel_rfl) (by decide) aggOf_congr
      rintro ⟨v9, lo9, hi9⟩ - - (rfl : v9 = undef)
      refine hK _ _ ?_; clear hK K
      -- 10: assign t37
      refine stepK rfl (by kernel_rfl) (fun K hK => ?_); go_simp
      apply Exists.intro; apply And.intro; (focus (intro wk hk; go_simp; exact ⟨rfl, rfl⟩)); refine hK _ _ ?_; clear hK K
      refine stepN ?_
      refine hQ _ _ ?_
      intro w3 hT hG hF
      have hbw3 := hT.below
      have r6 : Row w3 lo3_8 31 ((W4 g)) := (hF 9 _ rfl rfl (by decide)).2
      replace r0 := r0.below hbw3 r0.lt
      replace r1 := r1.below hbw3 r1.lt
      replace r2 := r2.below hbw3 r2.lt
      replace r3 := r3.below hbw3 r3.lt
      replace r4 := r4.below hbw3 r4.lt
      replace r5 := r5.below hbw3 r5.lt
      replace hl := hl.trans (hbw3.mono hl.size)
      clear hT hG hF hbw3 hQ QQ L hlo8 hhi8
      go_upto_region 6 with (fail)
      let L : List Sp := [sV 2 [] [] (fun u => u = .tuple #[.agg (W4 s), .bool true]), sA 6 31 [7] #[.int .u64 0, .int .u64 0, .int .u64 0, .int .u64 0], sT 7 6 31 [4] (fun g => aggOf g 4)]
      refine wp_region_six0 (shs L) (look6 L) (None_) (by kernel_rfl) (by kernel_rfl) (mk_St L [] [] (by kernel_rfl) (by kernel_rfl) ⟨ok_V ⟨_, rfl⟩, ok_A, ok_T aggOf_congr, trivial⟩ (by simp)) ?_
      intro QQ hQ
      -- 0: load<31> *t7
      refine stepK rfl (by kernel_rfl) (fun K hK => ?_); go_simp
      apply Exists.intro; apply And.intro; (focus exact kLoad rfl rfl aggT31 r3 rfl id); refine hK _ _ ?_; clear hK K
      -- 1: load<31> *t5
      refine stepK rfl (by kernel_rfl) (fun K hK => ?_); go_simp
      apply Exists.intro; apply And.intro; (focus exact kLoad rfl rfl aggT31 r2 rfl id); refine hK _ _ ?_; clear hK K
      -- 2: call F51(t51, t52)
      refine stepS _ rfl (by kernel_rfl) (fun K hK => ?_); go_simp
      refine ⟨?_, ?_⟩
      · intro wk hk hg hu; go_simp; refine upon_enter ((k2.out _).mono ?_); rintro e w' ⟨rfl, hb⟩; exact ⟨_, rfl, left_V (p := fun u => u = .tuple #[.agg (W4 s), .bool true]) rfl (hb) rfl⟩
      rintro ⟨v2, lo2, hi2⟩ - - (rfl : v2 = _)
      refine hK _ _ ?_; clear hK K
      -- 3: t53
      refine stepK rfl (by kernel_rfl) (fun K hK => ?_); go_simp
      apply Exists.intro; apply And.intro; (focus (intro wk hk; go_simp; exact ⟨rfl, rfl⟩)); refine hK _ _ ?_; clear hK K
      -- 4: extract t50 #0
      refine stepK rfl (by kernel_rfl) (fun K hK => ?_); go_simp
      apply Exists.intro; apply And.intro; (focus (intro wk hk; go_simp; exact ⟨rfl, rfl⟩)); refine hK _ _ ?_; clear hK K
      -- 5: extract t50 #1
      refine stepK rfl (by kernel_rfl) (fun K hK => ?_); go_simp
      apply Exists.intro; apply And.intro; (focus (intro wk hk; go_simp; exact ⟨rfl, rfl⟩)); refine hK _ _ ?_; clear hK K
      -- 6: alloc<31>
      refine stepS _ rfl (by kernel_rfl) (fun K hK => ?_); go_simp
      refine ⟨?_, ?_⟩
      · intro wk hk hg hu; go_simp; exact left_A rfl rfl
      rintro ⟨v6, lo6_6, hi6⟩ hlo6 hhi6 ⟨e6, f6⟩
      replace e6 : v6 = .pointer (some ⟨lo6_6, 0, none⟩) := e6; replace f6 : hi6 = lo6_6 + 1 := f6; replace hlo6 : _ ≤ lo6_6 := hlo6; subst e6; subst f6
      refine hK _ _ ?_; clear hK K
      -- 7: store<31> *t13 = t54
      refine stepS _ rfl (by kernel_rfl) (fun K hK => ?_); go_simp
      refine ⟨?_, ?_⟩
      · exact sStoreT rfl rfl rfl rfl rfl rfl rfl (by kernel_rfl) rfl (by kernel_rfl) (by decide) aggOf_congr
      rintro ⟨v7, lo7, hi7⟩ - - (rfl : v7 = undef)
      refine hK _ _ ?_; clear hK K
      -- 8: assign t55
      refine stepK rfl (by kernel_rfl) (fun K hK => ?_); go_simp
      apply Exists.intro; apply And.intro; (focus (intro wk hk; go_simp; exact ⟨rfl, rfl⟩)); refine hK _ _ ?_; clear hK K
      refine stepN ?_
      refine hQ _ _ ?_
      intro w4 hT hG hF
      have hbw4 := hT.below
      have r7 : Row w4 lo6_6 31 ((W4 s)) := (hF 7 _ rfl rfl (by decide)).2
      replace r0 := r0.below hbw4 r0.lt
      replace r1 := r1.below hbw4 r1.lt
      replace r2 := r2.below hbw4 r2.lt
      replace r3 := r3.below hbw4 r3.lt
      replace r4 := r4.below hbw4 r4.lt
      replace r5 := r5.below hbw4 r5.lt
      replace r6 := r6.below hbw4 r6.lt
      replace hl := hl.trans (hbw4.mono hl.size)
      clear hT hG hF hbw4 hQ QQ L hlo6 hhi6
      go_upto_region 7 with (fail)
      let L : List Sp := [sV 3 [] [] (fun u => u = .tuple #[.agg (W4 y), .bool true]), sA 7 31 [8] #[.int .u64 0, .int .u64 0, .int .u64 0, .int .u64 0], sT 8 7 31 [5] (fun g => aggOf g 5)]
      refine wp_region_six0 (shs L) (look6 L) (None_) (by kernel_rfl) (by kernel_rfl) (mk_St L [] [] (by kernel_rfl) (by kernel_rfl) ⟨ok_V ⟨_, rfl⟩, ok_A, ok_T aggOf_congr, trivial⟩ (by simp)) ?_
      intro QQ hQ
      -- 0: load<31> *t13
      refine stepK rfl (by kernel_rfl) (fun K hK => ?_); go_simp
      apply Exists.intro; apply And.intro; (focus exact kLoad rfl rfl aggT31 r7 rfl id); refine hK _ _ ?_; clear hK K
      -- 1: load<31> *t11
      refine stepK rfl (by kernel_rfl) (fun K hK => ?_); go_simp
      apply Exists.intro; apply And.intro; (focus exact kLoad rfl rfl aggT31 r6 rfl id); refine hK _ _ ?_; clear hK K
      -- 2: load<31> *t4
      refine stepK rfl (by kernel_rfl) (fun K hK => ?_); go_simp
      apply Exists.intro; apply And.intro; (focus exact kLoad rfl rfl aggT31 r1 rfl id); refine hK _ _ ?_; clear hK K
      -- 3: call F147(t57, t58, t59)
      refine stepS _ rfl (by kernel_rfl) (fun K hK => ?_); go_simp
      refine ⟨?_, ?_⟩
      · intro wk hk hg hu; go_simp; refine upon_enter ((k3.out _).mono ?_); rintro e w' ⟨rfl, hb⟩; exact ⟨_, rfl, left_V (p := fun u => u = .tuple #[.agg (W4 y), .bool true]) rfl (hb) rfl⟩
      rintro ⟨v3, lo3, hi3⟩ - - (rfl : v3 = _)
      refine hK _ _ ?_; clear hK K
      -- 4: t60
      refine stepK rfl (by kernel_rfl) (fun K hK => ?_); go_simp
      apply Exists.intro; apply And.intro; (focus (intro wk hk; go_simp; exact ⟨rfl, rfl⟩)); refine hK _ _ ?_; clear hK K
      -- 5: extract t56 #0
      refine stepK rfl (by kernel_rfl) (fun K hK => ?_); go_simp
      apply Exists.intro; apply And.intro; (focus (intro wk hk; go_simp; exact ⟨rfl, rfl⟩)); refine hK _ _ ?_; clear hK K
      -- 6: extract t56 #1
      refine stepK rfl (by kernel_rfl) (fun K hK => ?_); go_simp
      apply Exists.intro; apply And.intro; (focus (intro wk hk; go_simp; exact ⟨rfl, rfl⟩)); refine hK _ _ ?_; clear hK K
      -- 7: alloc<31>
      refine stepS _ rfl (by kernel_rfl) (fun K hK => ?_); go_simp
      refine ⟨?_, ?_⟩
      · intro wk hk hg hu; go_simp; exact left_A rfl rfl
      rintro ⟨v7, lo7_7, hi7⟩ hlo7 hhi7 ⟨e7, f7⟩
      replace e7 : v7 = .pointer (some ⟨lo7_7, 0, none⟩) := e7; replace f7 : hi7 = lo7_7 + 1 := f7; replace hlo7 : _ ≤ lo7_7 := hlo7; subst e7; subst f7
      refine hK _ _ ?_; clear hK K
      -- 8: store<31> *t15 = t61
      refine stepS _ rfl (by kernel_rfl) (fun K hK => ?_); go_simp
      refine ⟨?_, ?_⟩
      · exact sStoreT rfl rfl rfl rfl rfl rfl rfl (by kernel_rfl) rfl (by kernel_rfl) (by decide) aggOf_congr
      rintro ⟨v8, lo8, hi8⟩ - - (rfl : v8 = undef)
      refine hK _ _ ?_; clear hK K
      -- 9: assign t62
      refine stepK rfl (by kernel_rfl) (fun K hK => ?_); go_simp
      apply Exists.intro; apply And.intro; (focus (intro wk hk; go_simp; exact ⟨rfl, rfl⟩)); refine hK _ _ ?_; clear hK K
      refine stepN ?_
      refine hQ _ _ ?_
      intro w5 hT hG hF
      have hbw5 := hT.below
      have r8 : Row w5 lo7_7 31 ((W4 y)) := (hF 8 _ rfl rfl (by decide)).2
      replace r0 := r0.below hbw5 r0.lt
      replace r1 := r1.below hbw5 r1.lt
      replace r2 := r2.below hbw5 r2.lt
      replace r3 := r3.below hbw5 r3.lt
      replace r4 := r4.below hbw5 r4.lt
      replace r5 := r5.below hbw5 r5.lt
      replace r6 := r6.below hbw5 r6.lt
      replace r7 := r7.below hbw5 r7.lt
      replace hl := hl.trans (hbw5.mono hl.size)
      clear hT hG hF hbw5 hQ QQ L hlo7 hhi7
      go_upto_region 8 with (fail)
      let L : List Sp := [sV 2 [] [] (fun u => u = .tuple #[.agg (W4 t), .bool true]), sA 6 31 [7] #[.int .u64 0, .int .u64 0, .int .u64 0, .int .u64 0], sT 7 6 31 [4] (fun g => aggOf g 4)]
      refine wp_region_six0 (shs L) (look6 L) (None_) (by kernel_rfl) (by kernel_rfl) (mk_St L [] [] (by kernel_rfl) (by kernel_rfl) ⟨ok_V ⟨_, rfl⟩, ok_A, ok_T aggOf_congr, trivial⟩ (by simp)) ?_
      intro QQ hQ
      -- 0: load<31> *t9
      refine stepK rfl (by kernel_rfl) (fun K hK => ?_); go_simp
      apply Exists.intro; apply And.intro; (focus exact kLoad rfl rfl aggT31 r5 rfl id); refine hK _ _ ?_; clear hK K
      -- 1: load<31> *t5
      refine stepK rfl (by kernel_rfl) (fun K hK => ?_); go_simp
      apply Exists.intro; apply And.intro; (focus exact kLoad rfl rfl aggT31 r2 rfl id); refine hK _ _ ?_; clear hK K
      -- 2: call F51(t64, t65)
      refine stepS _ rfl (by kernel_rfl) (fun K hK => ?_); go_simp
      refine ⟨?_, ?_⟩
      · intro wk hk hg hu; go_simp; refine upon_enter ((k4.out _).mono ?_); rintro e w' ⟨rfl, hb⟩; exact ⟨_, rfl, left_V (p := fun u => u = .tuple #[.agg (W4 t), .bool true]) rfl (hb) rfl⟩
      rintro ⟨v2, lo2, hi2⟩ - - (rfl : v2 = _)
      refine hK _ _ ?_; clear hK K
      -- 3: t66
      refine stepK rfl (by kernel_rfl) (fun K hK => ?_); go_simp
      apply Exists.intro; apply And.intro; (focus (intro wk hk; go_simp; exact ⟨rfl, rfl⟩)); refine hK _ _ ?_; clear hK K
      -- 4: extract t63 #0
      refine stepK rfl (by kernel_rfl) (fun K hK => ?_); go_simp
      apply Exists.intro; apply And.intro; (focus (intro wk hk; go_simp; exact ⟨rfl, rfl⟩)); refine hK _ _ ?_; clear hK K
      -- 5: extract t63 #1
      refine stepK rfl (by kernel_rfl) (fun K hK => ?_); go_simp
      apply Exists.intro; apply And.intro; (focus (intro wk hk; go_simp; exact ⟨rfl, rfl⟩)); refine hK _ _ ?_; clear hK K
      -- 6: alloc<31>
      refine stepS _ rfl (by kernel_rfl) (fun K hK => ?_); go_simp
      refine ⟨?_, ?_⟩
      · intro wk hk hg hu; go_simp; exact left_A rfl rfl
      rintro ⟨v6, lo8_6, hi6⟩ hlo6 hhi6 ⟨e6, f6⟩
      replace e6 : v6 = .pointer (some ⟨lo8_6, 0, none⟩) := e6; replace f6 : hi6 = lo8_6 + 1 := f6; replace hlo6 : _ ≤ lo8_6 := hlo6; subst e6; subst f6
      refine hK _ _ ?_; clear hK K
      -- 7: store<31> *t17 = t67
      refine stepS _ rfl (by kernel_rfl) (fun K hK => ?_); go_simp
      refine ⟨?_, ?_⟩
      · exact sStoreT rfl rfl rfl rfl rfl rfl rfl (by kernel_rfl) rfl (by kernel_rfl) (by decide) aggOf_congr
      rintro ⟨v7, lo7, hi7⟩ - - (rfl : v7 = undef)
      refine hK _ _ ?_; clear hK K
      -- 8: assign t68
      refine stepK rfl (by kernel_rfl) (fun K hK => ?_); go_simp
      apply Exists.intro; apply And.intro; (focus (intro wk hk; go_simp; exact ⟨rfl, rfl⟩)); refine hK _ _ ?_; clear hK K
      refine stepN ?_
      refine hQ _ _ ?_
      intro w6 hT hG hF
      have hbw6 := hT.below
      have r9 : Row w6 lo8_6 31 ((W4 t)) := (hF 7 _ rfl rfl (by decide)).2
      replace r0 := r0.below hbw6 r0.lt
      replace r1 := r1.below hbw6 r1.lt
      replace r2 := r2.below hbw6 r2.lt
      replace r3 := r3.below hbw6 r3.lt
      replace r4 := r4.below hbw6 r4.lt
      replace r5 := r5.below hbw6 r5.lt
      replace r6 := r6.below hbw6 r6.lt
      replace r7 := r7.below hbw6 r7.lt
      replace r8 := r8.below hbw6 r8.lt
      replace hl := hl.trans (hbw6.mono hl.size)
      clear hT hG hF hbw6 hQ QQ L hlo6 hhi6
      go_upto_region 9 with (fail)
      let L : List Sp := [sV 5 [] [] (fun u => u = .int .i64 c)]
      refine wp_region_six0 (shs L) (look6 L) (None_) (by kernel_rfl) (by kernel_rfl) (mk_St L [] [] (by kernel_rfl) (by kernel_rfl) ⟨ok_V ⟨_, rfl⟩, trivial⟩ (by simp)) ?_
      intro QQ hQ
      -- 0: t16
      refine stepK rfl (by kernel_rfl) (fun K hK => ?_); go_simp
      apply Exists.intro; apply And.intro; (focus (intro wk hk; go_simp; exact ⟨rfl, rfl⟩)); refine hK _ _ ?_; clear hK K
      -- 1: not<4> t69
      refine stepK rfl (by kernel_rfl) (fun K hK => ?_); go_simp
      apply Exists.intro; apply And.intro; (focus (intro wk hk; go_simp; exact ⟨rfl, rfl⟩)); refine hK _ _ ?_; clear hK K
      -- 2: t70
      refine stepK rfl (by kernel_rfl) (fun K hK => ?_); go_simp
      apply Exists.intro; apply And.intro; (focus (intro wk hk; go_simp; exact ⟨rfl, rfl⟩)); refine hK _ _ ?_; clear hK K
      -- 3: load<31> *t15
      refine stepK rfl (by kernel_rfl) (fun K hK => ?_); go_simp
      first | (refine hK _ _ ?_; clear hK K) | (apply Exists.intro; apply And.intro; (focus exact kLoad rfl rfl aggT31 r8 rfl id); refine hK _ _ ?_; clear hK K)
      -- 4: load<31> *t17
      refine stepK rfl (by kernel_rfl) (fun K hK => ?_); go_simp
      first | (refine hK _ _ ?_; clear hK K) | (apply Exists.intro; apply And.intro; (focus exact kLoad rfl rfl aggT31 r9 rfl id); refine hK _ _ ?_; clear hK K)
      -- 5: call F57(t72, t73)
      refine stepS _ rfl (by kernel_rfl) (fun K hK => ?_); go_simp
      refine ⟨?_, ?_⟩
      · intro wk hk hg hu; go_simp; refine upon_enter ((k5.out _).mono ?_); rintro e w' ⟨rfl, hb⟩; exact ⟨_, rfl, left_V (p := fun u => u = .int .i64 c) rfl (hb) rfl⟩
      rintro ⟨v5, lo5, hi5⟩ - - (rfl : v5 = _)
      refine hK _ _ ?_; clear hK K
      -- 6: gtr<3> t74, 0
      refine stepK rfl (by kernel_rfl) (fun K hK => ?_); go_simp
      first | (refine hK _ _ ?_; clear hK K) | (apply Exists.intro; apply And.intro; (focus (intro wk hk; go_simp; exact ⟨rfl, rfl⟩)); refine hK _ _ ?_; clear hK K)
      -- 7: pick t71 ? true : t75
      refine stepK rfl (by kernel_rfl) (fun K hK => ?_); go_simp
      apply Exists.intro; apply And.intro; (focus (intro wk hk; go_simp; exact ⟨rfl, rfl⟩)); refine hK _ _ ?_; clear hK K
      refine stepN ?_
      refine hQ _ _ ?_
      intro w7 hT hG hF
      have hbw7 := hT.below
      replace r0 := r0.below hbw7 r0.lt
      replace r1 := r1.below hbw7 r1.lt
      replace r2 := r2.below hbw7 r2.lt
      replace r3 := r3.below hbw7 r3.lt
      replace r4 := r4.below hbw7 r4.lt
      replace r5 := r5.below hbw7 r5.lt
      replace r6 := r6.below hbw7 r6.lt
      replace r7 := r7.below hbw7 r7.lt
      replace r8 := r8.below hbw7 r8.lt
      replace r9 := r9.below hbw7 r9.lt
      replace hl := hl.trans (hbw7.mono hl.size)
      clear hT hG hF hbw7 hQ QQ L 
      go_upto_region 11 with (fail)
      let L : List Sp := [sV 3 [] [] (fun u => u = .bool true), sV 5 [] [] (fun u => u = .bool true)]
      refine wp_region_six0 (shs L) (look6 L) (None_) (by kernel_rfl) (by kernel_rfl) (mk_St L [] [] (by kernel_rfl) (by kernel_rfl) ⟨ok_V ⟨_, rfl⟩, ok_V ⟨_, rfl⟩, trivial⟩ (by simp)) ?_
      intro QQ hQ
      -- 0: load<31> *t15
      refine stepK rfl (by kernel_rfl) (fun K hK => ?_); go_simp
      apply Exists.intro; apply And.intro; (focus exact kLoad rfl rfl aggT31 r8 rfl id); refine hK _ _ ?_; clear hK K
      -- 1: load<31> *t17
      refine stepK rfl (by kernel_rfl) (fun K hK => ?_); go_simp
      apply Exists.intro; apply And.intro; (focus exact kLoad rfl rfl aggT31 r9 rfl id); refine hK _ _ ?_; clear hK K
      -- 2: load<31> *t11
      refine stepK rfl (by kernel_rfl) (fun K hK => ?_); go_simp
      apply Exists.intro; apply And.intro; (focus exact kLoad rfl rfl aggT31 r6 rfl id); refine hK _ _ ?_; clear hK K
      -- 3: call F150(t77, t78, t79)
      refine stepS _ rfl (by kernel_rfl) (fun K hK => ?_); go_simp
      refine ⟨?_, ?_⟩
      · intro wk hk hg hu; go_simp; refine upon_enter ((k6.out _).mono ?_); rintro e w' ⟨rfl, hb⟩; exact ⟨_, rfl, left_V (p := fun u => u = .bool true) rfl (hb) rfl⟩
      rintro ⟨v3, lo3, hi3⟩ - - (rfl : v3 = _)
      refine hK _ _ ?_; clear hK K
      -- 4: t80
      refine stepK rfl (by kernel_rfl) (fun K hK => ?_); go_simp
      apply Exists.intro; apply And.intro; (focus (intro wk hk; go_simp; exact ⟨rfl, rfl⟩)); refine hK _ _ ?_; clear hK K
      -- 5: call F149()
      refine stepS _ rfl (by kernel_rfl) (fun K hK => ?_); go_simp
      refine ⟨?_, ?_⟩
      · intro wk hk hg hu; go_simp; refine upon_enter ((k7.out _).mono ?_); rintro e w' ⟨rfl, hb⟩; exact ⟨_, rfl, left_V (p := fun u => u = .bool true) rfl (hb) rfl⟩
      rintro ⟨v5, lo5, hi5⟩ - - (rfl : v5 = _)
      refine hK _ _ ?_; clear hK K
      -- 6: pick t81 ? t82 : false
      refine stepK rfl (by kernel_rfl) (fun K hK => ?_); go_simp
      apply Exists.intro; apply And.intro; (focus (intro wk hk; go_simp; exact ⟨rfl, rfl⟩)); refine hK _ _ ?_; clear hK K
      -- 7: assign t83
      refine stepK rfl (by kernel_rfl) (fun K hK => ?_); go_simp
      apply Exists.intro; apply And.intro; (focus (intro wk hk; go_simp; exact ⟨rfl, rfl⟩)); refine hK _ _ ?_; clear hK K
      refine stepN ?_
      refine hQ _ _ ?_
      intro w8 hT hG hF
      have hbw8 := hT.below
      replace r0 := r0.below hbw8 r0.lt
      replace r1 := r1.below hbw8 r1.lt
      replace r2 := r2.below hbw8 r2.lt
      replace r3 := r3.below hbw8 r3.lt
      replace r4 := r4.below hbw8 r4.lt
      replace r5 := r5.below hbw8 r5.lt
      replace r6 := r6.below hbw8 r6.lt
      replace r7 := r7.below hbw8 r7.lt
      replace r8 := r8.below hbw8 r8.lt
      replace r9 := r9.below hbw8 r9.lt
      replace hl := hl.trans (hbw8.mono hl.size)
      clear hT hG hF hbw8 hQ QQ L 
      go_wp2_with fail
      go_ret
      exact ⟨rfl, hl⟩
set_option maxRecDepth 100000 in
set_option maxHeartbeats 16000000 in
theorem factormoves_walk (d f m : Nat) (hd : d < M) (hf : f < M) (hm : m < M) (w : World) : Calls Try.prog 30 #[.agg (W8 d f), .agg (W4 m)] w (Ret w (.bool true)) := by
  obtain ⟨v, hv⟩ : ∃ v, v = wrN d f E18 := ⟨_, rfl⟩
  have vl : v < M := hv ▸ wr_lt d f E18
  cases hg : goodF d f E18
  · have hb := mv_bad (m := m) hg
    have hz := mv_zero hb
    have k0 := Lib.hid (show ∀ wx, Calls Try.prog 107 #[] wx (Ret wx (.agg (W4 E18))) from fun wx => by have h := oneU  wx; exact h)
    have k1 := Lib.hid (show ∀ wx, Calls Try.prog 147 #[.agg (W4 d), .agg (W4 f), .agg (W4 E18)] wx (Ret wx (.tuple #[.agg (W4 v), .bool false])) from fun wx => by have h := worthU hd hf E18_lt wx; rw [← hv, hg] at h; exact h)
    have k2 := Lib.hid (show ∀ wx, Calls Try.prog 153 #[.agg (W4 d), .agg (W4 f), .agg (W4 m)] wx (Ret wx (.tuple #[.agg (W4 0), .bool false])) from fun wx => by have h := moveU hd hf hm wx; rw [hz, hb] at h; exact h)
    have k3 := Lib.hid (show ∀ wx, Calls Try.prog 149 #[] wx (Ret wx (.bool true)) from fun wx => by have h := lives20U  wx; exact h)
    have q0 : ∀ wx, (Op.equalIn 10000 31 (.agg (W4 0)) (.agg #[.int .u64 0, .int .u64 0, .int .u64 0, .int .u64 0])).run Try.prog wx = .ok true wx := fun wx => by rw [eqU0 M_pos, decide_eq_true rfl]
    clear hv hg hz hb
    go_enter Try.func30, Try.ntmps30
    apply wp_seq_eq
    focus
      intro J hJ
      go_wp2_with fail
      exact hJ
    refine wp_abs (Mem w [(w.heap.size, 132, W8 d f), (w.heap.size + 1, 31, W4 m)]) ⟨by go_grown, ?_, ?_, trivial⟩ ?_
    · repeat (first | (refine Row.new_at ?_; simp; done) | refine Row.alloc ?_ _)
    · repeat (first | (refine Row.new_at ?_; simp; done) | refine Row.alloc ?_ _)
    intro w0 hM
    obtain ⟨hl, r0, r1, -⟩ := hM
    go_upto_region 1 with (fail)
    let L : List Sp := [sA 4 31 [6] #[.int .u64 0, .int .u64 0, .int .u64 0, .int .u64 0], sA 5 31 [7] #[.int .u64 0, .int .u64 0, .int .u64 0, .int .u64 0], sT 6 4 31 [1] (fun g => aggOf g 1), sT 7 5 31 [3] (fun g => aggOf g 3)]
    refine wp_region_six (shs L) (look6 L) (None_) (by kernel_rfl) (by kernel_rfl) (mk_St L [] [] (by kernel_rfl) (by kernel_rfl) ⟨ok_A, ok_A, ok_T aggOf_congr, ok_T aggOf_congr, trivial⟩ (by simp)) ?_
    intro QQ hQ
    -- 0: indexAddr<132> t2[0]
    refine stepK rfl (by kernel_rfl) (fun K hK => ?_); go_simp
    apply Exists.intro; apply And.intro; (focus (intro wk hk; go_simp; exact ⟨rfl, rfl⟩)); refine hK _ _ ?_; clear hK K
    -- 1: load<31> *t13
    refine stepK rfl (by kernel_rfl) (fun K hK => ?_); go_simp
    apply Exists.intro; apply And.intro; (focus exact kLoadMid rfl rfl aggT31 r0 (W8_hi d f) rfl id); refine hK _ _ ?_; clear hK K
    -- 2: indexAddr<132> t2[1]
    refine stepK rfl (by kernel_rfl) (fun K hK => ?_); go_simp
    apply Exists.intro; apply And.intro; (focus (intro wk hk; go_simp; exact ⟨rfl, rfl⟩)); refine hK _ _ ?_; clear hK K
    -- 3: load<31> *t15
    refine stepK rfl (by kernel_rfl) (fun K hK => ?_); go_simp
    apply Exists.intro; apply And.intro; (focus exact kLoadMid rfl rfl aggT31 r0 (W8_lo d f) rfl id); refine hK _ _ ?_; clear hK K
    -- 4: alloc<31>
    refine stepS _ rfl (by kernel_rfl) (fun K hK => ?_); go_simp
    refine ⟨?_, ?_⟩
    · intro wk hk hg hu; go_simp; exact left_A rfl rfl
    rintro ⟨v4, lo1_4, hi4⟩ hlo4 hhi4 ⟨e4, f4⟩
    replace e4 : v4 = .pointer (some ⟨lo1_4, 0, none⟩) := e4; replace f4 : hi4 = lo1_4 + 1 := f4; replace hlo4 : _ ≤ lo1_4 := hlo4; subst e4; subst f4
    refine hK _ _ ?_; clear hK K
    -- 5: alloc<31>
    refine stepS _ rfl (by kernel_rfl) (fun K hK => ?_); go_simp
    refine ⟨?_, ?_⟩
    · intro wk hk hg hu; go_simp; exact left_A rfl rfl
    rintro ⟨v5, lo1_5, hi5⟩ hlo5 hhi5 ⟨e5, f5⟩
    replace e5 : v5 = .pointer (some ⟨lo1_5, 0, none⟩) := e5; replace f5 : hi5 = lo1_5 + 1 := f5; replace hlo5 : _ ≤ lo1_5 := hlo5; subst e5; subst f5
    refine hK _ _ ?_; clear hK K
    -- 6: store<31> *t5 = t14
    refine stepS _ rfl (by kernel_rfl) (fun K hK => ?_); go_simp
    refine ⟨?_, ?_⟩
    · exact sStoreT rfl rfl rfl rfl rfl rfl rfl (by kernel_rfl) rfl (by kernel_rfl) (by decide) aggOf_congr
    rintro ⟨v6, lo6, hi6⟩ - - (rfl : v6 = undef)
    refine hK _ _ ?_; clear hK K
    -- 7: store<31> *t6 = t16
    refine stepS _ rfl (by kernel_rfl) (fun K hK => ?_); go_simp
    refine ⟨?_, ?_⟩
    · exact sStoreT rfl rfl rfl rfl rfl rfl rfl (by kernel_rfl) rfl (by kernel_rfl) (by decide) aggOf_congr
    rintro ⟨v7, lo7, hi7⟩ - - (rfl : v7 = undef)
    refine hK _ _ ?_; clear hK K
    refine stepN ?_
    refine hQ _ _ ?_
    intro w1 hT hG hF
    have hbw1 := hT.undrew.below
    have r2 : Row w1 lo1_4 31 ((W4 d)) := (hF 6 _ rfl rfl (by decide)).2
    have r3 : Row w1 lo1_5 31 ((W4 f)) := (hF 7 _ rfl rfl (by decide)).2
    replace r0 := r0.below hbw1 r0.lt
    replace r1 := r1.below hbw1 r1.lt
    replace hl := hl.trans (hbw1.mono hl.size)
    clear hT hG hF hbw1 hQ QQ L hlo4 hhi4 hlo5 hhi5
    go_upto_region 2 with (fail)
    let L : List Sp := [sV 2 [] [] (fun u => u = .agg (W4 E18)), sV 3 [] [] (fun u => u = .tuple #[.agg (W4 v), .bool false]), sA 7 31 [8] #[.int .u64 0, .int .u64 0, .int .u64 0, .int .u64 0], sT 8 7 31 [5] (fun g => aggOf g 5)]
    refine wp_region_six (shs L) (look6 L) (None_) (by kernel_rfl) (by kernel_rfl) (mk_St L [] [] (by kernel_rfl) (by kernel_rfl) ⟨ok_V ⟨_, rfl⟩, ok_V ⟨_, rfl⟩, ok_A, ok_T aggOf_congr, trivial⟩ (by simp)) ?_
    intro QQ hQ
    -- 0: load<31> *t5
    refine stepK rfl (by kernel_rfl) (fun K hK => ?_); go_simp
    apply Exists.intro; apply And.intro; (focus exact kLoad rfl rfl aggT31 r2 rfl id); refine hK _ _ ?_; clear hK K
    -- 1: load<31> *t6
    refine stepK rfl (by kernel_rfl) (fun K hK => ?_); go_simp
    apply Exists.intro; apply And.intro; (focus exact kLoad rfl rfl aggT31 r3 rfl id); refine hK _ _ ?_; clear hK K
    -- 2: call F107()
    refine stepS _ rfl (by kernel_rfl) (fun K hK => ?_); go_simp
    refine ⟨?_, ?_⟩
    · intro wk hk hg hu; go_simp; refine upon_enter ((k0.out _).mono ?_); rintro e w' ⟨rfl, hb⟩; exact ⟨_, rfl, left_V (p := fun u => u = .agg (W4 E18)) rfl (hb) rfl⟩
    rintro ⟨v2, lo2, hi2⟩ - - (rfl : v2 = _)
    refine hK _ _ ?_; clear hK K
    -- 3: call F147(t18, t19, t20)
    refine stepS _ rfl (by kernel_rfl) (fun K hK => ?_); go_simp
    refine ⟨?_, ?_⟩
    · intro wk hk hg hu; go_simp; refine upon_enter ((k1.out _).mono ?_); rintro e w' ⟨rfl, hb⟩; exact ⟨_, rfl, left_V (p := fun u => u = .tuple #[.agg (W4 v), .bool false]) rfl (hb) rfl⟩
    rintro ⟨v3, lo3, hi3⟩ - - (rfl : v3 = _)
    refine hK _ _ ?_; clear hK K
    -- 4: t21
    refine stepK rfl (by kernel_rfl) (fun K hK => ?_); go_simp
    apply Exists.intro; apply And.intro; (focus (intro wk hk; go_simp; exact ⟨rfl, rfl⟩)); refine hK _ _ ?_; clear hK K
    -- 5: extract t17 #0
    refine stepK rfl (by kernel_rfl) (fun K hK => ?_); go_simp
    apply Exists.intro; apply And.intro; (focus (intro wk hk; go_simp; exact ⟨rfl, rfl⟩)); refine hK _ _ ?_; clear hK K
    -- 6: extract t17 #1
    refine stepK rfl (by kernel_rfl) (fun K hK => ?_); go_simp
    apply Exists.intro; apply And.intro; (focus (intro wk hk; go_simp; exact ⟨rfl, rfl⟩)); refine hK _ _ ?_; clear hK K
    -- 7: alloc<31>
    refine stepS _ rfl (by kernel_rfl) (fun K hK => ?_); go_simp
    refine ⟨?_, ?_⟩
    · intro wk hk hg hu; go_simp; exact left_A rfl rfl
    rintro ⟨v7, lo2_7, hi7⟩ hlo7 hhi7 ⟨e7, f7⟩
    replace e7 : v7 = .pointer (some ⟨lo2_7, 0, none⟩) := e7; replace f7 : hi7 = lo2_7 + 1 := f7; replace hlo7 : _ ≤ lo2_7 := hlo7; subst e7; subst f7
    refine hK _ _ ?_; clear hK K
    -- 8: store<31> *t7 = t22
    refine stepS _ rfl (by kernel_rfl) (fun K hK => ?_); go_simp
    refine ⟨?_, ?_⟩
    · exact sStoreT rfl rfl rfl rfl rfl rfl rfl (by kernel_rfl) rfl (by kernel_rfl) (by decide) aggOf_congr
    rintro ⟨v8, lo8, hi8⟩ - - (rfl : v8 = undef)
    refine hK _ _ ?_; clear hK K
    -- 9: assign t23
    refine stepK rfl (by kernel_rfl) (fun K hK => ?_); go_simp
    apply Exists.intro; apply And.intro; (focus (intro wk hk; go_simp; exact ⟨rfl, rfl⟩)); refine hK _ _ ?_; clear hK K
    refine stepN ?_
    refine hQ _ _ ?_
    intro w2 hT hG hF
    have hbw2 := hT.undrew.below
    have r4 : Row w2 lo2_7 31 ((W4 v)) := (hF 8 _ rfl rfl (by decide)).2
    replace r0 := r0.below hbw2 r0.lt
    replace r1 := r1.below hbw2 r1.lt
    replace r2 := r2.below hbw2 r2.lt
    replace r3 := r3.below hbw2 r3.lt
    replace hl := hl.trans (hbw2.mono hl.size)
    clear hT hG hF hbw2 hQ QQ L hlo7 hhi7
    go_upto_region 3 with (fail)
    let L : List Sp := [sV 3 [] [] (fun u => u = .tuple #[.agg (W4 0), .bool false]), sA 7 31 [8] #[.int .u64 0, .int .u64 0, .int .u64 0, .int .u64 0], sT 8 7 31 [5] (fun g => aggOf g 5)]
    refine wp_region_six0 (shs L) (look6 L) (None_) (by kernel_rfl) (by kernel_rfl) (mk_St L [] [] (by kernel_rfl) (by kernel_rfl) ⟨ok_V ⟨_, rfl⟩, ok_A, ok_T aggOf_congr, trivial⟩ (by simp)) ?_
    intro QQ hQ
    -- 0: load<31> *t5
    refine stepK rfl (by kernel_rfl) (fun K hK => ?_); go_simp
    apply Exists.intro; apply And.intro; (focus exact kLoad rfl rfl aggT31 r2 rfl id); refine hK _ _ ?_; clear hK K
    -- 1: load<31> *t6
    refine stepK rfl (by kernel_rfl) (fun K hK => ?_); go_simp
    apply Exists.intro; apply And.intro; (focus exact kLoad rfl rfl aggT31 r3 rfl id); refine hK _ _ ?_; clear hK K
    -- 2: load<31> *t3
    refine stepK rfl (by kernel_rfl) (fun K hK => ?_); go_simp
    apply Exists.intro; apply And.intro; (focus exact kLoad rfl rfl aggT31 r1 rfl id); refine hK _ _ ?_; clear hK K
    -- 3: call F153(t25, t26, t27)
    refine stepS _ rfl (by kernel_rfl) (fun K hK => ?_); go_simp
    refine ⟨?_, ?_⟩
    · intro wk hk hg hu; go_simp; refine upon_enter ((k2.out _).mono ?_); rintro e w' ⟨rfl, hb⟩; exact ⟨_, rfl, left_V (p := fun u => u = .tuple #[.agg (W4 0), .bool false]) rfl (hb) rfl⟩
    rintro ⟨v3, lo3, hi3⟩ - - (rfl : v3 = _)
    refine hK _ _ ?_; clear hK K
    -- 4: t28
    refine stepK rfl (by kernel_rfl) (fun K hK => ?_); go_simp
    apply Exists.intro; apply And.intro; (focus (intro wk hk; go_simp; exact ⟨rfl, rfl⟩)); refine hK _ _ ?_; clear hK K
    -- 5: extract t24 #0
    refine stepK rfl (by kernel_rfl) (fun K hK => ?_); go_simp
    apply Exists.intro; apply And.intro; (focus (intro wk hk; go_simp; exact ⟨rfl, rfl⟩)); refine hK _ _ ?_; clear hK K
    -- 6: extract t24 #1
    refine stepK rfl (by kernel_rfl) (fun K hK => ?_); go_simp
    apply Exists.intro; apply And.intro; (focus (intro wk hk; go_simp; exact ⟨rfl, rfl⟩)); refine hK _ _ ?_; clear hK K
    -- 7: alloc<31>
    refine stepS _ rfl (by kernel_rfl) (fun K hK => ?_); go_simp
    refine ⟨?_, ?_⟩
    · intro wk hk hg hu; go_simp; exact left_A rfl rfl
    rintro ⟨v7, lo3_7, hi7⟩ hlo7 hhi7 ⟨e7, f7⟩
    replace e7 : v7 = .pointer (some ⟨lo3_7, 0, none⟩) := e7; replace f7 : hi7 = lo3_7 + 1 := f7; replace hlo7 : _ ≤ lo3_7 := hlo7; subst e7; subst f7
    refine hK _ _ ?_; clear hK K
    -- 8: store<31> *t9 = t29
    refine stepS _ rfl (by kernel_rfl) (fun K hK => ?_); go_simp
    refine ⟨?_, ?_⟩
    · exact sStoreT rfl rfl rfl rfl rfl rfl rfl (by kernel_rfl) rfl (by kernel_rfl) (by decide) aggOf_congr
    rintro ⟨v8, lo8, hi8⟩ - - (rfl : v8 = undef)
    refine hK _ _ ?_; clear hK K
    -- 9: assign t30
    refine stepK rfl (by kernel_rfl) (fun K hK => ?_); go_simp
    apply Exists.intro; apply And.intro; (focus (intro wk hk; go_simp; exact ⟨rfl, rfl⟩)); refine hK _ _ ?_; clear hK K
    refine stepN ?_
    refine hQ _ _ ?_
    intro w3 hT hG hF
    have hbw3 := hT.below
    have r5 : Row w3 lo3_7 31 ((W4 0)) := (hF 8 _ rfl rfl (by decide)).2
    replace r0 := r0.below hbw3 r0.lt
    replace r1 := r1.below hbw3 r1.lt
    replace r2 := r2.below hbw3 r2.lt
    replace r3 := r3.below hbw3 r3.lt
    replace r4 := r4.below hbw3 r4.lt
    replace hl := hl.trans (hbw3.mono hl.size)
    clear hT hG hF hbw3 hQ QQ L hlo7 hhi7
    go_upto_region 5 with (fail)
    let L : List Sp := [sV 4 [] [] (fun u => u = .bool true)]
    refine wp_region_six0 (shs L) (look6 L) (None_) (by kernel_rfl) (by kernel_rfl) (mk_St L [] [] (by kernel_rfl) (by kernel_rfl) ⟨ok_V ⟨_, rfl⟩, trivial⟩ (by simp)) ?_
    intro QQ hQ
    -- 0: load<31> *t9
    refine stepK rfl (by kernel_rfl) (fun K hK => ?_); go_simp
    apply Exists.intro; apply And.intro; (focus exact kLoad rfl rfl aggT31 r5 rfl id); refine hK _ _ ?_; clear hK K
    -- 1: build<31> 
    refine stepK rfl (by kernel_rfl) (fun K hK => ?_); go_simp
    apply Exists.intro; apply And.intro; (focus (intro wk hk; go_simp; exact ⟨rfl, rfl⟩)); refine hK _ _ ?_; clear hK K
    -- 2: eql<31> t37, t38
    refine stepK rfl (by kernel_rfl) (fun K hK => ?_); go_simp
    apply Exists.intro; apply And.intro; (focus (intro wk hk; go_simp; exact ⟨rfl, rfl⟩)); refine hK _ _ ?_; clear hK K
    -- 3: t39
    refine stepK rfl (by kernel_rfl) (fun K hK => ?_); go_simp
    apply Exists.intro; apply And.intro; (focus (intro wk hk; go_simp; exact ⟨rfl, rfl⟩)); refine hK _ _ ?_; clear hK K
    -- 4: call F149()
    refine stepS _ rfl (by kernel_rfl) (fun K hK => ?_); go_simp
    refine ⟨?_, ?_⟩
    · intro wk hk hg hu; go_simp; refine upon_enter ((k3.out _).mono ?_); rintro e w' ⟨rfl, hb⟩; exact ⟨_, rfl, left_V (p := fun u => u = .bool true) rfl (hb) rfl⟩
    rintro ⟨v4, lo4, hi4⟩ - - (rfl : v4 = _)
    refine hK _ _ ?_; clear hK K
    -- 5: pick t40 ? t41 : false
    refine stepK rfl (by kernel_rfl) (fun K hK => ?_); go_simp
    apply Exists.intro; apply And.intro; (focus (intro wk hk; go_simp; exact ⟨rfl, rfl⟩)); refine hK _ _ ?_; clear hK K
    -- 6: assign t42
    refine stepK rfl (by kernel_rfl) (fun K hK => ?_); go_simp
    apply Exists.intro; apply And.intro; (focus (intro wk hk; go_simp; exact ⟨rfl, rfl⟩)); refine hK _ _ ?_; clear hK K
    refine stepN ?_
    refine hQ _ _ ?_
    intro w4 hT hG hF
    have hbw4 := hT.below
    replace r0 := r0.below hbw4 r0.lt
    replace r1 := r1.below hbw4 r1.lt
    replace r2 := r2.below hbw4 r2.lt
    replace r3 := r3.below hbw4 r3.lt
    replace r4 := r4.below hbw4 r4.lt
    replace r5 := r5.below hbw4 r5.lt
    replace hl := hl.trans (hbw4.mono hl.size)
    clear hT hG hF hbw4 hQ QQ L 
    go_wp2_with fail
    go_ret
    exact ⟨rfl, hl⟩
  · cases hb : mvB d f m
    · have hz := mv_zero hb
      have k0 := Lib.hid (show ∀ wx, Calls Try.prog 107 #[] wx (Ret wx (.agg (W4 E18))) from fun wx => by have h := oneU  wx; exact h)
      have k1 := Lib.hid (show ∀ wx, Calls Try.prog 147 #[.agg (W4 d), .agg (W4 f), .agg (W4 E18)] wx (Ret wx (.tuple #[.agg (W4 v), .bool true])) from fun wx => by have h := worthU hd hf E18_lt wx; rw [← hv, hg] at h; exact h)
      have k2 := Lib.hid (show ∀ wx, Calls Try.prog 153 #[.agg (W4 d), .agg (W4 f), .agg (W4 m)] wx (Ret wx (.tuple #[.agg (W4 0), .bool false])) from fun wx => by have h := moveU hd hf hm wx; rw [hz, hb] at h; exact h)
      have k3 := Lib.hid (show ∀ wx, Calls Try.prog 149 #[] wx (Ret wx (.bool true)) from fun wx => by have h := lives20U  wx; exact h)
      have q0 : ∀ wx, (Op.equalIn 10000 31 (.agg (W4 0)) (.agg #[.int .u64 0, .int .u64 0, .int .u64 0, .int .u64 0])).run Try.prog wx = .ok true wx := fun wx => by rw [eqU0 M_pos, decide_eq_true rfl]
      clear hv hg hz hb
      go_enter Try.func30, Try.ntmps30
      apply wp_seq_eq
      focus
        intro J hJ
        go_wp2_with fail
        exact hJ
      refine wp_abs (Mem w [(w.heap.size, 132, W8 d f), (w.heap.size + 1, 31, W4 m)]) ⟨by go_grown, ?_, ?_, trivial⟩ ?_
      · repeat (first | (refine Row.new_at ?_; simp; done) | refine Row.alloc ?_ _)
      · repeat (first | (refine Row.new_at ?_; simp; done) | refine Row.alloc ?_ _)
      intro w0 hM
      obtain ⟨hl, r0, r1, -⟩ := hM
      go_upto_region 1 with (fail)
      let L : List Sp := [sA 4 31 [6] #[.int .u64 0, .int .u64 0, .int .u64 0, .int .u64 0], sA 5 31 [7] #[.int .u64 0, .int .u64 0, .int .u64 0, .int .u64 0], sT 6 4 31 [1] (fun g => aggOf g 1), sT 7 5 31 [3] (fun g => aggOf g 3)]
      refine wp_region_six (shs L) (look6 L) (None_) (by kernel_rfl) (by kernel_rfl) (mk_St L [] [] (by kernel_rfl) (by kernel_rfl) ⟨ok_A, ok_A, ok_T aggOf_congr, ok_T aggOf_congr, trivial⟩ (by simp)) ?_
      intro QQ hQ
      -- 0: indexAddr<132> t2[0]
      refine stepK rfl (by kernel_rfl) (fun K hK => ?_); go_simp
      apply Exists.intro; apply And.intro; (focus (intro wk hk; go_simp; exact ⟨rfl, rfl⟩)); refine hK _ _ ?_; clear hK K
      -- 1: load<31> *t13
      refine stepK rfl (by kernel_rfl) (fun K hK => ?_); go_simp
      apply Exists.intro; apply And.intro; (focus exact kLoadMid rfl rfl aggT31 r0 (W8_hi d f) rfl id); refine hK _ _ ?_; clear hK K
      -- 2: indexAddr<132> t2[1]
      refine stepK rfl (by kernel_rfl) (fun K hK => ?_); go_simp
      apply Exists.intro; apply And.intro; (focus (intro wk hk; go_simp; exact ⟨rfl, rfl⟩)); refine hK _ _ ?_; clear hK K
      -- 3: load<31> *t15
      refine stepK rfl (by kernel_rfl) (fun K hK => ?_); go_simp
      apply Exists.intro; apply And.intro; (focus exact kLoadMid rfl rfl aggT31 r0 (W8_lo d f) rfl id); refine hK _ _ ?_; clear hK K
      -- 4: alloc<31>
      refine stepS _ rfl (by kernel_rfl) (fun K hK => ?_); go_simp
      refine ⟨?_, ?_⟩
      · intro wk hk hg hu; go_simp; exact left_A rfl rfl
      rintro ⟨v4, lo1_4, hi4⟩ hlo4 hhi4 ⟨e4, f4⟩
      replace e4 : v4 = .pointer (some ⟨lo1_4, 0, none⟩) := e4; replace f4 : hi4 = lo1_4 + 1 := f4; replace hlo4 : _ ≤ lo1_4 := hlo4; subst e4; subst f4
      refine hK _ _ ?_; clear hK K
      -- 5: alloc<31>
      refine stepS _ rfl (by kernel_rfl) (fun K hK => ?_); go_simp
      refine ⟨?_, ?_⟩
      · intro wk hk hg hu; go_simp; exact left_A rfl rfl
      rintro ⟨v5, lo1_5, hi5⟩ hlo5 hhi5 ⟨e5, f5⟩
      replace e5 : v5 = .pointer (some ⟨lo1_5, 0, none⟩) := e5; replace f5 : hi5 = lo1_5 + 1 := f5; replace hlo5 : _ ≤ lo1_5 := hlo5; subst e5; subst f5
      refine hK _ _ ?_; clear hK K
      -- 6: store<31> *t5 = t14
      refine stepS _ rfl (by kernel_rfl) (fun K hK => ?_); go_simp
      refine ⟨?_, ?_⟩
      · exact sStoreT rfl rfl rfl rfl rfl rfl rfl (by kernel_rfl) rfl (by kernel_rfl) (by decide) aggOf_congr
      rintro ⟨v6, lo6, hi6⟩ - - (rfl : v6 = undef)
      refine hK _ _ ?_; clear hK K
      -- 7: store<31> *t6 = t16
      refine stepS _ rfl (by kernel_rfl) (fun K hK => ?_); go_simp
      refine ⟨?_, ?_⟩
      · exact sStoreT rfl rfl rfl rfl rfl rfl rfl (by kernel_rfl) rfl (by kernel_rfl) (by decide) aggOf_congr
      rintro ⟨v7, lo7, hi7⟩ - - (rfl : v7 = undef)
      refine hK _ _ ?_; clear hK K
      refine stepN ?_
      refine hQ _ _ ?_
      intro w1 hT hG hF
      have hbw1 := hT.undrew.below
      have r2 : Row w1 lo1_4 31 ((W4 d)) := (hF 6 _ rfl rfl (by decide)).2
      have r3 : Row w1 lo1_5 31 ((W4 f)) := (hF 7 _ rfl rfl (by decide)).2
      replace r0 := r0.below hbw1 r0.lt
      replace r1 := r1.below hbw1 r1.lt
      replace hl := hl.trans (hbw1.mono hl.size)
      clear hT hG hF hbw1 hQ QQ L hlo4 hhi4 hlo5 hhi5
      go_upto_region 2 with (fail)
      let L : List Sp := [sV 2 [] [] (fun u => u = .agg (W4 E18)), sV 3 [] [] (fun u => u = .tuple #[.agg (W4 v), .bool true]), sA 7 31 [8] #[.int .u64 0, .int .u64 0, .int .u64 0, .int .u64 0], sT 8 7 31 [5] (fun g => aggOf g 5)]
      refine wp_region_six (shs L) (look6 L) (None_) (by kernel_rfl) (by kernel_rfl) (mk_St L [] [] (by kernel_rfl) (by kernel_rfl) ⟨ok_V ⟨_, rfl⟩, ok_V ⟨_, rfl⟩, ok_A, ok_T aggOf_congr, trivial⟩ (by simp)) ?_
      intro QQ hQ
      -- 0: load<31> *t5
      refine stepK rfl (by kernel_rfl) (fun K hK => ?_); go_simp
      apply Exists.intro; apply And.intro; (focus exact kLoad rfl rfl aggT31 r2 rfl id); refine hK _ _ ?_; clear hK K
      -- 1: load<31> *t6
      refine stepK rfl (by kernel_rfl) (fun K hK => ?_); go_simp
      apply Exists.intro; apply And.intro; (focus exact kLoad rfl rfl aggT31 r3 rfl id); refine hK _ _ ?_; clear hK K
      -- 2: call F107()
      refine stepS _ rfl (by kernel_rfl) (fun K hK => ?_); go_simp
      refine ⟨?_, ?_⟩
      · intro wk hk hg hu; go_simp; refine upon_enter ((k0.out _).mono ?_); rintro e w' ⟨rfl, hb⟩; exact ⟨_, rfl, left_V (p := fun u => u = .agg (W4 E18)) rfl (hb) rfl⟩
      rintro ⟨v2, lo2, hi2⟩ - - (rfl : v2 = _)
      refine hK _ _ ?_; clear hK K
      -- 3: call F147(t18, t19, t20)
      refine stepS _ rfl (by kernel_rfl) (fun K hK => ?_); go_simp
      refine ⟨?_, ?_⟩
      · intro wk hk hg hu; go_simp; refine upon_enter ((k1.out _).mono ?_); rintro e w' ⟨rfl, hb⟩; exact ⟨_, rfl, left_V (p := fun u => u = .tuple #[.agg (W4 v), .bool true]) rfl (hb) rfl⟩
      rintro ⟨v3, lo3, hi3⟩ - - (rfl : v3 = _)
      refine hK _ _ ?_; clear hK K
      -- 4: t21
      refine stepK rfl (by kernel_rfl) (fun K hK => ?_); go_simp
      apply Exists.intro; apply And.intro; (focus (intro wk hk; go_simp; exact ⟨rfl, rfl⟩)); refine hK _ _ ?_; clear hK K
      -- 5: extract t17 #0
      refine stepK rfl (by kernel_rfl) (fun K hK => ?_); go_simp
      apply Exists.intro; apply And.intro; (focus (intro wk hk; go_simp; exact ⟨rfl, rfl⟩)); refine hK _ _ ?_; clear hK K
      -- 6: extract t17 #1
      refine stepK rfl (by kernel_rfl) (fun K hK => ?_); go_simp
      apply Exists.intro; apply And.intro; (focus (intro wk hk; go_simp; exact ⟨rfl, rfl⟩)); refine hK _ _ ?_; clear hK K
      -- 7: alloc<31>
      refine stepS _ rfl (by kernel_rfl) (fun K hK => ?_); go_simp
      refine ⟨?_, ?_⟩
      · intro wk hk hg hu; go_simp; exact left_A rfl rfl
      rintro ⟨v7, lo2_7, hi7⟩ hlo7 hhi7 ⟨e7, f7⟩
      replace e7 : v7 = .pointer (some ⟨lo2_7, 0, none⟩) := e7; replace f7 : hi7 = lo2_7 + 1 := f7; replace hlo7 : _ ≤ lo2_7 := hlo7; subst e7; subst f7
      refine hK _ _ ?_; clear hK K
      -- 8: store<31> *t7 = t22
      refine stepS _ rfl (by kernel_rfl) (fun K hK => ?_); go_simp
      refine ⟨?_, ?_⟩
      · exact sStoreT rfl rfl rfl rfl rfl rfl rfl (by kernel_rfl) rfl (by kernel_rfl) (by decide) aggOf_congr
      rintro ⟨v8, lo8, hi8⟩ - - (rfl : v8 = undef)
      refine hK _ _ ?_; clear hK K
      -- 9: assign t23
      refine stepK rfl (by kernel_rfl) (fun K hK => ?_); go_simp
      apply Exists.intro; apply And.intro; (focus (intro wk hk; go_simp; exact ⟨rfl, rfl⟩)); refine hK _ _ ?_; clear hK K
      refine stepN ?_
      refine hQ _ _ ?_
      intro w2 hT hG hF
      have hbw2 := hT.undrew.below
      have r4 : Row w2 lo2_7 31 ((W4 v)) := (hF 8 _ rfl rfl (by decide)).2
      replace r0 := r0.below hbw2 r0.lt
      replace r1 := r1.below hbw2 r1.lt
      replace r2 := r2.below hbw2 r2.lt
      replace r3 := r3.below hbw2 r3.lt
      replace hl := hl.trans (hbw2.mono hl.size)
      clear hT hG hF hbw2 hQ QQ L hlo7 hhi7
      go_upto_region 3 with (fail)
      let L : List Sp := [sV 3 [] [] (fun u => u = .tuple #[.agg (W4 0), .bool false]), sA 7 31 [8] #[.int .u64 0, .int .u64 0, .int .u64 0, .int .u64 0], sT 8 7 31 [5] (fun g => aggOf g 5)]
      refine wp_region_six0 (shs L) (look6 L) (None_) (by kernel_rfl) (by kernel_rfl) (mk_St L [] [] (by kernel_rfl) (by kernel_rfl) ⟨ok_V ⟨_, rfl⟩, ok_A, ok_T aggOf_congr, trivial⟩ (by simp)) ?_
      intro QQ hQ
      -- 0: load<31> *t5
      refine stepK rfl (by kernel_rfl) (fun K hK => ?_); go_simp
      apply Exists.intro; apply And.intro; (focus exact kLoad rfl rfl aggT31 r2 rfl id); refine hK _ _ ?_; clear hK K
      -- 1: load<31> *t6
      refine stepK rfl (by kernel_rfl) (fun K hK => ?_); go_simp
      apply Exists.intro; apply And.intro; (focus exact kLoad rfl rfl aggT31 r3 rfl id); refine hK _ _ ?_; clear hK K
      -- 2: load<31> *t3
      refine stepK rfl (by kernel_rfl) (fun K hK => ?_); go_simp
      apply Exists.intro; apply And.intro; (focus exact kLoad rfl rfl aggT31 r1 rfl id); refine hK _ _ ?_; clear hK K
      -- 3: call F153(t25, t26, t27)
      refine stepS _ rfl (by kernel_rfl) (fun K hK => ?_); go_simp
      refine ⟨?_, ?_⟩
      · intro wk hk hg hu; go_simp; refine upon_enter ((k2.out _).mono ?_); rintro e w' ⟨rfl, hb⟩; exact ⟨_, rfl, left_V (p := fun u => u = .tuple #[.agg (W4 0), .bool false]) rfl (hb) rfl⟩
      rintro ⟨v3, lo3, hi3⟩ - - (rfl : v3 = _)
      refine hK _ _ ?_; clear hK K
      -- 4: t28
      refine stepK rfl (by kernel_rfl) (fun K hK => ?_); go_simp
      apply Exists.intro; apply And.intro; (focus (intro wk hk; go_simp; exact ⟨rfl, rfl⟩)); refine hK _ _ ?_; clear hK K
      -- 5: extract t24 #0
      refine stepK rfl (by kernel_rfl) (fun K hK => ?_); go_simp
      apply Exists.intro; apply And.intro; (focus (intro wk hk; go_simp; exact ⟨rfl, rfl⟩)); refine hK _ _ ?_; clear hK K
      -- 6: extract t24 #1
      refine stepK rfl (by kernel_rfl) (fun K hK => ?_); go_simp
      apply Exists.intro; apply And.intro; (focus (intro wk hk; go_simp; exact ⟨rfl, rfl⟩)); refine hK _ _ ?_; clear hK K
      -- 7: alloc<31>
      refine stepS _ rfl (by kernel_rfl) (fun K hK => ?_); go_simp
      refine ⟨?_, ?_⟩
      · intro wk hk hg hu; go_simp; exact left_A rfl rfl
      rintro ⟨v7, lo3_7, hi7⟩ hlo7 hhi7 ⟨e7, f7⟩
      replace e7 : v7 = .pointer (some ⟨lo3_7, 0, none⟩) := e7; replace f7 : hi7 = lo3_7 + 1 := f7; replace hlo7 : _ ≤ lo3_7 := hlo7; subst e7; subst f7
      refine hK _ _ ?_; clear hK K
      -- 8: store<31> *t9 = t29
      refine stepS _ rfl (by kernel_rfl) (fun K hK => ?_); go_simp
      refine ⟨?_, ?_⟩
      · exact sStoreT rfl rfl rfl rfl rfl rfl rfl (by kernel_rfl) rfl (by kernel_rfl) (by decide) aggOf_congr
      rintro ⟨v8, lo8, hi8⟩ - - (rfl : v8 = undef)
      refine hK _ _ ?_; clear hK K
      -- 9: assign t30
      refine stepK rfl (by kernel_rfl) (fun K hK => ?_); go_simp
      apply Exists.intro; apply And.intro; (focus (intro wk hk; go_simp; exact ⟨rfl, rfl⟩)); refine hK _ _ ?_; clear hK K
      refine stepN ?_
      refine hQ _ _ ?_
      intro w3 hT hG hF
      have hbw3 := hT.below
      have r5 : Row w3 lo3_7 31 ((W4 0)) := (hF 8 _ rfl rfl (by decide)).2
      replace r0 := r0.below hbw3 r0.lt
      replace r1 := r1.below hbw3 r1.lt
      replace r2 := r2.below hbw3 r2.lt
      replace r3 := r3.below hbw3 r3.lt
      replace r4 := r4.below hbw3 r4.lt
      replace hl := hl.trans (hbw3.mono hl.size)
      clear hT hG hF hbw3 hQ QQ L hlo7 hhi7
      go_upto_region 5 with (fail)
      let L : List Sp := [sV 4 [] [] (fun u => u = .bool true)]
      refine wp_region_six0 (shs L) (look6 L) (None_) (by kernel_rfl) (by kernel_rfl) (mk_St L [] [] (by kernel_rfl) (by kernel_rfl) ⟨ok_V ⟨_, rfl⟩, trivial⟩ (by simp)) ?_
      intro QQ hQ
      -- 0: load<31> *t9
      refine stepK rfl (by kernel_rfl) (fun K hK => ?_); go_simp
      apply Exists.intro; apply And.intro; (focus exact kLoad rfl rfl aggT31 r5 rfl id); refine hK _ _ ?_; clear hK K
      -- 1: build<31> 
      refine stepK rfl (by kernel_rfl) (fun K hK => ?_); go_simp
      apply Exists.intro; apply And.intro; (focus (intro wk hk; go_simp; exact ⟨rfl, rfl⟩)); refine hK _ _ ?_; clear hK K
      -- 2: eql<31> t37, t38
      refine stepK rfl (by kernel_rfl) (fun K hK => ?_); go_simp
      apply Exists.intro; apply And.intro; (focus (intro wk hk; go_simp; exact ⟨rfl, rfl⟩)); refine hK _ _ ?_; clear hK K
      -- 3: t39
      refine stepK rfl (by kernel_rfl) (fun K hK => ?_); go_simp
      apply Exists.intro; apply And.intro; (focus (intro wk hk; go_simp; exact ⟨rfl, rfl⟩)); refine hK _ _ ?_; clear hK K
      -- 4: call F149()
      refine stepS _ rfl (by kernel_rfl) (fun K hK => ?_); go_simp
      refine ⟨?_, ?_⟩
      · intro wk hk hg hu; go_simp; refine upon_enter ((k3.out _).mono ?_); rintro e w' ⟨rfl, hb⟩; exact ⟨_, rfl, left_V (p := fun u => u = .bool true) rfl (hb) rfl⟩
      rintro ⟨v4, lo4, hi4⟩ - - (rfl : v4 = _)
      refine hK _ _ ?_; clear hK K
      -- 5: pick t40 ? t41 : false
      refine stepK rfl (by kernel_rfl) (fun K hK => ?_); go_simp
      apply Exists.intro; apply And.intro; (focus (intro wk hk; go_simp; exact ⟨rfl, rfl⟩)); refine hK _ _ ?_; clear hK K
      -- 6: assign t42
      refine stepK rfl (by kernel_rfl) (fun K hK => ?_); go_simp
      apply Exists.intro; apply And.intro; (focus (intro wk hk; go_simp; exact ⟨rfl, rfl⟩)); refine hK _ _ ?_; clear hK K
      refine stepN ?_
      refine hQ _ _ ?_
      intro w4 hT hG hF
      have hbw4 := hT.below
      replace r0 := r0.below hbw4 r0.lt
      replace r1 := r1.below hbw4 r1.lt
      replace r2 := r2.below hbw4 r2.lt
      replace r3 := r3.below hbw4 r3.lt
      replace r4 := r4.below hbw4 r4.lt
      replace r5 := r5.below hbw4 r5.lt
      replace hl := hl.trans (hbw4.mono hl.size)
      clear hT hG hF hbw4 hQ QQ L 
      go_wp2_with fail
      go_ret
      exact ⟨rfl, hl⟩
    · have L := move_law hb
      obtain ⟨g, hge⟩ : ∃ g, g = mvN d f m := ⟨_, rfl⟩
      have gl : g < M := hge ▸ mv_lt d f m
      rw [← hge, ← hv] at L
      obtain ⟨y, hy⟩ : ∃ y, y = wrN d g m := ⟨_, rfl⟩
      have yl : y < M := hy ▸ wr_lt d g m
      rw [← hy] at L
      obtain ⟨c, hc⟩ : ∃ c, c = cmpN y v := ⟨_, rfl⟩
      have h1 : c ≤ 0 := hc ▸ cmpN_le L.2.1
      have k0 := Lib.hid (show ∀ wx, Calls Try.prog 107 #[] wx (Ret wx (.agg (W4 E18))) from fun wx => by have h := oneU  wx; exact h)
      have k1 := Lib.hid (show ∀ wx, Calls Try.prog 147 #[.agg (W4 d), .agg (W4 f), .agg (W4 E18)] wx (Ret wx (.tuple #[.agg (W4 v), .bool true])) from fun wx => by have h := worthU hd hf E18_lt wx; rw [← hv, hg] at h; exact h)
      have k2 := Lib.hid (show ∀ wx, Calls Try.prog 153 #[.agg (W4 d), .agg (W4 f), .agg (W4 m)] wx (Ret wx (.tuple #[.agg (W4 g), .bool true])) from fun wx => by have h := moveU hd hf hm wx; rw [← hge, hb] at h; exact h)
      have k3 := Lib.hid (show ∀ wx, Calls Try.prog 147 #[.agg (W4 d), .agg (W4 g), .agg (W4 m)] wx (Ret wx (.tuple #[.agg (W4 y), .bool true])) from fun wx => by have h := worthU hd gl hm wx; rw [← hy, L.1] at h; exact h)
      have k4 := Lib.hid (show ∀ wx, Calls Try.prog 57 #[.agg (W4 y), .agg (W4 v)] wx (Ret wx (.int .i64 c)) from fun wx => by have h := refcmpU yl vl wx; rw [← hc] at h; exact h)
      have k5 := Lib.hid (show ∀ wx, Calls Try.prog 150 #[.agg (W4 y), .agg (W4 v), .agg (W4 g)] wx (Ret wx (.bool true)) from fun wx => nearU yl vl gl L.2.2 wx)
      have k6 := Lib.hid (show ∀ wx, Calls Try.prog 149 #[] wx (Ret wx (.bool true)) from fun wx => by have h := lives20U  wx; exact h)
      clear hv hg hge hb hy L hc
      go_enter Try.func30, Try.ntmps30
      apply wp_seq_eq
      focus
        intro J hJ
        go_wp2_with fail
        exact hJ
      refine wp_abs (Mem w [(w.heap.size, 132, W8 d f), (w.heap.size + 1, 31, W4 m)]) ⟨by go_grown, ?_, ?_, trivial⟩ ?_
      · repeat (first | (refine Row.new_at ?_; simp; done) | refine Row.alloc ?_ _)
      · repeat (first | (refine Row.new_at ?_; simp; done) | refine Row.alloc ?_ _)
      intro w0 hM
      obtain ⟨hl, r0, r1, -⟩ := hM
      go_upto_region 1 with (fail)
      let L : List Sp := [sA 4 31 [6] #[.int .u64 0, .int .u64 0, .int .u64 0, .int .u64 0], sA 5 31 [7] #[.int .u64 0, .int .u64 0, .int .u64 0, .int .u64 0], sT 6 4 31 [1] (fun g => aggOf g 1), sT 7 5 31 [3] (fun g => aggOf g 3)]
      refine wp_region_six (shs L) (look6 L) (None_) (by kernel_rfl) (by kernel_rfl) (mk_St L [] [] (by kernel_rfl) (by kernel_rfl) ⟨ok_A, ok_A, ok_T aggOf_congr, ok_T aggOf_congr, trivial⟩ (by simp)) ?_
      intro QQ hQ
      -- 0: indexAddr<132> t2[0]
      refine stepK rfl (by kernel_rfl) (fun K hK => ?_); go_simp
      apply Exists.intro; apply And.intro; (focus (intro wk hk; go_simp; exact ⟨rfl, rfl⟩)); refine hK _ _ ?_; clear hK K
      -- 1: load<31> *t13
      refine stepK rfl (by kernel_rfl) (fun K hK => ?_); go_simp
      apply Exists.intro; apply And.intro; (focus exact kLoadMid rfl rfl aggT31 r0 (W8_hi d f) rfl id); refine hK _ _ ?_; clear hK K
      -- 2: indexAddr<132> t2[1]
      refine stepK rfl (by kernel_rfl) (fun K hK => ?_); go_simp
      apply Exists.intro; apply And.intro; (focus (intro wk hk; go_simp; exact ⟨rfl, rfl⟩)); refine hK _ _ ?_; clear hK K
      -- 3: load<31> *t15
      refine stepK rfl (by kernel_rfl) (fun K hK => ?_); go_simp
      apply Exists.intro; apply And.intro; (focus exact kLoadMid rfl rfl aggT31 r0 (W8_lo d f) rfl id); refine hK _ _ ?_; clear hK K
      -- 4: alloc<31>
      refine stepS _ rfl (by kernel_rfl) (fun K hK => ?_); go_simp
      refine ⟨?_, ?_⟩
      · intro wk hk hg hu; go_simp; exact left_A rfl rfl
      rintro ⟨v4, lo1_4, hi4⟩ hlo4 hhi4 ⟨e4, f4⟩
      replace e4 : v4 = .pointer (some ⟨lo1_4, 0, none⟩) := e4; replace f4 : hi4 = lo1_4 + 1 := f4; replace hlo4 : _ ≤ lo1_4 := hlo4; subst e4; subst f4
      refine hK _ _ ?_; clear hK K
      -- 5: alloc<31>
      refine stepS _ rfl (by kernel_rfl) (fun K hK => ?_); go_simp
      refine ⟨?_, ?_⟩
      · intro wk hk hg hu; go_simp; exact left_A rfl rfl
      rintro ⟨v5, lo1_5, hi5⟩ hlo5 hhi5 ⟨e5, f5⟩
      replace e5 : v5 = .pointer (some ⟨lo1_5, 0, none⟩) := e5; replace f5 : hi5 = lo1_5 + 1 := f5; replace hlo5 : _ ≤ lo1_5 := hlo5; subst e5; subst f5
      refine hK _ _ ?_; clear hK K
      -- 6: store<31> *t5 = t14
      refine stepS _ rfl (by kernel_rfl) (fun K hK => ?_); go_simp
      refine ⟨?_, ?_⟩
      · exact sStoreT rfl rfl rfl rfl rfl rfl rfl (by kernel_rfl) rfl (by kernel_rfl) (by decide) aggOf_congr
      rintro ⟨v6, lo6, hi6⟩ - - (rfl : v6 = undef)
      refine hK _ _ ?_; clear hK K
      -- 7: store<31> *t6 = t16
      refine stepS _ rfl (by kernel_rfl) (fun K hK => ?_); go_simp
      refine ⟨?_, ?_⟩
      · exact sStoreT rfl rfl rfl rfl rfl rfl rfl (by kernel_rfl) rfl (by kernel_rfl) (by decide) aggOf_congr
      rintro ⟨v7, lo7, hi7⟩ - - (rfl : v7 = undef)
      refine hK _ _ ?_; clear hK K
      refine stepN ?_
      refine hQ _ _ ?_
      intro w1 hT hG hF
      have hbw1 := hT.undrew.below
      have r2 : Row w1 lo1_4 31 ((W4 d)) := (hF 6 _ rfl rfl (by decide)).2
      have r3 : Row w1 lo1_5 31 ((W4 f)) := (hF 7 _ rfl rfl (by decide)).2
      replace r0 := r0.below hbw1 r0.lt
      replace r1 := r1.below hbw1 r1.lt
      replace hl := hl.trans (hbw1.mono hl.size)
      clear hT hG hF hbw1 hQ QQ L hlo4 hhi4 hlo5 hhi5
      go_upto_region 2 with (fail)
      let L : List Sp := [sV 2 [] [] (fun u => u = .agg (W4 E18)), sV 3 [] [] (fun u => u = .tuple #[.agg (W4 v), .bool true]), sA 7 31 [8] #[.int .u64 0, .int .u64 0, .int .u64 0, .int .u64 0], sT 8 7 31 [5] (fun g => aggOf g 5)]
      refine wp_region_six (shs L) (look6 L) (None_) (by kernel_rfl) (by kernel_rfl) (mk_St L [] [] (by kernel_rfl) (by kernel_rfl) ⟨ok_V ⟨_, rfl⟩, ok_V ⟨_, rfl⟩, ok_A, ok_T aggOf_congr, trivial⟩ (by simp)) ?_
      intro QQ hQ
      -- 0: load<31> *t5
      refine stepK rfl (by kernel_rfl) (fun K hK => ?_); go_simp
      apply Exists.intro; apply And.intro; (focus exact kLoad rfl rfl aggT31 r2 rfl id); refine hK _ _ ?_; clear hK K
      -- 1: load<31> *t6
      refine stepK rfl (by kernel_rfl) (fun K hK => ?_); go_simp
      apply Exists.intro; apply And.intro; (focus exact kLoad rfl rfl aggT31 r3 rfl id); refine hK _ _ ?_; clear hK K
      -- 2: call F107()
      refine stepS _ rfl (by kernel_rfl) (fun K hK => ?_); go_simp
      refine ⟨?_, ?_⟩
      · intro wk hk hg hu; go_simp; refine upon_enter ((k0.out _).mono ?_); rintro e w' ⟨rfl, hb⟩; exact ⟨_, rfl, left_V (p := fun u => u = .agg (W4 E18)) rfl (hb) rfl⟩
      rintro ⟨v2, lo2, hi2⟩ - - (rfl : v2 = _)
      refine hK _ _ ?_; clear hK K
      -- 3: call F147(t18, t19, t20)
      refine stepS _ rfl (by kernel_rfl) (fun K hK => ?_); go_simp
      refine ⟨?_, ?_⟩
      · intro wk hk hg hu; go_simp; refine upon_enter ((k1.out _).mono ?_); rintro e w' ⟨rfl, hb⟩; exact ⟨_, rfl, left_V (p := fun u => u = .tuple #[.agg (W4 v), .bool true]) rfl (hb) rfl⟩
      rintro ⟨v3, lo3, hi3⟩ - - (rfl : v3 = _)
      refine hK _ _ ?_; clear hK K
      -- 4: t21
      refine stepK rfl (by kernel_rfl) (fun K hK => ?_); go_simp
      apply Exists.intro; apply And.intro; (focus (intro wk hk; go_simp; exact ⟨rfl, rfl⟩)); refine hK _ _ ?_; clear hK K
      -- 5: extract t17 #0
      refine stepK rfl (by kernel_rfl) (fun K hK => ?_); go_simp
      apply Exists.intro; apply And.intro; (focus (intro wk hk; go_simp; exact ⟨rfl, rfl⟩)); refine hK _ _ ?_; clear hK K
      -- 6: extract t17 #1
      refine stepK rfl (by kernel_rfl) (fun K hK => ?_); go_simp
      apply Exists.intro; apply And.intro; (focus (intro wk hk; go_simp; exact ⟨rfl, rfl⟩)); refine hK _ _ ?_; clear hK K
      -- 7: alloc<31>
      refine stepS _ rfl (by kernel_rfl) (fun K hK => ?_); go_simp
      refine ⟨?_, ?_⟩
      · intro wk hk hg hu; go_simp; exact left_A rfl rfl
      rintro ⟨v7, lo2_7, hi7⟩ hlo7 hhi7 ⟨e7, f7⟩
      replace e7 : v7 = .pointer (some ⟨lo2_7, 0, none⟩) := e7; replace f7 : hi7 = lo2_7 + 1 := f7; replace hlo7 : _ ≤ lo2_7 := hlo7; subst e7; subst f7
      refine hK _ _ ?_; clear hK K
      -- 8: store<31> *t7 = t22
      refine stepS _ rfl (by kernel_rfl) (fun K hK => ?_); go_simp
      refine ⟨?_, ?_⟩
      · exact sStoreT rfl rfl rfl rfl rfl rfl rfl (by kernel_rfl) rfl (by kernel_rfl) (by decide) aggOf_congr
      rintro ⟨v8, lo8, hi8⟩ - - (rfl : v8 = undef)
      refine hK _ _ ?_; clear hK K
      -- 9: assign t23
      refine stepK rfl (by kernel_rfl) (fun K hK => ?_); go_simp
      apply Exists.intro; apply And.intro; (focus (intro wk hk; go_simp; exact ⟨rfl, rfl⟩)); refine hK _ _ ?_; clear hK K
      refine stepN ?_
      refine hQ _ _ ?_
      intro w2 hT hG hF
      have hbw2 := hT.undrew.below
      have r4 : Row w2 lo2_7 31 ((W4 v)) := (hF 8 _ rfl rfl (by decide)).2
      replace r0 := r0.below hbw2 r0.lt
      replace r1 := r1.below hbw2 r1.lt
      replace r2 := r2.below hbw2 r2.lt
      replace r3 := r3.below hbw2 r3.lt
      replace hl := hl.trans (hbw2.mono hl.size)
      clear hT hG hF hbw2 hQ QQ L hlo7 hhi7
      go_upto_region 3 with (fail)
      let L : List Sp := [sV 3 [] [] (fun u => u = .tuple #[.agg (W4 g), .bool true]), sA 7 31 [8] #[.int .u64 0, .int .u64 0, .int .u64 0, .int .u64 0], sT 8 7 31 [5] (fun g => aggOf g 5)]
      refine wp_region_six0 (shs L) (look6 L) (None_) (by kernel_rfl) (by kernel_rfl) (mk_St L [] [] (by kernel_rfl) (by kernel_rfl) ⟨ok_V ⟨_, rfl⟩, ok_A, ok_T aggOf_congr, trivial⟩ (by simp)) ?_
      intro QQ hQ
      -- 0: load<31> *t5
      refine stepK rfl (by kernel_rfl) (fun K hK => ?_); go_simp
      apply Exists.intro; apply And.intro; (focus exact kLoad rfl rfl aggT31 r2 rfl id); refine hK _ _ ?_; clear hK K
      -- 1: load<31> *t6
      refine stepK rfl (by kernel_rfl) (fun K hK => ?_); go_simp
      apply Exists.intro; apply And.intro; (focus exact kLoad rfl rfl aggT31 r3 rfl id); refine hK _ _ ?_; clear hK K
      -- 2: load<31> *t3
      refine stepK rfl (by kernel_rfl) (fun K hK => ?_); go_simp
      apply Exists.intro; apply And.intro; (focus exact kLoad rfl rfl aggT31 r1 rfl id); refine hK _ _ ?_; clear hK K
      -- 3: call F153(t25, t26, t27)
      refine stepS _ rfl (by kernel_rfl) (fun K hK => ?_); go_simp
      refine ⟨?_, ?_⟩
      · intro wk hk hg hu; go_simp; refine upon_enter ((k2.out _).mono ?_); rintro e w' ⟨rfl, hb⟩; exact ⟨_, rfl, left_V (p := fun u => u = .tuple #[.agg (W4 g), .bool true]) rfl (hb) rfl⟩
      rintro ⟨v3, lo3, hi3⟩ - - (rfl : v3 = _)
      refine hK _ _ ?_; clear hK K
      -- 4: t28
      refine stepK rfl (by kernel_rfl) (fun K hK => ?_); go_simp
      apply Exists.intro; apply And.intro; (focus (intro wk hk; go_simp; exact ⟨rfl, rfl⟩)); refine hK _ _ ?_; clear hK K
      -- 5: extract t24 #0
      refine stepK rfl (by kernel_rfl) (fun K hK => ?_); go_simp
      apply Exists.intro; apply And.intro; (focus (intro wk hk; go_simp; exact ⟨rfl, rfl⟩)); refine hK _ _ ?_; clear hK K
      -- 6: extract t24 #1
      refine stepK rfl (by kernel_rfl) (fun K hK => ?_); go_simp
      apply Exists.intro; apply And.intro; (focus (intro wk hk; go_simp; exact ⟨rfl, rfl⟩)); refine hK _ _ ?_; clear hK K
      -- 7: alloc<31>
      refine stepS _ rfl (by kernel_rfl) (fun K hK => ?_); go_simp
      refine ⟨?_, ?_⟩
      · intro wk hk hg hu; go_simp; exact left_A rfl rfl
      rintro ⟨v7, lo3_7, hi7⟩ hlo7 hhi7 ⟨e7, f7⟩
      replace e7 : v7 = .pointer (some ⟨lo3_7, 0, none⟩) := e7; replace f7 : hi7 = lo3_7 + 1 := f7; replace hlo7 : _ ≤ lo3_7 := hlo7; subst e7; subst f7
      refine hK _ _ ?_; clear hK K
      -- 8: store<31> *t9 = t29
      refine stepS _ rfl (by kernel_rfl) (fun K hK => ?_); go_simp
      refine ⟨?_, ?_⟩
      · exact sStoreT rfl rfl rfl rfl rfl rfl rfl (by kernel_rfl) rfl (by kernel_rfl) (by decide) aggOf_congr
      rintro ⟨v8, lo8, hi8⟩ - - (rfl : v8 = undef)
      refine hK _ _ ?_; clear hK K
      -- 9: assign t30
      refine stepK rfl (by kernel_rfl) (fun K hK => ?_); go_simp
      apply Exists.intro; apply And.intro; (focus (intro wk hk; go_simp; exact ⟨rfl, rfl⟩)); refine hK _ _ ?_; clear hK K
      refine stepN ?_
      refine hQ _ _ ?_
      intro w3 hT hG hF
      have hbw3 := hT.below
      have r5 : Row w3 lo3_7 31 ((W4 g)) := (hF 8 _ rfl rfl (by decide)).2
      replace r0 := r0.below hbw3 r0.lt
      replace r1 := r1.below hbw3 r1.lt
      replace r2 := r2.below hbw3 r2.lt
      replace r3 := r3.below hbw3 r3.lt
      replace r4 := r4.below hbw3 r4.lt
      replace hl := hl.trans (hbw3.mono hl.size)
      clear hT hG hF hbw3 hQ QQ L hlo7 hhi7
      go_upto_region 6 with (fail)
      let L : List Sp := [sV 3 [] [] (fun u => u = .tuple #[.agg (W4 y), .bool true]), sA 7 31 [8] #[.int .u64 0, .int .u64 0, .int .u64 0, .int .u64 0], sT 8 7 31 [5] (fun g => aggOf g 5)]
      refine wp_region_six0 (shs L) (look6 L) (None_) (by kernel_rfl) (by kernel_rfl) (mk_St L [] [] (by kernel_rfl) (by kernel_rfl) ⟨ok_V ⟨_, rfl⟩, ok_A, ok_T aggOf_congr, trivial⟩ (by simp)) ?_
      intro QQ hQ
      -- 0: load<31> *t5
      refine stepK rfl (by kernel_rfl) (fun K hK => ?_); go_simp
      apply Exists.intro; apply And.intro; (focus exact kLoad rfl rfl aggT31 r2 rfl id); refine hK _ _ ?_; clear hK K
      -- 1: load<31> *t9
      refine stepK rfl (by kernel_rfl) (fun K hK => ?_); go_simp
      apply Exists.intro; apply And.intro; (focus exact kLoad rfl rfl aggT31 r5 rfl id); refine hK _ _ ?_; clear hK K
      -- 2: load<31> *t3
      refine stepK rfl (by kernel_rfl) (fun K hK => ?_); go_simp
      apply Exists.intro; apply And.intro; (focus exact kLoad rfl rfl aggT31 r1 rfl id); refine hK _ _ ?_; clear hK K
      -- 3: call F147(t44, t45, t46)
      refine stepS _ rfl (by kernel_rfl) (fun K hK => ?_); go_simp
      refine ⟨?_, ?_⟩
      · intro wk hk hg hu; go_simp; refine upon_enter ((k3.out _).mono ?_); rintro e w' ⟨rfl, hb⟩; exact ⟨_, rfl, left_V (p := fun u => u = .tuple #[.agg (W4 y), .bool true]) rfl (hb) rfl⟩
      rintro ⟨v3, lo3, hi3⟩ - - (rfl : v3 = _)
      refine hK _ _ ?_; clear hK K
      -- 4: t47
      refine stepK rfl (by kernel_rfl) (fun K hK => ?_); go_simp
      apply Exists.intro; apply And.intro; (focus (intro wk hk; go_simp; exact ⟨rfl, rfl⟩)); refine hK _ _ ?_; clear hK K
      -- 5: extract t43 #0
      refine stepK rfl (by kernel_rfl) (fun K hK => ?_); go_simp
      apply Exists.intro; apply And.intro; (focus (intro wk hk; go_simp; exact ⟨rfl, rfl⟩)); refine hK _ _ ?_; clear hK K
      -- 6: extract t43 #1
      refine stepK rfl (by kernel_rfl) (fun K hK => ?_); go_simp
      apply Exists.intro; apply And.intro; (focus (intro wk hk; go_simp; exact ⟨rfl, rfl⟩)); refine hK _ _ ?_; clear hK K
      -- 7: alloc<31>
      refine stepS _ rfl (by kernel_rfl) (fun K hK => ?_); go_simp
      refine ⟨?_, ?_⟩
      · intro wk hk hg hu; go_simp; exact left_A rfl rfl
      rintro ⟨v7, lo6_7, hi7⟩ hlo7 hhi7 ⟨e7, f7⟩
      replace e7 : v7 = .pointer (some ⟨lo6_7, 0, none⟩) := e7; replace f7 : hi7 = lo6_7 + 1 := f7; replace hlo7 : _ ≤ lo6_7 := hlo7; subst e7; subst f7
      refine hK _ _ ?_; clear hK K
      -- 8: store<31> *t11 = t48
      refine stepS _ rfl (by kernel_rfl) (fun K hK => ?_); go_simp
      refine ⟨?_, ?_⟩
      · exact sStoreT rfl rfl rfl rfl rfl rfl rfl (by kernel_rfl) rfl (by kernel_rfl) (by decide) aggOf_congr
      rintro ⟨v8, lo8, hi8⟩ - - (rfl : v8 = undef)
      refine hK _ _ ?_; clear hK K
      -- 9: assign t49
      refine stepK rfl (by kernel_rfl) (fun K hK => ?_); go_simp
      apply Exists.intro; apply And.intro; (focus (intro wk hk; go_simp; exact ⟨rfl, rfl⟩)); refine hK _ _ ?_; clear hK K
      refine stepN ?_
      refine hQ _ _ ?_
      intro w4 hT hG hF
      have hbw4 := hT.below
      have r6 : Row w4 lo6_7 31 ((W4 y)) := (hF 8 _ rfl rfl (by decide)).2
      replace r0 := r0.below hbw4 r0.lt
      replace r1 := r1.below hbw4 r1.lt
      replace r2 := r2.below hbw4 r2.lt
      replace r3 := r3.below hbw4 r3.lt
      replace r4 := r4.below hbw4 r4.lt
      replace r5 := r5.below hbw4 r5.lt
      replace hl := hl.trans (hbw4.mono hl.size)
      clear hT hG hF hbw4 hQ QQ L hlo7 hhi7
      go_upto_region 7 with (fail)
      let L : List Sp := [sV 4 [] [] (fun u => u = .int .i64 c), sV 11 [] [] (fun u => u = .bool true), sV 14 [] [] (fun u => u = .bool true)]
      refine wp_region_six0 (shs L) (look6 L) (None_) (by kernel_rfl) (by kernel_rfl) (mk_St L [] [] (by kernel_rfl) (by kernel_rfl) ⟨ok_V ⟨_, rfl⟩, ok_V ⟨_, rfl⟩, ok_V ⟨_, rfl⟩, trivial⟩ (by simp)) ?_
      intro QQ hQ
      -- 0: t12
      refine stepK rfl (by kernel_rfl) (fun K hK => ?_); go_simp
      apply Exists.intro; apply And.intro; (focus (intro wk hk; go_simp; exact ⟨rfl, rfl⟩)); refine hK _ _ ?_; clear hK K
      -- 1: t50
      refine stepK rfl (by kernel_rfl) (fun K hK => ?_); go_simp
      apply Exists.intro; apply And.intro; (focus (intro wk hk; go_simp; exact ⟨rfl, rfl⟩)); refine hK _ _ ?_; clear hK K
      -- 2: load<31> *t11
      refine stepK rfl (by kernel_rfl) (fun K hK => ?_); go_simp
      first | (refine hK _ _ ?_; clear hK K) | (apply Exists.intro; apply And.intro; (focus exact kLoad rfl rfl aggT31 r6 rfl id); refine hK _ _ ?_; clear hK K)
      -- 3: load<31> *t7
      refine stepK rfl (by kernel_rfl) (fun K hK => ?_); go_simp
      first | (refine hK _ _ ?_; clear hK K) | (apply Exists.intro; apply And.intro; (focus exact kLoad rfl rfl aggT31 r4 rfl id); refine hK _ _ ?_; clear hK K)
      -- 4: call F57(t52, t53)
      refine stepS _ rfl (by kernel_rfl) (fun K hK => ?_); go_simp
      refine ⟨?_, ?_⟩
      · intro wk hk hg hu; go_simp; refine upon_enter ((k4.out _).mono ?_); rintro e w' ⟨rfl, hb⟩; exact ⟨_, rfl, left_V (p := fun u => u = .int .i64 c) rfl (hb) rfl⟩
      rintro ⟨v4, lo4, hi4⟩ - - (rfl : v4 = _)
      refine hK _ _ ?_; clear hK K
      -- 5: leq<3> t54, 0
      refine stepK rfl (by kernel_rfl) (fun K hK => ?_); go_simp
      first | (refine hK _ _ ?_; clear hK K) | (apply Exists.intro; apply And.intro; (focus (intro wk hk; go_simp; exact ⟨rfl, rfl⟩)); refine hK _ _ ?_; clear hK K)
      -- 6: pick t51 ? t55 : false
      refine stepK rfl (by kernel_rfl) (fun K hK => ?_); go_simp
      apply Exists.intro; apply And.intro; (focus (intro wk hk; go_simp; exact ⟨rfl, rfl⟩)); refine hK _ _ ?_; clear hK K
      -- 7: t56
      refine stepK rfl (by kernel_rfl) (fun K hK => ?_); go_simp
      apply Exists.intro; apply And.intro; (focus (intro wk hk; go_simp; exact ⟨rfl, rfl⟩)); refine hK _ _ ?_; clear hK K
      -- 8: load<31> *t11
      refine stepK rfl (by kernel_rfl) (fun K hK => ?_); go_simp
      first | (refine hK _ _ ?_; clear hK K) | (apply Exists.intro; apply And.intro; (focus exact kLoad rfl rfl aggT31 r6 rfl id); refine hK _ _ ?_; clear hK K)
      -- 9: load<31> *t7
      refine stepK rfl (by kernel_rfl) (fun K hK => ?_); go_simp
      first | (refine hK _ _ ?_; clear hK K) | (apply Exists.intro; apply And.intro; (focus exact kLoad rfl rfl aggT31 r4 rfl id); refine hK _ _ ?_; clear hK K)
      -- 10: load<31> *t9
      refine stepK rfl (by kernel_rfl) (fun K hK => ?_); go_simp
      first | (refine hK _ _ ?_; clear hK K) | (apply Exists.intro; apply And.intro; (focus exact kLoad rfl rfl aggT31 r5 rfl id); refine hK _ _ ?_; clear hK K)
      -- 11: call F150(t58, t59, t60)
      refine stepS _ rfl (by kernel_rfl) (fun K hK => ?_); go_simp
      refine ⟨?_, ?_⟩
      · intro wk hk hg hu; go_simp; refine upon_enter ((k5.out _).mono ?_); rintro e w' ⟨rfl, hb⟩; exact ⟨_, rfl, left_V (p := fun u => u = .bool true) rfl (hb) rfl⟩
      rintro ⟨v11, lo11, hi11⟩ - - (rfl : v11 = _)
      refine hK _ _ ?_; clear hK K
      -- 12: pick t57 ? t61 : false
      refine stepK rfl (by kernel_rfl) (fun K hK => ?_); go_simp
      apply Exists.intro; apply And.intro; (focus (intro wk hk; go_simp; exact ⟨rfl, rfl⟩)); refine hK _ _ ?_; clear hK K
      -- 13: t62
      refine stepK rfl (by kernel_rfl) (fun K hK => ?_); go_simp
      apply Exists.intro; apply And.intro; (focus (intro wk hk; go_simp; exact ⟨rfl, rfl⟩)); refine hK _ _ ?_; clear hK K
      -- 14: call F149()
      refine stepS _ rfl (by kernel_rfl) (fun K hK => ?_); go_simp
      refine ⟨?_, ?_⟩
      · intro wk hk hg hu; go_simp; refine upon_enter ((k6.out _).mono ?_); rintro e w' ⟨rfl, hb⟩; exact ⟨_, rfl, left_V (p := fun u => u = .bool true) rfl (hb) rfl⟩
      rintro ⟨v14, lo14, hi14⟩ - - (rfl : v14 = _)
      refine hK _ _ ?_; clear hK K
      -- 15: pick t63 ? t64 : false
      refine stepK rfl (by kernel_rfl) (fun K hK => ?_); go_simp
      apply Exists.intro; apply And.intro; (focus (intro wk hk; go_simp; exact ⟨rfl, rfl⟩)); refine hK _ _ ?_; clear hK K
      -- 16: assign t65
      refine stepK rfl (by kernel_rfl) (fun K hK => ?_); go_simp
      apply Exists.intro; apply And.intro; (focus (intro wk hk; go_simp; exact ⟨rfl, rfl⟩)); refine hK _ _ ?_; clear hK K
      refine stepN ?_
      refine hQ _ _ ?_
      intro w5 hT hG hF
      have hbw5 := hT.below
      replace r0 := r0.below hbw5 r0.lt
      replace r1 := r1.below hbw5 r1.lt
      replace r2 := r2.below hbw5 r2.lt
      replace r3 := r3.below hbw5 r3.lt
      replace r4 := r4.below hbw5 r4.lt
      replace r5 := r5.below hbw5 r5.lt
      replace r6 := r6.below hbw5 r6.lt
      replace hl := hl.trans (hbw5.mono hl.size)
      clear hT hG hF hbw5 hQ QQ L 
      go_wp2_with fail
      go_ret
      exact ⟨rfl, hl⟩
set_option maxRecDepth 100000 in
set_option maxHeartbeats 16000000 in
theorem factorparts_walk (d f m x : Nat) (hd : d < M) (hf : f < M) (hm : m < M) (hx : x < M) (w : World) : Calls Try.prog 29 #[.agg (W8 d f), .agg (W4 m), .agg (W4 x)] w (Ret w (.bool true)) := by
  cases hg : goodF d f m
  · skip
    have k0 := Lib.hid (show ∀ wx, Calls Try.prog 151 #[.agg (W4 d), .agg (W4 f), .agg (W4 m)] wx (Ret wx (.bool false)) from fun wx => by have h := goodFU hd hf hm wx; rw [hg] at h; exact h)
    have k1 := Lib.hid (show ∀ wx, Calls Try.prog 149 #[] wx (Ret wx (.bool true)) from fun wx => by have h := lives20U  wx; exact h)
    clear hg
    go_enter Try.func29, Try.ntmps29
    apply wp_seq_eq
    focus
      intro J hJ
      go_wp2_with fail
      exact hJ
    refine wp_abs (Mem w [(w.heap.size, 132, W8 d f), (w.heap.size + 1, 31, W4 m), (w.heap.size + 1 + 1, 31, W4 x)]) ⟨by go_grown, ?_, ?_, ?_, trivial⟩ ?_
    · repeat (first | (refine Row.new_at ?_; simp; done) | refine Row.alloc ?_ _)
    · repeat (first | (refine Row.new_at ?_; simp; done) | refine Row.alloc ?_ _)
    · repeat (first | (refine Row.new_at ?_; simp; done) | refine Row.alloc ?_ _)
    intro w0 hM
    obtain ⟨hl, r0, r1, r2, -⟩ := hM
    go_upto_region 1 with (fail)
    let L : List Sp := [sA 4 31 [6] #[.int .u64 0, .int .u64 0, .int .u64 0, .int .u64 0], sA 5 31 [7] #[.int .u64 0, .int .u64 0, .int .u64 0, .int .u64 0], sT 6 4 31 [1] (fun g => aggOf g 1), sT 7 5 31 [3] (fun g => aggOf g 3)]
    refine wp_region_six (shs L) (look6 L) (None_) (by kernel_rfl) (by kernel_rfl) (mk_St L [] [] (by kernel_rfl) (by kernel_rfl) ⟨ok_A, ok_A, ok_T aggOf_congr, ok_T aggOf_congr, trivial⟩ (by simp)) ?_
    intro QQ hQ
    -- 0: indexAddr<132> t3[0]
    refine stepK rfl (by kernel_rfl) (fun K hK => ?_); go_simp
    apply Exists.intro; apply And.intro; (focus (intro wk hk; go_simp; exact ⟨rfl, rfl⟩)); refine hK _ _ ?_; clear hK K
    -- 1: load<31> *t21
    refine stepK rfl (by kernel_rfl) (fun K hK => ?_); go_simp
    apply Exists.intro; apply And.intro; (focus exact kLoadMid rfl rfl aggT31 r0 (W8_hi d f) rfl id); refine hK _ _ ?_; clear hK K
    -- 2: indexAddr<132> t3[1]
    refine stepK rfl (by kernel_rfl) (fun K hK => ?_); go_simp
    apply Exists.intro; apply And.intro; (focus (intro wk hk; go_simp; exact ⟨rfl, rfl⟩)); refine hK _ _ ?_; clear hK K
    -- 3: load<31> *t23
    refine stepK rfl (by kernel_rfl) (fun K hK => ?_); go_simp
    apply Exists.intro; apply And.intro; (focus exact kLoadMid rfl rfl aggT31 r0 (W8_lo d f) rfl id); refine hK _ _ ?_; clear hK K
    -- 4: alloc<31>
    refine stepS _ rfl (by kernel_rfl) (fun K hK => ?_); go_simp
    refine ⟨?_, ?_⟩
    · intro wk hk hg hu; go_simp; exact left_A rfl rfl
    rintro ⟨v4, lo1_4, hi4⟩ hlo4 hhi4 ⟨e4, f4⟩
    replace e4 : v4 = .pointer (some ⟨lo1_4, 0, none⟩) := e4; replace f4 : hi4 = lo1_4 + 1 := f4; replace hlo4 : _ ≤ lo1_4 := hlo4; subst e4; subst f4
    refine hK _ _ ?_; clear hK K
    -- 5: alloc<31>
    refine stepS _ rfl (by kernel_rfl) (fun K hK => ?_); go_simp
    refine ⟨?_, ?_⟩
    · intro wk hk hg hu; go_simp; exact left_A rfl rfl
    rintro ⟨v5, lo1_5, hi5⟩ hlo5 hhi5 ⟨e5, f5⟩
    replace e5 : v5 = .pointer (some ⟨lo1_5, 0, none⟩) := e5; replace f5 : hi5 = lo1_5 + 1 := f5; replace hlo5 : _ ≤ lo1_5 := hlo5; subst e5; subst f5
    refine hK _ _ ?_; clear hK K
    -- 6: store<31> *t7 = t22
    refine stepS _ rfl (by kernel_rfl) (fun K hK => ?_); go_simp
    refine ⟨?_, ?_⟩
    · exact sStoreT rfl rfl rfl rfl rfl rfl rfl (by kernel_rfl) rfl (by kernel_rfl) (by decide) aggOf_congr
    rintro ⟨v6, lo6, hi6⟩ - - (rfl : v6 = undef)
    refine hK _ _ ?_; clear hK K
    -- 7: store<31> *t8 = t24
    refine stepS _ rfl (by kernel_rfl) (fun K hK => ?_); go_simp
    refine ⟨?_, ?_⟩
    · exact sStoreT rfl rfl rfl rfl rfl rfl rfl (by kernel_rfl) rfl (by kernel_rfl) (by decide) aggOf_congr
    rintro ⟨v7, lo7, hi7⟩ - - (rfl : v7 = undef)
    refine hK _ _ ?_; clear hK K
    refine stepN ?_
    refine hQ _ _ ?_
    intro w1 hT hG hF
    have hbw1 := hT.undrew.below
    have r3 : Row w1 lo1_4 31 ((W4 d)) := (hF 6 _ rfl rfl (by decide)).2
    have r4 : Row w1 lo1_5 31 ((W4 f)) := (hF 7 _ rfl rfl (by decide)).2
    replace r0 := r0.below hbw1 r0.lt
    replace r1 := r1.below hbw1 r1.lt
    replace r2 := r2.below hbw1 r2.lt
    replace hl := hl.trans (hbw1.mono hl.size)
    clear hT hG hF hbw1 hQ QQ L hlo4 hhi4 hlo5 hhi5
    go_upto_region 2 with (fail)
    let L : List Sp := [sV 3 [] [] (fun u => u = .bool false)]
    refine wp_region_six0 (shs L) (look6 L) (None_) (by kernel_rfl) (by kernel_rfl) (mk_St L [] [] (by kernel_rfl) (by kernel_rfl) ⟨ok_V ⟨_, rfl⟩, trivial⟩ (by simp)) ?_
    intro QQ hQ
    -- 0: load<31> *t7
    refine stepK rfl (by kernel_rfl) (fun K hK => ?_); go_simp
    apply Exists.intro; apply And.intro; (focus exact kLoad rfl rfl aggT31 r3 rfl id); refine hK _ _ ?_; clear hK K
    -- 1: load<31> *t8
    refine stepK rfl (by kernel_rfl) (fun K hK => ?_); go_simp
    apply Exists.intro; apply And.intro; (focus exact kLoad rfl rfl aggT31 r4 rfl id); refine hK _ _ ?_; clear hK K
    -- 2: load<31> *t4
    refine stepK rfl (by kernel_rfl) (fun K hK => ?_); go_simp
    apply Exists.intro; apply And.intro; (focus exact kLoad rfl rfl aggT31 r1 rfl id); refine hK _ _ ?_; clear hK K
    -- 3: call F151(t25, t26, t27)
    refine stepS _ rfl (by kernel_rfl) (fun K hK => ?_); go_simp
    refine ⟨?_, ?_⟩
    · intro wk hk hg hu; go_simp; refine upon_enter ((k0.out _).mono ?_); rintro e w' ⟨rfl, hb⟩; exact ⟨_, rfl, left_V (p := fun u => u = .bool false) rfl (hb) rfl⟩
    rintro ⟨v3, lo3, hi3⟩ - - (rfl : v3 = _)
    refine hK _ _ ?_; clear hK K
    -- 4: not<4> t28
    refine stepK rfl (by kernel_rfl) (fun K hK => ?_); go_simp
    apply Exists.intro; apply And.intro; (focus (intro wk hk; go_simp; exact ⟨rfl, rfl⟩)); refine hK _ _ ?_; clear hK K
    -- 5: t29
    refine stepK rfl (by kernel_rfl) (fun K hK => ?_); go_simp
    apply Exists.intro; apply And.intro; (focus (intro wk hk; go_simp; exact ⟨rfl, rfl⟩)); refine hK _ _ ?_; clear hK K
    -- 6: load<31> *t5
    refine stepK rfl (by kernel_rfl) (fun K hK => ?_); go_simp
    first | (refine hK _ _ ?_; clear hK K) | (apply Exists.intro; apply And.intro; (focus (intro wk hk; go_simp; exact ⟨rfl, rfl⟩)); refine hK _ _ ?_; clear hK K)
    -- 7: load<31> *t7
    refine stepK rfl (by kernel_rfl) (fun K hK => ?_); go_simp
    first | (refine hK _ _ ?_; clear hK K) | (apply Exists.intro; apply And.intro; (focus (intro wk hk; go_simp; exact ⟨rfl, rfl⟩)); refine hK _ _ ?_; clear hK K)
    -- 8: call F57(t31, t32)
    refine stepK rfl (by kernel_rfl) (fun K hK => ?_); go_simp
    first | (refine hK _ _ ?_; clear hK K) | (apply Exists.intro; apply And.intro; (focus (intro wk hk; go_simp; exact ⟨rfl, rfl⟩)); refine hK _ _ ?_; clear hK K)
    -- 9: gtr<3> t33, 0
    refine stepK rfl (by kernel_rfl) (fun K hK => ?_); go_simp
    first | (refine hK _ _ ?_; clear hK K) | (apply Exists.intro; apply And.intro; (focus (intro wk hk; go_simp; exact ⟨rfl, rfl⟩)); refine hK _ _ ?_; clear hK K)
    -- 10: pick t30 ? true : t34
    refine stepK rfl (by kernel_rfl) (fun K hK => ?_); go_simp
    apply Exists.intro; apply And.intro; (focus (intro wk hk; go_simp; exact ⟨rfl, rfl⟩)); refine hK _ _ ?_; clear hK K
    refine stepN ?_
    refine hQ _ _ ?_
    intro w2 hT hG hF
    have hbw2 := hT.below
    replace r0 := r0.below hbw2 r0.lt
    replace r1 := r1.below hbw2 r1.lt
    replace r2 := r2.below hbw2 r2.lt
    replace r3 := r3.below hbw2 r3.lt
    replace r4 := r4.below hbw2 r4.lt
    replace hl := hl.trans (hbw2.mono hl.size)
    clear hT hG hF hbw2 hQ QQ L 
    go_upto_region 3 with (fail)
    let L : List Sp := [sV 0 [] [] (fun u => u = .bool true)]
    refine wp_region_six0 (shs L) (look6 L) (None_) (by kernel_rfl) (by kernel_rfl) (mk_St L [] [] (by kernel_rfl) (by kernel_rfl) ⟨ok_V ⟨_, rfl⟩, trivial⟩ (by simp)) ?_
    intro QQ hQ
    -- 0: call F149()
    refine stepS _ rfl (by kernel_rfl) (fun K hK => ?_); go_simp
    refine ⟨?_, ?_⟩
    · intro wk hk hg hu; go_simp; refine upon_enter ((k1.out _).mono ?_); rintro e w' ⟨rfl, hb⟩; exact ⟨_, rfl, left_V (p := fun u => u = .bool true) rfl (hb) rfl⟩
    rintro ⟨v0, lo0, hi0⟩ - - (rfl : v0 = _)
    refine hK _ _ ?_; clear hK K
    -- 1: assign t36
    refine stepK rfl (by kernel_rfl) (fun K hK => ?_); go_simp
    apply Exists.intro; apply And.intro; (focus (intro wk hk; go_simp; exact ⟨rfl, rfl⟩)); refine hK _ _ ?_; clear hK K
    refine stepN ?_
    refine hQ _ _ ?_
    intro w3 hT hG hF
    have hbw3 := hT.below
    replace r0 := r0.below hbw3 r0.lt
    replace r1 := r1.below hbw3 r1.lt
    replace r2 := r2.below hbw3 r2.lt
    replace r3 := r3.below hbw3 r3.lt
    replace r4 := r4.below hbw3 r4.lt
    replace hl := hl.trans (hbw3.mono hl.size)
    clear hT hG hF hbw3 hQ QQ L 
    go_wp2_with fail
    go_ret
    exact ⟨rfl, hl⟩
  · obtain ⟨c0, hc0⟩ : ∃ c, c = cmpN x d := ⟨_, rfl⟩
    by_cases hxd : x ≤ d
    · have h0 : c0 ≤ 0 := hc0 ▸ cmpN_le hxd
      have L := parts_law hg hxd
      have hsb : subB d x = true := decide_eq_true hxd
      obtain ⟨r, hr⟩ : ∃ r, r = d - x := ⟨_, rfl⟩
      have rl : r < M := by omega
      obtain ⟨v, hv⟩ : ∃ v, v = wrN d f m := ⟨_, rfl⟩
      obtain ⟨y, hy⟩ : ∃ v, v = wrN x f m := ⟨_, rfl⟩
      rw [← hr] at L
      obtain ⟨z, hz⟩ : ∃ v, v = wrN r f m := ⟨_, rfl⟩
      obtain ⟨q, hq⟩ : ∃ v, v = wrN d f E18 := ⟨_, rfl⟩
      have vl : v < M := hv ▸ wr_lt _ _ _
      have yl : y < M := hy ▸ wr_lt _ _ _
      have zl : z < M := hz ▸ wr_lt _ _ _
      have ql : q < M := hq ▸ wr_lt _ _ _
      rw [← hv, ← hy, ← hz, ← hq] at L
      have kl0 : y + z < M := by have := L.2.2.2.1; omega
      have hk2 : addB y z = true := decide_eq_true kl0
      have hk1 : addN y z = y + z := if_pos kl0
      obtain ⟨k, hk⟩ : ∃ k, k = y + z := ⟨_, rfl⟩
      have kl : k < M := hk ▸ kl0
      rw [← hk] at hk1 L
      obtain ⟨c1, hc1⟩ : ∃ c, c = cmpN k v := ⟨_, rfl⟩
      obtain ⟨c2, hc2⟩ : ∃ c, c = cmpN v q := ⟨_, rfl⟩
      obtain ⟨c3, hc3⟩ : ∃ c, c = cmpN y v := ⟨_, rfl⟩
      have h1 : c1 ≤ 0 := hc1 ▸ cmpN_le L.2.2.2.1
      have h2 : c2 ≤ 0 := hc2 ▸ cmpN_le L.2.2.2.2.1
      have h3 : c3 ≤ 0 := hc3 ▸ cmpN_le L.2.2.2.2.2
      clear hxd kl0 hk
      have k0 := Lib.hid (show ∀ wx, Calls Try.prog 151 #[.agg (W4 d), .agg (W4 f), .agg (W4 m)] wx (Ret wx (.bool true)) from fun wx => by have h := goodFU hd hf hm wx; rw [hg] at h; exact h)
      have k1 := Lib.hid (show ∀ wx, Calls Try.prog 57 #[.agg (W4 x), .agg (W4 d)] wx (Ret wx (.int .i64 c0)) from fun wx => by have h := refcmpU hx hd wx; rw [← hc0] at h; exact h)
      have k2 := Lib.hid (show ∀ wx, Calls Try.prog 53 #[.agg (W4 d), .agg (W4 x)] wx (Ret wx (.tuple #[.agg (W4 r), .bool true])) from fun wx => by have h := refsubU hd hx wx; rw [← hr, hsb] at h; exact h)
      have k3 := Lib.hid (show ∀ wx, Calls Try.prog 147 #[.agg (W4 d), .agg (W4 f), .agg (W4 m)] wx (Ret wx (.tuple #[.agg (W4 v), .bool true])) from fun wx => by have h := worthU hd hf hm wx; rw [← hv, hg] at h; exact h)
      have k4 := Lib.hid (show ∀ wx, Calls Try.prog 147 #[.agg (W4 x), .agg (W4 f), .agg (W4 m)] wx (Ret wx (.tuple #[.agg (W4 y), .bool true])) from fun wx => by have h := worthU hx hf hm wx; rw [← hy, L.1] at h; exact h)
      have k5 := Lib.hid (show ∀ wx, Calls Try.prog 147 #[.agg (W4 r), .agg (W4 f), .agg (W4 m)] wx (Ret wx (.tuple #[.agg (W4 z), .bool true])) from fun wx => by have h := worthU rl hf hm wx; rw [← hz, L.2.1] at h; exact h)
      have k6 := Lib.hid (show ∀ wx, Calls Try.prog 51 #[.agg (W4 y), .agg (W4 z)] wx (Ret wx (.tuple #[.agg (W4 k), .bool true])) from fun wx => by have h := refaddU yl zl wx; rw [hk1, hk2] at h; exact h)
      have k7 := Lib.hid (show ∀ wx, Calls Try.prog 152 #[] wx (Ret wx (.agg (W4 E18))) from fun wx => by have h := refOne20  wx; exact h)
      have k8 := Lib.hid (show ∀ wx, Calls Try.prog 147 #[.agg (W4 d), .agg (W4 f), .agg (W4 E18)] wx (Ret wx (.tuple #[.agg (W4 q), .bool true])) from fun wx => by have h := worthU hd hf E18_lt wx; rw [← hq, L.2.2.1] at h; exact h)
      have k9 := Lib.hid (show ∀ wx, Calls Try.prog 57 #[.agg (W4 k), .agg (W4 v)] wx (Ret wx (.int .i64 c1)) from fun wx => by have h := refcmpU kl vl wx; rw [← hc1] at h; exact h)
      have k10 := Lib.hid (show ∀ wx, Calls Try.prog 57 #[.agg (W4 v), .agg (W4 q)] wx (Ret wx (.int .i64 c2)) from fun wx => by have h := refcmpU vl ql wx; rw [← hc2] at h; exact h)
      have k11 := Lib.hid (show ∀ wx, Calls Try.prog 57 #[.agg (W4 y), .agg (W4 v)] wx (Ret wx (.int .i64 c3)) from fun wx => by have h := refcmpU yl vl wx; rw [← hc3] at h; exact h)
      have k12 := Lib.hid (show ∀ wx, Calls Try.prog 149 #[] wx (Ret wx (.bool true)) from fun wx => by have h := lives20U  wx; exact h)
      clear hg hc0 hr hsb hv hy hz hk1 hk2 hq L hc1 hc2 hc3
      go_enter Try.func29, Try.ntmps29
      apply wp_seq_eq
      focus
        intro J hJ
        go_wp2_with fail
        exact hJ
      refine wp_abs (Mem w [(w.heap.size, 132, W8 d f), (w.heap.size + 1, 31, W4 m), (w.heap.size + 1 + 1, 31, W4 x)]) ⟨by go_grown, ?_, ?_, ?_, trivial⟩ ?_
      · repeat (first | (refine Row.new_at ?_; simp; done) | refine Row.alloc ?_ _)
      · repeat (first | (refine Row.new_at ?_; simp; done) | refine Row.alloc ?_ _)
      · repeat (first | (refine Row.new_at ?_; simp; done) | refine Row.alloc ?_ _)
      intro w0 hM
      obtain ⟨hl, r0, r1, r2, -⟩ := hM
      go_upto_region 1 with (fail)
      let L : List Sp := [sA 4 31 [6] #[.int .u64 0, .int .u64 0, .int .u64 0, .int .u64 0], sA 5 31 [7] #[.int .u64 0, .int .u64 0, .int .u64 0, .int .u64 0], sT 6 4 31 [1] (fun g => aggOf g 1), sT 7 5 31 [3] (fun g => aggOf g 3)]
      refine wp_region_six (shs L) (look6 L) (None_) (by kernel_rfl) (by kernel_rfl) (mk_St L [] [] (by kernel_rfl) (by kernel_rfl) ⟨ok_A, ok_A, ok_T aggOf_congr, ok_T aggOf_congr, trivial⟩ (by simp)) ?_
      intro QQ hQ
      -- 0: indexAddr<132> t3[0]
      refine stepK rfl (by kernel_rfl) (fun K hK => ?_); go_simp
      apply Exists.intro; apply And.intro; (focus (intro wk hk; go_simp; exact ⟨rfl, rfl⟩)); refine hK _ _ ?_; clear hK K
      -- 1: load<31> *t21
      refine stepK rfl (by kernel_rfl) (fun K hK => ?_); go_simp
      apply Exists.intro; apply And.intro; (focus exact kLoadMid rfl rfl aggT31 r0 (W8_hi d f) rfl id); refine hK _ _ ?_; clear hK K
      -- 2: indexAddr<132> t3[1]
      refine stepK rfl (by kernel_rfl) (fun K hK => ?_); go_simp
      apply Exists.intro; apply And.intro; (focus (intro wk hk; go_simp; exact ⟨rfl, rfl⟩)); refine hK _ _ ?_; clear hK K
      -- 3: load<31> *t23
      refine stepK rfl (by kernel_rfl) (fun K hK => ?_); go_simp
      apply Exists.intro; apply And.intro; (focus exact kLoadMid rfl rfl aggT31 r0 (W8_lo d f) rfl id); refine hK _ _ ?_; clear hK K
      -- 4: alloc<31>
      refine stepS _ rfl (by kernel_rfl) (fun K hK => ?_); go_simp
      refine ⟨?_, ?_⟩
      · intro wk hk hg hu; go_simp; exact left_A rfl rfl
      rintro ⟨v4, lo1_4, hi4⟩ hlo4 hhi4 ⟨e4, f4⟩
      replace e4 : v4 = .pointer (some ⟨lo1_4, 0, none⟩) := e4; replace f4 : hi4 = lo1_4 + 1 := f4; replace hlo4 : _ ≤ lo1_4 := hlo4; subst e4; subst f4
      refine hK _ _ ?_; clear hK K
      -- 5: alloc<31>
      refine stepS _ rfl (by kernel_rfl) (fun K hK => ?_); go_simp
      refine ⟨?_, ?_⟩
      · intro wk hk hg hu; go_simp; exact left_A rfl rfl
      rintro ⟨v5, lo1_5, hi5⟩ hlo5 hhi5 ⟨e5, f5⟩
      replace e5 : v5 = .pointer (some ⟨lo1_5, 0, none⟩) := e5; replace f5 : hi5 = lo1_5 + 1 := f5; replace hlo5 : _ ≤ lo1_5 := hlo5; subst e5; subst f5
      refine hK _ _ ?_; clear hK K
      -- 6: store<31> *t7 = t22
      refine stepS _ rfl (by kernel_rfl) (fun K hK => ?_); go_simp
      refine ⟨?_, ?_⟩
      · exact sStoreT rfl rfl rfl rfl rfl rfl rfl (by kernel_rfl) rfl (by kernel_rfl) (by decide) aggOf_congr
      rintro ⟨v6, lo6, hi6⟩ - - (rfl : v6 = undef)
      refine hK _ _ ?_; clear hK K
      -- 7: store<31> *t8 = t24
      refine stepS _ rfl (by kernel_rfl) (fun K hK => ?_); go_simp
      refine ⟨?_, ?_⟩
      · exact sStoreT rfl rfl rfl rfl rfl rfl rfl (by kernel_rfl) rfl (by kernel_rfl) (by decide) aggOf_congr
      rintro ⟨v7, lo7, hi7⟩ - - (rfl : v7 = undef)
      refine hK _ _ ?_; clear hK K
      refine stepN ?_
      refine hQ _ _ ?_
      intro w1 hT hG hF
      have hbw1 := hT.undrew.below
      have r3 : Row w1 lo1_4 31 ((W4 d)) := (hF 6 _ rfl rfl (by decide)).2
      have r4 : Row w1 lo1_5 31 ((W4 f)) := (hF 7 _ rfl rfl (by decide)).2
      replace r0 := r0.below hbw1 r0.lt
      replace r1 := r1.below hbw1 r1.lt
      replace r2 := r2.below hbw1 r2.lt
      replace hl := hl.trans (hbw1.mono hl.size)
      clear hT hG hF hbw1 hQ QQ L hlo4 hhi4 hlo5 hhi5
      go_upto_region 2 with (fail)
      let L : List Sp := [sV 3 [] [] (fun u => u = .bool true), sV 8 [] [] (fun u => u = .int .i64 c0)]
      refine wp_region_six0 (shs L) (look6 L) (None_) (by kernel_rfl) (by kernel_rfl) (mk_St L [] [] (by kernel_rfl) (by kernel_rfl) ⟨ok_V ⟨_, rfl⟩, ok_V ⟨_, rfl⟩, trivial⟩ (by simp)) ?_
      intro QQ hQ
      -- 0: load<31> *t7
      refine stepK rfl (by kernel_rfl) (fun K hK => ?_); go_simp
      apply Exists.intro; apply And.intro; (focus exact kLoad rfl rfl aggT31 r3 rfl id); refine hK _ _ ?_; clear hK K
      -- 1: load<31> *t8
      refine stepK rfl (by kernel_rfl) (fun K hK => ?_); go_simp
      apply Exists.intro; apply And.intro; (focus exact kLoad rfl rfl aggT31 r4 rfl id); refine hK _ _ ?_; clear hK K
      -- 2: load<31> *t4
      refine stepK rfl (by kernel_rfl) (fun K hK => ?_); go_simp
      apply Exists.intro; apply And.intro; (focus exact kLoad rfl rfl aggT31 r1 rfl id); refine hK _ _ ?_; clear hK K
      -- 3: call F151(t25, t26, t27)
      refine stepS _ rfl (by kernel_rfl) (fun K hK => ?_); go_simp
      refine ⟨?_, ?_⟩
      · intro wk hk hg hu; go_simp; refine upon_enter ((k0.out _).mono ?_); rintro e w' ⟨rfl, hb⟩; exact ⟨_, rfl, left_V (p := fun u => u = .bool true) rfl (hb) rfl⟩
      rintro ⟨v3, lo3, hi3⟩ - - (rfl : v3 = _)
      refine hK _ _ ?_; clear hK K
      -- 4: not<4> t28
      refine stepK rfl (by kernel_rfl) (fun K hK => ?_); go_simp
      apply Exists.intro; apply And.intro; (focus (intro wk hk; go_simp; exact ⟨rfl, rfl⟩)); refine hK _ _ ?_; clear hK K
      -- 5: t29
      refine stepK rfl (by kernel_rfl) (fun K hK => ?_); go_simp
      apply Exists.intro; apply And.intro; (focus (intro wk hk; go_simp; exact ⟨rfl, rfl⟩)); refine hK _ _ ?_; clear hK K
      -- 6: load<31> *t5
      refine stepK rfl (by kernel_rfl) (fun K hK => ?_); go_simp
      first | (refine hK _ _ ?_; clear hK K) | (apply Exists.intro; apply And.intro; (focus exact kLoad rfl rfl aggT31 r2 rfl id); refine hK _ _ ?_; clear hK K)
      -- 7: load<31> *t7
      refine stepK rfl (by kernel_rfl) (fun K hK => ?_); go_simp
      first | (refine hK _ _ ?_; clear hK K) | (apply Exists.intro; apply And.intro; (focus exact kLoad rfl rfl aggT31 r3 rfl id); refine hK _ _ ?_; clear hK K)
      -- 8: call F57(t31, t32)
      refine stepS _ rfl (by kernel_rfl) (fun K hK => ?_); go_simp
      refine ⟨?_, ?_⟩
      · intro wk hk hg hu; go_simp; refine upon_enter ((k1.out _).mono ?_); rintro e w' ⟨rfl, hb⟩; exact ⟨_, rfl, left_V (p := fun u => u = .int .i64 c0) rfl (hb) rfl⟩
      rintro ⟨v8, lo8, hi8⟩ - - (rfl : v8 = _)
      refine hK _ _ ?_; clear hK K
      -- 9: gtr<3> t33, 0
      refine stepK rfl (by kernel_rfl) (fun K hK => ?_); go_simp
      first | (refine hK _ _ ?_; clear hK K) | (apply Exists.intro; apply And.intro; (focus (intro wk hk; go_simp; exact ⟨rfl, rfl⟩)); refine hK _ _ ?_; clear hK K)
      -- 10: pick t30 ? true : t34
      refine stepK rfl (by kernel_rfl) (fun K hK => ?_); go_simp
      apply Exists.intro; apply And.intro; (focus (intro wk hk; go_simp; exact ⟨rfl, rfl⟩)); refine hK _ _ ?_; clear hK K
      refine stepN ?_
      refine hQ _ _ ?_
      intro w2 hT hG hF
      have hbw2 := hT.below
      replace r0 := r0.below hbw2 r0.lt
      replace r1 := r1.below hbw2 r1.lt
      replace r2 := r2.below hbw2 r2.lt
      replace r3 := r3.below hbw2 r3.lt
      replace r4 := r4.below hbw2 r4.lt
      replace hl := hl.trans (hbw2.mono hl.size)
      clear hT hG hF hbw2 hQ QQ L 
      go_upto_region 4 with (fail)
      let L : List Sp := [sV 2 [] [] (fun u => u = .tuple #[.agg (W4 r), .bool true]), sA 6 31 [7] #[.int .u64 0, .int .u64 0, .int .u64 0, .int .u64 0], sT 7 6 31 [4] (fun g => aggOf g 4)]
      refine wp_region_six0 (shs L) (look6 L) (None_) (by kernel_rfl) (by kernel_rfl) (mk_St L [] [] (by kernel_rfl) (by kernel_rfl) ⟨ok_V ⟨_, rfl⟩, ok_A, ok_T aggOf_congr, trivial⟩ (by simp)) ?_
      intro QQ hQ
      -- 0: load<31> *t7
      refine stepK rfl (by kernel_rfl) (fun K hK => ?_); go_simp
      apply Exists.intro; apply And.intro; (focus exact kLoad rfl rfl aggT31 r3 rfl id); refine hK _ _ ?_; clear hK K
      -- 1: load<31> *t5
      refine stepK rfl (by kernel_rfl) (fun K hK => ?_); go_simp
      apply Exists.intro; apply And.intro; (focus exact kLoad rfl rfl aggT31 r2 rfl id); refine hK _ _ ?_; clear hK K
      -- 2: call F53(t38, t39)
      refine stepS _ rfl (by kernel_rfl) (fun K hK => ?_); go_simp
      refine ⟨?_, ?_⟩
      · intro wk hk hg hu; go_simp; refine upon_enter ((k2.out _).mono ?_); rintro e w' ⟨rfl, hb⟩; exact ⟨_, rfl, left_V (p := fun u => u = .tuple #[.agg (W4 r), .bool true]) rfl (hb) rfl⟩
      rintro ⟨v2, lo2, hi2⟩ - - (rfl : v2 = _)
      refine hK _ _ ?_; clear hK K
      -- 3: t40
      refine stepK rfl (by kernel_rfl) (fun K hK => ?_); go_simp
      apply Exists.intro; apply And.intro; (focus (intro wk hk; go_simp; exact ⟨rfl, rfl⟩)); refine hK _ _ ?_; clear hK K
      -- 4: extract t37 #0
      refine stepK rfl (by kernel_rfl) (fun K hK => ?_); go_simp
      apply Exists.intro; apply And.intro; (focus (intro wk hk; go_simp; exact ⟨rfl, rfl⟩)); refine hK _ _ ?_; clear hK K
      -- 5: extract t37 #1
      refine stepK rfl (by kernel_rfl) (fun K hK => ?_); go_simp
      apply Exists.intro; apply And.intro; (focus (intro wk hk; go_simp; exact ⟨rfl, rfl⟩)); refine hK _ _ ?_; clear hK K
      -- 6: alloc<31>
      refine stepS _ rfl (by kernel_rfl) (fun K hK => ?_); go_simp
      refine ⟨?_, ?_⟩
      · intro wk hk hg hu; go_simp; exact left_A rfl rfl
      rintro ⟨v6, lo4_6, hi6⟩ hlo6 hhi6 ⟨e6, f6⟩
      replace e6 : v6 = .pointer (some ⟨lo4_6, 0, none⟩) := e6; replace f6 : hi6 = lo4_6 + 1 := f6; replace hlo6 : _ ≤ lo4_6 := hlo6; subst e6; subst f6
      refine hK _ _ ?_; clear hK K
      -- 7: store<31> *t9 = t41
      refine stepS _ rfl (by kernel_rfl) (fun K hK => ?_); go_simp
      refine ⟨?_, ?_⟩
      · exact sStoreT rfl rfl rfl rfl rfl rfl rfl (by kernel_rfl) rfl (by kernel_rfl) (by decide) aggOf_congr
      rintro ⟨v7, lo7, hi7⟩ - - (rfl : v7 = undef)
      refine hK _ _ ?_; clear hK K
      -- 8: assign t42
      refine stepK rfl (by kernel_rfl) (fun K hK => ?_); go_simp
      apply Exists.intro; apply And.intro; (focus (intro wk hk; go_simp; exact ⟨rfl, rfl⟩)); refine hK _ _ ?_; clear hK K
      refine stepN ?_
      refine hQ _ _ ?_
      intro w3 hT hG hF
      have hbw3 := hT.below
      have r5 : Row w3 lo4_6 31 ((W4 r)) := (hF 7 _ rfl rfl (by decide)).2
      replace r0 := r0.below hbw3 r0.lt
      replace r1 := r1.below hbw3 r1.lt
      replace r2 := r2.below hbw3 r2.lt
      replace r3 := r3.below hbw3 r3.lt
      replace r4 := r4.below hbw3 r4.lt
      replace hl := hl.trans (hbw3.mono hl.size)
      clear hT hG hF hbw3 hQ QQ L hlo6 hhi6
      go_upto_region 5 with (fail)
      let L : List Sp := [sV 3 [] [] (fun u => u = .tuple #[.agg (W4 v), .bool true]), sA 7 31 [8] #[.int .u64 0, .int .u64 0, .int .u64 0, .int .u64 0], sT 8 7 31 [5] (fun g => aggOf g 5)]
      refine wp_region_six0 (shs L) (look6 L) (None_) (by kernel_rfl) (by kernel_rfl) (mk_St L [] [] (by kernel_rfl) (by kernel_rfl) ⟨ok_V ⟨_, rfl⟩, ok_A, ok_T aggOf_congr, trivial⟩ (by simp)) ?_
      intro QQ hQ
      -- 0: load<31> *t7
      refine stepK rfl (by kernel_rfl) (fun K hK => ?_); go_simp
      apply Exists.intro; apply And.intro; (focus exact kLoad rfl rfl aggT31 r3 rfl id); refine hK _ _ ?_; clear hK K
      -- 1: load<31> *t8
      refine stepK rfl (by kernel_rfl) (fun K hK => ?_); go_simp
      apply Exists.intro; apply And.intro; (focus exact kLoad rfl rfl aggT31 r4 rfl id); refine hK _ _ ?_; clear hK K
      -- 2: load<31> *t4
      refine stepK rfl (by kernel_rfl) (fun K hK => ?_); go_simp
      apply Exists.intro; apply And.intro; (focus exact kLoad rfl rfl aggT31 r1 rfl id); refine hK _ _ ?_; clear hK K
      -- 3: call F147(t44, t45, t46)
      refine stepS _ rfl (by kernel_rfl) (fun K hK => ?_); go_simp
      refine ⟨?_, ?_⟩
      · intro wk hk hg hu; go_simp; refine upon_enter ((k3.out _).mono ?_); rintro e w' ⟨rfl, hb⟩; exact ⟨_, rfl, left_V (p := fun u => u = .tuple #[.agg (W4 v), .bool true]) rfl (hb) rfl⟩
      rintro ⟨v3, lo3, hi3⟩ - - (rfl : v3 = _)
      refine hK _ _ ?_; clear hK K
      -- 4: t47
      refine stepK rfl (by kernel_rfl) (fun K hK => ?_); go_simp
      apply Exists.intro; apply And.intro; (focus (intro wk hk; go_simp; exact ⟨rfl, rfl⟩)); refine hK _ _ ?_; clear hK K
      -- 5: extract t43 #0
      refine stepK rfl (by kernel_rfl) (fun K hK => ?_); go_simp
      apply Exists.intro; apply And.intro; (focus (intro wk hk; go_simp; exact ⟨rfl, rfl⟩)); refine hK _ _ ?_; clear hK K
      -- 6: extract t43 #1
      refine stepK rfl (by kernel_rfl) (fun K hK => ?_); go_simp
      apply Exists.intro; apply And.intro; (focus (intro wk hk; go_simp; exact ⟨rfl, rfl⟩)); refine hK _ _ ?_; clear hK K
      -- 7: alloc<31>
      refine stepS _ rfl (by kernel_rfl) (fun K hK => ?_); go_simp
      refine ⟨?_, ?_⟩
      · intro wk hk hg hu; go_simp; exact left_A rfl rfl
      rintro ⟨v7, lo5_7, hi7⟩ hlo7 hhi7 ⟨e7, f7⟩
      replace e7 : v7 = .pointer (some ⟨lo5_7, 0, none⟩) := e7; replace f7 : hi7 = lo5_7 + 1 := f7; replace hlo7 : _ ≤ lo5_7 := hlo7; subst e7; subst f7
      refine hK _ _ ?_; clear hK K
      -- 8: store<31> *t11 = t48
      refine stepS _ rfl (by kernel_rfl) (fun K hK => ?_); go_simp
      refine ⟨?_, ?_⟩
      · exact sStoreT rfl rfl rfl rfl rfl rfl rfl (by kernel_rfl) rfl (by kernel_rfl) (by decide) aggOf_congr
      rintro ⟨v8, lo8, hi8⟩ - - (rfl : v8 = undef)
      refine hK _ _ ?_; clear hK K
      -- 9: assign t49
      refine stepK rfl (by kernel_rfl) (fun K hK => ?_); go_simp
      apply Exists.intro; apply And.intro; (focus (intro wk hk; go_simp; exact ⟨rfl, rfl⟩)); refine hK _ _ ?_; clear hK K
      refine stepN ?_
      refine hQ _ _ ?_
      intro w4 hT hG hF
      have hbw4 := hT.below
      have r6 : Row w4 lo5_7 31 ((W4 v)) := (hF 8 _ rfl rfl (by decide)).2
      replace r0 := r0.below hbw4 r0.lt
      replace r1 := r1.below hbw4 r1.lt
      replace r2 := r2.below hbw4 r2.lt
      replace r3 := r3.below hbw4 r3.lt
      replace r4 := r4.below hbw4 r4.lt
      replace r5 := r5.below hbw4 r5.lt
      replace hl := hl.trans (hbw4.mono hl.size)
      clear hT hG hF hbw4 hQ QQ L hlo7 hhi7
      go_upto_region 6 with (fail)
      let L : List Sp := [sV 3 [] [] (fun u => u = .tuple #[.agg (W4 y), .bool true]), sA 7 31 [8] #[.int .u64 0, .int .u64 0, .int .u64 0, .int .u64 0], sT 8 7 31 [5] (fun g => aggOf g 5)]
      refine wp_region_six0 (shs L) (look6 L) (None_) (by kernel_rfl) (by kernel_rfl) (mk_St L [] [] (by kernel_rfl) (by kernel_rfl) ⟨ok_V ⟨_, rfl⟩, ok_A, ok_T aggOf_congr, trivial⟩ (by simp)) ?_
      intro QQ hQ
      -- 0: load<31> *t5
      refine stepK rfl (by kernel_rfl) (fun K hK => ?_); go_simp
      apply Exists.intro; apply And.intro; (focus exact kLoad rfl rfl aggT31 r2 rfl id); refine hK _ _ ?_; clear hK K
      -- 1: load<31> *t8
      refine stepK rfl (by kernel_rfl) (fun K hK => ?_); go_simp
      apply Exists.intro; apply And.intro; (focus exact kLoad rfl rfl aggT31 r4 rfl id); refine hK _ _ ?_; clear hK K
      -- 2: load<31> *t4
      refine stepK rfl (by kernel_rfl) (fun K hK => ?_); go_simp
      apply Exists.intro; apply And.intro; (focus exact kLoad rfl rfl aggT31 r1 rfl id); refine hK _ _ ?_; clear hK K
      -- 3: call F147(t51, t52, t53)
      refine stepS _ rfl (by kernel_rfl) (fun K hK => ?_); go_simp
      refine ⟨?_, ?_⟩
      · intro wk hk hg hu; go_simp; refine upon_enter ((k4.out _).mono ?_); rintro e w' ⟨rfl, hb⟩; exact ⟨_, rfl, left_V (p := fun u => u = .tuple #[.agg (W4 y), .bool true]) rfl (hb) rfl⟩
      rintro ⟨v3, lo3, hi3⟩ - - (rfl : v3 = _)
      refine hK _ _ ?_; clear hK K
      -- 4: t54
      refine stepK rfl (by kernel_rfl) (fun K hK => ?_); go_simp
      apply Exists.intro; apply And.intro; (focus (intro wk hk; go_simp; exact ⟨rfl, rfl⟩)); refine hK _ _ ?_; clear hK K
      -- 5: extract t50 #0
      refine stepK rfl (by kernel_rfl) (fun K hK => ?_); go_simp
      apply Exists.intro; apply And.intro; (focus (intro wk hk; go_simp; exact ⟨rfl, rfl⟩)); refine hK _ _ ?_; clear hK K
      -- 6: extract t50 #1
      refine stepK rfl (by kernel_rfl) (fun K hK => ?_); go_simp
      apply Exists.intro; apply And.intro; (focus (intro wk hk; go_simp; exact ⟨rfl, rfl⟩)); refine hK _ _ ?_; clear hK K
      -- 7: alloc<31>
      refine stepS _ rfl (by kernel_rfl) (fun K hK => ?_); go_simp
      refine ⟨?_, ?_⟩
      · intro wk hk hg hu; go_simp; exact left_A rfl rfl
      rintro ⟨v7, lo6_7, hi7⟩ hlo7 hhi7 ⟨e7, f7⟩
      replace e7 : v7 = .pointer (some ⟨lo6_7, 0, none⟩) := e7; replace f7 : hi7 = lo6_7 + 1 := f7; replace hlo7 : _ ≤ lo6_7 := hlo7; subst e7; subst f7
      refine hK _ _ ?_; clear hK K
      -- 8: store<31> *t13 = t55
      refine stepS _ rfl (by kernel_rfl) (fun K hK => ?_); go_simp
      refine ⟨?_, ?_⟩
      · exact sStoreT rfl rfl rfl rfl rfl rfl rfl (by kernel_rfl) rfl (by kernel_rfl) (by decide) aggOf_congr
      rintro ⟨v8, lo8, hi8⟩ - - (rfl : v8 = undef)
      refine hK _ _ ?_; clear hK K
      -- 9: assign t56
      refine stepK rfl (by kernel_rfl) (fun K hK => ?_); go_simp
      apply Exists.intro; apply And.intro; (focus (intro wk hk; go_simp; exact ⟨rfl, rfl⟩)); refine hK _ _ ?_; clear hK K
      refine stepN ?_
      refine hQ _ _ ?_
      intro w5 hT hG hF
      have hbw5 := hT.below
      have r7 : Row w5 lo6_7 31 ((W4 y)) := (hF 8 _ rfl rfl (by decide)).2
      replace r0 := r0.below hbw5 r0.lt
      replace r1 := r1.below hbw5 r1.lt
      replace r2 := r2.below hbw5 r2.lt
      replace r3 := r3.below hbw5 r3.lt
      replace r4 := r4.below hbw5 r4.lt
      replace r5 := r5.below hbw5 r5.lt
      replace r6 := r6.below hbw5 r6.lt
      replace hl := hl.trans (hbw5.mono hl.size)
      clear hT hG hF hbw5 hQ QQ L hlo7 hhi7
      go_upto_region 7 with (fail)
      let L : List Sp := [sV 3 [] [] (fun u => u = .tuple #[.agg (W4 z), .bool true]), sA 7 31 [8] #[.int .u64 0, .int .u64 0, .int .u64 0, .int .u64 0], sT 8 7 31 [5] (fun g => aggOf g 5)]
      refine wp_region_six0 (shs L) (look6 L) (None_) (by kernel_rfl) (by kernel_rfl) (mk_St L [] [] (by kernel_rfl) (by kernel_rfl) ⟨ok_V ⟨_, rfl⟩, ok_A, ok_T aggOf_congr, trivial⟩ (by simp)) ?_
      intro QQ hQ
      -- 0: load<31> *t9
      refine stepK rfl (by kernel_rfl) (fun K hK => ?_); go_simp
      apply Exists.intro; apply And.intro; (focus exact kLoad rfl rfl aggT31 r5 rfl id); refine hK _ _ ?_; clear hK K
      -- 1: load<31> *t8
      refine stepK rfl (by kernel_rfl) (fun K hK => ?_); go_simp
      apply Exists.intro; apply And.intro; (focus exact kLoad rfl rfl aggT31 r4 rfl id); refine hK _ _ ?_; clear hK K
      -- 2: load<31> *t4
      refine stepK rfl (by kernel_rfl) (fun K hK => ?_); go_simp
      apply Exists.intro; apply And.intro; (focus exact kLoad rfl rfl aggT31 r1 rfl id); refine hK _ _ ?_; clear hK K
      -- 3: call F147(t58, t59, t60)
      refine stepS _ rfl (by kernel_rfl) (fun K hK => ?_); go_simp
      refine ⟨?_, ?_⟩
      · intro wk hk hg hu; go_simp; refine upon_enter ((k5.out _).mono ?_); rintro e w' ⟨rfl, hb⟩; exact ⟨_, rfl, left_V (p := fun u => u = .tuple #[.agg (W4 z), .bool true]) rfl (hb) rfl⟩
      rintro ⟨v3, lo3, hi3⟩ - - (rfl : v3 = _)
      refine hK _ _ ?_; clear hK K
      -- 4: t61
      refine stepK rfl (by kernel_rfl) (fun K hK => ?_); go_simp
      apply Exists.intro; apply And.intro; (focus (intro wk hk; go_simp; exact ⟨rfl, rfl⟩)); refine hK _ _ ?_; clear hK K
      -- 5: extract t57 #0
      refine stepK rfl (by kernel_rfl) (fun K hK => ?_); go_simp
      apply Exists.intro; apply And.intro; (focus (intro wk hk; go_simp; exact ⟨rfl, rfl⟩)); refine hK _ _ ?_; clear hK K
      -- 6: extract t57 #1
      refine stepK rfl (by kernel_rfl) (fun K hK => ?_); go_simp
      apply Exists.intro; apply And.intro; (focus (intro wk hk; go_simp; exact ⟨rfl, rfl⟩)); refine hK _ _ ?_; clear hK K
      -- 7: alloc<31>
      refine stepS _ rfl (by kernel_rfl) (fun K hK => ?_); go_simp
      refine ⟨?_, ?_⟩
      · intro wk hk hg hu; go_simp; exact left_A rfl rfl
      rintro ⟨v7, lo7_7, hi7⟩ hlo7 hhi7 ⟨e7, f7⟩
      replace e7 : v7 = .pointer (some ⟨lo7_7, 0, none⟩) := e7; replace f7 : hi7 = lo7_7 + 1 := f7; replace hlo7 : _ ≤ lo7_7 := hlo7; subst e7; subst f7
      refine hK _ _ ?_; clear hK K
      -- 8: store<31> *t15 = t62
      refine stepS _ rfl (by kernel_rfl) (fun K hK => ?_); go_simp
      refine ⟨?_, ?_⟩
      · exact sStoreT rfl rfl rfl rfl rfl rfl rfl (by kernel_rfl) rfl (by kernel_rfl) (by decide) aggOf_congr
      rintro ⟨v8, lo8, hi8⟩ - - (rfl : v8 = undef)
      refine hK _ _ ?_; clear hK K
      -- 9: assign t63
      refine stepK rfl (by kernel_rfl) (fun K hK => ?_); go_simp
      apply Exists.intro; apply And.intro; (focus (intro wk hk; go_simp; exact ⟨rfl, rfl⟩)); refine hK _ _ ?_; clear hK K
      refine stepN ?_
      refine hQ _ _ ?_
      intro w6 hT hG hF
      have hbw6 := hT.below
      have r8 : Row w6 lo7_7 31 ((W4 z)) := (hF 8 _ rfl rfl (by decide)).2
      replace r0 := r0.below hbw6 r0.lt
      replace r1 := r1.below hbw6 r1.lt
      replace r2 := r2.below hbw6 r2.lt
      replace r3 := r3.below hbw6 r3.lt
      replace r4 := r4.below hbw6 r4.lt
      replace r5 := r5.below hbw6 r5.lt
      replace r6 := r6.below hbw6 r6.lt
      replace r7 := r7.below hbw6 r7.lt
      replace hl := hl.trans (hbw6.mono hl.size)
      clear hT hG hF hbw6 hQ QQ L hlo7 hhi7
      go_upto_region 8 with (fail)
      let L : List Sp := [sV 2 [] [] (fun u => u = .tuple #[.agg (W4 k), .bool true]), sA 6 31 [7] #[.int .u64 0, .int .u64 0, .int .u64 0, .int .u64 0], sT 7 6 31 [4] (fun g => aggOf g 4)]
      refine wp_region_six0 (shs L) (look6 L) (None_) (by kernel_rfl) (by kernel_rfl) (mk_St L [] [] (by kernel_rfl) (by kernel_rfl) ⟨ok_V ⟨_, rfl⟩, ok_A, ok_T aggOf_congr, trivial⟩ (by simp)) ?_
      intro QQ hQ
      -- 0: load<31> *t13
      refine stepK rfl (by kernel_rfl) (fun K hK => ?_); go_simp
      apply Exists.intro; apply And.intro; (focus exact kLoad rfl rfl aggT31 r7 rfl id); refine hK _ _ ?_; clear hK K
      -- 1: load<31> *t15
      refine stepK rfl (by kernel_rfl) (fun K hK => ?_); go_simp
      apply Exists.intro; apply And.intro; (focus exact kLoad rfl rfl aggT31 r8 rfl id); refine hK _ _ ?_; clear hK K
      -- 2: call F51(t65, t66)
      refine stepS _ rfl (by kernel_rfl) (fun K hK => ?_); go_simp
      refine ⟨?_, ?_⟩
      · intro wk hk hg hu; go_simp; refine upon_enter ((k6.out _).mono ?_); rintro e w' ⟨rfl, hb⟩; exact ⟨_, rfl, left_V (p := fun u => u = .tuple #[.agg (W4 k), .bool true]) rfl (hb) rfl⟩
      rintro ⟨v2, lo2, hi2⟩ - - (rfl : v2 = _)
      refine hK _ _ ?_; clear hK K
      -- 3: t67
      refine stepK rfl (by kernel_rfl) (fun K hK => ?_); go_simp
      apply Exists.intro; apply And.intro; (focus (intro wk hk; go_simp; exact ⟨rfl, rfl⟩)); refine hK _ _ ?_; clear hK K
      -- 4: extract t64 #0
      refine stepK rfl (by kernel_rfl) (fun K hK => ?_); go_simp
      apply Exists.intro; apply And.intro; (focus (intro wk hk; go_simp; exact ⟨rfl, rfl⟩)); refine hK _ _ ?_; clear hK K
      -- 5: extract t64 #1
      refine stepK rfl (by kernel_rfl) (fun K hK => ?_); go_simp
      apply Exists.intro; apply And.intro; (focus (intro wk hk; go_simp; exact ⟨rfl, rfl⟩)); refine hK _ _ ?_; clear hK K
      -- 6: alloc<31>
      refine stepS _ rfl (by kernel_rfl) (fun K hK => ?_); go_simp
      refine ⟨?_, ?_⟩
      · intro wk hk hg hu; go_simp; exact left_A rfl rfl
      rintro ⟨v6, lo8_6, hi6⟩ hlo6 hhi6 ⟨e6, f6⟩
      replace e6 : v6 = .pointer (some ⟨lo8_6, 0, none⟩) := e6; replace f6 : hi6 = lo8_6 + 1 := f6; replace hlo6 : _ ≤ lo8_6 := hlo6; subst e6; subst f6
      refine hK _ _ ?_; clear hK K
      -- 7: store<31> *t17 = t68
      refine stepS _ rfl (by kernel_rfl) (fun K hK => ?_); go_simp
      refine ⟨?_, ?_⟩
      · exact sStoreT rfl rfl rfl rfl rfl rfl rfl (by kernel_rfl) rfl (by kernel_rfl) (by decide) aggOf_congr
      rintro ⟨v7, lo7, hi7⟩ - - (rfl : v7 = undef)
      refine hK _ _ ?_; clear hK K
      -- 8: assign t69
      refine stepK rfl (by kernel_rfl) (fun K hK => ?_); go_simp
      apply Exists.intro; apply And.intro; (focus (intro wk hk; go_simp; exact ⟨rfl, rfl⟩)); refine hK _ _ ?_; clear hK K
      refine stepN ?_
      refine hQ _ _ ?_
      intro w7 hT hG hF
      have hbw7 := hT.below
      have r9 : Row w7 lo8_6 31 ((W4 k)) := (hF 7 _ rfl rfl (by decide)).2
      replace r0 := r0.below hbw7 r0.lt
      replace r1 := r1.below hbw7 r1.lt
      replace r2 := r2.below hbw7 r2.lt
      replace r3 := r3.below hbw7 r3.lt
      replace r4 := r4.below hbw7 r4.lt
      replace r5 := r5.below hbw7 r5.lt
      replace r6 := r6.below hbw7 r6.lt
      replace r7 := r7.below hbw7 r7.lt
      replace r8 := r8.below hbw7 r8.lt
      replace hl := hl.trans (hbw7.mono hl.size)
      clear hT hG hF hbw7 hQ QQ L hlo6 hhi6
      go_upto_region 9 with (fail)
      let L : List Sp := [sV 2 [] [] (fun u => u = .agg (W4 E18)), sV 3 [] [] (fun u => u = .tuple #[.agg (W4 q), .bool true]), sA 7 31 [8] #[.int .u64 0, .int .u64 0, .int .u64 0, .int .u64 0], sT 8 7 31 [5] (fun g => aggOf g 5)]
      refine wp_region_six (shs L) (look6 L) (None_) (by kernel_rfl) (by kernel_rfl) (mk_St L [] [] (by kernel_rfl) (by kernel_rfl) ⟨ok_V ⟨_, rfl⟩, ok_V ⟨_, rfl⟩, ok_A, ok_T aggOf_congr, trivial⟩ (by simp)) ?_
      intro QQ hQ
      -- 0: load<31> *t7
      refine stepK rfl (by kernel_rfl) (fun K hK => ?_); go_simp
      apply Exists.intro; apply And.intro; (focus exact kLoad rfl rfl aggT31 r3 rfl id); refine hK _ _ ?_; clear hK K
      -- 1: load<31> *t8
      refine stepK rfl (by kernel_rfl) (fun K hK => ?_); go_simp
      apply Exists.intro; apply And.intro; (focus exact kLoad rfl rfl aggT31 r4 rfl id); refine hK _ _ ?_; clear hK K
      -- 2: call F152()
      refine stepS _ rfl (by kernel_rfl) (fun K hK => ?_); go_simp
      refine ⟨?_, ?_⟩
      · intro wk hk hg hu; go_simp; refine upon_enter ((k7.out _).mono ?_); rintro e w' ⟨rfl, hb⟩; exact ⟨_, rfl, left_V (p := fun u => u = .agg (W4 E18)) rfl (hb) rfl⟩
      rintro ⟨v2, lo2, hi2⟩ - - (rfl : v2 = _)
      refine hK _ _ ?_; clear hK K
      -- 3: call F147(t71, t72, t73)
      refine stepS _ rfl (by kernel_rfl) (fun K hK => ?_); go_simp
      refine ⟨?_, ?_⟩
      · intro wk hk hg hu; go_simp; refine upon_enter ((k8.out _).mono ?_); rintro e w' ⟨rfl, hb⟩; exact ⟨_, rfl, left_V (p := fun u => u = .tuple #[.agg (W4 q), .bool true]) rfl (hb) rfl⟩
      rintro ⟨v3, lo3, hi3⟩ - - (rfl : v3 = _)
      refine hK _ _ ?_; clear hK K
      -- 4: t74
      refine stepK rfl (by kernel_rfl) (fun K hK => ?_); go_simp
      apply Exists.intro; apply And.intro; (focus (intro wk hk; go_simp; exact ⟨rfl, rfl⟩)); refine hK _ _ ?_; clear hK K
      -- 5: extract t70 #0
      refine stepK rfl (by kernel_rfl) (fun K hK => ?_); go_simp
      apply Exists.intro; apply And.intro; (focus (intro wk hk; go_simp; exact ⟨rfl, rfl⟩)); refine hK _ _ ?_; clear hK K
      -- 6: extract t70 #1
      refine stepK rfl (by kernel_rfl) (fun K hK => ?_); go_simp
      apply Exists.intro; apply And.intro; (focus (intro wk hk; go_simp; exact ⟨rfl, rfl⟩)); refine hK _ _ ?_; clear hK K
      -- 7: alloc<31>
      refine stepS _ rfl (by kernel_rfl) (fun K hK => ?_); go_simp
      refine ⟨?_, ?_⟩
      · intro wk hk hg hu; go_simp; exact left_A rfl rfl
      rintro ⟨v7, lo9_7, hi7⟩ hlo7 hhi7 ⟨e7, f7⟩
      replace e7 : v7 = .pointer (some ⟨lo9_7, 0, none⟩) := e7; replace f7 : hi7 = lo9_7 + 1 := f7; replace hlo7 : _ ≤ lo9_7 := hlo7; subst e7; subst f7
      refine hK _ _ ?_; clear hK K
      -- 8: store<31> *t19 = t75
      refine stepS _ rfl (by kernel_rfl) (fun K hK => ?_); go_simp
      refine ⟨?_, ?_⟩
      · exact sStoreT rfl rfl rfl rfl rfl rfl rfl (by kernel_rfl) rfl (by kernel_rfl) (by decide) aggOf_congr
      rintro ⟨v8, lo8, hi8⟩ - - (rfl : v8 = undef)
      refine hK _ _ ?_; clear hK K
      -- 9: assign t76
      refine stepK rfl (by kernel_rfl) (fun K hK => ?_); go_simp
      apply Exists.intro; apply And.intro; (focus (intro wk hk; go_simp; exact ⟨rfl, rfl⟩)); refine hK _ _ ?_; clear hK K
      refine stepN ?_
      refine hQ _ _ ?_
      intro w8 hT hG hF
      have hbw8 := hT.undrew.below
      have r10 : Row w8 lo9_7 31 ((W4 q)) := (hF 8 _ rfl rfl (by decide)).2
      replace r0 := r0.below hbw8 r0.lt
      replace r1 := r1.below hbw8 r1.lt
      replace r2 := r2.below hbw8 r2.lt
      replace r3 := r3.below hbw8 r3.lt
      replace r4 := r4.below hbw8 r4.lt
      replace r5 := r5.below hbw8 r5.lt
      replace r6 := r6.below hbw8 r6.lt
      replace r7 := r7.below hbw8 r7.lt
      replace r8 := r8.below hbw8 r8.lt
      replace r9 := r9.below hbw8 r9.lt
      replace hl := hl.trans (hbw8.mono hl.size)
      clear hT hG hF hbw8 hQ QQ L hlo7 hhi7
      go_upto_region 10 with (fail)
      let L : List Sp := [sV 13 [] [] (fun u => u = .int .i64 c1), sV 19 [] [] (fun u => u = .int .i64 c2), sV 25 [] [] (fun u => u = .int .i64 c3), sV 29 [] [] (fun u => u = .bool true)]
      refine wp_region_six0 (shs L) (look6 L) (None_) (by kernel_rfl) (by kernel_rfl) (mk_St L [] [] (by kernel_rfl) (by kernel_rfl) ⟨ok_V ⟨_, rfl⟩, ok_V ⟨_, rfl⟩, ok_V ⟨_, rfl⟩, ok_V ⟨_, rfl⟩, trivial⟩ (by simp)) ?_
      intro QQ hQ
      -- 0: t12
      refine stepK rfl (by kernel_rfl) (fun K hK => ?_); go_simp
      apply Exists.intro; apply And.intro; (focus (intro wk hk; go_simp; exact ⟨rfl, rfl⟩)); refine hK _ _ ?_; clear hK K
      -- 1: t77
      refine stepK rfl (by kernel_rfl) (fun K hK => ?_); go_simp
      apply Exists.intro; apply And.intro; (focus (intro wk hk; go_simp; exact ⟨rfl, rfl⟩)); refine hK _ _ ?_; clear hK K
      -- 2: t14
      refine stepK rfl (by kernel_rfl) (fun K hK => ?_); go_simp
      first | (refine hK _ _ ?_; clear hK K) | (apply Exists.intro; apply And.intro; (focus (intro wk hk; go_simp; exact ⟨rfl, rfl⟩)); refine hK _ _ ?_; clear hK K)
      -- 3: pick t78 ? t79 : false
      refine stepK rfl (by kernel_rfl) (fun K hK => ?_); go_simp
      apply Exists.intro; apply And.intro; (focus (intro wk hk; go_simp; exact ⟨rfl, rfl⟩)); refine hK _ _ ?_; clear hK K
      -- 4: t80
      refine stepK rfl (by kernel_rfl) (fun K hK => ?_); go_simp
      apply Exists.intro; apply And.intro; (focus (intro wk hk; go_simp; exact ⟨rfl, rfl⟩)); refine hK _ _ ?_; clear hK K
      -- 5: t16
      refine stepK rfl (by kernel_rfl) (fun K hK => ?_); go_simp
      first | (refine hK _ _ ?_; clear hK K) | (apply Exists.intro; apply And.intro; (focus (intro wk hk; go_simp; exact ⟨rfl, rfl⟩)); refine hK _ _ ?_; clear hK K)
      -- 6: pick t81 ? t82 : false
      refine stepK rfl (by kernel_rfl) (fun K hK => ?_); go_simp
      apply Exists.intro; apply And.intro; (focus (intro wk hk; go_simp; exact ⟨rfl, rfl⟩)); refine hK _ _ ?_; clear hK K
      -- 7: t83
      refine stepK rfl (by kernel_rfl) (fun K hK => ?_); go_simp
      apply Exists.intro; apply And.intro; (focus (intro wk hk; go_simp; exact ⟨rfl, rfl⟩)); refine hK _ _ ?_; clear hK K
      -- 8: t20
      refine stepK rfl (by kernel_rfl) (fun K hK => ?_); go_simp
      first | (refine hK _ _ ?_; clear hK K) | (apply Exists.intro; apply And.intro; (focus (intro wk hk; go_simp; exact ⟨rfl, rfl⟩)); refine hK _ _ ?_; clear hK K)
      -- 9: pick t84 ? t85 : false
      refine stepK rfl (by kernel_rfl) (fun K hK => ?_); go_simp
      apply Exists.intro; apply And.intro; (focus (intro wk hk; go_simp; exact ⟨rfl, rfl⟩)); refine hK _ _ ?_; clear hK K
      -- 10: t86
      refine stepK rfl (by kernel_rfl) (fun K hK => ?_); go_simp
      apply Exists.intro; apply And.intro; (focus (intro wk hk; go_simp; exact ⟨rfl, rfl⟩)); refine hK _ _ ?_; clear hK K
      -- 11: load<31> *t17
      refine stepK rfl (by kernel_rfl) (fun K hK => ?_); go_simp
      first | (refine hK _ _ ?_; clear hK K) | (apply Exists.intro; apply And.intro; (focus exact kLoad rfl rfl aggT31 r9 rfl id); refine hK _ _ ?_; clear hK K)
      -- 12: load<31> *t11
      refine stepK rfl (by kernel_rfl) (fun K hK => ?_); go_simp
      first | (refine hK _ _ ?_; clear hK K) | (apply Exists.intro; apply And.intro; (focus exact kLoad rfl rfl aggT31 r6 rfl id); refine hK _ _ ?_; clear hK K)
      -- 13: call F57(t88, t89)
      refine stepS _ rfl (by kernel_rfl) (fun K hK => ?_); go_simp
      refine ⟨?_, ?_⟩
      · intro wk hk hg hu; go_simp; refine upon_enter ((k9.out _).mono ?_); rintro e w' ⟨rfl, hb⟩; exact ⟨_, rfl, left_V (p := fun u => u = .int .i64 c1) rfl (hb) rfl⟩
      rintro ⟨v13, lo13, hi13⟩ - - (rfl : v13 = _)
      refine hK _ _ ?_; clear hK K
      -- 14: leq<3> t90, 0
      refine stepK rfl (by kernel_rfl) (fun K hK => ?_); go_simp
      first | (refine hK _ _ ?_; clear hK K) | (apply Exists.intro; apply And.intro; (focus (intro wk hk; go_simp; exact ⟨rfl, rfl⟩)); refine hK _ _ ?_; clear hK K)
      -- 15: pick t87 ? t91 : false
      refine stepK rfl (by kernel_rfl) (fun K hK => ?_); go_simp
      apply Exists.intro; apply And.intro; (focus (intro wk hk; go_simp; exact ⟨rfl, rfl⟩)); refine hK _ _ ?_; clear hK K
      -- 16: t92
      refine stepK rfl (by kernel_rfl) (fun K hK => ?_); go_simp
      apply Exists.intro; apply And.intro; (focus (intro wk hk; go_simp; exact ⟨rfl, rfl⟩)); refine hK _ _ ?_; clear hK K
      -- 17: load<31> *t11
      refine stepK rfl (by kernel_rfl) (fun K hK => ?_); go_simp
      first | (refine hK _ _ ?_; clear hK K) | (apply Exists.intro; apply And.intro; (focus exact kLoad rfl rfl aggT31 r6 rfl id); refine hK _ _ ?_; clear hK K)
      -- 18: load<31> *t19
      refine stepK rfl (by kernel_rfl) (fun K hK => ?_); go_simp
      first | (refine hK _ _ ?_; clear hK K) | (apply Exists.intro; apply And.intro; (focus exact kLoad rfl rfl aggT31 r10 rfl id); refine hK _ _ ?_; clear hK K)
      -- 19: call F57(t94, t95)
      refine stepS _ rfl (by kernel_rfl) (fun K hK => ?_); go_simp
      refine ⟨?_, ?_⟩
      · intro wk hk hg hu; go_simp; refine upon_enter ((k10.out _).mono ?_); rintro e w' ⟨rfl, hb⟩; exact ⟨_, rfl, left_V (p := fun u => u = .int .i64 c2) rfl (hb) rfl⟩
      rintro ⟨v19, lo19, hi19⟩ - - (rfl : v19 = _)
      refine hK _ _ ?_; clear hK K
      -- 20: leq<3> t96, 0
      refine stepK rfl (by kernel_rfl) (fun K hK => ?_); go_simp
      first | (refine hK _ _ ?_; clear hK K) | (apply Exists.intro; apply And.intro; (focus (intro wk hk; go_simp; exact ⟨rfl, rfl⟩)); refine hK _ _ ?_; clear hK K)
      -- 21: pick t93 ? t97 : false
      refine stepK rfl (by kernel_rfl) (fun K hK => ?_); go_simp
      apply Exists.intro; apply And.intro; (focus (intro wk hk; go_simp; exact ⟨rfl, rfl⟩)); refine hK _ _ ?_; clear hK K
      -- 22: t98
      refine stepK rfl (by kernel_rfl) (fun K hK => ?_); go_simp
      apply Exists.intro; apply And.intro; (focus (intro wk hk; go_simp; exact ⟨rfl, rfl⟩)); refine hK _ _ ?_; clear hK K
      -- 23: load<31> *t13
      refine stepK rfl (by kernel_rfl) (fun K hK => ?_); go_simp
      first | (refine hK _ _ ?_; clear hK K) | (apply Exists.intro; apply And.intro; (focus exact kLoad rfl rfl aggT31 r7 rfl id); refine hK _ _ ?_; clear hK K)
      -- 24: load<31> *t11
      refine stepK rfl (by kernel_rfl) (fun K hK => ?_); go_simp
      first | (refine hK _ _ ?_; clear hK K) | (apply Exists.intro; apply And.intro; (focus exact kLoad rfl rfl aggT31 r6 rfl id); refine hK _ _ ?_; clear hK K)
      -- 25: call F57(t100, t101)
      refine stepS _ rfl (by kernel_rfl) (fun K hK => ?_); go_simp
      refine ⟨?_, ?_⟩
      · intro wk hk hg hu; go_simp; refine upon_enter ((k11.out _).mono ?_); rintro e w' ⟨rfl, hb⟩; exact ⟨_, rfl, left_V (p := fun u => u = .int .i64 c3) rfl (hb) rfl⟩
      rintro ⟨v25, lo25, hi25⟩ - - (rfl : v25 = _)
      refine hK _ _ ?_; clear hK K
      -- 26: leq<3> t102, 0
      refine stepK rfl (by kernel_rfl) (fun K hK => ?_); go_simp
      first | (refine hK _ _ ?_; clear hK K) | (apply Exists.intro; apply And.intro; (focus (intro wk hk; go_simp; exact ⟨rfl, rfl⟩)); refine hK _ _ ?_; clear hK K)
      -- 27: pick t99 ? t103 : false
      refine stepK rfl (by kernel_rfl) (fun K hK => ?_); go_simp
      apply Exists.intro; apply And.intro; (focus (intro wk hk; go_simp; exact ⟨rfl, rfl⟩)); refine hK _ _ ?_; clear hK K
      -- 28: t104
      refine stepK rfl (by kernel_rfl) (fun K hK => ?_); go_simp
      apply Exists.intro; apply And.intro; (focus (intro wk hk; go_simp; exact ⟨rfl, rfl⟩)); refine hK _ _ ?_; clear hK K
      -- 29: call F149()
      refine stepS _ rfl (by kernel_rfl) (fun K hK => ?_); go_simp
      refine ⟨?_, ?_⟩
      · intro wk hk hg hu; go_simp; refine upon_enter ((k12.out _).mono ?_); rintro e w' ⟨rfl, hb⟩; exact ⟨_, rfl, left_V (p := fun u => u = .bool true) rfl (hb) rfl⟩
      rintro ⟨v29, lo29, hi29⟩ - - (rfl : v29 = _)
      refine hK _ _ ?_; clear hK K
      -- 30: pick t105 ? t106 : false
      refine stepK rfl (by kernel_rfl) (fun K hK => ?_); go_simp
      apply Exists.intro; apply And.intro; (focus (intro wk hk; go_simp; exact ⟨rfl, rfl⟩)); refine hK _ _ ?_; clear hK K
      -- 31: assign t107
      refine stepK rfl (by kernel_rfl) (fun K hK => ?_); go_simp
      apply Exists.intro; apply And.intro; (focus (intro wk hk; go_simp; exact ⟨rfl, rfl⟩)); refine hK _ _ ?_; clear hK K
      refine stepN ?_
      refine hQ _ _ ?_
      intro w9 hT hG hF
      have hbw9 := hT.below
      replace r0 := r0.below hbw9 r0.lt
      replace r1 := r1.below hbw9 r1.lt
      replace r2 := r2.below hbw9 r2.lt
      replace r3 := r3.below hbw9 r3.lt
      replace r4 := r4.below hbw9 r4.lt
      replace r5 := r5.below hbw9 r5.lt
      replace r6 := r6.below hbw9 r6.lt
      replace r7 := r7.below hbw9 r7.lt
      replace r8 := r8.below hbw9 r8.lt
      replace r9 := r9.below hbw9 r9.lt
      replace r10 := r10.below hbw9 r10.lt
      replace hl := hl.trans (hbw9.mono hl.size)
      clear hT hG hF hbw9 hQ QQ L 
      go_wp2_with fail
      go_ret
      exact ⟨rfl, hl⟩
    · have h0 : 0 < c0 := hc0 ▸ cmpN_gt (by omega)
      clear hxd
      have k0 := Lib.hid (show ∀ wx, Calls Try.prog 151 #[.agg (W4 d), .agg (W4 f), .agg (W4 m)] wx (Ret wx (.bool true)) from fun wx => by have h := goodFU hd hf hm wx; rw [hg] at h; exact h)
      have k1 := Lib.hid (show ∀ wx, Calls Try.prog 57 #[.agg (W4 x), .agg (W4 d)] wx (Ret wx (.int .i64 c0)) from fun wx => by have h := refcmpU hx hd wx; rw [← hc0] at h; exact h)
      have k2 := Lib.hid (show ∀ wx, Calls Try.prog 149 #[] wx (Ret wx (.bool true)) from fun wx => by have h := lives20U  wx; exact h)
      clear hg hc0
      go_enter Try.func29, Try.ntmps29
      apply wp_seq_eq
      focus
        intro J hJ
        go_wp2_with fail
        exact hJ
      refine wp_abs (Mem w [(w.heap.size, 132, W8 d f), (w.heap.size + 1, 31, W4 m), (w.heap.size + 1 + 1, 31, W4 x)]) ⟨by go_grown, ?_, ?_, ?_, trivial⟩ ?_
      · repeat (first | (refine Row.new_at ?_; simp; done) | refine Row.alloc ?_ _)
      · repeat (first | (refine Row.new_at ?_; simp; done) | refine Row.alloc ?_ _)
      · repeat (first | (refine Row.new_at ?_; simp; done) | refine Row.alloc ?_ _)
      intro w0 hM
      obtain ⟨hl, r0, r1, r2, -⟩ := hM
      go_upto_region 1 with (fail)
      let L : List Sp := [sA 4 31 [6] #[.int .u64 0, .int .u64 0, .int .u64 0, .int .u64 0], sA 5 31 [7] #[.int .u64 0, .int .u64 0, .int .u64 0, .int .u64 0], sT 6 4 31 [1] (fun g => aggOf g 1), sT 7 5 31 [3] (fun g => aggOf g 3)]
      refine wp_region_six (shs L) (look6 L) (None_) (by kernel_rfl) (by kernel_rfl) (mk_St L [] [] (by kernel_rfl) (by kernel_rfl) ⟨ok_A, ok_A, ok_T aggOf_congr, ok_T aggOf_congr, trivial⟩ (by simp)) ?_
      intro QQ hQ
      -- 0: indexAddr<132> t3[0]
      refine stepK rfl (by kernel_rfl) (fun K hK => ?_); go_simp
      apply Exists.intro; apply And.intro; (focus (intro wk hk; go_simp; exact ⟨rfl, rfl⟩)); refine hK _ _ ?_; clear hK K
      -- 1: load<31> *t21
      refine stepK rfl (by kernel_rfl) (fun K hK => ?_); go_simp
      apply Exists.intro; apply And.intro; (focus exact kLoadMid rfl rfl aggT31 r0 (W8_hi d f) rfl id); refine hK _ _ ?_; clear hK K
      -- 2: indexAddr<132> t3[1]
      refine stepK rfl (by kernel_rfl) (fun K hK => ?_); go_simp
      apply Exists.intro; apply And.intro; (focus (intro wk hk; go_simp; exact ⟨rfl, rfl⟩)); refine hK _ _ ?_; clear hK K
      -- 3: load<31> *t23
      refine stepK rfl (by kernel_rfl) (fun K hK => ?_); go_simp
      apply Exists.intro; apply And.intro; (focus exact kLoadMid rfl rfl aggT31 r0 (W8_lo d f) rfl id); refine hK _ _ ?_; clear hK K
      -- 4: alloc<31>
      refine stepS _ rfl (by kernel_rfl) (fun K hK => ?_); go_simp
      refine ⟨?_, ?_⟩
      · intro wk hk hg hu; go_simp; exact left_A rfl rfl
      rintro ⟨v4, lo1_4, hi4⟩ hlo4 hhi4 ⟨e4, f4⟩
      replace e4 : v4 = .pointer (some ⟨lo1_4, 0, none⟩) := e4; replace f4 : hi4 = lo1_4 + 1 := f4; replace hlo4 : _ ≤ lo1_4 := hlo4; subst e4; subst f4
      refine hK _ _ ?_; clear hK K
      -- 5: alloc<31>
      refine stepS _ rfl (by kernel_rfl) (fun K hK => ?_); go_simp
      refine ⟨?_, ?_⟩
      · intro wk hk hg hu; go_simp; exact left_A rfl rfl
      rintro ⟨v5, lo1_5, hi5⟩ hlo5 hhi5 ⟨e5, f5⟩
      replace e5 : v5 = .pointer (some ⟨lo1_5, 0, none⟩) := e5; replace f5 : hi5 = lo1_5 + 1 := f5; replace hlo5 : _ ≤ lo1_5 := hlo5; subst e5; subst f5
      refine hK _ _ ?_; clear hK K
      -- 6: store<31> *t7 = t22
      refine stepS _ rfl (by kernel_rfl) (fun K hK => ?_); go_simp
      refine ⟨?_, ?_⟩
      · exact sStoreT rfl rfl rfl rfl rfl rfl rfl (by kernel_rfl) rfl (by kernel_rfl) (by decide) aggOf_congr
      rintro ⟨v6, lo6, hi6⟩ - - (rfl : v6 = undef)
      refine hK _ _ ?_; clear hK K
      -- 7: store<31> *t8 = t24
      refine stepS _ rfl (by kernel_rfl) (fun K hK => ?_); go_simp
      refine ⟨?_, ?_⟩
      · exact sStoreT rfl rfl rfl rfl rfl rfl rfl (by kernel_rfl) rfl (by kernel_rfl) (by decide) aggOf_congr
      rintro ⟨v7, lo7, hi7⟩ - - (rfl : v7 = undef)
      refine hK _ _ ?_; clear hK K
      refine stepN ?_
      refine hQ _ _ ?_
      intro w1 hT hG hF
      have hbw1 := hT.undrew.below
      have r3 : Row w1 lo1_4 31 ((W4 d)) := (hF 6 _ rfl rfl (by decide)).2
      have r4 : Row w1 lo1_5 31 ((W4 f)) := (hF 7 _ rfl rfl (by decide)).2
      replace r0 := r0.below hbw1 r0.lt
      replace r1 := r1.below hbw1 r1.lt
      replace r2 := r2.below hbw1 r2.lt
      replace hl := hl.trans (hbw1.mono hl.size)
      clear hT hG hF hbw1 hQ QQ L hlo4 hhi4 hlo5 hhi5
      go_upto_region 2 with (fail)
      let L : List Sp := [sV 3 [] [] (fun u => u = .bool true), sV 8 [] [] (fun u => u = .int .i64 c0)]
      refine wp_region_six0 (shs L) (look6 L) (None_) (by kernel_rfl) (by kernel_rfl) (mk_St L [] [] (by kernel_rfl) (by kernel_rfl) ⟨ok_V ⟨_, rfl⟩, ok_V ⟨_, rfl⟩, trivial⟩ (by simp)) ?_
      intro QQ hQ
      -- 0: load<31> *t7
      refine stepK rfl (by kernel_rfl) (fun K hK => ?_); go_simp
      apply Exists.intro; apply And.intro; (focus exact kLoad rfl rfl aggT31 r3 rfl id); refine hK _ _ ?_; clear hK K
      -- 1: load<31> *t8
      refine stepK rfl (by kernel_rfl) (fun K hK => ?_); go_simp
      apply Exists.intro; apply And.intro; (focus exact kLoad rfl rfl aggT31 r4 rfl id); refine hK _ _ ?_; clear hK K
      -- 2: load<31> *t4
      refine stepK rfl (by kernel_rfl) (fun K hK => ?_); go_simp
      apply Exists.intro; apply And.intro; (focus exact kLoad rfl rfl aggT31 r1 rfl id); refine hK _ _ ?_; clear hK K
      -- 3: call F151(t25, t26, t27)
      refine stepS _ rfl (by kernel_rfl) (fun K hK => ?_); go_simp
      refine ⟨?_, ?_⟩
      · intro wk hk hg hu; go_simp; refine upon_enter ((k0.out _).mono ?_); rintro e w' ⟨rfl, hb⟩; exact ⟨_, rfl, left_V (p := fun u => u = .bool true) rfl (hb) rfl⟩
      rintro ⟨v3, lo3, hi3⟩ - - (rfl : v3 = _)
      refine hK _ _ ?_; clear hK K
      -- 4: not<4> t28
      refine stepK rfl (by kernel_rfl) (fun K hK => ?_); go_simp
      apply Exists.intro; apply And.intro; (focus (intro wk hk; go_simp; exact ⟨rfl, rfl⟩)); refine hK _ _ ?_; clear hK K
      -- 5: t29
      refine stepK rfl (by kernel_rfl) (fun K hK => ?_); go_simp
      apply Exists.intro; apply And.intro; (focus (intro wk hk; go_simp; exact ⟨rfl, rfl⟩)); refine hK _ _ ?_; clear hK K
      -- 6: load<31> *t5
      refine stepK rfl (by kernel_rfl) (fun K hK => ?_); go_simp
      first | (refine hK _ _ ?_; clear hK K) | (apply Exists.intro; apply And.intro; (focus exact kLoad rfl rfl aggT31 r2 rfl id); refine hK _ _ ?_; clear hK K)
      -- 7: load<31> *t7
      refine stepK rfl (by kernel_rfl) (fun K hK => ?_); go_simp
      first | (refine hK _ _ ?_; clear hK K) | (apply Exists.intro; apply And.intro; (focus exact kLoad rfl rfl aggT31 r3 rfl id); refine hK _ _ ?_; clear hK K)
      -- 8: call F57(t31, t32)
      refine stepS _ rfl (by kernel_rfl) (fun K hK => ?_); go_simp
      refine ⟨?_, ?_⟩
      · intro wk hk hg hu; go_simp; refine upon_enter ((k1.out _).mono ?_); rintro e w' ⟨rfl, hb⟩; exact ⟨_, rfl, left_V (p := fun u => u = .int .i64 c0) rfl (hb) rfl⟩
      rintro ⟨v8, lo8, hi8⟩ - - (rfl : v8 = _)
      refine hK _ _ ?_; clear hK K
      -- 9: gtr<3> t33, 0
      refine stepK rfl (by kernel_rfl) (fun K hK => ?_); go_simp
      first | (refine hK _ _ ?_; clear hK K) | (apply Exists.intro; apply And.intro; (focus (intro wk hk; go_simp; exact ⟨rfl, rfl⟩)); refine hK _ _ ?_; clear hK K)
      -- 10: pick t30 ? true : t34
      refine stepK rfl (by kernel_rfl) (fun K hK => ?_); go_simp
      apply Exists.intro; apply And.intro; (focus (intro wk hk; go_simp; exact ⟨rfl, rfl⟩)); refine hK _ _ ?_; clear hK K
      refine stepN ?_
      refine hQ _ _ ?_
      intro w2 hT hG hF
      have hbw2 := hT.below
      replace r0 := r0.below hbw2 r0.lt
      replace r1 := r1.below hbw2 r1.lt
      replace r2 := r2.below hbw2 r2.lt
      replace r3 := r3.below hbw2 r3.lt
      replace r4 := r4.below hbw2 r4.lt
      replace hl := hl.trans (hbw2.mono hl.size)
      clear hT hG hF hbw2 hQ QQ L 
      go_upto_region 3 with (fail)
      let L : List Sp := [sV 0 [] [] (fun u => u = .bool true)]
      refine wp_region_six0 (shs L) (look6 L) (None_) (by kernel_rfl) (by kernel_rfl) (mk_St L [] [] (by kernel_rfl) (by kernel_rfl) ⟨ok_V ⟨_, rfl⟩, trivial⟩ (by simp)) ?_
      intro QQ hQ
      -- 0: call F149()
      refine stepS _ rfl (by kernel_rfl) (fun K hK => ?_); go_simp
      refine ⟨?_, ?_⟩
      · intro wk hk hg hu; go_simp; refine upon_enter ((k2.out _).mono ?_); rintro e w' ⟨rfl, hb⟩; exact ⟨_, rfl, left_V (p := fun u => u = .bool true) rfl (hb) rfl⟩
      rintro ⟨v0, lo0, hi0⟩ - - (rfl : v0 = _)
      refine hK _ _ ?_; clear hK K
      -- 1: assign t36
      refine stepK rfl (by kernel_rfl) (fun K hK => ?_); go_simp
      apply Exists.intro; apply And.intro; (focus (intro wk hk; go_simp; exact ⟨rfl, rfl⟩)); refine hK _ _ ?_; clear hK K
      refine stepN ?_
      refine hQ _ _ ?_
      intro w3 hT hG hF
      have hbw3 := hT.below
      replace r0 := r0.below hbw3 r0.lt
      replace r1 := r1.below hbw3 r1.lt
      replace r2 := r2.below hbw3 r2.lt
      replace r3 := r3.below hbw3 r3.lt
      replace r4 := r4.below hbw3 r4.lt
      replace hl := hl.trans (hbw3.mono hl.size)
      clear hT hG hF hbw3 hQ QQ L 
      go_wp2_with fail
      go_ret
      exact ⟨rfl, hl⟩
end Go.Proofs.Ytpdenhmkpiafiaa
