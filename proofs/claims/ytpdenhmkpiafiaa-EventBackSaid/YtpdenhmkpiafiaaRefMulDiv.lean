/-
  tallageref01.Mul (54), Div (56).
-/
import Derived.Test.YtpdenhmkpiafiaaRefArith
import Derived.Test.YtpdenhmkpiafiaaRefTimes
import Derived.Test.YtpdenhmkpiafiaaRefQuo
namespace Go.Proofs.Ytpdenhmkpiafiaa
open Go Go.RowKit K6 Ref

theorem MM_mul {a b : Nat} (ha : a < M) (hb : b < M) : a * b < M * M := Nat.lt_of_le_of_lt (Nat.mul_le_mul_left a (Nat.le_of_lt hb)) (Nat.mul_lt_mul_of_pos_right ha M_pos)
theorem len7 {n : Nat} (h : n < M * M) : (digs n).length < 10000000 := Nat.lt_of_le_of_lt (digs_len (k := 16) (by rw [M_B] at h; rw [show B ^ 16 = B ^ 8 * B ^ 8 by rw [← Nat.pow_add]]; exact h)) (by omega)
/-- the product's digits -/
theorem times2 {a b : Nat} (ha : a < M) (hb : b < M) : ∀ wx v u, Sl wx v (digs a) → Sl wx u (digs b) → Calls Try.prog 167 #[v, u] wx fun e w' => ∃ r, e = .returned r ∧ Sl w' r (digs (a * b)) ∧ Below wx.heap.size wx w' := fun wx v u s1 s2 => by
  have := times_any v u _ _ wx (dig_digs a) (dig_digs b) s1 s2 (by have := len7 (M_MM ha); omega) (by have := len7 (M_MM hb); omega)
  rw [val_digs, val_digs] at this
  exact this
theorem quorem2 {a b : Nat} (ha : a < M * M) (hb : b < M) (h0 : b ≠ 0) : ∀ wx v u, Sl wx v (digs a) → Sl wx u (digs b) → Calls Try.prog 171 #[v, u] wx fun e w' => ∃ q r, e = .returned (.tuple #[q, r]) ∧ Sl w' q (digs (a / b)) ∧ Sl w' r (digs (a % b)) ∧ Below wx.heap.size wx w' := fun wx v u s1 s2 => by
  have := quorem_any v u _ _ wx (dig_digs a) (dig_digs b) s1 s2 (len7 ha) (len7 (M_MM hb)) (by rw [val_digs]; exact h0)
  rw [val_digs, val_digs] at this
  exact this
theorem tou2 {a : Nat} (ha : a < M * M) : ∀ wx v, Sl wx v (digs a) → Calls Try.prog 172 #[v] wx (Ret wx (.tuple #[.agg (W4 (capN a)), .bool (decide (a < M))])) := fun wx v s1 => by
  have := tou_any v _ wx (dig_digs a) s1 (len9 ha)
  rw [val_digs] at this
  exact this
theorem tou3 {a : Nat} (ha : a < M) : ∀ wx v, Sl wx v (digs a) → Calls Try.prog 172 #[v] wx (Ret wx (.tuple #[.agg (W4 a), .bool true])) := fun wx v s1 => by
  have := tou2 (M_MM ha) wx v s1
  rw [show capN a = a from if_pos ha, decide_eq_true ha] at this
  exact this
theorem told2 {a : Nat} (ha : a < M * M) : ∀ wx v, Sl wx v (digs a) → Calls Try.prog 162 #[v] wx (Ret wx (.tuple #[.agg (W4 (capN a)), .bool (decide (a < M))])) := fun wx v s1 => by
  have := told_any v _ wx (dig_digs a) s1 (len9 ha)
  rw [val_digs] at this
  exact this
theorem qr_some {w : World} : ∃ x : GV, w.heap.size ≤ x.lo ∧ x.lo ≤ x.hi ∧ ∃ q r, x.v = .tuple #[q, r] := ⟨⟨.tuple #[undef, undef], w.heap.size, w.heap.size⟩, Nat.le_refl _, Nat.le_refl _, undef, undef, rfl⟩
set_option maxRecDepth 100000 in
set_option maxHeartbeats 8000000 in
theorem refmulU {a b : Nat} (ha : a < M) (hb : b < M) (w : World) : Calls Try.prog 54 #[.agg (W4 a), .agg (W4 b)] w (Ret w (.tuple #[.agg (W4 (mulN a b)), .bool (mulB a b)])) := by
  have h1 := Lib.hid (times2 ha hb)
  have h2 := told2 (MM_mul ha hb)
  have o1 := Lib.hid fun wx => of164 a ha wx
  have o2 := Lib.hid fun wx => of164 b hb wx
  replace h2 := Lib.hid h2
  rw [show mulN a b = capN (a * b) from rfl, show mulB a b = decide (a * b < M) from rfl]
  obtain ⟨q, hq⟩ : ∃ q, capN (a * b) = q := ⟨_, rfl⟩
  obtain ⟨ok, hok⟩ : ∃ ok, decide (a * b < M) = ok := ⟨_, rfl⟩
  obtain ⟨p, hp⟩ : ∃ p, a * b = p := ⟨_, rfl⟩
  rw [hq, hok] at h2 ⊢
  rw [hp] at h1 h2
  clear hq hok hp
  go_enter Try.func54, Try.ntmps54
  apply wp_seq_eq
  focus
    intro J hJ
    go_wp2_with fail
    exact hJ
  refine wp_abs (Mem w [(w.heap.size, 31, W4 a), (w.heap.size + 1, 31, W4 b), (w.heap.size + 1 + 1, 31, arr .u64 (fun _ => 0) 4)]) ⟨by go_grown, ?_, ?_, ?_, trivial⟩ ?_
  · repeat (first | (refine Row.new_at ?_; simp; done) | refine Row.alloc ?_ _)
  · repeat (first | (refine Row.new_at ?_; simp; done) | refine Row.alloc ?_ _)
  · repeat (first | (refine Row.new_at ?_; simp; done) | refine Row.alloc ?_ _)
  intro w0 hM
  obtain ⟨hl, ra, rb, rr, -⟩ := hM
  go_upto_region 1 with (fail)
  let L : List Sp := [sF 1 [] [] [8] (fun _ => True) (fun x w => Sl w x.v (digs (a))), sF 3 [] [] [8] (fun _ => True) (fun x w => Sl w x.v (digs (b))), sF 4 [1, 3] [1, 3] [8] (fun _ => True) (fun x w => Sl w x.v (digs (p))), sV 5 [4, 1, 3] [4] (fun u => u = .tuple #[.agg (W4 q), .bool ok]), sO 8 (w.heap.size + 1 + 1) 31 [6] (fun g => aggOf g 6)]
  refine wp_region_six (shs L) (look6 L) (fun c => c = w.heap.size + 1 + 1) (by kernel_rfl) (by kernel_rfl) (mk_St L [8] [8] (by kernel_rfl) (by kernel_rfl) ⟨ok_F (any_some _) (fun _ _ _ h hb => Sl.below h hb), ok_F (any_some _) (fun _ _ _ h hb => Sl.below h hb), ok_F (any_some _) (fun _ _ _ h hb => Sl.below h hb), ok_V ⟨_, rfl⟩, ok_O aggOf_congr rr.lt (rfl), trivial⟩ (by simp)) ?_
  intro QQ hQ
  -- 0: load<31> *t2
  refine stepK rfl (by kernel_rfl) (fun K hK => ?_); go_simp
  apply Exists.intro; apply And.intro; (focus exact kLoad rfl rfl aggT31 ra rfl id); refine hK _ _ ?_; clear hK K
  -- 1: call F164(t6)
  refine stepS _ rfl (by kernel_rfl) (fun K hK => ?_); go_simp
  refine ⟨?_, ?_⟩
  · intro wk hk hg hu; go_simp; refine upon_enter ((o1.out _).mono ?_); rintro e w' ⟨v, rfl, hv, hb⟩; exact ⟨_, rfl, left_F rfl rfl hb trivial hv⟩
  rintro ⟨v1, lo1, hi1⟩ - - -
  refine hK _ _ ?_; clear hK K
  -- 2: load<31> *t3
  refine stepK rfl (by kernel_rfl) (fun K hK => ?_); go_simp
  apply Exists.intro; apply And.intro; (focus exact kLoad rfl rfl aggT31 rb rfl id); refine hK _ _ ?_; clear hK K
  -- 3: call F164(t8)
  refine stepS _ rfl (by kernel_rfl) (fun K hK => ?_); go_simp
  refine ⟨?_, ?_⟩
  · intro wk hk hg hu; go_simp; refine upon_enter ((o2.out _).mono ?_); rintro e w' ⟨v, rfl, hv, hb⟩; exact ⟨_, rfl, left_F rfl rfl hb trivial hv⟩
  rintro ⟨v3, lo3, hi3⟩ - - -
  refine hK _ _ ?_; clear hK K
  -- 4: call F167(t7, t9)
  refine stepS _ rfl (by kernel_rfl) (fun K hK => ?_); go_simp
  refine ⟨?_, ?_⟩
  · intro wk hk hg hu; have u1 := hu 1 (show 1 ∈ [1, 3] by decide); have u3 := hu 3 (show 3 ∈ [1, 3] by decide); have s1 : Sl wk v1 (digs a) := u1; have s3 : Sl wk v3 (digs b) := u3; go_simp; refine upon_enter ((h1.out _ v1 v3 s1 s3).mono ?_); rintro e w' ⟨v, rfl, hv, hb⟩; exact ⟨_, rfl, left_F rfl rfl hb trivial hv⟩
  rintro ⟨v4, lo4, hi4⟩ - - -
  refine hK _ _ ?_; clear hK K
  -- 5: call F162(t10)
  refine stepS _ rfl (by kernel_rfl) (fun K hK => ?_); go_simp
  refine ⟨?_, ?_⟩
  · intro wk hk hg hu; have u4 := hu 4 (show 4 ∈ [4] by decide); have s4 : Sl wk v4 (digs p) := u4; go_simp; refine upon_enter ((h2.out _ v4 s4).mono ?_); rintro e w' ⟨rfl, hb⟩; exact ⟨_, rfl, left_V (p := fun u => u = .tuple #[.agg (W4 q), .bool ok]) rfl (hb) rfl⟩
  rintro ⟨v5, lo5, hi5⟩ - - (rfl : v5 = _)
  refine hK _ _ ?_; clear hK K
  -- 6: extract t11 #0
  refine stepK rfl (by kernel_rfl) (fun K hK => ?_); go_simp
  apply Exists.intro; apply And.intro; (focus (intro wk hk; go_simp; exact ⟨rfl, rfl⟩)); refine hK _ _ ?_; clear hK K
  -- 7: extract t11 #1
  refine stepK rfl (by kernel_rfl) (fun K hK => ?_); go_simp
  apply Exists.intro; apply And.intro; (focus (intro wk hk; go_simp; exact ⟨rfl, rfl⟩)); refine hK _ _ ?_; clear hK K
  -- 8: store<31> *t4 = t12
  refine stepS _ rfl (by kernel_rfl) (fun K hK => ?_); go_simp
  refine ⟨?_, ?_⟩
  · exact sStoreO rfl rfl rfl rfl rfl rfl rr id (by kernel_rfl) rfl (by kernel_rfl) (by decide) aggOf_congr
  rintro ⟨v8, lo8, hi8⟩ - - (rfl : v8 = undef)
  refine hK _ _ ?_; clear hK K
  -- 9: assign t13
  refine stepKz rfl (fun K hK => ?_); go_simp
  apply Exists.intro; apply And.intro; (focus (intro wk hk; go_simp; exact ⟨rfl, rfl⟩)); refine hK _ _ ?_; clear hK K
  refine stepN ?_
  refine hQ _ _ ?_
  intro w9 hT hG hF
  have hT' := hT.undrew
  have x2 : Row w9 (w.heap.size + 1 + 1) 31 (W4 q) := hF 8 _ rfl rfl (by decide)
  have hl9 : Below w.heap.size w w9 := hl.trans (hT'.below_of hl.size (by intro c hc; omega))
  clear hT hT' hG hF hQ QQ L
  go_wp2_with fail
  refine bodyPost_ret (results_ct rfl aggT31 rfl x2 rfl) rfl ?_
  exact ⟨rfl, hl9⟩
set_option maxRecDepth 100000 in
set_option maxHeartbeats 16000000 in
theorem refdivU {a b : Nat} (ha : a < M) (hb : b < M) (w : World) : Calls Try.prog 56 #[.agg (W4 a), .agg (W4 b)] w (Ret w (.tuple #[.agg (W4 (a / b)), .agg (W4 (divR a b)), .bool (decide (b ≠ 0))])) := by
  by_cases h0 : b = 0
  · have q0 : ∀ wx, (Op.equalIn 10000 31 (.agg (W4 b)) (.agg #[.int .u64 0, .int .u64 0, .int .u64 0, .int .u64 0])).run Try.prog wx = .ok true wx := fun wx => by rw [eqU0 hb, decide_eq_true h0]
    rw [show a / b = 0 by rw [h0, Nat.div_zero], show divR a b = 0 from if_pos h0, show decide (b ≠ 0) = false from decide_eq_false (fun h => h h0)]
    clear h0
    go_enter Try.func56, Try.ntmps56
    apply wp_seq_eq
    focus
      intro J hJ
      go_wp2_with fail
      exact hJ
    refine wp_abs (Mem w [(w.heap.size, 31, W4 a), (w.heap.size + 1, 31, W4 b), (w.heap.size + 1 + 1, 31, arr .u64 (fun _ => 0) 4), (w.heap.size + 1 + 1 + 1, 31, arr .u64 (fun _ => 0) 4)]) ⟨by go_grown, ?_, ?_, ?_, ?_, trivial⟩ ?_
    · repeat (first | (refine Row.new_at ?_; simp; done) | refine Row.alloc ?_ _)
    · repeat (first | (refine Row.new_at ?_; simp; done) | refine Row.alloc ?_ _)
    · repeat (first | (refine Row.new_at ?_; simp; done) | refine Row.alloc ?_ _)
    · repeat (first | (refine Row.new_at ?_; simp; done) | refine Row.alloc ?_ _)
    intro w0 hM
    obtain ⟨hl, ra, rb, rr0, rr1, -⟩ := hM
    go_upto_region 1 with (fail)
    let L : List Sp := []
    refine wp_region_six0 (shs L) (look6 L) (None_) (by kernel_rfl) (by kernel_rfl) (mk_St L [] [] (by kernel_rfl) (by kernel_rfl) trivial (by simp)) ?_
    intro QQ hQ
    -- 0: load<31> *t3
    refine stepK rfl (by kernel_rfl) (fun K hK => ?_); go_simp
    apply Exists.intro; apply And.intro; (focus exact kLoad rfl rfl aggT31 rb rfl id); refine hK _ _ ?_; clear hK K
    -- 1: build<31> 
    refine stepK rfl (by kernel_rfl) (fun K hK => ?_); go_simp
    apply Exists.intro; apply And.intro; (focus (intro wk hk; go_simp; exact ⟨rfl, rfl⟩)); refine hK _ _ ?_; clear hK K
    -- 2: eql<31> t13, t14
    refine stepK rfl (by kernel_rfl) (fun K hK => ?_); go_simp
    apply Exists.intro; apply And.intro; (focus (intro wk hk; go_simp; exact ⟨rfl, rfl⟩)); refine hK _ _ ?_; clear hK K
    refine stepN ?_
    refine hQ _ _ ?_
    intro w1 hT hG hF
    have hbw1 := hT.below
    replace rr0 := rr0.below hbw1 rr0.lt
    replace rr1 := rr1.below hbw1 rr1.lt
    replace hl := hl.trans (hbw1.mono hl.size)
    clear hT hG hF hbw1 hQ QQ L 
    go_upto_region 2 with (fail)
    let L : List Sp := [sO 2 (w.heap.size + 1 + 1) 31 [0] (fun g => aggOf g 0), sO 3 (w.heap.size + 1 + 1 + 1) 31 [1] (fun g => aggOf g 1)]
    refine wp_region_six0 (shs L) (look6 L) (fun c => c = w.heap.size + 1 + 1 ∨ c = w.heap.size + 1 + 1 + 1) (by kernel_rfl) (by kernel_rfl) (mk_St L [2, 3] [2, 3] (by kernel_rfl) (by kernel_rfl) ⟨ok_O aggOf_congr rr0.lt (Or.inl rfl), ok_O aggOf_congr rr1.lt (Or.inr rfl), trivial⟩ (by intro i hi j hj hij b hb hb'; simp only [List.mem_cons, List.not_mem_nil, or_false] at hi hj; rcases hi with rfl | rfl <;> rcases hj with rfl | rfl <;> first | exact absurd rfl hij | (have h1 : b = _ := hb; have h2 : b = _ := hb'; omega))) ?_
    intro QQ hQ
    -- 0: build<31> 
    refine stepK rfl (by kernel_rfl) (fun K hK => ?_); go_simp
    apply Exists.intro; apply And.intro; (focus (intro wk hk; go_simp; exact ⟨rfl, rfl⟩)); refine hK _ _ ?_; clear hK K
    -- 1: build<31> 
    refine stepKz rfl (fun K hK => ?_); go_simp
    apply Exists.intro; apply And.intro; (focus (intro wk hk; go_simp; exact ⟨rfl, rfl⟩)); refine hK _ _ ?_; clear hK K
    -- 2: store<31> *t4 = t16
    refine stepS _ rfl (by kernel_rfl) (fun K hK => ?_); go_simp
    refine ⟨?_, ?_⟩
    · exact sStoreO rfl rfl rfl rfl rfl rfl rr0 id (by kernel_rfl) rfl (by kernel_rfl) (by decide) aggOf_congr
    rintro ⟨v2, lo2, hi2⟩ - - (rfl : v2 = undef)
    refine hK _ _ ?_; clear hK K
    -- 3: store<31> *t5 = t17
    refine stepSx _ [2] (fun c => c = w.heap.size + 1 + 1) rfl (by kernel_rfl) (by intro i hi b hb; simp only [List.mem_cons, List.not_mem_nil, or_false] at hi; subst hi; exact hb) (fun K hK => ?_); go_simp
    refine ⟨?_, ?_⟩
    · exact sStoreO rfl rfl rfl rfl rfl rfl rr1 (by omega) (by kernel_rfl) rfl (by kernel_rfl) (by decide) aggOf_congr
    rintro ⟨v3, lo3, hi3⟩ - - (rfl : v3 = undef)
    refine hK _ _ ?_; clear hK K
    -- 4: assign false
    refine stepKz rfl (fun K hK => ?_); go_simp
    apply Exists.intro; apply And.intro; (focus (intro wk hk; go_simp; exact ⟨rfl, rfl⟩)); refine hK _ _ ?_; clear hK K
    refine stepN ?_
    refine hQ _ _ ?_
    intro w9 hT hG hF
    have hT' := hT
    have x2 : Row w9 (w.heap.size + 1 + 1) 31 (W4 0) := Row.congr (show Row w9 (w.heap.size + 1 + 1) 31 _ from hF 2 _ rfl rfl (by decide)) W4_zero
    have x3 : Row w9 (w.heap.size + 1 + 1 + 1) 31 (W4 0) := Row.congr (show Row w9 (w.heap.size + 1 + 1 + 1) 31 _ from hF 3 _ rfl rfl (by decide)) W4_zero
    have hl9 : Below w.heap.size w w9 := hl.trans (hT'.below_of hl.size (by intro c hc; omega))
    clear hT hT' hG hF hQ QQ L
    go_wp2_with fail
    refine bodyPost_ret (results_cct rfl aggT31 aggT31 rfl rfl x2 x3 rfl rfl) rfl ?_
    exact ⟨rfl, hl9⟩
  · have q0 : ∀ wx, (Op.equalIn 10000 31 (.agg (W4 b)) (.agg #[.int .u64 0, .int .u64 0, .int .u64 0, .int .u64 0])).run Try.prog wx = .ok false wx := fun wx => by rw [eqU0 hb, decide_eq_false h0]
    have hqr := Lib.hid (quorem2 (M_MM ha) hb h0)
    have hql : a / b < M := Nat.lt_of_le_of_lt (Nat.div_le_self a b) ha
    have hrl : a % b < M := Nat.lt_of_le_of_lt (Nat.mod_le a b) ha
    have tq := Lib.hid (tou3 hql)
    have tr := Lib.hid (tou3 hrl)
    have o1 := Lib.hid fun wx => of164 a ha wx
    have o2 := Lib.hid fun wx => of164 b hb wx
    rw [show divR a b = a % b from if_neg h0, show decide (b ≠ 0) = true from decide_eq_true h0]
    clear h0
    obtain ⟨q, hq⟩ : ∃ q, a / b = q := ⟨_, rfl⟩
    obtain ⟨r, hr⟩ : ∃ r, a % b = r := ⟨_, rfl⟩
    rw [hq] at hqr tq hql
    rw [hr] at hqr tr hrl
    rw [hq, hr]
    clear hq hr
    go_enter Try.func56, Try.ntmps56
    apply wp_seq_eq
    focus
      intro J hJ
      go_wp2_with fail
      exact hJ
    refine wp_abs (Mem w [(w.heap.size, 31, W4 a), (w.heap.size + 1, 31, W4 b), (w.heap.size + 1 + 1, 31, arr .u64 (fun _ => 0) 4), (w.heap.size + 1 + 1 + 1, 31, arr .u64 (fun _ => 0) 4)]) ⟨by go_grown, ?_, ?_, ?_, ?_, trivial⟩ ?_
    · repeat (first | (refine Row.new_at ?_; simp; done) | refine Row.alloc ?_ _)
    · repeat (first | (refine Row.new_at ?_; simp; done) | refine Row.alloc ?_ _)
    · repeat (first | (refine Row.new_at ?_; simp; done) | refine Row.alloc ?_ _)
    · repeat (first | (refine Row.new_at ?_; simp; done) | refine Row.alloc ?_ _)
    intro w0 hM
    obtain ⟨hl, ra, rb, rr0, rr1, -⟩ := hM
    go_upto_region 1 with (fail)
    let L : List Sp := []
    refine wp_region_six0 (shs L) (look6 L) (None_) (by kernel_rfl) (by kernel_rfl) (mk_St L [] [] (by kernel_rfl) (by kernel_rfl) trivial (by simp)) ?_
    intro QQ hQ
    -- 0: load<31> *t3
    refine stepK rfl (by kernel_rfl) (fun K hK => ?_); go_simp
    apply Exists.intro; apply And.intro; (focus exact kLoad rfl rfl aggT31 rb rfl id); refine hK _ _ ?_; clear hK K
    -- 1: build<31> 
    refine stepK rfl (by kernel_rfl) (fun K hK => ?_); go_simp
    apply Exists.intro; apply And.intro; (focus (intro wk hk; go_simp; exact ⟨rfl, rfl⟩)); refine hK _ _ ?_; clear hK K
    -- 2: eql<31> t13, t14
    refine stepK rfl (by kernel_rfl) (fun K hK => ?_); go_simp
    apply Exists.intro; apply And.intro; (focus (intro wk hk; go_simp; exact ⟨rfl, rfl⟩)); refine hK _ _ ?_; clear hK K
    refine stepN ?_
    refine hQ _ _ ?_
    intro w1 hT hG hF
    have hbw1 := hT.below
    replace ra := ra.below hbw1 ra.lt
    replace rb := rb.below hbw1 rb.lt
    replace rr0 := rr0.below hbw1 rr0.lt
    replace rr1 := rr1.below hbw1 rr1.lt
    replace hl := hl.trans (hbw1.mono hl.size)
    clear hT hG hF hbw1 hQ QQ L 
    go_upto_region 3 with (fail)
    let L : List Sp := [sF 1 [] [] [] (fun _ => True) (fun x w => Sl w x.v (digs (a))), sF 3 [] [] [] (fun _ => True) (fun x w => Sl w x.v (digs (b))), sF 4 [1, 3] [1, 3] [] (fun x => ∃ y z, x.v = .tuple #[y, z]) (fun x w => ∃ y z, x.v = .tuple #[y, z] ∧ Sl w y (digs q) ∧ Sl w z (digs r))]
    refine wp_region_six (shs L) (look6 L) (None_) (by kernel_rfl) (by kernel_rfl) (mk_St L [] [] (by kernel_rfl) (by kernel_rfl) ⟨ok_F (any_some _) (fun _ _ _ h hb => Sl.below h hb), ok_F (any_some _) (fun _ _ _ h hb => Sl.below h hb), ok_F qr_some (fun _ _ _ h hb => let ⟨y, z, e, s, t⟩ := h; ⟨y, z, e, Sl.below s hb, Sl.below t hb⟩), trivial⟩ (by simp)) ?_
    intro QQ hQ
    -- 0: load<31> *t2
    refine stepK rfl (by kernel_rfl) (fun K hK => ?_); go_simp
    apply Exists.intro; apply And.intro; (focus exact kLoad rfl rfl aggT31 ra rfl id); refine hK _ _ ?_; clear hK K
    -- 1: call F164(t19)
    refine stepS _ rfl (by kernel_rfl) (fun K hK => ?_); go_simp
    refine ⟨?_, ?_⟩
    · intro wk hk hg hu; go_simp; refine upon_enter ((o1.out _).mono ?_); rintro e w' ⟨v, rfl, hv, hb⟩; exact ⟨_, rfl, left_F rfl rfl hb trivial hv⟩
    rintro ⟨v1, lo1, hi1⟩ - - -
    refine hK _ _ ?_; clear hK K
    -- 2: load<31> *t3
    refine stepK rfl (by kernel_rfl) (fun K hK => ?_); go_simp
    apply Exists.intro; apply And.intro; (focus exact kLoad rfl rfl aggT31 rb rfl id); refine hK _ _ ?_; clear hK K
    -- 3: call F164(t21)
    refine stepS _ rfl (by kernel_rfl) (fun K hK => ?_); go_simp
    refine ⟨?_, ?_⟩
    · intro wk hk hg hu; go_simp; refine upon_enter ((o2.out _).mono ?_); rintro e w' ⟨v, rfl, hv, hb⟩; exact ⟨_, rfl, left_F rfl rfl hb trivial hv⟩
    rintro ⟨v3, lo3, hi3⟩ - - -
    refine hK _ _ ?_; clear hK K
    -- 4: call F171(t20, t22)
    refine stepS _ rfl (by kernel_rfl) (fun K hK => ?_); go_simp
    refine ⟨?_, ?_⟩
    · intro wk hk hg hu; have u1 := hu 1 (show 1 ∈ [1, 3] by decide); have u3 := hu 3 (show 3 ∈ [1, 3] by decide); have s1 : Sl wk v1 (digs a) := u1; have s3 : Sl wk v3 (digs b) := u3; go_simp; refine upon_enter ((hqr.out _ v1 v3 s1 s3).mono ?_); rintro e w' ⟨y, z, rfl, hy, hz, hb⟩; exact ⟨_, rfl, left_F rfl rfl hb ⟨_, _, rfl⟩ ⟨_, _, rfl, hy, hz⟩⟩
    rintro ⟨v4, lo4, hi4⟩ - - ⟨y4, z4, (rfl : v4 = _)⟩
    refine hK _ _ ?_; clear hK K
    -- 5: t23
    refine stepK rfl (by kernel_rfl) (fun K hK => ?_); go_simp
    apply Exists.intro; apply And.intro; (focus (intro wk hk; go_simp; exact ⟨rfl, rfl⟩)); refine hK _ _ ?_; clear hK K
    -- 6: extract t18 #0
    refine stepK rfl (by kernel_rfl) (fun K hK => ?_); go_simp
    apply Exists.intro; apply And.intro; (focus (intro wk hk; go_simp; exact ⟨rfl, rfl⟩)); refine hK _ _ ?_; clear hK K
    -- 7: extract t18 #1
    refine stepK rfl (by kernel_rfl) (fun K hK => ?_); go_simp
    apply Exists.intro; apply And.intro; (focus (intro wk hk; go_simp; exact ⟨rfl, rfl⟩)); refine hK _ _ ?_; clear hK K
    -- 8: assign t24
    refine stepK rfl (by kernel_rfl) (fun K hK => ?_); go_simp
    apply Exists.intro; apply And.intro; (focus (intro wk hk; go_simp; exact ⟨rfl, rfl⟩)); refine hK _ _ ?_; clear hK K
    -- 9: assign t25
    refine stepK rfl (by kernel_rfl) (fun K hK => ?_); go_simp
    apply Exists.intro; apply And.intro; (focus (intro wk hk; go_simp; exact ⟨rfl, rfl⟩)); refine hK _ _ ?_; clear hK K
    refine stepN ?_
    refine hQ _ _ ?_
    intro w2 hT hG hF
    have hb2 := hT.undrew.below
    obtain ⟨y, z, ey, sy, sz⟩ : ∃ u t, (Value.tuple #[y4, z4]) = .tuple #[u, t] ∧ Sl w2 u (digs q) ∧ Sl w2 t (digs r) := hF 4 _ rfl rfl (by decide)
    cases ey
    replace rr0 := rr0.below hb2 rr0.lt
    replace rr1 := rr1.below hb2 rr1.lt
    replace hl := hl.trans (hb2.mono hl.size)
    clear hT hG hF hb2 hQ QQ L ra rb o1 o2 hqr
    go_upto_region 4 with (fail)
    refine wp_abs (fun wx => Below w.heap.size w wx ∧ Row wx (w.heap.size + 1 + 1) 31 (arr .u64 (fun _ => 0) 4) ∧ Row wx (w.heap.size + 1 + 1 + 1) 31 (arr .u64 (fun _ => 0) 4) ∧ Sl wx y4 (digs q) ∧ Sl wx z4 (digs r)) ⟨hl, rr0, rr1, sy, sz⟩ ?_
    clear hl rr0 rr1 sy sz
    rintro w3 ⟨hl, rr0, rr1, sy, sz⟩
    let L : List Sp := [sV 1 [] [] (fun u => u = .tuple #[.agg (W4 q), .bool true]), sA 5 31 [6] #[.int .u64 0, .int .u64 0, .int .u64 0, .int .u64 0], sT 6 5 31 [3] (fun g => aggOf g 3)]
    refine wp_region_six0 (shs L) (look6 L) (None_) (by kernel_rfl) (by kernel_rfl) (mk_St L [] [] (by kernel_rfl) (by kernel_rfl) ⟨ok_V ⟨_, rfl⟩, ok_A, ok_T aggOf_congr, trivial⟩ (by simp)) ?_
    intro QQ hQ
    -- 0: t7
    refine stepK rfl (by kernel_rfl) (fun K hK => ?_); go_simp
    apply Exists.intro; apply And.intro; (focus (intro wk hk; go_simp; exact ⟨rfl, rfl⟩)); refine hK _ _ ?_; clear hK K
    -- 1: call F172(t27)
    refine stepS _ rfl (by kernel_rfl) (fun K hK => ?_); go_simp
    refine ⟨?_, ?_⟩
    · intro wk hk hg hu; go_simp; refine upon_enter ((tq.out _ _ (sy.below hk.below)).mono ?_); rintro e w' ⟨rfl, hb⟩; exact ⟨_, rfl, left_V (p := fun u => u = .tuple #[.agg (W4 q), .bool true]) rfl (hb) rfl⟩
    rintro ⟨v1, lo1, hi1⟩ - - (rfl : v1 = _)
    refine hK _ _ ?_; clear hK K
    -- 2: t28
    refine stepK rfl (by kernel_rfl) (fun K hK => ?_); go_simp
    apply Exists.intro; apply And.intro; (focus (intro wk hk; go_simp; exact ⟨rfl, rfl⟩)); refine hK _ _ ?_; clear hK K
    -- 3: extract t26 #0
    refine stepK rfl (by kernel_rfl) (fun K hK => ?_); go_simp
    apply Exists.intro; apply And.intro; (focus (intro wk hk; go_simp; exact ⟨rfl, rfl⟩)); refine hK _ _ ?_; clear hK K
    -- 4: extract t26 #1
    refine stepK rfl (by kernel_rfl) (fun K hK => ?_); go_simp
    apply Exists.intro; apply And.intro; (focus (intro wk hk; go_simp; exact ⟨rfl, rfl⟩)); refine hK _ _ ?_; clear hK K
    -- 5: alloc<31>
    refine stepS _ rfl (by kernel_rfl) (fun K hK => ?_); go_simp
    refine ⟨?_, ?_⟩
    · intro wk hk hg hu; go_simp; exact left_A rfl rfl
    rintro ⟨v5, lo5, hi5⟩ hlo5 hhi5 ⟨e5, f5⟩
    replace e5 : v5 = .pointer (some ⟨lo5, 0, none⟩) := e5; replace f5 : hi5 = lo5 + 1 := f5; replace hlo5 : _ ≤ lo5 := hlo5; subst e5; subst f5
    refine hK _ _ ?_; clear hK K
    -- 6: store<31> *t9 = t29
    refine stepS _ rfl (by kernel_rfl) (fun K hK => ?_); go_simp
    refine ⟨?_, ?_⟩
    · exact sStoreT rfl rfl rfl rfl rfl rfl rfl (by kernel_rfl) rfl (by kernel_rfl) (by decide) aggOf_congr
    rintro ⟨v6, lo6, hi6⟩ - - (rfl : v6 = undef)
    refine hK _ _ ?_; clear hK K
    -- 7: assign t30
    refine stepK rfl (by kernel_rfl) (fun K hK => ?_); go_simp
    apply Exists.intro; apply And.intro; (focus (intro wk hk; go_simp; exact ⟨rfl, rfl⟩)); refine hK _ _ ?_; clear hK K
    refine stepN ?_
    refine hQ _ _ ?_
    intro w4 hT hG hF
    have hb4 := hT.below
    have n5 : w.heap.size + 1 + 1 + 1 < lo5 := Nat.lt_of_lt_of_le rr1.lt hlo5
    have r5 : Row w4 lo5 31 (W4 q) := (hF 6 _ rfl rfl (by decide)).2
    replace rr0 := rr0.below hb4 rr0.lt
    replace rr1 := rr1.below hb4 rr1.lt
    replace sz := sz.below hb4
    replace hl := hl.trans (hb4.mono hl.size)
    clear hT hG hF hb4 hQ QQ L sy hlo5 hhi5 tq
    go_upto_region 5 with (fail)
    let L : List Sp := [sV 1 [] [] (fun u => u = .tuple #[.agg (W4 r), .bool true]), sA 5 31 [6] #[.int .u64 0, .int .u64 0, .int .u64 0, .int .u64 0], sT 6 5 31 [3] (fun g => aggOf g 3)]
    refine wp_region_six0 (shs L) (look6 L) (None_) (by kernel_rfl) (by kernel_rfl) (mk_St L [] [] (by kernel_rfl) (by kernel_rfl) ⟨ok_V ⟨_, rfl⟩, ok_A, ok_T aggOf_congr, trivial⟩ (by simp)) ?_
    intro QQ hQ
    -- 0: t8
    refine stepK rfl (by kernel_rfl) (fun K hK => ?_); go_simp
    apply Exists.intro; apply And.intro; (focus (intro wk hk; go_simp; exact ⟨rfl, rfl⟩)); refine hK _ _ ?_; clear hK K
    -- 1: call F172(t32)
    refine stepS _ rfl (by kernel_rfl) (fun K hK => ?_); go_simp
    refine ⟨?_, ?_⟩
    · intro wk hk hg hu; go_simp; refine upon_enter ((tr.out _ _ (sz.below hk.below)).mono ?_); rintro e w' ⟨rfl, hb⟩; exact ⟨_, rfl, left_V (p := fun u => u = .tuple #[.agg (W4 r), .bool true]) rfl (hb) rfl⟩
    rintro ⟨v1, lo1, hi1⟩ - - (rfl : v1 = _)
    refine hK _ _ ?_; clear hK K
    -- 2: t33
    refine stepK rfl (by kernel_rfl) (fun K hK => ?_); go_simp
    apply Exists.intro; apply And.intro; (focus (intro wk hk; go_simp; exact ⟨rfl, rfl⟩)); refine hK _ _ ?_; clear hK K
    -- 3: extract t31 #0
    refine stepK rfl (by kernel_rfl) (fun K hK => ?_); go_simp
    apply Exists.intro; apply And.intro; (focus (intro wk hk; go_simp; exact ⟨rfl, rfl⟩)); refine hK _ _ ?_; clear hK K
    -- 4: extract t31 #1
    refine stepK rfl (by kernel_rfl) (fun K hK => ?_); go_simp
    apply Exists.intro; apply And.intro; (focus (intro wk hk; go_simp; exact ⟨rfl, rfl⟩)); refine hK _ _ ?_; clear hK K
    -- 5: alloc<31>
    refine stepS _ rfl (by kernel_rfl) (fun K hK => ?_); go_simp
    refine ⟨?_, ?_⟩
    · intro wk hk hg hu; go_simp; exact left_A rfl rfl
    rintro ⟨v5, lo7, hi7⟩ hlo7 hhi7 ⟨e5, f5⟩
    replace e5 : v5 = .pointer (some ⟨lo7, 0, none⟩) := e5; replace f5 : hi7 = lo7 + 1 := f5; replace hlo7 : _ ≤ lo7 := hlo7; subst e5; subst f5
    refine hK _ _ ?_; clear hK K
    -- 6: store<31> *t11 = t34
    refine stepS _ rfl (by kernel_rfl) (fun K hK => ?_); go_simp
    refine ⟨?_, ?_⟩
    · exact sStoreT rfl rfl rfl rfl rfl rfl rfl (by kernel_rfl) rfl (by kernel_rfl) (by decide) aggOf_congr
    rintro ⟨v6, lo6, hi6⟩ - - (rfl : v6 = undef)
    refine hK _ _ ?_; clear hK K
    -- 7: assign t35
    refine stepK rfl (by kernel_rfl) (fun K hK => ?_); go_simp
    apply Exists.intro; apply And.intro; (focus (intro wk hk; go_simp; exact ⟨rfl, rfl⟩)); refine hK _ _ ?_; clear hK K
    refine stepN ?_
    refine hQ _ _ ?_
    intro w5 hT hG hF
    have hb5 := hT.below
    have n7 : w.heap.size + 1 + 1 + 1 < lo7 := Nat.lt_of_lt_of_le rr1.lt hlo7
    have r7 : Row w5 lo7 31 (W4 r) := (hF 6 _ rfl rfl (by decide)).2
    replace r5 := r5.below hb5 r5.lt
    replace rr0 := rr0.below hb5 rr0.lt
    replace rr1 := rr1.below hb5 rr1.lt
    replace hl := hl.trans (hb5.mono hl.size)
    clear hT hG hF hb5 hQ QQ L sz hlo7 hhi7 tr
    go_upto_region 6 with (fail)
    let L : List Sp := [sO 2 (w.heap.size + 1 + 1) 31 [0] (fun g => aggOf g 0), sO 3 (w.heap.size + 1 + 1 + 1) 31 [1] (fun g => aggOf g 1)]
    refine wp_region_six (shs L) (look6 L) (fun c => c = w.heap.size + 1 + 1 ∨ c = w.heap.size + 1 + 1 + 1) (by kernel_rfl) (by kernel_rfl) (mk_St L [2, 3] [2, 3] (by kernel_rfl) (by kernel_rfl) ⟨ok_O aggOf_congr rr0.lt (Or.inl rfl), ok_O aggOf_congr rr1.lt (Or.inr rfl), trivial⟩ (by intro i hi j hj hij b hb hb'; simp only [List.mem_cons, List.not_mem_nil, or_false] at hi hj; rcases hi with rfl | rfl <;> rcases hj with rfl | rfl <;> first | exact absurd rfl hij | (have h1 : b = _ := hb; have h2 : b = _ := hb'; omega))) ?_
    intro QQ hQ
    -- 0: load<31> *t9
    refine stepK rfl (by kernel_rfl) (fun K hK => ?_); go_simp
    apply Exists.intro; apply And.intro; (focus exact kLoad rfl rfl aggT31 r5 rfl (by first | exact id | (intro hx; have hx' : _ = _ ∨ _ = _ := hx; omega) | (intro hx; have hx' : _ = _ := hx; omega) | omega)); refine hK _ _ ?_; clear hK K
    -- 1: load<31> *t11
    refine stepKz rfl (fun K hK => ?_); go_simp
    apply Exists.intro; apply And.intro; (focus exact kLoad rfl rfl aggT31 r7 rfl (by first | exact id | (intro hx; have hx' : _ = _ ∨ _ = _ := hx; omega) | (intro hx; have hx' : _ = _ := hx; omega) | omega)); refine hK _ _ ?_; clear hK K
    -- 2: store<31> *t4 = t36
    refine stepS _ rfl (by kernel_rfl) (fun K hK => ?_); go_simp
    refine ⟨?_, ?_⟩
    · exact sStoreO rfl rfl rfl rfl rfl rfl rr0 id (by kernel_rfl) rfl (by kernel_rfl) (by decide) aggOf_congr
    rintro ⟨v2, lo2, hi2⟩ - - (rfl : v2 = undef)
    refine hK _ _ ?_; clear hK K
    -- 3: store<31> *t5 = t37
    refine stepSx _ [2] (fun c => c = w.heap.size + 1 + 1) rfl (by kernel_rfl) (by intro i hi b hb; simp only [List.mem_cons, List.not_mem_nil, or_false] at hi; subst hi; exact hb) (fun K hK => ?_); go_simp
    refine ⟨?_, ?_⟩
    · exact sStoreO rfl rfl rfl rfl rfl rfl rr1 (by omega) (by kernel_rfl) rfl (by kernel_rfl) (by decide) aggOf_congr
    rintro ⟨v3, lo3, hi3⟩ - - (rfl : v3 = undef)
    refine hK _ _ ?_; clear hK K
    -- 4: assign true
    refine stepKz rfl (fun K hK => ?_); go_simp
    apply Exists.intro; apply And.intro; (focus (intro wk hk; go_simp; exact ⟨rfl, rfl⟩)); refine hK _ _ ?_; clear hK K
    refine stepN ?_
    refine hQ _ _ ?_
    intro w9 hT hG hF
    have hT' := hT.undrew
    have x2 : Row w9 (w.heap.size + 1 + 1) 31 (W4 q) := hF 2 _ rfl rfl (by decide)
    have x3 : Row w9 (w.heap.size + 1 + 1 + 1) 31 (W4 r) := hF 3 _ rfl rfl (by decide)
    have hl9 : Below w.heap.size w w9 := hl.trans (hT'.below_of hl.size (by intro c hc; omega))
    clear hT hT' hG hF hQ QQ L
    go_wp2_with fail
    refine bodyPost_ret (results_cct rfl aggT31 aggT31 rfl rfl x2 x3 rfl rfl) rfl ?_
    exact ⟨rfl, hl9⟩
end Go.Proofs.Ytpdenhmkpiafiaa
